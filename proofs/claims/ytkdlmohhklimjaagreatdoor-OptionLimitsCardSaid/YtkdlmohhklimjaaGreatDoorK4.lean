/-
 Models of functions, and that the abstract run tells them. Written by lift2.py.
-/
import Derived.Test.YtkdlmohhklimjaaGreatDoorKCfg
import Derived.Test.YtkdlmohhklimjaaGreatDoorK0
import Derived.Test.YtkdlmohhklimjaaGreatDoorK3
namespace Go.Av.L
open Go.Av Go.Lib
set_option maxRecDepth 10000
set_option linter.unusedVariables false
set_option linter.unusedSimpArgs false
/-! ### boulter/option.Parse -/
noncomputable def M_option_Parse_L0 (s : (List S_pattern_Rule) × (List S_pattern_Rule) × Bool × Bool × Int × Bool × Int × Int × Int × Int × Int × Int × Int × (List UInt8) × Bool × Bool × Bool × (List UInt8) × Int × (List ((List UInt8) × Bool))) : Option (((List S_pattern_Rule) × (List S_pattern_Rule) × Bool × Bool × Int × Bool × Int × Int × Int × Int × Int × Int × Int × (List UInt8) × Bool × Bool × Bool × (List UInt8) × Int × (List ((List UInt8) × Bool))) ⊕ (((List S_pattern_Rule) × (List S_pattern_Rule) × Bool × Bool × Int × Bool × Int × Int × Int × Int × Int × Int × Int × (List UInt8) × Bool × Bool × Bool × (List UInt8) × Int × (List ((List UInt8) × Bool))) ⊕ ((List S_pattern_Rule) × (List S_pattern_Rule) × Bool × Bool × Int × Bool × Int × Int × Int × Int × Int × Int × Int × (List UInt8) × Bool × Bool × Bool × (List UInt8) × Int × (List ((List UInt8) × Bool)) × Int × Int))) :=
 match s with
 | (x2, x3, x4, x5, x6, x7, x8, x9, x10, x11, x12, x13, x14, x15, x16, x17, x18, x19, x20, x21) => iteB (!(x19 == ([] : List UInt8))) (need (decide (x19.length ≤ 4294967280)) <| (M_option_reading_line_sPOOOSIK (⟨(⟨x3, x2, ([] : List S_rewrite_Expr), x4, x5, x6, x7, (⟨x8, x9⟩ : S_api_Stamp), x10, x11, x12, x13, x14⟩ : S_option_Config), (⟨x15, x16, x17, x18⟩ : S_pattern_Rule), (Lib.cut x19 ([10] : List UInt8)).2.1, IntKind.i64.wrap (x20 + (IntKind.i64.wrap ((x19.length : Int) - (((Lib.cut x19 ([10] : List UInt8)).2.1).length : Int)))), x21⟩ : S_option_reading) ((Lib.cut x19 ([10] : List UInt8)).1) x20).bind fun (x64, x65, x66, x67, x68) => (M_option_none).bind fun x69 => (eqG cfg.P 96 [.int .i64 x64.e_, .int .i64 x64.at_] [.int .i64 x69.e_, .int .i64 x69.at_]).bind fun x70 => iteB (!x70) (some (.inr (.inr (x67, x66, x65.c_.Vcs, x65.c_.Backups, x65.c_.Caches, x65.c_.Dated, x65.c_.Newer.Sec, x65.c_.Newer.Nsec, x65.c_.Nth, x65.c_.Strip, x65.c_.Name, x65.c_.Head, x65.c_.States, x65.flags_.Text, x65.flags_.Anchored, x65.flags_.Fold, x65.flags_.Slash, x65.rest_, x65.at_, x68, x64.at_, x64.e_)))) (some (.inl (x67, x66, x65.c_.Vcs, x65.c_.Backups, x65.c_.Caches, x65.c_.Dated, x65.c_.Newer.Sec, x65.c_.Newer.Nsec, x65.c_.Nth, x65.c_.Strip, x65.c_.Name, x65.c_.Head, x65.c_.States, x65.flags_.Text, x65.flags_.Anchored, x65.flags_.Fold, x65.flags_.Slash, x65.rest_, x65.at_, x68)))) (some (.inr (.inl (x2, x3, x4, x5, x6, x7, x8, x9, x10, x11, x12, x13, x14, x15, x16, x17, x18, x19, x20, x21))))
noncomputable def M_option_Parse (p0 : List UInt8) : Option (S_option_Config × Int × Int) :=
 iteB (decide ((p0.length : Int) > (65536 : Int))) (some ((⟨([] : List S_pattern_Rule), ([] : List S_pattern_Rule), ([] : List S_rewrite_Expr), false, false, (0 : Int), false, (⟨(0 : Int), (0 : Int)⟩ : S_api_Stamp), (0 : Int), (0 : Int), (0 : Int), (0 : Int), (0 : Int)⟩ : S_option_Config), (0 : Int), (12 : Int))) ((M_option_Default).bind fun _ => (loop (M_option_Parse_L0) (([] : List S_pattern_Rule), ([] : List S_pattern_Rule), false, false, (0 : Int), false, (0 : Int), (0 : Int), (0 : Int), (0 : Int), (4096 : Int), (65536 : Int), (4096 : Int), ([] : List UInt8), false, false, true, p0, (0 : Int), ([] : List ((List UInt8) × Bool)))).bind fun o1 => (match o1 with | .inl (x22, x23, x24, x25, x26, x27, x28, x29, x30, x31, x32, x33, x34, x35, x36, x37, x38, x39, x40, x41) => some ((⟨x23, x22, ([] : List S_rewrite_Expr), x24, x25, x26, x27, (⟨x28, x29⟩ : S_api_Stamp), x30, x31, x32, x33, x34⟩ : S_option_Config), (0 : Int), (0 : Int)) | .inr (x42, x43, x44, x45, x46, x47, x48, x49, x50, x51, x52, x53, x54, x55, x56, x57, x58, x59, x60, x61, x62, x63) => some ((⟨([] : List S_pattern_Rule), ([] : List S_pattern_Rule), ([] : List S_rewrite_Expr), false, false, (0 : Int), false, (⟨(0 : Int), (0 : Int)⟩ : S_api_Stamp), (0 : Int), (0 : Int), (0 : Int), (0 : Int), (0 : Int)⟩ : S_option_Config), x62, x63)))
theorem ok_option_Parse {g : Gd} {h : AHeap} {F : List Ck} {p0 : List UInt8} {q0 : S_option_Config} {q1 : Int} {q2 : Int} {av : List AVal} (hm : M_option_Parse p0 = some (q0, q1, q2)) (hc : canL (cfg.still 15) av = [.str p0]) (A : HH g h [] F) : ∃ v h', Runs cfg g h 15 av v h' ∧ v = .tuple [.agg (e_S_option_Config q0), .int .i64 q1, .int .i64 q2] ∧ HH g h' [] F := by
 refine runsQ7 (n := 77) (rs := [.cell 2 50, .tmp 3, .tmp 4]) (by kernel_rfl) hc (by kernel_rfl) ?_
 clear hc
 unfold M_option_Parse at hm
 refine start (n := 77) [(0, .str p0)] (by kernel_rfl) (by kernel_rfl) ?_
 intro fr H
 refine aw_seq (by kernel_rfl) ?_
 refine aw_reg (id := 0) (n := 3) [(0, []), (1, []), (2, [])] (by kernel_rfl) (by kernel_rfl) ?_
 obtain ⟨h1, e1⟩ : ∃ x, x = h.push (.cells none 2 [.slice none 0, .slice none 0, .slice none 0, .bool false, .bool false, .int .i64 (0 : Int), .bool false, .int .i64 (0 : Int), .int .i64 (0 : Int), .int .i64 (0 : Int), .int .i64 (0 : Int), .int .i64 (0 : Int), .int .i64 (0 : Int), .int .i64 (0 : Int)]) := ⟨_, rfl⟩
 replace A := (A.push _).to e1
 refine at_step (v := .ptr (some (h.size, 0))) (h1 := h1) [(0, .str p0), (2, .ptr (some (h.size, 0)))] H (fun fr => by kernel_rfl) (fun fr => .of (s_n' (by kernel_rfl) (congrArg some e1.symm))) ?_
 intro fr t H
 refine at_seg [(1, []), (2, [])] [(0, .str p0), (2, .ptr (some (h.size, 0)))] H (noU_all rfl) (fun fr => by kernel_rfl) ?_
 intro fr H
 refine at_nil ?_
 show AW cfg 15 g (right (bodyC cfg.P 15)) fr h1 _
 refine aw_seq (by kernel_rfl) ?_
 refine aw_seq (by kernel_rfl) ?_
 refine aw_reg (id := 1) (n := 3) [(0, []), (1, []), (2, [])] (by kernel_rfl) (by kernel_rfl) ?_
 refine at_seg [(0, []), (1, []), (2, [])] [(0, .str p0), (2, .ptr (some (h.size, 0))), (14, .bool (decide ((p0.length : Int) > (65536 : Int))))] H (noU_all rfl) (fun fr => by kernel_rfl) ?_
 intro fr H
 refine at_nil ?_
 show AW cfg 15 g (right (left (right (bodyC cfg.P 15)))) fr h1 _
 rcases iteB_some hm with ⟨hb, hm⟩ | ⟨hb, hm⟩
 ·replace H := H.know 14 hb (by kernel_rfl)
  refine aw_true (x := .tmp 14) (by kernel_rfl) H (fun fr => by kernel_rfl) ?_
  refine aw_seq (by kernel_rfl) ?_
  refine aw_reg (id := 2) (n := 4) [(0, []), (1, []), (2, []), (3, [])] (by kernel_rfl) (by kernel_rfl) ?_
  refine at_seg [(0, [])] [(2, .ptr (some (h.size, 0))), (15, .agg [.slice none 0, .slice none 0, .slice none 0, .bool false, .bool false, .int .i64 (0 : Int), .bool false, .int .i64 (0 : Int), .int .i64 (0 : Int), .int .i64 (0 : Int), .int .i64 (0 : Int), .int .i64 (0 : Int), .int .i64 (0 : Int), .int .i64 (0 : Int)])] H (noU_all rfl) (fun fr => by kernel_rfl) ?_
  intro fr H
  obtain ⟨h2, hx, A1⟩ := A.st 0 rfl (o := 0) (new := [.slice none 0, .slice none 0, .slice none 0, .bool false, .bool false, .int .i64 (0 : Int), .bool false, .int .i64 (0 : Int), .int .i64 (0 : Int), .int .i64 (0 : Int), .int .i64 (0 : Int), .int .i64 (0 : Int), .int .i64 (0 : Int), .int .i64 (0 : Int)]) (ds := [.slice none 0, .slice none 0, .slice none 0, .bool false, .bool false, .int .i64 (0 : Int), .bool false, .int .i64 (0 : Int), .int .i64 (0 : Int), .int .i64 (0 : Int), .int .i64 (0 : Int), .int .i64 (0 : Int), .int .i64 (0 : Int), .int .i64 (0 : Int)]) (Nat.le_of_ble_eq_true rfl) rfl rfl
  replace A : HH g h2 [.obj h.size (.cells none 2 [.slice none 0, .slice none 0, .slice none 0, .bool false, .bool false, .int .i64 (0 : Int), .bool false, .int .i64 (0 : Int), .int .i64 (0 : Int), .int .i64 (0 : Int), .int .i64 (0 : Int), .int .i64 (0 : Int), .int .i64 (0 : Int), .int .i64 (0 : Int)])] F := A1
  refine at_step (v := .tuple []) (h1 := h2) [(2, .ptr (some (h.size, 0)))] H (fun fr => by kernel_rfl) (fun fr => .of (s_stG (by kernel_rfl) (stG_st hx rfl))) ?_
  intro fr t H
  refine at_seg [(2, []), (3, [])] [(2, .ptr (some (h.size, 0))), (3, .int .i64 (0 : Int)), (4, .int .i64 (12 : Int))] H (noU_all rfl) (fun fr => by kernel_rfl) ?_
  intro fr H
  refine at_nil ?_
  show AW cfg 15 g (right (left (right (left (right (bodyC cfg.P 15)))))) fr h2 _
  refine aw_ret (by kernel_rfl) ?_
  have e0 := Option.some.inj hm
  obtain ⟨y0, z0⟩ := Prod.mk.inj e0
  obtain ⟨y1, z1⟩ := Prod.mk.inj z0
  subst y0
  subst y1
  subst z1
  refine ⟨.inl rfl, .tuple [.agg [.slice none 0, .slice none 0, .slice none 0, .bool false, .bool false, .int .i64 (0 : Int), .bool false, .int .i64 (0 : Int), .int .i64 (0 : Int), .int .i64 (0 : Int), .int .i64 (0 : Int), .int .i64 (0 : Int), .int .i64 (0 : Int), .int .i64 (0 : Int)], .int .i64 (0 : Int), .int .i64 (12 : Int)], resL_many (.cell (resT H (fun fr => by kernel_rfl)) (load_ldA (by kernel_rfl) (by kernel_rfl) (A.ldA 0 rfl (o := 0) (n := 14) ⟨Nat.le_of_ble_eq_true rfl, rfl⟩)) (.tmp (resT H (fun fr => by kernel_rfl)) (.tmp (resT H (fun fr => by kernel_rfl)) .nil))), ?_⟩
  refine ⟨.tuple [.agg [vs e_S_pattern_Rule ([] : List S_pattern_Rule), vs e_S_pattern_Rule ([] : List S_pattern_Rule), vs e_S_rewrite_Expr ([] : List S_rewrite_Expr), .bool false, .bool false, .int .i64 (0 : Int), .bool false, .int .i64 (0 : Int), .int .i64 (0 : Int), .int .i64 (0 : Int), .int .i64 (0 : Int), .int .i64 (0 : Int), .int .i64 (0 : Int), .int .i64 (0 : Int)], .int .i64 (0 : Int), .int .i64 (12 : Int)], h2, by first | rfl | (simp only [fz3T, fz3A, fz3B, fz3R, fz2A, fz2R, fz2V, fz2I, fz2B, fz2S, fz2N, fzL0, fzL1, fz1I, fz1B, fz1S, fz1V, fz1N, Option.map_some] <;> rfl), ?_⟩
  replace A : HH g h2 [] F := (HH.dropF A 0)
  exact ⟨rfl, A⟩
 ·replace H := H.know 14 hb (by kernel_rfl)
  refine aw_false (x := .tmp 14) (by kernel_rfl) H (fun fr => by kernel_rfl) ?_
  refine aw_skip (by kernel_rfl) ?_
  show AW cfg 15 g (right (right (bodyC cfg.P 15))) fr h1 _
  refine aw_seq (by kernel_rfl) ?_
  refine aw_reg (id := 3) (n := 7) [(0, []), (1, []), (2, []), (3, []), (4, []), (5, []), (6, [])] (by kernel_rfl) (by kernel_rfl) ?_
  have A1 := A.cut 0
  obtain ⟨⟨⟩, hx, hm⟩ := bind_some hm
  obtain ⟨v1, h3, hr, rfl, A1⟩ := ok_option_Default (av := []) hx (by kernel_rfl) A1
  replace A : HH g h3 [.obj h.size (.cells none 2 [.slice none 0, .slice none 0, .slice none 0, .bool false, .bool false, .int .i64 (0 : Int), .bool false, .int .i64 (0 : Int), .int .i64 (0 : Int), .int .i64 (0 : Int), .int .i64 (0 : Int), .int .i64 (0 : Int), .int .i64 (0 : Int), .int .i64 (0 : Int)])] F := A.glue0 (n := 0) A1
  refine at_step (v := .agg [.slice none 0, .slice none 0, .slice none 0, .bool false, .bool false, .int .i64 (0 : Int), .bool false, .int .i64 (0 : Int), .int .i64 (0 : Int), .int .i64 (0 : Int), .int .i64 (0 : Int), .int .i64 (4096 : Int), .int .i64 (65536 : Int), .int .i64 (4096 : Int)]) (h1 := h3) [(0, .str p0), (2, .ptr (some (h.size, 0))), (16, .agg [.slice none 0, .slice none 0, .slice none 0, .bool false, .bool false, .int .i64 (0 : Int), .bool false, .int .i64 (0 : Int), .int .i64 (0 : Int), .int .i64 (0 : Int), .int .i64 (0 : Int), .int .i64 (4096 : Int), .int .i64 (65536 : Int), .int .i64 (4096 : Int)])] H (fun fr => by kernel_rfl) (fun fr => Steps.call (by kernel_rfl) hr) ?_
  intro fr t H
  refine at_seg [(1, []), (2, [])] [(2, .ptr (some (h.size, 0))), (16, .agg [.slice none 0, .slice none 0, .slice none 0, .bool false, .bool false, .int .i64 (0 : Int), .bool false, .int .i64 (0 : Int), .int .i64 (0 : Int), .int .i64 (0 : Int), .int .i64 (0 : Int), .int .i64 (4096 : Int), .int .i64 (65536 : Int), .int .i64 (4096 : Int)]), (17, .agg [.str ([] : List UInt8), .bool false, .bool false, .bool true]), (18, .str p0)] H (noU_all rfl) (fun fr => by kernel_rfl) ?_
  intro fr H
  obtain ⟨h4, e2⟩ : ∃ x, x = h3.push (.map 2 []) := ⟨_, rfl⟩
  replace A : HH g h4 [.obj h3.size (.map 2 (encM (fun k : List UInt8 => .str k) (fun v : Bool => .bool v) ([] : List ((List UInt8) × Bool)))), .obj h.size (.cells none 2 [.slice none 0, .slice none 0, .slice none 0, .bool false, .bool false, .int .i64 (0 : Int), .bool false, .int .i64 (0 : Int), .int .i64 (0 : Int), .int .i64 (0 : Int), .int .i64 (0 : Int), .int .i64 (0 : Int), .int .i64 (0 : Int), .int .i64 (0 : Int)])] F := (A.push _).to e2
  refine at_step (v := .map (some h3.size)) (h1 := h4) [(2, .ptr (some (h.size, 0))), (16, .agg [.slice none 0, .slice none 0, .slice none 0, .bool false, .bool false, .int .i64 (0 : Int), .bool false, .int .i64 (0 : Int), .int .i64 (0 : Int), .int .i64 (0 : Int), .int .i64 (0 : Int), .int .i64 (4096 : Int), .int .i64 (65536 : Int), .int .i64 (4096 : Int)]), (17, .agg [.str ([] : List UInt8), .bool false, .bool false, .bool true]), (18, .str p0), (19, .map (some h3.size))] H (fun fr => by kernel_rfl) (fun fr => .of (s_n' (by kernel_rfl) (congrArg some e2.symm))) ?_
  intro fr t H
  refine at_seg [(4, [])] [(2, .ptr (some (h.size, 0))), (20, .agg [.slice none 0, .slice none 0, .slice none 0, .bool false, .bool false, .int .i64 (0 : Int), .bool false, .int .i64 (0 : Int), .int .i64 (0 : Int), .int .i64 (0 : Int), .int .i64 (0 : Int), .int .i64 (4096 : Int), .int .i64 (65536 : Int), .int .i64 (4096 : Int), .str ([] : List UInt8), .bool false, .bool false, .bool true, .str p0, .int .i64 (0 : Int), .map (some h3.size)])] H (noU_all rfl) (fun fr => by kernel_rfl) ?_
  intro fr H
  obtain ⟨h5, e3⟩ : ∃ x, x = h4.push (.cells none 2 [.slice none 0, .slice none 0, .slice none 0, .bool false, .bool false, .int .i64 (0 : Int), .bool false, .int .i64 (0 : Int), .int .i64 (0 : Int), .int .i64 (0 : Int), .int .i64 (0 : Int), .int .i64 (4096 : Int), .int .i64 (65536 : Int), .int .i64 (4096 : Int), .str ([] : List UInt8), .bool false, .bool false, .bool true, .str p0, .int .i64 (0 : Int), .map (some h3.size)]) := ⟨_, rfl⟩
  replace A := (A.push _).to e3
  refine at_step (v := .ptr (some (h4.size, 0))) (h1 := h5) [(2, .ptr (some (h.size, 0))), (21, .ptr (some (h4.size, 0)))] H (fun fr => by kernel_rfl) (fun fr => .of (s_n' (by kernel_rfl) (congrArg some e3.symm))) ?_
  intro fr t H
  refine at_seg [(6, [])] [(2, .ptr (some (h.size, 0))), (5, .ptr (some (h4.size, 0)))] H (noU_all rfl) (fun fr => by kernel_rfl) ?_
  intro fr H
  refine at_nil ?_
  show AW cfg 15 g (right (right (right (bodyC cfg.P 15)))) fr h5 _
  refine aw_seq (by kernel_rfl) ?_
  refine aw_reg (id := 4) (n := 2) [(0, []), (1, [])] (by kernel_rfl) (by kernel_rfl) ?_
  obtain ⟨h6, e4⟩ : ∃ x, x = h5.push (.map 2 LA.km35) := ⟨_, rfl⟩
  replace A : HH g h6 [.obj h5.size (.map 2 LA.km35), .obj h4.size (.cells none 2 [.slice none 0, .slice none 0, .slice none 0, .bool false, .bool false, .int .i64 (0 : Int), .bool false, .int .i64 (0 : Int), .int .i64 (0 : Int), .int .i64 (0 : Int), .int .i64 (0 : Int), .int .i64 (4096 : Int), .int .i64 (65536 : Int), .int .i64 (4096 : Int), .str ([] : List UInt8), .bool false, .bool false, .bool true, .str p0, .int .i64 (0 : Int), .map (some h3.size)]), .obj h3.size (.map 2 (encM (fun k : List UInt8 => .str k) (fun v : Bool => .bool v) ([] : List ((List UInt8) × Bool)))), .obj h.size (.cells none 2 [.slice none 0, .slice none 0, .slice none 0, .bool false, .bool false, .int .i64 (0 : Int), .bool false, .int .i64 (0 : Int), .int .i64 (0 : Int), .int .i64 (0 : Int), .int .i64 (0 : Int), .int .i64 (0 : Int), .int .i64 (0 : Int), .int .i64 (0 : Int)])] F := (A.push _).to e4
  have hr : ∀ g, Runs cfg g h5 35 [] (.map (some h5.size)) h6 := fun g => by rw [e4]; exact runsKM (C := cfg) (f := 35) (j := 0) (n := 0) (es := LA.km35) (by kernel_rfl) (l := exts) rfl (by kernel_rfl) (by kernel_rfl) (by kernel_rfl)
  refine at_step (v := .map (some h5.size)) (h1 := h6) [(2, .ptr (some (h.size, 0))), (5, .ptr (some (h4.size, 0))), (22, .map (some h5.size))] H (fun fr => by kernel_rfl) (fun fr => Steps.call (by kernel_rfl) (hr _)) ?_
  intro fr t H
  refine at_seg [(1, [])] [(2, .ptr (some (h.size, 0))), (5, .ptr (some (h4.size, 0))), (6, .map (some h5.size))] H (noU_all rfl) (fun fr => by kernel_rfl) ?_
  intro fr H
  refine at_nil ?_
  show AW cfg 15 g (right (right (right (right (bodyC cfg.P 15))))) fr h6 _
  refine aw_seq (by kernel_rfl) ?_
  refine aw_block (id := 0) (by kernel_rfl) ?_
  replace A : HH g h6 [.lst none 87 (lst e_S_pattern_Rule ([] : List S_pattern_Rule)), .obj h5.size (.map 2 LA.km35), .obj h4.size (.cells none 2 [.slice none 0, .slice none 0, .slice none 0, .bool false, .bool false, .int .i64 (0 : Int), .bool false, .int .i64 (0 : Int), .int .i64 (0 : Int), .int .i64 (0 : Int), .int .i64 (0 : Int), .int .i64 (4096 : Int), .int .i64 (65536 : Int), .int .i64 (4096 : Int), .str ([] : List UInt8), .bool false, .bool false, .bool true, .str p0, .int .i64 (0 : Int), .map (some h3.size)]), .obj h3.size (.map 2 (encM (fun k : List UInt8 => .str k) (fun v : Bool => .bool v) ([] : List ((List UInt8) × Bool)))), .obj h.size (.cells none 2 [.slice none 0, .slice none 0, .slice none 0, .bool false, .bool false, .int .i64 (0 : Int), .bool false, .int .i64 (0 : Int), .int .i64 (0 : Int), .int .i64 (0 : Int), .int .i64 (0 : Int), .int .i64 (0 : Int), .int .i64 (0 : Int), .int .i64 (0 : Int)])] F := A.nilL 87
  replace A : HH g h6 [.lst none 87 (lst e_S_pattern_Rule ([] : List S_pattern_Rule)), .lst none 87 (lst e_S_pattern_Rule ([] : List S_pattern_Rule)), .obj h5.size (.map 2 LA.km35), .obj h4.size (.cells none 2 [rowV none (([] : List S_pattern_Rule).length), .slice none 0, .slice none 0, .bool false, .bool false, .int .i64 (0 : Int), .bool false, .int .i64 (0 : Int), .int .i64 (0 : Int), .int .i64 (0 : Int), .int .i64 (0 : Int), .int .i64 (4096 : Int), .int .i64 (65536 : Int), .int .i64 (4096 : Int), .str ([] : List UInt8), .bool false, .bool false, .bool true, .str p0, .int .i64 (0 : Int), .map (some h3.size)]), .obj h3.size (.map 2 (encM (fun k : List UInt8 => .str k) (fun v : Bool => .bool v) ([] : List ((List UInt8) × Bool)))), .obj h.size (.cells none 2 [.slice none 0, .slice none 0, .slice none 0, .bool false, .bool false, .int .i64 (0 : Int), .bool false, .int .i64 (0 : Int), .int .i64 (0 : Int), .int .i64 (0 : Int), .int .i64 (0 : Int), .int .i64 (0 : Int), .int .i64 (0 : Int), .int .i64 (0 : Int)])] F := A.nilL 87
  replace A : HH g h6 [.lst none 24 (lst e_S_rewrite_Expr ([] : List S_rewrite_Expr)), .lst none 87 (lst e_S_pattern_Rule ([] : List S_pattern_Rule)), .lst none 87 (lst e_S_pattern_Rule ([] : List S_pattern_Rule)), .obj h5.size (.map 2 LA.km35), .obj h4.size (.cells none 2 [rowV none (([] : List S_pattern_Rule).length), rowV none (([] : List S_pattern_Rule).length), .slice none 0, .bool false, .bool false, .int .i64 (0 : Int), .bool false, .int .i64 (0 : Int), .int .i64 (0 : Int), .int .i64 (0 : Int), .int .i64 (0 : Int), .int .i64 (4096 : Int), .int .i64 (65536 : Int), .int .i64 (4096 : Int), .str ([] : List UInt8), .bool false, .bool false, .bool true, .str p0, .int .i64 (0 : Int), .map (some h3.size)]), .obj h3.size (.map 2 (encM (fun k : List UInt8 => .str k) (fun v : Bool => .bool v) ([] : List ((List UInt8) × Bool)))), .obj h.size (.cells none 2 [.slice none 0, .slice none 0, .slice none 0, .bool false, .bool false, .int .i64 (0 : Int), .bool false, .int .i64 (0 : Int), .int .i64 (0 : Int), .int .i64 (0 : Int), .int .i64 (0 : Int), .int .i64 (0 : Int), .int .i64 (0 : Int), .int .i64 (0 : Int)])] F := A.nilL 24
  obtain ⟨o1, ho, hm⟩ := bind_some hm
  refine aw_mono (Q' := fun e fr' h' => (∃ (x22 : List S_pattern_Rule) (x23 : List S_pattern_Rule) (x24 : Bool) (x25 : Bool) (x26 : Int) (x27 : Bool) (x28 : Int) (x29 : Int) (x30 : Int) (x31 : Int) (x32 : Int) (x33 : Int) (x34 : Int) (x35 : List UInt8) (x36 : Bool) (x37 : Bool) (x38 : Bool) (x39 : List UInt8) (x40 : Int) (x41 : List ((List UInt8) × Bool)), e = .exit 0 ∧ .inl (x22, x23, x24, x25, x26, x27, x28, x29, x30, x31, x32, x33, x34, x35, x36, x37, x38, x39, x40, x41) = o1 ∧ ∃ (r3 : Option Nat) (r4 : Option Nat), Has fr' 77 [(2, .ptr (some (h.size, 0))), (5, .ptr (some (h4.size, 0)))] ∧ HH g h' [.lst none 24 (lst e_S_rewrite_Expr ([] : List S_rewrite_Expr)), .lst r3 87 (lst e_S_pattern_Rule x22), .lst r4 87 (lst e_S_pattern_Rule x23), .obj h5.size (.map 2 LA.km35), .obj h4.size (.cells none 2 [rowV r4 x23.length, rowV r3 x22.length, rowV none (([] : List S_rewrite_Expr).length), .bool x24, .bool x25, .int .i64 x26, .bool x27, .int .i64 x28, .int .i64 x29, .int .i64 x30, .int .i64 x31, .int .i64 x32, .int .i64 x33, .int .i64 x34, .str x35, .bool x36, .bool x37, .bool x38, .str x39, .int .i64 x40, .map (some h3.size)]), .obj h3.size (.map 2 (encM (fun k : List UInt8 => .str k) (fun v : Bool => .bool v) x41)), .obj h.size (.cells none 2 [.slice none 0, .slice none 0, .slice none 0, .bool false, .bool false, .int .i64 (0 : Int), .bool false, .int .i64 (0 : Int), .int .i64 (0 : Int), .int .i64 (0 : Int), .int .i64 (0 : Int), .int .i64 (0 : Int), .int .i64 (0 : Int), .int .i64 (0 : Int)])] F) ∨ (∃ (x42 : List S_pattern_Rule) (x43 : List S_pattern_Rule) (x44 : Bool) (x45 : Bool) (x46 : Int) (x47 : Bool) (x48 : Int) (x49 : Int) (x50 : Int) (x51 : Int) (x52 : Int) (x53 : Int) (x54 : Int) (x55 : List UInt8) (x56 : Bool) (x57 : Bool) (x58 : Bool) (x59 : List UInt8) (x60 : Int) (x61 : List ((List UInt8) × Bool)) (x62 : Int) (x63 : Int), e = .ret ∧ .inr (x42, x43, x44, x45, x46, x47, x48, x49, x50, x51, x52, x53, x54, x55, x56, x57, x58, x59, x60, x61, x62, x63) = o1 ∧ ∃ (r5 : Option Nat) (r6 : Option Nat), Has fr' 77 [(2, .ptr (some (h.size, 0))), (3, .int .i64 x62), (4, .int .i64 x63)] ∧ HH g h' [.lst none 24 (lst e_S_rewrite_Expr ([] : List S_rewrite_Expr)), .lst r5 87 (lst e_S_pattern_Rule x42), .lst r6 87 (lst e_S_pattern_Rule x43), .obj h5.size (.map 2 LA.km35), .obj h4.size (.cells none 2 [rowV r6 x43.length, rowV r5 x42.length, rowV none (([] : List S_rewrite_Expr).length), .bool x44, .bool x45, .int .i64 x46, .bool x47, .int .i64 x48, .int .i64 x49, .int .i64 x50, .int .i64 x51, .int .i64 x52, .int .i64 x53, .int .i64 x54, .str x55, .bool x56, .bool x57, .bool x58, .str x59, .int .i64 x60, .map (some h3.size)]), .obj h3.size (.map 2 (encM (fun k : List UInt8 => .str k) (fun v : Bool => .bool v) x61)), .obj h.size (.cells none 2 [.slice none 0, .slice none 0, .slice none 0, .bool false, .bool false, .int .i64 (0 : Int), .bool false, .int .i64 (0 : Int), .int .i64 (0 : Int), .int .i64 (0 : Int), .int .i64 (0 : Int), .int .i64 (0 : Int), .int .i64 (0 : Int), .int .i64 (0 : Int)])] F) ∨ False) ?_ ?_
  ·refine aw_loop (by kernel_rfl) (fun (s : (List S_pattern_Rule) × (List S_pattern_Rule) × Bool × Bool × Int × Bool × Int × Int × Int × Int × Int × Int × Int × (List UInt8) × Bool × Bool × Bool × (List UInt8) × Int × (List ((List UInt8) × Bool))) fr' h' => ∃ (x2 : List S_pattern_Rule) (x3 : List S_pattern_Rule) (x4 : Bool) (x5 : Bool) (x6 : Int) (x7 : Bool) (x8 : Int) (x9 : Int) (x10 : Int) (x11 : Int) (x12 : Int) (x13 : Int) (x14 : Int) (x15 : List UInt8) (x16 : Bool) (x17 : Bool) (x18 : Bool) (x19 : List UInt8) (x20 : Int) (x21 : List ((List UInt8) × Bool)), (x2, x3, x4, x5, x6, x7, x8, x9, x10, x11, x12, x13, x14, x15, x16, x17, x18, x19, x20, x21) = s ∧ ∃ (r1 : Option Nat) (r2 : Option Nat), Has fr' 77 [(2, .ptr (some (h.size, 0))), (5, .ptr (some (h4.size, 0))), (6, .map (some h5.size))] ∧ HH g h' [.lst none 24 (lst e_S_rewrite_Expr ([] : List S_rewrite_Expr)), .lst r1 87 (lst e_S_pattern_Rule x2), .lst r2 87 (lst e_S_pattern_Rule x3), .obj h5.size (.map 2 LA.km35), .obj h4.size (.cells none 2 [rowV r2 x3.length, rowV r1 x2.length, rowV none (([] : List S_rewrite_Expr).length), .bool x4, .bool x5, .int .i64 x6, .bool x7, .int .i64 x8, .int .i64 x9, .int .i64 x10, .int .i64 x11, .int .i64 x12, .int .i64 x13, .int .i64 x14, .str x15, .bool x16, .bool x17, .bool x18, .str x19, .int .i64 x20, .map (some h3.size)]), .obj h3.size (.map 2 (encM (fun k : List UInt8 => .str k) (fun v : Bool => .bool v) x21)), .obj h.size (.cells none 2 [.slice none 0, .slice none 0, .slice none 0, .bool false, .bool false, .int .i64 (0 : Int), .bool false, .int .i64 (0 : Int), .int .i64 (0 : Int), .int .i64 (0 : Int), .int .i64 (0 : Int), .int .i64 (0 : Int), .int .i64 (0 : Int), .int .i64 (0 : Int)])] F) ho ⟨([] : List S_pattern_Rule), ([] : List S_pattern_Rule), false, false, (0 : Int), false, (0 : Int), (0 : Int), (0 : Int), (0 : Int), (4096 : Int), (65536 : Int), (4096 : Int), ([] : List UInt8), false, false, true, p0, (0 : Int), ([] : List ((List UInt8) × Bool)), rfl, none, none, H.less _ (fun fr => by kernel_rfl), A⟩ ?_
   clear ho hm H A
   intro s q fr h7 hI hm
   obtain ⟨x2, x3, x4, x5, x6, x7, x8, x9, x10, x11, x12, x13, x14, x15, x16, x17, x18, x19, x20, x21, rfl, r1, r2, H, A⟩ := hI
   unfold M_option_Parse_L0 at hm
   refine aw_seq (by kernel_rfl) ?_
   refine aw_seq (by kernel_rfl) ?_
   refine aw_reg (id := 5) (n := 5) [(0, []), (1, []), (2, []), (3, []), (4, [])] (by kernel_rfl) (by kernel_rfl) ?_
   refine at_seg [(0, []), (1, []), (2, [])] [(2, .ptr (some (h.size, 0))), (5, .ptr (some (h4.size, 0))), (6, .map (some h5.size)), (25, .ptr (some (h4.size, 18)))] H (noU_all rfl) (fun fr => by kernel_rfl) ?_
   intro fr H
   refine at_step (v := .str x19) (h1 := h7) [(2, .ptr (some (h.size, 0))), (5, .ptr (some (h4.size, 0))), (6, .map (some h5.size)), (26, .str x19)] H (fun fr => by kernel_rfl) (fun fr => .of (s_ld (by kernel_rfl) (A.ld1 4 rfl (o := 18) rfl))) ?_
   intro fr t H
   refine at_seg [(4, [])] [(2, .ptr (some (h.size, 0))), (5, .ptr (some (h4.size, 0))), (6, .map (some h5.size)), (27, .bool (!(x19 == ([] : List UInt8))))] H (noU_all rfl) (fun fr => by kernel_rfl) ?_
   intro fr H
   refine at_nil ?_
   show AW cfg 15 g (right (left (left (left (left (right (right (right (right (bodyC cfg.P 15)))))))))) fr h7 _
   rcases iteB_some hm with ⟨hb, hm⟩ | ⟨hb, hm⟩
   ·replace H := H.know 27 hb (by kernel_rfl)
    refine aw_true (x := .tmp 27) (by kernel_rfl) H (fun fr => by kernel_rfl) ?_
    refine aw_skip (by kernel_rfl) ?_
    show AW cfg 15 g (right (left (left (left (right (right (right (right (bodyC cfg.P 15))))))))) fr h7 _
    refine aw_block (id := 1) (by kernel_rfl) ?_
    refine aw_seq (by kernel_rfl) ?_
    refine aw_reg (id := 6) (n := 12) [(0, []), (1, []), (2, []), (3, []), (4, []), (5, []), (6, []), (7, []), (8, []), (9, []), (10, []), (11, [])] (by kernel_rfl) (by kernel_rfl) ?_
    refine at_seg [(0, []), (1, []), (2, [])] [(2, .ptr (some (h.size, 0))), (5, .ptr (some (h4.size, 0))), (6, .map (some h5.size)), (31, .ptr (some (h4.size, 18)))] H (noU_all rfl) (fun fr => by kernel_rfl) ?_
    intro fr H
    refine at_step (v := .str x19) (h1 := h7) [(2, .ptr (some (h.size, 0))), (5, .ptr (some (h4.size, 0))), (6, .map (some h5.size)), (32, .str x19)] H (fun fr => by kernel_rfl) (fun fr => .of (s_ld (by kernel_rfl) (A.ld1 4 rfl (o := 18) rfl))) ?_
    intro fr t H
    obtain ⟨hb, hm⟩ := need_some hm
    refine at_step (v := .tuple [.str ((Lib.cut x19 ([10] : List UInt8)).1), .str ((Lib.cut x19 ([10] : List UInt8)).2.1), .bool ((Lib.cut x19 ([10] : List UInt8)).2.2)]) (h1 := h7) [(2, .ptr (some (h.size, 0))), (5, .ptr (some (h4.size, 0))), (6, .map (some h5.size)), (33, .tuple [.str ((Lib.cut x19 ([10] : List UInt8)).1), .str ((Lib.cut x19 ([10] : List UInt8)).2.1), .bool ((Lib.cut x19 ([10] : List UInt8)).2.2)])] H (fun fr => by kernel_rfl) (fun fr => Steps.call (by kernel_rfl) (runsCut (C := cfg) (f := 36) (a := 0) (by kernel_rfl) (l := exts) rfl (by kernel_rfl) hb)) ?_
    intro fr t H
    refine at_seg [(5, []), (6, []), (7, []), (8, []), (9, []), (10, []), (11, [])] [(2, .ptr (some (h.size, 0))), (5, .ptr (some (h4.size, 0))), (6, .map (some h5.size)), (7, .str ((Lib.cut x19 ([10] : List UInt8)).1)), (8, .str ((Lib.cut x19 ([10] : List UInt8)).2.1))] H (noU_all rfl) (fun fr => by kernel_rfl) ?_
    intro fr H
    refine at_nil ?_
    show AW cfg 15 g (right (left (right (left (left (left (right (right (right (right (bodyC cfg.P 15))))))))))) fr h7 _
    refine aw_seq (by kernel_rfl) ?_
    refine aw_reg (id := 7) (n := 5) [(0, []), (1, []), (2, []), (3, []), (4, [])] (by kernel_rfl) (by kernel_rfl) ?_
    refine at_seg [(0, []), (1, []), (2, [])] [(2, .ptr (some (h.size, 0))), (5, .ptr (some (h4.size, 0))), (6, .map (some h5.size)), (7, .str ((Lib.cut x19 ([10] : List UInt8)).1)), (8, .str ((Lib.cut x19 ([10] : List UInt8)).2.1)), (39, .ptr (some (h4.size, 19)))] H (noU_all rfl) (fun fr => by kernel_rfl) ?_
    intro fr H
    refine at_step (v := .int .i64 x20) (h1 := h7) [(2, .ptr (some (h.size, 0))), (5, .ptr (some (h4.size, 0))), (6, .map (some h5.size)), (7, .str ((Lib.cut x19 ([10] : List UInt8)).1)), (8, .str ((Lib.cut x19 ([10] : List UInt8)).2.1)), (40, .int .i64 x20)] H (fun fr => by kernel_rfl) (fun fr => .of (s_ld (by kernel_rfl) (A.ld1 4 rfl (o := 19) rfl))) ?_
    intro fr t H
    refine at_seg [(4, [])] [(2, .ptr (some (h.size, 0))), (5, .ptr (some (h4.size, 0))), (6, .map (some h5.size)), (7, .str ((Lib.cut x19 ([10] : List UInt8)).1)), (8, .str ((Lib.cut x19 ([10] : List UInt8)).2.1)), (10, .int .i64 x20)] H (noU_all rfl) (fun fr => by kernel_rfl) ?_
    intro fr H
    refine at_nil ?_
    show AW cfg 15 g (right (right (left (right (left (left (left (right (right (right (right (bodyC cfg.P 15)))))))))))) fr h7 _
    refine aw_seq (by kernel_rfl) ?_
    refine aw_draw (id := 8) (n := 16) (by kernel_rfl) [(0, []), (1, []), (2, []), (3, []), (4, []), (5, []), (6, []), (7, []), (8, []), (9, []), (10, []), (11, []), (12, []), (13, []), (14, []), (15, [])] (by kernel_rfl) ?_
    refine at_seg [(0, []), (1, []), (2, [])] [(2, .ptr (some (h.size, 0))), (5, .ptr (some (h4.size, 0))), (6, .map (some h5.size)), (7, .str ((Lib.cut x19 ([10] : List UInt8)).1)), (8, .str ((Lib.cut x19 ([10] : List UInt8)).2.1)), (10, .int .i64 x20), (41, .ptr (some (h4.size, 0))), (43, .ptr (some (h4.size, 19)))] H (noU_all rfl) (fun fr => by kernel_rfl) ?_
    intro fr H
    refine at_step (v := .int .i64 x20) (h1 := h7) [(2, .ptr (some (h.size, 0))), (5, .ptr (some (h4.size, 0))), (6, .map (some h5.size)), (7, .str ((Lib.cut x19 ([10] : List UInt8)).1)), (8, .str ((Lib.cut x19 ([10] : List UInt8)).2.1)), (10, .int .i64 x20), (41, .ptr (some (h4.size, 0))), (44, .int .i64 x20)] H (fun fr => by kernel_rfl) (fun fr => .of (s_ld (by kernel_rfl) (A.ld1 4 rfl (o := 19) rfl))) ?_
    intro fr t H
    refine at_seg [(4, []), (5, []), (6, [])] [(2, .ptr (some (h.size, 0))), (5, .ptr (some (h4.size, 0))), (6, .map (some h5.size)), (7, .str ((Lib.cut x19 ([10] : List UInt8)).1)), (8, .str ((Lib.cut x19 ([10] : List UInt8)).2.1)), (10, .int .i64 x20), (41, .ptr (some (h4.size, 0))), (44, .int .i64 x20), (47, .ptr (some (h4.size, 18)))] H (noU_all rfl) (fun fr => by kernel_rfl) ?_
    intro fr H
    refine at_step (v := .str x19) (h1 := h7) [(2, .ptr (some (h.size, 0))), (5, .ptr (some (h4.size, 0))), (6, .map (some h5.size)), (7, .str ((Lib.cut x19 ([10] : List UInt8)).1)), (8, .str ((Lib.cut x19 ([10] : List UInt8)).2.1)), (10, .int .i64 x20), (41, .ptr (some (h4.size, 0))), (44, .int .i64 x20), (48, .str x19)] H (fun fr => by kernel_rfl) (fun fr => .of (s_ld (by kernel_rfl) (A.ld1 4 rfl (o := 18) rfl))) ?_
    intro fr t H
    refine at_seg [(8, []), (9, []), (10, []), (11, []), (12, []), (13, []), (14, [])] [(2, .ptr (some (h.size, 0))), (5, .ptr (some (h4.size, 0))), (6, .map (some h5.size)), (7, .str ((Lib.cut x19 ([10] : List UInt8)).1)), (8, .str ((Lib.cut x19 ([10] : List UInt8)).2.1)), (10, .int .i64 x20), (53, .int .i64 (IntKind.i64.wrap (x20 + (IntKind.i64.wrap ((x19.length : Int) - (((Lib.cut x19 ([10] : List UInt8)).2.1).length : Int)))))), (55, .ptr (some (h4.size, 19)))] H (noU_all rfl) (fun fr => by kernel_rfl) ?_
    intro fr H
    obtain ⟨h8, hx, A1⟩ := A.st 4 rfl (o := 19) (new := [.int .i64 (IntKind.i64.wrap (x20 + (IntKind.i64.wrap ((x19.length : Int) - (((Lib.cut x19 ([10] : List UInt8)).2.1).length : Int)))))]) (ds := [rowV r2 x3.length, rowV r1 x2.length, rowV none (([] : List S_rewrite_Expr).length), .bool x4, .bool x5, .int .i64 x6, .bool x7, .int .i64 x8, .int .i64 x9, .int .i64 x10, .int .i64 x11, .int .i64 x12, .int .i64 x13, .int .i64 x14, .str x15, .bool x16, .bool x17, .bool x18, .str x19, .int .i64 (IntKind.i64.wrap (x20 + (IntKind.i64.wrap ((x19.length : Int) - (((Lib.cut x19 ([10] : List UInt8)).2.1).length : Int))))), .map (some h3.size)]) (Nat.le_of_ble_eq_true rfl) rfl rfl
    replace A : HH g h8 [.lst none 24 (lst e_S_rewrite_Expr ([] : List S_rewrite_Expr)), .lst r1 87 (lst e_S_pattern_Rule x2), .lst r2 87 (lst e_S_pattern_Rule x3), .obj h5.size (.map 2 LA.km35), .obj h4.size (.cells none 2 [rowV r2 x3.length, rowV r1 x2.length, rowV none (([] : List S_rewrite_Expr).length), .bool x4, .bool x5, .int .i64 x6, .bool x7, .int .i64 x8, .int .i64 x9, .int .i64 x10, .int .i64 x11, .int .i64 x12, .int .i64 x13, .int .i64 x14, .str x15, .bool x16, .bool x17, .bool x18, .str x19, .int .i64 (IntKind.i64.wrap (x20 + (IntKind.i64.wrap ((x19.length : Int) - (((Lib.cut x19 ([10] : List UInt8)).2.1).length : Int))))), .map (some h3.size)]), .obj h3.size (.map 2 (encM (fun k : List UInt8 => .str k) (fun v : Bool => .bool v) x21)), .obj h.size (.cells none 2 [.slice none 0, .slice none 0, .slice none 0, .bool false, .bool false, .int .i64 (0 : Int), .bool false, .int .i64 (0 : Int), .int .i64 (0 : Int), .int .i64 (0 : Int), .int .i64 (0 : Int), .int .i64 (0 : Int), .int .i64 (0 : Int), .int .i64 (0 : Int)])] F := A1
    refine at_step (v := .tuple []) (h1 := h8) [(2, .ptr (some (h.size, 0))), (5, .ptr (some (h4.size, 0))), (6, .map (some h5.size)), (7, .str ((Lib.cut x19 ([10] : List UInt8)).1)), (8, .str ((Lib.cut x19 ([10] : List UInt8)).2.1)), (10, .int .i64 x20)] H (fun fr => by kernel_rfl) (fun fr => .of (s_st (by kernel_rfl) rfl hx)) ?_
    intro fr t H
    refine at_nil ?_
    show AW cfg 15 g (right (right (right (left (right (left (left (left (right (right (right (right (bodyC cfg.P 15))))))))))))) fr h8 _
    refine aw_seq (by kernel_rfl) ?_
    refine aw_reg (id := 9) (n := 5) [(0, []), (1, []), (2, []), (3, []), (4, [])] (by kernel_rfl) (by kernel_rfl) ?_
    refine at_seg [(0, []), (1, []), (2, []), (3, [])] [(2, .ptr (some (h.size, 0))), (5, .ptr (some (h4.size, 0))), (6, .map (some h5.size)), (7, .str ((Lib.cut x19 ([10] : List UInt8)).1)), (10, .int .i64 x20), (57, .str ((Lib.cut x19 ([10] : List UInt8)).2.1)), (59, .ptr (some (h4.size, 18)))] H (noU_all rfl) (fun fr => by kernel_rfl) ?_
    intro fr H
    obtain ⟨h9, hx, A1⟩ := A.st 4 rfl (o := 18) (new := [.str ((Lib.cut x19 ([10] : List UInt8)).2.1)]) (ds := [rowV r2 x3.length, rowV r1 x2.length, rowV none (([] : List S_rewrite_Expr).length), .bool x4, .bool x5, .int .i64 x6, .bool x7, .int .i64 x8, .int .i64 x9, .int .i64 x10, .int .i64 x11, .int .i64 x12, .int .i64 x13, .int .i64 x14, .str x15, .bool x16, .bool x17, .bool x18, .str ((Lib.cut x19 ([10] : List UInt8)).2.1), .int .i64 (IntKind.i64.wrap (x20 + (IntKind.i64.wrap ((x19.length : Int) - (((Lib.cut x19 ([10] : List UInt8)).2.1).length : Int))))), .map (some h3.size)]) (Nat.le_of_ble_eq_true rfl) rfl rfl
    replace A : HH g h9 [.lst none 24 (lst e_S_rewrite_Expr ([] : List S_rewrite_Expr)), .lst r1 87 (lst e_S_pattern_Rule x2), .lst r2 87 (lst e_S_pattern_Rule x3), .obj h5.size (.map 2 LA.km35), .obj h4.size (.cells none 2 [rowV r2 x3.length, rowV r1 x2.length, rowV none (([] : List S_rewrite_Expr).length), .bool x4, .bool x5, .int .i64 x6, .bool x7, .int .i64 x8, .int .i64 x9, .int .i64 x10, .int .i64 x11, .int .i64 x12, .int .i64 x13, .int .i64 x14, .str x15, .bool x16, .bool x17, .bool x18, .str ((Lib.cut x19 ([10] : List UInt8)).2.1), .int .i64 (IntKind.i64.wrap (x20 + (IntKind.i64.wrap ((x19.length : Int) - (((Lib.cut x19 ([10] : List UInt8)).2.1).length : Int))))), .map (some h3.size)]), .obj h3.size (.map 2 (encM (fun k : List UInt8 => .str k) (fun v : Bool => .bool v) x21)), .obj h.size (.cells none 2 [.slice none 0, .slice none 0, .slice none 0, .bool false, .bool false, .int .i64 (0 : Int), .bool false, .int .i64 (0 : Int), .int .i64 (0 : Int), .int .i64 (0 : Int), .int .i64 (0 : Int), .int .i64 (0 : Int), .int .i64 (0 : Int), .int .i64 (0 : Int)])] F := A1
    refine at_step (v := .tuple []) (h1 := h9) [(2, .ptr (some (h.size, 0))), (5, .ptr (some (h4.size, 0))), (6, .map (some h5.size)), (7, .str ((Lib.cut x19 ([10] : List UInt8)).1)), (10, .int .i64 x20)] H (fun fr => by kernel_rfl) (fun fr => .of (s_st (by kernel_rfl) rfl hx)) ?_
    intro fr t H
    refine at_nil ?_
    show AW cfg 15 g (right (right (right (right (left (right (left (left (left (right (right (right (right (bodyC cfg.P 15)))))))))))))) fr h9 _
    refine aw_seq (by kernel_rfl) ?_
    refine aw_reg (id := 10) (n := 7) [(0, []), (1, []), (2, []), (3, []), (4, []), (5, []), (6, [])] (by kernel_rfl) (by kernel_rfl) ?_
    refine at_seg [(0, []), (1, []), (2, []), (3, [])] [(2, .ptr (some (h.size, 0))), (5, .ptr (some (h4.size, 0))), (6, .map (some h5.size)), (60, .ptr (some (h4.size, 0))), (61, .str ((Lib.cut x19 ([10] : List UInt8)).1)), (62, .int .i64 x20), (63, .map (some h5.size))] H (noU_all rfl) (fun fr => by kernel_rfl) ?_
    intro fr H
    replace A : HH g h9 [.obj h4.size (.cells none 2 [rowV r2 x3.length, rowV r1 x2.length, rowV none (([] : List S_rewrite_Expr).length), .bool x4, .bool x5, .int .i64 x6, .bool x7, .int .i64 x8, .int .i64 x9, .int .i64 x10, .int .i64 x11, .int .i64 x12, .int .i64 x13, .int .i64 x14, .str x15, .bool x16, .bool x17, .bool x18, .str ((Lib.cut x19 ([10] : List UInt8)).2.1), .int .i64 (IntKind.i64.wrap (x20 + (IntKind.i64.wrap ((x19.length : Int) - (((Lib.cut x19 ([10] : List UInt8)).2.1).length : Int))))), .map (some h3.size)]), .lst r2 87 (lst e_S_pattern_Rule x3), .lst r1 87 (lst e_S_pattern_Rule x2), .lst none 24 (lst e_S_rewrite_Expr ([] : List S_rewrite_Expr)), .obj h3.size (.map 2 (encM (fun k : List UInt8 => .str k) (fun v : Bool => .bool v) x21)), .obj h5.size (.map 2 LA.km35), .obj h.size (.cells none 2 [.slice none 0, .slice none 0, .slice none 0, .bool false, .bool false, .int .i64 (0 : Int), .bool false, .int .i64 (0 : Int), .int .i64 (0 : Int), .int .i64 (0 : Int), .int .i64 (0 : Int), .int .i64 (0 : Int), .int .i64 (0 : Int), .int .i64 (0 : Int)])] F := ((((((A.front 3 rfl).front 5 rfl).front 2 rfl).front 3 rfl).front 4 rfl).front 5 rfl)
    have A1 := A.cut 6
    obtain ⟨⟨x64, x65, x66, x67, x68⟩, hx, hm⟩ := bind_some hm
    obtain ⟨v1, h10, hr, r7, r8, rfl, A1⟩ := ok_option_reading_line_sPOOOSIK (av := [.ptr (some (h4.size, 0)), .str ((Lib.cut x19 ([10] : List UInt8)).1), .int .i64 x20, .map (some h5.size)]) hx (by kernel_rfl) A1
    replace A : HH g h10 [.obj h4.size (.cells none 2 [rowV r7 x66.length, rowV r8 x67.length, rowV none (([] : List S_rewrite_Expr).length), .bool x65.c_.Vcs, .bool x65.c_.Backups, .int .i64 x65.c_.Caches, .bool x65.c_.Dated, .int .i64 x65.c_.Newer.Sec, .int .i64 x65.c_.Newer.Nsec, .int .i64 x65.c_.Nth, .int .i64 x65.c_.Strip, .int .i64 x65.c_.Name, .int .i64 x65.c_.Head, .int .i64 x65.c_.States, .str x65.flags_.Text, .bool x65.flags_.Anchored, .bool x65.flags_.Fold, .bool x65.flags_.Slash, .str x65.rest_, .int .i64 x65.at_, .map (some h3.size)]), .lst r7 87 (lst e_S_pattern_Rule x66), .lst r8 87 (lst e_S_pattern_Rule x67), .lst none 24 (lst e_S_rewrite_Expr ([] : List S_rewrite_Expr)), .obj h3.size (.map 2 (encM (fun k : List UInt8 => .str k) (fun v : Bool => .bool v) x68)), .obj h5.size (.map 2 LA.km35), .obj h.size (.cells none 2 [.slice none 0, .slice none 0, .slice none 0, .bool false, .bool false, .int .i64 (0 : Int), .bool false, .int .i64 (0 : Int), .int .i64 (0 : Int), .int .i64 (0 : Int), .int .i64 (0 : Int), .int .i64 (0 : Int), .int .i64 (0 : Int), .int .i64 (0 : Int)])] F := A.glue0 (n := 6) A1
    refine at_step (v := .agg [.int .i64 x64.e_, .int .i64 x64.at_]) (h1 := h10) [(2, .ptr (some (h.size, 0))), (5, .ptr (some (h4.size, 0))), (6, .map (some h5.size)), (64, .agg [.int .i64 x64.e_, .int .i64 x64.at_])] H (fun fr => by kernel_rfl) (fun fr => Steps.call (by kernel_rfl) hr) ?_
    intro fr t H
    obtain ⟨h11, e5⟩ : ∃ x, x = h10.push (.cells none 2 [.int .i64 (0 : Int), .int .i64 (0 : Int)]) := ⟨_, rfl⟩
    replace A := (A.push _).to e5
    refine at_step (v := .ptr (some (h10.size, 0))) (h1 := h11) [(2, .ptr (some (h.size, 0))), (5, .ptr (some (h4.size, 0))), (6, .map (some h5.size)), (11, .ptr (some (h10.size, 0))), (64, .agg [.int .i64 x64.e_, .int .i64 x64.at_])] H (fun fr => by kernel_rfl) (fun fr => .of (s_n' (by kernel_rfl) (congrArg some e5.symm))) ?_
    intro fr t H
    obtain ⟨h12, hx, A1⟩ := A.st 0 rfl (o := 0) (new := [.int .i64 x64.e_, .int .i64 x64.at_]) (ds := [.int .i64 x64.e_, .int .i64 x64.at_]) (Nat.le_of_ble_eq_true rfl) rfl rfl
    replace A : HH g h12 [.obj h10.size (.cells none 2 [.int .i64 x64.e_, .int .i64 x64.at_]), .obj h4.size (.cells none 2 [rowV r7 x66.length, rowV r8 x67.length, rowV none (([] : List S_rewrite_Expr).length), .bool x65.c_.Vcs, .bool x65.c_.Backups, .int .i64 x65.c_.Caches, .bool x65.c_.Dated, .int .i64 x65.c_.Newer.Sec, .int .i64 x65.c_.Newer.Nsec, .int .i64 x65.c_.Nth, .int .i64 x65.c_.Strip, .int .i64 x65.c_.Name, .int .i64 x65.c_.Head, .int .i64 x65.c_.States, .str x65.flags_.Text, .bool x65.flags_.Anchored, .bool x65.flags_.Fold, .bool x65.flags_.Slash, .str x65.rest_, .int .i64 x65.at_, .map (some h3.size)]), .lst r7 87 (lst e_S_pattern_Rule x66), .lst r8 87 (lst e_S_pattern_Rule x67), .lst none 24 (lst e_S_rewrite_Expr ([] : List S_rewrite_Expr)), .obj h3.size (.map 2 (encM (fun k : List UInt8 => .str k) (fun v : Bool => .bool v) x68)), .obj h5.size (.map 2 LA.km35), .obj h.size (.cells none 2 [.slice none 0, .slice none 0, .slice none 0, .bool false, .bool false, .int .i64 (0 : Int), .bool false, .int .i64 (0 : Int), .int .i64 (0 : Int), .int .i64 (0 : Int), .int .i64 (0 : Int), .int .i64 (0 : Int), .int .i64 (0 : Int), .int .i64 (0 : Int)])] F := A1
    refine at_step (v := .tuple []) (h1 := h12) [(2, .ptr (some (h.size, 0))), (5, .ptr (some (h4.size, 0))), (6, .map (some h5.size)), (11, .ptr (some (h10.size, 0)))] H (fun fr => by kernel_rfl) (fun fr => .of (s_stG (by kernel_rfl) (stG_st hx rfl))) ?_
    intro fr t H
    refine at_nil ?_
    show AW cfg 15 g (right (right (right (right (right (left (right (left (left (left (right (right (right (right (bodyC cfg.P 15))))))))))))))) fr h12 _
    refine aw_seq (by kernel_rfl) ?_
    refine aw_draw (id := 11) (n := 3) (by kernel_rfl) [(0, []), (1, [0]), (2, [])] (by kernel_rfl) ?_
    refine at_stepT (v := .agg [.int .i64 x64.e_, .int .i64 x64.at_]) (h1 := h12) (tch' := [(0, h10.size)]) (g.prot) [(2, .ptr (some (h.size, 0))), (5, .ptr (some (h4.size, 0))), (6, .map (some h5.size)), (11, .ptr (some (h10.size, 0))), (65, .agg [.int .i64 x64.e_, .int .i64 x64.at_])] H (fun fr => by kernel_rfl) (by kernel_rfl) (fun fr => by kernel_rfl) (fun fr => .of (s_ldA (by kernel_rfl) (A.ldA 0 rfl (o := 0) (n := 2) ⟨Nat.le_of_ble_eq_true rfl, rfl⟩))) (fun fr => by kernel_rfl) ?_
    intro fr H
    have A1 := A.prot2 0 (pr := [h10.size]) (.cons 0 rfl (by simp [Ck.ids]) .nil)
    obtain ⟨x69, hx, hm⟩ := bind_some hm
    obtain ⟨v1, h13, hr, rfl, A1⟩ := ok_option_none (av := []) hx (by kernel_rfl) A1
    replace A : HH g h13 [.obj h10.size (.cells none 2 [.int .i64 x64.e_, .int .i64 x64.at_]), .obj h4.size (.cells none 2 [rowV r7 x66.length, rowV r8 x67.length, rowV none (([] : List S_rewrite_Expr).length), .bool x65.c_.Vcs, .bool x65.c_.Backups, .int .i64 x65.c_.Caches, .bool x65.c_.Dated, .int .i64 x65.c_.Newer.Sec, .int .i64 x65.c_.Newer.Nsec, .int .i64 x65.c_.Nth, .int .i64 x65.c_.Strip, .int .i64 x65.c_.Name, .int .i64 x65.c_.Head, .int .i64 x65.c_.States, .str x65.flags_.Text, .bool x65.flags_.Anchored, .bool x65.flags_.Fold, .bool x65.flags_.Slash, .str x65.rest_, .int .i64 x65.at_, .map (some h3.size)]), .lst r7 87 (lst e_S_pattern_Rule x66), .lst r8 87 (lst e_S_pattern_Rule x67), .lst none 24 (lst e_S_rewrite_Expr ([] : List S_rewrite_Expr)), .obj h3.size (.map 2 (encM (fun k : List UInt8 => .str k) (fun v : Bool => .bool v) x68)), .obj h5.size (.map 2 LA.km35), .obj h.size (.cells none 2 [.slice none 0, .slice none 0, .slice none 0, .bool false, .bool false, .int .i64 (0 : Int), .bool false, .int .i64 (0 : Int), .int .i64 (0 : Int), .int .i64 (0 : Int), .int .i64 (0 : Int), .int .i64 (0 : Int), .int .i64 (0 : Int), .int .i64 (0 : Int)])] F := A.glueP (n := 0) A1
    refine at_stepT (v := .agg [.int .i64 x69.e_, .int .i64 x69.at_]) (h1 := h13) (tch' := [(0, h10.size)]) (h10.size :: g.prot) [(2, .ptr (some (h.size, 0))), (5, .ptr (some (h4.size, 0))), (6, .map (some h5.size)), (11, .ptr (some (h10.size, 0))), (65, .agg [.int .i64 x64.e_, .int .i64 x64.at_]), (66, .agg [.int .i64 x69.e_, .int .i64 x69.at_])] H (fun fr => by kernel_rfl) (by kernel_rfl) (fun fr => by kernel_rfl) (fun fr => Steps.call (by kernel_rfl) hr) (fun fr => by kernel_rfl) ?_
    intro fr H
    obtain ⟨x70, hx, hm⟩ := bind_some hm
    refine at_stepT (v := .bool (!x70)) (h1 := h13) (tch' := [(0, h10.size)]) (g.prot) [(2, .ptr (some (h.size, 0))), (5, .ptr (some (h4.size, 0))), (6, .map (some h5.size)), (11, .ptr (some (h10.size, 0))), (67, .bool (!x70))] H (fun fr => by kernel_rfl) (by kernel_rfl) (fun fr => by kernel_rfl) (fun fr => .of (s_neG (by kernel_rfl) hx)) (fun fr => by kernel_rfl) ?_
    intro fr H
    refine at_nil ?_
    show AW cfg 15 g (right (right (right (right (right (right (left (right (left (left (left (right (right (right (right (bodyC cfg.P 15)))))))))))))))) fr h13 _
    rcases iteB_some hm with ⟨hb, hm⟩ | ⟨hb, hm⟩
    ·replace H := H.know 67 hb (by kernel_rfl)
     refine aw_true (x := .tmp 67) (by kernel_rfl) H (fun fr => by kernel_rfl) ?_
     refine aw_seq (by kernel_rfl) ?_
     refine aw_draw (id := 12) (n := 8) (by kernel_rfl) [(0, []), (1, []), (2, []), (3, []), (4, []), (5, [2, 4]), (6, []), (7, [])] (by kernel_rfl) ?_
     refine at_seg [(0, []), (1, [])] [(2, .ptr (some (h.size, 0))), (11, .ptr (some (h10.size, 0))), (68, .agg [.slice none 0, .slice none 0, .slice none 0, .bool false, .bool false, .int .i64 (0 : Int), .bool false, .int .i64 (0 : Int), .int .i64 (0 : Int), .int .i64 (0 : Int), .int .i64 (0 : Int), .int .i64 (0 : Int), .int .i64 (0 : Int), .int .i64 (0 : Int)]), (69, .ptr (some (h10.size, 1)))] H (noU_all rfl) (fun fr => by kernel_rfl) ?_
     intro fr H
     refine at_stepT (v := .int .i64 x64.at_) (h1 := h13) (tch' := [(2, h10.size)]) (g.prot) [(2, .ptr (some (h.size, 0))), (11, .ptr (some (h10.size, 0))), (68, .agg [.slice none 0, .slice none 0, .slice none 0, .bool false, .bool false, .int .i64 (0 : Int), .bool false, .int .i64 (0 : Int), .int .i64 (0 : Int), .int .i64 (0 : Int), .int .i64 (0 : Int), .int .i64 (0 : Int), .int .i64 (0 : Int), .int .i64 (0 : Int)]), (70, .int .i64 x64.at_)] H (fun fr => by kernel_rfl) (by kernel_rfl) (fun fr => by kernel_rfl) (fun fr => .of (s_ld (by kernel_rfl) (A.ld1 0 rfl (o := 1) rfl))) (fun fr => by kernel_rfl) ?_
     intro fr H
     refine at_seg [(3, [])] [(2, .ptr (some (h.size, 0))), (68, .agg [.slice none 0, .slice none 0, .slice none 0, .bool false, .bool false, .int .i64 (0 : Int), .bool false, .int .i64 (0 : Int), .int .i64 (0 : Int), .int .i64 (0 : Int), .int .i64 (0 : Int), .int .i64 (0 : Int), .int .i64 (0 : Int), .int .i64 (0 : Int)]), (70, .int .i64 x64.at_), (71, .ptr (some (h10.size, 0)))] H (noU_all rfl) (fun fr => by kernel_rfl) ?_
     intro fr H
     refine at_stepT (v := .int .i64 x64.e_) (h1 := h13) (tch' := [(4, h10.size), (2, h10.size)]) (g.prot) [(2, .ptr (some (h.size, 0))), (68, .agg [.slice none 0, .slice none 0, .slice none 0, .bool false, .bool false, .int .i64 (0 : Int), .bool false, .int .i64 (0 : Int), .int .i64 (0 : Int), .int .i64 (0 : Int), .int .i64 (0 : Int), .int .i64 (0 : Int), .int .i64 (0 : Int), .int .i64 (0 : Int)]), (70, .int .i64 x64.at_), (72, .int .i64 x64.e_)] H (fun fr => by kernel_rfl) (by kernel_rfl) (fun fr => by kernel_rfl) (fun fr => .of (s_ld (by kernel_rfl) (A.ld1 0 rfl (o := 0) rfl))) (fun fr => by kernel_rfl) ?_
     intro fr H
     replace A : HH g h13 [.obj h.size (.cells none 2 [.slice none 0, .slice none 0, .slice none 0, .bool false, .bool false, .int .i64 (0 : Int), .bool false, .int .i64 (0 : Int), .int .i64 (0 : Int), .int .i64 (0 : Int), .int .i64 (0 : Int), .int .i64 (0 : Int), .int .i64 (0 : Int), .int .i64 (0 : Int)]), .obj h10.size (.cells none 2 [.int .i64 x64.e_, .int .i64 x64.at_]), .obj h4.size (.cells none 2 [rowV r7 x66.length, rowV r8 x67.length, rowV none (([] : List S_rewrite_Expr).length), .bool x65.c_.Vcs, .bool x65.c_.Backups, .int .i64 x65.c_.Caches, .bool x65.c_.Dated, .int .i64 x65.c_.Newer.Sec, .int .i64 x65.c_.Newer.Nsec, .int .i64 x65.c_.Nth, .int .i64 x65.c_.Strip, .int .i64 x65.c_.Name, .int .i64 x65.c_.Head, .int .i64 x65.c_.States, .str x65.flags_.Text, .bool x65.flags_.Anchored, .bool x65.flags_.Fold, .bool x65.flags_.Slash, .str x65.rest_, .int .i64 x65.at_, .map (some h3.size)]), .lst r7 87 (lst e_S_pattern_Rule x66), .lst r8 87 (lst e_S_pattern_Rule x67), .lst none 24 (lst e_S_rewrite_Expr ([] : List S_rewrite_Expr)), .obj h3.size (.map 2 (encM (fun k : List UInt8 => .str k) (fun v : Bool => .bool v) x68)), .obj h5.size (.map 2 LA.km35)] F := (A.front 7 rfl)
     have A1 := A.prot2 1 (pr := [h10.size, h10.size]) (.cons 0 rfl (by simp [Ck.ids]) (.cons 0 rfl (by simp [Ck.ids]) .nil))
     obtain ⟨h14, hx, A1⟩ := A1.st 0 rfl (o := 0) (new := [.slice none 0, .slice none 0, .slice none 0, .bool false, .bool false, .int .i64 (0 : Int), .bool false, .int .i64 (0 : Int), .int .i64 (0 : Int), .int .i64 (0 : Int), .int .i64 (0 : Int), .int .i64 (0 : Int), .int .i64 (0 : Int), .int .i64 (0 : Int)]) (ds := [.slice none 0, .slice none 0, .slice none 0, .bool false, .bool false, .int .i64 (0 : Int), .bool false, .int .i64 (0 : Int), .int .i64 (0 : Int), .int .i64 (0 : Int), .int .i64 (0 : Int), .int .i64 (0 : Int), .int .i64 (0 : Int), .int .i64 (0 : Int)]) (Nat.le_of_ble_eq_true rfl) rfl rfl
     replace A : HH g h14 [.obj h.size (.cells none 2 [.slice none 0, .slice none 0, .slice none 0, .bool false, .bool false, .int .i64 (0 : Int), .bool false, .int .i64 (0 : Int), .int .i64 (0 : Int), .int .i64 (0 : Int), .int .i64 (0 : Int), .int .i64 (0 : Int), .int .i64 (0 : Int), .int .i64 (0 : Int)]), .obj h10.size (.cells none 2 [.int .i64 x64.e_, .int .i64 x64.at_]), .obj h4.size (.cells none 2 [rowV r7 x66.length, rowV r8 x67.length, rowV none (([] : List S_rewrite_Expr).length), .bool x65.c_.Vcs, .bool x65.c_.Backups, .int .i64 x65.c_.Caches, .bool x65.c_.Dated, .int .i64 x65.c_.Newer.Sec, .int .i64 x65.c_.Newer.Nsec, .int .i64 x65.c_.Nth, .int .i64 x65.c_.Strip, .int .i64 x65.c_.Name, .int .i64 x65.c_.Head, .int .i64 x65.c_.States, .str x65.flags_.Text, .bool x65.flags_.Anchored, .bool x65.flags_.Fold, .bool x65.flags_.Slash, .str x65.rest_, .int .i64 x65.at_, .map (some h3.size)]), .lst r7 87 (lst e_S_pattern_Rule x66), .lst r8 87 (lst e_S_pattern_Rule x67), .lst none 24 (lst e_S_rewrite_Expr ([] : List S_rewrite_Expr)), .obj h3.size (.map 2 (encM (fun k : List UInt8 => .str k) (fun v : Bool => .bool v) x68)), .obj h5.size (.map 2 LA.km35)] F := A.glueP (n := 1) A1
     refine at_stepT (v := .tuple []) (h1 := h14) (tch' := [(4, h10.size), (2, h10.size)]) (h10.size :: h10.size :: g.prot) [(2, .ptr (some (h.size, 0))), (70, .int .i64 x64.at_), (72, .int .i64 x64.e_)] H (fun fr => by kernel_rfl) (by kernel_rfl) (fun fr => by kernel_rfl) (fun fr => .of (s_stG (by kernel_rfl) (stG_st hx rfl))) (fun fr => by kernel_rfl) ?_
     intro fr H
     refine at_seg [(6, []), (7, [])] [(2, .ptr (some (h.size, 0))), (3, .int .i64 x64.at_), (4, .int .i64 x64.e_)] H (noU_all rfl) (fun fr => by kernel_rfl) ?_
     intro fr H
     refine at_nil ?_
     show AW cfg 15 g (right (left (right (right (right (right (right (right (left (right (left (left (left (right (right (right (right (bodyC cfg.P 15)))))))))))))))))) fr h14 _
     refine aw_ret (by kernel_rfl) ?_
     replace A : HH g h14 [.lst none 24 (lst e_S_rewrite_Expr ([] : List S_rewrite_Expr)), .lst r8 87 (lst e_S_pattern_Rule x67), .lst r7 87 (lst e_S_pattern_Rule x66), .obj h5.size (.map 2 LA.km35), .obj h4.size (.cells none 2 [rowV r7 x66.length, rowV r8 x67.length, rowV none (([] : List S_rewrite_Expr).length), .bool x65.c_.Vcs, .bool x65.c_.Backups, .int .i64 x65.c_.Caches, .bool x65.c_.Dated, .int .i64 x65.c_.Newer.Sec, .int .i64 x65.c_.Newer.Nsec, .int .i64 x65.c_.Nth, .int .i64 x65.c_.Strip, .int .i64 x65.c_.Name, .int .i64 x65.c_.Head, .int .i64 x65.c_.States, .str x65.flags_.Text, .bool x65.flags_.Anchored, .bool x65.flags_.Fold, .bool x65.flags_.Slash, .str x65.rest_, .int .i64 x65.at_, .map (some h3.size)]), .obj h3.size (.map 2 (encM (fun k : List UInt8 => .str k) (fun v : Bool => .bool v) x68)), .obj h.size (.cells none 2 [.slice none 0, .slice none 0, .slice none 0, .bool false, .bool false, .int .i64 (0 : Int), .bool false, .int .i64 (0 : Int), .int .i64 (0 : Int), .int .i64 (0 : Int), .int .i64 (0 : Int), .int .i64 (0 : Int), .int .i64 (0 : Int), .int .i64 (0 : Int)])] F := (HH.dropF (((((((A.front 0 rfl).front 6 rfl).front 3 rfl).front 7 rfl).front 5 rfl).front 6 rfl).front 7 rfl) 7)
     exact Exists.intro _ (And.intro (Option.some.inj hm).symm (fun e => Or.inr (Or.inl ⟨x67, x66, x65.c_.Vcs, x65.c_.Backups, x65.c_.Caches, x65.c_.Dated, x65.c_.Newer.Sec, x65.c_.Newer.Nsec, x65.c_.Nth, x65.c_.Strip, x65.c_.Name, x65.c_.Head, x65.c_.States, x65.flags_.Text, x65.flags_.Anchored, x65.flags_.Fold, x65.flags_.Slash, x65.rest_, x65.at_, x68, x64.at_, x64.e_, rfl, e, r8, r7, H.less _ (fun fr => by kernel_rfl), A⟩)))
    ·replace H := H.know 67 hb (by kernel_rfl)
     refine aw_false (x := .tmp 67) (by kernel_rfl) H (fun fr => by kernel_rfl) ?_
     refine aw_skip (by kernel_rfl) ?_
     replace A : HH g h13 [.lst none 24 (lst e_S_rewrite_Expr ([] : List S_rewrite_Expr)), .lst r8 87 (lst e_S_pattern_Rule x67), .lst r7 87 (lst e_S_pattern_Rule x66), .obj h5.size (.map 2 LA.km35), .obj h4.size (.cells none 2 [rowV r7 x66.length, rowV r8 x67.length, rowV none (([] : List S_rewrite_Expr).length), .bool x65.c_.Vcs, .bool x65.c_.Backups, .int .i64 x65.c_.Caches, .bool x65.c_.Dated, .int .i64 x65.c_.Newer.Sec, .int .i64 x65.c_.Newer.Nsec, .int .i64 x65.c_.Nth, .int .i64 x65.c_.Strip, .int .i64 x65.c_.Name, .int .i64 x65.c_.Head, .int .i64 x65.c_.States, .str x65.flags_.Text, .bool x65.flags_.Anchored, .bool x65.flags_.Fold, .bool x65.flags_.Slash, .str x65.rest_, .int .i64 x65.at_, .map (some h3.size)]), .obj h3.size (.map 2 (encM (fun k : List UInt8 => .str k) (fun v : Bool => .bool v) x68)), .obj h.size (.cells none 2 [.slice none 0, .slice none 0, .slice none 0, .bool false, .bool false, .int .i64 (0 : Int), .bool false, .int .i64 (0 : Int), .int .i64 (0 : Int), .int .i64 (0 : Int), .int .i64 (0 : Int), .int .i64 (0 : Int), .int .i64 (0 : Int), .int .i64 (0 : Int)])] F := (HH.dropF (((((((A.front 7 rfl).front 6 rfl).front 3 rfl).front 7 rfl).front 5 rfl).front 6 rfl).front 7 rfl) 7)
     exact Exists.intro (x67, x66, x65.c_.Vcs, x65.c_.Backups, x65.c_.Caches, x65.c_.Dated, x65.c_.Newer.Sec, x65.c_.Newer.Nsec, x65.c_.Nth, x65.c_.Strip, x65.c_.Name, x65.c_.Head, x65.c_.States, x65.flags_.Text, x65.flags_.Anchored, x65.flags_.Fold, x65.flags_.Slash, x65.rest_, x65.at_, x68) (And.intro (Option.some.inj hm).symm ⟨x67, x66, x65.c_.Vcs, x65.c_.Backups, x65.c_.Caches, x65.c_.Dated, x65.c_.Newer.Sec, x65.c_.Newer.Nsec, x65.c_.Nth, x65.c_.Strip, x65.c_.Name, x65.c_.Head, x65.c_.States, x65.flags_.Text, x65.flags_.Anchored, x65.flags_.Fold, x65.flags_.Slash, x65.rest_, x65.at_, x68, rfl, r8, r7, H.less _ (fun fr => by kernel_rfl), A⟩)
   ·replace H := H.know 27 hb (by kernel_rfl)
    refine aw_false (x := .tmp 27) (by kernel_rfl) H (fun fr => by kernel_rfl) ?_
    refine aw_exit (i := 0) (by kernel_rfl) ?_
    exact Exists.intro _ (And.intro (Option.some.inj hm).symm (fun e => Or.inl ⟨x2, x3, x4, x5, x6, x7, x8, x9, x10, x11, x12, x13, x14, x15, x16, x17, x18, x19, x20, x21, rfl, e, r1, r2, H.less _ (fun fr => by kernel_rfl), A⟩))
  ·clear ho
   clear A
   intro e fr h15 hQ
   rcases hQ with ⟨x22, x23, x24, x25, x26, x27, x28, x29, x30, x31, x32, x33, x34, x35, x36, x37, x38, x39, x40, x41, rfl, rfl, r3, r4, H, A⟩ | ⟨x42, x43, x44, x45, x46, x47, x48, x49, x50, x51, x52, x53, x54, x55, x56, x57, x58, x59, x60, x61, x62, x63, rfl, rfl, r5, r6, H, A⟩ | hF
   ·skip
    show AW cfg 15 g (right (right (right (right (right (bodyC cfg.P 15)))))) fr h15 _
    refine aw_seq (by kernel_rfl) ?_
    refine aw_reg (id := 13) (n := 7) [(0, []), (1, []), (2, []), (3, []), (4, []), (5, []), (6, [])] (by kernel_rfl) (by kernel_rfl) ?_
    refine at_seg [(0, []), (1, []), (2, [])] [(2, .ptr (some (h.size, 0))), (75, .ptr (some (h4.size, 0)))] H (noU_all rfl) (fun fr => by kernel_rfl) ?_
    intro fr H
    refine at_step (v := .agg [rowV r4 x23.length, rowV r3 x22.length, rowV none (([] : List S_rewrite_Expr).length), .bool x24, .bool x25, .int .i64 x26, .bool x27, .int .i64 x28, .int .i64 x29, .int .i64 x30, .int .i64 x31, .int .i64 x32, .int .i64 x33, .int .i64 x34]) (h1 := h15) [(2, .ptr (some (h.size, 0))), (76, .agg [rowV r4 x23.length, rowV r3 x22.length, rowV none (([] : List S_rewrite_Expr).length), .bool x24, .bool x25, .int .i64 x26, .bool x27, .int .i64 x28, .int .i64 x29, .int .i64 x30, .int .i64 x31, .int .i64 x32, .int .i64 x33, .int .i64 x34])] H (fun fr => by kernel_rfl) (fun fr => .of (s_ldA (by kernel_rfl) (A.ldA 4 rfl (o := 0) (n := 14) ⟨Nat.le_of_ble_eq_true rfl, rfl⟩))) ?_
    intro fr t H
    obtain ⟨h16, hx, A1⟩ := A.st 6 rfl (o := 0) (new := [rowV r4 x23.length, rowV r3 x22.length, rowV none (([] : List S_rewrite_Expr).length), .bool x24, .bool x25, .int .i64 x26, .bool x27, .int .i64 x28, .int .i64 x29, .int .i64 x30, .int .i64 x31, .int .i64 x32, .int .i64 x33, .int .i64 x34]) (ds := [rowV r4 x23.length, rowV r3 x22.length, rowV none (([] : List S_rewrite_Expr).length), .bool x24, .bool x25, .int .i64 x26, .bool x27, .int .i64 x28, .int .i64 x29, .int .i64 x30, .int .i64 x31, .int .i64 x32, .int .i64 x33, .int .i64 x34]) (Nat.le_of_ble_eq_true rfl) rfl rfl
    replace A : HH g h16 [.lst none 24 (lst e_S_rewrite_Expr ([] : List S_rewrite_Expr)), .lst r3 87 (lst e_S_pattern_Rule x22), .lst r4 87 (lst e_S_pattern_Rule x23), .obj h5.size (.map 2 LA.km35), .obj h4.size (.cells none 2 [rowV r4 x23.length, rowV r3 x22.length, rowV none (([] : List S_rewrite_Expr).length), .bool x24, .bool x25, .int .i64 x26, .bool x27, .int .i64 x28, .int .i64 x29, .int .i64 x30, .int .i64 x31, .int .i64 x32, .int .i64 x33, .int .i64 x34, .str x35, .bool x36, .bool x37, .bool x38, .str x39, .int .i64 x40, .map (some h3.size)]), .obj h3.size (.map 2 (encM (fun k : List UInt8 => .str k) (fun v : Bool => .bool v) x41)), .obj h.size (.cells none 2 [rowV r4 x23.length, rowV r3 x22.length, rowV none (([] : List S_rewrite_Expr).length), .bool x24, .bool x25, .int .i64 x26, .bool x27, .int .i64 x28, .int .i64 x29, .int .i64 x30, .int .i64 x31, .int .i64 x32, .int .i64 x33, .int .i64 x34])] F := A1
    refine at_step (v := .tuple []) (h1 := h16) [(2, .ptr (some (h.size, 0)))] H (fun fr => by kernel_rfl) (fun fr => .of (s_stG (by kernel_rfl) (stG_st hx rfl))) ?_
    intro fr t H
    refine at_seg [(5, []), (6, [])] [(2, .ptr (some (h.size, 0))), (3, .int .i64 (0 : Int)), (4, .int .i64 (0 : Int))] H (noU_all rfl) (fun fr => by kernel_rfl) ?_
    intro fr H
    refine at_nil ?_
    show AW cfg 15 g (right (right (right (right (right (right (bodyC cfg.P 15))))))) fr h16 _
    refine aw_ret (by kernel_rfl) ?_
    have e0 := Option.some.inj hm
    obtain ⟨y0, z0⟩ := Prod.mk.inj e0
    obtain ⟨y1, z1⟩ := Prod.mk.inj z0
    subst y0
    subst y1
    subst z1
    refine ⟨.inl rfl, .tuple [.agg [rowV r4 x23.length, rowV r3 x22.length, rowV none (([] : List S_rewrite_Expr).length), .bool x24, .bool x25, .int .i64 x26, .bool x27, .int .i64 x28, .int .i64 x29, .int .i64 x30, .int .i64 x31, .int .i64 x32, .int .i64 x33, .int .i64 x34], .int .i64 (0 : Int), .int .i64 (0 : Int)], resL_many (.cell (resT H (fun fr => by kernel_rfl)) (load_ldA (by kernel_rfl) (by kernel_rfl) (A.ldA 6 rfl (o := 0) (n := 14) ⟨Nat.le_of_ble_eq_true rfl, rfl⟩)) (.tmp (resT H (fun fr => by kernel_rfl)) (.tmp (resT H (fun fr => by kernel_rfl)) .nil))), ?_⟩
    obtain ⟨h17, hz0, A1⟩ := (A.front 2 rfl).frz (n := x23.length) (z := 4) (enc_S_pattern_Rule.lenL _) (by decide)
    replace A : HH g h17 [.lst none 24 (lst e_S_rewrite_Expr ([] : List S_rewrite_Expr)), .lst r3 87 (lst e_S_pattern_Rule x22), .obj h5.size (.map 2 LA.km35), .obj h4.size (.cells none 2 [rowV r4 x23.length, rowV r3 x22.length, rowV none (([] : List S_rewrite_Expr).length), .bool x24, .bool x25, .int .i64 x26, .bool x27, .int .i64 x28, .int .i64 x29, .int .i64 x30, .int .i64 x31, .int .i64 x32, .int .i64 x33, .int .i64 x34, .str x35, .bool x36, .bool x37, .bool x38, .str x39, .int .i64 x40, .map (some h3.size)]), .obj h3.size (.map 2 (encM (fun k : List UInt8 => .str k) (fun v : Bool => .bool v) x41)), .obj h.size (.cells none 2 [rowV r4 x23.length, rowV r3 x22.length, rowV none (([] : List S_rewrite_Expr).length), .bool x24, .bool x25, .int .i64 x26, .bool x27, .int .i64 x28, .int .i64 x29, .int .i64 x30, .int .i64 x31, .int .i64 x32, .int .i64 x33, .int .i64 x34])] F := A1
    obtain ⟨h18, hz1, A1⟩ := (A.front 1 rfl).frz (n := x22.length) (z := 4) (enc_S_pattern_Rule.lenL _) (by decide)
    replace A : HH g h18 [.lst none 24 (lst e_S_rewrite_Expr ([] : List S_rewrite_Expr)), .obj h5.size (.map 2 LA.km35), .obj h4.size (.cells none 2 [rowV r4 x23.length, rowV r3 x22.length, rowV none (([] : List S_rewrite_Expr).length), .bool x24, .bool x25, .int .i64 x26, .bool x27, .int .i64 x28, .int .i64 x29, .int .i64 x30, .int .i64 x31, .int .i64 x32, .int .i64 x33, .int .i64 x34, .str x35, .bool x36, .bool x37, .bool x38, .str x39, .int .i64 x40, .map (some h3.size)]), .obj h3.size (.map 2 (encM (fun k : List UInt8 => .str k) (fun v : Bool => .bool v) x41)), .obj h.size (.cells none 2 [rowV r4 x23.length, rowV r3 x22.length, rowV none (([] : List S_rewrite_Expr).length), .bool x24, .bool x25, .int .i64 x26, .bool x27, .int .i64 x28, .int .i64 x29, .int .i64 x30, .int .i64 x31, .int .i64 x32, .int .i64 x33, .int .i64 x34])] F := A1
    obtain ⟨h19, hz2, A1⟩ := (A.front 0 rfl).frz (n := ([] : List S_rewrite_Expr).length) (z := 9) (enc_S_rewrite_Expr.lenL _) (by decide)
    replace A : HH g h19 [.obj h5.size (.map 2 LA.km35), .obj h4.size (.cells none 2 [rowV r4 x23.length, rowV r3 x22.length, rowV none (([] : List S_rewrite_Expr).length), .bool x24, .bool x25, .int .i64 x26, .bool x27, .int .i64 x28, .int .i64 x29, .int .i64 x30, .int .i64 x31, .int .i64 x32, .int .i64 x33, .int .i64 x34, .str x35, .bool x36, .bool x37, .bool x38, .str x39, .int .i64 x40, .map (some h3.size)]), .obj h3.size (.map 2 (encM (fun k : List UInt8 => .str k) (fun v : Bool => .bool v) x41)), .obj h.size (.cells none 2 [rowV r4 x23.length, rowV r3 x22.length, rowV none (([] : List S_rewrite_Expr).length), .bool x24, .bool x25, .int .i64 x26, .bool x27, .int .i64 x28, .int .i64 x29, .int .i64 x30, .int .i64 x31, .int .i64 x32, .int .i64 x33, .int .i64 x34])] F := A1
    refine ⟨.tuple [.agg [vs e_S_pattern_Rule x23, vs e_S_pattern_Rule x22, vs e_S_rewrite_Expr ([] : List S_rewrite_Expr), .bool x24, .bool x25, .int .i64 x26, .bool x27, .int .i64 x28, .int .i64 x29, .int .i64 x30, .int .i64 x31, .int .i64 x32, .int .i64 x33, .int .i64 x34], .int .i64 (0 : Int), .int .i64 (0 : Int)], h19, by first | rfl | (simp only [fz3T, fz3A, fz3B, fz3R, fz2A, fz2R, fz2V, fz2I, fz2B, fz2S, fz2N, fzL0, fzL1, fz1I, fz1B, fz1S, fz1V, fz1N, Option.map_some, hz0, hz1, hz2] <;> rfl), ?_⟩
    replace A : HH g h19 [] F := (HH.dropF A 0)
    exact ⟨rfl, A⟩
   ·skip
    have e0 := Option.some.inj hm
    obtain ⟨y0, z0⟩ := Prod.mk.inj e0
    obtain ⟨y1, z1⟩ := Prod.mk.inj z0
    subst y0
    subst y1
    subst z1
    refine ⟨.inl rfl, .tuple [.agg [.slice none 0, .slice none 0, .slice none 0, .bool false, .bool false, .int .i64 (0 : Int), .bool false, .int .i64 (0 : Int), .int .i64 (0 : Int), .int .i64 (0 : Int), .int .i64 (0 : Int), .int .i64 (0 : Int), .int .i64 (0 : Int), .int .i64 (0 : Int)], .int .i64 x62, .int .i64 x63], resL_many (.cell (resT H (fun fr => by kernel_rfl)) (load_ldA (by kernel_rfl) (by kernel_rfl) (A.ldA 6 rfl (o := 0) (n := 14) ⟨Nat.le_of_ble_eq_true rfl, rfl⟩)) (.tmp (resT H (fun fr => by kernel_rfl)) (.tmp (resT H (fun fr => by kernel_rfl)) .nil))), ?_⟩
    refine ⟨.tuple [.agg [vs e_S_pattern_Rule ([] : List S_pattern_Rule), vs e_S_pattern_Rule ([] : List S_pattern_Rule), vs e_S_rewrite_Expr ([] : List S_rewrite_Expr), .bool false, .bool false, .int .i64 (0 : Int), .bool false, .int .i64 (0 : Int), .int .i64 (0 : Int), .int .i64 (0 : Int), .int .i64 (0 : Int), .int .i64 (0 : Int), .int .i64 (0 : Int), .int .i64 (0 : Int)], .int .i64 x62, .int .i64 x63], h15, by first | rfl | (simp only [fz3T, fz3A, fz3B, fz3R, fz2A, fz2R, fz2V, fz2I, fz2B, fz2S, fz2N, fzL0, fzL1, fz1I, fz1B, fz1S, fz1V, fz1N, Option.map_some] <;> rfl), ?_⟩
    replace A : HH g h15 [] F := (HH.dropF A 0)
    exact ⟨rfl, A⟩
   ·exact hF.elim
/-! ### slices.Equal[[]boulter/rewrite.Expr,boulter/rewrite.Expr] -/
noncomputable def M_slices_Equal_boulter_rewrite_Expr_boulter_rewrite_Expr_L0 (p0 : List S_rewrite_Expr) (p1 : List S_rewrite_Expr) (s : Int) : Option ((Int) ⊕ ((Unit) ⊕ (Bool))) :=
 match s with
 | x1 => iteB (decide (x1 < (p0.length : Int))) ((ixV p0 x1).bind fun x3 => (ixV p1 x1).bind fun x4 => (eqG cfg.P 24 [.str x3.Re, .str x3.Template, .bool x3.Global, .bool x3.Fold, .bool x3.Extended, .int .i64 x3.Number, .bool x3.Names, .bool x3.Soft, .bool x3.Hard] [.str x4.Re, .str x4.Template, .bool x4.Global, .bool x4.Fold, .bool x4.Extended, .int .i64 x4.Number, .bool x4.Names, .bool x4.Soft, .bool x4.Hard]).bind fun x5 => iteB (!x5) (some (.inr (.inr false))) (some (.inl (IntKind.i64.wrap (x1 + (1 : Int)))))) (some (.inr (.inl ())))
noncomputable def M_slices_Equal_boulter_rewrite_Expr_boulter_rewrite_Expr (p0 : List S_rewrite_Expr) (p1 : List S_rewrite_Expr) : Option (Bool) :=
 iteB ((p0.length : Int) != (p1.length : Int)) (some false) ((loop (M_slices_Equal_boulter_rewrite_Expr_boulter_rewrite_Expr_L0 p0 p1) (0 : Int)).bind fun o1 => (match o1 with | .inl _ => some true | .inr x2 => some x2))
theorem ok_slices_Equal_boulter_rewrite_Expr_boulter_rewrite_Expr {g : Gd} {h : AHeap} {F : List Ck} {p0 : List S_rewrite_Expr} {p1 : List S_rewrite_Expr} {q0 : Bool} {av : List AVal} (hm : M_slices_Equal_boulter_rewrite_Expr_boulter_rewrite_Expr p0 p1 = some q0) (hc : canL (cfg.still 40) av = [vs e_S_rewrite_Expr p0, vs e_S_rewrite_Expr p1]) (A : HH g h [] F) : ∃ v h', Runs cfg g h 40 av v h' ∧ v = .bool q0 ∧ HH g h' [] F := by
 refine runsQ1 (n := 26) (rs := [.tmp 4]) (by kernel_rfl) hc (by kernel_rfl) ?_
 clear hc
 unfold M_slices_Equal_boulter_rewrite_Expr_boulter_rewrite_Expr at hm
 refine start (n := 26) [(0, vs e_S_rewrite_Expr p0), (1, vs e_S_rewrite_Expr p1)] (by kernel_rfl) (by kernel_rfl) ?_
 intro fr H
 refine aw_seq (by kernel_rfl) ?_
 refine aw_reg (id := 0) (n := 1) [(0, [])] (by kernel_rfl) (by kernel_rfl) ?_
 refine at_seg [(0, [])] [(0, vs e_S_rewrite_Expr p0), (1, vs e_S_rewrite_Expr p1)] H (noU_all rfl) (fun fr => by kernel_rfl) ?_
 intro fr H
 refine at_nil ?_
 show AW cfg 40 g (right (bodyC cfg.P 40)) fr h _
 refine aw_seq (by kernel_rfl) ?_
 refine aw_seq (by kernel_rfl) ?_
 refine aw_reg (id := 1) (n := 5) [(0, []), (1, []), (2, []), (3, []), (4, [])] (by kernel_rfl) (by kernel_rfl) ?_
 refine at_seg [(0, []), (1, []), (2, []), (3, []), (4, [])] [(0, vs e_S_rewrite_Expr p0), (1, vs e_S_rewrite_Expr p1), (10, .bool ((p0.length : Int) != (p1.length : Int)))] H (noU_all rfl) (fun fr => by kernel_rfl) ?_
 intro fr H
 refine at_nil ?_
 show AW cfg 40 g (right (left (right (bodyC cfg.P 40)))) fr h _
 rcases iteB_some hm with ⟨hb, hm⟩ | ⟨hb, hm⟩
 ·replace H := H.know 10 hb (by kernel_rfl)
  refine aw_true (x := .tmp 10) (by kernel_rfl) H (fun fr => by kernel_rfl) ?_
  refine aw_seq (by kernel_rfl) ?_
  refine aw_reg (id := 2) (n := 1) [(0, [])] (by kernel_rfl) (by kernel_rfl) ?_
  refine at_seg [(0, [])] [(4, .bool false)] H (noU_all rfl) (fun fr => by kernel_rfl) ?_
  intro fr H
  refine at_nil ?_
  show AW cfg 40 g (right (left (right (left (right (bodyC cfg.P 40)))))) fr h _
  refine aw_ret (by kernel_rfl) ?_
  have e1 := Option.some.inj hm
  subst e1
  refine ⟨.inl rfl, .bool false, resH H (fun fr => by kernel_rfl), ?_⟩
  exact ⟨rfl, A⟩
 ·replace H := H.know 10 hb (by kernel_rfl)
  refine aw_false (x := .tmp 10) (by kernel_rfl) H (fun fr => by kernel_rfl) ?_
  refine aw_skip (by kernel_rfl) ?_
  show AW cfg 40 g (right (right (bodyC cfg.P 40))) fr h _
  refine aw_seq (by kernel_rfl) ?_
  refine aw_seq (by kernel_rfl) ?_
  refine aw_reg (id := 3) (n := 3) [(0, []), (1, []), (2, [])] (by kernel_rfl) (by kernel_rfl) ?_
  refine at_seg [(0, []), (1, []), (2, [])] [(0, vs e_S_rewrite_Expr p0), (1, vs e_S_rewrite_Expr p1), (12, .int .i64 (p0.length : Int)), (13, .int .i64 (0 : Int))] H (noU_all rfl) (fun fr => by kernel_rfl) ?_
  intro fr H
  refine at_nil ?_
  show AW cfg 40 g (right (left (right (right (bodyC cfg.P 40))))) fr h _
  refine aw_block (id := 0) (by kernel_rfl) ?_
  obtain ⟨o1, ho, hm⟩ := bind_some hm
  refine aw_mono (Q' := fun e fr' h' => (e = .exit 0 ∧ .inl () = o1 ∧ Has fr' 26 [] ∧ HH g h' [] F) ∨ (∃ (x2 : Bool), e = .ret ∧ .inr x2 = o1 ∧ Has fr' 26 [(4, .bool x2)] ∧ HH g h' [] F) ∨ False) ?_ ?_
  ·refine aw_loop (by kernel_rfl) (fun (s : Int) fr' h' => ∃ (x1 : Int), x1 = s ∧ Has fr' 26 [(0, vs e_S_rewrite_Expr p0), (1, vs e_S_rewrite_Expr p1), (12, .int .i64 (p0.length : Int)), (13, .int .i64 x1)] ∧ HH g h' [] F) ho ⟨(0 : Int), rfl, H.less _ (fun fr => by kernel_rfl), A⟩ ?_
   clear ho hm H A
   intro s q fr h1 hI hm
   obtain ⟨x1, rfl, H, A⟩ := hI
   unfold M_slices_Equal_boulter_rewrite_Expr_boulter_rewrite_Expr_L0 at hm
   refine aw_seq (by kernel_rfl) ?_
   refine aw_reg (id := 4) (n := 1) [(0, [])] (by kernel_rfl) (by kernel_rfl) ?_
   refine at_seg [(0, [])] [(0, vs e_S_rewrite_Expr p0), (1, vs e_S_rewrite_Expr p1), (12, .int .i64 (p0.length : Int)), (13, .int .i64 x1), (14, .bool (decide (x1 < (p0.length : Int))))] H (noU_all rfl) (fun fr => by kernel_rfl) ?_
   intro fr H
   refine at_nil ?_
   show AW cfg 40 g (right (left (left (right (left (right (right (bodyC cfg.P 40)))))))) fr h1 _
   refine aw_seq (by kernel_rfl) ?_
   rcases iteB_some hm with ⟨hb, hm⟩ | ⟨hb, hm⟩
   ·replace H := H.know 14 hb (by kernel_rfl)
    refine aw_true (x := .tmp 14) (by kernel_rfl) H (fun fr => by kernel_rfl) ?_
    refine aw_skip (by kernel_rfl) ?_
    show AW cfg 40 g (right (right (left (left (right (left (right (right (bodyC cfg.P 40))))))))) fr h1 _
    refine aw_seq (by kernel_rfl) ?_
    refine aw_block (id := 1) (by kernel_rfl) ?_
    refine aw_seq (by kernel_rfl) ?_
    refine aw_reg (id := 5) (n := 2) [(0, []), (1, [])] (by kernel_rfl) (by kernel_rfl) ?_
    refine at_seg [(0, []), (1, [])] [(0, vs e_S_rewrite_Expr p0), (1, vs e_S_rewrite_Expr p1), (5, .int .i64 x1), (12, .int .i64 (p0.length : Int)), (13, .int .i64 x1)] H (noU_all rfl) (fun fr => by kernel_rfl) ?_
    intro fr H
    refine at_nil ?_
    show AW cfg 40 g (right (left (left (right (right (left (left (right (left (right (right (bodyC cfg.P 40)))))))))))) fr h1 _
    refine aw_seq (by kernel_rfl) ?_
    refine aw_draw (id := 6) (n := 9) (by kernel_rfl) [(0, []), (1, []), (2, []), (3, []), (4, []), (5, []), (6, []), (7, []), (8, [])] (by kernel_rfl) ?_
    refine at_seg [(0, []), (1, [])] [(0, vs e_S_rewrite_Expr p0), (1, vs e_S_rewrite_Expr p1), (5, .int .i64 x1), (12, .int .i64 (p0.length : Int)), (13, .int .i64 x1), (16, vs e_S_rewrite_Expr p0), (17, .int .i64 x1)] H (noU_all rfl) (fun fr => by kernel_rfl) ?_
    intro fr H
    obtain ⟨x3, hx, hm⟩ := bind_some hm
    refine at_step (v := .vptr (e_S_rewrite_Expr x3)) (h1 := h1) [(0, vs e_S_rewrite_Expr p0), (1, vs e_S_rewrite_Expr p1), (5, .int .i64 x1), (12, .int .i64 (p0.length : Int)), (13, .int .i64 x1), (18, .vptr (e_S_rewrite_Expr x3))] H (fun fr => by kernel_rfl) (fun fr => .of (s_ixV (e := e_S_rewrite_Expr) (x := x3) enc_S_rewrite_Expr (by decide) (by kernel_rfl) hx)) ?_
    intro fr t H
    refine at_step (v := .agg (e_S_rewrite_Expr x3)) (h1 := h1) [(0, vs e_S_rewrite_Expr p0), (1, vs e_S_rewrite_Expr p1), (5, .int .i64 x1), (12, .int .i64 (p0.length : Int)), (13, .int .i64 x1), (19, .agg (e_S_rewrite_Expr x3))] H (fun fr => by kernel_rfl) (fun fr => .of (s_lv (by kernel_rfl))) ?_
    intro fr t H
    refine at_seg [(4, []), (5, [])] [(0, vs e_S_rewrite_Expr p0), (1, vs e_S_rewrite_Expr p1), (12, .int .i64 (p0.length : Int)), (13, .int .i64 x1), (19, .agg (e_S_rewrite_Expr x3)), (20, vs e_S_rewrite_Expr p1), (21, .int .i64 x1)] H (noU_all rfl) (fun fr => by kernel_rfl) ?_
    intro fr H
    obtain ⟨x4, hx, hm⟩ := bind_some hm
    refine at_step (v := .vptr (e_S_rewrite_Expr x4)) (h1 := h1) [(0, vs e_S_rewrite_Expr p0), (1, vs e_S_rewrite_Expr p1), (12, .int .i64 (p0.length : Int)), (13, .int .i64 x1), (19, .agg (e_S_rewrite_Expr x3)), (22, .vptr (e_S_rewrite_Expr x4))] H (fun fr => by kernel_rfl) (fun fr => .of (s_ixV (e := e_S_rewrite_Expr) (x := x4) enc_S_rewrite_Expr (by decide) (by kernel_rfl) hx)) ?_
    intro fr t H
    refine at_step (v := .agg (e_S_rewrite_Expr x4)) (h1 := h1) [(0, vs e_S_rewrite_Expr p0), (1, vs e_S_rewrite_Expr p1), (12, .int .i64 (p0.length : Int)), (13, .int .i64 x1), (19, .agg (e_S_rewrite_Expr x3)), (23, .agg (e_S_rewrite_Expr x4))] H (fun fr => by kernel_rfl) (fun fr => .of (s_lv (by kernel_rfl))) ?_
    intro fr t H
    obtain ⟨x5, hx, hm⟩ := bind_some hm
    refine at_step (v := .bool (!x5)) (h1 := h1) [(0, vs e_S_rewrite_Expr p0), (1, vs e_S_rewrite_Expr p1), (12, .int .i64 (p0.length : Int)), (13, .int .i64 x1), (24, .bool (!x5))] H (fun fr => by kernel_rfl) (fun fr => .of (s_neG (by kernel_rfl) hx)) ?_
    intro fr t H
    refine at_nil ?_
    show AW cfg 40 g (right (right (left (left (right (right (left (left (right (left (right (right (bodyC cfg.P 40))))))))))))) fr h1 _
    rcases iteB_some hm with ⟨hb, hm⟩ | ⟨hb, hm⟩
    ·replace H := H.know 24 hb (by kernel_rfl)
     refine aw_true (x := .tmp 24) (by kernel_rfl) H (fun fr => by kernel_rfl) ?_
     refine aw_seq (by kernel_rfl) ?_
     refine aw_reg (id := 7) (n := 1) [(0, [])] (by kernel_rfl) (by kernel_rfl) ?_
     refine at_seg [(0, [])] [(4, .bool false)] H (noU_all rfl) (fun fr => by kernel_rfl) ?_
     intro fr H
     refine at_nil ?_
     show AW cfg 40 g (right (left (right (right (left (left (right (right (left (left (right (left (right (right (bodyC cfg.P 40))))))))))))))) fr h1 _
     refine aw_ret (by kernel_rfl) ?_
     exact Exists.intro _ (And.intro (Option.some.inj hm).symm (fun e => Or.inr (Or.inl ⟨false, rfl, e, H.less _ (fun fr => by kernel_rfl), A⟩)))
    ·replace H := H.know 24 hb (by kernel_rfl)
     refine aw_false (x := .tmp 24) (by kernel_rfl) H (fun fr => by kernel_rfl) ?_
     refine aw_skip (by kernel_rfl) ?_
     show AW cfg 40 g (right (right (right (left (left (right (left (right (right (bodyC cfg.P 40)))))))))) fr h1 _
     refine aw_reg (id := 8) (n := 2) [(0, []), (1, [])] (by kernel_rfl) (by kernel_rfl) ?_
     refine at_seg [(0, []), (1, [])] [(0, vs e_S_rewrite_Expr p0), (1, vs e_S_rewrite_Expr p1), (12, .int .i64 (p0.length : Int)), (13, .int .i64 (IntKind.i64.wrap (x1 + (1 : Int))))] H (noU_all rfl) (fun fr => by kernel_rfl) ?_
     intro fr H
     refine at_nil ?_
     exact Exists.intro (IntKind.i64.wrap (x1 + (1 : Int))) (And.intro (Option.some.inj hm).symm ⟨IntKind.i64.wrap (x1 + (1 : Int)), rfl, H.less _ (fun fr => by kernel_rfl), A⟩)
   ·replace H := H.know 14 hb (by kernel_rfl)
    refine aw_false (x := .tmp 14) (by kernel_rfl) H (fun fr => by kernel_rfl) ?_
    refine aw_exit (i := 0) (by kernel_rfl) ?_
    exact Exists.intro _ (And.intro (Option.some.inj hm).symm (fun e => Or.inl ⟨rfl, e, H.less _ (fun fr => by kernel_rfl), A⟩))
  ·clear ho
   clear A
   intro e fr h2 hQ
   rcases hQ with ⟨rfl, rfl, H, A⟩ | ⟨x2, rfl, rfl, H, A⟩ | hF
   ·skip
    show AW cfg 40 g (right (right (right (bodyC cfg.P 40)))) fr h2 _
    refine aw_seq (by kernel_rfl) ?_
    refine aw_reg (id := 9) (n := 1) [(0, [])] (by kernel_rfl) (by kernel_rfl) ?_
    refine at_seg [(0, [])] [(4, .bool true)] H (noU_all rfl) (fun fr => by kernel_rfl) ?_
    intro fr H
    refine at_nil ?_
    show AW cfg 40 g (right (right (right (right (bodyC cfg.P 40))))) fr h2 _
    refine aw_ret (by kernel_rfl) ?_
    have e1 := Option.some.inj hm
    subst e1
    refine ⟨.inl rfl, .bool true, resH H (fun fr => by kernel_rfl), ?_⟩
    exact ⟨rfl, A⟩
   ·skip
    have e1 := Option.some.inj hm
    subst e1
    refine ⟨.inl rfl, .bool x2, resH H (fun fr => by kernel_rfl), ?_⟩
    exact ⟨rfl, A⟩
   ·exact hF.elim
end Go.Av.L
