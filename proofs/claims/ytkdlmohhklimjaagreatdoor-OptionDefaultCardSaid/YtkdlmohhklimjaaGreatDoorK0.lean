/-
 Models of functions, and that the abstract run tells them. Written by lift2.py.
-/
import Derived.Test.YtkdlmohhklimjaaGreatDoorKCfg
namespace Go.Av.L
open Go.Av Go.Lib
set_option maxRecDepth 10000
set_option linter.unusedVariables false
set_option linter.unusedSimpArgs false
/-! ### boulter/boulterref13.In -/
noncomputable def M_boulterref13_In_L0 (p0 : Int) (p1 : List UInt8) (s : Int) : Option ((Int) ⊕ ((Unit) ⊕ (Bool))) :=
 match s with
 | x1 => iteB (decide (x1 < (p1.length : Int))) ((ixS p1 x1).bind fun x3 => iteB (x3 == p0) (some (.inr (.inr true))) (some (.inl (IntKind.i64.wrap (x1 + (1 : Int)))))) (some (.inr (.inl ())))
noncomputable def M_boulterref13_In (p0 : Int) (p1 : List UInt8) : Option (Bool) :=
 (loop (M_boulterref13_In_L0 p0 p1) (0 : Int)).bind fun o1 => (match o1 with | .inl _ => some false | .inr x2 => some x2)
theorem ok_boulterref13_In {g : Gd} {h : AHeap} {F : List Ck} {p0 : Int} {p1 : List UInt8} {q0 : Bool} {av : List AVal} (hm : M_boulterref13_In p0 p1 = some q0) (hc : canL (cfg.still 18) av = [.int .u8 p0, .str p1]) (A : HH g h [] F) : ∃ v h', Runs cfg g h 18 av v h' ∧ v = .bool q0 ∧ HH g h' [] F := by
 refine runsQ1 (n := 17) (rs := [.tmp 4]) (by kernel_rfl) hc (by kernel_rfl) ?_
 clear hc
 unfold M_boulterref13_In at hm
 refine start (n := 17) [(0, .int .u8 p0), (1, .str p1)] (by kernel_rfl) (by kernel_rfl) ?_
 intro fr H
 refine aw_seq (by kernel_rfl) ?_
 refine aw_reg (id := 0) (n := 1) [(0, [])] (by kernel_rfl) (by kernel_rfl) ?_
 refine at_seg [(0, [])] [(0, .int .u8 p0), (1, .str p1)] H (noU_all rfl) (fun fr => by kernel_rfl) ?_
 intro fr H
 refine at_nil ?_
 show AW cfg 18 g (right (bodyC cfg.P 18)) fr h _
 refine aw_seq (by kernel_rfl) ?_
 refine aw_seq (by kernel_rfl) ?_
 refine aw_reg (id := 1) (n := 1) [(0, [])] (by kernel_rfl) (by kernel_rfl) ?_
 refine at_seg [(0, [])] [(0, .int .u8 p0), (1, .str p1), (5, .int .i64 (0 : Int))] H (noU_all rfl) (fun fr => by kernel_rfl) ?_
 intro fr H
 refine at_nil ?_
 show AW cfg 18 g (right (left (right (bodyC cfg.P 18)))) fr h _
 refine aw_block (id := 0) (by kernel_rfl) ?_
 obtain ⟨o1, ho, hm⟩ := bind_some hm
 refine aw_mono (Q' := fun e fr' h' => (e = .exit 0 ∧ .inl () = o1 ∧ Has fr' 17 [] ∧ HH g h' [] F) ∨ (∃ (x2 : Bool), e = .ret ∧ .inr x2 = o1 ∧ Has fr' 17 [(4, .bool x2)] ∧ HH g h' [] F) ∨ False) ?_ ?_
 ·refine aw_loop (by kernel_rfl) (fun (s : Int) fr' h' => ∃ (x1 : Int), x1 = s ∧ Has fr' 17 [(0, .int .u8 p0), (1, .str p1), (5, .int .i64 x1)] ∧ HH g h' [] F) ho ⟨(0 : Int), rfl, H.less _ (fun fr => by kernel_rfl), A⟩ ?_
  clear ho hm H A
  intro s q fr h1 hI hm
  obtain ⟨x1, rfl, H, A⟩ := hI
  unfold M_boulterref13_In_L0 at hm
  refine aw_seq (by kernel_rfl) ?_
  refine aw_seq (by kernel_rfl) ?_
  refine aw_reg (id := 2) (n := 4) [(0, []), (1, []), (2, []), (3, [])] (by kernel_rfl) (by kernel_rfl) ?_
  refine at_seg [(0, []), (1, []), (2, []), (3, [])] [(0, .int .u8 p0), (1, .str p1), (5, .int .i64 x1), (9, .bool (decide (x1 < (p1.length : Int))))] H (noU_all rfl) (fun fr => by kernel_rfl) ?_
  intro fr H
  refine at_nil ?_
  show AW cfg 18 g (right (left (left (left (right (left (right (bodyC cfg.P 18)))))))) fr h1 _
  rcases iteB_some hm with ⟨hb, hm⟩ | ⟨hb, hm⟩
  ·replace H := H.know 9 hb (by kernel_rfl)
   refine aw_true (x := .tmp 9) (by kernel_rfl) H (fun fr => by kernel_rfl) ?_
   refine aw_skip (by kernel_rfl) ?_
   show AW cfg 18 g (right (left (left (right (left (right (bodyC cfg.P 18))))))) fr h1 _
   refine aw_seq (by kernel_rfl) ?_
   refine aw_block (id := 1) (by kernel_rfl) ?_
   refine aw_seq (by kernel_rfl) ?_
   refine aw_reg (id := 4) (n := 5) [(0, []), (1, []), (2, []), (3, []), (4, [])] (by kernel_rfl) (by kernel_rfl) ?_
   refine at_seg [(0, []), (1, [])] [(0, .int .u8 p0), (1, .str p1), (5, .int .i64 x1), (12, .str p1), (13, .int .i64 x1)] H (noU_all rfl) (fun fr => by kernel_rfl) ?_
   intro fr H
   obtain ⟨x3, hx, hm⟩ := bind_some hm
   refine at_step (v := .int .u8 x3) (h1 := h1) [(0, .int .u8 p0), (1, .str p1), (5, .int .i64 x1), (14, .int .u8 x3)] H (fun fr => by kernel_rfl) (fun fr => .of (s_ixS (by kernel_rfl) hx)) ?_
   intro fr t H
   refine at_seg [(3, []), (4, [])] [(0, .int .u8 p0), (1, .str p1), (5, .int .i64 x1), (16, .bool (x3 == p0))] H (noU_all rfl) (fun fr => by kernel_rfl) ?_
   intro fr H
   refine at_nil ?_
   show AW cfg 18 g (right (left (left (right (left (left (right (left (right (bodyC cfg.P 18)))))))))) fr h1 _
   rcases iteB_some hm with ⟨hb, hm⟩ | ⟨hb, hm⟩
   ·replace H := H.know 16 hb (by kernel_rfl)
    refine aw_true (x := .tmp 16) (by kernel_rfl) H (fun fr => by kernel_rfl) ?_
    refine aw_seq (by kernel_rfl) ?_
    refine aw_reg (id := 5) (n := 1) [(0, [])] (by kernel_rfl) (by kernel_rfl) ?_
    refine at_seg [(0, [])] [(4, .bool true)] H (noU_all rfl) (fun fr => by kernel_rfl) ?_
    intro fr H
    refine at_nil ?_
    show AW cfg 18 g (right (left (right (left (left (right (left (left (right (left (right (bodyC cfg.P 18)))))))))))) fr h1 _
    refine aw_ret (by kernel_rfl) ?_
    exact Exists.intro _ (And.intro (Option.some.inj hm).symm (fun e => Or.inr (Or.inl ⟨true, rfl, e, H.less _ (fun fr => by kernel_rfl), A⟩)))
   ·replace H := H.know 16 hb (by kernel_rfl)
    refine aw_false (x := .tmp 16) (by kernel_rfl) H (fun fr => by kernel_rfl) ?_
    refine aw_skip (by kernel_rfl) ?_
    show AW cfg 18 g (right (right (left (left (right (left (right (bodyC cfg.P 18)))))))) fr h1 _
    refine aw_reg (id := 3) (n := 3) [(0, []), (1, []), (2, [])] (by kernel_rfl) (by kernel_rfl) ?_
    refine at_seg [(0, []), (1, []), (2, [])] [(0, .int .u8 p0), (1, .str p1), (5, .int .i64 (IntKind.i64.wrap (x1 + (1 : Int))))] H (noU_all rfl) (fun fr => by kernel_rfl) ?_
    intro fr H
    refine at_nil ?_
    exact Exists.intro (IntKind.i64.wrap (x1 + (1 : Int))) (And.intro (Option.some.inj hm).symm ⟨IntKind.i64.wrap (x1 + (1 : Int)), rfl, H.less _ (fun fr => by kernel_rfl), A⟩)
  ·replace H := H.know 9 hb (by kernel_rfl)
   refine aw_false (x := .tmp 9) (by kernel_rfl) H (fun fr => by kernel_rfl) ?_
   refine aw_exit (i := 0) (by kernel_rfl) ?_
   exact Exists.intro _ (And.intro (Option.some.inj hm).symm (fun e => Or.inl ⟨rfl, e, H.less _ (fun fr => by kernel_rfl), A⟩))
 ·clear ho
  clear A
  intro e fr h2 hQ
  rcases hQ with ⟨rfl, rfl, H, A⟩ | ⟨x2, rfl, rfl, H, A⟩ | hF
  ·skip
   show AW cfg 18 g (right (right (bodyC cfg.P 18))) fr h2 _
   refine aw_seq (by kernel_rfl) ?_
   refine aw_reg (id := 6) (n := 1) [(0, [])] (by kernel_rfl) (by kernel_rfl) ?_
   refine at_seg [(0, [])] [(4, .bool false)] H (noU_all rfl) (fun fr => by kernel_rfl) ?_
   intro fr H
   refine at_nil ?_
   show AW cfg 18 g (right (right (right (bodyC cfg.P 18)))) fr h2 _
   refine aw_ret (by kernel_rfl) ?_
   have e1 := Option.some.inj hm
   subst e1
   refine ⟨.inl rfl, .bool false, resH H (fun fr => by kernel_rfl), ?_⟩
   exact ⟨rfl, A⟩
  ·skip
   have e1 := Option.some.inj hm
   subst e1
   refine ⟨.inl rfl, .bool x2, resH H (fun fr => by kernel_rfl), ?_⟩
   exact ⟨rfl, A⟩
  ·exact hF.elim
/-! ### boulter/option.Default -/
noncomputable def M_option_Default : Option (S_option_Config) :=
 some (⟨([] : List S_pattern_Rule), ([] : List S_pattern_Rule), ([] : List S_rewrite_Expr), false, false, (0 : Int), false, (⟨(0 : Int), (0 : Int)⟩ : S_api_Stamp), (0 : Int), (0 : Int), (4096 : Int), (65536 : Int), (4096 : Int)⟩ : S_option_Config)
theorem ok_option_Default {g : Gd} {h : AHeap} {F : List Ck} {q0 : S_option_Config} {av : List AVal} (hm : M_option_Default = some q0) (hc : canL (cfg.still 19) av = []) (A : HH g h [] F) : ∃ v h', Runs cfg g h 19 av v h' ∧ v = .agg (e_S_option_Config q0) ∧ HH g h' [] F := by
 refine runsQ7 (n := 2) (rs := [.cell 0 50]) (by kernel_rfl) hc (by kernel_rfl) ?_
 clear hc
 unfold M_option_Default at hm
 refine start (n := 2) [] (by kernel_rfl) (by kernel_rfl) ?_
 intro fr H
 refine aw_seq (by kernel_rfl) ?_
 refine aw_reg (id := 0) (n := 1) [(0, [])] (by kernel_rfl) (by kernel_rfl) ?_
 obtain ⟨h1, e1⟩ : ∃ x, x = h.push (.cells none 2 [.slice none 0, .slice none 0, .slice none 0, .bool false, .bool false, .int .i64 (0 : Int), .bool false, .int .i64 (0 : Int), .int .i64 (0 : Int), .int .i64 (0 : Int), .int .i64 (0 : Int), .int .i64 (0 : Int), .int .i64 (0 : Int), .int .i64 (0 : Int)]) := ⟨_, rfl⟩
 replace A := (A.push _).to e1
 refine at_step (v := .ptr (some (h.size, 0))) (h1 := h1) [(0, .ptr (some (h.size, 0)))] H (fun fr => by kernel_rfl) (fun fr => .of (s_n' (by kernel_rfl) (congrArg some e1.symm))) ?_
 intro fr t H
 refine at_nil ?_
 show AW cfg 19 g (right (bodyC cfg.P 19)) fr h1 _
 refine aw_seq (by kernel_rfl) ?_
 refine aw_reg (id := 1) (n := 2) [(0, []), (1, [])] (by kernel_rfl) (by kernel_rfl) ?_
 refine at_seg [(0, [])] [(0, .ptr (some (h.size, 0))), (1, .agg [.slice none 0, .slice none 0, .slice none 0, .bool false, .bool false, .int .i64 (0 : Int), .bool false, .int .i64 (0 : Int), .int .i64 (0 : Int), .int .i64 (0 : Int), .int .i64 (0 : Int), .int .i64 (4096 : Int), .int .i64 (65536 : Int), .int .i64 (4096 : Int)])] H (noU_all rfl) (fun fr => by kernel_rfl) ?_
 intro fr H
 obtain ⟨h2, hx, A1⟩ := A.st 0 rfl (o := 0) (new := [.slice none 0, .slice none 0, .slice none 0, .bool false, .bool false, .int .i64 (0 : Int), .bool false, .int .i64 (0 : Int), .int .i64 (0 : Int), .int .i64 (0 : Int), .int .i64 (0 : Int), .int .i64 (4096 : Int), .int .i64 (65536 : Int), .int .i64 (4096 : Int)]) (ds := [.slice none 0, .slice none 0, .slice none 0, .bool false, .bool false, .int .i64 (0 : Int), .bool false, .int .i64 (0 : Int), .int .i64 (0 : Int), .int .i64 (0 : Int), .int .i64 (0 : Int), .int .i64 (4096 : Int), .int .i64 (65536 : Int), .int .i64 (4096 : Int)]) (Nat.le_of_ble_eq_true rfl) rfl rfl
 replace A : HH g h2 [.obj h.size (.cells none 2 [.slice none 0, .slice none 0, .slice none 0, .bool false, .bool false, .int .i64 (0 : Int), .bool false, .int .i64 (0 : Int), .int .i64 (0 : Int), .int .i64 (0 : Int), .int .i64 (0 : Int), .int .i64 (4096 : Int), .int .i64 (65536 : Int), .int .i64 (4096 : Int)])] F := A1
 refine at_step (v := .tuple []) (h1 := h2) [(0, .ptr (some (h.size, 0)))] H (fun fr => by kernel_rfl) (fun fr => .of (s_stG (by kernel_rfl) (stG_st hx rfl))) ?_
 intro fr t H
 refine at_nil ?_
 show AW cfg 19 g (right (right (bodyC cfg.P 19))) fr h2 _
 refine aw_ret (by kernel_rfl) ?_
 have e1 := Option.some.inj hm
 subst e1
 refine ⟨.inl rfl, .agg [.slice none 0, .slice none 0, .slice none 0, .bool false, .bool false, .int .i64 (0 : Int), .bool false, .int .i64 (0 : Int), .int .i64 (0 : Int), .int .i64 (0 : Int), .int .i64 (0 : Int), .int .i64 (4096 : Int), .int .i64 (65536 : Int), .int .i64 (4096 : Int)], resL_one (.cell (resT H (fun fr => by kernel_rfl)) (load_ldA (by kernel_rfl) (by kernel_rfl) (A.ldA 0 rfl (o := 0) (n := 14) ⟨Nat.le_of_ble_eq_true rfl, rfl⟩)) .nil), ?_⟩
 refine ⟨.agg [vs e_S_pattern_Rule ([] : List S_pattern_Rule), vs e_S_pattern_Rule ([] : List S_pattern_Rule), vs e_S_rewrite_Expr ([] : List S_rewrite_Expr), .bool false, .bool false, .int .i64 (0 : Int), .bool false, .int .i64 (0 : Int), .int .i64 (0 : Int), .int .i64 (0 : Int), .int .i64 (0 : Int), .int .i64 (4096 : Int), .int .i64 (65536 : Int), .int .i64 (4096 : Int)], h2, by first | rfl | (simp only [fz3T, fz3A, fz3B, fz3R, fz2A, fz2R, fz2V, fz2I, fz2B, fz2S, fz2N, fzL0, fzL1, fz1I, fz1B, fz1S, fz1V, fz1N, Option.map_some] <;> rfl), ?_⟩
 replace A : HH g h2 [] F := (HH.dropF A 0)
 exact ⟨rfl, A⟩
/-! ### boulter/option.none -/
noncomputable def M_option_none : Option (S_option_flaw) :=
 some (⟨(0 : Int), (0 : Int)⟩ : S_option_flaw)
theorem ok_option_none {g : Gd} {h : AHeap} {F : List Ck} {q0 : S_option_flaw} {av : List AVal} (hm : M_option_none = some q0) (hc : canL (cfg.still 38) av = []) (A : HH g h [] F) : ∃ v h', Runs cfg g h 38 av v h' ∧ v = .agg [.int .i64 q0.e_, .int .i64 q0.at_] ∧ HH g h' [] F := by
 refine runsQ1 (n := 2) (rs := [.cell 0 96]) (by kernel_rfl) hc (by kernel_rfl) ?_
 clear hc
 unfold M_option_none at hm
 refine start (n := 2) [] (by kernel_rfl) (by kernel_rfl) ?_
 intro fr H
 refine aw_seq (by kernel_rfl) ?_
 refine aw_reg (id := 0) (n := 1) [(0, [])] (by kernel_rfl) (by kernel_rfl) ?_
 obtain ⟨h1, e1⟩ : ∃ x, x = h.push (.cells none 2 [.int .i64 (0 : Int), .int .i64 (0 : Int)]) := ⟨_, rfl⟩
 replace A := (A.push _).to e1
 refine at_step (v := .ptr (some (h.size, 0))) (h1 := h1) [(0, .ptr (some (h.size, 0)))] H (fun fr => by kernel_rfl) (fun fr => .of (s_n' (by kernel_rfl) (congrArg some e1.symm))) ?_
 intro fr t H
 refine at_nil ?_
 show AW cfg 38 g (right (bodyC cfg.P 38)) fr h1 _
 refine aw_seq (by kernel_rfl) ?_
 refine aw_reg (id := 1) (n := 2) [(0, []), (1, [])] (by kernel_rfl) (by kernel_rfl) ?_
 refine at_seg [(0, [])] [(0, .ptr (some (h.size, 0))), (1, .agg [.int .i64 (0 : Int), .int .i64 (0 : Int)])] H (noU_all rfl) (fun fr => by kernel_rfl) ?_
 intro fr H
 obtain ⟨h2, hx, A1⟩ := A.st 0 rfl (o := 0) (new := [.int .i64 (0 : Int), .int .i64 (0 : Int)]) (ds := [.int .i64 (0 : Int), .int .i64 (0 : Int)]) (Nat.le_of_ble_eq_true rfl) rfl rfl
 replace A : HH g h2 [.obj h.size (.cells none 2 [.int .i64 (0 : Int), .int .i64 (0 : Int)])] F := A1
 refine at_step (v := .tuple []) (h1 := h2) [(0, .ptr (some (h.size, 0)))] H (fun fr => by kernel_rfl) (fun fr => .of (s_stG (by kernel_rfl) (stG_st hx rfl))) ?_
 intro fr t H
 refine at_nil ?_
 show AW cfg 38 g (right (right (bodyC cfg.P 38))) fr h2 _
 refine aw_ret (by kernel_rfl) ?_
 have e1 := Option.some.inj hm
 subst e1
 refine ⟨.inl rfl, .agg [.int .i64 (0 : Int), .int .i64 (0 : Int)], resL_one (.cell (resT H (fun fr => by kernel_rfl)) (load_ldA (by kernel_rfl) (by kernel_rfl) (A.ldA 0 rfl (o := 0) (n := 2) ⟨Nat.le_of_ble_eq_true rfl, rfl⟩)) .nil), ?_⟩
 replace A : HH g h2 [] F := (HH.dropF A 0)
 exact ⟨rfl, A⟩
/-! ### (*boulter/option.reading).line -/
noncomputable def M_option_reading_line (p0 : S_option_reading) (p1 : List UInt8) (p2 : Int) : Option (S_option_flaw) :=
 (iteB (p1 == ([] : List UInt8)) (some true) ((ixS p1 (0 : Int)).bind fun x2 => some (x2 == (35 : Int))) : Option (Bool)).bind fun x1 => iteB x1 ((M_option_none).bind fun x3 => some x3) (need (decide (p1.length ≤ 4294967280)) <| none)
theorem ok_option_reading_line {g : Gd} {h : AHeap} {F : List Ck} {p0 : S_option_reading} {p1 : List UInt8} {p2 : Int} {bp0 : Nat} {bp0_20 : Nat} {q0 : S_option_flaw} {av : List AVal} (hm : M_option_reading_line p0 p1 p2 = some q0) (hc : canL (cfg.still 37) av = [.ptr (some (bp0, 0)), .str p1, .int .i64 p2, .undef]) (A : HH g h [.obj bp0 (.cells none 2 [vs e_S_pattern_Rule p0.c_.Includes, vs e_S_pattern_Rule p0.c_.Excludes, vs e_S_rewrite_Expr p0.c_.Exprs, .bool p0.c_.Vcs, .bool p0.c_.Backups, .int .i64 p0.c_.Caches, .bool p0.c_.Dated, .int .i64 p0.c_.Newer.Sec, .int .i64 p0.c_.Newer.Nsec, .int .i64 p0.c_.Nth, .int .i64 p0.c_.Strip, .int .i64 p0.c_.Name, .int .i64 p0.c_.Head, .int .i64 p0.c_.States, .str p0.flags_.Text, .bool p0.flags_.Anchored, .bool p0.flags_.Fold, .bool p0.flags_.Slash, .str p0.rest_, .int .i64 p0.at_, .map (some bp0_20)]), .obj bp0_20 (.map 2 (encM (fun k : List UInt8 => .str k) (fun v : Bool => .bool v) p0.seen_))] F) : ∃ v h', Runs cfg g h 37 av v h' ∧ v = .agg [.int .i64 q0.e_, .int .i64 q0.at_] ∧ HH g h' [.obj bp0 (.cells none 2 [vs e_S_pattern_Rule p0.c_.Includes, vs e_S_pattern_Rule p0.c_.Excludes, vs e_S_rewrite_Expr p0.c_.Exprs, .bool p0.c_.Vcs, .bool p0.c_.Backups, .int .i64 p0.c_.Caches, .bool p0.c_.Dated, .int .i64 p0.c_.Newer.Sec, .int .i64 p0.c_.Newer.Nsec, .int .i64 p0.c_.Nth, .int .i64 p0.c_.Strip, .int .i64 p0.c_.Name, .int .i64 p0.c_.Head, .int .i64 p0.c_.States, .str p0.flags_.Text, .bool p0.flags_.Anchored, .bool p0.flags_.Fold, .bool p0.flags_.Slash, .str p0.rest_, .int .i64 p0.at_, .map (some bp0_20)]), .obj bp0_20 (.map 2 (encM (fun k : List UInt8 => .str k) (fun v : Bool => .bool v) p0.seen_))] F := by
 refine runsQ1 (n := 72) (rs := [.cell 8 96]) (by kernel_rfl) hc (by kernel_rfl) ?_
 clear hc
 unfold M_option_reading_line at hm
 refine start (n := 72) [(0, .ptr (some (bp0, 0))), (1, .str p1), (2, .int .i64 p2), (3, .undef)] (by kernel_rfl) (by kernel_rfl) ?_
 intro fr H
 refine aw_seq (by kernel_rfl) ?_
 refine aw_reg (id := 0) (n := 1) [(0, [])] (by kernel_rfl) (by kernel_rfl) ?_
 obtain ⟨h1, e1⟩ : ∃ x, x = h.push (.cells none 2 [.int .i64 (0 : Int), .int .i64 (0 : Int)]) := ⟨_, rfl⟩
 replace A := (A.push _).to e1
 refine at_step (v := .ptr (some (h.size, 0))) (h1 := h1) [(0, .ptr (some (bp0, 0))), (1, .str p1), (2, .int .i64 p2), (3, .undef), (8, .ptr (some (h.size, 0)))] H (fun fr => by kernel_rfl) (fun fr => .of (s_n' (by kernel_rfl) (congrArg some e1.symm))) ?_
 intro fr t H
 refine at_nil ?_
 show AW cfg 37 g (right (bodyC cfg.P 37)) fr h1 _
 refine aw_seq (by kernel_rfl) ?_
 refine aw_seq (by kernel_rfl) ?_
 refine aw_reg (id := 1) (n := 7) [(0, []), (1, []), (2, []), (3, []), (4, []), (5, []), (6, [])] (by kernel_rfl) (by kernel_rfl) ?_
 refine at_seg [(0, []), (1, []), (2, [])] [(0, .ptr (some (bp0, 0))), (1, .str p1), (2, .int .i64 p2), (3, .undef), (8, .ptr (some (h.size, 0))), (16, .bool (p1 == ([] : List UInt8)))] H (noU_all rfl) (fun fr => by kernel_rfl) ?_
 intro fr H
 obtain ⟨x1, ho, hm⟩ := bind_some hm
 refine at_cut [(3, []), (4, []), (5, []), (6, [])] (fun fr' h' => Has fr' 72 [(0, .ptr (some (bp0, 0))), (1, .str p1), (2, .int .i64 p2), (3, .undef), (8, .ptr (some (h.size, 0))), (20, .bool x1)] ∧ HH g h' [.obj h.size (.cells none 2 [.int .i64 (0 : Int), .int .i64 (0 : Int)]), .obj bp0 (.cells none 2 [vs e_S_pattern_Rule p0.c_.Includes, vs e_S_pattern_Rule p0.c_.Excludes, vs e_S_rewrite_Expr p0.c_.Exprs, .bool p0.c_.Vcs, .bool p0.c_.Backups, .int .i64 p0.c_.Caches, .bool p0.c_.Dated, .int .i64 p0.c_.Newer.Sec, .int .i64 p0.c_.Newer.Nsec, .int .i64 p0.c_.Nth, .int .i64 p0.c_.Strip, .int .i64 p0.c_.Name, .int .i64 p0.c_.Head, .int .i64 p0.c_.States, .str p0.flags_.Text, .bool p0.flags_.Anchored, .bool p0.flags_.Fold, .bool p0.flags_.Slash, .str p0.rest_, .int .i64 p0.at_, .map (some bp0_20)]), .obj bp0_20 (.map 2 (encM (fun k : List UInt8 => .str k) (fun v : Bool => .bool v) p0.seen_))] F) ?_ ?_
 ·rcases iteB_some ho with ⟨hb, hm⟩ | ⟨hb, hm⟩
  ·replace H := H.know 16 hb (by kernel_rfl)
   refine at_seg [(3, []), (4, []), (5, []), (6, [])] [(0, .ptr (some (bp0, 0))), (1, .str p1), (2, .int .i64 p2), (3, .undef), (8, .ptr (some (h.size, 0))), (20, .bool true)] H (noU_all rfl) (fun fr => by kernel_rfl) ?_
   intro fr H
   have e1 := Option.some.inj hm
   subst e1
   exact at_nil ⟨H.less _ (fun fr => by kernel_rfl), A⟩
  ·replace H := H.know 16 hb (by kernel_rfl)
   refine at_seg [(3, [])] [(0, .ptr (some (bp0, 0))), (1, .str p1), (2, .int .i64 p2), (3, .undef), (8, .ptr (some (h.size, 0))), (16, .bool false), (17, .str p1)] H (noU_all rfl) (fun fr => by kernel_rfl) ?_
   intro fr H
   obtain ⟨x2, hx, hm⟩ := bind_some hm
   refine at_step (v := .int .u8 x2) (h1 := h1) [(0, .ptr (some (bp0, 0))), (1, .str p1), (2, .int .i64 p2), (3, .undef), (8, .ptr (some (h.size, 0))), (16, .bool false), (18, .int .u8 x2)] H (fun fr => by kernel_rfl) (fun fr => .of (s_ixS (by kernel_rfl) hx)) ?_
   intro fr t H
   refine at_seg [(5, []), (6, [])] [(0, .ptr (some (bp0, 0))), (1, .str p1), (2, .int .i64 p2), (3, .undef), (8, .ptr (some (h.size, 0))), (20, .bool (x2 == (35 : Int)))] H (noU_all rfl) (fun fr => by kernel_rfl) ?_
   intro fr H
   have e1 := Option.some.inj hm
   subst e1
   exact at_nil ⟨H.less _ (fun fr => by kernel_rfl), A⟩
 ·clear A
  intro t fr h2 hK
  obtain ⟨H, A⟩ := hK
  refine at_nil ?_
  show AW cfg 37 g (right (left (right (bodyC cfg.P 37)))) fr h2 _
  rcases iteB_some hm with ⟨hb, hm⟩ | ⟨hb, hm⟩
  ·replace H := H.know 20 hb (by kernel_rfl)
   refine aw_true (x := .tmp 20) (by kernel_rfl) H (fun fr => by kernel_rfl) ?_
   refine aw_seq (by kernel_rfl) ?_
   refine aw_reg (id := 2) (n := 2) [(0, []), (1, [])] (by kernel_rfl) (by kernel_rfl) ?_
   have A1 := A.cut 0
   obtain ⟨x3, hx, hm⟩ := bind_some hm
   obtain ⟨v1, h3, hr, rfl, A1⟩ := ok_option_none (av := []) hx (by kernel_rfl) A1
   replace A : HH g h3 [.obj h.size (.cells none 2 [.int .i64 (0 : Int), .int .i64 (0 : Int)]), .obj bp0 (.cells none 2 [vs e_S_pattern_Rule p0.c_.Includes, vs e_S_pattern_Rule p0.c_.Excludes, vs e_S_rewrite_Expr p0.c_.Exprs, .bool p0.c_.Vcs, .bool p0.c_.Backups, .int .i64 p0.c_.Caches, .bool p0.c_.Dated, .int .i64 p0.c_.Newer.Sec, .int .i64 p0.c_.Newer.Nsec, .int .i64 p0.c_.Nth, .int .i64 p0.c_.Strip, .int .i64 p0.c_.Name, .int .i64 p0.c_.Head, .int .i64 p0.c_.States, .str p0.flags_.Text, .bool p0.flags_.Anchored, .bool p0.flags_.Fold, .bool p0.flags_.Slash, .str p0.rest_, .int .i64 p0.at_, .map (some bp0_20)]), .obj bp0_20 (.map 2 (encM (fun k : List UInt8 => .str k) (fun v : Bool => .bool v) p0.seen_))] F := A.glue0 (n := 0) A1
   refine at_step (v := .agg [.int .i64 x3.e_, .int .i64 x3.at_]) (h1 := h3) [(8, .ptr (some (h.size, 0))), (21, .agg [.int .i64 x3.e_, .int .i64 x3.at_])] H (fun fr => by kernel_rfl) (fun fr => Steps.call (by kernel_rfl) hr) ?_
   intro fr t H
   obtain ⟨h4, hx, A1⟩ := A.st 0 rfl (o := 0) (new := [.int .i64 x3.e_, .int .i64 x3.at_]) (ds := [.int .i64 x3.e_, .int .i64 x3.at_]) (Nat.le_of_ble_eq_true rfl) rfl rfl
   replace A : HH g h4 [.obj h.size (.cells none 2 [.int .i64 x3.e_, .int .i64 x3.at_]), .obj bp0 (.cells none 2 [vs e_S_pattern_Rule p0.c_.Includes, vs e_S_pattern_Rule p0.c_.Excludes, vs e_S_rewrite_Expr p0.c_.Exprs, .bool p0.c_.Vcs, .bool p0.c_.Backups, .int .i64 p0.c_.Caches, .bool p0.c_.Dated, .int .i64 p0.c_.Newer.Sec, .int .i64 p0.c_.Newer.Nsec, .int .i64 p0.c_.Nth, .int .i64 p0.c_.Strip, .int .i64 p0.c_.Name, .int .i64 p0.c_.Head, .int .i64 p0.c_.States, .str p0.flags_.Text, .bool p0.flags_.Anchored, .bool p0.flags_.Fold, .bool p0.flags_.Slash, .str p0.rest_, .int .i64 p0.at_, .map (some bp0_20)]), .obj bp0_20 (.map 2 (encM (fun k : List UInt8 => .str k) (fun v : Bool => .bool v) p0.seen_))] F := A1
   refine at_step (v := .tuple []) (h1 := h4) [(8, .ptr (some (h.size, 0)))] H (fun fr => by kernel_rfl) (fun fr => .of (s_stG (by kernel_rfl) (stG_st hx rfl))) ?_
   intro fr t H
   refine at_nil ?_
   show AW cfg 37 g (right (left (right (left (right (bodyC cfg.P 37)))))) fr h4 _
   refine aw_ret (by kernel_rfl) ?_
   have e1 := Option.some.inj hm
   subst e1
   refine ⟨.inl rfl, .agg [.int .i64 x3.e_, .int .i64 x3.at_], resL_one (.cell (resT H (fun fr => by kernel_rfl)) (load_ldA (by kernel_rfl) (by kernel_rfl) (A.ldA 0 rfl (o := 0) (n := 2) ⟨Nat.le_of_ble_eq_true rfl, rfl⟩)) .nil), ?_⟩
   replace A : HH g h4 [.obj bp0 (.cells none 2 [vs e_S_pattern_Rule p0.c_.Includes, vs e_S_pattern_Rule p0.c_.Excludes, vs e_S_rewrite_Expr p0.c_.Exprs, .bool p0.c_.Vcs, .bool p0.c_.Backups, .int .i64 p0.c_.Caches, .bool p0.c_.Dated, .int .i64 p0.c_.Newer.Sec, .int .i64 p0.c_.Newer.Nsec, .int .i64 p0.c_.Nth, .int .i64 p0.c_.Strip, .int .i64 p0.c_.Name, .int .i64 p0.c_.Head, .int .i64 p0.c_.States, .str p0.flags_.Text, .bool p0.flags_.Anchored, .bool p0.flags_.Fold, .bool p0.flags_.Slash, .str p0.rest_, .int .i64 p0.at_, .map (some bp0_20)]), .obj bp0_20 (.map 2 (encM (fun k : List UInt8 => .str k) (fun v : Bool => .bool v) p0.seen_))] F := (HH.dropF ((A.front 2 rfl).front 2 rfl) 2)
   exact ⟨rfl, A⟩
  ·replace H := H.know 20 hb (by kernel_rfl)
   refine aw_false (x := .tmp 20) (by kernel_rfl) H (fun fr => by kernel_rfl) ?_
   refine aw_skip (by kernel_rfl) ?_
   show AW cfg 37 g (right (right (bodyC cfg.P 37))) fr h2 _
   refine aw_seq (by kernel_rfl) ?_
   refine aw_reg (id := 3) (n := 9) [(0, []), (1, []), (2, []), (3, []), (4, []), (5, []), (6, []), (7, []), (8, [])] (by kernel_rfl) (by kernel_rfl) ?_
   refine at_seg [(0, [])] [(0, .ptr (some (bp0, 0))), (2, .int .i64 p2), (3, .undef), (8, .ptr (some (h.size, 0))), (23, .str p1)] H (noU_all rfl) (fun fr => by kernel_rfl) ?_
   intro fr H
   obtain ⟨hb, hm⟩ := need_some hm
   refine at_step (v := .tuple [.str ((Lib.cut p1 ([32] : List UInt8)).1), .str ((Lib.cut p1 ([32] : List UInt8)).2.1), .bool ((Lib.cut p1 ([32] : List UInt8)).2.2)]) (h1 := h2) [(0, .ptr (some (bp0, 0))), (2, .int .i64 p2), (3, .undef), (8, .ptr (some (h.size, 0))), (24, .tuple [.str ((Lib.cut p1 ([32] : List UInt8)).1), .str ((Lib.cut p1 ([32] : List UInt8)).2.1), .bool ((Lib.cut p1 ([32] : List UInt8)).2.2)])] H (fun fr => by kernel_rfl) (fun fr => Steps.call (by kernel_rfl) (runsCut (C := cfg) (f := 36) (a := 0) (by kernel_rfl) (l := exts) rfl (by kernel_rfl) hb)) ?_
   intro fr t H
   refine at_seg [(2, []), (3, []), (4, []), (5, []), (6, []), (7, []), (8, [])] [(0, .ptr (some (bp0, 0))), (2, .int .i64 p2), (3, .undef), (8, .ptr (some (h.size, 0))), (9, .str ((Lib.cut p1 ([32] : List UInt8)).1)), (10, .str ((Lib.cut p1 ([32] : List UInt8)).2.1)), (11, .bool ((Lib.cut p1 ([32] : List UInt8)).2.2))] H (noU_all rfl) (fun fr => by kernel_rfl) ?_
   intro fr H
   refine at_nil ?_
   cases hm
/-! ### boulter/option.Parse -/
noncomputable def M_option_Parse_L0 (x1 : S_option_Config) (s : (List UInt8) × Int) : Option (((List UInt8) × Int) ⊕ (((List UInt8) × Int) ⊕ ((List UInt8) × Int × Int × Int))) :=
 match s with
 | (x2, x3) => iteB (!(x2 == ([] : List UInt8))) (need (decide (x2.length ≤ 4294967280)) <| (M_option_reading_line (⟨x1, (⟨([] : List UInt8), false, false, true⟩ : S_pattern_Rule), (Lib.cut x2 ([10] : List UInt8)).2.1, IntKind.i64.wrap (x3 + (IntKind.i64.wrap ((x2.length : Int) - (((Lib.cut x2 ([10] : List UInt8)).2.1).length : Int)))), ([] : List ((List UInt8) × Bool))⟩ : S_option_reading) ((Lib.cut x2 ([10] : List UInt8)).1) x3).bind fun x10 => (M_option_none).bind fun x11 => (eqG cfg.P 96 [.int .i64 x10.e_, .int .i64 x10.at_] [.int .i64 x11.e_, .int .i64 x11.at_]).bind fun x12 => iteB (!x12) (some (.inr (.inr ((Lib.cut x2 ([10] : List UInt8)).2.1, IntKind.i64.wrap (x3 + (IntKind.i64.wrap ((x2.length : Int) - (((Lib.cut x2 ([10] : List UInt8)).2.1).length : Int)))), x10.at_, x10.e_)))) (some (.inl ((Lib.cut x2 ([10] : List UInt8)).2.1, IntKind.i64.wrap (x3 + (IntKind.i64.wrap ((x2.length : Int) - (((Lib.cut x2 ([10] : List UInt8)).2.1).length : Int)))))))) (some (.inr (.inl (x2, x3))))
noncomputable def M_option_Parse (p0 : List UInt8) : Option (S_option_Config × Int × Int) :=
 iteB (decide ((p0.length : Int) > (65536 : Int))) (some ((⟨([] : List S_pattern_Rule), ([] : List S_pattern_Rule), ([] : List S_rewrite_Expr), false, false, (0 : Int), false, (⟨(0 : Int), (0 : Int)⟩ : S_api_Stamp), (0 : Int), (0 : Int), (0 : Int), (0 : Int), (0 : Int)⟩ : S_option_Config), (0 : Int), (12 : Int))) ((M_option_Default).bind fun x1 => (loop (M_option_Parse_L0 x1) (p0, (0 : Int))).bind fun o1 => (match o1 with | .inl (x4, x5) => some (x1, (0 : Int), (0 : Int)) | .inr (x6, x7, x8, x9) => some ((⟨([] : List S_pattern_Rule), ([] : List S_pattern_Rule), ([] : List S_rewrite_Expr), false, false, (0 : Int), false, (⟨(0 : Int), (0 : Int)⟩ : S_api_Stamp), (0 : Int), (0 : Int), (0 : Int), (0 : Int), (0 : Int)⟩ : S_option_Config), x8, x9)))
theorem ok_option_Parse {g : Gd} {h : AHeap} {F : List Ck} {p0 : List UInt8} {q0 : S_option_Config} {q1 : Int} {q2 : Int} {av : List AVal} (hm : M_option_Parse p0 = some (q0, q1, q2)) (hc : canL (cfg.still 15) av = [.str p0]) (A : HH g h [] F) : ∃ v h', Runs cfg g h 15 av v h' ∧ v = .tuple [.agg (e_S_option_Config q0), .int .i64 q1, .int .i64 q2] ∧ HH g h' [] F := by
 refine runsQ7 (n := 77) (rs := [.cell 2 50, .tmp 3, .tmp 4]) (by kernel_rfl) hc (by kernel_rfl) ?_
 clear hc
 unfold M_option_Parse at hm
 refine start (n := 77) [(0, .str p0)] (by kernel_rfl) (by kernel_rfl) ?_
 intro fr H
 refine aw_seq (by kernel_rfl) ?_
 refine aw_reg (id := 0) (n := 3) [(0, []), (1, []), (2, [])] (by kernel_rfl) (by kernel_rfl) ?_
 obtain ⟨h1, e1⟩ : ∃ x, x = h.push (.cells none 2 [.slice none 0, .slice none 0, .slice none 0, .bool false, .bool false, .int .i64 (0 : Int), .bool false, .int .i64 (0 : Int), .int .i64 (0 : Int), .int .i64 (0 : Int), .int .i64 (0 : Int), .int .i64 (0 : Int), .int .i64 (0 : Int), .int .i64 (0 : Int)]) := ⟨_, rfl⟩
 replace A := (A.push _).to e1
 refine at_step (v := .ptr (some (h.size, 0))) (h1 := h1) [(0, .str p0), (2, .ptr (some (h.size, 0)))] H (fun fr => by kernel_rfl) (fun fr => .of (s_n' (by kernel_rfl) (congrArg some e1.symm))) ?_
 intro fr t H
 refine at_seg [(1, []), (2, [])] [(0, .str p0), (2, .ptr (some (h.size, 0)))] H (noU_all rfl) (fun fr => by kernel_rfl) ?_
 intro fr H
 refine at_nil ?_
 show AW cfg 15 g (right (bodyC cfg.P 15)) fr h1 _
 refine aw_seq (by kernel_rfl) ?_
 refine aw_seq (by kernel_rfl) ?_
 refine aw_reg (id := 1) (n := 3) [(0, []), (1, []), (2, [])] (by kernel_rfl) (by kernel_rfl) ?_
 refine at_seg [(0, []), (1, []), (2, [])] [(0, .str p0), (2, .ptr (some (h.size, 0))), (14, .bool (decide ((p0.length : Int) > (65536 : Int))))] H (noU_all rfl) (fun fr => by kernel_rfl) ?_
 intro fr H
 refine at_nil ?_
 show AW cfg 15 g (right (left (right (bodyC cfg.P 15)))) fr h1 _
 rcases iteB_some hm with ⟨hb, hm⟩ | ⟨hb, hm⟩
 ·replace H := H.know 14 hb (by kernel_rfl)
  refine aw_true (x := .tmp 14) (by kernel_rfl) H (fun fr => by kernel_rfl) ?_
  refine aw_seq (by kernel_rfl) ?_
  refine aw_reg (id := 2) (n := 4) [(0, []), (1, []), (2, []), (3, [])] (by kernel_rfl) (by kernel_rfl) ?_
  refine at_seg [(0, [])] [(2, .ptr (some (h.size, 0))), (15, .agg [.slice none 0, .slice none 0, .slice none 0, .bool false, .bool false, .int .i64 (0 : Int), .bool false, .int .i64 (0 : Int), .int .i64 (0 : Int), .int .i64 (0 : Int), .int .i64 (0 : Int), .int .i64 (0 : Int), .int .i64 (0 : Int), .int .i64 (0 : Int)])] H (noU_all rfl) (fun fr => by kernel_rfl) ?_
  intro fr H
  obtain ⟨h2, hx, A1⟩ := A.st 0 rfl (o := 0) (new := [.slice none 0, .slice none 0, .slice none 0, .bool false, .bool false, .int .i64 (0 : Int), .bool false, .int .i64 (0 : Int), .int .i64 (0 : Int), .int .i64 (0 : Int), .int .i64 (0 : Int), .int .i64 (0 : Int), .int .i64 (0 : Int), .int .i64 (0 : Int)]) (ds := [.slice none 0, .slice none 0, .slice none 0, .bool false, .bool false, .int .i64 (0 : Int), .bool false, .int .i64 (0 : Int), .int .i64 (0 : Int), .int .i64 (0 : Int), .int .i64 (0 : Int), .int .i64 (0 : Int), .int .i64 (0 : Int), .int .i64 (0 : Int)]) (Nat.le_of_ble_eq_true rfl) rfl rfl
  replace A : HH g h2 [.obj h.size (.cells none 2 [.slice none 0, .slice none 0, .slice none 0, .bool false, .bool false, .int .i64 (0 : Int), .bool false, .int .i64 (0 : Int), .int .i64 (0 : Int), .int .i64 (0 : Int), .int .i64 (0 : Int), .int .i64 (0 : Int), .int .i64 (0 : Int), .int .i64 (0 : Int)])] F := A1
  refine at_step (v := .tuple []) (h1 := h2) [(2, .ptr (some (h.size, 0)))] H (fun fr => by kernel_rfl) (fun fr => .of (s_stG (by kernel_rfl) (stG_st hx rfl))) ?_
  intro fr t H
  refine at_seg [(2, []), (3, [])] [(2, .ptr (some (h.size, 0))), (3, .int .i64 (0 : Int)), (4, .int .i64 (12 : Int))] H (noU_all rfl) (fun fr => by kernel_rfl) ?_
  intro fr H
  refine at_nil ?_
  show AW cfg 15 g (right (left (right (left (right (bodyC cfg.P 15)))))) fr h2 _
  refine aw_ret (by kernel_rfl) ?_
  have e0 := Option.some.inj hm
  obtain ⟨y0, z0⟩ := Prod.mk.inj e0
  obtain ⟨y1, z1⟩ := Prod.mk.inj z0
  subst y0
  subst y1
  subst z1
  refine ⟨.inl rfl, .tuple [.agg [.slice none 0, .slice none 0, .slice none 0, .bool false, .bool false, .int .i64 (0 : Int), .bool false, .int .i64 (0 : Int), .int .i64 (0 : Int), .int .i64 (0 : Int), .int .i64 (0 : Int), .int .i64 (0 : Int), .int .i64 (0 : Int), .int .i64 (0 : Int)], .int .i64 (0 : Int), .int .i64 (12 : Int)], resL_many (.cell (resT H (fun fr => by kernel_rfl)) (load_ldA (by kernel_rfl) (by kernel_rfl) (A.ldA 0 rfl (o := 0) (n := 14) ⟨Nat.le_of_ble_eq_true rfl, rfl⟩)) (.tmp (resT H (fun fr => by kernel_rfl)) (.tmp (resT H (fun fr => by kernel_rfl)) .nil))), ?_⟩
  refine ⟨.tuple [.agg [vs e_S_pattern_Rule ([] : List S_pattern_Rule), vs e_S_pattern_Rule ([] : List S_pattern_Rule), vs e_S_rewrite_Expr ([] : List S_rewrite_Expr), .bool false, .bool false, .int .i64 (0 : Int), .bool false, .int .i64 (0 : Int), .int .i64 (0 : Int), .int .i64 (0 : Int), .int .i64 (0 : Int), .int .i64 (0 : Int), .int .i64 (0 : Int), .int .i64 (0 : Int)], .int .i64 (0 : Int), .int .i64 (12 : Int)], h2, by first | rfl | (simp only [fz3T, fz3A, fz3B, fz3R, fz2A, fz2R, fz2V, fz2I, fz2B, fz2S, fz2N, fzL0, fzL1, fz1I, fz1B, fz1S, fz1V, fz1N, Option.map_some] <;> rfl), ?_⟩
  replace A : HH g h2 [] F := (HH.dropF A 0)
  exact ⟨rfl, A⟩
 ·replace H := H.know 14 hb (by kernel_rfl)
  refine aw_false (x := .tmp 14) (by kernel_rfl) H (fun fr => by kernel_rfl) ?_
  refine aw_skip (by kernel_rfl) ?_
  show AW cfg 15 g (right (right (bodyC cfg.P 15))) fr h1 _
  refine aw_seq (by kernel_rfl) ?_
  refine aw_reg (id := 3) (n := 7) [(0, []), (1, []), (2, []), (3, []), (4, []), (5, []), (6, [])] (by kernel_rfl) (by kernel_rfl) ?_
  have A1 := A.cut 0
  obtain ⟨x1, hx, hm⟩ := bind_some hm
  obtain ⟨v1, h3, hr, rfl, A1⟩ := ok_option_Default (av := []) hx (by kernel_rfl) A1
  replace A : HH g h3 [.obj h.size (.cells none 2 [.slice none 0, .slice none 0, .slice none 0, .bool false, .bool false, .int .i64 (0 : Int), .bool false, .int .i64 (0 : Int), .int .i64 (0 : Int), .int .i64 (0 : Int), .int .i64 (0 : Int), .int .i64 (0 : Int), .int .i64 (0 : Int), .int .i64 (0 : Int)])] F := A.glue0 (n := 0) A1
  refine at_step (v := .agg (e_S_option_Config x1)) (h1 := h3) [(0, .str p0), (2, .ptr (some (h.size, 0))), (16, .agg (e_S_option_Config x1))] H (fun fr => by kernel_rfl) (fun fr => Steps.call (by kernel_rfl) hr) ?_
  intro fr t H
  refine at_seg [(1, []), (2, [])] [(2, .ptr (some (h.size, 0))), (16, .agg (e_S_option_Config x1)), (17, .agg [.str ([] : List UInt8), .bool false, .bool false, .bool true]), (18, .str p0)] H (noU_all rfl) (fun fr => by kernel_rfl) ?_
  intro fr H
  obtain ⟨h4, e2⟩ : ∃ x, x = h3.push (.map 2 []) := ⟨_, rfl⟩
  replace A : HH g h4 [.obj h3.size (.map 2 (encM (fun k : List UInt8 => .str k) (fun v : Bool => .bool v) ([] : List ((List UInt8) × Bool)))), .obj h.size (.cells none 2 [.slice none 0, .slice none 0, .slice none 0, .bool false, .bool false, .int .i64 (0 : Int), .bool false, .int .i64 (0 : Int), .int .i64 (0 : Int), .int .i64 (0 : Int), .int .i64 (0 : Int), .int .i64 (0 : Int), .int .i64 (0 : Int), .int .i64 (0 : Int)])] F := (A.push _).to e2
  refine at_step (v := .map (some h3.size)) (h1 := h4) [(2, .ptr (some (h.size, 0))), (16, .agg (e_S_option_Config x1)), (17, .agg [.str ([] : List UInt8), .bool false, .bool false, .bool true]), (18, .str p0), (19, .map (some h3.size))] H (fun fr => by kernel_rfl) (fun fr => .of (s_n' (by kernel_rfl) (congrArg some e2.symm))) ?_
  intro fr t H
  refine at_seg [(4, [])] [(2, .ptr (some (h.size, 0))), (20, .agg [vs e_S_pattern_Rule x1.Includes, vs e_S_pattern_Rule x1.Excludes, vs e_S_rewrite_Expr x1.Exprs, .bool x1.Vcs, .bool x1.Backups, .int .i64 x1.Caches, .bool x1.Dated, .int .i64 x1.Newer.Sec, .int .i64 x1.Newer.Nsec, .int .i64 x1.Nth, .int .i64 x1.Strip, .int .i64 x1.Name, .int .i64 x1.Head, .int .i64 x1.States, .str ([] : List UInt8), .bool false, .bool false, .bool true, .str p0, .int .i64 (0 : Int), .map (some h3.size)])] H (noU_all rfl) (fun fr => by kernel_rfl) ?_
  intro fr H
  obtain ⟨h5, e3⟩ : ∃ x, x = h4.push (.cells none 2 [vs e_S_pattern_Rule x1.Includes, vs e_S_pattern_Rule x1.Excludes, vs e_S_rewrite_Expr x1.Exprs, .bool x1.Vcs, .bool x1.Backups, .int .i64 x1.Caches, .bool x1.Dated, .int .i64 x1.Newer.Sec, .int .i64 x1.Newer.Nsec, .int .i64 x1.Nth, .int .i64 x1.Strip, .int .i64 x1.Name, .int .i64 x1.Head, .int .i64 x1.States, .str ([] : List UInt8), .bool false, .bool false, .bool true, .str p0, .int .i64 (0 : Int), .map (some h3.size)]) := ⟨_, rfl⟩
  replace A := (A.push _).to e3
  refine at_step (v := .ptr (some (h4.size, 0))) (h1 := h5) [(2, .ptr (some (h.size, 0))), (21, .ptr (some (h4.size, 0)))] H (fun fr => by kernel_rfl) (fun fr => .of (s_n' (by kernel_rfl) (congrArg some e3.symm))) ?_
  intro fr t H
  refine at_seg [(6, [])] [(2, .ptr (some (h.size, 0))), (5, .ptr (some (h4.size, 0)))] H (noU_all rfl) (fun fr => by kernel_rfl) ?_
  intro fr H
  refine at_nil ?_
  show AW cfg 15 g (right (right (right (bodyC cfg.P 15)))) fr h5 _
  refine aw_seq (by kernel_rfl) ?_
  refine aw_reg (id := 4) (n := 2) [(0, []), (1, [])] (by kernel_rfl) (by kernel_rfl) ?_
  refine at_step (v := .undef) (h1 := h5) [(2, .ptr (some (h.size, 0))), (5, .ptr (some (h4.size, 0))), (22, .undef)] H (fun fr => by kernel_rfl) (fun fr => Steps.call (by kernel_rfl) (runsNone (C := cfg) (f := 35) (by kernel_rfl) (l := exts) rfl (by kernel_rfl))) ?_
  intro fr t H
  refine at_seg [(1, [])] [(2, .ptr (some (h.size, 0))), (5, .ptr (some (h4.size, 0))), (6, .undef)] H (noU_all rfl) (fun fr => by kernel_rfl) ?_
  intro fr H
  refine at_nil ?_
  show AW cfg 15 g (right (right (right (right (bodyC cfg.P 15))))) fr h5 _
  refine aw_seq (by kernel_rfl) ?_
  refine aw_block (id := 0) (by kernel_rfl) ?_
  obtain ⟨o1, ho, hm⟩ := bind_some hm
  refine aw_mono (Q' := fun e fr' h' => (∃ (x4 : List UInt8) (x5 : Int), e = .exit 0 ∧ .inl (x4, x5) = o1 ∧ Has fr' 77 [(2, .ptr (some (h.size, 0))), (5, .ptr (some (h4.size, 0)))] ∧ HH g h' [.obj h4.size (.cells none 2 [vs e_S_pattern_Rule x1.Includes, vs e_S_pattern_Rule x1.Excludes, vs e_S_rewrite_Expr x1.Exprs, .bool x1.Vcs, .bool x1.Backups, .int .i64 x1.Caches, .bool x1.Dated, .int .i64 x1.Newer.Sec, .int .i64 x1.Newer.Nsec, .int .i64 x1.Nth, .int .i64 x1.Strip, .int .i64 x1.Name, .int .i64 x1.Head, .int .i64 x1.States, .str ([] : List UInt8), .bool false, .bool false, .bool true, .str x4, .int .i64 x5, .map (some h3.size)]), .obj h3.size (.map 2 (encM (fun k : List UInt8 => .str k) (fun v : Bool => .bool v) ([] : List ((List UInt8) × Bool)))), .obj h.size (.cells none 2 [.slice none 0, .slice none 0, .slice none 0, .bool false, .bool false, .int .i64 (0 : Int), .bool false, .int .i64 (0 : Int), .int .i64 (0 : Int), .int .i64 (0 : Int), .int .i64 (0 : Int), .int .i64 (0 : Int), .int .i64 (0 : Int), .int .i64 (0 : Int)])] F) ∨ (∃ (x6 : List UInt8) (x7 : Int) (x8 : Int) (x9 : Int), e = .ret ∧ .inr (x6, x7, x8, x9) = o1 ∧ Has fr' 77 [(2, .ptr (some (h.size, 0))), (3, .int .i64 x8), (4, .int .i64 x9)] ∧ HH g h' [.obj h4.size (.cells none 2 [vs e_S_pattern_Rule x1.Includes, vs e_S_pattern_Rule x1.Excludes, vs e_S_rewrite_Expr x1.Exprs, .bool x1.Vcs, .bool x1.Backups, .int .i64 x1.Caches, .bool x1.Dated, .int .i64 x1.Newer.Sec, .int .i64 x1.Newer.Nsec, .int .i64 x1.Nth, .int .i64 x1.Strip, .int .i64 x1.Name, .int .i64 x1.Head, .int .i64 x1.States, .str ([] : List UInt8), .bool false, .bool false, .bool true, .str x6, .int .i64 x7, .map (some h3.size)]), .obj h3.size (.map 2 (encM (fun k : List UInt8 => .str k) (fun v : Bool => .bool v) ([] : List ((List UInt8) × Bool)))), .obj h.size (.cells none 2 [.slice none 0, .slice none 0, .slice none 0, .bool false, .bool false, .int .i64 (0 : Int), .bool false, .int .i64 (0 : Int), .int .i64 (0 : Int), .int .i64 (0 : Int), .int .i64 (0 : Int), .int .i64 (0 : Int), .int .i64 (0 : Int), .int .i64 (0 : Int)])] F) ∨ False) ?_ ?_
  ·refine aw_loop (by kernel_rfl) (fun (s : (List UInt8) × Int) fr' h' => ∃ (x2 : List UInt8) (x3 : Int), (x2, x3) = s ∧ Has fr' 77 [(2, .ptr (some (h.size, 0))), (5, .ptr (some (h4.size, 0))), (6, .undef)] ∧ HH g h' [.obj h4.size (.cells none 2 [vs e_S_pattern_Rule x1.Includes, vs e_S_pattern_Rule x1.Excludes, vs e_S_rewrite_Expr x1.Exprs, .bool x1.Vcs, .bool x1.Backups, .int .i64 x1.Caches, .bool x1.Dated, .int .i64 x1.Newer.Sec, .int .i64 x1.Newer.Nsec, .int .i64 x1.Nth, .int .i64 x1.Strip, .int .i64 x1.Name, .int .i64 x1.Head, .int .i64 x1.States, .str ([] : List UInt8), .bool false, .bool false, .bool true, .str x2, .int .i64 x3, .map (some h3.size)]), .obj h3.size (.map 2 (encM (fun k : List UInt8 => .str k) (fun v : Bool => .bool v) ([] : List ((List UInt8) × Bool)))), .obj h.size (.cells none 2 [.slice none 0, .slice none 0, .slice none 0, .bool false, .bool false, .int .i64 (0 : Int), .bool false, .int .i64 (0 : Int), .int .i64 (0 : Int), .int .i64 (0 : Int), .int .i64 (0 : Int), .int .i64 (0 : Int), .int .i64 (0 : Int), .int .i64 (0 : Int)])] F) ho ⟨p0, (0 : Int), rfl, H.less _ (fun fr => by kernel_rfl), A⟩ ?_
   clear ho hm H A
   intro s q fr h6 hI hm
   obtain ⟨x2, x3, rfl, H, A⟩ := hI
   unfold M_option_Parse_L0 at hm
   refine aw_seq (by kernel_rfl) ?_
   refine aw_seq (by kernel_rfl) ?_
   refine aw_reg (id := 5) (n := 5) [(0, []), (1, []), (2, []), (3, []), (4, [])] (by kernel_rfl) (by kernel_rfl) ?_
   refine at_seg [(0, []), (1, []), (2, [])] [(2, .ptr (some (h.size, 0))), (5, .ptr (some (h4.size, 0))), (6, .undef), (25, .ptr (some (h4.size, 18)))] H (noU_all rfl) (fun fr => by kernel_rfl) ?_
   intro fr H
   refine at_step (v := .str x2) (h1 := h6) [(2, .ptr (some (h.size, 0))), (5, .ptr (some (h4.size, 0))), (6, .undef), (26, .str x2)] H (fun fr => by kernel_rfl) (fun fr => .of (s_ld (by kernel_rfl) (A.ld1 0 rfl (o := 18) rfl))) ?_
   intro fr t H
   refine at_seg [(4, [])] [(2, .ptr (some (h.size, 0))), (5, .ptr (some (h4.size, 0))), (6, .undef), (27, .bool (!(x2 == ([] : List UInt8))))] H (noU_all rfl) (fun fr => by kernel_rfl) ?_
   intro fr H
   refine at_nil ?_
   show AW cfg 15 g (right (left (left (left (left (right (right (right (right (bodyC cfg.P 15)))))))))) fr h6 _
   rcases iteB_some hm with ⟨hb, hm⟩ | ⟨hb, hm⟩
   ·replace H := H.know 27 hb (by kernel_rfl)
    refine aw_true (x := .tmp 27) (by kernel_rfl) H (fun fr => by kernel_rfl) ?_
    refine aw_skip (by kernel_rfl) ?_
    show AW cfg 15 g (right (left (left (left (right (right (right (right (bodyC cfg.P 15))))))))) fr h6 _
    refine aw_block (id := 1) (by kernel_rfl) ?_
    refine aw_seq (by kernel_rfl) ?_
    refine aw_reg (id := 6) (n := 12) [(0, []), (1, []), (2, []), (3, []), (4, []), (5, []), (6, []), (7, []), (8, []), (9, []), (10, []), (11, [])] (by kernel_rfl) (by kernel_rfl) ?_
    refine at_seg [(0, []), (1, []), (2, [])] [(2, .ptr (some (h.size, 0))), (5, .ptr (some (h4.size, 0))), (6, .undef), (31, .ptr (some (h4.size, 18)))] H (noU_all rfl) (fun fr => by kernel_rfl) ?_
    intro fr H
    refine at_step (v := .str x2) (h1 := h6) [(2, .ptr (some (h.size, 0))), (5, .ptr (some (h4.size, 0))), (6, .undef), (32, .str x2)] H (fun fr => by kernel_rfl) (fun fr => .of (s_ld (by kernel_rfl) (A.ld1 0 rfl (o := 18) rfl))) ?_
    intro fr t H
    obtain ⟨hb, hm⟩ := need_some hm
    refine at_step (v := .tuple [.str ((Lib.cut x2 ([10] : List UInt8)).1), .str ((Lib.cut x2 ([10] : List UInt8)).2.1), .bool ((Lib.cut x2 ([10] : List UInt8)).2.2)]) (h1 := h6) [(2, .ptr (some (h.size, 0))), (5, .ptr (some (h4.size, 0))), (6, .undef), (33, .tuple [.str ((Lib.cut x2 ([10] : List UInt8)).1), .str ((Lib.cut x2 ([10] : List UInt8)).2.1), .bool ((Lib.cut x2 ([10] : List UInt8)).2.2)])] H (fun fr => by kernel_rfl) (fun fr => Steps.call (by kernel_rfl) (runsCut (C := cfg) (f := 36) (a := 0) (by kernel_rfl) (l := exts) rfl (by kernel_rfl) hb)) ?_
    intro fr t H
    refine at_seg [(5, []), (6, []), (7, []), (8, []), (9, []), (10, []), (11, [])] [(2, .ptr (some (h.size, 0))), (5, .ptr (some (h4.size, 0))), (6, .undef), (7, .str ((Lib.cut x2 ([10] : List UInt8)).1)), (8, .str ((Lib.cut x2 ([10] : List UInt8)).2.1))] H (noU_all rfl) (fun fr => by kernel_rfl) ?_
    intro fr H
    refine at_nil ?_
    show AW cfg 15 g (right (left (right (left (left (left (right (right (right (right (bodyC cfg.P 15))))))))))) fr h6 _
    refine aw_seq (by kernel_rfl) ?_
    refine aw_reg (id := 7) (n := 5) [(0, []), (1, []), (2, []), (3, []), (4, [])] (by kernel_rfl) (by kernel_rfl) ?_
    refine at_seg [(0, []), (1, []), (2, [])] [(2, .ptr (some (h.size, 0))), (5, .ptr (some (h4.size, 0))), (6, .undef), (7, .str ((Lib.cut x2 ([10] : List UInt8)).1)), (8, .str ((Lib.cut x2 ([10] : List UInt8)).2.1)), (39, .ptr (some (h4.size, 19)))] H (noU_all rfl) (fun fr => by kernel_rfl) ?_
    intro fr H
    refine at_step (v := .int .i64 x3) (h1 := h6) [(2, .ptr (some (h.size, 0))), (5, .ptr (some (h4.size, 0))), (6, .undef), (7, .str ((Lib.cut x2 ([10] : List UInt8)).1)), (8, .str ((Lib.cut x2 ([10] : List UInt8)).2.1)), (40, .int .i64 x3)] H (fun fr => by kernel_rfl) (fun fr => .of (s_ld (by kernel_rfl) (A.ld1 0 rfl (o := 19) rfl))) ?_
    intro fr t H
    refine at_seg [(4, [])] [(2, .ptr (some (h.size, 0))), (5, .ptr (some (h4.size, 0))), (6, .undef), (7, .str ((Lib.cut x2 ([10] : List UInt8)).1)), (8, .str ((Lib.cut x2 ([10] : List UInt8)).2.1)), (10, .int .i64 x3)] H (noU_all rfl) (fun fr => by kernel_rfl) ?_
    intro fr H
    refine at_nil ?_
    show AW cfg 15 g (right (right (left (right (left (left (left (right (right (right (right (bodyC cfg.P 15)))))))))))) fr h6 _
    refine aw_seq (by kernel_rfl) ?_
    refine aw_draw (id := 8) (n := 16) (by kernel_rfl) [(0, []), (1, []), (2, []), (3, []), (4, []), (5, []), (6, []), (7, []), (8, []), (9, []), (10, []), (11, []), (12, []), (13, []), (14, []), (15, [])] (by kernel_rfl) ?_
    refine at_seg [(0, []), (1, []), (2, [])] [(2, .ptr (some (h.size, 0))), (5, .ptr (some (h4.size, 0))), (6, .undef), (7, .str ((Lib.cut x2 ([10] : List UInt8)).1)), (8, .str ((Lib.cut x2 ([10] : List UInt8)).2.1)), (10, .int .i64 x3), (41, .ptr (some (h4.size, 0))), (43, .ptr (some (h4.size, 19)))] H (noU_all rfl) (fun fr => by kernel_rfl) ?_
    intro fr H
    refine at_step (v := .int .i64 x3) (h1 := h6) [(2, .ptr (some (h.size, 0))), (5, .ptr (some (h4.size, 0))), (6, .undef), (7, .str ((Lib.cut x2 ([10] : List UInt8)).1)), (8, .str ((Lib.cut x2 ([10] : List UInt8)).2.1)), (10, .int .i64 x3), (41, .ptr (some (h4.size, 0))), (44, .int .i64 x3)] H (fun fr => by kernel_rfl) (fun fr => .of (s_ld (by kernel_rfl) (A.ld1 0 rfl (o := 19) rfl))) ?_
    intro fr t H
    refine at_seg [(4, []), (5, []), (6, [])] [(2, .ptr (some (h.size, 0))), (5, .ptr (some (h4.size, 0))), (6, .undef), (7, .str ((Lib.cut x2 ([10] : List UInt8)).1)), (8, .str ((Lib.cut x2 ([10] : List UInt8)).2.1)), (10, .int .i64 x3), (41, .ptr (some (h4.size, 0))), (44, .int .i64 x3), (47, .ptr (some (h4.size, 18)))] H (noU_all rfl) (fun fr => by kernel_rfl) ?_
    intro fr H
    refine at_step (v := .str x2) (h1 := h6) [(2, .ptr (some (h.size, 0))), (5, .ptr (some (h4.size, 0))), (6, .undef), (7, .str ((Lib.cut x2 ([10] : List UInt8)).1)), (8, .str ((Lib.cut x2 ([10] : List UInt8)).2.1)), (10, .int .i64 x3), (41, .ptr (some (h4.size, 0))), (44, .int .i64 x3), (48, .str x2)] H (fun fr => by kernel_rfl) (fun fr => .of (s_ld (by kernel_rfl) (A.ld1 0 rfl (o := 18) rfl))) ?_
    intro fr t H
    refine at_seg [(8, []), (9, []), (10, []), (11, []), (12, []), (13, []), (14, [])] [(2, .ptr (some (h.size, 0))), (5, .ptr (some (h4.size, 0))), (6, .undef), (7, .str ((Lib.cut x2 ([10] : List UInt8)).1)), (8, .str ((Lib.cut x2 ([10] : List UInt8)).2.1)), (10, .int .i64 x3), (53, .int .i64 (IntKind.i64.wrap (x3 + (IntKind.i64.wrap ((x2.length : Int) - (((Lib.cut x2 ([10] : List UInt8)).2.1).length : Int)))))), (55, .ptr (some (h4.size, 19)))] H (noU_all rfl) (fun fr => by kernel_rfl) ?_
    intro fr H
    obtain ⟨h7, hx, A1⟩ := A.st 0 rfl (o := 19) (new := [.int .i64 (IntKind.i64.wrap (x3 + (IntKind.i64.wrap ((x2.length : Int) - (((Lib.cut x2 ([10] : List UInt8)).2.1).length : Int)))))]) (ds := [vs e_S_pattern_Rule x1.Includes, vs e_S_pattern_Rule x1.Excludes, vs e_S_rewrite_Expr x1.Exprs, .bool x1.Vcs, .bool x1.Backups, .int .i64 x1.Caches, .bool x1.Dated, .int .i64 x1.Newer.Sec, .int .i64 x1.Newer.Nsec, .int .i64 x1.Nth, .int .i64 x1.Strip, .int .i64 x1.Name, .int .i64 x1.Head, .int .i64 x1.States, .str ([] : List UInt8), .bool false, .bool false, .bool true, .str x2, .int .i64 (IntKind.i64.wrap (x3 + (IntKind.i64.wrap ((x2.length : Int) - (((Lib.cut x2 ([10] : List UInt8)).2.1).length : Int))))), .map (some h3.size)]) (Nat.le_of_ble_eq_true rfl) rfl rfl
    replace A : HH g h7 [.obj h4.size (.cells none 2 [vs e_S_pattern_Rule x1.Includes, vs e_S_pattern_Rule x1.Excludes, vs e_S_rewrite_Expr x1.Exprs, .bool x1.Vcs, .bool x1.Backups, .int .i64 x1.Caches, .bool x1.Dated, .int .i64 x1.Newer.Sec, .int .i64 x1.Newer.Nsec, .int .i64 x1.Nth, .int .i64 x1.Strip, .int .i64 x1.Name, .int .i64 x1.Head, .int .i64 x1.States, .str ([] : List UInt8), .bool false, .bool false, .bool true, .str x2, .int .i64 (IntKind.i64.wrap (x3 + (IntKind.i64.wrap ((x2.length : Int) - (((Lib.cut x2 ([10] : List UInt8)).2.1).length : Int))))), .map (some h3.size)]), .obj h3.size (.map 2 (encM (fun k : List UInt8 => .str k) (fun v : Bool => .bool v) ([] : List ((List UInt8) × Bool)))), .obj h.size (.cells none 2 [.slice none 0, .slice none 0, .slice none 0, .bool false, .bool false, .int .i64 (0 : Int), .bool false, .int .i64 (0 : Int), .int .i64 (0 : Int), .int .i64 (0 : Int), .int .i64 (0 : Int), .int .i64 (0 : Int), .int .i64 (0 : Int), .int .i64 (0 : Int)])] F := A1
    refine at_step (v := .tuple []) (h1 := h7) [(2, .ptr (some (h.size, 0))), (5, .ptr (some (h4.size, 0))), (6, .undef), (7, .str ((Lib.cut x2 ([10] : List UInt8)).1)), (8, .str ((Lib.cut x2 ([10] : List UInt8)).2.1)), (10, .int .i64 x3)] H (fun fr => by kernel_rfl) (fun fr => .of (s_st (by kernel_rfl) rfl hx)) ?_
    intro fr t H
    refine at_nil ?_
    show AW cfg 15 g (right (right (right (left (right (left (left (left (right (right (right (right (bodyC cfg.P 15))))))))))))) fr h7 _
    refine aw_seq (by kernel_rfl) ?_
    refine aw_reg (id := 9) (n := 5) [(0, []), (1, []), (2, []), (3, []), (4, [])] (by kernel_rfl) (by kernel_rfl) ?_
    refine at_seg [(0, []), (1, []), (2, []), (3, [])] [(2, .ptr (some (h.size, 0))), (5, .ptr (some (h4.size, 0))), (6, .undef), (7, .str ((Lib.cut x2 ([10] : List UInt8)).1)), (10, .int .i64 x3), (57, .str ((Lib.cut x2 ([10] : List UInt8)).2.1)), (59, .ptr (some (h4.size, 18)))] H (noU_all rfl) (fun fr => by kernel_rfl) ?_
    intro fr H
    obtain ⟨h8, hx, A1⟩ := A.st 0 rfl (o := 18) (new := [.str ((Lib.cut x2 ([10] : List UInt8)).2.1)]) (ds := [vs e_S_pattern_Rule x1.Includes, vs e_S_pattern_Rule x1.Excludes, vs e_S_rewrite_Expr x1.Exprs, .bool x1.Vcs, .bool x1.Backups, .int .i64 x1.Caches, .bool x1.Dated, .int .i64 x1.Newer.Sec, .int .i64 x1.Newer.Nsec, .int .i64 x1.Nth, .int .i64 x1.Strip, .int .i64 x1.Name, .int .i64 x1.Head, .int .i64 x1.States, .str ([] : List UInt8), .bool false, .bool false, .bool true, .str ((Lib.cut x2 ([10] : List UInt8)).2.1), .int .i64 (IntKind.i64.wrap (x3 + (IntKind.i64.wrap ((x2.length : Int) - (((Lib.cut x2 ([10] : List UInt8)).2.1).length : Int))))), .map (some h3.size)]) (Nat.le_of_ble_eq_true rfl) rfl rfl
    replace A : HH g h8 [.obj h4.size (.cells none 2 [vs e_S_pattern_Rule x1.Includes, vs e_S_pattern_Rule x1.Excludes, vs e_S_rewrite_Expr x1.Exprs, .bool x1.Vcs, .bool x1.Backups, .int .i64 x1.Caches, .bool x1.Dated, .int .i64 x1.Newer.Sec, .int .i64 x1.Newer.Nsec, .int .i64 x1.Nth, .int .i64 x1.Strip, .int .i64 x1.Name, .int .i64 x1.Head, .int .i64 x1.States, .str ([] : List UInt8), .bool false, .bool false, .bool true, .str ((Lib.cut x2 ([10] : List UInt8)).2.1), .int .i64 (IntKind.i64.wrap (x3 + (IntKind.i64.wrap ((x2.length : Int) - (((Lib.cut x2 ([10] : List UInt8)).2.1).length : Int))))), .map (some h3.size)]), .obj h3.size (.map 2 (encM (fun k : List UInt8 => .str k) (fun v : Bool => .bool v) ([] : List ((List UInt8) × Bool)))), .obj h.size (.cells none 2 [.slice none 0, .slice none 0, .slice none 0, .bool false, .bool false, .int .i64 (0 : Int), .bool false, .int .i64 (0 : Int), .int .i64 (0 : Int), .int .i64 (0 : Int), .int .i64 (0 : Int), .int .i64 (0 : Int), .int .i64 (0 : Int), .int .i64 (0 : Int)])] F := A1
    refine at_step (v := .tuple []) (h1 := h8) [(2, .ptr (some (h.size, 0))), (5, .ptr (some (h4.size, 0))), (6, .undef), (7, .str ((Lib.cut x2 ([10] : List UInt8)).1)), (10, .int .i64 x3)] H (fun fr => by kernel_rfl) (fun fr => .of (s_st (by kernel_rfl) rfl hx)) ?_
    intro fr t H
    refine at_nil ?_
    show AW cfg 15 g (right (right (right (right (left (right (left (left (left (right (right (right (right (bodyC cfg.P 15)))))))))))))) fr h8 _
    refine aw_seq (by kernel_rfl) ?_
    refine aw_reg (id := 10) (n := 7) [(0, []), (1, []), (2, []), (3, []), (4, []), (5, []), (6, [])] (by kernel_rfl) (by kernel_rfl) ?_
    refine at_seg [(0, []), (1, []), (2, []), (3, [])] [(2, .ptr (some (h.size, 0))), (5, .ptr (some (h4.size, 0))), (6, .undef), (60, .ptr (some (h4.size, 0))), (61, .str ((Lib.cut x2 ([10] : List UInt8)).1)), (62, .int .i64 x3), (63, .undef)] H (noU_all rfl) (fun fr => by kernel_rfl) ?_
    intro fr H
    have A1 := A.cut 2
    obtain ⟨x10, hx, hm⟩ := bind_some hm
    obtain ⟨v1, h9, hr, rfl, A1⟩ := ok_option_reading_line (av := [.ptr (some (h4.size, 0)), .str ((Lib.cut x2 ([10] : List UInt8)).1), .int .i64 x3, .undef]) hx (by kernel_rfl) A1
    replace A : HH g h9 [.obj h4.size (.cells none 2 [vs e_S_pattern_Rule x1.Includes, vs e_S_pattern_Rule x1.Excludes, vs e_S_rewrite_Expr x1.Exprs, .bool x1.Vcs, .bool x1.Backups, .int .i64 x1.Caches, .bool x1.Dated, .int .i64 x1.Newer.Sec, .int .i64 x1.Newer.Nsec, .int .i64 x1.Nth, .int .i64 x1.Strip, .int .i64 x1.Name, .int .i64 x1.Head, .int .i64 x1.States, .str ([] : List UInt8), .bool false, .bool false, .bool true, .str ((Lib.cut x2 ([10] : List UInt8)).2.1), .int .i64 (IntKind.i64.wrap (x3 + (IntKind.i64.wrap ((x2.length : Int) - (((Lib.cut x2 ([10] : List UInt8)).2.1).length : Int))))), .map (some h3.size)]), .obj h3.size (.map 2 (encM (fun k : List UInt8 => .str k) (fun v : Bool => .bool v) ([] : List ((List UInt8) × Bool)))), .obj h.size (.cells none 2 [.slice none 0, .slice none 0, .slice none 0, .bool false, .bool false, .int .i64 (0 : Int), .bool false, .int .i64 (0 : Int), .int .i64 (0 : Int), .int .i64 (0 : Int), .int .i64 (0 : Int), .int .i64 (0 : Int), .int .i64 (0 : Int), .int .i64 (0 : Int)])] F := A.glue0 (n := 2) A1
    refine at_step (v := .agg [.int .i64 x10.e_, .int .i64 x10.at_]) (h1 := h9) [(2, .ptr (some (h.size, 0))), (5, .ptr (some (h4.size, 0))), (6, .undef), (64, .agg [.int .i64 x10.e_, .int .i64 x10.at_])] H (fun fr => by kernel_rfl) (fun fr => Steps.call (by kernel_rfl) hr) ?_
    intro fr t H
    obtain ⟨h10, e4⟩ : ∃ x, x = h9.push (.cells none 2 [.int .i64 (0 : Int), .int .i64 (0 : Int)]) := ⟨_, rfl⟩
    replace A := (A.push _).to e4
    refine at_step (v := .ptr (some (h9.size, 0))) (h1 := h10) [(2, .ptr (some (h.size, 0))), (5, .ptr (some (h4.size, 0))), (6, .undef), (11, .ptr (some (h9.size, 0))), (64, .agg [.int .i64 x10.e_, .int .i64 x10.at_])] H (fun fr => by kernel_rfl) (fun fr => .of (s_n' (by kernel_rfl) (congrArg some e4.symm))) ?_
    intro fr t H
    obtain ⟨h11, hx, A1⟩ := A.st 0 rfl (o := 0) (new := [.int .i64 x10.e_, .int .i64 x10.at_]) (ds := [.int .i64 x10.e_, .int .i64 x10.at_]) (Nat.le_of_ble_eq_true rfl) rfl rfl
    replace A : HH g h11 [.obj h9.size (.cells none 2 [.int .i64 x10.e_, .int .i64 x10.at_]), .obj h4.size (.cells none 2 [vs e_S_pattern_Rule x1.Includes, vs e_S_pattern_Rule x1.Excludes, vs e_S_rewrite_Expr x1.Exprs, .bool x1.Vcs, .bool x1.Backups, .int .i64 x1.Caches, .bool x1.Dated, .int .i64 x1.Newer.Sec, .int .i64 x1.Newer.Nsec, .int .i64 x1.Nth, .int .i64 x1.Strip, .int .i64 x1.Name, .int .i64 x1.Head, .int .i64 x1.States, .str ([] : List UInt8), .bool false, .bool false, .bool true, .str ((Lib.cut x2 ([10] : List UInt8)).2.1), .int .i64 (IntKind.i64.wrap (x3 + (IntKind.i64.wrap ((x2.length : Int) - (((Lib.cut x2 ([10] : List UInt8)).2.1).length : Int))))), .map (some h3.size)]), .obj h3.size (.map 2 (encM (fun k : List UInt8 => .str k) (fun v : Bool => .bool v) ([] : List ((List UInt8) × Bool)))), .obj h.size (.cells none 2 [.slice none 0, .slice none 0, .slice none 0, .bool false, .bool false, .int .i64 (0 : Int), .bool false, .int .i64 (0 : Int), .int .i64 (0 : Int), .int .i64 (0 : Int), .int .i64 (0 : Int), .int .i64 (0 : Int), .int .i64 (0 : Int), .int .i64 (0 : Int)])] F := A1
    refine at_step (v := .tuple []) (h1 := h11) [(2, .ptr (some (h.size, 0))), (5, .ptr (some (h4.size, 0))), (6, .undef), (11, .ptr (some (h9.size, 0)))] H (fun fr => by kernel_rfl) (fun fr => .of (s_stG (by kernel_rfl) (stG_st hx rfl))) ?_
    intro fr t H
    refine at_nil ?_
    show AW cfg 15 g (right (right (right (right (right (left (right (left (left (left (right (right (right (right (bodyC cfg.P 15))))))))))))))) fr h11 _
    refine aw_seq (by kernel_rfl) ?_
    refine aw_draw (id := 11) (n := 3) (by kernel_rfl) [(0, []), (1, [0]), (2, [])] (by kernel_rfl) ?_
    refine at_stepT (v := .agg [.int .i64 x10.e_, .int .i64 x10.at_]) (h1 := h11) (tch' := [(0, h9.size)]) (g.prot) [(2, .ptr (some (h.size, 0))), (5, .ptr (some (h4.size, 0))), (6, .undef), (11, .ptr (some (h9.size, 0))), (65, .agg [.int .i64 x10.e_, .int .i64 x10.at_])] H (fun fr => by kernel_rfl) (by kernel_rfl) (fun fr => by kernel_rfl) (fun fr => .of (s_ldA (by kernel_rfl) (A.ldA 0 rfl (o := 0) (n := 2) ⟨Nat.le_of_ble_eq_true rfl, rfl⟩))) (fun fr => by kernel_rfl) ?_
    intro fr H
    have A1 := A.prot2 0 (pr := [h9.size]) (.cons 0 rfl (by simp [Ck.ids]) .nil)
    obtain ⟨x11, hx, hm⟩ := bind_some hm
    obtain ⟨v1, h12, hr, rfl, A1⟩ := ok_option_none (av := []) hx (by kernel_rfl) A1
    replace A : HH g h12 [.obj h9.size (.cells none 2 [.int .i64 x10.e_, .int .i64 x10.at_]), .obj h4.size (.cells none 2 [vs e_S_pattern_Rule x1.Includes, vs e_S_pattern_Rule x1.Excludes, vs e_S_rewrite_Expr x1.Exprs, .bool x1.Vcs, .bool x1.Backups, .int .i64 x1.Caches, .bool x1.Dated, .int .i64 x1.Newer.Sec, .int .i64 x1.Newer.Nsec, .int .i64 x1.Nth, .int .i64 x1.Strip, .int .i64 x1.Name, .int .i64 x1.Head, .int .i64 x1.States, .str ([] : List UInt8), .bool false, .bool false, .bool true, .str ((Lib.cut x2 ([10] : List UInt8)).2.1), .int .i64 (IntKind.i64.wrap (x3 + (IntKind.i64.wrap ((x2.length : Int) - (((Lib.cut x2 ([10] : List UInt8)).2.1).length : Int))))), .map (some h3.size)]), .obj h3.size (.map 2 (encM (fun k : List UInt8 => .str k) (fun v : Bool => .bool v) ([] : List ((List UInt8) × Bool)))), .obj h.size (.cells none 2 [.slice none 0, .slice none 0, .slice none 0, .bool false, .bool false, .int .i64 (0 : Int), .bool false, .int .i64 (0 : Int), .int .i64 (0 : Int), .int .i64 (0 : Int), .int .i64 (0 : Int), .int .i64 (0 : Int), .int .i64 (0 : Int), .int .i64 (0 : Int)])] F := A.glueP (n := 0) A1
    refine at_stepT (v := .agg [.int .i64 x11.e_, .int .i64 x11.at_]) (h1 := h12) (tch' := [(0, h9.size)]) (h9.size :: g.prot) [(2, .ptr (some (h.size, 0))), (5, .ptr (some (h4.size, 0))), (6, .undef), (11, .ptr (some (h9.size, 0))), (65, .agg [.int .i64 x10.e_, .int .i64 x10.at_]), (66, .agg [.int .i64 x11.e_, .int .i64 x11.at_])] H (fun fr => by kernel_rfl) (by kernel_rfl) (fun fr => by kernel_rfl) (fun fr => Steps.call (by kernel_rfl) hr) (fun fr => by kernel_rfl) ?_
    intro fr H
    obtain ⟨x12, hx, hm⟩ := bind_some hm
    refine at_stepT (v := .bool (!x12)) (h1 := h12) (tch' := [(0, h9.size)]) (g.prot) [(2, .ptr (some (h.size, 0))), (5, .ptr (some (h4.size, 0))), (6, .undef), (11, .ptr (some (h9.size, 0))), (67, .bool (!x12))] H (fun fr => by kernel_rfl) (by kernel_rfl) (fun fr => by kernel_rfl) (fun fr => .of (s_neG (by kernel_rfl) hx)) (fun fr => by kernel_rfl) ?_
    intro fr H
    refine at_nil ?_
    show AW cfg 15 g (right (right (right (right (right (right (left (right (left (left (left (right (right (right (right (bodyC cfg.P 15)))))))))))))))) fr h12 _
    rcases iteB_some hm with ⟨hb, hm⟩ | ⟨hb, hm⟩
    ·replace H := H.know 67 hb (by kernel_rfl)
     refine aw_true (x := .tmp 67) (by kernel_rfl) H (fun fr => by kernel_rfl) ?_
     refine aw_seq (by kernel_rfl) ?_
     refine aw_draw (id := 12) (n := 8) (by kernel_rfl) [(0, []), (1, []), (2, []), (3, []), (4, []), (5, [2, 4]), (6, []), (7, [])] (by kernel_rfl) ?_
     refine at_seg [(0, []), (1, [])] [(2, .ptr (some (h.size, 0))), (11, .ptr (some (h9.size, 0))), (68, .agg [.slice none 0, .slice none 0, .slice none 0, .bool false, .bool false, .int .i64 (0 : Int), .bool false, .int .i64 (0 : Int), .int .i64 (0 : Int), .int .i64 (0 : Int), .int .i64 (0 : Int), .int .i64 (0 : Int), .int .i64 (0 : Int), .int .i64 (0 : Int)]), (69, .ptr (some (h9.size, 1)))] H (noU_all rfl) (fun fr => by kernel_rfl) ?_
     intro fr H
     refine at_stepT (v := .int .i64 x10.at_) (h1 := h12) (tch' := [(2, h9.size)]) (g.prot) [(2, .ptr (some (h.size, 0))), (11, .ptr (some (h9.size, 0))), (68, .agg [.slice none 0, .slice none 0, .slice none 0, .bool false, .bool false, .int .i64 (0 : Int), .bool false, .int .i64 (0 : Int), .int .i64 (0 : Int), .int .i64 (0 : Int), .int .i64 (0 : Int), .int .i64 (0 : Int), .int .i64 (0 : Int), .int .i64 (0 : Int)]), (70, .int .i64 x10.at_)] H (fun fr => by kernel_rfl) (by kernel_rfl) (fun fr => by kernel_rfl) (fun fr => .of (s_ld (by kernel_rfl) (A.ld1 0 rfl (o := 1) rfl))) (fun fr => by kernel_rfl) ?_
     intro fr H
     refine at_seg [(3, [])] [(2, .ptr (some (h.size, 0))), (68, .agg [.slice none 0, .slice none 0, .slice none 0, .bool false, .bool false, .int .i64 (0 : Int), .bool false, .int .i64 (0 : Int), .int .i64 (0 : Int), .int .i64 (0 : Int), .int .i64 (0 : Int), .int .i64 (0 : Int), .int .i64 (0 : Int), .int .i64 (0 : Int)]), (70, .int .i64 x10.at_), (71, .ptr (some (h9.size, 0)))] H (noU_all rfl) (fun fr => by kernel_rfl) ?_
     intro fr H
     refine at_stepT (v := .int .i64 x10.e_) (h1 := h12) (tch' := [(4, h9.size), (2, h9.size)]) (g.prot) [(2, .ptr (some (h.size, 0))), (68, .agg [.slice none 0, .slice none 0, .slice none 0, .bool false, .bool false, .int .i64 (0 : Int), .bool false, .int .i64 (0 : Int), .int .i64 (0 : Int), .int .i64 (0 : Int), .int .i64 (0 : Int), .int .i64 (0 : Int), .int .i64 (0 : Int), .int .i64 (0 : Int)]), (70, .int .i64 x10.at_), (72, .int .i64 x10.e_)] H (fun fr => by kernel_rfl) (by kernel_rfl) (fun fr => by kernel_rfl) (fun fr => .of (s_ld (by kernel_rfl) (A.ld1 0 rfl (o := 0) rfl))) (fun fr => by kernel_rfl) ?_
     intro fr H
     replace A : HH g h12 [.obj h.size (.cells none 2 [.slice none 0, .slice none 0, .slice none 0, .bool false, .bool false, .int .i64 (0 : Int), .bool false, .int .i64 (0 : Int), .int .i64 (0 : Int), .int .i64 (0 : Int), .int .i64 (0 : Int), .int .i64 (0 : Int), .int .i64 (0 : Int), .int .i64 (0 : Int)]), .obj h9.size (.cells none 2 [.int .i64 x10.e_, .int .i64 x10.at_]), .obj h4.size (.cells none 2 [vs e_S_pattern_Rule x1.Includes, vs e_S_pattern_Rule x1.Excludes, vs e_S_rewrite_Expr x1.Exprs, .bool x1.Vcs, .bool x1.Backups, .int .i64 x1.Caches, .bool x1.Dated, .int .i64 x1.Newer.Sec, .int .i64 x1.Newer.Nsec, .int .i64 x1.Nth, .int .i64 x1.Strip, .int .i64 x1.Name, .int .i64 x1.Head, .int .i64 x1.States, .str ([] : List UInt8), .bool false, .bool false, .bool true, .str ((Lib.cut x2 ([10] : List UInt8)).2.1), .int .i64 (IntKind.i64.wrap (x3 + (IntKind.i64.wrap ((x2.length : Int) - (((Lib.cut x2 ([10] : List UInt8)).2.1).length : Int))))), .map (some h3.size)]), .obj h3.size (.map 2 (encM (fun k : List UInt8 => .str k) (fun v : Bool => .bool v) ([] : List ((List UInt8) × Bool))))] F := (A.front 3 rfl)
     have A1 := A.prot2 1 (pr := [h9.size, h9.size]) (.cons 0 rfl (by simp [Ck.ids]) (.cons 0 rfl (by simp [Ck.ids]) .nil))
     obtain ⟨h13, hx, A1⟩ := A1.st 0 rfl (o := 0) (new := [.slice none 0, .slice none 0, .slice none 0, .bool false, .bool false, .int .i64 (0 : Int), .bool false, .int .i64 (0 : Int), .int .i64 (0 : Int), .int .i64 (0 : Int), .int .i64 (0 : Int), .int .i64 (0 : Int), .int .i64 (0 : Int), .int .i64 (0 : Int)]) (ds := [.slice none 0, .slice none 0, .slice none 0, .bool false, .bool false, .int .i64 (0 : Int), .bool false, .int .i64 (0 : Int), .int .i64 (0 : Int), .int .i64 (0 : Int), .int .i64 (0 : Int), .int .i64 (0 : Int), .int .i64 (0 : Int), .int .i64 (0 : Int)]) (Nat.le_of_ble_eq_true rfl) rfl rfl
     replace A : HH g h13 [.obj h.size (.cells none 2 [.slice none 0, .slice none 0, .slice none 0, .bool false, .bool false, .int .i64 (0 : Int), .bool false, .int .i64 (0 : Int), .int .i64 (0 : Int), .int .i64 (0 : Int), .int .i64 (0 : Int), .int .i64 (0 : Int), .int .i64 (0 : Int), .int .i64 (0 : Int)]), .obj h9.size (.cells none 2 [.int .i64 x10.e_, .int .i64 x10.at_]), .obj h4.size (.cells none 2 [vs e_S_pattern_Rule x1.Includes, vs e_S_pattern_Rule x1.Excludes, vs e_S_rewrite_Expr x1.Exprs, .bool x1.Vcs, .bool x1.Backups, .int .i64 x1.Caches, .bool x1.Dated, .int .i64 x1.Newer.Sec, .int .i64 x1.Newer.Nsec, .int .i64 x1.Nth, .int .i64 x1.Strip, .int .i64 x1.Name, .int .i64 x1.Head, .int .i64 x1.States, .str ([] : List UInt8), .bool false, .bool false, .bool true, .str ((Lib.cut x2 ([10] : List UInt8)).2.1), .int .i64 (IntKind.i64.wrap (x3 + (IntKind.i64.wrap ((x2.length : Int) - (((Lib.cut x2 ([10] : List UInt8)).2.1).length : Int))))), .map (some h3.size)]), .obj h3.size (.map 2 (encM (fun k : List UInt8 => .str k) (fun v : Bool => .bool v) ([] : List ((List UInt8) × Bool))))] F := A.glueP (n := 1) A1
     refine at_stepT (v := .tuple []) (h1 := h13) (tch' := [(4, h9.size), (2, h9.size)]) (h9.size :: h9.size :: g.prot) [(2, .ptr (some (h.size, 0))), (70, .int .i64 x10.at_), (72, .int .i64 x10.e_)] H (fun fr => by kernel_rfl) (by kernel_rfl) (fun fr => by kernel_rfl) (fun fr => .of (s_stG (by kernel_rfl) (stG_st hx rfl))) (fun fr => by kernel_rfl) ?_
     intro fr H
     refine at_seg [(6, []), (7, [])] [(2, .ptr (some (h.size, 0))), (3, .int .i64 x10.at_), (4, .int .i64 x10.e_)] H (noU_all rfl) (fun fr => by kernel_rfl) ?_
     intro fr H
     refine at_nil ?_
     show AW cfg 15 g (right (left (right (right (right (right (right (right (left (right (left (left (left (right (right (right (right (bodyC cfg.P 15)))))))))))))))))) fr h13 _
     refine aw_ret (by kernel_rfl) ?_
     replace A : HH g h13 [.obj h4.size (.cells none 2 [vs e_S_pattern_Rule x1.Includes, vs e_S_pattern_Rule x1.Excludes, vs e_S_rewrite_Expr x1.Exprs, .bool x1.Vcs, .bool x1.Backups, .int .i64 x1.Caches, .bool x1.Dated, .int .i64 x1.Newer.Sec, .int .i64 x1.Newer.Nsec, .int .i64 x1.Nth, .int .i64 x1.Strip, .int .i64 x1.Name, .int .i64 x1.Head, .int .i64 x1.States, .str ([] : List UInt8), .bool false, .bool false, .bool true, .str ((Lib.cut x2 ([10] : List UInt8)).2.1), .int .i64 (IntKind.i64.wrap (x3 + (IntKind.i64.wrap ((x2.length : Int) - (((Lib.cut x2 ([10] : List UInt8)).2.1).length : Int))))), .map (some h3.size)]), .obj h3.size (.map 2 (encM (fun k : List UInt8 => .str k) (fun v : Bool => .bool v) ([] : List ((List UInt8) × Bool)))), .obj h.size (.cells none 2 [.slice none 0, .slice none 0, .slice none 0, .bool false, .bool false, .int .i64 (0 : Int), .bool false, .int .i64 (0 : Int), .int .i64 (0 : Int), .int .i64 (0 : Int), .int .i64 (0 : Int), .int .i64 (0 : Int), .int .i64 (0 : Int), .int .i64 (0 : Int)])] F := (HH.dropF (((A.front 0 rfl).front 3 rfl).front 3 rfl) 3)
     exact Exists.intro _ (And.intro (Option.some.inj hm).symm (fun e => Or.inr (Or.inl ⟨(Lib.cut x2 ([10] : List UInt8)).2.1, IntKind.i64.wrap (x3 + (IntKind.i64.wrap ((x2.length : Int) - (((Lib.cut x2 ([10] : List UInt8)).2.1).length : Int)))), x10.at_, x10.e_, rfl, e, H.less _ (fun fr => by kernel_rfl), A⟩)))
    ·replace H := H.know 67 hb (by kernel_rfl)
     refine aw_false (x := .tmp 67) (by kernel_rfl) H (fun fr => by kernel_rfl) ?_
     refine aw_skip (by kernel_rfl) ?_
     replace A : HH g h12 [.obj h4.size (.cells none 2 [vs e_S_pattern_Rule x1.Includes, vs e_S_pattern_Rule x1.Excludes, vs e_S_rewrite_Expr x1.Exprs, .bool x1.Vcs, .bool x1.Backups, .int .i64 x1.Caches, .bool x1.Dated, .int .i64 x1.Newer.Sec, .int .i64 x1.Newer.Nsec, .int .i64 x1.Nth, .int .i64 x1.Strip, .int .i64 x1.Name, .int .i64 x1.Head, .int .i64 x1.States, .str ([] : List UInt8), .bool false, .bool false, .bool true, .str ((Lib.cut x2 ([10] : List UInt8)).2.1), .int .i64 (IntKind.i64.wrap (x3 + (IntKind.i64.wrap ((x2.length : Int) - (((Lib.cut x2 ([10] : List UInt8)).2.1).length : Int))))), .map (some h3.size)]), .obj h3.size (.map 2 (encM (fun k : List UInt8 => .str k) (fun v : Bool => .bool v) ([] : List ((List UInt8) × Bool)))), .obj h.size (.cells none 2 [.slice none 0, .slice none 0, .slice none 0, .bool false, .bool false, .int .i64 (0 : Int), .bool false, .int .i64 (0 : Int), .int .i64 (0 : Int), .int .i64 (0 : Int), .int .i64 (0 : Int), .int .i64 (0 : Int), .int .i64 (0 : Int), .int .i64 (0 : Int)])] F := (HH.dropF (((A.front 3 rfl).front 3 rfl).front 3 rfl) 3)
     exact Exists.intro ((Lib.cut x2 ([10] : List UInt8)).2.1, IntKind.i64.wrap (x3 + (IntKind.i64.wrap ((x2.length : Int) - (((Lib.cut x2 ([10] : List UInt8)).2.1).length : Int))))) (And.intro (Option.some.inj hm).symm ⟨(Lib.cut x2 ([10] : List UInt8)).2.1, IntKind.i64.wrap (x3 + (IntKind.i64.wrap ((x2.length : Int) - (((Lib.cut x2 ([10] : List UInt8)).2.1).length : Int)))), rfl, H.less _ (fun fr => by kernel_rfl), A⟩)
   ·replace H := H.know 27 hb (by kernel_rfl)
    refine aw_false (x := .tmp 27) (by kernel_rfl) H (fun fr => by kernel_rfl) ?_
    refine aw_exit (i := 0) (by kernel_rfl) ?_
    exact Exists.intro _ (And.intro (Option.some.inj hm).symm (fun e => Or.inl ⟨x2, x3, rfl, e, H.less _ (fun fr => by kernel_rfl), A⟩))
  ·clear ho
   clear A
   intro e fr h14 hQ
   rcases hQ with ⟨x4, x5, rfl, rfl, H, A⟩ | ⟨x6, x7, x8, x9, rfl, rfl, H, A⟩ | hF
   ·skip
    show AW cfg 15 g (right (right (right (right (right (bodyC cfg.P 15)))))) fr h14 _
    refine aw_seq (by kernel_rfl) ?_
    refine aw_reg (id := 13) (n := 7) [(0, []), (1, []), (2, []), (3, []), (4, []), (5, []), (6, [])] (by kernel_rfl) (by kernel_rfl) ?_
    refine at_seg [(0, []), (1, []), (2, [])] [(2, .ptr (some (h.size, 0))), (75, .ptr (some (h4.size, 0)))] H (noU_all rfl) (fun fr => by kernel_rfl) ?_
    intro fr H
    refine at_step (v := .agg (e_S_option_Config x1)) (h1 := h14) [(2, .ptr (some (h.size, 0))), (76, .agg (e_S_option_Config x1))] H (fun fr => by kernel_rfl) (fun fr => .of (s_ldA (by kernel_rfl) (A.ldA 0 rfl (o := 0) (n := 14) ⟨Nat.le_of_ble_eq_true rfl, rfl⟩))) ?_
    intro fr t H
    obtain ⟨h15, hx, A1⟩ := A.st 2 rfl (o := 0) (new := [vs e_S_pattern_Rule x1.Includes, vs e_S_pattern_Rule x1.Excludes, vs e_S_rewrite_Expr x1.Exprs, .bool x1.Vcs, .bool x1.Backups, .int .i64 x1.Caches, .bool x1.Dated, .int .i64 x1.Newer.Sec, .int .i64 x1.Newer.Nsec, .int .i64 x1.Nth, .int .i64 x1.Strip, .int .i64 x1.Name, .int .i64 x1.Head, .int .i64 x1.States]) (ds := [vs e_S_pattern_Rule x1.Includes, vs e_S_pattern_Rule x1.Excludes, vs e_S_rewrite_Expr x1.Exprs, .bool x1.Vcs, .bool x1.Backups, .int .i64 x1.Caches, .bool x1.Dated, .int .i64 x1.Newer.Sec, .int .i64 x1.Newer.Nsec, .int .i64 x1.Nth, .int .i64 x1.Strip, .int .i64 x1.Name, .int .i64 x1.Head, .int .i64 x1.States]) (Nat.le_of_ble_eq_true rfl) rfl rfl
    replace A : HH g h15 [.obj h4.size (.cells none 2 [vs e_S_pattern_Rule x1.Includes, vs e_S_pattern_Rule x1.Excludes, vs e_S_rewrite_Expr x1.Exprs, .bool x1.Vcs, .bool x1.Backups, .int .i64 x1.Caches, .bool x1.Dated, .int .i64 x1.Newer.Sec, .int .i64 x1.Newer.Nsec, .int .i64 x1.Nth, .int .i64 x1.Strip, .int .i64 x1.Name, .int .i64 x1.Head, .int .i64 x1.States, .str ([] : List UInt8), .bool false, .bool false, .bool true, .str x4, .int .i64 x5, .map (some h3.size)]), .obj h3.size (.map 2 (encM (fun k : List UInt8 => .str k) (fun v : Bool => .bool v) ([] : List ((List UInt8) × Bool)))), .obj h.size (.cells none 2 (e_S_option_Config x1))] F := A1
    refine at_step (v := .tuple []) (h1 := h15) [(2, .ptr (some (h.size, 0)))] H (fun fr => by kernel_rfl) (fun fr => .of (s_stG (by kernel_rfl) (stG_st hx rfl))) ?_
    intro fr t H
    refine at_seg [(5, []), (6, [])] [(2, .ptr (some (h.size, 0))), (3, .int .i64 (0 : Int)), (4, .int .i64 (0 : Int))] H (noU_all rfl) (fun fr => by kernel_rfl) ?_
    intro fr H
    refine at_nil ?_
    show AW cfg 15 g (right (right (right (right (right (right (bodyC cfg.P 15))))))) fr h15 _
    refine aw_ret (by kernel_rfl) ?_
    have e0 := Option.some.inj hm
    obtain ⟨y0, z0⟩ := Prod.mk.inj e0
    obtain ⟨y1, z1⟩ := Prod.mk.inj z0
    subst y0
    subst y1
    subst z1
    refine ⟨.inl rfl, .tuple [.agg (e_S_option_Config x1), .int .i64 (0 : Int), .int .i64 (0 : Int)], resL_many (.cell (resT H (fun fr => by kernel_rfl)) (load_ldA (by kernel_rfl) (by kernel_rfl) (A.ldA 2 rfl (o := 0) (n := 14) ⟨Nat.le_of_ble_eq_true rfl, rfl⟩)) (.tmp (resT H (fun fr => by kernel_rfl)) (.tmp (resT H (fun fr => by kernel_rfl)) .nil))), ?_⟩
    refine ⟨.tuple [.agg [vs e_S_pattern_Rule x1.Includes, vs e_S_pattern_Rule x1.Excludes, vs e_S_rewrite_Expr x1.Exprs, .bool x1.Vcs, .bool x1.Backups, .int .i64 x1.Caches, .bool x1.Dated, .int .i64 x1.Newer.Sec, .int .i64 x1.Newer.Nsec, .int .i64 x1.Nth, .int .i64 x1.Strip, .int .i64 x1.Name, .int .i64 x1.Head, .int .i64 x1.States], .int .i64 (0 : Int), .int .i64 (0 : Int)], h15, by first | rfl | (simp only [fz3T, fz3A, fz3B, fz3R, fz2A, fz2R, fz2V, fz2I, fz2B, fz2S, fz2N, fzL0, fzL1, fz1I, fz1B, fz1S, fz1V, fz1N, Option.map_some] <;> rfl), ?_⟩
    replace A : HH g h15 [] F := (HH.dropF A 0)
    exact ⟨rfl, A⟩
   ·skip
    have e0 := Option.some.inj hm
    obtain ⟨y0, z0⟩ := Prod.mk.inj e0
    obtain ⟨y1, z1⟩ := Prod.mk.inj z0
    subst y0
    subst y1
    subst z1
    refine ⟨.inl rfl, .tuple [.agg [.slice none 0, .slice none 0, .slice none 0, .bool false, .bool false, .int .i64 (0 : Int), .bool false, .int .i64 (0 : Int), .int .i64 (0 : Int), .int .i64 (0 : Int), .int .i64 (0 : Int), .int .i64 (0 : Int), .int .i64 (0 : Int), .int .i64 (0 : Int)], .int .i64 x8, .int .i64 x9], resL_many (.cell (resT H (fun fr => by kernel_rfl)) (load_ldA (by kernel_rfl) (by kernel_rfl) (A.ldA 2 rfl (o := 0) (n := 14) ⟨Nat.le_of_ble_eq_true rfl, rfl⟩)) (.tmp (resT H (fun fr => by kernel_rfl)) (.tmp (resT H (fun fr => by kernel_rfl)) .nil))), ?_⟩
    refine ⟨.tuple [.agg [vs e_S_pattern_Rule ([] : List S_pattern_Rule), vs e_S_pattern_Rule ([] : List S_pattern_Rule), vs e_S_rewrite_Expr ([] : List S_rewrite_Expr), .bool false, .bool false, .int .i64 (0 : Int), .bool false, .int .i64 (0 : Int), .int .i64 (0 : Int), .int .i64 (0 : Int), .int .i64 (0 : Int), .int .i64 (0 : Int), .int .i64 (0 : Int), .int .i64 (0 : Int)], .int .i64 x8, .int .i64 x9], h14, by first | rfl | (simp only [fz3T, fz3A, fz3B, fz3R, fz2A, fz2R, fz2V, fz2I, fz2B, fz2S, fz2N, fzL0, fzL1, fz1I, fz1B, fz1S, fz1V, fz1N, Option.map_some] <;> rfl), ?_⟩
    replace A : HH g h14 [] F := (HH.dropF A 0)
    exact ⟨rfl, A⟩
   ·exact hF.elim
/-! ### slices.Equal[[]boulter/pattern.Rule,boulter/pattern.Rule] -/
noncomputable def M_slices_Equal_boulter_pattern_Rule_boulter_pattern_Rule_L0 (p0 : List S_pattern_Rule) (p1 : List S_pattern_Rule) (s : Int) : Option ((Int) ⊕ ((Unit) ⊕ (Bool))) :=
 match s with
 | x1 => iteB (decide (x1 < (p0.length : Int))) ((ixV p0 x1).bind fun x3 => (ixV p1 x1).bind fun x4 => (eqG cfg.P 87 [.str x3.Text, .bool x3.Anchored, .bool x3.Fold, .bool x3.Slash] [.str x4.Text, .bool x4.Anchored, .bool x4.Fold, .bool x4.Slash]).bind fun x5 => iteB (!x5) (some (.inr (.inr false))) (some (.inl (IntKind.i64.wrap (x1 + (1 : Int)))))) (some (.inr (.inl ())))
noncomputable def M_slices_Equal_boulter_pattern_Rule_boulter_pattern_Rule (p0 : List S_pattern_Rule) (p1 : List S_pattern_Rule) : Option (Bool) :=
 iteB ((p0.length : Int) != (p1.length : Int)) (some false) ((loop (M_slices_Equal_boulter_pattern_Rule_boulter_pattern_Rule_L0 p0 p1) (0 : Int)).bind fun o1 => (match o1 with | .inl _ => some true | .inr x2 => some x2))
theorem ok_slices_Equal_boulter_pattern_Rule_boulter_pattern_Rule {g : Gd} {h : AHeap} {F : List Ck} {p0 : List S_pattern_Rule} {p1 : List S_pattern_Rule} {q0 : Bool} {av : List AVal} (hm : M_slices_Equal_boulter_pattern_Rule_boulter_pattern_Rule p0 p1 = some q0) (hc : canL (cfg.still 39) av = [vs e_S_pattern_Rule p0, vs e_S_pattern_Rule p1]) (A : HH g h [] F) : ∃ v h', Runs cfg g h 39 av v h' ∧ v = .bool q0 ∧ HH g h' [] F := by
 refine runsQ1 (n := 26) (rs := [.tmp 4]) (by kernel_rfl) hc (by kernel_rfl) ?_
 clear hc
 unfold M_slices_Equal_boulter_pattern_Rule_boulter_pattern_Rule at hm
 refine start (n := 26) [(0, vs e_S_pattern_Rule p0), (1, vs e_S_pattern_Rule p1)] (by kernel_rfl) (by kernel_rfl) ?_
 intro fr H
 refine aw_seq (by kernel_rfl) ?_
 refine aw_reg (id := 0) (n := 1) [(0, [])] (by kernel_rfl) (by kernel_rfl) ?_
 refine at_seg [(0, [])] [(0, vs e_S_pattern_Rule p0), (1, vs e_S_pattern_Rule p1)] H (noU_all rfl) (fun fr => by kernel_rfl) ?_
 intro fr H
 refine at_nil ?_
 show AW cfg 39 g (right (bodyC cfg.P 39)) fr h _
 refine aw_seq (by kernel_rfl) ?_
 refine aw_seq (by kernel_rfl) ?_
 refine aw_reg (id := 1) (n := 5) [(0, []), (1, []), (2, []), (3, []), (4, [])] (by kernel_rfl) (by kernel_rfl) ?_
 refine at_seg [(0, []), (1, []), (2, []), (3, []), (4, [])] [(0, vs e_S_pattern_Rule p0), (1, vs e_S_pattern_Rule p1), (10, .bool ((p0.length : Int) != (p1.length : Int)))] H (noU_all rfl) (fun fr => by kernel_rfl) ?_
 intro fr H
 refine at_nil ?_
 show AW cfg 39 g (right (left (right (bodyC cfg.P 39)))) fr h _
 rcases iteB_some hm with ⟨hb, hm⟩ | ⟨hb, hm⟩
 ·replace H := H.know 10 hb (by kernel_rfl)
  refine aw_true (x := .tmp 10) (by kernel_rfl) H (fun fr => by kernel_rfl) ?_
  refine aw_seq (by kernel_rfl) ?_
  refine aw_reg (id := 2) (n := 1) [(0, [])] (by kernel_rfl) (by kernel_rfl) ?_
  refine at_seg [(0, [])] [(4, .bool false)] H (noU_all rfl) (fun fr => by kernel_rfl) ?_
  intro fr H
  refine at_nil ?_
  show AW cfg 39 g (right (left (right (left (right (bodyC cfg.P 39)))))) fr h _
  refine aw_ret (by kernel_rfl) ?_
  have e1 := Option.some.inj hm
  subst e1
  refine ⟨.inl rfl, .bool false, resH H (fun fr => by kernel_rfl), ?_⟩
  exact ⟨rfl, A⟩
 ·replace H := H.know 10 hb (by kernel_rfl)
  refine aw_false (x := .tmp 10) (by kernel_rfl) H (fun fr => by kernel_rfl) ?_
  refine aw_skip (by kernel_rfl) ?_
  show AW cfg 39 g (right (right (bodyC cfg.P 39))) fr h _
  refine aw_seq (by kernel_rfl) ?_
  refine aw_seq (by kernel_rfl) ?_
  refine aw_reg (id := 3) (n := 3) [(0, []), (1, []), (2, [])] (by kernel_rfl) (by kernel_rfl) ?_
  refine at_seg [(0, []), (1, []), (2, [])] [(0, vs e_S_pattern_Rule p0), (1, vs e_S_pattern_Rule p1), (12, .int .i64 (p0.length : Int)), (13, .int .i64 (0 : Int))] H (noU_all rfl) (fun fr => by kernel_rfl) ?_
  intro fr H
  refine at_nil ?_
  show AW cfg 39 g (right (left (right (right (bodyC cfg.P 39))))) fr h _
  refine aw_block (id := 0) (by kernel_rfl) ?_
  obtain ⟨o1, ho, hm⟩ := bind_some hm
  refine aw_mono (Q' := fun e fr' h' => (e = .exit 0 ∧ .inl () = o1 ∧ Has fr' 26 [] ∧ HH g h' [] F) ∨ (∃ (x2 : Bool), e = .ret ∧ .inr x2 = o1 ∧ Has fr' 26 [(4, .bool x2)] ∧ HH g h' [] F) ∨ False) ?_ ?_
  ·refine aw_loop (by kernel_rfl) (fun (s : Int) fr' h' => ∃ (x1 : Int), x1 = s ∧ Has fr' 26 [(0, vs e_S_pattern_Rule p0), (1, vs e_S_pattern_Rule p1), (12, .int .i64 (p0.length : Int)), (13, .int .i64 x1)] ∧ HH g h' [] F) ho ⟨(0 : Int), rfl, H.less _ (fun fr => by kernel_rfl), A⟩ ?_
   clear ho hm H A
   intro s q fr h1 hI hm
   obtain ⟨x1, rfl, H, A⟩ := hI
   unfold M_slices_Equal_boulter_pattern_Rule_boulter_pattern_Rule_L0 at hm
   refine aw_seq (by kernel_rfl) ?_
   refine aw_reg (id := 4) (n := 1) [(0, [])] (by kernel_rfl) (by kernel_rfl) ?_
   refine at_seg [(0, [])] [(0, vs e_S_pattern_Rule p0), (1, vs e_S_pattern_Rule p1), (12, .int .i64 (p0.length : Int)), (13, .int .i64 x1), (14, .bool (decide (x1 < (p0.length : Int))))] H (noU_all rfl) (fun fr => by kernel_rfl) ?_
   intro fr H
   refine at_nil ?_
   show AW cfg 39 g (right (left (left (right (left (right (right (bodyC cfg.P 39)))))))) fr h1 _
   refine aw_seq (by kernel_rfl) ?_
   rcases iteB_some hm with ⟨hb, hm⟩ | ⟨hb, hm⟩
   ·replace H := H.know 14 hb (by kernel_rfl)
    refine aw_true (x := .tmp 14) (by kernel_rfl) H (fun fr => by kernel_rfl) ?_
    refine aw_skip (by kernel_rfl) ?_
    show AW cfg 39 g (right (right (left (left (right (left (right (right (bodyC cfg.P 39))))))))) fr h1 _
    refine aw_seq (by kernel_rfl) ?_
    refine aw_block (id := 1) (by kernel_rfl) ?_
    refine aw_seq (by kernel_rfl) ?_
    refine aw_reg (id := 5) (n := 2) [(0, []), (1, [])] (by kernel_rfl) (by kernel_rfl) ?_
    refine at_seg [(0, []), (1, [])] [(0, vs e_S_pattern_Rule p0), (1, vs e_S_pattern_Rule p1), (5, .int .i64 x1), (12, .int .i64 (p0.length : Int)), (13, .int .i64 x1)] H (noU_all rfl) (fun fr => by kernel_rfl) ?_
    intro fr H
    refine at_nil ?_
    show AW cfg 39 g (right (left (left (right (right (left (left (right (left (right (right (bodyC cfg.P 39)))))))))))) fr h1 _
    refine aw_seq (by kernel_rfl) ?_
    refine aw_draw (id := 6) (n := 9) (by kernel_rfl) [(0, []), (1, []), (2, []), (3, []), (4, []), (5, []), (6, []), (7, []), (8, [])] (by kernel_rfl) ?_
    refine at_seg [(0, []), (1, [])] [(0, vs e_S_pattern_Rule p0), (1, vs e_S_pattern_Rule p1), (5, .int .i64 x1), (12, .int .i64 (p0.length : Int)), (13, .int .i64 x1), (16, vs e_S_pattern_Rule p0), (17, .int .i64 x1)] H (noU_all rfl) (fun fr => by kernel_rfl) ?_
    intro fr H
    obtain ⟨x3, hx, hm⟩ := bind_some hm
    refine at_step (v := .vptr (e_S_pattern_Rule x3)) (h1 := h1) [(0, vs e_S_pattern_Rule p0), (1, vs e_S_pattern_Rule p1), (5, .int .i64 x1), (12, .int .i64 (p0.length : Int)), (13, .int .i64 x1), (18, .vptr (e_S_pattern_Rule x3))] H (fun fr => by kernel_rfl) (fun fr => .of (s_ixV (e := e_S_pattern_Rule) (x := x3) enc_S_pattern_Rule (by decide) (by kernel_rfl) hx)) ?_
    intro fr t H
    refine at_step (v := .agg (e_S_pattern_Rule x3)) (h1 := h1) [(0, vs e_S_pattern_Rule p0), (1, vs e_S_pattern_Rule p1), (5, .int .i64 x1), (12, .int .i64 (p0.length : Int)), (13, .int .i64 x1), (19, .agg (e_S_pattern_Rule x3))] H (fun fr => by kernel_rfl) (fun fr => .of (s_lv (by kernel_rfl))) ?_
    intro fr t H
    refine at_seg [(4, []), (5, [])] [(0, vs e_S_pattern_Rule p0), (1, vs e_S_pattern_Rule p1), (12, .int .i64 (p0.length : Int)), (13, .int .i64 x1), (19, .agg (e_S_pattern_Rule x3)), (20, vs e_S_pattern_Rule p1), (21, .int .i64 x1)] H (noU_all rfl) (fun fr => by kernel_rfl) ?_
    intro fr H
    obtain ⟨x4, hx, hm⟩ := bind_some hm
    refine at_step (v := .vptr (e_S_pattern_Rule x4)) (h1 := h1) [(0, vs e_S_pattern_Rule p0), (1, vs e_S_pattern_Rule p1), (12, .int .i64 (p0.length : Int)), (13, .int .i64 x1), (19, .agg (e_S_pattern_Rule x3)), (22, .vptr (e_S_pattern_Rule x4))] H (fun fr => by kernel_rfl) (fun fr => .of (s_ixV (e := e_S_pattern_Rule) (x := x4) enc_S_pattern_Rule (by decide) (by kernel_rfl) hx)) ?_
    intro fr t H
    refine at_step (v := .agg (e_S_pattern_Rule x4)) (h1 := h1) [(0, vs e_S_pattern_Rule p0), (1, vs e_S_pattern_Rule p1), (12, .int .i64 (p0.length : Int)), (13, .int .i64 x1), (19, .agg (e_S_pattern_Rule x3)), (23, .agg (e_S_pattern_Rule x4))] H (fun fr => by kernel_rfl) (fun fr => .of (s_lv (by kernel_rfl))) ?_
    intro fr t H
    obtain ⟨x5, hx, hm⟩ := bind_some hm
    refine at_step (v := .bool (!x5)) (h1 := h1) [(0, vs e_S_pattern_Rule p0), (1, vs e_S_pattern_Rule p1), (12, .int .i64 (p0.length : Int)), (13, .int .i64 x1), (24, .bool (!x5))] H (fun fr => by kernel_rfl) (fun fr => .of (s_neG (by kernel_rfl) hx)) ?_
    intro fr t H
    refine at_nil ?_
    show AW cfg 39 g (right (right (left (left (right (right (left (left (right (left (right (right (bodyC cfg.P 39))))))))))))) fr h1 _
    rcases iteB_some hm with ⟨hb, hm⟩ | ⟨hb, hm⟩
    ·replace H := H.know 24 hb (by kernel_rfl)
     refine aw_true (x := .tmp 24) (by kernel_rfl) H (fun fr => by kernel_rfl) ?_
     refine aw_seq (by kernel_rfl) ?_
     refine aw_reg (id := 7) (n := 1) [(0, [])] (by kernel_rfl) (by kernel_rfl) ?_
     refine at_seg [(0, [])] [(4, .bool false)] H (noU_all rfl) (fun fr => by kernel_rfl) ?_
     intro fr H
     refine at_nil ?_
     show AW cfg 39 g (right (left (right (right (left (left (right (right (left (left (right (left (right (right (bodyC cfg.P 39))))))))))))))) fr h1 _
     refine aw_ret (by kernel_rfl) ?_
     exact Exists.intro _ (And.intro (Option.some.inj hm).symm (fun e => Or.inr (Or.inl ⟨false, rfl, e, H.less _ (fun fr => by kernel_rfl), A⟩)))
    ·replace H := H.know 24 hb (by kernel_rfl)
     refine aw_false (x := .tmp 24) (by kernel_rfl) H (fun fr => by kernel_rfl) ?_
     refine aw_skip (by kernel_rfl) ?_
     show AW cfg 39 g (right (right (right (left (left (right (left (right (right (bodyC cfg.P 39)))))))))) fr h1 _
     refine aw_reg (id := 8) (n := 2) [(0, []), (1, [])] (by kernel_rfl) (by kernel_rfl) ?_
     refine at_seg [(0, []), (1, [])] [(0, vs e_S_pattern_Rule p0), (1, vs e_S_pattern_Rule p1), (12, .int .i64 (p0.length : Int)), (13, .int .i64 (IntKind.i64.wrap (x1 + (1 : Int))))] H (noU_all rfl) (fun fr => by kernel_rfl) ?_
     intro fr H
     refine at_nil ?_
     exact Exists.intro (IntKind.i64.wrap (x1 + (1 : Int))) (And.intro (Option.some.inj hm).symm ⟨IntKind.i64.wrap (x1 + (1 : Int)), rfl, H.less _ (fun fr => by kernel_rfl), A⟩)
   ·replace H := H.know 14 hb (by kernel_rfl)
    refine aw_false (x := .tmp 14) (by kernel_rfl) H (fun fr => by kernel_rfl) ?_
    refine aw_exit (i := 0) (by kernel_rfl) ?_
    exact Exists.intro _ (And.intro (Option.some.inj hm).symm (fun e => Or.inl ⟨rfl, e, H.less _ (fun fr => by kernel_rfl), A⟩))
  ·clear ho
   clear A
   intro e fr h2 hQ
   rcases hQ with ⟨rfl, rfl, H, A⟩ | ⟨x2, rfl, rfl, H, A⟩ | hF
   ·skip
    show AW cfg 39 g (right (right (right (bodyC cfg.P 39)))) fr h2 _
    refine aw_seq (by kernel_rfl) ?_
    refine aw_reg (id := 9) (n := 1) [(0, [])] (by kernel_rfl) (by kernel_rfl) ?_
    refine at_seg [(0, [])] [(4, .bool true)] H (noU_all rfl) (fun fr => by kernel_rfl) ?_
    intro fr H
    refine at_nil ?_
    show AW cfg 39 g (right (right (right (right (bodyC cfg.P 39))))) fr h2 _
    refine aw_ret (by kernel_rfl) ?_
    have e1 := Option.some.inj hm
    subst e1
    refine ⟨.inl rfl, .bool true, resH H (fun fr => by kernel_rfl), ?_⟩
    exact ⟨rfl, A⟩
   ·skip
    have e1 := Option.some.inj hm
    subst e1
    refine ⟨.inl rfl, .bool x2, resH H (fun fr => by kernel_rfl), ?_⟩
    exact ⟨rfl, A⟩
   ·exact hF.elim
/-! ### slices.Equal[[]boulter/rewrite.Expr,boulter/rewrite.Expr] -/
noncomputable def M_slices_Equal_boulter_rewrite_Expr_boulter_rewrite_Expr_L0 (p0 : List S_rewrite_Expr) (p1 : List S_rewrite_Expr) (s : Int) : Option ((Int) ⊕ ((Unit) ⊕ (Bool))) :=
 match s with
 | x1 => iteB (decide (x1 < (p0.length : Int))) ((ixV p0 x1).bind fun x3 => (ixV p1 x1).bind fun x4 => (eqG cfg.P 24 [.str x3.Re, .str x3.Template, .bool x3.Global, .bool x3.Fold, .bool x3.Extended, .int .i64 x3.Number, .bool x3.Names, .bool x3.Soft, .bool x3.Hard] [.str x4.Re, .str x4.Template, .bool x4.Global, .bool x4.Fold, .bool x4.Extended, .int .i64 x4.Number, .bool x4.Names, .bool x4.Soft, .bool x4.Hard]).bind fun x5 => iteB (!x5) (some (.inr (.inr false))) (some (.inl (IntKind.i64.wrap (x1 + (1 : Int)))))) (some (.inr (.inl ())))
noncomputable def M_slices_Equal_boulter_rewrite_Expr_boulter_rewrite_Expr (p0 : List S_rewrite_Expr) (p1 : List S_rewrite_Expr) : Option (Bool) :=
 iteB ((p0.length : Int) != (p1.length : Int)) (some false) ((loop (M_slices_Equal_boulter_rewrite_Expr_boulter_rewrite_Expr_L0 p0 p1) (0 : Int)).bind fun o1 => (match o1 with | .inl _ => some true | .inr x2 => some x2))
theorem ok_slices_Equal_boulter_rewrite_Expr_boulter_rewrite_Expr {g : Gd} {h : AHeap} {F : List Ck} {p0 : List S_rewrite_Expr} {p1 : List S_rewrite_Expr} {q0 : Bool} {av : List AVal} (hm : M_slices_Equal_boulter_rewrite_Expr_boulter_rewrite_Expr p0 p1 = some q0) (hc : canL (cfg.still 40) av = [vs e_S_rewrite_Expr p0, vs e_S_rewrite_Expr p1]) (A : HH g h [] F) : ∃ v h', Runs cfg g h 40 av v h' ∧ v = .bool q0 ∧ HH g h' [] F := by
 refine runsQ1 (n := 26) (rs := [.tmp 4]) (by kernel_rfl) hc (by kernel_rfl) ?_
 clear hc
 unfold M_slices_Equal_boulter_rewrite_Expr_boulter_rewrite_Expr at hm
 refine start (n := 26) [(0, vs e_S_rewrite_Expr p0), (1, vs e_S_rewrite_Expr p1)] (by kernel_rfl) (by kernel_rfl) ?_
 intro fr H
 refine aw_seq (by kernel_rfl) ?_
 refine aw_reg (id := 0) (n := 1) [(0, [])] (by kernel_rfl) (by kernel_rfl) ?_
 refine at_seg [(0, [])] [(0, vs e_S_rewrite_Expr p0), (1, vs e_S_rewrite_Expr p1)] H (noU_all rfl) (fun fr => by kernel_rfl) ?_
 intro fr H
 refine at_nil ?_
 show AW cfg 40 g (right (bodyC cfg.P 40)) fr h _
 refine aw_seq (by kernel_rfl) ?_
 refine aw_seq (by kernel_rfl) ?_
 refine aw_reg (id := 1) (n := 5) [(0, []), (1, []), (2, []), (3, []), (4, [])] (by kernel_rfl) (by kernel_rfl) ?_
 refine at_seg [(0, []), (1, []), (2, []), (3, []), (4, [])] [(0, vs e_S_rewrite_Expr p0), (1, vs e_S_rewrite_Expr p1), (10, .bool ((p0.length : Int) != (p1.length : Int)))] H (noU_all rfl) (fun fr => by kernel_rfl) ?_
 intro fr H
 refine at_nil ?_
 show AW cfg 40 g (right (left (right (bodyC cfg.P 40)))) fr h _
 rcases iteB_some hm with ⟨hb, hm⟩ | ⟨hb, hm⟩
 ·replace H := H.know 10 hb (by kernel_rfl)
  refine aw_true (x := .tmp 10) (by kernel_rfl) H (fun fr => by kernel_rfl) ?_
  refine aw_seq (by kernel_rfl) ?_
  refine aw_reg (id := 2) (n := 1) [(0, [])] (by kernel_rfl) (by kernel_rfl) ?_
  refine at_seg [(0, [])] [(4, .bool false)] H (noU_all rfl) (fun fr => by kernel_rfl) ?_
  intro fr H
  refine at_nil ?_
  show AW cfg 40 g (right (left (right (left (right (bodyC cfg.P 40)))))) fr h _
  refine aw_ret (by kernel_rfl) ?_
  have e1 := Option.some.inj hm
  subst e1
  refine ⟨.inl rfl, .bool false, resH H (fun fr => by kernel_rfl), ?_⟩
  exact ⟨rfl, A⟩
 ·replace H := H.know 10 hb (by kernel_rfl)
  refine aw_false (x := .tmp 10) (by kernel_rfl) H (fun fr => by kernel_rfl) ?_
  refine aw_skip (by kernel_rfl) ?_
  show AW cfg 40 g (right (right (bodyC cfg.P 40))) fr h _
  refine aw_seq (by kernel_rfl) ?_
  refine aw_seq (by kernel_rfl) ?_
  refine aw_reg (id := 3) (n := 3) [(0, []), (1, []), (2, [])] (by kernel_rfl) (by kernel_rfl) ?_
  refine at_seg [(0, []), (1, []), (2, [])] [(0, vs e_S_rewrite_Expr p0), (1, vs e_S_rewrite_Expr p1), (12, .int .i64 (p0.length : Int)), (13, .int .i64 (0 : Int))] H (noU_all rfl) (fun fr => by kernel_rfl) ?_
  intro fr H
  refine at_nil ?_
  show AW cfg 40 g (right (left (right (right (bodyC cfg.P 40))))) fr h _
  refine aw_block (id := 0) (by kernel_rfl) ?_
  obtain ⟨o1, ho, hm⟩ := bind_some hm
  refine aw_mono (Q' := fun e fr' h' => (e = .exit 0 ∧ .inl () = o1 ∧ Has fr' 26 [] ∧ HH g h' [] F) ∨ (∃ (x2 : Bool), e = .ret ∧ .inr x2 = o1 ∧ Has fr' 26 [(4, .bool x2)] ∧ HH g h' [] F) ∨ False) ?_ ?_
  ·refine aw_loop (by kernel_rfl) (fun (s : Int) fr' h' => ∃ (x1 : Int), x1 = s ∧ Has fr' 26 [(0, vs e_S_rewrite_Expr p0), (1, vs e_S_rewrite_Expr p1), (12, .int .i64 (p0.length : Int)), (13, .int .i64 x1)] ∧ HH g h' [] F) ho ⟨(0 : Int), rfl, H.less _ (fun fr => by kernel_rfl), A⟩ ?_
   clear ho hm H A
   intro s q fr h1 hI hm
   obtain ⟨x1, rfl, H, A⟩ := hI
   unfold M_slices_Equal_boulter_rewrite_Expr_boulter_rewrite_Expr_L0 at hm
   refine aw_seq (by kernel_rfl) ?_
   refine aw_reg (id := 4) (n := 1) [(0, [])] (by kernel_rfl) (by kernel_rfl) ?_
   refine at_seg [(0, [])] [(0, vs e_S_rewrite_Expr p0), (1, vs e_S_rewrite_Expr p1), (12, .int .i64 (p0.length : Int)), (13, .int .i64 x1), (14, .bool (decide (x1 < (p0.length : Int))))] H (noU_all rfl) (fun fr => by kernel_rfl) ?_
   intro fr H
   refine at_nil ?_
   show AW cfg 40 g (right (left (left (right (left (right (right (bodyC cfg.P 40)))))))) fr h1 _
   refine aw_seq (by kernel_rfl) ?_
   rcases iteB_some hm with ⟨hb, hm⟩ | ⟨hb, hm⟩
   ·replace H := H.know 14 hb (by kernel_rfl)
    refine aw_true (x := .tmp 14) (by kernel_rfl) H (fun fr => by kernel_rfl) ?_
    refine aw_skip (by kernel_rfl) ?_
    show AW cfg 40 g (right (right (left (left (right (left (right (right (bodyC cfg.P 40))))))))) fr h1 _
    refine aw_seq (by kernel_rfl) ?_
    refine aw_block (id := 1) (by kernel_rfl) ?_
    refine aw_seq (by kernel_rfl) ?_
    refine aw_reg (id := 5) (n := 2) [(0, []), (1, [])] (by kernel_rfl) (by kernel_rfl) ?_
    refine at_seg [(0, []), (1, [])] [(0, vs e_S_rewrite_Expr p0), (1, vs e_S_rewrite_Expr p1), (5, .int .i64 x1), (12, .int .i64 (p0.length : Int)), (13, .int .i64 x1)] H (noU_all rfl) (fun fr => by kernel_rfl) ?_
    intro fr H
    refine at_nil ?_
    show AW cfg 40 g (right (left (left (right (right (left (left (right (left (right (right (bodyC cfg.P 40)))))))))))) fr h1 _
    refine aw_seq (by kernel_rfl) ?_
    refine aw_draw (id := 6) (n := 9) (by kernel_rfl) [(0, []), (1, []), (2, []), (3, []), (4, []), (5, []), (6, []), (7, []), (8, [])] (by kernel_rfl) ?_
    refine at_seg [(0, []), (1, [])] [(0, vs e_S_rewrite_Expr p0), (1, vs e_S_rewrite_Expr p1), (5, .int .i64 x1), (12, .int .i64 (p0.length : Int)), (13, .int .i64 x1), (16, vs e_S_rewrite_Expr p0), (17, .int .i64 x1)] H (noU_all rfl) (fun fr => by kernel_rfl) ?_
    intro fr H
    obtain ⟨x3, hx, hm⟩ := bind_some hm
    refine at_step (v := .vptr (e_S_rewrite_Expr x3)) (h1 := h1) [(0, vs e_S_rewrite_Expr p0), (1, vs e_S_rewrite_Expr p1), (5, .int .i64 x1), (12, .int .i64 (p0.length : Int)), (13, .int .i64 x1), (18, .vptr (e_S_rewrite_Expr x3))] H (fun fr => by kernel_rfl) (fun fr => .of (s_ixV (e := e_S_rewrite_Expr) (x := x3) enc_S_rewrite_Expr (by decide) (by kernel_rfl) hx)) ?_
    intro fr t H
    refine at_step (v := .agg (e_S_rewrite_Expr x3)) (h1 := h1) [(0, vs e_S_rewrite_Expr p0), (1, vs e_S_rewrite_Expr p1), (5, .int .i64 x1), (12, .int .i64 (p0.length : Int)), (13, .int .i64 x1), (19, .agg (e_S_rewrite_Expr x3))] H (fun fr => by kernel_rfl) (fun fr => .of (s_lv (by kernel_rfl))) ?_
    intro fr t H
    refine at_seg [(4, []), (5, [])] [(0, vs e_S_rewrite_Expr p0), (1, vs e_S_rewrite_Expr p1), (12, .int .i64 (p0.length : Int)), (13, .int .i64 x1), (19, .agg (e_S_rewrite_Expr x3)), (20, vs e_S_rewrite_Expr p1), (21, .int .i64 x1)] H (noU_all rfl) (fun fr => by kernel_rfl) ?_
    intro fr H
    obtain ⟨x4, hx, hm⟩ := bind_some hm
    refine at_step (v := .vptr (e_S_rewrite_Expr x4)) (h1 := h1) [(0, vs e_S_rewrite_Expr p0), (1, vs e_S_rewrite_Expr p1), (12, .int .i64 (p0.length : Int)), (13, .int .i64 x1), (19, .agg (e_S_rewrite_Expr x3)), (22, .vptr (e_S_rewrite_Expr x4))] H (fun fr => by kernel_rfl) (fun fr => .of (s_ixV (e := e_S_rewrite_Expr) (x := x4) enc_S_rewrite_Expr (by decide) (by kernel_rfl) hx)) ?_
    intro fr t H
    refine at_step (v := .agg (e_S_rewrite_Expr x4)) (h1 := h1) [(0, vs e_S_rewrite_Expr p0), (1, vs e_S_rewrite_Expr p1), (12, .int .i64 (p0.length : Int)), (13, .int .i64 x1), (19, .agg (e_S_rewrite_Expr x3)), (23, .agg (e_S_rewrite_Expr x4))] H (fun fr => by kernel_rfl) (fun fr => .of (s_lv (by kernel_rfl))) ?_
    intro fr t H
    obtain ⟨x5, hx, hm⟩ := bind_some hm
    refine at_step (v := .bool (!x5)) (h1 := h1) [(0, vs e_S_rewrite_Expr p0), (1, vs e_S_rewrite_Expr p1), (12, .int .i64 (p0.length : Int)), (13, .int .i64 x1), (24, .bool (!x5))] H (fun fr => by kernel_rfl) (fun fr => .of (s_neG (by kernel_rfl) hx)) ?_
    intro fr t H
    refine at_nil ?_
    show AW cfg 40 g (right (right (left (left (right (right (left (left (right (left (right (right (bodyC cfg.P 40))))))))))))) fr h1 _
    rcases iteB_some hm with ⟨hb, hm⟩ | ⟨hb, hm⟩
    ·replace H := H.know 24 hb (by kernel_rfl)
     refine aw_true (x := .tmp 24) (by kernel_rfl) H (fun fr => by kernel_rfl) ?_
     refine aw_seq (by kernel_rfl) ?_
     refine aw_reg (id := 7) (n := 1) [(0, [])] (by kernel_rfl) (by kernel_rfl) ?_
     refine at_seg [(0, [])] [(4, .bool false)] H (noU_all rfl) (fun fr => by kernel_rfl) ?_
     intro fr H
     refine at_nil ?_
     show AW cfg 40 g (right (left (right (right (left (left (right (right (left (left (right (left (right (right (bodyC cfg.P 40))))))))))))))) fr h1 _
     refine aw_ret (by kernel_rfl) ?_
     exact Exists.intro _ (And.intro (Option.some.inj hm).symm (fun e => Or.inr (Or.inl ⟨false, rfl, e, H.less _ (fun fr => by kernel_rfl), A⟩)))
    ·replace H := H.know 24 hb (by kernel_rfl)
     refine aw_false (x := .tmp 24) (by kernel_rfl) H (fun fr => by kernel_rfl) ?_
     refine aw_skip (by kernel_rfl) ?_
     show AW cfg 40 g (right (right (right (left (left (right (left (right (right (bodyC cfg.P 40)))))))))) fr h1 _
     refine aw_reg (id := 8) (n := 2) [(0, []), (1, [])] (by kernel_rfl) (by kernel_rfl) ?_
     refine at_seg [(0, []), (1, [])] [(0, vs e_S_rewrite_Expr p0), (1, vs e_S_rewrite_Expr p1), (12, .int .i64 (p0.length : Int)), (13, .int .i64 (IntKind.i64.wrap (x1 + (1 : Int))))] H (noU_all rfl) (fun fr => by kernel_rfl) ?_
     intro fr H
     refine at_nil ?_
     exact Exists.intro (IntKind.i64.wrap (x1 + (1 : Int))) (And.intro (Option.some.inj hm).symm ⟨IntKind.i64.wrap (x1 + (1 : Int)), rfl, H.less _ (fun fr => by kernel_rfl), A⟩)
   ·replace H := H.know 14 hb (by kernel_rfl)
    refine aw_false (x := .tmp 14) (by kernel_rfl) H (fun fr => by kernel_rfl) ?_
    refine aw_exit (i := 0) (by kernel_rfl) ?_
    exact Exists.intro _ (And.intro (Option.some.inj hm).symm (fun e => Or.inl ⟨rfl, e, H.less _ (fun fr => by kernel_rfl), A⟩))
  ·clear ho
   clear A
   intro e fr h2 hQ
   rcases hQ with ⟨rfl, rfl, H, A⟩ | ⟨x2, rfl, rfl, H, A⟩ | hF
   ·skip
    show AW cfg 40 g (right (right (right (bodyC cfg.P 40)))) fr h2 _
    refine aw_seq (by kernel_rfl) ?_
    refine aw_reg (id := 9) (n := 1) [(0, [])] (by kernel_rfl) (by kernel_rfl) ?_
    refine at_seg [(0, [])] [(4, .bool true)] H (noU_all rfl) (fun fr => by kernel_rfl) ?_
    intro fr H
    refine at_nil ?_
    show AW cfg 40 g (right (right (right (right (bodyC cfg.P 40))))) fr h2 _
    refine aw_ret (by kernel_rfl) ?_
    have e1 := Option.some.inj hm
    subst e1
    refine ⟨.inl rfl, .bool true, resH H (fun fr => by kernel_rfl), ?_⟩
    exact ⟨rfl, A⟩
   ·skip
    have e1 := Option.some.inj hm
    subst e1
    refine ⟨.inl rfl, .bool x2, resH H (fun fr => by kernel_rfl), ?_⟩
    exact ⟨rfl, A⟩
   ·exact hF.elim
end Go.Av.L
