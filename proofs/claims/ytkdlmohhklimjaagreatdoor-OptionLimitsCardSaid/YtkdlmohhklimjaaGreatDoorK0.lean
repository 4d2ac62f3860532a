/-
 Models of functions, and that the abstract run tells them. Written by lift2.py.
-/
import Derived.Test.YtkdlmohhklimjaaGreatDoorKCfg
namespace Go.Av.L
open Go.Av Go.Lib
set_option maxRecDepth 10000
set_option linter.unusedVariables false
set_option linter.unusedSimpArgs false
/-! ### boulter/option.Default -/
noncomputable def M_option_Default : Option (Unit) :=
 some ()
theorem ok_option_Default {g : Gd} {h : AHeap} {F : List Ck} {av : List AVal} (hm : M_option_Default = some ()) (hc : canL (cfg.still 19) av = []) (A : HH g h [] F) : ∃ v h', Runs cfg g h 19 av v h' ∧ v = .agg [.slice none 0, .slice none 0, .slice none 0, .bool false, .bool false, .int .i64 (0 : Int), .bool false, .int .i64 (0 : Int), .int .i64 (0 : Int), .int .i64 (0 : Int), .int .i64 (0 : Int), .int .i64 (4096 : Int), .int .i64 (65536 : Int), .int .i64 (4096 : Int)] ∧ HH g h' [] F := by
 refine runsQ1 (n := 2) (rs := [.cell 0 50]) (by kernel_rfl) hc (by kernel_rfl) ?_
 clear hc
 unfold M_option_Default at hm
 refine start (n := 2) [] (by kernel_rfl) (by kernel_rfl) ?_
 intro fr H
 refine aw_seq (by kernel_rfl) ?_
 refine aw_reg (id := 0) (n := 1) [(0, [])] (by kernel_rfl) (by kernel_rfl) ?_
 obtain ⟨h1, e1⟩ : ∃ x, x = h.push (.cells none 2 [.slice none 0, .slice none 0, .slice none 0, .bool false, .bool false, .int .i64 (0 : Int), .bool false, .int .i64 (0 : Int), .int .i64 (0 : Int), .int .i64 (0 : Int), .int .i64 (0 : Int), .int .i64 (0 : Int), .int .i64 (0 : Int), .int .i64 (0 : Int)]) := ⟨_, rfl⟩
 replace A := (A.push _).to e1
 refine at_step (v := .ptr (some (h.size, 0))) (h1 := h1) [(0, .ptr (some (h.size, 0)))] H (fun fr => by kernel_rfl) (fun fr => .of (s_n' (by kernel_rfl) (congrArg some e1.symm))) ?_
 intro fr t H
 refine at_nil ?_
 show AW cfg 19 g (right (bodyC cfg.P 19)) fr h1 _
 refine aw_seq (by kernel_rfl) ?_
 refine aw_reg (id := 1) (n := 2) [(0, []), (1, [])] (by kernel_rfl) (by kernel_rfl) ?_
 refine at_seg [(0, [])] [(0, .ptr (some (h.size, 0))), (1, .agg [.slice none 0, .slice none 0, .slice none 0, .bool false, .bool false, .int .i64 (0 : Int), .bool false, .int .i64 (0 : Int), .int .i64 (0 : Int), .int .i64 (0 : Int), .int .i64 (0 : Int), .int .i64 (4096 : Int), .int .i64 (65536 : Int), .int .i64 (4096 : Int)])] H (noU_all rfl) (fun fr => by kernel_rfl) ?_
 intro fr H
 obtain ⟨h2, hx, A1⟩ := A.st 0 rfl (o := 0) (new := [.slice none 0, .slice none 0, .slice none 0, .bool false, .bool false, .int .i64 (0 : Int), .bool false, .int .i64 (0 : Int), .int .i64 (0 : Int), .int .i64 (0 : Int), .int .i64 (0 : Int), .int .i64 (4096 : Int), .int .i64 (65536 : Int), .int .i64 (4096 : Int)]) (ds := [.slice none 0, .slice none 0, .slice none 0, .bool false, .bool false, .int .i64 (0 : Int), .bool false, .int .i64 (0 : Int), .int .i64 (0 : Int), .int .i64 (0 : Int), .int .i64 (0 : Int), .int .i64 (4096 : Int), .int .i64 (65536 : Int), .int .i64 (4096 : Int)]) (Nat.le_of_ble_eq_true rfl) rfl rfl
 replace A : HH g h2 [.obj h.size (.cells none 2 [.slice none 0, .slice none 0, .slice none 0, .bool false, .bool false, .int .i64 (0 : Int), .bool false, .int .i64 (0 : Int), .int .i64 (0 : Int), .int .i64 (0 : Int), .int .i64 (0 : Int), .int .i64 (4096 : Int), .int .i64 (65536 : Int), .int .i64 (4096 : Int)])] F := A1
 refine at_step (v := .tuple []) (h1 := h2) [(0, .ptr (some (h.size, 0)))] H (fun fr => by kernel_rfl) (fun fr => .of (s_stG (by kernel_rfl) (stG_st hx rfl))) ?_
 intro fr t H
 refine at_nil ?_
 show AW cfg 19 g (right (right (bodyC cfg.P 19))) fr h2 _
 refine aw_ret (by kernel_rfl) ?_
 refine ⟨.inl rfl, .agg [.slice none 0, .slice none 0, .slice none 0, .bool false, .bool false, .int .i64 (0 : Int), .bool false, .int .i64 (0 : Int), .int .i64 (0 : Int), .int .i64 (0 : Int), .int .i64 (0 : Int), .int .i64 (4096 : Int), .int .i64 (65536 : Int), .int .i64 (4096 : Int)], resL_one (.cell (resT H (fun fr => by kernel_rfl)) (load_ldA (by kernel_rfl) (by kernel_rfl) (A.ldA 0 rfl (o := 0) (n := 14) ⟨Nat.le_of_ble_eq_true rfl, rfl⟩)) .nil), ?_⟩
 replace A : HH g h2 [] F := (HH.dropF A 0)
 exact ⟨rfl, A⟩
/-! ### boulter/option.none -/
noncomputable def M_option_none : Option (S_option_flaw) :=
 some (⟨(0 : Int), (0 : Int)⟩ : S_option_flaw)
theorem ok_option_none {g : Gd} {h : AHeap} {F : List Ck} {q0 : S_option_flaw} {av : List AVal} (hm : M_option_none = some q0) (hc : canL (cfg.still 38) av = []) (A : HH g h [] F) : ∃ v h', Runs cfg g h 38 av v h' ∧ v = .agg [.int .i64 q0.e_, .int .i64 q0.at_] ∧ HH g h' [] F := by
 refine runsQ1 (n := 2) (rs := [.cell 0 96]) (by kernel_rfl) hc (by kernel_rfl) ?_
 clear hc
 unfold M_option_none at hm
 refine start (n := 2) [] (by kernel_rfl) (by kernel_rfl) ?_
 intro fr H
 refine aw_seq (by kernel_rfl) ?_
 refine aw_reg (id := 0) (n := 1) [(0, [])] (by kernel_rfl) (by kernel_rfl) ?_
 obtain ⟨h1, e1⟩ : ∃ x, x = h.push (.cells none 2 [.int .i64 (0 : Int), .int .i64 (0 : Int)]) := ⟨_, rfl⟩
 replace A := (A.push _).to e1
 refine at_step (v := .ptr (some (h.size, 0))) (h1 := h1) [(0, .ptr (some (h.size, 0)))] H (fun fr => by kernel_rfl) (fun fr => .of (s_n' (by kernel_rfl) (congrArg some e1.symm))) ?_
 intro fr t H
 refine at_nil ?_
 show AW cfg 38 g (right (bodyC cfg.P 38)) fr h1 _
 refine aw_seq (by kernel_rfl) ?_
 refine aw_reg (id := 1) (n := 2) [(0, []), (1, [])] (by kernel_rfl) (by kernel_rfl) ?_
 refine at_seg [(0, [])] [(0, .ptr (some (h.size, 0))), (1, .agg [.int .i64 (0 : Int), .int .i64 (0 : Int)])] H (noU_all rfl) (fun fr => by kernel_rfl) ?_
 intro fr H
 obtain ⟨h2, hx, A1⟩ := A.st 0 rfl (o := 0) (new := [.int .i64 (0 : Int), .int .i64 (0 : Int)]) (ds := [.int .i64 (0 : Int), .int .i64 (0 : Int)]) (Nat.le_of_ble_eq_true rfl) rfl rfl
 replace A : HH g h2 [.obj h.size (.cells none 2 [.int .i64 (0 : Int), .int .i64 (0 : Int)])] F := A1
 refine at_step (v := .tuple []) (h1 := h2) [(0, .ptr (some (h.size, 0)))] H (fun fr => by kernel_rfl) (fun fr => .of (s_stG (by kernel_rfl) (stG_st hx rfl))) ?_
 intro fr t H
 refine at_nil ?_
 show AW cfg 38 g (right (right (bodyC cfg.P 38))) fr h2 _
 refine aw_ret (by kernel_rfl) ?_
 have e1 := Option.some.inj hm
 subst e1
 refine ⟨.inl rfl, .agg [.int .i64 (0 : Int), .int .i64 (0 : Int)], resL_one (.cell (resT H (fun fr => by kernel_rfl)) (load_ldA (by kernel_rfl) (by kernel_rfl) (A.ldA 0 rfl (o := 0) (n := 2) ⟨Nat.le_of_ble_eq_true rfl, rfl⟩)) .nil), ?_⟩
 replace A : HH g h2 [] F := (HH.dropF A 0)
 exact ⟨rfl, A⟩
/-! ### boulter/glob.Parse -/
noncomputable def M_glob_Parse_L0 (p0 : List UInt8) (s : (List S_glob_Token) × Int) : Option (((List S_glob_Token) × Int) ⊕ (((List S_glob_Token)) ⊕ (Int × Int))) :=
 match s with
 | (x1, x2) => iteB (decide (x2 < (p0.length : Int))) (iteB ((x1.length : Int) == (1024 : Int)) (some (.inr (.inr (x2, (8 : Int))))) ((ixS p0 x2).bind fun x6 => iteB (x6 == (42 : Int)) (need (okN 48 (x1.length + ([(⟨(4 : Int), (0 : Int), (⟨(0 : Int), (0 : Int), (0 : Int), (0 : Int)⟩ : A4_uint64)⟩ : S_glob_Token)] : List S_glob_Token).length)) <| some (.inl ((x1 ++ ([(⟨(4 : Int), (0 : Int), (⟨(0 : Int), (0 : Int), (0 : Int), (0 : Int)⟩ : A4_uint64)⟩ : S_glob_Token)] : List S_glob_Token)), IntKind.i64.wrap (x2 + (1 : Int))))) (iteB (x6 == (63 : Int)) (need (okN 48 (x1.length + ([(⟨(2 : Int), (0 : Int), (⟨(0 : Int), (0 : Int), (0 : Int), (0 : Int)⟩ : A4_uint64)⟩ : S_glob_Token)] : List S_glob_Token).length)) <| some (.inl ((x1 ++ ([(⟨(2 : Int), (0 : Int), (⟨(0 : Int), (0 : Int), (0 : Int), (0 : Int)⟩ : A4_uint64)⟩ : S_glob_Token)] : List S_glob_Token)), IntKind.i64.wrap (x2 + (1 : Int))))) (iteB (x6 == (91 : Int)) (none) (iteB (x6 == (92 : Int)) (iteB (x2 == (IntKind.i64.wrap ((p0.length : Int) - (1 : Int)))) (some (.inr (.inr (x2, (11 : Int))))) ((ixS p0 (IntKind.i64.wrap (x2 + (1 : Int)))).bind fun x7 => need (okN 48 (x1.length + ([(⟨(1 : Int), x7, (⟨(0 : Int), (0 : Int), (0 : Int), (0 : Int)⟩ : A4_uint64)⟩ : S_glob_Token)] : List S_glob_Token).length)) <| some (.inl ((x1 ++ ([(⟨(1 : Int), x7, (⟨(0 : Int), (0 : Int), (0 : Int), (0 : Int)⟩ : A4_uint64)⟩ : S_glob_Token)] : List S_glob_Token)), IntKind.i64.wrap (x2 + (2 : Int)))))) (need (okN 48 (x1.length + ([(⟨(1 : Int), x6, (⟨(0 : Int), (0 : Int), (0 : Int), (0 : Int)⟩ : A4_uint64)⟩ : S_glob_Token)] : List S_glob_Token).length)) <| some (.inl ((x1 ++ ([(⟨(1 : Int), x6, (⟨(0 : Int), (0 : Int), (0 : Int), (0 : Int)⟩ : A4_uint64)⟩ : S_glob_Token)] : List S_glob_Token)), IntKind.i64.wrap (x2 + (1 : Int)))))))))) (some (.inr (.inl x1)))
noncomputable def M_glob_Parse (p0 : List UInt8) : Option ((List S_glob_Token) × Int × Int) :=
 (loop (M_glob_Parse_L0 p0) (([] : List S_glob_Token), (0 : Int))).bind fun o1 => (match o1 with | .inl x3 => some (x3, (0 : Int), (0 : Int)) | .inr (x4, x5) => some (([] : List S_glob_Token), x4, x5))
theorem ok_glob_Parse {g : Gd} {h : AHeap} {F : List Ck} {p0 : List UInt8} {q0 : List S_glob_Token} {q1 : Int} {q2 : Int} {av : List AVal} (hm : M_glob_Parse p0 = some (q0, q1, q2)) (hc : canL (cfg.still 104) av = [.str p0]) (A : HH g h [] F) : ∃ v h', Runs cfg g h 104 av v h' ∧ ∃ (rq0 : Option Nat), v = .tuple [rowV rq0 q0.length, .int .i64 q1, .int .i64 q2] ∧ HH g h' [.lst rq0 256 (lst e_S_glob_Token q0)] F := by
 refine runsQ1 (n := 84) (rs := [.tmp 2, .tmp 3, .tmp 4]) (by kernel_rfl) hc (by kernel_rfl) ?_
 clear hc
 unfold M_glob_Parse at hm
 refine start (n := 84) [(0, .str p0)] (by kernel_rfl) (by kernel_rfl) ?_
 intro fr H
 refine aw_seq (by kernel_rfl) ?_
 refine aw_reg (id := 0) (n := 3) [(0, []), (1, []), (2, [])] (by kernel_rfl) (by kernel_rfl) ?_
 refine at_seg [(0, []), (1, []), (2, [])] [(0, .str p0)] H (noU_all rfl) (fun fr => by kernel_rfl) ?_
 intro fr H
 refine at_nil ?_
 show AW cfg 104 g (right (bodyC cfg.P 104)) fr h _
 refine aw_seq (by kernel_rfl) ?_
 refine aw_reg (id := 1) (n := 1) [(0, [])] (by kernel_rfl) (by kernel_rfl) ?_
 refine at_seg [(0, [])] [(0, .str p0), (5, .slice none 0)] H (noU_all rfl) (fun fr => by kernel_rfl) ?_
 intro fr H
 refine at_nil ?_
 show AW cfg 104 g (right (right (bodyC cfg.P 104))) fr h _
 refine aw_seq (by kernel_rfl) ?_
 refine aw_seq (by kernel_rfl) ?_
 refine aw_reg (id := 2) (n := 1) [(0, [])] (by kernel_rfl) (by kernel_rfl) ?_
 refine at_seg [(0, [])] [(0, .str p0), (5, .slice none 0), (6, .int .i64 (0 : Int))] H (noU_all rfl) (fun fr => by kernel_rfl) ?_
 intro fr H
 refine at_nil ?_
 show AW cfg 104 g (right (left (right (right (bodyC cfg.P 104))))) fr h _
 refine aw_block (id := 0) (by kernel_rfl) ?_
 replace A : HH g h [.lst none 256 (lst e_S_glob_Token ([] : List S_glob_Token))] F := A.nilL 256
 obtain ⟨o1, ho, hm⟩ := bind_some hm
 refine aw_mono (Q' := fun e fr' h' => (∃ (x3 : List S_glob_Token), e = .exit 0 ∧ .inl x3 = o1 ∧ ∃ (r2 : Option Nat), Has fr' 84 [(5, rowV r2 x3.length)] ∧ HH g h' [.lst r2 256 (lst e_S_glob_Token x3)] F) ∨ (∃ (x4 : Int) (x5 : Int), e = .ret ∧ .inr (x4, x5) = o1 ∧ Has fr' 84 [(2, .slice none 0), (3, .int .i64 x4), (4, .int .i64 x5)] ∧ HH g h' [] F) ∨ False) ?_ ?_
 ·refine aw_loop (by kernel_rfl) (fun (s : (List S_glob_Token) × Int) fr' h' => ∃ (x1 : List S_glob_Token) (x2 : Int), (x1, x2) = s ∧ ∃ (r1 : Option Nat), Has fr' 84 [(0, .str p0), (5, rowV r1 x1.length), (6, .int .i64 x2)] ∧ HH g h' [.lst r1 256 (lst e_S_glob_Token x1)] F) ho ⟨([] : List S_glob_Token), (0 : Int), rfl, none, H.less _ (fun fr => by kernel_rfl), A⟩ ?_
  clear ho hm H A
  intro s q fr h1 hI hm
  obtain ⟨x1, x2, rfl, r1, H, A⟩ := hI
  unfold M_glob_Parse_L0 at hm
  refine aw_seq (by kernel_rfl) ?_
  refine aw_seq (by kernel_rfl) ?_
  refine aw_reg (id := 3) (n := 4) [(0, []), (1, []), (2, []), (3, [])] (by kernel_rfl) (by kernel_rfl) ?_
  refine at_seg [(0, []), (1, []), (2, []), (3, [])] [(0, .str p0), (5, rowV r1 x1.length), (6, .int .i64 x2), (14, .bool (decide (x2 < (p0.length : Int))))] H (noU_all rfl) (fun fr => by kernel_rfl) ?_
  intro fr H
  refine at_nil ?_
  show AW cfg 104 g (right (left (left (left (right (left (right (right (bodyC cfg.P 104))))))))) fr h1 _
  rcases iteB_some hm with ⟨hb, hm⟩ | ⟨hb, hm⟩
  ·replace H := H.know 14 hb (by kernel_rfl)
   refine aw_true (x := .tmp 14) (by kernel_rfl) H (fun fr => by kernel_rfl) ?_
   refine aw_skip (by kernel_rfl) ?_
   show AW cfg 104 g (right (left (left (right (left (right (right (bodyC cfg.P 104)))))))) fr h1 _
   refine aw_block (id := 1) (by kernel_rfl) ?_
   refine aw_seq (by kernel_rfl) ?_
   refine aw_seq (by kernel_rfl) ?_
   refine aw_reg (id := 4) (n := 3) [(0, []), (1, []), (2, [])] (by kernel_rfl) (by kernel_rfl) ?_
   refine at_seg [(0, []), (1, []), (2, [])] [(0, .str p0), (5, rowV r1 x1.length), (6, .int .i64 x2), (17, .bool ((x1.length : Int) == (1024 : Int)))] H (noU_all rfl) (fun fr => by kernel_rfl) ?_
   intro fr H
   refine at_nil ?_
   show AW cfg 104 g (right (left (left (right (left (left (right (left (right (right (bodyC cfg.P 104))))))))))) fr h1 _
   rcases iteB_some hm with ⟨hb, hm⟩ | ⟨hb, hm⟩
   ·replace H := H.know 17 hb (by kernel_rfl)
    refine aw_true (x := .tmp 17) (by kernel_rfl) H (fun fr => by kernel_rfl) ?_
    refine aw_seq (by kernel_rfl) ?_
    refine aw_reg (id := 5) (n := 4) [(0, []), (1, []), (2, []), (3, [])] (by kernel_rfl) (by kernel_rfl) ?_
    refine at_seg [(0, []), (1, []), (2, []), (3, [])] [(2, .slice none 0), (3, .int .i64 x2), (4, .int .i64 (8 : Int))] H (noU_all rfl) (fun fr => by kernel_rfl) ?_
    intro fr H
    refine at_nil ?_
    show AW cfg 104 g (right (left (right (left (left (right (left (left (right (left (right (right (bodyC cfg.P 104))))))))))))) fr h1 _
    refine aw_ret (by kernel_rfl) ?_
    replace A : HH g h1 [] F := (HH.dropF A 0)
    exact Exists.intro _ (And.intro (Option.some.inj hm).symm (fun e => Or.inr (Or.inl ⟨x2, (8 : Int), rfl, e, H.less _ (fun fr => by kernel_rfl), A⟩)))
   ·replace H := H.know 17 hb (by kernel_rfl)
    refine aw_false (x := .tmp 17) (by kernel_rfl) H (fun fr => by kernel_rfl) ?_
    refine aw_skip (by kernel_rfl) ?_
    show AW cfg 104 g (right (left (right (left (left (right (left (right (right (bodyC cfg.P 104)))))))))) fr h1 _
    refine aw_seq (by kernel_rfl) ?_
    refine aw_reg (id := 6) (n := 4) [(0, []), (1, []), (2, []), (3, [])] (by kernel_rfl) (by kernel_rfl) ?_
    refine at_seg [(0, []), (1, [])] [(0, .str p0), (5, rowV r1 x1.length), (6, .int .i64 x2), (19, .str p0), (20, .int .i64 x2)] H (noU_all rfl) (fun fr => by kernel_rfl) ?_
    intro fr H
    obtain ⟨x6, hx, hm⟩ := bind_some hm
    refine at_step (v := .int .u8 x6) (h1 := h1) [(0, .str p0), (5, rowV r1 x1.length), (6, .int .i64 x2), (21, .int .u8 x6)] H (fun fr => by kernel_rfl) (fun fr => .of (s_ixS (by kernel_rfl) hx)) ?_
    intro fr t H
    refine at_seg [(3, [])] [(0, .str p0), (5, rowV r1 x1.length), (6, .int .i64 x2), (7, .int .u8 x6)] H (noU_all rfl) (fun fr => by kernel_rfl) ?_
    intro fr H
    refine at_nil ?_
    show AW cfg 104 g (right (right (left (right (left (left (right (left (right (right (bodyC cfg.P 104))))))))))) fr h1 _
    refine aw_seq (by kernel_rfl) ?_
    refine aw_reg (id := 7) (n := 1) [(0, [])] (by kernel_rfl) (by kernel_rfl) ?_
    refine at_seg [(0, [])] [(0, .str p0), (5, rowV r1 x1.length), (6, .int .i64 x2), (7, .int .u8 x6), (22, .int .u8 x6)] H (noU_all rfl) (fun fr => by kernel_rfl) ?_
    intro fr H
    refine at_nil ?_
    show AW cfg 104 g (right (right (right (left (right (left (left (right (left (right (right (bodyC cfg.P 104)))))))))))) fr h1 _
    refine aw_block (id := 2) (by kernel_rfl) ?_
    refine aw_seq (by kernel_rfl) ?_
    refine aw_reg (id := 10) (n := 2) [(0, []), (1, [])] (by kernel_rfl) (by kernel_rfl) ?_
    refine at_seg [(0, []), (1, [])] [(0, .str p0), (5, rowV r1 x1.length), (6, .int .i64 x2), (7, .int .u8 x6), (22, .int .u8 x6), (30, .bool (x6 == (42 : Int)))] H (noU_all rfl) (fun fr => by kernel_rfl) ?_
    intro fr H
    refine at_nil ?_
    show AW cfg 104 g (right (left (right (right (right (left (right (left (left (right (left (right (right (bodyC cfg.P 104)))))))))))))) fr h1 _
    rcases iteB_some hm with ⟨hb, hm⟩ | ⟨hb, hm⟩
    ·replace H := H.know 30 hb (by kernel_rfl)
     refine aw_true (x := .tmp 30) (by kernel_rfl) H (fun fr => by kernel_rfl) ?_
     refine aw_seq (by kernel_rfl) ?_
     refine aw_reg (id := 11) (n := 5) [(0, []), (1, []), (2, []), (3, []), (4, [])] (by kernel_rfl) (by kernel_rfl) ?_
     refine at_seg [(0, []), (1, [])] [(0, .str p0), (6, .int .i64 x2), (32, rowV r1 x1.length), (33, .agg [.int .i64 (4 : Int), .int .u8 (0 : Int), .int .u64 (0 : Int), .int .u64 (0 : Int), .int .u64 (0 : Int), .int .u64 (0 : Int)])] H (noU_all rfl) (fun fr => by kernel_rfl) ?_
     intro fr H
     obtain ⟨h2, e1⟩ : ∃ x, x = h1.push (.cells (some 256) 2 [.int .i64 (4 : Int), .int .u8 (0 : Int), .int .u64 (0 : Int), .int .u64 (0 : Int), .int .u64 (0 : Int), .int .u64 (0 : Int)]) := ⟨_, rfl⟩
     replace A := (A.pushL _ _).to e1
     refine at_step (v := rowV (some h1.size) (([(⟨(4 : Int), (0 : Int), (⟨(0 : Int), (0 : Int), (0 : Int), (0 : Int)⟩ : A4_uint64)⟩ : S_glob_Token)] : List S_glob_Token).length)) (h1 := h2) [(0, .str p0), (6, .int .i64 x2), (32, rowV r1 x1.length), (34, rowV (some h1.size) (([(⟨(4 : Int), (0 : Int), (⟨(0 : Int), (0 : Int), (0 : Int), (0 : Int)⟩ : A4_uint64)⟩ : S_glob_Token)] : List S_glob_Token).length))] H (fun fr => by kernel_rfl) (fun fr => .of (s_n' (by kernel_rfl) (congrArg some e1.symm))) ?_
     intro fr t H
     obtain ⟨hb, hm⟩ := need_some hm
     obtain ⟨r3, h3, hx, A1⟩ := HH.appO enc_S_glob_Token (by decide) A 1 (xs := x1) (ys := ([(⟨(4 : Int), (0 : Int), (⟨(0 : Int), (0 : Int), (0 : Int), (0 : Int)⟩ : A4_uint64)⟩ : S_glob_Token)] : List S_glob_Token)) rfl (row_first A 0 rfl (n := ([(⟨(4 : Int), (0 : Int), (⟨(0 : Int), (0 : Int), (0 : Int), (0 : Int)⟩ : A4_uint64)⟩ : S_glob_Token)] : List S_glob_Token).length) (z := 6) rfl (by decide)) rfl rfl hb
     replace A : HH g h3 [.lst (some h1.size) 256 ([.int .i64 (4 : Int), .int .u8 (0 : Int), .int .u64 (0 : Int), .int .u64 (0 : Int), .int .u64 (0 : Int), .int .u64 (0 : Int)]), .lst r3 256 (lst e_S_glob_Token (x1 ++ ([(⟨(4 : Int), (0 : Int), (⟨(0 : Int), (0 : Int), (0 : Int), (0 : Int)⟩ : A4_uint64)⟩ : S_glob_Token)] : List S_glob_Token)))] F := A1
     replace A : HH g h3 [.lst r3 256 (lst e_S_glob_Token (x1 ++ ([(⟨(4 : Int), (0 : Int), (⟨(0 : Int), (0 : Int), (0 : Int), (0 : Int)⟩ : A4_uint64)⟩ : S_glob_Token)] : List S_glob_Token)))] F := (HH.dropF (A.front 1 rfl) 1)
     refine at_step (v := rowV r3 ((x1 ++ ([(⟨(4 : Int), (0 : Int), (⟨(0 : Int), (0 : Int), (0 : Int), (0 : Int)⟩ : A4_uint64)⟩ : S_glob_Token)] : List S_glob_Token)).length)) (h1 := h3) [(0, .str p0), (6, .int .i64 x2), (35, rowV r3 ((x1 ++ ([(⟨(4 : Int), (0 : Int), (⟨(0 : Int), (0 : Int), (0 : Int), (0 : Int)⟩ : A4_uint64)⟩ : S_glob_Token)] : List S_glob_Token)).length))] H (fun fr => by kernel_rfl) (fun fr => .of (s_app (s := rowS r1 x1.length) (by kernel_rfl) hx)) ?_
     intro fr t H
     refine at_seg [(4, [])] [(0, .str p0), (5, rowV r3 ((x1 ++ ([(⟨(4 : Int), (0 : Int), (⟨(0 : Int), (0 : Int), (0 : Int), (0 : Int)⟩ : A4_uint64)⟩ : S_glob_Token)] : List S_glob_Token)).length)), (6, .int .i64 x2)] H (noU_all rfl) (fun fr => by kernel_rfl) ?_
     intro fr H
     refine at_nil ?_
     show AW cfg 104 g (right (left (right (left (right (right (right (left (right (left (left (right (left (right (right (bodyC cfg.P 104)))))))))))))))) fr h3 _
     refine aw_reg (id := 12) (n := 3) [(0, []), (1, []), (2, [])] (by kernel_rfl) (by kernel_rfl) ?_
     refine at_seg [(0, []), (1, []), (2, [])] [(0, .str p0), (5, rowV r3 ((x1 ++ ([(⟨(4 : Int), (0 : Int), (⟨(0 : Int), (0 : Int), (0 : Int), (0 : Int)⟩ : A4_uint64)⟩ : S_glob_Token)] : List S_glob_Token)).length)), (6, .int .i64 (IntKind.i64.wrap (x2 + (1 : Int))))] H (noU_all rfl) (fun fr => by kernel_rfl) ?_
     intro fr H
     refine at_nil ?_
     exact Exists.intro ((x1 ++ ([(⟨(4 : Int), (0 : Int), (⟨(0 : Int), (0 : Int), (0 : Int), (0 : Int)⟩ : A4_uint64)⟩ : S_glob_Token)] : List S_glob_Token)), IntKind.i64.wrap (x2 + (1 : Int))) (And.intro (Option.some.inj hm).symm ⟨(x1 ++ ([(⟨(4 : Int), (0 : Int), (⟨(0 : Int), (0 : Int), (0 : Int), (0 : Int)⟩ : A4_uint64)⟩ : S_glob_Token)] : List S_glob_Token)), IntKind.i64.wrap (x2 + (1 : Int)), rfl, r3, H.less _ (fun fr => by kernel_rfl), A⟩)
    ·replace H := H.know 30 hb (by kernel_rfl)
     refine aw_false (x := .tmp 30) (by kernel_rfl) H (fun fr => by kernel_rfl) ?_
     refine aw_seq (by kernel_rfl) ?_
     refine aw_reg (id := 13) (n := 2) [(0, []), (1, [])] (by kernel_rfl) (by kernel_rfl) ?_
     refine at_seg [(0, []), (1, [])] [(0, .str p0), (5, rowV r1 x1.length), (6, .int .i64 x2), (7, .int .u8 x6), (22, .int .u8 x6), (38, .bool (x6 == (63 : Int)))] H (noU_all rfl) (fun fr => by kernel_rfl) ?_
     intro fr H
     refine at_nil ?_
     show AW cfg 104 g (right (right (right (left (right (right (right (left (right (left (left (right (left (right (right (bodyC cfg.P 104)))))))))))))))) fr h1 _
     rcases iteB_some hm with ⟨hb, hm⟩ | ⟨hb, hm⟩
     ·replace H := H.know 38 hb (by kernel_rfl)
      refine aw_true (x := .tmp 38) (by kernel_rfl) H (fun fr => by kernel_rfl) ?_
      refine aw_seq (by kernel_rfl) ?_
      refine aw_reg (id := 14) (n := 5) [(0, []), (1, []), (2, []), (3, []), (4, [])] (by kernel_rfl) (by kernel_rfl) ?_
      refine at_seg [(0, []), (1, [])] [(0, .str p0), (6, .int .i64 x2), (40, rowV r1 x1.length), (41, .agg [.int .i64 (2 : Int), .int .u8 (0 : Int), .int .u64 (0 : Int), .int .u64 (0 : Int), .int .u64 (0 : Int), .int .u64 (0 : Int)])] H (noU_all rfl) (fun fr => by kernel_rfl) ?_
      intro fr H
      obtain ⟨h4, e2⟩ : ∃ x, x = h1.push (.cells (some 256) 2 [.int .i64 (2 : Int), .int .u8 (0 : Int), .int .u64 (0 : Int), .int .u64 (0 : Int), .int .u64 (0 : Int), .int .u64 (0 : Int)]) := ⟨_, rfl⟩
      replace A := (A.pushL _ _).to e2
      refine at_step (v := rowV (some h1.size) (([(⟨(2 : Int), (0 : Int), (⟨(0 : Int), (0 : Int), (0 : Int), (0 : Int)⟩ : A4_uint64)⟩ : S_glob_Token)] : List S_glob_Token).length)) (h1 := h4) [(0, .str p0), (6, .int .i64 x2), (40, rowV r1 x1.length), (42, rowV (some h1.size) (([(⟨(2 : Int), (0 : Int), (⟨(0 : Int), (0 : Int), (0 : Int), (0 : Int)⟩ : A4_uint64)⟩ : S_glob_Token)] : List S_glob_Token).length))] H (fun fr => by kernel_rfl) (fun fr => .of (s_n' (by kernel_rfl) (congrArg some e2.symm))) ?_
      intro fr t H
      obtain ⟨hb, hm⟩ := need_some hm
      obtain ⟨r4, h5, hx, A1⟩ := HH.appO enc_S_glob_Token (by decide) A 1 (xs := x1) (ys := ([(⟨(2 : Int), (0 : Int), (⟨(0 : Int), (0 : Int), (0 : Int), (0 : Int)⟩ : A4_uint64)⟩ : S_glob_Token)] : List S_glob_Token)) rfl (row_first A 0 rfl (n := ([(⟨(2 : Int), (0 : Int), (⟨(0 : Int), (0 : Int), (0 : Int), (0 : Int)⟩ : A4_uint64)⟩ : S_glob_Token)] : List S_glob_Token).length) (z := 6) rfl (by decide)) rfl rfl hb
      replace A : HH g h5 [.lst (some h1.size) 256 ([.int .i64 (2 : Int), .int .u8 (0 : Int), .int .u64 (0 : Int), .int .u64 (0 : Int), .int .u64 (0 : Int), .int .u64 (0 : Int)]), .lst r4 256 (lst e_S_glob_Token (x1 ++ ([(⟨(2 : Int), (0 : Int), (⟨(0 : Int), (0 : Int), (0 : Int), (0 : Int)⟩ : A4_uint64)⟩ : S_glob_Token)] : List S_glob_Token)))] F := A1
      replace A : HH g h5 [.lst r4 256 (lst e_S_glob_Token (x1 ++ ([(⟨(2 : Int), (0 : Int), (⟨(0 : Int), (0 : Int), (0 : Int), (0 : Int)⟩ : A4_uint64)⟩ : S_glob_Token)] : List S_glob_Token)))] F := (HH.dropF (A.front 1 rfl) 1)
      refine at_step (v := rowV r4 ((x1 ++ ([(⟨(2 : Int), (0 : Int), (⟨(0 : Int), (0 : Int), (0 : Int), (0 : Int)⟩ : A4_uint64)⟩ : S_glob_Token)] : List S_glob_Token)).length)) (h1 := h5) [(0, .str p0), (6, .int .i64 x2), (43, rowV r4 ((x1 ++ ([(⟨(2 : Int), (0 : Int), (⟨(0 : Int), (0 : Int), (0 : Int), (0 : Int)⟩ : A4_uint64)⟩ : S_glob_Token)] : List S_glob_Token)).length))] H (fun fr => by kernel_rfl) (fun fr => .of (s_app (s := rowS r1 x1.length) (by kernel_rfl) hx)) ?_
      intro fr t H
      refine at_seg [(4, [])] [(0, .str p0), (5, rowV r4 ((x1 ++ ([(⟨(2 : Int), (0 : Int), (⟨(0 : Int), (0 : Int), (0 : Int), (0 : Int)⟩ : A4_uint64)⟩ : S_glob_Token)] : List S_glob_Token)).length)), (6, .int .i64 x2)] H (noU_all rfl) (fun fr => by kernel_rfl) ?_
      intro fr H
      refine at_nil ?_
      show AW cfg 104 g (right (left (right (right (right (left (right (right (right (left (right (left (left (right (left (right (right (bodyC cfg.P 104)))))))))))))))))) fr h5 _
      refine aw_reg (id := 15) (n := 3) [(0, []), (1, []), (2, [])] (by kernel_rfl) (by kernel_rfl) ?_
      refine at_seg [(0, []), (1, []), (2, [])] [(0, .str p0), (5, rowV r4 ((x1 ++ ([(⟨(2 : Int), (0 : Int), (⟨(0 : Int), (0 : Int), (0 : Int), (0 : Int)⟩ : A4_uint64)⟩ : S_glob_Token)] : List S_glob_Token)).length)), (6, .int .i64 (IntKind.i64.wrap (x2 + (1 : Int))))] H (noU_all rfl) (fun fr => by kernel_rfl) ?_
      intro fr H
      refine at_nil ?_
      exact Exists.intro ((x1 ++ ([(⟨(2 : Int), (0 : Int), (⟨(0 : Int), (0 : Int), (0 : Int), (0 : Int)⟩ : A4_uint64)⟩ : S_glob_Token)] : List S_glob_Token)), IntKind.i64.wrap (x2 + (1 : Int))) (And.intro (Option.some.inj hm).symm ⟨(x1 ++ ([(⟨(2 : Int), (0 : Int), (⟨(0 : Int), (0 : Int), (0 : Int), (0 : Int)⟩ : A4_uint64)⟩ : S_glob_Token)] : List S_glob_Token)), IntKind.i64.wrap (x2 + (1 : Int)), rfl, r4, H.less _ (fun fr => by kernel_rfl), A⟩)
     ·replace H := H.know 38 hb (by kernel_rfl)
      refine aw_false (x := .tmp 38) (by kernel_rfl) H (fun fr => by kernel_rfl) ?_
      refine aw_seq (by kernel_rfl) ?_
      refine aw_reg (id := 16) (n := 2) [(0, []), (1, [])] (by kernel_rfl) (by kernel_rfl) ?_
      refine at_seg [(0, []), (1, [])] [(0, .str p0), (5, rowV r1 x1.length), (6, .int .i64 x2), (7, .int .u8 x6), (22, .int .u8 x6), (46, .bool (x6 == (91 : Int)))] H (noU_all rfl) (fun fr => by kernel_rfl) ?_
      intro fr H
      refine at_nil ?_
      show AW cfg 104 g (right (right (right (right (right (left (right (right (right (left (right (left (left (right (left (right (right (bodyC cfg.P 104)))))))))))))))))) fr h1 _
      rcases iteB_some hm with ⟨hb, hm⟩ | ⟨hb, hm⟩
      ·replace H := H.know 46 hb (by kernel_rfl)
       refine aw_true (x := .tmp 46) (by kernel_rfl) H (fun fr => by kernel_rfl) ?_
       refine aw_seq (by kernel_rfl) ?_
       refine aw_reg (id := 17) (n := 11) [(0, []), (1, []), (2, []), (3, []), (4, []), (5, []), (6, []), (7, []), (8, []), (9, []), (10, [])] (by kernel_rfl) (by kernel_rfl) ?_
       refine at_seg [(0, []), (1, [])] [(0, .str p0), (5, rowV r1 x1.length), (6, .int .i64 x2), (49, .str p0), (50, .int .i64 x2)] H (noU_all rfl) (fun fr => by kernel_rfl) ?_
       intro fr H
       cases hm
      ·replace H := H.know 46 hb (by kernel_rfl)
       refine aw_false (x := .tmp 46) (by kernel_rfl) H (fun fr => by kernel_rfl) ?_
       refine aw_seq (by kernel_rfl) ?_
       refine aw_reg (id := 22) (n := 2) [(0, []), (1, [])] (by kernel_rfl) (by kernel_rfl) ?_
       refine at_seg [(0, []), (1, [])] [(0, .str p0), (5, rowV r1 x1.length), (6, .int .i64 x2), (7, .int .u8 x6), (65, .bool (x6 == (92 : Int)))] H (noU_all rfl) (fun fr => by kernel_rfl) ?_
       intro fr H
       refine at_nil ?_
       show AW cfg 104 g (right (right (right (right (right (right (right (left (right (right (right (left (right (left (left (right (left (right (right (bodyC cfg.P 104)))))))))))))))))))) fr h1 _
       rcases iteB_some hm with ⟨hb, hm⟩ | ⟨hb, hm⟩
       ·replace H := H.know 65 hb (by kernel_rfl)
        refine aw_true (x := .tmp 65) (by kernel_rfl) H (fun fr => by kernel_rfl) ?_
        refine aw_seq (by kernel_rfl) ?_
        refine aw_seq (by kernel_rfl) ?_
        refine aw_reg (id := 23) (n := 5) [(0, []), (1, []), (2, []), (3, []), (4, [])] (by kernel_rfl) (by kernel_rfl) ?_
        refine at_seg [(0, []), (1, []), (2, []), (3, []), (4, [])] [(0, .str p0), (5, rowV r1 x1.length), (6, .int .i64 x2), (71, .bool (x2 == (IntKind.i64.wrap ((p0.length : Int) - (1 : Int)))))] H (noU_all rfl) (fun fr => by kernel_rfl) ?_
        intro fr H
        refine at_nil ?_
        show AW cfg 104 g (right (left (left (right (right (right (right (right (right (right (left (right (right (right (left (right (left (left (right (left (right (right (bodyC cfg.P 104))))))))))))))))))))))) fr h1 _
        rcases iteB_some hm with ⟨hb, hm⟩ | ⟨hb, hm⟩
        ·replace H := H.know 71 hb (by kernel_rfl)
         refine aw_true (x := .tmp 71) (by kernel_rfl) H (fun fr => by kernel_rfl) ?_
         refine aw_seq (by kernel_rfl) ?_
         refine aw_reg (id := 24) (n := 4) [(0, []), (1, []), (2, []), (3, [])] (by kernel_rfl) (by kernel_rfl) ?_
         refine at_seg [(0, []), (1, []), (2, []), (3, [])] [(2, .slice none 0), (3, .int .i64 x2), (4, .int .i64 (11 : Int))] H (noU_all rfl) (fun fr => by kernel_rfl) ?_
         intro fr H
         refine at_nil ?_
         show AW cfg 104 g (right (left (right (left (left (right (right (right (right (right (right (right (left (right (right (right (left (right (left (left (right (left (right (right (bodyC cfg.P 104))))))))))))))))))))))))) fr h1 _
         refine aw_ret (by kernel_rfl) ?_
         replace A : HH g h1 [] F := (HH.dropF A 0)
         exact Exists.intro _ (And.intro (Option.some.inj hm).symm (fun e => Or.inr (Or.inl ⟨x2, (11 : Int), rfl, e, H.less _ (fun fr => by kernel_rfl), A⟩)))
        ·replace H := H.know 71 hb (by kernel_rfl)
         refine aw_false (x := .tmp 71) (by kernel_rfl) H (fun fr => by kernel_rfl) ?_
         refine aw_skip (by kernel_rfl) ?_
         show AW cfg 104 g (right (left (right (right (right (right (right (right (right (left (right (right (right (left (right (left (left (right (left (right (right (bodyC cfg.P 104)))))))))))))))))))))) fr h1 _
         refine aw_seq (by kernel_rfl) ?_
         refine aw_reg (id := 25) (n := 9) [(0, []), (1, []), (2, []), (3, []), (4, []), (5, []), (6, []), (7, []), (8, [])] (by kernel_rfl) (by kernel_rfl) ?_
         refine at_seg [(0, []), (1, []), (2, []), (3, [])] [(0, .str p0), (6, .int .i64 x2), (73, rowV r1 x1.length), (74, .str p0), (76, .int .i64 (IntKind.i64.wrap (x2 + (1 : Int))))] H (noU_all rfl) (fun fr => by kernel_rfl) ?_
         intro fr H
         obtain ⟨x7, hx, hm⟩ := bind_some hm
         refine at_step (v := .int .u8 x7) (h1 := h1) [(0, .str p0), (6, .int .i64 x2), (73, rowV r1 x1.length), (77, .int .u8 x7)] H (fun fr => by kernel_rfl) (fun fr => .of (s_ixS (by kernel_rfl) hx)) ?_
         intro fr t H
         refine at_seg [(5, [])] [(0, .str p0), (6, .int .i64 x2), (73, rowV r1 x1.length), (78, .agg [.int .i64 (1 : Int), .int .u8 x7, .int .u64 (0 : Int), .int .u64 (0 : Int), .int .u64 (0 : Int), .int .u64 (0 : Int)])] H (noU_all rfl) (fun fr => by kernel_rfl) ?_
         intro fr H
         obtain ⟨h6, e3⟩ : ∃ x, x = h1.push (.cells (some 256) 2 [.int .i64 (1 : Int), .int .u8 x7, .int .u64 (0 : Int), .int .u64 (0 : Int), .int .u64 (0 : Int), .int .u64 (0 : Int)]) := ⟨_, rfl⟩
         replace A := (A.pushL _ _).to e3
         refine at_step (v := rowV (some h1.size) (([(⟨(1 : Int), x7, (⟨(0 : Int), (0 : Int), (0 : Int), (0 : Int)⟩ : A4_uint64)⟩ : S_glob_Token)] : List S_glob_Token).length)) (h1 := h6) [(0, .str p0), (6, .int .i64 x2), (73, rowV r1 x1.length), (79, rowV (some h1.size) (([(⟨(1 : Int), x7, (⟨(0 : Int), (0 : Int), (0 : Int), (0 : Int)⟩ : A4_uint64)⟩ : S_glob_Token)] : List S_glob_Token).length))] H (fun fr => by kernel_rfl) (fun fr => .of (s_n' (by kernel_rfl) (congrArg some e3.symm))) ?_
         intro fr t H
         obtain ⟨hb, hm⟩ := need_some hm
         obtain ⟨r5, h7, hx, A1⟩ := HH.appO enc_S_glob_Token (by decide) A 1 (xs := x1) (ys := ([(⟨(1 : Int), x7, (⟨(0 : Int), (0 : Int), (0 : Int), (0 : Int)⟩ : A4_uint64)⟩ : S_glob_Token)] : List S_glob_Token)) rfl (row_first A 0 rfl (n := ([(⟨(1 : Int), x7, (⟨(0 : Int), (0 : Int), (0 : Int), (0 : Int)⟩ : A4_uint64)⟩ : S_glob_Token)] : List S_glob_Token).length) (z := 6) rfl (by decide)) rfl rfl hb
         replace A : HH g h7 [.lst (some h1.size) 256 ([.int .i64 (1 : Int), .int .u8 x7, .int .u64 (0 : Int), .int .u64 (0 : Int), .int .u64 (0 : Int), .int .u64 (0 : Int)]), .lst r5 256 (lst e_S_glob_Token (x1 ++ ([(⟨(1 : Int), x7, (⟨(0 : Int), (0 : Int), (0 : Int), (0 : Int)⟩ : A4_uint64)⟩ : S_glob_Token)] : List S_glob_Token)))] F := A1
         replace A : HH g h7 [.lst r5 256 (lst e_S_glob_Token (x1 ++ ([(⟨(1 : Int), x7, (⟨(0 : Int), (0 : Int), (0 : Int), (0 : Int)⟩ : A4_uint64)⟩ : S_glob_Token)] : List S_glob_Token)))] F := (HH.dropF (A.front 1 rfl) 1)
         refine at_step (v := rowV r5 ((x1 ++ ([(⟨(1 : Int), x7, (⟨(0 : Int), (0 : Int), (0 : Int), (0 : Int)⟩ : A4_uint64)⟩ : S_glob_Token)] : List S_glob_Token)).length)) (h1 := h7) [(0, .str p0), (6, .int .i64 x2), (80, rowV r5 ((x1 ++ ([(⟨(1 : Int), x7, (⟨(0 : Int), (0 : Int), (0 : Int), (0 : Int)⟩ : A4_uint64)⟩ : S_glob_Token)] : List S_glob_Token)).length))] H (fun fr => by kernel_rfl) (fun fr => .of (s_app (s := rowS r1 x1.length) (by kernel_rfl) hx)) ?_
         intro fr t H
         refine at_seg [(8, [])] [(0, .str p0), (5, rowV r5 ((x1 ++ ([(⟨(1 : Int), x7, (⟨(0 : Int), (0 : Int), (0 : Int), (0 : Int)⟩ : A4_uint64)⟩ : S_glob_Token)] : List S_glob_Token)).length)), (6, .int .i64 x2)] H (noU_all rfl) (fun fr => by kernel_rfl) ?_
         intro fr H
         refine at_nil ?_
         show AW cfg 104 g (right (right (left (right (right (right (right (right (right (right (left (right (right (right (left (right (left (left (right (left (right (right (bodyC cfg.P 104))))))))))))))))))))))) fr h7 _
         refine aw_reg (id := 26) (n := 3) [(0, []), (1, []), (2, [])] (by kernel_rfl) (by kernel_rfl) ?_
         refine at_seg [(0, []), (1, []), (2, [])] [(0, .str p0), (5, rowV r5 ((x1 ++ ([(⟨(1 : Int), x7, (⟨(0 : Int), (0 : Int), (0 : Int), (0 : Int)⟩ : A4_uint64)⟩ : S_glob_Token)] : List S_glob_Token)).length)), (6, .int .i64 (IntKind.i64.wrap (x2 + (2 : Int))))] H (noU_all rfl) (fun fr => by kernel_rfl) ?_
         intro fr H
         refine at_nil ?_
         exact Exists.intro ((x1 ++ ([(⟨(1 : Int), x7, (⟨(0 : Int), (0 : Int), (0 : Int), (0 : Int)⟩ : A4_uint64)⟩ : S_glob_Token)] : List S_glob_Token)), IntKind.i64.wrap (x2 + (2 : Int))) (And.intro (Option.some.inj hm).symm ⟨(x1 ++ ([(⟨(1 : Int), x7, (⟨(0 : Int), (0 : Int), (0 : Int), (0 : Int)⟩ : A4_uint64)⟩ : S_glob_Token)] : List S_glob_Token)), IntKind.i64.wrap (x2 + (2 : Int)), rfl, r5, H.less _ (fun fr => by kernel_rfl), A⟩)
       ·replace H := H.know 65 hb (by kernel_rfl)
        refine aw_false (x := .tmp 65) (by kernel_rfl) H (fun fr => by kernel_rfl) ?_
        refine aw_seq (by kernel_rfl) ?_
        refine aw_reg (id := 8) (n := 6) [(0, []), (1, []), (2, []), (3, []), (4, []), (5, [])] (by kernel_rfl) (by kernel_rfl) ?_
        refine at_seg [(0, []), (1, []), (2, [])] [(0, .str p0), (6, .int .i64 x2), (23, rowV r1 x1.length), (25, .agg [.int .i64 (1 : Int), .int .u8 x6, .int .u64 (0 : Int), .int .u64 (0 : Int), .int .u64 (0 : Int), .int .u64 (0 : Int)])] H (noU_all rfl) (fun fr => by kernel_rfl) ?_
        intro fr H
        obtain ⟨h8, e4⟩ : ∃ x, x = h1.push (.cells (some 256) 2 [.int .i64 (1 : Int), .int .u8 x6, .int .u64 (0 : Int), .int .u64 (0 : Int), .int .u64 (0 : Int), .int .u64 (0 : Int)]) := ⟨_, rfl⟩
        replace A := (A.pushL _ _).to e4
        refine at_step (v := rowV (some h1.size) (([(⟨(1 : Int), x6, (⟨(0 : Int), (0 : Int), (0 : Int), (0 : Int)⟩ : A4_uint64)⟩ : S_glob_Token)] : List S_glob_Token).length)) (h1 := h8) [(0, .str p0), (6, .int .i64 x2), (23, rowV r1 x1.length), (26, rowV (some h1.size) (([(⟨(1 : Int), x6, (⟨(0 : Int), (0 : Int), (0 : Int), (0 : Int)⟩ : A4_uint64)⟩ : S_glob_Token)] : List S_glob_Token).length))] H (fun fr => by kernel_rfl) (fun fr => .of (s_n' (by kernel_rfl) (congrArg some e4.symm))) ?_
        intro fr t H
        obtain ⟨hb, hm⟩ := need_some hm
        obtain ⟨r6, h9, hx, A1⟩ := HH.appO enc_S_glob_Token (by decide) A 1 (xs := x1) (ys := ([(⟨(1 : Int), x6, (⟨(0 : Int), (0 : Int), (0 : Int), (0 : Int)⟩ : A4_uint64)⟩ : S_glob_Token)] : List S_glob_Token)) rfl (row_first A 0 rfl (n := ([(⟨(1 : Int), x6, (⟨(0 : Int), (0 : Int), (0 : Int), (0 : Int)⟩ : A4_uint64)⟩ : S_glob_Token)] : List S_glob_Token).length) (z := 6) rfl (by decide)) rfl rfl hb
        replace A : HH g h9 [.lst (some h1.size) 256 ([.int .i64 (1 : Int), .int .u8 x6, .int .u64 (0 : Int), .int .u64 (0 : Int), .int .u64 (0 : Int), .int .u64 (0 : Int)]), .lst r6 256 (lst e_S_glob_Token (x1 ++ ([(⟨(1 : Int), x6, (⟨(0 : Int), (0 : Int), (0 : Int), (0 : Int)⟩ : A4_uint64)⟩ : S_glob_Token)] : List S_glob_Token)))] F := A1
        replace A : HH g h9 [.lst r6 256 (lst e_S_glob_Token (x1 ++ ([(⟨(1 : Int), x6, (⟨(0 : Int), (0 : Int), (0 : Int), (0 : Int)⟩ : A4_uint64)⟩ : S_glob_Token)] : List S_glob_Token)))] F := (HH.dropF (A.front 1 rfl) 1)
        refine at_step (v := rowV r6 ((x1 ++ ([(⟨(1 : Int), x6, (⟨(0 : Int), (0 : Int), (0 : Int), (0 : Int)⟩ : A4_uint64)⟩ : S_glob_Token)] : List S_glob_Token)).length)) (h1 := h9) [(0, .str p0), (6, .int .i64 x2), (27, rowV r6 ((x1 ++ ([(⟨(1 : Int), x6, (⟨(0 : Int), (0 : Int), (0 : Int), (0 : Int)⟩ : A4_uint64)⟩ : S_glob_Token)] : List S_glob_Token)).length))] H (fun fr => by kernel_rfl) (fun fr => .of (s_app (s := rowS r1 x1.length) (by kernel_rfl) hx)) ?_
        intro fr t H
        refine at_seg [(5, [])] [(0, .str p0), (5, rowV r6 ((x1 ++ ([(⟨(1 : Int), x6, (⟨(0 : Int), (0 : Int), (0 : Int), (0 : Int)⟩ : A4_uint64)⟩ : S_glob_Token)] : List S_glob_Token)).length)), (6, .int .i64 x2)] H (noU_all rfl) (fun fr => by kernel_rfl) ?_
        intro fr H
        refine at_nil ?_
        show AW cfg 104 g (right (right (right (right (right (right (right (right (right (left (right (right (right (left (right (left (left (right (left (right (right (bodyC cfg.P 104)))))))))))))))))))))) fr h9 _
        refine aw_reg (id := 9) (n := 3) [(0, []), (1, []), (2, [])] (by kernel_rfl) (by kernel_rfl) ?_
        refine at_seg [(0, []), (1, []), (2, [])] [(0, .str p0), (5, rowV r6 ((x1 ++ ([(⟨(1 : Int), x6, (⟨(0 : Int), (0 : Int), (0 : Int), (0 : Int)⟩ : A4_uint64)⟩ : S_glob_Token)] : List S_glob_Token)).length)), (6, .int .i64 (IntKind.i64.wrap (x2 + (1 : Int))))] H (noU_all rfl) (fun fr => by kernel_rfl) ?_
        intro fr H
        refine at_nil ?_
        exact Exists.intro ((x1 ++ ([(⟨(1 : Int), x6, (⟨(0 : Int), (0 : Int), (0 : Int), (0 : Int)⟩ : A4_uint64)⟩ : S_glob_Token)] : List S_glob_Token)), IntKind.i64.wrap (x2 + (1 : Int))) (And.intro (Option.some.inj hm).symm ⟨(x1 ++ ([(⟨(1 : Int), x6, (⟨(0 : Int), (0 : Int), (0 : Int), (0 : Int)⟩ : A4_uint64)⟩ : S_glob_Token)] : List S_glob_Token)), IntKind.i64.wrap (x2 + (1 : Int)), rfl, r6, H.less _ (fun fr => by kernel_rfl), A⟩)
  ·replace H := H.know 14 hb (by kernel_rfl)
   refine aw_false (x := .tmp 14) (by kernel_rfl) H (fun fr => by kernel_rfl) ?_
   refine aw_exit (i := 0) (by kernel_rfl) ?_
   exact Exists.intro _ (And.intro (Option.some.inj hm).symm (fun e => Or.inl ⟨x1, rfl, e, r1, H.less _ (fun fr => by kernel_rfl), A⟩))
 ·clear ho
  clear A
  intro e fr h10 hQ
  rcases hQ with ⟨x3, rfl, rfl, r2, H, A⟩ | ⟨x4, x5, rfl, rfl, H, A⟩ | hF
  ·skip
   show AW cfg 104 g (right (right (right (bodyC cfg.P 104)))) fr h10 _
   refine aw_seq (by kernel_rfl) ?_
   refine aw_reg (id := 27) (n := 4) [(0, []), (1, []), (2, []), (3, [])] (by kernel_rfl) (by kernel_rfl) ?_
   refine at_seg [(0, []), (1, []), (2, []), (3, [])] [(2, rowV r2 x3.length), (3, .int .i64 (0 : Int)), (4, .int .i64 (0 : Int))] H (noU_all rfl) (fun fr => by kernel_rfl) ?_
   intro fr H
   refine at_nil ?_
   show AW cfg 104 g (right (right (right (right (bodyC cfg.P 104))))) fr h10 _
   refine aw_ret (by kernel_rfl) ?_
   have e0 := Option.some.inj hm
   obtain ⟨y0, z0⟩ := Prod.mk.inj e0
   obtain ⟨y1, z1⟩ := Prod.mk.inj z0
   subst y0
   subst y1
   subst z1
   refine ⟨.inl rfl, .tuple [rowV r2 x3.length, .int .i64 (0 : Int), .int .i64 (0 : Int)], resH H (fun fr => by kernel_rfl), ?_⟩
   exact ⟨r2, rfl, A⟩
  ·skip
   have e0 := Option.some.inj hm
   obtain ⟨y0, z0⟩ := Prod.mk.inj e0
   obtain ⟨y1, z1⟩ := Prod.mk.inj z0
   subst y0
   subst y1
   subst z1
   refine ⟨.inl rfl, .tuple [.slice none 0, .int .i64 x4, .int .i64 x5], resH H (fun fr => by kernel_rfl), ?_⟩
   replace A : HH g h10 [.lst none 256 (lst e_S_glob_Token ([] : List S_glob_Token))] F := A.nilL 256
   exact ⟨none, rfl, A⟩
  ·exact hF.elim
/-! ### (*boulter/option.reading).pattern -/
noncomputable def M_option_reading_pattern_sPOOOSe0II (p0 : S_option_reading) (p1 : List UInt8) (p3 : Int) (p4 : Int) : Option (S_option_flaw × (List S_pattern_Rule)) :=
 (M_glob_Parse p1).bind fun (x1, x2, x3) => iteB (x3 != (0 : Int)) (some ((⟨(11 : Int), p4⟩ : S_option_flaw), p0.c_.Includes)) (iteB ((IntKind.i64.wrap ((p0.c_.Includes.length : Int) + (p0.c_.Excludes.length : Int))) == (256 : Int)) (some ((⟨(8 : Int), p3⟩ : S_option_flaw), p0.c_.Includes)) (need (okN 24 (p0.c_.Includes.length + ([(⟨p1, p0.flags_.Anchored, p0.flags_.Fold, p0.flags_.Slash⟩ : S_pattern_Rule)] : List S_pattern_Rule).length)) <| (M_option_none).bind fun x4 => some (x4, (p0.c_.Includes ++ ([(⟨p1, p0.flags_.Anchored, p0.flags_.Fold, p0.flags_.Slash⟩ : S_pattern_Rule)] : List S_pattern_Rule)))))
theorem ok_option_reading_pattern_sPOOOSe0II {g : Gd} {h : AHeap} {F : List Ck} {p0 : S_option_reading} {p1 : List UInt8} {p3 : Int} {p4 : Int} {bp0 : Nat} {rp0_0 : Option Nat} {rp0_1 : Option Nat} {rp0_2 : Option Nat} {bp0_20 : Nat} {q0 : S_option_flaw} {u1 : List S_pattern_Rule} {av : List AVal} (hm : M_option_reading_pattern_sPOOOSe0II p0 p1 p3 p4 = some (q0, u1)) (hc : canL (cfg.still 62) av = [.ptr (some (bp0, 0)), .str p1, .ptr (some (bp0, 0)), .int .i64 p3, .int .i64 p4]) (A : HH g h [.obj bp0 (.cells none 2 [rowV rp0_0 p0.c_.Includes.length, rowV rp0_1 p0.c_.Excludes.length, rowV rp0_2 p0.c_.Exprs.length, .bool p0.c_.Vcs, .bool p0.c_.Backups, .int .i64 p0.c_.Caches, .bool p0.c_.Dated, .int .i64 p0.c_.Newer.Sec, .int .i64 p0.c_.Newer.Nsec, .int .i64 p0.c_.Nth, .int .i64 p0.c_.Strip, .int .i64 p0.c_.Name, .int .i64 p0.c_.Head, .int .i64 p0.c_.States, .str p0.flags_.Text, .bool p0.flags_.Anchored, .bool p0.flags_.Fold, .bool p0.flags_.Slash, .str p0.rest_, .int .i64 p0.at_, .map (some bp0_20)]), .lst rp0_0 87 (lst e_S_pattern_Rule p0.c_.Includes), .lst rp0_1 87 (lst e_S_pattern_Rule p0.c_.Excludes), .lst rp0_2 24 (lst e_S_rewrite_Expr p0.c_.Exprs), .obj bp0_20 (.map 2 (encM (fun k : List UInt8 => .str k) (fun v : Bool => .bool v) p0.seen_))] F) : ∃ v h', Runs cfg g h 62 av v h' ∧ ∃ (r'1 : Option Nat), v = .agg [.int .i64 q0.e_, .int .i64 q0.at_] ∧ HH g h' [.obj bp0 (.cells none 2 [rowV r'1 u1.length, rowV rp0_1 p0.c_.Excludes.length, rowV rp0_2 p0.c_.Exprs.length, .bool p0.c_.Vcs, .bool p0.c_.Backups, .int .i64 p0.c_.Caches, .bool p0.c_.Dated, .int .i64 p0.c_.Newer.Sec, .int .i64 p0.c_.Newer.Nsec, .int .i64 p0.c_.Nth, .int .i64 p0.c_.Strip, .int .i64 p0.c_.Name, .int .i64 p0.c_.Head, .int .i64 p0.c_.States, .str p0.flags_.Text, .bool p0.flags_.Anchored, .bool p0.flags_.Fold, .bool p0.flags_.Slash, .str p0.rest_, .int .i64 p0.at_, .map (some bp0_20)]), .lst r'1 87 (lst e_S_pattern_Rule u1), .lst rp0_1 87 (lst e_S_pattern_Rule p0.c_.Excludes), .lst rp0_2 24 (lst e_S_rewrite_Expr p0.c_.Exprs), .obj bp0_20 (.map 2 (encM (fun k : List UInt8 => .str k) (fun v : Bool => .bool v) p0.seen_))] F := by
 refine runsQ1 (n := 56) (rs := [.cell 10 96]) (by kernel_rfl) hc (by kernel_rfl) ?_
 clear hc
 unfold M_option_reading_pattern_sPOOOSe0II at hm
 refine start (n := 56) [(0, .ptr (some (bp0, 0))), (1, .str p1), (2, .ptr (some (bp0, 0))), (3, .int .i64 p3), (4, .int .i64 p4)] (by kernel_rfl) (by kernel_rfl) ?_
 intro fr H
 refine aw_seq (by kernel_rfl) ?_
 refine aw_reg (id := 0) (n := 1) [(0, [])] (by kernel_rfl) (by kernel_rfl) ?_
 obtain ⟨h1, e1⟩ : ∃ x, x = h.push (.cells none 2 [.int .i64 (0 : Int), .int .i64 (0 : Int)]) := ⟨_, rfl⟩
 replace A := (A.push _).to e1
 refine at_step (v := .ptr (some (h.size, 0))) (h1 := h1) [(0, .ptr (some (bp0, 0))), (1, .str p1), (2, .ptr (some (bp0, 0))), (3, .int .i64 p3), (4, .int .i64 p4), (10, .ptr (some (h.size, 0)))] H (fun fr => by kernel_rfl) (fun fr => .of (s_n' (by kernel_rfl) (congrArg some e1.symm))) ?_
 intro fr t H
 refine at_nil ?_
 show AW cfg 62 g (right (bodyC cfg.P 62)) fr h1 _
 refine aw_seq (by kernel_rfl) ?_
 refine aw_seq (by kernel_rfl) ?_
 refine aw_reg (id := 1) (n := 9) [(0, []), (1, []), (2, []), (3, []), (4, []), (5, []), (6, []), (7, []), (8, [])] (by kernel_rfl) (by kernel_rfl) ?_
 refine at_seg [(0, [])] [(0, .ptr (some (bp0, 0))), (1, .str p1), (2, .ptr (some (bp0, 0))), (3, .int .i64 p3), (4, .int .i64 p4), (10, .ptr (some (h.size, 0))), (16, .str p1)] H (noU_all rfl) (fun fr => by kernel_rfl) ?_
 intro fr H
 have A1 := A.cut 0
 obtain ⟨⟨x1, x2, x3⟩, hx, hm⟩ := bind_some hm
 obtain ⟨v1, h2, hr, rqw1, rfl, A1⟩ := ok_glob_Parse (av := [.str p1]) hx (by kernel_rfl) A1
 replace A : HH g h2 [.lst rqw1 256 (lst e_S_glob_Token x1), .obj h.size (.cells none 2 [.int .i64 (0 : Int), .int .i64 (0 : Int)]), .obj bp0 (.cells none 2 [rowV rp0_0 p0.c_.Includes.length, rowV rp0_1 p0.c_.Excludes.length, rowV rp0_2 p0.c_.Exprs.length, .bool p0.c_.Vcs, .bool p0.c_.Backups, .int .i64 p0.c_.Caches, .bool p0.c_.Dated, .int .i64 p0.c_.Newer.Sec, .int .i64 p0.c_.Newer.Nsec, .int .i64 p0.c_.Nth, .int .i64 p0.c_.Strip, .int .i64 p0.c_.Name, .int .i64 p0.c_.Head, .int .i64 p0.c_.States, .str p0.flags_.Text, .bool p0.flags_.Anchored, .bool p0.flags_.Fold, .bool p0.flags_.Slash, .str p0.rest_, .int .i64 p0.at_, .map (some bp0_20)]), .lst rp0_0 87 (lst e_S_pattern_Rule p0.c_.Includes), .lst rp0_1 87 (lst e_S_pattern_Rule p0.c_.Excludes), .lst rp0_2 24 (lst e_S_rewrite_Expr p0.c_.Exprs), .obj bp0_20 (.map 2 (encM (fun k : List UInt8 => .str k) (fun v : Bool => .bool v) p0.seen_))] F := A.glue0 (n := 0) A1
 refine at_step (v := .tuple [rowV rqw1 x1.length, .int .i64 x2, .int .i64 x3]) (h1 := h2) [(0, .ptr (some (bp0, 0))), (1, .str p1), (2, .ptr (some (bp0, 0))), (3, .int .i64 p3), (4, .int .i64 p4), (10, .ptr (some (h.size, 0))), (17, .tuple [rowV rqw1 x1.length, .int .i64 x2, .int .i64 x3])] H (fun fr => by kernel_rfl) (fun fr => Steps.call (by kernel_rfl) hr) ?_
 intro fr t H
 refine at_seg [(2, []), (3, []), (4, []), (5, []), (6, []), (7, []), (8, [])] [(0, .ptr (some (bp0, 0))), (1, .str p1), (2, .ptr (some (bp0, 0))), (3, .int .i64 p3), (4, .int .i64 p4), (10, .ptr (some (h.size, 0))), (13, .int .i64 x3)] H (noU_all rfl) (fun fr => by kernel_rfl) ?_
 intro fr H
 refine at_nil ?_
 show AW cfg 62 g (right (left (right (bodyC cfg.P 62)))) fr h2 _
 refine aw_seq (by kernel_rfl) ?_
 refine aw_reg (id := 2) (n := 2) [(0, []), (1, [])] (by kernel_rfl) (by kernel_rfl) ?_
 refine at_seg [(0, []), (1, [])] [(0, .ptr (some (bp0, 0))), (1, .str p1), (2, .ptr (some (bp0, 0))), (3, .int .i64 p3), (4, .int .i64 p4), (10, .ptr (some (h.size, 0))), (22, .bool (x3 != (0 : Int)))] H (noU_all rfl) (fun fr => by kernel_rfl) ?_
 intro fr H
 refine at_nil ?_
 show AW cfg 62 g (right (right (left (right (bodyC cfg.P 62))))) fr h2 _
 rcases iteB_some hm with ⟨hb, hm⟩ | ⟨hb, hm⟩
 ·replace H := H.know 22 hb (by kernel_rfl)
  refine aw_true (x := .tmp 22) (by kernel_rfl) H (fun fr => by kernel_rfl) ?_
  refine aw_seq (by kernel_rfl) ?_
  refine aw_reg (id := 3) (n := 3) [(0, []), (1, []), (2, [])] (by kernel_rfl) (by kernel_rfl) ?_
  refine at_seg [(0, []), (1, [])] [(10, .ptr (some (h.size, 0))), (24, .agg [.int .i64 (11 : Int), .int .i64 p4])] H (noU_all rfl) (fun fr => by kernel_rfl) ?_
  intro fr H
  obtain ⟨h3, hx, A1⟩ := A.st 1 rfl (o := 0) (new := [.int .i64 (11 : Int), .int .i64 p4]) (ds := [.int .i64 (11 : Int), .int .i64 p4]) (Nat.le_of_ble_eq_true rfl) rfl rfl
  replace A : HH g h3 [.lst rqw1 256 (lst e_S_glob_Token x1), .obj h.size (.cells none 2 [.int .i64 (11 : Int), .int .i64 p4]), .obj bp0 (.cells none 2 [rowV rp0_0 p0.c_.Includes.length, rowV rp0_1 p0.c_.Excludes.length, rowV rp0_2 p0.c_.Exprs.length, .bool p0.c_.Vcs, .bool p0.c_.Backups, .int .i64 p0.c_.Caches, .bool p0.c_.Dated, .int .i64 p0.c_.Newer.Sec, .int .i64 p0.c_.Newer.Nsec, .int .i64 p0.c_.Nth, .int .i64 p0.c_.Strip, .int .i64 p0.c_.Name, .int .i64 p0.c_.Head, .int .i64 p0.c_.States, .str p0.flags_.Text, .bool p0.flags_.Anchored, .bool p0.flags_.Fold, .bool p0.flags_.Slash, .str p0.rest_, .int .i64 p0.at_, .map (some bp0_20)]), .lst rp0_0 87 (lst e_S_pattern_Rule p0.c_.Includes), .lst rp0_1 87 (lst e_S_pattern_Rule p0.c_.Excludes), .lst rp0_2 24 (lst e_S_rewrite_Expr p0.c_.Exprs), .obj bp0_20 (.map 2 (encM (fun k : List UInt8 => .str k) (fun v : Bool => .bool v) p0.seen_))] F := A1
  refine at_step (v := .tuple []) (h1 := h3) [(10, .ptr (some (h.size, 0)))] H (fun fr => by kernel_rfl) (fun fr => .of (s_stG (by kernel_rfl) (stG_st hx rfl))) ?_
  intro fr t H
  refine at_nil ?_
  show AW cfg 62 g (right (left (right (right (left (right (bodyC cfg.P 62))))))) fr h3 _
  refine aw_ret (by kernel_rfl) ?_
  have e0 := Option.some.inj hm
  obtain ⟨y0, z0⟩ := Prod.mk.inj e0
  subst y0
  subst z0
  refine ⟨.inl rfl, .agg [.int .i64 (11 : Int), .int .i64 p4], resL_one (.cell (resT H (fun fr => by kernel_rfl)) (load_ldA (by kernel_rfl) (by kernel_rfl) (A.ldA 1 rfl (o := 0) (n := 2) ⟨Nat.le_of_ble_eq_true rfl, rfl⟩)) .nil), ?_⟩
  replace A : HH g h3 [.obj bp0 (.cells none 2 [rowV rp0_0 p0.c_.Includes.length, rowV rp0_1 p0.c_.Excludes.length, rowV rp0_2 p0.c_.Exprs.length, .bool p0.c_.Vcs, .bool p0.c_.Backups, .int .i64 p0.c_.Caches, .bool p0.c_.Dated, .int .i64 p0.c_.Newer.Sec, .int .i64 p0.c_.Newer.Nsec, .int .i64 p0.c_.Nth, .int .i64 p0.c_.Strip, .int .i64 p0.c_.Name, .int .i64 p0.c_.Head, .int .i64 p0.c_.States, .str p0.flags_.Text, .bool p0.flags_.Anchored, .bool p0.flags_.Fold, .bool p0.flags_.Slash, .str p0.rest_, .int .i64 p0.at_, .map (some bp0_20)]), .lst rp0_0 87 (lst e_S_pattern_Rule p0.c_.Includes), .lst rp0_1 87 (lst e_S_pattern_Rule p0.c_.Excludes), .lst rp0_2 24 (lst e_S_rewrite_Expr p0.c_.Exprs), .obj bp0_20 (.map 2 (encM (fun k : List UInt8 => .str k) (fun v : Bool => .bool v) p0.seen_))] F := (HH.dropF (((((A.front 6 rfl).front 6 rfl).front 6 rfl).front 6 rfl).front 6 rfl) 5)
  exact ⟨rp0_0, rfl, A⟩
 ·replace H := H.know 22 hb (by kernel_rfl)
  refine aw_false (x := .tmp 22) (by kernel_rfl) H (fun fr => by kernel_rfl) ?_
  refine aw_skip (by kernel_rfl) ?_
  show AW cfg 62 g (right (right (bodyC cfg.P 62))) fr h2 _
  refine aw_seq (by kernel_rfl) ?_
  refine aw_seq (by kernel_rfl) ?_
  refine aw_draw (id := 4) (n := 14) (by kernel_rfl) [(0, []), (1, []), (2, []), (3, []), (4, []), (5, []), (6, []), (7, []), (8, []), (9, []), (10, []), (11, []), (12, []), (13, [])] (by kernel_rfl) ?_
  refine at_seg [(0, []), (1, []), (2, []), (3, [])] [(0, .ptr (some (bp0, 0))), (1, .str p1), (2, .ptr (some (bp0, 0))), (3, .int .i64 p3), (10, .ptr (some (h.size, 0))), (28, .ptr (some (bp0, 0)))] H (noU_all rfl) (fun fr => by kernel_rfl) ?_
  intro fr H
  refine at_step (v := rowV rp0_0 p0.c_.Includes.length) (h1 := h2) [(0, .ptr (some (bp0, 0))), (1, .str p1), (2, .ptr (some (bp0, 0))), (3, .int .i64 p3), (10, .ptr (some (h.size, 0))), (29, rowV rp0_0 p0.c_.Includes.length)] H (fun fr => by kernel_rfl) (fun fr => .of (s_ld (by kernel_rfl) (A.ld1 2 rfl (o := 0) rfl))) ?_
  intro fr t H
  refine at_seg [(5, []), (6, []), (7, []), (8, []), (9, [])] [(0, .ptr (some (bp0, 0))), (1, .str p1), (2, .ptr (some (bp0, 0))), (3, .int .i64 p3), (10, .ptr (some (h.size, 0))), (30, .int .i64 (p0.c_.Includes.length : Int)), (34, .ptr (some (bp0, 1)))] H (noU_all rfl) (fun fr => by kernel_rfl) ?_
  intro fr H
  refine at_step (v := rowV rp0_1 p0.c_.Excludes.length) (h1 := h2) [(0, .ptr (some (bp0, 0))), (1, .str p1), (2, .ptr (some (bp0, 0))), (3, .int .i64 p3), (10, .ptr (some (h.size, 0))), (30, .int .i64 (p0.c_.Includes.length : Int)), (35, rowV rp0_1 p0.c_.Excludes.length)] H (fun fr => by kernel_rfl) (fun fr => .of (s_ld (by kernel_rfl) (A.ld1 2 rfl (o := 1) rfl))) ?_
  intro fr t H
  refine at_seg [(11, []), (12, []), (13, [])] [(0, .ptr (some (bp0, 0))), (1, .str p1), (2, .ptr (some (bp0, 0))), (3, .int .i64 p3), (10, .ptr (some (h.size, 0))), (38, .bool ((IntKind.i64.wrap ((p0.c_.Includes.length : Int) + (p0.c_.Excludes.length : Int))) == (256 : Int)))] H (noU_all rfl) (fun fr => by kernel_rfl) ?_
  intro fr H
  refine at_nil ?_
  show AW cfg 62 g (right (left (right (right (bodyC cfg.P 62))))) fr h2 _
  rcases iteB_some hm with ⟨hb, hm⟩ | ⟨hb, hm⟩
  ·replace H := H.know 38 hb (by kernel_rfl)
   refine aw_true (x := .tmp 38) (by kernel_rfl) H (fun fr => by kernel_rfl) ?_
   refine aw_seq (by kernel_rfl) ?_
   refine aw_reg (id := 5) (n := 3) [(0, []), (1, []), (2, [])] (by kernel_rfl) (by kernel_rfl) ?_
   refine at_seg [(0, []), (1, [])] [(10, .ptr (some (h.size, 0))), (40, .agg [.int .i64 (8 : Int), .int .i64 p3])] H (noU_all rfl) (fun fr => by kernel_rfl) ?_
   intro fr H
   obtain ⟨h4, hx, A1⟩ := A.st 1 rfl (o := 0) (new := [.int .i64 (8 : Int), .int .i64 p3]) (ds := [.int .i64 (8 : Int), .int .i64 p3]) (Nat.le_of_ble_eq_true rfl) rfl rfl
   replace A : HH g h4 [.lst rqw1 256 (lst e_S_glob_Token x1), .obj h.size (.cells none 2 [.int .i64 (8 : Int), .int .i64 p3]), .obj bp0 (.cells none 2 [rowV rp0_0 p0.c_.Includes.length, rowV rp0_1 p0.c_.Excludes.length, rowV rp0_2 p0.c_.Exprs.length, .bool p0.c_.Vcs, .bool p0.c_.Backups, .int .i64 p0.c_.Caches, .bool p0.c_.Dated, .int .i64 p0.c_.Newer.Sec, .int .i64 p0.c_.Newer.Nsec, .int .i64 p0.c_.Nth, .int .i64 p0.c_.Strip, .int .i64 p0.c_.Name, .int .i64 p0.c_.Head, .int .i64 p0.c_.States, .str p0.flags_.Text, .bool p0.flags_.Anchored, .bool p0.flags_.Fold, .bool p0.flags_.Slash, .str p0.rest_, .int .i64 p0.at_, .map (some bp0_20)]), .lst rp0_0 87 (lst e_S_pattern_Rule p0.c_.Includes), .lst rp0_1 87 (lst e_S_pattern_Rule p0.c_.Excludes), .lst rp0_2 24 (lst e_S_rewrite_Expr p0.c_.Exprs), .obj bp0_20 (.map 2 (encM (fun k : List UInt8 => .str k) (fun v : Bool => .bool v) p0.seen_))] F := A1
   refine at_step (v := .tuple []) (h1 := h4) [(10, .ptr (some (h.size, 0)))] H (fun fr => by kernel_rfl) (fun fr => .of (s_stG (by kernel_rfl) (stG_st hx rfl))) ?_
   intro fr t H
   refine at_nil ?_
   show AW cfg 62 g (right (left (right (left (right (right (bodyC cfg.P 62))))))) fr h4 _
   refine aw_ret (by kernel_rfl) ?_
   have e0 := Option.some.inj hm
   obtain ⟨y0, z0⟩ := Prod.mk.inj e0
   subst y0
   subst z0
   refine ⟨.inl rfl, .agg [.int .i64 (8 : Int), .int .i64 p3], resL_one (.cell (resT H (fun fr => by kernel_rfl)) (load_ldA (by kernel_rfl) (by kernel_rfl) (A.ldA 1 rfl (o := 0) (n := 2) ⟨Nat.le_of_ble_eq_true rfl, rfl⟩)) .nil), ?_⟩
   replace A : HH g h4 [.obj bp0 (.cells none 2 [rowV rp0_0 p0.c_.Includes.length, rowV rp0_1 p0.c_.Excludes.length, rowV rp0_2 p0.c_.Exprs.length, .bool p0.c_.Vcs, .bool p0.c_.Backups, .int .i64 p0.c_.Caches, .bool p0.c_.Dated, .int .i64 p0.c_.Newer.Sec, .int .i64 p0.c_.Newer.Nsec, .int .i64 p0.c_.Nth, .int .i64 p0.c_.Strip, .int .i64 p0.c_.Name, .int .i64 p0.c_.Head, .int .i64 p0.c_.States, .str p0.flags_.Text, .bool p0.flags_.Anchored, .bool p0.flags_.Fold, .bool p0.flags_.Slash, .str p0.rest_, .int .i64 p0.at_, .map (some bp0_20)]), .lst rp0_0 87 (lst e_S_pattern_Rule p0.c_.Includes), .lst rp0_1 87 (lst e_S_pattern_Rule p0.c_.Excludes), .lst rp0_2 24 (lst e_S_rewrite_Expr p0.c_.Exprs), .obj bp0_20 (.map 2 (encM (fun k : List UInt8 => .str k) (fun v : Bool => .bool v) p0.seen_))] F := (HH.dropF (((((A.front 6 rfl).front 6 rfl).front 6 rfl).front 6 rfl).front 6 rfl) 5)
   exact ⟨rp0_0, rfl, A⟩
  ·replace H := H.know 38 hb (by kernel_rfl)
   refine aw_false (x := .tmp 38) (by kernel_rfl) H (fun fr => by kernel_rfl) ?_
   refine aw_skip (by kernel_rfl) ?_
   show AW cfg 62 g (right (right (right (bodyC cfg.P 62)))) fr h2 _
   refine aw_seq (by kernel_rfl) ?_
   refine aw_reg (id := 6) (n := 6) [(0, []), (1, []), (2, []), (3, []), (4, []), (5, [])] (by kernel_rfl) (by kernel_rfl) ?_
   refine at_seg [(0, []), (1, []), (2, [])] [(1, .str p1), (2, .ptr (some (bp0, 0))), (10, .ptr (some (h.size, 0))), (43, .ptr (some (bp0, 14)))] H (noU_all rfl) (fun fr => by kernel_rfl) ?_
   intro fr H
   refine at_step (v := .agg (e_S_pattern_Rule p0.flags_)) (h1 := h2) [(1, .str p1), (2, .ptr (some (bp0, 0))), (10, .ptr (some (h.size, 0))), (44, .agg (e_S_pattern_Rule p0.flags_))] H (fun fr => by kernel_rfl) (fun fr => .of (s_ldA (by kernel_rfl) (A.ldA 2 rfl (o := 14) (n := 4) ⟨Nat.le_of_ble_eq_true rfl, rfl⟩))) ?_
   intro fr t H
   obtain ⟨h5, e2⟩ : ∃ x, x = h2.push (.cells none 2 [.str ([] : List UInt8), .bool false, .bool false, .bool false]) := ⟨_, rfl⟩
   replace A := (A.push _).to e2
   refine at_step (v := .ptr (some (h2.size, 0))) (h1 := h5) [(1, .str p1), (2, .ptr (some (bp0, 0))), (10, .ptr (some (h.size, 0))), (14, .ptr (some (h2.size, 0))), (44, .agg (e_S_pattern_Rule p0.flags_))] H (fun fr => by kernel_rfl) (fun fr => .of (s_n' (by kernel_rfl) (congrArg some e2.symm))) ?_
   intro fr t H
   obtain ⟨h6, hx, A1⟩ := A.st 0 rfl (o := 0) (new := [.str p0.flags_.Text, .bool p0.flags_.Anchored, .bool p0.flags_.Fold, .bool p0.flags_.Slash]) (ds := [.str p0.flags_.Text, .bool p0.flags_.Anchored, .bool p0.flags_.Fold, .bool p0.flags_.Slash]) (Nat.le_of_ble_eq_true rfl) rfl rfl
   replace A : HH g h6 [.obj h2.size (.cells none 2 (e_S_pattern_Rule p0.flags_)), .lst rqw1 256 (lst e_S_glob_Token x1), .obj h.size (.cells none 2 [.int .i64 (0 : Int), .int .i64 (0 : Int)]), .obj bp0 (.cells none 2 [rowV rp0_0 p0.c_.Includes.length, rowV rp0_1 p0.c_.Excludes.length, rowV rp0_2 p0.c_.Exprs.length, .bool p0.c_.Vcs, .bool p0.c_.Backups, .int .i64 p0.c_.Caches, .bool p0.c_.Dated, .int .i64 p0.c_.Newer.Sec, .int .i64 p0.c_.Newer.Nsec, .int .i64 p0.c_.Nth, .int .i64 p0.c_.Strip, .int .i64 p0.c_.Name, .int .i64 p0.c_.Head, .int .i64 p0.c_.States, .str p0.flags_.Text, .bool p0.flags_.Anchored, .bool p0.flags_.Fold, .bool p0.flags_.Slash, .str p0.rest_, .int .i64 p0.at_, .map (some bp0_20)]), .lst rp0_0 87 (lst e_S_pattern_Rule p0.c_.Includes), .lst rp0_1 87 (lst e_S_pattern_Rule p0.c_.Excludes), .lst rp0_2 24 (lst e_S_rewrite_Expr p0.c_.Exprs), .obj bp0_20 (.map 2 (encM (fun k : List UInt8 => .str k) (fun v : Bool => .bool v) p0.seen_))] F := A1
   refine at_step (v := .tuple []) (h1 := h6) [(1, .str p1), (2, .ptr (some (bp0, 0))), (10, .ptr (some (h.size, 0))), (14, .ptr (some (h2.size, 0)))] H (fun fr => by kernel_rfl) (fun fr => .of (s_stG (by kernel_rfl) (stG_st hx rfl))) ?_
   intro fr t H
   refine at_nil ?_
   show AW cfg 62 g (right (right (right (right (bodyC cfg.P 62))))) fr h6 _
   refine aw_seq (by kernel_rfl) ?_
   refine aw_reg (id := 7) (n := 3) [(0, []), (1, []), (2, [])] (by kernel_rfl) (by kernel_rfl) ?_
   refine at_seg [(0, []), (1, [])] [(2, .ptr (some (bp0, 0))), (10, .ptr (some (h.size, 0))), (14, .ptr (some (h2.size, 0))), (45, .str p1), (46, .ptr (some (h2.size, 0)))] H (noU_all rfl) (fun fr => by kernel_rfl) ?_
   intro fr H
   obtain ⟨h7, hx, A1⟩ := A.st 0 rfl (o := 0) (new := [.str p1]) (ds := [.str p1, .bool p0.flags_.Anchored, .bool p0.flags_.Fold, .bool p0.flags_.Slash]) (Nat.le_of_ble_eq_true rfl) rfl rfl
   replace A : HH g h7 [.obj h2.size (.cells none 2 [.str p1, .bool p0.flags_.Anchored, .bool p0.flags_.Fold, .bool p0.flags_.Slash]), .lst rqw1 256 (lst e_S_glob_Token x1), .obj h.size (.cells none 2 [.int .i64 (0 : Int), .int .i64 (0 : Int)]), .obj bp0 (.cells none 2 [rowV rp0_0 p0.c_.Includes.length, rowV rp0_1 p0.c_.Excludes.length, rowV rp0_2 p0.c_.Exprs.length, .bool p0.c_.Vcs, .bool p0.c_.Backups, .int .i64 p0.c_.Caches, .bool p0.c_.Dated, .int .i64 p0.c_.Newer.Sec, .int .i64 p0.c_.Newer.Nsec, .int .i64 p0.c_.Nth, .int .i64 p0.c_.Strip, .int .i64 p0.c_.Name, .int .i64 p0.c_.Head, .int .i64 p0.c_.States, .str p0.flags_.Text, .bool p0.flags_.Anchored, .bool p0.flags_.Fold, .bool p0.flags_.Slash, .str p0.rest_, .int .i64 p0.at_, .map (some bp0_20)]), .lst rp0_0 87 (lst e_S_pattern_Rule p0.c_.Includes), .lst rp0_1 87 (lst e_S_pattern_Rule p0.c_.Excludes), .lst rp0_2 24 (lst e_S_rewrite_Expr p0.c_.Exprs), .obj bp0_20 (.map 2 (encM (fun k : List UInt8 => .str k) (fun v : Bool => .bool v) p0.seen_))] F := A1
   refine at_step (v := .tuple []) (h1 := h7) [(2, .ptr (some (bp0, 0))), (10, .ptr (some (h.size, 0))), (14, .ptr (some (h2.size, 0)))] H (fun fr => by kernel_rfl) (fun fr => .of (s_st (by kernel_rfl) rfl hx)) ?_
   intro fr t H
   refine at_nil ?_
   show AW cfg 62 g (right (right (right (right (right (bodyC cfg.P 62)))))) fr h7 _
   refine aw_seq (by kernel_rfl) ?_
   refine aw_draw (id := 8) (n := 9) (by kernel_rfl) [(0, []), (1, []), (2, []), (3, []), (4, []), (5, []), (6, []), (7, []), (8, [])] (by kernel_rfl) ?_
   refine at_seg [(0, []), (1, []), (2, [])] [(10, .ptr (some (h.size, 0))), (14, .ptr (some (h2.size, 0))), (47, .ptr (some (bp0, 0))), (49, .ptr (some (bp0, 0)))] H (noU_all rfl) (fun fr => by kernel_rfl) ?_
   intro fr H
   refine at_step (v := rowV rp0_0 p0.c_.Includes.length) (h1 := h7) [(10, .ptr (some (h.size, 0))), (14, .ptr (some (h2.size, 0))), (47, .ptr (some (bp0, 0))), (50, rowV rp0_0 p0.c_.Includes.length)] H (fun fr => by kernel_rfl) (fun fr => .of (s_ld (by kernel_rfl) (A.ld1 3 rfl (o := 0) rfl))) ?_
   intro fr t H
   refine at_step (v := .agg [.str p1, .bool p0.flags_.Anchored, .bool p0.flags_.Fold, .bool p0.flags_.Slash]) (h1 := h7) [(10, .ptr (some (h.size, 0))), (47, .ptr (some (bp0, 0))), (50, rowV rp0_0 p0.c_.Includes.length), (51, .agg [.str p1, .bool p0.flags_.Anchored, .bool p0.flags_.Fold, .bool p0.flags_.Slash])] H (fun fr => by kernel_rfl) (fun fr => .of (s_ldA (by kernel_rfl) (A.ldA 0 rfl (o := 0) (n := 4) ⟨Nat.le_of_ble_eq_true rfl, rfl⟩))) ?_
   intro fr t H
   obtain ⟨h8, e3⟩ : ∃ x, x = h7.push (.cells (some 87) 2 [.str p1, .bool p0.flags_.Anchored, .bool p0.flags_.Fold, .bool p0.flags_.Slash]) := ⟨_, rfl⟩
   replace A := (A.pushL _ _).to e3
   refine at_step (v := rowV (some h7.size) (([(⟨p1, p0.flags_.Anchored, p0.flags_.Fold, p0.flags_.Slash⟩ : S_pattern_Rule)] : List S_pattern_Rule).length)) (h1 := h8) [(10, .ptr (some (h.size, 0))), (47, .ptr (some (bp0, 0))), (50, rowV rp0_0 p0.c_.Includes.length), (52, rowV (some h7.size) (([(⟨p1, p0.flags_.Anchored, p0.flags_.Fold, p0.flags_.Slash⟩ : S_pattern_Rule)] : List S_pattern_Rule).length))] H (fun fr => by kernel_rfl) (fun fr => .of (s_n' (by kernel_rfl) (congrArg some e3.symm))) ?_
   intro fr t H
   obtain ⟨hb, hm⟩ := need_some hm
   obtain ⟨r1, h9, hx, A1⟩ := HH.appO enc_S_pattern_Rule (by decide) A 5 (xs := p0.c_.Includes) (ys := ([(⟨p1, p0.flags_.Anchored, p0.flags_.Fold, p0.flags_.Slash⟩ : S_pattern_Rule)] : List S_pattern_Rule)) rfl (row_first A 0 rfl (n := ([(⟨p1, p0.flags_.Anchored, p0.flags_.Fold, p0.flags_.Slash⟩ : S_pattern_Rule)] : List S_pattern_Rule).length) (z := 4) rfl (by decide)) rfl rfl hb
   replace A : HH g h9 [.lst (some h7.size) 87 ([.str p1, .bool p0.flags_.Anchored, .bool p0.flags_.Fold, .bool p0.flags_.Slash]), .obj h2.size (.cells none 2 [.str p1, .bool p0.flags_.Anchored, .bool p0.flags_.Fold, .bool p0.flags_.Slash]), .lst rqw1 256 (lst e_S_glob_Token x1), .obj h.size (.cells none 2 [.int .i64 (0 : Int), .int .i64 (0 : Int)]), .obj bp0 (.cells none 2 [rowV rp0_0 p0.c_.Includes.length, rowV rp0_1 p0.c_.Excludes.length, rowV rp0_2 p0.c_.Exprs.length, .bool p0.c_.Vcs, .bool p0.c_.Backups, .int .i64 p0.c_.Caches, .bool p0.c_.Dated, .int .i64 p0.c_.Newer.Sec, .int .i64 p0.c_.Newer.Nsec, .int .i64 p0.c_.Nth, .int .i64 p0.c_.Strip, .int .i64 p0.c_.Name, .int .i64 p0.c_.Head, .int .i64 p0.c_.States, .str p0.flags_.Text, .bool p0.flags_.Anchored, .bool p0.flags_.Fold, .bool p0.flags_.Slash, .str p0.rest_, .int .i64 p0.at_, .map (some bp0_20)]), .lst r1 87 (lst e_S_pattern_Rule (p0.c_.Includes ++ ([(⟨p1, p0.flags_.Anchored, p0.flags_.Fold, p0.flags_.Slash⟩ : S_pattern_Rule)] : List S_pattern_Rule))), .lst rp0_1 87 (lst e_S_pattern_Rule p0.c_.Excludes), .lst rp0_2 24 (lst e_S_rewrite_Expr p0.c_.Exprs), .obj bp0_20 (.map 2 (encM (fun k : List UInt8 => .str k) (fun v : Bool => .bool v) p0.seen_))] F := A1
   replace A : HH g h9 [.obj h2.size (.cells none 2 [.str p1, .bool p0.flags_.Anchored, .bool p0.flags_.Fold, .bool p0.flags_.Slash]), .lst rqw1 256 (lst e_S_glob_Token x1), .obj h.size (.cells none 2 [.int .i64 (0 : Int), .int .i64 (0 : Int)]), .obj bp0 (.cells none 2 [rowV rp0_0 p0.c_.Includes.length, rowV rp0_1 p0.c_.Excludes.length, rowV rp0_2 p0.c_.Exprs.length, .bool p0.c_.Vcs, .bool p0.c_.Backups, .int .i64 p0.c_.Caches, .bool p0.c_.Dated, .int .i64 p0.c_.Newer.Sec, .int .i64 p0.c_.Newer.Nsec, .int .i64 p0.c_.Nth, .int .i64 p0.c_.Strip, .int .i64 p0.c_.Name, .int .i64 p0.c_.Head, .int .i64 p0.c_.States, .str p0.flags_.Text, .bool p0.flags_.Anchored, .bool p0.flags_.Fold, .bool p0.flags_.Slash, .str p0.rest_, .int .i64 p0.at_, .map (some bp0_20)]), .lst r1 87 (lst e_S_pattern_Rule (p0.c_.Includes ++ ([(⟨p1, p0.flags_.Anchored, p0.flags_.Fold, p0.flags_.Slash⟩ : S_pattern_Rule)] : List S_pattern_Rule))), .lst rp0_1 87 (lst e_S_pattern_Rule p0.c_.Excludes), .lst rp0_2 24 (lst e_S_rewrite_Expr p0.c_.Exprs), .obj bp0_20 (.map 2 (encM (fun k : List UInt8 => .str k) (fun v : Bool => .bool v) p0.seen_))] F := (HH.dropF ((((((((A.front 8 rfl).front 8 rfl).front 8 rfl).front 8 rfl).front 8 rfl).front 8 rfl).front 8 rfl).front 8 rfl) 8)
   refine at_step (v := rowV r1 ((p0.c_.Includes ++ ([(⟨p1, p0.flags_.Anchored, p0.flags_.Fold, p0.flags_.Slash⟩ : S_pattern_Rule)] : List S_pattern_Rule)).length)) (h1 := h9) [(10, .ptr (some (h.size, 0))), (47, .ptr (some (bp0, 0))), (53, rowV r1 ((p0.c_.Includes ++ ([(⟨p1, p0.flags_.Anchored, p0.flags_.Fold, p0.flags_.Slash⟩ : S_pattern_Rule)] : List S_pattern_Rule)).length))] H (fun fr => by kernel_rfl) (fun fr => .of (s_app (s := rowS rp0_0 p0.c_.Includes.length) (by kernel_rfl) hx)) ?_
   intro fr t H
   refine at_seg [(7, [])] [(10, .ptr (some (h.size, 0))), (53, rowV r1 ((p0.c_.Includes ++ ([(⟨p1, p0.flags_.Anchored, p0.flags_.Fold, p0.flags_.Slash⟩ : S_pattern_Rule)] : List S_pattern_Rule)).length)), (54, .ptr (some (bp0, 0)))] H (noU_all rfl) (fun fr => by kernel_rfl) ?_
   intro fr H
   obtain ⟨h10, hx, A1⟩ := A.st 3 rfl (o := 0) (new := [rowV r1 ((p0.c_.Includes ++ ([(⟨p1, p0.flags_.Anchored, p0.flags_.Fold, p0.flags_.Slash⟩ : S_pattern_Rule)] : List S_pattern_Rule)).length)]) (ds := [rowV r1 ((p0.c_.Includes ++ ([(⟨p1, p0.flags_.Anchored, p0.flags_.Fold, p0.flags_.Slash⟩ : S_pattern_Rule)] : List S_pattern_Rule)).length), rowV rp0_1 p0.c_.Excludes.length, rowV rp0_2 p0.c_.Exprs.length, .bool p0.c_.Vcs, .bool p0.c_.Backups, .int .i64 p0.c_.Caches, .bool p0.c_.Dated, .int .i64 p0.c_.Newer.Sec, .int .i64 p0.c_.Newer.Nsec, .int .i64 p0.c_.Nth, .int .i64 p0.c_.Strip, .int .i64 p0.c_.Name, .int .i64 p0.c_.Head, .int .i64 p0.c_.States, .str p0.flags_.Text, .bool p0.flags_.Anchored, .bool p0.flags_.Fold, .bool p0.flags_.Slash, .str p0.rest_, .int .i64 p0.at_, .map (some bp0_20)]) (Nat.le_of_ble_eq_true rfl) rfl rfl
   replace A : HH g h10 [.obj h2.size (.cells none 2 [.str p1, .bool p0.flags_.Anchored, .bool p0.flags_.Fold, .bool p0.flags_.Slash]), .lst rqw1 256 (lst e_S_glob_Token x1), .obj h.size (.cells none 2 [.int .i64 (0 : Int), .int .i64 (0 : Int)]), .obj bp0 (.cells none 2 [rowV r1 ((p0.c_.Includes ++ ([(⟨p1, p0.flags_.Anchored, p0.flags_.Fold, p0.flags_.Slash⟩ : S_pattern_Rule)] : List S_pattern_Rule)).length), rowV rp0_1 p0.c_.Excludes.length, rowV rp0_2 p0.c_.Exprs.length, .bool p0.c_.Vcs, .bool p0.c_.Backups, .int .i64 p0.c_.Caches, .bool p0.c_.Dated, .int .i64 p0.c_.Newer.Sec, .int .i64 p0.c_.Newer.Nsec, .int .i64 p0.c_.Nth, .int .i64 p0.c_.Strip, .int .i64 p0.c_.Name, .int .i64 p0.c_.Head, .int .i64 p0.c_.States, .str p0.flags_.Text, .bool p0.flags_.Anchored, .bool p0.flags_.Fold, .bool p0.flags_.Slash, .str p0.rest_, .int .i64 p0.at_, .map (some bp0_20)]), .lst r1 87 (lst e_S_pattern_Rule (p0.c_.Includes ++ ([(⟨p1, p0.flags_.Anchored, p0.flags_.Fold, p0.flags_.Slash⟩ : S_pattern_Rule)] : List S_pattern_Rule))), .lst rp0_1 87 (lst e_S_pattern_Rule p0.c_.Excludes), .lst rp0_2 24 (lst e_S_rewrite_Expr p0.c_.Exprs), .obj bp0_20 (.map 2 (encM (fun k : List UInt8 => .str k) (fun v : Bool => .bool v) p0.seen_))] F := A1
   refine at_step (v := .tuple []) (h1 := h10) [(10, .ptr (some (h.size, 0)))] H (fun fr => by kernel_rfl) (fun fr => .of (s_st (by kernel_rfl) rfl hx)) ?_
   intro fr t H
   refine at_nil ?_
   show AW cfg 62 g (right (right (right (right (right (right (bodyC cfg.P 62))))))) fr h10 _
   refine aw_seq (by kernel_rfl) ?_
   refine aw_reg (id := 9) (n := 2) [(0, []), (1, [])] (by kernel_rfl) (by kernel_rfl) ?_
   have A1 := A.cut 0
   obtain ⟨x4, hx, hm⟩ := bind_some hm
   obtain ⟨v1, h11, hr, rfl, A1⟩ := ok_option_none (av := []) hx (by kernel_rfl) A1
   replace A : HH g h11 [.obj h2.size (.cells none 2 [.str p1, .bool p0.flags_.Anchored, .bool p0.flags_.Fold, .bool p0.flags_.Slash]), .lst rqw1 256 (lst e_S_glob_Token x1), .obj h.size (.cells none 2 [.int .i64 (0 : Int), .int .i64 (0 : Int)]), .obj bp0 (.cells none 2 [rowV r1 ((p0.c_.Includes ++ ([(⟨p1, p0.flags_.Anchored, p0.flags_.Fold, p0.flags_.Slash⟩ : S_pattern_Rule)] : List S_pattern_Rule)).length), rowV rp0_1 p0.c_.Excludes.length, rowV rp0_2 p0.c_.Exprs.length, .bool p0.c_.Vcs, .bool p0.c_.Backups, .int .i64 p0.c_.Caches, .bool p0.c_.Dated, .int .i64 p0.c_.Newer.Sec, .int .i64 p0.c_.Newer.Nsec, .int .i64 p0.c_.Nth, .int .i64 p0.c_.Strip, .int .i64 p0.c_.Name, .int .i64 p0.c_.Head, .int .i64 p0.c_.States, .str p0.flags_.Text, .bool p0.flags_.Anchored, .bool p0.flags_.Fold, .bool p0.flags_.Slash, .str p0.rest_, .int .i64 p0.at_, .map (some bp0_20)]), .lst r1 87 (lst e_S_pattern_Rule (p0.c_.Includes ++ ([(⟨p1, p0.flags_.Anchored, p0.flags_.Fold, p0.flags_.Slash⟩ : S_pattern_Rule)] : List S_pattern_Rule))), .lst rp0_1 87 (lst e_S_pattern_Rule p0.c_.Excludes), .lst rp0_2 24 (lst e_S_rewrite_Expr p0.c_.Exprs), .obj bp0_20 (.map 2 (encM (fun k : List UInt8 => .str k) (fun v : Bool => .bool v) p0.seen_))] F := A.glue0 (n := 0) A1
   refine at_step (v := .agg [.int .i64 x4.e_, .int .i64 x4.at_]) (h1 := h11) [(10, .ptr (some (h.size, 0))), (55, .agg [.int .i64 x4.e_, .int .i64 x4.at_])] H (fun fr => by kernel_rfl) (fun fr => Steps.call (by kernel_rfl) hr) ?_
   intro fr t H
   obtain ⟨h12, hx, A1⟩ := A.st 2 rfl (o := 0) (new := [.int .i64 x4.e_, .int .i64 x4.at_]) (ds := [.int .i64 x4.e_, .int .i64 x4.at_]) (Nat.le_of_ble_eq_true rfl) rfl rfl
   replace A : HH g h12 [.obj h2.size (.cells none 2 [.str p1, .bool p0.flags_.Anchored, .bool p0.flags_.Fold, .bool p0.flags_.Slash]), .lst rqw1 256 (lst e_S_glob_Token x1), .obj h.size (.cells none 2 [.int .i64 x4.e_, .int .i64 x4.at_]), .obj bp0 (.cells none 2 [rowV r1 ((p0.c_.Includes ++ ([(⟨p1, p0.flags_.Anchored, p0.flags_.Fold, p0.flags_.Slash⟩ : S_pattern_Rule)] : List S_pattern_Rule)).length), rowV rp0_1 p0.c_.Excludes.length, rowV rp0_2 p0.c_.Exprs.length, .bool p0.c_.Vcs, .bool p0.c_.Backups, .int .i64 p0.c_.Caches, .bool p0.c_.Dated, .int .i64 p0.c_.Newer.Sec, .int .i64 p0.c_.Newer.Nsec, .int .i64 p0.c_.Nth, .int .i64 p0.c_.Strip, .int .i64 p0.c_.Name, .int .i64 p0.c_.Head, .int .i64 p0.c_.States, .str p0.flags_.Text, .bool p0.flags_.Anchored, .bool p0.flags_.Fold, .bool p0.flags_.Slash, .str p0.rest_, .int .i64 p0.at_, .map (some bp0_20)]), .lst r1 87 (lst e_S_pattern_Rule (p0.c_.Includes ++ ([(⟨p1, p0.flags_.Anchored, p0.flags_.Fold, p0.flags_.Slash⟩ : S_pattern_Rule)] : List S_pattern_Rule))), .lst rp0_1 87 (lst e_S_pattern_Rule p0.c_.Excludes), .lst rp0_2 24 (lst e_S_rewrite_Expr p0.c_.Exprs), .obj bp0_20 (.map 2 (encM (fun k : List UInt8 => .str k) (fun v : Bool => .bool v) p0.seen_))] F := A1
   refine at_step (v := .tuple []) (h1 := h12) [(10, .ptr (some (h.size, 0)))] H (fun fr => by kernel_rfl) (fun fr => .of (s_stG (by kernel_rfl) (stG_st hx rfl))) ?_
   intro fr t H
   refine at_nil ?_
   show AW cfg 62 g (right (right (right (right (right (right (right (bodyC cfg.P 62)))))))) fr h12 _
   refine aw_ret (by kernel_rfl) ?_
   have e0 := Option.some.inj hm
   obtain ⟨y0, z0⟩ := Prod.mk.inj e0
   subst y0
   subst z0
   refine ⟨.inl rfl, .agg [.int .i64 x4.e_, .int .i64 x4.at_], resL_one (.cell (resT H (fun fr => by kernel_rfl)) (load_ldA (by kernel_rfl) (by kernel_rfl) (A.ldA 2 rfl (o := 0) (n := 2) ⟨Nat.le_of_ble_eq_true rfl, rfl⟩)) .nil), ?_⟩
   replace A : HH g h12 [.obj bp0 (.cells none 2 [rowV r1 ((p0.c_.Includes ++ ([(⟨p1, p0.flags_.Anchored, p0.flags_.Fold, p0.flags_.Slash⟩ : S_pattern_Rule)] : List S_pattern_Rule)).length), rowV rp0_1 p0.c_.Excludes.length, rowV rp0_2 p0.c_.Exprs.length, .bool p0.c_.Vcs, .bool p0.c_.Backups, .int .i64 p0.c_.Caches, .bool p0.c_.Dated, .int .i64 p0.c_.Newer.Sec, .int .i64 p0.c_.Newer.Nsec, .int .i64 p0.c_.Nth, .int .i64 p0.c_.Strip, .int .i64 p0.c_.Name, .int .i64 p0.c_.Head, .int .i64 p0.c_.States, .str p0.flags_.Text, .bool p0.flags_.Anchored, .bool p0.flags_.Fold, .bool p0.flags_.Slash, .str p0.rest_, .int .i64 p0.at_, .map (some bp0_20)]), .lst r1 87 (lst e_S_pattern_Rule (p0.c_.Includes ++ ([(⟨p1, p0.flags_.Anchored, p0.flags_.Fold, p0.flags_.Slash⟩ : S_pattern_Rule)] : List S_pattern_Rule))), .lst rp0_1 87 (lst e_S_pattern_Rule p0.c_.Excludes), .lst rp0_2 24 (lst e_S_rewrite_Expr p0.c_.Exprs), .obj bp0_20 (.map 2 (encM (fun k : List UInt8 => .str k) (fun v : Bool => .bool v) p0.seen_))] F := (HH.dropF (((((A.front 7 rfl).front 7 rfl).front 7 rfl).front 7 rfl).front 7 rfl) 5)
   exact ⟨r1, rfl, A⟩
/-! ### boulter/option.words$7 -/
noncomputable def M_option_words_7_sPOOOSII (p0 : S_option_reading) (p1 : List UInt8) (p2 : Int) (p3 : Int) : Option (S_option_flaw × (List S_pattern_Rule)) :=
 (M_option_reading_pattern_sPOOOSe0II p0 p1 p2 p3).bind fun (x1, x2) => some (x1, x2)
theorem ok_option_words_7_sPOOOSII {g : Gd} {h : AHeap} {F : List Ck} {p0 : S_option_reading} {p1 : List UInt8} {p2 : Int} {p3 : Int} {bp0 : Nat} {rp0_0 : Option Nat} {rp0_1 : Option Nat} {rp0_2 : Option Nat} {bp0_20 : Nat} {q0 : S_option_flaw} {u1 : List S_pattern_Rule} {av : List AVal} (hm : M_option_words_7_sPOOOSII p0 p1 p2 p3 = some (q0, u1)) (hc : canL (cfg.still 61) av = [.ptr (some (bp0, 0)), .str p1, .int .i64 p2, .int .i64 p3]) (A : HH g h [.obj bp0 (.cells none 2 [rowV rp0_0 p0.c_.Includes.length, rowV rp0_1 p0.c_.Excludes.length, rowV rp0_2 p0.c_.Exprs.length, .bool p0.c_.Vcs, .bool p0.c_.Backups, .int .i64 p0.c_.Caches, .bool p0.c_.Dated, .int .i64 p0.c_.Newer.Sec, .int .i64 p0.c_.Newer.Nsec, .int .i64 p0.c_.Nth, .int .i64 p0.c_.Strip, .int .i64 p0.c_.Name, .int .i64 p0.c_.Head, .int .i64 p0.c_.States, .str p0.flags_.Text, .bool p0.flags_.Anchored, .bool p0.flags_.Fold, .bool p0.flags_.Slash, .str p0.rest_, .int .i64 p0.at_, .map (some bp0_20)]), .lst rp0_0 87 (lst e_S_pattern_Rule p0.c_.Includes), .lst rp0_1 87 (lst e_S_pattern_Rule p0.c_.Excludes), .lst rp0_2 24 (lst e_S_rewrite_Expr p0.c_.Exprs), .obj bp0_20 (.map 2 (encM (fun k : List UInt8 => .str k) (fun v : Bool => .bool v) p0.seen_))] F) : ∃ v h', Runs cfg g h 61 av v h' ∧ ∃ (r'1 : Option Nat), v = .agg [.int .i64 q0.e_, .int .i64 q0.at_] ∧ HH g h' [.obj bp0 (.cells none 2 [rowV r'1 u1.length, rowV rp0_1 p0.c_.Excludes.length, rowV rp0_2 p0.c_.Exprs.length, .bool p0.c_.Vcs, .bool p0.c_.Backups, .int .i64 p0.c_.Caches, .bool p0.c_.Dated, .int .i64 p0.c_.Newer.Sec, .int .i64 p0.c_.Newer.Nsec, .int .i64 p0.c_.Nth, .int .i64 p0.c_.Strip, .int .i64 p0.c_.Name, .int .i64 p0.c_.Head, .int .i64 p0.c_.States, .str p0.flags_.Text, .bool p0.flags_.Anchored, .bool p0.flags_.Fold, .bool p0.flags_.Slash, .str p0.rest_, .int .i64 p0.at_, .map (some bp0_20)]), .lst r'1 87 (lst e_S_pattern_Rule u1), .lst rp0_1 87 (lst e_S_pattern_Rule p0.c_.Excludes), .lst rp0_2 24 (lst e_S_rewrite_Expr p0.c_.Exprs), .obj bp0_20 (.map 2 (encM (fun k : List UInt8 => .str k) (fun v : Bool => .bool v) p0.seen_))] F := by
 refine runsQ1 (n := 18) (rs := [.cell 8 96]) (by kernel_rfl) hc (by kernel_rfl) ?_
 clear hc
 unfold M_option_words_7_sPOOOSII at hm
 refine start (n := 18) [(0, .ptr (some (bp0, 0))), (1, .str p1), (2, .int .i64 p2), (3, .int .i64 p3)] (by kernel_rfl) (by kernel_rfl) ?_
 intro fr H
 refine aw_seq (by kernel_rfl) ?_
 refine aw_reg (id := 0) (n := 1) [(0, [])] (by kernel_rfl) (by kernel_rfl) ?_
 obtain ⟨h1, e1⟩ : ∃ x, x = h.push (.cells none 2 [.int .i64 (0 : Int), .int .i64 (0 : Int)]) := ⟨_, rfl⟩
 replace A := (A.push _).to e1
 refine at_step (v := .ptr (some (h.size, 0))) (h1 := h1) [(0, .ptr (some (bp0, 0))), (1, .str p1), (2, .int .i64 p2), (3, .int .i64 p3), (8, .ptr (some (h.size, 0)))] H (fun fr => by kernel_rfl) (fun fr => .of (s_n' (by kernel_rfl) (congrArg some e1.symm))) ?_
 intro fr t H
 refine at_nil ?_
 show AW cfg 61 g (right (bodyC cfg.P 61)) fr h1 _
 refine aw_seq (by kernel_rfl) ?_
 refine aw_reg (id := 1) (n := 10) [(0, []), (1, []), (2, []), (3, []), (4, []), (5, []), (6, []), (7, []), (8, []), (9, [])] (by kernel_rfl) (by kernel_rfl) ?_
 refine at_seg [(0, []), (1, []), (2, []), (3, []), (4, []), (5, []), (6, []), (7, [])] [(8, .ptr (some (h.size, 0))), (9, .ptr (some (bp0, 0))), (10, .str p1), (14, .ptr (some (bp0, 0))), (15, .int .i64 p2), (16, .int .i64 p3)] H (noU_all rfl) (fun fr => by kernel_rfl) ?_
 intro fr H
 replace A : HH g h1 [.obj bp0 (.cells none 2 [rowV rp0_0 p0.c_.Includes.length, rowV rp0_1 p0.c_.Excludes.length, rowV rp0_2 p0.c_.Exprs.length, .bool p0.c_.Vcs, .bool p0.c_.Backups, .int .i64 p0.c_.Caches, .bool p0.c_.Dated, .int .i64 p0.c_.Newer.Sec, .int .i64 p0.c_.Newer.Nsec, .int .i64 p0.c_.Nth, .int .i64 p0.c_.Strip, .int .i64 p0.c_.Name, .int .i64 p0.c_.Head, .int .i64 p0.c_.States, .str p0.flags_.Text, .bool p0.flags_.Anchored, .bool p0.flags_.Fold, .bool p0.flags_.Slash, .str p0.rest_, .int .i64 p0.at_, .map (some bp0_20)]), .lst rp0_0 87 (lst e_S_pattern_Rule p0.c_.Includes), .lst rp0_1 87 (lst e_S_pattern_Rule p0.c_.Excludes), .lst rp0_2 24 (lst e_S_rewrite_Expr p0.c_.Exprs), .obj bp0_20 (.map 2 (encM (fun k : List UInt8 => .str k) (fun v : Bool => .bool v) p0.seen_)), .obj h.size (.cells none 2 [.int .i64 (0 : Int), .int .i64 (0 : Int)])] F := (((((A.front 5 rfl).front 5 rfl).front 5 rfl).front 5 rfl).front 5 rfl)
 have A1 := A.cut 5
 obtain ⟨⟨x1, x2⟩, hx, hm⟩ := bind_some hm
 obtain ⟨v1, h2, hr, r1, rfl, A1⟩ := ok_option_reading_pattern_sPOOOSe0II (av := [.ptr (some (bp0, 0)), .str p1, .ptr (some (bp0, 0)), .int .i64 p2, .int .i64 p3]) hx (by kernel_rfl) A1
 replace A : HH g h2 [.obj bp0 (.cells none 2 [rowV r1 x2.length, rowV rp0_1 p0.c_.Excludes.length, rowV rp0_2 p0.c_.Exprs.length, .bool p0.c_.Vcs, .bool p0.c_.Backups, .int .i64 p0.c_.Caches, .bool p0.c_.Dated, .int .i64 p0.c_.Newer.Sec, .int .i64 p0.c_.Newer.Nsec, .int .i64 p0.c_.Nth, .int .i64 p0.c_.Strip, .int .i64 p0.c_.Name, .int .i64 p0.c_.Head, .int .i64 p0.c_.States, .str p0.flags_.Text, .bool p0.flags_.Anchored, .bool p0.flags_.Fold, .bool p0.flags_.Slash, .str p0.rest_, .int .i64 p0.at_, .map (some bp0_20)]), .lst r1 87 (lst e_S_pattern_Rule x2), .lst rp0_1 87 (lst e_S_pattern_Rule p0.c_.Excludes), .lst rp0_2 24 (lst e_S_rewrite_Expr p0.c_.Exprs), .obj bp0_20 (.map 2 (encM (fun k : List UInt8 => .str k) (fun v : Bool => .bool v) p0.seen_)), .obj h.size (.cells none 2 [.int .i64 (0 : Int), .int .i64 (0 : Int)])] F := A.glue0 (n := 5) A1
 refine at_step (v := .agg [.int .i64 x1.e_, .int .i64 x1.at_]) (h1 := h2) [(8, .ptr (some (h.size, 0))), (17, .agg [.int .i64 x1.e_, .int .i64 x1.at_])] H (fun fr => by kernel_rfl) (fun fr => Steps.call (by kernel_rfl) hr) ?_
 intro fr t H
 obtain ⟨h3, hx, A1⟩ := A.st 5 rfl (o := 0) (new := [.int .i64 x1.e_, .int .i64 x1.at_]) (ds := [.int .i64 x1.e_, .int .i64 x1.at_]) (Nat.le_of_ble_eq_true rfl) rfl rfl
 replace A : HH g h3 [.obj bp0 (.cells none 2 [rowV r1 x2.length, rowV rp0_1 p0.c_.Excludes.length, rowV rp0_2 p0.c_.Exprs.length, .bool p0.c_.Vcs, .bool p0.c_.Backups, .int .i64 p0.c_.Caches, .bool p0.c_.Dated, .int .i64 p0.c_.Newer.Sec, .int .i64 p0.c_.Newer.Nsec, .int .i64 p0.c_.Nth, .int .i64 p0.c_.Strip, .int .i64 p0.c_.Name, .int .i64 p0.c_.Head, .int .i64 p0.c_.States, .str p0.flags_.Text, .bool p0.flags_.Anchored, .bool p0.flags_.Fold, .bool p0.flags_.Slash, .str p0.rest_, .int .i64 p0.at_, .map (some bp0_20)]), .lst r1 87 (lst e_S_pattern_Rule x2), .lst rp0_1 87 (lst e_S_pattern_Rule p0.c_.Excludes), .lst rp0_2 24 (lst e_S_rewrite_Expr p0.c_.Exprs), .obj bp0_20 (.map 2 (encM (fun k : List UInt8 => .str k) (fun v : Bool => .bool v) p0.seen_)), .obj h.size (.cells none 2 [.int .i64 x1.e_, .int .i64 x1.at_])] F := A1
 refine at_step (v := .tuple []) (h1 := h3) [(8, .ptr (some (h.size, 0)))] H (fun fr => by kernel_rfl) (fun fr => .of (s_stG (by kernel_rfl) (stG_st hx rfl))) ?_
 intro fr t H
 refine at_nil ?_
 show AW cfg 61 g (right (right (bodyC cfg.P 61))) fr h3 _
 refine aw_ret (by kernel_rfl) ?_
 have e0 := Option.some.inj hm
 obtain ⟨y0, z0⟩ := Prod.mk.inj e0
 subst y0
 subst z0
 refine ⟨.inl rfl, .agg [.int .i64 x1.e_, .int .i64 x1.at_], resL_one (.cell (resT H (fun fr => by kernel_rfl)) (load_ldA (by kernel_rfl) (by kernel_rfl) (A.ldA 5 rfl (o := 0) (n := 2) ⟨Nat.le_of_ble_eq_true rfl, rfl⟩)) .nil), ?_⟩
 replace A : HH g h3 [.obj bp0 (.cells none 2 [rowV r1 x2.length, rowV rp0_1 p0.c_.Excludes.length, rowV rp0_2 p0.c_.Exprs.length, .bool p0.c_.Vcs, .bool p0.c_.Backups, .int .i64 p0.c_.Caches, .bool p0.c_.Dated, .int .i64 p0.c_.Newer.Sec, .int .i64 p0.c_.Newer.Nsec, .int .i64 p0.c_.Nth, .int .i64 p0.c_.Strip, .int .i64 p0.c_.Name, .int .i64 p0.c_.Head, .int .i64 p0.c_.States, .str p0.flags_.Text, .bool p0.flags_.Anchored, .bool p0.flags_.Fold, .bool p0.flags_.Slash, .str p0.rest_, .int .i64 p0.at_, .map (some bp0_20)]), .lst r1 87 (lst e_S_pattern_Rule x2), .lst rp0_1 87 (lst e_S_pattern_Rule p0.c_.Excludes), .lst rp0_2 24 (lst e_S_rewrite_Expr p0.c_.Exprs), .obj bp0_20 (.map 2 (encM (fun k : List UInt8 => .str k) (fun v : Bool => .bool v) p0.seen_))] F := (HH.dropF (((((A.front 4 rfl).front 4 rfl).front 4 rfl).front 4 rfl).front 4 rfl) 5)
 exact ⟨r1, rfl, A⟩
/-! ### boulter/option.number -/
noncomputable def M_option_number_L0 (p0 : List UInt8) (s : Int × Int) : Option ((Int × Int) ⊕ ((Int) ⊕ (Int × Bool))) :=
 match s with
 | (x3, x4) => iteB (decide (x4 < (p0.length : Int))) ((ixS p0 x4).bind fun x8 => (iteB (decide (x8 < (48 : Int))) (some true) ((ixS p0 x4).bind fun x10 => some (decide (x10 > (57 : Int)))) : Option (Bool)).bind fun x9 => iteB x9 (some (.inr (.inr ((0 : Int), false)))) ((ixS p0 x4).bind fun x11 => some (.inl (IntKind.i64.wrap ((IntKind.i64.wrap ((10 : Int) * x3)) + (IntKind.i64.wrap (IntKind.u8.wrap (x11 - (48 : Int))))), IntKind.i64.wrap (x4 + (1 : Int)))))) (some (.inr (.inl x3)))
noncomputable def M_option_number (p0 : List UInt8) (p1 : Int) (p2 : Int) : Option (Int × Bool) :=
 (iteB (((p0.length : Int) == (0 : Int)) || (decide ((p0.length : Int) > (5 : Int)))) (some true) ((ixS p0 (0 : Int)).bind fun x2 => some ((x2 == (48 : Int)) && (decide ((p0.length : Int) > (1 : Int))))) : Option (Bool)).bind fun x1 => iteB x1 (some ((0 : Int), false)) ((loop (M_option_number_L0 p0) ((0 : Int), (0 : Int))).bind fun o1 => (match o1 with | .inl x5 => some (x5, (decide (x5 ≥ p1)) && (decide (x5 ≤ p2))) | .inr (x6, x7) => some (x6, x7)))
theorem ok_option_number {g : Gd} {h : AHeap} {F : List Ck} {p0 : List UInt8} {p1 : Int} {p2 : Int} {q0 : Int} {q1 : Bool} {av : List AVal} (hm : M_option_number p0 p1 p2 = some (q0, q1)) (hc : canL (cfg.still 105) av = [.str p0, .int .i64 p1, .int .i64 p2]) (A : HH g h [] F) : ∃ v h', Runs cfg g h 105 av v h' ∧ v = .tuple [.int .i64 q0, .bool q1] ∧ HH g h' [] F := by
 refine runsQ1 (n := 61) (rs := [.tmp 6, .tmp 7]) (by kernel_rfl) hc (by kernel_rfl) ?_
 clear hc
 unfold M_option_number at hm
 refine start (n := 61) [(0, .str p0), (1, .int .i64 p1), (2, .int .i64 p2)] (by kernel_rfl) (by kernel_rfl) ?_
 intro fr H
 refine aw_seq (by kernel_rfl) ?_
 refine aw_reg (id := 0) (n := 2) [(0, []), (1, [])] (by kernel_rfl) (by kernel_rfl) ?_
 refine at_seg [(0, []), (1, [])] [(0, .str p0), (1, .int .i64 p1), (2, .int .i64 p2)] H (noU_all rfl) (fun fr => by kernel_rfl) ?_
 intro fr H
 refine at_nil ?_
 show AW cfg 105 g (right (bodyC cfg.P 105)) fr h _
 refine aw_seq (by kernel_rfl) ?_
 refine aw_seq (by kernel_rfl) ?_
 refine aw_reg (id := 1) (n := 18) [(0, []), (1, []), (2, []), (3, []), (4, []), (5, []), (6, []), (7, []), (8, []), (9, []), (10, []), (11, []), (12, []), (13, []), (14, []), (15, []), (16, []), (17, [])] (by kernel_rfl) (by kernel_rfl) ?_
 refine at_seg [(0, []), (1, []), (2, []), (3, [])] [(0, .str p0), (1, .int .i64 p1), (2, .int .i64 p2), (13, .bool ((p0.length : Int) == (0 : Int)))] H (noU_all rfl) (fun fr => by kernel_rfl) ?_
 intro fr H
 refine at_cut [(4, []), (5, []), (6, []), (7, [])] (fun fr' h' => h = h' ∧ Has fr' 61 [(0, .str p0), (1, .int .i64 p1), (2, .int .i64 p2), (17, .bool (((p0.length : Int) == (0 : Int)) || (decide ((p0.length : Int) > (5 : Int)))))]) ?_ ?_
 ·cases hb : ((p0.length : Int) == (0 : Int) : Bool) with
  | true =>
   replace H := H.know 13 hb (by kernel_rfl)
   refine at_seg [(4, []), (5, []), (6, []), (7, [])] [(0, .str p0), (1, .int .i64 p1), (2, .int .i64 p2), (17, .bool true)] H (noU_all rfl) (fun fr => by kernel_rfl) ?_
   intro fr H
   exact at_nil ⟨rfl, by first | exact H.less _ (fun fr => by rfl) | exact H.less _ (fun fr => by rw [hb]; rfl)⟩
  | false =>
   replace H := H.know 13 hb (by kernel_rfl)
   refine at_seg [(4, []), (5, []), (6, []), (7, [])] [(0, .str p0), (1, .int .i64 p1), (2, .int .i64 p2), (17, .bool (decide ((p0.length : Int) > (5 : Int))))] H (noU_all rfl) (fun fr => by kernel_rfl) ?_
   intro fr H
   exact at_nil ⟨rfl, by first | exact H.less _ (fun fr => by rfl) | exact H.less _ (fun fr => by rw [hb]; rfl)⟩
 ·intro t fr h' hK
  obtain ⟨e, H⟩ := hK
  subst e
  refine at_seg [(8, [])] [(0, .str p0), (1, .int .i64 p1), (2, .int .i64 p2), (18, .bool (((p0.length : Int) == (0 : Int)) || (decide ((p0.length : Int) > (5 : Int)))))] H (noU_all rfl) (fun fr => by kernel_rfl) ?_
  intro fr H
  obtain ⟨x1, ho, hm⟩ := bind_some hm
  refine at_cut [(9, []), (10, []), (11, []), (12, []), (13, []), (14, []), (15, []), (16, []), (17, [])] (fun fr' h' => Has fr' 61 [(0, .str p0), (1, .int .i64 p1), (2, .int .i64 p2), (27, .bool x1)] ∧ HH g h' [] F) ?_ ?_
  ·rcases iteB_some ho with ⟨hb, hm⟩ | ⟨hb, hm⟩
   ·replace H := H.know 18 hb (by kernel_rfl)
    refine at_seg [(9, []), (10, []), (11, []), (12, []), (13, []), (14, []), (15, []), (16, []), (17, [])] [(0, .str p0), (1, .int .i64 p1), (2, .int .i64 p2), (27, .bool true)] H (noU_all rfl) (fun fr => by kernel_rfl) ?_
    intro fr H
    have e1 := Option.some.inj hm
    subst e1
    exact at_nil ⟨H.less _ (fun fr => by kernel_rfl), A⟩
   ·replace H := H.know 18 hb (by kernel_rfl)
    refine at_seg [(9, [])] [(0, .str p0), (1, .int .i64 p1), (2, .int .i64 p2), (18, .bool false), (19, .str p0)] H (noU_all rfl) (fun fr => by kernel_rfl) ?_
    intro fr H
    obtain ⟨x2, hx, hm⟩ := bind_some hm
    refine at_step (v := .int .u8 x2) (h1 := h) [(0, .str p0), (1, .int .i64 p1), (2, .int .i64 p2), (18, .bool false), (20, .int .u8 x2)] H (fun fr => by kernel_rfl) (fun fr => .of (s_ixS (by kernel_rfl) hx)) ?_
    intro fr t H
    refine at_seg [(11, []), (12, [])] [(0, .str p0), (1, .int .i64 p1), (2, .int .i64 p2), (18, .bool false), (22, .bool (x2 == (48 : Int)))] H (noU_all rfl) (fun fr => by kernel_rfl) ?_
    intro fr H
    refine at_cut [(13, []), (14, []), (15, []), (16, [])] (fun fr' h' => h = h' ∧ Has fr' 61 [(0, .str p0), (1, .int .i64 p1), (2, .int .i64 p2), (18, .bool false), (26, .bool ((x2 == (48 : Int)) && (decide ((p0.length : Int) > (1 : Int)))))]) ?_ ?_
    ·cases hb : (x2 == (48 : Int) : Bool) with
     | true =>
      replace H := H.know 22 hb (by kernel_rfl)
      refine at_seg [(13, []), (14, []), (15, []), (16, [])] [(0, .str p0), (1, .int .i64 p1), (2, .int .i64 p2), (18, .bool false), (26, .bool (decide ((p0.length : Int) > (1 : Int))))] H (noU_all rfl) (fun fr => by kernel_rfl) ?_
      intro fr H
      exact at_nil ⟨rfl, by first | exact H.less _ (fun fr => by rfl) | exact H.less _ (fun fr => by rw [hb]; rfl)⟩
     | false =>
      replace H := H.know 22 hb (by kernel_rfl)
      refine at_seg [(13, []), (14, []), (15, []), (16, [])] [(0, .str p0), (1, .int .i64 p1), (2, .int .i64 p2), (18, .bool false), (26, .bool false)] H (noU_all rfl) (fun fr => by kernel_rfl) ?_
      intro fr H
      exact at_nil ⟨rfl, by first | exact H.less _ (fun fr => by rfl) | exact H.less _ (fun fr => by rw [hb]; rfl)⟩
    ·intro t fr h' hK
     obtain ⟨e, H⟩ := hK
     subst e
     refine at_seg [(17, [])] [(0, .str p0), (1, .int .i64 p1), (2, .int .i64 p2), (27, .bool ((x2 == (48 : Int)) && (decide ((p0.length : Int) > (1 : Int)))))] H (noU_all rfl) (fun fr => by kernel_rfl) ?_
     intro fr H
     have e1 := Option.some.inj hm
     subst e1
     exact at_nil ⟨H.less _ (fun fr => by kernel_rfl), A⟩
  ·clear A
   intro t fr h1 hK
   obtain ⟨H, A⟩ := hK
   refine at_nil ?_
   show AW cfg 105 g (right (left (right (bodyC cfg.P 105)))) fr h1 _
   rcases iteB_some hm with ⟨hb, hm⟩ | ⟨hb, hm⟩
   ·replace H := H.know 27 hb (by kernel_rfl)
    refine aw_true (x := .tmp 27) (by kernel_rfl) H (fun fr => by kernel_rfl) ?_
    refine aw_seq (by kernel_rfl) ?_
    refine aw_reg (id := 2) (n := 2) [(0, []), (1, [])] (by kernel_rfl) (by kernel_rfl) ?_
    refine at_seg [(0, []), (1, [])] [(6, .int .i64 (0 : Int)), (7, .bool false)] H (noU_all rfl) (fun fr => by kernel_rfl) ?_
    intro fr H
    refine at_nil ?_
    show AW cfg 105 g (right (left (right (left (right (bodyC cfg.P 105)))))) fr h1 _
    refine aw_ret (by kernel_rfl) ?_
    have e0 := Option.some.inj hm
    obtain ⟨y0, z0⟩ := Prod.mk.inj e0
    subst y0
    subst z0
    refine ⟨.inl rfl, .tuple [.int .i64 (0 : Int), .bool false], resH H (fun fr => by kernel_rfl), ?_⟩
    exact ⟨rfl, A⟩
   ·replace H := H.know 27 hb (by kernel_rfl)
    refine aw_false (x := .tmp 27) (by kernel_rfl) H (fun fr => by kernel_rfl) ?_
    refine aw_skip (by kernel_rfl) ?_
    show AW cfg 105 g (right (right (bodyC cfg.P 105))) fr h1 _
    refine aw_seq (by kernel_rfl) ?_
    refine aw_reg (id := 3) (n := 1) [(0, [])] (by kernel_rfl) (by kernel_rfl) ?_
    refine at_seg [(0, [])] [(0, .str p0), (1, .int .i64 p1), (2, .int .i64 p2), (8, .int .i64 (0 : Int))] H (noU_all rfl) (fun fr => by kernel_rfl) ?_
    intro fr H
    refine at_nil ?_
    show AW cfg 105 g (right (right (right (bodyC cfg.P 105)))) fr h1 _
    refine aw_seq (by kernel_rfl) ?_
    refine aw_seq (by kernel_rfl) ?_
    refine aw_reg (id := 4) (n := 3) [(0, []), (1, []), (2, [])] (by kernel_rfl) (by kernel_rfl) ?_
    refine at_seg [(0, []), (1, []), (2, [])] [(0, .str p0), (1, .int .i64 p1), (2, .int .i64 p2), (8, .int .i64 (0 : Int)), (29, .int .i64 (p0.length : Int)), (30, .int .i64 (0 : Int))] H (noU_all rfl) (fun fr => by kernel_rfl) ?_
    intro fr H
    refine at_nil ?_
    show AW cfg 105 g (right (left (right (right (right (bodyC cfg.P 105)))))) fr h1 _
    refine aw_block (id := 0) (by kernel_rfl) ?_
    obtain ⟨o1, ho, hm⟩ := bind_some hm
    refine aw_mono (Q' := fun e fr' h' => (∃ (x5 : Int), e = .exit 0 ∧ .inl x5 = o1 ∧ Has fr' 61 [(1, .int .i64 p1), (2, .int .i64 p2), (8, .int .i64 x5)] ∧ HH g h' [] F) ∨ (∃ (x6 : Int) (x7 : Bool), e = .ret ∧ .inr (x6, x7) = o1 ∧ Has fr' 61 [(6, .int .i64 x6), (7, .bool x7)] ∧ HH g h' [] F) ∨ False) ?_ ?_
    ·refine aw_loop (by kernel_rfl) (fun (s : Int × Int) fr' h' => ∃ (x3 : Int) (x4 : Int), (x3, x4) = s ∧ Has fr' 61 [(0, .str p0), (1, .int .i64 p1), (2, .int .i64 p2), (8, .int .i64 x3), (29, .int .i64 (p0.length : Int)), (30, .int .i64 x4)] ∧ HH g h' [] F) ho ⟨(0 : Int), (0 : Int), rfl, H.less _ (fun fr => by kernel_rfl), A⟩ ?_
     clear ho hm H A
     intro s q fr h2 hI hm
     obtain ⟨x3, x4, rfl, H, A⟩ := hI
     unfold M_option_number_L0 at hm
     refine aw_seq (by kernel_rfl) ?_
     refine aw_reg (id := 5) (n := 1) [(0, [])] (by kernel_rfl) (by kernel_rfl) ?_
     refine at_seg [(0, [])] [(0, .str p0), (1, .int .i64 p1), (2, .int .i64 p2), (8, .int .i64 x3), (29, .int .i64 (p0.length : Int)), (30, .int .i64 x4), (31, .bool (decide (x4 < (p0.length : Int))))] H (noU_all rfl) (fun fr => by kernel_rfl) ?_
     intro fr H
     refine at_nil ?_
     show AW cfg 105 g (right (left (left (right (left (right (right (right (bodyC cfg.P 105))))))))) fr h2 _
     refine aw_seq (by kernel_rfl) ?_
     rcases iteB_some hm with ⟨hb, hm⟩ | ⟨hb, hm⟩
     ·replace H := H.know 31 hb (by kernel_rfl)
      refine aw_true (x := .tmp 31) (by kernel_rfl) H (fun fr => by kernel_rfl) ?_
      refine aw_skip (by kernel_rfl) ?_
      show AW cfg 105 g (right (right (left (left (right (left (right (right (right (bodyC cfg.P 105)))))))))) fr h2 _
      refine aw_seq (by kernel_rfl) ?_
      refine aw_block (id := 1) (by kernel_rfl) ?_
      refine aw_seq (by kernel_rfl) ?_
      refine aw_reg (id := 6) (n := 2) [(0, []), (1, [])] (by kernel_rfl) (by kernel_rfl) ?_
      refine at_seg [(0, []), (1, [])] [(0, .str p0), (1, .int .i64 p1), (2, .int .i64 p2), (8, .int .i64 x3), (9, .int .i64 x4), (29, .int .i64 (p0.length : Int)), (30, .int .i64 x4)] H (noU_all rfl) (fun fr => by kernel_rfl) ?_
      intro fr H
      refine at_nil ?_
      show AW cfg 105 g (right (left (left (right (right (left (left (right (left (right (right (right (bodyC cfg.P 105))))))))))))) fr h2 _
      refine aw_seq (by kernel_rfl) ?_
      refine aw_seq (by kernel_rfl) ?_
      refine aw_reg (id := 7) (n := 10) [(0, []), (1, []), (2, []), (3, []), (4, []), (5, []), (6, []), (7, []), (8, []), (9, [])] (by kernel_rfl) (by kernel_rfl) ?_
      refine at_seg [(0, []), (1, [])] [(0, .str p0), (1, .int .i64 p1), (2, .int .i64 p2), (8, .int .i64 x3), (9, .int .i64 x4), (29, .int .i64 (p0.length : Int)), (30, .int .i64 x4), (33, .str p0), (34, .int .i64 x4)] H (noU_all rfl) (fun fr => by kernel_rfl) ?_
      intro fr H
      obtain ⟨x8, hx, hm⟩ := bind_some hm
      refine at_step (v := .int .u8 x8) (h1 := h2) [(0, .str p0), (1, .int .i64 p1), (2, .int .i64 p2), (8, .int .i64 x3), (9, .int .i64 x4), (29, .int .i64 (p0.length : Int)), (30, .int .i64 x4), (35, .int .u8 x8)] H (fun fr => by kernel_rfl) (fun fr => .of (s_ixS (by kernel_rfl) hx)) ?_
      intro fr t H
      refine at_seg [(3, []), (4, [])] [(0, .str p0), (1, .int .i64 p1), (2, .int .i64 p2), (8, .int .i64 x3), (9, .int .i64 x4), (29, .int .i64 (p0.length : Int)), (30, .int .i64 x4), (37, .bool (decide (x8 < (48 : Int))))] H (noU_all rfl) (fun fr => by kernel_rfl) ?_
      intro fr H
      obtain ⟨x9, ho, hm⟩ := bind_some hm
      refine at_cut [(5, []), (6, []), (7, []), (8, []), (9, [])] (fun fr' h' => Has fr' 61 [(0, .str p0), (1, .int .i64 p1), (2, .int .i64 p2), (8, .int .i64 x3), (9, .int .i64 x4), (29, .int .i64 (p0.length : Int)), (30, .int .i64 x4), (42, .bool x9)] ∧ HH g h' [] F) ?_ ?_
      ·rcases iteB_some ho with ⟨hb, hm⟩ | ⟨hb, hm⟩
       ·replace H := H.know 37 hb (by kernel_rfl)
        refine at_seg [(5, []), (6, []), (7, []), (8, []), (9, [])] [(0, .str p0), (1, .int .i64 p1), (2, .int .i64 p2), (8, .int .i64 x3), (9, .int .i64 x4), (29, .int .i64 (p0.length : Int)), (30, .int .i64 x4), (42, .bool true)] H (noU_all rfl) (fun fr => by kernel_rfl) ?_
        intro fr H
        have e1 := Option.some.inj hm
        subst e1
        exact at_nil ⟨H.less _ (fun fr => by kernel_rfl), A⟩
       ·replace H := H.know 37 hb (by kernel_rfl)
        refine at_seg [(5, []), (6, [])] [(0, .str p0), (1, .int .i64 p1), (2, .int .i64 p2), (8, .int .i64 x3), (9, .int .i64 x4), (29, .int .i64 (p0.length : Int)), (30, .int .i64 x4), (37, .bool false), (38, .str p0), (39, .int .i64 x4)] H (noU_all rfl) (fun fr => by kernel_rfl) ?_
        intro fr H
        obtain ⟨x10, hx, hm⟩ := bind_some hm
        refine at_step (v := .int .u8 x10) (h1 := h2) [(0, .str p0), (1, .int .i64 p1), (2, .int .i64 p2), (8, .int .i64 x3), (9, .int .i64 x4), (29, .int .i64 (p0.length : Int)), (30, .int .i64 x4), (37, .bool false), (40, .int .u8 x10)] H (fun fr => by kernel_rfl) (fun fr => .of (s_ixS (by kernel_rfl) hx)) ?_
        intro fr t H
        refine at_seg [(8, []), (9, [])] [(0, .str p0), (1, .int .i64 p1), (2, .int .i64 p2), (8, .int .i64 x3), (9, .int .i64 x4), (29, .int .i64 (p0.length : Int)), (30, .int .i64 x4), (42, .bool (decide (x10 > (57 : Int))))] H (noU_all rfl) (fun fr => by kernel_rfl) ?_
        intro fr H
        have e1 := Option.some.inj hm
        subst e1
        exact at_nil ⟨H.less _ (fun fr => by kernel_rfl), A⟩
      ·clear A
       intro t fr h3 hK
       obtain ⟨H, A⟩ := hK
       refine at_nil ?_
       show AW cfg 105 g (right (left (right (left (left (right (right (left (left (right (left (right (right (right (bodyC cfg.P 105))))))))))))))) fr h3 _
       rcases iteB_some hm with ⟨hb, hm⟩ | ⟨hb, hm⟩
       ·replace H := H.know 42 hb (by kernel_rfl)
        refine aw_true (x := .tmp 42) (by kernel_rfl) H (fun fr => by kernel_rfl) ?_
        refine aw_seq (by kernel_rfl) ?_
        refine aw_reg (id := 8) (n := 2) [(0, []), (1, [])] (by kernel_rfl) (by kernel_rfl) ?_
        refine at_seg [(0, []), (1, [])] [(6, .int .i64 (0 : Int)), (7, .bool false)] H (noU_all rfl) (fun fr => by kernel_rfl) ?_
        intro fr H
        refine at_nil ?_
        show AW cfg 105 g (right (left (right (left (right (left (left (right (right (left (left (right (left (right (right (right (bodyC cfg.P 105))))))))))))))))) fr h3 _
        refine aw_ret (by kernel_rfl) ?_
        exact Exists.intro _ (And.intro (Option.some.inj hm).symm (fun e => Or.inr (Or.inl ⟨(0 : Int), false, rfl, e, H.less _ (fun fr => by kernel_rfl), A⟩)))
       ·replace H := H.know 42 hb (by kernel_rfl)
        refine aw_false (x := .tmp 42) (by kernel_rfl) H (fun fr => by kernel_rfl) ?_
        refine aw_skip (by kernel_rfl) ?_
        show AW cfg 105 g (right (right (left (left (right (right (left (left (right (left (right (right (right (bodyC cfg.P 105)))))))))))))) fr h3 _
        refine aw_reg (id := 9) (n := 9) [(0, []), (1, []), (2, []), (3, []), (4, []), (5, []), (6, []), (7, []), (8, [])] (by kernel_rfl) (by kernel_rfl) ?_
        refine at_seg [(0, []), (1, []), (2, []), (3, [])] [(0, .str p0), (1, .int .i64 p1), (2, .int .i64 p2), (29, .int .i64 (p0.length : Int)), (30, .int .i64 x4), (44, .int .i64 (IntKind.i64.wrap ((10 : Int) * x3))), (45, .str p0), (46, .int .i64 x4)] H (noU_all rfl) (fun fr => by kernel_rfl) ?_
        intro fr H
        obtain ⟨x11, hx, hm⟩ := bind_some hm
        refine at_step (v := .int .u8 x11) (h1 := h3) [(0, .str p0), (1, .int .i64 p1), (2, .int .i64 p2), (29, .int .i64 (p0.length : Int)), (30, .int .i64 x4), (44, .int .i64 (IntKind.i64.wrap ((10 : Int) * x3))), (47, .int .u8 x11)] H (fun fr => by kernel_rfl) (fun fr => .of (s_ixS (by kernel_rfl) hx)) ?_
        intro fr t H
        refine at_seg [(5, []), (6, []), (7, []), (8, [])] [(0, .str p0), (1, .int .i64 p1), (2, .int .i64 p2), (8, .int .i64 (IntKind.i64.wrap ((IntKind.i64.wrap ((10 : Int) * x3)) + (IntKind.i64.wrap (IntKind.u8.wrap (x11 - (48 : Int))))))), (29, .int .i64 (p0.length : Int)), (30, .int .i64 x4)] H (noU_all rfl) (fun fr => by kernel_rfl) ?_
        intro fr H
        refine at_nil ?_
        show AW cfg 105 g (right (right (right (left (left (right (left (right (right (right (bodyC cfg.P 105))))))))))) fr h3 _
        refine aw_reg (id := 10) (n := 2) [(0, []), (1, [])] (by kernel_rfl) (by kernel_rfl) ?_
        refine at_seg [(0, []), (1, [])] [(0, .str p0), (1, .int .i64 p1), (2, .int .i64 p2), (8, .int .i64 (IntKind.i64.wrap ((IntKind.i64.wrap ((10 : Int) * x3)) + (IntKind.i64.wrap (IntKind.u8.wrap (x11 - (48 : Int))))))), (29, .int .i64 (p0.length : Int)), (30, .int .i64 (IntKind.i64.wrap (x4 + (1 : Int))))] H (noU_all rfl) (fun fr => by kernel_rfl) ?_
        intro fr H
        refine at_nil ?_
        exact Exists.intro (IntKind.i64.wrap ((IntKind.i64.wrap ((10 : Int) * x3)) + (IntKind.i64.wrap (IntKind.u8.wrap (x11 - (48 : Int))))), IntKind.i64.wrap (x4 + (1 : Int))) (And.intro (Option.some.inj hm).symm ⟨IntKind.i64.wrap ((IntKind.i64.wrap ((10 : Int) * x3)) + (IntKind.i64.wrap (IntKind.u8.wrap (x11 - (48 : Int))))), IntKind.i64.wrap (x4 + (1 : Int)), rfl, H.less _ (fun fr => by kernel_rfl), A⟩)
     ·replace H := H.know 31 hb (by kernel_rfl)
      refine aw_false (x := .tmp 31) (by kernel_rfl) H (fun fr => by kernel_rfl) ?_
      refine aw_exit (i := 0) (by kernel_rfl) ?_
      exact Exists.intro _ (And.intro (Option.some.inj hm).symm (fun e => Or.inl ⟨x3, rfl, e, H.less _ (fun fr => by kernel_rfl), A⟩))
    ·clear ho
     clear A
     intro e fr h4 hQ
     rcases hQ with ⟨x5, rfl, rfl, H, A⟩ | ⟨x6, x7, rfl, rfl, H, A⟩ | hF
     ·skip
      show AW cfg 105 g (right (right (right (right (bodyC cfg.P 105))))) fr h4 _
      refine aw_seq (by kernel_rfl) ?_
      refine aw_reg (id := 11) (n := 11) [(0, []), (1, []), (2, []), (3, []), (4, []), (5, []), (6, []), (7, []), (8, []), (9, []), (10, [])] (by kernel_rfl) (by kernel_rfl) ?_
      refine at_seg [(0, []), (1, []), (2, []), (3, []), (4, [])] [(2, .int .i64 p2), (8, .int .i64 x5), (52, .int .i64 x5), (56, .bool (decide (x5 ≥ p1)))] H (noU_all rfl) (fun fr => by kernel_rfl) ?_
      intro fr H
      refine at_cut [(5, []), (6, []), (7, []), (8, [])] (fun fr' h' => h4 = h' ∧ Has fr' 61 [(52, .int .i64 x5), (60, .bool ((decide (x5 ≥ p1)) && (decide (x5 ≤ p2))))]) ?_ ?_
      ·cases hb : (decide (x5 ≥ p1) : Bool) with
       | true =>
        replace H := H.know 56 hb (by kernel_rfl)
        refine at_seg [(5, []), (6, []), (7, []), (8, [])] [(52, .int .i64 x5), (60, .bool (decide (x5 ≤ p2)))] H (noU_all rfl) (fun fr => by kernel_rfl) ?_
        intro fr H
        exact at_nil ⟨rfl, by first | exact H.less _ (fun fr => by rfl) | exact H.less _ (fun fr => by rw [hb]; rfl)⟩
       | false =>
        replace H := H.know 56 hb (by kernel_rfl)
        refine at_seg [(5, []), (6, []), (7, []), (8, [])] [(52, .int .i64 x5), (60, .bool false)] H (noU_all rfl) (fun fr => by kernel_rfl) ?_
        intro fr H
        exact at_nil ⟨rfl, by first | exact H.less _ (fun fr => by rfl) | exact H.less _ (fun fr => by rw [hb]; rfl)⟩
      ·intro t fr h' hK
       obtain ⟨e, H⟩ := hK
       subst e
       refine at_seg [(9, []), (10, [])] [(6, .int .i64 x5), (7, .bool ((decide (x5 ≥ p1)) && (decide (x5 ≤ p2))))] H (noU_all rfl) (fun fr => by kernel_rfl) ?_
       intro fr H
       refine at_nil ?_
       show AW cfg 105 g (right (right (right (right (right (bodyC cfg.P 105)))))) fr h4 _
       refine aw_ret (by kernel_rfl) ?_
       have e0 := Option.some.inj hm
       obtain ⟨y0, z0⟩ := Prod.mk.inj e0
       subst y0
       subst z0
       refine ⟨.inl rfl, .tuple [.int .i64 x5, .bool ((decide (x5 ≥ p1)) && (decide (x5 ≤ p2)))], resH H (fun fr => by kernel_rfl), ?_⟩
       exact ⟨rfl, A⟩
     ·skip
      have e0 := Option.some.inj hm
      obtain ⟨y0, z0⟩ := Prod.mk.inj e0
      subst y0
      subst z0
      refine ⟨.inl rfl, .tuple [.int .i64 x6, .bool x7], resH H (fun fr => by kernel_rfl), ?_⟩
      exact ⟨rfl, A⟩
     ·exact hF.elim
/-! ### internal/stringslite.IndexByte -/
noncomputable def M_stringslite_IndexByte (p0 : List UInt8) (p1 : Int) : Option (Int) :=
 (X_IndexByte p0 p1).bind fun x1 => some x1
theorem ok_stringslite_IndexByte {g : Gd} {h : AHeap} {F : List Ck} {p0 : List UInt8} {p1 : Int} {q0 : Int} {av : List AVal} (hm : M_stringslite_IndexByte p0 p1 = some q0) (hc : canL (cfg.still 51) av = [.str p0, .int .u8 p1]) (A : HH g h [] F) : ∃ v h', Runs cfg g h 51 av v h' ∧ v = .int .i64 q0 ∧ HH g h' [] F := by
 refine runsQ1 (n := 8) (rs := [.tmp 4]) (by kernel_rfl) hc (by kernel_rfl) ?_
 clear hc
 unfold M_stringslite_IndexByte at hm
 refine start (n := 8) [(0, .str p0), (1, .int .u8 p1)] (by kernel_rfl) (by kernel_rfl) ?_
 intro fr H
 refine aw_seq (by kernel_rfl) ?_
 refine aw_reg (id := 0) (n := 1) [(0, [])] (by kernel_rfl) (by kernel_rfl) ?_
 refine at_seg [(0, [])] [(0, .str p0), (1, .int .u8 p1)] H (noU_all rfl) (fun fr => by kernel_rfl) ?_
 intro fr H
 refine at_nil ?_
 show AW cfg 51 g (right (bodyC cfg.P 51)) fr h _
 refine aw_seq (by kernel_rfl) ?_
 refine aw_reg (id := 1) (n := 4) [(0, []), (1, []), (2, []), (3, [])] (by kernel_rfl) (by kernel_rfl) ?_
 refine at_seg [(0, []), (1, [])] [(5, .str p0), (6, .int .u8 p1)] H (noU_all rfl) (fun fr => by kernel_rfl) ?_
 intro fr H
 obtain ⟨x1, hx, hm⟩ := bind_some hm
 refine at_step (v := .int .i64 x1) (h1 := h) [(7, .int .i64 x1)] H (fun fr => by kernel_rfl) (fun fr => Steps.call (by kernel_rfl) (runsIdx (C := cfg) (f := 102) (by kernel_rfl) (l := exts) rfl (by kernel_rfl) hx)) ?_
 intro fr t H
 refine at_seg [(3, [])] [(4, .int .i64 x1)] H (noU_all rfl) (fun fr => by kernel_rfl) ?_
 intro fr H
 refine at_nil ?_
 show AW cfg 51 g (right (right (bodyC cfg.P 51))) fr h _
 refine aw_ret (by kernel_rfl) ?_
 have e1 := Option.some.inj hm
 subst e1
 refine ⟨.inl rfl, .int .i64 x1, resH H (fun fr => by kernel_rfl), ?_⟩
 exact ⟨rfl, A⟩
end Go.Av.L
