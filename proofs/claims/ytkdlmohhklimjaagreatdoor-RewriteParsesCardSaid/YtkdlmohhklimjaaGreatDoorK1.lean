/-
 Models of functions, and that the abstract run tells them. Written by lift2.py.
-/
import Derived.Test.YtkdlmohhklimjaaGreatDoorKCfg
import Derived.Test.YtkdlmohhklimjaaGreatDoorK0
namespace Go.Av.L
open Go.Av Go.Lib
set_option maxRecDepth 10000
set_option linter.unusedVariables false
set_option linter.unusedSimpArgs false
/-! ### (*boulter/rewrite.Expr).flags -/
noncomputable def M_rewrite_Expr_flags_L1 (p1 : List UInt8) (s : Int) : Option ((Int) ⊕ ((Int))) :=
 match s with
 | x42 => (iteB (decide (x42 < (p1.length : Int))) ((ixS p1 x42).bind fun x45 => some (decide (x45 ≥ (48 : Int)))) (some false) : Option (Bool)).bind fun x44 => (iteB x44 ((ixS p1 x42).bind fun x47 => some (decide (x47 ≤ (57 : Int)))) (some false) : Option (Bool)).bind fun x46 => iteB x46 (some (.inl (IntKind.i64.wrap (x42 + (1 : Int))))) (some (.inr x42))
noncomputable def M_rewrite_Expr_flags_L0 (p1 : List UInt8) (s : (List (Int × Bool)) × Bool × Bool × Bool × Int × Bool × Bool × Bool × Int) : Option (((List (Int × Bool)) × Bool × Bool × Bool × Int × Bool × Bool × Bool × Int) ⊕ (((List (Int × Bool)) × Bool × Bool × Bool × Int × Bool × Bool × Bool) ⊕ ((List (Int × Bool)) × Bool × Bool × Bool × Int × Bool × Bool × Bool × Int))) :=
 match s with
 | (x1, x2, x3, x4, x5, x6, x7, x8, x9) => iteB (decide (x9 < (p1.length : Int))) ((ixS p1 x9).bind fun x27 => (iteB (x27 == (103 : Int)) (some (.inl (true, x3, x4, x5, x6, x7, x8, IntKind.i64.wrap (x9 + (1 : Int)), bOr .u8 x27 (32 : Int)))) (iteB (x27 == (105 : Int)) (some (.inl (x2, true, x4, x5, x6, x7, x8, IntKind.i64.wrap (x9 + (1 : Int)), bOr .u8 x27 (32 : Int)))) (iteB (x27 == (120 : Int)) (some (.inl (x2, x3, true, x5, x6, x7, x8, IntKind.i64.wrap (x9 + (1 : Int)), bOr .u8 x27 (32 : Int)))) ((iteB (x27 == (114 : Int)) (some true) (some (x27 == (82 : Int))) : Option ((Bool))).bind fun x38 => iteB x38 (some (.inl (x2, x3, x4, x5, x27 == (114 : Int), x7, x8, IntKind.i64.wrap (x9 + (1 : Int)), bOr .u8 x27 (32 : Int)))) ((iteB (x27 == (115 : Int)) (some true) (some (x27 == (83 : Int))) : Option ((Bool))).bind fun x39 => iteB x39 (some (.inl (x2, x3, x4, x5, x6, x27 == (115 : Int), x8, IntKind.i64.wrap (x9 + (1 : Int)), bOr .u8 x27 (32 : Int)))) ((iteB (x27 == (104 : Int)) (some true) (some (x27 == (72 : Int))) : Option ((Bool))).bind fun x40 => iteB x40 (some (.inl (x2, x3, x4, x5, x6, x7, x27 == (104 : Int), IntKind.i64.wrap (x9 + (1 : Int)), bOr .u8 x27 (32 : Int)))) ((iteB (x27 == (49 : Int)) (some true) (iteB (x27 == (50 : Int)) (some true) (iteB (x27 == (51 : Int)) (some true) (iteB (x27 == (52 : Int)) (some true) (iteB (x27 == (53 : Int)) (some true) (iteB (x27 == (54 : Int)) (some true) (iteB (x27 == (55 : Int)) (some true) (iteB (x27 == (56 : Int)) (some true) (some (x27 == (57 : Int)))))))))) : Option ((Bool))).bind fun x41 => iteB x41 ((loop (M_rewrite_Expr_flags_L1 p1) (IntKind.i64.wrap (x9 + (1 : Int)))).bind fun x43 => iteB (decide ((IntKind.i64.wrap (x43 - x9)) > (4 : Int))) (some (.inr x9)) ((subS p1 (some x9) (some x43)).bind fun x48 => (M_strconv_Atoi x48).bind fun x49 => some (.inl (x2, x3, x4, x49, x6, x7, x8, x43, (49 : Int))))) (some (.inr x9)))))))) : Option ((Bool × Bool × Bool × Int × Bool × Bool × Bool × Int × Int) ⊕ (Int))).bind fun o2 => (match o2 with | .inl (x28, x29, x30, x31, x32, x33, x34, x35, x36) => iteB ((mfind x1 x36).getD false) (some (.inr (.inr (x1, x28, x29, x30, x31, x32, x33, x34, x9)))) (some (.inl ((mput x1 x36 true), x28, x29, x30, x31, x32, x33, x34, x35))) | .inr x37 => some (.inr (.inr (x1, x2, x3, x4, x5, x6, x7, x8, x37))))) (some (.inr (.inl (x1, x2, x3, x4, x5, x6, x7, x8))))
noncomputable def M_rewrite_Expr_flags (p0 : S_rewrite_Expr) (p1 : List UInt8) (p2 : Int) : Option (Int × S_rewrite_Expr) :=
 (loop (M_rewrite_Expr_flags_L0 p1) (([] : List (Int × Bool)), p0.Global, p0.Fold, p0.Extended, p0.Number, p0.Names, p0.Soft, p0.Hard, p2)).bind fun o1 => (match o1 with | .inl (x10, x11, x12, x13, x14, x15, x16, x17) => some ((-1 : Int), (⟨p0.Re, p0.Template, x11, x12, x13, x14, x15, x16, x17⟩ : S_rewrite_Expr)) | .inr (x18, x19, x20, x21, x22, x23, x24, x25, x26) => some (x26, (⟨p0.Re, p0.Template, x19, x20, x21, x22, x23, x24, x25⟩ : S_rewrite_Expr)))
theorem ok_rewrite_Expr_flags {g : Gd} {h : AHeap} {F : List Ck} {p0 : S_rewrite_Expr} {p1 : List UInt8} {p2 : Int} {bp0 : Nat} {q0 : Int} {u0 : S_rewrite_Expr} {av : List AVal} (hm : M_rewrite_Expr_flags p0 p1 p2 = some (q0, u0)) (hc : canL (cfg.still 24) av = [.ptr (some (bp0, 0)), .str p1, .int .i64 p2]) (A : HH g h [.obj bp0 (.cells none 2 (e_S_rewrite_Expr p0))] F) : ∃ v h', Runs cfg g h 24 av v h' ∧ v = .int .i64 q0 ∧ HH g h' [.obj bp0 (.cells none 2 [.str u0.Re, .str u0.Template, .bool u0.Global, .bool u0.Fold, .bool u0.Extended, .int .i64 u0.Number, .bool u0.Names, .bool u0.Soft, .bool u0.Hard])] F := by
 refine runsQ1 (n := 115) (rs := [.tmp 6]) (by kernel_rfl) hc (by kernel_rfl) ?_
 clear hc
 unfold M_rewrite_Expr_flags at hm
 refine start (n := 115) [(0, .ptr (some (bp0, 0))), (1, .str p1), (2, .int .i64 p2)] (by kernel_rfl) (by kernel_rfl) ?_
 intro fr H
 refine aw_seq (by kernel_rfl) ?_
 refine aw_reg (id := 0) (n := 1) [(0, [])] (by kernel_rfl) (by kernel_rfl) ?_
 refine at_seg [(0, [])] [(0, .ptr (some (bp0, 0))), (1, .str p1), (2, .int .i64 p2)] H (noU_all rfl) (fun fr => by kernel_rfl) ?_
 intro fr H
 refine at_nil ?_
 show AW cfg 24 g (right (bodyC cfg.P 24)) fr h _
 refine aw_seq (by kernel_rfl) ?_
 refine aw_reg (id := 1) (n := 2) [(0, []), (1, [])] (by kernel_rfl) (by kernel_rfl) ?_
 obtain ⟨h1, e1⟩ : ∃ x, x = h.push (.map 2 []) := ⟨_, rfl⟩
 replace A : HH g h1 [.obj h.size (.map 2 (encM (fun k : Int => .int .u8 k) (fun v : Bool => .bool v) ([] : List (Int × Bool)))), .obj bp0 (.cells none 2 (e_S_rewrite_Expr p0))] F := (A.push _).to e1
 refine at_step (v := .map (some h.size)) (h1 := h1) [(0, .ptr (some (bp0, 0))), (1, .str p1), (2, .int .i64 p2), (11, .map (some h.size))] H (fun fr => by kernel_rfl) (fun fr => .of (s_n' (by kernel_rfl) (congrArg some e1.symm))) ?_
 intro fr t H
 refine at_seg [(1, [])] [(0, .ptr (some (bp0, 0))), (1, .str p1), (2, .int .i64 p2), (7, .map (some h.size))] H (noU_all rfl) (fun fr => by kernel_rfl) ?_
 intro fr H
 refine at_nil ?_
 show AW cfg 24 g (right (right (bodyC cfg.P 24))) fr h1 _
 refine aw_seq (by kernel_rfl) ?_
 refine aw_block (id := 0) (by kernel_rfl) ?_
 obtain ⟨o1, ho, hm⟩ := bind_some hm
 refine aw_mono (Q' := fun e fr' h' => (∃ (x10 : List (Int × Bool)) (x11 : Bool) (x12 : Bool) (x13 : Bool) (x14 : Int) (x15 : Bool) (x16 : Bool) (x17 : Bool), e = .exit 0 ∧ .inl (x10, x11, x12, x13, x14, x15, x16, x17) = o1 ∧ Has fr' 115 [] ∧ HH g h' [.obj h.size (.map 2 (encM (fun k : Int => .int .u8 k) (fun v : Bool => .bool v) x10)), .obj bp0 (.cells none 2 [.str p0.Re, .str p0.Template, .bool x11, .bool x12, .bool x13, .int .i64 x14, .bool x15, .bool x16, .bool x17])] F) ∨ (∃ (x18 : List (Int × Bool)) (x19 : Bool) (x20 : Bool) (x21 : Bool) (x22 : Int) (x23 : Bool) (x24 : Bool) (x25 : Bool) (x26 : Int), e = .ret ∧ .inr (x18, x19, x20, x21, x22, x23, x24, x25, x26) = o1 ∧ Has fr' 115 [(6, .int .i64 x26)] ∧ HH g h' [.obj h.size (.map 2 (encM (fun k : Int => .int .u8 k) (fun v : Bool => .bool v) x18)), .obj bp0 (.cells none 2 [.str p0.Re, .str p0.Template, .bool x19, .bool x20, .bool x21, .int .i64 x22, .bool x23, .bool x24, .bool x25])] F) ∨ False) ?_ ?_
 ·refine aw_loop (by kernel_rfl) (fun (s : (List (Int × Bool)) × Bool × Bool × Bool × Int × Bool × Bool × Bool × Int) fr' h' => ∃ (x1 : List (Int × Bool)) (x2 : Bool) (x3 : Bool) (x4 : Bool) (x5 : Int) (x6 : Bool) (x7 : Bool) (x8 : Bool) (x9 : Int), (x1, x2, x3, x4, x5, x6, x7, x8, x9) = s ∧ Has fr' 115 [(0, .ptr (some (bp0, 0))), (1, .str p1), (2, .int .i64 x9), (7, .map (some h.size))] ∧ HH g h' [.obj h.size (.map 2 (encM (fun k : Int => .int .u8 k) (fun v : Bool => .bool v) x1)), .obj bp0 (.cells none 2 [.str p0.Re, .str p0.Template, .bool x2, .bool x3, .bool x4, .int .i64 x5, .bool x6, .bool x7, .bool x8])] F) ho ⟨([] : List (Int × Bool)), p0.Global, p0.Fold, p0.Extended, p0.Number, p0.Names, p0.Soft, p0.Hard, p2, rfl, H.less _ (fun fr => by kernel_rfl), A⟩ ?_
  clear ho hm H A
  intro s q fr h2 hI hm
  obtain ⟨x1, x2, x3, x4, x5, x6, x7, x8, x9, rfl, H, A⟩ := hI
  unfold M_rewrite_Expr_flags_L0 at hm
  refine aw_seq (by kernel_rfl) ?_
  refine aw_seq (by kernel_rfl) ?_
  refine aw_reg (id := 2) (n := 4) [(0, []), (1, []), (2, []), (3, [])] (by kernel_rfl) (by kernel_rfl) ?_
  refine at_seg [(0, []), (1, []), (2, []), (3, [])] [(0, .ptr (some (bp0, 0))), (1, .str p1), (2, .int .i64 x9), (7, .map (some h.size)), (15, .bool (decide (x9 < (p1.length : Int))))] H (noU_all rfl) (fun fr => by kernel_rfl) ?_
  intro fr H
  refine at_nil ?_
  show AW cfg 24 g (right (left (left (left (left (right (right (bodyC cfg.P 24)))))))) fr h2 _
  rcases iteB_some hm with ⟨hb, hm⟩ | ⟨hb, hm⟩
  ·replace H := H.know 15 hb (by kernel_rfl)
   refine aw_true (x := .tmp 15) (by kernel_rfl) H (fun fr => by kernel_rfl) ?_
   refine aw_skip (by kernel_rfl) ?_
   show AW cfg 24 g (right (left (left (left (right (right (bodyC cfg.P 24))))))) fr h2 _
   refine aw_block (id := 1) (by kernel_rfl) ?_
   refine aw_seq (by kernel_rfl) ?_
   refine aw_reg (id := 3) (n := 2) [(0, []), (1, [])] (by kernel_rfl) (by kernel_rfl) ?_
   refine at_seg [(0, []), (1, [])] [(0, .ptr (some (bp0, 0))), (1, .str p1), (2, .int .i64 x9), (7, .map (some h.size)), (8, .int .i64 x9)] H (noU_all rfl) (fun fr => by kernel_rfl) ?_
   intro fr H
   refine at_nil ?_
   show AW cfg 24 g (right (left (right (left (left (left (right (right (bodyC cfg.P 24))))))))) fr h2 _
   refine aw_seq (by kernel_rfl) ?_
   refine aw_reg (id := 4) (n := 4) [(0, []), (1, []), (2, []), (3, [])] (by kernel_rfl) (by kernel_rfl) ?_
   refine at_seg [(0, []), (1, [])] [(0, .ptr (some (bp0, 0))), (1, .str p1), (2, .int .i64 x9), (7, .map (some h.size)), (8, .int .i64 x9), (17, .str p1), (18, .int .i64 x9)] H (noU_all rfl) (fun fr => by kernel_rfl) ?_
   intro fr H
   obtain ⟨x27, hx, hm⟩ := bind_some hm
   refine at_step (v := .int .u8 x27) (h1 := h2) [(0, .ptr (some (bp0, 0))), (1, .str p1), (2, .int .i64 x9), (7, .map (some h.size)), (8, .int .i64 x9), (19, .int .u8 x27)] H (fun fr => by kernel_rfl) (fun fr => .of (s_ixS (by kernel_rfl) hx)) ?_
   intro fr t H
   refine at_seg [(3, [])] [(0, .ptr (some (bp0, 0))), (1, .str p1), (2, .int .i64 x9), (7, .map (some h.size)), (8, .int .i64 x9), (9, .int .u8 x27)] H (noU_all rfl) (fun fr => by kernel_rfl) ?_
   intro fr H
   refine at_nil ?_
   show AW cfg 24 g (right (right (left (right (left (left (left (right (right (bodyC cfg.P 24)))))))))) fr h2 _
   refine aw_seq (by kernel_rfl) ?_
   refine aw_reg (id := 5) (n := 3) [(0, []), (1, []), (2, [])] (by kernel_rfl) (by kernel_rfl) ?_
   refine at_seg [(0, []), (1, []), (2, [])] [(0, .ptr (some (bp0, 0))), (1, .str p1), (2, .int .i64 (IntKind.i64.wrap (x9 + (1 : Int)))), (7, .map (some h.size)), (8, .int .i64 x9), (9, .int .u8 x27)] H (noU_all rfl) (fun fr => by kernel_rfl) ?_
   intro fr H
   refine at_nil ?_
   show AW cfg 24 g (right (right (right (left (right (left (left (left (right (right (bodyC cfg.P 24))))))))))) fr h2 _
   refine aw_seq (by kernel_rfl) ?_
   refine aw_reg (id := 6) (n := 3) [(0, []), (1, []), (2, [])] (by kernel_rfl) (by kernel_rfl) ?_
   refine at_seg [(0, []), (1, []), (2, [])] [(0, .ptr (some (bp0, 0))), (1, .str p1), (2, .int .i64 (IntKind.i64.wrap (x9 + (1 : Int)))), (7, .map (some h.size)), (8, .int .i64 x9), (9, .int .u8 x27), (10, .int .u8 (bOr .u8 x27 (32 : Int)))] H (noU_all rfl) (fun fr => by kernel_rfl) ?_
   intro fr H
   refine at_nil ?_
   show AW cfg 24 g (right (right (right (right (left (right (left (left (left (right (right (bodyC cfg.P 24)))))))))))) fr h2 _
   refine aw_seq (by kernel_rfl) ?_
   obtain ⟨o2, ho, hm⟩ := bind_some hm
   refine aw_mono (Q' := fun e fr' h' => (∃ (x28 : Bool) (x29 : Bool) (x30 : Bool) (x31 : Int) (x32 : Bool) (x33 : Bool) (x34 : Bool) (x35 : Int) (x36 : Int), e = .normal ∧ .inl (x28, x29, x30, x31, x32, x33, x34, x35, x36) = o2 ∧ Has fr' 115 [(0, .ptr (some (bp0, 0))), (1, .str p1), (2, .int .i64 x35), (7, .map (some h.size)), (8, .int .i64 x9), (10, .int .u8 x36)] ∧ HH g h' [.obj h.size (.map 2 (encM (fun k : Int => .int .u8 k) (fun v : Bool => .bool v) x1)), .obj bp0 (.cells none 2 [.str p0.Re, .str p0.Template, .bool x28, .bool x29, .bool x30, .int .i64 x31, .bool x32, .bool x33, .bool x34])] F) ∨ (∃ (x37 : Int), e = .ret ∧ .inr x37 = o2 ∧ Has fr' 115 [(6, .int .i64 x37)] ∧ HH g h' [.obj h.size (.map 2 (encM (fun k : Int => .int .u8 k) (fun v : Bool => .bool v) x1)), .obj bp0 (.cells none 2 [.str p0.Re, .str p0.Template, .bool x2, .bool x3, .bool x4, .int .i64 x5, .bool x6, .bool x7, .bool x8])] F) ∨ False) ?_ ?_
   ·replace hm := ho
    clear ho
    refine aw_seq (by kernel_rfl) ?_
    refine aw_reg (id := 7) (n := 1) [(0, [])] (by kernel_rfl) (by kernel_rfl) ?_
    refine at_seg [(0, [])] [(0, .ptr (some (bp0, 0))), (1, .str p1), (2, .int .i64 (IntKind.i64.wrap (x9 + (1 : Int)))), (7, .map (some h.size)), (8, .int .i64 x9), (9, .int .u8 x27), (10, .int .u8 (bOr .u8 x27 (32 : Int))), (24, .int .u8 x27)] H (noU_all rfl) (fun fr => by kernel_rfl) ?_
    intro fr H
    refine at_nil ?_
    show AW cfg 24 g (right (left (right (right (right (right (left (right (left (left (left (right (right (bodyC cfg.P 24)))))))))))))) fr h2 _
    refine aw_block (id := 2) (by kernel_rfl) ?_
    refine aw_seq (by kernel_rfl) ?_
    refine aw_reg (id := 9) (n := 2) [(0, []), (1, [])] (by kernel_rfl) (by kernel_rfl) ?_
    refine at_seg [(0, []), (1, [])] [(0, .ptr (some (bp0, 0))), (1, .str p1), (2, .int .i64 (IntKind.i64.wrap (x9 + (1 : Int)))), (7, .map (some h.size)), (8, .int .i64 x9), (9, .int .u8 x27), (10, .int .u8 (bOr .u8 x27 (32 : Int))), (24, .int .u8 x27), (26, .bool (x27 == (103 : Int)))] H (noU_all rfl) (fun fr => by kernel_rfl) ?_
    intro fr H
    refine at_nil ?_
    show AW cfg 24 g (right (left (right (left (right (right (right (right (left (right (left (left (left (right (right (bodyC cfg.P 24)))))))))))))))) fr h2 _
    rcases iteB_some hm with ⟨hb, hm⟩ | ⟨hb, hm⟩
    ·replace H := H.know 26 hb (by kernel_rfl)
     refine aw_true (x := .tmp 26) (by kernel_rfl) H (fun fr => by kernel_rfl) ?_
     refine aw_reg (id := 10) (n := 4) [(0, []), (1, []), (2, []), (3, [])] (by kernel_rfl) (by kernel_rfl) ?_
     refine at_seg [(0, []), (1, []), (2, [])] [(0, .ptr (some (bp0, 0))), (1, .str p1), (2, .int .i64 (IntKind.i64.wrap (x9 + (1 : Int)))), (7, .map (some h.size)), (8, .int .i64 x9), (10, .int .u8 (bOr .u8 x27 (32 : Int))), (30, .ptr (some (bp0, 2)))] H (noU_all rfl) (fun fr => by kernel_rfl) ?_
     intro fr H
     obtain ⟨h3, hx, A1⟩ := A.st 1 rfl (o := 2) (new := [.bool true]) (ds := [.str p0.Re, .str p0.Template, .bool true, .bool x3, .bool x4, .int .i64 x5, .bool x6, .bool x7, .bool x8]) (Nat.le_of_ble_eq_true rfl) rfl rfl
     replace A : HH g h3 [.obj h.size (.map 2 (encM (fun k : Int => .int .u8 k) (fun v : Bool => .bool v) x1)), .obj bp0 (.cells none 2 [.str p0.Re, .str p0.Template, .bool true, .bool x3, .bool x4, .int .i64 x5, .bool x6, .bool x7, .bool x8])] F := A1
     refine at_step (v := .tuple []) (h1 := h3) [(0, .ptr (some (bp0, 0))), (1, .str p1), (2, .int .i64 (IntKind.i64.wrap (x9 + (1 : Int)))), (7, .map (some h.size)), (8, .int .i64 x9), (10, .int .u8 (bOr .u8 x27 (32 : Int)))] H (fun fr => by kernel_rfl) (fun fr => .of (s_st (by kernel_rfl) rfl hx)) ?_
     intro fr t H
     refine at_nil ?_
     exact Or.inl ⟨true, x3, x4, x5, x6, x7, x8, IntKind.i64.wrap (x9 + (1 : Int)), bOr .u8 x27 (32 : Int), rfl, Option.some.inj hm, H.less _ (fun fr => by kernel_rfl), A⟩
    ·replace H := H.know 26 hb (by kernel_rfl)
     refine aw_false (x := .tmp 26) (by kernel_rfl) H (fun fr => by kernel_rfl) ?_
     refine aw_seq (by kernel_rfl) ?_
     refine aw_reg (id := 11) (n := 2) [(0, []), (1, [])] (by kernel_rfl) (by kernel_rfl) ?_
     refine at_seg [(0, []), (1, [])] [(0, .ptr (some (bp0, 0))), (1, .str p1), (2, .int .i64 (IntKind.i64.wrap (x9 + (1 : Int)))), (7, .map (some h.size)), (8, .int .i64 x9), (9, .int .u8 x27), (10, .int .u8 (bOr .u8 x27 (32 : Int))), (24, .int .u8 x27), (31, .bool (x27 == (105 : Int)))] H (noU_all rfl) (fun fr => by kernel_rfl) ?_
     intro fr H
     refine at_nil ?_
     show AW cfg 24 g (right (right (right (left (right (left (right (right (right (right (left (right (left (left (left (right (right (bodyC cfg.P 24)))))))))))))))))) fr h2 _
     rcases iteB_some hm with ⟨hb, hm⟩ | ⟨hb, hm⟩
     ·replace H := H.know 31 hb (by kernel_rfl)
      refine aw_true (x := .tmp 31) (by kernel_rfl) H (fun fr => by kernel_rfl) ?_
      refine aw_reg (id := 12) (n := 4) [(0, []), (1, []), (2, []), (3, [])] (by kernel_rfl) (by kernel_rfl) ?_
      refine at_seg [(0, []), (1, []), (2, [])] [(0, .ptr (some (bp0, 0))), (1, .str p1), (2, .int .i64 (IntKind.i64.wrap (x9 + (1 : Int)))), (7, .map (some h.size)), (8, .int .i64 x9), (10, .int .u8 (bOr .u8 x27 (32 : Int))), (35, .ptr (some (bp0, 3)))] H (noU_all rfl) (fun fr => by kernel_rfl) ?_
      intro fr H
      obtain ⟨h4, hx, A1⟩ := A.st 1 rfl (o := 3) (new := [.bool true]) (ds := [.str p0.Re, .str p0.Template, .bool x2, .bool true, .bool x4, .int .i64 x5, .bool x6, .bool x7, .bool x8]) (Nat.le_of_ble_eq_true rfl) rfl rfl
      replace A : HH g h4 [.obj h.size (.map 2 (encM (fun k : Int => .int .u8 k) (fun v : Bool => .bool v) x1)), .obj bp0 (.cells none 2 [.str p0.Re, .str p0.Template, .bool x2, .bool true, .bool x4, .int .i64 x5, .bool x6, .bool x7, .bool x8])] F := A1
      refine at_step (v := .tuple []) (h1 := h4) [(0, .ptr (some (bp0, 0))), (1, .str p1), (2, .int .i64 (IntKind.i64.wrap (x9 + (1 : Int)))), (7, .map (some h.size)), (8, .int .i64 x9), (10, .int .u8 (bOr .u8 x27 (32 : Int)))] H (fun fr => by kernel_rfl) (fun fr => .of (s_st (by kernel_rfl) rfl hx)) ?_
      intro fr t H
      refine at_nil ?_
      exact Or.inl ⟨x2, true, x4, x5, x6, x7, x8, IntKind.i64.wrap (x9 + (1 : Int)), bOr .u8 x27 (32 : Int), rfl, Option.some.inj hm, H.less _ (fun fr => by kernel_rfl), A⟩
     ·replace H := H.know 31 hb (by kernel_rfl)
      refine aw_false (x := .tmp 31) (by kernel_rfl) H (fun fr => by kernel_rfl) ?_
      refine aw_seq (by kernel_rfl) ?_
      refine aw_reg (id := 13) (n := 2) [(0, []), (1, [])] (by kernel_rfl) (by kernel_rfl) ?_
      refine at_seg [(0, []), (1, [])] [(0, .ptr (some (bp0, 0))), (1, .str p1), (2, .int .i64 (IntKind.i64.wrap (x9 + (1 : Int)))), (7, .map (some h.size)), (8, .int .i64 x9), (9, .int .u8 x27), (10, .int .u8 (bOr .u8 x27 (32 : Int))), (24, .int .u8 x27), (36, .bool (x27 == (120 : Int)))] H (noU_all rfl) (fun fr => by kernel_rfl) ?_
      intro fr H
      refine at_nil ?_
      show AW cfg 24 g (right (right (right (right (right (left (right (left (right (right (right (right (left (right (left (left (left (right (right (bodyC cfg.P 24)))))))))))))))))))) fr h2 _
      rcases iteB_some hm with ⟨hb, hm⟩ | ⟨hb, hm⟩
      ·replace H := H.know 36 hb (by kernel_rfl)
       refine aw_true (x := .tmp 36) (by kernel_rfl) H (fun fr => by kernel_rfl) ?_
       refine aw_reg (id := 14) (n := 4) [(0, []), (1, []), (2, []), (3, [])] (by kernel_rfl) (by kernel_rfl) ?_
       refine at_seg [(0, []), (1, []), (2, [])] [(0, .ptr (some (bp0, 0))), (1, .str p1), (2, .int .i64 (IntKind.i64.wrap (x9 + (1 : Int)))), (7, .map (some h.size)), (8, .int .i64 x9), (10, .int .u8 (bOr .u8 x27 (32 : Int))), (40, .ptr (some (bp0, 4)))] H (noU_all rfl) (fun fr => by kernel_rfl) ?_
       intro fr H
       obtain ⟨h5, hx, A1⟩ := A.st 1 rfl (o := 4) (new := [.bool true]) (ds := [.str p0.Re, .str p0.Template, .bool x2, .bool x3, .bool true, .int .i64 x5, .bool x6, .bool x7, .bool x8]) (Nat.le_of_ble_eq_true rfl) rfl rfl
       replace A : HH g h5 [.obj h.size (.map 2 (encM (fun k : Int => .int .u8 k) (fun v : Bool => .bool v) x1)), .obj bp0 (.cells none 2 [.str p0.Re, .str p0.Template, .bool x2, .bool x3, .bool true, .int .i64 x5, .bool x6, .bool x7, .bool x8])] F := A1
       refine at_step (v := .tuple []) (h1 := h5) [(0, .ptr (some (bp0, 0))), (1, .str p1), (2, .int .i64 (IntKind.i64.wrap (x9 + (1 : Int)))), (7, .map (some h.size)), (8, .int .i64 x9), (10, .int .u8 (bOr .u8 x27 (32 : Int)))] H (fun fr => by kernel_rfl) (fun fr => .of (s_st (by kernel_rfl) rfl hx)) ?_
       intro fr t H
       refine at_nil ?_
       exact Or.inl ⟨x2, x3, true, x5, x6, x7, x8, IntKind.i64.wrap (x9 + (1 : Int)), bOr .u8 x27 (32 : Int), rfl, Option.some.inj hm, H.less _ (fun fr => by kernel_rfl), A⟩
      ·replace H := H.know 36 hb (by kernel_rfl)
       refine aw_false (x := .tmp 36) (by kernel_rfl) H (fun fr => by kernel_rfl) ?_
       refine aw_seq (by kernel_rfl) ?_
       obtain ⟨o3, ho, hm⟩ := bind_some hm
       refine aw_mono (Q' := fun e fr' h' => (∃ (x38 : Bool), e = .normal ∧ x38 = o3 ∧ Has fr' 115 [(0, .ptr (some (bp0, 0))), (1, .str p1), (2, .int .i64 (IntKind.i64.wrap (x9 + (1 : Int)))), (7, .map (some h.size)), (8, .int .i64 x9), (9, .int .u8 x27), (10, .int .u8 (bOr .u8 x27 (32 : Int))), (24, .int .u8 x27), (41, .bool x38)] ∧ HH g h' [.obj h.size (.map 2 (encM (fun k : Int => .int .u8 k) (fun v : Bool => .bool v) x1)), .obj bp0 (.cells none 2 [.str p0.Re, .str p0.Template, .bool x2, .bool x3, .bool x4, .int .i64 x5, .bool x6, .bool x7, .bool x8])] F) ∨ False) ?_ ?_
       ·replace hm := ho
        clear ho
        refine aw_seq (by kernel_rfl) ?_
        refine aw_reg (id := 15) (n := 2) [(0, []), (1, [])] (by kernel_rfl) (by kernel_rfl) ?_
        refine at_seg [(0, []), (1, [])] [(0, .ptr (some (bp0, 0))), (1, .str p1), (2, .int .i64 (IntKind.i64.wrap (x9 + (1 : Int)))), (7, .map (some h.size)), (8, .int .i64 x9), (9, .int .u8 x27), (10, .int .u8 (bOr .u8 x27 (32 : Int))), (24, .int .u8 x27), (41, .bool (x27 == (114 : Int)))] H (noU_all rfl) (fun fr => by kernel_rfl) ?_
        intro fr H
        refine at_nil ?_
        show AW cfg 24 g (right (left (right (right (right (right (right (right (left (right (left (right (right (right (right (left (right (left (left (left (right (right (bodyC cfg.P 24))))))))))))))))))))))) fr h2 _
        rcases iteB_some hm with ⟨hb, hm⟩ | ⟨hb, hm⟩
        ·replace H := H.know 41 hb (by kernel_rfl)
         refine aw_true (x := .tmp 41) (by kernel_rfl) H (fun fr => by kernel_rfl) ?_
         refine aw_skip (by kernel_rfl) ?_
         exact Or.inl ⟨true, rfl, Option.some.inj hm, H.less _ (fun fr => by kernel_rfl), A⟩
        ·replace H := H.know 41 hb (by kernel_rfl)
         refine aw_false (x := .tmp 41) (by kernel_rfl) H (fun fr => by kernel_rfl) ?_
         refine aw_reg (id := 16) (n := 2) [(0, []), (1, [])] (by kernel_rfl) (by kernel_rfl) ?_
         refine at_seg [(0, []), (1, [])] [(0, .ptr (some (bp0, 0))), (1, .str p1), (2, .int .i64 (IntKind.i64.wrap (x9 + (1 : Int)))), (7, .map (some h.size)), (8, .int .i64 x9), (9, .int .u8 x27), (10, .int .u8 (bOr .u8 x27 (32 : Int))), (24, .int .u8 x27), (41, .bool (x27 == (82 : Int)))] H (noU_all rfl) (fun fr => by kernel_rfl) ?_
         intro fr H
         refine at_nil ?_
         exact Or.inl ⟨x27 == (82 : Int), rfl, Option.some.inj hm, H.less _ (fun fr => by kernel_rfl), A⟩
       ·clear ho
        clear A
        intro e fr h6 hQ
        rcases hQ with ⟨x38, rfl, rfl, H, A⟩ | hF
        ·skip
         show AW cfg 24 g (right (right (right (right (right (right (right (left (right (left (right (right (right (right (left (right (left (left (left (right (right (bodyC cfg.P 24)))))))))))))))))))))) fr h6 _
         rcases iteB_some hm with ⟨hb, hm⟩ | ⟨hb, hm⟩
         ·replace H := H.know 41 hb (by kernel_rfl)
          refine aw_true (x := .tmp 41) (by kernel_rfl) H (fun fr => by kernel_rfl) ?_
          refine aw_reg (id := 17) (n := 6) [(0, []), (1, []), (2, []), (3, []), (4, []), (5, [])] (by kernel_rfl) (by kernel_rfl) ?_
          refine at_seg [(0, []), (1, []), (2, []), (3, []), (4, [])] [(0, .ptr (some (bp0, 0))), (1, .str p1), (2, .int .i64 (IntKind.i64.wrap (x9 + (1 : Int)))), (7, .map (some h.size)), (8, .int .i64 x9), (10, .int .u8 (bOr .u8 x27 (32 : Int))), (46, .bool (x27 == (114 : Int))), (48, .ptr (some (bp0, 6)))] H (noU_all rfl) (fun fr => by kernel_rfl) ?_
          intro fr H
          obtain ⟨h7, hx, A1⟩ := A.st 1 rfl (o := 6) (new := [.bool (x27 == (114 : Int))]) (ds := [.str p0.Re, .str p0.Template, .bool x2, .bool x3, .bool x4, .int .i64 x5, .bool (x27 == (114 : Int)), .bool x7, .bool x8]) (Nat.le_of_ble_eq_true rfl) rfl rfl
          replace A : HH g h7 [.obj h.size (.map 2 (encM (fun k : Int => .int .u8 k) (fun v : Bool => .bool v) x1)), .obj bp0 (.cells none 2 [.str p0.Re, .str p0.Template, .bool x2, .bool x3, .bool x4, .int .i64 x5, .bool (x27 == (114 : Int)), .bool x7, .bool x8])] F := A1
          refine at_step (v := .tuple []) (h1 := h7) [(0, .ptr (some (bp0, 0))), (1, .str p1), (2, .int .i64 (IntKind.i64.wrap (x9 + (1 : Int)))), (7, .map (some h.size)), (8, .int .i64 x9), (10, .int .u8 (bOr .u8 x27 (32 : Int)))] H (fun fr => by kernel_rfl) (fun fr => .of (s_st (by kernel_rfl) rfl hx)) ?_
          intro fr t H
          refine at_nil ?_
          exact Or.inl ⟨x2, x3, x4, x5, x27 == (114 : Int), x7, x8, IntKind.i64.wrap (x9 + (1 : Int)), bOr .u8 x27 (32 : Int), rfl, Option.some.inj hm, H.less _ (fun fr => by kernel_rfl), A⟩
         ·replace H := H.know 41 hb (by kernel_rfl)
          refine aw_false (x := .tmp 41) (by kernel_rfl) H (fun fr => by kernel_rfl) ?_
          refine aw_seq (by kernel_rfl) ?_
          obtain ⟨o4, ho, hm⟩ := bind_some hm
          refine aw_mono (Q' := fun e fr' h' => (∃ (x39 : Bool), e = .normal ∧ x39 = o4 ∧ Has fr' 115 [(0, .ptr (some (bp0, 0))), (1, .str p1), (2, .int .i64 (IntKind.i64.wrap (x9 + (1 : Int)))), (7, .map (some h.size)), (8, .int .i64 x9), (9, .int .u8 x27), (10, .int .u8 (bOr .u8 x27 (32 : Int))), (24, .int .u8 x27), (49, .bool x39)] ∧ HH g h' [.obj h.size (.map 2 (encM (fun k : Int => .int .u8 k) (fun v : Bool => .bool v) x1)), .obj bp0 (.cells none 2 [.str p0.Re, .str p0.Template, .bool x2, .bool x3, .bool x4, .int .i64 x5, .bool x6, .bool x7, .bool x8])] F) ∨ False) ?_ ?_
          ·replace hm := ho
           clear ho
           refine aw_seq (by kernel_rfl) ?_
           refine aw_reg (id := 18) (n := 2) [(0, []), (1, [])] (by kernel_rfl) (by kernel_rfl) ?_
           refine at_seg [(0, []), (1, [])] [(0, .ptr (some (bp0, 0))), (1, .str p1), (2, .int .i64 (IntKind.i64.wrap (x9 + (1 : Int)))), (7, .map (some h.size)), (8, .int .i64 x9), (9, .int .u8 x27), (10, .int .u8 (bOr .u8 x27 (32 : Int))), (24, .int .u8 x27), (49, .bool (x27 == (115 : Int)))] H (noU_all rfl) (fun fr => by kernel_rfl) ?_
           intro fr H
           refine at_nil ?_
           show AW cfg 24 g (right (left (right (right (right (right (right (right (right (right (left (right (left (right (right (right (right (left (right (left (left (left (right (right (bodyC cfg.P 24))))))))))))))))))))))))) fr h6 _
           rcases iteB_some hm with ⟨hb, hm⟩ | ⟨hb, hm⟩
           ·replace H := H.know 49 hb (by kernel_rfl)
            refine aw_true (x := .tmp 49) (by kernel_rfl) H (fun fr => by kernel_rfl) ?_
            refine aw_skip (by kernel_rfl) ?_
            exact Or.inl ⟨true, rfl, Option.some.inj hm, H.less _ (fun fr => by kernel_rfl), A⟩
           ·replace H := H.know 49 hb (by kernel_rfl)
            refine aw_false (x := .tmp 49) (by kernel_rfl) H (fun fr => by kernel_rfl) ?_
            refine aw_reg (id := 19) (n := 2) [(0, []), (1, [])] (by kernel_rfl) (by kernel_rfl) ?_
            refine at_seg [(0, []), (1, [])] [(0, .ptr (some (bp0, 0))), (1, .str p1), (2, .int .i64 (IntKind.i64.wrap (x9 + (1 : Int)))), (7, .map (some h.size)), (8, .int .i64 x9), (9, .int .u8 x27), (10, .int .u8 (bOr .u8 x27 (32 : Int))), (24, .int .u8 x27), (49, .bool (x27 == (83 : Int)))] H (noU_all rfl) (fun fr => by kernel_rfl) ?_
            intro fr H
            refine at_nil ?_
            exact Or.inl ⟨x27 == (83 : Int), rfl, Option.some.inj hm, H.less _ (fun fr => by kernel_rfl), A⟩
          ·clear ho
           clear A
           intro e fr h8 hQ
           rcases hQ with ⟨x39, rfl, rfl, H, A⟩ | hF
           ·skip
            show AW cfg 24 g (right (right (right (right (right (right (right (right (right (left (right (left (right (right (right (right (left (right (left (left (left (right (right (bodyC cfg.P 24)))))))))))))))))))))))) fr h8 _
            rcases iteB_some hm with ⟨hb, hm⟩ | ⟨hb, hm⟩
            ·replace H := H.know 49 hb (by kernel_rfl)
             refine aw_true (x := .tmp 49) (by kernel_rfl) H (fun fr => by kernel_rfl) ?_
             refine aw_reg (id := 20) (n := 6) [(0, []), (1, []), (2, []), (3, []), (4, []), (5, [])] (by kernel_rfl) (by kernel_rfl) ?_
             refine at_seg [(0, []), (1, []), (2, []), (3, []), (4, [])] [(0, .ptr (some (bp0, 0))), (1, .str p1), (2, .int .i64 (IntKind.i64.wrap (x9 + (1 : Int)))), (7, .map (some h.size)), (8, .int .i64 x9), (10, .int .u8 (bOr .u8 x27 (32 : Int))), (54, .bool (x27 == (115 : Int))), (56, .ptr (some (bp0, 7)))] H (noU_all rfl) (fun fr => by kernel_rfl) ?_
             intro fr H
             obtain ⟨h9, hx, A1⟩ := A.st 1 rfl (o := 7) (new := [.bool (x27 == (115 : Int))]) (ds := [.str p0.Re, .str p0.Template, .bool x2, .bool x3, .bool x4, .int .i64 x5, .bool x6, .bool (x27 == (115 : Int)), .bool x8]) (Nat.le_of_ble_eq_true rfl) rfl rfl
             replace A : HH g h9 [.obj h.size (.map 2 (encM (fun k : Int => .int .u8 k) (fun v : Bool => .bool v) x1)), .obj bp0 (.cells none 2 [.str p0.Re, .str p0.Template, .bool x2, .bool x3, .bool x4, .int .i64 x5, .bool x6, .bool (x27 == (115 : Int)), .bool x8])] F := A1
             refine at_step (v := .tuple []) (h1 := h9) [(0, .ptr (some (bp0, 0))), (1, .str p1), (2, .int .i64 (IntKind.i64.wrap (x9 + (1 : Int)))), (7, .map (some h.size)), (8, .int .i64 x9), (10, .int .u8 (bOr .u8 x27 (32 : Int)))] H (fun fr => by kernel_rfl) (fun fr => .of (s_st (by kernel_rfl) rfl hx)) ?_
             intro fr t H
             refine at_nil ?_
             exact Or.inl ⟨x2, x3, x4, x5, x6, x27 == (115 : Int), x8, IntKind.i64.wrap (x9 + (1 : Int)), bOr .u8 x27 (32 : Int), rfl, Option.some.inj hm, H.less _ (fun fr => by kernel_rfl), A⟩
            ·replace H := H.know 49 hb (by kernel_rfl)
             refine aw_false (x := .tmp 49) (by kernel_rfl) H (fun fr => by kernel_rfl) ?_
             refine aw_seq (by kernel_rfl) ?_
             obtain ⟨o5, ho, hm⟩ := bind_some hm
             refine aw_mono (Q' := fun e fr' h' => (∃ (x40 : Bool), e = .normal ∧ x40 = o5 ∧ Has fr' 115 [(0, .ptr (some (bp0, 0))), (1, .str p1), (2, .int .i64 (IntKind.i64.wrap (x9 + (1 : Int)))), (7, .map (some h.size)), (8, .int .i64 x9), (9, .int .u8 x27), (10, .int .u8 (bOr .u8 x27 (32 : Int))), (24, .int .u8 x27), (57, .bool x40)] ∧ HH g h' [.obj h.size (.map 2 (encM (fun k : Int => .int .u8 k) (fun v : Bool => .bool v) x1)), .obj bp0 (.cells none 2 [.str p0.Re, .str p0.Template, .bool x2, .bool x3, .bool x4, .int .i64 x5, .bool x6, .bool x7, .bool x8])] F) ∨ False) ?_ ?_
             ·replace hm := ho
              clear ho
              refine aw_seq (by kernel_rfl) ?_
              refine aw_reg (id := 21) (n := 2) [(0, []), (1, [])] (by kernel_rfl) (by kernel_rfl) ?_
              refine at_seg [(0, []), (1, [])] [(0, .ptr (some (bp0, 0))), (1, .str p1), (2, .int .i64 (IntKind.i64.wrap (x9 + (1 : Int)))), (7, .map (some h.size)), (8, .int .i64 x9), (9, .int .u8 x27), (10, .int .u8 (bOr .u8 x27 (32 : Int))), (24, .int .u8 x27), (57, .bool (x27 == (104 : Int)))] H (noU_all rfl) (fun fr => by kernel_rfl) ?_
              intro fr H
              refine at_nil ?_
              show AW cfg 24 g (right (left (right (right (right (right (right (right (right (right (right (right (left (right (left (right (right (right (right (left (right (left (left (left (right (right (bodyC cfg.P 24))))))))))))))))))))))))))) fr h8 _
              rcases iteB_some hm with ⟨hb, hm⟩ | ⟨hb, hm⟩
              ·replace H := H.know 57 hb (by kernel_rfl)
               refine aw_true (x := .tmp 57) (by kernel_rfl) H (fun fr => by kernel_rfl) ?_
               refine aw_skip (by kernel_rfl) ?_
               exact Or.inl ⟨true, rfl, Option.some.inj hm, H.less _ (fun fr => by kernel_rfl), A⟩
              ·replace H := H.know 57 hb (by kernel_rfl)
               refine aw_false (x := .tmp 57) (by kernel_rfl) H (fun fr => by kernel_rfl) ?_
               refine aw_reg (id := 22) (n := 2) [(0, []), (1, [])] (by kernel_rfl) (by kernel_rfl) ?_
               refine at_seg [(0, []), (1, [])] [(0, .ptr (some (bp0, 0))), (1, .str p1), (2, .int .i64 (IntKind.i64.wrap (x9 + (1 : Int)))), (7, .map (some h.size)), (8, .int .i64 x9), (9, .int .u8 x27), (10, .int .u8 (bOr .u8 x27 (32 : Int))), (24, .int .u8 x27), (57, .bool (x27 == (72 : Int)))] H (noU_all rfl) (fun fr => by kernel_rfl) ?_
               intro fr H
               refine at_nil ?_
               exact Or.inl ⟨x27 == (72 : Int), rfl, Option.some.inj hm, H.less _ (fun fr => by kernel_rfl), A⟩
             ·clear ho
              clear A
              intro e fr h10 hQ
              rcases hQ with ⟨x40, rfl, rfl, H, A⟩ | hF
              ·skip
               show AW cfg 24 g (right (right (right (right (right (right (right (right (right (right (right (left (right (left (right (right (right (right (left (right (left (left (left (right (right (bodyC cfg.P 24)))))))))))))))))))))))))) fr h10 _
               rcases iteB_some hm with ⟨hb, hm⟩ | ⟨hb, hm⟩
               ·replace H := H.know 57 hb (by kernel_rfl)
                refine aw_true (x := .tmp 57) (by kernel_rfl) H (fun fr => by kernel_rfl) ?_
                refine aw_reg (id := 23) (n := 6) [(0, []), (1, []), (2, []), (3, []), (4, []), (5, [])] (by kernel_rfl) (by kernel_rfl) ?_
                refine at_seg [(0, []), (1, []), (2, []), (3, []), (4, [])] [(0, .ptr (some (bp0, 0))), (1, .str p1), (2, .int .i64 (IntKind.i64.wrap (x9 + (1 : Int)))), (7, .map (some h.size)), (8, .int .i64 x9), (10, .int .u8 (bOr .u8 x27 (32 : Int))), (62, .bool (x27 == (104 : Int))), (64, .ptr (some (bp0, 8)))] H (noU_all rfl) (fun fr => by kernel_rfl) ?_
                intro fr H
                obtain ⟨h11, hx, A1⟩ := A.st 1 rfl (o := 8) (new := [.bool (x27 == (104 : Int))]) (ds := [.str p0.Re, .str p0.Template, .bool x2, .bool x3, .bool x4, .int .i64 x5, .bool x6, .bool x7, .bool (x27 == (104 : Int))]) (Nat.le_of_ble_eq_true rfl) rfl rfl
                replace A : HH g h11 [.obj h.size (.map 2 (encM (fun k : Int => .int .u8 k) (fun v : Bool => .bool v) x1)), .obj bp0 (.cells none 2 [.str p0.Re, .str p0.Template, .bool x2, .bool x3, .bool x4, .int .i64 x5, .bool x6, .bool x7, .bool (x27 == (104 : Int))])] F := A1
                refine at_step (v := .tuple []) (h1 := h11) [(0, .ptr (some (bp0, 0))), (1, .str p1), (2, .int .i64 (IntKind.i64.wrap (x9 + (1 : Int)))), (7, .map (some h.size)), (8, .int .i64 x9), (10, .int .u8 (bOr .u8 x27 (32 : Int)))] H (fun fr => by kernel_rfl) (fun fr => .of (s_st (by kernel_rfl) rfl hx)) ?_
                intro fr t H
                refine at_nil ?_
                exact Or.inl ⟨x2, x3, x4, x5, x6, x7, x27 == (104 : Int), IntKind.i64.wrap (x9 + (1 : Int)), bOr .u8 x27 (32 : Int), rfl, Option.some.inj hm, H.less _ (fun fr => by kernel_rfl), A⟩
               ·replace H := H.know 57 hb (by kernel_rfl)
                refine aw_false (x := .tmp 57) (by kernel_rfl) H (fun fr => by kernel_rfl) ?_
                refine aw_seq (by kernel_rfl) ?_
                obtain ⟨o6, ho, hm⟩ := bind_some hm
                refine aw_mono (Q' := fun e fr' h' => (∃ (x41 : Bool), e = .normal ∧ x41 = o6 ∧ Has fr' 115 [(0, .ptr (some (bp0, 0))), (1, .str p1), (2, .int .i64 (IntKind.i64.wrap (x9 + (1 : Int)))), (7, .map (some h.size)), (8, .int .i64 x9), (65, .bool x41)] ∧ HH g h' [.obj h.size (.map 2 (encM (fun k : Int => .int .u8 k) (fun v : Bool => .bool v) x1)), .obj bp0 (.cells none 2 [.str p0.Re, .str p0.Template, .bool x2, .bool x3, .bool x4, .int .i64 x5, .bool x6, .bool x7, .bool x8])] F) ∨ False) ?_ ?_
                ·replace hm := ho
                 clear ho
                 refine aw_seq (by kernel_rfl) ?_
                 refine aw_reg (id := 24) (n := 2) [(0, []), (1, [])] (by kernel_rfl) (by kernel_rfl) ?_
                 refine at_seg [(0, []), (1, [])] [(0, .ptr (some (bp0, 0))), (1, .str p1), (2, .int .i64 (IntKind.i64.wrap (x9 + (1 : Int)))), (7, .map (some h.size)), (8, .int .i64 x9), (24, .int .u8 x27), (65, .bool (x27 == (49 : Int)))] H (noU_all rfl) (fun fr => by kernel_rfl) ?_
                 intro fr H
                 refine at_nil ?_
                 show AW cfg 24 g (right (left (right (right (right (right (right (right (right (right (right (right (right (right (left (right (left (right (right (right (right (left (right (left (left (left (right (right (bodyC cfg.P 24))))))))))))))))))))))))))))) fr h10 _
                 rcases iteB_some hm with ⟨hb, hm⟩ | ⟨hb, hm⟩
                 ·replace H := H.know 65 hb (by kernel_rfl)
                  refine aw_true (x := .tmp 65) (by kernel_rfl) H (fun fr => by kernel_rfl) ?_
                  refine aw_skip (by kernel_rfl) ?_
                  exact Or.inl ⟨true, rfl, Option.some.inj hm, H.less _ (fun fr => by kernel_rfl), A⟩
                 ·replace H := H.know 65 hb (by kernel_rfl)
                  refine aw_false (x := .tmp 65) (by kernel_rfl) H (fun fr => by kernel_rfl) ?_
                  refine aw_seq (by kernel_rfl) ?_
                  refine aw_reg (id := 25) (n := 2) [(0, []), (1, [])] (by kernel_rfl) (by kernel_rfl) ?_
                  refine at_seg [(0, []), (1, [])] [(0, .ptr (some (bp0, 0))), (1, .str p1), (2, .int .i64 (IntKind.i64.wrap (x9 + (1 : Int)))), (7, .map (some h.size)), (8, .int .i64 x9), (24, .int .u8 x27), (65, .bool (x27 == (50 : Int)))] H (noU_all rfl) (fun fr => by kernel_rfl) ?_
                  intro fr H
                  refine at_nil ?_
                  show AW cfg 24 g (right (right (right (left (right (right (right (right (right (right (right (right (right (right (right (right (left (right (left (right (right (right (right (left (right (left (left (left (right (right (bodyC cfg.P 24))))))))))))))))))))))))))))))) fr h10 _
                  rcases iteB_some hm with ⟨hb, hm⟩ | ⟨hb, hm⟩
                  ·replace H := H.know 65 hb (by kernel_rfl)
                   refine aw_true (x := .tmp 65) (by kernel_rfl) H (fun fr => by kernel_rfl) ?_
                   refine aw_skip (by kernel_rfl) ?_
                   exact Or.inl ⟨true, rfl, Option.some.inj hm, H.less _ (fun fr => by kernel_rfl), A⟩
                  ·replace H := H.know 65 hb (by kernel_rfl)
                   refine aw_false (x := .tmp 65) (by kernel_rfl) H (fun fr => by kernel_rfl) ?_
                   refine aw_seq (by kernel_rfl) ?_
                   refine aw_reg (id := 26) (n := 2) [(0, []), (1, [])] (by kernel_rfl) (by kernel_rfl) ?_
                   refine at_seg [(0, []), (1, [])] [(0, .ptr (some (bp0, 0))), (1, .str p1), (2, .int .i64 (IntKind.i64.wrap (x9 + (1 : Int)))), (7, .map (some h.size)), (8, .int .i64 x9), (24, .int .u8 x27), (65, .bool (x27 == (51 : Int)))] H (noU_all rfl) (fun fr => by kernel_rfl) ?_
                   intro fr H
                   refine at_nil ?_
                   show AW cfg 24 g (right (right (right (right (right (left (right (right (right (right (right (right (right (right (right (right (right (right (left (right (left (right (right (right (right (left (right (left (left (left (right (right (bodyC cfg.P 24))))))))))))))))))))))))))))))))) fr h10 _
                   rcases iteB_some hm with ⟨hb, hm⟩ | ⟨hb, hm⟩
                   ·replace H := H.know 65 hb (by kernel_rfl)
                    refine aw_true (x := .tmp 65) (by kernel_rfl) H (fun fr => by kernel_rfl) ?_
                    refine aw_skip (by kernel_rfl) ?_
                    exact Or.inl ⟨true, rfl, Option.some.inj hm, H.less _ (fun fr => by kernel_rfl), A⟩
                   ·replace H := H.know 65 hb (by kernel_rfl)
                    refine aw_false (x := .tmp 65) (by kernel_rfl) H (fun fr => by kernel_rfl) ?_
                    refine aw_seq (by kernel_rfl) ?_
                    refine aw_reg (id := 27) (n := 2) [(0, []), (1, [])] (by kernel_rfl) (by kernel_rfl) ?_
                    refine at_seg [(0, []), (1, [])] [(0, .ptr (some (bp0, 0))), (1, .str p1), (2, .int .i64 (IntKind.i64.wrap (x9 + (1 : Int)))), (7, .map (some h.size)), (8, .int .i64 x9), (24, .int .u8 x27), (65, .bool (x27 == (52 : Int)))] H (noU_all rfl) (fun fr => by kernel_rfl) ?_
                    intro fr H
                    refine at_nil ?_
                    show AW cfg 24 g (right (right (right (right (right (right (right (left (right (right (right (right (right (right (right (right (right (right (right (right (left (right (left (right (right (right (right (left (right (left (left (left (right (right (bodyC cfg.P 24))))))))))))))))))))))))))))))))))) fr h10 _
                    rcases iteB_some hm with ⟨hb, hm⟩ | ⟨hb, hm⟩
                    ·replace H := H.know 65 hb (by kernel_rfl)
                     refine aw_true (x := .tmp 65) (by kernel_rfl) H (fun fr => by kernel_rfl) ?_
                     refine aw_skip (by kernel_rfl) ?_
                     exact Or.inl ⟨true, rfl, Option.some.inj hm, H.less _ (fun fr => by kernel_rfl), A⟩
                    ·replace H := H.know 65 hb (by kernel_rfl)
                     refine aw_false (x := .tmp 65) (by kernel_rfl) H (fun fr => by kernel_rfl) ?_
                     refine aw_seq (by kernel_rfl) ?_
                     refine aw_reg (id := 28) (n := 2) [(0, []), (1, [])] (by kernel_rfl) (by kernel_rfl) ?_
                     refine at_seg [(0, []), (1, [])] [(0, .ptr (some (bp0, 0))), (1, .str p1), (2, .int .i64 (IntKind.i64.wrap (x9 + (1 : Int)))), (7, .map (some h.size)), (8, .int .i64 x9), (24, .int .u8 x27), (65, .bool (x27 == (53 : Int)))] H (noU_all rfl) (fun fr => by kernel_rfl) ?_
                     intro fr H
                     refine at_nil ?_
                     show AW cfg 24 g (right (right (right (right (right (right (right (right (right (left (right (right (right (right (right (right (right (right (right (right (right (right (left (right (left (right (right (right (right (left (right (left (left (left (right (right (bodyC cfg.P 24))))))))))))))))))))))))))))))))))))) fr h10 _
                     rcases iteB_some hm with ⟨hb, hm⟩ | ⟨hb, hm⟩
                     ·replace H := H.know 65 hb (by kernel_rfl)
                      refine aw_true (x := .tmp 65) (by kernel_rfl) H (fun fr => by kernel_rfl) ?_
                      refine aw_skip (by kernel_rfl) ?_
                      exact Or.inl ⟨true, rfl, Option.some.inj hm, H.less _ (fun fr => by kernel_rfl), A⟩
                     ·replace H := H.know 65 hb (by kernel_rfl)
                      refine aw_false (x := .tmp 65) (by kernel_rfl) H (fun fr => by kernel_rfl) ?_
                      refine aw_seq (by kernel_rfl) ?_
                      refine aw_reg (id := 29) (n := 2) [(0, []), (1, [])] (by kernel_rfl) (by kernel_rfl) ?_
                      refine at_seg [(0, []), (1, [])] [(0, .ptr (some (bp0, 0))), (1, .str p1), (2, .int .i64 (IntKind.i64.wrap (x9 + (1 : Int)))), (7, .map (some h.size)), (8, .int .i64 x9), (24, .int .u8 x27), (65, .bool (x27 == (54 : Int)))] H (noU_all rfl) (fun fr => by kernel_rfl) ?_
                      intro fr H
                      refine at_nil ?_
                      show AW cfg 24 g (right (right (right (right (right (right (right (right (right (right (right (left (right (right (right (right (right (right (right (right (right (right (right (right (left (right (left (right (right (right (right (left (right (left (left (left (right (right (bodyC cfg.P 24))))))))))))))))))))))))))))))))))))))) fr h10 _
                      rcases iteB_some hm with ⟨hb, hm⟩ | ⟨hb, hm⟩
                      ·replace H := H.know 65 hb (by kernel_rfl)
                       refine aw_true (x := .tmp 65) (by kernel_rfl) H (fun fr => by kernel_rfl) ?_
                       refine aw_skip (by kernel_rfl) ?_
                       exact Or.inl ⟨true, rfl, Option.some.inj hm, H.less _ (fun fr => by kernel_rfl), A⟩
                      ·replace H := H.know 65 hb (by kernel_rfl)
                       refine aw_false (x := .tmp 65) (by kernel_rfl) H (fun fr => by kernel_rfl) ?_
                       refine aw_seq (by kernel_rfl) ?_
                       refine aw_reg (id := 30) (n := 2) [(0, []), (1, [])] (by kernel_rfl) (by kernel_rfl) ?_
                       refine at_seg [(0, []), (1, [])] [(0, .ptr (some (bp0, 0))), (1, .str p1), (2, .int .i64 (IntKind.i64.wrap (x9 + (1 : Int)))), (7, .map (some h.size)), (8, .int .i64 x9), (24, .int .u8 x27), (65, .bool (x27 == (55 : Int)))] H (noU_all rfl) (fun fr => by kernel_rfl) ?_
                       intro fr H
                       refine at_nil ?_
                       show AW cfg 24 g (right (right (right (right (right (right (right (right (right (right (right (right (right (left (right (right (right (right (right (right (right (right (right (right (right (right (left (right (left (right (right (right (right (left (right (left (left (left (right (right (bodyC cfg.P 24))))))))))))))))))))))))))))))))))))))))) fr h10 _
                       rcases iteB_some hm with ⟨hb, hm⟩ | ⟨hb, hm⟩
                       ·replace H := H.know 65 hb (by kernel_rfl)
                        refine aw_true (x := .tmp 65) (by kernel_rfl) H (fun fr => by kernel_rfl) ?_
                        refine aw_skip (by kernel_rfl) ?_
                        exact Or.inl ⟨true, rfl, Option.some.inj hm, H.less _ (fun fr => by kernel_rfl), A⟩
                       ·replace H := H.know 65 hb (by kernel_rfl)
                        refine aw_false (x := .tmp 65) (by kernel_rfl) H (fun fr => by kernel_rfl) ?_
                        refine aw_seq (by kernel_rfl) ?_
                        refine aw_reg (id := 31) (n := 2) [(0, []), (1, [])] (by kernel_rfl) (by kernel_rfl) ?_
                        refine at_seg [(0, []), (1, [])] [(0, .ptr (some (bp0, 0))), (1, .str p1), (2, .int .i64 (IntKind.i64.wrap (x9 + (1 : Int)))), (7, .map (some h.size)), (8, .int .i64 x9), (24, .int .u8 x27), (65, .bool (x27 == (56 : Int)))] H (noU_all rfl) (fun fr => by kernel_rfl) ?_
                        intro fr H
                        refine at_nil ?_
                        show AW cfg 24 g (right (right (right (right (right (right (right (right (right (right (right (right (right (right (right (left (right (right (right (right (right (right (right (right (right (right (right (right (left (right (left (right (right (right (right (left (right (left (left (left (right (right (bodyC cfg.P 24))))))))))))))))))))))))))))))))))))))))))) fr h10 _
                        rcases iteB_some hm with ⟨hb, hm⟩ | ⟨hb, hm⟩
                        ·replace H := H.know 65 hb (by kernel_rfl)
                         refine aw_true (x := .tmp 65) (by kernel_rfl) H (fun fr => by kernel_rfl) ?_
                         refine aw_skip (by kernel_rfl) ?_
                         exact Or.inl ⟨true, rfl, Option.some.inj hm, H.less _ (fun fr => by kernel_rfl), A⟩
                        ·replace H := H.know 65 hb (by kernel_rfl)
                         refine aw_false (x := .tmp 65) (by kernel_rfl) H (fun fr => by kernel_rfl) ?_
                         refine aw_reg (id := 32) (n := 2) [(0, []), (1, [])] (by kernel_rfl) (by kernel_rfl) ?_
                         refine at_seg [(0, []), (1, [])] [(0, .ptr (some (bp0, 0))), (1, .str p1), (2, .int .i64 (IntKind.i64.wrap (x9 + (1 : Int)))), (7, .map (some h.size)), (8, .int .i64 x9), (65, .bool (x27 == (57 : Int)))] H (noU_all rfl) (fun fr => by kernel_rfl) ?_
                         intro fr H
                         refine at_nil ?_
                         exact Or.inl ⟨x27 == (57 : Int), rfl, Option.some.inj hm, H.less _ (fun fr => by kernel_rfl), A⟩
                ·clear ho
                 clear A
                 intro e fr h12 hQ
                 rcases hQ with ⟨x41, rfl, rfl, H, A⟩ | hF
                 ·skip
                  show AW cfg 24 g (right (right (right (right (right (right (right (right (right (right (right (right (right (left (right (left (right (right (right (right (left (right (left (left (left (right (right (bodyC cfg.P 24)))))))))))))))))))))))))))) fr h12 _
                  rcases iteB_some hm with ⟨hb, hm⟩ | ⟨hb, hm⟩
                  ·replace H := H.know 65 hb (by kernel_rfl)
                   refine aw_true (x := .tmp 65) (by kernel_rfl) H (fun fr => by kernel_rfl) ?_
                   refine aw_seq (by kernel_rfl) ?_
                   refine aw_block (id := 3) (by kernel_rfl) ?_
                   obtain ⟨o7, ho, hm⟩ := bind_some hm
                   refine aw_mono (Q' := fun e fr' h' => (∃ (x43 : Int), e = .exit 3 ∧ x43 = o7 ∧ Has fr' 115 [(0, .ptr (some (bp0, 0))), (1, .str p1), (2, .int .i64 x43), (7, .map (some h.size)), (8, .int .i64 x9)] ∧ HH g h' [.obj h.size (.map 2 (encM (fun k : Int => .int .u8 k) (fun v : Bool => .bool v) x1)), .obj bp0 (.cells none 2 [.str p0.Re, .str p0.Template, .bool x2, .bool x3, .bool x4, .int .i64 x5, .bool x6, .bool x7, .bool x8])] F) ∨ False) ?_ ?_
                   ·refine aw_loop (by kernel_rfl) (fun (s : Int) fr' h' => ∃ (x42 : Int), x42 = s ∧ Has fr' 115 [(0, .ptr (some (bp0, 0))), (1, .str p1), (2, .int .i64 x42), (7, .map (some h.size)), (8, .int .i64 x9)] ∧ HH g h' [.obj h.size (.map 2 (encM (fun k : Int => .int .u8 k) (fun v : Bool => .bool v) x1)), .obj bp0 (.cells none 2 [.str p0.Re, .str p0.Template, .bool x2, .bool x3, .bool x4, .int .i64 x5, .bool x6, .bool x7, .bool x8])] F) ho ⟨IntKind.i64.wrap (x9 + (1 : Int)), rfl, H.less _ (fun fr => by kernel_rfl), A⟩ ?_
                    clear ho hm H A
                    intro s q fr h13 hI hm
                    obtain ⟨x42, rfl, H, A⟩ := hI
                    unfold M_rewrite_Expr_flags_L1 at hm
                    refine aw_seq (by kernel_rfl) ?_
                    refine aw_seq (by kernel_rfl) ?_
                    refine aw_reg (id := 33) (n := 16) [(0, []), (1, []), (2, []), (3, []), (4, []), (5, []), (6, []), (7, []), (8, []), (9, []), (10, []), (11, []), (12, []), (13, []), (14, []), (15, [])] (by kernel_rfl) (by kernel_rfl) ?_
                    refine at_seg [(0, []), (1, []), (2, []), (3, []), (4, [])] [(0, .ptr (some (bp0, 0))), (1, .str p1), (2, .int .i64 x42), (7, .map (some h.size)), (8, .int .i64 x9), (79, .bool (decide (x42 < (p1.length : Int))))] H (noU_all rfl) (fun fr => by kernel_rfl) ?_
                    intro fr H
                    obtain ⟨x44, ho, hm⟩ := bind_some hm
                    refine at_cut [(5, []), (6, []), (7, []), (8, []), (9, [])] (fun fr' h' => Has fr' 115 [(0, .ptr (some (bp0, 0))), (1, .str p1), (2, .int .i64 x42), (7, .map (some h.size)), (8, .int .i64 x9), (84, .bool x44)] ∧ HH g h' [.obj h.size (.map 2 (encM (fun k : Int => .int .u8 k) (fun v : Bool => .bool v) x1)), .obj bp0 (.cells none 2 [.str p0.Re, .str p0.Template, .bool x2, .bool x3, .bool x4, .int .i64 x5, .bool x6, .bool x7, .bool x8])] F) ?_ ?_
                    ·rcases iteB_some ho with ⟨hb, hm⟩ | ⟨hb, hm⟩
                     ·replace H := H.know 79 hb (by kernel_rfl)
                      refine at_seg [(5, []), (6, [])] [(0, .ptr (some (bp0, 0))), (1, .str p1), (2, .int .i64 x42), (7, .map (some h.size)), (8, .int .i64 x9), (79, .bool true), (80, .str p1), (81, .int .i64 x42)] H (noU_all rfl) (fun fr => by kernel_rfl) ?_
                      intro fr H
                      obtain ⟨x45, hx, hm⟩ := bind_some hm
                      refine at_step (v := .int .u8 x45) (h1 := h13) [(0, .ptr (some (bp0, 0))), (1, .str p1), (2, .int .i64 x42), (7, .map (some h.size)), (8, .int .i64 x9), (79, .bool true), (82, .int .u8 x45)] H (fun fr => by kernel_rfl) (fun fr => .of (s_ixS (by kernel_rfl) hx)) ?_
                      intro fr t H
                      refine at_seg [(8, []), (9, [])] [(0, .ptr (some (bp0, 0))), (1, .str p1), (2, .int .i64 x42), (7, .map (some h.size)), (8, .int .i64 x9), (84, .bool (decide (x45 ≥ (48 : Int))))] H (noU_all rfl) (fun fr => by kernel_rfl) ?_
                      intro fr H
                      have e1 := Option.some.inj hm
                      subst e1
                      exact at_nil ⟨H.less _ (fun fr => by kernel_rfl), A⟩
                     ·replace H := H.know 79 hb (by kernel_rfl)
                      refine at_seg [(5, []), (6, []), (7, []), (8, []), (9, [])] [(0, .ptr (some (bp0, 0))), (1, .str p1), (2, .int .i64 x42), (7, .map (some h.size)), (8, .int .i64 x9), (84, .bool false)] H (noU_all rfl) (fun fr => by kernel_rfl) ?_
                      intro fr H
                      have e1 := Option.some.inj hm
                      subst e1
                      exact at_nil ⟨H.less _ (fun fr => by kernel_rfl), A⟩
                    ·clear A
                     intro t fr h14 hK
                     obtain ⟨H, A⟩ := hK
                     refine at_seg [(10, [])] [(0, .ptr (some (bp0, 0))), (1, .str p1), (2, .int .i64 x42), (7, .map (some h.size)), (8, .int .i64 x9), (85, .bool x44)] H (noU_all rfl) (fun fr => by kernel_rfl) ?_
                     intro fr H
                     obtain ⟨x46, ho, hm⟩ := bind_some hm
                     refine at_cut [(11, []), (12, []), (13, []), (14, []), (15, [])] (fun fr' h' => Has fr' 115 [(0, .ptr (some (bp0, 0))), (1, .str p1), (2, .int .i64 x42), (7, .map (some h.size)), (8, .int .i64 x9), (90, .bool x46)] ∧ HH g h' [.obj h.size (.map 2 (encM (fun k : Int => .int .u8 k) (fun v : Bool => .bool v) x1)), .obj bp0 (.cells none 2 [.str p0.Re, .str p0.Template, .bool x2, .bool x3, .bool x4, .int .i64 x5, .bool x6, .bool x7, .bool x8])] F) ?_ ?_
                     ·rcases iteB_some ho with ⟨hb, hm⟩ | ⟨hb, hm⟩
                      ·replace H := H.know 85 hb (by kernel_rfl)
                       refine at_seg [(11, []), (12, [])] [(0, .ptr (some (bp0, 0))), (1, .str p1), (2, .int .i64 x42), (7, .map (some h.size)), (8, .int .i64 x9), (85, .bool true), (86, .str p1), (87, .int .i64 x42)] H (noU_all rfl) (fun fr => by kernel_rfl) ?_
                       intro fr H
                       obtain ⟨x47, hx, hm⟩ := bind_some hm
                       refine at_step (v := .int .u8 x47) (h1 := h14) [(0, .ptr (some (bp0, 0))), (1, .str p1), (2, .int .i64 x42), (7, .map (some h.size)), (8, .int .i64 x9), (85, .bool true), (88, .int .u8 x47)] H (fun fr => by kernel_rfl) (fun fr => .of (s_ixS (by kernel_rfl) hx)) ?_
                       intro fr t H
                       refine at_seg [(14, []), (15, [])] [(0, .ptr (some (bp0, 0))), (1, .str p1), (2, .int .i64 x42), (7, .map (some h.size)), (8, .int .i64 x9), (90, .bool (decide (x47 ≤ (57 : Int))))] H (noU_all rfl) (fun fr => by kernel_rfl) ?_
                       intro fr H
                       have e1 := Option.some.inj hm
                       subst e1
                       exact at_nil ⟨H.less _ (fun fr => by kernel_rfl), A⟩
                      ·replace H := H.know 85 hb (by kernel_rfl)
                       refine at_seg [(11, []), (12, []), (13, []), (14, []), (15, [])] [(0, .ptr (some (bp0, 0))), (1, .str p1), (2, .int .i64 x42), (7, .map (some h.size)), (8, .int .i64 x9), (90, .bool false)] H (noU_all rfl) (fun fr => by kernel_rfl) ?_
                       intro fr H
                       have e1 := Option.some.inj hm
                       subst e1
                       exact at_nil ⟨H.less _ (fun fr => by kernel_rfl), A⟩
                     ·clear A
                      intro t fr h15 hK
                      obtain ⟨H, A⟩ := hK
                      refine at_nil ?_
                      show AW cfg 24 g (right (left (left (left (left (left (right (right (right (right (right (right (right (right (right (right (right (right (right (left (right (left (right (right (right (right (left (right (left (left (left (right (right (bodyC cfg.P 24)))))))))))))))))))))))))))))))))) fr h15 _
                      rcases iteB_some hm with ⟨hb, hm⟩ | ⟨hb, hm⟩
                      ·replace H := H.know 90 hb (by kernel_rfl)
                       refine aw_true (x := .tmp 90) (by kernel_rfl) H (fun fr => by kernel_rfl) ?_
                       refine aw_skip (by kernel_rfl) ?_
                       show AW cfg 24 g (right (left (left (left (left (right (right (right (right (right (right (right (right (right (right (right (right (right (left (right (left (right (right (right (right (left (right (left (left (left (right (right (bodyC cfg.P 24))))))))))))))))))))))))))))))))) fr h15 _
                       refine aw_block (id := 4) (by kernel_rfl) ?_
                       refine aw_reg (id := 34) (n := 3) [(0, []), (1, []), (2, [])] (by kernel_rfl) (by kernel_rfl) ?_
                       refine at_seg [(0, []), (1, []), (2, [])] [(0, .ptr (some (bp0, 0))), (1, .str p1), (2, .int .i64 (IntKind.i64.wrap (x42 + (1 : Int)))), (7, .map (some h.size)), (8, .int .i64 x9)] H (noU_all rfl) (fun fr => by kernel_rfl) ?_
                       intro fr H
                       refine at_nil ?_
                       exact Exists.intro (IntKind.i64.wrap (x42 + (1 : Int))) (And.intro (Option.some.inj hm).symm ⟨IntKind.i64.wrap (x42 + (1 : Int)), rfl, H.less _ (fun fr => by kernel_rfl), A⟩)
                      ·replace H := H.know 90 hb (by kernel_rfl)
                       refine aw_false (x := .tmp 90) (by kernel_rfl) H (fun fr => by kernel_rfl) ?_
                       refine aw_exit (i := 3) (by kernel_rfl) ?_
                       exact Exists.intro _ (And.intro (Option.some.inj hm).symm (fun e => Or.inl ⟨x42, rfl, e, H.less _ (fun fr => by kernel_rfl), A⟩))
                   ·clear ho
                    clear A
                    intro e fr h16 hQ
                    rcases hQ with ⟨x43, rfl, rfl, H, A⟩ | hF
                    ·skip
                     show AW cfg 24 g (right (left (right (right (right (right (right (right (right (right (right (right (right (right (right (left (right (left (right (right (right (right (left (right (left (left (left (right (right (bodyC cfg.P 24)))))))))))))))))))))))))))))) fr h16 _
                     refine aw_seq (by kernel_rfl) ?_
                     refine aw_seq (by kernel_rfl) ?_
                     refine aw_reg (id := 35) (n := 4) [(0, []), (1, []), (2, []), (3, [])] (by kernel_rfl) (by kernel_rfl) ?_
                     refine at_seg [(0, []), (1, []), (2, []), (3, [])] [(0, .ptr (some (bp0, 0))), (1, .str p1), (2, .int .i64 x43), (7, .map (some h.size)), (8, .int .i64 x9), (96, .bool (decide ((IntKind.i64.wrap (x43 - x9)) > (4 : Int))))] H (noU_all rfl) (fun fr => by kernel_rfl) ?_
                     intro fr H
                     refine at_nil ?_
                     show AW cfg 24 g (right (left (right (left (right (right (right (right (right (right (right (right (right (right (right (right (right (left (right (left (right (right (right (right (left (right (left (left (left (right (right (bodyC cfg.P 24)))))))))))))))))))))))))))))))) fr h16 _
                     rcases iteB_some hm with ⟨hb, hm⟩ | ⟨hb, hm⟩
                     ·replace H := H.know 96 hb (by kernel_rfl)
                      refine aw_true (x := .tmp 96) (by kernel_rfl) H (fun fr => by kernel_rfl) ?_
                      refine aw_seq (by kernel_rfl) ?_
                      refine aw_reg (id := 36) (n := 2) [(0, []), (1, [])] (by kernel_rfl) (by kernel_rfl) ?_
                      refine at_seg [(0, []), (1, [])] [(6, .int .i64 x9)] H (noU_all rfl) (fun fr => by kernel_rfl) ?_
                      intro fr H
                      refine at_nil ?_
                      show AW cfg 24 g (right (left (right (left (right (left (right (right (right (right (right (right (right (right (right (right (right (right (right (left (right (left (right (right (right (right (left (right (left (left (left (right (right (bodyC cfg.P 24)))))))))))))))))))))))))))))))))) fr h16 _
                      refine aw_ret (by kernel_rfl) ?_
                      exact Or.inr (Or.inl ⟨x9, rfl, Option.some.inj hm, H.less _ (fun fr => by kernel_rfl), A⟩)
                     ·replace H := H.know 96 hb (by kernel_rfl)
                      refine aw_false (x := .tmp 96) (by kernel_rfl) H (fun fr => by kernel_rfl) ?_
                      refine aw_skip (by kernel_rfl) ?_
                      show AW cfg 24 g (right (right (left (right (right (right (right (right (right (right (right (right (right (right (right (right (left (right (left (right (right (right (right (left (right (left (left (left (right (right (bodyC cfg.P 24))))))))))))))))))))))))))))))) fr h16 _
                      refine aw_seq (by kernel_rfl) ?_
                      refine aw_reg (id := 37) (n := 12) [(0, []), (1, []), (2, []), (3, []), (4, []), (5, []), (6, []), (7, []), (8, []), (9, []), (10, []), (11, [])] (by kernel_rfl) (by kernel_rfl) ?_
                      refine at_seg [(0, []), (1, []), (2, []), (3, [])] [(0, .ptr (some (bp0, 0))), (1, .str p1), (2, .int .i64 x43), (7, .map (some h.size)), (8, .int .i64 x9), (99, .ptr (some (bp0, 0))), (100, .str p1), (101, .int .i64 x9), (102, .int .i64 x43)] H (noU_all rfl) (fun fr => by kernel_rfl) ?_
                      intro fr H
                      obtain ⟨x48, hx, hm⟩ := bind_some hm
                      refine at_step (v := .str x48) (h1 := h16) [(0, .ptr (some (bp0, 0))), (1, .str p1), (2, .int .i64 x43), (7, .map (some h.size)), (8, .int .i64 x9), (99, .ptr (some (bp0, 0))), (103, .str x48)] H (fun fr => by kernel_rfl) (fun fr => .of (s_subS (k := .i64) (k' := .i64) (lo := (some x9)) (hi := (some x43)) (by kernel_rfl) hx)) ?_
                      intro fr t H
                      have A1 := A.cut 0
                      obtain ⟨x49, hx, hm⟩ := bind_some hm
                      obtain ⟨v1, h17, hr, rfl, A1⟩ := ok_strconv_Atoi (av := [.str x48]) hx (by kernel_rfl) A1
                      replace A : HH g h17 [.obj h.size (.map 2 (encM (fun k : Int => .int .u8 k) (fun v : Bool => .bool v) x1)), .obj bp0 (.cells none 2 [.str p0.Re, .str p0.Template, .bool x2, .bool x3, .bool x4, .int .i64 x5, .bool x6, .bool x7, .bool x8])] F := A.glue0 (n := 0) A1
                      refine at_step (v := .tuple [.int .i64 x49, .nilIface]) (h1 := h17) [(0, .ptr (some (bp0, 0))), (1, .str p1), (2, .int .i64 x43), (7, .map (some h.size)), (8, .int .i64 x9), (99, .ptr (some (bp0, 0))), (104, .tuple [.int .i64 x49, .nilIface])] H (fun fr => by kernel_rfl) (fun fr => Steps.call (by kernel_rfl) hr) ?_
                      intro fr t H
                      refine at_seg [(6, []), (7, []), (8, []), (9, []), (10, [])] [(0, .ptr (some (bp0, 0))), (1, .str p1), (2, .int .i64 x43), (7, .map (some h.size)), (8, .int .i64 x9), (105, .int .i64 x49), (108, .ptr (some (bp0, 5)))] H (noU_all rfl) (fun fr => by kernel_rfl) ?_
                      intro fr H
                      obtain ⟨h18, hx, A1⟩ := A.st 1 rfl (o := 5) (new := [.int .i64 x49]) (ds := [.str p0.Re, .str p0.Template, .bool x2, .bool x3, .bool x4, .int .i64 x49, .bool x6, .bool x7, .bool x8]) (Nat.le_of_ble_eq_true rfl) rfl rfl
                      replace A : HH g h18 [.obj h.size (.map 2 (encM (fun k : Int => .int .u8 k) (fun v : Bool => .bool v) x1)), .obj bp0 (.cells none 2 [.str p0.Re, .str p0.Template, .bool x2, .bool x3, .bool x4, .int .i64 x49, .bool x6, .bool x7, .bool x8])] F := A1
                      refine at_step (v := .tuple []) (h1 := h18) [(0, .ptr (some (bp0, 0))), (1, .str p1), (2, .int .i64 x43), (7, .map (some h.size)), (8, .int .i64 x9)] H (fun fr => by kernel_rfl) (fun fr => .of (s_st (by kernel_rfl) rfl hx)) ?_
                      intro fr t H
                      refine at_nil ?_
                      show AW cfg 24 g (right (right (right (left (right (right (right (right (right (right (right (right (right (right (right (right (right (left (right (left (right (right (right (right (left (right (left (left (left (right (right (bodyC cfg.P 24)))))))))))))))))))))))))))))))) fr h18 _
                      refine aw_reg (id := 38) (n := 1) [(0, [])] (by kernel_rfl) (by kernel_rfl) ?_
                      refine at_seg [(0, [])] [(0, .ptr (some (bp0, 0))), (1, .str p1), (2, .int .i64 x43), (7, .map (some h.size)), (8, .int .i64 x9), (10, .int .u8 (49 : Int))] H (noU_all rfl) (fun fr => by kernel_rfl) ?_
                      intro fr H
                      refine at_nil ?_
                      exact Or.inl ⟨x2, x3, x4, x49, x6, x7, x8, x43, (49 : Int), rfl, Option.some.inj hm, H.less _ (fun fr => by kernel_rfl), A⟩
                    ·exact hF.elim
                  ·replace H := H.know 65 hb (by kernel_rfl)
                   refine aw_false (x := .tmp 65) (by kernel_rfl) H (fun fr => by kernel_rfl) ?_
                   refine aw_seq (by kernel_rfl) ?_
                   refine aw_reg (id := 8) (n := 2) [(0, []), (1, [])] (by kernel_rfl) (by kernel_rfl) ?_
                   refine at_seg [(0, []), (1, [])] [(6, .int .i64 x9)] H (noU_all rfl) (fun fr => by kernel_rfl) ?_
                   intro fr H
                   refine at_nil ?_
                   show AW cfg 24 g (right (right (right (right (right (right (right (right (right (right (right (right (right (right (right (left (right (left (right (right (right (right (left (right (left (left (left (right (right (bodyC cfg.P 24)))))))))))))))))))))))))))))) fr h12 _
                   refine aw_ret (by kernel_rfl) ?_
                   exact Or.inr (Or.inl ⟨x9, rfl, Option.some.inj hm, H.less _ (fun fr => by kernel_rfl), A⟩)
                 ·exact hF.elim
              ·exact hF.elim
           ·exact hF.elim
        ·exact hF.elim
   ·clear ho
    clear A
    intro e fr h19 hQ
    rcases hQ with ⟨x28, x29, x30, x31, x32, x33, x34, x35, x36, rfl, rfl, H, A⟩ | ⟨x37, rfl, rfl, H, A⟩ | hF
    ·skip
     show AW cfg 24 g (right (right (right (right (right (left (right (left (left (left (right (right (bodyC cfg.P 24))))))))))))) fr h19 _
     refine aw_seq (by kernel_rfl) ?_
     refine aw_seq (by kernel_rfl) ?_
     refine aw_reg (id := 39) (n := 3) [(0, []), (1, []), (2, [])] (by kernel_rfl) (by kernel_rfl) ?_
     refine at_seg [(0, []), (1, [])] [(0, .ptr (some (bp0, 0))), (1, .str p1), (2, .int .i64 x35), (7, .map (some h.size)), (8, .int .i64 x9), (10, .int .u8 x36), (109, .map (some h.size)), (110, .int .u8 x36)] H (noU_all rfl) (fun fr => by kernel_rfl) ?_
     intro fr H
     refine at_step (v := .bool ((mfind x1 x36).getD false)) (h1 := h19) [(0, .ptr (some (bp0, 0))), (1, .str p1), (2, .int .i64 x35), (7, .map (some h.size)), (8, .int .i64 x9), (10, .int .u8 x36), (111, .bool ((mfind x1 x36).getD false))] H (fun fr => by kernel_rfl) (fun fr => .of (s_lkF (by kernel_rfl) (HH.mlook (kt := 5) (et := 4) (ek := fun k : Int => .int .u8 k) (ev := fun v : Bool => .bool v) (keyI (by kernel_rfl)) A 0 rfl (t := 121) (by kernel_rfl) (z := false) (by kernel_rfl) x36))) ?_
     intro fr t H
     refine at_nil ?_
     show AW cfg 24 g (right (left (right (right (right (right (right (left (right (left (left (left (right (right (bodyC cfg.P 24))))))))))))))) fr h19 _
     rcases iteB_some hm with ⟨hb, hm⟩ | ⟨hb, hm⟩
     ·replace H := H.know 111 hb (by kernel_rfl)
      refine aw_true (x := .tmp 111) (by kernel_rfl) H (fun fr => by kernel_rfl) ?_
      refine aw_seq (by kernel_rfl) ?_
      refine aw_reg (id := 40) (n := 2) [(0, []), (1, [])] (by kernel_rfl) (by kernel_rfl) ?_
      refine at_seg [(0, []), (1, [])] [(6, .int .i64 x9)] H (noU_all rfl) (fun fr => by kernel_rfl) ?_
      intro fr H
      refine at_nil ?_
      show AW cfg 24 g (right (left (right (left (right (right (right (right (right (left (right (left (left (left (right (right (bodyC cfg.P 24))))))))))))))))) fr h19 _
      refine aw_ret (by kernel_rfl) ?_
      exact Exists.intro _ (And.intro (Option.some.inj hm).symm (fun e => Or.inr (Or.inl ⟨x1, x28, x29, x30, x31, x32, x33, x34, x9, rfl, e, H.less _ (fun fr => by kernel_rfl), A⟩)))
     ·replace H := H.know 111 hb (by kernel_rfl)
      refine aw_false (x := .tmp 111) (by kernel_rfl) H (fun fr => by kernel_rfl) ?_
      refine aw_skip (by kernel_rfl) ?_
      show AW cfg 24 g (right (right (right (right (right (right (left (right (left (left (left (right (right (bodyC cfg.P 24)))))))))))))) fr h19 _
      refine aw_reg (id := 41) (n := 3) [(0, []), (1, []), (2, [])] (by kernel_rfl) (by kernel_rfl) ?_
      refine at_seg [(0, []), (1, [])] [(0, .ptr (some (bp0, 0))), (1, .str p1), (2, .int .i64 x35), (7, .map (some h.size)), (113, .map (some h.size)), (114, .int .u8 x36)] H (noU_all rfl) (fun fr => by kernel_rfl) ?_
      intro fr H
      obtain ⟨h20, hx, A1⟩ := HH.mset (kt := 5) (et := 4) (ek := fun k : Int => .int .u8 k) (ev := fun v : Bool => .bool v) (keyI (by kernel_rfl)) A 0 rfl (t := 121) (by kernel_rfl) x36 true
      replace A : HH g h20 [.obj h.size (.map 2 (encM (fun k : Int => .int .u8 k) (fun v : Bool => .bool v) (mput x1 x36 true))), .obj bp0 (.cells none 2 [.str p0.Re, .str p0.Template, .bool x28, .bool x29, .bool x30, .int .i64 x31, .bool x32, .bool x33, .bool x34])] F := A1
      refine at_step (v := .tuple []) (h1 := h20) [(0, .ptr (some (bp0, 0))), (1, .str p1), (2, .int .i64 x35), (7, .map (some h.size))] H (fun fr => by kernel_rfl) (fun fr => .of (s_ms (by kernel_rfl) hx)) ?_
      intro fr t H
      refine at_nil ?_
      exact Exists.intro ((mput x1 x36 true), x28, x29, x30, x31, x32, x33, x34, x35) (And.intro (Option.some.inj hm).symm ⟨(mput x1 x36 true), x28, x29, x30, x31, x32, x33, x34, x35, rfl, H.less _ (fun fr => by kernel_rfl), A⟩)
    ·skip
     exact Exists.intro _ (And.intro (Option.some.inj hm).symm (fun e => Or.inr (Or.inl ⟨x1, x2, x3, x4, x5, x6, x7, x8, x37, rfl, e, H.less _ (fun fr => by kernel_rfl), A⟩)))
    ·exact hF.elim
  ·replace H := H.know 15 hb (by kernel_rfl)
   refine aw_false (x := .tmp 15) (by kernel_rfl) H (fun fr => by kernel_rfl) ?_
   refine aw_exit (i := 0) (by kernel_rfl) ?_
   exact Exists.intro _ (And.intro (Option.some.inj hm).symm (fun e => Or.inl ⟨x1, x2, x3, x4, x5, x6, x7, x8, rfl, e, H.less _ (fun fr => by kernel_rfl), A⟩))
 ·clear ho
  clear A
  intro e fr h21 hQ
  rcases hQ with ⟨x10, x11, x12, x13, x14, x15, x16, x17, rfl, rfl, H, A⟩ | ⟨x18, x19, x20, x21, x22, x23, x24, x25, x26, rfl, rfl, H, A⟩ | hF
  ·skip
   show AW cfg 24 g (right (right (right (bodyC cfg.P 24)))) fr h21 _
   refine aw_seq (by kernel_rfl) ?_
   refine aw_reg (id := 42) (n := 1) [(0, [])] (by kernel_rfl) (by kernel_rfl) ?_
   refine at_seg [(0, [])] [(6, .int .i64 (-1 : Int))] H (noU_all rfl) (fun fr => by kernel_rfl) ?_
   intro fr H
   refine at_nil ?_
   show AW cfg 24 g (right (right (right (right (bodyC cfg.P 24))))) fr h21 _
   refine aw_ret (by kernel_rfl) ?_
   have e0 := Option.some.inj hm
   obtain ⟨y0, z0⟩ := Prod.mk.inj e0
   subst y0
   subst z0
   refine ⟨.inl rfl, .int .i64 (-1 : Int), resH H (fun fr => by kernel_rfl), ?_⟩
   replace A : HH g h21 [.obj bp0 (.cells none 2 [.str p0.Re, .str p0.Template, .bool x11, .bool x12, .bool x13, .int .i64 x14, .bool x15, .bool x16, .bool x17])] F := (HH.dropF (A.front 1 rfl) 1)
   exact ⟨rfl, A⟩
  ·skip
   have e0 := Option.some.inj hm
   obtain ⟨y0, z0⟩ := Prod.mk.inj e0
   subst y0
   subst z0
   refine ⟨.inl rfl, .int .i64 x26, resH H (fun fr => by kernel_rfl), ?_⟩
   replace A : HH g h21 [.obj bp0 (.cells none 2 [.str p0.Re, .str p0.Template, .bool x19, .bool x20, .bool x21, .int .i64 x22, .bool x23, .bool x24, .bool x25])] F := (HH.dropF (A.front 1 rfl) 1)
   exact ⟨rfl, A⟩
  ·exact hF.elim
end Go.Av.L
