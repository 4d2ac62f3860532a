/-
 Models of functions, and that the abstract run tells them. Written by lift2.py.
-/
import Derived.Test.YtkdlmohhklimjaaGreatDoorKCfg
import Derived.Test.YtkdlmohhklimjaaGreatDoorK0
import Derived.Test.YtkdlmohhklimjaaGreatDoorK1
namespace Go.Av.L
open Go.Av Go.Lib
set_option maxRecDepth 10000
set_option linter.unusedVariables false
set_option linter.unusedSimpArgs false
/-! ### boulter/boulterlaw24.RewriteList -/
noncomputable def M_boulterlaw24_RewriteList_L0 (p0 : List (List UInt8)) (s : (List UInt8) × Int) : Option (((List UInt8) × Int) ⊕ (((List UInt8)) ⊕ (Bool))) :=
 match s with
 | (x2, x3) => iteB (decide (x3 < (p0.length : Int))) ((ixV p0 x3).bind fun x6 => iteB (decide ((x6.length : Int) > (60 : Int))) ((M_boulterlaw24_awake).bind fun x7 => some (.inr (.inr x7))) ((M_boulterref24_Parse x6).bind fun (x8, x9, x10) => (iteB (x10 != (0 : Int)) (some true) ((ixS x6 (1 : Int)).bind fun x12 => some (x12 == (59 : Int))) : Option (Bool)).bind fun x11 => iteB x11 ((M_boulterlaw24_awake).bind fun x13 => some (.inr (.inr x13))) ((iteB (decide (x3 > (0 : Int))) (need (decide (x2.length + ([59] : List UInt8).length ≤ 9223372036854775807)) <| some (x2 ++ ([59] : List UInt8))) (some x2) : Option (((List UInt8)))).bind fun x14 => need (decide (x14.length + x6.length ≤ 9223372036854775807)) <| some (.inl (x14 ++ x6, IntKind.i64.wrap (x3 + (1 : Int))))))) (some (.inr (.inl x2)))
noncomputable def M_boulterlaw24_RewriteList_L1 (p0 : List (List UInt8)) (x15 : List (List UInt8)) (s : Int) : Option ((Int) ⊕ ((Unit) ⊕ (Bool))) :=
 match s with
 | x19 => iteB (decide (x19 < (p0.length : Int))) ((ixV x15 x19).bind fun x21 => (ixV p0 x19).bind fun x22 => iteB (!(x21 == x22)) (some (.inr (.inr false))) (some (.inl (IntKind.i64.wrap (x19 + (1 : Int)))))) (some (.inr (.inl ())))
noncomputable def M_boulterlaw24_RewriteList (p0 : List (List UInt8)) : Option (Bool) :=
 iteB (decide ((p0.length : Int) > (6 : Int))) ((M_boulterlaw24_awake).bind fun x1 => some x1) ((loop (M_boulterlaw24_RewriteList_L0 p0) (([] : List UInt8), (0 : Int))).bind fun o1 => (match o1 with | .inl x4 => (M_rewrite_List x4).bind fun (x15, x16) => iteB ((p0.length : Int) == (0 : Int)) ((iteB ((!x16) && ((x15.length : Int) == (0 : Int))) ((M_boulterlaw24_awake).bind fun x18 => some x18) (some false) : Option (Bool)).bind fun x17 => some x17) (iteB ((!x16) || ((x15.length : Int) != (p0.length : Int))) (some false) ((loop (M_boulterlaw24_RewriteList_L1 p0 x15) (0 : Int)).bind fun o3 => (match o3 with | .inl _ => (M_boulterlaw24_awake).bind fun x23 => some x23 | .inr x20 => some x20))) | .inr x5 => some x5))
theorem ok_boulterlaw24_RewriteList {g : Gd} {h : AHeap} {F : List Ck} {p0 : List (List UInt8)} {q0 : Bool} {av : List AVal} (hm : M_boulterlaw24_RewriteList p0 = some q0) (hc : canL (cfg.still 4) av = [vs eS p0]) (A : HH g h [] F) : ∃ v h', Runs cfg g h 4 av v h' ∧ v = .bool q0 ∧ HH g h' [] F := by
 refine runsQ1 (n := 92) (rs := [.tmp 2]) (by kernel_rfl) hc (by kernel_rfl) ?_
 clear hc
 unfold M_boulterlaw24_RewriteList at hm
 refine start (n := 92) [(0, vs eS p0)] (by kernel_rfl) (by kernel_rfl) ?_
 intro fr H
 refine aw_seq (by kernel_rfl) ?_
 refine aw_reg (id := 0) (n := 1) [(0, [])] (by kernel_rfl) (by kernel_rfl) ?_
 refine at_seg [(0, [])] [(0, vs eS p0)] H (noU_all rfl) (fun fr => by kernel_rfl) ?_
 intro fr H
 refine at_nil ?_
 show AW cfg 4 g (right (bodyC cfg.P 4)) fr h _
 refine aw_seq (by kernel_rfl) ?_
 refine aw_seq (by kernel_rfl) ?_
 refine aw_reg (id := 1) (n := 3) [(0, []), (1, []), (2, [])] (by kernel_rfl) (by kernel_rfl) ?_
 refine at_seg [(0, []), (1, []), (2, [])] [(0, vs eS p0), (14, .bool (decide ((p0.length : Int) > (6 : Int))))] H (noU_all rfl) (fun fr => by kernel_rfl) ?_
 intro fr H
 refine at_nil ?_
 show AW cfg 4 g (right (left (right (bodyC cfg.P 4)))) fr h _
 rcases iteB_some hm with ⟨hb, hm⟩ | ⟨hb, hm⟩
 ·replace H := H.know 14 hb (by kernel_rfl)
  refine aw_true (x := .tmp 14) (by kernel_rfl) H (fun fr => by kernel_rfl) ?_
  refine aw_seq (by kernel_rfl) ?_
  refine aw_reg (id := 2) (n := 2) [(0, []), (1, [])] (by kernel_rfl) (by kernel_rfl) ?_
  obtain ⟨x1, hx, hm⟩ := bind_some hm
  refine at_step (v := .bool x1) (h1 := h) [(15, .bool x1)] H (fun fr => by kernel_rfl) (fun fr => Steps.call (by kernel_rfl) (ok_boulterlaw24_awake hx)) ?_
  intro fr t H
  refine at_seg [(1, [])] [(2, .bool x1)] H (noU_all rfl) (fun fr => by kernel_rfl) ?_
  intro fr H
  refine at_nil ?_
  show AW cfg 4 g (right (left (right (left (right (bodyC cfg.P 4)))))) fr h _
  refine aw_ret (by kernel_rfl) ?_
  have e1 := Option.some.inj hm
  subst e1
  refine ⟨.inl rfl, .bool x1, resH H (fun fr => by kernel_rfl), ?_⟩
  exact ⟨rfl, A⟩
 ·replace H := H.know 14 hb (by kernel_rfl)
  refine aw_false (x := .tmp 14) (by kernel_rfl) H (fun fr => by kernel_rfl) ?_
  refine aw_skip (by kernel_rfl) ?_
  show AW cfg 4 g (right (right (bodyC cfg.P 4))) fr h _
  refine aw_seq (by kernel_rfl) ?_
  refine aw_reg (id := 3) (n := 1) [(0, [])] (by kernel_rfl) (by kernel_rfl) ?_
  refine at_seg [(0, [])] [(0, vs eS p0), (3, .str ([] : List UInt8))] H (noU_all rfl) (fun fr => by kernel_rfl) ?_
  intro fr H
  refine at_nil ?_
  show AW cfg 4 g (right (right (right (bodyC cfg.P 4)))) fr h _
  refine aw_seq (by kernel_rfl) ?_
  refine aw_seq (by kernel_rfl) ?_
  refine aw_reg (id := 4) (n := 3) [(0, []), (1, []), (2, [])] (by kernel_rfl) (by kernel_rfl) ?_
  refine at_seg [(0, []), (1, []), (2, [])] [(0, vs eS p0), (3, .str ([] : List UInt8)), (16, vs eS p0), (17, .int .i64 (p0.length : Int)), (18, .int .i64 (0 : Int))] H (noU_all rfl) (fun fr => by kernel_rfl) ?_
  intro fr H
  refine at_nil ?_
  show AW cfg 4 g (right (left (right (right (right (bodyC cfg.P 4)))))) fr h _
  refine aw_block (id := 0) (by kernel_rfl) ?_
  obtain ⟨o1, ho, hm⟩ := bind_some hm
  refine aw_mono (Q' := fun e fr' h' => (∃ (x4 : List UInt8), e = .exit 0 ∧ .inl x4 = o1 ∧ Has fr' 92 [(0, vs eS p0), (3, .str x4)] ∧ HH g h' [] F) ∨ (∃ (x5 : Bool), e = .ret ∧ .inr x5 = o1 ∧ Has fr' 92 [(2, .bool x5)] ∧ HH g h' [] F) ∨ False) ?_ ?_
  ·refine aw_loop (by kernel_rfl) (fun (s : (List UInt8) × Int) fr' h' => ∃ (x2 : List UInt8) (x3 : Int), (x2, x3) = s ∧ Has fr' 92 [(0, vs eS p0), (3, .str x2), (16, vs eS p0), (17, .int .i64 (p0.length : Int)), (18, .int .i64 x3)] ∧ HH g h' [] F) ho ⟨([] : List UInt8), (0 : Int), rfl, H.less _ (fun fr => by kernel_rfl), A⟩ ?_
   clear ho hm H A
   intro s q fr h1 hI hm
   obtain ⟨x2, x3, rfl, H, A⟩ := hI
   unfold M_boulterlaw24_RewriteList_L0 at hm
   refine aw_seq (by kernel_rfl) ?_
   refine aw_reg (id := 5) (n := 1) [(0, [])] (by kernel_rfl) (by kernel_rfl) ?_
   refine at_seg [(0, [])] [(0, vs eS p0), (3, .str x2), (16, vs eS p0), (17, .int .i64 (p0.length : Int)), (18, .int .i64 x3), (19, .bool (decide (x3 < (p0.length : Int))))] H (noU_all rfl) (fun fr => by kernel_rfl) ?_
   intro fr H
   refine at_nil ?_
   show AW cfg 4 g (right (left (left (right (left (right (right (right (bodyC cfg.P 4))))))))) fr h1 _
   refine aw_seq (by kernel_rfl) ?_
   rcases iteB_some hm with ⟨hb, hm⟩ | ⟨hb, hm⟩
   ·replace H := H.know 19 hb (by kernel_rfl)
    refine aw_true (x := .tmp 19) (by kernel_rfl) H (fun fr => by kernel_rfl) ?_
    refine aw_skip (by kernel_rfl) ?_
    show AW cfg 4 g (right (right (left (left (right (left (right (right (right (bodyC cfg.P 4)))))))))) fr h1 _
    refine aw_seq (by kernel_rfl) ?_
    refine aw_block (id := 1) (by kernel_rfl) ?_
    refine aw_seq (by kernel_rfl) ?_
    refine aw_reg (id := 6) (n := 5) [(0, []), (1, []), (2, []), (3, []), (4, [])] (by kernel_rfl) (by kernel_rfl) ?_
    refine at_seg [(0, [])] [(0, vs eS p0), (3, .str x2), (16, vs eS p0), (17, .int .i64 (p0.length : Int)), (18, .int .i64 x3), (20, .int .i64 x3)] H (noU_all rfl) (fun fr => by kernel_rfl) ?_
    intro fr H
    obtain ⟨x6, hx, hm⟩ := bind_some hm
    refine at_step (v := .vptr [.str x6]) (h1 := h1) [(0, vs eS p0), (3, .str x2), (16, vs eS p0), (17, .int .i64 (p0.length : Int)), (18, .int .i64 x3), (20, .int .i64 x3), (21, .vptr [.str x6])] H (fun fr => by kernel_rfl) (fun fr => .of (s_ixV (e := eS) (x := x6) encS (by decide) (by kernel_rfl) hx)) ?_
    intro fr t H
    refine at_step (v := .str x6) (h1 := h1) [(0, vs eS p0), (3, .str x2), (16, vs eS p0), (17, .int .i64 (p0.length : Int)), (18, .int .i64 x3), (20, .int .i64 x3), (22, .str x6)] H (fun fr => by kernel_rfl) (fun fr => .of (s_lv (by kernel_rfl))) ?_
    intro fr t H
    refine at_seg [(3, []), (4, [])] [(0, vs eS p0), (3, .str x2), (4, .int .i64 x3), (5, .str x6), (16, vs eS p0), (17, .int .i64 (p0.length : Int)), (18, .int .i64 x3)] H (noU_all rfl) (fun fr => by kernel_rfl) ?_
    intro fr H
    refine at_nil ?_
    show AW cfg 4 g (right (left (left (right (right (left (left (right (left (right (right (right (bodyC cfg.P 4))))))))))))) fr h1 _
    refine aw_seq (by kernel_rfl) ?_
    refine aw_seq (by kernel_rfl) ?_
    refine aw_reg (id := 7) (n := 3) [(0, []), (1, []), (2, [])] (by kernel_rfl) (by kernel_rfl) ?_
    refine at_seg [(0, []), (1, []), (2, [])] [(0, vs eS p0), (3, .str x2), (4, .int .i64 x3), (5, .str x6), (16, vs eS p0), (17, .int .i64 (p0.length : Int)), (18, .int .i64 x3), (25, .bool (decide ((x6.length : Int) > (60 : Int))))] H (noU_all rfl) (fun fr => by kernel_rfl) ?_
    intro fr H
    refine at_nil ?_
    show AW cfg 4 g (right (left (right (left (left (right (right (left (left (right (left (right (right (right (bodyC cfg.P 4))))))))))))))) fr h1 _
    rcases iteB_some hm with ⟨hb, hm⟩ | ⟨hb, hm⟩
    ·replace H := H.know 25 hb (by kernel_rfl)
     refine aw_true (x := .tmp 25) (by kernel_rfl) H (fun fr => by kernel_rfl) ?_
     refine aw_seq (by kernel_rfl) ?_
     refine aw_reg (id := 8) (n := 2) [(0, []), (1, [])] (by kernel_rfl) (by kernel_rfl) ?_
     obtain ⟨x7, hx, hm⟩ := bind_some hm
     refine at_step (v := .bool x7) (h1 := h1) [(26, .bool x7)] H (fun fr => by kernel_rfl) (fun fr => Steps.call (by kernel_rfl) (ok_boulterlaw24_awake hx)) ?_
     intro fr t H
     refine at_seg [(1, [])] [(2, .bool x7)] H (noU_all rfl) (fun fr => by kernel_rfl) ?_
     intro fr H
     refine at_nil ?_
     show AW cfg 4 g (right (left (right (left (right (left (left (right (right (left (left (right (left (right (right (right (bodyC cfg.P 4))))))))))))))))) fr h1 _
     refine aw_ret (by kernel_rfl) ?_
     exact Exists.intro _ (And.intro (Option.some.inj hm).symm (fun e => Or.inr (Or.inl ⟨x7, rfl, e, H.less _ (fun fr => by kernel_rfl), A⟩)))
    ·replace H := H.know 25 hb (by kernel_rfl)
     refine aw_false (x := .tmp 25) (by kernel_rfl) H (fun fr => by kernel_rfl) ?_
     refine aw_skip (by kernel_rfl) ?_
     show AW cfg 4 g (right (right (left (left (right (right (left (left (right (left (right (right (right (bodyC cfg.P 4)))))))))))))) fr h1 _
     refine aw_seq (by kernel_rfl) ?_
     refine aw_seq (by kernel_rfl) ?_
     refine aw_reg (id := 9) (n := 10) [(0, []), (1, []), (2, []), (3, []), (4, []), (5, []), (6, []), (7, []), (8, []), (9, [])] (by kernel_rfl) (by kernel_rfl) ?_
     refine at_seg [(0, [])] [(0, vs eS p0), (3, .str x2), (4, .int .i64 x3), (5, .str x6), (16, vs eS p0), (17, .int .i64 (p0.length : Int)), (18, .int .i64 x3), (28, .str x6)] H (noU_all rfl) (fun fr => by kernel_rfl) ?_
     intro fr H
     have A1 := A.cut 0
     obtain ⟨⟨x8, x9, x10⟩, hx, hm⟩ := bind_some hm
     obtain ⟨v1, h2, hr, rfl, A1⟩ := ok_boulterref24_Parse (av := [.str x6]) hx (by kernel_rfl) A1
     replace A : HH g h2 [] F := A.glue0 (n := 0) A1
     refine at_step (v := .tuple [.agg (e_S_boulterref24_Expr x8), .int .i64 x9, .int .i64 x10]) (h1 := h2) [(0, vs eS p0), (3, .str x2), (4, .int .i64 x3), (5, .str x6), (16, vs eS p0), (17, .int .i64 (p0.length : Int)), (18, .int .i64 x3), (29, .tuple [.agg (e_S_boulterref24_Expr x8), .int .i64 x9, .int .i64 x10])] H (fun fr => by kernel_rfl) (fun fr => Steps.call (by kernel_rfl) hr) ?_
     intro fr t H
     refine at_seg [(2, []), (3, []), (4, []), (5, [])] [(0, vs eS p0), (3, .str x2), (4, .int .i64 x3), (5, .str x6), (16, vs eS p0), (17, .int .i64 (p0.length : Int)), (18, .int .i64 x3), (30, .agg (e_S_boulterref24_Expr x8)), (31, .int .i64 x9), (32, .int .i64 x10)] H (noU_all rfl) (fun fr => by kernel_rfl) ?_
     intro fr H
     obtain ⟨h3, e1⟩ : ∃ x, x = h2.push (.cells none 2 [.str ([] : List UInt8), .str ([] : List UInt8), .bool false, .bool false, .bool false, .int .i64 (0 : Int), .bool false, .bool false, .bool false]) := ⟨_, rfl⟩
     replace A := (A.push _).to e1
     refine at_step (v := .ptr (some (h2.size, 0))) (h1 := h3) [(0, vs eS p0), (3, .str x2), (4, .int .i64 x3), (5, .str x6), (6, .ptr (some (h2.size, 0))), (16, vs eS p0), (17, .int .i64 (p0.length : Int)), (18, .int .i64 x3), (30, .agg (e_S_boulterref24_Expr x8)), (31, .int .i64 x9), (32, .int .i64 x10)] H (fun fr => by kernel_rfl) (fun fr => .of (s_n' (by kernel_rfl) (congrArg some e1.symm))) ?_
     intro fr t H
     obtain ⟨h4, hx, A1⟩ := A.st 0 rfl (o := 0) (new := [.str x8.Re, .str x8.Template, .bool x8.Global, .bool x8.Fold, .bool x8.Extended, .int .i64 x8.Number, .bool x8.Names, .bool x8.Soft, .bool x8.Hard]) (ds := [.str x8.Re, .str x8.Template, .bool x8.Global, .bool x8.Fold, .bool x8.Extended, .int .i64 x8.Number, .bool x8.Names, .bool x8.Soft, .bool x8.Hard]) (Nat.le_of_ble_eq_true rfl) rfl rfl
     replace A : HH g h4 [.obj h2.size (.cells none 2 (e_S_boulterref24_Expr x8))] F := A1
     refine at_step (v := .tuple []) (h1 := h4) [(0, vs eS p0), (3, .str x2), (4, .int .i64 x3), (5, .str x6), (16, vs eS p0), (17, .int .i64 (p0.length : Int)), (18, .int .i64 x3), (31, .int .i64 x9), (32, .int .i64 x10)] H (fun fr => by kernel_rfl) (fun fr => .of (s_stG (by kernel_rfl) (stG_st hx rfl))) ?_
     intro fr t H
     refine at_seg [(8, []), (9, [])] [(0, vs eS p0), (3, .str x2), (4, .int .i64 x3), (5, .str x6), (8, .int .i64 x10), (16, vs eS p0), (17, .int .i64 (p0.length : Int)), (18, .int .i64 x3)] H (noU_all rfl) (fun fr => by kernel_rfl) ?_
     intro fr H
     refine at_nil ?_
     show AW cfg 4 g (right (left (right (right (left (left (right (right (left (left (right (left (right (right (right (bodyC cfg.P 4)))))))))))))))) fr h4 _
     refine aw_seq (by kernel_rfl) ?_
     refine aw_reg (id := 10) (n := 7) [(0, []), (1, []), (2, []), (3, []), (4, []), (5, []), (6, [])] (by kernel_rfl) (by kernel_rfl) ?_
     refine at_seg [(0, []), (1, []), (2, [])] [(0, vs eS p0), (3, .str x2), (4, .int .i64 x3), (5, .str x6), (16, vs eS p0), (17, .int .i64 (p0.length : Int)), (18, .int .i64 x3), (35, .bool (x10 != (0 : Int)))] H (noU_all rfl) (fun fr => by kernel_rfl) ?_
     intro fr H
     obtain ⟨x11, ho, hm⟩ := bind_some hm
     refine at_cut [(3, []), (4, []), (5, []), (6, [])] (fun fr' h' => Has fr' 92 [(0, vs eS p0), (3, .str x2), (4, .int .i64 x3), (5, .str x6), (16, vs eS p0), (17, .int .i64 (p0.length : Int)), (18, .int .i64 x3), (39, .bool x11)] ∧ HH g h' [.obj h2.size (.cells none 2 (e_S_boulterref24_Expr x8))] F) ?_ ?_
     ·rcases iteB_some ho with ⟨hb, hm⟩ | ⟨hb, hm⟩
      ·replace H := H.know 35 hb (by kernel_rfl)
       refine at_seg [(3, []), (4, []), (5, []), (6, [])] [(0, vs eS p0), (3, .str x2), (4, .int .i64 x3), (5, .str x6), (16, vs eS p0), (17, .int .i64 (p0.length : Int)), (18, .int .i64 x3), (39, .bool true)] H (noU_all rfl) (fun fr => by kernel_rfl) ?_
       intro fr H
       have e1 := Option.some.inj hm
       subst e1
       exact at_nil ⟨H.less _ (fun fr => by kernel_rfl), A⟩
      ·replace H := H.know 35 hb (by kernel_rfl)
       refine at_seg [(3, [])] [(0, vs eS p0), (3, .str x2), (4, .int .i64 x3), (5, .str x6), (16, vs eS p0), (17, .int .i64 (p0.length : Int)), (18, .int .i64 x3), (35, .bool false), (36, .str x6)] H (noU_all rfl) (fun fr => by kernel_rfl) ?_
       intro fr H
       obtain ⟨x12, hx, hm⟩ := bind_some hm
       refine at_step (v := .int .u8 x12) (h1 := h4) [(0, vs eS p0), (3, .str x2), (4, .int .i64 x3), (5, .str x6), (16, vs eS p0), (17, .int .i64 (p0.length : Int)), (18, .int .i64 x3), (35, .bool false), (37, .int .u8 x12)] H (fun fr => by kernel_rfl) (fun fr => .of (s_ixS (by kernel_rfl) hx)) ?_
       intro fr t H
       refine at_seg [(5, []), (6, [])] [(0, vs eS p0), (3, .str x2), (4, .int .i64 x3), (5, .str x6), (16, vs eS p0), (17, .int .i64 (p0.length : Int)), (18, .int .i64 x3), (39, .bool (x12 == (59 : Int)))] H (noU_all rfl) (fun fr => by kernel_rfl) ?_
       intro fr H
       have e1 := Option.some.inj hm
       subst e1
       exact at_nil ⟨H.less _ (fun fr => by kernel_rfl), A⟩
     ·clear A
      intro t fr h5 hK
      obtain ⟨H, A⟩ := hK
      refine at_nil ?_
      show AW cfg 4 g (right (right (left (right (right (left (left (right (right (left (left (right (left (right (right (right (bodyC cfg.P 4))))))))))))))))) fr h5 _
      rcases iteB_some hm with ⟨hb, hm⟩ | ⟨hb, hm⟩
      ·replace H := H.know 39 hb (by kernel_rfl)
       refine aw_true (x := .tmp 39) (by kernel_rfl) H (fun fr => by kernel_rfl) ?_
       refine aw_seq (by kernel_rfl) ?_
       refine aw_reg (id := 11) (n := 2) [(0, []), (1, [])] (by kernel_rfl) (by kernel_rfl) ?_
       obtain ⟨x13, hx, hm⟩ := bind_some hm
       refine at_step (v := .bool x13) (h1 := h5) [(40, .bool x13)] H (fun fr => by kernel_rfl) (fun fr => Steps.call (by kernel_rfl) (ok_boulterlaw24_awake hx)) ?_
       intro fr t H
       refine at_seg [(1, [])] [(2, .bool x13)] H (noU_all rfl) (fun fr => by kernel_rfl) ?_
       intro fr H
       refine at_nil ?_
       show AW cfg 4 g (right (left (right (right (left (right (right (left (left (right (right (left (left (right (left (right (right (right (bodyC cfg.P 4))))))))))))))))))) fr h5 _
       refine aw_ret (by kernel_rfl) ?_
       replace A : HH g h5 [] F := (HH.dropF A 0)
       exact Exists.intro _ (And.intro (Option.some.inj hm).symm (fun e => Or.inr (Or.inl ⟨x13, rfl, e, H.less _ (fun fr => by kernel_rfl), A⟩)))
      ·replace H := H.know 39 hb (by kernel_rfl)
       refine aw_false (x := .tmp 39) (by kernel_rfl) H (fun fr => by kernel_rfl) ?_
       refine aw_skip (by kernel_rfl) ?_
       show AW cfg 4 g (right (right (right (left (left (right (right (left (left (right (left (right (right (right (bodyC cfg.P 4))))))))))))))) fr h5 _
       refine aw_seq (by kernel_rfl) ?_
       obtain ⟨o2, ho, hm⟩ := bind_some hm
       refine aw_mono (Q' := fun e fr' h' => (∃ (x14 : List UInt8), e = .normal ∧ x14 = o2 ∧ Has fr' 92 [(0, vs eS p0), (3, .str x14), (5, .str x6), (16, vs eS p0), (17, .int .i64 (p0.length : Int)), (18, .int .i64 x3)] ∧ HH g h' [.obj h2.size (.cells none 2 (e_S_boulterref24_Expr x8))] F) ∨ False) ?_ ?_
       ·replace hm := ho
        clear ho
        refine aw_seq (by kernel_rfl) ?_
        refine aw_reg (id := 12) (n := 2) [(0, []), (1, [])] (by kernel_rfl) (by kernel_rfl) ?_
        refine at_seg [(0, []), (1, [])] [(0, vs eS p0), (3, .str x2), (5, .str x6), (16, vs eS p0), (17, .int .i64 (p0.length : Int)), (18, .int .i64 x3), (42, .bool (decide (x3 > (0 : Int))))] H (noU_all rfl) (fun fr => by kernel_rfl) ?_
        intro fr H
        refine at_nil ?_
        show AW cfg 4 g (right (left (right (right (right (left (left (right (right (left (left (right (left (right (right (right (bodyC cfg.P 4))))))))))))))))) fr h5 _
        rcases iteB_some hm with ⟨hb, hm⟩ | ⟨hb, hm⟩
        ·replace H := H.know 42 hb (by kernel_rfl)
         refine aw_true (x := .tmp 42) (by kernel_rfl) H (fun fr => by kernel_rfl) ?_
         refine aw_reg (id := 13) (n := 3) [(0, []), (1, []), (2, [])] (by kernel_rfl) (by kernel_rfl) ?_
         refine at_seg [(0, [])] [(0, vs eS p0), (5, .str x6), (16, vs eS p0), (17, .int .i64 (p0.length : Int)), (18, .int .i64 x3), (43, .str x2)] H (noU_all rfl) (fun fr => by kernel_rfl) ?_
         intro fr H
         obtain ⟨hb, hm⟩ := need_some hm
         refine at_step (v := .str (x2 ++ ([59] : List UInt8))) (h1 := h5) [(0, vs eS p0), (5, .str x6), (16, vs eS p0), (17, .int .i64 (p0.length : Int)), (18, .int .i64 x3), (44, .str (x2 ++ ([59] : List UInt8)))] H (fun fr => by kernel_rfl) (fun fr => .of (s_cat (by kernel_rfl) hb)) ?_
         intro fr t H
         refine at_seg [(2, [])] [(0, vs eS p0), (3, .str (x2 ++ ([59] : List UInt8))), (5, .str x6), (16, vs eS p0), (17, .int .i64 (p0.length : Int)), (18, .int .i64 x3)] H (noU_all rfl) (fun fr => by kernel_rfl) ?_
         intro fr H
         refine at_nil ?_
         exact Or.inl ⟨x2 ++ ([59] : List UInt8), rfl, Option.some.inj hm, H.less _ (fun fr => by kernel_rfl), A⟩
        ·replace H := H.know 42 hb (by kernel_rfl)
         refine aw_false (x := .tmp 42) (by kernel_rfl) H (fun fr => by kernel_rfl) ?_
         refine aw_skip (by kernel_rfl) ?_
         exact Or.inl ⟨x2, rfl, Option.some.inj hm, H.less _ (fun fr => by kernel_rfl), A⟩
       ·clear ho
        clear A
        intro e fr h6 hQ
        rcases hQ with ⟨x14, rfl, rfl, H, A⟩ | hF
        ·skip
         show AW cfg 4 g (right (right (right (right (left (left (right (right (left (left (right (left (right (right (right (bodyC cfg.P 4)))))))))))))))) fr h6 _
         refine aw_reg (id := 14) (n := 4) [(0, []), (1, []), (2, []), (3, [])] (by kernel_rfl) (by kernel_rfl) ?_
         refine at_seg [(0, []), (1, [])] [(0, vs eS p0), (16, vs eS p0), (17, .int .i64 (p0.length : Int)), (18, .int .i64 x3), (45, .str x14), (46, .str x6)] H (noU_all rfl) (fun fr => by kernel_rfl) ?_
         intro fr H
         obtain ⟨hb, hm⟩ := need_some hm
         refine at_step (v := .str (x14 ++ x6)) (h1 := h6) [(0, vs eS p0), (16, vs eS p0), (17, .int .i64 (p0.length : Int)), (18, .int .i64 x3), (47, .str (x14 ++ x6))] H (fun fr => by kernel_rfl) (fun fr => .of (s_cat (by kernel_rfl) hb)) ?_
         intro fr t H
         refine at_seg [(3, [])] [(0, vs eS p0), (3, .str (x14 ++ x6)), (16, vs eS p0), (17, .int .i64 (p0.length : Int)), (18, .int .i64 x3)] H (noU_all rfl) (fun fr => by kernel_rfl) ?_
         intro fr H
         refine at_nil ?_
         show AW cfg 4 g (right (right (right (left (left (right (left (right (right (right (bodyC cfg.P 4))))))))))) fr h6 _
         refine aw_reg (id := 15) (n := 2) [(0, []), (1, [])] (by kernel_rfl) (by kernel_rfl) ?_
         refine at_seg [(0, []), (1, [])] [(0, vs eS p0), (3, .str (x14 ++ x6)), (16, vs eS p0), (17, .int .i64 (p0.length : Int)), (18, .int .i64 (IntKind.i64.wrap (x3 + (1 : Int))))] H (noU_all rfl) (fun fr => by kernel_rfl) ?_
         intro fr H
         refine at_nil ?_
         replace A : HH g h6 [] F := (HH.dropF A 0)
         exact Exists.intro (x14 ++ x6, IntKind.i64.wrap (x3 + (1 : Int))) (And.intro (Option.some.inj hm).symm ⟨x14 ++ x6, IntKind.i64.wrap (x3 + (1 : Int)), rfl, H.less _ (fun fr => by kernel_rfl), A⟩)
        ·exact hF.elim
   ·replace H := H.know 19 hb (by kernel_rfl)
    refine aw_false (x := .tmp 19) (by kernel_rfl) H (fun fr => by kernel_rfl) ?_
    refine aw_exit (i := 0) (by kernel_rfl) ?_
    exact Exists.intro _ (And.intro (Option.some.inj hm).symm (fun e => Or.inl ⟨x2, rfl, e, H.less _ (fun fr => by kernel_rfl), A⟩))
  ·clear ho
   clear A
   intro e fr h7 hQ
   rcases hQ with ⟨x4, rfl, rfl, H, A⟩ | ⟨x5, rfl, rfl, H, A⟩ | hF
   ·skip
    show AW cfg 4 g (right (right (right (right (bodyC cfg.P 4))))) fr h7 _
    refine aw_seq (by kernel_rfl) ?_
    refine aw_reg (id := 16) (n := 7) [(0, []), (1, []), (2, []), (3, []), (4, []), (5, []), (6, [])] (by kernel_rfl) (by kernel_rfl) ?_
    refine at_seg [(0, [])] [(0, vs eS p0), (50, .str x4)] H (noU_all rfl) (fun fr => by kernel_rfl) ?_
    intro fr H
    have A1 := A.cut 0
    obtain ⟨⟨x15, x16⟩, hx, hm⟩ := bind_some hm
    obtain ⟨v1, h8, hr, rqw4, rfl, A1⟩ := ok_rewrite_List (av := [.str x4]) hx (by kernel_rfl) A1
    replace A : HH g h8 [.lst rqw4 9 (lst eS x15)] F := A.glue0 (n := 0) A1
    refine at_step (v := .tuple [rowV rqw4 x15.length, .bool x16]) (h1 := h8) [(0, vs eS p0), (51, .tuple [rowV rqw4 x15.length, .bool x16])] H (fun fr => by kernel_rfl) (fun fr => Steps.call (by kernel_rfl) hr) ?_
    intro fr t H
    refine at_seg [(2, []), (3, []), (4, []), (5, []), (6, [])] [(0, vs eS p0), (9, rowV rqw4 x15.length), (10, .bool x16)] H (noU_all rfl) (fun fr => by kernel_rfl) ?_
    intro fr H
    refine at_nil ?_
    show AW cfg 4 g (right (right (right (right (right (bodyC cfg.P 4)))))) fr h8 _
    refine aw_seq (by kernel_rfl) ?_
    refine aw_seq (by kernel_rfl) ?_
    refine aw_reg (id := 17) (n := 3) [(0, []), (1, []), (2, [])] (by kernel_rfl) (by kernel_rfl) ?_
    refine at_seg [(0, []), (1, []), (2, [])] [(0, vs eS p0), (9, rowV rqw4 x15.length), (10, .bool x16), (56, .bool ((p0.length : Int) == (0 : Int)))] H (noU_all rfl) (fun fr => by kernel_rfl) ?_
    intro fr H
    refine at_nil ?_
    show AW cfg 4 g (right (left (right (right (right (right (right (bodyC cfg.P 4)))))))) fr h8 _
    rcases iteB_some hm with ⟨hb, hm⟩ | ⟨hb, hm⟩
    ·replace H := H.know 56 hb (by kernel_rfl)
     refine aw_true (x := .tmp 56) (by kernel_rfl) H (fun fr => by kernel_rfl) ?_
     refine aw_seq (by kernel_rfl) ?_
     refine aw_reg (id := 18) (n := 11) [(0, []), (1, []), (2, []), (3, []), (4, []), (5, []), (6, []), (7, []), (8, []), (9, []), (10, [])] (by kernel_rfl) (by kernel_rfl) ?_
     refine at_seg [(0, []), (1, []), (2, [])] [(9, rowV rqw4 x15.length), (59, .bool (!x16))] H (noU_all rfl) (fun fr => by kernel_rfl) ?_
     intro fr H
     refine at_cut [(3, []), (4, []), (5, []), (6, [])] (fun fr' h' => h8 = h' ∧ Has fr' 92 [(63, .bool ((!x16) && ((x15.length : Int) == (0 : Int))))]) ?_ ?_
     ·cases hb : (!x16 : Bool) with
      | true =>
       replace H := H.know 59 hb (by kernel_rfl)
       refine at_seg [(3, []), (4, []), (5, []), (6, [])] [(63, .bool ((x15.length : Int) == (0 : Int)))] H (noU_all rfl) (fun fr => by kernel_rfl) ?_
       intro fr H
       exact at_nil ⟨rfl, by first | exact H.less _ (fun fr => by rfl) | exact H.less _ (fun fr => by rw [hb]; rfl)⟩
      | false =>
       replace H := H.know 59 hb (by kernel_rfl)
       refine at_seg [(3, []), (4, []), (5, []), (6, [])] [(63, .bool false)] H (noU_all rfl) (fun fr => by kernel_rfl) ?_
       intro fr H
       exact at_nil ⟨rfl, by first | exact H.less _ (fun fr => by rfl) | exact H.less _ (fun fr => by rw [hb]; rfl)⟩
     ·intro t fr h' hK
      obtain ⟨e, H⟩ := hK
      subst e
      refine at_seg [(7, [])] [(64, .bool ((!x16) && ((x15.length : Int) == (0 : Int))))] H (noU_all rfl) (fun fr => by kernel_rfl) ?_
      intro fr H
      obtain ⟨x17, ho, hm⟩ := bind_some hm
      refine at_cut [(8, []), (9, [])] (fun fr' h' => Has fr' 92 [(66, .bool x17)] ∧ HH g h' [] F) ?_ ?_
      ·rcases iteB_some ho with ⟨hb, hm⟩ | ⟨hb, hm⟩
       ·replace H := H.know 64 hb (by kernel_rfl)
        obtain ⟨x18, hx, hm⟩ := bind_some hm
        refine at_step (v := .bool x18) (h1 := h8) [(64, .bool true), (65, .bool x18)] H (fun fr => by kernel_rfl) (fun fr => Steps.call (by kernel_rfl) (ok_boulterlaw24_awake hx)) ?_
        intro fr t H
        refine at_seg [(9, [])] [(66, .bool x18)] H (noU_all rfl) (fun fr => by kernel_rfl) ?_
        intro fr H
        have e1 := Option.some.inj hm
        subst e1
        replace A : HH g h8 [] F := (HH.dropF A 0)
        exact at_nil ⟨H.less _ (fun fr => by kernel_rfl), A⟩
       ·replace H := H.know 64 hb (by kernel_rfl)
        refine at_seg [(8, []), (9, [])] [(66, .bool false)] H (noU_all rfl) (fun fr => by kernel_rfl) ?_
        intro fr H
        have e1 := Option.some.inj hm
        subst e1
        replace A : HH g h8 [] F := (HH.dropF A 0)
        exact at_nil ⟨H.less _ (fun fr => by kernel_rfl), A⟩
      ·clear A
       intro t fr h9 hK
       obtain ⟨H, A⟩ := hK
       refine at_seg [(10, [])] [(2, .bool x17)] H (noU_all rfl) (fun fr => by kernel_rfl) ?_
       intro fr H
       refine at_nil ?_
       show AW cfg 4 g (right (left (right (left (right (right (right (right (right (bodyC cfg.P 4)))))))))) fr h9 _
       refine aw_ret (by kernel_rfl) ?_
       have e1 := Option.some.inj hm
       subst e1
       refine ⟨.inl rfl, .bool x17, resH H (fun fr => by kernel_rfl), ?_⟩
       exact ⟨rfl, A⟩
    ·replace H := H.know 56 hb (by kernel_rfl)
     refine aw_false (x := .tmp 56) (by kernel_rfl) H (fun fr => by kernel_rfl) ?_
     refine aw_skip (by kernel_rfl) ?_
     show AW cfg 4 g (right (right (right (right (right (right (bodyC cfg.P 4))))))) fr h8 _
     refine aw_seq (by kernel_rfl) ?_
     refine aw_seq (by kernel_rfl) ?_
     refine aw_reg (id := 19) (n := 9) [(0, []), (1, []), (2, []), (3, []), (4, []), (5, []), (6, []), (7, []), (8, [])] (by kernel_rfl) (by kernel_rfl) ?_
     refine at_seg [(0, []), (1, []), (2, [])] [(0, vs eS p0), (9, rowV rqw4 x15.length), (69, .bool (!x16))] H (noU_all rfl) (fun fr => by kernel_rfl) ?_
     intro fr H
     refine at_cut [(3, []), (4, []), (5, []), (6, []), (7, []), (8, [])] (fun fr' h' => h8 = h' ∧ Has fr' 92 [(0, vs eS p0), (9, rowV rqw4 x15.length), (75, .bool ((!x16) || ((x15.length : Int) != (p0.length : Int))))]) ?_ ?_
     ·cases hb : (!x16 : Bool) with
      | true =>
       replace H := H.know 69 hb (by kernel_rfl)
       refine at_seg [(3, []), (4, []), (5, []), (6, []), (7, []), (8, [])] [(0, vs eS p0), (9, rowV rqw4 x15.length), (75, .bool true)] H (noU_all rfl) (fun fr => by kernel_rfl) ?_
       intro fr H
       exact at_nil ⟨rfl, by first | exact H.less _ (fun fr => by rfl) | exact H.less _ (fun fr => by rw [hb]; rfl)⟩
      | false =>
       replace H := H.know 69 hb (by kernel_rfl)
       refine at_seg [(3, []), (4, []), (5, []), (6, []), (7, []), (8, [])] [(0, vs eS p0), (9, rowV rqw4 x15.length), (75, .bool ((x15.length : Int) != (p0.length : Int)))] H (noU_all rfl) (fun fr => by kernel_rfl) ?_
       intro fr H
       exact at_nil ⟨rfl, by first | exact H.less _ (fun fr => by rfl) | exact H.less _ (fun fr => by rw [hb]; rfl)⟩
     ·intro t fr h' hK
      obtain ⟨e, H⟩ := hK
      subst e
      refine at_nil ?_
      show AW cfg 4 g (right (left (right (right (right (right (right (right (bodyC cfg.P 4))))))))) fr h8 _
      rcases iteB_some hm with ⟨hb, hm⟩ | ⟨hb, hm⟩
      ·replace H := H.know 75 hb (by kernel_rfl)
       refine aw_true (x := .tmp 75) (by kernel_rfl) H (fun fr => by kernel_rfl) ?_
       refine aw_seq (by kernel_rfl) ?_
       refine aw_reg (id := 20) (n := 1) [(0, [])] (by kernel_rfl) (by kernel_rfl) ?_
       refine at_seg [(0, [])] [(2, .bool false)] H (noU_all rfl) (fun fr => by kernel_rfl) ?_
       intro fr H
       refine at_nil ?_
       show AW cfg 4 g (right (left (right (left (right (right (right (right (right (right (bodyC cfg.P 4))))))))))) fr h8 _
       refine aw_ret (by kernel_rfl) ?_
       have e1 := Option.some.inj hm
       subst e1
       refine ⟨.inl rfl, .bool false, resH H (fun fr => by kernel_rfl), ?_⟩
       replace A : HH g h8 [] F := (HH.dropF A 0)
       exact ⟨rfl, A⟩
      ·replace H := H.know 75 hb (by kernel_rfl)
       refine aw_false (x := .tmp 75) (by kernel_rfl) H (fun fr => by kernel_rfl) ?_
       refine aw_skip (by kernel_rfl) ?_
       show AW cfg 4 g (right (right (right (right (right (right (right (bodyC cfg.P 4)))))))) fr h8 _
       refine aw_seq (by kernel_rfl) ?_
       refine aw_seq (by kernel_rfl) ?_
       refine aw_reg (id := 21) (n := 3) [(0, []), (1, []), (2, [])] (by kernel_rfl) (by kernel_rfl) ?_
       refine at_seg [(0, []), (1, []), (2, [])] [(0, vs eS p0), (9, rowV rqw4 x15.length), (77, .int .i64 (p0.length : Int)), (78, .int .i64 (0 : Int))] H (noU_all rfl) (fun fr => by kernel_rfl) ?_
       intro fr H
       refine at_nil ?_
       show AW cfg 4 g (right (left (right (right (right (right (right (right (right (bodyC cfg.P 4)))))))))) fr h8 _
       refine aw_block (id := 2) (by kernel_rfl) ?_
       obtain ⟨o3, ho, hm⟩ := bind_some hm
       refine aw_mono (Q' := fun e fr' h' => (e = .exit 2 ∧ .inl () = o3 ∧ Has fr' 92 [] ∧ HH g h' [] F) ∨ (∃ (x20 : Bool), e = .ret ∧ .inr x20 = o3 ∧ Has fr' 92 [(2, .bool x20)] ∧ HH g h' [] F) ∨ False) ?_ ?_
       ·refine aw_loop (by kernel_rfl) (fun (s : Int) fr' h' => ∃ (x19 : Int), x19 = s ∧ Has fr' 92 [(0, vs eS p0), (9, rowV rqw4 x15.length), (77, .int .i64 (p0.length : Int)), (78, .int .i64 x19)] ∧ HH g h' [.lst rqw4 9 (lst eS x15)] F) ho ⟨(0 : Int), rfl, H.less _ (fun fr => by kernel_rfl), A⟩ ?_
        clear ho hm H A
        intro s q fr h10 hI hm
        obtain ⟨x19, rfl, H, A⟩ := hI
        unfold M_boulterlaw24_RewriteList_L1 at hm
        refine aw_seq (by kernel_rfl) ?_
        refine aw_reg (id := 22) (n := 1) [(0, [])] (by kernel_rfl) (by kernel_rfl) ?_
        refine at_seg [(0, [])] [(0, vs eS p0), (9, rowV rqw4 x15.length), (77, .int .i64 (p0.length : Int)), (78, .int .i64 x19), (79, .bool (decide (x19 < (p0.length : Int))))] H (noU_all rfl) (fun fr => by kernel_rfl) ?_
        intro fr H
        refine at_nil ?_
        show AW cfg 4 g (right (left (left (right (left (right (right (right (right (right (right (right (bodyC cfg.P 4))))))))))))) fr h10 _
        refine aw_seq (by kernel_rfl) ?_
        rcases iteB_some hm with ⟨hb, hm⟩ | ⟨hb, hm⟩
        ·replace H := H.know 79 hb (by kernel_rfl)
         refine aw_true (x := .tmp 79) (by kernel_rfl) H (fun fr => by kernel_rfl) ?_
         refine aw_skip (by kernel_rfl) ?_
         show AW cfg 4 g (right (right (left (left (right (left (right (right (right (right (right (right (right (bodyC cfg.P 4)))))))))))))) fr h10 _
         refine aw_seq (by kernel_rfl) ?_
         refine aw_block (id := 3) (by kernel_rfl) ?_
         refine aw_seq (by kernel_rfl) ?_
         refine aw_reg (id := 23) (n := 2) [(0, []), (1, [])] (by kernel_rfl) (by kernel_rfl) ?_
         refine at_seg [(0, []), (1, [])] [(0, vs eS p0), (9, rowV rqw4 x15.length), (11, .int .i64 x19), (77, .int .i64 (p0.length : Int)), (78, .int .i64 x19)] H (noU_all rfl) (fun fr => by kernel_rfl) ?_
         intro fr H
         refine at_nil ?_
         show AW cfg 4 g (right (left (left (right (right (left (left (right (left (right (right (right (right (right (right (right (bodyC cfg.P 4))))))))))))))))) fr h10 _
         refine aw_seq (by kernel_rfl) ?_
         refine aw_draw (id := 24) (n := 9) (by kernel_rfl) [(0, []), (1, []), (2, []), (3, []), (4, []), (5, []), (6, []), (7, []), (8, [])] (by kernel_rfl) ?_
         refine at_seg [(0, []), (1, [])] [(0, vs eS p0), (9, rowV rqw4 x15.length), (11, .int .i64 x19), (77, .int .i64 (p0.length : Int)), (78, .int .i64 x19), (81, rowV rqw4 x15.length), (82, .int .i64 x19)] H (noU_all rfl) (fun fr => by kernel_rfl) ?_
         intro fr H
         obtain ⟨x21, hx, hm⟩ := bind_some hm
         obtain ⟨i1, er1, _, hx, hq1⟩ := HH.ixO encS (by decide) A 0 (xs := x15) rfl hx
         refine at_step (v := .ptr (some (i1, x19.toNat * 1))) (h1 := h10) [(0, vs eS p0), (9, rowV rqw4 x15.length), (11, .int .i64 x19), (77, .int .i64 (p0.length : Int)), (78, .int .i64 x19), (83, .ptr (some (i1, x19.toNat * 1)))] H (fun fr => by kernel_rfl) (fun fr => .of (s_ixL (s := rowS rqw4 x15.length) (by kernel_rfl) hx)) ?_
         intro fr t H
         refine at_step (v := .str x21) (h1 := h10) [(0, vs eS p0), (9, rowV rqw4 x15.length), (11, .int .i64 x19), (77, .int .i64 (p0.length : Int)), (78, .int .i64 x19), (84, .str x21)] H (fun fr => by kernel_rfl) (fun fr => .of (s_ld (by kernel_rfl) (row_ld1 encS (HH.row A 0 rfl er1) hq1 (o := 0) rfl))) ?_
         intro fr t H
         refine at_seg [(4, []), (5, [])] [(0, vs eS p0), (9, rowV rqw4 x15.length), (77, .int .i64 (p0.length : Int)), (78, .int .i64 x19), (84, .str x21), (85, vs eS p0), (86, .int .i64 x19)] H (noU_all rfl) (fun fr => by kernel_rfl) ?_
         intro fr H
         obtain ⟨x22, hx, hm⟩ := bind_some hm
         refine at_step (v := .vptr [.str x22]) (h1 := h10) [(0, vs eS p0), (9, rowV rqw4 x15.length), (77, .int .i64 (p0.length : Int)), (78, .int .i64 x19), (84, .str x21), (87, .vptr [.str x22])] H (fun fr => by kernel_rfl) (fun fr => .of (s_ixV (e := eS) (x := x22) encS (by decide) (by kernel_rfl) hx)) ?_
         intro fr t H
         refine at_step (v := .str x22) (h1 := h10) [(0, vs eS p0), (9, rowV rqw4 x15.length), (77, .int .i64 (p0.length : Int)), (78, .int .i64 x19), (84, .str x21), (88, .str x22)] H (fun fr => by kernel_rfl) (fun fr => .of (s_lv (by kernel_rfl))) ?_
         intro fr t H
         refine at_seg [(8, [])] [(0, vs eS p0), (9, rowV rqw4 x15.length), (77, .int .i64 (p0.length : Int)), (78, .int .i64 x19), (89, .bool (!(x21 == x22)))] H (noU_all rfl) (fun fr => by kernel_rfl) ?_
         intro fr H
         refine at_nil ?_
         show AW cfg 4 g (right (right (left (left (right (right (left (left (right (left (right (right (right (right (right (right (right (bodyC cfg.P 4)))))))))))))))))) fr h10 _
         rcases iteB_some hm with ⟨hb, hm⟩ | ⟨hb, hm⟩
         ·replace H := H.know 89 hb (by kernel_rfl)
          refine aw_true (x := .tmp 89) (by kernel_rfl) H (fun fr => by kernel_rfl) ?_
          refine aw_seq (by kernel_rfl) ?_
          refine aw_reg (id := 25) (n := 1) [(0, [])] (by kernel_rfl) (by kernel_rfl) ?_
          refine at_seg [(0, [])] [(2, .bool false)] H (noU_all rfl) (fun fr => by kernel_rfl) ?_
          intro fr H
          refine at_nil ?_
          show AW cfg 4 g (right (left (right (right (left (left (right (right (left (left (right (left (right (right (right (right (right (right (right (bodyC cfg.P 4)))))))))))))))))))) fr h10 _
          refine aw_ret (by kernel_rfl) ?_
          replace A : HH g h10 [] F := (HH.dropF A 0)
          exact Exists.intro _ (And.intro (Option.some.inj hm).symm (fun e => Or.inr (Or.inl ⟨false, rfl, e, H.less _ (fun fr => by kernel_rfl), A⟩)))
         ·replace H := H.know 89 hb (by kernel_rfl)
          refine aw_false (x := .tmp 89) (by kernel_rfl) H (fun fr => by kernel_rfl) ?_
          refine aw_skip (by kernel_rfl) ?_
          show AW cfg 4 g (right (right (right (left (left (right (left (right (right (right (right (right (right (right (bodyC cfg.P 4))))))))))))))) fr h10 _
          refine aw_reg (id := 26) (n := 2) [(0, []), (1, [])] (by kernel_rfl) (by kernel_rfl) ?_
          refine at_seg [(0, []), (1, [])] [(0, vs eS p0), (9, rowV rqw4 x15.length), (77, .int .i64 (p0.length : Int)), (78, .int .i64 (IntKind.i64.wrap (x19 + (1 : Int))))] H (noU_all rfl) (fun fr => by kernel_rfl) ?_
          intro fr H
          refine at_nil ?_
          exact Exists.intro (IntKind.i64.wrap (x19 + (1 : Int))) (And.intro (Option.some.inj hm).symm ⟨IntKind.i64.wrap (x19 + (1 : Int)), rfl, H.less _ (fun fr => by kernel_rfl), A⟩)
        ·replace H := H.know 79 hb (by kernel_rfl)
         refine aw_false (x := .tmp 79) (by kernel_rfl) H (fun fr => by kernel_rfl) ?_
         refine aw_exit (i := 2) (by kernel_rfl) ?_
         replace A : HH g h10 [] F := (HH.dropF A 0)
         exact Exists.intro _ (And.intro (Option.some.inj hm).symm (fun e => Or.inl ⟨rfl, e, H.less _ (fun fr => by kernel_rfl), A⟩))
       ·clear ho
        clear A
        intro e fr h11 hQ
        rcases hQ with ⟨rfl, rfl, H, A⟩ | ⟨x20, rfl, rfl, H, A⟩ | hF
        ·skip
         show AW cfg 4 g (right (right (right (right (right (right (right (right (bodyC cfg.P 4))))))))) fr h11 _
         refine aw_seq (by kernel_rfl) ?_
         refine aw_reg (id := 27) (n := 2) [(0, []), (1, [])] (by kernel_rfl) (by kernel_rfl) ?_
         obtain ⟨x23, hx, hm⟩ := bind_some hm
         refine at_step (v := .bool x23) (h1 := h11) [(91, .bool x23)] H (fun fr => by kernel_rfl) (fun fr => Steps.call (by kernel_rfl) (ok_boulterlaw24_awake hx)) ?_
         intro fr t H
         refine at_seg [(1, [])] [(2, .bool x23)] H (noU_all rfl) (fun fr => by kernel_rfl) ?_
         intro fr H
         refine at_nil ?_
         show AW cfg 4 g (right (right (right (right (right (right (right (right (right (bodyC cfg.P 4)))))))))) fr h11 _
         refine aw_ret (by kernel_rfl) ?_
         have e1 := Option.some.inj hm
         subst e1
         refine ⟨.inl rfl, .bool x23, resH H (fun fr => by kernel_rfl), ?_⟩
         exact ⟨rfl, A⟩
        ·skip
         have e1 := Option.some.inj hm
         subst e1
         refine ⟨.inl rfl, .bool x20, resH H (fun fr => by kernel_rfl), ?_⟩
         exact ⟨rfl, A⟩
        ·exact hF.elim
   ·skip
    have e1 := Option.some.inj hm
    subst e1
    refine ⟨.inl rfl, .bool x5, resH H (fun fr => by kernel_rfl), ?_⟩
    exact ⟨rfl, A⟩
   ·exact hF.elim
end Go.Av.L
