/-
 Models of functions, and that the abstract run tells them. Written by lift2.py.
-/
import Derived.Test.YtkdlmohhklimjaaGreatDoorKCfg
import Derived.Test.YtkdlmohhklimjaaGreatDoorK0
import Derived.Test.YtkdlmohhklimjaaGreatDoorK2
import Derived.Test.YtkdlmohhklimjaaGreatDoorK3
namespace Go.Av.L
open Go.Av Go.Lib
set_option maxRecDepth 10000
set_option linter.unusedVariables false
set_option linter.unusedSimpArgs false
/-! ### boulter/boulterlaw24.RewriteParses -/
noncomputable def M_boulterlaw24_RewriteParses (p0 : List UInt8) : Option (Bool) :=
 iteB (decide ((p0.length : Int) > (200 : Int))) ((M_boulterlaw24_awake).bind fun x1 => some x1) ((M_rewrite_Parse p0).bind fun (x2, x3, x4) => (M_boulterref24_Parse p0).bind fun (x5, x6, x7) => (eqG cfg.P 28 [.str x2.Re, .str x2.Template, .bool x2.Global, .bool x2.Fold, .bool x2.Extended, .int .i64 x2.Number, .bool x2.Names, .bool x2.Soft, .bool x2.Hard] [.str x5.Re, .str x5.Template, .bool x5.Global, .bool x5.Fold, .bool x5.Extended, .int .i64 x5.Number, .bool x5.Names, .bool x5.Soft, .bool x5.Hard]).bind fun x8 => (iteB ((x8 && (x3 == x6)) && (x4 == x7)) ((M_boulterlaw24_awake).bind fun x10 => some x10) (some false) : Option (Bool)).bind fun x9 => some x9)
theorem ok_boulterlaw24_RewriteParses {g : Gd} {h : AHeap} {F : List Ck} {p0 : List UInt8} {q0 : Bool} {av : List AVal} (hm : M_boulterlaw24_RewriteParses p0 = some q0) (hc : canL (cfg.still 3) av = [.str p0]) (A : HH g h [] F) : ∃ v h', Runs cfg g h 3 av v h' ∧ v = .bool q0 ∧ HH g h' [] F := by
 refine runsQ1 (n := 41) (rs := [.tmp 2]) (by kernel_rfl) hc (by kernel_rfl) ?_
 clear hc
 unfold M_boulterlaw24_RewriteParses at hm
 refine start (n := 41) [(0, .str p0)] (by kernel_rfl) (by kernel_rfl) ?_
 intro fr H
 refine aw_seq (by kernel_rfl) ?_
 refine aw_reg (id := 0) (n := 1) [(0, [])] (by kernel_rfl) (by kernel_rfl) ?_
 refine at_seg [(0, [])] [(0, .str p0)] H (noU_all rfl) (fun fr => by kernel_rfl) ?_
 intro fr H
 refine at_nil ?_
 show AW cfg 3 g (right (bodyC cfg.P 3)) fr h _
 refine aw_seq (by kernel_rfl) ?_
 refine aw_seq (by kernel_rfl) ?_
 refine aw_reg (id := 1) (n := 3) [(0, []), (1, []), (2, [])] (by kernel_rfl) (by kernel_rfl) ?_
 refine at_seg [(0, []), (1, []), (2, [])] [(0, .str p0), (11, .bool (decide ((p0.length : Int) > (200 : Int))))] H (noU_all rfl) (fun fr => by kernel_rfl) ?_
 intro fr H
 refine at_nil ?_
 show AW cfg 3 g (right (left (right (bodyC cfg.P 3)))) fr h _
 rcases iteB_some hm with ⟨hb, hm⟩ | ⟨hb, hm⟩
 ·replace H := H.know 11 hb (by kernel_rfl)
  refine aw_true (x := .tmp 11) (by kernel_rfl) H (fun fr => by kernel_rfl) ?_
  refine aw_seq (by kernel_rfl) ?_
  refine aw_reg (id := 2) (n := 2) [(0, []), (1, [])] (by kernel_rfl) (by kernel_rfl) ?_
  obtain ⟨x1, hx, hm⟩ := bind_some hm
  refine at_step (v := .bool x1) (h1 := h) [(12, .bool x1)] H (fun fr => by kernel_rfl) (fun fr => Steps.call (by kernel_rfl) (ok_boulterlaw24_awake hx)) ?_
  intro fr t H
  refine at_seg [(1, [])] [(2, .bool x1)] H (noU_all rfl) (fun fr => by kernel_rfl) ?_
  intro fr H
  refine at_nil ?_
  show AW cfg 3 g (right (left (right (left (right (bodyC cfg.P 3)))))) fr h _
  refine aw_ret (by kernel_rfl) ?_
  have e1 := Option.some.inj hm
  subst e1
  refine ⟨.inl rfl, .bool x1, resH H (fun fr => by kernel_rfl), ?_⟩
  exact ⟨rfl, A⟩
 ·replace H := H.know 11 hb (by kernel_rfl)
  refine aw_false (x := .tmp 11) (by kernel_rfl) H (fun fr => by kernel_rfl) ?_
  refine aw_skip (by kernel_rfl) ?_
  show AW cfg 3 g (right (right (bodyC cfg.P 3))) fr h _
  refine aw_seq (by kernel_rfl) ?_
  refine aw_reg (id := 3) (n := 10) [(0, []), (1, []), (2, []), (3, []), (4, []), (5, []), (6, []), (7, []), (8, []), (9, [])] (by kernel_rfl) (by kernel_rfl) ?_
  refine at_seg [(0, [])] [(0, .str p0), (14, .str p0)] H (noU_all rfl) (fun fr => by kernel_rfl) ?_
  intro fr H
  have A1 := A.cut 0
  obtain ⟨⟨x2, x3, x4⟩, hx, hm⟩ := bind_some hm
  obtain ⟨v1, h1, hr, rfl, A1⟩ := ok_rewrite_Parse (av := [.str p0]) hx (by kernel_rfl) A1
  replace A : HH g h1 [] F := A.glue0 (n := 0) A1
  refine at_step (v := .tuple [.agg (e_S_rewrite_Expr x2), .int .i64 x3, .int .i64 x4]) (h1 := h1) [(0, .str p0), (15, .tuple [.agg (e_S_rewrite_Expr x2), .int .i64 x3, .int .i64 x4])] H (fun fr => by kernel_rfl) (fun fr => Steps.call (by kernel_rfl) hr) ?_
  intro fr t H
  refine at_seg [(2, []), (3, []), (4, []), (5, [])] [(0, .str p0), (16, .agg (e_S_rewrite_Expr x2)), (17, .int .i64 x3), (18, .int .i64 x4)] H (noU_all rfl) (fun fr => by kernel_rfl) ?_
  intro fr H
  obtain ⟨h2, e1⟩ : ∃ x, x = h1.push (.cells none 2 [.str ([] : List UInt8), .str ([] : List UInt8), .bool false, .bool false, .bool false, .int .i64 (0 : Int), .bool false, .bool false, .bool false]) := ⟨_, rfl⟩
  replace A := (A.push _).to e1
  refine at_step (v := .ptr (some (h1.size, 0))) (h1 := h2) [(0, .str p0), (3, .ptr (some (h1.size, 0))), (16, .agg (e_S_rewrite_Expr x2)), (17, .int .i64 x3), (18, .int .i64 x4)] H (fun fr => by kernel_rfl) (fun fr => .of (s_n' (by kernel_rfl) (congrArg some e1.symm))) ?_
  intro fr t H
  obtain ⟨h3, hx, A1⟩ := A.st 0 rfl (o := 0) (new := [.str x2.Re, .str x2.Template, .bool x2.Global, .bool x2.Fold, .bool x2.Extended, .int .i64 x2.Number, .bool x2.Names, .bool x2.Soft, .bool x2.Hard]) (ds := [.str x2.Re, .str x2.Template, .bool x2.Global, .bool x2.Fold, .bool x2.Extended, .int .i64 x2.Number, .bool x2.Names, .bool x2.Soft, .bool x2.Hard]) (Nat.le_of_ble_eq_true rfl) rfl rfl
  replace A : HH g h3 [.obj h1.size (.cells none 2 (e_S_rewrite_Expr x2))] F := A1
  refine at_step (v := .tuple []) (h1 := h3) [(0, .str p0), (3, .ptr (some (h1.size, 0))), (17, .int .i64 x3), (18, .int .i64 x4)] H (fun fr => by kernel_rfl) (fun fr => .of (s_stG (by kernel_rfl) (stG_st hx rfl))) ?_
  intro fr t H
  refine at_seg [(8, []), (9, [])] [(0, .str p0), (3, .ptr (some (h1.size, 0))), (4, .int .i64 x3), (5, .int .i64 x4)] H (noU_all rfl) (fun fr => by kernel_rfl) ?_
  intro fr H
  refine at_nil ?_
  show AW cfg 3 g (right (right (right (bodyC cfg.P 3)))) fr h3 _
  refine aw_seq (by kernel_rfl) ?_
  refine aw_reg (id := 4) (n := 10) [(0, []), (1, []), (2, []), (3, []), (4, []), (5, []), (6, []), (7, []), (8, []), (9, [])] (by kernel_rfl) (by kernel_rfl) ?_
  refine at_seg [(0, [])] [(3, .ptr (some (h1.size, 0))), (4, .int .i64 x3), (5, .int .i64 x4), (20, .str p0)] H (noU_all rfl) (fun fr => by kernel_rfl) ?_
  intro fr H
  have A1 := A.cut 0
  obtain ⟨⟨x5, x6, x7⟩, hx, hm⟩ := bind_some hm
  obtain ⟨v1, h4, hr, rfl, A1⟩ := ok_boulterref24_Parse (av := [.str p0]) hx (by kernel_rfl) A1
  replace A : HH g h4 [.obj h1.size (.cells none 2 (e_S_rewrite_Expr x2))] F := A.glue0 (n := 0) A1
  refine at_step (v := .tuple [.agg (e_S_boulterref24_Expr x5), .int .i64 x6, .int .i64 x7]) (h1 := h4) [(3, .ptr (some (h1.size, 0))), (4, .int .i64 x3), (5, .int .i64 x4), (21, .tuple [.agg (e_S_boulterref24_Expr x5), .int .i64 x6, .int .i64 x7])] H (fun fr => by kernel_rfl) (fun fr => Steps.call (by kernel_rfl) hr) ?_
  intro fr t H
  refine at_seg [(2, []), (3, []), (4, []), (5, [])] [(3, .ptr (some (h1.size, 0))), (4, .int .i64 x3), (5, .int .i64 x4), (22, .agg (e_S_boulterref24_Expr x5)), (23, .int .i64 x6), (24, .int .i64 x7)] H (noU_all rfl) (fun fr => by kernel_rfl) ?_
  intro fr H
  obtain ⟨h5, e2⟩ : ∃ x, x = h4.push (.cells none 2 [.str ([] : List UInt8), .str ([] : List UInt8), .bool false, .bool false, .bool false, .int .i64 (0 : Int), .bool false, .bool false, .bool false]) := ⟨_, rfl⟩
  replace A := (A.push _).to e2
  refine at_step (v := .ptr (some (h4.size, 0))) (h1 := h5) [(3, .ptr (some (h1.size, 0))), (4, .int .i64 x3), (5, .int .i64 x4), (6, .ptr (some (h4.size, 0))), (22, .agg (e_S_boulterref24_Expr x5)), (23, .int .i64 x6), (24, .int .i64 x7)] H (fun fr => by kernel_rfl) (fun fr => .of (s_n' (by kernel_rfl) (congrArg some e2.symm))) ?_
  intro fr t H
  obtain ⟨h6, hx, A1⟩ := A.st 0 rfl (o := 0) (new := [.str x5.Re, .str x5.Template, .bool x5.Global, .bool x5.Fold, .bool x5.Extended, .int .i64 x5.Number, .bool x5.Names, .bool x5.Soft, .bool x5.Hard]) (ds := [.str x5.Re, .str x5.Template, .bool x5.Global, .bool x5.Fold, .bool x5.Extended, .int .i64 x5.Number, .bool x5.Names, .bool x5.Soft, .bool x5.Hard]) (Nat.le_of_ble_eq_true rfl) rfl rfl
  replace A : HH g h6 [.obj h4.size (.cells none 2 (e_S_boulterref24_Expr x5)), .obj h1.size (.cells none 2 (e_S_rewrite_Expr x2))] F := A1
  refine at_step (v := .tuple []) (h1 := h6) [(3, .ptr (some (h1.size, 0))), (4, .int .i64 x3), (5, .int .i64 x4), (6, .ptr (some (h4.size, 0))), (23, .int .i64 x6), (24, .int .i64 x7)] H (fun fr => by kernel_rfl) (fun fr => .of (s_stG (by kernel_rfl) (stG_st hx rfl))) ?_
  intro fr t H
  refine at_seg [(8, []), (9, [])] [(3, .ptr (some (h1.size, 0))), (4, .int .i64 x3), (5, .int .i64 x4), (6, .ptr (some (h4.size, 0))), (7, .int .i64 x6), (8, .int .i64 x7)] H (noU_all rfl) (fun fr => by kernel_rfl) ?_
  intro fr H
  refine at_nil ?_
  show AW cfg 3 g (right (right (right (right (bodyC cfg.P 3))))) fr h6 _
  refine aw_seq (by kernel_rfl) ?_
  refine aw_reg (id := 5) (n := 17) [(0, []), (1, []), (2, []), (3, []), (4, []), (5, []), (6, []), (7, []), (8, []), (9, []), (10, []), (11, []), (12, []), (13, []), (14, []), (15, []), (16, [])] (by kernel_rfl) (by kernel_rfl) ?_
  refine at_step (v := .agg (e_S_rewrite_Expr x2)) (h1 := h6) [(4, .int .i64 x3), (5, .int .i64 x4), (6, .ptr (some (h4.size, 0))), (7, .int .i64 x6), (8, .int .i64 x7), (25, .agg (e_S_rewrite_Expr x2))] H (fun fr => by kernel_rfl) (fun fr => .of (s_ldA (by kernel_rfl) (A.ldA 1 rfl (o := 0) (n := 9) ⟨Nat.le_of_ble_eq_true rfl, rfl⟩))) ?_
  intro fr t H
  refine at_step (v := .agg (e_S_boulterref24_Expr x5)) (h1 := h6) [(4, .int .i64 x3), (5, .int .i64 x4), (7, .int .i64 x6), (8, .int .i64 x7), (25, .agg (e_S_rewrite_Expr x2)), (26, .agg (e_S_boulterref24_Expr x5))] H (fun fr => by kernel_rfl) (fun fr => .of (s_ldA (by kernel_rfl) (A.ldA 0 rfl (o := 0) (n := 9) ⟨Nat.le_of_ble_eq_true rfl, rfl⟩))) ?_
  intro fr t H
  obtain ⟨x8, hx, hm⟩ := bind_some hm
  refine at_step (v := .bool x8) (h1 := h6) [(4, .int .i64 x3), (5, .int .i64 x4), (7, .int .i64 x6), (8, .int .i64 x7), (27, .bool x8)] H (fun fr => by kernel_rfl) (fun fr => .of (s_eqG (by kernel_rfl) hx)) ?_
  intro fr t H
  refine at_seg [(3, [])] [(4, .int .i64 x3), (5, .int .i64 x4), (7, .int .i64 x6), (8, .int .i64 x7), (28, .bool x8)] H (noU_all rfl) (fun fr => by kernel_rfl) ?_
  intro fr H
  refine at_cut [(4, []), (5, []), (6, []), (7, [])] (fun fr' h' => h6 = h' ∧ Has fr' 41 [(5, .int .i64 x4), (8, .int .i64 x7), (32, .bool (x8 && (x3 == x6)))]) ?_ ?_
  ·cases hb : (x8 : Bool) with
   | true =>
    replace H := H.know 28 hb (by kernel_rfl)
    refine at_seg [(4, []), (5, []), (6, []), (7, [])] [(5, .int .i64 x4), (8, .int .i64 x7), (32, .bool (x3 == x6))] H (noU_all rfl) (fun fr => by kernel_rfl) ?_
    intro fr H
    exact at_nil ⟨rfl, by first | exact H.less _ (fun fr => by rfl) | exact H.less _ (fun fr => by rw [hb]; rfl)⟩
   | false =>
    replace H := H.know 28 hb (by kernel_rfl)
    refine at_seg [(4, []), (5, []), (6, []), (7, [])] [(5, .int .i64 x4), (8, .int .i64 x7), (32, .bool false)] H (noU_all rfl) (fun fr => by kernel_rfl) ?_
    intro fr H
    exact at_nil ⟨rfl, by first | exact H.less _ (fun fr => by rfl) | exact H.less _ (fun fr => by rw [hb]; rfl)⟩
  ·intro t fr h' hK
   obtain ⟨e, H⟩ := hK
   subst e
   refine at_seg [(8, [])] [(5, .int .i64 x4), (8, .int .i64 x7), (33, .bool (x8 && (x3 == x6)))] H (noU_all rfl) (fun fr => by kernel_rfl) ?_
   intro fr H
   refine at_cut [(9, []), (10, []), (11, []), (12, [])] (fun fr' h' => h6 = h' ∧ Has fr' 41 [(37, .bool ((x8 && (x3 == x6)) && (x4 == x7)))]) ?_ ?_
   ·cases hb : (x8 && (x3 == x6) : Bool) with
    | true =>
     replace H := H.know 33 hb (by kernel_rfl)
     refine at_seg [(9, []), (10, []), (11, []), (12, [])] [(37, .bool (x4 == x7))] H (noU_all rfl) (fun fr => by kernel_rfl) ?_
     intro fr H
     exact at_nil ⟨rfl, by first | exact H.less _ (fun fr => by rfl) | exact H.less _ (fun fr => by rw [hb]; rfl)⟩
    | false =>
     replace H := H.know 33 hb (by kernel_rfl)
     refine at_seg [(9, []), (10, []), (11, []), (12, [])] [(37, .bool false)] H (noU_all rfl) (fun fr => by kernel_rfl) ?_
     intro fr H
     exact at_nil ⟨rfl, by first | exact H.less _ (fun fr => by rfl) | exact H.less _ (fun fr => by rw [hb]; rfl)⟩
   ·intro t fr h' hK
    obtain ⟨e, H⟩ := hK
    subst e
    refine at_seg [(13, [])] [(38, .bool ((x8 && (x3 == x6)) && (x4 == x7)))] H (noU_all rfl) (fun fr => by kernel_rfl) ?_
    intro fr H
    obtain ⟨x9, ho, hm⟩ := bind_some hm
    refine at_cut [(14, []), (15, [])] (fun fr' h' => Has fr' 41 [(40, .bool x9)] ∧ HH g h' [.obj h4.size (.cells none 2 (e_S_boulterref24_Expr x5)), .obj h1.size (.cells none 2 (e_S_rewrite_Expr x2))] F) ?_ ?_
    ·rcases iteB_some ho with ⟨hb, hm⟩ | ⟨hb, hm⟩
     ·replace H := H.know 38 hb (by kernel_rfl)
      obtain ⟨x10, hx, hm⟩ := bind_some hm
      refine at_step (v := .bool x10) (h1 := h6) [(38, .bool true), (39, .bool x10)] H (fun fr => by kernel_rfl) (fun fr => Steps.call (by kernel_rfl) (ok_boulterlaw24_awake hx)) ?_
      intro fr t H
      refine at_seg [(15, [])] [(40, .bool x10)] H (noU_all rfl) (fun fr => by kernel_rfl) ?_
      intro fr H
      have e1 := Option.some.inj hm
      subst e1
      exact at_nil ⟨H.less _ (fun fr => by kernel_rfl), A⟩
     ·replace H := H.know 38 hb (by kernel_rfl)
      refine at_seg [(14, []), (15, [])] [(40, .bool false)] H (noU_all rfl) (fun fr => by kernel_rfl) ?_
      intro fr H
      have e1 := Option.some.inj hm
      subst e1
      exact at_nil ⟨H.less _ (fun fr => by kernel_rfl), A⟩
    ·clear A
     intro t fr h7 hK
     obtain ⟨H, A⟩ := hK
     refine at_seg [(16, [])] [(2, .bool x9)] H (noU_all rfl) (fun fr => by kernel_rfl) ?_
     intro fr H
     refine at_nil ?_
     show AW cfg 3 g (right (right (right (right (right (bodyC cfg.P 3)))))) fr h7 _
     refine aw_ret (by kernel_rfl) ?_
     have e1 := Option.some.inj hm
     subst e1
     refine ⟨.inl rfl, .bool x9, resH H (fun fr => by kernel_rfl), ?_⟩
     replace A : HH g h7 [] F := (HH.dropF A 0)
     exact ⟨rfl, A⟩
end Go.Av.L
