/-
 Models of functions, and that the abstract run tells them. Written by lift2.py.
-/
import Derived.Test.YtkdlmohhklimjaaGreatDoorKCfg
import Derived.Test.YtkdlmohhklimjaaGreatDoorK1
import Derived.Test.YtkdlmohhklimjaaGreatDoorK2
import Derived.Test.YtkdlmohhklimjaaGreatDoorK4
namespace Go.Av.L
open Go.Av Go.Lib
set_option maxRecDepth 10000
set_option linter.unusedVariables false
set_option linter.unusedSimpArgs false
variable {g : Gd} {h : AHeap} {F : List Ck} {av : List AVal}
noncomputable def M_rewrite_New (p0 : S_rewrite_Expr) (p1 : Int) : Option ((Option S_rewrite_Rule) × Int × Int) :=
 (M_rex_Parse p0.Re p0.Extended).bind fun (x1, x2, x3) => iteB (x3 != (0 : Int)) (some (none, (1 : Int), x3)) ((M_subst_Parse p0.Template).bind fun (x4, x5, x6) => iteB (x6 != (0 : Int)) (some (none, (2 : Int), x6)) ((M_subst_Highest_sO x4).bind fun x7 => (M_tree_Tree_Groups x1).bind fun x8 => iteB (decide (x7 > x8)) (some (none, (2 : Int), (11 : Int))) (iteB (decide (p0.Number < (1 : Int))) (some (none, (3 : Int), (6 : Int))) ((iteB p0.Fold (none) (some ()) : Option ((Unit))).bind fun _ => (M_dfa_Compile x1 p1).bind fun (w10, x10) => (match w10 with | some x9 => iteB (x10 != (0 : Int)) (some (none, (1 : Int), x10)) (some (some (⟨p0, x1, x9, x4⟩ : S_rewrite_Rule), (0 : Int), (0 : Int))) | none => iteB (x10 != (0 : Int)) (some (none, (1 : Int), x10)) (none))))))
theorem ok_rewrite_New {p0 p1 o0 q1 q2} (hm : M_rewrite_New p0 p1 = some (o0, q1, q2)) (A : HH g h [] F) (hc : canL (cfg.still 20) av = [.agg (e_S_rewrite_Expr p0), .int .i64 p1] := by kernel_rfl) : ∃ v h', Runs cfg g h 20 av v h' ∧ ((∃ (q0 : S_rewrite_Rule), o0 = some q0 ∧ v = .tuple [.vptr (e_S_rewrite_Rule q0), .int .i64 q1, .int .i64 q2] ∧ HH g h' [] F) ∨ (o0 = none ∧ v = .tuple [.ptr none, .int .i64 q1, .int .i64 q2] ∧ HH g h' [] F)) := by
 refine rq9 65 [.tmp 4, .tmp 5, .tmp 6] hc ?_
 clear hc
 unfold M_rewrite_New at hm
 refine bg 65 [(0, .agg (e_S_rewrite_Expr p0)), (1, .int .i64 p1)] fun fr H => ?_
 refine aw_sr 4 ?_
 obtain ⟨h1, e1, A⟩ := A.pu (.cells none 2 (e_S_rewrite_Expr p0))
 refine at_ln 2 (.ptr (some (h.size, 0))) e1 H fun fr t H => ?_
 refine at_es 3 [] 13 H (fun _ => id) fun fr H => ?_
 refine at_gl 1 [] 15 0 0 A H fun fr t H => ?_
 refine at_gl 1 [] 17 0 4 A H fun fr t H => ?_
 obtain ⟨⟨x1, x2, x3⟩, hx, hm⟩ := bind_some hm
 obtain ⟨v1, h2, hr, rfl, A1⟩ := ok_rex_Parse (av := [.str p0.Re, .bool p0.Extended]) hx (A.cut 0)
 replace A : HH g h2 [.obj h.size (.cells none 2 (e_S_rewrite_Expr p0))] F := A.glue0 (n := 0) A1
 refine at_lc1 18 hr H fun fr t H => ?_
 obtain ⟨h3, e2, A⟩ := A.pu (.cells none 2 [.slice none 0, .int .i64 0])
 refine at_gn 4 [(19, .agg [vs e_S_tree_Node x1.Nodes, .int .i64 x1.Root]), (20, .int .i64 x2), (21, .int .i64 x3)] 7 (.ptr (some (h2.size, 0))) e2 H fun fr t H => ?_
 obtain ⟨h4, hx, A⟩ := A.s0 0 [vs e_S_tree_Node x1.Nodes, .int .i64 x1.Root] [_, _]
 refine at_lS hx H fun fr t H => ?_
 refine at_el 2 [(9, .int .i64 x3)] H (fun _ => id) fun fr H => ?_
 refine aw_sq ?_
 refine aw_sr 2 ?_
 refine at_el 2 [(23, .bool (x3 != (0 : Int)))] H (fun _ => id) fun fr H => ?_
 refine aw_if 23 H hm (fun hb hm H => ?_) fun hb hm H => ?_
 ·refine aw_sr 4 ?_
  refine at_el 4 [(4, .ptr none), (5, .int .i64 1), (6, .int .i64 x3)] H (fun _ => id) fun fr H => ?_
  refine aw_rt ?_
  obtain ⟨rfl, rfl, rfl⟩ := injC hm
  refine ⟨.inl rfl, .tuple [.ptr none, .int .i64 1, .int .i64 x3], rH H, ?_⟩
  replace A := A.d0
  refine ⟨.tuple [.ptr none, .int .i64 1, .int .i64 x3], h4, by first | rfl | (simp only [fz4T, fz4P, fzP0, fzPA, fzPR, fzPV, fzPQ, fzPI, fzPB, fzPS, fzPN, fz1Q, fz10, fz1I, fz1B, fz1S, fz1V, fz1N, fzL0, fzL1, Option.map_some] <;> rfl), ?_⟩
  exact .inr ⟨rfl, rfl, A⟩
 refine aw_ks 10 id ?_
 refine at_gl 1 [] 27 1 1 A H fun fr t H => ?_
 obtain ⟨⟨x4, x5, x6⟩, hx, hm⟩ := bind_some hm
 obtain ⟨v1, h5, hr, rqw4, rfl, A1⟩ := ok_subst_Parse (av := [.str p0.Template]) hx (A.cut 0)
 replace A := A.g01 A1
 refine at_lc1 28 hr H fun fr t H => ?_
 refine at_se 7 [(1, .int .i64 p1), (2, .ptr (some (h.size, 0))), (7, .ptr (some (h2.size, 0))), (9, .int .i64 x6), (10, rowV rqw4 x4.length)] H fun fr H => ?_
 refine at_nl id ?_
 refine aw_sq ?_
 refine aw_block (id := 0) (by kernel_rfl) ?_
 refine aw_sr 3 ?_
 refine at_el 3 [(32, .bool (x6 != (0 : Int)))] H (fun _ => id) fun fr H => ?_
 refine aw_if 32 H hm (fun hb hm H => ?_) fun hb hm H => ?_
 ·refine aw_sr 4 ?_
  refine at_el 4 [(4, .ptr none), (5, .int .i64 2), (6, .int .i64 x6)] H (fun _ => id) fun fr H => ?_
  refine aw_rt ?_
  obtain ⟨rfl, rfl, rfl⟩ := injC hm
  refine ⟨.inl rfl, .tuple [.ptr none, .int .i64 2, .int .i64 x6], rH H, ?_⟩
  replace A := A.d0
  refine ⟨.tuple [.ptr none, .int .i64 2, .int .i64 x6], h5, by first | rfl | (simp only [fz4T, fz4P, fzP0, fzPA, fzPR, fzPV, fzPQ, fzPI, fzPB, fzPS, fzPN, fz1Q, fz10, fz1I, fz1B, fz1S, fz1V, fz1N, fzL0, fzL1, Option.map_some] <;> rfl), ?_⟩
  exact .inr ⟨rfl, rfl, A⟩
 refine aw_sq ?_
 refine aw_dw 7 6 [(0, []), (2, []), (1, [2]), (3, []), (4, []), (5, [])] ?_
 refine at_sl 1 [(37, rowV rqw4 x4.length)] H fun fr H => ?_
 refine at_t1 39 (.agg [vs e_S_tree_Node x1.Nodes, .int .i64 x1.Root]) h5 [(2, h2.size)] (g.prot) H (fun fr => .of (s_ldA (by kernel_rfl) (A.la 1 0 2))) (fun fr H => ?_)
 have A1 := A.prot2 1 (pr := [h2.size]) (.cons 0 rfl (by simp [Ck.ids]) .nil)
 obtain ⟨x7, hx, hm⟩ := bind_some hm
 obtain ⟨v1, h6, hr, rfl, A1⟩ := ok_subst_Highest_sO (av := [rowV rqw4 x4.length]) hx A1
 replace A := A.p11 A1
 refine at_t1 38 (.int .i64 x7) h6 [(2, h2.size)] (h2.size :: g.prot) H (fun fr => Steps.call (by kernel_rfl) hr) (fun fr H => ?_)
 obtain ⟨x8, hx, hm⟩ := bind_some hm
 obtain ⟨v1, h7, hr, rfl, A1⟩ := ok_tree_Tree_Groups (av := [.agg [vs e_S_tree_Node x1.Nodes, .int .i64 x1.Root]]) hx (A.cut 0)
 replace A := A.g00 A1
 refine at_t1 40 (.int .i64 x8) h7 [(2, h2.size)] (g.prot) H (fun fr => Steps.call (by kernel_rfl) hr) (fun fr H => ?_)
 refine at_el 2 [(36, .bool (decide (x7 > x8)))] H (fun _ => id) fun fr H => ?_
 refine aw_if 36 H hm (fun hb hm H => ?_) fun hb hm H => ?_
 ·refine aw_sr 3 ?_
  refine at_el 3 [(4, .ptr none), (5, .int .i64 2), (6, .int .i64 11)] H (fun _ => id) fun fr H => ?_
  refine aw_rt ?_
  obtain ⟨rfl, rfl, rfl⟩ := injC hm
  refine ⟨.inl rfl, .tuple [.ptr none, .int .i64 2, .int .i64 11], rH H, ?_⟩
  replace A := A.d0
  refine ⟨.tuple [.ptr none, .int .i64 2, .int .i64 11], h7, by first | rfl | (simp only [fz4T, fz4P, fzP0, fzPA, fzPR, fzPV, fzPQ, fzPI, fzPB, fzPS, fzPN, fz1Q, fz10, fz1I, fz1B, fz1S, fz1V, fz1N, fzL0, fzL1, Option.map_some] <;> rfl), ?_⟩
  exact .inr ⟨rfl, rfl, A⟩
 refine aw_sr 4 ?_
 refine at_gl 1 [] 44 2 5 A H fun fr t H => ?_
 refine at_el 2 [(42, .bool (decide (p0.Number < (1 : Int))))] H (fun _ => id) fun fr H => ?_
 refine aw_if 42 H hm (fun hb hm H => ?_) fun hb hm H => ?_
 ·refine aw_sr 3 ?_
  refine at_el 3 [(4, .ptr none), (5, .int .i64 3), (6, .int .i64 6)] H (fun _ => id) fun fr H => ?_
  refine aw_rt ?_
  obtain ⟨rfl, rfl, rfl⟩ := injC hm
  refine ⟨.inl rfl, .tuple [.ptr none, .int .i64 3, .int .i64 6], rH H, ?_⟩
  replace A := A.d0
  refine ⟨.tuple [.ptr none, .int .i64 3, .int .i64 6], h7, by first | rfl | (simp only [fz4T, fz4P, fzP0, fzPA, fzPR, fzPV, fzPQ, fzPI, fzPB, fzPS, fzPN, fz1Q, fz10, fz1I, fz1B, fz1S, fz1V, fz1N, fzL0, fzL1, Option.map_some] <;> rfl), ?_⟩
  exact .inr ⟨rfl, rfl, A⟩
 refine aw_kn id ?_
 refine aw_sq ?_
 obtain ⟨o1, ho, hm⟩ := bind_some hm
 refine aw_mono (Q' := fun e fr' h' => (e = .normal ∧ () = o1 ∧ Has fr' 65 [(1, .int .i64 p1), (2, .ptr (some (h.size, 0))), (7, .ptr (some (h2.size, 0))), (10, rowV rqw4 x4.length)] ∧ HH g h' [.lst rqw4 154 (lst e_S_subst_Part x4), .obj h2.size (.cells none 2 [vs e_S_tree_Node x1.Nodes, .int .i64 x1.Root]), .obj h.size (.cells none 2 (e_S_rewrite_Expr p0))] F) ∨ False) ?_ ?_
 ·replace hm := ho
  clear ho
  refine aw_sr 2 ?_
  refine at_gl 1 [] 47 2 3 A H fun fr t H => ?_
  refine at_nl id ?_
  refine aw_if 47 H hm (fun hb hm H => ?_) fun hb hm H => ?_
  ·refine aw_rg 3 ?_
   refine at_l1 48 _ _ H (fun fr => .of (s_ldA (by kernel_rfl) (A.ldA 1 rfl (o := 0) (n := 2) ⟨Nat.le_of_ble_eq_true rfl, rfl⟩))) fun fr t H => ?_
   cases hm
  refine aw_sk ?_
  exact .inl ⟨rfl, injA hm, H.ls, A⟩
 clear ho
 clear A
 intro e fr h8 hQ
 rcases hQ with ⟨rfl, rfl, H, A⟩ | hF
 ·show AW _ _ _ _ _ _ _
  refine aw_sr 8 ?_
  refine at_l1 51 _ _ H (fun fr => .of (s_ldA (by kernel_rfl) (A.ldA 1 rfl (o := 0) (n := 2) ⟨Nat.le_of_ble_eq_true rfl, rfl⟩))) fun fr t H => ?_
  obtain ⟨⟨w10, x10⟩, hx, hm⟩ := bind_some hm
  obtain ⟨v1, h9, hr, hc⟩ := ok_dfa_Compile (av := [.agg [vs e_S_tree_Node x1.Nodes, .int .i64 x1.Root], .int .i64 p1]) hx (A.cut 0)
  rcases hc with ⟨x9, rfl, rfl, A1⟩ | ⟨rfl, rfl, A1⟩
  ·replace A := A.g00 A1
   refine at_gc1 1 [] 53 hr H fun fr t H => ?_
   refine at_el 5 [(9, .int .i64 x10), (12, .vptr (big 256 (AVal.int .u8) x9.column_ ++ [.int .i64 x9.columns_, vs (eI .i32) x9.next_, vs eB x9.ends_, vs eB x9.last_, .int .i32 x9.first_, .int .i32 x9.later_, .bool x9.empty_]))] H (fun _ => id) fun fr H => ?_
   refine aw_sq ?_
   refine aw_sr 2 ?_
   refine at_el 2 [(57, .bool (x10 != (0 : Int)))] H (fun _ => id) fun fr H => ?_
   refine aw_if 57 H hm (fun hb hm H => ?_) fun hb hm H => ?_
   ·refine aw_sr 4 ?_
    refine at_el 4 [(4, .ptr none), (5, .int .i64 1), (6, .int .i64 x10)] H (fun _ => id) fun fr H => ?_
    refine aw_rt ?_
    obtain ⟨rfl, rfl, rfl⟩ := injC hm
    refine ⟨.inl rfl, .tuple [.ptr none, .int .i64 1, .int .i64 x10], rH H, ?_⟩
    replace A := A.d0
    refine ⟨.tuple [.ptr none, .int .i64 1, .int .i64 x10], h9, by first | rfl | (simp only [fz4T, fz4P, fzP0, fzPA, fzPR, fzPV, fzPQ, fzPI, fzPB, fzPS, fzPN, fz1Q, fz10, fz1I, fz1B, fz1S, fz1V, fz1N, fzL0, fzL1, Option.map_some] <;> rfl), ?_⟩
    exact .inr ⟨rfl, rfl, A⟩
   refine aw_ks 9 id ?_
   refine at_l1 59 _ _ H (fun fr => .of (s_ldA (by kernel_rfl) (A.ldA 2 rfl (o := 0) (n := 9) ⟨Nat.le_of_ble_eq_true rfl, rfl⟩))) fun fr t H => ?_
   refine at_l1 60 _ _ H (fun fr => .of (s_ldA (by kernel_rfl) (A.ldA 1 rfl (o := 0) (n := 2) ⟨Nat.le_of_ble_eq_true rfl, rfl⟩))) fun fr t H => ?_
   obtain ⟨h10, e3, A⟩ := A.pu (.cells none 2 [.str p0.Re, .str p0.Template, .bool p0.Global, .bool p0.Fold, .bool p0.Extended, .int .i64 p0.Number, .bool p0.Names, .bool p0.Soft, .bool p0.Hard, vs e_S_tree_Node x1.Nodes, .int .i64 x1.Root, .vptr (big 256 (AVal.int .u8) x9.column_ ++ [.int .i64 x9.columns_, vs (eI .i32) x9.next_, vs eB x9.ends_, vs eB x9.last_, .int .i32 x9.first_, .int .i32 x9.later_, .bool x9.empty_]), rowV rqw4 x4.length])
   refine at_gn 3 [] 64 (.ptr (some (h9.size, 0))) e3 H fun fr t H => ?_
   refine at_el 3 [(4, .ptr (some (h9.size, 0))), (5, .int .i64 0), (6, .int .i64 0)] H (fun _ => id) fun fr H => ?_
   refine aw_rt ?_
   obtain ⟨rfl, rfl, rfl⟩ := injC hm
   refine ⟨.inl rfl, .tuple [.ptr (some (h9.size, 0)), .int .i64 0, .int .i64 0], rH H, ?_⟩
   replace A : HH g h10 [.obj h9.size (.cells none 2 [.str p0.Re, .str p0.Template, .bool p0.Global, .bool p0.Fold, .bool p0.Extended, .int .i64 p0.Number, .bool p0.Names, .bool p0.Soft, .bool p0.Hard, vs e_S_tree_Node x1.Nodes, .int .i64 x1.Root, .vptr (big 256 (AVal.int .u8) x9.column_ ++ [.int .i64 x9.columns_, vs (eI .i32) x9.next_, vs eB x9.ends_, vs eB x9.last_, .int .i32 x9.first_, .int .i32 x9.later_, .bool x9.empty_]), rowV rqw4 x4.length]), _] F := (HH.dropF ((A.front 1 rfl).front 1 rfl) 2)
   obtain ⟨h11, A1, hy0⟩ := (A.front 0 rfl).frzB
   replace A : HH g h11 [_] F := A1
   obtain ⟨h12, hz1, A1⟩ := (A.front 0 rfl).frz (n := x4.length) (z := 3) (enc_S_subst_Part.lenL _) (by decide)
   replace A : HH g h12 [] F := A1
   have hz0 := hy0 [.str p0.Re, .str p0.Template, .bool p0.Global, .bool p0.Fold, .bool p0.Extended, .int .i64 p0.Number, .bool p0.Names, .bool p0.Soft, .bool p0.Hard, vs e_S_tree_Node x1.Nodes, .int .i64 x1.Root, .vptr (big 256 (AVal.int .u8) x9.column_ ++ [.int .i64 x9.columns_, vs (eI .i32) x9.next_, vs eB x9.ends_, vs eB x9.last_, .int .i32 x9.first_, .int .i32 x9.later_, .bool x9.empty_]), vs e_S_subst_Part x4] h12 (by simp only [fz4T, fz4P, fzP0, fzPA, fzPR, fzPV, fzPQ, fzPI, fzPB, fzPS, fzPN, fz1Q, fz10, fz1I, fz1B, fz1S, fz1V, fz1N, fzL0, fzL1, Option.map_some, e_S_rewrite_Rule, hz1] <;> rfl)
   refine ⟨.tuple [.vptr [.str p0.Re, .str p0.Template, .bool p0.Global, .bool p0.Fold, .bool p0.Extended, .int .i64 p0.Number, .bool p0.Names, .bool p0.Soft, .bool p0.Hard, vs e_S_tree_Node x1.Nodes, .int .i64 x1.Root, .vptr (big 256 (AVal.int .u8) x9.column_ ++ [.int .i64 x9.columns_, vs (eI .i32) x9.next_, vs eB x9.ends_, vs eB x9.last_, .int .i32 x9.first_, .int .i32 x9.later_, .bool x9.empty_]), vs e_S_subst_Part x4], .int .i64 0, .int .i64 0], h12, by first | rfl | (simp only [fz4T, fz4P, fzP0, fzPA, fzPR, fzPV, fzPQ, fzPI, fzPB, fzPS, fzPN, fz1Q, fz10, fz1I, fz1B, fz1S, fz1V, fz1N, fzL0, fzL1, Option.map_some, e_S_rewrite_Rule, hz0, hz1] <;> rfl), ?_⟩
   exact .inl ⟨(⟨p0, x1, x9, x4⟩ : S_rewrite_Rule), rfl, rfl, A⟩
  replace A := A.g00 A1
  refine at_gc1 1 [] 53 hr H fun fr t H => ?_
  refine at_el 5 [(9, .int .i64 x10), (12, .ptr none)] H (fun _ => id) fun fr H => ?_
  refine aw_sq ?_
  refine aw_sr 2 ?_
  refine at_el 2 [(57, .bool (x10 != (0 : Int)))] H (fun _ => id) fun fr H => ?_
  refine aw_if 57 H hm (fun hb hm H => ?_) fun hb hm H => ?_
  ·refine aw_sr 4 ?_
   refine at_el 4 [(4, .ptr none), (5, .int .i64 1), (6, .int .i64 x10)] H (fun _ => id) fun fr H => ?_
   refine aw_rt ?_
   obtain ⟨rfl, rfl, rfl⟩ := injC hm
   refine ⟨.inl rfl, .tuple [.ptr none, .int .i64 1, .int .i64 x10], rH H, ?_⟩
   replace A := A.d0
   refine ⟨.tuple [.ptr none, .int .i64 1, .int .i64 x10], h9, by first | rfl | (simp only [fz4T, fz4P, fzP0, fzPA, fzPR, fzPV, fzPQ, fzPI, fzPB, fzPS, fzPN, fz1Q, fz10, fz1I, fz1B, fz1S, fz1V, fz1N, fzL0, fzL1, Option.map_some] <;> rfl), ?_⟩
   exact .inr ⟨rfl, rfl, A⟩
  refine aw_ks 9 id ?_
  refine at_l1 59 _ _ H (fun fr => .of (s_ldA (by kernel_rfl) (A.ldA 2 rfl (o := 0) (n := 9) ⟨Nat.le_of_ble_eq_true rfl, rfl⟩))) fun fr t H => ?_
  refine at_l1 60 _ _ H (fun fr => .of (s_ldA (by kernel_rfl) (A.ldA 1 rfl (o := 0) (n := 2) ⟨Nat.le_of_ble_eq_true rfl, rfl⟩))) fun fr t H => ?_
  obtain ⟨h13, e4, A⟩ := A.pu (.cells none 2 [.str p0.Re, .str p0.Template, .bool p0.Global, .bool p0.Fold, .bool p0.Extended, .int .i64 p0.Number, .bool p0.Names, .bool p0.Soft, .bool p0.Hard, vs e_S_tree_Node x1.Nodes, .int .i64 x1.Root, .ptr none, rowV rqw4 x4.length])
  refine at_gn 3 [] 64 (.ptr (some (h9.size, 0))) e4 H fun fr t H => ?_
  refine at_el 3 [(4, .ptr (some (h9.size, 0))), (5, .int .i64 0), (6, .int .i64 0)] H (fun _ => id) fun fr H => ?_
  refine aw_rt ?_
  cases hm
 exact hF.elim
noncomputable def M_scope_New_sOII_L0 (p0 : List S_rewrite_Expr) (p1 : Int) (s : (List S_rewrite_Rule) × Int) : Option (((List S_rewrite_Rule) × Int) ⊕ (((List S_rewrite_Rule)) ⊕ ((List S_rewrite_Rule) × Int × Int))) :=
 match s with
 | (x1, x2) => iteB (decide (x2 < (p0.length : Int))) ((ixV p0 x2).bind fun x7 => (M_rewrite_New x7 p1).bind fun (w2, x9, x10) => (match w2 with | some x8 => iteB (x10 != (0 : Int)) (some (.inr (.inr (x1, x2, x10)))) (need (okN 8 (x1.length + ([x8] : List S_rewrite_Rule).length)) <| some (.inl ((x1 ++ ([x8] : List S_rewrite_Rule)), IntKind.i64.wrap (x2 + (1 : Int))))) | none => iteB (x10 != (0 : Int)) (some (.inr (.inr (x1, x2, x10)))) (none))) (some (.inr (.inl x1)))
noncomputable def M_scope_New_sOII (p0 : List S_rewrite_Expr) (p1 : Int) (p2 : Int) : Option ((Option S_scope_Rules) × Int × Int) :=
 iteB ((decide (p2 < (1 : Int))) || (decide (p2 > (4096 : Int)))) (some (none, (0 : Int), (6 : Int))) (iteB (decide ((p0.length : Int) > (256 : Int))) (some (none, (0 : Int), (8 : Int))) ((loop (M_scope_New_sOII_L0 p0 p1) (([] : List S_rewrite_Rule), (0 : Int))).bind fun o1 => (match o1 with | .inl x3 => some (some (⟨x3, p2⟩ : S_scope_Rules), (0 : Int), (0 : Int)) | .inr (x4, x5, x6) => some (none, x5, x6))))
theorem ok_scope_New_sOII {p0 p1 p2 rp0 o0 q1 q2} (hm : M_scope_New_sOII p0 p1 p2 = some (o0, q1, q2)) (A : HH g h [.lst rp0 24 (lst e_S_rewrite_Expr p0)] F) (hc : canL (cfg.still 12) av = [rowV rp0 p0.length, .int .i64 p1, .int .i64 p2] := by kernel_rfl) : ∃ v h', Runs cfg g h 12 av v h' ∧ ((∃ (bq00 : Nat) (rq00_0 : Option Nat) (q00 : S_scope_Rules), o0 = some q00 ∧ v = .tuple [.ptr (some (bq00, 0)), .int .i64 q1, .int .i64 q2] ∧ HH g h' [.obj bq00 (.cells none 2 [rowV rq00_0 q00.l_.length, .int .i64 q00.name_]), .lst rq00_0 58 (lst (eP e_S_rewrite_Rule) q00.l_), .lst rp0 24 (lst e_S_rewrite_Expr p0)] F) ∨ (o0 = none ∧ v = .tuple [.ptr none, .int .i64 q1, .int .i64 q2] ∧ HH g h' [.lst rp0 24 (lst e_S_rewrite_Expr p0)] F)) := by
 refine rq1 59 [.tmp 6, .tmp 7, .tmp 8] hc ?_
 clear hc
 unfold M_scope_New_sOII at hm
 refine bg 59 [(0, rowV rp0 p0.length), (1, .int .i64 p1), (2, .int .i64 p2)] fun fr H => ?_
 refine aw_sr 3 ?_
 refine at_el 3 [] H (fun _ => id) fun fr H => ?_
 refine aw_sq ?_
 refine aw_block (id := 0) (by kernel_rfl) ?_
 refine aw_sr 7 ?_
 refine at_sl 3 [(18, .bool (decide (p2 < (1 : Int))))] H fun fr H => ?_
 refine at_cl 3 (fun fr' h' => h = h' ∧ Has fr' 59 [(0, rowV rp0 p0.length), (1, .int .i64 p1), (2, .int .i64 p2), (21, .bool ((decide (p2 < (1 : Int))) || (decide (p2 > (4096 : Int)))))]) ?_ ?_
 ·cases hb : (decide (p2 < (1 : Int)) : Bool) with
  | true =>
   replace H := H.kn 18 hb
   refine at_sl 3 [(21, .bool true)] H fun fr H => ?_
   exact at_zb H hb
  | false =>
   replace H := H.kn 18 hb
   refine at_sl 3 [(21, .bool (decide (p2 > (4096 : Int))))] H fun fr H => ?_
   exact at_zb H hb
 intro t fr h' hK
 obtain ⟨e, H⟩ := hK
 subst e
 refine at_el 1 [(15, .bool ((decide (p2 < (1 : Int))) || (decide (p2 > (4096 : Int)))))] H (fun _ => id) fun fr H => ?_
 refine aw_if 15 H hm (fun hb hm H => ?_) fun hb hm H => ?_
 ·refine aw_sr 3 ?_
  refine at_el 3 [(6, .ptr none), (7, .int .i64 0), (8, .int .i64 6)] H (fun _ => id) fun fr H => ?_
  refine aw_rt ?_
  obtain ⟨rfl, rfl, rfl⟩ := injC hm
  refine ⟨.inl rfl, .tuple [.ptr none, .int .i64 0, .int .i64 6], rH H, ?_⟩
  exact .inr ⟨rfl, rfl, A⟩
 refine aw_sr 4 ?_
 refine at_el 4 [(22, .bool (decide ((p0.length : Int) > (256 : Int))))] H (fun _ => id) fun fr H => ?_
 refine aw_if 22 H hm (fun hb hm H => ?_) fun hb hm H => ?_
 ·refine aw_sr 3 ?_
  refine at_el 3 [(6, .ptr none), (7, .int .i64 0), (8, .int .i64 8)] H (fun _ => id) fun fr H => ?_
  refine aw_rt ?_
  obtain ⟨rfl, rfl, rfl⟩ := injC hm
  refine ⟨.inl rfl, .tuple [.ptr none, .int .i64 0, .int .i64 8], rH H, ?_⟩
  exact .inr ⟨rfl, rfl, A⟩
 refine aw_ks 4 id ?_
 obtain ⟨h1, e1, A⟩ := A.pu (.cells none 2 [.slice none 0, .int .i64 p2])
 refine at_gn 2 [] 28 (.ptr (some (h.size, 0))) e1 H fun fr t H => ?_
 refine at_el 1 [(9, .ptr (some (h.size, 0)))] H (fun _ => id) fun fr H => ?_
 refine aw_sq ?_
 refine aw_sr 3 ?_
 refine at_el 3 [(29, rowV rp0 p0.length), (30, .int .i64 (p0.length : Int)), (31, .int .i64 0)] H (fun _ => id) fun fr H => ?_
 refine aw_block (id := 1) (by kernel_rfl) ?_
 replace A : HH g h1 [.lst none 58 (lst (eP e_S_rewrite_Rule) ([] : List S_rewrite_Rule)), .obj h.size (.cells none 2 [.slice none 0, .int .i64 p2]), _] F := A.nilL 58
 obtain ⟨o1, ho, hm⟩ := bind_some hm
 refine aw_mono (Q' := fun e fr' h' => (∃ x3, e = .exit 1 ∧ .inl x3 = o1 ∧ ∃ r2, Has fr' 59 [(9, .ptr (some (h.size, 0)))] ∧ HH g h' [.lst r2 58 (lst (eP e_S_rewrite_Rule) x3), .obj h.size (.cells none 2 [rowV r2 x3.length, .int .i64 p2]), .lst rp0 24 (lst e_S_rewrite_Expr p0)] F) ∨ (∃ x4 x5 x6, e = .ret ∧ .inr (x4, x5, x6) = o1 ∧ ∃ r3, Has fr' 59 [(6, .ptr none), (7, .int .i64 x5), (8, .int .i64 x6)] ∧ HH g h' [.lst r3 58 (lst (eP e_S_rewrite_Rule) x4), .obj h.size (.cells none 2 [rowV r3 x4.length, .int .i64 p2]), .lst rp0 24 (lst e_S_rewrite_Expr p0)] F) ∨ False) ?_ ?_
 ·refine aw_loop (by kernel_rfl) (fun (s : (List S_rewrite_Rule) × Int) fr' h' => ∃ x1 x2, (x1, x2) = s ∧ ∃ r1, Has fr' 59 [(1, .int .i64 p1), (9, .ptr (some (h.size, 0))), (29, rowV rp0 p0.length), (30, .int .i64 (p0.length : Int)), (31, .int .i64 x2)] ∧ HH g h' [.lst r1 58 (lst (eP e_S_rewrite_Rule) x1), .obj h.size (.cells none 2 [rowV r1 x1.length, .int .i64 p2]), .lst rp0 24 (lst e_S_rewrite_Expr p0)] F) ho ⟨_, _, rfl, none, H.ls, A⟩ ?_
  clear ho hm H A
  intro s q fr h2 hI hm
  obtain ⟨x1, x2, rfl, r1, H, A⟩ := hI
  unfold M_scope_New_sOII_L0 at hm
  refine aw_sr 1 ?_
  refine at_el 1 [(32, .bool (decide (x2 < (p0.length : Int))))] H (fun _ => id) fun fr H => ?_
  refine aw_sq ?_
  refine aw_if 32 H hm (fun hb hm H => ?_) fun hb hm H => ?_
  ·refine aw_kn id ?_
   refine aw_sq ?_
   refine aw_block (id := 2) (by kernel_rfl) ?_
   refine aw_sr 6 ?_
   obtain ⟨x7, hx, hm⟩ := bind_some hm
   obtain ⟨i1, er1, _, hx, hq1⟩ := HH.ixO enc_S_rewrite_Expr (by decide) A 2 (xs := p0) rfl hx
   refine at_g1 1 [(33, .int .i64 x2)] 34 (.ptr (some (i1, x2.toNat * 9))) h2 H (fun fr => .of (s_ixL (s := rowS rp0 p0.length) (by kernel_rfl) hx)) fun fr t H => ?_
   refine at_l1 35 _ _ H (fun fr => .of (s_ldA (by kernel_rfl) (row_ldA enc_S_rewrite_Expr (HH.row A 2 rfl er1) hq1 0 9 (Nat.le_of_ble_eq_true rfl)))) fun fr t H => ?_
   obtain ⟨h3, e2, A⟩ := A.pu (.cells none 2 [.str ([] : List UInt8), .str ([] : List UInt8), .bool false, .bool false, .bool false, .int .i64 0, .bool false, .bool false, .bool false])
   refine at_ln 11 (.ptr (some (h2.size, 0))) e2 H fun fr t H => ?_
   obtain ⟨h4, hx, A⟩ := A.s0 0 [.str x7.Re, .str x7.Template, .bool x7.Global, .bool x7.Fold, .bool x7.Extended, .int .i64 x7.Number, .bool x7.Names, .bool x7.Soft, .bool x7.Hard] [_, _, _, _, _, _, _, _, _]
   refine at_gS 1 [(10, .int .i64 x2)] hx H fun fr t H => ?_
   refine at_ns 10 id ?_
   refine at_l1 37 _ _ H (fun fr => .of (s_ldA (by kernel_rfl) (A.ldA 0 rfl (o := 0) (n := 9) ⟨Nat.le_of_ble_eq_true rfl, rfl⟩))) fun fr t H => ?_
   obtain ⟨⟨w2, x9, x10⟩, hx, hm⟩ := bind_some hm
   obtain ⟨v1, h5, hr, hc⟩ := ok_rewrite_New (av := [.agg (e_S_rewrite_Expr x7), .int .i64 p1]) hx (A.cut 0)
   rcases hc with ⟨x8, rfl, rfl, A1⟩ | ⟨rfl, rfl, A1⟩
   ·replace A := A.g00 A1
    refine at_gc1 1 [] 39 hr H fun fr t H => ?_
    refine at_el 7 [(12, .vptr (e_S_rewrite_Rule x8)), (14, .int .i64 x10)] H (fun _ => id) fun fr H => ?_
    refine aw_sq ?_
    refine aw_sr 2 ?_
    refine at_el 2 [(44, .bool (x10 != (0 : Int)))] H (fun _ => id) fun fr H => ?_
    refine aw_if 44 H hm (fun hb hm H => ?_) fun hb hm H => ?_
    ·refine aw_sr 5 ?_
     refine at_el 5 [(6, .ptr none), (7, .int .i64 x2), (8, .int .i64 x10)] H (fun _ => id) fun fr H => ?_
     refine aw_rt ?_
     replace A := A.k3 1 2 3
     exact nr hm fun e => Or.inr (.inl ⟨_, _, _, rfl, e, _, H.ls, A⟩)
    refine aw_kr 11 id ?_
    refine at_gl 4 [(47, .ptr (some (h.size, 0)))] 51 2 0 A H fun fr t H => ?_
    refine at_sl 1 [(52, .vptr (e_S_rewrite_Rule x8))] H fun fr H => ?_
    obtain ⟨h6, e3, A⟩ := A.pL 58 [.vptr (e_S_rewrite_Rule x8)]
    refine at_ln 53 (rowV (some h5.size) (([x8] : List S_rewrite_Rule).length)) e3 H fun fr t H => ?_
    obtain ⟨hb, hm⟩ := need_some hm
    obtain ⟨r4, h7, hx, A1⟩ := HH.appO (encP _) (by decide) A 2 (xs := x1) (ys := ([x8] : List S_rewrite_Rule)) rfl (row_first A 0 rfl (n := ([x8] : List S_rewrite_Rule).length) (z := 1) rfl (by decide)) rfl rfl hb
    replace A : HH g h7 [.lst (some h5.size) 58 ([.vptr (e_S_rewrite_Rule x8)]), _, .lst r4 58 (lst (eP e_S_rewrite_Rule) (x1 ++ ([x8] : List S_rewrite_Rule))), _, _] F := A1
    replace A := A.k4 1 2 3 4
    refine at_l1 54 _ _ H (fun fr => .of (s_app (s := rowS r1 x1.length) (by kernel_rfl) hx)) fun fr t H => ?_
    obtain ⟨h8, hx, A1⟩ := A.st 2 rfl (o := 0) (new := [rowV r4 ((x1 ++ ([x8] : List S_rewrite_Rule)).length)]) (ds := [rowV r4 ((x1 ++ ([x8] : List S_rewrite_Rule)).length), .int .i64 p2]) (Nat.le_of_ble_eq_true rfl) rfl rfl
    replace A : HH g h8 [_, _, .obj h.size (.cells none 2 [rowV r4 ((x1 ++ ([x8] : List S_rewrite_Rule)).length), .int .i64 p2]), _] F := A1
    refine at_gs 2 [] hx H fun fr t H => ?_
    refine at_nr 2 id ?_
    refine at_se 2 [(1, .int .i64 p1), (9, .ptr (some (h.size, 0))), (29, rowV rp0 p0.length), (30, .int .i64 (p0.length : Int)), (31, .int .i64 (IntKind.i64.wrap (x2 + (1 : Int))))] H fun fr H => ?_
    refine at_nil ?_
    replace A := A.k3 1 2 3
    exact nx hm ⟨_, _, rfl, _, H.ls, A⟩
   replace A := A.g00 A1
   refine at_gc1 1 [] 39 hr H fun fr t H => ?_
   refine at_el 7 [(12, .ptr none), (14, .int .i64 x10)] H (fun _ => id) fun fr H => ?_
   refine aw_sq ?_
   refine aw_sr 2 ?_
   refine at_el 2 [(44, .bool (x10 != (0 : Int)))] H (fun _ => id) fun fr H => ?_
   refine aw_if 44 H hm (fun hb hm H => ?_) fun hb hm H => ?_
   ·refine aw_sr 5 ?_
    refine at_el 5 [(6, .ptr none), (7, .int .i64 x2), (8, .int .i64 x10)] H (fun _ => id) fun fr H => ?_
    refine aw_rt ?_
    replace A := A.k3 1 2 3
    exact nr hm fun e => Or.inr (.inl ⟨_, _, _, rfl, e, _, H.ls, A⟩)
   refine aw_kr 11 id ?_
   refine at_gl 4 [(47, .ptr (some (h.size, 0)))] 51 2 0 A H fun fr t H => ?_
   refine at_sl 1 [(52, .ptr none)] H fun fr H => ?_
   cases hm
  refine aw_exit (i := 1) (by kernel_rfl) ?_
  exact nr hm fun e => .inl ⟨_, rfl, e, _, H.ls, A⟩
 clear ho
 clear A
 intro e fr h9 hQ
 rcases hQ with ⟨x3, rfl, rfl, r2, H, A⟩ | ⟨x4, x5, x6, rfl, rfl, r3, H, A⟩ | hF
 ·show AW _ _ _ _ _ _ _
  refine aw_sr 4 ?_
  refine at_el 4 [(6, .ptr (some (h.size, 0))), (7, .int .i64 0), (8, .int .i64 0)] H (fun _ => id) fun fr H => ?_
  refine aw_rt ?_
  obtain ⟨rfl, rfl, rfl⟩ := injC hm
  refine ⟨.inl rfl, .tuple [.ptr (some (h.size, 0)), .int .i64 0, .int .i64 0], rH H, ?_⟩
  replace A := A.k3 1 0 2
  exact .inl ⟨h.size, r2, (⟨x3, p2⟩ : S_scope_Rules), rfl, rfl, A⟩
 ·obtain ⟨rfl, rfl, rfl⟩ := injC hm
  refine ⟨.inl rfl, .tuple [.ptr none, .int .i64 x5, .int .i64 x6], rH H, ?_⟩
  replace A := A.k1 2
  exact .inr ⟨rfl, rfl, A⟩
 exact hF.elim
noncomputable def M_dfa_Dfa_Longest_L0 (p0 : S_dfa_Dfa) (p1 : List UInt8) (s : Int × Int × Bool × Int) : Option ((Int × Int × Bool × Int) ⊕ ((Int × Bool))) :=
 match s with
 | (x2, x3, x4, x5) => iteB (decide (x2 ≥ (0 : Int))) (iteB (x5 == (p1.length : Int)) ((ixV p0.last_ x2).bind fun x8 => iteB x8 (some (.inr (x5, true))) (some (.inr (x3, x4)))) (((ixV p0.ends_ x2).bind fun x11 => iteB x11 (some (x5, true)) (some (x3, x4)) : Option ((Int × Bool))).bind fun (x9, x10) => (ixS p1 x5).bind fun x12 => (ixB 256 p0.column_ x12).bind fun x13 => (ixV p0.next_ (IntKind.i64.wrap ((IntKind.i64.wrap ((IntKind.i64.wrap x2) * p0.columns_)) + (IntKind.i64.wrap x13)))).bind fun x14 => some (.inl (x14, x9, x10, IntKind.i64.wrap (x5 + (1 : Int)))))) (some (.inr (x3, x4)))
noncomputable def M_dfa_Dfa_Longest (p0 : S_dfa_Dfa) (p1 : List UInt8) (p2 : Int) : Option (Int × Bool) :=
 iteB ((decide (p2 < (0 : Int))) || (decide (p2 > (p1.length : Int)))) (some ((0 : Int), false)) (iteB (p1 == ([] : List UInt8)) (some ((0 : Int), p0.empty_)) ((iteB (p2 == (0 : Int)) (some p0.first_) (some p0.later_) : Option ((Int))).bind fun x1 => (loop (M_dfa_Dfa_Longest_L0 p0 p1) (x1, (0 : Int), false, p2)).bind fun (x6, x7) => some (x6, x7)))
theorem ok_dfa_Dfa_Longest {p0 p1 p2 q0 q1} (hm : M_dfa_Dfa_Longest p0 p1 p2 = some (q0, q1)) (A : HH g h [] F) (hc : canL (cfg.still 97) av = [.vptr (big 256 (AVal.int .u8) p0.column_ ++ [.int .i64 p0.columns_, vs (eI .i32) p0.next_, vs eB p0.ends_, vs eB p0.last_, .int .i32 p0.first_, .int .i32 p0.later_, .bool p0.empty_]), .str p1, .int .i64 p2] := by kernel_rfl) : ∃ v h', Runs cfg g h 97 av v h' ∧ v = .tuple [.int .i64 q0, .bool q1] ∧ HH g h' [] F := by
 refine rq1 86 [.tmp 6, .tmp 7] hc ?_
 clear hc
 unfold M_dfa_Dfa_Longest at hm
 refine bg 86 [(0, .vptr (big 256 (AVal.int .u8) p0.column_ ++ [.int .i64 p0.columns_, vs (eI .i32) p0.next_, vs eB p0.ends_, vs eB p0.last_, .int .i32 p0.first_, .int .i32 p0.later_, .bool p0.empty_])), (1, .str p1), (2, .int .i64 p2)] fun fr H => ?_
 refine aw_sr 2 ?_
 refine at_el 2 [] H (fun _ => id) fun fr H => ?_
 refine aw_sq ?_
 refine aw_sr 8 ?_
 refine at_sl 3 [(14, .bool (decide (p2 < (0 : Int))))] H fun fr H => ?_
 refine at_cl 5 (fun fr' h' => h = h' ∧ Has fr' 86 [(0, .vptr (big 256 (AVal.int .u8) p0.column_ ++ [.int .i64 p0.columns_, vs (eI .i32) p0.next_, vs eB p0.ends_, vs eB p0.last_, .int .i32 p0.first_, .int .i32 p0.later_, .bool p0.empty_])), (1, .str p1), (2, .int .i64 p2), (19, .bool ((decide (p2 < (0 : Int))) || (decide (p2 > (p1.length : Int)))))]) ?_ ?_
 ·cases hb : (decide (p2 < (0 : Int)) : Bool) with
  | true =>
   replace H := H.kn 14 hb
   refine at_sl 5 [(19, .bool true)] H fun fr H => ?_
   exact at_zb H hb
  | false =>
   replace H := H.kn 14 hb
   refine at_sl 5 [(19, .bool (decide (p2 > (p1.length : Int))))] H fun fr H => ?_
   exact at_zb H hb
 intro t fr h' hK
 obtain ⟨e, H⟩ := hK
 subst e
 refine at_nl id ?_
 refine aw_if 19 H hm (fun hb hm H => ?_) fun hb hm H => ?_
 ·refine aw_sr 2 ?_
  refine at_el 2 [(6, .int .i64 0), (7, .bool false)] H (fun _ => id) fun fr H => ?_
  refine aw_rt ?_
  obtain ⟨rfl, rfl⟩ := injB hm
  exact ⟨.inl rfl, _, rH H, rfl, A⟩
 refine aw_kn id ?_
 refine aw_sq ?_
 refine aw_sr 2 ?_
 refine at_el 2 [(21, .bool (p1 == ([] : List UInt8)))] H (fun _ => id) fun fr H => ?_
 refine aw_if 21 H hm (fun hb hm H => ?_) fun hb hm H => ?_
 ·refine aw_sq ?_
  refine aw_dg 4 6 ?_
  refine at_g1 3 [] 25 (.bool p0.empty_) h H (fun fr => .of (s_lv (by kernel_rfl))) fun fr t H => ?_
  refine at_el 2 [(6, .int .i64 0), (7, .bool p0.empty_)] H (fun _ => id) fun fr H => ?_
  refine aw_rt ?_
  obtain ⟨rfl, rfl⟩ := injB hm
  exact ⟨.inl rfl, _, rH H, rfl, A⟩
 refine aw_ks 5 id ?_
 refine at_g1 3 [] 29 (.int .i32 p0.later_) h H (fun fr => .of (s_lv (by kernel_rfl))) fun fr t H => ?_
 refine at_el 1 [(8, .int .i32 p0.later_)] H (fun _ => id) fun fr H => ?_
 refine aw_sq ?_
 obtain ⟨o1, ho, hm⟩ := bind_some hm
 refine aw_mono (Q' := fun e fr' h' => (∃ x1, e = .normal ∧ x1 = o1 ∧ Has fr' 86 [(0, .vptr (big 256 (AVal.int .u8) p0.column_ ++ [.int .i64 p0.columns_, vs (eI .i32) p0.next_, vs eB p0.ends_, vs eB p0.last_, .int .i32 p0.first_, .int .i32 p0.later_, .bool p0.empty_])), (1, .str p1), (2, .int .i64 p2), (8, .int .i32 x1)] ∧ HH g h' [] F) ∨ False) ?_ ?_
 ·replace hm := ho
  clear ho
  refine aw_sr 2 ?_
  refine at_el 2 [(31, .bool (p2 == (0 : Int)))] H (fun _ => id) fun fr H => ?_
  refine aw_if 31 H hm (fun hb hm H => ?_) fun hb hm H => ?_
  ·refine aw_rg 5 ?_
   refine at_g1 3 [] 35 (.int .i32 p0.first_) h H (fun fr => .of (s_lv (by kernel_rfl))) fun fr t H => ?_
   refine at_se 1 [(0, .vptr (big 256 (AVal.int .u8) p0.column_ ++ [.int .i64 p0.columns_, vs (eI .i32) p0.next_, vs eB p0.ends_, vs eB p0.last_, .int .i32 p0.first_, .int .i32 p0.later_, .bool p0.empty_])), (1, .str p1), (2, .int .i64 p2), (8, .int .i32 p0.first_)] H fun fr H => ?_
   refine at_nil ?_
   exact .inl ⟨_, rfl, injA hm, H.ls, A⟩
  refine aw_sk ?_
  exact .inl ⟨_, rfl, injA hm, H.ls, A⟩
 clear ho
 clear A
 intro e fr h1 hQ
 rcases hQ with ⟨x1, rfl, rfl, H, A⟩ | hF
 ·show AW _ _ _ _ _ _ _
  refine aw_sr 2 ?_
  refine at_el 2 [(9, .int .i64 0), (10, .bool false)] H (fun _ => id) fun fr H => ?_
  refine aw_sq ?_
  refine aw_sr 2 ?_
  refine at_el 2 [(11, .int .i64 p2)] H (fun _ => id) fun fr H => ?_
  refine aw_block (id := 0) (by kernel_rfl) ?_
  obtain ⟨o2, ho, hm⟩ := bind_some hm
  refine aw_mono (Q' := fun e fr' h' => (∃ x6 x7, e = .exit 0 ∧ (x6, x7) = o2 ∧ Has fr' 86 [(9, .int .i64 x6), (10, .bool x7)] ∧ HH g h' [] F) ∨ False) ?_ ?_
  ·refine aw_loop (by kernel_rfl) (fun (s : Int × Int × Bool × Int) fr' h' => ∃ x2 x3 x4 x5, (x2, x3, x4, x5) = s ∧ Has fr' 86 [(0, .vptr (big 256 (AVal.int .u8) p0.column_ ++ [.int .i64 p0.columns_, vs (eI .i32) p0.next_, vs eB p0.ends_, vs eB p0.last_, .int .i32 p0.first_, .int .i32 p0.later_, .bool p0.empty_])), (1, .str p1), (8, .int .i32 x2), (9, .int .i64 x3), (10, .bool x4), (11, .int .i64 x5)] ∧ HH g h' [] F) ho ⟨_, _, _, _, rfl, H.ls, A⟩ ?_
   clear ho hm H A
   intro s q fr h2 hI hm
   obtain ⟨x2, x3, x4, x5, rfl, H, A⟩ := hI
   unfold M_dfa_Dfa_Longest_L0 at hm
   refine aw_sq ?_
   refine aw_sr 2 ?_
   refine at_el 2 [(38, .bool (decide (x2 ≥ (0 : Int))))] H (fun _ => id) fun fr H => ?_
   refine aw_if 38 H hm (fun hb hm H => ?_) fun hb hm H => ?_
   ·refine aw_kn id ?_
    refine aw_sq ?_
    refine aw_block (id := 1) (by kernel_rfl) ?_
    refine aw_sq ?_
    refine aw_sr 4 ?_
    refine at_el 4 [(44, .bool (x5 == (p1.length : Int)))] H (fun _ => id) fun fr H => ?_
    refine aw_if 44 H hm (fun hb hm H => ?_) fun hb hm H => ?_
    ·refine aw_sq ?_
     refine aw_sr 7 ?_
     refine at_g1 3 [] 48 (vs eB p0.last_) h2 H (fun fr => .of (s_lv (by kernel_rfl))) fun fr t H => ?_
     obtain ⟨x8, hx, hm⟩ := bind_some hm
     refine at_g1 1 [] 50 (.vptr [.bool x8]) h2 H (fun fr => .of (s_ixV (e := eB) (x := x8) encB (by decide) (by kernel_rfl) hx)) fun fr t H => ?_
     refine at_l1 51 (.bool x8) h2 H (fun fr => .of (s_lv (by kernel_rfl))) fun fr t H => ?_
     refine at_nl id ?_
     refine aw_if 51 H hm (fun hb hm H => ?_) fun hb hm H => ?_
     ·refine aw_rg 3 ?_
      refine at_se 3 [(9, .int .i64 x5), (10, .bool true)] H fun fr H => ?_
      refine at_nl id ?_
      refine aw_exit (i := 0) (by kernel_rfl) ?_
      exact nr hm fun e => .inl ⟨_, _, rfl, e, H.ls, A⟩
     refine aw_kn id ?_
     refine aw_exit (i := 0) (by kernel_rfl) ?_
     exact nr hm fun e => .inl ⟨_, _, rfl, e, H.ls, A⟩
    refine aw_kn id ?_
    refine aw_sq ?_
    obtain ⟨o3, ho, hm⟩ := bind_some hm
    refine aw_mono (Q' := fun e fr' h' => (∃ x9 x10, e = .normal ∧ (x9, x10) = o3 ∧ Has fr' 86 [(0, .vptr (big 256 (AVal.int .u8) p0.column_ ++ [.int .i64 p0.columns_, vs (eI .i32) p0.next_, vs eB p0.ends_, vs eB p0.last_, .int .i32 p0.first_, .int .i32 p0.later_, .bool p0.empty_])), (1, .str p1), (8, .int .i32 x2), (9, .int .i64 x9), (10, .bool x10), (11, .int .i64 x5)] ∧ HH g h' [] F) ∨ False) ?_ ?_
    ·replace hm := ho
     clear ho
     refine aw_sr 7 ?_
     refine at_g1 3 [] 56 (vs eB p0.ends_) h2 H (fun fr => .of (s_lv (by kernel_rfl))) fun fr t H => ?_
     obtain ⟨x11, hx, hm⟩ := bind_some hm
     refine at_g1 1 [] 58 (.vptr [.bool x11]) h2 H (fun fr => .of (s_ixV (e := eB) (x := x11) encB (by decide) (by kernel_rfl) hx)) fun fr t H => ?_
     refine at_l1 59 (.bool x11) h2 H (fun fr => .of (s_lv (by kernel_rfl))) fun fr t H => ?_
     refine at_nl id ?_
     refine aw_if 59 H hm (fun hb hm H => ?_) fun hb hm H => ?_
     ·refine aw_rg 3 ?_
      refine at_se 3 [(0, .vptr (big 256 (AVal.int .u8) p0.column_ ++ [.int .i64 p0.columns_, vs (eI .i32) p0.next_, vs eB p0.ends_, vs eB p0.last_, .int .i32 p0.first_, .int .i32 p0.later_, .bool p0.empty_])), (1, .str p1), (8, .int .i32 x2), (9, .int .i64 x5), (10, .bool true), (11, .int .i64 x5)] H fun fr H => ?_
      refine at_nil ?_
      exact .inl ⟨_, _, rfl, injA hm, H.ls, A⟩
     refine aw_sk ?_
     exact .inl ⟨_, _, rfl, injA hm, H.ls, A⟩
    clear ho
    clear A
    intro e fr h3 hQ
    rcases hQ with ⟨x9, x10, rfl, rfl, H, A⟩ | hF
    ·show AW _ _ _ _ _ _ _
     refine aw_dg 17 24 ?_
     refine at_g1 3 [] 64 (vs (eI .i32) p0.next_) h3 H (fun fr => .of (s_lv (by kernel_rfl))) fun fr t H => ?_
     refine at_g1 5 [(66, .int .i64 (IntKind.i64.wrap x2))] 70 (.int .i64 p0.columns_) h3 H (fun fr => .of (s_lv (by kernel_rfl))) fun fr t H => ?_
     obtain ⟨x12, hx, hm⟩ := bind_some hm
     refine at_g1 4 [(71, .int .i64 (IntKind.i64.wrap ((IntKind.i64.wrap x2) * p0.columns_))), (72, .vptr (big 256 (AVal.int .u8) p0.column_ ++ [.int .i64 p0.columns_, vs (eI .i32) p0.next_, vs eB p0.ends_, vs eB p0.last_, .int .i32 p0.first_, .int .i32 p0.later_, .bool p0.empty_]))] 75 (.int .u8 x12) h3 H (fun fr => .of (s_ixS (by kernel_rfl) hx)) fun fr t H => ?_
     obtain ⟨x13, hq1, hm⟩ := bind_some hm
     obtain ⟨tl1, hd1⟩ := big_drop (AVal.int .u8) [.int .i64 p0.columns_, vs (eI .i32) p0.next_, vs eB p0.ends_, vs eB p0.last_, .int .i32 p0.first_, .int .i32 p0.later_, .bool p0.empty_] hq1
     refine at_g1 2 [] 78 (.vptr ([.int .u8 x13] ++ tl1)) h3 H (fun fr => .of (s_ixBg (X := p0.column_) (by kernel_rfl) hq1 hd1)) fun fr t H => ?_
     refine at_l1 79 (.int .u8 x13) h3 H (fun fr => .of (s_lv (by kernel_rfl))) fun fr t H => ?_
     obtain ⟨x14, hx, hm⟩ := bind_some hm
     refine at_g1 2 [] 82 (.vptr [.int .i32 x14]) h3 H (fun fr => .of (s_ixV (e := (eI .i32)) (x := x14) (encI .i32) (by decide) (by kernel_rfl) hx)) fun fr t H => ?_
     refine at_l1 83 (.int .i32 x14) h3 H (fun fr => .of (s_lv (by kernel_rfl))) fun fr t H => ?_
     refine at_se 1 [(0, .vptr (big 256 (AVal.int .u8) p0.column_ ++ [.int .i64 p0.columns_, vs (eI .i32) p0.next_, vs eB p0.ends_, vs eB p0.last_, .int .i32 p0.first_, .int .i32 p0.later_, .bool p0.empty_])), (1, .str p1), (8, .int .i32 x14), (9, .int .i64 x9), (10, .bool x10), (11, .int .i64 x5)] H fun fr H => ?_
     refine at_nr 3 id ?_
     refine at_se 3 [(0, .vptr (big 256 (AVal.int .u8) p0.column_ ++ [.int .i64 p0.columns_, vs (eI .i32) p0.next_, vs eB p0.ends_, vs eB p0.last_, .int .i32 p0.first_, .int .i32 p0.later_, .bool p0.empty_])), (1, .str p1), (8, .int .i32 x14), (9, .int .i64 x9), (10, .bool x10), (11, .int .i64 (IntKind.i64.wrap (x5 + (1 : Int))))] H fun fr H => ?_
     refine at_nil ?_
     exact nx hm ⟨_, _, _, _, rfl, H.ls, A⟩
    exact hF.elim
   refine aw_exit (i := 0) (by kernel_rfl) ?_
   exact nr hm fun e => .inl ⟨_, _, rfl, e, H.ls, A⟩
  clear ho
  clear A
  intro e fr h4 hQ
  rcases hQ with ⟨x6, x7, rfl, rfl, H, A⟩ | hF
  ·show AW _ _ _ _ _ _ _
   refine aw_sr 4 ?_
   refine at_el 4 [(6, .int .i64 x6), (7, .bool x7)] H (fun _ => id) fun fr H => ?_
   refine aw_rt ?_
   obtain ⟨rfl, rfl⟩ := injB hm
   exact ⟨.inl rfl, _, rH H, rfl, A⟩
  exact hF.elim
 exact hF.elim
noncomputable def M_dfa_Dfa_Find_L0 (p0 : S_dfa_Dfa) (p1 : List UInt8) (s : Int) : Option ((Int) ⊕ ((Unit) ⊕ (Int × Int × Bool))) :=
 match s with
 | x1 => iteB (decide (x1 ≤ (p1.length : Int))) ((M_dfa_Dfa_Longest p0 p1 x1).bind fun (x5, x6) => iteB x6 (some (.inr (.inr (x1, x5, true)))) (some (.inl (IntKind.i64.wrap (x1 + (1 : Int)))))) (some (.inr (.inl ())))
noncomputable def M_dfa_Dfa_Find (p0 : S_dfa_Dfa) (p1 : List UInt8) (p2 : Int) : Option (Int × Int × Bool) :=
 (loop (M_dfa_Dfa_Find_L0 p0 p1) (mx p2 (0 : Int))).bind fun o1 => (match o1 with | .inl _ => some ((0 : Int), (0 : Int), false) | .inr (x2, x3, x4) => some (x2, x3, x4))
theorem ok_dfa_Dfa_Find {p0 p1 p2 q0 q1 q2} (hm : M_dfa_Dfa_Find p0 p1 p2 = some (q0, q1, q2)) (A : HH g h [] F) (hc : canL (cfg.still 47) av = [.vptr (big 256 (AVal.int .u8) p0.column_ ++ [.int .i64 p0.columns_, vs (eI .i32) p0.next_, vs eB p0.ends_, vs eB p0.last_, .int .i32 p0.first_, .int .i32 p0.later_, .bool p0.empty_]), .str p1, .int .i64 p2] := by kernel_rfl) : ∃ v h', Runs cfg g h 47 av v h' ∧ v = .tuple [.int .i64 q0, .int .i64 q1, .bool q2] ∧ HH g h' [] F := by
 refine rq1 27 [.tmp 6, .tmp 7, .tmp 8] hc ?_
 clear hc
 unfold M_dfa_Dfa_Find at hm
 refine bg 27 [(0, .vptr (big 256 (AVal.int .u8) p0.column_ ++ [.int .i64 p0.columns_, vs (eI .i32) p0.next_, vs eB p0.ends_, vs eB p0.last_, .int .i32 p0.first_, .int .i32 p0.later_, .bool p0.empty_])), (1, .str p1), (2, .int .i64 p2)] fun fr H => ?_
 refine aw_sr 3 ?_
 refine at_el 3 [] H (fun _ => id) fun fr H => ?_
 refine aw_sq ?_
 refine aw_sr 3 ?_
 refine at_el 3 [(6, .int .i64 (mx p2 (0 : Int)))] H (fun _ => id) fun fr H => ?_
 refine aw_block (id := 0) (by kernel_rfl) ?_
 obtain ⟨o1, ho, hm⟩ := bind_some hm
 refine aw_mono (Q' := fun e fr' h' => (e = .exit 0 ∧ .inl () = o1 ∧ Has fr' 27 [] ∧ HH g h' [] F) ∨ (∃ x2 x3 x4, e = .ret ∧ .inr (x2, x3, x4) = o1 ∧ Has fr' 27 [(6, .int .i64 x2), (7, .int .i64 x3), (8, .bool x4)] ∧ HH g h' [] F) ∨ False) ?_ ?_
 ·refine aw_loop (by kernel_rfl) (fun (s : Int) fr' h' => ∃ x1, x1 = s ∧ Has fr' 27 [(0, .vptr (big 256 (AVal.int .u8) p0.column_ ++ [.int .i64 p0.columns_, vs (eI .i32) p0.next_, vs eB p0.ends_, vs eB p0.last_, .int .i32 p0.first_, .int .i32 p0.later_, .bool p0.empty_])), (1, .str p1), (6, .int .i64 x1)] ∧ HH g h' [] F) ho ⟨_, rfl, H.ls, A⟩ ?_
  clear ho hm H A
  intro s q fr h1 hI hm
  obtain ⟨x1, rfl, H, A⟩ := hI
  unfold M_dfa_Dfa_Find_L0 at hm
  refine aw_sq ?_
  refine aw_sr 4 ?_
  refine at_el 4 [(14, .bool (decide (x1 ≤ (p1.length : Int))))] H (fun _ => id) fun fr H => ?_
  refine aw_if 14 H hm (fun hb hm H => ?_) fun hb hm H => ?_
  ·refine aw_kn id ?_
   refine aw_sq ?_
   refine aw_block (id := 1) (by kernel_rfl) ?_
   refine aw_sr 9 ?_
   obtain ⟨⟨x5, x6⟩, hx, hm⟩ := bind_some hm
   obtain ⟨v1, h2, hr, rfl, A1⟩ := ok_dfa_Dfa_Longest (av := [.vptr (big 256 (AVal.int .u8) p0.column_ ++ [.int .i64 p0.columns_, vs (eI .i32) p0.next_, vs eB p0.ends_, vs eB p0.last_, .int .i32 p0.first_, .int .i32 p0.later_, .bool p0.empty_]), .str p1, .int .i64 x1]) hx (A.cut 0)
   replace A := A.g00 A1
   refine at_gc1 3 [] 21 hr H fun fr t H => ?_
   refine at_es 5 [(7, .int .i64 x5), (8, .bool x6)] 1 H (fun _ => id) fun fr H => ?_
   refine at_el 1 [(24, .bool x6)] H (fun _ => id) fun fr H => ?_
   refine aw_if 24 H hm (fun hb hm H => ?_) fun hb hm H => ?_
   ·refine aw_sr 5 ?_
    refine at_se 5 [(6, .int .i64 x1), (7, .int .i64 x5), (8, .bool true)] H fun fr H => ?_
    refine at_nl id ?_
    refine aw_rt ?_
    exact nr hm fun e => Or.inr (.inl ⟨_, _, _, rfl, e, H.ls, A⟩)
   refine aw_kr 3 id ?_
   refine at_se 3 [(0, .vptr (big 256 (AVal.int .u8) p0.column_ ++ [.int .i64 p0.columns_, vs (eI .i32) p0.next_, vs eB p0.ends_, vs eB p0.last_, .int .i32 p0.first_, .int .i32 p0.later_, .bool p0.empty_])), (1, .str p1), (6, .int .i64 (IntKind.i64.wrap (x1 + (1 : Int))))] H fun fr H => ?_
   refine at_nil ?_
   exact nx hm ⟨_, rfl, H.ls, A⟩
  refine aw_exit (i := 0) (by kernel_rfl) ?_
  exact nr hm fun e => .inl ⟨rfl, e, H.ls, A⟩
 clear ho
 clear A
 intro e fr h3 hQ
 rcases hQ with ⟨rfl, rfl, H, A⟩ | ⟨x2, x3, x4, rfl, rfl, H, A⟩ | hF
 ·show AW _ _ _ _ _ _ _
  refine aw_sr 3 ?_
  refine at_el 3 [(6, .int .i64 0), (7, .int .i64 0), (8, .bool false)] H (fun _ => id) fun fr H => ?_
  refine aw_rt ?_
  obtain ⟨rfl, rfl, rfl⟩ := injC hm
  exact ⟨.inl rfl, _, rH H, rfl, A⟩
 ·obtain ⟨rfl, rfl, rfl⟩ := injC hm
  exact ⟨.inl rfl, _, rH H, rfl, A⟩
 exact hF.elim
noncomputable def M_subst_Highest_L0 (p0 : List S_subst_Part) (s : Int × Int) : Option ((Int × Int) ⊕ ((Int))) :=
 match s with
 | (x1, x2) => iteB (decide (x2 < (p0.length : Int))) (((ixV p0 x2).bind fun x5 => iteB (x5.Kind == (1 : Int)) (some (mx x1 x5.Group)) (some x1) : Option ((Int))).bind fun x4 => some (.inl (x4, IntKind.i64.wrap (x2 + (1 : Int))))) (some (.inr x1))
noncomputable def M_subst_Highest (p0 : List S_subst_Part) : Option (Int) :=
 (loop (M_subst_Highest_L0 p0) ((0 : Int), (0 : Int))).bind fun x3 => some x3
theorem ok_subst_Highest {p0 q0} (hm : M_subst_Highest p0 = some q0) (A : HH g h [] F) (hc : canL (cfg.still 43) av = [vs e_S_subst_Part p0] := by kernel_rfl) : ∃ v h', Runs cfg g h 43 av v h' ∧ v = .int .i64 q0 ∧ HH g h' [] F := by
 refine rq1 21 [.tmp 2] hc ?_
 clear hc
 unfold M_subst_Highest at hm
 refine bg 21 [(0, vs e_S_subst_Part p0)] fun fr H => ?_
 refine aw_sr 1 ?_
 refine at_es 1 [] 1 H (fun _ => id) fun fr H => ?_
 refine at_el 1 [(3, .int .i64 0)] H (fun _ => id) fun fr H => ?_
 refine aw_sq ?_
 refine aw_sr 3 ?_
 refine at_el 3 [(6, vs e_S_subst_Part p0), (7, .int .i64 (p0.length : Int)), (8, .int .i64 0)] H (fun _ => id) fun fr H => ?_
 refine aw_block (id := 0) (by kernel_rfl) ?_
 obtain ⟨o1, ho, hm⟩ := bind_some hm
 refine aw_mono (Q' := fun e fr' h' => (∃ x3, e = .exit 0 ∧ x3 = o1 ∧ Has fr' 21 [(3, .int .i64 x3)] ∧ HH g h' [] F) ∨ False) ?_ ?_
 ·refine aw_loop (by kernel_rfl) (fun (s : Int × Int) fr' h' => ∃ x1 x2, (x1, x2) = s ∧ Has fr' 21 [(3, .int .i64 x1), (6, vs e_S_subst_Part p0), (7, .int .i64 (p0.length : Int)), (8, .int .i64 x2)] ∧ HH g h' [] F) ho ⟨_, _, rfl, H.ls, A⟩ ?_
  clear ho hm H A
  intro s q fr h1 hI hm
  obtain ⟨x1, x2, rfl, H, A⟩ := hI
  unfold M_subst_Highest_L0 at hm
  refine aw_sr 1 ?_
  refine at_el 1 [(9, .bool (decide (x2 < (p0.length : Int))))] H (fun _ => id) fun fr H => ?_
  refine aw_sq ?_
  refine aw_if 9 H hm (fun hb hm H => ?_) fun hb hm H => ?_
  ·refine aw_kn id ?_
   refine aw_sq ?_
   obtain ⟨o2, ho, hm⟩ := bind_some hm
   refine aw_mono (Q' := fun e fr' h' => (∃ x4, e = .normal ∧ x4 = o2 ∧ Has fr' 21 [(3, .int .i64 x4), (6, vs e_S_subst_Part p0), (7, .int .i64 (p0.length : Int)), (8, .int .i64 x2)] ∧ HH g h' [] F) ∨ False) ?_ ?_
   ·replace hm := ho
    clear ho
    refine aw_block (id := 1) (by kernel_rfl) ?_
    refine aw_sr 4 ?_
    obtain ⟨x5, hx, hm⟩ := bind_some hm
    refine at_l1 10 (.vptr [.int .i64 x5.Kind, .int .i64 x5.Group, .str x5.Bytes]) h1 H (fun fr => .of (s_ixV (e := e_S_subst_Part) (x := x5) enc_S_subst_Part (by decide) (by kernel_rfl) hx)) fun fr t H => ?_
    refine at_l1 11 (.agg [.int .i64 x5.Kind, .int .i64 x5.Group, .str x5.Bytes]) h1 H (fun fr => .of (s_lv (by kernel_rfl))) fun fr t H => ?_
    obtain ⟨h2, e1, A⟩ := A.pu (.cells none 2 [.int .i64 0, .int .i64 0, .str ([] : List UInt8)])
    refine at_ln 5 (.ptr (some (h1.size, 0))) e1 H fun fr t H => ?_
    obtain ⟨h3, hx, A⟩ := A.s0 0 [.int .i64 x5.Kind, .int .i64 x5.Group, .str x5.Bytes] [_, _, _]
    refine at_lS hx H fun fr t H => ?_
    refine at_ns 3 id ?_
    refine at_gl 1 [] 13 0 0 A H fun fr t H => ?_
    refine at_el 1 [(14, .bool (x5.Kind == (1 : Int)))] H (fun _ => id) fun fr H => ?_
    refine aw_if 14 H hm (fun hb hm H => ?_) fun hb hm H => ?_
    ·refine aw_rg 5 ?_
     refine at_gl 2 [(15, .int .i64 x1)] 17 0 1 A H fun fr t H => ?_
     refine at_se 2 [(3, .int .i64 (mx x1 x5.Group)), (6, vs e_S_subst_Part p0), (7, .int .i64 (p0.length : Int)), (8, .int .i64 x2)] H fun fr H => ?_
     refine at_nil ?_
     replace A := A.d0
     exact .inl ⟨_, rfl, injA hm, H.ls, A⟩
    refine aw_sk ?_
    replace A := A.d0
    exact .inl ⟨_, rfl, injA hm, H.ls, A⟩
   clear ho
   clear A
   intro e fr h4 hQ
   rcases hQ with ⟨x4, rfl, rfl, H, A⟩ | hF
   ·show AW _ _ _ _ _ _ _
    refine aw_rg 2 ?_
    refine at_se 2 [(3, .int .i64 x4), (6, vs e_S_subst_Part p0), (7, .int .i64 (p0.length : Int)), (8, .int .i64 (IntKind.i64.wrap (x2 + (1 : Int))))] H fun fr H => ?_
    refine at_nil ?_
    exact nx hm ⟨_, _, rfl, H.ls, A⟩
   exact hF.elim
  refine aw_exit (i := 0) (by kernel_rfl) ?_
  exact nr hm fun e => .inl ⟨_, rfl, e, H.ls, A⟩
 clear ho
 clear A
 intro e fr h5 hQ
 rcases hQ with ⟨x3, rfl, rfl, H, A⟩ | hF
 ·show AW _ _ _ _ _ _ _
  refine aw_sr 2 ?_
  refine at_el 2 [(2, .int .i64 x3)] H (fun _ => id) fun fr H => ?_
  refine aw_rt ?_
  obtain rfl := injA hm
  exact ⟨.inl rfl, _, rH H, rfl, A⟩
 exact hF.elim
noncomputable def M_subst_letter (p0 : Int) (p1 : Int) : Option (Int) :=
 iteB ((((p1 == (2 : Int)) || (p1 == (5 : Int))) && ((decide (p0 ≥ (97 : Int))) && (decide (p0 ≤ (122 : Int))))) || (((p1 == (3 : Int)) || (p1 == (6 : Int))) && ((decide (p0 ≥ (65 : Int))) && (decide (p0 ≤ (90 : Int)))))) ((M_class_Other p0).bind fun x1 => some x1) (some p0)
theorem ok_subst_letter {p0 p1 q0} (hm : M_subst_letter p0 p1 = some q0) (A : HH g h [] F) (hc : canL (cfg.still 171) av = [.int .u8 p0, .int .i64 p1] := by kernel_rfl) : ∃ v h', Runs cfg g h 171 av v h' ∧ v = .int .u8 q0 ∧ HH g h' [] F := by
 refine rq1 42 [.tmp 4] hc ?_
 clear hc
 unfold M_subst_letter at hm
 refine bg 42 [(0, .int .u8 p0), (1, .int .i64 p1)] fun fr H => ?_
 refine aw_sr 1 ?_
 refine at_es 1 [] 14 H (fun _ => id) fun fr H => ?_
 refine at_sl 3 [(9, .bool (decide (p0 ≥ (97 : Int))))] H fun fr H => ?_
 refine at_cl 3 (fun fr' h' => h = h' ∧ Has fr' 42 [(0, .int .u8 p0), (1, .int .i64 p1), (12, .bool ((decide (p0 ≥ (97 : Int))) && (decide (p0 ≤ (122 : Int)))))]) ?_ ?_
 ·cases hb : (decide (p0 ≥ (97 : Int)) : Bool) with
  | true =>
   replace H := H.kn 9 hb
   refine at_sl 3 [(12, .bool (decide (p0 ≤ (122 : Int))))] H fun fr H => ?_
   exact at_zb H hb
  | false =>
   replace H := H.kn 9 hb
   refine at_sl 3 [(12, .bool false)] H fun fr H => ?_
   exact at_zb H hb
 intro t fr h' hK
 obtain ⟨e, H⟩ := hK
 subst e
 refine at_sl 3 [(15, .bool (decide (p0 ≥ (65 : Int))))] H fun fr H => ?_
 refine at_cl 3 (fun fr' h' => h = h' ∧ Has fr' 42 [(0, .int .u8 p0), (1, .int .i64 p1), (12, .bool ((decide (p0 ≥ (97 : Int))) && (decide (p0 ≤ (122 : Int))))), (18, .bool ((decide (p0 ≥ (65 : Int))) && (decide (p0 ≤ (90 : Int)))))]) ?_ ?_
 ·cases hb : (decide (p0 ≥ (65 : Int)) : Bool) with
  | true =>
   replace H := H.kn 15 hb
   refine at_sl 3 [(18, .bool (decide (p0 ≤ (90 : Int))))] H fun fr H => ?_
   exact at_zb H hb
  | false =>
   replace H := H.kn 15 hb
   refine at_sl 3 [(18, .bool false)] H fun fr H => ?_
   exact at_zb H hb
 intro t fr h' hK
 obtain ⟨e, H⟩ := hK
 subst e
 refine at_el 2 [(5, .bool ((decide (p0 ≥ (97 : Int))) && (decide (p0 ≤ (122 : Int))))), (6, .bool ((decide (p0 ≥ (65 : Int))) && (decide (p0 ≤ (90 : Int)))))] H (fun _ => id) fun fr H => ?_
 refine aw_sq ?_
 refine aw_sr 20 ?_
 refine at_sl 3 [(21, .bool (p1 == (2 : Int)))] H fun fr H => ?_
 refine at_cl 3 (fun fr' h' => h = h' ∧ Has fr' 42 [(0, .int .u8 p0), (1, .int .i64 p1), (5, .bool ((decide (p0 ≥ (97 : Int))) && (decide (p0 ≤ (122 : Int))))), (6, .bool ((decide (p0 ≥ (65 : Int))) && (decide (p0 ≤ (90 : Int))))), (24, .bool ((p1 == (2 : Int)) || (p1 == (5 : Int))))]) ?_ ?_
 ·cases hb : (p1 == (2 : Int) : Bool) with
  | true =>
   replace H := H.kn 21 hb
   refine at_sl 3 [(24, .bool true)] H fun fr H => ?_
   exact at_zb H hb
  | false =>
   replace H := H.kn 21 hb
   refine at_sl 3 [(24, .bool (p1 == (5 : Int)))] H fun fr H => ?_
   exact at_zb H hb
 intro t fr h' hK
 obtain ⟨e, H⟩ := hK
 subst e
 refine at_sl 1 [(25, .bool ((p1 == (2 : Int)) || (p1 == (5 : Int))))] H fun fr H => ?_
 refine at_cl 2 (fun fr' h' => h = h' ∧ Has fr' 42 [(0, .int .u8 p0), (1, .int .i64 p1), (6, .bool ((decide (p0 ≥ (65 : Int))) && (decide (p0 ≤ (90 : Int))))), (27, .bool (((p1 == (2 : Int)) || (p1 == (5 : Int))) && ((decide (p0 ≥ (97 : Int))) && (decide (p0 ≤ (122 : Int))))))]) ?_ ?_
 ·cases hb : ((p1 == (2 : Int)) || (p1 == (5 : Int)) : Bool) with
  | true =>
   replace H := H.kn 25 hb
   refine at_sl 2 [(27, .bool ((decide (p0 ≥ (97 : Int))) && (decide (p0 ≤ (122 : Int)))))] H fun fr H => ?_
   exact at_zb H hb
  | false =>
   replace H := H.kn 25 hb
   refine at_sl 2 [(27, .bool false)] H fun fr H => ?_
   exact at_zb H hb
 intro t fr h' hK
 obtain ⟨e, H⟩ := hK
 subst e
 refine at_sl 1 [(28, .bool (((p1 == (2 : Int)) || (p1 == (5 : Int))) && ((decide (p0 ≥ (97 : Int))) && (decide (p0 ≤ (122 : Int))))))] H fun fr H => ?_
 refine at_cl 10 (fun fr' h' => h = h' ∧ Has fr' 42 [(0, .int .u8 p0), (38, .bool ((((p1 == (2 : Int)) || (p1 == (5 : Int))) && ((decide (p0 ≥ (97 : Int))) && (decide (p0 ≤ (122 : Int))))) || (((p1 == (3 : Int)) || (p1 == (6 : Int))) && ((decide (p0 ≥ (65 : Int))) && (decide (p0 ≤ (90 : Int)))))))]) ?_ ?_
 ·cases hb : (((p1 == (2 : Int)) || (p1 == (5 : Int))) && ((decide (p0 ≥ (97 : Int))) && (decide (p0 ≤ (122 : Int)))) : Bool) with
  | true =>
   replace H := H.kn 28 hb
   refine at_sl 10 [(38, .bool true)] H fun fr H => ?_
   exact at_zb H hb
  | false =>
   replace H := H.kn 28 hb
   refine at_sl 3 [(31, .bool (p1 == (3 : Int)))] H fun fr H => ?_
   refine at_cl 3 (fun fr' h' => h = h' ∧ Has fr' 42 [(0, .int .u8 p0), (6, .bool ((decide (p0 ≥ (65 : Int))) && (decide (p0 ≤ (90 : Int))))), (28, .bool false), (34, .bool ((p1 == (3 : Int)) || (p1 == (6 : Int))))]) ?_ ?_
   ·cases hb : (p1 == (3 : Int) : Bool) with
    | true =>
     replace H := H.kn 31 hb
     refine at_sl 3 [(34, .bool true)] H fun fr H => ?_
     exact at_zb H hb
    | false =>
     replace H := H.kn 31 hb
     refine at_sl 3 [(34, .bool (p1 == (6 : Int)))] H fun fr H => ?_
     exact at_zb H hb
   intro t fr h' hK
   obtain ⟨e, H⟩ := hK
   subst e
   refine at_sl 1 [(35, .bool ((p1 == (3 : Int)) || (p1 == (6 : Int))))] H fun fr H => ?_
   refine at_cl 2 (fun fr' h' => h = h' ∧ Has fr' 42 [(0, .int .u8 p0), (28, .bool false), (37, .bool (((p1 == (3 : Int)) || (p1 == (6 : Int))) && ((decide (p0 ≥ (65 : Int))) && (decide (p0 ≤ (90 : Int))))))]) ?_ ?_
   ·cases hb : ((p1 == (3 : Int)) || (p1 == (6 : Int)) : Bool) with
    | true =>
     replace H := H.kn 35 hb
     refine at_sl 2 [(37, .bool ((decide (p0 ≥ (65 : Int))) && (decide (p0 ≤ (90 : Int)))))] H fun fr H => ?_
     exact at_zb H hb
    | false =>
     replace H := H.kn 35 hb
     refine at_sl 2 [(37, .bool false)] H fun fr H => ?_
     exact at_zb H hb
   intro t fr h' hK
   obtain ⟨e, H⟩ := hK
   subst e
   refine at_sl 1 [(38, .bool (((p1 == (3 : Int)) || (p1 == (6 : Int))) && ((decide (p0 ≥ (65 : Int))) && (decide (p0 ≤ (90 : Int))))))] H fun fr H => ?_
   exact at_zb H hb
 intro t fr h' hK
 obtain ⟨e, H⟩ := hK
 subst e
 refine at_nl id ?_
 refine aw_if 38 H hm (fun hb hm H => ?_) fun hb hm H => ?_
 ·refine aw_sr 3 ?_
  obtain ⟨x1, hx, hm⟩ := bind_some hm
  obtain ⟨v1, h1, hr, rfl, A1⟩ := ok_class_Other (av := [.int .u8 p0]) hx (A.cut 0)
  replace A := A.g00 A1
  refine at_gc1 1 [] 40 hr H fun fr t H => ?_
  refine at_el 1 [(4, .int .u8 x1)] H (fun _ => id) fun fr H => ?_
  refine aw_rt ?_
  obtain rfl := injA hm
  exact ⟨.inl rfl, _, rH H, rfl, A⟩
 refine aw_ks 2 id ?_
 refine at_el 2 [(4, .int .u8 p0)] H (fun _ => id) fun fr H => ?_
 refine aw_rt ?_
 obtain rfl := injA hm
 exact ⟨.inl rfl, _, rH H, rfl, A⟩
noncomputable def M_subst_turner_put_sPOS_L0 (p0 : S_subst_turner) (p1 : List UInt8) (s : Int × (List UInt8) × Int) : Option ((Int × (List UInt8) × Int) ⊕ ((Int × (List UInt8)))) :=
 match s with
 | (x1, x2, x3) => iteB (decide (x3 < (p1.length : Int))) ((iteB (x1 != (0 : Int)) (some ((0 : Int), x1)) (some (x1, p0.all_)) : Option ((Int × Int))).bind fun (x6, x7) => (ixS p1 x3).bind fun x8 => (M_subst_letter x8 x7).bind fun x9 => (toY x9).bind fun x10 => need (okN 1 (x2.length + ([x10] : List UInt8).length)) <| some (.inl (x6, (x2 ++ ([x10] : List UInt8)), IntKind.i64.wrap (x3 + (1 : Int))))) (some (.inr (x1, x2)))
noncomputable def M_subst_turner_put_sPOS (p0 : S_subst_turner) (p1 : List UInt8) : Option (S_subst_turner × (List UInt8)) :=
 (loop (M_subst_turner_put_sPOS_L0 p0 p1) (p0.next_, p0.out_, (0 : Int))).bind fun (x4, x5) => some ((⟨x5, p0.all_, x4⟩ : S_subst_turner), x5)
theorem ok_subst_turner_put_sPOS {p0 p1 bp0 rp0_0 u0 u1} (hm : M_subst_turner_put_sPOS p0 p1 = some (u0, u1)) (A : HH g h [.obj bp0 (.cells none 2 [rowV rp0_0 p0.out_.length, .int .i64 p0.all_, .int .i64 p0.next_]), .lst rp0_0 5 (lst eY p0.out_)] F) (hc : canL (cfg.still 136) av = [.ptr (some (bp0, 0)), .str p1] := by kernel_rfl) : ∃ v h', Runs cfg g h 136 av v h' ∧ ∃ (r'1 : Option Nat), v = .tuple [] ∧ HH g h' [.obj bp0 (.cells none 2 [rowV r'1 u1.length, .int .i64 u0.all_, .int .i64 u0.next_]), .lst r'1 5 (lst eY u1)] F := by
 refine rq1 42 [] hc ?_
 clear hc
 unfold M_subst_turner_put_sPOS at hm
 refine bg 42 [(0, .ptr (some (bp0, 0))), (1, .str p1)] fun fr H => ?_
 refine aw_sr 3 ?_
 refine at_el 3 [(7, .int .i64 (p1.length : Int)), (8, .int .i64 0)] H (fun _ => id) fun fr H => ?_
 refine aw_block (id := 0) (by kernel_rfl) ?_
 obtain ⟨o1, ho, hm⟩ := bind_some hm
 refine aw_mono (Q' := fun e fr' h' => (∃ x4 x5, e = .exit 0 ∧ (x4, x5) = o1 ∧ ∃ r2, Has fr' 42 [] ∧ HH g h' [.obj bp0 (.cells none 2 [rowV r2 x5.length, .int .i64 p0.all_, .int .i64 x4]), .lst r2 5 (lst eY x5)] F) ∨ False) ?_ ?_
 ·refine aw_loop (by kernel_rfl) (fun (s : Int × (List UInt8) × Int) fr' h' => ∃ x1 x2 x3, (x1, x2, x3) = s ∧ ∃ r1, Has fr' 42 [(0, .ptr (some (bp0, 0))), (1, .str p1), (7, .int .i64 (p1.length : Int)), (8, .int .i64 x3)] ∧ HH g h' [.obj bp0 (.cells none 2 [rowV r1 x2.length, .int .i64 p0.all_, .int .i64 x1]), .lst r1 5 (lst eY x2)] F) ho ⟨_, _, _, rfl, rp0_0, H.ls, A⟩ ?_
  clear ho hm H A
  intro s q fr h1 hI hm
  obtain ⟨x1, x2, x3, rfl, r1, H, A⟩ := hI
  unfold M_subst_turner_put_sPOS_L0 at hm
  refine aw_sr 1 ?_
  refine at_el 1 [(9, .bool (decide (x3 < (p1.length : Int))))] H (fun _ => id) fun fr H => ?_
  refine aw_sq ?_
  refine aw_if 9 H hm (fun hb hm H => ?_) fun hb hm H => ?_
  ·refine aw_kn id ?_
   refine aw_sq ?_
   refine aw_block (id := 1) (by kernel_rfl) ?_
   refine aw_sr 2 ?_
   refine at_es 2 [(4, .int .i64 x3)] 5 H (fun _ => id) fun fr H => ?_
   refine at_gl 3 [] 14 0 1 A H fun fr t H => ?_
   refine at_el 1 [(5, .int .i64 p0.all_)] H (fun _ => id) fun fr H => ?_
   refine aw_sq ?_
   obtain ⟨o2, ho, hm⟩ := bind_some hm
   refine aw_mono (Q' := fun e fr' h' => (∃ x6 x7, e = .normal ∧ (x6, x7) = o2 ∧ Has fr' 42 [(0, .ptr (some (bp0, 0))), (1, .str p1), (4, .int .i64 x3), (5, .int .i64 x7), (7, .int .i64 (p1.length : Int)), (8, .int .i64 x3)] ∧ HH g h' [.obj bp0 (.cells none 2 [rowV r1 x2.length, .int .i64 p0.all_, .int .i64 x6]), .lst r1 5 (lst eY x2)] F) ∨ False) ?_ ?_
   ·replace hm := ho
    clear ho
    refine aw_sr 5 ?_
    refine at_gl 3 [] 18 0 2 A H fun fr t H => ?_
    refine at_el 1 [(19, .bool (x1 != (0 : Int)))] H (fun _ => id) fun fr H => ?_
    refine aw_if 19 H hm (fun hb hm H => ?_) fun hb hm H => ?_
    ·refine aw_rg 9 ?_
     refine at_gl 4 [(20, .ptr (some (bp0, 0)))] 24 0 2 A H fun fr t H => ?_
     refine at_se 3 [(0, .ptr (some (bp0, 0))), (1, .str p1), (4, .int .i64 x3), (5, .int .i64 x1), (7, .int .i64 (p1.length : Int)), (8, .int .i64 x3), (26, .ptr (some (bp0, 2)))] H fun fr H => ?_
     obtain ⟨h2, hx, A⟩ := A.s0 2 [.int .i64 0] [_, _, _]
     refine at_ls hx H fun fr t H => ?_
     refine at_nil ?_
     exact .inl ⟨_, _, rfl, injA hm, H.ls, A⟩
    refine aw_sk ?_
    exact .inl ⟨_, _, rfl, injA hm, H.ls, A⟩
   clear ho
   clear A
   intro e fr h3 hQ
   rcases hQ with ⟨x6, x7, rfl, rfl, H, A⟩ | hF
   ·show AW _ _ _ _ _ _ _
    refine aw_dw 6 15 [(0, []), (1, []), (2, []), (3, []), (4, []), (5, []), (6, []), (7, []), (8, []), (9, [4]), (10, []), (11, []), (12, []), (13, []), (14, [])] ?_
    refine at_sl 4 [(27, .ptr (some (bp0, 0))), (30, .ptr (some (bp0, 0)))] H fun fr H => ?_
    refine at_t1 31 (rowV r1 x2.length) h3 [(4, bp0)] (g.prot) H (fun fr => .of (s_ld (by kernel_rfl) (A.l1 0 0))) (fun fr H => ?_)
    refine at_sl 2 [(32, .str p1), (33, .int .i64 x3)] H fun fr H => ?_
    obtain ⟨x8, hx, hm⟩ := bind_some hm
    refine at_t1 34 (.int .u8 x8) h3 [(4, bp0)] (g.prot) H (fun fr => .of (s_ixS (by kernel_rfl) hx)) (fun fr H => ?_)
    refine at_sl 1 [(35, .int .i64 x7)] H fun fr H => ?_
    have A1 := A.prot2 0 (pr := [bp0]) (.cons 0 rfl (by simp [Ck.ids]) .nil)
    obtain ⟨x9, hx, hm⟩ := bind_some hm
    obtain ⟨v1, h4, hr, rfl, A1⟩ := ok_subst_letter (av := [.int .u8 x8, .int .i64 x7]) hx A1
    replace A := A.p00 A1
    refine at_t1 36 (.int .u8 x9) h4 [(4, bp0)] (bp0 :: g.prot) H (fun fr => Steps.call (by kernel_rfl) hr) (fun fr H => ?_)
    obtain ⟨x10, hx, hm⟩ := bind_some hm
    have hx := toY_eq hx
    have kH := hm
    have kA := A
    have kR := H
    subst hx
    have hm := kH
    have A := kA
    have H := kR
    clear kH kA kR
    obtain ⟨h5, e1, A⟩ := A.pL 5 [.int .u8 (x10.toNat : Int)]
    refine at_t1 37 (rowV (some h4.size) (([x10] : List UInt8).length)) h5 [(10, h4.size), (4, bp0)] (g.prot) H (fun fr => .of (s_n' (by kernel_rfl) (congrArg some e1.symm))) (fun fr H => ?_)
    obtain ⟨hb, hm⟩ := need_some hm
    obtain ⟨r3, h6, hx, A1⟩ := HH.appO encY (by decide) A 2 (xs := x2) (ys := ([x10] : List UInt8)) rfl (row_first A 0 rfl (n := ([x10] : List UInt8).length) (z := 1) rfl (by decide)) rfl rfl hb
    replace A : HH g h6 [.lst (some h4.size) 5 ([.int .u8 (x10.toNat : Int)]), _, .lst r3 5 (lst eY (x2 ++ ([x10] : List UInt8)))] F := A1
    replace A := A.k2 1 2
    refine at_t1 38 (rowV r3 ((x2 ++ ([x10] : List UInt8)).length)) h6 [(10, h4.size), (4, bp0)] (g.prot) H (fun fr => .of (s_app (s := rowS r1 x2.length) (by kernel_rfl) hx)) (fun fr H => ?_)
    refine at_sl 2 [(40, .ptr (some (bp0, 0)))] H fun fr H => ?_
    obtain ⟨h7, hx, A1⟩ := A.st 0 rfl (o := 0) (new := [rowV r3 ((x2 ++ ([x10] : List UInt8)).length)]) (ds := [rowV r3 ((x2 ++ ([x10] : List UInt8)).length), .int .i64 p0.all_, .int .i64 x6]) (Nat.le_of_ble_eq_true rfl) rfl rfl
    replace A : HH g h7 [.obj bp0 (.cells none 2 [rowV r3 ((x2 ++ ([x10] : List UInt8)).length), _, _]), _] F := A1
    refine at_t0 (.tuple []) h7 [(10, h4.size), (4, bp0)] (g.prot) H (fun fr => .of (s_st (by kernel_rfl) rfl hx)) (fun fr H => ?_)
    refine at_nr 2 id ?_
    refine at_se 2 [(0, .ptr (some (bp0, 0))), (1, .str p1), (7, .int .i64 (p1.length : Int)), (8, .int .i64 (IntKind.i64.wrap (x3 + (1 : Int))))] H fun fr H => ?_
    refine at_nil ?_
    exact nx hm ⟨_, _, _, rfl, _, H.ls, A⟩
   exact hF.elim
  refine aw_exit (i := 0) (by kernel_rfl) ?_
  exact nr hm fun e => .inl ⟨_, _, rfl, e, _, H.ls, A⟩
 clear ho
 clear A
 intro e fr h8 hQ
 rcases hQ with ⟨x4, x5, rfl, rfl, r2, H, A⟩ | hF
 ·obtain ⟨rfl, rfl⟩ := injB hm
  refine ⟨.inr rfl, .tuple [], rH H, ?_⟩
  exact ⟨r2, rfl, A⟩
 exact hF.elim
noncomputable def M_groups_Text (p0 : List UInt8) (p1 : S_groups_Span) : Option ((List UInt8)) :=
 iteB ((((!p1.Is) || (decide (p1.From < (0 : Int)))) || (decide (p1.To < p1.From))) || (decide (p1.To > (p0.length : Int)))) (some ([] : List UInt8)) ((subS p0 (some p1.From) (some p1.To)).bind fun x1 => some x1)
theorem ok_groups_Text {p0 p1 q0} (hm : M_groups_Text p0 p1 = some q0) (A : HH g h [] F) (hc : canL (cfg.still 137) av = [.str p0, .agg [.int .i64 p1.From, .int .i64 p1.To, .bool p1.Is]] := by kernel_rfl) : ∃ v h', Runs cfg g h 137 av v h' ∧ v = .str q0 ∧ HH g h' [] F := by
 refine rq1 33 [.tmp 4] hc ?_
 clear hc
 unfold M_groups_Text at hm
 refine bg 33 [(0, .str p0), (1, .agg [.int .i64 p1.From, .int .i64 p1.To, .bool p1.Is])] fun fr H => ?_
 refine aw_sr 2 ?_
 obtain ⟨h1, e1, A⟩ := A.pu (.cells none 2 [.int .i64 p1.From, .int .i64 p1.To, .bool p1.Is])
 refine at_ln 3 (.ptr (some (h.size, 0))) e1 H fun fr t H => ?_
 refine at_el 1 [] H (fun _ => id) fun fr H => ?_
 refine aw_sq ?_
 refine aw_sr 22 ?_
 refine at_gl 1 [] 6 0 2 A H fun fr t H => ?_
 refine at_sl 2 [(8, .bool (!p1.Is))] H fun fr H => ?_
 refine at_cl 4 (fun fr' h' => h1 = h' ∧ Has fr' 33 [(0, .str p0), (3, .ptr (some (h.size, 0))), (12, .bool ((!p1.Is) || (decide (p1.From < (0 : Int)))))]) ?_ ?_
 ·cases hb : (!p1.Is : Bool) with
  | true =>
   replace H := H.kn 8 hb
   refine at_sl 4 [(12, .bool true)] H fun fr H => ?_
   exact at_zb H hb
  | false =>
   replace H := H.kn 8 hb
   refine at_gl 1 [] 10 0 0 A H fun fr t H => ?_
   refine at_sl 2 [(12, .bool (decide (p1.From < (0 : Int))))] H fun fr H => ?_
   exact at_zb H hb
 intro t fr h' hK
 obtain ⟨e, H⟩ := hK
 subst e
 refine at_sl 1 [(13, .bool ((!p1.Is) || (decide (p1.From < (0 : Int)))))] H fun fr H => ?_
 refine at_cl 6 (fun fr' h' => h1 = h' ∧ Has fr' 33 [(0, .str p0), (3, .ptr (some (h.size, 0))), (19, .bool (((!p1.Is) || (decide (p1.From < (0 : Int)))) || (decide (p1.To < p1.From))))]) ?_ ?_
 ·cases hb : ((!p1.Is) || (decide (p1.From < (0 : Int))) : Bool) with
  | true =>
   replace H := H.kn 13 hb
   refine at_sl 6 [(19, .bool true)] H fun fr H => ?_
   exact at_zb H hb
  | false =>
   replace H := H.kn 13 hb
   refine at_gl 1 [] 15 0 1 A H fun fr t H => ?_
   refine at_gl 1 [] 17 0 0 A H fun fr t H => ?_
   refine at_sl 2 [(19, .bool (decide (p1.To < p1.From)))] H fun fr H => ?_
   exact at_zb H hb
 intro t fr h' hK
 obtain ⟨e, H⟩ := hK
 subst e
 refine at_sl 1 [(20, .bool (((!p1.Is) || (decide (p1.From < (0 : Int)))) || (decide (p1.To < p1.From))))] H fun fr H => ?_
 refine at_cl 6 (fun fr' h' => h1 = h' ∧ Has fr' 33 [(0, .str p0), (3, .ptr (some (h.size, 0))), (26, .bool ((((!p1.Is) || (decide (p1.From < (0 : Int)))) || (decide (p1.To < p1.From))) || (decide (p1.To > (p0.length : Int)))))]) ?_ ?_
 ·cases hb : (((!p1.Is) || (decide (p1.From < (0 : Int)))) || (decide (p1.To < p1.From)) : Bool) with
  | true =>
   replace H := H.kn 20 hb
   refine at_sl 6 [(26, .bool true)] H fun fr H => ?_
   exact at_zb H hb
  | false =>
   replace H := H.kn 20 hb
   refine at_gl 1 [] 22 0 1 A H fun fr t H => ?_
   refine at_sl 4 [(26, .bool (decide (p1.To > (p0.length : Int))))] H fun fr H => ?_
   exact at_zb H hb
 intro t fr h' hK
 obtain ⟨e, H⟩ := hK
 subst e
 refine at_nl id ?_
 refine aw_if 26 H hm (fun hb hm H => ?_) fun hb hm H => ?_
 ·refine aw_sr 1 ?_
  refine at_el 1 [(4, .str ([] : List UInt8))] H (fun _ => id) fun fr H => ?_
  refine aw_rt ?_
  obtain rfl := injA hm
  refine ⟨.inl rfl, .str ([] : List UInt8), rH H, ?_⟩
  replace A := A.d0
  exact ⟨rfl, A⟩
 refine aw_ks 7 id ?_
 refine at_gl 2 [(27, .str p0)] 29 0 0 A H fun fr t H => ?_
 refine at_gl 1 [] 31 0 1 A H fun fr t H => ?_
 obtain ⟨x1, hx, hm⟩ := bind_some hm
 refine at_l1 32 (.str x1) h1 H (fun fr => .of (s_subS (k := .i64) (k' := .i64) (lo := (some p1.From)) (hi := (some p1.To)) (by kernel_rfl) hx)) fun fr t H => ?_
 refine at_el 1 [(4, .str x1)] H (fun _ => id) fun fr H => ?_
 refine aw_rt ?_
 obtain rfl := injA hm
 refine ⟨.inl rfl, .str x1, rH H, ?_⟩
 replace A := A.d0
 exact ⟨rfl, A⟩
noncomputable def M_subst_Expand_sVSO_L0 (p0 : List S_subst_Part) (p1 : List UInt8) (p2 : List S_groups_Span) (s : (List UInt8) × Int × Int × Int) : Option (((List UInt8) × Int × Int × Int) ⊕ (((List UInt8) × Int × Int))) :=
 match s with
 | (x1, x2, x3, x4) => iteB (decide (x4 < (p0.length : Int))) (((ixV p0 x4).bind fun x11 => iteB (x11.Kind == (0 : Int)) ((M_subst_turner_put_sPOS (⟨x1, x2, x3⟩ : S_subst_turner) x11.Bytes).bind fun (x12, x13) => some (x13, x12.all_, x12.next_)) (iteB (x11.Kind == (1 : Int)) (iteB ((decide (x11.Group ≥ (0 : Int))) && (decide (x11.Group < (p2.length : Int)))) ((ixV p2 x11.Group).bind fun x14 => (M_groups_Text p1 x14).bind fun x15 => (M_subst_turner_put_sPOS (⟨x1, x2, x3⟩ : S_subst_turner) x15).bind fun (x16, x17) => some (x17, x16.all_, x16.next_)) (some (x1, x2, x3))) ((iteB (x11.Kind == (2 : Int)) (some true) (iteB (x11.Kind == (3 : Int)) (some true) (some (x11.Kind == (4 : Int)))) : Option ((Bool))).bind fun x18 => iteB x18 (some (x1, x11.Kind, x3)) ((iteB (x11.Kind == (5 : Int)) (some true) (some (x11.Kind == (6 : Int))) : Option ((Bool))).bind fun x19 => iteB x19 (some (x1, x2, x11.Kind)) (some (x1, x2, x3))))) : Option (((List UInt8) × Int × Int))).bind fun (x8, x9, x10) => some (.inl (x8, x9, x10, IntKind.i64.wrap (x4 + (1 : Int))))) (some (.inr (x1, x2, x3)))
noncomputable def M_subst_Expand_sVSO (p0 : List S_subst_Part) (p1 : List UInt8) (p2 : List S_groups_Span) : Option ((List UInt8)) :=
 (loop (M_subst_Expand_sVSO_L0 p0 p1 p2) (([] : List UInt8), (4 : Int), (0 : Int), (0 : Int))).bind fun (x5, x6, x7) => some x5
theorem ok_subst_Expand_sVSO {p0 p1 p2 rp2 q0} (hm : M_subst_Expand_sVSO p0 p1 p2 = some q0) (A : HH g h [.lst rp2 188 (lst e_S_groups_Span p2)] F) (hc : canL (cfg.still 99) av = [vs e_S_subst_Part p0, .str p1, rowV rp2 p2.length] := by kernel_rfl) : ∃ v h', Runs cfg g h 99 av v h' ∧ v = .str q0 ∧ HH g h' [.lst rp2 188 (lst e_S_groups_Span p2)] F := by
 refine rq1 70 [.tmp 6] hc ?_
 clear hc
 unfold M_subst_Expand_sVSO at hm
 refine bg 70 [(0, vs e_S_subst_Part p0), (1, .str p1), (2, rowV rp2 p2.length)] fun fr H => ?_
 refine aw_sr 1 ?_
 refine at_es 1 [] 3 H (fun _ => id) fun fr H => ?_
 obtain ⟨h1, e1, A⟩ := A.pu (.cells none 2 [.slice none 0, .int .i64 4, .int .i64 0])
 refine at_gn 1 [] 11 (.ptr (some (h.size, 0))) e1 H fun fr t H => ?_
 refine at_el 1 [(7, .ptr (some (h.size, 0)))] H (fun _ => id) fun fr H => ?_
 refine aw_sq ?_
 refine aw_sr 3 ?_
 refine at_el 3 [(12, vs e_S_subst_Part p0), (13, .int .i64 (p0.length : Int)), (14, .int .i64 0)] H (fun _ => id) fun fr H => ?_
 refine aw_block (id := 0) (by kernel_rfl) ?_
 replace A : HH g h1 [.lst none 5 (lst eY ([] : List UInt8)), .obj h.size (.cells none 2 [.slice none 0, .int .i64 4, .int .i64 0]), _] F := A.nilL 5
 obtain ⟨o1, ho, hm⟩ := bind_some hm
 refine aw_mono (Q' := fun e fr' h' => (∃ x5 x6 x7, e = .exit 0 ∧ (x5, x6, x7) = o1 ∧ ∃ r2, Has fr' 70 [(7, .ptr (some (h.size, 0)))] ∧ HH g h' [.lst r2 5 (lst eY x5), .obj h.size (.cells none 2 [rowV r2 x5.length, .int .i64 x6, .int .i64 x7]), .lst rp2 188 (lst e_S_groups_Span p2)] F) ∨ False) ?_ ?_
 ·refine aw_loop (by kernel_rfl) (fun (s : (List UInt8) × Int × Int × Int) fr' h' => ∃ x1 x2 x3 x4, (x1, x2, x3, x4) = s ∧ ∃ r1, Has fr' 70 [(1, .str p1), (2, rowV rp2 p2.length), (7, .ptr (some (h.size, 0))), (12, vs e_S_subst_Part p0), (13, .int .i64 (p0.length : Int)), (14, .int .i64 x4)] ∧ HH g h' [.lst r1 5 (lst eY x1), .obj h.size (.cells none 2 [rowV r1 x1.length, .int .i64 x2, .int .i64 x3]), .lst rp2 188 (lst e_S_groups_Span p2)] F) ho ⟨_, _, _, _, rfl, none, H.ls, A⟩ ?_
  clear ho hm H A
  intro s q fr h2 hI hm
  obtain ⟨x1, x2, x3, x4, rfl, r1, H, A⟩ := hI
  unfold M_subst_Expand_sVSO_L0 at hm
  refine aw_sr 1 ?_
  refine at_el 1 [(15, .bool (decide (x4 < (p0.length : Int))))] H (fun _ => id) fun fr H => ?_
  refine aw_sq ?_
  refine aw_if 15 H hm (fun hb hm H => ?_) fun hb hm H => ?_
  ·refine aw_kn id ?_
   refine aw_sq ?_
   obtain ⟨o2, ho, hm⟩ := bind_some hm
   refine aw_mono (Q' := fun e fr' h' => (∃ x8 x9 x10, e = .normal ∧ (x8, x9, x10) = o2 ∧ ∃ r3, Has fr' 70 [(1, .str p1), (2, rowV rp2 p2.length), (7, .ptr (some (h.size, 0))), (12, vs e_S_subst_Part p0), (13, .int .i64 (p0.length : Int)), (14, .int .i64 x4)] ∧ HH g h' [.lst r3 5 (lst eY x8), .obj h.size (.cells none 2 [rowV r3 x8.length, .int .i64 x9, .int .i64 x10]), .lst rp2 188 (lst e_S_groups_Span p2)] F) ∨ False) ?_ ?_
   ·replace hm := ho
    clear ho
    refine aw_block (id := 1) (by kernel_rfl) ?_
    refine aw_sr 4 ?_
    obtain ⟨x11, hx, hm⟩ := bind_some hm
    refine at_l1 16 (.vptr [.int .i64 x11.Kind, .int .i64 x11.Group, .str x11.Bytes]) h2 H (fun fr => .of (s_ixV (e := e_S_subst_Part) (x := x11) enc_S_subst_Part (by decide) (by kernel_rfl) hx)) fun fr t H => ?_
    refine at_l1 17 (.agg [.int .i64 x11.Kind, .int .i64 x11.Group, .str x11.Bytes]) h2 H (fun fr => .of (s_lv (by kernel_rfl))) fun fr t H => ?_
    obtain ⟨h3, e2, A⟩ := A.pu (.cells none 2 [.int .i64 0, .int .i64 0, .str ([] : List UInt8)])
    refine at_ln 9 (.ptr (some (h2.size, 0))) e2 H fun fr t H => ?_
    obtain ⟨h4, hx, A⟩ := A.s0 0 [.int .i64 x11.Kind, .int .i64 x11.Group, .str x11.Bytes] [_, _, _]
    refine at_lS hx H fun fr t H => ?_
    refine at_ns 2 id ?_
    refine at_gl 1 [] 19 0 0 A H fun fr t H => ?_
    refine at_nl id ?_
    refine aw_block (id := 2) (by kernel_rfl) ?_
    refine aw_sr 2 ?_
    refine at_el 2 [(20, .bool (x11.Kind == (0 : Int)))] H (fun _ => id) fun fr H => ?_
    refine aw_if 20 H hm (fun hb hm H => ?_) fun hb hm H => ?_
    ·refine aw_rg 4 ?_
     refine at_gl 2 [(22, .ptr (some (h.size, 0)))] 24 0 2 A H fun fr t H => ?_
     replace A := A.k4 2 1 0 3
     obtain ⟨⟨x12, x13⟩, hx, hm⟩ := bind_some hm
     obtain ⟨v1, h5, hr, r4, rfl, A1⟩ := ok_subst_turner_put_sPOS (av := [.ptr (some (h.size, 0)), .str x11.Bytes]) hx (A.cut 2)
     replace A := A.g22 A1
     refine at_lc0 hr H fun fr t H => ?_
     refine at_nil ?_
     replace A := A.k3 1 0 3
     exact .inl ⟨_, _, _, rfl, injA hm, _, H.ls, A⟩
    refine aw_sr 2 ?_
    refine at_el 2 [(26, .bool (x11.Kind == (1 : Int)))] H (fun _ => id) fun fr H => ?_
    refine aw_if 26 H hm (fun hb hm H => ?_) fun hb hm H => ?_
    ·refine aw_sr 10 ?_
     refine at_gl 1 [] 29 0 1 A H fun fr t H => ?_
     refine at_sl 2 [(31, .bool (decide (x11.Group ≥ (0 : Int))))] H fun fr H => ?_
     refine at_cl 6 (fun fr' h' => h4 = h' ∧ Has fr' 70 [(1, .str p1), (2, rowV rp2 p2.length), (7, .ptr (some (h.size, 0))), (9, .ptr (some (h2.size, 0))), (12, vs e_S_subst_Part p0), (13, .int .i64 (p0.length : Int)), (14, .int .i64 x4), (37, .bool ((decide (x11.Group ≥ (0 : Int))) && (decide (x11.Group < (p2.length : Int)))))]) ?_ ?_
     ·cases hb : (decide (x11.Group ≥ (0 : Int)) : Bool) with
      | true =>
       replace H := H.kn 31 hb
       refine at_gl 1 [] 33 0 1 A H fun fr t H => ?_
       refine at_sl 4 [(37, .bool (decide (x11.Group < (p2.length : Int))))] H fun fr H => ?_
       exact at_zb H hb
      | false =>
       replace H := H.kn 31 hb
       refine at_sl 6 [(37, .bool false)] H fun fr H => ?_
       exact at_zb H hb
     intro t fr h' hK
     obtain ⟨e, H⟩ := hK
     subst e
     refine at_nl id ?_
     refine aw_if 37 H hm (fun hb hm H => ?_) fun hb hm H => ?_
     ·refine aw_rg 9 ?_
      refine at_gl 4 [(38, .ptr (some (h.size, 0))), (39, .str p1), (40, rowV rp2 p2.length)] 42 0 1 A H fun fr t H => ?_
      obtain ⟨x14, hx, hm⟩ := bind_some hm
      obtain ⟨i1, er1, _, hx, hq1⟩ := HH.ixO enc_S_groups_Span (by decide) A 3 (xs := p2) rfl hx
      refine at_l1 43 (.ptr (some (i1, x11.Group.toNat * 3))) h4 H (fun fr => .of (s_ixL (s := rowS rp2 p2.length) (by kernel_rfl) hx)) fun fr t H => ?_
      refine at_l1 44 _ _ H (fun fr => .of (s_ldA (by kernel_rfl) (row_ldA enc_S_groups_Span (HH.row A 3 rfl er1) hq1 0 3 (Nat.le_of_ble_eq_true rfl)))) fun fr t H => ?_
      obtain ⟨x15, hx, hm⟩ := bind_some hm
      obtain ⟨v1, h6, hr, rfl, A1⟩ := ok_groups_Text (av := [.str p1, .agg [.int .i64 x14.From, .int .i64 x14.To, .bool x14.Is]]) hx (A.cut 0)
      replace A := A.g00 A1
      refine at_lc1 45 hr H fun fr t H => ?_
      replace A := A.k4 2 1 0 3
      obtain ⟨⟨x16, x17⟩, hx, hm⟩ := bind_some hm
      obtain ⟨v1, h7, hr, r5, rfl, A1⟩ := ok_subst_turner_put_sPOS (av := [.ptr (some (h.size, 0)), .str x15]) hx (A.cut 2)
      replace A := A.g22 A1
      refine at_lc0 hr H fun fr t H => ?_
      refine at_nil ?_
      replace A := A.k3 1 0 3
      exact .inl ⟨_, _, _, rfl, injA hm, _, H.ls, A⟩
     refine aw_sk ?_
     replace A := A.k3 1 2 3
     exact .inl ⟨_, _, _, rfl, injA hm, _, H.ls, A⟩
    refine aw_sq ?_
    obtain ⟨o3, ho, hm⟩ := bind_some hm
    refine aw_mono (Q' := fun e fr' h' => (∃ x18, e = .normal ∧ x18 = o3 ∧ Has fr' 70 [(1, .str p1), (2, rowV rp2 p2.length), (7, .ptr (some (h.size, 0))), (9, .ptr (some (h2.size, 0))), (12, vs e_S_subst_Part p0), (13, .int .i64 (p0.length : Int)), (14, .int .i64 x4), (19, .int .i64 x11.Kind), (47, .bool x18)] ∧ HH g h' [.obj h2.size (.cells none 2 [.int .i64 x11.Kind, .int .i64 x11.Group, .str x11.Bytes]), .lst r1 5 (lst eY x1), .obj h.size (.cells none 2 [rowV r1 x1.length, .int .i64 x2, .int .i64 x3]), .lst rp2 188 (lst e_S_groups_Span p2)] F) ∨ False) ?_ ?_
    ·replace hm := ho
     clear ho
     refine aw_sr 2 ?_
     refine at_el 2 [(47, .bool (x11.Kind == (2 : Int)))] H (fun _ => id) fun fr H => ?_
     refine aw_if 47 H hm (fun hb hm H => ?_) fun hb hm H => ?_
     ·refine aw_sk ?_
      exact .inl ⟨_, rfl, injA hm, H.ls, A⟩
     refine aw_sr 2 ?_
     refine at_se 2 [(1, .str p1), (2, rowV rp2 p2.length), (7, .ptr (some (h.size, 0))), (9, .ptr (some (h2.size, 0))), (12, vs e_S_subst_Part p0), (13, .int .i64 (p0.length : Int)), (14, .int .i64 x4), (19, .int .i64 x11.Kind), (47, .bool (x11.Kind == (3 : Int)))] H fun fr H => ?_
     refine at_nl id ?_
     refine aw_if 47 H hm (fun hb hm H => ?_) fun hb hm H => ?_
     ·refine aw_sk ?_
      exact .inl ⟨_, rfl, injA hm, H.ls, A⟩
     refine aw_rg 2 ?_
     refine at_se 2 [(1, .str p1), (2, rowV rp2 p2.length), (7, .ptr (some (h.size, 0))), (9, .ptr (some (h2.size, 0))), (12, vs e_S_subst_Part p0), (13, .int .i64 (p0.length : Int)), (14, .int .i64 x4), (19, .int .i64 x11.Kind), (47, .bool (x11.Kind == (4 : Int)))] H fun fr H => ?_
     refine at_nil ?_
     exact .inl ⟨_, rfl, injA hm, H.ls, A⟩
    clear ho
    clear A
    intro e fr h8 hQ
    rcases hQ with ⟨x18, rfl, rfl, H, A⟩ | hF
    ·show AW _ _ _ _ _ _ _
     refine aw_if 47 H hm (fun hb hm H => ?_) fun hb hm H => ?_
     ·refine aw_rg 6 ?_
      refine at_gl 2 [(51, .ptr (some (h.size, 0)))] 53 0 0 A H fun fr t H => ?_
      obtain ⟨h9, hx, A⟩ := A.s2 1 [.int .i64 x11.Kind] [_, _, _]
      refine at_gs 2 [] hx H fun fr t H => ?_
      refine at_nil ?_
      replace A := A.k3 1 2 3
      exact .inl ⟨_, _, _, rfl, injA hm, _, H.ls, A⟩
     refine aw_sq ?_
     obtain ⟨o4, ho, hm⟩ := bind_some hm
     refine aw_mono (Q' := fun e fr' h' => (∃ x19, e = .normal ∧ x19 = o4 ∧ Has fr' 70 [(1, .str p1), (2, rowV rp2 p2.length), (7, .ptr (some (h.size, 0))), (9, .ptr (some (h2.size, 0))), (12, vs e_S_subst_Part p0), (13, .int .i64 (p0.length : Int)), (14, .int .i64 x4), (56, .bool x19)] ∧ HH g h' [.obj h2.size (.cells none 2 [.int .i64 x11.Kind, .int .i64 x11.Group, .str x11.Bytes]), .lst r1 5 (lst eY x1), .obj h.size (.cells none 2 [rowV r1 x1.length, .int .i64 x2, .int .i64 x3]), .lst rp2 188 (lst e_S_groups_Span p2)] F) ∨ False) ?_ ?_
     ·replace hm := ho
      clear ho
      refine aw_sr 2 ?_
      refine at_el 2 [(56, .bool (x11.Kind == (5 : Int)))] H (fun _ => id) fun fr H => ?_
      refine aw_if 56 H hm (fun hb hm H => ?_) fun hb hm H => ?_
      ·refine aw_sk ?_
       exact .inl ⟨_, rfl, injA hm, H.ls, A⟩
      refine aw_rg 2 ?_
      refine at_se 2 [(1, .str p1), (2, rowV rp2 p2.length), (7, .ptr (some (h.size, 0))), (9, .ptr (some (h2.size, 0))), (12, vs e_S_subst_Part p0), (13, .int .i64 (p0.length : Int)), (14, .int .i64 x4), (56, .bool (x11.Kind == (6 : Int)))] H fun fr H => ?_
      refine at_nil ?_
      exact .inl ⟨_, rfl, injA hm, H.ls, A⟩
     clear ho
     clear A
     intro e fr h10 hQ
     rcases hQ with ⟨x19, rfl, rfl, H, A⟩ | hF
     ·show AW _ _ _ _ _ _ _
      refine aw_if 56 H hm (fun hb hm H => ?_) fun hb hm H => ?_
      ·refine aw_rg 6 ?_
       refine at_gl 2 [(59, .ptr (some (h.size, 0)))] 61 0 0 A H fun fr t H => ?_
       obtain ⟨h11, hx, A⟩ := A.s2 2 [.int .i64 x11.Kind] [_, _, _]
       refine at_gs 2 [] hx H fun fr t H => ?_
       refine at_nil ?_
       replace A := A.k3 1 2 3
       exact .inl ⟨_, _, _, rfl, injA hm, _, H.ls, A⟩
      refine aw_sk ?_
      replace A := A.k3 1 2 3
      exact .inl ⟨_, _, _, rfl, injA hm, _, H.ls, A⟩
     exact hF.elim
    exact hF.elim
   clear ho
   clear A
   intro e fr h12 hQ
   rcases hQ with ⟨x8, x9, x10, rfl, rfl, r3, H, A⟩ | hF
   ·show AW _ _ _ _ _ _ _
    refine aw_rg 2 ?_
    refine at_se 2 [(1, .str p1), (2, rowV rp2 p2.length), (7, .ptr (some (h.size, 0))), (12, vs e_S_subst_Part p0), (13, .int .i64 (p0.length : Int)), (14, .int .i64 (IntKind.i64.wrap (x4 + (1 : Int))))] H fun fr H => ?_
    refine at_nil ?_
    exact nx hm ⟨_, _, _, _, rfl, _, H.ls, A⟩
   exact hF.elim
  refine aw_exit (i := 0) (by kernel_rfl) ?_
  exact nr hm fun e => .inl ⟨_, _, _, rfl, e, _, H.ls, A⟩
 clear ho
 clear A
 intro e fr h13 hQ
 rcases hQ with ⟨x5, x6, x7, rfl, rfl, r2, H, A⟩ | hF
 ·show AW _ _ _ _ _ _ _
  refine aw_sr 6 ?_
  refine at_gl 3 [] 68 1 0 A H fun fr t H => ?_
  refine at_l1 69 (.str x5) h13 H (fun fr => .of (s_byO (xs := x5) A 0 rfl (by kernel_rfl))) fun fr t H => ?_
  refine at_el 1 [(6, .str x5)] H (fun _ => id) fun fr H => ?_
  refine aw_rt ?_
  obtain rfl := injA hm
  refine ⟨.inl rfl, .str x5, rH H, ?_⟩
  replace A := A.k1 2
  exact ⟨rfl, A⟩
 exact hF.elim
noncomputable def M_rewrite_Rule_stand (p0 : S_rewrite_Rule) (p1 : List UInt8) (p2 : Int) (p3 : Int) : Option ((List UInt8)) :=
 ((M_subst_Highest p0.parts_).bind fun x1 => iteB (decide (x1 > (0 : Int))) (none) (some ()) : Option ((Unit))).bind fun _ => (M_subst_Expand_sVSO p0.parts_ p1 ([(⟨p2, p3, true⟩ : S_groups_Span)] : List S_groups_Span)).bind fun x2 => some x2
theorem ok_rewrite_Rule_stand {p0 p1 p2 p3 q0} (hm : M_rewrite_Rule_stand p0 p1 p2 p3 = some q0) (A : HH g h [] F) (hc : canL (cfg.still 49) av = [.vptr (e_S_rewrite_Rule p0), .str p1, .int .i64 p2, .int .i64 p3] := by kernel_rfl) : ∃ v h', Runs cfg g h 49 av v h' ∧ v = .str q0 ∧ HH g h' [] F := by
 refine rq1 38 [.tmp 8] hc ?_
 clear hc
 unfold M_rewrite_Rule_stand at hm
 refine bg 38 [(0, .vptr (e_S_rewrite_Rule p0)), (1, .str p1), (2, .int .i64 p2), (3, .int .i64 p3)] fun fr H => ?_
 refine aw_sr 1 ?_
 refine at_es 1 [] 5 H (fun _ => id) fun fr H => ?_
 refine at_sl 3 [(12, .agg [.int .i64 p2, .int .i64 p3, .bool true])] H fun fr H => ?_
 obtain ⟨h1, e1, A⟩ := A.pL 188 [.int .i64 p2, .int .i64 p3, .bool true]
 refine at_ln 13 (rowV (some h.size) (([(⟨p2, p3, true⟩ : S_groups_Span)] : List S_groups_Span).length)) e1 H fun fr t H => ?_
 refine at_el 1 [(9, rowV (some h.size) (([(⟨p2, p3, true⟩ : S_groups_Span)] : List S_groups_Span).length))] H (fun _ => id) fun fr H => ?_
 refine aw_sq ?_
 obtain ⟨o1, ho, hm⟩ := bind_some hm
 refine aw_mono (Q' := fun e fr' h' => (e = .normal ∧ () = o1 ∧ Has fr' 38 [(0, .vptr (e_S_rewrite_Rule p0)), (1, .str p1), (9, rowV (some h.size) (([(⟨p2, p3, true⟩ : S_groups_Span)] : List S_groups_Span).length))] ∧ HH g h' [.lst (some h.size) 188 ([.int .i64 p2, .int .i64 p3, .bool true])] F) ∨ False) ?_ ?_
 ·replace hm := ho
  clear ho
  refine aw_sr 6 ?_
  refine at_g1 3 [] 17 (vs e_S_subst_Part p0.parts_) h1 H (fun fr => .of (s_lv (by kernel_rfl))) fun fr t H => ?_
  obtain ⟨x1, hx, hm⟩ := bind_some hm
  obtain ⟨v1, h2, hr, rfl, A1⟩ := ok_subst_Highest (av := [vs e_S_subst_Part p0.parts_]) hx (A.cut 0)
  replace A : HH g h2 [.lst (some h.size) 188 ([.int .i64 p2, .int .i64 p3, .bool true])] F := A.glue0 (n := 0) A1
  refine at_lc1 18 hr H fun fr t H => ?_
  refine at_el 1 [(19, .bool (decide (x1 > (0 : Int))))] H (fun _ => id) fun fr H => ?_
  refine aw_if 19 H hm (fun hb hm H => ?_) fun hb hm H => ?_
  ·refine aw_rg 12 ?_
   refine at_g1 3 [] 24 (.agg [vs e_S_tree_Node p0.t_.Nodes, .int .i64 p0.t_.Root]) h2 H (fun fr => .of (s_lv (by kernel_rfl))) fun fr t H => ?_
   cases hm
  refine aw_sk ?_
  exact .inl ⟨rfl, injA hm, H.ls, A⟩
 clear ho
 clear A
 intro e fr h3 hQ
 rcases hQ with ⟨rfl, rfl, H, A⟩ | hF
 ·show AW _ _ _ _ _ _ _
  refine aw_sr 8 ?_
  refine at_g1 3 [] 34 (vs e_S_subst_Part p0.parts_) h3 H (fun fr => .of (s_lv (by kernel_rfl))) fun fr t H => ?_
  replace A : HH g h3 [.lst (some h.size) 188 (lst e_S_groups_Span ([(⟨p2, p3, true⟩ : S_groups_Span)] : List S_groups_Span))] F := A
  obtain ⟨x2, hx, hm⟩ := bind_some hm
  obtain ⟨v1, h4, hr, rfl, A1⟩ := ok_subst_Expand_sVSO (av := [vs e_S_subst_Part p0.parts_, .str p1, rowV (some h.size) (([(⟨p2, p3, true⟩ : S_groups_Span)] : List S_groups_Span).length)]) hx (A.cut 1)
  replace A : HH g h4 [.lst (some h.size) 188 (lst e_S_groups_Span ([(⟨p2, p3, true⟩ : S_groups_Span)] : List S_groups_Span))] F := A.glue0 (n := 1) A1
  refine at_gc1 2 [] 37 hr H fun fr t H => ?_
  refine at_el 1 [(8, .str x2)] H (fun _ => id) fun fr H => ?_
  refine aw_rt ?_
  obtain rfl := injA hm
  refine ⟨.inl rfl, .str x2, rH H, ?_⟩
  replace A := A.d0
  exact ⟨rfl, A⟩
 exact hF.elim
noncomputable def M_strings_IndexByte (p0 : List UInt8) (p1 : Int) : Option (Int) :=
 (M_stringslite_IndexByte p0 p1).bind fun x1 => some x1
theorem ok_strings_IndexByte {p0 p1 q0} (hm : M_strings_IndexByte p0 p1 = some q0) (A : HH g h [] F) (hc : canL (cfg.still 26) av = [.str p0, .int .u8 p1] := by kernel_rfl) : ∃ v h', Runs cfg g h 26 av v h' ∧ v = .int .i64 q0 ∧ HH g h' [] F := by
 refine rq1 8 [.tmp 4] hc ?_
 clear hc
 unfold M_strings_IndexByte at hm
 refine bg 8 [(0, .str p0), (1, .int .u8 p1)] fun fr H => ?_
 refine aw_sr 1 ?_
 refine at_es 1 [] 4 H (fun _ => id) fun fr H => ?_
 obtain ⟨x1, hx, hm⟩ := bind_some hm
 obtain ⟨v1, h1, hr, rfl, A1⟩ := ok_stringslite_IndexByte (av := [.str p0, .int .u8 p1]) hx (A.cut 0)
 replace A := A.g00 A1
 refine at_gc1 2 [] 7 hr H fun fr t H => ?_
 refine at_el 1 [(4, .int .i64 x1)] H (fun _ => id) fun fr H => ?_
 refine aw_rt ?_
 obtain rfl := injA hm
 exact ⟨.inl rfl, _, rH H, rfl, A⟩
noncomputable def M_scope_spoilt (p0 : List UInt8) (p1 : List UInt8) : Option (Bool) :=
 (M_strings_IndexByte p0 (0 : Int)).bind fun x1 => (iteB (decide (x1 ≥ (0 : Int))) ((M_strings_IndexByte p1 (0 : Int)).bind fun x3 => some (decide (x3 < (0 : Int)))) (some false) : Option (Bool)).bind fun x2 => some x2
theorem ok_scope_spoilt {p0 p1 q0} (hm : M_scope_spoilt p0 p1 = some q0) (A : HH g h [] F) (hc : canL (cfg.still 31) av = [.str p0, .str p1] := by kernel_rfl) : ∃ v h', Runs cfg g h 31 av v h' ∧ v = .bool q0 ∧ HH g h' [] F := by
 refine rq1 13 [.tmp 4] hc ?_
 clear hc
 unfold M_scope_spoilt at hm
 refine bg 13 [(0, .str p0), (1, .str p1)] fun fr H => ?_
 refine aw_sr 1 ?_
 refine at_es 1 [] 9 H (fun _ => id) fun fr H => ?_
 obtain ⟨x1, hx, hm⟩ := bind_some hm
 obtain ⟨v1, h1, hr, rfl, A1⟩ := ok_strings_IndexByte (av := [.str p0, .int .u8 0]) hx (A.cut 0)
 replace A := A.g00 A1
 refine at_gc1 1 [] 6 hr H fun fr t H => ?_
 refine at_sl 2 [(8, .bool (decide (x1 ≥ (0 : Int))))] H fun fr H => ?_
 obtain ⟨x2, ho, hm⟩ := bind_some hm
 refine at_cl 4 (fun fr' h' => Has fr' 13 [(12, .bool x2)] ∧ HH g h' [] F) ?_ ?_
 ·rcases iteB_some ho with ⟨hb, hm⟩ | ⟨hb, hm⟩
  ·replace H := H.kn 8 hb
   obtain ⟨x3, hx, hm⟩ := bind_some hm
   obtain ⟨v1, h3, hr, rfl, A1⟩ := ok_strings_IndexByte (av := [.str p1, .int .u8 0]) hx (A.cut 0)
   replace A := A.g00 A1
   refine at_gc1 1 [] 10 hr H fun fr t H => ?_
   refine at_sl 2 [(12, .bool (decide (x3 < (0 : Int))))] H fun fr H => ?_
   obtain rfl := injA hm
   exact at_nil ⟨H.ls, A⟩
  replace H := H.kn 8 hb
  refine at_sl 4 [(12, .bool false)] H fun fr H => ?_
  obtain rfl := injA hm
  exact at_nil ⟨H.ls, A⟩
 clear A
 intro t fr h2 hK
 obtain ⟨H, A⟩ := hK
 refine at_el 1 [(4, .bool x2)] H (fun _ => id) fun fr H => ?_
 refine aw_rt ?_
 obtain rfl := injA hm
 exact ⟨.inl rfl, _, rH H, rfl, A⟩
end Go.Av.L
