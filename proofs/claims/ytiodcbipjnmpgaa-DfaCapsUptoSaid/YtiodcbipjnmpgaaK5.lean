/-
 Models of functions, and that the abstract run tells them. Written by lift2.py.
-/
import Derived.Test.YtiodcbipjnmpgaaKCfg
import Derived.Test.YtiodcbipjnmpgaaK2
import Derived.Test.YtiodcbipjnmpgaaK3
import Derived.Test.YtiodcbipjnmpgaaK4
namespace Go.Av.L
open Go.Av Go.Lib
set_option maxRecDepth 10000
set_option linter.unusedVariables false
set_option linter.unusedSimpArgs false
variable {g : Gd} {h : AHeap} {F : List Ck} {av : List AVal}
noncomputable def M_dfa_Compile_L1 (p1 : Int) (x1 : S_auto_Auto) (x4 : S_dfa_Dfa) (x5 : List UInt8) (x7 : Int) (x14 : Int) (x25 : Int) (s : (List Int) × (List Bool) × (List Bool) × (List ((List UInt8) × Int)) × (List (List Int)) × Int) : Option (((List Int) × (List Bool) × (List Bool) × (List ((List UInt8) × Int)) × (List (List Int)) × Int) ⊕ (((List Int) × (List Bool) × (List Bool) × (List ((List UInt8) × Int)) × (List (List Int))) ⊕ ((List Int) × (List Bool) × (List Bool) × (List ((List UInt8) × Int)) × (List (List Int)) × Int))) :=
 match s with
 | (x37, x38, x39, x40, x41, x42) => iteB (decide (x42 < (x5.length : Int))) ((ixV x5 x42).bind fun x54 => (ixV x41 x25).bind fun x55 => (M_auto_Auto_Step x1 x55 (x54.toNat : Int)).bind fun x56 => (M_dfa_maker_state_sPPOOOOOV (⟨x1, (⟨x4.column_, x4.columns_, x37, x38, x39, x7, x14, x4.empty_⟩ : S_dfa_Dfa), p1, x5, x40, x41⟩ : S_dfa_maker) x56).bind fun (x57, x58, x59, x60, x61, x62) => iteB (!x58) (some (.inr (.inr (x37, x59, x60, x61, x62, (7 : Int))))) (need (okN 4 (x37.length + ([x57] : List Int).length)) <| some (.inl ((x37 ++ ([x57] : List Int)), x59, x60, x61, x62, IntKind.i64.wrap (x42 + (1 : Int)))))) (some (.inr (.inl (x37, x38, x39, x40, x41))))
noncomputable def M_dfa_Compile_L0 (p1 : Int) (x1 : S_auto_Auto) (x4 : S_dfa_Dfa) (x5 : List UInt8) (x7 : Int) (x14 : Int) (s : (List Int) × (List Bool) × (List Bool) × (List ((List UInt8) × Int)) × (List (List Int)) × Int) : Option (((List Int) × (List Bool) × (List Bool) × (List ((List UInt8) × Int)) × (List (List Int)) × Int) ⊕ (((List Int) × (List Bool) × (List Bool) × (List ((List UInt8) × Int)) × (List (List Int))) ⊕ ((List Int) × (List Bool) × (List Bool) × (List ((List UInt8) × Int)) × (List (List Int)) × Int))) :=
 match s with
 | (x20, x21, x22, x23, x24, x25) => iteB (decide (x25 < (x24.length : Int))) ((loop (M_dfa_Compile_L1 p1 x1 x4 x5 x7 x14 x25) (x20, x21, x22, x23, x24, (0 : Int))).bind fun o2 => (match o2 with | .inl (x43, x44, x45, x46, x47) => some (.inl (x43, x44, x45, x46, x47, IntKind.i64.wrap (x25 + (1 : Int)))) | .inr (x48, x49, x50, x51, x52, x53) => some (.inr (.inr (x48, x49, x50, x51, x52, x53))))) (some (.inr (.inl (x20, x21, x22, x23, x24))))
noncomputable def M_dfa_Compile (p0 : S_tree_Tree) (p1 : Int) : Option ((Option S_dfa_Dfa) × Int) :=
 iteB ((decide (p1 < (1 : Int))) || (decide (p1 > (4096 : Int)))) (some (none, (6 : Int))) ((M_auto_Build p0 (4096 : Int)).bind fun (w2, x2) => (match w2 with | some x1 => iteB (x2 != (0 : Int)) (some (none, x2)) ((M_auto_Auto_Ends x1 ([] : List UInt8) (0 : Int)).bind fun x3 => (M_dfa_maker_split_sPPOOOOO (⟨x1, (⟨big0, (0 : Int), ([] : List Int), ([] : List Bool), ([] : List Bool), (0 : Int), (0 : Int), decide ((x3.length : Int) > (0 : Int))⟩ : S_dfa_Dfa), p1, ([] : List UInt8), ([] : List ((List UInt8) × Int)), ([] : List (List Int))⟩ : S_dfa_maker)).bind fun (x4, x5) => (M_auto_Auto_Start x1 true).bind fun x6 => (M_dfa_maker_state_sPPOOOOOV (⟨x1, (⟨x4.column_, x4.columns_, ([] : List Int), ([] : List Bool), ([] : List Bool), x4.first_, x4.later_, x4.empty_⟩ : S_dfa_Dfa), p1, x5, ([] : List ((List UInt8) × Int)), ([] : List (List Int))⟩ : S_dfa_maker) x6).bind fun (x7, x8, x9, x10, x11, x12) => (M_auto_Auto_Start x1 false).bind fun x13 => (M_dfa_maker_state_sPPOOOOOV (⟨x1, (⟨x4.column_, x4.columns_, ([] : List Int), x9, x10, x7, x4.later_, x4.empty_⟩ : S_dfa_Dfa), p1, x5, x11, x12⟩ : S_dfa_maker) x13).bind fun (x14, x15, x16, x17, x18, x19) => iteB ((!x8) || (!x15)) (some (none, (7 : Int))) ((loop (M_dfa_Compile_L0 p1 x1 x4 x5 x7 x14) (([] : List Int), x16, x17, x18, x19, (0 : Int))).bind fun o1 => (match o1 with | .inl (x26, x27, x28, x29, x30) => some (some (⟨x4.column_, x4.columns_, x26, x27, x28, x7, x14, x4.empty_⟩ : S_dfa_Dfa), (0 : Int)) | .inr (x31, x32, x33, x34, x35, x36) => some (none, x36)))) | none => iteB (x2 != (0 : Int)) (some (none, x2)) (none)))
theorem ok_dfa_Compile {p0 p1 o0 q1} (hm : M_dfa_Compile p0 p1 = some (o0, q1)) (A : HH g h [] F) (hc : canL (cfg.still 33) av = [.agg [vs e_S_tree_Node p0.Nodes, .int .i64 p0.Root], .int .i64 p1] := by kernel_rfl) : ∃ v h', Runs cfg g h 33 av v h' ∧ ((∃ (q0 : S_dfa_Dfa), o0 = some q0 ∧ v = .tuple [.vptr (big 256 (AVal.int .u8) q0.column_ ++ [.int .i64 q0.columns_, vs (eI .i32) q0.next_, vs eB q0.ends_, vs eB q0.last_, .int .i32 q0.first_, .int .i32 q0.later_, .bool q0.empty_]), .int .i64 q1] ∧ HH g h' [] F) ∨ (o0 = none ∧ v = .tuple [.ptr none, .int .i64 q1] ∧ HH g h' [] F)) := by
 refine rq9 131 [.tmp 4, .tmp 5] hc ?_
 clear hc
 unfold M_dfa_Compile at hm
 refine bg 131 [(0, .agg [vs e_S_tree_Node p0.Nodes, .int .i64 p0.Root]), (1, .int .i64 p1)] fun fr H => ?_
 refine aw_sr 3 ?_
 obtain ⟨h1, e1, A⟩ := A.pu (.cells none 2 [vs e_S_tree_Node p0.Nodes, .int .i64 p0.Root])
 refine at_ln 2 (.ptr (some (h.size, 0))) e1 H fun fr t H => ?_
 refine at_el 2 [] H (fun _ => id) fun fr H => ?_
 refine aw_sq ?_
 refine aw_sr 6 ?_
 refine at_sl 3 [(18, .bool (decide (p1 < (1 : Int))))] H fun fr H => ?_
 refine at_cl 3 (fun fr' h' => h1 = h' ∧ Has fr' 131 [(1, .int .i64 p1), (2, .ptr (some (h.size, 0))), (21, .bool ((decide (p1 < (1 : Int))) || (decide (p1 > (4096 : Int)))))]) ?_ ?_
 ·cases hb : (decide (p1 < (1 : Int)) : Bool) with
  | true =>
   replace H := H.kn 18 hb
   refine at_sl 3 [(21, .bool true)] H fun fr H => ?_
   exact at_zb H hb
  | false =>
   replace H := H.kn 18 hb
   refine at_sl 3 [(21, .bool (decide (p1 > (4096 : Int))))] H fun fr H => ?_
   exact at_zb H hb
 intro t fr h' hK
 obtain ⟨e, H⟩ := hK
 subst e
 refine at_nl id ?_
 refine aw_if 21 H hm (fun hb hm H => ?_) fun hb hm H => ?_
 ·refine aw_sr 2 ?_
  refine at_el 2 [(4, .ptr none), (5, .int .i64 6)] H (fun _ => id) fun fr H => ?_
  refine aw_rt ?_
  obtain ⟨rfl, rfl⟩ := injB hm
  refine ⟨.inl rfl, .tuple [.ptr none, .int .i64 6], rH H, ?_⟩
  replace A := A.d0
  refine ⟨.tuple [.ptr none, .int .i64 6], h1, by first | rfl | (simp only [fz4T, fz4P, fzP0, fzPA, fzPR, fzPV, fzPQ, fzPI, fzPB, fzPS, fzPN, fz1Q, fz10, fz1I, fz1B, fz1S, fz1V, fz1N, fzL0, fzL1, Option.map_some] <;> rfl), ?_⟩
  exact .inr ⟨rfl, rfl, A⟩
 refine aw_ks 7 id ?_
 refine at_l1 23 _ _ H (fun fr => .of (s_ldA (by kernel_rfl) (A.ldA 0 rfl (o := 0) (n := 2) ⟨Nat.le_of_ble_eq_true rfl, rfl⟩))) fun fr t H => ?_
 obtain ⟨⟨w2, x2⟩, hx, hm⟩ := bind_some hm
 obtain ⟨v1, h2, hr, hc⟩ := ok_auto_Build (av := [.agg [vs e_S_tree_Node p0.Nodes, .int .i64 p0.Root], .int .i64 4096]) hx (A.cut 0)
 rcases hc with ⟨x1, rfl, rfl, A1⟩ | ⟨rfl, rfl, A1⟩
 ·replace A : HH g h2 [.obj h.size (.cells none 2 [vs e_S_tree_Node p0.Nodes, .int .i64 p0.Root])] F := A.glue0 (n := 0) A1
  refine at_lc1 24 hr H fun fr t H => ?_
  refine at_el 5 [(6, .vptr [vs e_S_auto_state x1.l_, .int .i64 x1.first_]), (7, .int .i64 x2)] H (fun _ => id) fun fr H => ?_
  refine aw_sq ?_
  refine aw_sr 2 ?_
  refine at_el 2 [(28, .bool (x2 != (0 : Int)))] H (fun _ => id) fun fr H => ?_
  refine aw_if 28 H hm (fun hb hm H => ?_) fun hb hm H => ?_
  ·refine aw_sr 3 ?_
   refine at_el 3 [(4, .ptr none), (5, .int .i64 x2)] H (fun _ => id) fun fr H => ?_
   refine aw_rt ?_
   obtain ⟨rfl, rfl⟩ := injB hm
   refine ⟨.inl rfl, .tuple [.ptr none, .int .i64 x2], rH H, ?_⟩
   replace A := A.d0
   refine ⟨.tuple [.ptr none, .int .i64 x2], h2, by first | rfl | (simp only [fz4T, fz4P, fzP0, fzPA, fzPR, fzPV, fzPQ, fzPI, fzPB, fzPS, fzPN, fz1Q, fz10, fz1I, fz1B, fz1S, fz1V, fz1N, fzL0, fzL1, Option.map_some] <;> rfl), ?_⟩
   exact .inr ⟨rfl, rfl, A⟩
  refine aw_ks 12 id ?_
  obtain ⟨x3, hx, hm⟩ := bind_some hm
  obtain ⟨v1, h3, hr, rqw4, rfl, A1⟩ := ok_auto_Auto_Ends (av := [.vptr [vs e_S_auto_state x1.l_, .int .i64 x1.first_], .str ([] : List UInt8), .int .i64 0]) hx (A.cut 0)
  replace A := A.g01 A1
  refine at_gc1 2 [(30, .vptr [vs e_S_auto_state x1.l_, .int .i64 x1.first_])] 32 hr H fun fr t H => ?_
  obtain ⟨h4, e2, A⟩ := A.pu (.cells none 2 (big 256 (AVal.int .u8) big0 ++ [.int .i64 0, .slice none 0, .slice none 0, .slice none 0, .int .i32 0, .int .i32 0, .bool (decide ((x3.length : Int) > (0 : Int)))]))
  refine at_gn 3 [] 36 (.ptr (some (h3.size, 0))) e2 H fun fr t H => ?_
  refine at_sl 1 [(37, .int .i64 p1)] H fun fr H => ?_
  obtain ⟨h5, e3⟩ : ∃ x, x = h4.push (.map 2 []) := ⟨_, rfl⟩
  replace A : HH g h5 [.obj h4.size (.map 2 (encM (fun k : List UInt8 => .str k) (fun v : Int => .int .i32 v) ([] : List ((List UInt8) × Int)))), .obj h3.size (.cells none 2 (big 256 (AVal.int .u8) big0 ++ [.int .i64 0, .slice none 0, .slice none 0, .slice none 0, .int .i32 0, .int .i32 0, .bool (decide ((x3.length : Int) > (0 : Int)))])), _, _] F := (A.push _).to e3
  refine at_ln 38 (.map (some h4.size)) e3 H fun fr t H => ?_
  obtain ⟨h6, e4, A⟩ := A.pu (.cells none 2 [.vptr [vs e_S_auto_state x1.l_, .int .i64 x1.first_], .ptr (some (h3.size, 0)), .int .i64 p1, .slice none 0, .map (some h4.size), .slice none 0])
  refine at_gn 1 [] 40 (.ptr (some (h5.size, 0))) e4 H fun fr t H => ?_
  refine at_es 1 [(8, .ptr (some (h5.size, 0)))] 2 H (fun _ => id) fun fr H => ?_
  replace A : HH g h6 [.lst none 21 (lst (eI .i32) ([] : List Int)), .obj h5.size (.cells none 2 [.vptr [vs e_S_auto_state x1.l_, .int .i64 x1.first_], .ptr (some (h3.size, 0)), .int .i64 p1, .slice none 0, .map (some h4.size), .slice none 0]), _, .obj h3.size (.cells none 2 (big 256 (AVal.int .u8) big0 ++ [.int .i64 0, rowV none (([] : List Int).length), .slice none 0, .slice none 0, .int .i32 0, .int .i32 0, .bool (decide ((x3.length : Int) > (0 : Int)))])), _, _] F := A.nilL 21
  replace A : HH g h6 [.lst none 4 (lst eB ([] : List Bool)), _, _, _, .obj h3.size (.cells none 2 (big 256 (AVal.int .u8) big0 ++ [.int .i64 0, rowV none (([] : List Int).length), rowV none (([] : List Bool).length), .slice none 0, .int .i32 0, .int .i32 0, .bool (decide ((x3.length : Int) > (0 : Int)))])), _, _] F := A.nilL 4
  replace A : HH g h6 [_, _, _, _, _, .obj h3.size (.cells none 2 (big 256 (AVal.int .u8) big0 ++ [.int .i64 0, rowV none (([] : List Int).length), rowV none (([] : List Bool).length), rowV none (([] : List Bool).length), .int .i32 0, .int .i32 0, .bool (decide ((x3.length : Int) > (0 : Int)))])), _, _] F := A.nilL 4
  replace A : HH g h6 [.lst none 5 (lst eY ([] : List UInt8)), _, _, _, .obj h5.size (.cells none 2 [_, _, _, rowV none (([] : List UInt8).length), _, _]), _, _, _, _] F := A.nilL 5
  replace A : HH g h6 [.lst none 54 (lst (eL (eI .i64)) ([] : List (List Int))), _, _, _, _, .obj h5.size (.cells none 2 [_, _, _, _, _, rowV none (([] : List (List Int)).length)]), _, _, _, _] F := A.nilL 54
  replace A : HH g h6 [_, _, _, _, _, _, _, _, _, _] F := ((((((((A.front 0 rfl).front 6 rfl).front 2 rfl).front 3 rfl).front 4 rfl).front 5 rfl).front 7 rfl).front 7 rfl)
  obtain ⟨⟨x4, x5⟩, hx, hm⟩ := bind_some hm
  obtain ⟨v1, h7, hr, r1, rfl, A1⟩ := ok_dfa_maker_split_sPPOOOOO (av := [.ptr (some (h5.size, 0))]) hx (A.cut 8)
  replace A : HH g h7 [.obj h5.size (.cells none 2 [_, _, _, rowV r1 x5.length, _, _]), .obj h3.size (.cells none 2 (big 256 (AVal.int .u8) x4.column_ ++ [.int .i64 x4.columns_, rowV none (([] : List Int).length), rowV none (([] : List Bool).length), rowV none (([] : List Bool).length), .int .i32 x4.first_, .int .i32 x4.later_, .bool x4.empty_])), .lst none 21 (lst (eI .i32) ([] : List Int)), .lst none 4 (lst eB ([] : List Bool)), .lst none 4 (lst eB ([] : List Bool)), .lst r1 5 (lst eY x5), .obj h4.size (.map 2 (encM (fun k : List UInt8 => .str k) (fun v : Int => .int .i32 v) ([] : List ((List UInt8) × Int)))), .lst none 54 (lst (eL (eI .i64)) ([] : List (List Int))), _, _] F := A.glue0 (n := 8) A1
  refine at_gc0 1 [] hr H fun fr t H => ?_
  refine at_ns 2 id ?_
  refine at_el 2 [] H (fun _ => id) fun fr H => ?_
  refine aw_sq ?_
  refine aw_dw 9 15 [(0, []), (1, []), (2, []), (3, []), (4, []), (5, []), (6, [3]), (7, [10003]), (8, []), (9, []), (10, []), (11, []), (12, []), (13, []), (14, [])] ?_
  refine at_sl 3 [(46, .ptr (some (h5.size, 1)))] H fun fr H => ?_
  refine at_t1 47 (.ptr (some (h3.size, 0))) h7 [(3, h5.size)] (g.prot) H (fun fr => .of (s_ld (by kernel_rfl) (A.l1 0 1))) (fun fr H => ?_)
  refine at_sl 2 [(48, .ptr (some (h5.size, 0))), (49, .vptr [vs e_S_auto_state x1.l_, .int .i64 x1.first_])] H fun fr H => ?_
  have A1 := A.prot2 0 (pr := [h5.size]) (.cons 0 rfl (by simp [Ck.ids]) .nil)
  obtain ⟨x6, hx, hm⟩ := bind_some hm
  obtain ⟨v1, h8, hr, rfl, A1⟩ := ok_auto_Auto_Start (av := [.vptr [vs e_S_auto_state x1.l_, .int .i64 x1.first_], .bool true]) hx A1
  replace A := A.p00 A1
  refine at_t1 50 (vs (eI .i64) x6) h8 [(3, h5.size)] (h5.size :: g.prot) H (fun fr => Steps.call (by kernel_rfl) hr) (fun fr H => ?_)
  obtain ⟨⟨x7, x8, x9, x10, x11, x12⟩, hx, hm⟩ := bind_some hm
  obtain ⟨v1, h9, hr, r2, r3, r4, rfl, A1⟩ := ok_dfa_maker_state_sPPOOOOOV (av := [.ptr (some (h5.size, 0)), vs (eI .i64) x6]) hx (A.cut 8)
  replace A : HH g h9 [.obj h5.size (.cells none 2 [_, _, _, _, _, rowV r4 x12.length]), .obj h3.size (.cells none 2 (big 256 (AVal.int .u8) x4.column_ ++ [.int .i64 x4.columns_, rowV none (([] : List Int).length), rowV r2 x9.length, rowV r3 x10.length, .int .i32 x4.first_, .int .i32 x4.later_, .bool x4.empty_])), .lst none 21 (lst (eI .i32) ([] : List Int)), .lst r2 4 (lst eB x9), .lst r3 4 (lst eB x10), .lst r1 5 (lst eY x5), .obj h4.size (.map 2 (encM (fun k : List UInt8 => .str k) (fun v : Int => .int .i32 v) x11)), .lst r4 54 (lst (eL (eI .i64)) x12), _, _] F := A.glue0 (n := 8) A1
  refine at_t1 51 (.tuple [.int .i32 x7, .bool x8]) h9 [(3, h5.size)] (g.prot) H (fun fr => Steps.call (by kernel_rfl) hr) (fun fr H => ?_) (hre := fun fr => reOk_again (j := 3) rfl (re_ld (i := 3) (by kernel_rfl) (A.l1 0 1) (sameV_ptr _ _)) (rfl))
  refine at_sl 5 [(52, .int .i32 x7), (53, .bool x8), (55, .ptr (some (h3.size, 260)))] H fun fr H => ?_
  obtain ⟨h10, hx, A1⟩ := A.st 1 rfl (o := 260) (new := [.int .i32 x7]) (ds := (big 256 (AVal.int .u8) x4.column_ ++ [.int .i64 x4.columns_, rowV none (([] : List Int).length), rowV r2 x9.length, rowV r3 x10.length, .int .i32 x7, .int .i32 x4.later_, .bool x4.empty_])) (Nat.le_of_ble_eq_true (by kernel_rfl)) rfl (by kernel_rfl)
  replace A : HH g h10 [_, .obj h3.size (.cells none 2 (big 256 (AVal.int .u8) x4.column_ ++ [.int .i64 x4.columns_, rowV none (([] : List Int).length), rowV r2 x9.length, rowV r3 x10.length, .int .i32 x7, .int .i32 x4.later_, .bool x4.empty_])), _, _, _, _, _, _, _, _] F := A1
  refine at_t0 (.tuple []) h10 [(3, h5.size)] (g.prot) H (fun fr => .of (s_st (by kernel_rfl) rfl hx)) (fun fr H => ?_)
  refine at_el 1 [(9, .bool x8)] H (fun _ => id) fun fr H => ?_
  refine aw_sq ?_
  refine aw_dw 10 15 [(0, []), (1, []), (2, []), (3, []), (4, []), (5, []), (6, [3]), (7, [10003]), (8, []), (9, []), (10, []), (11, []), (12, []), (13, []), (14, [])] ?_
  refine at_sl 3 [(59, .ptr (some (h5.size, 1)))] H fun fr H => ?_
  refine at_t1 60 (.ptr (some (h3.size, 0))) h10 [(3, h5.size)] (g.prot) H (fun fr => .of (s_ld (by kernel_rfl) (A.l1 0 1))) (fun fr H => ?_)
  refine at_sl 2 [(61, .ptr (some (h5.size, 0))), (62, .vptr [vs e_S_auto_state x1.l_, .int .i64 x1.first_])] H fun fr H => ?_
  have A1 := A.prot2 0 (pr := [h5.size]) (.cons 0 rfl (by simp [Ck.ids]) .nil)
  obtain ⟨x13, hx, hm⟩ := bind_some hm
  obtain ⟨v1, h11, hr, rfl, A1⟩ := ok_auto_Auto_Start (av := [.vptr [vs e_S_auto_state x1.l_, .int .i64 x1.first_], .bool false]) hx A1
  replace A := A.p00 A1
  refine at_t1 63 (vs (eI .i64) x13) h11 [(3, h5.size)] (h5.size :: g.prot) H (fun fr => Steps.call (by kernel_rfl) hr) (fun fr H => ?_)
  obtain ⟨⟨x14, x15, x16, x17, x18, x19⟩, hx, hm⟩ := bind_some hm
  obtain ⟨v1, h12, hr, r5, r6, r7, rfl, A1⟩ := ok_dfa_maker_state_sPPOOOOOV (av := [.ptr (some (h5.size, 0)), vs (eI .i64) x13]) hx (A.cut 8)
  replace A : HH g h12 [.obj h5.size (.cells none 2 [_, _, _, _, _, rowV r7 x19.length]), .obj h3.size (.cells none 2 (big 256 (AVal.int .u8) x4.column_ ++ [.int .i64 x4.columns_, rowV none (([] : List Int).length), rowV r5 x16.length, rowV r6 x17.length, .int .i32 x7, .int .i32 x4.later_, .bool x4.empty_])), .lst none 21 (lst (eI .i32) ([] : List Int)), .lst r5 4 (lst eB x16), .lst r6 4 (lst eB x17), .lst r1 5 (lst eY x5), .obj h4.size (.map 2 (encM (fun k : List UInt8 => .str k) (fun v : Int => .int .i32 v) x18)), .lst r7 54 (lst (eL (eI .i64)) x19), _, _] F := A.glue0 (n := 8) A1
  refine at_t1 64 (.tuple [.int .i32 x14, .bool x15]) h12 [(3, h5.size)] (g.prot) H (fun fr => Steps.call (by kernel_rfl) hr) (fun fr H => ?_) (hre := fun fr => reOk_again (j := 3) rfl (re_ld (i := 3) (by kernel_rfl) (A.l1 0 1) (sameV_ptr _ _)) (rfl))
  refine at_sl 5 [(65, .int .i32 x14), (66, .bool x15), (68, .ptr (some (h3.size, 261)))] H fun fr H => ?_
  obtain ⟨h13, hx, A1⟩ := A.st 1 rfl (o := 261) (new := [.int .i32 x14]) (ds := (big 256 (AVal.int .u8) x4.column_ ++ [.int .i64 x4.columns_, rowV none (([] : List Int).length), rowV r5 x16.length, rowV r6 x17.length, .int .i32 x7, .int .i32 x14, .bool x4.empty_])) (Nat.le_of_ble_eq_true (by kernel_rfl)) rfl (by kernel_rfl)
  replace A : HH g h13 [_, .obj h3.size (.cells none 2 (big 256 (AVal.int .u8) x4.column_ ++ [.int .i64 x4.columns_, rowV none (([] : List Int).length), rowV r5 x16.length, rowV r6 x17.length, .int .i32 x7, .int .i32 x14, .bool x4.empty_])), _, _, _, _, _, _, _, _] F := A1
  refine at_t0 (.tuple []) h13 [(3, h5.size)] (g.prot) H (fun fr => .of (s_st (by kernel_rfl) rfl hx)) (fun fr H => ?_)
  refine at_el 1 [(10, .bool x15)] H (fun _ => id) fun fr H => ?_
  refine aw_sq ?_
  refine aw_sr 6 ?_
  refine at_sl 3 [(71, .bool (!x8))] H fun fr H => ?_
  refine at_cl 3 (fun fr' h' => h13 = h' ∧ Has fr' 131 [(6, .vptr [vs e_S_auto_state x1.l_, .int .i64 x1.first_]), (8, .ptr (some (h5.size, 0))), (74, .bool ((!x8) || (!x15)))]) ?_ ?_
  ·cases hb : (!x8 : Bool) with
   | true =>
    replace H := H.kn 71 hb
    refine at_sl 3 [(74, .bool true)] H fun fr H => ?_
    exact at_zb H hb
   | false =>
    replace H := H.kn 71 hb
    refine at_sl 3 [(74, .bool (!x15))] H fun fr H => ?_
    exact at_zb H hb
  intro t fr h' hK
  obtain ⟨e, H⟩ := hK
  subst e
  refine at_nl id ?_
  refine aw_if 74 H hm (fun hb hm H => ?_) fun hb hm H => ?_
  ·refine aw_sr 2 ?_
   refine at_el 2 [(4, .ptr none), (5, .int .i64 7)] H (fun _ => id) fun fr H => ?_
   refine aw_rt ?_
   obtain ⟨rfl, rfl⟩ := injB hm
   refine ⟨.inl rfl, .tuple [.ptr none, .int .i64 7], rH H, ?_⟩
   replace A := A.d0
   refine ⟨.tuple [.ptr none, .int .i64 7], h13, by first | rfl | (simp only [fz4T, fz4P, fzP0, fzPA, fzPR, fzPV, fzPQ, fzPI, fzPB, fzPS, fzPN, fz1Q, fz10, fz1I, fz1B, fz1S, fz1V, fz1N, fzL0, fzL1, Option.map_some] <;> rfl), ?_⟩
   exact .inr ⟨rfl, rfl, A⟩
  refine aw_kn id ?_
  refine aw_sq ?_
  refine aw_sr 1 ?_
  refine at_el 1 [(11, .int .i64 0)] H (fun _ => id) fun fr H => ?_
  refine aw_block (id := 0) (by kernel_rfl) ?_
  replace A := A.k9 0 1 2 3 4 5 6 7 9
  obtain ⟨o1, ho, hm⟩ := bind_some hm
  refine aw_mono (Q' := fun e fr' h' => (∃ x26 x27 x28 x29 x30, e = .exit 0 ∧ .inl (x26, x27, x28, x29, x30) = o1 ∧ ∃ r12 r13 r14 r15, Has fr' 131 [(8, .ptr (some (h5.size, 0)))] ∧ HH g h' [.obj h5.size (.cells none 2 [.vptr [vs e_S_auto_state x1.l_, .int .i64 x1.first_], .ptr (some (h3.size, 0)), .int .i64 p1, rowV r1 x5.length, .map (some h4.size), rowV r15 x30.length]), .obj h3.size (.cells none 2 (big 256 (AVal.int .u8) x4.column_ ++ [.int .i64 x4.columns_, rowV r12 x26.length, rowV r13 x27.length, rowV r14 x28.length, .int .i32 x7, .int .i32 x14, .bool x4.empty_])), .lst r12 21 (lst (eI .i32) x26), .lst r13 4 (lst eB x27), .lst r14 4 (lst eB x28), .lst r1 5 (lst eY x5), .obj h4.size (.map 2 (encM (fun k : List UInt8 => .str k) (fun v : Int => .int .i32 v) x29)), .lst r15 54 (lst (eL (eI .i64)) x30), .obj h.size (.cells none 2 [vs e_S_tree_Node p0.Nodes, .int .i64 p0.Root])] F) ∨ (∃ x31 x32 x33 x34 x35 x36, e = .ret ∧ .inr (x31, x32, x33, x34, x35, x36) = o1 ∧ ∃ r16 r17 r18 r19, Has fr' 131 [(4, .ptr none), (5, .int .i64 x36)] ∧ HH g h' [.obj h5.size (.cells none 2 [.vptr [vs e_S_auto_state x1.l_, .int .i64 x1.first_], .ptr (some (h3.size, 0)), .int .i64 p1, rowV r1 x5.length, .map (some h4.size), rowV r19 x35.length]), .obj h3.size (.cells none 2 (big 256 (AVal.int .u8) x4.column_ ++ [.int .i64 x4.columns_, rowV r16 x31.length, rowV r17 x32.length, rowV r18 x33.length, .int .i32 x7, .int .i32 x14, .bool x4.empty_])), .lst r16 21 (lst (eI .i32) x31), .lst r17 4 (lst eB x32), .lst r18 4 (lst eB x33), .lst r1 5 (lst eY x5), .obj h4.size (.map 2 (encM (fun k : List UInt8 => .str k) (fun v : Int => .int .i32 v) x34)), .lst r19 54 (lst (eL (eI .i64)) x35), .obj h.size (.cells none 2 [vs e_S_tree_Node p0.Nodes, .int .i64 p0.Root])] F) ∨ False) ?_ ?_
  ·refine aw_loop (by kernel_rfl) (fun (s : (List Int) × (List Bool) × (List Bool) × (List ((List UInt8) × Int)) × (List (List Int)) × Int) fr' h' => ∃ x20 x21 x22 x23 x24 x25, (x20, x21, x22, x23, x24, x25) = s ∧ ∃ r8 r9 r10 r11, Has fr' 131 [(6, .vptr [vs e_S_auto_state x1.l_, .int .i64 x1.first_]), (8, .ptr (some (h5.size, 0))), (11, .int .i64 x25)] ∧ HH g h' [.obj h5.size (.cells none 2 [.vptr [vs e_S_auto_state x1.l_, .int .i64 x1.first_], .ptr (some (h3.size, 0)), .int .i64 p1, rowV r1 x5.length, .map (some h4.size), rowV r11 x24.length]), .obj h3.size (.cells none 2 (big 256 (AVal.int .u8) x4.column_ ++ [.int .i64 x4.columns_, rowV r8 x20.length, rowV r9 x21.length, rowV r10 x22.length, .int .i32 x7, .int .i32 x14, .bool x4.empty_])), .lst r8 21 (lst (eI .i32) x20), .lst r9 4 (lst eB x21), .lst r10 4 (lst eB x22), .lst r1 5 (lst eY x5), .obj h4.size (.map 2 (encM (fun k : List UInt8 => .str k) (fun v : Int => .int .i32 v) x23)), .lst r11 54 (lst (eL (eI .i64)) x24), .obj h.size (.cells none 2 [vs e_S_tree_Node p0.Nodes, .int .i64 p0.Root])] F) ho ⟨_, _, _, _, _, _, rfl, none, _, _, _, H.ls, A⟩ ?_
   clear ho hm H A
   intro s q fr h14 hI hm
   obtain ⟨x20, x21, x22, x23, x24, x25, rfl, r8, r9, r10, r11, H, A⟩ := hI
   unfold M_dfa_Compile_L0 at hm
   refine aw_sq ?_
   refine aw_sr 7 ?_
   refine at_gl 4 [(75, .int .i64 x25)] 79 0 5 A H fun fr t H => ?_
   refine at_el 2 [(81, .bool (decide (x25 < (x24.length : Int))))] H (fun _ => id) fun fr H => ?_
   refine aw_if 81 H hm (fun hb hm H => ?_) fun hb hm H => ?_
   ·refine aw_kn id ?_
    refine aw_sq ?_
    refine aw_block (id := 1) (by kernel_rfl) ?_
    refine aw_sr 6 ?_
    refine at_gl 3 [] 87 0 3 A H fun fr t H => ?_
    refine at_el 2 [(88, .int .i64 (x5.length : Int)), (89, .int .i64 0)] H (fun _ => id) fun fr H => ?_
    refine aw_block (id := 2) (by kernel_rfl) ?_
    obtain ⟨o2, ho, hm⟩ := bind_some hm
    refine aw_mono (Q' := fun e fr' h' => (∃ x43 x44 x45 x46 x47, e = .exit 2 ∧ .inl (x43, x44, x45, x46, x47) = o2 ∧ ∃ r24 r25 r26 r27, Has fr' 131 [(6, .vptr [vs e_S_auto_state x1.l_, .int .i64 x1.first_]), (8, .ptr (some (h5.size, 0))), (11, .int .i64 x25)] ∧ HH g h' [.obj h5.size (.cells none 2 [.vptr [vs e_S_auto_state x1.l_, .int .i64 x1.first_], .ptr (some (h3.size, 0)), .int .i64 p1, rowV r1 x5.length, .map (some h4.size), rowV r27 x47.length]), .obj h3.size (.cells none 2 (big 256 (AVal.int .u8) x4.column_ ++ [.int .i64 x4.columns_, rowV r24 x43.length, rowV r25 x44.length, rowV r26 x45.length, .int .i32 x7, .int .i32 x14, .bool x4.empty_])), .lst r24 21 (lst (eI .i32) x43), .lst r25 4 (lst eB x44), .lst r26 4 (lst eB x45), .lst r1 5 (lst eY x5), .obj h4.size (.map 2 (encM (fun k : List UInt8 => .str k) (fun v : Int => .int .i32 v) x46)), .lst r27 54 (lst (eL (eI .i64)) x47), .obj h.size (.cells none 2 [vs e_S_tree_Node p0.Nodes, .int .i64 p0.Root])] F) ∨ (∃ x48 x49 x50 x51 x52 x53, e = .ret ∧ .inr (x48, x49, x50, x51, x52, x53) = o2 ∧ ∃ r28 r29 r30 r31, Has fr' 131 [(4, .ptr none), (5, .int .i64 x53)] ∧ HH g h' [.obj h5.size (.cells none 2 [.vptr [vs e_S_auto_state x1.l_, .int .i64 x1.first_], .ptr (some (h3.size, 0)), .int .i64 p1, rowV r1 x5.length, .map (some h4.size), rowV r31 x52.length]), .obj h3.size (.cells none 2 (big 256 (AVal.int .u8) x4.column_ ++ [.int .i64 x4.columns_, rowV r28 x48.length, rowV r29 x49.length, rowV r30 x50.length, .int .i32 x7, .int .i32 x14, .bool x4.empty_])), .lst r28 21 (lst (eI .i32) x48), .lst r29 4 (lst eB x49), .lst r30 4 (lst eB x50), .lst r1 5 (lst eY x5), .obj h4.size (.map 2 (encM (fun k : List UInt8 => .str k) (fun v : Int => .int .i32 v) x51)), .lst r31 54 (lst (eL (eI .i64)) x52), .obj h.size (.cells none 2 [vs e_S_tree_Node p0.Nodes, .int .i64 p0.Root])] F) ∨ False) ?_ ?_
    ·refine aw_loop (by kernel_rfl) (fun (s : (List Int) × (List Bool) × (List Bool) × (List ((List UInt8) × Int)) × (List (List Int)) × Int) fr' h' => ∃ x37 x38 x39 x40 x41 x42, (x37, x38, x39, x40, x41, x42) = s ∧ ∃ r20 r21 r22 r23, Has fr' 131 [(6, .vptr [vs e_S_auto_state x1.l_, .int .i64 x1.first_]), (8, .ptr (some (h5.size, 0))), (11, .int .i64 x25), (87, rowV r1 x5.length), (88, .int .i64 (x5.length : Int)), (89, .int .i64 x42)] ∧ HH g h' [.obj h5.size (.cells none 2 [.vptr [vs e_S_auto_state x1.l_, .int .i64 x1.first_], .ptr (some (h3.size, 0)), .int .i64 p1, rowV r1 x5.length, .map (some h4.size), rowV r23 x41.length]), .obj h3.size (.cells none 2 (big 256 (AVal.int .u8) x4.column_ ++ [.int .i64 x4.columns_, rowV r20 x37.length, rowV r21 x38.length, rowV r22 x39.length, .int .i32 x7, .int .i32 x14, .bool x4.empty_])), .lst r20 21 (lst (eI .i32) x37), .lst r21 4 (lst eB x38), .lst r22 4 (lst eB x39), .lst r1 5 (lst eY x5), .obj h4.size (.map 2 (encM (fun k : List UInt8 => .str k) (fun v : Int => .int .i32 v) x40)), .lst r23 54 (lst (eL (eI .i64)) x41), .obj h.size (.cells none 2 [vs e_S_tree_Node p0.Nodes, .int .i64 p0.Root])] F) ho ⟨_, _, _, _, _, _, rfl, _, _, _, _, H.ls, A⟩ ?_
     clear ho hm H A
     intro s q fr h15 hI hm
     obtain ⟨x37, x38, x39, x40, x41, x42, rfl, r20, r21, r22, r23, H, A⟩ := hI
     unfold M_dfa_Compile_L1 at hm
     refine aw_sr 1 ?_
     refine at_el 1 [(90, .bool (decide (x42 < (x5.length : Int))))] H (fun _ => id) fun fr H => ?_
     refine aw_sq ?_
     refine aw_if 90 H hm (fun hb hm H => ?_) fun hb hm H => ?_
     ·refine aw_kn id ?_
      refine aw_sq ?_
      refine aw_block (id := 3) (by kernel_rfl) ?_
      refine aw_sr 3 ?_
      obtain ⟨x54, hx, hm⟩ := bind_some hm
      obtain ⟨i1, er1, _, hx, hq1⟩ := HH.ixO encY (by decide) A 5 (xs := x5) rfl hx
      refine at_l1 91 (.ptr (some (i1, x42.toNat * 1))) h15 H (fun fr => .of (s_ixL (s := rowS r1 x5.length) (by kernel_rfl) hx)) fun fr t H => ?_
      refine at_l1 92 _ _ H (fun fr => .of (s_ld (by kernel_rfl) (row_ld1 encY (HH.row A 5 rfl er1) hq1 (o := 0) rfl))) fun fr t H => ?_
      refine at_es 1 [(13, .int .u8 (x54.toNat : Int))] 17 H (fun _ => id) fun fr H => ?_
      refine at_gl 5 [(94, .ptr (some (h5.size, 0))), (95, .vptr [vs e_S_auto_state x1.l_, .int .i64 x1.first_])] 99 0 5 A H fun fr t H => ?_
      obtain ⟨x55, hx, hm⟩ := bind_some hm
      obtain ⟨i2, er2, _, hx, hq2⟩ := HH.ixO (encL _) (by decide) A 7 (xs := x41) rfl hx
      refine at_g1 1 [] 101 (.ptr (some (i2, x25.toNat * 1))) h15 H (fun fr => .of (s_ixL (s := rowS r23 x41.length) (by kernel_rfl) hx)) fun fr t H => ?_
      refine at_l1 102 _ _ H (fun fr => .of (s_ld (by kernel_rfl) (row_ld1 (encL _) (HH.row A 7 rfl er2) hq2 (o := 0) rfl))) fun fr t H => ?_
      obtain ⟨x56, hx, hm⟩ := bind_some hm
      obtain ⟨v1, h16, hr, rfl, A1⟩ := ok_auto_Auto_Step (av := [.vptr [vs e_S_auto_state x1.l_, .int .i64 x1.first_], vs (eI .i64) x55, .int .u8 (x54.toNat : Int)]) hx (A.cut 0)
      replace A := A.g00 A1
      refine at_gc1 1 [] 104 hr H fun fr t H => ?_
      obtain ⟨⟨x57, x58, x59, x60, x61, x62⟩, hx, hm⟩ := bind_some hm
      obtain ⟨v1, h17, hr, r32, r33, r34, rfl, A1⟩ := ok_dfa_maker_state_sPPOOOOOV (av := [.ptr (some (h5.size, 0)), vs (eI .i64) x56]) hx (A.cut 8)
      replace A : HH g h17 [.obj h5.size (.cells none 2 [_, _, _, _, _, rowV r34 x62.length]), .obj h3.size (.cells none 2 (big 256 (AVal.int .u8) x4.column_ ++ [.int .i64 x4.columns_, rowV r20 x37.length, rowV r32 x59.length, rowV r33 x60.length, .int .i32 x7, .int .i32 x14, .bool x4.empty_])), .lst r20 21 (lst (eI .i32) x37), .lst r32 4 (lst eB x59), .lst r33 4 (lst eB x60), .lst r1 5 (lst eY x5), .obj h4.size (.map 2 (encM (fun k : List UInt8 => .str k) (fun v : Int => .int .i32 v) x61)), .lst r34 54 (lst (eL (eI .i64)) x62), _] F := A.glue0 (n := 8) A1
      refine at_lc1 105 hr H fun fr t H => ?_
      refine at_el 5 [(14, .int .i32 x57), (15, .bool x58)] H (fun _ => id) fun fr H => ?_
      refine aw_sq ?_
      refine aw_sr 2 ?_
      refine at_el 2 [(109, .bool (!x58))] H (fun _ => id) fun fr H => ?_
      refine aw_if 109 H hm (fun hb hm H => ?_) fun hb hm H => ?_
      ·refine aw_sr 2 ?_
       refine at_el 2 [(4, .ptr none), (5, .int .i64 7)] H (fun _ => id) fun fr H => ?_
       refine aw_rt ?_
       exact nr hm fun e => Or.inr (.inl ⟨_, _, _, _, _, _, rfl, e, _, _, _, _, H.ls, A⟩)
      refine aw_kn id ?_
      refine aw_dw 22 17 [(0, []), (1, []), (2, []), (3, []), (4, []), (5, []), (6, []), (7, []), (8, []), (9, []), (10, []), (11, []), (12, []), (13, [3]), (14, []), (15, []), (16, [])] ?_
      refine at_sl 3 [(112, .ptr (some (h5.size, 1)))] H fun fr H => ?_
      refine at_t1 113 (.ptr (some (h3.size, 0))) h17 [(3, h5.size)] (g.prot) H (fun fr => .of (s_ld (by kernel_rfl) (A.l1 0 1))) (fun fr H => ?_)
      refine at_sl 3 [(116, .ptr (some (h5.size, 1)))] H fun fr H => ?_
      refine at_t1 117 (.ptr (some (h3.size, 0))) h17 [(7, h5.size), (3, h5.size)] (g.prot) H (fun fr => .of (s_ld (by kernel_rfl) (A.l1 0 1))) (fun fr H => ?_)
      refine at_sl 2 [(119, .ptr (some (h3.size, 257)))] H fun fr H => ?_
      refine at_t1 120 (rowV r20 x37.length) h17 [(10, h3.size), (7, h5.size), (3, h5.size)] (g.prot) H (fun fr => .of (s_ld (by kernel_rfl) (A.ld1 1 rfl (o := 257) (by kernel_rfl)))) (fun fr H => ?_)
      refine at_sl 1 [(121, .int .i32 x57)] H fun fr H => ?_
      obtain ⟨h18, e5, A⟩ := A.pL 21 [.int .i32 x57]
      refine at_t1 122 (rowV (some h17.size) (([x57] : List Int).length)) h18 [(12, h17.size), (10, h3.size), (7, h5.size), (3, h5.size)] (g.prot) H (fun fr => .of (s_n' (by kernel_rfl) (congrArg some e5.symm))) (fun fr H => ?_)
      replace A : HH g h18 [_, .lst (some h17.size) 21 ([.int .i32 x57]), _, _, _, _, _, _, _, _] F := (A.front 3 rfl)
      have A1 := A.prot2 1 (pr := [h5.size]) (.cons 1 rfl (by simp [Ck.ids]) .nil)
      obtain ⟨hb, hm⟩ := need_some hm
      obtain ⟨r35, h19, hx, A1⟩ := HH.appO (encI .i32) (by decide) A1 0 (xs := x37) (ys := ([x57] : List Int)) rfl (row_first A 1 rfl (n := ([x57] : List Int).length) (z := 1) rfl (by decide)) rfl rfl hb
      replace A := A.p11 A1
      replace A := A.k9 0 2 3 4 5 6 7 8 9
      refine at_t1 123 (rowV r35 ((x37 ++ ([x57] : List Int)).length)) h19 [(12, h17.size), (10, h3.size), (7, h5.size), (3, h5.size)] (h5.size :: g.prot) H (fun fr => .of (s_app (s := rowS r20 x37.length) (by kernel_rfl) hx)) (fun fr H => ?_)
      refine at_sl 2 [(125, .ptr (some (h3.size, 257)))] H fun fr H => ?_
      obtain ⟨h20, hx, A1⟩ := A.st 2 rfl (o := 257) (new := [rowV r35 ((x37 ++ ([x57] : List Int)).length)]) (ds := (big 256 (AVal.int .u8) x4.column_ ++ ([.int .i64 x4.columns_, rowV r35 ((x37 ++ ([x57] : List Int)).length), rowV r32 x59.length, rowV r33 x60.length, .int .i32 x7, .int .i32 x14, .bool x4.empty_]))) (Nat.le_of_ble_eq_true (by kernel_rfl)) rfl (by kernel_rfl)
      replace A : HH g h20 [_, _, .obj h3.size (.cells none 2 (big 256 (AVal.int .u8) x4.column_ ++ ([.int .i64 x4.columns_, rowV r35 ((x37 ++ ([x57] : List Int)).length), rowV r32 x59.length, rowV r33 x60.length, .int .i32 x7, .int .i32 x14, .bool x4.empty_]))), _, _, _, _, _, _] F := A1
      refine at_t0 (.tuple []) h20 [(12, h17.size), (10, h3.size), (7, h5.size), (3, h5.size)] (g.prot) H (fun fr => .of (s_st (by kernel_rfl) rfl hx)) (fun fr H => ?_)
      refine at_nr 2 id ?_
      refine at_se 2 [(6, .vptr [vs e_S_auto_state x1.l_, .int .i64 x1.first_]), (8, .ptr (some (h5.size, 0))), (11, .int .i64 x25), (87, rowV r1 x5.length), (88, .int .i64 (x5.length : Int)), (89, .int .i64 (IntKind.i64.wrap (x42 + (1 : Int))))] H fun fr H => ?_
      refine at_nil ?_
      replace A := A.k9 1 2 0 3 4 5 6 7 8
      exact nx hm ⟨_, _, _, _, _, _, rfl, _, _, _, _, H.ls, A⟩
     refine aw_exit (i := 2) (by kernel_rfl) ?_
     exact nr hm fun e => .inl ⟨_, _, _, _, _, rfl, e, _, _, _, _, H.ls, A⟩
    clear ho
    clear A
    intro e fr h21 hQ
    rcases hQ with ⟨x43, x44, x45, x46, x47, rfl, rfl, r24, r25, r26, r27, H, A⟩ | ⟨x48, x49, x50, x51, x52, x53, rfl, rfl, r28, r29, r30, r31, H, A⟩ | hF
    ·show AW _ _ _ _ _ _ _
     refine aw_rg 3 ?_
     refine at_se 3 [(6, .vptr [vs e_S_auto_state x1.l_, .int .i64 x1.first_]), (8, .ptr (some (h5.size, 0))), (11, .int .i64 (IntKind.i64.wrap (x25 + (1 : Int))))] H fun fr H => ?_
     refine at_nil ?_
     exact nx hm ⟨_, _, _, _, _, _, rfl, _, _, _, _, H.ls, A⟩
    ·exact nr hm fun e => Or.inr (.inl ⟨_, _, _, _, _, _, rfl, e, _, _, _, _, H.ls, A⟩)
    exact hF.elim
   refine aw_exit (i := 0) (by kernel_rfl) ?_
   exact nr hm fun e => .inl ⟨_, _, _, _, _, rfl, e, _, _, _, _, H.ls, A⟩
  clear ho
  clear A
  intro e fr h22 hQ
  rcases hQ with ⟨x26, x27, x28, x29, x30, rfl, rfl, r12, r13, r14, r15, H, A⟩ | ⟨x31, x32, x33, x34, x35, x36, rfl, rfl, r16, r17, r18, r19, H, A⟩ | hF
  ·show AW _ _ _ _ _ _ _
   refine aw_sr 6 ?_
   refine at_gl 3 [] 130 0 1 A H fun fr t H => ?_
   refine at_el 2 [(4, .ptr (some (h3.size, 0))), (5, .int .i64 0)] H (fun _ => id) fun fr H => ?_
   refine aw_rt ?_
   obtain ⟨rfl, rfl⟩ := injB hm
   refine ⟨.inl rfl, .tuple [.ptr (some (h3.size, 0)), .int .i64 0], rH H, ?_⟩
   replace A := A.k4 1 2 3 4
   obtain ⟨h23, A1, hy0⟩ := (A.front 0 rfl).frzB
   replace A : HH g h23 [_, _, _] F := A1
   obtain ⟨h24, hz1, A1⟩ := (A.front 0 rfl).frz (n := x26.length) (z := 1) ((encI .i32).lenL _) (by decide)
   replace A : HH g h24 [_, _] F := A1
   obtain ⟨h25, hz2, A1⟩ := (A.front 0 rfl).frz (n := x27.length) (z := 1) (encB.lenL _) (by decide)
   replace A : HH g h25 [_] F := A1
   obtain ⟨h26, hz3, A1⟩ := (A.front 0 rfl).frz (n := x28.length) (z := 1) (encB.lenL _) (by decide)
   replace A : HH g h26 [] F := A1
   have hz0 := hy0 (big 256 (AVal.int .u8) x4.column_ ++ [.int .i64 x4.columns_, vs (eI .i32) x26, vs eB x27, vs eB x28, .int .i32 x7, .int .i32 x14, .bool x4.empty_]) h26 (by simp only [fz4T, fz4P, fzP0, fzPA, fzPR, fzPV, fzPQ, fzPI, fzPB, fzPS, fzPN, fz1Q, fz10, fz1I, fz1B, fz1S, fz1V, fz1N, fzL0, fzL1, Option.map_some, frzL_big, frzL_one, hz1, hz2, hz3] <;> rfl)
   refine ⟨.tuple [.vptr (big 256 (AVal.int .u8) x4.column_ ++ [.int .i64 x4.columns_, vs (eI .i32) x26, vs eB x27, vs eB x28, .int .i32 x7, .int .i32 x14, .bool x4.empty_]), .int .i64 0], h26, by first | rfl | (simp only [fz4T, fz4P, fzP0, fzPA, fzPR, fzPV, fzPQ, fzPI, fzPB, fzPS, fzPN, fz1Q, fz10, fz1I, fz1B, fz1S, fz1V, fz1N, fzL0, fzL1, Option.map_some, frzL_big, frzL_one, hz0, hz1, hz2, hz3] <;> rfl), ?_⟩
   exact .inl ⟨(⟨x4.column_, x4.columns_, x26, x27, x28, x7, x14, x4.empty_⟩ : S_dfa_Dfa), rfl, rfl, A⟩
  ·obtain ⟨rfl, rfl⟩ := injB hm
   refine ⟨.inl rfl, .tuple [.ptr none, .int .i64 x36], rH H, ?_⟩
   replace A := A.d0
   refine ⟨.tuple [.ptr none, .int .i64 x36], h22, by first | rfl | (simp only [fz4T, fz4P, fzP0, fzPA, fzPR, fzPV, fzPQ, fzPI, fzPB, fzPS, fzPN, fz1Q, fz10, fz1I, fz1B, fz1S, fz1V, fz1N, fzL0, fzL1, Option.map_some] <;> rfl), ?_⟩
   exact .inr ⟨rfl, rfl, A⟩
  exact hF.elim
 replace A : HH g h2 [.obj h.size (.cells none 2 [vs e_S_tree_Node p0.Nodes, .int .i64 p0.Root])] F := A.glue0 (n := 0) A1
 refine at_lc1 24 hr H fun fr t H => ?_
 refine at_el 5 [(6, .ptr none), (7, .int .i64 x2)] H (fun _ => id) fun fr H => ?_
 refine aw_sq ?_
 refine aw_sr 2 ?_
 refine at_el 2 [(28, .bool (x2 != (0 : Int)))] H (fun _ => id) fun fr H => ?_
 refine aw_if 28 H hm (fun hb hm H => ?_) fun hb hm H => ?_
 ·refine aw_sr 3 ?_
  refine at_el 3 [(4, .ptr none), (5, .int .i64 x2)] H (fun _ => id) fun fr H => ?_
  refine aw_rt ?_
  obtain ⟨rfl, rfl⟩ := injB hm
  refine ⟨.inl rfl, .tuple [.ptr none, .int .i64 x2], rH H, ?_⟩
  replace A := A.d0
  refine ⟨.tuple [.ptr none, .int .i64 x2], h2, by first | rfl | (simp only [fz4T, fz4P, fzP0, fzPA, fzPR, fzPV, fzPQ, fzPI, fzPB, fzPS, fzPN, fz1Q, fz10, fz1I, fz1B, fz1S, fz1V, fz1N, fzL0, fzL1, Option.map_some] <;> rfl), ?_⟩
  exact .inr ⟨rfl, rfl, A⟩
 refine aw_ks 12 id ?_
 cases hm
noncomputable def M_boulterlaw21_awake : Option (Bool) :=
 (M_rex_Parse ([97, 98, 42] : List UInt8) false).bind fun (x1, x2, x3) => (M_dfa_Compile x1 (100 : Int)).bind fun (w5, x5) => (match w5 with | some x4 => iteB ((x5 != (0 : Int)) || false) (some false) ((M_dfa_Dfa_Find x4 ([120, 97, 98, 98, 97, 98] : List UInt8) (0 : Int)).bind fun (x6, x7, x8) => (M_dfa_Dfa_Find x4 ([120, 97, 98, 98, 97, 98] : List UInt8) (2 : Int)).bind fun (x9, x10, x11) => some ((((((x6 == (1 : Int)) && (x7 == (4 : Int))) && x8) && (x9 == (4 : Int))) && (x10 == (6 : Int))) && x11)) | none => iteB ((x5 != (0 : Int)) || true) (some false) (none))
theorem ok_boulterlaw21_awake {q0} (hm : M_boulterlaw21_awake = some q0) (A : HH g h [] F) (hc : canL (cfg.still 32) av = [] := by kernel_rfl) : ∃ v h', Runs cfg g h 32 av v h' ∧ v = .bool q0 ∧ HH g h' [] F := by
 refine rq1 60 [.tmp 0] hc ?_
 clear hc
 unfold M_boulterlaw21_awake at hm
 refine bg 60 [] fun fr H => ?_
 refine aw_sr 1 ?_
 refine at_es 1 [] 9 H (fun _ => id) fun fr H => ?_
 obtain ⟨⟨x1, x2, x3⟩, hx, hm⟩ := bind_some hm
 obtain ⟨v1, h1, hr, rfl, A1⟩ := ok_rex_Parse (av := [.str ([97, 98, 42] : List UInt8), .bool false]) hx (A.cut 0)
 replace A := A.g00 A1
 refine at_lc1 13 hr H fun fr t H => ?_
 obtain ⟨h2, e1, A⟩ := A.pu (.cells none 2 [.slice none 0, .int .i64 0])
 refine at_gn 4 [(14, .agg [vs e_S_tree_Node x1.Nodes, .int .i64 x1.Root]), (15, .int .i64 x2), (16, .int .i64 x3)] 1 (.ptr (some (h1.size, 0))) e1 H fun fr t H => ?_
 obtain ⟨h3, hx, A⟩ := A.s0 0 [vs e_S_tree_Node x1.Nodes, .int .i64 x1.Root] [_, _]
 refine at_lS hx H fun fr t H => ?_
 refine at_es 2 [] 7 H (fun _ => id) fun fr H => ?_
 refine at_l1 18 _ _ H (fun fr => .of (s_ldA (by kernel_rfl) (A.ldA 0 rfl (o := 0) (n := 2) ⟨Nat.le_of_ble_eq_true rfl, rfl⟩))) fun fr t H => ?_
 obtain ⟨⟨w5, x5⟩, hx, hm⟩ := bind_some hm
 obtain ⟨v1, h4, hr, hc⟩ := ok_dfa_Compile (av := [.agg [vs e_S_tree_Node x1.Nodes, .int .i64 x1.Root], .int .i64 100]) hx (A.cut 0)
 rcases hc with ⟨x4, rfl, rfl, A1⟩ | ⟨rfl, rfl, A1⟩
 ·replace A := A.g00 A1
  refine at_lc1 19 hr H fun fr t H => ?_
  refine at_el 5 [(4, .vptr (big 256 (AVal.int .u8) x4.column_ ++ [.int .i64 x4.columns_, vs (eI .i32) x4.next_, vs eB x4.ends_, vs eB x4.last_, .int .i32 x4.first_, .int .i32 x4.later_, .bool x4.empty_])), (5, .int .i64 x5)] H (fun _ => id) fun fr H => ?_
  refine aw_sq ?_
  refine aw_sr 6 ?_
  refine at_sl 3 [(24, .bool (x5 != (0 : Int)))] H fun fr H => ?_
  refine at_cl 3 (fun fr' h' => h4 = h' ∧ Has fr' 60 [(4, .vptr (big 256 (AVal.int .u8) x4.column_ ++ [.int .i64 x4.columns_, vs (eI .i32) x4.next_, vs eB x4.ends_, vs eB x4.last_, .int .i32 x4.first_, .int .i32 x4.later_, .bool x4.empty_])), (27, .bool ((x5 != (0 : Int)) || false))]) ?_ ?_
  ·cases hb : (x5 != (0 : Int) : Bool) with
   | true =>
    replace H := H.kn 24 hb
    refine at_sl 3 [(27, .bool true)] H fun fr H => ?_
    exact at_zb H hb
   | false =>
    replace H := H.kn 24 hb
    refine at_sl 3 [(27, .bool false)] H fun fr H => ?_
    exact at_zb H hb
  intro t fr h' hK
  obtain ⟨e, H⟩ := hK
  subst e
  refine at_nl id ?_
  refine aw_if 27 H hm (fun hb hm H => ?_) fun hb hm H => ?_
  ·refine aw_sr 1 ?_
   refine at_el 1 [(0, .bool false)] H (fun _ => id) fun fr H => ?_
   refine aw_rt ?_
   obtain rfl := injA hm
   refine ⟨.inl rfl, .bool false, rH H, ?_⟩
   replace A := A.d0
   exact ⟨rfl, A⟩
  refine aw_ks 9 id ?_
  obtain ⟨⟨x6, x7, x8⟩, hx, hm⟩ := bind_some hm
  obtain ⟨v1, h5, hr, rfl, A1⟩ := ok_dfa_Dfa_Find (av := [.vptr (big 256 (AVal.int .u8) x4.column_ ++ [.int .i64 x4.columns_, vs (eI .i32) x4.next_, vs eB x4.ends_, vs eB x4.last_, .int .i32 x4.first_, .int .i32 x4.later_, .bool x4.empty_]), .str ([120, 97, 98, 98, 97, 98] : List UInt8), .int .i64 0]) hx (A.cut 0)
  replace A := A.g00 A1
  refine at_gc1 1 [] 30 hr H fun fr t H => ?_
  refine at_es 7 [(6, .int .i64 x6), (7, .int .i64 x7), (8, .bool x8)] 9 H (fun _ => id) fun fr H => ?_
  obtain ⟨⟨x9, x10, x11⟩, hx, hm⟩ := bind_some hm
  obtain ⟨v1, h6, hr, rfl, A1⟩ := ok_dfa_Dfa_Find (av := [.vptr (big 256 (AVal.int .u8) x4.column_ ++ [.int .i64 x4.columns_, vs (eI .i32) x4.next_, vs eB x4.ends_, vs eB x4.last_, .int .i32 x4.first_, .int .i32 x4.later_, .bool x4.empty_]), .str ([120, 97, 98, 98, 97, 98] : List UInt8), .int .i64 2]) hx (A.cut 0)
  replace A := A.g00 A1
  refine at_gc1 1 [] 36 hr H fun fr t H => ?_
  refine at_es 7 [(9, .int .i64 x9), (10, .int .i64 x10), (11, .bool x11)] 21 H (fun _ => id) fun fr H => ?_
  refine at_sl 3 [(42, .bool (x6 == (1 : Int)))] H fun fr H => ?_
  refine at_cl 3 (fun fr' h' => h6 = h' ∧ Has fr' 60 [(8, .bool x8), (9, .int .i64 x9), (10, .int .i64 x10), (11, .bool x11), (45, .bool ((x6 == (1 : Int)) && (x7 == (4 : Int))))]) ?_ ?_
  ·cases hb : (x6 == (1 : Int) : Bool) with
   | true =>
    replace H := H.kn 42 hb
    refine at_sl 3 [(45, .bool (x7 == (4 : Int)))] H fun fr H => ?_
    exact at_zb H hb
   | false =>
    replace H := H.kn 42 hb
    refine at_sl 3 [(45, .bool false)] H fun fr H => ?_
    exact at_zb H hb
  intro t fr h' hK
  obtain ⟨e, H⟩ := hK
  subst e
  refine at_sl 1 [(46, .bool ((x6 == (1 : Int)) && (x7 == (4 : Int))))] H fun fr H => ?_
  refine at_cl 2 (fun fr' h' => h6 = h' ∧ Has fr' 60 [(9, .int .i64 x9), (10, .int .i64 x10), (11, .bool x11), (48, .bool (((x6 == (1 : Int)) && (x7 == (4 : Int))) && x8))]) ?_ ?_
  ·cases hb : ((x6 == (1 : Int)) && (x7 == (4 : Int)) : Bool) with
   | true =>
    replace H := H.kn 46 hb
    refine at_sl 2 [(48, .bool x8)] H fun fr H => ?_
    exact at_zb H hb
   | false =>
    replace H := H.kn 46 hb
    refine at_sl 2 [(48, .bool false)] H fun fr H => ?_
    exact at_zb H hb
  intro t fr h' hK
  obtain ⟨e, H⟩ := hK
  subst e
  refine at_sl 1 [(49, .bool (((x6 == (1 : Int)) && (x7 == (4 : Int))) && x8))] H fun fr H => ?_
  refine at_cl 3 (fun fr' h' => h6 = h' ∧ Has fr' 60 [(10, .int .i64 x10), (11, .bool x11), (52, .bool ((((x6 == (1 : Int)) && (x7 == (4 : Int))) && x8) && (x9 == (4 : Int))))]) ?_ ?_
  ·cases hb : (((x6 == (1 : Int)) && (x7 == (4 : Int))) && x8 : Bool) with
   | true =>
    replace H := H.kn 49 hb
    refine at_sl 3 [(52, .bool (x9 == (4 : Int)))] H fun fr H => ?_
    exact at_zb H hb
   | false =>
    replace H := H.kn 49 hb
    refine at_sl 3 [(52, .bool false)] H fun fr H => ?_
    exact at_zb H hb
  intro t fr h' hK
  obtain ⟨e, H⟩ := hK
  subst e
  refine at_sl 1 [(53, .bool ((((x6 == (1 : Int)) && (x7 == (4 : Int))) && x8) && (x9 == (4 : Int))))] H fun fr H => ?_
  refine at_cl 3 (fun fr' h' => h6 = h' ∧ Has fr' 60 [(11, .bool x11), (56, .bool (((((x6 == (1 : Int)) && (x7 == (4 : Int))) && x8) && (x9 == (4 : Int))) && (x10 == (6 : Int))))]) ?_ ?_
  ·cases hb : ((((x6 == (1 : Int)) && (x7 == (4 : Int))) && x8) && (x9 == (4 : Int)) : Bool) with
   | true =>
    replace H := H.kn 53 hb
    refine at_sl 3 [(56, .bool (x10 == (6 : Int)))] H fun fr H => ?_
    exact at_zb H hb
   | false =>
    replace H := H.kn 53 hb
    refine at_sl 3 [(56, .bool false)] H fun fr H => ?_
    exact at_zb H hb
  intro t fr h' hK
  obtain ⟨e, H⟩ := hK
  subst e
  refine at_sl 1 [(57, .bool (((((x6 == (1 : Int)) && (x7 == (4 : Int))) && x8) && (x9 == (4 : Int))) && (x10 == (6 : Int))))] H fun fr H => ?_
  refine at_cl 2 (fun fr' h' => h6 = h' ∧ Has fr' 60 [(59, .bool ((((((x6 == (1 : Int)) && (x7 == (4 : Int))) && x8) && (x9 == (4 : Int))) && (x10 == (6 : Int))) && x11))]) ?_ ?_
  ·cases hb : (((((x6 == (1 : Int)) && (x7 == (4 : Int))) && x8) && (x9 == (4 : Int))) && (x10 == (6 : Int)) : Bool) with
   | true =>
    replace H := H.kn 57 hb
    refine at_sl 2 [(59, .bool x11)] H fun fr H => ?_
    exact at_zb H hb
   | false =>
    replace H := H.kn 57 hb
    refine at_sl 2 [(59, .bool false)] H fun fr H => ?_
    exact at_zb H hb
  intro t fr h' hK
  obtain ⟨e, H⟩ := hK
  subst e
  refine at_el 1 [(0, .bool ((((((x6 == (1 : Int)) && (x7 == (4 : Int))) && x8) && (x9 == (4 : Int))) && (x10 == (6 : Int))) && x11))] H (fun _ => id) fun fr H => ?_
  refine aw_rt ?_
  obtain rfl := injA hm
  refine ⟨.inl rfl, .bool ((((((x6 == (1 : Int)) && (x7 == (4 : Int))) && x8) && (x9 == (4 : Int))) && (x10 == (6 : Int))) && x11), rH H, ?_⟩
  replace A := A.d0
  exact ⟨rfl, A⟩
 replace A := A.g00 A1
 refine at_lc1 19 hr H fun fr t H => ?_
 refine at_el 5 [(4, .ptr none), (5, .int .i64 x5)] H (fun _ => id) fun fr H => ?_
 refine aw_sq ?_
 refine aw_sr 6 ?_
 refine at_sl 3 [(24, .bool (x5 != (0 : Int)))] H fun fr H => ?_
 refine at_cl 3 (fun fr' h' => h4 = h' ∧ Has fr' 60 [(4, .ptr none), (27, .bool ((x5 != (0 : Int)) || true))]) ?_ ?_
 ·cases hb : (x5 != (0 : Int) : Bool) with
  | true =>
   replace H := H.kn 24 hb
   refine at_sl 3 [(27, .bool true)] H fun fr H => ?_
   exact at_zb H hb
  | false =>
   replace H := H.kn 24 hb
   refine at_sl 3 [(27, .bool true)] H fun fr H => ?_
   exact at_zb H hb
 intro t fr h' hK
 obtain ⟨e, H⟩ := hK
 subst e
 refine at_nl id ?_
 refine aw_if 27 H hm (fun hb hm H => ?_) fun hb hm H => ?_
 ·refine aw_sr 1 ?_
  refine at_el 1 [(0, .bool false)] H (fun _ => id) fun fr H => ?_
  refine aw_rt ?_
  obtain rfl := injA hm
  refine ⟨.inl rfl, .bool false, rH H, ?_⟩
  replace A := A.d0
  exact ⟨rfl, A⟩
 refine aw_ks 9 id ?_
 cases hm
noncomputable def M_boulterref18_May (p0 : S_boulterref18_Node) (p1 : Int) : Option (Bool) :=
 iteB ((decide (p0.Kind < (0 : Int))) || (decide (p0.Kind > (7 : Int)))) (some false) (iteB ((((((decide (p0.Kind ≥ (2 : Int))) && (decide (p0.Kind ≤ (5 : Int)))) && ((decide (p0.A < (0 : Int))) || (decide (p0.A ≥ p1)))) || ((!((decide (p0.Kind ≥ (2 : Int))) && (decide (p0.Kind ≤ (5 : Int))))) && (p0.A != (0 : Int)))) || (((p0.Kind == (2 : Int)) || (p0.Kind == (3 : Int))) && ((decide (p0.B < (0 : Int))) || (decide (p0.B ≥ p1))))) || ((!((p0.Kind == (2 : Int)) || (p0.Kind == (3 : Int)))) && (p0.B != (0 : Int)))) (some false) (iteB ((p0.Kind != (1 : Int)) && (!(p0.S == ([] : List UInt8)))) (some false) ((iteB (p0.Kind == (4 : Int)) (iteB (((((decide (p0.Min < (0 : Int))) || (decide (p0.Min > (255 : Int)))) || (decide (p0.Max < (-1 : Int)))) || (decide (p0.Max > (255 : Int)))) || ((decide (p0.Max ≥ (0 : Int))) && (decide (p0.Max < p0.Min)))) (some (.inr false)) (some (.inl ()))) (iteB ((p0.Min != (0 : Int)) || (p0.Max != (0 : Int))) (some (.inr false)) (some (.inl ()))) : Option ((Unit) ⊕ (Bool))).bind fun o1 => (match o1 with | .inl _ => iteB (p0.Kind == (5 : Int)) (some ((decide (p0.Group ≥ (1 : Int))) && (decide (p0.Group ≤ (1024 : Int))))) (some (p0.Group == (0 : Int))) | .inr x1 => some x1))))
theorem ok_boulterref18_May {p0 p1 q0} (hm : M_boulterref18_May p0 p1 = some q0) (A : HH g h [] F) (hc : canL (cfg.still 44) av = [.agg (e_S_boulterref18_Node p0), .int .i64 p1] := by kernel_rfl) : ∃ v h', Runs cfg g h 44 av v h' ∧ v = .bool q0 ∧ HH g h' [] F := by
 refine rq1 138 [.tmp 4] hc ?_
 clear hc
 unfold M_boulterref18_May at hm
 refine bg 138 [(0, .agg (e_S_boulterref18_Node p0)), (1, .int .i64 p1)] fun fr H => ?_
 refine aw_sr 2 ?_
 obtain ⟨h1, e1, A⟩ := A.pu (.cells none 2 (e_S_boulterref18_Node p0))
 refine at_ln 2 (.ptr (some (h.size, 0))) e1 H fun fr t H => ?_
 refine at_el 1 [] H (fun _ => id) fun fr H => ?_
 refine aw_sq ?_
 refine aw_sr 8 ?_
 refine at_gl 1 [] 8 0 0 A H fun fr t H => ?_
 refine at_sl 2 [(10, .bool (decide (p0.Kind < (0 : Int))))] H fun fr H => ?_
 refine at_cl 4 (fun fr' h' => h1 = h' ∧ Has fr' 138 [(1, .int .i64 p1), (2, .ptr (some (h.size, 0))), (14, .bool ((decide (p0.Kind < (0 : Int))) || (decide (p0.Kind > (7 : Int)))))]) ?_ ?_
 ·cases hb : (decide (p0.Kind < (0 : Int)) : Bool) with
  | true =>
   replace H := H.kn 10 hb
   refine at_sl 4 [(14, .bool true)] H fun fr H => ?_
   exact at_zb H hb
  | false =>
   replace H := H.kn 10 hb
   refine at_gl 1 [] 12 0 0 A H fun fr t H => ?_
   refine at_sl 2 [(14, .bool (decide (p0.Kind > (7 : Int))))] H fun fr H => ?_
   exact at_zb H hb
 intro t fr h' hK
 obtain ⟨e, H⟩ := hK
 subst e
 refine at_nl id ?_
 refine aw_if 14 H hm (fun hb hm H => ?_) fun hb hm H => ?_
 ·refine aw_sr 1 ?_
  refine at_el 1 [(4, .bool false)] H (fun _ => id) fun fr H => ?_
  refine aw_rt ?_
  obtain rfl := injA hm
  refine ⟨.inl rfl, .bool false, rH H, ?_⟩
  replace A := A.d0
  exact ⟨rfl, A⟩
 refine aw_ks 9 id ?_
 refine at_gl 1 [] 16 0 0 A H fun fr t H => ?_
 refine at_sl 2 [(18, .bool (decide (p0.Kind ≥ (2 : Int))))] H fun fr H => ?_
 refine at_cl 4 (fun fr' h' => h1 = h' ∧ Has fr' 138 [(1, .int .i64 p1), (2, .ptr (some (h.size, 0))), (22, .bool ((decide (p0.Kind ≥ (2 : Int))) && (decide (p0.Kind ≤ (5 : Int)))))]) ?_ ?_
 ·cases hb : (decide (p0.Kind ≥ (2 : Int)) : Bool) with
  | true =>
   replace H := H.kn 18 hb
   refine at_gl 1 [] 20 0 0 A H fun fr t H => ?_
   refine at_sl 2 [(22, .bool (decide (p0.Kind ≤ (5 : Int))))] H fun fr H => ?_
   exact at_zb H hb
  | false =>
   replace H := H.kn 18 hb
   refine at_sl 4 [(22, .bool false)] H fun fr H => ?_
   exact at_zb H hb
 intro t fr h' hK
 obtain ⟨e, H⟩ := hK
 subst e
 refine at_es 1 [(5, .bool ((decide (p0.Kind ≥ (2 : Int))) && (decide (p0.Kind ≤ (5 : Int)))))] 9 H (fun _ => id) fun fr H => ?_
 refine at_gl 1 [] 24 0 0 A H fun fr t H => ?_
 refine at_sl 2 [(26, .bool (p0.Kind == (2 : Int)))] H fun fr H => ?_
 refine at_cl 4 (fun fr' h' => h1 = h' ∧ Has fr' 138 [(1, .int .i64 p1), (2, .ptr (some (h.size, 0))), (5, .bool ((decide (p0.Kind ≥ (2 : Int))) && (decide (p0.Kind ≤ (5 : Int))))), (30, .bool ((p0.Kind == (2 : Int)) || (p0.Kind == (3 : Int))))]) ?_ ?_
 ·cases hb : (p0.Kind == (2 : Int) : Bool) with
  | true =>
   replace H := H.kn 26 hb
   refine at_sl 4 [(30, .bool true)] H fun fr H => ?_
   exact at_zb H hb
  | false =>
   replace H := H.kn 26 hb
   refine at_gl 1 [] 28 0 0 A H fun fr t H => ?_
   refine at_sl 2 [(30, .bool (p0.Kind == (3 : Int)))] H fun fr H => ?_
   exact at_zb H hb
 intro t fr h' hK
 obtain ⟨e, H⟩ := hK
 subst e
 refine at_el 1 [(6, .bool ((p0.Kind == (2 : Int)) || (p0.Kind == (3 : Int))))] H (fun _ => id) fun fr H => ?_
 refine aw_sq ?_
 refine aw_sr 44 ?_
 refine at_sl 2 [(32, .bool ((decide (p0.Kind ≥ (2 : Int))) && (decide (p0.Kind ≤ (5 : Int)))))] H fun fr H => ?_
 refine at_cl 10 (fun fr' h' => h1 = h' ∧ Has fr' 138 [(1, .int .i64 p1), (2, .ptr (some (h.size, 0))), (5, .bool ((decide (p0.Kind ≥ (2 : Int))) && (decide (p0.Kind ≤ (5 : Int))))), (6, .bool ((p0.Kind == (2 : Int)) || (p0.Kind == (3 : Int)))), (42, .bool (((decide (p0.Kind ≥ (2 : Int))) && (decide (p0.Kind ≤ (5 : Int)))) && ((decide (p0.A < (0 : Int))) || (decide (p0.A ≥ p1)))))]) ?_ ?_
 ·cases hb : ((decide (p0.Kind ≥ (2 : Int))) && (decide (p0.Kind ≤ (5 : Int))) : Bool) with
  | true =>
   replace H := H.kn 32 hb
   refine at_gl 1 [] 34 0 1 A H fun fr t H => ?_
   refine at_sl 2 [(36, .bool (decide (p0.A < (0 : Int))))] H fun fr H => ?_
   refine at_cl 5 (fun fr' h' => h1 = h' ∧ Has fr' 138 [(1, .int .i64 p1), (2, .ptr (some (h.size, 0))), (5, .bool ((decide (p0.Kind ≥ (2 : Int))) && (decide (p0.Kind ≤ (5 : Int))))), (6, .bool ((p0.Kind == (2 : Int)) || (p0.Kind == (3 : Int)))), (32, .bool true), (41, .bool ((decide (p0.A < (0 : Int))) || (decide (p0.A ≥ p1))))]) ?_ ?_
   ·cases hb : (decide (p0.A < (0 : Int)) : Bool) with
    | true =>
     replace H := H.kn 36 hb
     refine at_sl 5 [(41, .bool true)] H fun fr H => ?_
     exact at_zb H hb
    | false =>
     replace H := H.kn 36 hb
     refine at_gl 1 [] 38 0 1 A H fun fr t H => ?_
     refine at_sl 3 [(41, .bool (decide (p0.A ≥ p1)))] H fun fr H => ?_
     exact at_zb H hb
   intro t fr h' hK
   obtain ⟨e, H⟩ := hK
   subst e
   refine at_sl 1 [(42, .bool ((decide (p0.A < (0 : Int))) || (decide (p0.A ≥ p1))))] H fun fr H => ?_
   exact at_zb H hb
  | false =>
   replace H := H.kn 32 hb
   refine at_sl 10 [(42, .bool false)] H fun fr H => ?_
   exact at_zb H hb
 intro t fr h' hK
 obtain ⟨e, H⟩ := hK
 subst e
 refine at_sl 1 [(43, .bool (((decide (p0.Kind ≥ (2 : Int))) && (decide (p0.Kind ≤ (5 : Int)))) && ((decide (p0.A < (0 : Int))) || (decide (p0.A ≥ p1)))))] H fun fr H => ?_
 refine at_cl 8 (fun fr' h' => h1 = h' ∧ Has fr' 138 [(1, .int .i64 p1), (2, .ptr (some (h.size, 0))), (6, .bool ((p0.Kind == (2 : Int)) || (p0.Kind == (3 : Int)))), (51, .bool ((((decide (p0.Kind ≥ (2 : Int))) && (decide (p0.Kind ≤ (5 : Int)))) && ((decide (p0.A < (0 : Int))) || (decide (p0.A ≥ p1)))) || ((!((decide (p0.Kind ≥ (2 : Int))) && (decide (p0.Kind ≤ (5 : Int))))) && (p0.A != (0 : Int)))))]) ?_ ?_
 ·cases hb : (((decide (p0.Kind ≥ (2 : Int))) && (decide (p0.Kind ≤ (5 : Int)))) && ((decide (p0.A < (0 : Int))) || (decide (p0.A ≥ p1))) : Bool) with
  | true =>
   replace H := H.kn 43 hb
   refine at_sl 8 [(51, .bool true)] H fun fr H => ?_
   exact at_zb H hb
  | false =>
   replace H := H.kn 43 hb
   refine at_sl 3 [(46, .bool (!((decide (p0.Kind ≥ (2 : Int))) && (decide (p0.Kind ≤ (5 : Int))))))] H fun fr H => ?_
   refine at_cl 4 (fun fr' h' => h1 = h' ∧ Has fr' 138 [(1, .int .i64 p1), (2, .ptr (some (h.size, 0))), (6, .bool ((p0.Kind == (2 : Int)) || (p0.Kind == (3 : Int)))), (43, .bool false), (50, .bool ((!((decide (p0.Kind ≥ (2 : Int))) && (decide (p0.Kind ≤ (5 : Int))))) && (p0.A != (0 : Int))))]) ?_ ?_
   ·cases hb : (!((decide (p0.Kind ≥ (2 : Int))) && (decide (p0.Kind ≤ (5 : Int)))) : Bool) with
    | true =>
     replace H := H.kn 46 hb
     refine at_gl 1 [] 48 0 1 A H fun fr t H => ?_
     refine at_sl 2 [(50, .bool (p0.A != (0 : Int)))] H fun fr H => ?_
     exact at_zb H hb
    | false =>
     replace H := H.kn 46 hb
     refine at_sl 4 [(50, .bool false)] H fun fr H => ?_
     exact at_zb H hb
   intro t fr h' hK
   obtain ⟨e, H⟩ := hK
   subst e
   refine at_sl 1 [(51, .bool ((!((decide (p0.Kind ≥ (2 : Int))) && (decide (p0.Kind ≤ (5 : Int))))) && (p0.A != (0 : Int))))] H fun fr H => ?_
   exact at_zb H hb
 intro t fr h' hK
 obtain ⟨e, H⟩ := hK
 subst e
 refine at_sl 1 [(52, .bool ((((decide (p0.Kind ≥ (2 : Int))) && (decide (p0.Kind ≤ (5 : Int)))) && ((decide (p0.A < (0 : Int))) || (decide (p0.A ≥ p1)))) || ((!((decide (p0.Kind ≥ (2 : Int))) && (decide (p0.Kind ≤ (5 : Int))))) && (p0.A != (0 : Int)))))] H fun fr H => ?_
 refine at_cl 13 (fun fr' h' => h1 = h' ∧ Has fr' 138 [(2, .ptr (some (h.size, 0))), (6, .bool ((p0.Kind == (2 : Int)) || (p0.Kind == (3 : Int)))), (65, .bool (((((decide (p0.Kind ≥ (2 : Int))) && (decide (p0.Kind ≤ (5 : Int)))) && ((decide (p0.A < (0 : Int))) || (decide (p0.A ≥ p1)))) || ((!((decide (p0.Kind ≥ (2 : Int))) && (decide (p0.Kind ≤ (5 : Int))))) && (p0.A != (0 : Int)))) || (((p0.Kind == (2 : Int)) || (p0.Kind == (3 : Int))) && ((decide (p0.B < (0 : Int))) || (decide (p0.B ≥ p1))))))]) ?_ ?_
 ·cases hb : ((((decide (p0.Kind ≥ (2 : Int))) && (decide (p0.Kind ≤ (5 : Int)))) && ((decide (p0.A < (0 : Int))) || (decide (p0.A ≥ p1)))) || ((!((decide (p0.Kind ≥ (2 : Int))) && (decide (p0.Kind ≤ (5 : Int))))) && (p0.A != (0 : Int))) : Bool) with
  | true =>
   replace H := H.kn 52 hb
   refine at_sl 13 [(65, .bool true)] H fun fr H => ?_
   exact at_zb H hb
  | false =>
   replace H := H.kn 52 hb
   refine at_sl 2 [(54, .bool ((p0.Kind == (2 : Int)) || (p0.Kind == (3 : Int))))] H fun fr H => ?_
   refine at_cl 10 (fun fr' h' => h1 = h' ∧ Has fr' 138 [(2, .ptr (some (h.size, 0))), (6, .bool ((p0.Kind == (2 : Int)) || (p0.Kind == (3 : Int)))), (52, .bool false), (64, .bool (((p0.Kind == (2 : Int)) || (p0.Kind == (3 : Int))) && ((decide (p0.B < (0 : Int))) || (decide (p0.B ≥ p1)))))]) ?_ ?_
   ·cases hb : ((p0.Kind == (2 : Int)) || (p0.Kind == (3 : Int)) : Bool) with
    | true =>
     replace H := H.kn 54 hb
     refine at_gl 1 [] 56 0 2 A H fun fr t H => ?_
     refine at_sl 2 [(58, .bool (decide (p0.B < (0 : Int))))] H fun fr H => ?_
     refine at_cl 5 (fun fr' h' => h1 = h' ∧ Has fr' 138 [(2, .ptr (some (h.size, 0))), (6, .bool ((p0.Kind == (2 : Int)) || (p0.Kind == (3 : Int)))), (52, .bool false), (54, .bool true), (63, .bool ((decide (p0.B < (0 : Int))) || (decide (p0.B ≥ p1))))]) ?_ ?_
     ·cases hb : (decide (p0.B < (0 : Int)) : Bool) with
      | true =>
       replace H := H.kn 58 hb
       refine at_sl 5 [(63, .bool true)] H fun fr H => ?_
       exact at_zb H hb
      | false =>
       replace H := H.kn 58 hb
       refine at_gl 1 [] 60 0 2 A H fun fr t H => ?_
       refine at_sl 3 [(63, .bool (decide (p0.B ≥ p1)))] H fun fr H => ?_
       exact at_zb H hb
     intro t fr h' hK
     obtain ⟨e, H⟩ := hK
     subst e
     refine at_sl 1 [(64, .bool ((decide (p0.B < (0 : Int))) || (decide (p0.B ≥ p1))))] H fun fr H => ?_
     exact at_zb H hb
    | false =>
     replace H := H.kn 54 hb
     refine at_sl 10 [(64, .bool false)] H fun fr H => ?_
     exact at_zb H hb
   intro t fr h' hK
   obtain ⟨e, H⟩ := hK
   subst e
   refine at_sl 1 [(65, .bool (((p0.Kind == (2 : Int)) || (p0.Kind == (3 : Int))) && ((decide (p0.B < (0 : Int))) || (decide (p0.B ≥ p1)))))] H fun fr H => ?_
   exact at_zb H hb
 intro t fr h' hK
 obtain ⟨e, H⟩ := hK
 subst e
 refine at_sl 1 [(66, .bool (((((decide (p0.Kind ≥ (2 : Int))) && (decide (p0.Kind ≤ (5 : Int)))) && ((decide (p0.A < (0 : Int))) || (decide (p0.A ≥ p1)))) || ((!((decide (p0.Kind ≥ (2 : Int))) && (decide (p0.Kind ≤ (5 : Int))))) && (p0.A != (0 : Int)))) || (((p0.Kind == (2 : Int)) || (p0.Kind == (3 : Int))) && ((decide (p0.B < (0 : Int))) || (decide (p0.B ≥ p1))))))] H fun fr H => ?_
 refine at_cl 8 (fun fr' h' => h1 = h' ∧ Has fr' 138 [(2, .ptr (some (h.size, 0))), (74, .bool ((((((decide (p0.Kind ≥ (2 : Int))) && (decide (p0.Kind ≤ (5 : Int)))) && ((decide (p0.A < (0 : Int))) || (decide (p0.A ≥ p1)))) || ((!((decide (p0.Kind ≥ (2 : Int))) && (decide (p0.Kind ≤ (5 : Int))))) && (p0.A != (0 : Int)))) || (((p0.Kind == (2 : Int)) || (p0.Kind == (3 : Int))) && ((decide (p0.B < (0 : Int))) || (decide (p0.B ≥ p1))))) || ((!((p0.Kind == (2 : Int)) || (p0.Kind == (3 : Int)))) && (p0.B != (0 : Int)))))]) ?_ ?_
 ·cases hb : (((((decide (p0.Kind ≥ (2 : Int))) && (decide (p0.Kind ≤ (5 : Int)))) && ((decide (p0.A < (0 : Int))) || (decide (p0.A ≥ p1)))) || ((!((decide (p0.Kind ≥ (2 : Int))) && (decide (p0.Kind ≤ (5 : Int))))) && (p0.A != (0 : Int)))) || (((p0.Kind == (2 : Int)) || (p0.Kind == (3 : Int))) && ((decide (p0.B < (0 : Int))) || (decide (p0.B ≥ p1)))) : Bool) with
  | true =>
   replace H := H.kn 66 hb
   refine at_sl 8 [(74, .bool true)] H fun fr H => ?_
   exact at_zb H hb
  | false =>
   replace H := H.kn 66 hb
   refine at_sl 3 [(69, .bool (!((p0.Kind == (2 : Int)) || (p0.Kind == (3 : Int)))))] H fun fr H => ?_
   refine at_cl 4 (fun fr' h' => h1 = h' ∧ Has fr' 138 [(2, .ptr (some (h.size, 0))), (66, .bool false), (73, .bool ((!((p0.Kind == (2 : Int)) || (p0.Kind == (3 : Int)))) && (p0.B != (0 : Int))))]) ?_ ?_
   ·cases hb : (!((p0.Kind == (2 : Int)) || (p0.Kind == (3 : Int))) : Bool) with
    | true =>
     replace H := H.kn 69 hb
     refine at_gl 1 [] 71 0 2 A H fun fr t H => ?_
     refine at_sl 2 [(73, .bool (p0.B != (0 : Int)))] H fun fr H => ?_
     exact at_zb H hb
    | false =>
     replace H := H.kn 69 hb
     refine at_sl 4 [(73, .bool false)] H fun fr H => ?_
     exact at_zb H hb
   intro t fr h' hK
   obtain ⟨e, H⟩ := hK
   subst e
   refine at_sl 1 [(74, .bool ((!((p0.Kind == (2 : Int)) || (p0.Kind == (3 : Int)))) && (p0.B != (0 : Int))))] H fun fr H => ?_
   exact at_zb H hb
 intro t fr h' hK
 obtain ⟨e, H⟩ := hK
 subst e
 refine at_nl id ?_
 refine aw_if 74 H hm (fun hb hm H => ?_) fun hb hm H => ?_
 ·refine aw_sr 1 ?_
  refine at_el 1 [(4, .bool false)] H (fun _ => id) fun fr H => ?_
  refine aw_rt ?_
  obtain rfl := injA hm
  refine ⟨.inl rfl, .bool false, rH H, ?_⟩
  replace A := A.d0
  exact ⟨rfl, A⟩
 refine aw_kn id ?_
 refine aw_sq ?_
 refine aw_sr 8 ?_
 refine at_gl 1 [] 76 0 0 A H fun fr t H => ?_
 refine at_sl 2 [(78, .bool (p0.Kind != (1 : Int)))] H fun fr H => ?_
 refine at_cl 4 (fun fr' h' => h1 = h' ∧ Has fr' 138 [(2, .ptr (some (h.size, 0))), (82, .bool ((p0.Kind != (1 : Int)) && (!(p0.S == ([] : List UInt8)))))]) ?_ ?_
 ·cases hb : (p0.Kind != (1 : Int) : Bool) with
  | true =>
   replace H := H.kn 78 hb
   refine at_gl 1 [] 80 0 6 A H fun fr t H => ?_
   refine at_sl 2 [(82, .bool (!(p0.S == ([] : List UInt8))))] H fun fr H => ?_
   exact at_zb H hb
  | false =>
   replace H := H.kn 78 hb
   refine at_sl 4 [(82, .bool false)] H fun fr H => ?_
   exact at_zb H hb
 intro t fr h' hK
 obtain ⟨e, H⟩ := hK
 subst e
 refine at_nl id ?_
 refine aw_if 82 H hm (fun hb hm H => ?_) fun hb hm H => ?_
 ·refine aw_sr 1 ?_
  refine at_el 1 [(4, .bool false)] H (fun _ => id) fun fr H => ?_
  refine aw_rt ?_
  obtain rfl := injA hm
  refine ⟨.inl rfl, .bool false, rH H, ?_⟩
  replace A := A.d0
  exact ⟨rfl, A⟩
 refine aw_kn id ?_
 refine aw_sq ?_
 obtain ⟨o1, ho, hm⟩ := bind_some hm
 refine aw_mono (Q' := fun e fr' h' => (e = .normal ∧ .inl () = o1 ∧ Has fr' 138 [(2, .ptr (some (h.size, 0)))] ∧ HH g h' [.obj h.size (.cells none 2 (e_S_boulterref18_Node p0))] F) ∨ (∃ x1, e = .ret ∧ .inr x1 = o1 ∧ Has fr' 138 [(4, .bool x1)] ∧ HH g h' [.obj h.size (.cells none 2 (e_S_boulterref18_Node p0))] F) ∨ False) ?_ ?_
 ·replace hm := ho
  clear ho
  refine aw_sr 3 ?_
  refine at_gl 1 [] 84 0 0 A H fun fr t H => ?_
  refine at_el 1 [(85, .bool (p0.Kind == (4 : Int)))] H (fun _ => id) fun fr H => ?_
  refine aw_if 85 H hm (fun hb hm H => ?_) fun hb hm H => ?_
  ·refine aw_sr 30 ?_
   refine at_gl 1 [] 87 0 3 A H fun fr t H => ?_
   refine at_sl 2 [(89, .bool (decide (p0.Min < (0 : Int))))] H fun fr H => ?_
   refine at_cl 4 (fun fr' h' => h1 = h' ∧ Has fr' 138 [(2, .ptr (some (h.size, 0))), (93, .bool ((decide (p0.Min < (0 : Int))) || (decide (p0.Min > (255 : Int)))))]) ?_ ?_
   ·cases hb : (decide (p0.Min < (0 : Int)) : Bool) with
    | true =>
     replace H := H.kn 89 hb
     refine at_sl 4 [(93, .bool true)] H fun fr H => ?_
     exact at_zb H hb
    | false =>
     replace H := H.kn 89 hb
     refine at_gl 1 [] 91 0 3 A H fun fr t H => ?_
     refine at_sl 2 [(93, .bool (decide (p0.Min > (255 : Int))))] H fun fr H => ?_
     exact at_zb H hb
   intro t fr h' hK
   obtain ⟨e, H⟩ := hK
   subst e
   refine at_sl 1 [(94, .bool ((decide (p0.Min < (0 : Int))) || (decide (p0.Min > (255 : Int)))))] H fun fr H => ?_
   refine at_cl 4 (fun fr' h' => h1 = h' ∧ Has fr' 138 [(2, .ptr (some (h.size, 0))), (98, .bool (((decide (p0.Min < (0 : Int))) || (decide (p0.Min > (255 : Int)))) || (decide (p0.Max < (-1 : Int)))))]) ?_ ?_
   ·cases hb : ((decide (p0.Min < (0 : Int))) || (decide (p0.Min > (255 : Int))) : Bool) with
    | true =>
     replace H := H.kn 94 hb
     refine at_sl 4 [(98, .bool true)] H fun fr H => ?_
     exact at_zb H hb
    | false =>
     replace H := H.kn 94 hb
     refine at_gl 1 [] 96 0 4 A H fun fr t H => ?_
     refine at_sl 2 [(98, .bool (decide (p0.Max < (-1 : Int))))] H fun fr H => ?_
     exact at_zb H hb
   intro t fr h' hK
   obtain ⟨e, H⟩ := hK
   subst e
   refine at_sl 1 [(99, .bool (((decide (p0.Min < (0 : Int))) || (decide (p0.Min > (255 : Int)))) || (decide (p0.Max < (-1 : Int)))))] H fun fr H => ?_
   refine at_cl 4 (fun fr' h' => h1 = h' ∧ Has fr' 138 [(2, .ptr (some (h.size, 0))), (103, .bool ((((decide (p0.Min < (0 : Int))) || (decide (p0.Min > (255 : Int)))) || (decide (p0.Max < (-1 : Int)))) || (decide (p0.Max > (255 : Int)))))]) ?_ ?_
   ·cases hb : (((decide (p0.Min < (0 : Int))) || (decide (p0.Min > (255 : Int)))) || (decide (p0.Max < (-1 : Int))) : Bool) with
    | true =>
     replace H := H.kn 99 hb
     refine at_sl 4 [(103, .bool true)] H fun fr H => ?_
     exact at_zb H hb
    | false =>
     replace H := H.kn 99 hb
     refine at_gl 1 [] 101 0 4 A H fun fr t H => ?_
     refine at_sl 2 [(103, .bool (decide (p0.Max > (255 : Int))))] H fun fr H => ?_
     exact at_zb H hb
   intro t fr h' hK
   obtain ⟨e, H⟩ := hK
   subst e
   refine at_sl 1 [(104, .bool ((((decide (p0.Min < (0 : Int))) || (decide (p0.Min > (255 : Int)))) || (decide (p0.Max < (-1 : Int)))) || (decide (p0.Max > (255 : Int)))))] H fun fr H => ?_
   refine at_cl 11 (fun fr' h' => h1 = h' ∧ Has fr' 138 [(2, .ptr (some (h.size, 0))), (115, .bool (((((decide (p0.Min < (0 : Int))) || (decide (p0.Min > (255 : Int)))) || (decide (p0.Max < (-1 : Int)))) || (decide (p0.Max > (255 : Int)))) || ((decide (p0.Max ≥ (0 : Int))) && (decide (p0.Max < p0.Min)))))]) ?_ ?_
   ·cases hb : ((((decide (p0.Min < (0 : Int))) || (decide (p0.Min > (255 : Int)))) || (decide (p0.Max < (-1 : Int)))) || (decide (p0.Max > (255 : Int))) : Bool) with
    | true =>
     replace H := H.kn 104 hb
     refine at_sl 11 [(115, .bool true)] H fun fr H => ?_
     exact at_zb H hb
    | false =>
     replace H := H.kn 104 hb
     refine at_gl 1 [] 106 0 4 A H fun fr t H => ?_
     refine at_sl 2 [(108, .bool (decide (p0.Max ≥ (0 : Int))))] H fun fr H => ?_
     refine at_cl 6 (fun fr' h' => h1 = h' ∧ Has fr' 138 [(2, .ptr (some (h.size, 0))), (104, .bool false), (114, .bool ((decide (p0.Max ≥ (0 : Int))) && (decide (p0.Max < p0.Min))))]) ?_ ?_
     ·cases hb : (decide (p0.Max ≥ (0 : Int)) : Bool) with
      | true =>
       replace H := H.kn 108 hb
       refine at_gl 1 [] 110 0 4 A H fun fr t H => ?_
       refine at_gl 1 [] 112 0 3 A H fun fr t H => ?_
       refine at_sl 2 [(114, .bool (decide (p0.Max < p0.Min)))] H fun fr H => ?_
       exact at_zb H hb
      | false =>
       replace H := H.kn 108 hb
       refine at_sl 6 [(114, .bool false)] H fun fr H => ?_
       exact at_zb H hb
     intro t fr h' hK
     obtain ⟨e, H⟩ := hK
     subst e
     refine at_sl 1 [(115, .bool ((decide (p0.Max ≥ (0 : Int))) && (decide (p0.Max < p0.Min))))] H fun fr H => ?_
     exact at_zb H hb
   intro t fr h' hK
   obtain ⟨e, H⟩ := hK
   subst e
   refine at_nl id ?_
   refine aw_if 115 H hm (fun hb hm H => ?_) fun hb hm H => ?_
   ·refine aw_sr 1 ?_
    refine at_el 1 [(4, .bool false)] H (fun _ => id) fun fr H => ?_
    refine aw_rt ?_
    exact .inr (.inl ⟨_, rfl, injA hm, H.ls, A⟩)
   refine aw_sk ?_
   exact .inl ⟨rfl, injA hm, H.ls, A⟩
  refine aw_sr 8 ?_
  refine at_gl 1 [] 117 0 3 A H fun fr t H => ?_
  refine at_sl 2 [(119, .bool (p0.Min != (0 : Int)))] H fun fr H => ?_
  refine at_cl 4 (fun fr' h' => h1 = h' ∧ Has fr' 138 [(2, .ptr (some (h.size, 0))), (123, .bool ((p0.Min != (0 : Int)) || (p0.Max != (0 : Int))))]) ?_ ?_
  ·cases hb : (p0.Min != (0 : Int) : Bool) with
   | true =>
    replace H := H.kn 119 hb
    refine at_sl 4 [(123, .bool true)] H fun fr H => ?_
    exact at_zb H hb
   | false =>
    replace H := H.kn 119 hb
    refine at_gl 1 [] 121 0 4 A H fun fr t H => ?_
    refine at_sl 2 [(123, .bool (p0.Max != (0 : Int)))] H fun fr H => ?_
    exact at_zb H hb
  intro t fr h' hK
  obtain ⟨e, H⟩ := hK
  subst e
  refine at_nl id ?_
  refine aw_if 123 H hm (fun hb hm H => ?_) fun hb hm H => ?_
  ·refine aw_sr 1 ?_
   refine at_el 1 [(4, .bool false)] H (fun _ => id) fun fr H => ?_
   refine aw_rt ?_
   exact .inr (.inl ⟨_, rfl, injA hm, H.ls, A⟩)
  refine aw_sk ?_
  exact .inl ⟨rfl, injA hm, H.ls, A⟩
 clear ho
 clear A
 intro e fr h2 hQ
 rcases hQ with ⟨rfl, rfl, H, A⟩ | ⟨x1, rfl, rfl, H, A⟩ | hF
 ·show AW _ _ _ _ _ _ _
  refine aw_sq ?_
  refine aw_sr 3 ?_
  refine at_gl 1 [] 125 0 0 A H fun fr t H => ?_
  refine at_el 1 [(126, .bool (p0.Kind == (5 : Int)))] H (fun _ => id) fun fr H => ?_
  refine aw_if 126 H hm (fun hb hm H => ?_) fun hb hm H => ?_
  ·refine aw_sr 9 ?_
   refine at_gl 1 [] 128 0 5 A H fun fr t H => ?_
   refine at_sl 2 [(130, .bool (decide (p0.Group ≥ (1 : Int))))] H fun fr H => ?_
   refine at_cl 4 (fun fr' h' => h2 = h' ∧ Has fr' 138 [(134, .bool ((decide (p0.Group ≥ (1 : Int))) && (decide (p0.Group ≤ (1024 : Int)))))]) ?_ ?_
   ·cases hb : (decide (p0.Group ≥ (1 : Int)) : Bool) with
    | true =>
     replace H := H.kn 130 hb
     refine at_gl 1 [] 132 0 5 A H fun fr t H => ?_
     refine at_sl 2 [(134, .bool (decide (p0.Group ≤ (1024 : Int))))] H fun fr H => ?_
     exact at_zb H hb
    | false =>
     replace H := H.kn 130 hb
     refine at_sl 4 [(134, .bool false)] H fun fr H => ?_
     exact at_zb H hb
   intro t fr h' hK
   obtain ⟨e, H⟩ := hK
   subst e
   refine at_el 1 [(4, .bool ((decide (p0.Group ≥ (1 : Int))) && (decide (p0.Group ≤ (1024 : Int)))))] H (fun _ => id) fun fr H => ?_
   refine aw_rt ?_
   obtain rfl := injA hm
   refine ⟨.inl rfl, .bool ((decide (p0.Group ≥ (1 : Int))) && (decide (p0.Group ≤ (1024 : Int)))), rH H, ?_⟩
   replace A := A.d0
   exact ⟨rfl, A⟩
  refine aw_ks 4 id ?_
  refine at_gl 1 [] 136 0 5 A H fun fr t H => ?_
  refine at_el 2 [(4, .bool (p0.Group == (0 : Int)))] H (fun _ => id) fun fr H => ?_
  refine aw_rt ?_
  obtain rfl := injA hm
  refine ⟨.inl rfl, .bool (p0.Group == (0 : Int)), rH H, ?_⟩
  replace A := A.d0
  exact ⟨rfl, A⟩
 ·obtain rfl := injA hm
  refine ⟨.inl rfl, .bool x1, rH H, ?_⟩
  replace A := A.d0
  exact ⟨rfl, A⟩
 exact hF.elim
noncomputable def M_boulterref18_Right_L0 (p0 : S_boulterref18_Tree) (s : Int) : Option ((Int) ⊕ ((Unit) ⊕ (Bool))) :=
 match s with
 | x1 => iteB (decide (x1 < (p0.L.length : Int))) ((ixV p0.L x1).bind fun x3 => (M_boulterref18_May x3 x1).bind fun x4 => iteB (!x4) (some (.inr (.inr false))) (some (.inl (IntKind.i64.wrap (x1 + (1 : Int)))))) (some (.inr (.inl ())))
noncomputable def M_boulterref18_Right (p0 : S_boulterref18_Tree) : Option (Bool) :=
 iteB (((decide ((p0.L.length : Int) > (1024 : Int))) || (decide (p0.Root < (0 : Int)))) || (decide (p0.Root ≥ (p0.L.length : Int)))) (some false) ((loop (M_boulterref18_Right_L0 p0) (0 : Int)).bind fun o1 => (match o1 with | .inl _ => some true | .inr x2 => some x2))
theorem ok_boulterref18_Right {p0 q0} (hm : M_boulterref18_Right p0 = some q0) (A : HH g h [] F) (hc : canL (cfg.still 13) av = [.agg [vs e_S_boulterref18_Node p0.L, .int .i64 p0.Root]] := by kernel_rfl) : ∃ v h', Runs cfg g h 13 av v h' ∧ v = .bool q0 ∧ HH g h' [] F := by
 refine rq1 36 [.tmp 2] hc ?_
 clear hc
 unfold M_boulterref18_Right at hm
 refine bg 36 [(0, .agg [vs e_S_boulterref18_Node p0.L, .int .i64 p0.Root])] fun fr H => ?_
 refine aw_sr 2 ?_
 obtain ⟨h1, e1, A⟩ := A.pu (.cells none 2 [vs e_S_boulterref18_Node p0.L, .int .i64 p0.Root])
 refine at_ln 1 (.ptr (some (h.size, 0))) e1 H fun fr t H => ?_
 refine at_el 1 [] H (fun _ => id) fun fr H => ?_
 refine aw_sq ?_
 refine aw_sr 17 ?_
 refine at_gl 1 [] 5 0 0 A H fun fr t H => ?_
 refine at_sl 3 [(8, .bool (decide ((p0.L.length : Int) > (1024 : Int))))] H fun fr H => ?_
 refine at_cl 4 (fun fr' h' => h1 = h' ∧ Has fr' 36 [(1, .ptr (some (h.size, 0))), (12, .bool ((decide ((p0.L.length : Int) > (1024 : Int))) || (decide (p0.Root < (0 : Int)))))]) ?_ ?_
 ·cases hb : (decide ((p0.L.length : Int) > (1024 : Int)) : Bool) with
  | true =>
   replace H := H.kn 8 hb
   refine at_sl 4 [(12, .bool true)] H fun fr H => ?_
   exact at_zb H hb
  | false =>
   replace H := H.kn 8 hb
   refine at_gl 1 [] 10 0 1 A H fun fr t H => ?_
   refine at_sl 2 [(12, .bool (decide (p0.Root < (0 : Int))))] H fun fr H => ?_
   exact at_zb H hb
 intro t fr h' hK
 obtain ⟨e, H⟩ := hK
 subst e
 refine at_sl 1 [(13, .bool ((decide ((p0.L.length : Int) > (1024 : Int))) || (decide (p0.Root < (0 : Int)))))] H fun fr H => ?_
 refine at_cl 7 (fun fr' h' => h1 = h' ∧ Has fr' 36 [(1, .ptr (some (h.size, 0))), (20, .bool (((decide ((p0.L.length : Int) > (1024 : Int))) || (decide (p0.Root < (0 : Int)))) || (decide (p0.Root ≥ (p0.L.length : Int)))))]) ?_ ?_
 ·cases hb : ((decide ((p0.L.length : Int) > (1024 : Int))) || (decide (p0.Root < (0 : Int))) : Bool) with
  | true =>
   replace H := H.kn 13 hb
   refine at_sl 7 [(20, .bool true)] H fun fr H => ?_
   exact at_zb H hb
  | false =>
   replace H := H.kn 13 hb
   refine at_gl 1 [] 15 0 1 A H fun fr t H => ?_
   refine at_gl 1 [] 17 0 0 A H fun fr t H => ?_
   refine at_sl 3 [(20, .bool (decide (p0.Root ≥ (p0.L.length : Int))))] H fun fr H => ?_
   exact at_zb H hb
 intro t fr h' hK
 obtain ⟨e, H⟩ := hK
 subst e
 refine at_nl id ?_
 refine aw_if 20 H hm (fun hb hm H => ?_) fun hb hm H => ?_
 ·refine aw_sr 1 ?_
  refine at_el 1 [(2, .bool false)] H (fun _ => id) fun fr H => ?_
  refine aw_rt ?_
  obtain rfl := injA hm
  refine ⟨.inl rfl, .bool false, rH H, ?_⟩
  replace A := A.d0
  exact ⟨rfl, A⟩
 refine aw_kn id ?_
 refine aw_sq ?_
 refine aw_sr 1 ?_
 refine at_el 1 [(3, .int .i64 0)] H (fun _ => id) fun fr H => ?_
 refine aw_block (id := 0) (by kernel_rfl) ?_
 obtain ⟨o1, ho, hm⟩ := bind_some hm
 refine aw_mono (Q' := fun e fr' h' => (e = .exit 0 ∧ .inl () = o1 ∧ Has fr' 36 [] ∧ HH g h' [.obj h.size (.cells none 2 [vs e_S_boulterref18_Node p0.L, .int .i64 p0.Root])] F) ∨ (∃ x2, e = .ret ∧ .inr x2 = o1 ∧ Has fr' 36 [(2, .bool x2)] ∧ HH g h' [.obj h.size (.cells none 2 [vs e_S_boulterref18_Node p0.L, .int .i64 p0.Root])] F) ∨ False) ?_ ?_
 ·refine aw_loop (by kernel_rfl) (fun (s : Int) fr' h' => ∃ x1, x1 = s ∧ Has fr' 36 [(1, .ptr (some (h.size, 0))), (3, .int .i64 x1)] ∧ HH g h' [.obj h.size (.cells none 2 [vs e_S_boulterref18_Node p0.L, .int .i64 p0.Root])] F) ho ⟨_, rfl, H.ls, A⟩ ?_
  clear ho hm H A
  intro s q fr h2 hI hm
  obtain ⟨x1, rfl, H, A⟩ := hI
  unfold M_boulterref18_Right_L0 at hm
  refine aw_sq ?_
  refine aw_sr 5 ?_
  refine at_gl 2 [(21, .int .i64 x1)] 23 0 0 A H fun fr t H => ?_
  refine at_el 2 [(25, .bool (decide (x1 < (p0.L.length : Int))))] H (fun _ => id) fun fr H => ?_
  refine aw_if 25 H hm (fun hb hm H => ?_) fun hb hm H => ?_
  ·refine aw_kn id ?_
   refine aw_sq ?_
   refine aw_block (id := 1) (by kernel_rfl) ?_
   refine aw_sr 8 ?_
   refine at_gl 1 [] 29 0 0 A H fun fr t H => ?_
   obtain ⟨x3, hx, hm⟩ := bind_some hm
   refine at_g1 1 [] 31 (.vptr (e_S_boulterref18_Node x3)) h2 H (fun fr => .of (s_ixV (e := e_S_boulterref18_Node) (x := x3) enc_S_boulterref18_Node (by decide) (by kernel_rfl) hx)) fun fr t H => ?_
   refine at_l1 32 (.agg (e_S_boulterref18_Node x3)) h2 H (fun fr => .of (s_lv (by kernel_rfl))) fun fr t H => ?_
   obtain ⟨x4, hx, hm⟩ := bind_some hm
   obtain ⟨v1, h3, hr, rfl, A1⟩ := ok_boulterref18_May (av := [.agg (e_S_boulterref18_Node x3), .int .i64 x1]) hx (A.cut 0)
   replace A := A.g00 A1
   refine at_gc1 1 [] 34 hr H fun fr t H => ?_
   refine at_el 1 [(35, .bool (!x4))] H (fun _ => id) fun fr H => ?_
   refine aw_if 35 H hm (fun hb hm H => ?_) fun hb hm H => ?_
   ·refine aw_sr 1 ?_
    refine at_el 1 [(2, .bool false)] H (fun _ => id) fun fr H => ?_
    refine aw_rt ?_
    exact nr hm fun e => Or.inr (.inl ⟨_, rfl, e, H.ls, A⟩)
   refine aw_kr 3 id ?_
   refine at_se 3 [(1, .ptr (some (h.size, 0))), (3, .int .i64 (IntKind.i64.wrap (x1 + (1 : Int))))] H fun fr H => ?_
   refine at_nil ?_
   exact nx hm ⟨_, rfl, H.ls, A⟩
  refine aw_exit (i := 0) (by kernel_rfl) ?_
  exact nr hm fun e => .inl ⟨rfl, e, H.ls, A⟩
 clear ho
 clear A
 intro e fr h4 hQ
 rcases hQ with ⟨rfl, rfl, H, A⟩ | ⟨x2, rfl, rfl, H, A⟩ | hF
 ·show AW _ _ _ _ _ _ _
  refine aw_sr 1 ?_
  refine at_el 1 [(2, .bool true)] H (fun _ => id) fun fr H => ?_
  refine aw_rt ?_
  obtain rfl := injA hm
  refine ⟨.inl rfl, .bool true, rH H, ?_⟩
  replace A := A.d0
  exact ⟨rfl, A⟩
 ·obtain rfl := injA hm
  refine ⟨.inl rfl, .bool x2, rH H, ?_⟩
  replace A := A.d0
  exact ⟨rfl, A⟩
 exact hF.elim
end Go.Av.L
