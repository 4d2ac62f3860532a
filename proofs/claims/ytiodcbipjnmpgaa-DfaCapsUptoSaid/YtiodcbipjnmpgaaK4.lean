/-
 Models of functions, and that the abstract run tells them. Written by lift2.py.
-/
import Derived.Test.YtiodcbipjnmpgaaKCfg
import Derived.Test.YtiodcbipjnmpgaaK0
import Derived.Test.YtiodcbipjnmpgaaK3
namespace Go.Av.L
open Go.Av Go.Lib
set_option maxRecDepth 10000
set_option linter.unusedVariables false
set_option linter.unusedSimpArgs false
variable {g : Gd} {h : AHeap} {F : List Ck} {av : List AVal}
noncomputable def M_auto_Auto_Apart_L0 (p0 : S_auto_Auto) (p1 : Int) (p2 : Int) (s : Int) : Option ((Int) ⊕ ((Unit) ⊕ (Bool))) :=
 match s with
 | x1 => iteB (decide (x1 < (p0.l_.length : Int))) ((ixV p0.l_ x1).bind fun x3 => (iteB (x3.kind_ == (1 : Int)) ((M_class_Set_Has x3.set_ p1).bind fun x5 => (M_class_Set_Has x3.set_ p2).bind fun x6 => some (!(x5 == x6))) (some false) : Option (Bool)).bind fun x4 => iteB x4 (some (.inr (.inr true))) (some (.inl (IntKind.i64.wrap (x1 + (1 : Int)))))) (some (.inr (.inl ())))
noncomputable def M_auto_Auto_Apart (p0 : S_auto_Auto) (p1 : Int) (p2 : Int) : Option (Bool) :=
 (loop (M_auto_Auto_Apart_L0 p0 p1 p2) (0 : Int)).bind fun o1 => (match o1 with | .inl _ => some false | .inr x2 => some x2)
theorem ok_auto_Auto_Apart {p0 p1 p2 q0} (hm : M_auto_Auto_Apart p0 p1 p2 = some q0) (A : HH g h [] F) (hc : canL (cfg.still 30) av = [.vptr [vs e_S_auto_state p0.l_, .int .i64 p0.first_], .int .u8 p1, .int .u8 p2] := by kernel_rfl) : ∃ v h', Runs cfg g h 30 av v h' ∧ v = .bool q0 ∧ HH g h' [] F := by
 refine rq1 33 [.tmp 6] hc ?_
 clear hc
 unfold M_auto_Auto_Apart at hm
 refine bg 33 [(0, .vptr [vs e_S_auto_state p0.l_, .int .i64 p0.first_]), (1, .int .u8 p1), (2, .int .u8 p2)] fun fr H => ?_
 refine aw_sr 1 ?_
 refine at_el 1 [] H (fun _ => id) fun fr H => ?_
 refine aw_sq ?_
 refine aw_sr 6 ?_
 refine at_g1 3 [] 12 (vs e_S_auto_state p0.l_) h H (fun fr => .of (s_lv (by kernel_rfl))) fun fr t H => ?_
 refine at_el 2 [(13, .int .i64 (p0.l_.length : Int)), (14, .int .i64 0)] H (fun _ => id) fun fr H => ?_
 refine aw_block (id := 0) (by kernel_rfl) ?_
 obtain ⟨o1, ho, hm⟩ := bind_some hm
 refine aw_mono (Q' := fun e fr' h' => (e = .exit 0 ∧ .inl () = o1 ∧ Has fr' 33 [] ∧ HH g h' [] F) ∨ (∃ x2, e = .ret ∧ .inr x2 = o1 ∧ Has fr' 33 [(6, .bool x2)] ∧ HH g h' [] F) ∨ False) ?_ ?_
 ·refine aw_loop (by kernel_rfl) (fun (s : Int) fr' h' => ∃ x1, x1 = s ∧ Has fr' 33 [(1, .int .u8 p1), (2, .int .u8 p2), (12, vs e_S_auto_state p0.l_), (13, .int .i64 (p0.l_.length : Int)), (14, .int .i64 x1)] ∧ HH g h' [] F) ho ⟨_, rfl, H.ls, A⟩ ?_
  clear ho hm H A
  intro s q fr h1 hI hm
  obtain ⟨x1, rfl, H, A⟩ := hI
  unfold M_auto_Auto_Apart_L0 at hm
  refine aw_sr 1 ?_
  refine at_el 1 [(15, .bool (decide (x1 < (p0.l_.length : Int))))] H (fun _ => id) fun fr H => ?_
  refine aw_sq ?_
  refine aw_if 15 H hm (fun hb hm H => ?_) fun hb hm H => ?_
  ·refine aw_kn id ?_
   refine aw_sq ?_
   refine aw_block (id := 1) (by kernel_rfl) ?_
   refine aw_sr 4 ?_
   obtain ⟨x3, hx, hm⟩ := bind_some hm
   refine at_l1 16 (.vptr (e_S_auto_state x3)) h1 H (fun fr => .of (s_ixV (e := e_S_auto_state) (x := x3) enc_S_auto_state (by decide) (by kernel_rfl) hx)) fun fr t H => ?_
   refine at_l1 17 (.agg (e_S_auto_state x3)) h1 H (fun fr => .of (s_lv (by kernel_rfl))) fun fr t H => ?_
   obtain ⟨h2, e1, A⟩ := A.pu (.cells none 2 [.int .i64 0, .int .i64 0, .int .i64 0, .int .u64 0, .int .u64 0, .int .u64 0, .int .u64 0])
   refine at_ln 8 (.ptr (some (h1.size, 0))) e1 H fun fr t H => ?_
   obtain ⟨h3, hx, A⟩ := A.s0 0 [.int .i64 x3.kind_, .int .i64 x3.a_, .int .i64 x3.b_, .int .u64 x3.set_.w0, .int .u64 x3.set_.w1, .int .u64 x3.set_.w2, .int .u64 x3.set_.w3] [_, _, _, _, _, _, _]
   refine at_lS hx H fun fr t H => ?_
   refine at_nl id ?_
   refine aw_sq ?_
   refine aw_dw 4 14 [(0, []), (1, []), (2, []), (3, []), (4, []), (5, []), (6, []), (8, []), (9, []), (7, [9]), (10, []), (11, []), (12, []), (13, [])] ?_
   refine at_sl 1 [(18, .ptr (some (h1.size, 0)))] H fun fr H => ?_
   refine at_t1 19 (.int .i64 x3.kind_) h3 [(1, h1.size)] (g.prot) H (fun fr => .of (s_ld (by kernel_rfl) (A.l1 0 0))) (fun fr H => ?_)
   refine at_sl 2 [(21, .bool (x3.kind_ == (1 : Int)))] H fun fr H => ?_
   obtain ⟨x4, ho, hm⟩ := bind_some hm
   refine at_cl 10 (fun fr' h' => Has fr' 33 [(1, .int .u8 p1), (2, .int .u8 p2), (12, vs e_S_auto_state p0.l_), (13, .int .i64 (p0.l_.length : Int)), (14, .int .i64 x1), (31, .bool x4)] ∧ HH g h' [.obj h1.size (.cells none 2 (e_S_auto_state x3))] F) ?_ ?_
   ·rcases iteB_some ho with ⟨hb, hm⟩ | ⟨hb, hm⟩
    ·replace H := H.kn 21 hb
     refine at_sl 1 [(22, .ptr (some (h1.size, 3)))] H fun fr H => ?_
     refine at_t1 23 (.agg [.int .u64 x3.set_.w0, .int .u64 x3.set_.w1, .int .u64 x3.set_.w2, .int .u64 x3.set_.w3]) h3 [(5, h1.size), (1, h1.size)] (g.prot) H (fun fr => .of (s_ldA (by kernel_rfl) (A.la 0 3 4))) (fun fr H => ?_)
     refine at_sl 2 [(24, .int .u8 p1), (26, .ptr (some (h1.size, 3)))] H fun fr H => ?_
     refine at_t1 27 (.agg [.int .u64 x3.set_.w0, .int .u64 x3.set_.w1, .int .u64 x3.set_.w2, .int .u64 x3.set_.w3]) h3 [(9, h1.size), (5, h1.size), (1, h1.size)] (g.prot) H (fun fr => .of (s_ldA (by kernel_rfl) (A.la 0 3 4))) (fun fr H => ?_)
     have A1 := A.prot2 0 (pr := [h1.size]) (.cons 0 rfl (by simp [Ck.ids]) .nil)
     obtain ⟨x5, hx, hm⟩ := bind_some hm
     obtain ⟨v1, h5, hr, rfl, A1⟩ := ok_class_Set_Has (av := [.agg [.int .u64 x3.set_.w0, .int .u64 x3.set_.w1, .int .u64 x3.set_.w2, .int .u64 x3.set_.w3], .int .u8 p1]) hx A1
     replace A := A.p00 A1
     refine at_t1 25 (.bool x5) h5 [(9, h1.size), (5, h1.size), (1, h1.size)] (h1.size :: g.prot) H (fun fr => Steps.call (by kernel_rfl) hr) (fun fr H => ?_)
     refine at_sl 1 [(28, .int .u8 p2)] H fun fr H => ?_
     obtain ⟨x6, hx, hm⟩ := bind_some hm
     obtain ⟨v1, h6, hr, rfl, A1⟩ := ok_class_Set_Has (av := [.agg [.int .u64 x3.set_.w0, .int .u64 x3.set_.w1, .int .u64 x3.set_.w2, .int .u64 x3.set_.w3], .int .u8 p2]) hx (A.cut 0)
     replace A := A.g00 A1
     refine at_t1 29 (.bool x6) h6 [(9, h1.size), (5, h1.size), (1, h1.size)] (g.prot) H (fun fr => Steps.call (by kernel_rfl) hr) (fun fr H => ?_)
     refine at_sl 2 [(31, .bool (!(x5 == x6)))] H fun fr H => ?_
     obtain rfl := injA hm
     exact at_nil ⟨H.ls, A⟩
    replace H := H.kn 21 hb
    refine at_sl 5 [(23, .tuple []), (24, .tuple []), (27, .tuple [])] H fun fr H => ?_
    refine at_skip [(1, .int .u8 p1), (2, .int .u8 p2), (12, vs e_S_auto_state p0.l_), (13, .int .i64 (p0.l_.length : Int)), (14, .int .i64 x1), (21, .bool false), (25, .tuple []), (27, .tuple [])] H (fun fr => by kernel_rfl) ?_
    intro fr H
    refine at_sl 4 [(31, .bool false)] H fun fr H => ?_
    obtain rfl := injA hm
    exact at_nil ⟨H.ls, A⟩
   clear A
   intro t fr h4 hK
   obtain ⟨H, A⟩ := hK
   refine at_nl id ?_
   refine aw_if 31 H hm (fun hb hm H => ?_) fun hb hm H => ?_
   ·refine aw_sr 1 ?_
    refine at_el 1 [(6, .bool true)] H (fun _ => id) fun fr H => ?_
    refine aw_rt ?_
    replace A := A.d0
    exact nr hm fun e => Or.inr (.inl ⟨_, rfl, e, H.ls, A⟩)
   refine aw_kr 2 id ?_
   refine at_se 2 [(1, .int .u8 p1), (2, .int .u8 p2), (12, vs e_S_auto_state p0.l_), (13, .int .i64 (p0.l_.length : Int)), (14, .int .i64 (IntKind.i64.wrap (x1 + (1 : Int))))] H fun fr H => ?_
   refine at_nil ?_
   replace A := A.d0
   exact nx hm ⟨_, rfl, H.ls, A⟩
  refine aw_exit (i := 0) (by kernel_rfl) ?_
  exact nr hm fun e => .inl ⟨rfl, e, H.ls, A⟩
 clear ho
 clear A
 intro e fr h7 hQ
 rcases hQ with ⟨rfl, rfl, H, A⟩ | ⟨x2, rfl, rfl, H, A⟩ | hF
 ·show AW _ _ _ _ _ _ _
  refine aw_sr 1 ?_
  refine at_el 1 [(6, .bool false)] H (fun _ => id) fun fr H => ?_
  refine aw_rt ?_
  obtain rfl := injA hm
  exact ⟨.inl rfl, _, rH H, rfl, A⟩
 ·obtain rfl := injA hm
  exact ⟨.inl rfl, _, rH H, rfl, A⟩
 exact hF.elim
noncomputable def M_dfa_maker_split_1_sIPPPOOOOOP (p0 : Int) (p1_0 : S_dfa_maker) (p2 : Int) : Option (Bool) :=
 (M_auto_Auto_Apart p1_0.a_ (IntKind.u8.wrap p2) p0).bind fun x1 => some (!x1)
theorem ok_dfa_maker_split_1_sIPPPOOOOOP {p0 p1_0 p2 bp1 bp1_0 bp1_0_1 rp1_0_1_2 rp1_0_1_3 rp1_0_1_4 rp1_0_3 bp1_0_4 rp1_0_5 bp2 q0} (hm : M_dfa_maker_split_1_sIPPPOOOOOP p0 p1_0 p2 = some q0) (A : HH g h [.obj bp1 (.cells none 2 [.ptr (some (bp1_0, 0))]), .obj bp1_0 (.cells none 2 [.vptr [vs e_S_auto_state p1_0.a_.l_, .int .i64 p1_0.a_.first_], .ptr (some (bp1_0_1, 0)), .int .i64 p1_0.most_, rowV rp1_0_3 p1_0.byte_.length, .map (some bp1_0_4), rowV rp1_0_5 p1_0.todo_.length]), .obj bp1_0_1 (.cells none 2 (big 256 (AVal.int .u8) p1_0.d_.column_ ++ [.int .i64 p1_0.d_.columns_, rowV rp1_0_1_2 p1_0.d_.next_.length, rowV rp1_0_1_3 p1_0.d_.ends_.length, rowV rp1_0_1_4 p1_0.d_.last_.length, .int .i32 p1_0.d_.first_, .int .i32 p1_0.d_.later_, .bool p1_0.d_.empty_])), .lst rp1_0_1_2 21 (lst (eI .i32) p1_0.d_.next_), .lst rp1_0_1_3 4 (lst eB p1_0.d_.ends_), .lst rp1_0_1_4 4 (lst eB p1_0.d_.last_), .lst rp1_0_3 5 (lst eY p1_0.byte_), .obj bp1_0_4 (.map 2 (encM (fun k : List UInt8 => .str k) (fun v : Int => .int .i32 v) p1_0.seen_)), .lst rp1_0_5 54 (lst (eL (eI .i64)) p1_0.todo_), .obj bp2 (.cells none 2 [.int .i64 p2])] F) (hc : canL (cfg.still 71) av = [.int .u8 p0, .ptr (some (bp1, 0)), .ptr (some (bp2, 0))] := by kernel_rfl) : ∃ v h', Runs cfg g h 71 av v h' ∧ v = .bool q0 ∧ HH g h' [.obj bp1 (.cells none 2 [.ptr (some (bp1_0, 0))]), .obj bp1_0 (.cells none 2 [.vptr [vs e_S_auto_state p1_0.a_.l_, .int .i64 p1_0.a_.first_], .ptr (some (bp1_0_1, 0)), .int .i64 p1_0.most_, rowV rp1_0_3 p1_0.byte_.length, .map (some bp1_0_4), rowV rp1_0_5 p1_0.todo_.length]), .obj bp1_0_1 (.cells none 2 (big 256 (AVal.int .u8) p1_0.d_.column_ ++ [.int .i64 p1_0.d_.columns_, rowV rp1_0_1_2 p1_0.d_.next_.length, rowV rp1_0_1_3 p1_0.d_.ends_.length, rowV rp1_0_1_4 p1_0.d_.last_.length, .int .i32 p1_0.d_.first_, .int .i32 p1_0.d_.later_, .bool p1_0.d_.empty_])), .lst rp1_0_1_2 21 (lst (eI .i32) p1_0.d_.next_), .lst rp1_0_1_3 4 (lst eB p1_0.d_.ends_), .lst rp1_0_1_4 4 (lst eB p1_0.d_.last_), .lst rp1_0_3 5 (lst eY p1_0.byte_), .obj bp1_0_4 (.map 2 (encM (fun k : List UInt8 => .str k) (fun v : Int => .int .i32 v) p1_0.seen_)), .lst rp1_0_5 54 (lst (eL (eI .i64)) p1_0.todo_), .obj bp2 (.cells none 2 [.int .i64 p2])] F := by
 refine rq1 14 [.tmp 4] hc ?_
 clear hc
 unfold M_dfa_maker_split_1_sIPPPOOOOOP at hm
 refine bg 14 [(0, .int .u8 p0), (1, .ptr (some (bp1, 0))), (2, .ptr (some (bp2, 0)))] fun fr H => ?_
 refine aw_sr 1 ?_
 refine at_el 1 [] H (fun _ => id) fun fr H => ?_
 refine aw_sq ?_
 refine aw_dg 1 10 ?_
 refine at_ll 5 0 0 A H fun fr t H => ?_
 refine at_gl 2 [] 8 1 0 A H fun fr t H => ?_
 refine at_ll 9 9 0 A H fun fr t H => ?_
 obtain ⟨x1, hx, hm⟩ := bind_some hm
 obtain ⟨v1, h1, hr, rfl, A1⟩ := ok_auto_Auto_Apart (av := [.vptr [vs e_S_auto_state p1_0.a_.l_, .int .i64 p1_0.a_.first_], .int .u8 (IntKind.u8.wrap p2), .int .u8 p0]) hx (A.cut 0)
 replace A := A.g00 A1
 refine at_gc1 2 [] 12 hr H fun fr t H => ?_
 refine at_el 2 [(4, .bool (!x1))] H (fun _ => id) fun fr H => ?_
 refine aw_rt ?_
 obtain rfl := injA hm
 exact ⟨.inl rfl, _, rH H, rfl, A⟩
noncomputable def M_slices_IndexFunc_byte_byte_sOFPPPOOOe0OP_L0 (p0 : List UInt8) (p1_10_0 : S_dfa_maker) (p1_11 : Int) (s : Int) : Option ((Int) ⊕ ((Unit) ⊕ (Int))) :=
 match s with
 | x1 => iteB (decide (x1 < (p0.length : Int))) ((ixV p0 x1).bind fun x3 => (M_dfa_maker_split_1_sIPPPOOOOOP (x3.toNat : Int) (⟨p1_10_0.a_, p1_10_0.d_, p1_10_0.most_, p0, p1_10_0.seen_, p1_10_0.todo_⟩ : S_dfa_maker) p1_11).bind fun x4 => iteB x4 (some (.inr (.inr x1))) (some (.inl (IntKind.i64.wrap (x1 + (1 : Int)))))) (some (.inr (.inl ())))
noncomputable def M_slices_IndexFunc_byte_byte_sOFPPPOOOe0OP (p0 : List UInt8) (p1_10_0 : S_dfa_maker) (p1_11 : Int) : Option (Int) :=
 (loop (M_slices_IndexFunc_byte_byte_sOFPPPOOOe0OP_L0 p0 p1_10_0 p1_11) (0 : Int)).bind fun o1 => (match o1 with | .inl _ => some (-1 : Int) | .inr x2 => some x2)
theorem ok_slices_IndexFunc_byte_byte_sOFPPPOOOe0OP {p0 p1_10_0 p1_11 rp0 bp1_10 bp1_10_0 bp1_10_0_1 rp1_10_0_1_2 rp1_10_0_1_3 rp1_10_0_1_4 bp1_10_0_4 rp1_10_0_5 bp1_11 q0} (hm : M_slices_IndexFunc_byte_byte_sOFPPPOOOe0OP p0 p1_10_0 p1_11 = some q0) (A : HH g h [.lst rp0 5 (lst eY p0), .obj bp1_10 (.cells none 2 [.ptr (some (bp1_10_0, 0))]), .obj bp1_10_0 (.cells none 2 [.vptr [vs e_S_auto_state p1_10_0.a_.l_, .int .i64 p1_10_0.a_.first_], .ptr (some (bp1_10_0_1, 0)), .int .i64 p1_10_0.most_, rowV rp0 p0.length, .map (some bp1_10_0_4), rowV rp1_10_0_5 p1_10_0.todo_.length]), .obj bp1_10_0_1 (.cells none 2 (big 256 (AVal.int .u8) p1_10_0.d_.column_ ++ [.int .i64 p1_10_0.d_.columns_, rowV rp1_10_0_1_2 p1_10_0.d_.next_.length, rowV rp1_10_0_1_3 p1_10_0.d_.ends_.length, rowV rp1_10_0_1_4 p1_10_0.d_.last_.length, .int .i32 p1_10_0.d_.first_, .int .i32 p1_10_0.d_.later_, .bool p1_10_0.d_.empty_])), .lst rp1_10_0_1_2 21 (lst (eI .i32) p1_10_0.d_.next_), .lst rp1_10_0_1_3 4 (lst eB p1_10_0.d_.ends_), .lst rp1_10_0_1_4 4 (lst eB p1_10_0.d_.last_), .obj bp1_10_0_4 (.map 2 (encM (fun k : List UInt8 => .str k) (fun v : Int => .int .i32 v) p1_10_0.seen_)), .lst rp1_10_0_5 54 (lst (eL (eI .i64)) p1_10_0.todo_), .obj bp1_11 (.cells none 2 [.int .i64 p1_11])] F) (hc : canL (cfg.still 70) av = [rowV rp0 p0.length, .func (.func 71) [] [.ptr (some (bp1_10, 0)), .ptr (some (bp1_11, 0))]] := by kernel_rfl) : ∃ v h', Runs cfg g h 70 av v h' ∧ v = .int .i64 q0 ∧ HH g h' [.lst rp0 5 (lst eY p0), .obj bp1_10 (.cells none 2 [.ptr (some (bp1_10_0, 0))]), .obj bp1_10_0 (.cells none 2 [.vptr [vs e_S_auto_state p1_10_0.a_.l_, .int .i64 p1_10_0.a_.first_], .ptr (some (bp1_10_0_1, 0)), .int .i64 p1_10_0.most_, rowV rp0 p0.length, .map (some bp1_10_0_4), rowV rp1_10_0_5 p1_10_0.todo_.length]), .obj bp1_10_0_1 (.cells none 2 (big 256 (AVal.int .u8) p1_10_0.d_.column_ ++ [.int .i64 p1_10_0.d_.columns_, rowV rp1_10_0_1_2 p1_10_0.d_.next_.length, rowV rp1_10_0_1_3 p1_10_0.d_.ends_.length, rowV rp1_10_0_1_4 p1_10_0.d_.last_.length, .int .i32 p1_10_0.d_.first_, .int .i32 p1_10_0.d_.later_, .bool p1_10_0.d_.empty_])), .lst rp1_10_0_1_2 21 (lst (eI .i32) p1_10_0.d_.next_), .lst rp1_10_0_1_3 4 (lst eB p1_10_0.d_.ends_), .lst rp1_10_0_1_4 4 (lst eB p1_10_0.d_.last_), .obj bp1_10_0_4 (.map 2 (encM (fun k : List UInt8 => .str k) (fun v : Int => .int .i32 v) p1_10_0.seen_)), .lst rp1_10_0_5 54 (lst (eL (eI .i64)) p1_10_0.todo_), .obj bp1_11 (.cells none 2 [.int .i64 p1_11])] F := by
 refine rq1 19 [.tmp 4] hc ?_
 clear hc
 unfold M_slices_IndexFunc_byte_byte_sOFPPPOOOe0OP at hm
 refine bg 19 [(0, rowV rp0 p0.length), (1, .func (.func 71) [] [.ptr (some (bp1_10, 0)), .ptr (some (bp1_11, 0))])] fun fr H => ?_
 refine aw_sr 1 ?_
 refine at_el 1 [] H (fun _ => id) fun fr H => ?_
 refine aw_sq ?_
 refine aw_sr 3 ?_
 refine at_el 3 [(7, .int .i64 (p0.length : Int)), (8, .int .i64 0)] H (fun _ => id) fun fr H => ?_
 refine aw_block (id := 0) (by kernel_rfl) ?_
 obtain ⟨o1, ho, hm⟩ := bind_some hm
 refine aw_mono (Q' := fun e fr' h' => (e = .exit 0 ∧ .inl () = o1 ∧ Has fr' 19 [] ∧ HH g h' [.lst rp0 5 (lst eY p0), .obj bp1_10 (.cells none 2 [.ptr (some (bp1_10_0, 0))]), .obj bp1_10_0 (.cells none 2 [.vptr [vs e_S_auto_state p1_10_0.a_.l_, .int .i64 p1_10_0.a_.first_], .ptr (some (bp1_10_0_1, 0)), .int .i64 p1_10_0.most_, rowV rp0 p0.length, .map (some bp1_10_0_4), rowV rp1_10_0_5 p1_10_0.todo_.length]), .obj bp1_10_0_1 (.cells none 2 (big 256 (AVal.int .u8) p1_10_0.d_.column_ ++ [.int .i64 p1_10_0.d_.columns_, rowV rp1_10_0_1_2 p1_10_0.d_.next_.length, rowV rp1_10_0_1_3 p1_10_0.d_.ends_.length, rowV rp1_10_0_1_4 p1_10_0.d_.last_.length, .int .i32 p1_10_0.d_.first_, .int .i32 p1_10_0.d_.later_, .bool p1_10_0.d_.empty_])), .lst rp1_10_0_1_2 21 (lst (eI .i32) p1_10_0.d_.next_), .lst rp1_10_0_1_3 4 (lst eB p1_10_0.d_.ends_), .lst rp1_10_0_1_4 4 (lst eB p1_10_0.d_.last_), .obj bp1_10_0_4 (.map 2 (encM (fun k : List UInt8 => .str k) (fun v : Int => .int .i32 v) p1_10_0.seen_)), .lst rp1_10_0_5 54 (lst (eL (eI .i64)) p1_10_0.todo_), .obj bp1_11 (.cells none 2 [.int .i64 p1_11])] F) ∨ (∃ x2, e = .ret ∧ .inr x2 = o1 ∧ Has fr' 19 [(4, .int .i64 x2)] ∧ HH g h' [.lst rp0 5 (lst eY p0), .obj bp1_10 (.cells none 2 [.ptr (some (bp1_10_0, 0))]), .obj bp1_10_0 (.cells none 2 [.vptr [vs e_S_auto_state p1_10_0.a_.l_, .int .i64 p1_10_0.a_.first_], .ptr (some (bp1_10_0_1, 0)), .int .i64 p1_10_0.most_, rowV rp0 p0.length, .map (some bp1_10_0_4), rowV rp1_10_0_5 p1_10_0.todo_.length]), .obj bp1_10_0_1 (.cells none 2 (big 256 (AVal.int .u8) p1_10_0.d_.column_ ++ [.int .i64 p1_10_0.d_.columns_, rowV rp1_10_0_1_2 p1_10_0.d_.next_.length, rowV rp1_10_0_1_3 p1_10_0.d_.ends_.length, rowV rp1_10_0_1_4 p1_10_0.d_.last_.length, .int .i32 p1_10_0.d_.first_, .int .i32 p1_10_0.d_.later_, .bool p1_10_0.d_.empty_])), .lst rp1_10_0_1_2 21 (lst (eI .i32) p1_10_0.d_.next_), .lst rp1_10_0_1_3 4 (lst eB p1_10_0.d_.ends_), .lst rp1_10_0_1_4 4 (lst eB p1_10_0.d_.last_), .obj bp1_10_0_4 (.map 2 (encM (fun k : List UInt8 => .str k) (fun v : Int => .int .i32 v) p1_10_0.seen_)), .lst rp1_10_0_5 54 (lst (eL (eI .i64)) p1_10_0.todo_), .obj bp1_11 (.cells none 2 [.int .i64 p1_11])] F) ∨ False) ?_ ?_
 ·refine aw_loop (by kernel_rfl) (fun (s : Int) fr' h' => ∃ x1, x1 = s ∧ Has fr' 19 [(0, rowV rp0 p0.length), (1, .func (.func 71) [] [.ptr (some (bp1_10, 0)), .ptr (some (bp1_11, 0))]), (7, .int .i64 (p0.length : Int)), (8, .int .i64 x1)] ∧ HH g h' [.lst rp0 5 (lst eY p0), .obj bp1_10 (.cells none 2 [.ptr (some (bp1_10_0, 0))]), .obj bp1_10_0 (.cells none 2 [.vptr [vs e_S_auto_state p1_10_0.a_.l_, .int .i64 p1_10_0.a_.first_], .ptr (some (bp1_10_0_1, 0)), .int .i64 p1_10_0.most_, rowV rp0 p0.length, .map (some bp1_10_0_4), rowV rp1_10_0_5 p1_10_0.todo_.length]), .obj bp1_10_0_1 (.cells none 2 (big 256 (AVal.int .u8) p1_10_0.d_.column_ ++ [.int .i64 p1_10_0.d_.columns_, rowV rp1_10_0_1_2 p1_10_0.d_.next_.length, rowV rp1_10_0_1_3 p1_10_0.d_.ends_.length, rowV rp1_10_0_1_4 p1_10_0.d_.last_.length, .int .i32 p1_10_0.d_.first_, .int .i32 p1_10_0.d_.later_, .bool p1_10_0.d_.empty_])), .lst rp1_10_0_1_2 21 (lst (eI .i32) p1_10_0.d_.next_), .lst rp1_10_0_1_3 4 (lst eB p1_10_0.d_.ends_), .lst rp1_10_0_1_4 4 (lst eB p1_10_0.d_.last_), .obj bp1_10_0_4 (.map 2 (encM (fun k : List UInt8 => .str k) (fun v : Int => .int .i32 v) p1_10_0.seen_)), .lst rp1_10_0_5 54 (lst (eL (eI .i64)) p1_10_0.todo_), .obj bp1_11 (.cells none 2 [.int .i64 p1_11])] F) ho ⟨_, rfl, H.ls, A⟩ ?_
  clear ho hm H A
  intro s q fr h1 hI hm
  obtain ⟨x1, rfl, H, A⟩ := hI
  unfold M_slices_IndexFunc_byte_byte_sOFPPPOOOe0OP_L0 at hm
  refine aw_sr 1 ?_
  refine at_el 1 [(9, .bool (decide (x1 < (p0.length : Int))))] H (fun _ => id) fun fr H => ?_
  refine aw_sq ?_
  refine aw_if 9 H hm (fun hb hm H => ?_) fun hb hm H => ?_
  ·refine aw_kn id ?_
   refine aw_sq ?_
   refine aw_block (id := 1) (by kernel_rfl) ?_
   refine aw_sr 2 ?_
   refine at_es 2 [(5, .int .i64 x1)] 6 H (fun _ => id) fun fr H => ?_
   obtain ⟨x3, hx, hm⟩ := bind_some hm
   obtain ⟨i1, er1, _, hx, hq1⟩ := HH.ixO encY (by decide) A 0 (xs := p0) rfl hx
   refine at_g1 3 [(11, .func (.func 71) [] [.ptr (some (bp1_10, 0)), .ptr (some (bp1_11, 0))])] 14 (.ptr (some (i1, x1.toNat * 1))) h1 H (fun fr => .of (s_ixL (s := rowS rp0 p0.length) (by kernel_rfl) hx)) fun fr t H => ?_
   refine at_l1 15 _ _ H (fun fr => .of (s_ld (by kernel_rfl) (row_ld1 encY (HH.row A 0 rfl er1) hq1 (o := 0) rfl))) fun fr t H => ?_
   replace A : HH g h1 [_, _, _, _, _, _, _, _, _, _] F := ((((((((((A.front 9 rfl).front 9 rfl).front 9 rfl).front 3 rfl).front 9 rfl).front 9 rfl).front 9 rfl).front 9 rfl).front 9 rfl).front 9 rfl)
   obtain ⟨x4, hx, hm⟩ := bind_some hm
   obtain ⟨v1, h2, hr, rfl, A1⟩ := ok_dfa_maker_split_1_sIPPPOOOOOP (av := [.int .u8 (x3.toNat : Int), .ptr (some (bp1_10, 0)), .ptr (some (bp1_11, 0))]) hx (A.cut 10)
   replace A : HH g h2 [.obj bp1_10 (.cells none 2 [.ptr (some (bp1_10_0, 0))]), .obj bp1_10_0 (.cells none 2 [_, _, _, _, _, _]), .obj bp1_10_0_1 (.cells none 2 (big 256 (AVal.int .u8) p1_10_0.d_.column_ ++ [.int .i64 p1_10_0.d_.columns_, rowV rp1_10_0_1_2 p1_10_0.d_.next_.length, rowV rp1_10_0_1_3 p1_10_0.d_.ends_.length, rowV rp1_10_0_1_4 p1_10_0.d_.last_.length, .int .i32 p1_10_0.d_.first_, .int .i32 p1_10_0.d_.later_, .bool p1_10_0.d_.empty_])), .lst rp1_10_0_1_2 21 (lst (eI .i32) p1_10_0.d_.next_), .lst rp1_10_0_1_3 4 (lst eB p1_10_0.d_.ends_), .lst rp1_10_0_1_4 4 (lst eB p1_10_0.d_.last_), .lst rp0 5 (lst eY p0), .obj bp1_10_0_4 (.map 2 (encM (fun k : List UInt8 => .str k) (fun v : Int => .int .i32 v) p1_10_0.seen_)), .lst rp1_10_0_5 54 (lst (eL (eI .i64)) p1_10_0.todo_), .obj bp1_11 (.cells none 2 [.int .i64 p1_11])] F := A.glue0 (n := 10) A1
   refine at_lc1 16 hr H fun fr t H => ?_
   refine at_nl id ?_
   refine aw_if 16 H hm (fun hb hm H => ?_) fun hb hm H => ?_
   ·refine aw_sr 2 ?_
    refine at_el 2 [(4, .int .i64 x1)] H (fun _ => id) fun fr H => ?_
    refine aw_rt ?_
    replace A : HH g h2 [_, _, _, _, _, _, _, _, _, _] F := ((((((((((A.front 9 rfl).front 9 rfl).front 9 rfl).front 8 rfl).front 8 rfl).front 8 rfl).front 8 rfl).front 8 rfl).front 8 rfl).front 9 rfl)
    exact nr hm fun e => Or.inr (.inl ⟨_, rfl, e, H.ls, A⟩)
   refine aw_kr 2 id ?_
   refine at_se 2 [(0, rowV rp0 p0.length), (1, .func (.func 71) [] [.ptr (some (bp1_10, 0)), .ptr (some (bp1_11, 0))]), (7, .int .i64 (p0.length : Int)), (8, .int .i64 (IntKind.i64.wrap (x1 + (1 : Int))))] H fun fr H => ?_
   refine at_nil ?_
   replace A : HH g h2 [_, _, _, _, _, _, _, _, _, _] F := ((((((((((A.front 9 rfl).front 9 rfl).front 9 rfl).front 8 rfl).front 8 rfl).front 8 rfl).front 8 rfl).front 8 rfl).front 8 rfl).front 9 rfl)
   exact nx hm ⟨_, rfl, H.ls, A⟩
  refine aw_exit (i := 0) (by kernel_rfl) ?_
  exact nr hm fun e => .inl ⟨rfl, e, H.ls, A⟩
 clear ho
 clear A
 intro e fr h3 hQ
 rcases hQ with ⟨rfl, rfl, H, A⟩ | ⟨x2, rfl, rfl, H, A⟩ | hF
 ·show AW _ _ _ _ _ _ _
  refine aw_sr 1 ?_
  refine at_el 1 [(4, .int .i64 (-1))] H (fun _ => id) fun fr H => ?_
  refine aw_rt ?_
  obtain rfl := injA hm
  exact ⟨.inl rfl, _, rH H, rfl, A⟩
 ·obtain rfl := injA hm
  exact ⟨.inl rfl, _, rH H, rfl, A⟩
 exact hF.elim
noncomputable def M_dfa_maker_split_sPPOOOOO_L0 (p0 : S_dfa_maker) (s : (Nat → Int) × (List UInt8) × Int) : Option (((Nat → Int) × (List UInt8) × Int) ⊕ (((Nat → Int) × (List UInt8)))) :=
 match s with
 | (x1, x2, x3) => iteB (decide (x3 < (256 : Int))) ((M_slices_IndexFunc_byte_byte_sOFPPPOOOe0OP x2 (⟨p0.a_, (⟨x1, p0.d_.columns_, p0.d_.next_, p0.d_.ends_, p0.d_.last_, p0.d_.first_, p0.d_.later_, p0.d_.empty_⟩ : S_dfa_Dfa), p0.most_, x2, p0.seen_, p0.todo_⟩ : S_dfa_maker) x3).bind fun x6 => (iteB (decide (x6 < (0 : Int))) ((toY (IntKind.u8.wrap x3)).bind fun x9 => need (okN 1 (x2.length + ([x9] : List UInt8).length)) <| some ((x2 ++ ([x9] : List UInt8)), (x2.length : Int))) (some (x2, x6)) : Option (((List UInt8) × Int))).bind fun (x7, x8) => (ixB 256 x1 x3).bind fun x10 => some (.inl ((bset x1 x3.toNat (IntKind.u8.wrap x8)), x7, IntKind.i64.wrap (x3 + (1 : Int))))) (some (.inr (x1, x2)))
noncomputable def M_dfa_maker_split_sPPOOOOO (p0 : S_dfa_maker) : Option (S_dfa_Dfa × (List UInt8)) :=
 (loop (M_dfa_maker_split_sPPOOOOO_L0 p0) (p0.d_.column_, p0.byte_, (0 : Int))).bind fun (x4, x5) => some ((⟨x4, (x5.length : Int), p0.d_.next_, p0.d_.ends_, p0.d_.last_, p0.d_.first_, p0.d_.later_, p0.d_.empty_⟩ : S_dfa_Dfa), x5)
theorem ok_dfa_maker_split_sPPOOOOO {p0 bp0 bp0_1 rp0_1_2 rp0_1_3 rp0_1_4 rp0_3 bp0_4 rp0_5 u1 u5} (hm : M_dfa_maker_split_sPPOOOOO p0 = some (u1, u5)) (A : HH g h [.obj bp0 (.cells none 2 [.vptr [vs e_S_auto_state p0.a_.l_, .int .i64 p0.a_.first_], .ptr (some (bp0_1, 0)), .int .i64 p0.most_, rowV rp0_3 p0.byte_.length, .map (some bp0_4), rowV rp0_5 p0.todo_.length]), .obj bp0_1 (.cells none 2 (big 256 (AVal.int .u8) p0.d_.column_ ++ [.int .i64 p0.d_.columns_, rowV rp0_1_2 p0.d_.next_.length, rowV rp0_1_3 p0.d_.ends_.length, rowV rp0_1_4 p0.d_.last_.length, .int .i32 p0.d_.first_, .int .i32 p0.d_.later_, .bool p0.d_.empty_])), .lst rp0_1_2 21 (lst (eI .i32) p0.d_.next_), .lst rp0_1_3 4 (lst eB p0.d_.ends_), .lst rp0_1_4 4 (lst eB p0.d_.last_), .lst rp0_3 5 (lst eY p0.byte_), .obj bp0_4 (.map 2 (encM (fun k : List UInt8 => .str k) (fun v : Int => .int .i32 v) p0.seen_)), .lst rp0_5 54 (lst (eL (eI .i64)) p0.todo_)] F) (hc : canL (cfg.still 53) av = [.ptr (some (bp0, 0))] := by kernel_rfl) : ∃ v h', Runs cfg g h 53 av v h' ∧ ∃ (r'5 : Option Nat), v = .tuple [] ∧ HH g h' [.obj bp0 (.cells none 2 [.vptr [vs e_S_auto_state p0.a_.l_, .int .i64 p0.a_.first_], .ptr (some (bp0_1, 0)), .int .i64 p0.most_, rowV r'5 u5.length, .map (some bp0_4), rowV rp0_5 p0.todo_.length]), .obj bp0_1 (.cells none 2 (big 256 (AVal.int .u8) u1.column_ ++ [.int .i64 u1.columns_, rowV rp0_1_2 p0.d_.next_.length, rowV rp0_1_3 p0.d_.ends_.length, rowV rp0_1_4 p0.d_.last_.length, .int .i32 u1.first_, .int .i32 u1.later_, .bool u1.empty_])), .lst rp0_1_2 21 (lst (eI .i32) p0.d_.next_), .lst rp0_1_3 4 (lst eB p0.d_.ends_), .lst rp0_1_4 4 (lst eB p0.d_.last_), .lst r'5 5 (lst eY u5), .obj bp0_4 (.map 2 (encM (fun k : List UInt8 => .str k) (fun v : Int => .int .i32 v) p0.seen_)), .lst rp0_5 54 (lst (eL (eI .i64)) p0.todo_)] F := by
 refine rq1 53 [] hc ?_
 clear hc
 unfold M_dfa_maker_split_sPPOOOOO at hm
 refine bg 53 [(0, .ptr (some (bp0, 0)))] fun fr H => ?_
 refine aw_sr 1 ?_
 obtain ⟨h1, e1, A⟩ := A.pu (.cells none 2 [.ptr (some (bp0, 0))])
 refine at_ln 1 (.ptr (some (h.size, 0))) e1 H fun fr t H => ?_
 refine at_nl id ?_
 refine aw_sq ?_
 refine aw_sr 1 ?_
 refine at_el 1 [(4, .int .i64 0)] H (fun _ => id) fun fr H => ?_
 refine aw_block (id := 0) (by kernel_rfl) ?_
 obtain ⟨o1, ho, hm⟩ := bind_some hm
 refine aw_mono (Q' := fun e fr' h' => (∃ x4 x5, e = .exit 0 ∧ (x4, x5) = o1 ∧ ∃ r2, Has fr' 53 [(1, .ptr (some (h.size, 0)))] ∧ HH g h' [.obj h.size (.cells none 2 [.ptr (some (bp0, 0))]), .obj bp0 (.cells none 2 [.vptr [vs e_S_auto_state p0.a_.l_, .int .i64 p0.a_.first_], .ptr (some (bp0_1, 0)), .int .i64 p0.most_, rowV r2 x5.length, .map (some bp0_4), rowV rp0_5 p0.todo_.length]), .obj bp0_1 (.cells none 2 (big 256 (AVal.int .u8) x4 ++ [.int .i64 p0.d_.columns_, rowV rp0_1_2 p0.d_.next_.length, rowV rp0_1_3 p0.d_.ends_.length, rowV rp0_1_4 p0.d_.last_.length, .int .i32 p0.d_.first_, .int .i32 p0.d_.later_, .bool p0.d_.empty_])), .lst rp0_1_2 21 (lst (eI .i32) p0.d_.next_), .lst rp0_1_3 4 (lst eB p0.d_.ends_), .lst rp0_1_4 4 (lst eB p0.d_.last_), .lst r2 5 (lst eY x5), .obj bp0_4 (.map 2 (encM (fun k : List UInt8 => .str k) (fun v : Int => .int .i32 v) p0.seen_)), .lst rp0_5 54 (lst (eL (eI .i64)) p0.todo_)] F) ∨ False) ?_ ?_
 ·refine aw_loop (by kernel_rfl) (fun (s : (Nat → Int) × (List UInt8) × Int) fr' h' => ∃ x1 x2 x3, (x1, x2, x3) = s ∧ ∃ r1, Has fr' 53 [(1, .ptr (some (h.size, 0))), (4, .int .i64 x3)] ∧ HH g h' [.obj h.size (.cells none 2 [.ptr (some (bp0, 0))]), .obj bp0 (.cells none 2 [.vptr [vs e_S_auto_state p0.a_.l_, .int .i64 p0.a_.first_], .ptr (some (bp0_1, 0)), .int .i64 p0.most_, rowV r1 x2.length, .map (some bp0_4), rowV rp0_5 p0.todo_.length]), .obj bp0_1 (.cells none 2 (big 256 (AVal.int .u8) x1 ++ [.int .i64 p0.d_.columns_, rowV rp0_1_2 p0.d_.next_.length, rowV rp0_1_3 p0.d_.ends_.length, rowV rp0_1_4 p0.d_.last_.length, .int .i32 p0.d_.first_, .int .i32 p0.d_.later_, .bool p0.d_.empty_])), .lst rp0_1_2 21 (lst (eI .i32) p0.d_.next_), .lst rp0_1_3 4 (lst eB p0.d_.ends_), .lst rp0_1_4 4 (lst eB p0.d_.last_), .lst r1 5 (lst eY x2), .obj bp0_4 (.map 2 (encM (fun k : List UInt8 => .str k) (fun v : Int => .int .i32 v) p0.seen_)), .lst rp0_5 54 (lst (eL (eI .i64)) p0.todo_)] F) ho ⟨_, _, _, rfl, rp0_3, H.ls, A⟩ ?_
  clear ho hm H A
  intro s q fr h2 hI hm
  obtain ⟨x1, x2, x3, rfl, r1, H, A⟩ := hI
  unfold M_dfa_maker_split_sPPOOOOO_L0 at hm
  refine aw_sr 1 ?_
  refine at_el 1 [(5, .bool (decide (x3 < (256 : Int))))] H (fun _ => id) fun fr H => ?_
  refine aw_sq ?_
  refine aw_if 5 H hm (fun hb hm H => ?_) fun hb hm H => ?_
  ·refine aw_kn id ?_
   refine aw_sq ?_
   refine aw_block (id := 1) (by kernel_rfl) ?_
   refine aw_sr 3 ?_
   obtain ⟨h3, e2, A⟩ := A.pu (.cells none 2 [.int .i64 0])
   refine at_gn 1 [(6, .int .i64 x3)] 2 (.ptr (some (h2.size, 0))) e2 H fun fr t H => ?_
   obtain ⟨h4, hx, A⟩ := A.s0 0 [.int .i64 x3] [_]
   refine at_ls hx H fun fr t H => ?_
   refine at_ns 7 id ?_
   refine at_ll 7 1 0 A H fun fr t H => ?_
   refine at_gl 2 [] 10 2 3 A H fun fr t H => ?_
   replace A : HH g h4 [_, _, _, _, _, _, _, _, _, _] F := ((((((((((A.front 0 rfl).front 9 rfl).front 9 rfl).front 8 rfl).front 8 rfl).front 8 rfl).front 8 rfl).front 8 rfl).front 8 rfl).front 9 rfl)
   obtain ⟨x6, hx, hm⟩ := bind_some hm
   obtain ⟨v1, h5, hr, rfl, A1⟩ := ok_slices_IndexFunc_byte_byte_sOFPPPOOOe0OP (av := [rowV r1 x2.length, .func (.func 71) [] [.ptr (some (h.size, 0)), .ptr (some (h2.size, 0))]]) hx (A.cut 10)
   replace A : HH g h5 [.lst r1 5 (lst eY x2), .obj h.size (.cells none 2 [.ptr (some (bp0, 0))]), .obj bp0 (.cells none 2 [_, _, _, _, _, _]), .obj bp0_1 (.cells none 2 (big 256 (AVal.int .u8) x1 ++ [.int .i64 p0.d_.columns_, rowV rp0_1_2 p0.d_.next_.length, rowV rp0_1_3 p0.d_.ends_.length, rowV rp0_1_4 p0.d_.last_.length, .int .i32 p0.d_.first_, .int .i32 p0.d_.later_, .bool p0.d_.empty_])), .lst rp0_1_2 21 (lst (eI .i32) p0.d_.next_), .lst rp0_1_3 4 (lst eB p0.d_.ends_), .lst rp0_1_4 4 (lst eB p0.d_.last_), .obj bp0_4 (.map 2 (encM (fun k : List UInt8 => .str k) (fun v : Int => .int .i32 v) p0.seen_)), .lst rp0_5 54 (lst (eL (eI .i64)) p0.todo_), .obj h2.size (.cells none 2 [.int .i64 x3])] F := A.glue0 (n := 10) A1
   refine at_gc1 1 [] 12 hr H fun fr t H => ?_
   refine at_el 1 [(3, .int .i64 x6)] H (fun _ => id) fun fr H => ?_
   refine aw_sq ?_
   obtain ⟨o2, ho, hm⟩ := bind_some hm
   refine aw_mono (Q' := fun e fr' h' => (∃ x7 x8, e = .normal ∧ (x7, x8) = o2 ∧ ∃ r3, Has fr' 53 [(1, .ptr (some (h.size, 0))), (2, .ptr (some (h2.size, 0))), (3, .int .i64 x8), (4, .int .i64 x3)] ∧ HH g h' [.lst r3 5 (lst eY x7), .obj h.size (.cells none 2 [.ptr (some (bp0, 0))]), .obj bp0 (.cells none 2 [.vptr [vs e_S_auto_state p0.a_.l_, .int .i64 p0.a_.first_], .ptr (some (bp0_1, 0)), .int .i64 p0.most_, rowV r3 x7.length, .map (some bp0_4), rowV rp0_5 p0.todo_.length]), .obj bp0_1 (.cells none 2 (big 256 (AVal.int .u8) x1 ++ [.int .i64 p0.d_.columns_, rowV rp0_1_2 p0.d_.next_.length, rowV rp0_1_3 p0.d_.ends_.length, rowV rp0_1_4 p0.d_.last_.length, .int .i32 p0.d_.first_, .int .i32 p0.d_.later_, .bool p0.d_.empty_])), .lst rp0_1_2 21 (lst (eI .i32) p0.d_.next_), .lst rp0_1_3 4 (lst eB p0.d_.ends_), .lst rp0_1_4 4 (lst eB p0.d_.last_), .obj bp0_4 (.map 2 (encM (fun k : List UInt8 => .str k) (fun v : Int => .int .i32 v) p0.seen_)), .lst rp0_5 54 (lst (eL (eI .i64)) p0.todo_), .obj h2.size (.cells none 2 [.int .i64 x3])] F) ∨ False) ?_ ?_
   ·replace hm := ho
    clear ho
    refine aw_sr 2 ?_
    refine at_el 2 [(14, .bool (decide (x6 < (0 : Int))))] H (fun _ => id) fun fr H => ?_
    refine aw_if 14 H hm (fun hb hm H => ?_) fun hb hm H => ?_
    ·refine aw_sr 6 ?_
     refine at_ll 15 1 0 A H fun fr t H => ?_
     refine at_gl 2 [] 18 2 3 A H fun fr t H => ?_
     refine at_se 2 [(1, .ptr (some (h.size, 0))), (2, .ptr (some (h2.size, 0))), (3, .int .i64 (x2.length : Int)), (4, .int .i64 x3)] H fun fr H => ?_
     refine at_nl id ?_
     refine aw_dw 7 12 [(0, []), (1, []), (2, []), (3, []), (4, []), (5, []), (6, []), (7, []), (8, [0]), (9, []), (10, []), (11, [])] ?_
     refine at_t1 20 (.ptr (some (bp0, 0))) h5 [(0, h.size)] (g.prot) H (fun fr => .of (s_ld (by kernel_rfl) (A.l1 1 0))) (fun fr H => ?_)
     refine at_t1 21 (.ptr (some (bp0, 0))) h5 [(1, h.size), (0, h.size)] (g.prot) H (fun fr => .of (s_ld (by kernel_rfl) (A.l1 1 0))) (fun fr H => ?_)
     refine at_sl 2 [(23, .ptr (some (bp0, 3)))] H fun fr H => ?_
     refine at_t1 24 (rowV r1 x2.length) h5 [(4, bp0), (1, h.size), (0, h.size)] (g.prot) H (fun fr => .of (s_ld (by kernel_rfl) (A.l1 2 3))) (fun fr H => ?_)
     refine at_t1 25 (.int .i64 x3) h5 [(5, h2.size), (4, bp0), (1, h.size), (0, h.size)] (g.prot) H (fun fr => .of (s_ld (by kernel_rfl) (A.l1 9 0))) (fun fr H => ?_)
     refine at_sl 1 [(26, .int .u8 (IntKind.u8.wrap x3))] H fun fr H => ?_
     obtain ⟨x9, hx, hm⟩ := bind_some hm
     have hx := toY_eq hx
     rw [hx] at H
     obtain ⟨h6, e3, A⟩ := A.pL 5 [.int .u8 (x9.toNat : Int)]
     refine at_t1 27 (rowV (some h5.size) (([x9] : List UInt8).length)) h6 [(7, h5.size), (5, h2.size), (4, bp0), (1, h.size), (0, h.size)] (g.prot) H (fun fr => .of (s_n' (by kernel_rfl) (congrArg some e3.symm))) (fun fr H => ?_)
     replace A : HH g h6 [_, .lst (some h5.size) 5 ([.int .u8 (x9.toNat : Int)]), _, _, _, _, _, _, _, _, _] F := (A.front 1 rfl)
     have A1 := A.prot2 1 (pr := [h.size]) (.cons 1 rfl (by simp [Ck.ids]) .nil)
     obtain ⟨hb, hm⟩ := need_some hm
     obtain ⟨r4, h7, hx, A1⟩ := HH.appO encY (by decide) A1 0 (xs := x2) (ys := ([x9] : List UInt8)) rfl (row_first A 1 rfl (n := ([x9] : List UInt8).length) (z := 1) rfl (by decide)) rfl rfl hb
     replace A := A.p11 A1
     replace A : HH g h7 [_, _, _, _, _, _, _, _, _, _] F := (HH.dropF ((((((((((A.front 10 rfl).front 10 rfl).front 10 rfl).front 10 rfl).front 10 rfl).front 10 rfl).front 10 rfl).front 10 rfl).front 10 rfl).front 9 rfl) 10)
     refine at_t1 28 (rowV r4 ((x2 ++ ([x9] : List UInt8)).length)) h7 [(7, h5.size), (5, h2.size), (4, bp0), (1, h.size), (0, h.size)] (h.size :: g.prot) H (fun fr => .of (s_app (s := rowS r1 x2.length) (by kernel_rfl) hx)) (fun fr H => ?_)
     refine at_sl 2 [(30, .ptr (some (bp0, 3)))] H fun fr H => ?_
     obtain ⟨h8, hx, A1⟩ := A.st 2 rfl (o := 3) (new := [rowV r4 ((x2 ++ ([x9] : List UInt8)).length)]) (ds := [.vptr [vs e_S_auto_state p0.a_.l_, .int .i64 p0.a_.first_], .ptr (some (bp0_1, 0)), .int .i64 p0.most_, rowV r4 ((x2 ++ ([x9] : List UInt8)).length), .map (some bp0_4), rowV rp0_5 p0.todo_.length]) (Nat.le_of_ble_eq_true rfl) rfl rfl
     replace A : HH g h8 [_, _, .obj bp0 (.cells none 2 [_, _, _, rowV r4 ((x2 ++ ([x9] : List UInt8)).length), _, _]), _, _, _, _, _, _, _] F := A1
     refine at_t0 (.tuple []) h8 [(7, h5.size), (5, h2.size), (4, bp0), (1, h.size), (0, h.size)] (g.prot) H (fun fr => .of (s_st (by kernel_rfl) rfl hx)) (fun fr H => ?_)
     refine at_nil ?_
     exact .inl ⟨_, _, rfl, injA hm, _, H.ls, A⟩
    refine aw_sk ?_
    exact .inl ⟨_, _, rfl, injA hm, _, H.ls, A⟩
   clear ho
   clear A
   intro e fr h9 hQ
   rcases hQ with ⟨x7, x8, rfl, rfl, r3, H, A⟩ | hF
   ·show AW _ _ _ _ _ _ _
    refine aw_dg 8 11 ?_
    refine at_ll 31 1 0 A H fun fr t H => ?_
    refine at_gl 2 [] 34 2 1 A H fun fr t H => ?_
    refine at_ll 35 9 0 A H fun fr t H => ?_
    obtain ⟨x10, hq1, hm⟩ := bind_some hm
    refine at_g1 4 [(37, .int .u8 (IntKind.u8.wrap x8))] 40 (.ptr (some (bp0_1, 0 + x3.toNat * 1))) h9 H (fun fr => .of (s_ixA (by kernel_rfl) (ixA_big hq1 (bp0_1, 0) 1))) fun fr t H => ?_
    obtain ⟨h10, hx, A1⟩ := HH.stB A 3 (AVal.int .u8) (X := x1) [] ([.int .i64 p0.d_.columns_, rowV rp0_1_2 p0.d_.next_.length, rowV rp0_1_3 p0.d_.ends_.length, rowV rp0_1_4 p0.d_.last_.length, .int .i32 p0.d_.first_, .int .i32 p0.d_.later_, .bool p0.d_.empty_] : List AVal) (off := 0) rfl rfl (i := x3) (IntKind.u8.wrap x8) hq1 rfl
    replace A : HH g h10 [_, _, _, .obj bp0_1 (.cells none 2 (big 256 (AVal.int .u8) (bset x1 x3.toNat (IntKind.u8.wrap x8)) ++ [.int .i64 p0.d_.columns_, rowV rp0_1_2 p0.d_.next_.length, rowV rp0_1_3 p0.d_.ends_.length, rowV rp0_1_4 p0.d_.last_.length, .int .i32 p0.d_.first_, .int .i32 p0.d_.later_, .bool p0.d_.empty_])), _, _, _, _, _, _] F := A1
    refine at_ls hx H fun fr t H => ?_
    refine at_nr 2 id ?_
    refine at_se 2 [(1, .ptr (some (h.size, 0))), (4, .int .i64 (IntKind.i64.wrap (x3 + (1 : Int))))] H fun fr H => ?_
    refine at_nil ?_
    replace A := A.k9 1 2 3 4 5 6 0 7 8
    exact nx hm ⟨_, _, _, rfl, _, H.ls, A⟩
   exact hF.elim
  refine aw_exit (i := 0) (by kernel_rfl) ?_
  exact nr hm fun e => .inl ⟨_, _, rfl, e, _, H.ls, A⟩
 clear ho
 clear A
 intro e fr h11 hQ
 rcases hQ with ⟨x4, x5, rfl, rfl, r2, H, A⟩ | hF
 ·show AW _ _ _ _ _ _ _
  refine aw_dg 10 12 ?_
  refine at_ll 42 0 0 A H fun fr t H => ?_
  refine at_gl 2 [] 45 1 1 A H fun fr t H => ?_
  refine at_ll 46 0 0 A H fun fr t H => ?_
  refine at_gl 2 [] 49 1 3 A H fun fr t H => ?_
  obtain ⟨h12, hx, A1⟩ := A.st 2 rfl (o := 256) (new := [.int .i64 (x5.length : Int)]) (ds := (big 256 (AVal.int .u8) x4 ++ [.int .i64 (x5.length : Int), rowV rp0_1_2 p0.d_.next_.length, rowV rp0_1_3 p0.d_.ends_.length, rowV rp0_1_4 p0.d_.last_.length, .int .i32 p0.d_.first_, .int .i32 p0.d_.later_, .bool p0.d_.empty_])) (Nat.le_of_ble_eq_true (by kernel_rfl)) rfl (by kernel_rfl)
  replace A : HH g h12 [_, _, .obj bp0_1 (.cells none 2 (big 256 (AVal.int .u8) x4 ++ [.int .i64 (x5.length : Int), rowV rp0_1_2 p0.d_.next_.length, rowV rp0_1_3 p0.d_.ends_.length, rowV rp0_1_4 p0.d_.last_.length, .int .i32 p0.d_.first_, .int .i32 p0.d_.later_, .bool p0.d_.empty_])), _, _, _, _, _, _] F := A1
  refine at_gs 3 [] hx H fun fr t H => ?_
  refine at_nil ?_
  obtain ⟨rfl, rfl⟩ := injB hm
  refine ⟨.inr rfl, .tuple [], rH H, ?_⟩
  replace A := A.k8 1 2 3 4 5 6 7 8
  exact ⟨r2, rfl, A⟩
 exact hF.elim
noncomputable def M_dfa_sign_L0 (p0 : List Int) (s : (List UInt8) × Int) : Option (((List UInt8) × Int) ⊕ (((List UInt8)))) :=
 match s with
 | (x1, x2) => iteB (decide (x2 < (p0.length : Int))) ((ixV p0 x2).bind fun x4 => (toY (IntKind.u8.wrap x4)).bind fun x5 => (toY (IntKind.u8.wrap (bShr .i64 x4 (8 : Int)))).bind fun x6 => need (okN 1 (x1.length + ([x5, x6] : List UInt8).length)) <| some (.inl ((x1 ++ ([x5, x6] : List UInt8)), IntKind.i64.wrap (x2 + (1 : Int))))) (some (.inr x1))
noncomputable def M_dfa_sign (p0 : List Int) : Option ((List UInt8)) :=
 (loop (M_dfa_sign_L0 p0) (([] : List UInt8), (0 : Int))).bind fun x3 => some x3
theorem ok_dfa_sign {p0 q0} (hm : M_dfa_sign p0 = some q0) (A : HH g h [] F) (hc : canL (cfg.still 72) av = [vs (eI .i64) p0] := by kernel_rfl) : ∃ v h', Runs cfg g h 72 av v h' ∧ v = .str q0 ∧ HH g h' [] F := by
 refine rq1 23 [.tmp 2] hc ?_
 clear hc
 unfold M_dfa_sign at hm
 refine bg 23 [(0, vs (eI .i64) p0)] fun fr H => ?_
 refine aw_sr 1 ?_
 refine at_es 1 [] 1 H (fun _ => id) fun fr H => ?_
 refine at_el 1 [(3, .slice none 0)] H (fun _ => id) fun fr H => ?_
 refine aw_sq ?_
 refine aw_sr 3 ?_
 refine at_el 3 [(6, vs (eI .i64) p0), (7, .int .i64 (p0.length : Int)), (8, .int .i64 0)] H (fun _ => id) fun fr H => ?_
 refine aw_block (id := 0) (by kernel_rfl) ?_
 replace A : HH g h [.lst none 5 (lst eY ([] : List UInt8))] F := A.nilL 5
 obtain ⟨o1, ho, hm⟩ := bind_some hm
 refine aw_mono (Q' := fun e fr' h' => (∃ x3, e = .exit 0 ∧ x3 = o1 ∧ ∃ r2, Has fr' 23 [(3, rowV r2 x3.length)] ∧ HH g h' [.lst r2 5 (lst eY x3)] F) ∨ False) ?_ ?_
 ·refine aw_loop (by kernel_rfl) (fun (s : (List UInt8) × Int) fr' h' => ∃ x1 x2, (x1, x2) = s ∧ ∃ r1, Has fr' 23 [(3, rowV r1 x1.length), (6, vs (eI .i64) p0), (7, .int .i64 (p0.length : Int)), (8, .int .i64 x2)] ∧ HH g h' [.lst r1 5 (lst eY x1)] F) ho ⟨_, _, rfl, none, H.ls, A⟩ ?_
  clear ho hm H A
  intro s q fr h1 hI hm
  obtain ⟨x1, x2, rfl, r1, H, A⟩ := hI
  unfold M_dfa_sign_L0 at hm
  refine aw_sr 1 ?_
  refine at_el 1 [(9, .bool (decide (x2 < (p0.length : Int))))] H (fun _ => id) fun fr H => ?_
  refine aw_sq ?_
  refine aw_if 9 H hm (fun hb hm H => ?_) fun hb hm H => ?_
  ·refine aw_kn id ?_
   refine aw_sq ?_
   refine aw_block (id := 1) (by kernel_rfl) ?_
   refine aw_sr 3 ?_
   obtain ⟨x4, hx, hm⟩ := bind_some hm
   refine at_l1 10 (.vptr [.int .i64 x4]) h1 H (fun fr => .of (s_ixV (e := (eI .i64)) (x := x4) (encI .i64) (by decide) (by kernel_rfl) hx)) fun fr t H => ?_
   refine at_l1 11 (.int .i64 x4) h1 H (fun fr => .of (s_lv (by kernel_rfl))) fun fr t H => ?_
   refine at_er 1 [(5, .int .i64 x4)] 9 H (fun _ => id) fun fr H => ?_
   refine at_sl 6 [(12, rowV r1 x1.length), (14, .int .u8 (IntKind.u8.wrap x4)), (17, .int .u8 (IntKind.u8.wrap (bShr .i64 x4 (8 : Int))))] H fun fr H => ?_
   obtain ⟨x5, hx, hm⟩ := bind_some hm
   have hx := toY_eq hx
   rw [hx] at H
   obtain ⟨x6, hx, hm⟩ := bind_some hm
   have hx := toY_eq hx
   rw [hx] at H
   obtain ⟨h2, e1, A⟩ := A.pL 5 [.int .u8 (x5.toNat : Int), .int .u8 (x6.toNat : Int)]
   refine at_ln 18 (rowV (some h1.size) (([x5, x6] : List UInt8).length)) e1 H fun fr t H => ?_
   obtain ⟨hb, hm⟩ := need_some hm
   obtain ⟨r3, h3, hx, A1⟩ := HH.appO encY (by decide) A 1 (xs := x1) (ys := ([x5, x6] : List UInt8)) rfl (row_first A 0 rfl (n := ([x5, x6] : List UInt8).length) (z := 1) rfl (by decide)) rfl rfl hb
   replace A : HH g h3 [.lst (some h1.size) 5 ([.int .u8 (x5.toNat : Int), .int .u8 (x6.toNat : Int)]), .lst r3 5 (lst eY (x1 ++ ([x5, x6] : List UInt8)))] F := A1
   replace A := A.k1 1
   refine at_l1 19 _ _ H (fun fr => .of (s_app (s := rowS r1 x1.length) (by kernel_rfl) hx)) fun fr t H => ?_
   refine at_se 1 [(3, rowV r3 ((x1 ++ ([x5, x6] : List UInt8)).length)), (6, vs (eI .i64) p0), (7, .int .i64 (p0.length : Int)), (8, .int .i64 x2)] H fun fr H => ?_
   refine at_nr 2 id ?_
   refine at_se 2 [(3, rowV r3 ((x1 ++ ([x5, x6] : List UInt8)).length)), (6, vs (eI .i64) p0), (7, .int .i64 (p0.length : Int)), (8, .int .i64 (IntKind.i64.wrap (x2 + (1 : Int))))] H fun fr H => ?_
   refine at_nil ?_
   exact nx hm ⟨_, _, rfl, _, H.ls, A⟩
  refine aw_exit (i := 0) (by kernel_rfl) ?_
  exact nr hm fun e => .inl ⟨_, rfl, e, _, H.ls, A⟩
 clear ho
 clear A
 intro e fr h4 hQ
 rcases hQ with ⟨x3, rfl, rfl, r2, H, A⟩ | hF
 ·show AW _ _ _ _ _ _ _
  refine aw_sr 3 ?_
  refine at_sl 1 [(21, rowV r2 x3.length)] H fun fr H => ?_
  refine at_l1 22 (.str x3) h4 H (fun fr => .of (s_byO (xs := x3) A 0 rfl (by kernel_rfl))) fun fr t H => ?_
  refine at_el 1 [(2, .str x3)] H (fun _ => id) fun fr H => ?_
  refine aw_rt ?_
  obtain rfl := injA hm
  refine ⟨.inl rfl, .str x3, rH H, ?_⟩
  replace A := A.d0
  exact ⟨rfl, A⟩
 exact hF.elim
noncomputable def M_dfa_maker_state_sPPOOOOOV (p0 : S_dfa_maker) (p1 : List Int) : Option (Int × Bool × (List Bool) × (List Bool) × (List ((List UInt8) × Int)) × (List (List Int))) :=
 iteB ((p1.length : Int) == (0 : Int)) (some ((-1 : Int), true, p0.d_.ends_, p0.d_.last_, p0.seen_, p0.todo_)) ((M_dfa_sign p1).bind fun x1 => iteB ((mfind p0.seen_ x1).isSome) (some (((mfind p0.seen_ x1).getD (0 : Int)), true, p0.d_.ends_, p0.d_.last_, p0.seen_, p0.todo_)) (iteB ((p0.todo_.length : Int) == p0.most_) (some ((0 : Int), false, p0.d_.ends_, p0.d_.last_, p0.seen_, p0.todo_)) (need (okN 24 (p0.todo_.length + ([p1] : List (List Int)).length)) <| (M_auto_Auto_Stops p0.a_ p1 false).bind fun x2 => need (okN 1 (p0.d_.ends_.length + ([x2] : List Bool).length)) <| (M_auto_Auto_Stops p0.a_ p1 true).bind fun x3 => need (okN 1 (p0.d_.last_.length + ([x3] : List Bool).length)) <| some (IntKind.i32.wrap (p0.todo_.length : Int), true, (p0.d_.ends_ ++ ([x2] : List Bool)), (p0.d_.last_ ++ ([x3] : List Bool)), (mput p0.seen_ x1 (IntKind.i32.wrap (p0.todo_.length : Int))), (p0.todo_ ++ ([p1] : List (List Int)))))))
theorem ok_dfa_maker_state_sPPOOOOOV {p0 p1 bp0 bp0_1 rp0_1_2 rp0_1_3 rp0_1_4 rp0_3 bp0_4 rp0_5 q0 q1 u3 u4 u6 u7} (hm : M_dfa_maker_state_sPPOOOOOV p0 p1 = some (q0, q1, u3, u4, u6, u7)) (A : HH g h [.obj bp0 (.cells none 2 [.vptr [vs e_S_auto_state p0.a_.l_, .int .i64 p0.a_.first_], .ptr (some (bp0_1, 0)), .int .i64 p0.most_, rowV rp0_3 p0.byte_.length, .map (some bp0_4), rowV rp0_5 p0.todo_.length]), .obj bp0_1 (.cells none 2 (big 256 (AVal.int .u8) p0.d_.column_ ++ [.int .i64 p0.d_.columns_, rowV rp0_1_2 p0.d_.next_.length, rowV rp0_1_3 p0.d_.ends_.length, rowV rp0_1_4 p0.d_.last_.length, .int .i32 p0.d_.first_, .int .i32 p0.d_.later_, .bool p0.d_.empty_])), .lst rp0_1_2 21 (lst (eI .i32) p0.d_.next_), .lst rp0_1_3 4 (lst eB p0.d_.ends_), .lst rp0_1_4 4 (lst eB p0.d_.last_), .lst rp0_3 5 (lst eY p0.byte_), .obj bp0_4 (.map 2 (encM (fun k : List UInt8 => .str k) (fun v : Int => .int .i32 v) p0.seen_)), .lst rp0_5 54 (lst (eL (eI .i64)) p0.todo_)] F) (hc : canL (cfg.still 54) av = [.ptr (some (bp0, 0)), vs (eI .i64) p1] := by kernel_rfl) : ∃ v h', Runs cfg g h 54 av v h' ∧ ∃ (r'3 : Option Nat) (r'4 : Option Nat) (r'7 : Option Nat), v = .tuple [.int .i32 q0, .bool q1] ∧ HH g h' [.obj bp0 (.cells none 2 [.vptr [vs e_S_auto_state p0.a_.l_, .int .i64 p0.a_.first_], .ptr (some (bp0_1, 0)), .int .i64 p0.most_, rowV rp0_3 p0.byte_.length, .map (some bp0_4), rowV r'7 u7.length]), .obj bp0_1 (.cells none 2 (big 256 (AVal.int .u8) p0.d_.column_ ++ [.int .i64 p0.d_.columns_, rowV rp0_1_2 p0.d_.next_.length, rowV r'3 u3.length, rowV r'4 u4.length, .int .i32 p0.d_.first_, .int .i32 p0.d_.later_, .bool p0.d_.empty_])), .lst rp0_1_2 21 (lst (eI .i32) p0.d_.next_), .lst r'3 4 (lst eB u3), .lst r'4 4 (lst eB u4), .lst rp0_3 5 (lst eY p0.byte_), .obj bp0_4 (.map 2 (encM (fun k : List UInt8 => .str k) (fun v : Int => .int .i32 v) u6)), .lst r'7 54 (lst (eL (eI .i64)) u7)] F := by
 refine rq1 101 [.tmp 4, .tmp 5] hc ?_
 clear hc
 unfold M_dfa_maker_state_sPPOOOOOV at hm
 refine bg 101 [(0, .ptr (some (bp0, 0))), (1, vs (eI .i64) p1)] fun fr H => ?_
 refine aw_sr 2 ?_
 refine at_el 2 [] H (fun _ => id) fun fr H => ?_
 refine aw_sq ?_
 refine aw_sr 3 ?_
 refine at_el 3 [(12, .bool ((p1.length : Int) == (0 : Int)))] H (fun _ => id) fun fr H => ?_
 refine aw_if 12 H hm (fun hb hm H => ?_) fun hb hm H => ?_
 ·refine aw_sr 2 ?_
  refine at_el 2 [(4, .int .i32 (-1)), (5, .bool true)] H (fun _ => id) fun fr H => ?_
  refine aw_rt ?_
  obtain ⟨rfl, rfl, rfl, rfl, rfl, rfl⟩ := inj6 hm
  exact ⟨.inl rfl, _, rH H, _, _, _, rfl, A⟩
 refine aw_ks 3 id ?_
 obtain ⟨x1, hx, hm⟩ := bind_some hm
 obtain ⟨v1, h1, hr, rfl, A1⟩ := ok_dfa_sign (av := [vs (eI .i64) p1]) hx (A.cut 0)
 replace A := A.g00 A1
 refine at_gc1 1 [] 14 hr H fun fr t H => ?_
 refine at_el 1 [(6, .str x1)] H (fun _ => id) fun fr H => ?_
 refine aw_sq ?_
 refine aw_sr 11 ?_
 refine at_gl 3 [] 19 0 4 A H fun fr t H => ?_
 refine at_g1 1 [] 21 (.tuple [.int .i32 ((mfind p0.seen_ x1).getD (0 : Int)), .bool ((mfind p0.seen_ x1).isSome)]) h1 H (fun fr => .of (s_lkT (by kernel_rfl) (HH.mlook (kt := 9) (et := 21) (ek := fun k : List UInt8 => .str k) (ev := fun v : Int => .int .i32 v) (keyS (by kernel_rfl)) A 6 rfl (t := 119) (by kernel_rfl) (z := (0 : Int)) (by kernel_rfl) x1))) fun fr t H => ?_
 refine at_es 5 [(7, .int .i32 ((mfind p0.seen_ x1).getD (0 : Int))), (8, .bool ((mfind p0.seen_ x1).isSome))] 1 H (fun _ => id) fun fr H => ?_
 refine at_el 1 [(24, .bool ((mfind p0.seen_ x1).isSome))] H (fun _ => id) fun fr H => ?_
 refine aw_if 24 H hm (fun hb hm H => ?_) fun hb hm H => ?_
 ·refine aw_sr 3 ?_
  refine at_el 3 [(4, .int .i32 ((mfind p0.seen_ x1).getD (0 : Int))), (5, .bool true)] H (fun _ => id) fun fr H => ?_
  refine aw_rt ?_
  obtain ⟨rfl, rfl, rfl, rfl, rfl, rfl⟩ := inj6 hm
  exact ⟨.inl rfl, _, rH H, _, _, _, rfl, A⟩
 refine aw_kn id ?_
 refine aw_sq ?_
 refine aw_sq ?_
 refine aw_dg 7 10 ?_
 refine at_gl 3 [] 29 0 5 A H fun fr t H => ?_
 refine at_gl 4 [(30, .int .i64 (p0.todo_.length : Int))] 34 0 2 A H fun fr t H => ?_
 refine at_el 1 [(35, .bool ((p0.todo_.length : Int) == p0.most_))] H (fun _ => id) fun fr H => ?_
 refine aw_if 35 H hm (fun hb hm H => ?_) fun hb hm H => ?_
 ·refine aw_sr 2 ?_
  refine at_el 2 [(4, .int .i32 0), (5, .bool false)] H (fun _ => id) fun fr H => ?_
  refine aw_rt ?_
  obtain ⟨rfl, rfl, rfl, rfl, rfl, rfl⟩ := inj6 hm
  exact ⟨.inl rfl, _, rH H, _, _, _, rfl, A⟩
 refine aw_ks 7 id ?_
 refine at_gl 3 [] 39 0 5 A H fun fr t H => ?_
 refine at_es 3 [(9, .int .i32 (IntKind.i32.wrap (p0.todo_.length : Int)))] 7 H (fun _ => id) fun fr H => ?_
 refine at_gl 3 [] 45 0 4 A H fun fr t H => ?_
 refine at_sl 2 [(46, .str x1), (47, .int .i32 (IntKind.i32.wrap (p0.todo_.length : Int)))] H fun fr H => ?_
 obtain ⟨h2, hx, A1⟩ := HH.mset (kt := 9) (et := 21) (ek := fun k : List UInt8 => .str k) (ev := fun v : Int => .int .i32 v) (keyS (by kernel_rfl)) A 6 rfl (t := 119) (by kernel_rfl) x1 (IntKind.i32.wrap (p0.todo_.length : Int))
 replace A : HH g h2 [_, _, _, _, _, _, .obj bp0_4 (.map 2 (encM (fun k : List UInt8 => .str k) (fun v : Int => .int .i32 v) (mput p0.seen_ x1 (IntKind.i32.wrap (p0.todo_.length : Int))))), _] F := A1
 refine at_l0 (.tuple []) h2 H (fun fr => .of (s_ms (by kernel_rfl) hx)) fun fr t H => ?_
 refine at_ns 11 id ?_
 refine at_gl 4 [(48, .ptr (some (bp0, 0)))] 52 0 5 A H fun fr t H => ?_
 refine at_sl 1 [(53, vs (eI .i64) p1)] H fun fr H => ?_
 obtain ⟨h3, e1, A⟩ := A.pL 54 [vs (eI .i64) p1]
 refine at_ln 54 (rowV (some h2.size) (([p1] : List (List Int)).length)) e1 H fun fr t H => ?_
 obtain ⟨hb, hm⟩ := need_some hm
 obtain ⟨r1, h4, hx, A1⟩ := HH.appO (encL _) (by decide) A 8 (xs := p0.todo_) (ys := ([p1] : List (List Int))) rfl (row_first A 0 rfl (n := ([p1] : List (List Int)).length) (z := 1) rfl (by decide)) rfl rfl hb
 replace A : HH g h4 [.lst (some h2.size) 54 ([vs (eI .i64) p1]), _, _, _, _, _, _, _, .lst r1 54 (lst (eL (eI .i64)) (p0.todo_ ++ ([p1] : List (List Int))))] F := A1
 replace A := A.k8 1 2 3 4 5 6 7 8
 refine at_l1 55 _ _ H (fun fr => .of (s_app (s := rowS rp0_5 p0.todo_.length) (by kernel_rfl) hx)) fun fr t H => ?_
 obtain ⟨h5, hx, A1⟩ := A.st 0 rfl (o := 5) (new := [rowV r1 ((p0.todo_ ++ ([p1] : List (List Int))).length)]) (ds := [.vptr [vs e_S_auto_state p0.a_.l_, .int .i64 p0.a_.first_], .ptr (some (bp0_1, 0)), .int .i64 p0.most_, rowV rp0_3 p0.byte_.length, .map (some bp0_4), rowV r1 ((p0.todo_ ++ ([p1] : List (List Int))).length)]) (Nat.le_of_ble_eq_true rfl) rfl rfl
 replace A : HH g h5 [.obj bp0 (.cells none 2 [_, _, _, _, _, rowV r1 ((p0.todo_ ++ ([p1] : List (List Int))).length)]), _, _, _, _, _, _, _] F := A1
 refine at_gs 2 [] hx H fun fr t H => ?_
 refine at_nl id ?_
 refine aw_sq ?_
 refine aw_dw 12 22 [(0, []), (1, []), (2, []), (3, []), (4, []), (5, []), (6, []), (7, []), (8, []), (9, []), (10, []), (11, []), (12, []), (13, []), (14, []), (15, []), (16, [3, 7, 10]), (17, []), (18, [3]), (19, []), (20, []), (21, [])] ?_
 refine at_sl 3 [(60, .ptr (some (bp0, 1)))] H fun fr H => ?_
 refine at_t1 61 (.ptr (some (bp0_1, 0))) h5 [(3, bp0)] (g.prot) H (fun fr => .of (s_ld (by kernel_rfl) (A.l1 0 1))) (fun fr H => ?_)
 refine at_sl 3 [(64, .ptr (some (bp0, 1)))] H fun fr H => ?_
 refine at_t1 65 (.ptr (some (bp0_1, 0))) h5 [(7, bp0), (3, bp0)] (g.prot) H (fun fr => .of (s_ld (by kernel_rfl) (A.l1 0 1))) (fun fr H => ?_)
 refine at_sl 2 [(67, .ptr (some (bp0_1, 258)))] H fun fr H => ?_
 refine at_t1 68 (rowV rp0_1_3 p0.d_.ends_.length) h5 [(10, bp0_1), (7, bp0), (3, bp0)] (g.prot) H (fun fr => .of (s_ld (by kernel_rfl) (A.ld1 1 rfl (o := 258) (by kernel_rfl)))) (fun fr H => ?_)
 refine at_sl 3 [(71, .ptr (some (bp0, 0)))] H fun fr H => ?_
 refine at_t1 72 (.vptr [vs e_S_auto_state p0.a_.l_, .int .i64 p0.a_.first_]) h5 [(14, bp0), (10, bp0_1), (7, bp0), (3, bp0)] (g.prot) H (fun fr => .of (s_ld (by kernel_rfl) (A.l1 0 0))) (fun fr H => ?_)
 refine at_sl 1 [(73, vs (eI .i64) p1)] H fun fr H => ?_
 have A1 := A.prot2 0 (pr := [bp0_1, bp0, bp0]) (.cons 1 rfl (by simp [Ck.ids]) (.cons 0 rfl (by simp [Ck.ids]) (.cons 0 rfl (by simp [Ck.ids]) .nil)))
 obtain ⟨x2, hx, hm⟩ := bind_some hm
 obtain ⟨v1, h6, hr, rfl, A1⟩ := ok_auto_Auto_Stops (av := [.vptr [vs e_S_auto_state p0.a_.l_, .int .i64 p0.a_.first_], vs (eI .i64) p1, .bool false]) hx A1
 replace A := A.p00 A1
 refine at_t1 74 (.bool x2) h6 [(14, bp0), (10, bp0_1), (7, bp0), (3, bp0)] (bp0_1 :: bp0 :: bp0 :: g.prot) H (fun fr => Steps.call (by kernel_rfl) hr) (fun fr H => ?_)
 obtain ⟨h7, e2, A⟩ := A.pL 4 [.bool x2]
 refine at_t1 75 (rowV (some h6.size) (([x2] : List Bool).length)) h7 [(17, h6.size), (14, bp0), (10, bp0_1), (7, bp0), (3, bp0)] (g.prot) H (fun fr => .of (s_n' (by kernel_rfl) (congrArg some e2.symm))) (fun fr H => ?_)
 replace A : HH g h7 [_, .lst (some h6.size) 4 ([.bool x2]), _, _, _, _, _, _, _] F := (A.front 4 rfl)
 have A1 := A.prot2 1 (pr := [bp0]) (.cons 1 rfl (by simp [Ck.ids]) .nil)
 obtain ⟨hb, hm⟩ := need_some hm
 obtain ⟨r2, h8, hx, A1⟩ := HH.appO encB (by decide) A1 0 (xs := p0.d_.ends_) (ys := ([x2] : List Bool)) rfl (row_first A 1 rfl (n := ([x2] : List Bool).length) (z := 1) rfl (by decide)) rfl rfl hb
 replace A := A.p11 A1
 replace A := A.k8 0 2 3 4 5 6 7 8
 refine at_t1 76 (rowV r2 ((p0.d_.ends_ ++ ([x2] : List Bool)).length)) h8 [(17, h6.size), (14, bp0), (10, bp0_1), (7, bp0), (3, bp0)] (bp0 :: g.prot) H (fun fr => .of (s_app (s := rowS rp0_1_3 p0.d_.ends_.length) (by kernel_rfl) hx)) (fun fr H => ?_)
 refine at_sl 2 [(78, .ptr (some (bp0_1, 258)))] H fun fr H => ?_
 obtain ⟨h9, hx, A1⟩ := A.st 2 rfl (o := 258) (new := [rowV r2 ((p0.d_.ends_ ++ ([x2] : List Bool)).length)]) (ds := (big 256 (AVal.int .u8) p0.d_.column_ ++ ([.int .i64 p0.d_.columns_, rowV rp0_1_2 p0.d_.next_.length, rowV r2 ((p0.d_.ends_ ++ ([x2] : List Bool)).length), rowV rp0_1_4 p0.d_.last_.length, .int .i32 p0.d_.first_, .int .i32 p0.d_.later_, .bool p0.d_.empty_]))) (Nat.le_of_ble_eq_true (by kernel_rfl)) rfl (by kernel_rfl)
 replace A : HH g h9 [_, _, .obj bp0_1 (.cells none 2 (big 256 (AVal.int .u8) p0.d_.column_ ++ ([.int .i64 p0.d_.columns_, rowV rp0_1_2 p0.d_.next_.length, rowV r2 ((p0.d_.ends_ ++ ([x2] : List Bool)).length), rowV rp0_1_4 p0.d_.last_.length, .int .i32 p0.d_.first_, .int .i32 p0.d_.later_, .bool p0.d_.empty_]))), _, _, _, _, _] F := A1
 refine at_t0 (.tuple []) h9 [(17, h6.size), (14, bp0), (10, bp0_1), (7, bp0), (3, bp0)] (g.prot) H (fun fr => .of (s_st (by kernel_rfl) rfl hx)) (fun fr H => ?_)
 refine at_nl id ?_
 refine aw_sq ?_
 refine aw_dw 13 22 [(0, []), (1, []), (2, []), (3, []), (4, []), (5, []), (6, []), (7, []), (8, []), (9, []), (10, []), (11, []), (12, []), (13, []), (14, []), (15, []), (16, [3, 7, 10]), (17, []), (18, [3]), (19, []), (20, []), (21, [])] ?_
 refine at_sl 3 [(81, .ptr (some (bp0, 1)))] H fun fr H => ?_
 refine at_t1 82 (.ptr (some (bp0_1, 0))) h9 [(3, bp0)] (g.prot) H (fun fr => .of (s_ld (by kernel_rfl) (A.l1 1 1))) (fun fr H => ?_)
 refine at_sl 3 [(85, .ptr (some (bp0, 1)))] H fun fr H => ?_
 refine at_t1 86 (.ptr (some (bp0_1, 0))) h9 [(7, bp0), (3, bp0)] (g.prot) H (fun fr => .of (s_ld (by kernel_rfl) (A.l1 1 1))) (fun fr H => ?_)
 refine at_sl 2 [(88, .ptr (some (bp0_1, 259)))] H fun fr H => ?_
 refine at_t1 89 (rowV rp0_1_4 p0.d_.last_.length) h9 [(10, bp0_1), (7, bp0), (3, bp0)] (g.prot) H (fun fr => .of (s_ld (by kernel_rfl) (A.ld1 2 rfl (o := 259) (by kernel_rfl)))) (fun fr H => ?_)
 refine at_sl 3 [(92, .ptr (some (bp0, 0)))] H fun fr H => ?_
 refine at_t1 93 (.vptr [vs e_S_auto_state p0.a_.l_, .int .i64 p0.a_.first_]) h9 [(14, bp0), (10, bp0_1), (7, bp0), (3, bp0)] (g.prot) H (fun fr => .of (s_ld (by kernel_rfl) (A.l1 1 0))) (fun fr H => ?_)
 refine at_sl 1 [(94, vs (eI .i64) p1)] H fun fr H => ?_
 have A1 := A.prot2 0 (pr := [bp0_1, bp0, bp0]) (.cons 2 rfl (by simp [Ck.ids]) (.cons 1 rfl (by simp [Ck.ids]) (.cons 1 rfl (by simp [Ck.ids]) .nil)))
 obtain ⟨x3, hx, hm⟩ := bind_some hm
 obtain ⟨v1, h10, hr, rfl, A1⟩ := ok_auto_Auto_Stops (av := [.vptr [vs e_S_auto_state p0.a_.l_, .int .i64 p0.a_.first_], vs (eI .i64) p1, .bool true]) hx A1
 replace A := A.p00 A1
 refine at_t1 95 (.bool x3) h10 [(14, bp0), (10, bp0_1), (7, bp0), (3, bp0)] (bp0_1 :: bp0 :: bp0 :: g.prot) H (fun fr => Steps.call (by kernel_rfl) hr) (fun fr H => ?_)
 obtain ⟨h11, e3, A⟩ := A.pL 4 [.bool x3]
 refine at_t1 96 (rowV (some h10.size) (([x3] : List Bool).length)) h11 [(17, h10.size), (14, bp0), (10, bp0_1), (7, bp0), (3, bp0)] (g.prot) H (fun fr => .of (s_n' (by kernel_rfl) (congrArg some e3.symm))) (fun fr H => ?_)
 replace A : HH g h11 [_, .lst (some h10.size) 4 ([.bool x3]), _, _, _, _, _, _, _] F := (A.front 5 rfl)
 have A1 := A.prot2 1 (pr := [bp0]) (.cons 2 rfl (by simp [Ck.ids]) .nil)
 obtain ⟨hb, hm⟩ := need_some hm
 obtain ⟨r3, h12, hx, A1⟩ := HH.appO encB (by decide) A1 0 (xs := p0.d_.last_) (ys := ([x3] : List Bool)) rfl (row_first A 1 rfl (n := ([x3] : List Bool).length) (z := 1) rfl (by decide)) rfl rfl hb
 replace A := A.p11 A1
 replace A := A.k8 0 2 3 4 5 6 7 8
 refine at_t1 97 (rowV r3 ((p0.d_.last_ ++ ([x3] : List Bool)).length)) h12 [(17, h10.size), (14, bp0), (10, bp0_1), (7, bp0), (3, bp0)] (bp0 :: g.prot) H (fun fr => .of (s_app (s := rowS rp0_1_4 p0.d_.last_.length) (by kernel_rfl) hx)) (fun fr H => ?_)
 refine at_sl 2 [(99, .ptr (some (bp0_1, 259)))] H fun fr H => ?_
 obtain ⟨h13, hx, A1⟩ := A.st 3 rfl (o := 259) (new := [rowV r3 ((p0.d_.last_ ++ ([x3] : List Bool)).length)]) (ds := (big 256 (AVal.int .u8) p0.d_.column_ ++ ([.int .i64 p0.d_.columns_, rowV rp0_1_2 p0.d_.next_.length, rowV r2 ((p0.d_.ends_ ++ ([x2] : List Bool)).length), rowV r3 ((p0.d_.last_ ++ ([x3] : List Bool)).length), .int .i32 p0.d_.first_, .int .i32 p0.d_.later_, .bool p0.d_.empty_]))) (Nat.le_of_ble_eq_true (by kernel_rfl)) rfl (by kernel_rfl)
 replace A : HH g h13 [_, _, _, .obj bp0_1 (.cells none 2 (big 256 (AVal.int .u8) p0.d_.column_ ++ ([.int .i64 p0.d_.columns_, rowV rp0_1_2 p0.d_.next_.length, rowV r2 ((p0.d_.ends_ ++ ([x2] : List Bool)).length), rowV r3 ((p0.d_.last_ ++ ([x3] : List Bool)).length), .int .i32 p0.d_.first_, .int .i32 p0.d_.later_, .bool p0.d_.empty_]))), _, _, _, _] F := A1
 refine at_t0 (.tuple []) h13 [(17, h10.size), (14, bp0), (10, bp0_1), (7, bp0), (3, bp0)] (g.prot) H (fun fr => .of (s_st (by kernel_rfl) rfl hx)) (fun fr H => ?_)
 refine at_ns 3 id ?_
 refine at_el 3 [(4, .int .i32 (IntKind.i32.wrap (p0.todo_.length : Int))), (5, .bool true)] H (fun _ => id) fun fr H => ?_
 refine aw_rt ?_
 obtain ⟨rfl, rfl, rfl, rfl, rfl, rfl⟩ := inj6 hm
 refine ⟨.inl rfl, .tuple [.int .i32 (IntKind.i32.wrap (p0.todo_.length : Int)), .bool true], rH H, ?_⟩
 replace A := A.k8 2 3 4 1 0 5 6 7
 exact ⟨r2, r3, r1, rfl, A⟩
noncomputable def M_dfa_Dfa_Longest_L0 (p0 : S_dfa_Dfa) (p1 : List UInt8) (s : Int × Int × Bool × Int) : Option ((Int × Int × Bool × Int) ⊕ ((Int × Bool))) :=
 match s with
 | (x2, x3, x4, x5) => iteB (decide (x2 ≥ (0 : Int))) (iteB (x5 == (p1.length : Int)) ((ixV p0.last_ x2).bind fun x8 => iteB x8 (some (.inr (x5, true))) (some (.inr (x3, x4)))) (((ixV p0.ends_ x2).bind fun x11 => iteB x11 (some (x5, true)) (some (x3, x4)) : Option ((Int × Bool))).bind fun (x9, x10) => (ixS p1 x5).bind fun x12 => (ixB 256 p0.column_ x12).bind fun x13 => (ixV p0.next_ (IntKind.i64.wrap ((IntKind.i64.wrap ((IntKind.i64.wrap x2) * p0.columns_)) + (IntKind.i64.wrap x13)))).bind fun x14 => some (.inl (x14, x9, x10, IntKind.i64.wrap (x5 + (1 : Int)))))) (some (.inr (x3, x4)))
noncomputable def M_dfa_Dfa_Longest (p0 : S_dfa_Dfa) (p1 : List UInt8) (p2 : Int) : Option (Int × Bool) :=
 iteB ((decide (p2 < (0 : Int))) || (decide (p2 > (p1.length : Int)))) (some ((0 : Int), false)) (iteB (p1 == ([] : List UInt8)) (some ((0 : Int), p0.empty_)) ((iteB (p2 == (0 : Int)) (some p0.first_) (some p0.later_) : Option ((Int))).bind fun x1 => (loop (M_dfa_Dfa_Longest_L0 p0 p1) (x1, (0 : Int), false, p2)).bind fun (x6, x7) => some (x6, x7)))
theorem ok_dfa_Dfa_Longest {p0 p1 p2 q0 q1} (hm : M_dfa_Dfa_Longest p0 p1 p2 = some (q0, q1)) (A : HH g h [] F) (hc : canL (cfg.still 55) av = [.vptr (big 256 (AVal.int .u8) p0.column_ ++ [.int .i64 p0.columns_, vs (eI .i32) p0.next_, vs eB p0.ends_, vs eB p0.last_, .int .i32 p0.first_, .int .i32 p0.later_, .bool p0.empty_]), .str p1, .int .i64 p2] := by kernel_rfl) : ∃ v h', Runs cfg g h 55 av v h' ∧ v = .tuple [.int .i64 q0, .bool q1] ∧ HH g h' [] F := by
 refine rq1 86 [.tmp 6, .tmp 7] hc ?_
 clear hc
 unfold M_dfa_Dfa_Longest at hm
 refine bg 86 [(0, .vptr (big 256 (AVal.int .u8) p0.column_ ++ [.int .i64 p0.columns_, vs (eI .i32) p0.next_, vs eB p0.ends_, vs eB p0.last_, .int .i32 p0.first_, .int .i32 p0.later_, .bool p0.empty_])), (1, .str p1), (2, .int .i64 p2)] fun fr H => ?_
 refine aw_sr 2 ?_
 refine at_el 2 [] H (fun _ => id) fun fr H => ?_
 refine aw_sq ?_
 refine aw_sr 8 ?_
 refine at_sl 3 [(14, .bool (decide (p2 < (0 : Int))))] H fun fr H => ?_
 refine at_cl 5 (fun fr' h' => h = h' ∧ Has fr' 86 [(0, .vptr (big 256 (AVal.int .u8) p0.column_ ++ [.int .i64 p0.columns_, vs (eI .i32) p0.next_, vs eB p0.ends_, vs eB p0.last_, .int .i32 p0.first_, .int .i32 p0.later_, .bool p0.empty_])), (1, .str p1), (2, .int .i64 p2), (19, .bool ((decide (p2 < (0 : Int))) || (decide (p2 > (p1.length : Int)))))]) ?_ ?_
 ·cases hb : (decide (p2 < (0 : Int)) : Bool) with
  | true =>
   replace H := H.kn 14 hb
   refine at_sl 5 [(19, .bool true)] H fun fr H => ?_
   exact at_zb H hb
  | false =>
   replace H := H.kn 14 hb
   refine at_sl 5 [(19, .bool (decide (p2 > (p1.length : Int))))] H fun fr H => ?_
   exact at_zb H hb
 intro t fr h' hK
 obtain ⟨e, H⟩ := hK
 subst e
 refine at_nl id ?_
 refine aw_if 19 H hm (fun hb hm H => ?_) fun hb hm H => ?_
 ·refine aw_sr 2 ?_
  refine at_el 2 [(6, .int .i64 0), (7, .bool false)] H (fun _ => id) fun fr H => ?_
  refine aw_rt ?_
  obtain ⟨rfl, rfl⟩ := injB hm
  exact ⟨.inl rfl, _, rH H, rfl, A⟩
 refine aw_kn id ?_
 refine aw_sq ?_
 refine aw_sr 2 ?_
 refine at_el 2 [(21, .bool (p1 == ([] : List UInt8)))] H (fun _ => id) fun fr H => ?_
 refine aw_if 21 H hm (fun hb hm H => ?_) fun hb hm H => ?_
 ·refine aw_sq ?_
  refine aw_dg 4 6 ?_
  refine at_g1 3 [] 25 (.bool p0.empty_) h H (fun fr => .of (s_lv (by kernel_rfl))) fun fr t H => ?_
  refine at_el 2 [(6, .int .i64 0), (7, .bool p0.empty_)] H (fun _ => id) fun fr H => ?_
  refine aw_rt ?_
  obtain ⟨rfl, rfl⟩ := injB hm
  exact ⟨.inl rfl, _, rH H, rfl, A⟩
 refine aw_ks 5 id ?_
 refine at_g1 3 [] 29 (.int .i32 p0.later_) h H (fun fr => .of (s_lv (by kernel_rfl))) fun fr t H => ?_
 refine at_el 1 [(8, .int .i32 p0.later_)] H (fun _ => id) fun fr H => ?_
 refine aw_sq ?_
 obtain ⟨o1, ho, hm⟩ := bind_some hm
 refine aw_mono (Q' := fun e fr' h' => (∃ x1, e = .normal ∧ x1 = o1 ∧ Has fr' 86 [(0, .vptr (big 256 (AVal.int .u8) p0.column_ ++ [.int .i64 p0.columns_, vs (eI .i32) p0.next_, vs eB p0.ends_, vs eB p0.last_, .int .i32 p0.first_, .int .i32 p0.later_, .bool p0.empty_])), (1, .str p1), (2, .int .i64 p2), (8, .int .i32 x1)] ∧ HH g h' [] F) ∨ False) ?_ ?_
 ·replace hm := ho
  clear ho
  refine aw_sr 2 ?_
  refine at_el 2 [(31, .bool (p2 == (0 : Int)))] H (fun _ => id) fun fr H => ?_
  refine aw_if 31 H hm (fun hb hm H => ?_) fun hb hm H => ?_
  ·refine aw_rg 5 ?_
   refine at_g1 3 [] 35 (.int .i32 p0.first_) h H (fun fr => .of (s_lv (by kernel_rfl))) fun fr t H => ?_
   refine at_se 1 [(0, .vptr (big 256 (AVal.int .u8) p0.column_ ++ [.int .i64 p0.columns_, vs (eI .i32) p0.next_, vs eB p0.ends_, vs eB p0.last_, .int .i32 p0.first_, .int .i32 p0.later_, .bool p0.empty_])), (1, .str p1), (2, .int .i64 p2), (8, .int .i32 p0.first_)] H fun fr H => ?_
   refine at_nil ?_
   exact .inl ⟨_, rfl, injA hm, H.ls, A⟩
  refine aw_sk ?_
  exact .inl ⟨_, rfl, injA hm, H.ls, A⟩
 clear ho
 clear A
 intro e fr h1 hQ
 rcases hQ with ⟨x1, rfl, rfl, H, A⟩ | hF
 ·show AW _ _ _ _ _ _ _
  refine aw_sr 2 ?_
  refine at_el 2 [(9, .int .i64 0), (10, .bool false)] H (fun _ => id) fun fr H => ?_
  refine aw_sq ?_
  refine aw_sr 2 ?_
  refine at_el 2 [(11, .int .i64 p2)] H (fun _ => id) fun fr H => ?_
  refine aw_block (id := 0) (by kernel_rfl) ?_
  obtain ⟨o2, ho, hm⟩ := bind_some hm
  refine aw_mono (Q' := fun e fr' h' => (∃ x6 x7, e = .exit 0 ∧ (x6, x7) = o2 ∧ Has fr' 86 [(9, .int .i64 x6), (10, .bool x7)] ∧ HH g h' [] F) ∨ False) ?_ ?_
  ·refine aw_loop (by kernel_rfl) (fun (s : Int × Int × Bool × Int) fr' h' => ∃ x2 x3 x4 x5, (x2, x3, x4, x5) = s ∧ Has fr' 86 [(0, .vptr (big 256 (AVal.int .u8) p0.column_ ++ [.int .i64 p0.columns_, vs (eI .i32) p0.next_, vs eB p0.ends_, vs eB p0.last_, .int .i32 p0.first_, .int .i32 p0.later_, .bool p0.empty_])), (1, .str p1), (8, .int .i32 x2), (9, .int .i64 x3), (10, .bool x4), (11, .int .i64 x5)] ∧ HH g h' [] F) ho ⟨_, _, _, _, rfl, H.ls, A⟩ ?_
   clear ho hm H A
   intro s q fr h2 hI hm
   obtain ⟨x2, x3, x4, x5, rfl, H, A⟩ := hI
   unfold M_dfa_Dfa_Longest_L0 at hm
   refine aw_sq ?_
   refine aw_sr 2 ?_
   refine at_el 2 [(38, .bool (decide (x2 ≥ (0 : Int))))] H (fun _ => id) fun fr H => ?_
   refine aw_if 38 H hm (fun hb hm H => ?_) fun hb hm H => ?_
   ·refine aw_kn id ?_
    refine aw_sq ?_
    refine aw_block (id := 1) (by kernel_rfl) ?_
    refine aw_sq ?_
    refine aw_sr 4 ?_
    refine at_el 4 [(44, .bool (x5 == (p1.length : Int)))] H (fun _ => id) fun fr H => ?_
    refine aw_if 44 H hm (fun hb hm H => ?_) fun hb hm H => ?_
    ·refine aw_sq ?_
     refine aw_sr 7 ?_
     refine at_g1 3 [] 48 (vs eB p0.last_) h2 H (fun fr => .of (s_lv (by kernel_rfl))) fun fr t H => ?_
     obtain ⟨x8, hx, hm⟩ := bind_some hm
     refine at_g1 1 [] 50 (.vptr [.bool x8]) h2 H (fun fr => .of (s_ixV (e := eB) (x := x8) encB (by decide) (by kernel_rfl) hx)) fun fr t H => ?_
     refine at_l1 51 (.bool x8) h2 H (fun fr => .of (s_lv (by kernel_rfl))) fun fr t H => ?_
     refine at_nl id ?_
     refine aw_if 51 H hm (fun hb hm H => ?_) fun hb hm H => ?_
     ·refine aw_rg 3 ?_
      refine at_se 3 [(9, .int .i64 x5), (10, .bool true)] H fun fr H => ?_
      refine at_nl id ?_
      refine aw_exit (i := 0) (by kernel_rfl) ?_
      exact nr hm fun e => .inl ⟨_, _, rfl, e, H.ls, A⟩
     refine aw_kn id ?_
     refine aw_exit (i := 0) (by kernel_rfl) ?_
     exact nr hm fun e => .inl ⟨_, _, rfl, e, H.ls, A⟩
    refine aw_kn id ?_
    refine aw_sq ?_
    obtain ⟨o3, ho, hm⟩ := bind_some hm
    refine aw_mono (Q' := fun e fr' h' => (∃ x9 x10, e = .normal ∧ (x9, x10) = o3 ∧ Has fr' 86 [(0, .vptr (big 256 (AVal.int .u8) p0.column_ ++ [.int .i64 p0.columns_, vs (eI .i32) p0.next_, vs eB p0.ends_, vs eB p0.last_, .int .i32 p0.first_, .int .i32 p0.later_, .bool p0.empty_])), (1, .str p1), (8, .int .i32 x2), (9, .int .i64 x9), (10, .bool x10), (11, .int .i64 x5)] ∧ HH g h' [] F) ∨ False) ?_ ?_
    ·replace hm := ho
     clear ho
     refine aw_sr 7 ?_
     refine at_g1 3 [] 56 (vs eB p0.ends_) h2 H (fun fr => .of (s_lv (by kernel_rfl))) fun fr t H => ?_
     obtain ⟨x11, hx, hm⟩ := bind_some hm
     refine at_g1 1 [] 58 (.vptr [.bool x11]) h2 H (fun fr => .of (s_ixV (e := eB) (x := x11) encB (by decide) (by kernel_rfl) hx)) fun fr t H => ?_
     refine at_l1 59 (.bool x11) h2 H (fun fr => .of (s_lv (by kernel_rfl))) fun fr t H => ?_
     refine at_nl id ?_
     refine aw_if 59 H hm (fun hb hm H => ?_) fun hb hm H => ?_
     ·refine aw_rg 3 ?_
      refine at_se 3 [(0, .vptr (big 256 (AVal.int .u8) p0.column_ ++ [.int .i64 p0.columns_, vs (eI .i32) p0.next_, vs eB p0.ends_, vs eB p0.last_, .int .i32 p0.first_, .int .i32 p0.later_, .bool p0.empty_])), (1, .str p1), (8, .int .i32 x2), (9, .int .i64 x5), (10, .bool true), (11, .int .i64 x5)] H fun fr H => ?_
      refine at_nil ?_
      exact .inl ⟨_, _, rfl, injA hm, H.ls, A⟩
     refine aw_sk ?_
     exact .inl ⟨_, _, rfl, injA hm, H.ls, A⟩
    clear ho
    clear A
    intro e fr h3 hQ
    rcases hQ with ⟨x9, x10, rfl, rfl, H, A⟩ | hF
    ·show AW _ _ _ _ _ _ _
     refine aw_dg 17 24 ?_
     refine at_g1 3 [] 64 (vs (eI .i32) p0.next_) h3 H (fun fr => .of (s_lv (by kernel_rfl))) fun fr t H => ?_
     refine at_g1 5 [(66, .int .i64 (IntKind.i64.wrap x2))] 70 (.int .i64 p0.columns_) h3 H (fun fr => .of (s_lv (by kernel_rfl))) fun fr t H => ?_
     obtain ⟨x12, hx, hm⟩ := bind_some hm
     refine at_g1 4 [(71, .int .i64 (IntKind.i64.wrap ((IntKind.i64.wrap x2) * p0.columns_))), (72, .vptr (big 256 (AVal.int .u8) p0.column_ ++ [.int .i64 p0.columns_, vs (eI .i32) p0.next_, vs eB p0.ends_, vs eB p0.last_, .int .i32 p0.first_, .int .i32 p0.later_, .bool p0.empty_]))] 75 (.int .u8 x12) h3 H (fun fr => .of (s_ixS (by kernel_rfl) hx)) fun fr t H => ?_
     obtain ⟨x13, hq1, hm⟩ := bind_some hm
     obtain ⟨tl1, hd1⟩ := big_drop (AVal.int .u8) [.int .i64 p0.columns_, vs (eI .i32) p0.next_, vs eB p0.ends_, vs eB p0.last_, .int .i32 p0.first_, .int .i32 p0.later_, .bool p0.empty_] hq1
     refine at_g1 2 [] 78 (.vptr ([.int .u8 x13] ++ tl1)) h3 H (fun fr => .of (s_ixBg (X := p0.column_) (by kernel_rfl) hq1 hd1)) fun fr t H => ?_
     refine at_l1 79 (.int .u8 x13) h3 H (fun fr => .of (s_lv (by kernel_rfl))) fun fr t H => ?_
     obtain ⟨x14, hx, hm⟩ := bind_some hm
     refine at_g1 2 [] 82 (.vptr [.int .i32 x14]) h3 H (fun fr => .of (s_ixV (e := (eI .i32)) (x := x14) (encI .i32) (by decide) (by kernel_rfl) hx)) fun fr t H => ?_
     refine at_l1 83 (.int .i32 x14) h3 H (fun fr => .of (s_lv (by kernel_rfl))) fun fr t H => ?_
     refine at_se 1 [(0, .vptr (big 256 (AVal.int .u8) p0.column_ ++ [.int .i64 p0.columns_, vs (eI .i32) p0.next_, vs eB p0.ends_, vs eB p0.last_, .int .i32 p0.first_, .int .i32 p0.later_, .bool p0.empty_])), (1, .str p1), (8, .int .i32 x14), (9, .int .i64 x9), (10, .bool x10), (11, .int .i64 x5)] H fun fr H => ?_
     refine at_nr 3 id ?_
     refine at_se 3 [(0, .vptr (big 256 (AVal.int .u8) p0.column_ ++ [.int .i64 p0.columns_, vs (eI .i32) p0.next_, vs eB p0.ends_, vs eB p0.last_, .int .i32 p0.first_, .int .i32 p0.later_, .bool p0.empty_])), (1, .str p1), (8, .int .i32 x14), (9, .int .i64 x9), (10, .bool x10), (11, .int .i64 (IntKind.i64.wrap (x5 + (1 : Int))))] H fun fr H => ?_
     refine at_nil ?_
     exact nx hm ⟨_, _, _, _, rfl, H.ls, A⟩
    exact hF.elim
   refine aw_exit (i := 0) (by kernel_rfl) ?_
   exact nr hm fun e => .inl ⟨_, _, rfl, e, H.ls, A⟩
  clear ho
  clear A
  intro e fr h4 hQ
  rcases hQ with ⟨x6, x7, rfl, rfl, H, A⟩ | hF
  ·show AW _ _ _ _ _ _ _
   refine aw_sr 4 ?_
   refine at_el 4 [(6, .int .i64 x6), (7, .bool x7)] H (fun _ => id) fun fr H => ?_
   refine aw_rt ?_
   obtain ⟨rfl, rfl⟩ := injB hm
   exact ⟨.inl rfl, _, rH H, rfl, A⟩
  exact hF.elim
 exact hF.elim
noncomputable def M_dfa_Dfa_Find_L0 (p0 : S_dfa_Dfa) (p1 : List UInt8) (s : Int) : Option ((Int) ⊕ ((Unit) ⊕ (Int × Int × Bool))) :=
 match s with
 | x1 => iteB (decide (x1 ≤ (p1.length : Int))) ((M_dfa_Dfa_Longest p0 p1 x1).bind fun (x5, x6) => iteB x6 (some (.inr (.inr (x1, x5, true)))) (some (.inl (IntKind.i64.wrap (x1 + (1 : Int)))))) (some (.inr (.inl ())))
noncomputable def M_dfa_Dfa_Find (p0 : S_dfa_Dfa) (p1 : List UInt8) (p2 : Int) : Option (Int × Int × Bool) :=
 (loop (M_dfa_Dfa_Find_L0 p0 p1) (mx p2 (0 : Int))).bind fun o1 => (match o1 with | .inl _ => some ((0 : Int), (0 : Int), false) | .inr (x2, x3, x4) => some (x2, x3, x4))
theorem ok_dfa_Dfa_Find {p0 p1 p2 q0 q1 q2} (hm : M_dfa_Dfa_Find p0 p1 p2 = some (q0, q1, q2)) (A : HH g h [] F) (hc : canL (cfg.still 34) av = [.vptr (big 256 (AVal.int .u8) p0.column_ ++ [.int .i64 p0.columns_, vs (eI .i32) p0.next_, vs eB p0.ends_, vs eB p0.last_, .int .i32 p0.first_, .int .i32 p0.later_, .bool p0.empty_]), .str p1, .int .i64 p2] := by kernel_rfl) : ∃ v h', Runs cfg g h 34 av v h' ∧ v = .tuple [.int .i64 q0, .int .i64 q1, .bool q2] ∧ HH g h' [] F := by
 refine rq1 27 [.tmp 6, .tmp 7, .tmp 8] hc ?_
 clear hc
 unfold M_dfa_Dfa_Find at hm
 refine bg 27 [(0, .vptr (big 256 (AVal.int .u8) p0.column_ ++ [.int .i64 p0.columns_, vs (eI .i32) p0.next_, vs eB p0.ends_, vs eB p0.last_, .int .i32 p0.first_, .int .i32 p0.later_, .bool p0.empty_])), (1, .str p1), (2, .int .i64 p2)] fun fr H => ?_
 refine aw_sr 3 ?_
 refine at_el 3 [] H (fun _ => id) fun fr H => ?_
 refine aw_sq ?_
 refine aw_sr 3 ?_
 refine at_el 3 [(6, .int .i64 (mx p2 (0 : Int)))] H (fun _ => id) fun fr H => ?_
 refine aw_block (id := 0) (by kernel_rfl) ?_
 obtain ⟨o1, ho, hm⟩ := bind_some hm
 refine aw_mono (Q' := fun e fr' h' => (e = .exit 0 ∧ .inl () = o1 ∧ Has fr' 27 [] ∧ HH g h' [] F) ∨ (∃ x2 x3 x4, e = .ret ∧ .inr (x2, x3, x4) = o1 ∧ Has fr' 27 [(6, .int .i64 x2), (7, .int .i64 x3), (8, .bool x4)] ∧ HH g h' [] F) ∨ False) ?_ ?_
 ·refine aw_loop (by kernel_rfl) (fun (s : Int) fr' h' => ∃ x1, x1 = s ∧ Has fr' 27 [(0, .vptr (big 256 (AVal.int .u8) p0.column_ ++ [.int .i64 p0.columns_, vs (eI .i32) p0.next_, vs eB p0.ends_, vs eB p0.last_, .int .i32 p0.first_, .int .i32 p0.later_, .bool p0.empty_])), (1, .str p1), (6, .int .i64 x1)] ∧ HH g h' [] F) ho ⟨_, rfl, H.ls, A⟩ ?_
  clear ho hm H A
  intro s q fr h1 hI hm
  obtain ⟨x1, rfl, H, A⟩ := hI
  unfold M_dfa_Dfa_Find_L0 at hm
  refine aw_sq ?_
  refine aw_sr 4 ?_
  refine at_el 4 [(14, .bool (decide (x1 ≤ (p1.length : Int))))] H (fun _ => id) fun fr H => ?_
  refine aw_if 14 H hm (fun hb hm H => ?_) fun hb hm H => ?_
  ·refine aw_kn id ?_
   refine aw_sq ?_
   refine aw_block (id := 1) (by kernel_rfl) ?_
   refine aw_sr 9 ?_
   obtain ⟨⟨x5, x6⟩, hx, hm⟩ := bind_some hm
   obtain ⟨v1, h2, hr, rfl, A1⟩ := ok_dfa_Dfa_Longest (av := [.vptr (big 256 (AVal.int .u8) p0.column_ ++ [.int .i64 p0.columns_, vs (eI .i32) p0.next_, vs eB p0.ends_, vs eB p0.last_, .int .i32 p0.first_, .int .i32 p0.later_, .bool p0.empty_]), .str p1, .int .i64 x1]) hx (A.cut 0)
   replace A := A.g00 A1
   refine at_gc1 3 [] 21 hr H fun fr t H => ?_
   refine at_es 5 [(7, .int .i64 x5), (8, .bool x6)] 1 H (fun _ => id) fun fr H => ?_
   refine at_el 1 [(24, .bool x6)] H (fun _ => id) fun fr H => ?_
   refine aw_if 24 H hm (fun hb hm H => ?_) fun hb hm H => ?_
   ·refine aw_sr 5 ?_
    refine at_se 5 [(6, .int .i64 x1), (7, .int .i64 x5), (8, .bool true)] H fun fr H => ?_
    refine at_nl id ?_
    refine aw_rt ?_
    exact nr hm fun e => Or.inr (.inl ⟨_, _, _, rfl, e, H.ls, A⟩)
   refine aw_kr 3 id ?_
   refine at_se 3 [(0, .vptr (big 256 (AVal.int .u8) p0.column_ ++ [.int .i64 p0.columns_, vs (eI .i32) p0.next_, vs eB p0.ends_, vs eB p0.last_, .int .i32 p0.first_, .int .i32 p0.later_, .bool p0.empty_])), (1, .str p1), (6, .int .i64 (IntKind.i64.wrap (x1 + (1 : Int))))] H fun fr H => ?_
   refine at_nil ?_
   exact nx hm ⟨_, rfl, H.ls, A⟩
  refine aw_exit (i := 0) (by kernel_rfl) ?_
  exact nr hm fun e => .inl ⟨rfl, e, H.ls, A⟩
 clear ho
 clear A
 intro e fr h3 hQ
 rcases hQ with ⟨rfl, rfl, H, A⟩ | ⟨x2, x3, x4, rfl, rfl, H, A⟩ | hF
 ·show AW _ _ _ _ _ _ _
  refine aw_sr 3 ?_
  refine at_el 3 [(6, .int .i64 0), (7, .int .i64 0), (8, .bool false)] H (fun _ => id) fun fr H => ?_
  refine aw_rt ?_
  obtain ⟨rfl, rfl, rfl⟩ := injC hm
  exact ⟨.inl rfl, _, rH H, rfl, A⟩
 ·obtain ⟨rfl, rfl, rfl⟩ := injC hm
  exact ⟨.inl rfl, _, rH H, rfl, A⟩
 exact hF.elim
noncomputable def M_boulterref20_Weight_L0 (p0 : S_boulterref18_Tree) (p1 : Int) (s : (List Int) × Int) : Option (((List Int) × Int) ⊕ (((List Int)))) :=
 match s with
 | (x1, x2) => iteB (decide (x2 ≤ p1)) ((ixV p0.L x2).bind fun x4 => (iteB ((x4.Kind == (2 : Int)) || (x4.Kind == (3 : Int))) ((ixV x1 x4.A).bind fun x6 => (ixV x1 x4.B).bind fun x7 => iteB (x4.Kind == (3 : Int)) (some (IntKind.i64.wrap ((IntKind.i64.wrap (x6 + x7)) + (1 : Int)))) (some (IntKind.i64.wrap (x6 + x7)))) (some (1 : Int)) : Option ((Int))).bind fun x5 => (iteB (x4.Kind == (4 : Int)) ((ixV x1 x4.A).bind fun x9 => iteB (decide (x4.Max ≥ (0 : Int))) ((ixV x1 x4.A).bind fun x10 => some (IntKind.i64.wrap ((IntKind.i64.wrap ((IntKind.i64.wrap (x10 + (1 : Int))) * x4.Max)) + (1 : Int)))) (some (IntKind.i64.wrap ((IntKind.i64.wrap (x9 + (1 : Int))) * (IntKind.i64.wrap (x4.Min + (1 : Int))))))) (some x5) : Option ((Int))).bind fun x8 => (iteB (x4.Kind == (5 : Int)) ((ixV x1 x4.A).bind fun x12 => some x12) (some x8) : Option ((Int))).bind fun x11 => need (okN 8 (x1.length + ([mn x11 (1048576 : Int)] : List Int).length)) <| some (.inl ((x1 ++ ([mn x11 (1048576 : Int)] : List Int)), IntKind.i64.wrap (x2 + (1 : Int))))) (some (.inr x1))
noncomputable def M_boulterref20_Weight (p0 : S_boulterref18_Tree) (p1 : Int) : Option (Int) :=
 (loop (M_boulterref20_Weight_L0 p0 p1) (([] : List Int), (0 : Int))).bind fun x3 => (ixV x3 p1).bind fun x13 => some x13
theorem ok_boulterref20_Weight {p0 p1 q0} (hm : M_boulterref20_Weight p0 p1 = some q0) (A : HH g h [] F) (hc : canL (cfg.still 22) av = [.agg [vs e_S_boulterref18_Node p0.L, .int .i64 p0.Root], .int .i64 p1] := by kernel_rfl) : ∃ v h', Runs cfg g h 22 av v h' ∧ v = .int .i64 q0 ∧ HH g h' [] F := by
 refine rq1 87 [.tmp 4] hc ?_
 clear hc
 unfold M_boulterref20_Weight at hm
 refine bg 87 [(0, .agg [vs e_S_boulterref18_Node p0.L, .int .i64 p0.Root]), (1, .int .i64 p1)] fun fr H => ?_
 refine aw_sr 2 ?_
 obtain ⟨h1, e1, A⟩ := A.pu (.cells none 2 [vs e_S_boulterref18_Node p0.L, .int .i64 p0.Root])
 refine at_ln 2 (.ptr (some (h.size, 0))) e1 H fun fr t H => ?_
 refine at_es 1 [] 2 H (fun _ => id) fun fr H => ?_
 obtain ⟨h2, e2, A⟩ := A.pL 3 []
 refine at_ln 9 (rowV (some h1.size) (([] : List Int).length)) e2 H fun fr t H => ?_
 refine at_el 1 [(5, rowV (some h1.size) (([] : List Int).length))] H (fun _ => id) fun fr H => ?_
 refine aw_sq ?_
 refine aw_sr 1 ?_
 refine at_el 1 [(6, .int .i64 0)] H (fun _ => id) fun fr H => ?_
 refine aw_block (id := 0) (by kernel_rfl) ?_
 replace A : HH g h2 [.lst (some h1.size) 3 (lst (eI .i64) ([] : List Int)), .obj h.size (.cells none 2 [vs e_S_boulterref18_Node p0.L, .int .i64 p0.Root])] F := A
 obtain ⟨o1, ho, hm⟩ := bind_some hm
 refine aw_mono (Q' := fun e fr' h' => (∃ x3, e = .exit 0 ∧ x3 = o1 ∧ ∃ r2, Has fr' 87 [(1, .int .i64 p1), (5, rowV r2 x3.length)] ∧ HH g h' [.lst r2 3 (lst (eI .i64) x3), .obj h.size (.cells none 2 [vs e_S_boulterref18_Node p0.L, .int .i64 p0.Root])] F) ∨ False) ?_ ?_
 ·refine aw_loop (by kernel_rfl) (fun (s : (List Int) × Int) fr' h' => ∃ x1 x2, (x1, x2) = s ∧ ∃ r1, Has fr' 87 [(1, .int .i64 p1), (2, .ptr (some (h.size, 0))), (5, rowV r1 x1.length), (6, .int .i64 x2)] ∧ HH g h' [.lst r1 3 (lst (eI .i64) x1), .obj h.size (.cells none 2 [vs e_S_boulterref18_Node p0.L, .int .i64 p0.Root])] F) ho ⟨_, _, rfl, some h1.size, H.ls, A⟩ ?_
  clear ho hm H A
  intro s q fr h3 hI hm
  obtain ⟨x1, x2, rfl, r1, H, A⟩ := hI
  unfold M_boulterref20_Weight_L0 at hm
  refine aw_sq ?_
  refine aw_sr 3 ?_
  refine at_el 3 [(12, .bool (decide (x2 ≤ p1)))] H (fun _ => id) fun fr H => ?_
  refine aw_if 12 H hm (fun hb hm H => ?_) fun hb hm H => ?_
  ·refine aw_kn id ?_
   refine aw_sq ?_
   refine aw_block (id := 1) (by kernel_rfl) ?_
   refine aw_sr 7 ?_
   refine at_gl 1 [] 16 1 0 A H fun fr t H => ?_
   obtain ⟨x4, hx, hm⟩ := bind_some hm
   refine at_g1 1 [] 18 (.vptr (e_S_boulterref18_Node x4)) h3 H (fun fr => .of (s_ixV (e := e_S_boulterref18_Node) (x := x4) enc_S_boulterref18_Node (by decide) (by kernel_rfl) hx)) fun fr t H => ?_
   refine at_l1 19 (.agg (e_S_boulterref18_Node x4)) h3 H (fun fr => .of (s_lv (by kernel_rfl))) fun fr t H => ?_
   obtain ⟨h4, e3, A⟩ := A.pu (.cells none 2 [.int .i64 0, .int .i64 0, .int .i64 0, .int .i64 0, .int .i64 0, .int .i64 0, .str ([] : List UInt8)])
   refine at_ln 7 (.ptr (some (h3.size, 0))) e3 H fun fr t H => ?_
   obtain ⟨h5, hx, A⟩ := A.s0 0 [.int .i64 x4.Kind, .int .i64 x4.A, .int .i64 x4.B, .int .i64 x4.Min, .int .i64 x4.Max, .int .i64 x4.Group, .str x4.S] [_, _, _, _, _, _, _]
   refine at_lS hx H fun fr t H => ?_
   refine at_ns 1 id ?_
   refine at_el 1 [(8, .int .i64 1)] H (fun _ => id) fun fr H => ?_
   refine aw_sq ?_
   obtain ⟨o2, ho, hm⟩ := bind_some hm
   refine aw_mono (Q' := fun e fr' h' => (∃ x5, e = .normal ∧ x5 = o2 ∧ Has fr' 87 [(1, .int .i64 p1), (2, .ptr (some (h.size, 0))), (5, rowV r1 x1.length), (6, .int .i64 x2), (7, .ptr (some (h3.size, 0))), (8, .int .i64 x5)] ∧ HH g h' [.obj h3.size (.cells none 2 (e_S_boulterref18_Node x4)), .lst r1 3 (lst (eI .i64) x1), .obj h.size (.cells none 2 [vs e_S_boulterref18_Node p0.L, .int .i64 p0.Root])] F) ∨ False) ?_ ?_
   ·replace hm := ho
    clear ho
    refine aw_sr 8 ?_
    refine at_gl 1 [] 21 0 0 A H fun fr t H => ?_
    refine at_sl 2 [(23, .bool (x4.Kind == (2 : Int)))] H fun fr H => ?_
    refine at_cl 4 (fun fr' h' => h5 = h' ∧ Has fr' 87 [(1, .int .i64 p1), (2, .ptr (some (h.size, 0))), (5, rowV r1 x1.length), (6, .int .i64 x2), (7, .ptr (some (h3.size, 0))), (8, .int .i64 1), (27, .bool ((x4.Kind == (2 : Int)) || (x4.Kind == (3 : Int))))]) ?_ ?_
    ·cases hb : (x4.Kind == (2 : Int) : Bool) with
     | true =>
      replace H := H.kn 23 hb
      refine at_sl 4 [(27, .bool true)] H fun fr H => ?_
      exact at_zb H hb
     | false =>
      replace H := H.kn 23 hb
      refine at_gl 1 [] 25 0 0 A H fun fr t H => ?_
      refine at_sl 2 [(27, .bool (x4.Kind == (3 : Int)))] H fun fr H => ?_
      exact at_zb H hb
    intro t fr h' hK
    obtain ⟨e, H⟩ := hK
    subst e
    refine at_nl id ?_
    refine aw_if 27 H hm (fun hb hm H => ?_) fun hb hm H => ?_
    ·refine aw_sq ?_
     refine aw_dg 8 12 ?_
     refine at_gl 2 [(28, rowV r1 x1.length)] 30 0 1 A H fun fr t H => ?_
     obtain ⟨x6, hx, hm⟩ := bind_some hm
     obtain ⟨i1, er1, _, hx, hq1⟩ := HH.ixO (encI .i64) (by decide) A 1 (xs := x1) rfl hx
     refine at_l1 31 (.ptr (some (i1, x4.A.toNat * 1))) h5 H (fun fr => .of (s_ixL (s := rowS r1 x1.length) (by kernel_rfl) hx)) fun fr t H => ?_
     refine at_l1 32 _ _ H (fun fr => .of (s_ld (by kernel_rfl) (row_ld1 (encI .i64) (HH.row A 1 rfl er1) hq1 (o := 0) rfl))) fun fr t H => ?_
     refine at_gl 2 [(33, rowV r1 x1.length)] 35 0 2 A H fun fr t H => ?_
     obtain ⟨x7, hx, hm⟩ := bind_some hm
     obtain ⟨i2, er2, _, hx, hq2⟩ := HH.ixO (encI .i64) (by decide) A 1 (xs := x1) rfl hx
     refine at_l1 36 (.ptr (some (i2, x4.B.toNat * 1))) h5 H (fun fr => .of (s_ixL (s := rowS r1 x1.length) (by kernel_rfl) hx)) fun fr t H => ?_
     refine at_l1 37 _ _ H (fun fr => .of (s_ld (by kernel_rfl) (row_ld1 (encI .i64) (HH.row A 1 rfl er2) hq2 (o := 0) rfl))) fun fr t H => ?_
     refine at_se 2 [(1, .int .i64 p1), (2, .ptr (some (h.size, 0))), (5, rowV r1 x1.length), (6, .int .i64 x2), (7, .ptr (some (h3.size, 0))), (8, .int .i64 (IntKind.i64.wrap (x6 + x7)))] H fun fr H => ?_
     refine at_ns 3 id ?_
     refine at_gl 1 [] 40 0 0 A H fun fr t H => ?_
     refine at_el 1 [(41, .bool (x4.Kind == (3 : Int)))] H (fun _ => id) fun fr H => ?_
     refine aw_if 41 H hm (fun hb hm H => ?_) fun hb hm H => ?_
     ·refine aw_rg 3 ?_
      refine at_se 3 [(1, .int .i64 p1), (2, .ptr (some (h.size, 0))), (5, rowV r1 x1.length), (6, .int .i64 x2), (7, .ptr (some (h3.size, 0))), (8, .int .i64 (IntKind.i64.wrap ((IntKind.i64.wrap (x6 + x7)) + (1 : Int))))] H fun fr H => ?_
      refine at_nil ?_
      exact .inl ⟨_, rfl, injA hm, H.ls, A⟩
     refine aw_sk ?_
     exact .inl ⟨_, rfl, injA hm, H.ls, A⟩
    refine aw_sk ?_
    exact .inl ⟨_, rfl, injA hm, H.ls, A⟩
   clear ho
   clear A
   intro e fr h6 hQ
   rcases hQ with ⟨x5, rfl, rfl, H, A⟩ | hF
   ·show AW _ _ _ _ _ _ _
    refine aw_sq ?_
    obtain ⟨o3, ho, hm⟩ := bind_some hm
    refine aw_mono (Q' := fun e fr' h' => (∃ x8, e = .normal ∧ x8 = o3 ∧ Has fr' 87 [(1, .int .i64 p1), (2, .ptr (some (h.size, 0))), (5, rowV r1 x1.length), (6, .int .i64 x2), (7, .ptr (some (h3.size, 0))), (8, .int .i64 x8)] ∧ HH g h' [.obj h3.size (.cells none 2 (e_S_boulterref18_Node x4)), .lst r1 3 (lst (eI .i64) x1), .obj h.size (.cells none 2 [vs e_S_boulterref18_Node p0.L, .int .i64 p0.Root])] F) ∨ False) ?_ ?_
    ·replace hm := ho
     clear ho
     refine aw_sr 3 ?_
     refine at_gl 1 [] 45 0 0 A H fun fr t H => ?_
     refine at_el 1 [(46, .bool (x4.Kind == (4 : Int)))] H (fun _ => id) fun fr H => ?_
     refine aw_if 46 H hm (fun hb hm H => ?_) fun hb hm H => ?_
     ·refine aw_sq ?_
      refine aw_dg 12 11 ?_
      refine at_gl 2 [(47, rowV r1 x1.length)] 49 0 1 A H fun fr t H => ?_
      obtain ⟨x9, hx, hm⟩ := bind_some hm
      obtain ⟨i3, er3, _, hx, hq3⟩ := HH.ixO (encI .i64) (by decide) A 1 (xs := x1) rfl hx
      refine at_l1 50 (.ptr (some (i3, x4.A.toNat * 1))) h6 H (fun fr => .of (s_ixL (s := rowS r1 x1.length) (by kernel_rfl) hx)) fun fr t H => ?_
      refine at_l1 51 _ _ H (fun fr => .of (s_ld (by kernel_rfl) (row_ld1 (encI .i64) (HH.row A 1 rfl er3) hq3 (o := 0) rfl))) fun fr t H => ?_
      refine at_gl 2 [(52, .int .i64 (IntKind.i64.wrap (x9 + (1 : Int))))] 54 0 3 A H fun fr t H => ?_
      refine at_se 3 [(1, .int .i64 p1), (2, .ptr (some (h.size, 0))), (5, rowV r1 x1.length), (6, .int .i64 x2), (7, .ptr (some (h3.size, 0))), (8, .int .i64 (IntKind.i64.wrap ((IntKind.i64.wrap (x9 + (1 : Int))) * (IntKind.i64.wrap (x4.Min + (1 : Int))))))] H fun fr H => ?_
      refine at_ns 3 id ?_
      refine at_gl 1 [] 58 0 4 A H fun fr t H => ?_
      refine at_el 1 [(59, .bool (decide (x4.Max ≥ (0 : Int))))] H (fun _ => id) fun fr H => ?_
      refine aw_if 59 H hm (fun hb hm H => ?_) fun hb hm H => ?_
      ·refine aw_dg 14 11 ?_
       refine at_gl 2 [(60, rowV r1 x1.length)] 62 0 1 A H fun fr t H => ?_
       obtain ⟨x10, hx, hm⟩ := bind_some hm
       obtain ⟨i4, er4, _, hx, hq4⟩ := HH.ixO (encI .i64) (by decide) A 1 (xs := x1) rfl hx
       refine at_l1 63 (.ptr (some (i4, x4.A.toNat * 1))) h6 H (fun fr => .of (s_ixL (s := rowS r1 x1.length) (by kernel_rfl) hx)) fun fr t H => ?_
       refine at_l1 64 _ _ H (fun fr => .of (s_ld (by kernel_rfl) (row_ld1 (encI .i64) (HH.row A 1 rfl er4) hq4 (o := 0) rfl))) fun fr t H => ?_
       refine at_gl 2 [(65, .int .i64 (IntKind.i64.wrap (x10 + (1 : Int))))] 67 0 4 A H fun fr t H => ?_
       refine at_se 3 [(1, .int .i64 p1), (2, .ptr (some (h.size, 0))), (5, rowV r1 x1.length), (6, .int .i64 x2), (7, .ptr (some (h3.size, 0))), (8, .int .i64 (IntKind.i64.wrap ((IntKind.i64.wrap ((IntKind.i64.wrap (x10 + (1 : Int))) * x4.Max)) + (1 : Int))))] H fun fr H => ?_
       refine at_nil ?_
       exact .inl ⟨_, rfl, injA hm, H.ls, A⟩
      refine aw_sk ?_
      exact .inl ⟨_, rfl, injA hm, H.ls, A⟩
     refine aw_sk ?_
     exact .inl ⟨_, rfl, injA hm, H.ls, A⟩
    clear ho
    clear A
    intro e fr h7 hQ
    rcases hQ with ⟨x8, rfl, rfl, H, A⟩ | hF
    ·show AW _ _ _ _ _ _ _
     refine aw_sq ?_
     obtain ⟨o4, ho, hm⟩ := bind_some hm
     refine aw_mono (Q' := fun e fr' h' => (∃ x11, e = .normal ∧ x11 = o4 ∧ Has fr' 87 [(1, .int .i64 p1), (2, .ptr (some (h.size, 0))), (5, rowV r1 x1.length), (6, .int .i64 x2), (8, .int .i64 x11)] ∧ HH g h' [.obj h3.size (.cells none 2 (e_S_boulterref18_Node x4)), .lst r1 3 (lst (eI .i64) x1), .obj h.size (.cells none 2 [vs e_S_boulterref18_Node p0.L, .int .i64 p0.Root])] F) ∨ False) ?_ ?_
     ·replace hm := ho
      clear ho
      refine aw_sr 3 ?_
      refine at_gl 1 [] 71 0 0 A H fun fr t H => ?_
      refine at_el 1 [(72, .bool (x4.Kind == (5 : Int)))] H (fun _ => id) fun fr H => ?_
      refine aw_if 72 H hm (fun hb hm H => ?_) fun hb hm H => ?_
      ·refine aw_rg 6 ?_
       refine at_gl 2 [(73, rowV r1 x1.length)] 75 0 1 A H fun fr t H => ?_
       obtain ⟨x12, hx, hm⟩ := bind_some hm
       obtain ⟨i5, er5, _, hx, hq5⟩ := HH.ixO (encI .i64) (by decide) A 1 (xs := x1) rfl hx
       refine at_l1 76 (.ptr (some (i5, x4.A.toNat * 1))) h7 H (fun fr => .of (s_ixL (s := rowS r1 x1.length) (by kernel_rfl) hx)) fun fr t H => ?_
       refine at_l1 77 _ _ H (fun fr => .of (s_ld (by kernel_rfl) (row_ld1 (encI .i64) (HH.row A 1 rfl er5) hq5 (o := 0) rfl))) fun fr t H => ?_
       refine at_se 1 [(1, .int .i64 p1), (2, .ptr (some (h.size, 0))), (5, rowV r1 x1.length), (6, .int .i64 x2), (8, .int .i64 x12)] H fun fr H => ?_
       refine at_nil ?_
       exact .inl ⟨_, rfl, injA hm, H.ls, A⟩
      refine aw_sk ?_
      exact .inl ⟨_, rfl, injA hm, H.ls, A⟩
     clear ho
     clear A
     intro e fr h8 hQ
     rcases hQ with ⟨x11, rfl, rfl, H, A⟩ | hF
     ·show AW _ _ _ _ _ _ _
      refine aw_rg 6 ?_
      refine at_sl 3 [(78, rowV r1 x1.length), (80, .int .i64 (mn x11 (1048576 : Int)))] H fun fr H => ?_
      obtain ⟨h9, e4, A⟩ := A.pL 3 [.int .i64 (mn x11 (1048576 : Int))]
      refine at_ln 81 (rowV (some h8.size) (([mn x11 (1048576 : Int)] : List Int).length)) e4 H fun fr t H => ?_
      obtain ⟨hb, hm⟩ := need_some hm
      obtain ⟨r3, h10, hx, A1⟩ := HH.appO (encI .i64) (by decide) A 2 (xs := x1) (ys := ([mn x11 (1048576 : Int)] : List Int)) rfl (row_first A 0 rfl (n := ([mn x11 (1048576 : Int)] : List Int).length) (z := 1) rfl (by decide)) rfl rfl hb
      replace A : HH g h10 [.lst (some h8.size) 3 ([.int .i64 (mn x11 (1048576 : Int))]), _, .lst r3 3 (lst (eI .i64) (x1 ++ ([mn x11 (1048576 : Int)] : List Int))), _] F := A1
      replace A := A.k3 1 2 3
      refine at_l1 82 _ _ H (fun fr => .of (s_app (s := rowS r1 x1.length) (by kernel_rfl) hx)) fun fr t H => ?_
      refine at_se 1 [(1, .int .i64 p1), (2, .ptr (some (h.size, 0))), (5, rowV r3 ((x1 ++ ([mn x11 (1048576 : Int)] : List Int)).length)), (6, .int .i64 x2)] H fun fr H => ?_
      refine at_nr 3 id ?_
      refine at_se 3 [(1, .int .i64 p1), (2, .ptr (some (h.size, 0))), (5, rowV r3 ((x1 ++ ([mn x11 (1048576 : Int)] : List Int)).length)), (6, .int .i64 (IntKind.i64.wrap (x2 + (1 : Int))))] H fun fr H => ?_
      refine at_nil ?_
      replace A := A.k2 1 2
      exact nx hm ⟨_, _, rfl, _, H.ls, A⟩
     exact hF.elim
    exact hF.elim
   exact hF.elim
  refine aw_exit (i := 0) (by kernel_rfl) ?_
  exact nr hm fun e => .inl ⟨_, rfl, e, _, H.ls, A⟩
 clear ho
 clear A
 intro e fr h11 hQ
 rcases hQ with ⟨x3, rfl, rfl, r2, H, A⟩ | hF
 ·show AW _ _ _ _ _ _ _
  refine aw_sr 5 ?_
  obtain ⟨x13, hx, hm⟩ := bind_some hm
  obtain ⟨i6, er6, _, hx, hq6⟩ := HH.ixO (encI .i64) (by decide) A 0 (xs := x3) rfl hx
  refine at_g1 2 [] 85 (.ptr (some (i6, p1.toNat * 1))) h11 H (fun fr => .of (s_ixL (s := rowS r2 x3.length) (by kernel_rfl) hx)) fun fr t H => ?_
  refine at_l1 86 _ _ H (fun fr => .of (s_ld (by kernel_rfl) (row_ld1 (encI .i64) (HH.row A 0 rfl er6) hq6 (o := 0) rfl))) fun fr t H => ?_
  refine at_el 1 [(4, .int .i64 x13)] H (fun _ => id) fun fr H => ?_
  refine aw_rt ?_
  obtain rfl := injA hm
  refine ⟨.inl rfl, .int .i64 x13, rH H, ?_⟩
  replace A := A.d0
  exact ⟨rfl, A⟩
 exact hF.elim
end Go.Av.L
