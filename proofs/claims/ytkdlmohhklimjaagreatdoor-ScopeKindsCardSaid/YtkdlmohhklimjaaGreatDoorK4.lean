/-
 Models of functions, and that the abstract run tells them. Written by lift2.py.
-/
import Derived.Test.YtkdlmohhklimjaaGreatDoorKCfg
import Derived.Test.YtkdlmohhklimjaaGreatDoorK2
import Derived.Test.YtkdlmohhklimjaaGreatDoorK3
namespace Go.Av.L
open Go.Av Go.Lib
set_option maxRecDepth 10000
set_option linter.unusedVariables false
set_option linter.unusedSimpArgs false
variable {g : Gd} {h : AHeap} {F : List Ck} {av : List AVal}
noncomputable def M_slices_IndexFunc_byte_byte_sOFPPPOOOe0OP_L0 (p0 : List UInt8) (p1_10_0 : S_dfa_maker) (p1_11 : Int) (s : Int) : Option ((Int) ⊕ ((Unit) ⊕ (Int))) :=
 match s with
 | x1 => iteB (decide (x1 < (p0.length : Int))) ((ixV p0 x1).bind fun x3 => (M_dfa_maker_split_1_sIPPPOOOOOP (x3.toNat : Int) (⟨p1_10_0.a_, p1_10_0.d_, p1_10_0.most_, p0, p1_10_0.seen_, p1_10_0.todo_⟩ : S_dfa_maker) p1_11).bind fun x4 => iteB x4 (some (.inr (.inr x1))) (some (.inl (IntKind.i64.wrap (x1 + (1 : Int)))))) (some (.inr (.inl ())))
noncomputable def M_slices_IndexFunc_byte_byte_sOFPPPOOOe0OP (p0 : List UInt8) (p1_10_0 : S_dfa_maker) (p1_11 : Int) : Option (Int) :=
 (loop (M_slices_IndexFunc_byte_byte_sOFPPPOOOe0OP_L0 p0 p1_10_0 p1_11) (0 : Int)).bind fun o1 => (match o1 with | .inl _ => some (-1 : Int) | .inr x2 => some x2)
theorem ok_slices_IndexFunc_byte_byte_sOFPPPOOOe0OP {p0 p1_10_0 p1_11 rp0 bp1_10 bp1_10_0 bp1_10_0_1 rp1_10_0_1_2 rp1_10_0_1_3 rp1_10_0_1_4 bp1_10_0_4 rp1_10_0_5 bp1_11 q0} (hm : M_slices_IndexFunc_byte_byte_sOFPPPOOOe0OP p0 p1_10_0 p1_11 = some q0) (A : HH g h [.lst rp0 5 (lst eY p0), .obj bp1_10 (.cells none 2 [.ptr (some (bp1_10_0, 0))]), .obj bp1_10_0 (.cells none 2 [.vptr [vs e_S_auto_state p1_10_0.a_.l_, .int .i64 p1_10_0.a_.first_], .ptr (some (bp1_10_0_1, 0)), .int .i64 p1_10_0.most_, rowV rp0 p0.length, .map (some bp1_10_0_4), rowV rp1_10_0_5 p1_10_0.todo_.length]), .obj bp1_10_0_1 (.cells none 2 (big 256 (AVal.int .u8) p1_10_0.d_.column_ ++ [.int .i64 p1_10_0.d_.columns_, rowV rp1_10_0_1_2 p1_10_0.d_.next_.length, rowV rp1_10_0_1_3 p1_10_0.d_.ends_.length, rowV rp1_10_0_1_4 p1_10_0.d_.last_.length, .int .i32 p1_10_0.d_.first_, .int .i32 p1_10_0.d_.later_, .bool p1_10_0.d_.empty_])), .lst rp1_10_0_1_2 21 (lst (eI .i32) p1_10_0.d_.next_), .lst rp1_10_0_1_3 4 (lst eB p1_10_0.d_.ends_), .lst rp1_10_0_1_4 4 (lst eB p1_10_0.d_.last_), .obj bp1_10_0_4 (.map 2 (encM (fun k : List UInt8 => .str k) (fun v : Int => .int .i32 v) p1_10_0.seen_)), .lst rp1_10_0_5 171 (lst (eL (eI .i64)) p1_10_0.todo_), .obj bp1_11 (.cells none 2 [.int .i64 p1_11])] F) (hc : canL (cfg.still 126) av = [rowV rp0 p0.length, .func (.func 127) [] [.ptr (some (bp1_10, 0)), .ptr (some (bp1_11, 0))]] := by kernel_rfl) : ∃ v h', Runs cfg g h 126 av v h' ∧ v = .int .i64 q0 ∧ HH g h' [.lst rp0 5 (lst eY p0), .obj bp1_10 (.cells none 2 [.ptr (some (bp1_10_0, 0))]), .obj bp1_10_0 (.cells none 2 [.vptr [vs e_S_auto_state p1_10_0.a_.l_, .int .i64 p1_10_0.a_.first_], .ptr (some (bp1_10_0_1, 0)), .int .i64 p1_10_0.most_, rowV rp0 p0.length, .map (some bp1_10_0_4), rowV rp1_10_0_5 p1_10_0.todo_.length]), .obj bp1_10_0_1 (.cells none 2 (big 256 (AVal.int .u8) p1_10_0.d_.column_ ++ [.int .i64 p1_10_0.d_.columns_, rowV rp1_10_0_1_2 p1_10_0.d_.next_.length, rowV rp1_10_0_1_3 p1_10_0.d_.ends_.length, rowV rp1_10_0_1_4 p1_10_0.d_.last_.length, .int .i32 p1_10_0.d_.first_, .int .i32 p1_10_0.d_.later_, .bool p1_10_0.d_.empty_])), .lst rp1_10_0_1_2 21 (lst (eI .i32) p1_10_0.d_.next_), .lst rp1_10_0_1_3 4 (lst eB p1_10_0.d_.ends_), .lst rp1_10_0_1_4 4 (lst eB p1_10_0.d_.last_), .obj bp1_10_0_4 (.map 2 (encM (fun k : List UInt8 => .str k) (fun v : Int => .int .i32 v) p1_10_0.seen_)), .lst rp1_10_0_5 171 (lst (eL (eI .i64)) p1_10_0.todo_), .obj bp1_11 (.cells none 2 [.int .i64 p1_11])] F := by
 refine rq1 19 [.tmp 4] hc ?_
 clear hc
 unfold M_slices_IndexFunc_byte_byte_sOFPPPOOOe0OP at hm
 refine bg 19 [(0, rowV rp0 p0.length), (1, .func (.func 127) [] [.ptr (some (bp1_10, 0)), .ptr (some (bp1_11, 0))])] fun fr H => ?_
 refine aw_sr 1 ?_
 refine at_el 1 [] H (fun _ => id) fun fr H => ?_
 refine aw_sq ?_
 refine aw_sr 3 ?_
 refine at_el 3 [(7, .int .i64 (p0.length : Int)), (8, .int .i64 0)] H (fun _ => id) fun fr H => ?_
 refine aw_block (id := 0) (by kernel_rfl) ?_
 obtain ⟨o1, ho, hm⟩ := bind_some hm
 refine aw_mono (Q' := fun e fr' h' => (e = .exit 0 ∧ .inl () = o1 ∧ Has fr' 19 [] ∧ HH g h' [.lst rp0 5 (lst eY p0), .obj bp1_10 (.cells none 2 [.ptr (some (bp1_10_0, 0))]), .obj bp1_10_0 (.cells none 2 [.vptr [vs e_S_auto_state p1_10_0.a_.l_, .int .i64 p1_10_0.a_.first_], .ptr (some (bp1_10_0_1, 0)), .int .i64 p1_10_0.most_, rowV rp0 p0.length, .map (some bp1_10_0_4), rowV rp1_10_0_5 p1_10_0.todo_.length]), .obj bp1_10_0_1 (.cells none 2 (big 256 (AVal.int .u8) p1_10_0.d_.column_ ++ [.int .i64 p1_10_0.d_.columns_, rowV rp1_10_0_1_2 p1_10_0.d_.next_.length, rowV rp1_10_0_1_3 p1_10_0.d_.ends_.length, rowV rp1_10_0_1_4 p1_10_0.d_.last_.length, .int .i32 p1_10_0.d_.first_, .int .i32 p1_10_0.d_.later_, .bool p1_10_0.d_.empty_])), .lst rp1_10_0_1_2 21 (lst (eI .i32) p1_10_0.d_.next_), .lst rp1_10_0_1_3 4 (lst eB p1_10_0.d_.ends_), .lst rp1_10_0_1_4 4 (lst eB p1_10_0.d_.last_), .obj bp1_10_0_4 (.map 2 (encM (fun k : List UInt8 => .str k) (fun v : Int => .int .i32 v) p1_10_0.seen_)), .lst rp1_10_0_5 171 (lst (eL (eI .i64)) p1_10_0.todo_), .obj bp1_11 (.cells none 2 [.int .i64 p1_11])] F) ∨ (∃ x2, e = .ret ∧ .inr x2 = o1 ∧ Has fr' 19 [(4, .int .i64 x2)] ∧ HH g h' [.lst rp0 5 (lst eY p0), .obj bp1_10 (.cells none 2 [.ptr (some (bp1_10_0, 0))]), .obj bp1_10_0 (.cells none 2 [.vptr [vs e_S_auto_state p1_10_0.a_.l_, .int .i64 p1_10_0.a_.first_], .ptr (some (bp1_10_0_1, 0)), .int .i64 p1_10_0.most_, rowV rp0 p0.length, .map (some bp1_10_0_4), rowV rp1_10_0_5 p1_10_0.todo_.length]), .obj bp1_10_0_1 (.cells none 2 (big 256 (AVal.int .u8) p1_10_0.d_.column_ ++ [.int .i64 p1_10_0.d_.columns_, rowV rp1_10_0_1_2 p1_10_0.d_.next_.length, rowV rp1_10_0_1_3 p1_10_0.d_.ends_.length, rowV rp1_10_0_1_4 p1_10_0.d_.last_.length, .int .i32 p1_10_0.d_.first_, .int .i32 p1_10_0.d_.later_, .bool p1_10_0.d_.empty_])), .lst rp1_10_0_1_2 21 (lst (eI .i32) p1_10_0.d_.next_), .lst rp1_10_0_1_3 4 (lst eB p1_10_0.d_.ends_), .lst rp1_10_0_1_4 4 (lst eB p1_10_0.d_.last_), .obj bp1_10_0_4 (.map 2 (encM (fun k : List UInt8 => .str k) (fun v : Int => .int .i32 v) p1_10_0.seen_)), .lst rp1_10_0_5 171 (lst (eL (eI .i64)) p1_10_0.todo_), .obj bp1_11 (.cells none 2 [.int .i64 p1_11])] F) ∨ False) ?_ ?_
 ·refine aw_loop (by kernel_rfl) (fun (s : Int) fr' h' => ∃ x1, x1 = s ∧ Has fr' 19 [(0, rowV rp0 p0.length), (1, .func (.func 127) [] [.ptr (some (bp1_10, 0)), .ptr (some (bp1_11, 0))]), (7, .int .i64 (p0.length : Int)), (8, .int .i64 x1)] ∧ HH g h' [.lst rp0 5 (lst eY p0), .obj bp1_10 (.cells none 2 [.ptr (some (bp1_10_0, 0))]), .obj bp1_10_0 (.cells none 2 [.vptr [vs e_S_auto_state p1_10_0.a_.l_, .int .i64 p1_10_0.a_.first_], .ptr (some (bp1_10_0_1, 0)), .int .i64 p1_10_0.most_, rowV rp0 p0.length, .map (some bp1_10_0_4), rowV rp1_10_0_5 p1_10_0.todo_.length]), .obj bp1_10_0_1 (.cells none 2 (big 256 (AVal.int .u8) p1_10_0.d_.column_ ++ [.int .i64 p1_10_0.d_.columns_, rowV rp1_10_0_1_2 p1_10_0.d_.next_.length, rowV rp1_10_0_1_3 p1_10_0.d_.ends_.length, rowV rp1_10_0_1_4 p1_10_0.d_.last_.length, .int .i32 p1_10_0.d_.first_, .int .i32 p1_10_0.d_.later_, .bool p1_10_0.d_.empty_])), .lst rp1_10_0_1_2 21 (lst (eI .i32) p1_10_0.d_.next_), .lst rp1_10_0_1_3 4 (lst eB p1_10_0.d_.ends_), .lst rp1_10_0_1_4 4 (lst eB p1_10_0.d_.last_), .obj bp1_10_0_4 (.map 2 (encM (fun k : List UInt8 => .str k) (fun v : Int => .int .i32 v) p1_10_0.seen_)), .lst rp1_10_0_5 171 (lst (eL (eI .i64)) p1_10_0.todo_), .obj bp1_11 (.cells none 2 [.int .i64 p1_11])] F) ho ⟨_, rfl, H.ls, A⟩ ?_
  clear ho hm H A
  intro s q fr h1 hI hm
  obtain ⟨x1, rfl, H, A⟩ := hI
  unfold M_slices_IndexFunc_byte_byte_sOFPPPOOOe0OP_L0 at hm
  refine aw_sr 1 ?_
  refine at_el 1 [(9, .bool (decide (x1 < (p0.length : Int))))] H (fun _ => id) fun fr H => ?_
  refine aw_sq ?_
  refine aw_if 9 H hm (fun hb hm H => ?_) fun hb hm H => ?_
  ·refine aw_kn id ?_
   refine aw_sq ?_
   refine aw_block (id := 1) (by kernel_rfl) ?_
   refine aw_sr 2 ?_
   refine at_es 2 [(5, .int .i64 x1)] 6 H (fun _ => id) fun fr H => ?_
   obtain ⟨x3, hx, hm⟩ := bind_some hm
   obtain ⟨i1, er1, _, hx, hq1⟩ := HH.ixO encY (by decide) A 0 (xs := p0) rfl hx
   refine at_g1 3 [(11, .func (.func 127) [] [.ptr (some (bp1_10, 0)), .ptr (some (bp1_11, 0))])] 14 (.ptr (some (i1, x1.toNat * 1))) h1 H (fun fr => .of (s_ixL (s := rowS rp0 p0.length) (by kernel_rfl) hx)) fun fr t H => ?_
   refine at_l1 15 _ _ H (fun fr => .of (s_ld (by kernel_rfl) (row_ld1 encY (HH.row A 0 rfl er1) hq1 (o := 0) rfl))) fun fr t H => ?_
   replace A : HH g h1 [_, _, _, _, _, _, _, _, _, _] F := ((((((((((A.front 9 rfl).front 9 rfl).front 9 rfl).front 3 rfl).front 9 rfl).front 9 rfl).front 9 rfl).front 9 rfl).front 9 rfl).front 9 rfl)
   obtain ⟨x4, hx, hm⟩ := bind_some hm
   obtain ⟨v1, h2, hr, rfl, A1⟩ := ok_dfa_maker_split_1_sIPPPOOOOOP (av := [.int .u8 (x3.toNat : Int), .ptr (some (bp1_10, 0)), .ptr (some (bp1_11, 0))]) hx (A.cut 10)
   replace A : HH g h2 [.obj bp1_10 (.cells none 2 [.ptr (some (bp1_10_0, 0))]), .obj bp1_10_0 (.cells none 2 [_, _, _, _, _, _]), .obj bp1_10_0_1 (.cells none 2 (big 256 (AVal.int .u8) p1_10_0.d_.column_ ++ [.int .i64 p1_10_0.d_.columns_, rowV rp1_10_0_1_2 p1_10_0.d_.next_.length, rowV rp1_10_0_1_3 p1_10_0.d_.ends_.length, rowV rp1_10_0_1_4 p1_10_0.d_.last_.length, .int .i32 p1_10_0.d_.first_, .int .i32 p1_10_0.d_.later_, .bool p1_10_0.d_.empty_])), .lst rp1_10_0_1_2 21 (lst (eI .i32) p1_10_0.d_.next_), .lst rp1_10_0_1_3 4 (lst eB p1_10_0.d_.ends_), .lst rp1_10_0_1_4 4 (lst eB p1_10_0.d_.last_), .lst rp0 5 (lst eY p0), .obj bp1_10_0_4 (.map 2 (encM (fun k : List UInt8 => .str k) (fun v : Int => .int .i32 v) p1_10_0.seen_)), .lst rp1_10_0_5 171 (lst (eL (eI .i64)) p1_10_0.todo_), .obj bp1_11 (.cells none 2 [.int .i64 p1_11])] F := A.glue0 (n := 10) A1
   refine at_lc1 16 hr H fun fr t H => ?_
   refine at_nl id ?_
   refine aw_if 16 H hm (fun hb hm H => ?_) fun hb hm H => ?_
   ·refine aw_sr 2 ?_
    refine at_el 2 [(4, .int .i64 x1)] H (fun _ => id) fun fr H => ?_
    refine aw_rt ?_
    replace A : HH g h2 [_, _, _, _, _, _, _, _, _, _] F := ((((((((((A.front 9 rfl).front 9 rfl).front 9 rfl).front 8 rfl).front 8 rfl).front 8 rfl).front 8 rfl).front 8 rfl).front 8 rfl).front 9 rfl)
    exact nr hm fun e => Or.inr (.inl ⟨_, rfl, e, H.ls, A⟩)
   refine aw_kr 2 id ?_
   refine at_se 2 [(0, rowV rp0 p0.length), (1, .func (.func 127) [] [.ptr (some (bp1_10, 0)), .ptr (some (bp1_11, 0))]), (7, .int .i64 (p0.length : Int)), (8, .int .i64 (IntKind.i64.wrap (x1 + (1 : Int))))] H fun fr H => ?_
   refine at_nil ?_
   replace A : HH g h2 [_, _, _, _, _, _, _, _, _, _] F := ((((((((((A.front 9 rfl).front 9 rfl).front 9 rfl).front 8 rfl).front 8 rfl).front 8 rfl).front 8 rfl).front 8 rfl).front 8 rfl).front 9 rfl)
   exact nx hm ⟨_, rfl, H.ls, A⟩
  refine aw_exit (i := 0) (by kernel_rfl) ?_
  exact nr hm fun e => .inl ⟨rfl, e, H.ls, A⟩
 clear ho
 clear A
 intro e fr h3 hQ
 rcases hQ with ⟨rfl, rfl, H, A⟩ | ⟨x2, rfl, rfl, H, A⟩ | hF
 ·show AW _ _ _ _ _ _ _
  refine aw_sr 1 ?_
  refine at_el 1 [(4, .int .i64 (-1))] H (fun _ => id) fun fr H => ?_
  refine aw_rt ?_
  obtain rfl := injA hm
  exact ⟨.inl rfl, _, rH H, rfl, A⟩
 ·obtain rfl := injA hm
  exact ⟨.inl rfl, _, rH H, rfl, A⟩
 exact hF.elim
noncomputable def M_dfa_maker_split_sPPOOOOO_L0 (p0 : S_dfa_maker) (s : (Nat → Int) × (List UInt8) × Int) : Option (((Nat → Int) × (List UInt8) × Int) ⊕ (((Nat → Int) × (List UInt8)))) :=
 match s with
 | (x1, x2, x3) => iteB (decide (x3 < (256 : Int))) ((M_slices_IndexFunc_byte_byte_sOFPPPOOOe0OP x2 (⟨p0.a_, (⟨x1, p0.d_.columns_, p0.d_.next_, p0.d_.ends_, p0.d_.last_, p0.d_.first_, p0.d_.later_, p0.d_.empty_⟩ : S_dfa_Dfa), p0.most_, x2, p0.seen_, p0.todo_⟩ : S_dfa_maker) x3).bind fun x6 => (iteB (decide (x6 < (0 : Int))) ((toY (IntKind.u8.wrap x3)).bind fun x9 => need (okN 1 (x2.length + ([x9] : List UInt8).length)) <| some ((x2 ++ ([x9] : List UInt8)), (x2.length : Int))) (some (x2, x6)) : Option (((List UInt8) × Int))).bind fun (x7, x8) => (ixB 256 x1 x3).bind fun x10 => some (.inl ((bset x1 x3.toNat (IntKind.u8.wrap x8)), x7, IntKind.i64.wrap (x3 + (1 : Int))))) (some (.inr (x1, x2)))
noncomputable def M_dfa_maker_split_sPPOOOOO (p0 : S_dfa_maker) : Option (S_dfa_Dfa × (List UInt8)) :=
 (loop (M_dfa_maker_split_sPPOOOOO_L0 p0) (p0.d_.column_, p0.byte_, (0 : Int))).bind fun (x4, x5) => some ((⟨x4, (x5.length : Int), p0.d_.next_, p0.d_.ends_, p0.d_.last_, p0.d_.first_, p0.d_.later_, p0.d_.empty_⟩ : S_dfa_Dfa), x5)
theorem ok_dfa_maker_split_sPPOOOOO {p0 bp0 bp0_1 rp0_1_2 rp0_1_3 rp0_1_4 rp0_3 bp0_4 rp0_5 u1 u5} (hm : M_dfa_maker_split_sPPOOOOO p0 = some (u1, u5)) (A : HH g h [.obj bp0 (.cells none 2 [.vptr [vs e_S_auto_state p0.a_.l_, .int .i64 p0.a_.first_], .ptr (some (bp0_1, 0)), .int .i64 p0.most_, rowV rp0_3 p0.byte_.length, .map (some bp0_4), rowV rp0_5 p0.todo_.length]), .obj bp0_1 (.cells none 2 (big 256 (AVal.int .u8) p0.d_.column_ ++ [.int .i64 p0.d_.columns_, rowV rp0_1_2 p0.d_.next_.length, rowV rp0_1_3 p0.d_.ends_.length, rowV rp0_1_4 p0.d_.last_.length, .int .i32 p0.d_.first_, .int .i32 p0.d_.later_, .bool p0.d_.empty_])), .lst rp0_1_2 21 (lst (eI .i32) p0.d_.next_), .lst rp0_1_3 4 (lst eB p0.d_.ends_), .lst rp0_1_4 4 (lst eB p0.d_.last_), .lst rp0_3 5 (lst eY p0.byte_), .obj bp0_4 (.map 2 (encM (fun k : List UInt8 => .str k) (fun v : Int => .int .i32 v) p0.seen_)), .lst rp0_5 171 (lst (eL (eI .i64)) p0.todo_)] F) (hc : canL (cfg.still 93) av = [.ptr (some (bp0, 0))] := by kernel_rfl) : ∃ v h', Runs cfg g h 93 av v h' ∧ ∃ (r'5 : Option Nat), v = .tuple [] ∧ HH g h' [.obj bp0 (.cells none 2 [.vptr [vs e_S_auto_state p0.a_.l_, .int .i64 p0.a_.first_], .ptr (some (bp0_1, 0)), .int .i64 p0.most_, rowV r'5 u5.length, .map (some bp0_4), rowV rp0_5 p0.todo_.length]), .obj bp0_1 (.cells none 2 (big 256 (AVal.int .u8) u1.column_ ++ [.int .i64 u1.columns_, rowV rp0_1_2 p0.d_.next_.length, rowV rp0_1_3 p0.d_.ends_.length, rowV rp0_1_4 p0.d_.last_.length, .int .i32 u1.first_, .int .i32 u1.later_, .bool u1.empty_])), .lst rp0_1_2 21 (lst (eI .i32) p0.d_.next_), .lst rp0_1_3 4 (lst eB p0.d_.ends_), .lst rp0_1_4 4 (lst eB p0.d_.last_), .lst r'5 5 (lst eY u5), .obj bp0_4 (.map 2 (encM (fun k : List UInt8 => .str k) (fun v : Int => .int .i32 v) p0.seen_)), .lst rp0_5 171 (lst (eL (eI .i64)) p0.todo_)] F := by
 refine rq1 53 [] hc ?_
 clear hc
 unfold M_dfa_maker_split_sPPOOOOO at hm
 refine bg 53 [(0, .ptr (some (bp0, 0)))] fun fr H => ?_
 refine aw_sr 1 ?_
 obtain ⟨h1, e1, A⟩ := A.pu (.cells none 2 [.ptr (some (bp0, 0))])
 refine at_ln 1 (.ptr (some (h.size, 0))) e1 H fun fr t H => ?_
 refine at_nl id ?_
 refine aw_sq ?_
 refine aw_sr 1 ?_
 refine at_el 1 [(4, .int .i64 0)] H (fun _ => id) fun fr H => ?_
 refine aw_block (id := 0) (by kernel_rfl) ?_
 obtain ⟨o1, ho, hm⟩ := bind_some hm
 refine aw_mono (Q' := fun e fr' h' => (∃ x4 x5, e = .exit 0 ∧ (x4, x5) = o1 ∧ ∃ r2, Has fr' 53 [(1, .ptr (some (h.size, 0)))] ∧ HH g h' [.obj h.size (.cells none 2 [.ptr (some (bp0, 0))]), .obj bp0 (.cells none 2 [.vptr [vs e_S_auto_state p0.a_.l_, .int .i64 p0.a_.first_], .ptr (some (bp0_1, 0)), .int .i64 p0.most_, rowV r2 x5.length, .map (some bp0_4), rowV rp0_5 p0.todo_.length]), .obj bp0_1 (.cells none 2 (big 256 (AVal.int .u8) x4 ++ [.int .i64 p0.d_.columns_, rowV rp0_1_2 p0.d_.next_.length, rowV rp0_1_3 p0.d_.ends_.length, rowV rp0_1_4 p0.d_.last_.length, .int .i32 p0.d_.first_, .int .i32 p0.d_.later_, .bool p0.d_.empty_])), .lst rp0_1_2 21 (lst (eI .i32) p0.d_.next_), .lst rp0_1_3 4 (lst eB p0.d_.ends_), .lst rp0_1_4 4 (lst eB p0.d_.last_), .lst r2 5 (lst eY x5), .obj bp0_4 (.map 2 (encM (fun k : List UInt8 => .str k) (fun v : Int => .int .i32 v) p0.seen_)), .lst rp0_5 171 (lst (eL (eI .i64)) p0.todo_)] F) ∨ False) ?_ ?_
 ·refine aw_loop (by kernel_rfl) (fun (s : (Nat → Int) × (List UInt8) × Int) fr' h' => ∃ x1 x2 x3, (x1, x2, x3) = s ∧ ∃ r1, Has fr' 53 [(1, .ptr (some (h.size, 0))), (4, .int .i64 x3)] ∧ HH g h' [.obj h.size (.cells none 2 [.ptr (some (bp0, 0))]), .obj bp0 (.cells none 2 [.vptr [vs e_S_auto_state p0.a_.l_, .int .i64 p0.a_.first_], .ptr (some (bp0_1, 0)), .int .i64 p0.most_, rowV r1 x2.length, .map (some bp0_4), rowV rp0_5 p0.todo_.length]), .obj bp0_1 (.cells none 2 (big 256 (AVal.int .u8) x1 ++ [.int .i64 p0.d_.columns_, rowV rp0_1_2 p0.d_.next_.length, rowV rp0_1_3 p0.d_.ends_.length, rowV rp0_1_4 p0.d_.last_.length, .int .i32 p0.d_.first_, .int .i32 p0.d_.later_, .bool p0.d_.empty_])), .lst rp0_1_2 21 (lst (eI .i32) p0.d_.next_), .lst rp0_1_3 4 (lst eB p0.d_.ends_), .lst rp0_1_4 4 (lst eB p0.d_.last_), .lst r1 5 (lst eY x2), .obj bp0_4 (.map 2 (encM (fun k : List UInt8 => .str k) (fun v : Int => .int .i32 v) p0.seen_)), .lst rp0_5 171 (lst (eL (eI .i64)) p0.todo_)] F) ho ⟨_, _, _, rfl, rp0_3, H.ls, A⟩ ?_
  clear ho hm H A
  intro s q fr h2 hI hm
  obtain ⟨x1, x2, x3, rfl, r1, H, A⟩ := hI
  unfold M_dfa_maker_split_sPPOOOOO_L0 at hm
  refine aw_sr 1 ?_
  refine at_el 1 [(5, .bool (decide (x3 < (256 : Int))))] H (fun _ => id) fun fr H => ?_
  refine aw_sq ?_
  refine aw_if 5 H hm (fun hb hm H => ?_) fun hb hm H => ?_
  ·refine aw_kn id ?_
   refine aw_sq ?_
   refine aw_block (id := 1) (by kernel_rfl) ?_
   refine aw_sr 3 ?_
   obtain ⟨h3, e2, A⟩ := A.pu (.cells none 2 [.int .i64 0])
   refine at_gn 1 [(6, .int .i64 x3)] 2 (.ptr (some (h2.size, 0))) e2 H fun fr t H => ?_
   obtain ⟨h4, hx, A⟩ := A.s0 0 [.int .i64 x3] [_]
   refine at_ls hx H fun fr t H => ?_
   refine at_ns 7 id ?_
   refine at_ll 7 1 0 A H fun fr t H => ?_
   refine at_gl 2 [] 10 2 3 A H fun fr t H => ?_
   replace A : HH g h4 [_, _, _, _, _, _, _, _, _, _] F := ((((((((((A.front 0 rfl).front 9 rfl).front 9 rfl).front 8 rfl).front 8 rfl).front 8 rfl).front 8 rfl).front 8 rfl).front 8 rfl).front 9 rfl)
   obtain ⟨x6, hx, hm⟩ := bind_some hm
   obtain ⟨v1, h5, hr, rfl, A1⟩ := ok_slices_IndexFunc_byte_byte_sOFPPPOOOe0OP (av := [rowV r1 x2.length, .func (.func 127) [] [.ptr (some (h.size, 0)), .ptr (some (h2.size, 0))]]) hx (A.cut 10)
   replace A : HH g h5 [.lst r1 5 (lst eY x2), .obj h.size (.cells none 2 [.ptr (some (bp0, 0))]), .obj bp0 (.cells none 2 [_, _, _, _, _, _]), .obj bp0_1 (.cells none 2 (big 256 (AVal.int .u8) x1 ++ [.int .i64 p0.d_.columns_, rowV rp0_1_2 p0.d_.next_.length, rowV rp0_1_3 p0.d_.ends_.length, rowV rp0_1_4 p0.d_.last_.length, .int .i32 p0.d_.first_, .int .i32 p0.d_.later_, .bool p0.d_.empty_])), .lst rp0_1_2 21 (lst (eI .i32) p0.d_.next_), .lst rp0_1_3 4 (lst eB p0.d_.ends_), .lst rp0_1_4 4 (lst eB p0.d_.last_), .obj bp0_4 (.map 2 (encM (fun k : List UInt8 => .str k) (fun v : Int => .int .i32 v) p0.seen_)), .lst rp0_5 171 (lst (eL (eI .i64)) p0.todo_), .obj h2.size (.cells none 2 [.int .i64 x3])] F := A.glue0 (n := 10) A1
   refine at_gc1 1 [] 12 hr H fun fr t H => ?_
   refine at_el 1 [(3, .int .i64 x6)] H (fun _ => id) fun fr H => ?_
   refine aw_sq ?_
   obtain ⟨o2, ho, hm⟩ := bind_some hm
   refine aw_mono (Q' := fun e fr' h' => (∃ x7 x8, e = .normal ∧ (x7, x8) = o2 ∧ ∃ r3, Has fr' 53 [(1, .ptr (some (h.size, 0))), (2, .ptr (some (h2.size, 0))), (3, .int .i64 x8), (4, .int .i64 x3)] ∧ HH g h' [.lst r3 5 (lst eY x7), .obj h.size (.cells none 2 [.ptr (some (bp0, 0))]), .obj bp0 (.cells none 2 [.vptr [vs e_S_auto_state p0.a_.l_, .int .i64 p0.a_.first_], .ptr (some (bp0_1, 0)), .int .i64 p0.most_, rowV r3 x7.length, .map (some bp0_4), rowV rp0_5 p0.todo_.length]), .obj bp0_1 (.cells none 2 (big 256 (AVal.int .u8) x1 ++ [.int .i64 p0.d_.columns_, rowV rp0_1_2 p0.d_.next_.length, rowV rp0_1_3 p0.d_.ends_.length, rowV rp0_1_4 p0.d_.last_.length, .int .i32 p0.d_.first_, .int .i32 p0.d_.later_, .bool p0.d_.empty_])), .lst rp0_1_2 21 (lst (eI .i32) p0.d_.next_), .lst rp0_1_3 4 (lst eB p0.d_.ends_), .lst rp0_1_4 4 (lst eB p0.d_.last_), .obj bp0_4 (.map 2 (encM (fun k : List UInt8 => .str k) (fun v : Int => .int .i32 v) p0.seen_)), .lst rp0_5 171 (lst (eL (eI .i64)) p0.todo_), .obj h2.size (.cells none 2 [.int .i64 x3])] F) ∨ False) ?_ ?_
   ·replace hm := ho
    clear ho
    refine aw_sr 2 ?_
    refine at_el 2 [(14, .bool (decide (x6 < (0 : Int))))] H (fun _ => id) fun fr H => ?_
    refine aw_if 14 H hm (fun hb hm H => ?_) fun hb hm H => ?_
    ·refine aw_sr 6 ?_
     refine at_ll 15 1 0 A H fun fr t H => ?_
     refine at_gl 2 [] 18 2 3 A H fun fr t H => ?_
     refine at_se 2 [(1, .ptr (some (h.size, 0))), (2, .ptr (some (h2.size, 0))), (3, .int .i64 (x2.length : Int)), (4, .int .i64 x3)] H fun fr H => ?_
     refine at_nl id ?_
     refine aw_dw 7 12 [(0, []), (1, []), (2, []), (3, []), (4, []), (5, []), (6, []), (7, []), (8, [0]), (9, []), (10, []), (11, [])] ?_
     refine at_t1 20 (.ptr (some (bp0, 0))) h5 [(0, h.size)] (g.prot) H (fun fr => .of (s_ld (by kernel_rfl) (A.l1 1 0))) (fun fr H => ?_)
     refine at_t1 21 (.ptr (some (bp0, 0))) h5 [(1, h.size), (0, h.size)] (g.prot) H (fun fr => .of (s_ld (by kernel_rfl) (A.l1 1 0))) (fun fr H => ?_)
     refine at_sl 2 [(23, .ptr (some (bp0, 3)))] H fun fr H => ?_
     refine at_t1 24 (rowV r1 x2.length) h5 [(4, bp0), (1, h.size), (0, h.size)] (g.prot) H (fun fr => .of (s_ld (by kernel_rfl) (A.l1 2 3))) (fun fr H => ?_)
     refine at_t1 25 (.int .i64 x3) h5 [(5, h2.size), (4, bp0), (1, h.size), (0, h.size)] (g.prot) H (fun fr => .of (s_ld (by kernel_rfl) (A.l1 9 0))) (fun fr H => ?_)
     refine at_sl 1 [(26, .int .u8 (IntKind.u8.wrap x3))] H fun fr H => ?_
     obtain ⟨x9, hx, hm⟩ := bind_some hm
     have hx := toY_eq hx
     rw [hx] at H
     obtain ⟨h6, e3, A⟩ := A.pL 5 [.int .u8 (x9.toNat : Int)]
     refine at_t1 27 (rowV (some h5.size) (([x9] : List UInt8).length)) h6 [(7, h5.size), (5, h2.size), (4, bp0), (1, h.size), (0, h.size)] (g.prot) H (fun fr => .of (s_n' (by kernel_rfl) (congrArg some e3.symm))) (fun fr H => ?_)
     replace A : HH g h6 [_, .lst (some h5.size) 5 ([.int .u8 (x9.toNat : Int)]), _, _, _, _, _, _, _, _, _] F := (A.front 1 rfl)
     have A1 := A.prot2 1 (pr := [h.size]) (.cons 1 rfl (by simp [Ck.ids]) .nil)
     obtain ⟨hb, hm⟩ := need_some hm
     obtain ⟨r4, h7, hx, A1⟩ := HH.appO encY (by decide) A1 0 (xs := x2) (ys := ([x9] : List UInt8)) rfl (row_first A 1 rfl (n := ([x9] : List UInt8).length) (z := 1) rfl (by decide)) rfl rfl hb
     replace A := A.p11 A1
     replace A : HH g h7 [_, _, _, _, _, _, _, _, _, _] F := (HH.dropF ((((((((((A.front 10 rfl).front 10 rfl).front 10 rfl).front 10 rfl).front 10 rfl).front 10 rfl).front 10 rfl).front 10 rfl).front 10 rfl).front 9 rfl) 10)
     refine at_t1 28 (rowV r4 ((x2 ++ ([x9] : List UInt8)).length)) h7 [(7, h5.size), (5, h2.size), (4, bp0), (1, h.size), (0, h.size)] (h.size :: g.prot) H (fun fr => .of (s_app (s := rowS r1 x2.length) (by kernel_rfl) hx)) (fun fr H => ?_)
     refine at_sl 2 [(30, .ptr (some (bp0, 3)))] H fun fr H => ?_
     obtain ⟨h8, hx, A1⟩ := A.st 2 rfl (o := 3) (new := [rowV r4 ((x2 ++ ([x9] : List UInt8)).length)]) (ds := [.vptr [vs e_S_auto_state p0.a_.l_, .int .i64 p0.a_.first_], .ptr (some (bp0_1, 0)), .int .i64 p0.most_, rowV r4 ((x2 ++ ([x9] : List UInt8)).length), .map (some bp0_4), rowV rp0_5 p0.todo_.length]) (Nat.le_of_ble_eq_true rfl) rfl rfl
     replace A : HH g h8 [_, _, .obj bp0 (.cells none 2 [_, _, _, rowV r4 ((x2 ++ ([x9] : List UInt8)).length), _, _]), _, _, _, _, _, _, _] F := A1
     refine at_t0 (.tuple []) h8 [(7, h5.size), (5, h2.size), (4, bp0), (1, h.size), (0, h.size)] (g.prot) H (fun fr => .of (s_st (by kernel_rfl) rfl hx)) (fun fr H => ?_)
     refine at_nil ?_
     exact .inl ⟨_, _, rfl, injA hm, _, H.ls, A⟩
    refine aw_sk ?_
    exact .inl ⟨_, _, rfl, injA hm, _, H.ls, A⟩
   clear ho
   clear A
   intro e fr h9 hQ
   rcases hQ with ⟨x7, x8, rfl, rfl, r3, H, A⟩ | hF
   ·show AW _ _ _ _ _ _ _
    refine aw_dg 8 11 ?_
    refine at_ll 31 1 0 A H fun fr t H => ?_
    refine at_gl 2 [] 34 2 1 A H fun fr t H => ?_
    refine at_ll 35 9 0 A H fun fr t H => ?_
    obtain ⟨x10, hq1, hm⟩ := bind_some hm
    refine at_g1 4 [(37, .int .u8 (IntKind.u8.wrap x8))] 40 (.ptr (some (bp0_1, 0 + x3.toNat * 1))) h9 H (fun fr => .of (s_ixA (by kernel_rfl) (ixA_big hq1 (bp0_1, 0) 1))) fun fr t H => ?_
    obtain ⟨h10, hx, A1⟩ := HH.stB A 3 (AVal.int .u8) (X := x1) [] ([.int .i64 p0.d_.columns_, rowV rp0_1_2 p0.d_.next_.length, rowV rp0_1_3 p0.d_.ends_.length, rowV rp0_1_4 p0.d_.last_.length, .int .i32 p0.d_.first_, .int .i32 p0.d_.later_, .bool p0.d_.empty_] : List AVal) (off := 0) rfl rfl (i := x3) (IntKind.u8.wrap x8) hq1 rfl
    replace A : HH g h10 [_, _, _, .obj bp0_1 (.cells none 2 (big 256 (AVal.int .u8) (bset x1 x3.toNat (IntKind.u8.wrap x8)) ++ [.int .i64 p0.d_.columns_, rowV rp0_1_2 p0.d_.next_.length, rowV rp0_1_3 p0.d_.ends_.length, rowV rp0_1_4 p0.d_.last_.length, .int .i32 p0.d_.first_, .int .i32 p0.d_.later_, .bool p0.d_.empty_])), _, _, _, _, _, _] F := A1
    refine at_ls hx H fun fr t H => ?_
    refine at_nr 2 id ?_
    refine at_se 2 [(1, .ptr (some (h.size, 0))), (4, .int .i64 (IntKind.i64.wrap (x3 + (1 : Int))))] H fun fr H => ?_
    refine at_nil ?_
    replace A := A.k9 1 2 3 4 5 6 0 7 8
    exact nx hm ⟨_, _, _, rfl, _, H.ls, A⟩
   exact hF.elim
  refine aw_exit (i := 0) (by kernel_rfl) ?_
  exact nr hm fun e => .inl ⟨_, _, rfl, e, _, H.ls, A⟩
 clear ho
 clear A
 intro e fr h11 hQ
 rcases hQ with ⟨x4, x5, rfl, rfl, r2, H, A⟩ | hF
 ·show AW _ _ _ _ _ _ _
  refine aw_dg 10 12 ?_
  refine at_ll 42 0 0 A H fun fr t H => ?_
  refine at_gl 2 [] 45 1 1 A H fun fr t H => ?_
  refine at_ll 46 0 0 A H fun fr t H => ?_
  refine at_gl 2 [] 49 1 3 A H fun fr t H => ?_
  obtain ⟨h12, hx, A1⟩ := A.st 2 rfl (o := 256) (new := [.int .i64 (x5.length : Int)]) (ds := (big 256 (AVal.int .u8) x4 ++ [.int .i64 (x5.length : Int), rowV rp0_1_2 p0.d_.next_.length, rowV rp0_1_3 p0.d_.ends_.length, rowV rp0_1_4 p0.d_.last_.length, .int .i32 p0.d_.first_, .int .i32 p0.d_.later_, .bool p0.d_.empty_])) (Nat.le_of_ble_eq_true (by kernel_rfl)) rfl (by kernel_rfl)
  replace A : HH g h12 [_, _, .obj bp0_1 (.cells none 2 (big 256 (AVal.int .u8) x4 ++ [.int .i64 (x5.length : Int), rowV rp0_1_2 p0.d_.next_.length, rowV rp0_1_3 p0.d_.ends_.length, rowV rp0_1_4 p0.d_.last_.length, .int .i32 p0.d_.first_, .int .i32 p0.d_.later_, .bool p0.d_.empty_])), _, _, _, _, _, _] F := A1
  refine at_gs 3 [] hx H fun fr t H => ?_
  refine at_nil ?_
  obtain ⟨rfl, rfl⟩ := injB hm
  refine ⟨.inr rfl, .tuple [], rH H, ?_⟩
  replace A := A.k8 1 2 3 4 5 6 7 8
  exact ⟨r2, rfl, A⟩
 exact hF.elim
noncomputable def M_dfa_sign_L0 (p0 : List Int) (s : (List UInt8) × Int) : Option (((List UInt8) × Int) ⊕ (((List UInt8)))) :=
 match s with
 | (x1, x2) => iteB (decide (x2 < (p0.length : Int))) ((ixV p0 x2).bind fun x4 => (toY (IntKind.u8.wrap x4)).bind fun x5 => (toY (IntKind.u8.wrap (bShr .i64 x4 (8 : Int)))).bind fun x6 => need (okN 1 (x1.length + ([x5, x6] : List UInt8).length)) <| some (.inl ((x1 ++ ([x5, x6] : List UInt8)), IntKind.i64.wrap (x2 + (1 : Int))))) (some (.inr x1))
noncomputable def M_dfa_sign (p0 : List Int) : Option ((List UInt8)) :=
 (loop (M_dfa_sign_L0 p0) (([] : List UInt8), (0 : Int))).bind fun x3 => some x3
theorem ok_dfa_sign {p0 q0} (hm : M_dfa_sign p0 = some q0) (A : HH g h [] F) (hc : canL (cfg.still 129) av = [vs (eI .i64) p0] := by kernel_rfl) : ∃ v h', Runs cfg g h 129 av v h' ∧ v = .str q0 ∧ HH g h' [] F := by
 refine rq1 23 [.tmp 2] hc ?_
 clear hc
 unfold M_dfa_sign at hm
 refine bg 23 [(0, vs (eI .i64) p0)] fun fr H => ?_
 refine aw_sr 1 ?_
 refine at_es 1 [] 1 H (fun _ => id) fun fr H => ?_
 refine at_el 1 [(3, .slice none 0)] H (fun _ => id) fun fr H => ?_
 refine aw_sq ?_
 refine aw_sr 3 ?_
 refine at_el 3 [(6, vs (eI .i64) p0), (7, .int .i64 (p0.length : Int)), (8, .int .i64 0)] H (fun _ => id) fun fr H => ?_
 refine aw_block (id := 0) (by kernel_rfl) ?_
 replace A : HH g h [.lst none 5 (lst eY ([] : List UInt8))] F := A.nilL 5
 obtain ⟨o1, ho, hm⟩ := bind_some hm
 refine aw_mono (Q' := fun e fr' h' => (∃ x3, e = .exit 0 ∧ x3 = o1 ∧ ∃ r2, Has fr' 23 [(3, rowV r2 x3.length)] ∧ HH g h' [.lst r2 5 (lst eY x3)] F) ∨ False) ?_ ?_
 ·refine aw_loop (by kernel_rfl) (fun (s : (List UInt8) × Int) fr' h' => ∃ x1 x2, (x1, x2) = s ∧ ∃ r1, Has fr' 23 [(3, rowV r1 x1.length), (6, vs (eI .i64) p0), (7, .int .i64 (p0.length : Int)), (8, .int .i64 x2)] ∧ HH g h' [.lst r1 5 (lst eY x1)] F) ho ⟨_, _, rfl, none, H.ls, A⟩ ?_
  clear ho hm H A
  intro s q fr h1 hI hm
  obtain ⟨x1, x2, rfl, r1, H, A⟩ := hI
  unfold M_dfa_sign_L0 at hm
  refine aw_sr 1 ?_
  refine at_el 1 [(9, .bool (decide (x2 < (p0.length : Int))))] H (fun _ => id) fun fr H => ?_
  refine aw_sq ?_
  refine aw_if 9 H hm (fun hb hm H => ?_) fun hb hm H => ?_
  ·refine aw_kn id ?_
   refine aw_sq ?_
   refine aw_block (id := 1) (by kernel_rfl) ?_
   refine aw_sr 3 ?_
   obtain ⟨x4, hx, hm⟩ := bind_some hm
   refine at_l1 10 (.vptr [.int .i64 x4]) h1 H (fun fr => .of (s_ixV (e := (eI .i64)) (x := x4) (encI .i64) (by decide) (by kernel_rfl) hx)) fun fr t H => ?_
   refine at_l1 11 (.int .i64 x4) h1 H (fun fr => .of (s_lv (by kernel_rfl))) fun fr t H => ?_
   refine at_er 1 [(5, .int .i64 x4)] 9 H (fun _ => id) fun fr H => ?_
   refine at_sl 6 [(12, rowV r1 x1.length), (14, .int .u8 (IntKind.u8.wrap x4)), (17, .int .u8 (IntKind.u8.wrap (bShr .i64 x4 (8 : Int))))] H fun fr H => ?_
   obtain ⟨x5, hx, hm⟩ := bind_some hm
   have hx := toY_eq hx
   rw [hx] at H
   obtain ⟨x6, hx, hm⟩ := bind_some hm
   have hx := toY_eq hx
   rw [hx] at H
   obtain ⟨h2, e1, A⟩ := A.pL 5 [.int .u8 (x5.toNat : Int), .int .u8 (x6.toNat : Int)]
   refine at_ln 18 (rowV (some h1.size) (([x5, x6] : List UInt8).length)) e1 H fun fr t H => ?_
   obtain ⟨hb, hm⟩ := need_some hm
   obtain ⟨r3, h3, hx, A1⟩ := HH.appO encY (by decide) A 1 (xs := x1) (ys := ([x5, x6] : List UInt8)) rfl (row_first A 0 rfl (n := ([x5, x6] : List UInt8).length) (z := 1) rfl (by decide)) rfl rfl hb
   replace A : HH g h3 [.lst (some h1.size) 5 ([.int .u8 (x5.toNat : Int), .int .u8 (x6.toNat : Int)]), .lst r3 5 (lst eY (x1 ++ ([x5, x6] : List UInt8)))] F := A1
   replace A := A.k1 1
   refine at_l1 19 _ _ H (fun fr => .of (s_app (s := rowS r1 x1.length) (by kernel_rfl) hx)) fun fr t H => ?_
   refine at_se 1 [(3, rowV r3 ((x1 ++ ([x5, x6] : List UInt8)).length)), (6, vs (eI .i64) p0), (7, .int .i64 (p0.length : Int)), (8, .int .i64 x2)] H fun fr H => ?_
   refine at_nr 2 id ?_
   refine at_se 2 [(3, rowV r3 ((x1 ++ ([x5, x6] : List UInt8)).length)), (6, vs (eI .i64) p0), (7, .int .i64 (p0.length : Int)), (8, .int .i64 (IntKind.i64.wrap (x2 + (1 : Int))))] H fun fr H => ?_
   refine at_nil ?_
   exact nx hm ⟨_, _, rfl, _, H.ls, A⟩
  refine aw_exit (i := 0) (by kernel_rfl) ?_
  exact nr hm fun e => .inl ⟨_, rfl, e, _, H.ls, A⟩
 clear ho
 clear A
 intro e fr h4 hQ
 rcases hQ with ⟨x3, rfl, rfl, r2, H, A⟩ | hF
 ·show AW _ _ _ _ _ _ _
  refine aw_sr 3 ?_
  refine at_sl 1 [(21, rowV r2 x3.length)] H fun fr H => ?_
  refine at_l1 22 (.str x3) h4 H (fun fr => .of (s_byO (xs := x3) A 0 rfl (by kernel_rfl))) fun fr t H => ?_
  refine at_el 1 [(2, .str x3)] H (fun _ => id) fun fr H => ?_
  refine aw_rt ?_
  obtain rfl := injA hm
  refine ⟨.inl rfl, .str x3, rH H, ?_⟩
  replace A := A.d0
  exact ⟨rfl, A⟩
 exact hF.elim
noncomputable def M_auto_Auto_Stops (p0 : S_auto_Auto) (p1 : List Int) (p2 : Bool) : Option (Bool) :=
 (M_auto_Auto_stops p0 p1 false p2).bind fun x1 => some x1
theorem ok_auto_Auto_Stops {p0 p1 p2 q0} (hm : M_auto_Auto_Stops p0 p1 p2 = some q0) (A : HH g h [] F) (hc : canL (cfg.still 130) av = [.vptr [vs e_S_auto_state p0.l_, .int .i64 p0.first_], vs (eI .i64) p1, .bool p2] := by kernel_rfl) : ∃ v h', Runs cfg g h 130 av v h' ∧ v = .bool q0 ∧ HH g h' [] F := by
 refine rq1 11 [.tmp 6] hc ?_
 clear hc
 unfold M_auto_Auto_Stops at hm
 refine bg 11 [(0, .vptr [vs e_S_auto_state p0.l_, .int .i64 p0.first_]), (1, vs (eI .i64) p1), (2, .bool p2)] fun fr H => ?_
 refine aw_sr 1 ?_
 refine at_es 1 [] 5 H (fun _ => id) fun fr H => ?_
 obtain ⟨x1, hx, hm⟩ := bind_some hm
 obtain ⟨v1, h1, hr, rfl, A1⟩ := ok_auto_Auto_stops (av := [.vptr [vs e_S_auto_state p0.l_, .int .i64 p0.first_], vs (eI .i64) p1, .bool false, .bool p2]) hx (A.cut 0)
 replace A := A.g00 A1
 refine at_gc1 3 [] 10 hr H fun fr t H => ?_
 refine at_el 1 [(6, .bool x1)] H (fun _ => id) fun fr H => ?_
 refine aw_rt ?_
 obtain rfl := injA hm
 exact ⟨.inl rfl, _, rH H, rfl, A⟩
noncomputable def M_dfa_maker_state_sPPOOOOOV (p0 : S_dfa_maker) (p1 : List Int) : Option (Int × Bool × (List Bool) × (List Bool) × (List ((List UInt8) × Int)) × (List (List Int))) :=
 iteB ((p1.length : Int) == (0 : Int)) (some ((-1 : Int), true, p0.d_.ends_, p0.d_.last_, p0.seen_, p0.todo_)) ((M_dfa_sign p1).bind fun x1 => iteB ((mfind p0.seen_ x1).isSome) (some (((mfind p0.seen_ x1).getD (0 : Int)), true, p0.d_.ends_, p0.d_.last_, p0.seen_, p0.todo_)) (iteB ((p0.todo_.length : Int) == p0.most_) (some ((0 : Int), false, p0.d_.ends_, p0.d_.last_, p0.seen_, p0.todo_)) (need (okN 24 (p0.todo_.length + ([p1] : List (List Int)).length)) <| (M_auto_Auto_Stops p0.a_ p1 false).bind fun x2 => need (okN 1 (p0.d_.ends_.length + ([x2] : List Bool).length)) <| (M_auto_Auto_Stops p0.a_ p1 true).bind fun x3 => need (okN 1 (p0.d_.last_.length + ([x3] : List Bool).length)) <| some (IntKind.i32.wrap (p0.todo_.length : Int), true, (p0.d_.ends_ ++ ([x2] : List Bool)), (p0.d_.last_ ++ ([x3] : List Bool)), (mput p0.seen_ x1 (IntKind.i32.wrap (p0.todo_.length : Int))), (p0.todo_ ++ ([p1] : List (List Int)))))))
theorem ok_dfa_maker_state_sPPOOOOOV {p0 p1 bp0 bp0_1 rp0_1_2 rp0_1_3 rp0_1_4 rp0_3 bp0_4 rp0_5 q0 q1 u3 u4 u6 u7} (hm : M_dfa_maker_state_sPPOOOOOV p0 p1 = some (q0, q1, u3, u4, u6, u7)) (A : HH g h [.obj bp0 (.cells none 2 [.vptr [vs e_S_auto_state p0.a_.l_, .int .i64 p0.a_.first_], .ptr (some (bp0_1, 0)), .int .i64 p0.most_, rowV rp0_3 p0.byte_.length, .map (some bp0_4), rowV rp0_5 p0.todo_.length]), .obj bp0_1 (.cells none 2 (big 256 (AVal.int .u8) p0.d_.column_ ++ [.int .i64 p0.d_.columns_, rowV rp0_1_2 p0.d_.next_.length, rowV rp0_1_3 p0.d_.ends_.length, rowV rp0_1_4 p0.d_.last_.length, .int .i32 p0.d_.first_, .int .i32 p0.d_.later_, .bool p0.d_.empty_])), .lst rp0_1_2 21 (lst (eI .i32) p0.d_.next_), .lst rp0_1_3 4 (lst eB p0.d_.ends_), .lst rp0_1_4 4 (lst eB p0.d_.last_), .lst rp0_3 5 (lst eY p0.byte_), .obj bp0_4 (.map 2 (encM (fun k : List UInt8 => .str k) (fun v : Int => .int .i32 v) p0.seen_)), .lst rp0_5 171 (lst (eL (eI .i64)) p0.todo_)] F) (hc : canL (cfg.still 94) av = [.ptr (some (bp0, 0)), vs (eI .i64) p1] := by kernel_rfl) : ∃ v h', Runs cfg g h 94 av v h' ∧ ∃ (r'3 : Option Nat) (r'4 : Option Nat) (r'7 : Option Nat), v = .tuple [.int .i32 q0, .bool q1] ∧ HH g h' [.obj bp0 (.cells none 2 [.vptr [vs e_S_auto_state p0.a_.l_, .int .i64 p0.a_.first_], .ptr (some (bp0_1, 0)), .int .i64 p0.most_, rowV rp0_3 p0.byte_.length, .map (some bp0_4), rowV r'7 u7.length]), .obj bp0_1 (.cells none 2 (big 256 (AVal.int .u8) p0.d_.column_ ++ [.int .i64 p0.d_.columns_, rowV rp0_1_2 p0.d_.next_.length, rowV r'3 u3.length, rowV r'4 u4.length, .int .i32 p0.d_.first_, .int .i32 p0.d_.later_, .bool p0.d_.empty_])), .lst rp0_1_2 21 (lst (eI .i32) p0.d_.next_), .lst r'3 4 (lst eB u3), .lst r'4 4 (lst eB u4), .lst rp0_3 5 (lst eY p0.byte_), .obj bp0_4 (.map 2 (encM (fun k : List UInt8 => .str k) (fun v : Int => .int .i32 v) u6)), .lst r'7 171 (lst (eL (eI .i64)) u7)] F := by
 refine rq1 101 [.tmp 4, .tmp 5] hc ?_
 clear hc
 unfold M_dfa_maker_state_sPPOOOOOV at hm
 refine bg 101 [(0, .ptr (some (bp0, 0))), (1, vs (eI .i64) p1)] fun fr H => ?_
 refine aw_sr 2 ?_
 refine at_el 2 [] H (fun _ => id) fun fr H => ?_
 refine aw_sq ?_
 refine aw_sr 3 ?_
 refine at_el 3 [(12, .bool ((p1.length : Int) == (0 : Int)))] H (fun _ => id) fun fr H => ?_
 refine aw_if 12 H hm (fun hb hm H => ?_) fun hb hm H => ?_
 ·refine aw_sr 2 ?_
  refine at_el 2 [(4, .int .i32 (-1)), (5, .bool true)] H (fun _ => id) fun fr H => ?_
  refine aw_rt ?_
  obtain ⟨rfl, rfl, rfl, rfl, rfl, rfl⟩ := inj6 hm
  exact ⟨.inl rfl, _, rH H, _, _, _, rfl, A⟩
 refine aw_ks 3 id ?_
 obtain ⟨x1, hx, hm⟩ := bind_some hm
 obtain ⟨v1, h1, hr, rfl, A1⟩ := ok_dfa_sign (av := [vs (eI .i64) p1]) hx (A.cut 0)
 replace A := A.g00 A1
 refine at_gc1 1 [] 14 hr H fun fr t H => ?_
 refine at_el 1 [(6, .str x1)] H (fun _ => id) fun fr H => ?_
 refine aw_sq ?_
 refine aw_sr 11 ?_
 refine at_gl 3 [] 19 0 4 A H fun fr t H => ?_
 refine at_g1 1 [] 21 (.tuple [.int .i32 ((mfind p0.seen_ x1).getD (0 : Int)), .bool ((mfind p0.seen_ x1).isSome)]) h1 H (fun fr => .of (s_lkT (by kernel_rfl) (HH.mlook (kt := 9) (et := 21) (ek := fun k : List UInt8 => .str k) (ev := fun v : Int => .int .i32 v) (keyS (by kernel_rfl)) A 6 rfl (t := 177) (by kernel_rfl) (z := (0 : Int)) (by kernel_rfl) x1))) fun fr t H => ?_
 refine at_es 5 [(7, .int .i32 ((mfind p0.seen_ x1).getD (0 : Int))), (8, .bool ((mfind p0.seen_ x1).isSome))] 1 H (fun _ => id) fun fr H => ?_
 refine at_el 1 [(24, .bool ((mfind p0.seen_ x1).isSome))] H (fun _ => id) fun fr H => ?_
 refine aw_if 24 H hm (fun hb hm H => ?_) fun hb hm H => ?_
 ·refine aw_sr 3 ?_
  refine at_el 3 [(4, .int .i32 ((mfind p0.seen_ x1).getD (0 : Int))), (5, .bool true)] H (fun _ => id) fun fr H => ?_
  refine aw_rt ?_
  obtain ⟨rfl, rfl, rfl, rfl, rfl, rfl⟩ := inj6 hm
  exact ⟨.inl rfl, _, rH H, _, _, _, rfl, A⟩
 refine aw_kn id ?_
 refine aw_sq ?_
 refine aw_sq ?_
 refine aw_dg 7 10 ?_
 refine at_gl 3 [] 29 0 5 A H fun fr t H => ?_
 refine at_gl 4 [(30, .int .i64 (p0.todo_.length : Int))] 34 0 2 A H fun fr t H => ?_
 refine at_el 1 [(35, .bool ((p0.todo_.length : Int) == p0.most_))] H (fun _ => id) fun fr H => ?_
 refine aw_if 35 H hm (fun hb hm H => ?_) fun hb hm H => ?_
 ·refine aw_sr 2 ?_
  refine at_el 2 [(4, .int .i32 0), (5, .bool false)] H (fun _ => id) fun fr H => ?_
  refine aw_rt ?_
  obtain ⟨rfl, rfl, rfl, rfl, rfl, rfl⟩ := inj6 hm
  exact ⟨.inl rfl, _, rH H, _, _, _, rfl, A⟩
 refine aw_ks 7 id ?_
 refine at_gl 3 [] 39 0 5 A H fun fr t H => ?_
 refine at_es 3 [(9, .int .i32 (IntKind.i32.wrap (p0.todo_.length : Int)))] 7 H (fun _ => id) fun fr H => ?_
 refine at_gl 3 [] 45 0 4 A H fun fr t H => ?_
 refine at_sl 2 [(46, .str x1), (47, .int .i32 (IntKind.i32.wrap (p0.todo_.length : Int)))] H fun fr H => ?_
 obtain ⟨h2, hx, A1⟩ := HH.mset (kt := 9) (et := 21) (ek := fun k : List UInt8 => .str k) (ev := fun v : Int => .int .i32 v) (keyS (by kernel_rfl)) A 6 rfl (t := 177) (by kernel_rfl) x1 (IntKind.i32.wrap (p0.todo_.length : Int))
 replace A : HH g h2 [_, _, _, _, _, _, .obj bp0_4 (.map 2 (encM (fun k : List UInt8 => .str k) (fun v : Int => .int .i32 v) (mput p0.seen_ x1 (IntKind.i32.wrap (p0.todo_.length : Int))))), _] F := A1
 refine at_l0 (.tuple []) h2 H (fun fr => .of (s_ms (by kernel_rfl) hx)) fun fr t H => ?_
 refine at_ns 11 id ?_
 refine at_gl 4 [(48, .ptr (some (bp0, 0)))] 52 0 5 A H fun fr t H => ?_
 refine at_sl 1 [(53, vs (eI .i64) p1)] H fun fr H => ?_
 obtain ⟨h3, e1, A⟩ := A.pL 171 [vs (eI .i64) p1]
 refine at_ln 54 (rowV (some h2.size) (([p1] : List (List Int)).length)) e1 H fun fr t H => ?_
 obtain ⟨hb, hm⟩ := need_some hm
 obtain ⟨r1, h4, hx, A1⟩ := HH.appO (encL _) (by decide) A 8 (xs := p0.todo_) (ys := ([p1] : List (List Int))) rfl (row_first A 0 rfl (n := ([p1] : List (List Int)).length) (z := 1) rfl (by decide)) rfl rfl hb
 replace A : HH g h4 [.lst (some h2.size) 171 ([vs (eI .i64) p1]), _, _, _, _, _, _, _, .lst r1 171 (lst (eL (eI .i64)) (p0.todo_ ++ ([p1] : List (List Int))))] F := A1
 replace A := A.k8 1 2 3 4 5 6 7 8
 refine at_l1 55 _ _ H (fun fr => .of (s_app (s := rowS rp0_5 p0.todo_.length) (by kernel_rfl) hx)) fun fr t H => ?_
 obtain ⟨h5, hx, A1⟩ := A.st 0 rfl (o := 5) (new := [rowV r1 ((p0.todo_ ++ ([p1] : List (List Int))).length)]) (ds := [.vptr [vs e_S_auto_state p0.a_.l_, .int .i64 p0.a_.first_], .ptr (some (bp0_1, 0)), .int .i64 p0.most_, rowV rp0_3 p0.byte_.length, .map (some bp0_4), rowV r1 ((p0.todo_ ++ ([p1] : List (List Int))).length)]) (Nat.le_of_ble_eq_true rfl) rfl rfl
 replace A : HH g h5 [.obj bp0 (.cells none 2 [_, _, _, _, _, rowV r1 ((p0.todo_ ++ ([p1] : List (List Int))).length)]), _, _, _, _, _, _, _] F := A1
 refine at_gs 2 [] hx H fun fr t H => ?_
 refine at_nl id ?_
 refine aw_sq ?_
 refine aw_dw 12 22 [(0, []), (1, []), (2, []), (3, []), (4, []), (5, []), (6, []), (7, []), (8, []), (9, []), (10, []), (11, []), (12, []), (13, []), (14, []), (15, []), (16, [3, 7, 10]), (17, []), (18, [3]), (19, []), (20, []), (21, [])] ?_
 refine at_sl 3 [(60, .ptr (some (bp0, 1)))] H fun fr H => ?_
 refine at_t1 61 (.ptr (some (bp0_1, 0))) h5 [(3, bp0)] (g.prot) H (fun fr => .of (s_ld (by kernel_rfl) (A.l1 0 1))) (fun fr H => ?_)
 refine at_sl 3 [(64, .ptr (some (bp0, 1)))] H fun fr H => ?_
 refine at_t1 65 (.ptr (some (bp0_1, 0))) h5 [(7, bp0), (3, bp0)] (g.prot) H (fun fr => .of (s_ld (by kernel_rfl) (A.l1 0 1))) (fun fr H => ?_)
 refine at_sl 2 [(67, .ptr (some (bp0_1, 258)))] H fun fr H => ?_
 refine at_t1 68 (rowV rp0_1_3 p0.d_.ends_.length) h5 [(10, bp0_1), (7, bp0), (3, bp0)] (g.prot) H (fun fr => .of (s_ld (by kernel_rfl) (A.ld1 1 rfl (o := 258) (by kernel_rfl)))) (fun fr H => ?_)
 refine at_sl 3 [(71, .ptr (some (bp0, 0)))] H fun fr H => ?_
 refine at_t1 72 (.vptr [vs e_S_auto_state p0.a_.l_, .int .i64 p0.a_.first_]) h5 [(14, bp0), (10, bp0_1), (7, bp0), (3, bp0)] (g.prot) H (fun fr => .of (s_ld (by kernel_rfl) (A.l1 0 0))) (fun fr H => ?_)
 refine at_sl 1 [(73, vs (eI .i64) p1)] H fun fr H => ?_
 have A1 := A.prot2 0 (pr := [bp0_1, bp0, bp0]) (.cons 1 rfl (by simp [Ck.ids]) (.cons 0 rfl (by simp [Ck.ids]) (.cons 0 rfl (by simp [Ck.ids]) .nil)))
 obtain ⟨x2, hx, hm⟩ := bind_some hm
 obtain ⟨v1, h6, hr, rfl, A1⟩ := ok_auto_Auto_Stops (av := [.vptr [vs e_S_auto_state p0.a_.l_, .int .i64 p0.a_.first_], vs (eI .i64) p1, .bool false]) hx A1
 replace A := A.p00 A1
 refine at_t1 74 (.bool x2) h6 [(14, bp0), (10, bp0_1), (7, bp0), (3, bp0)] (bp0_1 :: bp0 :: bp0 :: g.prot) H (fun fr => Steps.call (by kernel_rfl) hr) (fun fr H => ?_)
 obtain ⟨h7, e2, A⟩ := A.pL 4 [.bool x2]
 refine at_t1 75 (rowV (some h6.size) (([x2] : List Bool).length)) h7 [(17, h6.size), (14, bp0), (10, bp0_1), (7, bp0), (3, bp0)] (g.prot) H (fun fr => .of (s_n' (by kernel_rfl) (congrArg some e2.symm))) (fun fr H => ?_)
 replace A : HH g h7 [_, .lst (some h6.size) 4 ([.bool x2]), _, _, _, _, _, _, _] F := (A.front 4 rfl)
 have A1 := A.prot2 1 (pr := [bp0]) (.cons 1 rfl (by simp [Ck.ids]) .nil)
 obtain ⟨hb, hm⟩ := need_some hm
 obtain ⟨r2, h8, hx, A1⟩ := HH.appO encB (by decide) A1 0 (xs := p0.d_.ends_) (ys := ([x2] : List Bool)) rfl (row_first A 1 rfl (n := ([x2] : List Bool).length) (z := 1) rfl (by decide)) rfl rfl hb
 replace A := A.p11 A1
 replace A := A.k8 0 2 3 4 5 6 7 8
 refine at_t1 76 (rowV r2 ((p0.d_.ends_ ++ ([x2] : List Bool)).length)) h8 [(17, h6.size), (14, bp0), (10, bp0_1), (7, bp0), (3, bp0)] (bp0 :: g.prot) H (fun fr => .of (s_app (s := rowS rp0_1_3 p0.d_.ends_.length) (by kernel_rfl) hx)) (fun fr H => ?_)
 refine at_sl 2 [(78, .ptr (some (bp0_1, 258)))] H fun fr H => ?_
 obtain ⟨h9, hx, A1⟩ := A.st 2 rfl (o := 258) (new := [rowV r2 ((p0.d_.ends_ ++ ([x2] : List Bool)).length)]) (ds := (big 256 (AVal.int .u8) p0.d_.column_ ++ ([.int .i64 p0.d_.columns_, rowV rp0_1_2 p0.d_.next_.length, rowV r2 ((p0.d_.ends_ ++ ([x2] : List Bool)).length), rowV rp0_1_4 p0.d_.last_.length, .int .i32 p0.d_.first_, .int .i32 p0.d_.later_, .bool p0.d_.empty_]))) (Nat.le_of_ble_eq_true (by kernel_rfl)) rfl (by kernel_rfl)
 replace A : HH g h9 [_, _, .obj bp0_1 (.cells none 2 (big 256 (AVal.int .u8) p0.d_.column_ ++ ([.int .i64 p0.d_.columns_, rowV rp0_1_2 p0.d_.next_.length, rowV r2 ((p0.d_.ends_ ++ ([x2] : List Bool)).length), rowV rp0_1_4 p0.d_.last_.length, .int .i32 p0.d_.first_, .int .i32 p0.d_.later_, .bool p0.d_.empty_]))), _, _, _, _, _] F := A1
 refine at_t0 (.tuple []) h9 [(17, h6.size), (14, bp0), (10, bp0_1), (7, bp0), (3, bp0)] (g.prot) H (fun fr => .of (s_st (by kernel_rfl) rfl hx)) (fun fr H => ?_)
 refine at_nl id ?_
 refine aw_sq ?_
 refine aw_dw 13 22 [(0, []), (1, []), (2, []), (3, []), (4, []), (5, []), (6, []), (7, []), (8, []), (9, []), (10, []), (11, []), (12, []), (13, []), (14, []), (15, []), (16, [3, 7, 10]), (17, []), (18, [3]), (19, []), (20, []), (21, [])] ?_
 refine at_sl 3 [(81, .ptr (some (bp0, 1)))] H fun fr H => ?_
 refine at_t1 82 (.ptr (some (bp0_1, 0))) h9 [(3, bp0)] (g.prot) H (fun fr => .of (s_ld (by kernel_rfl) (A.l1 1 1))) (fun fr H => ?_)
 refine at_sl 3 [(85, .ptr (some (bp0, 1)))] H fun fr H => ?_
 refine at_t1 86 (.ptr (some (bp0_1, 0))) h9 [(7, bp0), (3, bp0)] (g.prot) H (fun fr => .of (s_ld (by kernel_rfl) (A.l1 1 1))) (fun fr H => ?_)
 refine at_sl 2 [(88, .ptr (some (bp0_1, 259)))] H fun fr H => ?_
 refine at_t1 89 (rowV rp0_1_4 p0.d_.last_.length) h9 [(10, bp0_1), (7, bp0), (3, bp0)] (g.prot) H (fun fr => .of (s_ld (by kernel_rfl) (A.ld1 2 rfl (o := 259) (by kernel_rfl)))) (fun fr H => ?_)
 refine at_sl 3 [(92, .ptr (some (bp0, 0)))] H fun fr H => ?_
 refine at_t1 93 (.vptr [vs e_S_auto_state p0.a_.l_, .int .i64 p0.a_.first_]) h9 [(14, bp0), (10, bp0_1), (7, bp0), (3, bp0)] (g.prot) H (fun fr => .of (s_ld (by kernel_rfl) (A.l1 1 0))) (fun fr H => ?_)
 refine at_sl 1 [(94, vs (eI .i64) p1)] H fun fr H => ?_
 have A1 := A.prot2 0 (pr := [bp0_1, bp0, bp0]) (.cons 2 rfl (by simp [Ck.ids]) (.cons 1 rfl (by simp [Ck.ids]) (.cons 1 rfl (by simp [Ck.ids]) .nil)))
 obtain ⟨x3, hx, hm⟩ := bind_some hm
 obtain ⟨v1, h10, hr, rfl, A1⟩ := ok_auto_Auto_Stops (av := [.vptr [vs e_S_auto_state p0.a_.l_, .int .i64 p0.a_.first_], vs (eI .i64) p1, .bool true]) hx A1
 replace A := A.p00 A1
 refine at_t1 95 (.bool x3) h10 [(14, bp0), (10, bp0_1), (7, bp0), (3, bp0)] (bp0_1 :: bp0 :: bp0 :: g.prot) H (fun fr => Steps.call (by kernel_rfl) hr) (fun fr H => ?_)
 obtain ⟨h11, e3, A⟩ := A.pL 4 [.bool x3]
 refine at_t1 96 (rowV (some h10.size) (([x3] : List Bool).length)) h11 [(17, h10.size), (14, bp0), (10, bp0_1), (7, bp0), (3, bp0)] (g.prot) H (fun fr => .of (s_n' (by kernel_rfl) (congrArg some e3.symm))) (fun fr H => ?_)
 replace A : HH g h11 [_, .lst (some h10.size) 4 ([.bool x3]), _, _, _, _, _, _, _] F := (A.front 5 rfl)
 have A1 := A.prot2 1 (pr := [bp0]) (.cons 2 rfl (by simp [Ck.ids]) .nil)
 obtain ⟨hb, hm⟩ := need_some hm
 obtain ⟨r3, h12, hx, A1⟩ := HH.appO encB (by decide) A1 0 (xs := p0.d_.last_) (ys := ([x3] : List Bool)) rfl (row_first A 1 rfl (n := ([x3] : List Bool).length) (z := 1) rfl (by decide)) rfl rfl hb
 replace A := A.p11 A1
 replace A := A.k8 0 2 3 4 5 6 7 8
 refine at_t1 97 (rowV r3 ((p0.d_.last_ ++ ([x3] : List Bool)).length)) h12 [(17, h10.size), (14, bp0), (10, bp0_1), (7, bp0), (3, bp0)] (bp0 :: g.prot) H (fun fr => .of (s_app (s := rowS rp0_1_4 p0.d_.last_.length) (by kernel_rfl) hx)) (fun fr H => ?_)
 refine at_sl 2 [(99, .ptr (some (bp0_1, 259)))] H fun fr H => ?_
 obtain ⟨h13, hx, A1⟩ := A.st 3 rfl (o := 259) (new := [rowV r3 ((p0.d_.last_ ++ ([x3] : List Bool)).length)]) (ds := (big 256 (AVal.int .u8) p0.d_.column_ ++ ([.int .i64 p0.d_.columns_, rowV rp0_1_2 p0.d_.next_.length, rowV r2 ((p0.d_.ends_ ++ ([x2] : List Bool)).length), rowV r3 ((p0.d_.last_ ++ ([x3] : List Bool)).length), .int .i32 p0.d_.first_, .int .i32 p0.d_.later_, .bool p0.d_.empty_]))) (Nat.le_of_ble_eq_true (by kernel_rfl)) rfl (by kernel_rfl)
 replace A : HH g h13 [_, _, _, .obj bp0_1 (.cells none 2 (big 256 (AVal.int .u8) p0.d_.column_ ++ ([.int .i64 p0.d_.columns_, rowV rp0_1_2 p0.d_.next_.length, rowV r2 ((p0.d_.ends_ ++ ([x2] : List Bool)).length), rowV r3 ((p0.d_.last_ ++ ([x3] : List Bool)).length), .int .i32 p0.d_.first_, .int .i32 p0.d_.later_, .bool p0.d_.empty_]))), _, _, _, _] F := A1
 refine at_t0 (.tuple []) h13 [(17, h10.size), (14, bp0), (10, bp0_1), (7, bp0), (3, bp0)] (g.prot) H (fun fr => .of (s_st (by kernel_rfl) rfl hx)) (fun fr H => ?_)
 refine at_ns 3 id ?_
 refine at_el 3 [(4, .int .i32 (IntKind.i32.wrap (p0.todo_.length : Int))), (5, .bool true)] H (fun _ => id) fun fr H => ?_
 refine aw_rt ?_
 obtain ⟨rfl, rfl, rfl, rfl, rfl, rfl⟩ := inj6 hm
 refine ⟨.inl rfl, .tuple [.int .i32 (IntKind.i32.wrap (p0.todo_.length : Int)), .bool true], rH H, ?_⟩
 replace A := A.k8 2 3 4 1 0 5 6 7
 exact ⟨r2, r3, r1, rfl, A⟩
noncomputable def M_dfa_Compile_L1 (p1 : Int) (x1 : S_auto_Auto) (x4 : S_dfa_Dfa) (x5 : List UInt8) (x7 : Int) (x14 : Int) (x25 : Int) (s : (List Int) × (List Bool) × (List Bool) × (List ((List UInt8) × Int)) × (List (List Int)) × Int) : Option (((List Int) × (List Bool) × (List Bool) × (List ((List UInt8) × Int)) × (List (List Int)) × Int) ⊕ (((List Int) × (List Bool) × (List Bool) × (List ((List UInt8) × Int)) × (List (List Int))) ⊕ ((List Int) × (List Bool) × (List Bool) × (List ((List UInt8) × Int)) × (List (List Int)) × Int))) :=
 match s with
 | (x37, x38, x39, x40, x41, x42) => iteB (decide (x42 < (x5.length : Int))) ((ixV x5 x42).bind fun x54 => (ixV x41 x25).bind fun x55 => (M_auto_Auto_Step x1 x55 (x54.toNat : Int)).bind fun x56 => (M_dfa_maker_state_sPPOOOOOV (⟨x1, (⟨x4.column_, x4.columns_, x37, x38, x39, x7, x14, x4.empty_⟩ : S_dfa_Dfa), p1, x5, x40, x41⟩ : S_dfa_maker) x56).bind fun (x57, x58, x59, x60, x61, x62) => iteB (!x58) (some (.inr (.inr (x37, x59, x60, x61, x62, (7 : Int))))) (need (okN 4 (x37.length + ([x57] : List Int).length)) <| some (.inl ((x37 ++ ([x57] : List Int)), x59, x60, x61, x62, IntKind.i64.wrap (x42 + (1 : Int)))))) (some (.inr (.inl (x37, x38, x39, x40, x41))))
noncomputable def M_dfa_Compile_L0 (p1 : Int) (x1 : S_auto_Auto) (x4 : S_dfa_Dfa) (x5 : List UInt8) (x7 : Int) (x14 : Int) (s : (List Int) × (List Bool) × (List Bool) × (List ((List UInt8) × Int)) × (List (List Int)) × Int) : Option (((List Int) × (List Bool) × (List Bool) × (List ((List UInt8) × Int)) × (List (List Int)) × Int) ⊕ (((List Int) × (List Bool) × (List Bool) × (List ((List UInt8) × Int)) × (List (List Int))) ⊕ ((List Int) × (List Bool) × (List Bool) × (List ((List UInt8) × Int)) × (List (List Int)) × Int))) :=
 match s with
 | (x20, x21, x22, x23, x24, x25) => iteB (decide (x25 < (x24.length : Int))) ((loop (M_dfa_Compile_L1 p1 x1 x4 x5 x7 x14 x25) (x20, x21, x22, x23, x24, (0 : Int))).bind fun o2 => (match o2 with | .inl (x43, x44, x45, x46, x47) => some (.inl (x43, x44, x45, x46, x47, IntKind.i64.wrap (x25 + (1 : Int)))) | .inr (x48, x49, x50, x51, x52, x53) => some (.inr (.inr (x48, x49, x50, x51, x52, x53))))) (some (.inr (.inl (x20, x21, x22, x23, x24))))
noncomputable def M_dfa_Compile (p0 : S_tree_Tree) (p1 : Int) : Option ((Option S_dfa_Dfa) × Int) :=
 iteB ((decide (p1 < (1 : Int))) || (decide (p1 > (4096 : Int)))) (some (none, (6 : Int))) ((M_auto_Build p0 (4096 : Int)).bind fun (w2, x2) => (match w2 with | some x1 => iteB (x2 != (0 : Int)) (some (none, x2)) ((M_auto_Auto_Ends x1 ([] : List UInt8) (0 : Int)).bind fun x3 => (M_dfa_maker_split_sPPOOOOO (⟨x1, (⟨big0, (0 : Int), ([] : List Int), ([] : List Bool), ([] : List Bool), (0 : Int), (0 : Int), decide ((x3.length : Int) > (0 : Int))⟩ : S_dfa_Dfa), p1, ([] : List UInt8), ([] : List ((List UInt8) × Int)), ([] : List (List Int))⟩ : S_dfa_maker)).bind fun (x4, x5) => (M_auto_Auto_Start x1 true).bind fun x6 => (M_dfa_maker_state_sPPOOOOOV (⟨x1, (⟨x4.column_, x4.columns_, ([] : List Int), ([] : List Bool), ([] : List Bool), x4.first_, x4.later_, x4.empty_⟩ : S_dfa_Dfa), p1, x5, ([] : List ((List UInt8) × Int)), ([] : List (List Int))⟩ : S_dfa_maker) x6).bind fun (x7, x8, x9, x10, x11, x12) => (M_auto_Auto_Start x1 false).bind fun x13 => (M_dfa_maker_state_sPPOOOOOV (⟨x1, (⟨x4.column_, x4.columns_, ([] : List Int), x9, x10, x7, x4.later_, x4.empty_⟩ : S_dfa_Dfa), p1, x5, x11, x12⟩ : S_dfa_maker) x13).bind fun (x14, x15, x16, x17, x18, x19) => iteB ((!x8) || (!x15)) (some (none, (7 : Int))) ((loop (M_dfa_Compile_L0 p1 x1 x4 x5 x7 x14) (([] : List Int), x16, x17, x18, x19, (0 : Int))).bind fun o1 => (match o1 with | .inl (x26, x27, x28, x29, x30) => some (some (⟨x4.column_, x4.columns_, x26, x27, x28, x7, x14, x4.empty_⟩ : S_dfa_Dfa), (0 : Int)) | .inr (x31, x32, x33, x34, x35, x36) => some (none, x36)))) | none => iteB (x2 != (0 : Int)) (some (none, x2)) (none)))
theorem ok_dfa_Compile {p0 p1 o0 q1} (hm : M_dfa_Compile p0 p1 = some (o0, q1)) (A : HH g h [] F) (hc : canL (cfg.still 46) av = [.agg [vs e_S_tree_Node p0.Nodes, .int .i64 p0.Root], .int .i64 p1] := by kernel_rfl) : ∃ v h', Runs cfg g h 46 av v h' ∧ ((∃ (q0 : S_dfa_Dfa), o0 = some q0 ∧ v = .tuple [.vptr (big 256 (AVal.int .u8) q0.column_ ++ [.int .i64 q0.columns_, vs (eI .i32) q0.next_, vs eB q0.ends_, vs eB q0.last_, .int .i32 q0.first_, .int .i32 q0.later_, .bool q0.empty_]), .int .i64 q1] ∧ HH g h' [] F) ∨ (o0 = none ∧ v = .tuple [.ptr none, .int .i64 q1] ∧ HH g h' [] F)) := by
 refine rq9 131 [.tmp 4, .tmp 5] hc ?_
 clear hc
 unfold M_dfa_Compile at hm
 refine bg 131 [(0, .agg [vs e_S_tree_Node p0.Nodes, .int .i64 p0.Root]), (1, .int .i64 p1)] fun fr H => ?_
 refine aw_sr 3 ?_
 obtain ⟨h1, e1, A⟩ := A.pu (.cells none 2 [vs e_S_tree_Node p0.Nodes, .int .i64 p0.Root])
 refine at_ln 2 (.ptr (some (h.size, 0))) e1 H fun fr t H => ?_
 refine at_el 2 [] H (fun _ => id) fun fr H => ?_
 refine aw_sq ?_
 refine aw_sr 6 ?_
 refine at_sl 3 [(18, .bool (decide (p1 < (1 : Int))))] H fun fr H => ?_
 refine at_cl 3 (fun fr' h' => h1 = h' ∧ Has fr' 131 [(1, .int .i64 p1), (2, .ptr (some (h.size, 0))), (21, .bool ((decide (p1 < (1 : Int))) || (decide (p1 > (4096 : Int)))))]) ?_ ?_
 ·cases hb : (decide (p1 < (1 : Int)) : Bool) with
  | true =>
   replace H := H.kn 18 hb
   refine at_sl 3 [(21, .bool true)] H fun fr H => ?_
   exact at_zb H hb
  | false =>
   replace H := H.kn 18 hb
   refine at_sl 3 [(21, .bool (decide (p1 > (4096 : Int))))] H fun fr H => ?_
   exact at_zb H hb
 intro t fr h' hK
 obtain ⟨e, H⟩ := hK
 subst e
 refine at_nl id ?_
 refine aw_if 21 H hm (fun hb hm H => ?_) fun hb hm H => ?_
 ·refine aw_sr 2 ?_
  refine at_el 2 [(4, .ptr none), (5, .int .i64 6)] H (fun _ => id) fun fr H => ?_
  refine aw_rt ?_
  obtain ⟨rfl, rfl⟩ := injB hm
  refine ⟨.inl rfl, .tuple [.ptr none, .int .i64 6], rH H, ?_⟩
  replace A := A.d0
  refine ⟨.tuple [.ptr none, .int .i64 6], h1, by first | rfl | (simp only [fz4T, fz4P, fzP0, fzPA, fzPR, fzPV, fzPQ, fzPI, fzPB, fzPS, fzPN, fz1Q, fz10, fz1I, fz1B, fz1S, fz1V, fz1N, fzL0, fzL1, Option.map_some] <;> rfl), ?_⟩
  exact .inr ⟨rfl, rfl, A⟩
 refine aw_ks 7 id ?_
 refine at_l1 23 _ _ H (fun fr => .of (s_ldA (by kernel_rfl) (A.ldA 0 rfl (o := 0) (n := 2) ⟨Nat.le_of_ble_eq_true rfl, rfl⟩))) fun fr t H => ?_
 obtain ⟨⟨w2, x2⟩, hx, hm⟩ := bind_some hm
 obtain ⟨v1, h2, hr, hc⟩ := ok_auto_Build (av := [.agg [vs e_S_tree_Node p0.Nodes, .int .i64 p0.Root], .int .i64 4096]) hx (A.cut 0)
 rcases hc with ⟨x1, rfl, rfl, A1⟩ | ⟨rfl, rfl, A1⟩
 ·replace A : HH g h2 [.obj h.size (.cells none 2 [vs e_S_tree_Node p0.Nodes, .int .i64 p0.Root])] F := A.glue0 (n := 0) A1
  refine at_lc1 24 hr H fun fr t H => ?_
  refine at_el 5 [(6, .vptr [vs e_S_auto_state x1.l_, .int .i64 x1.first_]), (7, .int .i64 x2)] H (fun _ => id) fun fr H => ?_
  refine aw_sq ?_
  refine aw_sr 2 ?_
  refine at_el 2 [(28, .bool (x2 != (0 : Int)))] H (fun _ => id) fun fr H => ?_
  refine aw_if 28 H hm (fun hb hm H => ?_) fun hb hm H => ?_
  ·refine aw_sr 3 ?_
   refine at_el 3 [(4, .ptr none), (5, .int .i64 x2)] H (fun _ => id) fun fr H => ?_
   refine aw_rt ?_
   obtain ⟨rfl, rfl⟩ := injB hm
   refine ⟨.inl rfl, .tuple [.ptr none, .int .i64 x2], rH H, ?_⟩
   replace A := A.d0
   refine ⟨.tuple [.ptr none, .int .i64 x2], h2, by first | rfl | (simp only [fz4T, fz4P, fzP0, fzPA, fzPR, fzPV, fzPQ, fzPI, fzPB, fzPS, fzPN, fz1Q, fz10, fz1I, fz1B, fz1S, fz1V, fz1N, fzL0, fzL1, Option.map_some] <;> rfl), ?_⟩
   exact .inr ⟨rfl, rfl, A⟩
  refine aw_ks 12 id ?_
  obtain ⟨x3, hx, hm⟩ := bind_some hm
  obtain ⟨v1, h3, hr, rqw4, rfl, A1⟩ := ok_auto_Auto_Ends (av := [.vptr [vs e_S_auto_state x1.l_, .int .i64 x1.first_], .str ([] : List UInt8), .int .i64 0]) hx (A.cut 0)
  replace A := A.g01 A1
  refine at_gc1 2 [(30, .vptr [vs e_S_auto_state x1.l_, .int .i64 x1.first_])] 32 hr H fun fr t H => ?_
  obtain ⟨h4, e2, A⟩ := A.pu (.cells none 2 (big 256 (AVal.int .u8) big0 ++ [.int .i64 0, .slice none 0, .slice none 0, .slice none 0, .int .i32 0, .int .i32 0, .bool (decide ((x3.length : Int) > (0 : Int)))]))
  refine at_gn 3 [] 36 (.ptr (some (h3.size, 0))) e2 H fun fr t H => ?_
  refine at_sl 1 [(37, .int .i64 p1)] H fun fr H => ?_
  obtain ⟨h5, e3⟩ : ∃ x, x = h4.push (.map 2 []) := ⟨_, rfl⟩
  replace A : HH g h5 [.obj h4.size (.map 2 (encM (fun k : List UInt8 => .str k) (fun v : Int => .int .i32 v) ([] : List ((List UInt8) × Int)))), .obj h3.size (.cells none 2 (big 256 (AVal.int .u8) big0 ++ [.int .i64 0, .slice none 0, .slice none 0, .slice none 0, .int .i32 0, .int .i32 0, .bool (decide ((x3.length : Int) > (0 : Int)))])), _, _] F := (A.push _).to e3
  refine at_ln 38 (.map (some h4.size)) e3 H fun fr t H => ?_
  obtain ⟨h6, e4, A⟩ := A.pu (.cells none 2 [.vptr [vs e_S_auto_state x1.l_, .int .i64 x1.first_], .ptr (some (h3.size, 0)), .int .i64 p1, .slice none 0, .map (some h4.size), .slice none 0])
  refine at_gn 1 [] 40 (.ptr (some (h5.size, 0))) e4 H fun fr t H => ?_
  refine at_es 1 [(8, .ptr (some (h5.size, 0)))] 2 H (fun _ => id) fun fr H => ?_
  replace A : HH g h6 [.lst none 21 (lst (eI .i32) ([] : List Int)), .obj h5.size (.cells none 2 [.vptr [vs e_S_auto_state x1.l_, .int .i64 x1.first_], .ptr (some (h3.size, 0)), .int .i64 p1, .slice none 0, .map (some h4.size), .slice none 0]), _, .obj h3.size (.cells none 2 (big 256 (AVal.int .u8) big0 ++ [.int .i64 0, rowV none (([] : List Int).length), .slice none 0, .slice none 0, .int .i32 0, .int .i32 0, .bool (decide ((x3.length : Int) > (0 : Int)))])), _, _] F := A.nilL 21
  replace A : HH g h6 [.lst none 4 (lst eB ([] : List Bool)), _, _, _, .obj h3.size (.cells none 2 (big 256 (AVal.int .u8) big0 ++ [.int .i64 0, rowV none (([] : List Int).length), rowV none (([] : List Bool).length), .slice none 0, .int .i32 0, .int .i32 0, .bool (decide ((x3.length : Int) > (0 : Int)))])), _, _] F := A.nilL 4
  replace A : HH g h6 [_, _, _, _, _, .obj h3.size (.cells none 2 (big 256 (AVal.int .u8) big0 ++ [.int .i64 0, rowV none (([] : List Int).length), rowV none (([] : List Bool).length), rowV none (([] : List Bool).length), .int .i32 0, .int .i32 0, .bool (decide ((x3.length : Int) > (0 : Int)))])), _, _] F := A.nilL 4
  replace A : HH g h6 [.lst none 5 (lst eY ([] : List UInt8)), _, _, _, .obj h5.size (.cells none 2 [_, _, _, rowV none (([] : List UInt8).length), _, _]), _, _, _, _] F := A.nilL 5
  replace A : HH g h6 [.lst none 171 (lst (eL (eI .i64)) ([] : List (List Int))), _, _, _, _, .obj h5.size (.cells none 2 [_, _, _, _, _, rowV none (([] : List (List Int)).length)]), _, _, _, _] F := A.nilL 171
  replace A : HH g h6 [_, _, _, _, _, _, _, _, _, _] F := ((((((((A.front 0 rfl).front 6 rfl).front 2 rfl).front 3 rfl).front 4 rfl).front 5 rfl).front 7 rfl).front 7 rfl)
  obtain ⟨⟨x4, x5⟩, hx, hm⟩ := bind_some hm
  obtain ⟨v1, h7, hr, r1, rfl, A1⟩ := ok_dfa_maker_split_sPPOOOOO (av := [.ptr (some (h5.size, 0))]) hx (A.cut 8)
  replace A : HH g h7 [.obj h5.size (.cells none 2 [_, _, _, rowV r1 x5.length, _, _]), .obj h3.size (.cells none 2 (big 256 (AVal.int .u8) x4.column_ ++ [.int .i64 x4.columns_, rowV none (([] : List Int).length), rowV none (([] : List Bool).length), rowV none (([] : List Bool).length), .int .i32 x4.first_, .int .i32 x4.later_, .bool x4.empty_])), .lst none 21 (lst (eI .i32) ([] : List Int)), .lst none 4 (lst eB ([] : List Bool)), .lst none 4 (lst eB ([] : List Bool)), .lst r1 5 (lst eY x5), .obj h4.size (.map 2 (encM (fun k : List UInt8 => .str k) (fun v : Int => .int .i32 v) ([] : List ((List UInt8) × Int)))), .lst none 171 (lst (eL (eI .i64)) ([] : List (List Int))), _, _] F := A.glue0 (n := 8) A1
  refine at_gc0 1 [] hr H fun fr t H => ?_
  refine at_ns 2 id ?_
  refine at_el 2 [] H (fun _ => id) fun fr H => ?_
  refine aw_sq ?_
  refine aw_dw 9 15 [(0, []), (1, []), (2, []), (3, []), (4, []), (5, []), (6, [3]), (7, [10003]), (8, []), (9, []), (10, []), (11, []), (12, []), (13, []), (14, [])] ?_
  refine at_sl 3 [(46, .ptr (some (h5.size, 1)))] H fun fr H => ?_
  refine at_t1 47 (.ptr (some (h3.size, 0))) h7 [(3, h5.size)] (g.prot) H (fun fr => .of (s_ld (by kernel_rfl) (A.l1 0 1))) (fun fr H => ?_)
  refine at_sl 2 [(48, .ptr (some (h5.size, 0))), (49, .vptr [vs e_S_auto_state x1.l_, .int .i64 x1.first_])] H fun fr H => ?_
  have A1 := A.prot2 0 (pr := [h5.size]) (.cons 0 rfl (by simp [Ck.ids]) .nil)
  obtain ⟨x6, hx, hm⟩ := bind_some hm
  obtain ⟨v1, h8, hr, rfl, A1⟩ := ok_auto_Auto_Start (av := [.vptr [vs e_S_auto_state x1.l_, .int .i64 x1.first_], .bool true]) hx A1
  replace A := A.p00 A1
  refine at_t1 50 (vs (eI .i64) x6) h8 [(3, h5.size)] (h5.size :: g.prot) H (fun fr => Steps.call (by kernel_rfl) hr) (fun fr H => ?_)
  obtain ⟨⟨x7, x8, x9, x10, x11, x12⟩, hx, hm⟩ := bind_some hm
  obtain ⟨v1, h9, hr, r2, r3, r4, rfl, A1⟩ := ok_dfa_maker_state_sPPOOOOOV (av := [.ptr (some (h5.size, 0)), vs (eI .i64) x6]) hx (A.cut 8)
  replace A : HH g h9 [.obj h5.size (.cells none 2 [_, _, _, _, _, rowV r4 x12.length]), .obj h3.size (.cells none 2 (big 256 (AVal.int .u8) x4.column_ ++ [.int .i64 x4.columns_, rowV none (([] : List Int).length), rowV r2 x9.length, rowV r3 x10.length, .int .i32 x4.first_, .int .i32 x4.later_, .bool x4.empty_])), .lst none 21 (lst (eI .i32) ([] : List Int)), .lst r2 4 (lst eB x9), .lst r3 4 (lst eB x10), .lst r1 5 (lst eY x5), .obj h4.size (.map 2 (encM (fun k : List UInt8 => .str k) (fun v : Int => .int .i32 v) x11)), .lst r4 171 (lst (eL (eI .i64)) x12), _, _] F := A.glue0 (n := 8) A1
  refine at_t1 51 (.tuple [.int .i32 x7, .bool x8]) h9 [(3, h5.size)] (g.prot) H (fun fr => Steps.call (by kernel_rfl) hr) (fun fr H => ?_) (hre := fun fr => reOk_again (j := 3) rfl (re_ld (i := 3) (by kernel_rfl) (A.l1 0 1) (sameV_ptr _ _)) (rfl))
  refine at_sl 5 [(52, .int .i32 x7), (53, .bool x8), (55, .ptr (some (h3.size, 260)))] H fun fr H => ?_
  obtain ⟨h10, hx, A1⟩ := A.st 1 rfl (o := 260) (new := [.int .i32 x7]) (ds := (big 256 (AVal.int .u8) x4.column_ ++ [.int .i64 x4.columns_, rowV none (([] : List Int).length), rowV r2 x9.length, rowV r3 x10.length, .int .i32 x7, .int .i32 x4.later_, .bool x4.empty_])) (Nat.le_of_ble_eq_true (by kernel_rfl)) rfl (by kernel_rfl)
  replace A : HH g h10 [_, .obj h3.size (.cells none 2 (big 256 (AVal.int .u8) x4.column_ ++ [.int .i64 x4.columns_, rowV none (([] : List Int).length), rowV r2 x9.length, rowV r3 x10.length, .int .i32 x7, .int .i32 x4.later_, .bool x4.empty_])), _, _, _, _, _, _, _, _] F := A1
  refine at_t0 (.tuple []) h10 [(3, h5.size)] (g.prot) H (fun fr => .of (s_st (by kernel_rfl) rfl hx)) (fun fr H => ?_)
  refine at_el 1 [(9, .bool x8)] H (fun _ => id) fun fr H => ?_
  refine aw_sq ?_
  refine aw_dw 10 15 [(0, []), (1, []), (2, []), (3, []), (4, []), (5, []), (6, [3]), (7, [10003]), (8, []), (9, []), (10, []), (11, []), (12, []), (13, []), (14, [])] ?_
  refine at_sl 3 [(59, .ptr (some (h5.size, 1)))] H fun fr H => ?_
  refine at_t1 60 (.ptr (some (h3.size, 0))) h10 [(3, h5.size)] (g.prot) H (fun fr => .of (s_ld (by kernel_rfl) (A.l1 0 1))) (fun fr H => ?_)
  refine at_sl 2 [(61, .ptr (some (h5.size, 0))), (62, .vptr [vs e_S_auto_state x1.l_, .int .i64 x1.first_])] H fun fr H => ?_
  have A1 := A.prot2 0 (pr := [h5.size]) (.cons 0 rfl (by simp [Ck.ids]) .nil)
  obtain ⟨x13, hx, hm⟩ := bind_some hm
  obtain ⟨v1, h11, hr, rfl, A1⟩ := ok_auto_Auto_Start (av := [.vptr [vs e_S_auto_state x1.l_, .int .i64 x1.first_], .bool false]) hx A1
  replace A := A.p00 A1
  refine at_t1 63 (vs (eI .i64) x13) h11 [(3, h5.size)] (h5.size :: g.prot) H (fun fr => Steps.call (by kernel_rfl) hr) (fun fr H => ?_)
  obtain ⟨⟨x14, x15, x16, x17, x18, x19⟩, hx, hm⟩ := bind_some hm
  obtain ⟨v1, h12, hr, r5, r6, r7, rfl, A1⟩ := ok_dfa_maker_state_sPPOOOOOV (av := [.ptr (some (h5.size, 0)), vs (eI .i64) x13]) hx (A.cut 8)
  replace A : HH g h12 [.obj h5.size (.cells none 2 [_, _, _, _, _, rowV r7 x19.length]), .obj h3.size (.cells none 2 (big 256 (AVal.int .u8) x4.column_ ++ [.int .i64 x4.columns_, rowV none (([] : List Int).length), rowV r5 x16.length, rowV r6 x17.length, .int .i32 x7, .int .i32 x4.later_, .bool x4.empty_])), .lst none 21 (lst (eI .i32) ([] : List Int)), .lst r5 4 (lst eB x16), .lst r6 4 (lst eB x17), .lst r1 5 (lst eY x5), .obj h4.size (.map 2 (encM (fun k : List UInt8 => .str k) (fun v : Int => .int .i32 v) x18)), .lst r7 171 (lst (eL (eI .i64)) x19), _, _] F := A.glue0 (n := 8) A1
  refine at_t1 64 (.tuple [.int .i32 x14, .bool x15]) h12 [(3, h5.size)] (g.prot) H (fun fr => Steps.call (by kernel_rfl) hr) (fun fr H => ?_) (hre := fun fr => reOk_again (j := 3) rfl (re_ld (i := 3) (by kernel_rfl) (A.l1 0 1) (sameV_ptr _ _)) (rfl))
  refine at_sl 5 [(65, .int .i32 x14), (66, .bool x15), (68, .ptr (some (h3.size, 261)))] H fun fr H => ?_
  obtain ⟨h13, hx, A1⟩ := A.st 1 rfl (o := 261) (new := [.int .i32 x14]) (ds := (big 256 (AVal.int .u8) x4.column_ ++ [.int .i64 x4.columns_, rowV none (([] : List Int).length), rowV r5 x16.length, rowV r6 x17.length, .int .i32 x7, .int .i32 x14, .bool x4.empty_])) (Nat.le_of_ble_eq_true (by kernel_rfl)) rfl (by kernel_rfl)
  replace A : HH g h13 [_, .obj h3.size (.cells none 2 (big 256 (AVal.int .u8) x4.column_ ++ [.int .i64 x4.columns_, rowV none (([] : List Int).length), rowV r5 x16.length, rowV r6 x17.length, .int .i32 x7, .int .i32 x14, .bool x4.empty_])), _, _, _, _, _, _, _, _] F := A1
  refine at_t0 (.tuple []) h13 [(3, h5.size)] (g.prot) H (fun fr => .of (s_st (by kernel_rfl) rfl hx)) (fun fr H => ?_)
  refine at_el 1 [(10, .bool x15)] H (fun _ => id) fun fr H => ?_
  refine aw_sq ?_
  refine aw_sr 6 ?_
  refine at_sl 3 [(71, .bool (!x8))] H fun fr H => ?_
  refine at_cl 3 (fun fr' h' => h13 = h' ∧ Has fr' 131 [(6, .vptr [vs e_S_auto_state x1.l_, .int .i64 x1.first_]), (8, .ptr (some (h5.size, 0))), (74, .bool ((!x8) || (!x15)))]) ?_ ?_
  ·cases hb : (!x8 : Bool) with
   | true =>
    replace H := H.kn 71 hb
    refine at_sl 3 [(74, .bool true)] H fun fr H => ?_
    exact at_zb H hb
   | false =>
    replace H := H.kn 71 hb
    refine at_sl 3 [(74, .bool (!x15))] H fun fr H => ?_
    exact at_zb H hb
  intro t fr h' hK
  obtain ⟨e, H⟩ := hK
  subst e
  refine at_nl id ?_
  refine aw_if 74 H hm (fun hb hm H => ?_) fun hb hm H => ?_
  ·refine aw_sr 2 ?_
   refine at_el 2 [(4, .ptr none), (5, .int .i64 7)] H (fun _ => id) fun fr H => ?_
   refine aw_rt ?_
   obtain ⟨rfl, rfl⟩ := injB hm
   refine ⟨.inl rfl, .tuple [.ptr none, .int .i64 7], rH H, ?_⟩
   replace A := A.d0
   refine ⟨.tuple [.ptr none, .int .i64 7], h13, by first | rfl | (simp only [fz4T, fz4P, fzP0, fzPA, fzPR, fzPV, fzPQ, fzPI, fzPB, fzPS, fzPN, fz1Q, fz10, fz1I, fz1B, fz1S, fz1V, fz1N, fzL0, fzL1, Option.map_some] <;> rfl), ?_⟩
   exact .inr ⟨rfl, rfl, A⟩
  refine aw_kn id ?_
  refine aw_sq ?_
  refine aw_sr 1 ?_
  refine at_el 1 [(11, .int .i64 0)] H (fun _ => id) fun fr H => ?_
  refine aw_block (id := 0) (by kernel_rfl) ?_
  replace A := A.k9 0 1 2 3 4 5 6 7 9
  obtain ⟨o1, ho, hm⟩ := bind_some hm
  refine aw_mono (Q' := fun e fr' h' => (∃ x26 x27 x28 x29 x30, e = .exit 0 ∧ .inl (x26, x27, x28, x29, x30) = o1 ∧ ∃ r12 r13 r14 r15, Has fr' 131 [(8, .ptr (some (h5.size, 0)))] ∧ HH g h' [.obj h5.size (.cells none 2 [.vptr [vs e_S_auto_state x1.l_, .int .i64 x1.first_], .ptr (some (h3.size, 0)), .int .i64 p1, rowV r1 x5.length, .map (some h4.size), rowV r15 x30.length]), .obj h3.size (.cells none 2 (big 256 (AVal.int .u8) x4.column_ ++ [.int .i64 x4.columns_, rowV r12 x26.length, rowV r13 x27.length, rowV r14 x28.length, .int .i32 x7, .int .i32 x14, .bool x4.empty_])), .lst r12 21 (lst (eI .i32) x26), .lst r13 4 (lst eB x27), .lst r14 4 (lst eB x28), .lst r1 5 (lst eY x5), .obj h4.size (.map 2 (encM (fun k : List UInt8 => .str k) (fun v : Int => .int .i32 v) x29)), .lst r15 171 (lst (eL (eI .i64)) x30), .obj h.size (.cells none 2 [vs e_S_tree_Node p0.Nodes, .int .i64 p0.Root])] F) ∨ (∃ x31 x32 x33 x34 x35 x36, e = .ret ∧ .inr (x31, x32, x33, x34, x35, x36) = o1 ∧ ∃ r16 r17 r18 r19, Has fr' 131 [(4, .ptr none), (5, .int .i64 x36)] ∧ HH g h' [.obj h5.size (.cells none 2 [.vptr [vs e_S_auto_state x1.l_, .int .i64 x1.first_], .ptr (some (h3.size, 0)), .int .i64 p1, rowV r1 x5.length, .map (some h4.size), rowV r19 x35.length]), .obj h3.size (.cells none 2 (big 256 (AVal.int .u8) x4.column_ ++ [.int .i64 x4.columns_, rowV r16 x31.length, rowV r17 x32.length, rowV r18 x33.length, .int .i32 x7, .int .i32 x14, .bool x4.empty_])), .lst r16 21 (lst (eI .i32) x31), .lst r17 4 (lst eB x32), .lst r18 4 (lst eB x33), .lst r1 5 (lst eY x5), .obj h4.size (.map 2 (encM (fun k : List UInt8 => .str k) (fun v : Int => .int .i32 v) x34)), .lst r19 171 (lst (eL (eI .i64)) x35), .obj h.size (.cells none 2 [vs e_S_tree_Node p0.Nodes, .int .i64 p0.Root])] F) ∨ False) ?_ ?_
  ·refine aw_loop (by kernel_rfl) (fun (s : (List Int) × (List Bool) × (List Bool) × (List ((List UInt8) × Int)) × (List (List Int)) × Int) fr' h' => ∃ x20 x21 x22 x23 x24 x25, (x20, x21, x22, x23, x24, x25) = s ∧ ∃ r8 r9 r10 r11, Has fr' 131 [(6, .vptr [vs e_S_auto_state x1.l_, .int .i64 x1.first_]), (8, .ptr (some (h5.size, 0))), (11, .int .i64 x25)] ∧ HH g h' [.obj h5.size (.cells none 2 [.vptr [vs e_S_auto_state x1.l_, .int .i64 x1.first_], .ptr (some (h3.size, 0)), .int .i64 p1, rowV r1 x5.length, .map (some h4.size), rowV r11 x24.length]), .obj h3.size (.cells none 2 (big 256 (AVal.int .u8) x4.column_ ++ [.int .i64 x4.columns_, rowV r8 x20.length, rowV r9 x21.length, rowV r10 x22.length, .int .i32 x7, .int .i32 x14, .bool x4.empty_])), .lst r8 21 (lst (eI .i32) x20), .lst r9 4 (lst eB x21), .lst r10 4 (lst eB x22), .lst r1 5 (lst eY x5), .obj h4.size (.map 2 (encM (fun k : List UInt8 => .str k) (fun v : Int => .int .i32 v) x23)), .lst r11 171 (lst (eL (eI .i64)) x24), .obj h.size (.cells none 2 [vs e_S_tree_Node p0.Nodes, .int .i64 p0.Root])] F) ho ⟨_, _, _, _, _, _, rfl, none, _, _, _, H.ls, A⟩ ?_
   clear ho hm H A
   intro s q fr h14 hI hm
   obtain ⟨x20, x21, x22, x23, x24, x25, rfl, r8, r9, r10, r11, H, A⟩ := hI
   unfold M_dfa_Compile_L0 at hm
   refine aw_sq ?_
   refine aw_sr 7 ?_
   refine at_gl 4 [(75, .int .i64 x25)] 79 0 5 A H fun fr t H => ?_
   refine at_el 2 [(81, .bool (decide (x25 < (x24.length : Int))))] H (fun _ => id) fun fr H => ?_
   refine aw_if 81 H hm (fun hb hm H => ?_) fun hb hm H => ?_
   ·refine aw_kn id ?_
    refine aw_sq ?_
    refine aw_block (id := 1) (by kernel_rfl) ?_
    refine aw_sr 6 ?_
    refine at_gl 3 [] 87 0 3 A H fun fr t H => ?_
    refine at_el 2 [(88, .int .i64 (x5.length : Int)), (89, .int .i64 0)] H (fun _ => id) fun fr H => ?_
    refine aw_block (id := 2) (by kernel_rfl) ?_
    obtain ⟨o2, ho, hm⟩ := bind_some hm
    refine aw_mono (Q' := fun e fr' h' => (∃ x43 x44 x45 x46 x47, e = .exit 2 ∧ .inl (x43, x44, x45, x46, x47) = o2 ∧ ∃ r24 r25 r26 r27, Has fr' 131 [(6, .vptr [vs e_S_auto_state x1.l_, .int .i64 x1.first_]), (8, .ptr (some (h5.size, 0))), (11, .int .i64 x25)] ∧ HH g h' [.obj h5.size (.cells none 2 [.vptr [vs e_S_auto_state x1.l_, .int .i64 x1.first_], .ptr (some (h3.size, 0)), .int .i64 p1, rowV r1 x5.length, .map (some h4.size), rowV r27 x47.length]), .obj h3.size (.cells none 2 (big 256 (AVal.int .u8) x4.column_ ++ [.int .i64 x4.columns_, rowV r24 x43.length, rowV r25 x44.length, rowV r26 x45.length, .int .i32 x7, .int .i32 x14, .bool x4.empty_])), .lst r24 21 (lst (eI .i32) x43), .lst r25 4 (lst eB x44), .lst r26 4 (lst eB x45), .lst r1 5 (lst eY x5), .obj h4.size (.map 2 (encM (fun k : List UInt8 => .str k) (fun v : Int => .int .i32 v) x46)), .lst r27 171 (lst (eL (eI .i64)) x47), .obj h.size (.cells none 2 [vs e_S_tree_Node p0.Nodes, .int .i64 p0.Root])] F) ∨ (∃ x48 x49 x50 x51 x52 x53, e = .ret ∧ .inr (x48, x49, x50, x51, x52, x53) = o2 ∧ ∃ r28 r29 r30 r31, Has fr' 131 [(4, .ptr none), (5, .int .i64 x53)] ∧ HH g h' [.obj h5.size (.cells none 2 [.vptr [vs e_S_auto_state x1.l_, .int .i64 x1.first_], .ptr (some (h3.size, 0)), .int .i64 p1, rowV r1 x5.length, .map (some h4.size), rowV r31 x52.length]), .obj h3.size (.cells none 2 (big 256 (AVal.int .u8) x4.column_ ++ [.int .i64 x4.columns_, rowV r28 x48.length, rowV r29 x49.length, rowV r30 x50.length, .int .i32 x7, .int .i32 x14, .bool x4.empty_])), .lst r28 21 (lst (eI .i32) x48), .lst r29 4 (lst eB x49), .lst r30 4 (lst eB x50), .lst r1 5 (lst eY x5), .obj h4.size (.map 2 (encM (fun k : List UInt8 => .str k) (fun v : Int => .int .i32 v) x51)), .lst r31 171 (lst (eL (eI .i64)) x52), .obj h.size (.cells none 2 [vs e_S_tree_Node p0.Nodes, .int .i64 p0.Root])] F) ∨ False) ?_ ?_
    ·refine aw_loop (by kernel_rfl) (fun (s : (List Int) × (List Bool) × (List Bool) × (List ((List UInt8) × Int)) × (List (List Int)) × Int) fr' h' => ∃ x37 x38 x39 x40 x41 x42, (x37, x38, x39, x40, x41, x42) = s ∧ ∃ r20 r21 r22 r23, Has fr' 131 [(6, .vptr [vs e_S_auto_state x1.l_, .int .i64 x1.first_]), (8, .ptr (some (h5.size, 0))), (11, .int .i64 x25), (87, rowV r1 x5.length), (88, .int .i64 (x5.length : Int)), (89, .int .i64 x42)] ∧ HH g h' [.obj h5.size (.cells none 2 [.vptr [vs e_S_auto_state x1.l_, .int .i64 x1.first_], .ptr (some (h3.size, 0)), .int .i64 p1, rowV r1 x5.length, .map (some h4.size), rowV r23 x41.length]), .obj h3.size (.cells none 2 (big 256 (AVal.int .u8) x4.column_ ++ [.int .i64 x4.columns_, rowV r20 x37.length, rowV r21 x38.length, rowV r22 x39.length, .int .i32 x7, .int .i32 x14, .bool x4.empty_])), .lst r20 21 (lst (eI .i32) x37), .lst r21 4 (lst eB x38), .lst r22 4 (lst eB x39), .lst r1 5 (lst eY x5), .obj h4.size (.map 2 (encM (fun k : List UInt8 => .str k) (fun v : Int => .int .i32 v) x40)), .lst r23 171 (lst (eL (eI .i64)) x41), .obj h.size (.cells none 2 [vs e_S_tree_Node p0.Nodes, .int .i64 p0.Root])] F) ho ⟨_, _, _, _, _, _, rfl, _, _, _, _, H.ls, A⟩ ?_
     clear ho hm H A
     intro s q fr h15 hI hm
     obtain ⟨x37, x38, x39, x40, x41, x42, rfl, r20, r21, r22, r23, H, A⟩ := hI
     unfold M_dfa_Compile_L1 at hm
     refine aw_sr 1 ?_
     refine at_el 1 [(90, .bool (decide (x42 < (x5.length : Int))))] H (fun _ => id) fun fr H => ?_
     refine aw_sq ?_
     refine aw_if 90 H hm (fun hb hm H => ?_) fun hb hm H => ?_
     ·refine aw_kn id ?_
      refine aw_sq ?_
      refine aw_block (id := 3) (by kernel_rfl) ?_
      refine aw_sr 3 ?_
      obtain ⟨x54, hx, hm⟩ := bind_some hm
      obtain ⟨i1, er1, _, hx, hq1⟩ := HH.ixO encY (by decide) A 5 (xs := x5) rfl hx
      refine at_l1 91 (.ptr (some (i1, x42.toNat * 1))) h15 H (fun fr => .of (s_ixL (s := rowS r1 x5.length) (by kernel_rfl) hx)) fun fr t H => ?_
      refine at_l1 92 _ _ H (fun fr => .of (s_ld (by kernel_rfl) (row_ld1 encY (HH.row A 5 rfl er1) hq1 (o := 0) rfl))) fun fr t H => ?_
      refine at_es 1 [(13, .int .u8 (x54.toNat : Int))] 17 H (fun _ => id) fun fr H => ?_
      refine at_gl 5 [(94, .ptr (some (h5.size, 0))), (95, .vptr [vs e_S_auto_state x1.l_, .int .i64 x1.first_])] 99 0 5 A H fun fr t H => ?_
      obtain ⟨x55, hx, hm⟩ := bind_some hm
      obtain ⟨i2, er2, _, hx, hq2⟩ := HH.ixO (encL _) (by decide) A 7 (xs := x41) rfl hx
      refine at_g1 1 [] 101 (.ptr (some (i2, x25.toNat * 1))) h15 H (fun fr => .of (s_ixL (s := rowS r23 x41.length) (by kernel_rfl) hx)) fun fr t H => ?_
      refine at_l1 102 _ _ H (fun fr => .of (s_ld (by kernel_rfl) (row_ld1 (encL _) (HH.row A 7 rfl er2) hq2 (o := 0) rfl))) fun fr t H => ?_
      obtain ⟨x56, hx, hm⟩ := bind_some hm
      obtain ⟨v1, h16, hr, rfl, A1⟩ := ok_auto_Auto_Step (av := [.vptr [vs e_S_auto_state x1.l_, .int .i64 x1.first_], vs (eI .i64) x55, .int .u8 (x54.toNat : Int)]) hx (A.cut 0)
      replace A := A.g00 A1
      refine at_gc1 1 [] 104 hr H fun fr t H => ?_
      obtain ⟨⟨x57, x58, x59, x60, x61, x62⟩, hx, hm⟩ := bind_some hm
      obtain ⟨v1, h17, hr, r32, r33, r34, rfl, A1⟩ := ok_dfa_maker_state_sPPOOOOOV (av := [.ptr (some (h5.size, 0)), vs (eI .i64) x56]) hx (A.cut 8)
      replace A : HH g h17 [.obj h5.size (.cells none 2 [_, _, _, _, _, rowV r34 x62.length]), .obj h3.size (.cells none 2 (big 256 (AVal.int .u8) x4.column_ ++ [.int .i64 x4.columns_, rowV r20 x37.length, rowV r32 x59.length, rowV r33 x60.length, .int .i32 x7, .int .i32 x14, .bool x4.empty_])), .lst r20 21 (lst (eI .i32) x37), .lst r32 4 (lst eB x59), .lst r33 4 (lst eB x60), .lst r1 5 (lst eY x5), .obj h4.size (.map 2 (encM (fun k : List UInt8 => .str k) (fun v : Int => .int .i32 v) x61)), .lst r34 171 (lst (eL (eI .i64)) x62), _] F := A.glue0 (n := 8) A1
      refine at_lc1 105 hr H fun fr t H => ?_
      refine at_el 5 [(14, .int .i32 x57), (15, .bool x58)] H (fun _ => id) fun fr H => ?_
      refine aw_sq ?_
      refine aw_sr 2 ?_
      refine at_el 2 [(109, .bool (!x58))] H (fun _ => id) fun fr H => ?_
      refine aw_if 109 H hm (fun hb hm H => ?_) fun hb hm H => ?_
      ·refine aw_sr 2 ?_
       refine at_el 2 [(4, .ptr none), (5, .int .i64 7)] H (fun _ => id) fun fr H => ?_
       refine aw_rt ?_
       exact nr hm fun e => Or.inr (.inl ⟨_, _, _, _, _, _, rfl, e, _, _, _, _, H.ls, A⟩)
      refine aw_kn id ?_
      refine aw_dw 22 17 [(0, []), (1, []), (2, []), (3, []), (4, []), (5, []), (6, []), (7, []), (8, []), (9, []), (10, []), (11, []), (12, []), (13, [3]), (14, []), (15, []), (16, [])] ?_
      refine at_sl 3 [(112, .ptr (some (h5.size, 1)))] H fun fr H => ?_
      refine at_t1 113 (.ptr (some (h3.size, 0))) h17 [(3, h5.size)] (g.prot) H (fun fr => .of (s_ld (by kernel_rfl) (A.l1 0 1))) (fun fr H => ?_)
      refine at_sl 3 [(116, .ptr (some (h5.size, 1)))] H fun fr H => ?_
      refine at_t1 117 (.ptr (some (h3.size, 0))) h17 [(7, h5.size), (3, h5.size)] (g.prot) H (fun fr => .of (s_ld (by kernel_rfl) (A.l1 0 1))) (fun fr H => ?_)
      refine at_sl 2 [(119, .ptr (some (h3.size, 257)))] H fun fr H => ?_
      refine at_t1 120 (rowV r20 x37.length) h17 [(10, h3.size), (7, h5.size), (3, h5.size)] (g.prot) H (fun fr => .of (s_ld (by kernel_rfl) (A.ld1 1 rfl (o := 257) (by kernel_rfl)))) (fun fr H => ?_)
      refine at_sl 1 [(121, .int .i32 x57)] H fun fr H => ?_
      obtain ⟨h18, e5, A⟩ := A.pL 21 [.int .i32 x57]
      refine at_t1 122 (rowV (some h17.size) (([x57] : List Int).length)) h18 [(12, h17.size), (10, h3.size), (7, h5.size), (3, h5.size)] (g.prot) H (fun fr => .of (s_n' (by kernel_rfl) (congrArg some e5.symm))) (fun fr H => ?_)
      replace A : HH g h18 [_, .lst (some h17.size) 21 ([.int .i32 x57]), _, _, _, _, _, _, _, _] F := (A.front 3 rfl)
      have A1 := A.prot2 1 (pr := [h5.size]) (.cons 1 rfl (by simp [Ck.ids]) .nil)
      obtain ⟨hb, hm⟩ := need_some hm
      obtain ⟨r35, h19, hx, A1⟩ := HH.appO (encI .i32) (by decide) A1 0 (xs := x37) (ys := ([x57] : List Int)) rfl (row_first A 1 rfl (n := ([x57] : List Int).length) (z := 1) rfl (by decide)) rfl rfl hb
      replace A := A.p11 A1
      replace A := A.k9 0 2 3 4 5 6 7 8 9
      refine at_t1 123 (rowV r35 ((x37 ++ ([x57] : List Int)).length)) h19 [(12, h17.size), (10, h3.size), (7, h5.size), (3, h5.size)] (h5.size :: g.prot) H (fun fr => .of (s_app (s := rowS r20 x37.length) (by kernel_rfl) hx)) (fun fr H => ?_)
      refine at_sl 2 [(125, .ptr (some (h3.size, 257)))] H fun fr H => ?_
      obtain ⟨h20, hx, A1⟩ := A.st 2 rfl (o := 257) (new := [rowV r35 ((x37 ++ ([x57] : List Int)).length)]) (ds := (big 256 (AVal.int .u8) x4.column_ ++ ([.int .i64 x4.columns_, rowV r35 ((x37 ++ ([x57] : List Int)).length), rowV r32 x59.length, rowV r33 x60.length, .int .i32 x7, .int .i32 x14, .bool x4.empty_]))) (Nat.le_of_ble_eq_true (by kernel_rfl)) rfl (by kernel_rfl)
      replace A : HH g h20 [_, _, .obj h3.size (.cells none 2 (big 256 (AVal.int .u8) x4.column_ ++ ([.int .i64 x4.columns_, rowV r35 ((x37 ++ ([x57] : List Int)).length), rowV r32 x59.length, rowV r33 x60.length, .int .i32 x7, .int .i32 x14, .bool x4.empty_]))), _, _, _, _, _, _] F := A1
      refine at_t0 (.tuple []) h20 [(12, h17.size), (10, h3.size), (7, h5.size), (3, h5.size)] (g.prot) H (fun fr => .of (s_st (by kernel_rfl) rfl hx)) (fun fr H => ?_)
      refine at_nr 2 id ?_
      refine at_se 2 [(6, .vptr [vs e_S_auto_state x1.l_, .int .i64 x1.first_]), (8, .ptr (some (h5.size, 0))), (11, .int .i64 x25), (87, rowV r1 x5.length), (88, .int .i64 (x5.length : Int)), (89, .int .i64 (IntKind.i64.wrap (x42 + (1 : Int))))] H fun fr H => ?_
      refine at_nil ?_
      replace A := A.k9 1 2 0 3 4 5 6 7 8
      exact nx hm ⟨_, _, _, _, _, _, rfl, _, _, _, _, H.ls, A⟩
     refine aw_exit (i := 2) (by kernel_rfl) ?_
     exact nr hm fun e => .inl ⟨_, _, _, _, _, rfl, e, _, _, _, _, H.ls, A⟩
    clear ho
    clear A
    intro e fr h21 hQ
    rcases hQ with ⟨x43, x44, x45, x46, x47, rfl, rfl, r24, r25, r26, r27, H, A⟩ | ⟨x48, x49, x50, x51, x52, x53, rfl, rfl, r28, r29, r30, r31, H, A⟩ | hF
    ·show AW _ _ _ _ _ _ _
     refine aw_rg 3 ?_
     refine at_se 3 [(6, .vptr [vs e_S_auto_state x1.l_, .int .i64 x1.first_]), (8, .ptr (some (h5.size, 0))), (11, .int .i64 (IntKind.i64.wrap (x25 + (1 : Int))))] H fun fr H => ?_
     refine at_nil ?_
     exact nx hm ⟨_, _, _, _, _, _, rfl, _, _, _, _, H.ls, A⟩
    ·exact nr hm fun e => Or.inr (.inl ⟨_, _, _, _, _, _, rfl, e, _, _, _, _, H.ls, A⟩)
    exact hF.elim
   refine aw_exit (i := 0) (by kernel_rfl) ?_
   exact nr hm fun e => .inl ⟨_, _, _, _, _, rfl, e, _, _, _, _, H.ls, A⟩
  clear ho
  clear A
  intro e fr h22 hQ
  rcases hQ with ⟨x26, x27, x28, x29, x30, rfl, rfl, r12, r13, r14, r15, H, A⟩ | ⟨x31, x32, x33, x34, x35, x36, rfl, rfl, r16, r17, r18, r19, H, A⟩ | hF
  ·show AW _ _ _ _ _ _ _
   refine aw_sr 6 ?_
   refine at_gl 3 [] 130 0 1 A H fun fr t H => ?_
   refine at_el 2 [(4, .ptr (some (h3.size, 0))), (5, .int .i64 0)] H (fun _ => id) fun fr H => ?_
   refine aw_rt ?_
   obtain ⟨rfl, rfl⟩ := injB hm
   refine ⟨.inl rfl, .tuple [.ptr (some (h3.size, 0)), .int .i64 0], rH H, ?_⟩
   replace A := A.k4 1 2 3 4
   obtain ⟨h23, A1, hy0⟩ := (A.front 0 rfl).frzB
   replace A : HH g h23 [_, _, _] F := A1
   obtain ⟨h24, hz1, A1⟩ := (A.front 0 rfl).frz (n := x26.length) (z := 1) ((encI .i32).lenL _) (by decide)
   replace A : HH g h24 [_, _] F := A1
   obtain ⟨h25, hz2, A1⟩ := (A.front 0 rfl).frz (n := x27.length) (z := 1) (encB.lenL _) (by decide)
   replace A : HH g h25 [_] F := A1
   obtain ⟨h26, hz3, A1⟩ := (A.front 0 rfl).frz (n := x28.length) (z := 1) (encB.lenL _) (by decide)
   replace A : HH g h26 [] F := A1
   have hz0 := hy0 (big 256 (AVal.int .u8) x4.column_ ++ [.int .i64 x4.columns_, vs (eI .i32) x26, vs eB x27, vs eB x28, .int .i32 x7, .int .i32 x14, .bool x4.empty_]) h26 (by simp only [fz4T, fz4P, fzP0, fzPA, fzPR, fzPV, fzPQ, fzPI, fzPB, fzPS, fzPN, fz1Q, fz10, fz1I, fz1B, fz1S, fz1V, fz1N, fzL0, fzL1, Option.map_some, frzL_big, frzL_one, hz1, hz2, hz3] <;> rfl)
   refine ⟨.tuple [.vptr (big 256 (AVal.int .u8) x4.column_ ++ [.int .i64 x4.columns_, vs (eI .i32) x26, vs eB x27, vs eB x28, .int .i32 x7, .int .i32 x14, .bool x4.empty_]), .int .i64 0], h26, by first | rfl | (simp only [fz4T, fz4P, fzP0, fzPA, fzPR, fzPV, fzPQ, fzPI, fzPB, fzPS, fzPN, fz1Q, fz10, fz1I, fz1B, fz1S, fz1V, fz1N, fzL0, fzL1, Option.map_some, frzL_big, frzL_one, hz0, hz1, hz2, hz3] <;> rfl), ?_⟩
   exact .inl ⟨(⟨x4.column_, x4.columns_, x26, x27, x28, x7, x14, x4.empty_⟩ : S_dfa_Dfa), rfl, rfl, A⟩
  ·obtain ⟨rfl, rfl⟩ := injB hm
   refine ⟨.inl rfl, .tuple [.ptr none, .int .i64 x36], rH H, ?_⟩
   replace A := A.d0
   refine ⟨.tuple [.ptr none, .int .i64 x36], h22, by first | rfl | (simp only [fz4T, fz4P, fzP0, fzPA, fzPR, fzPV, fzPQ, fzPI, fzPB, fzPS, fzPN, fz1Q, fz10, fz1I, fz1B, fz1S, fz1V, fz1N, fzL0, fzL1, Option.map_some] <;> rfl), ?_⟩
   exact .inr ⟨rfl, rfl, A⟩
  exact hF.elim
 replace A : HH g h2 [.obj h.size (.cells none 2 [vs e_S_tree_Node p0.Nodes, .int .i64 p0.Root])] F := A.glue0 (n := 0) A1
 refine at_lc1 24 hr H fun fr t H => ?_
 refine at_el 5 [(6, .ptr none), (7, .int .i64 x2)] H (fun _ => id) fun fr H => ?_
 refine aw_sq ?_
 refine aw_sr 2 ?_
 refine at_el 2 [(28, .bool (x2 != (0 : Int)))] H (fun _ => id) fun fr H => ?_
 refine aw_if 28 H hm (fun hb hm H => ?_) fun hb hm H => ?_
 ·refine aw_sr 3 ?_
  refine at_el 3 [(4, .ptr none), (5, .int .i64 x2)] H (fun _ => id) fun fr H => ?_
  refine aw_rt ?_
  obtain ⟨rfl, rfl⟩ := injB hm
  refine ⟨.inl rfl, .tuple [.ptr none, .int .i64 x2], rH H, ?_⟩
  replace A := A.d0
  refine ⟨.tuple [.ptr none, .int .i64 x2], h2, by first | rfl | (simp only [fz4T, fz4P, fzP0, fzPA, fzPR, fzPV, fzPQ, fzPI, fzPB, fzPS, fzPN, fz1Q, fz10, fz1I, fz1B, fz1S, fz1V, fz1N, fzL0, fzL1, Option.map_some] <;> rfl), ?_⟩
  exact .inr ⟨rfl, rfl, A⟩
 refine aw_ks 12 id ?_
 cases hm
noncomputable def M_scope_names (p0 : S_rewrite_Expr) : Option (Bool) :=
 some p0.Names
theorem ok_scope_names {p0 q0} (hm : M_scope_names p0 = some q0) (A : HH g h [] F) (hc : canL (cfg.still 52) av = [.agg (e_S_rewrite_Expr p0)] := by kernel_rfl) : ∃ v h', Runs cfg g h 52 av v h' ∧ v = .bool q0 ∧ HH g h' [] F := by
 refine rq1 5 [.tmp 2] hc ?_
 clear hc
 unfold M_scope_names at hm
 refine bg 5 [(0, .agg (e_S_rewrite_Expr p0))] fun fr H => ?_
 refine aw_sr 2 ?_
 obtain ⟨h1, e1, A⟩ := A.pu (.cells none 2 (e_S_rewrite_Expr p0))
 refine at_ln 1 (.ptr (some (h.size, 0))) e1 H fun fr t H => ?_
 refine at_es 1 [] 3 H (fun _ => id) fun fr H => ?_
 refine at_gl 1 [] 4 0 6 A H fun fr t H => ?_
 refine at_el 1 [(2, .bool p0.Names)] H (fun _ => id) fun fr H => ?_
 refine aw_rt ?_
 obtain rfl := injA hm
 refine ⟨.inl rfl, .bool p0.Names, rH H, ?_⟩
 replace A := A.d0
 exact ⟨rfl, A⟩
noncomputable def M_rewrite_Rule_chosen (p0 : S_rewrite_Rule) (p1 : Int) : Option (Bool) :=
 some ((p1 == p0.x_.Number) || (p0.x_.Global && (decide (p1 > p0.x_.Number))))
theorem ok_rewrite_Rule_chosen {p0 p1 q0} (hm : M_rewrite_Rule_chosen p0 p1 = some q0) (A : HH g h [] F) (hc : canL (cfg.still 48) av = [.vptr (e_S_rewrite_Rule p0), .int .i64 p1] := by kernel_rfl) : ∃ v h', Runs cfg g h 48 av v h' ∧ v = .bool q0 ∧ HH g h' [] F := by
 refine rq1 28 [.tmp 4] hc ?_
 clear hc
 unfold M_rewrite_Rule_chosen at hm
 refine bg 28 [(0, .vptr (e_S_rewrite_Rule p0)), (1, .int .i64 p1)] fun fr H => ?_
 refine aw_sr 1 ?_
 refine at_es 1 [] 24 H (fun _ => id) fun fr H => ?_
 refine at_g1 5 [(5, .int .i64 p1)] 10 (.int .i64 p0.x_.Number) h H (fun fr => .of (s_lv (by kernel_rfl))) fun fr t H => ?_
 refine at_sl 2 [(12, .bool (p1 == p0.x_.Number))] H fun fr H => ?_
 refine at_cl 15 (fun fr' h' => h = h' ∧ Has fr' 28 [(27, .bool ((p1 == p0.x_.Number) || (p0.x_.Global && (decide (p1 > p0.x_.Number)))))]) ?_ ?_
 ·cases hb : (p1 == p0.x_.Number : Bool) with
  | true =>
   replace H := H.kn 12 hb
   refine at_sl 15 [(27, .bool true)] H fun fr H => ?_
   exact at_zb H hb
  | false =>
   replace H := H.kn 12 hb
   refine at_g1 4 [] 17 (.bool p0.x_.Global) h H (fun fr => .of (s_lv (by kernel_rfl))) fun fr t H => ?_
   refine at_sl 1 [(18, .bool p0.x_.Global)] H fun fr H => ?_
   refine at_cl 8 (fun fr' h' => h = h' ∧ Has fr' 28 [(12, .bool false), (26, .bool (p0.x_.Global && (decide (p1 > p0.x_.Number))))]) ?_ ?_
   ·cases hb : (p0.x_.Global : Bool) with
    | true =>
     replace H := H.kn 18 hb
     refine at_g1 5 [(19, .int .i64 p1)] 24 (.int .i64 p0.x_.Number) h H (fun fr => .of (s_lv (by kernel_rfl))) fun fr t H => ?_
     refine at_sl 2 [(26, .bool (decide (p1 > p0.x_.Number)))] H fun fr H => ?_
     exact at_zb H hb
    | false =>
     replace H := H.kn 18 hb
     refine at_sl 8 [(26, .bool false)] H fun fr H => ?_
     exact at_zb H hb
   intro t fr h' hK
   obtain ⟨e, H⟩ := hK
   subst e
   refine at_sl 1 [(27, .bool (p0.x_.Global && (decide (p1 > p0.x_.Number))))] H fun fr H => ?_
   exact at_zb H hb
 intro t fr h' hK
 obtain ⟨e, H⟩ := hK
 subst e
 refine at_el 1 [(4, .bool ((p1 == p0.x_.Number) || (p0.x_.Global && (decide (p1 > p0.x_.Number)))))] H (fun _ => id) fun fr H => ?_
 refine aw_rt ?_
 obtain rfl := injA hm
 exact ⟨.inl rfl, _, rH H, rfl, A⟩
noncomputable def M_class_Other (p0 : Int) : Option (Int) :=
 iteB ((decide ((bOr .u8 p0 (32 : Int)) ≥ (97 : Int))) && (decide ((bOr .u8 p0 (32 : Int)) ≤ (122 : Int)))) (some (bXor .u8 p0 (32 : Int))) (some p0)
theorem ok_class_Other {p0 q0} (hm : M_class_Other p0 = some q0) (A : HH g h [] F) (hc : canL (cfg.still 193) av = [.int .u8 p0] := by kernel_rfl) : ∃ v h', Runs cfg g h 193 av v h' ∧ v = .int .u8 q0 ∧ HH g h' [] F := by
 refine rq1 15 [.tmp 2] hc ?_
 clear hc
 unfold M_class_Other at hm
 refine bg 15 [(0, .int .u8 p0)] fun fr H => ?_
 refine aw_sr 1 ?_
 refine at_el 1 [] H (fun _ => id) fun fr H => ?_
 refine aw_sq ?_
 refine aw_sr 3 ?_
 refine at_es 3 [(3, .int .u8 (bOr .u8 p0 (32 : Int)))] 6 H (fun _ => id) fun fr H => ?_
 refine at_sl 3 [(8, .bool (decide ((bOr .u8 p0 (32 : Int)) ≥ (97 : Int))))] H fun fr H => ?_
 refine at_cl 3 (fun fr' h' => h = h' ∧ Has fr' 15 [(0, .int .u8 p0), (11, .bool ((decide ((bOr .u8 p0 (32 : Int)) ≥ (97 : Int))) && (decide ((bOr .u8 p0 (32 : Int)) ≤ (122 : Int)))))]) ?_ ?_
 ·cases hb : (decide ((bOr .u8 p0 (32 : Int)) ≥ (97 : Int)) : Bool) with
  | true =>
   replace H := H.kn 8 hb
   refine at_sl 3 [(11, .bool (decide ((bOr .u8 p0 (32 : Int)) ≤ (122 : Int))))] H fun fr H => ?_
   exact at_zb H hb
  | false =>
   replace H := H.kn 8 hb
   refine at_sl 3 [(11, .bool false)] H fun fr H => ?_
   exact at_zb H hb
 intro t fr h' hK
 obtain ⟨e, H⟩ := hK
 subst e
 refine at_nl id ?_
 refine aw_if 11 H hm (fun hb hm H => ?_) fun hb hm H => ?_
 ·refine aw_sr 3 ?_
  refine at_el 3 [(2, .int .u8 (bXor .u8 p0 (32 : Int)))] H (fun _ => id) fun fr H => ?_
  refine aw_rt ?_
  obtain rfl := injA hm
  exact ⟨.inl rfl, _, rH H, rfl, A⟩
 refine aw_ks 2 id ?_
 refine at_el 2 [(2, .int .u8 p0)] H (fun _ => id) fun fr H => ?_
 refine aw_rt ?_
 obtain rfl := injA hm
 exact ⟨.inl rfl, _, rH H, rfl, A⟩
noncomputable def M_scope_soft (p0 : S_rewrite_Expr) : Option (Bool) :=
 some p0.Soft
theorem ok_scope_soft {p0 q0} (hm : M_scope_soft p0 = some q0) (A : HH g h [] F) (hc : canL (cfg.still 28) av = [.agg (e_S_rewrite_Expr p0)] := by kernel_rfl) : ∃ v h', Runs cfg g h 28 av v h' ∧ v = .bool q0 ∧ HH g h' [] F := by
 refine rq1 5 [.tmp 2] hc ?_
 clear hc
 unfold M_scope_soft at hm
 refine bg 5 [(0, .agg (e_S_rewrite_Expr p0))] fun fr H => ?_
 refine aw_sr 2 ?_
 obtain ⟨h1, e1, A⟩ := A.pu (.cells none 2 (e_S_rewrite_Expr p0))
 refine at_ln 1 (.ptr (some (h.size, 0))) e1 H fun fr t H => ?_
 refine at_es 1 [] 3 H (fun _ => id) fun fr H => ?_
 refine at_gl 1 [] 4 0 7 A H fun fr t H => ?_
 refine at_el 1 [(2, .bool p0.Soft)] H (fun _ => id) fun fr H => ?_
 refine aw_rt ?_
 obtain rfl := injA hm
 refine ⟨.inl rfl, .bool p0.Soft, rH H, ?_⟩
 replace A := A.d0
 exact ⟨rfl, A⟩
end Go.Av.L
