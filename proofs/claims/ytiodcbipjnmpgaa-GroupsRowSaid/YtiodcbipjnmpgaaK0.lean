/-
  Models of functions, and that the abstract run tells them. Written by lift2.py.
-/
import Derived.Test.YtiodcbipjnmpgaaKCfg
namespace Go.Av.L
open Go.Av Go.Lib
set_option maxRecDepth 10000
set_option linter.unusedVariables false
set_option linter.unusedSimpArgs false
variable {g : Gd} {h : AHeap} {F : List Ck} {av : List AVal}
noncomputable section
def M_rex_walk_ok_sPO (p0 : S_rex_walk) : Option (Bool) :=
 some (decide (p0.wrong_ < 0))
theorem ok_rex_walk_ok_sPO {p0 bp0 rp0_3 q0} (hm : M_rex_walk_ok_sPO p0 = some q0) (A : HH g h [.obj bp0 (.cells none 2 (w_rex_walk_3 p0 (rowV rp0_3 p0.t_.Nodes.length))), .lst rp0_3 68 (lst e_S_tree_Node p0.t_.Nodes)] F) (hc : canL (cfg.still 37) av = [.ptr (some (bp0, 0))] := by kernel_rfl) : ∃ v h', Runs cfg g h 37 av v h' ∧ v = .bool q0 ∧ HH g h' [.obj bp0 (.cells none 2 (w_rex_walk_3 p0 (rowV rp0_3 p0.t_.Nodes.length))), .lst rp0_3 68 (lst e_S_tree_Node p0.t_.Nodes)] F := by
 refine rq1 8 [.tmp 2] hc ?_
 clear hc
 unfold M_rex_walk_ok_sPO at hm
 refine bg 8 [(0, .ptr (some (bp0, 0)))] fun fr H => ?_
 refine aw_sr 1 (at_S 1 [] 6 H fun fr H => at_gl 3 [] 6 0 7 A H fun fr t H => ?_)
 refine at_L 2 [(2, .bool (decide (p0.wrong_ < 0)))] H fun fr H => aw_rt ?_
 obtain rfl := injA hm
 exact ⟨.inl rfl, _, rH H, rfl, A⟩
def M_stringslite_HasPrefix (p0 : List UInt8) (p1 : List UInt8) : Option (Bool) :=
 (iteB (decide ((p0.length : Int) ≥ (p1.length : Int))) ((subS p0 none (some (p1.length : Int))).bind fun x2 => some (x2 == p1)) (some false) : Option (Bool)).bind fun x1 => some x1
theorem ok_stringslite_HasPrefix {p0 p1 q0} (hm : M_stringslite_HasPrefix p0 p1 = some q0) (A : HH g h [] F) (hc : canL (cfg.still 98) av = [.str p0, .str p1] := by kernel_rfl) : ∃ v h', Runs cfg g h 98 av v h' ∧ v = .bool q0 ∧ HH g h' [] F := by
 refine rq1 18 [.tmp 4] hc ?_
 clear hc
 unfold M_stringslite_HasPrefix at hm
 refine bg 18 [(0, .str p0), (1, .str p1)] fun fr H => ?_
 refine aw_sr 1 (at_S 1 [] 14 H fun fr H => at_sl 6 [(10, .bool (decide ((p0.length : Int) ≥ (p1.length : Int))))] H fun fr H => ?_)
 obtain ⟨x1, ho, hm⟩ := bind_some hm
 refine at_cl 7 (fun fr' h' => Has fr' 18 [(17, .bool x1)] ∧ HH g h' [] F) ?_ ?_
 ·rcases iteB_some ho with ⟨hb, hm⟩ | ⟨hb, hm⟩
  ·replace H := H.kn 10 hb
   obtain ⟨x2, hx, hm⟩ := bind_some hm
   refine at_g1 3 [] 14 (.str x2) h H (fun fr => .of (s_subS (k := .i64) (k' := .i64) (lo := none) (hi := (some (p1.length : Int))) (by kernel_rfl) hx)) fun fr t H => ?_
   refine at_sl 3 [(17, .bool (x2 == p1))] H fun fr H => ?_
   obtain rfl := injA hm
   exact at_nil ⟨H.ls, A⟩
  replace H := H.kn 10 hb
  refine at_sl 7 [(17, .bool false)] H fun fr H => ?_
  obtain rfl := injA hm
  exact at_nil ⟨H.ls, A⟩
 clear A
 intro t fr h1 hK
 obtain ⟨H, A⟩ := hK
 refine at_L 1 [(4, .bool x1)] H fun fr H => aw_rt ?_
 obtain rfl := injA hm
 exact ⟨.inl rfl, _, rH H, rfl, A⟩
def M_strings_HasPrefix (p0 : List UInt8) (p1 : List UInt8) : Option (Bool) :=
 (M_stringslite_HasPrefix p0 p1).bind fun x1 => some x1
theorem ok_strings_HasPrefix {p0 p1 q0} (hm : M_strings_HasPrefix p0 p1 = some q0) (A : HH g h [] F) (hc : canL (cfg.still 88) av = [.str p0, .str p1] := by kernel_rfl) : ∃ v h', Runs cfg g h 88 av v h' ∧ v = .bool q0 ∧ HH g h' [] F := by
 refine rq1 8 [.tmp 4] hc ?_
 clear hc
 unfold M_strings_HasPrefix at hm
 refine bg 8 [(0, .str p0), (1, .str p1)] fun fr H => ?_
 refine aw_sr 1 (at_S 1 [] 4 H fun fr H => ?_)
 obtain ⟨x1, hx, hm⟩ := bind_some hm
 obtain ⟨v1, h1, hr, rfl, A1⟩ := ok_stringslite_HasPrefix (av := [.str p0, .str p1]) hx (A.cut 0)
 replace A := A.g00 A1
 refine at_gc1 2 [] 7 hr H fun fr t H => ?_
 refine at_L 1 [(4, .bool x1)] H fun fr H => aw_rt ?_
 obtain rfl := injA hm
 exact ⟨.inl rfl, _, rH H, rfl, A⟩
def M_rex_walk_sign_sPOS (p0 : S_rex_walk) (p1 : List UInt8) : Option (Bool) :=
 (iteB (!p0.extended_) (need (decide (([92] : List UInt8).length + p1.length ≤ 9223372036854775807)) <| some (([92] : List UInt8) ++ p1)) (some p1) : Option (((List UInt8)))).bind fun x1 => (subS p0.s_ (some p0.at_) none).bind fun x2 => (M_strings_HasPrefix x2 x1).bind fun x3 => some x3
theorem ok_rex_walk_sign_sPOS {p0 p1 bp0 rp0_3 q0} (hm : M_rex_walk_sign_sPOS p0 p1 = some q0) (A : HH g h [.obj bp0 (.cells none 2 (w_rex_walk_3 p0 (rowV rp0_3 p0.t_.Nodes.length))), .lst rp0_3 68 (lst e_S_tree_Node p0.t_.Nodes)] F) (hc : canL (cfg.still 78) av = [.ptr (some (bp0, 0)), .str p1] := by kernel_rfl) : ∃ v h', Runs cfg g h 78 av v h' ∧ v = .bool q0 ∧ HH g h' [.obj bp0 (.cells none 2 (w_rex_walk_3 p0 (rowV rp0_3 p0.t_.Nodes.length))), .lst rp0_3 68 (lst e_S_tree_Node p0.t_.Nodes)] F := by
 refine rq1 23 [.tmp 4] hc ?_
 clear hc
 unfold M_rex_walk_sign_sPOS at hm
 refine bg 23 [(0, .ptr (some (bp0, 0))), (1, .str p1)] fun fr H => ?_
 refine aw_sr 1 (at_L 1 [] H fun fr H => aw_sq ?_)
 obtain ⟨o1, ho, hm⟩ := bind_some hm
 refine aw_mono (Q' := fun e fr' h' => (∃ x1, e = .normal ∧ x1 = o1 ∧ Has fr' 23 [(0, .ptr (some (bp0, 0))), (1, .str x1)] ∧ HH g h' [.obj bp0 (.cells none 2 (w_rex_walk_3 p0 (rowV rp0_3 p0.t_.Nodes.length))), .lst rp0_3 68 (lst e_S_tree_Node p0.t_.Nodes)] F) ∨ False) ?_ ?_
 ·replace hm := ho
  clear ho
  refine aw_sr 5 (at_gl 3 [] 8 0 2 A H fun fr t H => ?_)
  refine at_L 1 [(9, .bool (!p0.extended_))] H fun fr H => aw_if 9 H hm (fun hb hm H => ?_) fun hb hm H => ?_
  ·refine aw_rg 3 (at_sl 1 [(10, .str p1)] H fun fr H => ?_)
   obtain ⟨hb, hm⟩ := need_some hm
   refine at_l1 11 (.str (([92] : List UInt8) ++ p1)) h H (fun fr => .of (s_cat (by kernel_rfl) hb)) fun fr t H => ?_
   refine at_se 1 [(0, .ptr (some (bp0, 0))), (1, .str (([92] : List UInt8) ++ p1))] H fun fr H => at_nil ?_
   exact .inl ⟨_, rfl, injA hm, H.ls, A⟩
  exact aw_sk (.inl ⟨_, rfl, injA hm, H.ls, A⟩)
 clear ho
 clear A
 intro e fr h1 hQ
 rcases hQ with ⟨x1, rfl, rfl, H, A⟩ | hF
 ·show AW _ _ _ _ _ _ _
  refine aw_sq (aw_dg 3 12 ?_)
  refine at_gl 3 [] 15 0 0 A H fun fr t H => ?_
  refine at_gl 3 [] 19 0 1 A H fun fr t H => ?_
  obtain ⟨x2, hx, hm⟩ := bind_some hm
  refine at_l1 20 (.str x2) h1 H (fun fr => .of (s_subS (k := .i64) (k' := .i64) (lo := (some p0.at_)) (hi := none) (by kernel_rfl) hx)) fun fr t H => ?_
  obtain ⟨x3, hx, hm⟩ := bind_some hm
  obtain ⟨v1, h2, hr, rfl, A1⟩ := ok_strings_HasPrefix (av := [.str x2, .str x1]) hx (A.cut 0)
  replace A := A.g00 A1
  refine at_gc1 1 [] 22 hr H fun fr t H => ?_
  refine at_L 1 [(4, .bool x3)] H fun fr H => aw_rt ?_
  obtain rfl := injA hm
  exact ⟨.inl rfl, _, rH H, rfl, A⟩
 exact hF.elim
def M_rex_walk_closes_sPO (p0 : S_rex_walk) : Option (Bool) :=
 (iteB (p0.at_ == (p0.s_.length : Int)) (some true) ((M_rex_walk_sign_sPOS p0 ([124] : List UInt8)).bind fun x2 => some x2) : Option (Bool)).bind fun x1 => (iteB x1 (some true) ((M_rex_walk_sign_sPOS p0 ([41] : List UInt8)).bind fun x4 => some x4) : Option (Bool)).bind fun x3 => some x3
theorem ok_rex_walk_closes_sPO {p0 bp0 rp0_3 q0} (hm : M_rex_walk_closes_sPO p0 = some q0) (A : HH g h [.obj bp0 (.cells none 2 (w_rex_walk_3 p0 (rowV rp0_3 p0.t_.Nodes.length))), .lst rp0_3 68 (lst e_S_tree_Node p0.t_.Nodes)] F) (hc : canL (cfg.still 73) av = [.ptr (some (bp0, 0))] := by kernel_rfl) : ∃ v h', Runs cfg g h 73 av v h' ∧ v = .bool q0 ∧ HH g h' [.obj bp0 (.cells none 2 (w_rex_walk_3 p0 (rowV rp0_3 p0.t_.Nodes.length))), .lst rp0_3 68 (lst e_S_tree_Node p0.t_.Nodes)] F := by
 refine rq1 21 [.tmp 2] hc ?_
 clear hc
 unfold M_rex_walk_closes_sPO at hm
 refine bg 21 [(0, .ptr (some (bp0, 0)))] fun fr H => ?_
 refine aw_sr 1 (at_L 1 [] H fun fr H => aw_sq (aw_dg 1 19 ?_))
 refine at_gl 3 [] 6 0 1 A H fun fr t H => ?_
 refine at_gl 3 [] 10 0 0 A H fun fr t H => ?_
 refine at_sl 3 [(13, .bool (p0.at_ == (p0.s_.length : Int)))] H fun fr H => ?_
 obtain ⟨x1, ho, hm⟩ := bind_some hm
 refine at_cl 3 (fun fr' h' => Has fr' 21 [(0, .ptr (some (bp0, 0))), (16, .bool x1)] ∧ HH g h' [.obj bp0 (.cells none 2 (w_rex_walk_3 p0 (rowV rp0_3 p0.t_.Nodes.length))), .lst rp0_3 68 (lst e_S_tree_Node p0.t_.Nodes)] F) ?_ ?_
 ·rcases iteB_some ho with ⟨hb, hm⟩ | ⟨hb, hm⟩
  ·replace H := H.kn 13 hb
   refine at_sl 3 [(16, .bool true)] H fun fr H => ?_
   obtain rfl := injA hm
   exact at_nil ⟨H.ls, A⟩
  replace H := H.kn 13 hb
  obtain ⟨x2, hx, hm⟩ := bind_some hm
  obtain ⟨v1, h2, hr, rfl, A1⟩ := ok_rex_walk_sign_sPOS (av := [.ptr (some (bp0, 0)), .str ([124] : List UInt8)]) hx (A.cut 2)
  replace A := A.g22 A1
  refine at_gc1 1 [] 15 hr H fun fr t H => ?_
  refine at_sl 1 [(16, .bool x2)] H fun fr H => ?_
  obtain rfl := injA hm
  exact at_nil ⟨H.ls, A⟩
 clear A
 intro t fr h1 hK
 obtain ⟨H, A⟩ := hK
 refine at_sl 1 [(17, .bool x1)] H fun fr H => ?_
 obtain ⟨x3, ho, hm⟩ := bind_some hm
 refine at_cl 3 (fun fr' h' => Has fr' 21 [(20, .bool x3)] ∧ HH g h' [.obj bp0 (.cells none 2 (w_rex_walk_3 p0 (rowV rp0_3 p0.t_.Nodes.length))), .lst rp0_3 68 (lst e_S_tree_Node p0.t_.Nodes)] F) ?_ ?_
 ·rcases iteB_some ho with ⟨hb, hm⟩ | ⟨hb, hm⟩
  ·replace H := H.kn 17 hb
   refine at_sl 3 [(20, .bool true)] H fun fr H => ?_
   obtain rfl := injA hm
   exact at_nil ⟨H.ls, A⟩
  replace H := H.kn 17 hb
  obtain ⟨x4, hx, hm⟩ := bind_some hm
  obtain ⟨v1, h4, hr, rfl, A1⟩ := ok_rex_walk_sign_sPOS (av := [.ptr (some (bp0, 0)), .str ([41] : List UInt8)]) hx (A.cut 2)
  replace A := A.g22 A1
  refine at_gc1 1 [] 19 hr H fun fr t H => ?_
  refine at_sl 1 [(20, .bool x4)] H fun fr H => ?_
  obtain rfl := injA hm
  exact at_nil ⟨H.ls, A⟩
 clear A
 intro t fr h3 hK
 obtain ⟨H, A⟩ := hK
 refine at_L 1 [(2, .bool x3)] H fun fr H => aw_rt ?_
 obtain rfl := injA hm
 exact ⟨.inl rfl, _, rH H, rfl, A⟩
def M_class_Set_add (p0 : A4_uint64) (p1 : Int) : Option (A4_uint64) :=
 (ixV ([p0.w0, p0.w1, p0.w2, p0.w3] : List Int) (bShr .u8 p1 (6 : Int))).bind fun x1 => need (decide (0 ≤ (bAnd .u8 p1 (63 : Int)))) <| (ixV ([p0.w0, p0.w1, p0.w2, p0.w3] : List Int) (bShr .u8 p1 (6 : Int))).bind fun x2 => some (⟨(bif (bShr .u8 p1 (6 : Int)) == 0 then bOr .u64 x1 (bShl .u64 (1 : Int) (bAnd .u8 p1 (63 : Int))) else p0.w0), (bif ((bShr .u8 p1 (6 : Int)) - 1) == 0 then bOr .u64 x1 (bShl .u64 (1 : Int) (bAnd .u8 p1 (63 : Int))) else p0.w1), (bif (((bShr .u8 p1 (6 : Int)) - 1) - 1) == 0 then bOr .u64 x1 (bShl .u64 (1 : Int) (bAnd .u8 p1 (63 : Int))) else p0.w2), (bif ((((bShr .u8 p1 (6 : Int)) - 1) - 1) - 1) == 0 then bOr .u64 x1 (bShl .u64 (1 : Int) (bAnd .u8 p1 (63 : Int))) else p0.w3)⟩ : A4_uint64)
theorem ok_class_Set_add {p0 p1 bp0 u0} (hm : M_class_Set_add p0 p1 = some u0) (A : HH g h [.obj bp0 (.cells none 2 (e_A4_uint64 p0))] F) (hc : canL (cfg.still 100) av = [.ptr (some (bp0, 0)), Ab p1] := by kernel_rfl) : ∃ v h', Runs cfg g h 100 av v h' ∧ v = .tuple [] ∧ HH g h' [.obj bp0 (.cells none 2 (e_A4_uint64 u0))] F := by
 refine rq1 16 [] hc ?_
 clear hc
 unfold M_class_Set_add at hm
 refine bg 16 [(0, .ptr (some (bp0, 0))), (1, Ab p1)] fun fr H => ?_
 refine aw_dg 0 13 ?_
 obtain ⟨x1, hq1, hm⟩ := bind_some hm
 refine at_g1 4 [(4, .ptr (some (bp0, 0))), (6, Ab (bShr .u8 p1 (6 : Int)))] 8 (.ptr (some (bp0, 0 + (bShr .u8 p1 (6 : Int)).toNat * 1))) h H (fun fr => .of (s_ixA (by kernel_rfl) (ixA_of hq1 (bp0, 0) 1 rfl))) fun fr t H => ?_
 refine at_l1 9 _ _ H (fun fr => .of (s_ld (by kernel_rfl) (HH.ldW A 0 rfl 0 (fun w : Int => Au w) [p0.w0, p0.w1, p0.w2, p0.w3] rfl hq1))) fun fr t H => ?_
 refine at_sl 2 [(11, Ab (bAnd .u8 p1 (63 : Int)))] H fun fr H => ?_
 obtain ⟨hb, hm⟩ := need_some hm
 refine at_l1 12 (Au (bShl .u64 (1 : Int) (bAnd .u8 p1 (63 : Int)))) h H (fun fr => .of (s_shl (by kernel_rfl) hb)) fun fr t H => ?_
 obtain ⟨x2, hq2, hm⟩ := bind_some hm
 refine at_g1 2 [(13, Au (bOr .u64 x1 (bShl .u64 (1 : Int) (bAnd .u8 p1 (63 : Int)))))] 15 (.ptr (some (bp0, 0 + (bShr .u8 p1 (6 : Int)).toNat * 1))) h H (fun fr => .of (s_ixA (by kernel_rfl) (ixA_of hq2 (bp0, 0) 1 rfl))) fun fr t H => ?_
 obtain ⟨h1, hx, A1⟩ := HH.stW A 0 rfl 0 (fun w : Int => Au w) [p0.w0, p0.w1, p0.w2, p0.w3] (bOr .u64 x1 (bShl .u64 (1 : Int) (bAnd .u8 p1 (63 : Int)))) (ds := [Au (bif (bShr .u8 p1 (6 : Int)) == 0 then bOr .u64 x1 (bShl .u64 (1 : Int) (bAnd .u8 p1 (63 : Int))) else p0.w0), Au (bif ((bShr .u8 p1 (6 : Int)) - 1) == 0 then bOr .u64 x1 (bShl .u64 (1 : Int) (bAnd .u8 p1 (63 : Int))) else p0.w1), Au (bif (((bShr .u8 p1 (6 : Int)) - 1) - 1) == 0 then bOr .u64 x1 (bShl .u64 (1 : Int) (bAnd .u8 p1 (63 : Int))) else p0.w2), Au (bif ((((bShr .u8 p1 (6 : Int)) - 1) - 1) - 1) == 0 then bOr .u64 x1 (bShl .u64 (1 : Int) (bAnd .u8 p1 (63 : Int))) else p0.w3)]) rfl hq2 rfl rfl
 replace A : HH g h1 [.obj bp0 (.cells none 2 [Au (bif (bShr .u8 p1 (6 : Int)) == 0 then bOr .u64 x1 (bShl .u64 (1 : Int) (bAnd .u8 p1 (63 : Int))) else p0.w0), Au (bif ((bShr .u8 p1 (6 : Int)) - 1) == 0 then bOr .u64 x1 (bShl .u64 (1 : Int) (bAnd .u8 p1 (63 : Int))) else p0.w1), Au (bif (((bShr .u8 p1 (6 : Int)) - 1) - 1) == 0 then bOr .u64 x1 (bShl .u64 (1 : Int) (bAnd .u8 p1 (63 : Int))) else p0.w2), Au (bif ((((bShr .u8 p1 (6 : Int)) - 1) - 1) - 1) == 0 then bOr .u64 x1 (bShl .u64 (1 : Int) (bAnd .u8 p1 (63 : Int))) else p0.w3)])] F := A1
 refine at_ls hx H fun fr t H => ?_
 refine at_nil ?_
 obtain rfl := injA hm
 refine ⟨.inr rfl, .tuple [], rH H, ?_⟩
 exact ⟨rfl, A⟩
def M_class_Range_L0 (p1 : Int) (s : Int × Int × Int × Int × Int) : Option ((Int × Int × Int × Int × Int) ⊕ ((Int × Int × Int × Int))) :=
 match s with
 | (x1, x2, x3, x4, x5) => iteB (decide (x5 ≤ (IntKind.i64.wrap p1))) ((M_class_Set_add (⟨x1, x2, x3, x4⟩ : A4_uint64) (IntKind.u8.wrap x5)).bind fun x10 => some (.inl (x10.w0, x10.w1, x10.w2, x10.w3, IntKind.i64.wrap (x5 + 1)))) (some (.inr (x1, x2, x3, x4)))
def M_class_Range (p0 : Int) (p1 : Int) : Option (A4_uint64) :=
 (loop (M_class_Range_L0 p1) ((0 : Int), (0 : Int), (0 : Int), (0 : Int), IntKind.i64.wrap p0)).bind fun (x6, x7, x8, x9) => some (⟨x6, x7, x8, x9⟩ : A4_uint64)
theorem ok_class_Range {p0 p1 q0} (hm : M_class_Range p0 p1 = some q0) (A : HH g h [] F) (hc : canL (cfg.still 90) av = [Ab p0, Ab p1] := by kernel_rfl) : ∃ v h', Runs cfg g h 90 av v h' ∧ v = .agg (e_A4_uint64 q0) ∧ HH g h' [] F := by
 refine rq1 19 [.cell 4 66] hc ?_
 clear hc
 unfold M_class_Range at hm
 refine bg 19 [(0, Ab p0), (1, Ab p1)] fun fr H => ?_
 refine aw_sr 1 ?_
 obtain ⟨h1, e1, A⟩ := A.pu (.cells none 2 [Au 0, Au 0, Au 0, Au 0])
 refine at_ln 4 (.ptr (some (h.size, 0))) e1 H fun fr t H => ?_
 refine at_ns 1 id ?_
 obtain ⟨h2, e2, A⟩ := A.pu (.cells none 2 [Au 0, Au 0, Au 0, Au 0])
 refine at_ln 5 (.ptr (some (h1.size, 0))) e2 H fun fr t H => ?_
 refine at_nl id (aw_sq (aw_sr 3 (at_L 3 [(6, Ai (IntKind.i64.wrap p0))] H fun fr H => aw_block (id := 0) (by kernel_rfl) ?_)))
 obtain ⟨o1, ho, hm⟩ := bind_some hm
 refine aw_mono (Q' := fun e fr' h' => (∃ x6 x7 x8 x9, e = .exit 0 ∧ (x6, x7, x8, x9) = o1 ∧ Has fr' 19 [(4, .ptr (some (h.size, 0))), (5, .ptr (some (h1.size, 0)))] ∧ HH g h' [.obj h1.size (.cells none 2 [Au x6, Au x7, Au x8, Au x9]), .obj h.size (.cells none 2 [Au 0, Au 0, Au 0, Au 0])] F) ∨ False) ?_ ?_
 ·refine aw_loop (by kernel_rfl) (fun (s : Int × Int × Int × Int × Int) fr' h' => ∃ x1 x2 x3 x4 x5, (x1, x2, x3, x4, x5) = s ∧ Has fr' 19 [(1, Ab p1), (4, .ptr (some (h.size, 0))), (5, .ptr (some (h1.size, 0))), (6, Ai x5)] ∧ HH g h' [.obj h1.size (.cells none 2 [Au x1, Au x2, Au x3, Au x4]), .obj h.size (.cells none 2 [Au 0, Au 0, Au 0, Au 0])] F) ho ⟨_, _, _, _, _, rfl, H.ls, A⟩ ?_
  clear ho hm H A
  intro s q fr h3 hI hm
  obtain ⟨x1, x2, x3, x4, x5, rfl, H, A⟩ := hI
  unfold M_class_Range_L0 at hm
  refine aw_sq (aw_sr 4 (at_L 4 [(12, .bool (decide (x5 ≤ (IntKind.i64.wrap p1))))] H fun fr H => aw_if 12 H hm (fun hb hm H => ?_) fun hb hm H => ?_))
  ·refine aw_kn id (aw_sq (aw_block (id := 1) (by kernel_rfl) ?_))
   refine aw_rg 3 ?_
   obtain ⟨x10, hx, hm⟩ := bind_some hm
   obtain ⟨v1, h4, hr, rfl, A1⟩ := ok_class_Set_add (av := [.ptr (some (h1.size, 0)), Ab (IntKind.u8.wrap x5)]) hx (A.cut 1)
   replace A := A.g11 A1
   refine at_gc0 2 [] hr H fun fr t H => ?_
   refine at_nr 3 id (at_se 3 [(1, Ab p1), (4, .ptr (some (h.size, 0))), (5, .ptr (some (h1.size, 0))), (6, Ai (IntKind.i64.wrap (x5 + 1)))] H fun fr H => at_nil ?_)
   exact nx hm ⟨_, _, _, _, _, rfl, H.ls, A⟩
  refine aw_exit (i := 0) (by kernel_rfl) ?_
  exact nr hm fun e => .inl ⟨_, _, _, _, rfl, e, H.ls, A⟩
 clear ho
 clear A
 intro e fr h5 hQ
 rcases hQ with ⟨x6, x7, x8, x9, rfl, rfl, H, A⟩ | hF
 ·show AW _ _ _ _ _ _ _
  refine aw_sr 2 (at_l1 18 _ _ H (fun fr => .of (s_ldA (by kernel_rfl) (A.ldA 0 rfl (o := 0) (n := 4) ⟨Nat.le_of_ble_eq_true rfl, rfl⟩))) fun fr t H => ?_)
  obtain ⟨h6, hx, A⟩ := A.s1 0 [Au x6, Au x7, Au x8, Au x9] [_, _, _, _]
  refine at_lS hx H fun fr t H => ?_
  refine at_nl id (aw_rt ?_)
  obtain rfl := injA hm
  refine ⟨.inl rfl, .agg [Au x6, Au x7, Au x8, Au x9], resL_one (.cell (rT H) (load_ldA (by kernel_rfl) (by kernel_rfl) (A.la 1 0 4)) .nil), ?_⟩
  replace A := A.d0
  exact ⟨rfl, A⟩
 exact hF.elim
def M_tree_bare (p0 : S_tree_Node) : Option (S_tree_Node × Bool) :=
 (iteB (p0.Kind == 0) (some true) (iteB (p0.Kind == 6) (some true) (some (p0.Kind == 7))) : Option ((Bool))).bind fun x1 => iteB x1 (some ((⟨p0.Kind, (0 : Int), (0 : Int), (0 : Int), (0 : Int), (0 : Int), (⟨(0 : Int), (0 : Int), (0 : Int), (0 : Int)⟩ : A4_uint64)⟩ : S_tree_Node), true)) (iteB (p0.Kind == 1) (some ((⟨(1 : Int), (0 : Int), (0 : Int), (0 : Int), (0 : Int), (0 : Int), p0.Set⟩ : S_tree_Node), true)) ((iteB (p0.Kind == 2) (some true) (some (p0.Kind == 3)) : Option ((Bool))).bind fun x2 => iteB x2 (some ((⟨p0.Kind, p0.A, p0.B, (0 : Int), (0 : Int), (0 : Int), (⟨(0 : Int), (0 : Int), (0 : Int), (0 : Int)⟩ : A4_uint64)⟩ : S_tree_Node), true)) (iteB (p0.Kind == 4) (some ((⟨(4 : Int), p0.A, (0 : Int), p0.Min, p0.Max, (0 : Int), (⟨(0 : Int), (0 : Int), (0 : Int), (0 : Int)⟩ : A4_uint64)⟩ : S_tree_Node), true)) (iteB (p0.Kind == 5) (some ((⟨(5 : Int), p0.A, (0 : Int), (0 : Int), (0 : Int), p0.Group, (⟨(0 : Int), (0 : Int), (0 : Int), (0 : Int)⟩ : A4_uint64)⟩ : S_tree_Node), true)) (some ((⟨(0 : Int), (0 : Int), (0 : Int), (0 : Int), (0 : Int), (0 : Int), (⟨(0 : Int), (0 : Int), (0 : Int), (0 : Int)⟩ : A4_uint64)⟩ : S_tree_Node), false))))))
theorem ok_tree_bare {p0 q0 q1} (hm : M_tree_bare p0 = some (q0, q1)) (A : HH g h [] F) (hc : canL (cfg.still 79) av = [.agg (e_S_tree_Node p0)] := by kernel_rfl) : ∃ v h', Runs cfg g h 79 av v h' ∧ v = .tuple [.agg (e_S_tree_Node q0), .bool q1] ∧ HH g h' [] F := by
 refine rq1 45 [.cell 2 68, .tmp 3] hc ?_
 clear hc
 unfold M_tree_bare at hm
 refine bg 45 [(0, .agg (e_S_tree_Node p0))] fun fr H => ?_
 refine aw_sr 3 ?_
 obtain ⟨h1, e1, A⟩ := A.pu (.cells none 2 (e_S_tree_Node p0))
 refine at_ln 1 (.ptr (some (h.size, 0))) e1 H fun fr t H => ?_
 obtain ⟨h2, e2, A⟩ := A.pu (.cells none 2 [Ai 0, Ai 0, Ai 0, Ai 0, Ai 0, Ai 0, Au 0, Au 0, Au 0, Au 0])
 refine at_ln 2 (.ptr (some (h1.size, 0))) e2 H fun fr t H => ?_
 refine at_L 1 [] H fun fr H => aw_sq (aw_sr 2 (at_gl 1 [] 5 1 0 A H fun fr t H => ?_))
 refine at_nl id (aw_block (id := 0) (by kernel_rfl) ?_)
 refine aw_sq ?_
 obtain ⟨o1, ho, hm⟩ := bind_some hm
 refine aw_mono (Q' := fun e fr' h' => (∃ x1, e = .normal ∧ x1 = o1 ∧ Has fr' 45 [(1, .ptr (some (h.size, 0))), (2, .ptr (some (h1.size, 0))), (5, Ai p0.Kind), (6, .bool x1)] ∧ HH g h' [.obj h1.size (.cells none 2 [Ai 0, Ai 0, Ai 0, Ai 0, Ai 0, Ai 0, Au 0, Au 0, Au 0, Au 0]), .obj h.size (.cells none 2 (e_S_tree_Node p0))] F) ∨ False) ?_ ?_
 ·replace hm := ho
  clear ho
  refine aw_sr 2 (at_L 2 [(6, .bool (p0.Kind == 0))] H fun fr H => aw_if 6 H hm (fun hb hm H => ?_) fun hb hm H => ?_)
  ·exact aw_sk (.inl ⟨_, rfl, injA hm, H.ls, A⟩)
  refine aw_sr 2 (at_se 2 [(1, .ptr (some (h.size, 0))), (2, .ptr (some (h1.size, 0))), (5, Ai p0.Kind), (6, .bool (p0.Kind == 6))] H fun fr H => at_nl id (aw_if 6 H hm (fun hb hm H => ?_) fun hb hm H => ?_))
  ·exact aw_sk (.inl ⟨_, rfl, injA hm, H.ls, A⟩)
  refine aw_rg 2 (at_se 2 [(1, .ptr (some (h.size, 0))), (2, .ptr (some (h1.size, 0))), (5, Ai p0.Kind), (6, .bool (p0.Kind == 7))] H fun fr H => at_nil ?_)
  exact .inl ⟨_, rfl, injA hm, H.ls, A⟩
 clear ho
 clear A
 intro e fr h3 hQ
 rcases hQ with ⟨x1, rfl, rfl, H, A⟩ | hF
 ·show AW _ _ _ _ _ _ _
  refine aw_if 6 H hm (fun hb hm H => ?_) fun hb hm H => ?_
  ·refine aw_sr 5 (at_gl 1 [] 11 1 0 A H fun fr t H => ?_)
   obtain ⟨h4, hx, A⟩ := A.s0 0 [Ai p0.Kind, Ai 0, Ai 0, Ai 0, Ai 0, Ai 0, Au 0, Au 0, Au 0, Au 0] [_, _, _, _, _, _, _, _, _, _]
   refine at_gS 1 [] hx H fun fr t H => ?_
   refine at_L 1 [(3, .bool true)] H fun fr H => aw_rt ?_
   obtain ⟨rfl, rfl⟩ := injB hm
   refine ⟨.inl rfl, .tuple [.agg [Ai p0.Kind, Ai 0, Ai 0, Ai 0, Ai 0, Ai 0, Au 0, Au 0, Au 0, Au 0], .bool true], resL_many (.cell (rT H) (load_ldA (by kernel_rfl) (by kernel_rfl) (A.la 0 0 10)) (.tmp (rT H) .nil)), ?_⟩
   replace A := A.d0
   exact ⟨rfl, A⟩
  refine aw_sr 2 (at_L 2 [(13, .bool (p0.Kind == 1))] H fun fr H => aw_if 13 H hm (fun hb hm H => ?_) fun hb hm H => ?_)
  ·refine aw_sr 5 (at_g1 1 [] 16 _ _ H (fun fr => .of (s_ldA (by kernel_rfl) (A.ldA 1 rfl (o := 6) (n := 4) ⟨Nat.le_of_ble_eq_true rfl, rfl⟩))) fun fr t H => ?_)
   obtain ⟨h5, hx, A⟩ := A.s0 0 [Ai 1, Ai 0, Ai 0, Ai 0, Ai 0, Ai 0, Au p0.Set.w0, Au p0.Set.w1, Au p0.Set.w2, Au p0.Set.w3] [_, _, _, _, _, _, _, _, _, _]
   refine at_gS 1 [] hx H fun fr t H => ?_
   refine at_L 1 [(3, .bool true)] H fun fr H => aw_rt ?_
   obtain ⟨rfl, rfl⟩ := injB hm
   refine ⟨.inl rfl, .tuple [.agg [Ai 1, Ai 0, Ai 0, Ai 0, Ai 0, Ai 0, Au p0.Set.w0, Au p0.Set.w1, Au p0.Set.w2, Au p0.Set.w3], .bool true], resL_many (.cell (rT H) (load_ldA (by kernel_rfl) (by kernel_rfl) (A.la 0 0 10)) (.tmp (rT H) .nil)), ?_⟩
   replace A := A.d0
   exact ⟨rfl, A⟩
  refine aw_sq ?_
  obtain ⟨o2, ho, hm⟩ := bind_some hm
  refine aw_mono (Q' := fun e fr' h' => (∃ x2, e = .normal ∧ x2 = o2 ∧ Has fr' 45 [(1, .ptr (some (h.size, 0))), (2, .ptr (some (h1.size, 0))), (5, Ai p0.Kind), (18, .bool x2)] ∧ HH g h' [.obj h1.size (.cells none 2 [Ai 0, Ai 0, Ai 0, Ai 0, Ai 0, Ai 0, Au 0, Au 0, Au 0, Au 0]), .obj h.size (.cells none 2 (e_S_tree_Node p0))] F) ∨ False) ?_ ?_
  ·replace hm := ho
   clear ho
   refine aw_sr 2 (at_L 2 [(18, .bool (p0.Kind == 2))] H fun fr H => aw_if 18 H hm (fun hb hm H => ?_) fun hb hm H => ?_)
   ·exact aw_sk (.inl ⟨_, rfl, injA hm, H.ls, A⟩)
   refine aw_rg 2 (at_se 2 [(1, .ptr (some (h.size, 0))), (2, .ptr (some (h1.size, 0))), (5, Ai p0.Kind), (18, .bool (p0.Kind == 3))] H fun fr H => at_nil ?_)
   exact .inl ⟨_, rfl, injA hm, H.ls, A⟩
  clear ho
  clear A
  intro e fr h6 hQ
  rcases hQ with ⟨x2, rfl, rfl, H, A⟩ | hF
  ·show AW _ _ _ _ _ _ _
   refine aw_if 18 H hm (fun hb hm H => ?_) fun hb hm H => ?_
   ·refine aw_sr 9 (at_gl 1 [] 22 1 0 A H fun fr t H => ?_)
    refine at_gl 1 [] 24 1 1 A H fun fr t H => ?_
    refine at_gl 1 [] 26 1 2 A H fun fr t H => ?_
    obtain ⟨h7, hx, A⟩ := A.s0 0 [Ai p0.Kind, Ai p0.A, Ai p0.B, Ai 0, Ai 0, Ai 0, Au 0, Au 0, Au 0, Au 0] [_, _, _, _, _, _, _, _, _, _]
    refine at_gS 1 [] hx H fun fr t H => ?_
    refine at_L 1 [(3, .bool true)] H fun fr H => aw_rt ?_
    obtain ⟨rfl, rfl⟩ := injB hm
    refine ⟨.inl rfl, .tuple [.agg [Ai p0.Kind, Ai p0.A, Ai p0.B, Ai 0, Ai 0, Ai 0, Au 0, Au 0, Au 0, Au 0], .bool true], resL_many (.cell (rT H) (load_ldA (by kernel_rfl) (by kernel_rfl) (A.la 0 0 10)) (.tmp (rT H) .nil)), ?_⟩
    replace A := A.d0
    exact ⟨rfl, A⟩
   refine aw_sr 2 (at_L 2 [(28, .bool (p0.Kind == 4))] H fun fr H => aw_if 28 H hm (fun hb hm H => ?_) fun hb hm H => ?_)
   ·refine aw_sr 9 (at_gl 1 [] 31 1 1 A H fun fr t H => ?_)
    refine at_gl 1 [] 33 1 3 A H fun fr t H => ?_
    refine at_gl 1 [] 35 1 4 A H fun fr t H => ?_
    obtain ⟨h8, hx, A⟩ := A.s0 0 [Ai 4, Ai p0.A, Ai 0, Ai p0.Min, Ai p0.Max, Ai 0, Au 0, Au 0, Au 0, Au 0] [_, _, _, _, _, _, _, _, _, _]
    refine at_gS 1 [] hx H fun fr t H => ?_
    refine at_L 1 [(3, .bool true)] H fun fr H => aw_rt ?_
    obtain ⟨rfl, rfl⟩ := injB hm
    refine ⟨.inl rfl, .tuple [.agg [Ai 4, Ai p0.A, Ai 0, Ai p0.Min, Ai p0.Max, Ai 0, Au 0, Au 0, Au 0, Au 0], .bool true], resL_many (.cell (rT H) (load_ldA (by kernel_rfl) (by kernel_rfl) (A.la 0 0 10)) (.tmp (rT H) .nil)), ?_⟩
    replace A := A.d0
    exact ⟨rfl, A⟩
   refine aw_sr 2 (at_L 2 [(37, .bool (p0.Kind == 5))] H fun fr H => aw_if 37 H hm (fun hb hm H => ?_) fun hb hm H => ?_)
   ·refine aw_sr 7 (at_gl 1 [] 40 1 1 A H fun fr t H => ?_)
    refine at_gl 1 [] 42 1 5 A H fun fr t H => ?_
    obtain ⟨h9, hx, A⟩ := A.s0 0 [Ai 5, Ai p0.A, Ai 0, Ai 0, Ai 0, Ai p0.Group, Au 0, Au 0, Au 0, Au 0] [_, _, _, _, _, _, _, _, _, _]
    refine at_gS 1 [] hx H fun fr t H => ?_
    refine at_L 1 [(3, .bool true)] H fun fr H => aw_rt ?_
    obtain ⟨rfl, rfl⟩ := injB hm
    refine ⟨.inl rfl, .tuple [.agg [Ai 5, Ai p0.A, Ai 0, Ai 0, Ai 0, Ai p0.Group, Au 0, Au 0, Au 0, Au 0], .bool true], resL_many (.cell (rT H) (load_ldA (by kernel_rfl) (by kernel_rfl) (A.la 0 0 10)) (.tmp (rT H) .nil)), ?_⟩
    replace A := A.d0
    exact ⟨rfl, A⟩
   refine aw_ks 3 id ?_
   obtain ⟨h10, hx, A⟩ := A.s0 0 [Ai 0, Ai 0, Ai 0, Ai 0, Ai 0, Ai 0, Au 0, Au 0, Au 0, Au 0] [_, _, _, _, _, _, _, _, _, _]
   refine at_gS 1 [] hx H fun fr t H => ?_
   refine at_L 1 [(3, .bool false)] H fun fr H => aw_rt ?_
   obtain ⟨rfl, rfl⟩ := injB hm
   refine ⟨.inl rfl, .tuple [.agg [Ai 0, Ai 0, Ai 0, Ai 0, Ai 0, Ai 0, Au 0, Au 0, Au 0, Au 0], .bool false], resL_many (.cell (rT H) (load_ldA (by kernel_rfl) (by kernel_rfl) (A.la 0 0 10)) (.tmp (rT H) .nil)), ?_⟩
   replace A := A.d0
   exact ⟨rfl, A⟩
  exact hF.elim
 exact hF.elim
def M_tree_may_1_sIP (p0 : Int) (p1 : Int) : Option (Bool) :=
 some ((decide (p0 ≥ 0)) && (decide (p0 < p1)))
theorem ok_tree_may_1_sIP {p0 p1 bp1 q0} (hm : M_tree_may_1_sIP p0 p1 = some q0) (A : HH g h [.obj bp1 (.cells none 2 [Ai p1])] F) (hc : canL (cfg.still 80) av = [Ai p0, .ptr (some (bp1, 0))] := by kernel_rfl) : ∃ v h', Runs cfg g h 80 av v h' ∧ v = .bool q0 ∧ HH g h' [.obj bp1 (.cells none 2 [Ai p1])] F := by
 refine rq1 11 [.tmp 3] hc ?_
 clear hc
 unfold M_tree_may_1_sIP at hm
 refine bg 11 [(0, Ai p0), (1, .ptr (some (bp1, 0)))] fun fr H => ?_
 refine aw_sr 1 (at_S 1 [] 8 H fun fr H => at_sl 3 [(6, .bool (decide (p0 ≥ 0)))] H fun fr H => at_cl 4 (fun fr' h' => h = h' ∧ Has fr' 11 [(10, .bool ((decide (p0 ≥ 0)) && (decide (p0 < p1))))]) ?_ ?_)
 ·cases hb : (decide (p0 ≥ 0) : Bool) with
  | true =>
   replace H := H.kn 6 hb
   refine at_gl 1 [(7, Ai p0)] 8 0 0 A H fun fr t H => ?_
   exact at_sl 2 [(10, .bool (decide (p0 < p1)))] H fun fr H => at_zb H hb
  | false =>
   replace H := H.kn 6 hb
   exact at_sl 4 [(10, .bool false)] H fun fr H => at_zb H hb
 intro t fr h' hK
 obtain ⟨e, H⟩ := hK
 subst e
 refine at_L 1 [(3, .bool ((decide (p0 ≥ 0)) && (decide (p0 < p1))))] H fun fr H => aw_rt ?_
 obtain rfl := injA hm
 exact ⟨.inl rfl, _, rH H, rfl, A⟩
def M_tree_may (p0 : S_tree_Node) (p1 : Int) : Option (Bool) :=
 (M_tree_bare p0).bind fun (x1, x2) => (iteB (!x2) (some true) ((eqG cfg.P 68 (e_S_tree_Node x1) (e_S_tree_Node p0)).bind fun x4 => some (!x4)) : Option (Bool)).bind fun x3 => iteB x3 (some false) ((iteB (p0.Kind == 2) (some true) (some (p0.Kind == 3)) : Option ((Bool))).bind fun x5 => iteB x5 ((M_tree_may_1_sIP p0.A p1).bind fun x6 => (iteB x6 ((M_tree_may_1_sIP p0.B p1).bind fun x8 => some x8) (some false) : Option (Bool)).bind fun x7 => some x7) (iteB (p0.Kind == 4) ((M_tree_may_1_sIP p0.A p1).bind fun x9 => some (((x9 && (decide (p0.Min ≥ 0))) && (decide (p0.Min ≤ 255))) && ((p0.Max == (-1)) || ((decide (p0.Max ≥ p0.Min)) && (decide (p0.Max ≤ 255)))))) (iteB (p0.Kind == 5) ((M_tree_may_1_sIP p0.A p1).bind fun x10 => some ((x10 && (decide (p0.Group ≥ 1))) && (decide (p0.Group ≤ 1024)))) (some true))))
theorem ok_tree_may {p0 p1 q0} (hm : M_tree_may p0 p1 = some q0) (A : HH g h [] F) (hc : canL (cfg.still 59) av = [.agg (e_S_tree_Node p0), Ai p1] := by kernel_rfl) : ∃ v h', Runs cfg g h 59 av v h' ∧ v = .bool q0 ∧ HH g h' [] F := by
 refine rq1 85 [.tmp 4] hc ?_
 clear hc
 unfold M_tree_may at hm
 refine bg 85 [(0, .agg (e_S_tree_Node p0)), (1, Ai p1)] fun fr H => ?_
 refine aw_sr 3 ?_
 obtain ⟨h1, e1, A⟩ := A.pu (.cells none 2 (e_S_tree_Node p0))
 refine at_ln 2 (.ptr (some (h.size, 0))) e1 H fun fr t H => ?_
 obtain ⟨h2, e2, A⟩ := A.pu (.cells none 2 [Ai p1])
 refine at_ln 3 (.ptr (some (h1.size, 0))) e2 H fun fr t H => ?_
 refine at_L 1 [] H fun fr H => aw_sq (aw_sr 8 (at_l1 9 _ _ H (fun fr => .of (s_ldA (by kernel_rfl) (A.ldA 1 rfl (o := 0) (n := 10) ⟨Nat.le_of_ble_eq_true rfl, rfl⟩))) fun fr t H => ?_))
 obtain ⟨⟨x1, x2⟩, hx, hm⟩ := bind_some hm
 obtain ⟨v1, h3, hr, rfl, A1⟩ := ok_tree_bare (av := [.agg (e_S_tree_Node p0)]) hx (A.cut 0)
 replace A : HH g h3 [.obj h1.size (.cells none 2 [Ai p1]), .obj h.size (.cells none 2 (e_S_tree_Node p0))] F := A.glue0 (n := 0) A1
 refine at_lc1 10 hr H fun fr t H => ?_
 obtain ⟨h4, e3, A⟩ := A.pu (.cells none 2 [Ai 0, Ai 0, Ai 0, Ai 0, Ai 0, Ai 0, Au 0, Au 0, Au 0, Au 0])
 refine at_gn 3 [(11, .agg (e_S_tree_Node x1)), (12, .bool x2)] 5 (.ptr (some (h3.size, 0))) e3 H fun fr t H => ?_
 obtain ⟨h5, hx, A⟩ := A.s0 0 (e_S_tree_Node x1) [_, _, _, _, _, _, _, _, _, _]
 refine at_lS hx H fun fr t H => ?_
 refine at_S 1 [(6, .bool x2)] 7 H fun fr H => at_sl 3 [(15, .bool (!x2))] H fun fr H => ?_
 obtain ⟨x3, ho, hm⟩ := bind_some hm
 refine at_cl 4 (fun fr' h' => Has fr' 85 [(2, .ptr (some (h.size, 0))), (3, .ptr (some (h1.size, 0))), (19, .bool x3)] ∧ HH g h' [.obj h3.size (.cells none 2 (e_S_tree_Node x1)), .obj h1.size (.cells none 2 [Ai p1]), .obj h.size (.cells none 2 (e_S_tree_Node p0))] F) ?_ ?_
 ·rcases iteB_some ho with ⟨hb, hm⟩ | ⟨hb, hm⟩
  ·replace H := H.kn 15 hb
   refine at_sl 4 [(19, .bool true)] H fun fr H => ?_
   obtain rfl := injA hm
   exact at_nil ⟨H.ls, A⟩
  replace H := H.kn 15 hb
  refine at_l1 16 _ _ H (fun fr => .of (s_ldA (by kernel_rfl) (A.ldA 0 rfl (o := 0) (n := 10) ⟨Nat.le_of_ble_eq_true rfl, rfl⟩))) fun fr t H => ?_
  refine at_l1 17 _ _ H (fun fr => .of (s_ldA (by kernel_rfl) (A.ldA 2 rfl (o := 0) (n := 10) ⟨Nat.le_of_ble_eq_true rfl, rfl⟩))) fun fr t H => ?_
  obtain ⟨x4, hx, hm⟩ := bind_some hm
  refine at_l1 18 (.bool (!x4)) h5 H (fun fr => .of (s_neG (by kernel_rfl) hx)) fun fr t H => ?_
  refine at_sl 1 [(19, .bool (!x4))] H fun fr H => ?_
  obtain rfl := injA hm
  exact at_nil ⟨H.ls, A⟩
 clear A
 intro t fr h6 hK
 obtain ⟨H, A⟩ := hK
 refine at_nl id (aw_if 19 H hm (fun hb hm H => ?_) fun hb hm H => ?_)
 ·refine aw_sr 1 (at_L 1 [(4, .bool false)] H fun fr H => aw_rt ?_)
  obtain rfl := injA hm
  refine ⟨.inl rfl, .bool false, rH H, ?_⟩
  replace A := A.d0
  exact ⟨rfl, A⟩
 refine aw_ks 2 id (at_L 2 [(7, .func (.func 80) [] [.ptr (some (h1.size, 0))])] H fun fr H => aw_sq (aw_sr 2 (at_gl 1 [] 22 2 0 A H fun fr t H => ?_)))
 refine at_nl id (aw_block (id := 0) (by kernel_rfl) ?_)
 refine aw_sq ?_
 obtain ⟨o1, ho, hm⟩ := bind_some hm
 refine aw_mono (Q' := fun e fr' h' => (∃ x5, e = .normal ∧ x5 = o1 ∧ Has fr' 85 [(2, .ptr (some (h.size, 0))), (7, .func (.func 80) [] [.ptr (some (h1.size, 0))]), (22, Ai p0.Kind), (23, .bool x5)] ∧ HH g h' [.obj h3.size (.cells none 2 (e_S_tree_Node x1)), .obj h1.size (.cells none 2 [Ai p1]), .obj h.size (.cells none 2 (e_S_tree_Node p0))] F) ∨ False) ?_ ?_
 ·replace hm := ho
  clear ho
  refine aw_sr 2 (at_L 2 [(23, .bool (p0.Kind == 2))] H fun fr H => aw_if 23 H hm (fun hb hm H => ?_) fun hb hm H => ?_)
  ·exact aw_sk (.inl ⟨_, rfl, injA hm, H.ls, A⟩)
  refine aw_rg 2 (at_se 2 [(2, .ptr (some (h.size, 0))), (7, .func (.func 80) [] [.ptr (some (h1.size, 0))]), (22, Ai p0.Kind), (23, .bool (p0.Kind == 3))] H fun fr H => at_nil ?_)
  exact .inl ⟨_, rfl, injA hm, H.ls, A⟩
 clear ho
 clear A
 intro e fr h7 hQ
 rcases hQ with ⟨x5, rfl, rfl, H, A⟩ | hF
 ·show AW _ _ _ _ _ _ _
  refine aw_if 23 H hm (fun hb hm H => ?_) fun hb hm H => ?_
  ·refine aw_sr 11 (at_gl 2 [(26, .func (.func 80) [] [.ptr (some (h1.size, 0))])] 28 2 1 A H fun fr t H => ?_)
   replace A := A.k3 1 0 2
   obtain ⟨x6, hx, hm⟩ := bind_some hm
   obtain ⟨v1, h8, hr, rfl, A1⟩ := ok_tree_may_1_sIP (av := [Ai p0.A, .ptr (some (h1.size, 0))]) hx (A.cut 1)
   replace A := A.g11 A1
   refine at_lc1 29 hr H fun fr t H => ?_
   refine at_sl 1 [(30, .bool x6)] H fun fr H => ?_
   obtain ⟨x7, ho, hm⟩ := bind_some hm
   refine at_cl 5 (fun fr' h' => Has fr' 85 [(35, .bool x7)] ∧ HH g h' [.obj h1.size (.cells none 2 [Ai p1]), .obj h3.size (.cells none 2 (e_S_tree_Node x1)), .obj h.size (.cells none 2 (e_S_tree_Node p0))] F) ?_ ?_
   ·rcases iteB_some ho with ⟨hb, hm⟩ | ⟨hb, hm⟩
    ·replace H := H.kn 30 hb
     refine at_gl 2 [(31, .func (.func 80) [] [.ptr (some (h1.size, 0))])] 33 2 2 A H fun fr t H => ?_
     obtain ⟨x8, hx, hm⟩ := bind_some hm
     obtain ⟨v1, h10, hr, rfl, A1⟩ := ok_tree_may_1_sIP (av := [Ai p0.B, .ptr (some (h1.size, 0))]) hx (A.cut 1)
     replace A := A.g11 A1
     refine at_lc1 34 hr H fun fr t H => ?_
     refine at_sl 1 [(35, .bool x8)] H fun fr H => ?_
     obtain rfl := injA hm
     exact at_nil ⟨H.ls, A⟩
    replace H := H.kn 30 hb
    refine at_sl 5 [(35, .bool false)] H fun fr H => ?_
    obtain rfl := injA hm
    exact at_nil ⟨H.ls, A⟩
   clear A
   intro t fr h9 hK
   obtain ⟨H, A⟩ := hK
   refine at_L 1 [(4, .bool x7)] H fun fr H => aw_rt ?_
   obtain rfl := injA hm
   refine ⟨.inl rfl, .bool x7, rH H, ?_⟩
   replace A := A.d0
   exact ⟨rfl, A⟩
  refine aw_sr 2 (at_L 2 [(36, .bool (p0.Kind == 4))] H fun fr H => aw_if 36 H hm (fun hb hm H => ?_) fun hb hm H => ?_)
  ·refine aw_sr 32 (at_gl 2 [(38, .func (.func 80) [] [.ptr (some (h1.size, 0))])] 40 2 1 A H fun fr t H => ?_)
   replace A := A.k3 1 0 2
   obtain ⟨x9, hx, hm⟩ := bind_some hm
   obtain ⟨v1, h11, hr, rfl, A1⟩ := ok_tree_may_1_sIP (av := [Ai p0.A, .ptr (some (h1.size, 0))]) hx (A.cut 1)
   replace A := A.g11 A1
   refine at_lc1 41 hr H fun fr t H => ?_
   refine at_sl 1 [(42, .bool x9)] H fun fr H => at_cl 4 (fun fr' h' => h11 = h' ∧ Has fr' 85 [(2, .ptr (some (h.size, 0))), (46, .bool (x9 && (decide (p0.Min ≥ 0))))]) ?_ ?_
   ·cases hb : (x9 : Bool) with
    | true =>
     replace H := H.kn 42 hb
     refine at_gl 1 [] 44 2 3 A H fun fr t H => ?_
     exact at_sl 2 [(46, .bool (decide (p0.Min ≥ 0)))] H fun fr H => at_zb H hb
    | false =>
     replace H := H.kn 42 hb
     exact at_sl 4 [(46, .bool false)] H fun fr H => at_zb H hb
   intro t fr h' hK
   obtain ⟨e, H⟩ := hK
   subst e
   refine at_sl 1 [(47, .bool (x9 && (decide (p0.Min ≥ 0))))] H fun fr H => at_cl 4 (fun fr' h' => h11 = h' ∧ Has fr' 85 [(2, .ptr (some (h.size, 0))), (51, .bool ((x9 && (decide (p0.Min ≥ 0))) && (decide (p0.Min ≤ 255))))]) ?_ ?_
   ·cases hb : (x9 && (decide (p0.Min ≥ 0)) : Bool) with
    | true =>
     replace H := H.kn 47 hb
     refine at_gl 1 [] 49 2 3 A H fun fr t H => ?_
     exact at_sl 2 [(51, .bool (decide (p0.Min ≤ 255)))] H fun fr H => at_zb H hb
    | false =>
     replace H := H.kn 47 hb
     exact at_sl 4 [(51, .bool false)] H fun fr H => at_zb H hb
   intro t fr h' hK
   obtain ⟨e, H⟩ := hK
   subst e
   refine at_sl 1 [(52, .bool ((x9 && (decide (p0.Min ≥ 0))) && (decide (p0.Min ≤ 255))))] H fun fr H => at_cl 16 (fun fr' h' => h11 = h' ∧ Has fr' 85 [(68, .bool (((x9 && (decide (p0.Min ≥ 0))) && (decide (p0.Min ≤ 255))) && ((p0.Max == (-1)) || ((decide (p0.Max ≥ p0.Min)) && (decide (p0.Max ≤ 255))))))]) ?_ ?_
   ·cases hb : ((x9 && (decide (p0.Min ≥ 0))) && (decide (p0.Min ≤ 255)) : Bool) with
    | true =>
     replace H := H.kn 52 hb
     refine at_gl 1 [] 54 2 4 A H fun fr t H => ?_
     refine at_sl 2 [(56, .bool (p0.Max == (-1)))] H fun fr H => at_cl 11 (fun fr' h' => h11 = h' ∧ Has fr' 85 [(52, .bool true), (67, .bool ((p0.Max == (-1)) || ((decide (p0.Max ≥ p0.Min)) && (decide (p0.Max ≤ 255)))))]) ?_ ?_
     ·cases hb : (p0.Max == (-1) : Bool) with
      | true =>
       replace H := H.kn 56 hb
       exact at_sl 11 [(67, .bool true)] H fun fr H => at_zb H hb
      | false =>
       replace H := H.kn 56 hb
       refine at_gl 1 [] 58 2 4 A H fun fr t H => ?_
       refine at_gl 1 [] 60 2 3 A H fun fr t H => ?_
       refine at_sl 2 [(62, .bool (decide (p0.Max ≥ p0.Min)))] H fun fr H => at_cl 4 (fun fr' h' => h11 = h' ∧ Has fr' 85 [(52, .bool true), (56, .bool false), (66, .bool ((decide (p0.Max ≥ p0.Min)) && (decide (p0.Max ≤ 255))))]) ?_ ?_
       ·cases hb : (decide (p0.Max ≥ p0.Min) : Bool) with
        | true =>
         replace H := H.kn 62 hb
         refine at_gl 1 [] 64 2 4 A H fun fr t H => ?_
         exact at_sl 2 [(66, .bool (decide (p0.Max ≤ 255)))] H fun fr H => at_zb H hb
        | false =>
         replace H := H.kn 62 hb
         exact at_sl 4 [(66, .bool false)] H fun fr H => at_zb H hb
       intro t fr h' hK
       obtain ⟨e, H⟩ := hK
       subst e
       exact at_sl 1 [(67, .bool ((decide (p0.Max ≥ p0.Min)) && (decide (p0.Max ≤ 255))))] H fun fr H => at_zb H hb
     intro t fr h' hK
     obtain ⟨e, H⟩ := hK
     subst e
     exact at_sl 1 [(68, .bool ((p0.Max == (-1)) || ((decide (p0.Max ≥ p0.Min)) && (decide (p0.Max ≤ 255)))))] H fun fr H => at_zb H hb
    | false =>
     replace H := H.kn 52 hb
     exact at_sl 16 [(68, .bool false)] H fun fr H => at_zb H hb
   intro t fr h' hK
   obtain ⟨e, H⟩ := hK
   subst e
   refine at_L 1 [(4, .bool (((x9 && (decide (p0.Min ≥ 0))) && (decide (p0.Min ≤ 255))) && ((p0.Max == (-1)) || ((decide (p0.Max ≥ p0.Min)) && (decide (p0.Max ≤ 255))))))] H fun fr H => aw_rt ?_
   obtain rfl := injA hm
   refine ⟨.inl rfl, .bool (((x9 && (decide (p0.Min ≥ 0))) && (decide (p0.Min ≤ 255))) && ((p0.Max == (-1)) || ((decide (p0.Max ≥ p0.Min)) && (decide (p0.Max ≤ 255))))), rH H, ?_⟩
   replace A := A.d0
   exact ⟨rfl, A⟩
  refine aw_sr 2 (at_L 2 [(69, .bool (p0.Kind == 5))] H fun fr H => aw_if 69 H hm (fun hb hm H => ?_) fun hb hm H => ?_)
  ·refine aw_sr 15 (at_gl 2 [(71, .func (.func 80) [] [.ptr (some (h1.size, 0))])] 73 2 1 A H fun fr t H => ?_)
   replace A := A.k3 1 0 2
   obtain ⟨x10, hx, hm⟩ := bind_some hm
   obtain ⟨v1, h12, hr, rfl, A1⟩ := ok_tree_may_1_sIP (av := [Ai p0.A, .ptr (some (h1.size, 0))]) hx (A.cut 1)
   replace A := A.g11 A1
   refine at_lc1 74 hr H fun fr t H => ?_
   refine at_sl 1 [(75, .bool x10)] H fun fr H => at_cl 4 (fun fr' h' => h12 = h' ∧ Has fr' 85 [(2, .ptr (some (h.size, 0))), (79, .bool (x10 && (decide (p0.Group ≥ 1))))]) ?_ ?_
   ·cases hb : (x10 : Bool) with
    | true =>
     replace H := H.kn 75 hb
     refine at_gl 1 [] 77 2 5 A H fun fr t H => ?_
     exact at_sl 2 [(79, .bool (decide (p0.Group ≥ 1)))] H fun fr H => at_zb H hb
    | false =>
     replace H := H.kn 75 hb
     exact at_sl 4 [(79, .bool false)] H fun fr H => at_zb H hb
   intro t fr h' hK
   obtain ⟨e, H⟩ := hK
   subst e
   refine at_sl 1 [(80, .bool (x10 && (decide (p0.Group ≥ 1))))] H fun fr H => at_cl 4 (fun fr' h' => h12 = h' ∧ Has fr' 85 [(84, .bool ((x10 && (decide (p0.Group ≥ 1))) && (decide (p0.Group ≤ 1024))))]) ?_ ?_
   ·cases hb : (x10 && (decide (p0.Group ≥ 1)) : Bool) with
    | true =>
     replace H := H.kn 80 hb
     refine at_gl 1 [] 82 2 5 A H fun fr t H => ?_
     exact at_sl 2 [(84, .bool (decide (p0.Group ≤ 1024)))] H fun fr H => at_zb H hb
    | false =>
     replace H := H.kn 80 hb
     exact at_sl 4 [(84, .bool false)] H fun fr H => at_zb H hb
   intro t fr h' hK
   obtain ⟨e, H⟩ := hK
   subst e
   refine at_L 1 [(4, .bool ((x10 && (decide (p0.Group ≥ 1))) && (decide (p0.Group ≤ 1024))))] H fun fr H => aw_rt ?_
   obtain rfl := injA hm
   refine ⟨.inl rfl, .bool ((x10 && (decide (p0.Group ≥ 1))) && (decide (p0.Group ≤ 1024))), rH H, ?_⟩
   replace A := A.d0
   exact ⟨rfl, A⟩
  refine aw_ks 1 id (at_L 1 [(4, .bool true)] H fun fr H => aw_rt ?_)
  obtain rfl := injA hm
  refine ⟨.inl rfl, .bool true, rH H, ?_⟩
  replace A := A.d0
  exact ⟨rfl, A⟩
 exact hF.elim
def M_tree_Tree_Add_sQ3OR (p0 : S_rex_walk) (p1 : S_tree_Node) : Option (Int × Int × S_rex_walk × (List S_tree_Node)) :=
 iteB (decide ((p0.t_.Nodes.length : Int) ≥ 1024)) (some ((0 : Int), (8 : Int), p0, p0.t_.Nodes)) ((M_tree_may p1 (p0.t_.Nodes.length : Int)).bind fun x1 => iteB (!x1) (some ((0 : Int), (1 : Int), p0, p0.t_.Nodes)) (need (okN 80 (p0.t_.Nodes.length + ([p1] : List S_tree_Node).length)) <| some (IntKind.i64.wrap (((p0.t_.Nodes ++ ([p1] : List S_tree_Node)).length : Int) - 1), (0 : Int), (⟨p0.s_, p0.at_, p0.extended_, (⟨(p0.t_.Nodes ++ ([p1] : List S_tree_Node)), IntKind.i64.wrap (((p0.t_.Nodes ++ ([p1] : List S_tree_Node)).length : Int) - 1)⟩ : S_tree_Tree), p0.groups_, p0.depth_, p0.wrong_, p0.full_⟩ : S_rex_walk), (p0.t_.Nodes ++ ([p1] : List S_tree_Node)))))
theorem ok_tree_Tree_Add_sQ3OR {p0 p1 bp0 rp0_3 q0 q1 u0 u1} (hm : M_tree_Tree_Add_sQ3OR p0 p1 = some (q0, q1, u0, u1)) (A : HH g h [.obj bp0 (.cells none 2 (w_rex_walk_3 p0 (rowV rp0_3 p0.t_.Nodes.length))), .lst rp0_3 68 (lst e_S_tree_Node p0.t_.Nodes)] F) (hc : canL (cfg.still 91) av = [.ptr (some (bp0, 3)), .agg (e_S_tree_Node p1)] := by kernel_rfl) : ∃ v h', Runs cfg g h 91 av v h' ∧ ∃ (r'1 : Option Nat), v = .tuple [Ai q0, Ai q1] ∧ HH g h' [.obj bp0 (.cells none 2 (w_rex_walk_3 u0 (rowV r'1 u1.length))), .lst r'1 68 (lst e_S_tree_Node u1)] F := by
 refine rq1 45 [.tmp 4, .tmp 5] hc ?_
 clear hc
 unfold M_tree_Tree_Add_sQ3OR at hm
 refine bg 45 [(0, .ptr (some (bp0, 3))), (1, .agg (e_S_tree_Node p1))] fun fr H => ?_
 refine aw_sr 3 ?_
 obtain ⟨h1, e1, A⟩ := A.pu (.cells none 2 (e_S_tree_Node p1))
 refine at_ln 3 (.ptr (some (h.size, 0))) e1 H fun fr t H => ?_
 refine at_L 2 [] H fun fr H => aw_sq (aw_block (id := 0) (by kernel_rfl) ?_)
 refine aw_sr 7 (at_gl 3 [] 10 1 3 A H fun fr t H => ?_)
 refine at_L 3 [(6, .bool (decide ((p0.t_.Nodes.length : Int) ≥ 1024)))] H fun fr H => aw_if 6 H hm (fun hb hm H => ?_) fun hb hm H => ?_
 ·refine aw_sr 2 (at_L 2 [(4, Ai 0), (5, Ai 8)] H fun fr H => aw_rt ?_)
  obtain ⟨rfl, rfl, rfl, rfl⟩ := injD hm
  refine ⟨.inl rfl, .tuple [Ai 0, Ai 8], rH H, ?_⟩
  replace A := A.k2 1 2
  exact ⟨rp0_3, rfl, A⟩
 refine aw_sq (aw_dg 3 9 ?_)
 refine at_l1 14 _ _ H (fun fr => .of (s_ldA (by kernel_rfl) (A.ldA 0 rfl (o := 0) (n := 10) ⟨Nat.le_of_ble_eq_true rfl, rfl⟩))) fun fr t H => ?_
 refine at_gl 3 [] 18 1 3 A H fun fr t H => ?_
 obtain ⟨x1, hx, hm⟩ := bind_some hm
 obtain ⟨v1, h2, hr, rfl, A1⟩ := ok_tree_may (av := [.agg (e_S_tree_Node p1), Ai (p0.t_.Nodes.length : Int)]) hx (A.cut 0)
 replace A : HH g h2 [.obj h.size (.cells none 2 (e_S_tree_Node p1)), _, _] F := A.glue0 (n := 0) A1
 refine at_gc1 1 [] 20 hr H fun fr t H => ?_
 refine at_L 2 [(13, .bool (!x1))] H fun fr H => aw_if 13 H hm (fun hb hm H => ?_) fun hb hm H => ?_
 ·refine aw_sr 2 (at_L 2 [(4, Ai 0), (5, Ai 1)] H fun fr H => aw_rt ?_)
  obtain ⟨rfl, rfl, rfl, rfl⟩ := injD hm
  refine ⟨.inl rfl, .tuple [Ai 0, Ai 1], rH H, ?_⟩
  replace A := A.k2 1 2
  exact ⟨rp0_3, rfl, A⟩
 refine aw_kn id (aw_sq (aw_dg 5 11 ?_))
 refine at_gl 4 [(22, .ptr (some (bp0, 3)))] 26 1 3 A H fun fr t H => ?_
 refine at_l1 27 _ _ H (fun fr => .of (s_ldA (by kernel_rfl) (A.ldA 0 rfl (o := 0) (n := 10) ⟨Nat.le_of_ble_eq_true rfl, rfl⟩))) fun fr t H => ?_
 obtain ⟨h3, e2, A⟩ := A.pL 68 (e_S_tree_Node p1)
 refine at_ln 28 (rowV (some h2.size) (([p1] : List S_tree_Node).length)) e2 H fun fr t H => ?_
 obtain ⟨hb, hm⟩ := need_some hm
 obtain ⟨r1, h4, hx, A1⟩ := HH.appO enc_S_tree_Node (by decide) A 3 (xs := p0.t_.Nodes) (ys := ([p1] : List S_tree_Node)) rfl (row_first A 0 rfl (n := ([p1] : List S_tree_Node).length) (z := 10) rfl (by decide)) rfl rfl hb
 replace A : HH g h4 [.lst (some h2.size) 68 ((e_S_tree_Node p1)), _, _, .lst r1 68 (lst e_S_tree_Node (p0.t_.Nodes ++ ([p1] : List S_tree_Node)))] F := A1
 replace A := A.k3 1 2 3
 refine at_l1 29 _ _ H (fun fr => .of (s_app (s := rowS rp0_3 p0.t_.Nodes.length) (by kernel_rfl) hx)) fun fr t H => ?_
 obtain ⟨h5, hx, A1⟩ := A.st 1 rfl (o := 3) (new := [rowV r1 ((p0.t_.Nodes ++ ([p1] : List S_tree_Node)).length)]) (ds := (w_rex_walk_3 p0 (rowV r1 ((p0.t_.Nodes ++ ([p1] : List S_tree_Node)).length)))) (Nat.le_of_ble_eq_true rfl) rfl rfl
 replace A : HH g h5 [_, .obj bp0 (.cells none 2 [_, _, _, rowV r1 ((p0.t_.Nodes ++ ([p1] : List S_tree_Node)).length), _, _, _, _, _]), _] F := A1
 refine at_gs 2 [] hx H fun fr t H => ?_
 refine at_ns 10 id (at_gl 4 [(32, .ptr (some (bp0, 3)))] 36 1 3 A H fun fr t H => ?_)
 obtain ⟨h6, hx, A1⟩ := A.st 1 rfl (o := 4) (new := [Ai (IntKind.i64.wrap (((p0.t_.Nodes ++ ([p1] : List S_tree_Node)).length : Int) - 1))]) (ds := (w_rex_walk_3_4 p0 (rowV r1 ((p0.t_.Nodes ++ ([p1] : List S_tree_Node)).length)) (Ai (IntKind.i64.wrap (((p0.t_.Nodes ++ ([p1] : List S_tree_Node)).length : Int) - 1))))) (Nat.le_of_ble_eq_true rfl) rfl rfl
 replace A : HH g h6 [_, .obj bp0 (.cells none 2 [_, _, _, _, Ai (IntKind.i64.wrap (((p0.t_.Nodes ++ ([p1] : List S_tree_Node)).length : Int) - 1)), _, _, _, _]), _] F := A1
 refine at_gs 4 [] hx H fun fr t H => ?_
 refine at_ns 6 id (at_gl 3 [] 44 1 4 A H fun fr t H => ?_)
 refine at_L 2 [(4, Ai (IntKind.i64.wrap (((p0.t_.Nodes ++ ([p1] : List S_tree_Node)).length : Int) - 1))), (5, Ai 0)] H fun fr H => aw_rt ?_
 obtain ⟨rfl, rfl, rfl, rfl⟩ := injD hm
 refine ⟨.inl rfl, .tuple [Ai (IntKind.i64.wrap (((p0.t_.Nodes ++ ([p1] : List S_tree_Node)).length : Int) - 1)), Ai 0], rH H, ?_⟩
 replace A := A.k2 1 2
 exact ⟨r1, rfl, A⟩
def M_rex_walk_add_sPOR (p0 : S_rex_walk) (p1 : S_tree_Node) : Option (Int × S_rex_walk × (List S_tree_Node)) :=
 iteB p0.full_ (some ((0 : Int), p0, p0.t_.Nodes)) ((M_tree_Tree_Add_sQ3OR p0 p1).bind fun (x1, x2, x3, x4) => (iteB (x2 != 0) (some true) (some x3.full_) : Option ((Bool))).bind fun x5 => some (x1, (⟨x3.s_, x3.at_, x3.extended_, (⟨x4, x3.t_.Root⟩ : S_tree_Tree), x3.groups_, x3.depth_, x3.wrong_, x5⟩ : S_rex_walk), x4))
theorem ok_rex_walk_add_sPOR {p0 p1 bp0 rp0_3 q0 u0 u1} (hm : M_rex_walk_add_sPOR p0 p1 = some (q0, u0, u1)) (A : HH g h [.obj bp0 (.cells none 2 (w_rex_walk_3 p0 (rowV rp0_3 p0.t_.Nodes.length))), .lst rp0_3 68 (lst e_S_tree_Node p0.t_.Nodes)] F) (hc : canL (cfg.still 76) av = [.ptr (some (bp0, 0)), .agg (e_S_tree_Node p1)] := by kernel_rfl) : ∃ v h', Runs cfg g h 76 av v h' ∧ ∃ (r'1 : Option Nat), v = Ai q0 ∧ HH g h' [.obj bp0 (.cells none 2 (w_rex_walk_3 u0 (rowV r'1 u1.length))), .lst r'1 68 (lst e_S_tree_Node u1)] F := by
 refine rq1 25 [.tmp 4] hc ?_
 clear hc
 unfold M_rex_walk_add_sPOR at hm
 refine bg 25 [(0, .ptr (some (bp0, 0))), (1, .agg (e_S_tree_Node p1))] fun fr H => ?_
 refine aw_sr 2 ?_
 obtain ⟨h1, e1, A⟩ := A.pu (.cells none 2 (e_S_tree_Node p1))
 refine at_ln 3 (.ptr (some (h.size, 0))) e1 H fun fr t H => ?_
 refine at_L 1 [] H fun fr H => aw_sq (aw_sr 4 (at_gl 3 [] 10 1 8 A H fun fr t H => ?_))
 refine at_nl id (aw_if 10 H hm (fun hb hm H => ?_) fun hb hm H => ?_)
 ·refine aw_sr 1 (at_L 1 [(4, Ai 0)] H fun fr H => aw_rt ?_)
  obtain ⟨rfl, rfl, rfl⟩ := injC hm
  refine ⟨.inl rfl, Ai 0, rH H, ?_⟩
  replace A := A.k2 1 2
  exact ⟨rp0_3, rfl, A⟩
 refine aw_kn id (aw_sq (aw_dg 3 10 ?_))
 refine at_g1 3 [(14, .ptr (some (bp0, 3)))] 15 _ _ H (fun fr => .of (s_ldA (by kernel_rfl) (A.ldA 0 rfl (o := 0) (n := 10) ⟨Nat.le_of_ble_eq_true rfl, rfl⟩))) fun fr t H => ?_
 replace A : HH g h1 [_, _, .obj h.size (.cells none 2 (e_S_tree_Node p1))] F := ((A.front 2 rfl).front 2 rfl)
 obtain ⟨⟨x1, x2, x3, x4⟩, hx, hm⟩ := bind_some hm
 obtain ⟨v1, h2, hr, r1, rfl, A1⟩ := ok_tree_Tree_Add_sQ3OR (av := [.ptr (some (bp0, 3)), .agg (e_S_tree_Node p1)]) hx (A.cut 2)
 replace A := A.g22 A1
 refine at_lc1 16 hr H fun fr t H => ?_
 refine at_L 5 [(5, Ai x1), (6, Ai x2)] H fun fr H => aw_sq ?_
 obtain ⟨o1, ho, hm⟩ := bind_some hm
 refine aw_mono (Q' := fun e fr' h' => (∃ x5, e = .normal ∧ x5 = o1 ∧ Has fr' 25 [(5, Ai x1)] ∧ HH g h' [.obj bp0 (.cells none 2 (w_rex_walk_3_8 x3 (rowV r1 x4.length) (.bool x5))), .lst r1 68 (lst e_S_tree_Node x4), .obj h.size (.cells none 2 (e_S_tree_Node p1))] F) ∨ False) ?_ ?_
 ·replace hm := ho
  clear ho
  refine aw_sr 2 (at_L 2 [(20, .bool (x2 != 0))] H fun fr H => aw_if 20 H hm (fun hb hm H => ?_) fun hb hm H => ?_)
  ·refine aw_rg 4 ?_
   obtain ⟨h3, hx, A⟩ := A.s0 8 [.bool true] [_, _, _, _, _, _, _, _, _]
   refine at_gs 3 [] hx H fun fr t H => ?_
   refine at_nil ?_
   exact .inl ⟨_, rfl, injA hm, H.ls, A⟩
  exact aw_sk (.inl ⟨_, rfl, injA hm, H.ls, A⟩)
 clear ho
 clear A
 intro e fr h4 hQ
 rcases hQ with ⟨x5, rfl, rfl, H, A⟩ | hF
 ·show AW _ _ _ _ _ _ _
  refine aw_sr 2 (at_L 2 [(4, Ai x1)] H fun fr H => aw_rt ?_)
  obtain ⟨rfl, rfl, rfl⟩ := injC hm
  refine ⟨.inl rfl, Ai x1, rH H, ?_⟩
  replace A := A.d2
  exact ⟨r1, rfl, A⟩
 exact hF.elim
def M_rex_walk_one_sPOI (p0 : S_rex_walk) (p1 : Int) : Option (Int × S_rex_walk × (List S_tree_Node)) :=
 (M_class_Range p1 p1).bind fun x1 => (M_rex_walk_add_sPOR p0 (⟨(1 : Int), (0 : Int), (0 : Int), (0 : Int), (0 : Int), (0 : Int), x1⟩ : S_tree_Node)).bind fun (x2, x3, x4) => some (x2, (⟨x3.s_, x3.at_, x3.extended_, (⟨x4, x3.t_.Root⟩ : S_tree_Tree), x3.groups_, x3.depth_, x3.wrong_, x3.full_⟩ : S_rex_walk), x4)
theorem ok_rex_walk_one_sPOI {p0 p1 bp0 rp0_3 q0 u0 u1} (hm : M_rex_walk_one_sPOI p0 p1 = some (q0, u0, u1)) (A : HH g h [.obj bp0 (.cells none 2 (w_rex_walk_3 p0 (rowV rp0_3 p0.t_.Nodes.length))), .lst rp0_3 68 (lst e_S_tree_Node p0.t_.Nodes)] F) (hc : canL (cfg.still 75) av = [.ptr (some (bp0, 0)), Ab p1] := by kernel_rfl) : ∃ v h', Runs cfg g h 75 av v h' ∧ ∃ (r'1 : Option Nat), v = Ai q0 ∧ HH g h' [.obj bp0 (.cells none 2 (w_rex_walk_3 u0 (rowV r'1 u1.length))), .lst r'1 68 (lst e_S_tree_Node u1)] F := by
 refine rq1 11 [.tmp 4] hc ?_
 clear hc
 unfold M_rex_walk_one_sPOI at hm
 refine bg 11 [(0, .ptr (some (bp0, 0))), (1, Ab p1)] fun fr H => ?_
 refine aw_sr 1 (at_S 1 [] 7 H fun fr H => ?_)
 obtain ⟨x1, hx, hm⟩ := bind_some hm
 obtain ⟨v1, h1, hr, rfl, A1⟩ := ok_class_Range (av := [Ab p1, Ab p1]) hx (A.cut 0)
 replace A := A.g00 A1
 refine at_gc1 3 [(5, .ptr (some (bp0, 0)))] 8 hr H fun fr t H => ?_
 obtain ⟨⟨x2, x3, x4⟩, hx, hm⟩ := bind_some hm
 obtain ⟨v1, h2, hr, r1, rfl, A1⟩ := ok_rex_walk_add_sPOR (av := [.ptr (some (bp0, 0)), .agg [Ai 1, Ai 0, Ai 0, Ai 0, Ai 0, Ai 0, Au x1.w0, Au x1.w1, Au x1.w2, Au x1.w3]]) hx (A.cut 2)
 replace A := A.g22 A1
 refine at_gc1 1 [] 10 hr H fun fr t H => ?_
 refine at_L 1 [(4, Ai x2)] H fun fr H => aw_rt ?_
 obtain ⟨rfl, rfl, rfl⟩ := injC hm
 exact ⟨.inl rfl, _, rH H, _, rfl, A⟩
def M_rex_walk_next_sPOS (p0 : S_rex_walk) (p1 : List UInt8) : Option (Bool × S_rex_walk) :=
 (M_rex_walk_sign_sPOS p0 p1).bind fun x1 => iteB (!x1) (some (false, p0)) ((iteB (!p0.extended_) (some (IntKind.i64.wrap ((IntKind.i64.wrap (p0.at_ + (p1.length : Int))) + 1))) (some (IntKind.i64.wrap (p0.at_ + (p1.length : Int)))) : Option ((Int))).bind fun x2 => some (true, (⟨p0.s_, x2, p0.extended_, p0.t_, p0.groups_, p0.depth_, p0.wrong_, p0.full_⟩ : S_rex_walk)))
theorem ok_rex_walk_next_sPOS {p0 p1 bp0 rp0_3 q0 u0} (hm : M_rex_walk_next_sPOS p0 p1 = some (q0, u0)) (A : HH g h [.obj bp0 (.cells none 2 (w_rex_walk_3 p0 (rowV rp0_3 p0.t_.Nodes.length))), .lst rp0_3 68 (lst e_S_tree_Node p0.t_.Nodes)] F) (hc : canL (cfg.still 57) av = [.ptr (some (bp0, 0)), .str p1] := by kernel_rfl) : ∃ v h', Runs cfg g h 57 av v h' ∧ v = .bool q0 ∧ HH g h' [.obj bp0 (.cells none 2 (w_rex_walk_3 u0 (rowV rp0_3 p0.t_.Nodes.length))), .lst rp0_3 68 (lst e_S_tree_Node p0.t_.Nodes)] F := by
 refine rq1 30 [.tmp 4] hc ?_
 clear hc
 unfold M_rex_walk_next_sPOS at hm
 refine bg 30 [(0, .ptr (some (bp0, 0))), (1, .str p1)] fun fr H => ?_
 refine aw_sr 1 (at_L 1 [] H fun fr H => aw_sq (aw_sr 4 ?_))
 obtain ⟨x1, hx, hm⟩ := bind_some hm
 obtain ⟨v1, h1, hr, rfl, A1⟩ := ok_rex_walk_sign_sPOS (av := [.ptr (some (bp0, 0)), .str p1]) hx (A.cut 2)
 replace A := A.g22 A1
 refine at_gc1 2 [] 7 hr H fun fr t H => ?_
 refine at_L 1 [(8, .bool (!x1))] H fun fr H => aw_if 8 H hm (fun hb hm H => ?_) fun hb hm H => ?_
 ·refine aw_sr 1 (at_L 1 [(4, .bool false)] H fun fr H => aw_rt ?_)
  obtain ⟨rfl, rfl⟩ := injB hm
  exact ⟨.inl rfl, _, rH H, rfl, A⟩
 refine aw_ks 10 id (at_gl 3 [(9, .ptr (some (bp0, 0)))] 12 0 1 A H fun fr t H => ?_)
 obtain ⟨h2, hx, A⟩ := A.s0 1 [Ai (IntKind.i64.wrap (p0.at_ + (p1.length : Int)))] [_, _, _, _, _, _, _, _, _]
 refine at_gs 5 [] hx H fun fr t H => ?_
 refine at_nl id (aw_sq ?_)
 obtain ⟨o1, ho, hm⟩ := bind_some hm
 refine aw_mono (Q' := fun e fr' h' => (∃ x2, e = .normal ∧ x2 = o1 ∧ Has fr' 30 [] ∧ HH g h' [.obj bp0 (.cells none 2 (w_rex_walk_1_3 p0 (Ai x2) (rowV rp0_3 p0.t_.Nodes.length))), .lst rp0_3 68 (lst e_S_tree_Node p0.t_.Nodes)] F) ∨ False) ?_ ?_
 ·replace hm := ho
  clear ho
  refine aw_sr 5 (at_gl 3 [] 21 0 2 A H fun fr t H => ?_)
  refine at_L 1 [(22, .bool (!p0.extended_))] H fun fr H => aw_if 22 H hm (fun hb hm H => ?_) fun hb hm H => ?_
  ·refine aw_rg 8 (at_gl 3 [(23, .ptr (some (bp0, 0)))] 26 0 1 A H fun fr t H => ?_)
   obtain ⟨h3, hx, A⟩ := A.s0 1 [Ai (IntKind.i64.wrap ((IntKind.i64.wrap (p0.at_ + (p1.length : Int))) + 1))] [_, _, _, _, _, _, _, _, _]
   refine at_gs 3 [] hx H fun fr t H => ?_
   refine at_nil ?_
   exact .inl ⟨_, rfl, injA hm, H.ls, A⟩
  exact aw_sk (.inl ⟨_, rfl, injA hm, H.ls, A⟩)
 clear ho
 clear A
 intro e fr h4 hQ
 rcases hQ with ⟨x2, rfl, rfl, H, A⟩ | hF
 ·show AW _ _ _ _ _ _ _
  refine aw_sr 1 (at_L 1 [(4, .bool true)] H fun fr H => aw_rt ?_)
  obtain ⟨rfl, rfl⟩ := injB hm
  exact ⟨.inl rfl, _, rH H, rfl, A⟩
 exact hF.elim
def M_rex_walk_number_sPO_L0 (p0 : S_rex_walk) (s : Int × Int × Int) : Option ((Int × Int × Int) ⊕ ((Int × Int × Int))) :=
 match s with
 | (x1, x2, x3) => (iteB (decide (x1 < (p0.s_.length : Int))) ((ixS p0.s_ x1).bind fun x8 => some (decide (x8 ≥ 48))) (some false) : Option (Bool)).bind fun x7 => (iteB x7 ((ixS p0.s_ x1).bind fun x10 => some (decide (x10 ≤ 57))) (some false) : Option (Bool)).bind fun x9 => iteB (x9 && (decide (x3 < 4))) ((ixS p0.s_ x1).bind fun x11 => some (.inl (IntKind.i64.wrap (x1 + 1), IntKind.i64.wrap ((IntKind.i64.wrap ((10 : Int) * x2)) + (IntKind.i64.wrap (IntKind.u8.wrap (x11 - 48)))), IntKind.i64.wrap (x3 + 1)))) (some (.inr (x1, x2, x3)))
def M_rex_walk_number_sPO (p0 : S_rex_walk) : Option (Int × Bool × S_rex_walk) :=
 (loop (M_rex_walk_number_sPO_L0 p0) (p0.at_, (0 : Int), (0 : Int))).bind fun (x4, x5, x6) => some (x5, ((decide (x6 ≥ 1)) && (decide (x6 ≤ 3))) && (decide (x5 ≤ 255)), (⟨p0.s_, x4, p0.extended_, p0.t_, p0.groups_, p0.depth_, p0.wrong_, p0.full_⟩ : S_rex_walk))
theorem ok_rex_walk_number_sPO {p0 bp0 rp0_3 q0 q1 u0} (hm : M_rex_walk_number_sPO p0 = some (q0, q1, u0)) (A : HH g h [.obj bp0 (.cells none 2 (w_rex_walk_3 p0 (rowV rp0_3 p0.t_.Nodes.length))), .lst rp0_3 68 (lst e_S_tree_Node p0.t_.Nodes)] F) (hc : canL (cfg.still 99) av = [.ptr (some (bp0, 0))] := by kernel_rfl) : ∃ v h', Runs cfg g h 99 av v h' ∧ v = .tuple [Ai q0, .bool q1] ∧ HH g h' [.obj bp0 (.cells none 2 (w_rex_walk_3 u0 (rowV rp0_3 p0.t_.Nodes.length))), .lst rp0_3 68 (lst e_S_tree_Node p0.t_.Nodes)] F := by
 refine rq1 78 [.tmp 2, .tmp 3] hc ?_
 clear hc
 unfold M_rex_walk_number_sPO at hm
 refine bg 78 [(0, .ptr (some (bp0, 0)))] fun fr H => ?_
 refine aw_sr 2 (at_S 2 [] 2 H fun fr H => at_L 2 [(4, Ai 0), (5, Ai 0)] H fun fr H => aw_sq (aw_block (id := 0) (by kernel_rfl) ?_))
 obtain ⟨o1, ho, hm⟩ := bind_some hm
 refine aw_mono (Q' := fun e fr' h' => (∃ x4 x5 x6, e = .exit 0 ∧ (x4, x5, x6) = o1 ∧ Has fr' 78 [(4, Ai x5), (5, Ai x6)] ∧ HH g h' [.obj bp0 (.cells none 2 (w_rex_walk_1_3 p0 (Ai x4) (rowV rp0_3 p0.t_.Nodes.length))), .lst rp0_3 68 (lst e_S_tree_Node p0.t_.Nodes)] F) ∨ False) ?_ ?_
 ·refine aw_loop (by kernel_rfl) (fun (s : Int × Int × Int) fr' h' => ∃ x1 x2 x3, (x1, x2, x3) = s ∧ Has fr' 78 [(0, .ptr (some (bp0, 0))), (4, Ai x2), (5, Ai x3)] ∧ HH g h' [.obj bp0 (.cells none 2 (w_rex_walk_1_3 p0 (Ai x1) (rowV rp0_3 p0.t_.Nodes.length))), .lst rp0_3 68 (lst e_S_tree_Node p0.t_.Nodes)] F) ho ⟨_, _, _, rfl, H.ls, A⟩ ?_
  clear ho hm H A
  intro s q fr h1 hI hm
  obtain ⟨x1, x2, x3, rfl, H, A⟩ := hI
  unfold M_rex_walk_number_sPO_L0 at hm
  refine aw_sq (aw_sq (aw_dg 2 38 ?_))
  refine at_gl 3 [] 9 0 1 A H fun fr t H => ?_
  refine at_gl 3 [] 13 0 0 A H fun fr t H => ?_
  refine at_sl 3 [(16, .bool (decide (x1 < (p0.s_.length : Int))))] H fun fr H => ?_
  obtain ⟨x7, ho, hm⟩ := bind_some hm
  refine at_cl 11 (fun fr' h' => Has fr' 78 [(0, .ptr (some (bp0, 0))), (4, Ai x2), (5, Ai x3), (27, .bool x7)] ∧ HH g h' [.obj bp0 (.cells none 2 (w_rex_walk_1_3 p0 (Ai x1) (rowV rp0_3 p0.t_.Nodes.length))), .lst rp0_3 68 (lst e_S_tree_Node p0.t_.Nodes)] F) ?_ ?_
  ·rcases iteB_some ho with ⟨hb, hm⟩ | ⟨hb, hm⟩
   ·replace H := H.kn 16 hb
    refine at_gl 3 [] 20 0 0 A H fun fr t H => ?_
    refine at_gl 3 [] 24 0 1 A H fun fr t H => ?_
    obtain ⟨x8, hx, hm⟩ := bind_some hm
    refine at_l1 25 (Ab x8) h1 H (fun fr => .of (s_ixS (by kernel_rfl) hx)) fun fr t H => ?_
    refine at_sl 2 [(27, .bool (decide (x8 ≥ 48)))] H fun fr H => ?_
    obtain rfl := injA hm
    exact at_nil ⟨H.ls, A⟩
   replace H := H.kn 16 hb
   refine at_sl 11 [(27, .bool false)] H fun fr H => ?_
   obtain rfl := injA hm
   exact at_nil ⟨H.ls, A⟩
  clear A
  intro t fr h2 hK
  obtain ⟨H, A⟩ := hK
  refine at_sl 1 [(28, .bool x7)] H fun fr H => ?_
  obtain ⟨x9, ho, hm⟩ := bind_some hm
  refine at_cl 11 (fun fr' h' => Has fr' 78 [(0, .ptr (some (bp0, 0))), (4, Ai x2), (5, Ai x3), (39, .bool x9)] ∧ HH g h' [.obj bp0 (.cells none 2 (w_rex_walk_1_3 p0 (Ai x1) (rowV rp0_3 p0.t_.Nodes.length))), .lst rp0_3 68 (lst e_S_tree_Node p0.t_.Nodes)] F) ?_ ?_
  ·rcases iteB_some ho with ⟨hb, hm⟩ | ⟨hb, hm⟩
   ·replace H := H.kn 28 hb
    refine at_gl 3 [] 32 0 0 A H fun fr t H => ?_
    refine at_gl 3 [] 36 0 1 A H fun fr t H => ?_
    obtain ⟨x10, hx, hm⟩ := bind_some hm
    refine at_l1 37 (Ab x10) h2 H (fun fr => .of (s_ixS (by kernel_rfl) hx)) fun fr t H => ?_
    refine at_sl 2 [(39, .bool (decide (x10 ≤ 57)))] H fun fr H => ?_
    obtain rfl := injA hm
    exact at_nil ⟨H.ls, A⟩
   replace H := H.kn 28 hb
   refine at_sl 11 [(39, .bool false)] H fun fr H => ?_
   obtain rfl := injA hm
   exact at_nil ⟨H.ls, A⟩
  clear A
  intro t fr h3 hK
  obtain ⟨H, A⟩ := hK
  refine at_sl 1 [(40, .bool x9)] H fun fr H => at_cl 3 (fun fr' h' => h3 = h' ∧ Has fr' 78 [(0, .ptr (some (bp0, 0))), (4, Ai x2), (5, Ai x3), (43, .bool (x9 && (decide (x3 < 4))))]) ?_ ?_
  ·cases hb : (x9 : Bool) with
   | true =>
    replace H := H.kn 40 hb
    exact at_sl 3 [(43, .bool (decide (x3 < 4)))] H fun fr H => at_zb H hb
   | false =>
    replace H := H.kn 40 hb
    exact at_sl 3 [(43, .bool false)] H fun fr H => at_zb H hb
  intro t fr h' hK
  obtain ⟨e, H⟩ := hK
  subst e
  refine at_nl id (aw_if 43 H hm (fun hb hm H => ?_) fun hb hm H => ?_)
  ·refine aw_kn id (aw_block (id := 1) (by kernel_rfl) ?_)
   refine aw_sq (aw_dg 3 15 ?_)
   refine at_gl 5 [(45, Ai (IntKind.i64.wrap ((10 : Int) * x2)))] 49 0 0 A H fun fr t H => ?_
   refine at_gl 3 [] 53 0 1 A H fun fr t H => ?_
   obtain ⟨x11, hx, hm⟩ := bind_some hm
   refine at_l1 54 (Ab x11) h3 H (fun fr => .of (s_ixS (by kernel_rfl) hx)) fun fr t H => ?_
   refine at_se 4 [(0, .ptr (some (bp0, 0))), (4, Ai (IntKind.i64.wrap ((IntKind.i64.wrap ((10 : Int) * x2)) + (IntKind.i64.wrap (IntKind.u8.wrap (x11 - 48)))))), (5, Ai x3)] H fun fr H => at_ns 8 id (at_gl 3 [(58, .ptr (some (bp0, 0)))] 61 0 1 A H fun fr t H => ?_)
   obtain ⟨h4, hx, A⟩ := A.s0 1 [Ai (IntKind.i64.wrap (x1 + 1))] [_, _, _, _, _, _, _, _, _]
   refine at_gs 3 [] hx H fun fr t H => ?_
   refine at_nr 3 id (at_se 3 [(0, .ptr (some (bp0, 0))), (4, Ai (IntKind.i64.wrap ((IntKind.i64.wrap ((10 : Int) * x2)) + (IntKind.i64.wrap (IntKind.u8.wrap (x11 - 48)))))), (5, Ai (IntKind.i64.wrap (x3 + 1)))] H fun fr H => at_nil ?_)
   exact nx hm ⟨_, _, _, rfl, H.ls, A⟩
  refine aw_exit (i := 0) (by kernel_rfl) ?_
  exact nr hm fun e => .inl ⟨_, _, _, rfl, e, H.ls, A⟩
 clear ho
 clear A
 intro e fr h5 hQ
 rcases hQ with ⟨x4, x5, x6, rfl, rfl, H, A⟩ | hF
 ·show AW _ _ _ _ _ _ _
  refine aw_sr 13 (at_sl 4 [(67, Ai x5), (70, .bool (decide (x6 ≥ 1)))] H fun fr H => at_cl 3 (fun fr' h' => h5 = h' ∧ Has fr' 78 [(4, Ai x5), (67, Ai x5), (73, .bool ((decide (x6 ≥ 1)) && (decide (x6 ≤ 3))))]) ?_ ?_)
  ·cases hb : (decide (x6 ≥ 1) : Bool) with
   | true =>
    replace H := H.kn 70 hb
    exact at_sl 3 [(73, .bool (decide (x6 ≤ 3)))] H fun fr H => at_zb H hb
   | false =>
    replace H := H.kn 70 hb
    exact at_sl 3 [(73, .bool false)] H fun fr H => at_zb H hb
  intro t fr h' hK
  obtain ⟨e, H⟩ := hK
  subst e
  refine at_sl 1 [(74, .bool ((decide (x6 ≥ 1)) && (decide (x6 ≤ 3))))] H fun fr H => at_cl 3 (fun fr' h' => h5 = h' ∧ Has fr' 78 [(67, Ai x5), (77, .bool (((decide (x6 ≥ 1)) && (decide (x6 ≤ 3))) && (decide (x5 ≤ 255))))]) ?_ ?_
  ·cases hb : ((decide (x6 ≥ 1)) && (decide (x6 ≤ 3)) : Bool) with
   | true =>
    replace H := H.kn 74 hb
    exact at_sl 3 [(77, .bool (decide (x5 ≤ 255)))] H fun fr H => at_zb H hb
   | false =>
    replace H := H.kn 74 hb
    exact at_sl 3 [(77, .bool false)] H fun fr H => at_zb H hb
  intro t fr h' hK
  obtain ⟨e, H⟩ := hK
  subst e
  refine at_L 2 [(2, Ai x5), (3, .bool (((decide (x6 ≥ 1)) && (decide (x6 ≤ 3))) && (decide (x5 ≤ 255))))] H fun fr H => aw_rt ?_
  obtain ⟨rfl, rfl, rfl⟩ := injC hm
  exact ⟨.inl rfl, _, rH H, rfl, A⟩
 exact hF.elim
def M_rex_walk_fail_sPOI (p0 : S_rex_walk) (p1 : Int) : Option (S_rex_walk) :=
 iteB (decide (p0.wrong_ < 0)) (some (⟨p0.s_, p0.at_, p0.extended_, p0.t_, p0.groups_, p0.depth_, p1, p0.full_⟩ : S_rex_walk)) (some p0)
theorem ok_rex_walk_fail_sPOI {p0 p1 bp0 rp0_3 u0} (hm : M_rex_walk_fail_sPOI p0 p1 = some u0) (A : HH g h [.obj bp0 (.cells none 2 (w_rex_walk_3 p0 (rowV rp0_3 p0.t_.Nodes.length))), .lst rp0_3 68 (lst e_S_tree_Node p0.t_.Nodes)] F) (hc : canL (cfg.still 38) av = [.ptr (some (bp0, 0)), Ai p1] := by kernel_rfl) : ∃ v h', Runs cfg g h 38 av v h' ∧ v = .tuple [] ∧ HH g h' [.obj bp0 (.cells none 2 (w_rex_walk_3 u0 (rowV rp0_3 p0.t_.Nodes.length))), .lst rp0_3 68 (lst e_S_tree_Node p0.t_.Nodes)] F := by
 refine rq1 13 [] hc ?_
 clear hc
 unfold M_rex_walk_fail_sPOI at hm
 refine bg 13 [(0, .ptr (some (bp0, 0))), (1, Ai p1)] fun fr H => ?_
 refine aw_sr 5 (at_gl 3 [] 7 0 7 A H fun fr t H => ?_)
 refine at_L 1 [(8, .bool (decide (p0.wrong_ < 0)))] H fun fr H => aw_if 8 H hm (fun hb hm H => ?_) fun hb hm H => ?_
 ·refine aw_rg 5 ?_
  obtain ⟨h1, hx, A⟩ := A.s0 7 [Ai p1] [_, _, _, _, _, _, _, _, _]
  refine at_gs 4 [] hx H fun fr t H => ?_
  refine at_nil ?_
  obtain rfl := injA hm
  refine ⟨.inr rfl, .tuple [], rH H, ?_⟩
  exact ⟨rfl, A⟩
 refine aw_sk ?_
 obtain rfl := injA hm
 refine ⟨.inr rfl, .tuple [], rH H, ?_⟩
 exact ⟨rfl, A⟩
def M_bracket_scan_next (p0 : S_bracket_scan) (p1 : List UInt8) : Option (Bool × S_bracket_scan) :=
 (subS p0.s_ (some p0.at_) none).bind fun x1 => (M_strings_HasPrefix x1 p1).bind fun x2 => iteB (!x2) (some (false, p0)) (some (true, (⟨p0.s_, IntKind.i64.wrap (p0.at_ + (p1.length : Int)), p0.glob_, p0.set_⟩ : S_bracket_scan)))
theorem ok_bracket_scan_next {p0 p1 bp0 q0 u0} (hm : M_bracket_scan_next p0 p1 = some (q0, u0)) (A : HH g h [.obj bp0 (.cells none 2 (e_S_bracket_scan p0))] F) (hc : canL (cfg.still 101) av = [.ptr (some (bp0, 0)), .str p1] := by kernel_rfl) : ∃ v h', Runs cfg g h 101 av v h' ∧ v = .bool q0 ∧ HH g h' [.obj bp0 (.cells none 2 (e_S_bracket_scan u0))] F := by
 refine rq1 26 [.tmp 4] hc ?_
 clear hc
 unfold M_bracket_scan_next at hm
 refine bg 26 [(0, .ptr (some (bp0, 0))), (1, .str p1)] fun fr H => ?_
 refine aw_sr 1 (at_L 1 [] H fun fr H => aw_sq (aw_sq (aw_dg 1 12 ?_)))
 refine at_gl 3 [] 8 0 0 A H fun fr t H => ?_
 refine at_gl 3 [] 12 0 1 A H fun fr t H => ?_
 obtain ⟨x1, hx, hm⟩ := bind_some hm
 refine at_l1 13 (.str x1) h H (fun fr => .of (s_subS (k := .i64) (k' := .i64) (lo := (some p0.at_)) (hi := none) (by kernel_rfl) hx)) fun fr t H => ?_
 obtain ⟨x2, hx, hm⟩ := bind_some hm
 obtain ⟨v1, h1, hr, rfl, A1⟩ := ok_strings_HasPrefix (av := [.str x1, .str p1]) hx (A.cut 0)
 replace A := A.g00 A1
 refine at_gc1 1 [] 15 hr H fun fr t H => ?_
 refine at_L 1 [(16, .bool (!x2))] H fun fr H => aw_if 16 H hm (fun hb hm H => ?_) fun hb hm H => ?_
 ·refine aw_sr 1 (at_L 1 [(4, .bool false)] H fun fr H => aw_rt ?_)
  obtain ⟨rfl, rfl⟩ := injB hm
  exact ⟨.inl rfl, _, rH H, rfl, A⟩
 refine aw_ks 10 id (at_gl 3 [(17, .ptr (some (bp0, 0)))] 20 0 1 A H fun fr t H => ?_)
 obtain ⟨h2, hx, A⟩ := A.s0 1 [Ai (IntKind.i64.wrap (p0.at_ + (p1.length : Int)))] [_, _, _, _, _, _, _]
 refine at_gs 5 [] hx H fun fr t H => ?_
 refine at_ns 1 id (at_L 1 [(4, .bool true)] H fun fr H => aw_rt ?_)
 obtain ⟨rfl, rfl⟩ := injB hm
 exact ⟨.inl rfl, _, rH H, rfl, A⟩
def M_rex_walk_back_sPO (p0 : S_rex_walk) : Option (Bool) :=
 (M_rex_walk_closes_sPO (⟨p0.s_, IntKind.i64.wrap (p0.at_ + 1), p0.extended_, p0.t_, p0.groups_, p0.depth_, p0.wrong_, p0.full_⟩ : S_rex_walk)).bind fun x1 => some x1
theorem ok_rex_walk_back_sPO {p0 bp0 rp0_3 q0} (hm : M_rex_walk_back_sPO p0 = some q0) (A : HH g h [.obj bp0 (.cells none 2 (w_rex_walk_3 p0 (rowV rp0_3 p0.t_.Nodes.length))), .lst rp0_3 68 (lst e_S_tree_Node p0.t_.Nodes)] F) (hc : canL (cfg.still 94) av = [.ptr (some (bp0, 0))] := by kernel_rfl) : ∃ v h', Runs cfg g h 94 av v h' ∧ v = .bool q0 ∧ HH g h' [.obj bp0 (.cells none 2 (w_rex_walk_3 p0 (rowV rp0_3 p0.t_.Nodes.length))), .lst rp0_3 68 (lst e_S_tree_Node p0.t_.Nodes)] F := by
 refine rq1 12 [.tmp 2] hc ?_
 clear hc
 unfold M_rex_walk_back_sPO at hm
 refine bg 12 [(0, .ptr (some (bp0, 0)))] fun fr H => ?_
 refine aw_sr 1 (at_S 1 [] 5 H fun fr H => at_g1 2 [] 6 _ _ H (fun fr => .of (s_ldA (by kernel_rfl) (A.ldA 0 rfl (o := 0) (n := 9) ⟨Nat.le_of_ble_eq_true rfl, rfl⟩))) fun fr t H => ?_)
 obtain ⟨h1, e1, A⟩ := A.pu (.cells none 2 [.str ([] : List UInt8), Ai 0, .bool false, .slice none 0, Ai 0, Ai 0, Ai 0, Ai 0, .bool false])
 refine at_ln 3 (.ptr (some (h.size, 0))) e1 H fun fr t H => ?_
 obtain ⟨h2, hx, A⟩ := A.s0 0 (w_rex_walk_3 p0 (rowV rp0_3 p0.t_.Nodes.length)) [_, _, _, _, _, _, _, _, _]
 refine at_lS hx H fun fr t H => ?_
 refine at_ns 5 id (at_gl 1 [] 8 0 1 A H fun fr t H => ?_)
 obtain ⟨h3, hx, A⟩ := A.s0 1 [Ai (IntKind.i64.wrap (p0.at_ + 1))] [_, _, _, _, _, _, _, _, _]
 refine at_gs 2 [] hx H fun fr t H => ?_
 refine at_ns 2 id ?_
 replace A := A.k3 0 2 1
 obtain ⟨x1, hx, hm⟩ := bind_some hm
 obtain ⟨v1, h4, hr, rfl, A1⟩ := ok_rex_walk_closes_sPO (av := [.ptr (some (h.size, 0))]) hx (A.cut 2)
 replace A := A.g22 A1
 refine at_lc1 11 hr H fun fr t H => ?_
 refine at_L 1 [(2, .bool x1)] H fun fr H => aw_rt ?_
 obtain rfl := injA hm
 refine ⟨.inl rfl, .bool x1, rH H, ?_⟩
 replace A := A.k2 2 1
 exact ⟨rfl, A⟩
end
end Go.Av.L
