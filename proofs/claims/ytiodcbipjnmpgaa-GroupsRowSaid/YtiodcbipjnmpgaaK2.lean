/-
  Models of functions, and that the abstract run tells them. Written by lift2.py.
-/
import Derived.Test.YtiodcbipjnmpgaaKCfg
import Derived.Test.YtiodcbipjnmpgaaK0
import Derived.Test.YtiodcbipjnmpgaaK1
namespace Go.Av.L
open Go.Av Go.Lib
set_option maxRecDepth 10000
set_option linter.unusedVariables false
set_option linter.unusedSimpArgs false
variable {g : Gd} {h : AHeap} {F : List Ck} {av : List AVal}
noncomputable section
def M_bracket_scan_closed (p0 : S_bracket_scan) (p1 : List UInt8) : Option (Int × Bool × S_bracket_scan) :=
 (iteB (decide ((IntKind.i64.wrap (p0.at_ + 3)) > (p0.s_.length : Int))) (some true) ((subS p0.s_ (some (IntKind.i64.wrap (p0.at_ + 1))) (some (IntKind.i64.wrap (p0.at_ + 3)))).bind fun x2 => some (!(x2 == p1))) : Option (Bool)).bind fun x1 => iteB x1 (some ((0 : Int), false, p0)) ((ixS p0.s_ p0.at_).bind fun x3 => some (x3, true, (⟨p0.s_, IntKind.i64.wrap (p0.at_ + 3), p0.glob_, p0.set_⟩ : S_bracket_scan)))
theorem ok_bracket_scan_closed {p0 p1 bp0 q0 q1 u0} (hm : M_bracket_scan_closed p0 p1 = some (q0, q1, u0)) (A : HH g h [.obj bp0 (.cells none 2 (e_S_bracket_scan p0))] F) (hc : canL (cfg.still 106) av = [.ptr (some (bp0, 0)), .str p1] := by kernel_rfl) : ∃ v h', Runs cfg g h 106 av v h' ∧ v = .tuple [Ab q0, .bool q1] ∧ HH g h' [.obj bp0 (.cells none 2 (e_S_bracket_scan u0))] F := by
 refine rq1 54 [.tmp 4, .tmp 5] hc ?_
 clear hc
 unfold M_bracket_scan_closed at hm
 refine bg 54 [(0, .ptr (some (bp0, 0))), (1, .str p1)] fun fr H => ?_
 refine aw_sr 2 (at_L 2 [] H fun fr H => aw_sq (aw_sq (aw_dg 1 30 ?_)))
 refine at_gl 3 [] 10 0 1 A H fun fr t H => ?_
 refine at_gl 4 [(11, Ai (IntKind.i64.wrap (p0.at_ + 3)))] 15 0 0 A H fun fr t H => ?_
 refine at_sl 3 [(18, .bool (decide ((IntKind.i64.wrap (p0.at_ + 3)) > (p0.s_.length : Int))))] H fun fr H => ?_
 obtain ⟨x1, ho, hm⟩ := bind_some hm
 refine at_cl 18 (fun fr' h' => Has fr' 54 [(0, .ptr (some (bp0, 0))), (36, .bool x1)] ∧ HH g h' [.obj bp0 (.cells none 2 (e_S_bracket_scan p0))] F) ?_ ?_
 ·rcases iteB_some ho with ⟨hb, hm⟩ | ⟨hb, hm⟩
  ·replace H := H.kn 18 hb
   refine at_sl 18 [(36, .bool true)] H fun fr H => ?_
   obtain rfl := injA hm
   exact at_nil ⟨H.ls, A⟩
  replace H := H.kn 18 hb
  refine at_gl 3 [] 22 0 0 A H fun fr t H => ?_
  refine at_gl 3 [] 26 0 1 A H fun fr t H => ?_
  refine at_gl 4 [(27, Ai (IntKind.i64.wrap (p0.at_ + 1)))] 31 0 1 A H fun fr t H => ?_
  obtain ⟨x2, hx, hm⟩ := bind_some hm
  refine at_g1 1 [] 33 (.str x2) h H (fun fr => .of (s_subS (k := .i64) (k' := .i64) (lo := (some (IntKind.i64.wrap (p0.at_ + 1)))) (hi := (some (IntKind.i64.wrap (p0.at_ + 3)))) (by kernel_rfl) hx)) fun fr t H => ?_
  refine at_sl 3 [(36, .bool (!(x2 == p1)))] H fun fr H => ?_
  obtain rfl := injA hm
  exact at_nil ⟨H.ls, A⟩
 clear A
 intro t fr h1 hK
 obtain ⟨H, A⟩ := hK
 refine at_nl id (aw_if 36 H hm (fun hb hm H => ?_) fun hb hm H => ?_)
 ·refine aw_sr 2 (at_L 2 [(4, Ab 0), (5, .bool false)] H fun fr H => aw_rt ?_)
  obtain ⟨rfl, rfl, rfl⟩ := injC hm
  exact ⟨.inl rfl, _, rH H, rfl, A⟩
 refine aw_kn id (aw_sq (aw_dg 3 10 ?_))
 refine at_gl 3 [] 40 0 0 A H fun fr t H => ?_
 refine at_gl 3 [] 44 0 1 A H fun fr t H => ?_
 obtain ⟨x3, hx, hm⟩ := bind_some hm
 refine at_l1 45 (Ab x3) h1 H (fun fr => .of (s_ixS (by kernel_rfl) hx)) fun fr t H => ?_
 refine at_S 1 [(6, Ab x3)] 8 H fun fr H => at_gl 3 [(46, .ptr (some (bp0, 0)))] 49 0 1 A H fun fr t H => ?_
 obtain ⟨h2, hx, A⟩ := A.s0 1 [Ai (IntKind.i64.wrap (p0.at_ + 3))] [_, _, _, _, _, _, _]
 refine at_gs 3 [] hx H fun fr t H => ?_
 refine at_ns 3 id (at_L 3 [(4, Ab x3), (5, .bool true)] H fun fr H => aw_rt ?_)
 obtain ⟨rfl, rfl, rfl⟩ := injC hm
 exact ⟨.inl rfl, _, rH H, rfl, A⟩
def M_bracket_scan_byte (p0 : S_bracket_scan) : Option (Int × Bool × S_bracket_scan) :=
 (M_bracket_scan_next p0 ([91, 46] : List UInt8)).bind fun (x1, x2) => iteB x1 ((M_bracket_scan_closed x2 ([46, 93] : List UInt8)).bind fun (x3, x4, x5) => some (x3, x4, x5)) ((iteB x2.glob_ ((M_bracket_scan_next x2 ([92] : List UInt8)).bind fun (x13, x14) => some (x14.s_, x14.at_, x14.glob_, x14.set_.w0, x14.set_.w1, x14.set_.w2, x14.set_.w3)) (some (x2.s_, x2.at_, x2.glob_, x2.set_.w0, x2.set_.w1, x2.set_.w2, x2.set_.w3)) : Option (((List UInt8) × Int × Bool × Int × Int × Int × Int))).bind fun (x6, x7, x8, x9, x10, x11, x12) => iteB (decide (x7 ≥ (x6.length : Int))) (some ((0 : Int), false, (⟨x6, x7, x8, (⟨x9, x10, x11, x12⟩ : A4_uint64)⟩ : S_bracket_scan))) ((ixS x6 (IntKind.i64.wrap ((IntKind.i64.wrap (x7 + 1)) - 1))).bind fun x15 => some (x15, true, (⟨x6, IntKind.i64.wrap (x7 + 1), x8, (⟨x9, x10, x11, x12⟩ : A4_uint64)⟩ : S_bracket_scan))))
theorem ok_bracket_scan_byte {p0 bp0 q0 q1 u0} (hm : M_bracket_scan_byte p0 = some (q0, q1, u0)) (A : HH g h [.obj bp0 (.cells none 2 (e_S_bracket_scan p0))] F) (hc : canL (cfg.still 108) av = [.ptr (some (bp0, 0))] := by kernel_rfl) : ∃ v h', Runs cfg g h 108 av v h' ∧ v = .tuple [Ab q0, .bool q1] ∧ HH g h' [.obj bp0 (.cells none 2 (e_S_bracket_scan u0))] F := by
 refine rq1 43 [.tmp 2, .tmp 3] hc ?_
 clear hc
 unfold M_bracket_scan_byte at hm
 refine bg 43 [(0, .ptr (some (bp0, 0)))] fun fr H => ?_
 refine aw_sr 2 (at_L 2 [] H fun fr H => aw_sq (aw_sr 2 ?_))
 obtain ⟨⟨x1, x2⟩, hx, hm⟩ := bind_some hm
 obtain ⟨v1, h1, hr, rfl, A1⟩ := ok_bracket_scan_next (av := [.ptr (some (bp0, 0)), .str ([91, 46] : List UInt8)]) hx (A.cut 1)
 replace A := A.g11 A1
 refine at_gc1 1 [] 5 hr H fun fr t H => ?_
 refine at_nl id (aw_if 5 H hm (fun hb hm H => ?_) fun hb hm H => ?_)
 ·refine aw_sr 6 ?_
  obtain ⟨⟨x3, x4, x5⟩, hx, hm⟩ := bind_some hm
  obtain ⟨v1, h2, hr, rfl, A1⟩ := ok_bracket_scan_closed (av := [.ptr (some (bp0, 0)), .str ([46, 93] : List UInt8)]) hx (A.cut 1)
  replace A := A.g11 A1
  refine at_gc1 1 [] 7 hr H fun fr t H => ?_
  refine at_L 4 [(2, Ab x3), (3, .bool x4)] H fun fr H => aw_rt ?_
  obtain ⟨rfl, rfl, rfl⟩ := injC hm
  exact ⟨.inl rfl, _, rH H, rfl, A⟩
 refine aw_kn id (aw_sq ?_)
 obtain ⟨o1, ho, hm⟩ := bind_some hm
 refine aw_mono (Q' := fun e fr' h' => (∃ x6 x7 x8 x9 x10 x11 x12, e = .normal ∧ (x6, x7, x8, x9, x10, x11, x12) = o1 ∧ Has fr' 43 [(0, .ptr (some (bp0, 0)))] ∧ HH g h' [.obj bp0 (.cells none 2 [.str x6, Ai x7, .bool x8, Au x9, Au x10, Au x11, Au x12])] F) ∨ False) ?_ ?_
 ·replace hm := ho
  clear ho
  refine aw_sr 4 (at_gl 3 [] 13 0 2 A H fun fr t H => ?_)
  refine at_nl id (aw_if 13 H hm (fun hb hm H => ?_) fun hb hm H => ?_)
  ·refine aw_rg 2 ?_
   obtain ⟨⟨x13, x14⟩, hx, hm⟩ := bind_some hm
   obtain ⟨v1, h3, hr, rfl, A1⟩ := ok_bracket_scan_next (av := [.ptr (some (bp0, 0)), .str ([92] : List UInt8)]) hx (A.cut 1)
   replace A := A.g11 A1
   refine at_gc0 1 [] hr H fun fr t H => ?_
   refine at_nil ?_
   exact .inl ⟨_, _, _, _, _, _, _, rfl, injA hm, H.ls, A⟩
  exact aw_sk (.inl ⟨_, _, _, _, _, _, _, rfl, injA hm, H.ls, A⟩)
 clear ho
 clear A
 intro e fr h4 hQ
 rcases hQ with ⟨x6, x7, x8, x9, x10, x11, x12, rfl, rfl, H, A⟩ | hF
 ·show AW _ _ _ _ _ _ _
  refine aw_sq (aw_sq (aw_dg 5 10 ?_))
  refine at_gl 3 [] 19 0 1 A H fun fr t H => ?_
  refine at_gl 3 [] 23 0 0 A H fun fr t H => ?_
  refine at_L 2 [(25, .bool (decide (x7 ≥ (x6.length : Int))))] H fun fr H => aw_if 25 H hm (fun hb hm H => ?_) fun hb hm H => ?_
  ·refine aw_sr 2 (at_L 2 [(2, Ab 0), (3, .bool false)] H fun fr H => aw_rt ?_)
   obtain ⟨rfl, rfl, rfl⟩ := injC hm
   exact ⟨.inl rfl, _, rH H, rfl, A⟩
  refine aw_ks 8 id (at_gl 3 [(26, .ptr (some (bp0, 0)))] 29 0 1 A H fun fr t H => ?_)
  obtain ⟨h5, hx, A⟩ := A.s0 1 [Ai (IntKind.i64.wrap (x7 + 1))] [_, _, _, _, _, _, _]
  refine at_gs 3 [] hx H fun fr t H => ?_
  refine at_nl id (aw_sq (aw_dg 8 12 ?_))
  refine at_gl 3 [] 36 0 0 A H fun fr t H => ?_
  refine at_gl 3 [] 40 0 1 A H fun fr t H => ?_
  obtain ⟨x15, hx, hm⟩ := bind_some hm
  refine at_g1 1 [] 42 (Ab x15) h5 H (fun fr => .of (s_ixS (by kernel_rfl) hx)) fun fr t H => ?_
  refine at_L 2 [(2, Ab x15), (3, .bool true)] H fun fr H => aw_rt ?_
  obtain ⟨rfl, rfl, rfl⟩ := injC hm
  exact ⟨.inl rfl, _, rH H, rfl, A⟩
 exact hF.elim
def M_bracket_scan_item (p0 : S_bracket_scan) : Option (Bool × S_bracket_scan) :=
 (M_bracket_scan_next p0 ([91, 58] : List UInt8)).bind fun (x1, x2) => iteB x1 ((M_bracket_scan_named x2).bind fun (x3, x4) => some (x3, x4)) ((M_bracket_scan_next x2 ([91, 61] : List UInt8)).bind fun (x5, x6) => iteB x5 ((M_bracket_scan_closed x6 ([61, 93] : List UInt8)).bind fun (x7, x8, x9) => (M_class_Range x7 x7).bind fun x10 => (M_class_Set_Or x9.set_ x10).bind fun x11 => some (x8, (⟨x9.s_, x9.at_, x9.glob_, x11⟩ : S_bracket_scan))) ((M_bracket_scan_byte x6).bind fun (x12, x13, x14) => iteB (!x13) (some (false, x14)) (((subS x14.s_ (some x14.at_) none).bind fun x31 => (M_strings_HasPrefix x31 ([45] : List UInt8)).bind fun x32 => (iteB x32 ((M_strings_HasPrefix x31 ([45, 93] : List UInt8)).bind fun x34 => some (!x34)) (some false) : Option (Bool)).bind fun x33 => iteB x33 ((subS x31 (some (1 : Int)) none).bind fun x35 => (M_strings_HasPrefix x35 ([91, 58] : List UInt8)).bind fun x36 => (iteB x36 (some true) ((M_strings_HasPrefix x35 ([91, 61] : List UInt8)).bind fun x38 => some x38) : Option (Bool)).bind fun x37 => iteB x37 (some (.inr (x14.s_, IntKind.i64.wrap (x14.at_ + 1), x14.glob_, x14.set_.w0, x14.set_.w1, x14.set_.w2, x14.set_.w3, false))) ((M_bracket_scan_byte (⟨x14.s_, IntKind.i64.wrap (x14.at_ + 1), x14.glob_, x14.set_⟩ : S_bracket_scan)).bind fun (x39, x40, x41) => iteB ((!x40) || (decide (x39 < x12))) (some (.inr (x41.s_, x41.at_, x41.glob_, x41.set_.w0, x41.set_.w1, x41.set_.w2, x41.set_.w3, false))) (some (.inl (x41.s_, x41.at_, x41.glob_, x41.set_.w0, x41.set_.w1, x41.set_.w2, x41.set_.w3, x39))))) (some (.inl (x14.s_, x14.at_, x14.glob_, x14.set_.w0, x14.set_.w1, x14.set_.w2, x14.set_.w3, x12))) : Option (((List UInt8) × Int × Bool × Int × Int × Int × Int × Int) ⊕ ((List UInt8) × Int × Bool × Int × Int × Int × Int × Bool))).bind fun o1 => (match o1 with | .inl (x15, x16, x17, x18, x19, x20, x21, x22) => (M_class_Range x12 x22).bind fun x42 => (M_class_Set_Or (⟨x18, x19, x20, x21⟩ : A4_uint64) x42).bind fun x43 => some (true, (⟨x15, x16, x17, x43⟩ : S_bracket_scan)) | .inr (x23, x24, x25, x26, x27, x28, x29, x30) => some (x30, (⟨x23, x24, x25, (⟨x26, x27, x28, x29⟩ : A4_uint64)⟩ : S_bracket_scan))))))
theorem ok_bracket_scan_item {p0 bp0 q0 u0} (hm : M_bracket_scan_item p0 = some (q0, u0)) (A : HH g h [.obj bp0 (.cells none 2 (e_S_bracket_scan p0))] F) (hc : canL (cfg.still 102) av = [.ptr (some (bp0, 0))] := by kernel_rfl) : ∃ v h', Runs cfg g h 102 av v h' ∧ v = .bool q0 ∧ HH g h' [.obj bp0 (.cells none 2 (e_S_bracket_scan u0))] F := by
 refine rq1 94 [.tmp 2] hc ?_
 clear hc
 unfold M_bracket_scan_item at hm
 refine bg 94 [(0, .ptr (some (bp0, 0)))] fun fr H => ?_
 refine aw_sr 1 (at_L 1 [] H fun fr H => aw_sq (aw_sr 2 ?_))
 obtain ⟨⟨x1, x2⟩, hx, hm⟩ := bind_some hm
 obtain ⟨v1, h1, hr, rfl, A1⟩ := ok_bracket_scan_next (av := [.ptr (some (bp0, 0)), .str ([91, 58] : List UInt8)]) hx (A.cut 1)
 replace A := A.g11 A1
 refine at_gc1 1 [] 10 hr H fun fr t H => ?_
 refine at_nl id (aw_if 10 H hm (fun hb hm H => ?_) fun hb hm H => ?_)
 ·refine aw_sr 3 ?_
  obtain ⟨⟨x3, x4⟩, hx, hm⟩ := bind_some hm
  obtain ⟨v1, h2, hr, rfl, A1⟩ := ok_bracket_scan_named (av := [.ptr (some (bp0, 0))]) hx (A.cut 1)
  replace A := A.g11 A1
  refine at_gc1 1 [] 12 hr H fun fr t H => ?_
  refine at_L 1 [(2, .bool x3)] H fun fr H => aw_rt ?_
  obtain ⟨rfl, rfl⟩ := injB hm
  exact ⟨.inl rfl, _, rH H, rfl, A⟩
 refine aw_kn id (aw_sq (aw_sr 2 ?_))
 obtain ⟨⟨x5, x6⟩, hx, hm⟩ := bind_some hm
 obtain ⟨v1, h3, hr, rfl, A1⟩ := ok_bracket_scan_next (av := [.ptr (some (bp0, 0)), .str ([91, 61] : List UInt8)]) hx (A.cut 1)
 replace A := A.g11 A1
 refine at_gc1 1 [] 14 hr H fun fr t H => ?_
 refine at_nl id (aw_if 14 H hm (fun hb hm H => ?_) fun hb hm H => ?_)
 ·refine aw_sr 7 ?_
  obtain ⟨⟨x7, x8, x9⟩, hx, hm⟩ := bind_some hm
  obtain ⟨v1, h4, hr, rfl, A1⟩ := ok_bracket_scan_closed (av := [.ptr (some (bp0, 0)), .str ([61, 93] : List UInt8)]) hx (A.cut 1)
  replace A := A.g11 A1
  refine at_gc1 1 [] 17 hr H fun fr t H => ?_
  refine at_L 5 [(3, Ab x7), (4, .bool x8)] H fun fr H => aw_sq (aw_dw 5 12 [(0, []), (1, []), (2, []), (3, []), (4, []), (5, []), (6, []), (7, [4]), (8, []), (9, []), (10, []), (11, [])] ?_)
  refine at_sl 4 [(20, .ptr (some (bp0, 0))), (23, .ptr (some (bp0, 3)))] H fun fr H => at_t1 24 (.agg (e_A4_uint64 x9.set_)) h4 [(4, bp0)] (g.prot) H (fun fr => .of (s_ldA (by kernel_rfl) (A.la 0 3 4))) (fun fr H => ?_)
  refine at_sl 2 [(25, Ab x7), (26, Ab x7)] H fun fr H => ?_
  have A1 := A.prot2 0 (pr := [bp0]) (.cons 0 rfl (by simp [Ck.ids]) .nil)
  obtain ⟨x10, hx, hm⟩ := bind_some hm
  obtain ⟨v1, h5, hr, rfl, A1⟩ := ok_class_Range (av := [Ab x7, Ab x7]) hx A1
  replace A := A.p00 A1
  refine at_t1 27 (.agg (e_A4_uint64 x10)) h5 [(4, bp0)] (bp0 :: g.prot) H (fun fr => Steps.call (by kernel_rfl) hr) (fun fr H => ?_)
  obtain ⟨x11, hx, hm⟩ := bind_some hm
  obtain ⟨v1, h6, hr, rfl, A1⟩ := ok_class_Set_Or (av := [.agg (e_A4_uint64 x9.set_), .agg (e_A4_uint64 x10)]) hx (A.cut 0)
  replace A := A.g00 A1
  refine at_t1 28 (.agg (e_A4_uint64 x11)) h6 [(4, bp0)] (g.prot) H (fun fr => Steps.call (by kernel_rfl) hr) (fun fr H => ?_)
  refine at_sl 2 [(30, .ptr (some (bp0, 3)))] H fun fr H => ?_
  obtain ⟨h7, hx, A⟩ := A.s0 3 (e_A4_uint64 x11) [_, _, _, _, _, _, _]
  refine at_t0 (.tuple []) h7 [(4, bp0)] (g.prot) H (fun fr => .of (s_stG (by kernel_rfl) (stG_st hx rfl))) (fun fr H => ?_)
  refine at_ns 2 id (at_L 2 [(2, .bool x8)] H fun fr H => aw_rt ?_)
  obtain ⟨rfl, rfl⟩ := injB hm
  exact ⟨.inl rfl, _, rH H, rfl, A⟩
 refine aw_ks 7 id ?_
 obtain ⟨⟨x12, x13, x14⟩, hx, hm⟩ := bind_some hm
 obtain ⟨v1, h8, hr, rfl, A1⟩ := ok_bracket_scan_byte (av := [.ptr (some (bp0, 0))]) hx (A.cut 1)
 replace A := A.g11 A1
 refine at_gc1 1 [] 34 hr H fun fr t H => ?_
 refine at_L 5 [(5, Ab x12), (6, .bool x13)] H fun fr H => aw_sq (aw_sr 2 (at_L 2 [(38, .bool (!x13))] H fun fr H => aw_if 38 H hm (fun hb hm H => ?_) fun hb hm H => ?_))
 ·refine aw_sr 1 (at_L 1 [(2, .bool false)] H fun fr H => aw_rt ?_)
  obtain ⟨rfl, rfl⟩ := injB hm
  exact ⟨.inl rfl, _, rH H, rfl, A⟩
 refine aw_ks 2 id (at_L 2 [(7, Ab x12)] H fun fr H => aw_sq ?_)
 obtain ⟨o1, ho, hm⟩ := bind_some hm
 refine aw_mono (Q' := fun e fr' h' => (∃ x15 x16 x17 x18 x19 x20 x21 x22, e = .normal ∧ .inl (x15, x16, x17, x18, x19, x20, x21, x22) = o1 ∧ Has fr' 94 [(0, .ptr (some (bp0, 0))), (5, Ab x12), (7, Ab x22)] ∧ HH g h' [.obj bp0 (.cells none 2 [.str x15, Ai x16, .bool x17, Au x18, Au x19, Au x20, Au x21])] F) ∨ (∃ x23 x24 x25 x26 x27 x28 x29 x30, e = .ret ∧ .inr (x23, x24, x25, x26, x27, x28, x29, x30) = o1 ∧ Has fr' 94 [(2, .bool x30)] ∧ HH g h' [.obj bp0 (.cells none 2 [.str x23, Ai x24, .bool x25, Au x26, Au x27, Au x28, Au x29])] F) ∨ False) ?_ ?_
 ·replace hm := ho
  clear ho
  refine aw_sq (aw_dg 11 10 ?_)
  refine at_gl 3 [] 43 0 0 A H fun fr t H => ?_
  refine at_gl 3 [] 47 0 1 A H fun fr t H => ?_
  obtain ⟨x31, hx, hm⟩ := bind_some hm
  refine at_l1 48 (.str x31) h8 H (fun fr => .of (s_subS (k := .i64) (k' := .i64) (lo := (some x14.at_)) (hi := none) (by kernel_rfl) hx)) fun fr t H => ?_
  refine at_S 1 [(8, .str x31)] 7 H fun fr H => ?_
  obtain ⟨x32, hx, hm⟩ := bind_some hm
  obtain ⟨v1, h9, hr, rfl, A1⟩ := ok_strings_HasPrefix (av := [.str x31, .str ([45] : List UInt8)]) hx (A.cut 0)
  replace A := A.g00 A1
  refine at_gc1 1 [] 50 hr H fun fr t H => ?_
  refine at_sl 1 [(51, .bool x32)] H fun fr H => ?_
  obtain ⟨x33, ho, hm⟩ := bind_some hm
  refine at_cl 4 (fun fr' h' => Has fr' 94 [(0, .ptr (some (bp0, 0))), (5, Ab x12), (7, Ab x12), (8, .str x31), (55, .bool x33)] ∧ HH g h' [.obj bp0 (.cells none 2 (e_S_bracket_scan x14))] F) ?_ ?_
  ·rcases iteB_some ho with ⟨hb, hm⟩ | ⟨hb, hm⟩
   ·replace H := H.kn 51 hb
    obtain ⟨x34, hx, hm⟩ := bind_some hm
    obtain ⟨v1, h11, hr, rfl, A1⟩ := ok_strings_HasPrefix (av := [.str x31, .str ([45, 93] : List UInt8)]) hx (A.cut 0)
    replace A := A.g00 A1
    refine at_gc1 1 [] 53 hr H fun fr t H => ?_
    refine at_sl 2 [(55, .bool (!x34))] H fun fr H => ?_
    obtain rfl := injA hm
    exact at_nil ⟨H.ls, A⟩
   replace H := H.kn 51 hb
   refine at_sl 4 [(55, .bool false)] H fun fr H => ?_
   obtain rfl := injA hm
   exact at_nil ⟨H.ls, A⟩
  clear A
  intro t fr h10 hK
  obtain ⟨H, A⟩ := hK
  refine at_nl id (aw_if 55 H hm (fun hb hm H => ?_) fun hb hm H => ?_)
  ·refine aw_sr 8 (at_gl 3 [(56, .ptr (some (bp0, 0)))] 59 0 1 A H fun fr t H => ?_)
   obtain ⟨h12, hx, A⟩ := A.s0 1 [Ai (IntKind.i64.wrap (x14.at_ + 1))] [_, _, _, _, _, _, _]
   refine at_gs 3 [] hx H fun fr t H => ?_
   refine at_nl id (aw_sq (aw_sr 3 ?_))
   obtain ⟨x35, hx, hm⟩ := bind_some hm
   refine at_g1 1 [] 64 (.str x35) h12 H (fun fr => .of (s_subS (k := .i64) (k' := .i64) (lo := (some (1 : Int))) (hi := none) (by kernel_rfl) hx)) fun fr t H => ?_
   refine at_se 1 [(0, .ptr (some (bp0, 0))), (5, Ab x12), (8, .str x35)] H fun fr H => at_ns 6 id ?_
   obtain ⟨x36, hx, hm⟩ := bind_some hm
   obtain ⟨v1, h13, hr, rfl, A1⟩ := ok_strings_HasPrefix (av := [.str x35, .str ([91, 58] : List UInt8)]) hx (A.cut 0)
   replace A := A.g00 A1
   refine at_gc1 1 [] 66 hr H fun fr t H => ?_
   refine at_sl 1 [(67, .bool x36)] H fun fr H => ?_
   obtain ⟨x37, ho, hm⟩ := bind_some hm
   refine at_cl 3 (fun fr' h' => Has fr' 94 [(0, .ptr (some (bp0, 0))), (5, Ab x12), (70, .bool x37)] ∧ HH g h' [.obj bp0 (.cells none 2 (w_bracket_scan_1 x14 (Ai (IntKind.i64.wrap (x14.at_ + 1)))))] F) ?_ ?_
   ·rcases iteB_some ho with ⟨hb, hm⟩ | ⟨hb, hm⟩
    ·replace H := H.kn 67 hb
     refine at_sl 3 [(70, .bool true)] H fun fr H => ?_
     obtain rfl := injA hm
     exact at_nil ⟨H.ls, A⟩
    replace H := H.kn 67 hb
    obtain ⟨x38, hx, hm⟩ := bind_some hm
    obtain ⟨v1, h15, hr, rfl, A1⟩ := ok_strings_HasPrefix (av := [.str x35, .str ([91, 61] : List UInt8)]) hx (A.cut 0)
    replace A := A.g00 A1
    refine at_gc1 1 [] 69 hr H fun fr t H => ?_
    refine at_sl 1 [(70, .bool x38)] H fun fr H => ?_
    obtain rfl := injA hm
    exact at_nil ⟨H.ls, A⟩
   clear A
   intro t fr h14 hK
   obtain ⟨H, A⟩ := hK
   refine at_nl id (aw_if 70 H hm (fun hb hm H => ?_) fun hb hm H => ?_)
   ·refine aw_sr 1 (at_L 1 [(2, .bool false)] H fun fr H => aw_rt ?_)
    exact .inr (.inl ⟨_, _, _, _, _, _, _, _, rfl, injA hm, H.ls, A⟩)
   refine aw_ks 7 id ?_
   obtain ⟨⟨x39, x40, x41⟩, hx, hm⟩ := bind_some hm
   obtain ⟨v1, h16, hr, rfl, A1⟩ := ok_bracket_scan_byte (av := [.ptr (some (bp0, 0))]) hx (A.cut 1)
   replace A := A.g11 A1
   refine at_gc1 1 [] 73 hr H fun fr t H => ?_
   refine at_S 5 [(6, .bool x40), (7, Ab x39)] 7 H fun fr H => at_sl 3 [(78, .bool (!x40))] H fun fr H => at_cl 4 (fun fr' h' => h16 = h' ∧ Has fr' 94 [(0, .ptr (some (bp0, 0))), (5, Ab x12), (7, Ab x39), (82, .bool ((!x40) || (decide (x39 < x12))))]) ?_ ?_
   ·cases hb : (!x40 : Bool) with
    | true =>
     replace H := H.kn 78 hb
     exact at_sl 4 [(82, .bool true)] H fun fr H => at_zb H hb
    | false =>
     replace H := H.kn 78 hb
     exact at_sl 4 [(82, .bool (decide (x39 < x12)))] H fun fr H => at_zb H hb
   intro t fr h' hK
   obtain ⟨e, H⟩ := hK
   subst e
   refine at_nl id (aw_if 82 H hm (fun hb hm H => ?_) fun hb hm H => ?_)
   ·refine aw_sr 1 (at_L 1 [(2, .bool false)] H fun fr H => aw_rt ?_)
    exact .inr (.inl ⟨_, _, _, _, _, _, _, _, rfl, injA hm, H.ls, A⟩)
   exact aw_sk (.inl ⟨_, _, _, _, _, _, _, _, rfl, injA hm, H.ls, A⟩)
  exact aw_sk (.inl ⟨_, _, _, _, _, _, _, _, rfl, injA hm, H.ls, A⟩)
 clear ho
 clear A
 intro e fr h17 hQ
 rcases hQ with ⟨x15, x16, x17, x18, x19, x20, x21, x22, rfl, rfl, H, A⟩ | ⟨x23, x24, x25, x26, x27, x28, x29, x30, rfl, rfl, H, A⟩ | hF
 ·show AW _ _ _ _ _ _ _
  refine aw_sq (aw_dw 20 12 [(0, []), (1, []), (2, []), (3, []), (4, []), (5, []), (6, []), (7, [4]), (8, []), (9, []), (10, []), (11, [])] ?_)
  refine at_sl 4 [(83, .ptr (some (bp0, 0))), (86, .ptr (some (bp0, 3)))] H fun fr H => at_t1 87 (.agg [Au x18, Au x19, Au x20, Au x21]) h17 [(4, bp0)] (g.prot) H (fun fr => .of (s_ldA (by kernel_rfl) (A.la 0 3 4))) (fun fr H => ?_)
  refine at_sl 2 [(88, Ab x12), (89, Ab x22)] H fun fr H => ?_
  have A1 := A.prot2 0 (pr := [bp0]) (.cons 0 rfl (by simp [Ck.ids]) .nil)
  obtain ⟨x42, hx, hm⟩ := bind_some hm
  obtain ⟨v1, h18, hr, rfl, A1⟩ := ok_class_Range (av := [Ab x12, Ab x22]) hx A1
  replace A := A.p00 A1
  refine at_t1 90 (.agg (e_A4_uint64 x42)) h18 [(4, bp0)] (bp0 :: g.prot) H (fun fr => Steps.call (by kernel_rfl) hr) (fun fr H => ?_)
  obtain ⟨x43, hx, hm⟩ := bind_some hm
  obtain ⟨v1, h19, hr, rfl, A1⟩ := ok_class_Set_Or (av := [.agg [Au x18, Au x19, Au x20, Au x21], .agg (e_A4_uint64 x42)]) hx (A.cut 0)
  replace A := A.g00 A1
  refine at_t1 91 (.agg (e_A4_uint64 x43)) h19 [(4, bp0)] (g.prot) H (fun fr => Steps.call (by kernel_rfl) hr) (fun fr H => ?_)
  refine at_sl 2 [(93, .ptr (some (bp0, 3)))] H fun fr H => ?_
  obtain ⟨h20, hx, A⟩ := A.s0 3 (e_A4_uint64 x43) [_, _, _, _, _, _, _]
  refine at_t0 (.tuple []) h20 [(4, bp0)] (g.prot) H (fun fr => .of (s_stG (by kernel_rfl) (stG_st hx rfl))) (fun fr H => ?_)
  refine at_ns 1 id (at_L 1 [(2, .bool true)] H fun fr H => aw_rt ?_)
  obtain ⟨rfl, rfl⟩ := injB hm
  exact ⟨.inl rfl, _, rH H, rfl, A⟩
 ·obtain ⟨rfl, rfl⟩ := injB hm
  exact ⟨.inl rfl, _, rH H, rfl, A⟩
 exact hF.elim
def M_bracket_Parse_L0 (p0 : List UInt8) (s : (List UInt8) × Int × Bool × Int × Int × Int × Int × Bool) : Option (((List UInt8) × Int × Bool × Int × Int × Int × Int × Bool) ⊕ (((List UInt8) × Int × Bool × Int × Int × Int × Int) ⊕ ((List UInt8) × Int × Bool × Int × Int × Int × Int × Int × Int))) :=
 match s with
 | (x23, x24, x25, x26, x27, x28, x29, x30) => iteB (decide (x24 ≥ (p0.length : Int))) (some (.inr (.inr (x23, x24, x25, x26, x27, x28, x29, (0 : Int), (11 : Int))))) ((ixS p0 x24).bind fun x47 => iteB ((x47 == 93) && (!x30)) (some (.inr (.inl (x23, x24, x25, x26, x27, x28, x29)))) ((M_bracket_scan_item (⟨x23, x24, x25, (⟨x26, x27, x28, x29⟩ : A4_uint64)⟩ : S_bracket_scan)).bind fun (x48, x49) => iteB (!x48) (some (.inr (.inr (x49.s_, x49.at_, x49.glob_, x49.set_.w0, x49.set_.w1, x49.set_.w2, x49.set_.w3, (0 : Int), (11 : Int))))) (some (.inl (x49.s_, x49.at_, x49.glob_, x49.set_.w0, x49.set_.w1, x49.set_.w2, x49.set_.w3, false)))))
def M_bracket_Parse (p0 : List UInt8) (p1 : Int) (p2 : Bool) : Option (A4_uint64 × Int × Int) :=
 (iteB ((decide (p1 < 0)) || (decide (p1 ≥ (p0.length : Int)))) (some true) ((ixS p0 p1).bind fun x2 => some (x2 != 91)) : Option (Bool)).bind fun x1 => iteB x1 (some ((⟨(0 : Int), (0 : Int), (0 : Int), (0 : Int)⟩ : A4_uint64), (0 : Int), (1 : Int))) ((M_bracket_scan_next (⟨p0, IntKind.i64.wrap (p1 + 1), p2, (⟨(0 : Int), (0 : Int), (0 : Int), (0 : Int)⟩ : A4_uint64)⟩ : S_bracket_scan) ([94] : List UInt8)).bind fun (x3, x4) => (iteB x3 (some (x4.s_, x4.at_, x4.glob_, x4.set_.w0, x4.set_.w1, x4.set_.w2, x4.set_.w3, true)) ((iteB p2 ((M_bracket_scan_next x4 ([33] : List UInt8)).bind fun (x21, x22) => some (x22.s_, x22.at_, x22.glob_, x22.set_.w0, x22.set_.w1, x22.set_.w2, x22.set_.w3, x21)) (some (x4.s_, x4.at_, x4.glob_, x4.set_.w0, x4.set_.w1, x4.set_.w2, x4.set_.w3, false)) : Option ((List UInt8) × Int × Bool × Int × Int × Int × Int × Bool)).bind fun (x13, x14, x15, x16, x17, x18, x19, x20) => some (x13, x14, x15, x16, x17, x18, x19, x20)) : Option ((List UInt8) × Int × Bool × Int × Int × Int × Int × Bool)).bind fun (x5, x6, x7, x8, x9, x10, x11, x12) => (loop (M_bracket_Parse_L0 p0) (x5, x6, x7, x8, x9, x10, x11, true)).bind fun o1 => (match o1 with | .inl (x31, x32, x33, x34, x35, x36, x37) => (iteB x12 ((M_class_Set_Not (⟨x34, x35, x36, x37⟩ : A4_uint64)).bind fun x54 => some (x54.w0, x54.w1, x54.w2, x54.w3)) (some (x34, x35, x36, x37)) : Option ((Int × Int × Int × Int))).bind fun (x50, x51, x52, x53) => some ((⟨x50, x51, x52, x53⟩ : A4_uint64), IntKind.i64.wrap (x32 + 1), (0 : Int)) | .inr (x38, x39, x40, x41, x42, x43, x44, x45, x46) => some ((⟨(0 : Int), (0 : Int), (0 : Int), (0 : Int)⟩ : A4_uint64), x45, x46)))
theorem ok_bracket_Parse {p0 p1 p2 q0 q1 q2} (hm : M_bracket_Parse p0 p1 p2 = some (q0, q1, q2)) (A : HH g h [] F) (hc : canL (cfg.still 92) av = [.str p0, Ai p1, .bool p2] := by kernel_rfl) : ∃ v h', Runs cfg g h 92 av v h' ∧ v = .tuple [.agg (e_A4_uint64 q0), Ai q1, Ai q2] ∧ HH g h' [] F := by
 refine rq1 86 [.cell 6 66, .tmp 7, .tmp 8] hc ?_
 clear hc
 unfold M_bracket_Parse at hm
 refine bg 86 [(0, .str p0), (1, Ai p1), (2, .bool p2)] fun fr H => ?_
 refine aw_sr 3 ?_
 obtain ⟨h1, e1, A⟩ := A.pu (.cells none 2 [Au 0, Au 0, Au 0, Au 0])
 refine at_ln 6 (.ptr (some (h.size, 0))) e1 H fun fr t H => ?_
 refine at_L 2 [] H fun fr H => aw_scope (by kernel_rfl) ?_
 refine aw_sq (aw_sr 14 (at_sl 3 [(14, .bool (decide (p1 < 0)))] H fun fr H => at_cl 5 (fun fr' h' => h1 = h' ∧ Has fr' 86 [(0, .str p0), (1, Ai p1), (2, .bool p2), (6, .ptr (some (h.size, 0))), (19, .bool ((decide (p1 < 0)) || (decide (p1 ≥ (p0.length : Int)))))]) ?_ ?_))
 ·cases hb : (decide (p1 < 0) : Bool) with
  | true =>
   replace H := H.kn 14 hb
   exact at_sl 5 [(19, .bool true)] H fun fr H => at_zb H hb
  | false =>
   replace H := H.kn 14 hb
   exact at_sl 5 [(19, .bool (decide (p1 ≥ (p0.length : Int))))] H fun fr H => at_zb H hb
 intro t fr h' hK
 obtain ⟨e, H⟩ := hK
 subst e
 refine at_sl 1 [(20, .bool ((decide (p1 < 0)) || (decide (p1 ≥ (p0.length : Int)))))] H fun fr H => ?_
 obtain ⟨x1, ho, hm⟩ := bind_some hm
 refine at_cl 5 (fun fr' h' => Has fr' 86 [(0, .str p0), (1, Ai p1), (2, .bool p2), (6, .ptr (some (h.size, 0))), (25, .bool x1)] ∧ HH g h' [.obj h.size (.cells none 2 [Au 0, Au 0, Au 0, Au 0])] F) ?_ ?_
 ·rcases iteB_some ho with ⟨hb, hm⟩ | ⟨hb, hm⟩
  ·replace H := H.kn 20 hb
   refine at_sl 5 [(25, .bool true)] H fun fr H => ?_
   obtain rfl := injA hm
   exact at_nil ⟨H.ls, A⟩
  replace H := H.kn 20 hb
  obtain ⟨x2, hx, hm⟩ := bind_some hm
  refine at_g1 2 [] 23 (Ab x2) h1 H (fun fr => .of (s_ixS (by kernel_rfl) hx)) fun fr t H => ?_
  refine at_sl 2 [(25, .bool (x2 != 91))] H fun fr H => ?_
  obtain rfl := injA hm
  exact at_nil ⟨H.ls, A⟩
 clear A
 intro t fr h2 hK
 obtain ⟨H, A⟩ := hK
 refine at_nl id (aw_if 25 H hm (fun hb hm H => ?_) fun hb hm H => ?_)
 ·refine aw_sr 4 ?_
  obtain ⟨h3, hx, A⟩ := A.s0 0 [Au 0, Au 0, Au 0, Au 0] [_, _, _, _]
  refine at_gS 1 [] hx H fun fr t H => ?_
  refine at_L 2 [(7, Ai 0), (8, Ai 1)] H fun fr H => aw_rt ?_
  obtain ⟨rfl, rfl, rfl⟩ := injC hm
  refine ⟨.inl rfl, .tuple [.agg [Au 0, Au 0, Au 0, Au 0], Ai 0, Ai 1], resL_many (.cell (rT H) (load_ldA (by kernel_rfl) (by kernel_rfl) (A.la 0 0 4)) (.tmp (rT H) (.tmp (rT H) .nil))), ?_⟩
  replace A := A.d0
  exact ⟨rfl, A⟩
 refine aw_ks 7 id ?_
 obtain ⟨h4, e2, A⟩ := A.pu (.cells none 2 [.str p0, Ai (IntKind.i64.wrap (p1 + 1)), .bool p2, Au 0, Au 0, Au 0, Au 0])
 refine at_gn 5 [] 32 (.ptr (some (h2.size, 0))) e2 H fun fr t H => ?_
 refine at_S 1 [(9, .ptr (some (h2.size, 0)))] 10 H fun fr H => ?_
 obtain ⟨⟨x3, x4⟩, hx, hm⟩ := bind_some hm
 obtain ⟨v1, h5, hr, rfl, A1⟩ := ok_bracket_scan_next (av := [.ptr (some (h2.size, 0)), .str ([94] : List UInt8)]) hx (A.cut 1)
 replace A := A.g11 A1
 refine at_gc1 1 [] 34 hr H fun fr t H => ?_
 refine at_sl 1 [(35, .bool x3)] H fun fr H => ?_
 obtain ⟨⟨x5, x6, x7, x8, x9, x10, x11, x12⟩, ho, hm⟩ := bind_some hm
 refine at_cl 6 (fun fr' h' => Has fr' 86 [(0, .str p0), (6, .ptr (some (h.size, 0))), (9, .ptr (some (h2.size, 0))), (41, .bool x12)] ∧ HH g h' [.obj h2.size (.cells none 2 [.str x5, Ai x6, .bool x7, Au x8, Au x9, Au x10, Au x11]), .obj h.size (.cells none 2 [Au 0, Au 0, Au 0, Au 0])] F) ?_ ?_
 ·rcases iteB_some ho with ⟨hb, hm⟩ | ⟨hb, hm⟩
  ·replace H := H.kn 35 hb
   refine at_sl 6 [(41, .bool true)] H fun fr H => ?_
   obtain ⟨rfl, rfl, rfl, rfl, rfl, rfl, rfl, rfl⟩ := inj8 hm
   exact at_nil ⟨H.ls, A⟩
  replace H := H.kn 35 hb
  refine at_sl 2 [(37, .bool p2)] H fun fr H => ?_
  obtain ⟨⟨x13, x14, x15, x16, x17, x18, x19, x20⟩, ho, hm⟩ := bind_some hm
  refine at_cl 3 (fun fr' h' => Has fr' 86 [(0, .str p0), (6, .ptr (some (h.size, 0))), (9, .ptr (some (h2.size, 0))), (35, .bool false), (40, .bool x20)] ∧ HH g h' [.obj h2.size (.cells none 2 [.str x13, Ai x14, .bool x15, Au x16, Au x17, Au x18, Au x19]), .obj h.size (.cells none 2 [Au 0, Au 0, Au 0, Au 0])] F) ?_ ?_
  ·rcases iteB_some ho with ⟨hb, hm⟩ | ⟨hb, hm⟩
   ·replace H := H.kn 37 hb
    obtain ⟨⟨x21, x22⟩, hx, hm⟩ := bind_some hm
    obtain ⟨v1, h8, hr, rfl, A1⟩ := ok_bracket_scan_next (av := [.ptr (some (h2.size, 0)), .str ([33] : List UInt8)]) hx (A.cut 1)
    replace A := A.g11 A1
    refine at_gc1 1 [] 39 hr H fun fr t H => ?_
    refine at_sl 1 [(40, .bool x21)] H fun fr H => ?_
    obtain ⟨rfl, rfl, rfl, rfl, rfl, rfl, rfl, rfl⟩ := inj8 hm
    exact at_nil ⟨H.ls, A⟩
   replace H := H.kn 37 hb
   refine at_sl 3 [(40, .bool false)] H fun fr H => ?_
   obtain ⟨rfl, rfl, rfl, rfl, rfl, rfl, rfl, rfl⟩ := inj8 hm
   exact at_nil ⟨H.ls, A⟩
  clear A
  intro t fr h7 hK
  obtain ⟨H, A⟩ := hK
  refine at_sl 1 [(41, .bool x20)] H fun fr H => ?_
  obtain ⟨rfl, rfl, rfl, rfl, rfl, rfl, rfl, rfl⟩ := inj8 hm
  exact at_nil ⟨H.ls, A⟩
 clear A
 intro t fr h6 hK
 obtain ⟨H, A⟩ := hK
 refine at_L 1 [(10, .bool x12)] H fun fr H => aw_sq (aw_label (by kernel_rfl) ?_)
 show AW _ _ _ _ _ _ _
 refine aw_sq (aw_sr 1 (at_L 1 [(11, .bool true)] H fun fr H => aw_block (id := 0) (by kernel_rfl) ?_))
 obtain ⟨o1, ho, hm⟩ := bind_some hm
 refine aw_mono (Q' := fun e fr' h' => (∃ x31 x32 x33 x34 x35 x36 x37, e = .exit 0 ∧ .inl (x31, x32, x33, x34, x35, x36, x37) = o1 ∧ Has fr' 86 [(6, .ptr (some (h.size, 0))), (9, .ptr (some (h2.size, 0))), (10, .bool x12)] ∧ HH g h' [.obj h2.size (.cells none 2 [.str x31, Ai x32, .bool x33, Au x34, Au x35, Au x36, Au x37]), .obj h.size (.cells none 2 [Au 0, Au 0, Au 0, Au 0])] F) ∨ (∃ x38 x39 x40 x41 x42 x43 x44 x45 x46, e = .ret ∧ .inr (x38, x39, x40, x41, x42, x43, x44, x45, x46) = o1 ∧ Has fr' 86 [(6, .ptr (some (h.size, 0))), (7, Ai x45), (8, Ai x46)] ∧ HH g h' [.obj h2.size (.cells none 2 [.str x38, Ai x39, .bool x40, Au x41, Au x42, Au x43, Au x44]), .obj h.size (.cells none 2 [Au 0, Au 0, Au 0, Au 0])] F) ∨ False) ?_ ?_
 ·refine aw_loop (by kernel_rfl) (fun (s : (List UInt8) × Int × Bool × Int × Int × Int × Int × Bool) fr' h' => ∃ x23 x24 x25 x26 x27 x28 x29 x30, (x23, x24, x25, x26, x27, x28, x29, x30) = s ∧ Has fr' 86 [(0, .str p0), (6, .ptr (some (h.size, 0))), (9, .ptr (some (h2.size, 0))), (10, .bool x12), (11, .bool x30)] ∧ HH g h' [.obj h2.size (.cells none 2 [.str x23, Ai x24, .bool x25, Au x26, Au x27, Au x28, Au x29]), .obj h.size (.cells none 2 [Au 0, Au 0, Au 0, Au 0])] F) ho ⟨_, _, _, _, _, _, _, _, rfl, H.ls, A⟩ ?_
  clear ho hm H A
  intro s q fr h9 hI hm
  obtain ⟨x23, x24, x25, x26, x27, x28, x29, x30, rfl, H, A⟩ := hI
  unfold M_bracket_Parse_L0 at hm
  refine aw_sq (aw_block (id := 1) (by kernel_rfl) ?_)
  refine aw_block (id := 2) (by kernel_rfl) ?_
  refine aw_sr 8 (at_gl 3 [] 46 0 1 A H fun fr t H => ?_)
  refine at_L 4 [(42, .bool (decide (x24 ≥ (p0.length : Int))))] H fun fr H => aw_if 42 H hm (fun hb hm H => ?_) fun hb hm H => ?_
  ·refine aw_sr 4 ?_
   obtain ⟨h10, hx, A⟩ := A.s1 0 [Au 0, Au 0, Au 0, Au 0] [_, _, _, _]
   refine at_gS 1 [] hx H fun fr t H => ?_
   refine at_L 2 [(7, Ai 0), (8, Ai 11)] H fun fr H => aw_rt ?_
   exact nr hm fun e => Or.inr (.inl ⟨_, _, _, _, _, _, _, _, _, rfl, e, H.ls, A⟩)
  refine aw_sr 12 (at_gl 4 [(52, .str p0)] 56 0 1 A H fun fr t H => ?_)
  obtain ⟨x47, hx, hm⟩ := bind_some hm
  refine at_l1 57 (Ab x47) h9 H (fun fr => .of (s_ixS (by kernel_rfl) hx)) fun fr t H => ?_
  refine at_sl 2 [(59, .bool (x47 == 93))] H fun fr H => at_cl 3 (fun fr' h' => h9 = h' ∧ Has fr' 86 [(0, .str p0), (6, .ptr (some (h.size, 0))), (9, .ptr (some (h2.size, 0))), (10, .bool x12), (62, .bool ((x47 == 93) && (!x30)))]) ?_ ?_
  ·cases hb : (x47 == 93 : Bool) with
   | true =>
    replace H := H.kn 59 hb
    exact at_sl 3 [(62, .bool (!x30))] H fun fr H => at_zb H hb
   | false =>
    replace H := H.kn 59 hb
    exact at_sl 3 [(62, .bool false)] H fun fr H => at_zb H hb
  intro t fr h' hK
  obtain ⟨e, H⟩ := hK
  subst e
  refine at_L 1 [(51, .bool ((x47 == 93) && (!x30)))] H fun fr H => aw_if 51 H hm (fun hb hm H => ?_) fun hb hm H => ?_
  ·refine aw_exit (i := 0) (by kernel_rfl) ?_
   exact nr hm fun e => .inl ⟨_, _, _, _, _, _, _, rfl, e, H.ls, A⟩
  refine aw_sr 4 ?_
  obtain ⟨⟨x48, x49⟩, hx, hm⟩ := bind_some hm
  obtain ⟨v1, h11, hr, rfl, A1⟩ := ok_bracket_scan_item (av := [.ptr (some (h2.size, 0))]) hx (A.cut 1)
  replace A := A.g11 A1
  refine at_gc1 1 [] 65 hr H fun fr t H => ?_
  refine at_L 2 [(63, .bool (!x48))] H fun fr H => aw_if 63 H hm (fun hb hm H => ?_) fun hb hm H => ?_
  ·refine aw_sr 4 ?_
   obtain ⟨h12, hx, A⟩ := A.s1 0 [Au 0, Au 0, Au 0, Au 0] [_, _, _, _]
   refine at_gS 1 [] hx H fun fr t H => ?_
   refine at_L 2 [(7, Ai 0), (8, Ai 11)] H fun fr H => aw_rt ?_
   exact nr hm fun e => Or.inr (.inl ⟨_, _, _, _, _, _, _, _, _, rfl, e, H.ls, A⟩)
  refine aw_kr 1 id (at_sl 1 [(11, .bool false)] H fun fr H => at_nil ?_)
  exact nx hm ⟨_, _, _, _, _, _, _, _, rfl, H.ls, A⟩
 clear ho
 clear A
 intro e fr h13 hQ
 rcases hQ with ⟨x31, x32, x33, x34, x35, x36, x37, rfl, rfl, H, A⟩ | ⟨x38, x39, x40, x41, x42, x43, x44, x45, x46, rfl, rfl, H, A⟩ | hF
 ·show AW _ _ _ _ _ _ _
  refine aw_sq ?_
  obtain ⟨o2, ho, hm⟩ := bind_some hm
  refine aw_mono (Q' := fun e fr' h' => (∃ x50 x51 x52 x53, e = .normal ∧ (x50, x51, x52, x53) = o2 ∧ Has fr' 86 [(6, .ptr (some (h.size, 0))), (9, .ptr (some (h2.size, 0)))] ∧ HH g h' [.obj h2.size (.cells none 2 [.str x31, Ai x32, .bool x33, Au x50, Au x51, Au x52, Au x53]), .obj h.size (.cells none 2 [Au 0, Au 0, Au 0, Au 0])] F) ∨ False) ?_ ?_
  ·replace hm := ho
   clear ho
   refine aw_sr 1 (at_L 1 [(68, .bool x12)] H fun fr H => aw_if 68 H hm (fun hb hm H => ?_) fun hb hm H => ?_)
   ·refine aw_rg 9 (at_g1 4 [(69, .ptr (some (h2.size, 0)))] 73 _ _ H (fun fr => .of (s_ldA (by kernel_rfl) (A.ldA 0 rfl (o := 3) (n := 4) ⟨Nat.le_of_ble_eq_true rfl, rfl⟩))) fun fr t H => ?_)
    obtain ⟨x54, hx, hm⟩ := bind_some hm
    obtain ⟨v1, h14, hr, rfl, A1⟩ := ok_class_Set_Not (av := [.agg [Au x34, Au x35, Au x36, Au x37]]) hx (A.cut 0)
    replace A := A.g00 A1
    refine at_lc1 74 hr H fun fr t H => ?_
    obtain ⟨h15, hx, A⟩ := A.s0 3 (e_A4_uint64 x54) [_, _, _, _, _, _, _]
    refine at_gS 2 [] hx H fun fr t H => ?_
    refine at_nil ?_
    exact .inl ⟨_, _, _, _, rfl, injA hm, H.ls, A⟩
   exact aw_sk (.inl ⟨_, _, _, _, rfl, injA hm, H.ls, A⟩)
  clear ho
  clear A
  intro e fr h16 hQ
  rcases hQ with ⟨x50, x51, x52, x53, rfl, rfl, H, A⟩ | hF
  ·show AW _ _ _ _ _ _ _
   refine aw_sq (aw_dw 14 12 [(0, []), (1, []), (2, []), (3, []), (4, []), (5, []), (6, []), (7, []), (8, []), (9, [7]), (10, []), (11, [])] ?_)
   refine at_sl 3 [(79, .ptr (some (h2.size, 3)))] H fun fr H => at_t1 80 (.agg [Au x50, Au x51, Au x52, Au x53]) h16 [(3, h2.size)] (g.prot) H (fun fr => .of (s_ldA (by kernel_rfl) (A.la 0 3 4))) (fun fr H => ?_)
   refine at_sl 3 [(83, .ptr (some (h2.size, 1)))] H fun fr H => at_t1 84 (Ai x32) h16 [(7, h2.size), (3, h2.size)] (g.prot) H (fun fr => .of (s_ld (by kernel_rfl) (A.l1 0 1))) (fun fr H => ?_)
   refine at_sl 1 [(85, Ai (IntKind.i64.wrap (x32 + 1)))] H fun fr H => ?_
   replace A := A.k2 1 0
   have A1 := A.prot2 1 (pr := [h2.size]) (.cons 0 rfl (by simp [Ck.ids]) .nil)
   obtain ⟨h17, hx, A1⟩ := A1.st 0 rfl (o := 0) (new := [Au x50, Au x51, Au x52, Au x53]) (ds := [Au x50, Au x51, Au x52, Au x53]) (Nat.le_of_ble_eq_true rfl) rfl rfl
   replace A := A.p11 A1
   refine at_t0 (.tuple []) h17 [(7, h2.size), (3, h2.size)] (h2.size :: g.prot) H (fun fr => .of (s_stG (by kernel_rfl) (stG_st hx rfl))) (fun fr H => ?_)
   refine at_L 2 [(7, Ai (IntKind.i64.wrap (x32 + 1))), (8, Ai 0)] H fun fr H => aw_rt ?_
   obtain ⟨rfl, rfl, rfl⟩ := injC hm
   refine ⟨.inl rfl, .tuple [.agg [Au x50, Au x51, Au x52, Au x53], Ai (IntKind.i64.wrap (x32 + 1)), Ai 0], resL_many (.cell (rT H) (load_ldA (by kernel_rfl) (by kernel_rfl) (A.la 0 0 4)) (.tmp (rT H) (.tmp (rT H) .nil))), ?_⟩
   replace A := A.d0
   exact ⟨rfl, A⟩
  exact hF.elim
 ·obtain ⟨rfl, rfl, rfl⟩ := injC hm
  refine ⟨.inl rfl, .tuple [.agg [Au 0, Au 0, Au 0, Au 0], Ai x45, Ai x46], resL_many (.cell (rT H) (load_ldA (by kernel_rfl) (by kernel_rfl) (A.la 1 0 4)) (.tmp (rT H) (.tmp (rT H) .nil))), ?_⟩
  replace A := A.d0
  exact ⟨rfl, A⟩
 exact hF.elim
def M_strings_IndexByte (p0 : List UInt8) (p1 : Int) : Option (Int) :=
 (M_stringslite_IndexByte p0 p1).bind fun x1 => some x1
theorem ok_strings_IndexByte {p0 p1 q0} (hm : M_strings_IndexByte p0 p1 = some q0) (A : HH g h [] F) (hc : canL (cfg.still 104) av = [.str p0, Ab p1] := by kernel_rfl) : ∃ v h', Runs cfg g h 104 av v h' ∧ v = Ai q0 ∧ HH g h' [] F := by
 refine rq1 8 [.tmp 4] hc ?_
 clear hc
 unfold M_strings_IndexByte at hm
 refine bg 8 [(0, .str p0), (1, Ab p1)] fun fr H => ?_
 refine aw_sr 1 (at_S 1 [] 4 H fun fr H => ?_)
 obtain ⟨x1, hx, hm⟩ := bind_some hm
 obtain ⟨v1, h1, hr, rfl, A1⟩ := ok_stringslite_IndexByte (av := [.str p0, Ab p1]) hx (A.cut 0)
 replace A := A.g00 A1
 refine at_gc1 2 [] 7 hr H fun fr t H => ?_
 refine at_L 1 [(4, Ai x1)] H fun fr H => aw_rt ?_
 obtain rfl := injA hm
 exact ⟨.inl rfl, _, rH H, rfl, A⟩
def M_rex_walk_escaped_sPO (p0 : S_rex_walk) : Option (Int × S_rex_walk × (List S_tree_Node)) :=
 (iteB p0.extended_ (need (decide (([46, 42, 91, 93, 94, 36, 92, 47] : List UInt8).length + ([40, 41, 124, 43, 63, 123, 125] : List UInt8).length ≤ 9223372036854775807)) <| some (([46, 42, 91, 93, 94, 36, 92, 47] : List UInt8) ++ ([40, 41, 124, 43, 63, 123, 125] : List UInt8))) (some ([46, 42, 91, 93, 94, 36, 92, 47] : List UInt8)) : Option (((List UInt8)))).bind fun x1 => (iteB ((IntKind.i64.wrap (p0.at_ + 1)) == (p0.s_.length : Int)) (some true) ((ixS p0.s_ (IntKind.i64.wrap (p0.at_ + 1))).bind fun x3 => (M_strings_IndexByte x1 x3).bind fun x4 => some (decide (x4 < 0))) : Option (Bool)).bind fun x2 => iteB x2 ((M_rex_walk_fail_sPOI p0 p0.at_).bind fun x5 => some ((0 : Int), (⟨x5.s_, x5.at_, x5.extended_, (⟨p0.t_.Nodes, x5.t_.Root⟩ : S_tree_Tree), x5.groups_, x5.depth_, x5.wrong_, x5.full_⟩ : S_rex_walk), p0.t_.Nodes)) ((ixS p0.s_ (IntKind.i64.wrap ((IntKind.i64.wrap (p0.at_ + 2)) - 1))).bind fun x6 => (M_rex_walk_one_sPOI (⟨p0.s_, IntKind.i64.wrap (p0.at_ + 2), p0.extended_, p0.t_, p0.groups_, p0.depth_, p0.wrong_, p0.full_⟩ : S_rex_walk) x6).bind fun (x7, x8, x9) => some (x7, (⟨x8.s_, x8.at_, x8.extended_, (⟨x9, x8.t_.Root⟩ : S_tree_Tree), x8.groups_, x8.depth_, x8.wrong_, x8.full_⟩ : S_rex_walk), x9))
theorem ok_rex_walk_escaped_sPO {p0 bp0 rp0_3 q0 u0 u1} (hm : M_rex_walk_escaped_sPO p0 = some (q0, u0, u1)) (A : HH g h [.obj bp0 (.cells none 2 (w_rex_walk_3 p0 (rowV rp0_3 p0.t_.Nodes.length))), .lst rp0_3 68 (lst e_S_tree_Node p0.t_.Nodes)] F) (hc : canL (cfg.still 96) av = [.ptr (some (bp0, 0))] := by kernel_rfl) : ∃ v h', Runs cfg g h 96 av v h' ∧ ∃ (r'1 : Option Nat), v = Ai q0 ∧ HH g h' [.obj bp0 (.cells none 2 (w_rex_walk_3 u0 (rowV r'1 u1.length))), .lst r'1 68 (lst e_S_tree_Node u1)] F := by
 refine rq1 61 [.tmp 2] hc ?_
 clear hc
 unfold M_rex_walk_escaped_sPO at hm
 refine bg 61 [(0, .ptr (some (bp0, 0)))] fun fr H => ?_
 refine aw_sr 1 (at_S 1 [] 1 H fun fr H => at_L 1 [(3, .str ([46, 42, 91, 93, 94, 36, 92, 47] : List UInt8))] H fun fr H => aw_sq ?_)
 obtain ⟨o1, ho, hm⟩ := bind_some hm
 refine aw_mono (Q' := fun e fr' h' => (∃ x1, e = .normal ∧ x1 = o1 ∧ Has fr' 61 [(0, .ptr (some (bp0, 0))), (3, .str x1)] ∧ HH g h' [.obj bp0 (.cells none 2 (w_rex_walk_3 p0 (rowV rp0_3 p0.t_.Nodes.length))), .lst rp0_3 68 (lst e_S_tree_Node p0.t_.Nodes)] F) ∨ False) ?_ ?_
 ·replace hm := ho
  clear ho
  refine aw_sr 4 (at_gl 3 [] 7 0 2 A H fun fr t H => ?_)
  refine at_nl id (aw_if 7 H hm (fun hb hm H => ?_) fun hb hm H => ?_)
  ·refine aw_rg 3 (at_sl 1 [(8, .str ([46, 42, 91, 93, 94, 36, 92, 47] : List UInt8))] H fun fr H => ?_)
   obtain ⟨hb, hm⟩ := need_some hm
   refine at_l1 9 (.str (([46, 42, 91, 93, 94, 36, 92, 47] : List UInt8) ++ ([40, 41, 124, 43, 63, 123, 125] : List UInt8))) h H (fun fr => .of (s_cat (by kernel_rfl) hb)) fun fr t H => ?_
   refine at_se 1 [(0, .ptr (some (bp0, 0))), (3, .str (([46, 42, 91, 93, 94, 36, 92, 47] : List UInt8) ++ ([40, 41, 124, 43, 63, 123, 125] : List UInt8)))] H fun fr H => at_nil ?_
   exact .inl ⟨_, rfl, injA hm, H.ls, A⟩
  exact aw_sk (.inl ⟨_, rfl, injA hm, H.ls, A⟩)
 clear ho
 clear A
 intro e fr h1 hQ
 rcases hQ with ⟨x1, rfl, rfl, H, A⟩ | hF
 ·show AW _ _ _ _ _ _ _
  refine aw_sq (aw_sq (aw_dg 4 26 ?_))
  refine at_gl 3 [] 13 0 1 A H fun fr t H => ?_
  refine at_gl 4 [(14, Ai (IntKind.i64.wrap (p0.at_ + 1)))] 18 0 0 A H fun fr t H => ?_
  refine at_sl 3 [(21, .bool ((IntKind.i64.wrap (p0.at_ + 1)) == (p0.s_.length : Int)))] H fun fr H => ?_
  obtain ⟨x2, ho, hm⟩ := bind_some hm
  refine at_cl 14 (fun fr' h' => Has fr' 61 [(0, .ptr (some (bp0, 0))), (35, .bool x2)] ∧ HH g h' [.obj bp0 (.cells none 2 (w_rex_walk_3 p0 (rowV rp0_3 p0.t_.Nodes.length))), .lst rp0_3 68 (lst e_S_tree_Node p0.t_.Nodes)] F) ?_ ?_
  ·rcases iteB_some ho with ⟨hb, hm⟩ | ⟨hb, hm⟩
   ·replace H := H.kn 21 hb
    refine at_sl 14 [(35, .bool true)] H fun fr H => ?_
    obtain rfl := injA hm
    exact at_nil ⟨H.ls, A⟩
   replace H := H.kn 21 hb
   refine at_gl 4 [(22, .str x1)] 26 0 0 A H fun fr t H => ?_
   refine at_gl 3 [] 30 0 1 A H fun fr t H => ?_
   obtain ⟨x3, hx, hm⟩ := bind_some hm
   refine at_g1 1 [] 32 (Ab x3) h1 H (fun fr => .of (s_ixS (by kernel_rfl) hx)) fun fr t H => ?_
   obtain ⟨x4, hx, hm⟩ := bind_some hm
   obtain ⟨v1, h3, hr, rfl, A1⟩ := ok_strings_IndexByte (av := [.str x1, Ab x3]) hx (A.cut 0)
   replace A := A.g00 A1
   refine at_lc1 33 hr H fun fr t H => ?_
   refine at_sl 2 [(35, .bool (decide (x4 < 0)))] H fun fr H => ?_
   obtain rfl := injA hm
   exact at_nil ⟨H.ls, A⟩
  clear A
  intro t fr h2 hK
  obtain ⟨H, A⟩ := hK
  refine at_nl id (aw_if 35 H hm (fun hb hm H => ?_) fun hb hm H => ?_)
  ·refine aw_sr 6 (at_gl 4 [(36, .ptr (some (bp0, 0)))] 40 0 1 A H fun fr t H => ?_)
   obtain ⟨x5, hx, hm⟩ := bind_some hm
   obtain ⟨v1, h4, hr, rfl, A1⟩ := ok_rex_walk_fail_sPOI (av := [.ptr (some (bp0, 0)), Ai p0.at_]) hx (A.cut 2)
   replace A := A.g22 A1
   refine at_lc0 hr H fun fr t H => ?_
   refine at_ns 1 id (at_L 1 [(2, Ai 0)] H fun fr H => aw_rt ?_)
   obtain ⟨rfl, rfl, rfl⟩ := injC hm
   exact ⟨.inl rfl, _, rH H, _, rfl, A⟩
  refine aw_ks 8 id (at_gl 3 [(42, .ptr (some (bp0, 0)))] 45 0 1 A H fun fr t H => ?_)
  obtain ⟨h5, hx, A⟩ := A.s0 1 [Ai (IntKind.i64.wrap (p0.at_ + 2))] [_, _, _, _, _, _, _, _, _]
  refine at_gs 3 [] hx H fun fr t H => ?_
  refine at_nl id (aw_sq (aw_dg 8 13 ?_))
  refine at_gl 4 [(49, .ptr (some (bp0, 0)))] 53 0 0 A H fun fr t H => ?_
  refine at_gl 3 [] 57 0 1 A H fun fr t H => ?_
  obtain ⟨x6, hx, hm⟩ := bind_some hm
  refine at_g1 1 [] 59 (Ab x6) h5 H (fun fr => .of (s_ixS (by kernel_rfl) hx)) fun fr t H => ?_
  obtain ⟨⟨x7, x8, x9⟩, hx, hm⟩ := bind_some hm
  obtain ⟨v1, h6, hr, r1, rfl, A1⟩ := ok_rex_walk_one_sPOI (av := [.ptr (some (bp0, 0)), Ab x6]) hx (A.cut 2)
  replace A := A.g22 A1
  refine at_lc1 60 hr H fun fr t H => ?_
  refine at_L 1 [(2, Ai x7)] H fun fr H => aw_rt ?_
  obtain ⟨rfl, rfl, rfl⟩ := injC hm
  exact ⟨.inl rfl, _, rH H, _, rfl, A⟩
 exact hF.elim
def M_rex_walk_nest_sPOIO_L0 (p1 : Int) (p2 : List Int) (s : (List UInt8) × Int × Bool × Int × Int × Int × Int × Bool × (List S_tree_Node) × Int × Int) : Option (((List UInt8) × Int × Bool × Int × Int × Int × Int × Bool × (List S_tree_Node) × Int × Int) ⊕ (((List UInt8) × Int × Bool × Int × Int × Int × Int × Bool × (List S_tree_Node) × Int))) :=
 match s with
 | (x5, x6, x7, x8, x9, x10, x11, x12, x13, x14, x15) => iteB (decide (x15 ≥ 0)) ((ixV p2 x15).bind fun x26 => (M_rex_walk_add_sPOR (⟨x5, x6, x7, (⟨x13, x8⟩ : S_tree_Tree), x9, x10, x11, x12⟩ : S_rex_walk) (⟨p1, x26, x14, (0 : Int), (0 : Int), (0 : Int), (⟨(0 : Int), (0 : Int), (0 : Int), (0 : Int)⟩ : A4_uint64)⟩ : S_tree_Node)).bind fun (x27, x28, x29) => some (.inl (x28.s_, x28.at_, x28.extended_, x28.t_.Root, x28.groups_, x28.depth_, x28.wrong_, x28.full_, x29, x27, IntKind.i64.wrap (x15 - 1)))) (some (.inr (x5, x6, x7, x8, x9, x10, x11, x12, x13, x14)))
def M_rex_walk_nest_sPOIO (p0 : S_rex_walk) (p1 : Int) (p2 : List Int) : Option (Int × S_rex_walk × (List S_tree_Node)) :=
 iteB ((p2.length : Int) == 0) ((M_rex_walk_add_sPOR p0 (⟨(0 : Int), (0 : Int), (0 : Int), (0 : Int), (0 : Int), (0 : Int), (⟨(0 : Int), (0 : Int), (0 : Int), (0 : Int)⟩ : A4_uint64)⟩ : S_tree_Node)).bind fun (x1, x2, x3) => some (x1, (⟨x2.s_, x2.at_, x2.extended_, (⟨x3, x2.t_.Root⟩ : S_tree_Tree), x2.groups_, x2.depth_, x2.wrong_, x2.full_⟩ : S_rex_walk), x3)) ((ixV p2 (IntKind.i64.wrap ((p2.length : Int) - 1))).bind fun x4 => (loop (M_rex_walk_nest_sPOIO_L0 p1 p2) (p0.s_, p0.at_, p0.extended_, p0.t_.Root, p0.groups_, p0.depth_, p0.wrong_, p0.full_, p0.t_.Nodes, x4, IntKind.i64.wrap ((p2.length : Int) - 2))).bind fun (x16, x17, x18, x19, x20, x21, x22, x23, x24, x25) => some (x25, (⟨x16, x17, x18, (⟨x24, x19⟩ : S_tree_Tree), x20, x21, x22, x23⟩ : S_rex_walk), x24))
theorem ok_rex_walk_nest_sPOIO {p0 p1 p2 bp0 rp0_3 rp2 q0 u0 u1} (hm : M_rex_walk_nest_sPOIO p0 p1 p2 = some (q0, u0, u1)) (A : HH g h [.obj bp0 (.cells none 2 (w_rex_walk_3 p0 (rowV rp0_3 p0.t_.Nodes.length))), .lst rp0_3 68 (lst e_S_tree_Node p0.t_.Nodes), .lst rp2 3 (lst (eI .i64) p2)] F) (hc : canL (cfg.still 58) av = [.ptr (some (bp0, 0)), Ai p1, rowV rp2 p2.length] := by kernel_rfl) : ∃ v h', Runs cfg g h 58 av v h' ∧ ∃ (r'1 : Option Nat), v = Ai q0 ∧ HH g h' [.obj bp0 (.cells none 2 (w_rex_walk_3 u0 (rowV r'1 u1.length))), .lst r'1 68 (lst e_S_tree_Node u1), .lst rp2 3 (lst (eI .i64) p2)] F := by
 refine rq1 38 [.tmp 6] hc ?_
 clear hc
 unfold M_rex_walk_nest_sPOIO at hm
 refine bg 38 [(0, .ptr (some (bp0, 0))), (1, Ai p1), (2, rowV rp2 p2.length)] fun fr H => ?_
 refine aw_sr 1 (at_L 1 [] H fun fr H => aw_sq (aw_sr 3 (at_L 3 [(11, .bool ((p2.length : Int) == 0))] H fun fr H => aw_if 11 H hm (fun hb hm H => ?_) fun hb hm H => ?_)))
 ·refine aw_sr 4 ?_
  obtain ⟨⟨x1, x2, x3⟩, hx, hm⟩ := bind_some hm
  obtain ⟨v1, h1, hr, r1, rfl, A1⟩ := ok_rex_walk_add_sPOR (av := [.ptr (some (bp0, 0)), .agg [Ai 0, Ai 0, Ai 0, Ai 0, Ai 0, Ai 0, Au 0, Au 0, Au 0, Au 0]]) hx (A.cut 2)
  replace A := A.g22 A1
  refine at_gc1 2 [] 14 hr H fun fr t H => ?_
  refine at_L 1 [(6, Ai x1)] H fun fr H => aw_rt ?_
  obtain ⟨rfl, rfl, rfl⟩ := injC hm
  exact ⟨.inl rfl, _, rH H, _, rfl, A⟩
 refine aw_ks 7 id ?_
 obtain ⟨x4, hx, hm⟩ := bind_some hm
 obtain ⟨i1, er1, _, hx, hq1⟩ := HH.ixO (encI .i64) (by decide) A 2 (xs := p2) rfl hx
 refine at_g1 4 [] 19 (.ptr (some (i1, (IntKind.i64.wrap ((p2.length : Int) - 1)).toNat * 1))) h H (fun fr => .of (s_ixL (s := rowS rp2 p2.length) (by kernel_rfl) hx)) fun fr t H => ?_
 refine at_l1 20 _ _ H (fun fr => .of (s_ld (by kernel_rfl) (row_ld1 (encI .i64) (HH.row A 2 rfl er1) hq1 (o := 0) rfl))) fun fr t H => ?_
 refine at_L 1 [(7, Ai x4)] H fun fr H => aw_sq (aw_sr 4 (at_L 4 [(8, Ai (IntKind.i64.wrap ((p2.length : Int) - 2)))] H fun fr H => aw_block (id := 0) (by kernel_rfl) ?_))
 obtain ⟨o1, ho, hm⟩ := bind_some hm
 refine aw_mono (Q' := fun e fr' h' => (∃ x16 x17 x18 x19 x20 x21 x22 x23 x24 x25, e = .exit 0 ∧ (x16, x17, x18, x19, x20, x21, x22, x23, x24, x25) = o1 ∧ ∃ r3, Has fr' 38 [(7, Ai x25)] ∧ HH g h' [.obj bp0 (.cells none 2 [.str x16, Ai x17, .bool x18, rowV r3 x24.length, Ai x19, Ai x20, Ai x21, Ai x22, .bool x23]), .lst r3 68 (lst e_S_tree_Node x24), .lst rp2 3 (lst (eI .i64) p2)] F) ∨ False) ?_ ?_
 ·refine aw_loop (by kernel_rfl) (fun (s : (List UInt8) × Int × Bool × Int × Int × Int × Int × Bool × (List S_tree_Node) × Int × Int) fr' h' => ∃ x5 x6 x7 x8 x9 x10 x11 x12 x13 x14 x15, (x5, x6, x7, x8, x9, x10, x11, x12, x13, x14, x15) = s ∧ ∃ r2, Has fr' 38 [(0, .ptr (some (bp0, 0))), (1, Ai p1), (2, rowV rp2 p2.length), (7, Ai x14), (8, Ai x15)] ∧ HH g h' [.obj bp0 (.cells none 2 [.str x5, Ai x6, .bool x7, rowV r2 x13.length, Ai x8, Ai x9, Ai x10, Ai x11, .bool x12]), .lst r2 68 (lst e_S_tree_Node x13), .lst rp2 3 (lst (eI .i64) p2)] F) ho ⟨_, _, _, _, _, _, _, _, _, _, _, rfl, rp0_3, H.ls, A⟩ ?_
  clear ho hm H A
  intro s q fr h2 hI hm
  obtain ⟨x5, x6, x7, x8, x9, x10, x11, x12, x13, x14, x15, rfl, r2, H, A⟩ := hI
  unfold M_rex_walk_nest_sPOIO_L0 at hm
  refine aw_sq (aw_sr 2 (at_L 2 [(25, .bool (decide (x15 ≥ 0)))] H fun fr H => aw_if 25 H hm (fun hb hm H => ?_) fun hb hm H => ?_))
  ·refine aw_kn id (aw_sq (aw_block (id := 1) (by kernel_rfl) ?_))
   refine aw_rg 10 ?_
   obtain ⟨x26, hx, hm⟩ := bind_some hm
   obtain ⟨i2, er2, _, hx, hq2⟩ := HH.ixO (encI .i64) (by decide) A 2 (xs := p2) rfl hx
   refine at_g1 4 [(28, .ptr (some (bp0, 0))), (29, Ai p1)] 32 (.ptr (some (i2, x15.toNat * 1))) h2 H (fun fr => .of (s_ixL (s := rowS rp2 p2.length) (by kernel_rfl) hx)) fun fr t H => ?_
   refine at_l1 33 _ _ H (fun fr => .of (s_ld (by kernel_rfl) (row_ld1 (encI .i64) (HH.row A 2 rfl er2) hq2 (o := 0) rfl))) fun fr t H => ?_
   obtain ⟨⟨x27, x28, x29⟩, hx, hm⟩ := bind_some hm
   obtain ⟨v1, h3, hr, r4, rfl, A1⟩ := ok_rex_walk_add_sPOR (av := [.ptr (some (bp0, 0)), .agg [Ai p1, Ai x26, Ai x14, Ai 0, Ai 0, Ai 0, Au 0, Au 0, Au 0, Au 0]]) hx (A.cut 2)
   replace A := A.g22 A1
   refine at_gc1 2 [] 36 hr H fun fr t H => ?_
   refine at_se 1 [(0, .ptr (some (bp0, 0))), (1, Ai p1), (2, rowV rp2 p2.length), (7, Ai x27), (8, Ai x15)] H fun fr H => at_nr 3 id (at_se 3 [(0, .ptr (some (bp0, 0))), (1, Ai p1), (2, rowV rp2 p2.length), (7, Ai x27), (8, Ai (IntKind.i64.wrap (x15 - 1)))] H fun fr H => at_nil ?_)
   exact nx hm ⟨_, _, _, _, _, _, _, _, _, _, _, rfl, _, H.ls, A⟩
  refine aw_exit (i := 0) (by kernel_rfl) ?_
  exact nr hm fun e => .inl ⟨_, _, _, _, _, _, _, _, _, _, rfl, e, _, H.ls, A⟩
 clear ho
 clear A
 intro e fr h4 hQ
 rcases hQ with ⟨x16, x17, x18, x19, x20, x21, x22, x23, x24, x25, rfl, rfl, r3, H, A⟩ | hF
 ·show AW _ _ _ _ _ _ _
  refine aw_sr 2 (at_L 2 [(6, Ai x25)] H fun fr H => aw_rt ?_)
  obtain ⟨rfl, rfl, rfl⟩ := injC hm
  exact ⟨.inl rfl, _, rH H, _, rfl, A⟩
 exact hF.elim
def M_tree_Tree_Right_L0 (p0 : S_tree_Tree) (s : Int) : Option ((Int) ⊕ ((Unit) ⊕ (Bool))) :=
 match s with
 | x1 => iteB (decide (x1 < (p0.Nodes.length : Int))) ((ixV p0.Nodes x1).bind fun x3 => (M_tree_may x3 x1).bind fun x4 => iteB (!x4) (some (.inr (.inr false))) (some (.inl (IntKind.i64.wrap (x1 + 1))))) (some (.inr (.inl ())))
def M_tree_Tree_Right (p0 : S_tree_Tree) : Option (Bool) :=
 iteB (((decide ((p0.Nodes.length : Int) > 1024)) || (decide (p0.Root < 0))) || (decide (p0.Root ≥ (p0.Nodes.length : Int)))) (some false) ((loop (M_tree_Tree_Right_L0 p0) (0 : Int)).bind fun o1 => (match o1 with | .inl _ => some true | .inr x2 => some x2))
theorem ok_tree_Tree_Right {p0 q0} (hm : M_tree_Tree_Right p0 = some q0) (A : HH g h [] F) (hc : canL (cfg.still 39) av = [.agg (e_S_tree_Tree p0)] := by kernel_rfl) : ∃ v h', Runs cfg g h 39 av v h' ∧ v = .bool q0 ∧ HH g h' [] F := by
 refine rq1 35 [.tmp 2] hc ?_
 clear hc
 unfold M_tree_Tree_Right at hm
 refine bg 35 [(0, .agg (e_S_tree_Tree p0))] fun fr H => ?_
 refine aw_sr 2 ?_
 obtain ⟨h1, e1, A⟩ := A.pu (.cells none 2 (e_S_tree_Tree p0))
 refine at_ln 1 (.ptr (some (h.size, 0))) e1 H fun fr t H => ?_
 refine at_L 1 [] H fun fr H => aw_sq (aw_sr 17 (at_gl 1 [] 6 0 0 A H fun fr t H => ?_))
 refine at_sl 3 [(9, .bool (decide ((p0.Nodes.length : Int) > 1024)))] H fun fr H => at_cl 4 (fun fr' h' => h1 = h' ∧ Has fr' 35 [(1, .ptr (some (h.size, 0))), (13, .bool ((decide ((p0.Nodes.length : Int) > 1024)) || (decide (p0.Root < 0))))]) ?_ ?_
 ·cases hb : (decide ((p0.Nodes.length : Int) > 1024) : Bool) with
  | true =>
   replace H := H.kn 9 hb
   exact at_sl 4 [(13, .bool true)] H fun fr H => at_zb H hb
  | false =>
   replace H := H.kn 9 hb
   refine at_gl 1 [] 11 0 1 A H fun fr t H => ?_
   exact at_sl 2 [(13, .bool (decide (p0.Root < 0)))] H fun fr H => at_zb H hb
 intro t fr h' hK
 obtain ⟨e, H⟩ := hK
 subst e
 refine at_sl 1 [(14, .bool ((decide ((p0.Nodes.length : Int) > 1024)) || (decide (p0.Root < 0))))] H fun fr H => at_cl 7 (fun fr' h' => h1 = h' ∧ Has fr' 35 [(1, .ptr (some (h.size, 0))), (21, .bool (((decide ((p0.Nodes.length : Int) > 1024)) || (decide (p0.Root < 0))) || (decide (p0.Root ≥ (p0.Nodes.length : Int)))))]) ?_ ?_
 ·cases hb : ((decide ((p0.Nodes.length : Int) > 1024)) || (decide (p0.Root < 0)) : Bool) with
  | true =>
   replace H := H.kn 14 hb
   exact at_sl 7 [(21, .bool true)] H fun fr H => at_zb H hb
  | false =>
   replace H := H.kn 14 hb
   refine at_gl 1 [] 16 0 1 A H fun fr t H => ?_
   refine at_gl 1 [] 18 0 0 A H fun fr t H => ?_
   exact at_sl 3 [(21, .bool (decide (p0.Root ≥ (p0.Nodes.length : Int))))] H fun fr H => at_zb H hb
 intro t fr h' hK
 obtain ⟨e, H⟩ := hK
 subst e
 refine at_nl id (aw_if 21 H hm (fun hb hm H => ?_) fun hb hm H => ?_)
 ·refine aw_sr 1 (at_L 1 [(2, .bool false)] H fun fr H => aw_rt ?_)
  obtain rfl := injA hm
  refine ⟨.inl rfl, .bool false, rH H, ?_⟩
  replace A := A.d0
  exact ⟨rfl, A⟩
 refine aw_kn id (aw_sq (aw_sr 4 (at_gl 1 [] 23 0 0 A H fun fr t H => ?_)))
 refine at_L 2 [(24, Ai (p0.Nodes.length : Int)), (25, Ai 0)] H fun fr H => aw_block (id := 0) (by kernel_rfl) ?_
 obtain ⟨o1, ho, hm⟩ := bind_some hm
 refine aw_mono (Q' := fun e fr' h' => (e = .exit 0 ∧ .inl () = o1 ∧ Has fr' 35 [] ∧ HH g h' [.obj h.size (.cells none 2 (e_S_tree_Tree p0))] F) ∨ (∃ x2, e = .ret ∧ .inr x2 = o1 ∧ Has fr' 35 [(2, .bool x2)] ∧ HH g h' [.obj h.size (.cells none 2 (e_S_tree_Tree p0))] F) ∨ False) ?_ ?_
 ·refine aw_loop (by kernel_rfl) (fun (s : Int) fr' h' => ∃ x1, x1 = s ∧ Has fr' 35 [(23, vs e_S_tree_Node p0.Nodes), (24, Ai (p0.Nodes.length : Int)), (25, Ai x1)] ∧ HH g h' [.obj h.size (.cells none 2 (e_S_tree_Tree p0))] F) ho ⟨_, rfl, H.ls, A⟩ ?_
  clear ho hm H A
  intro s q fr h2 hI hm
  obtain ⟨x1, rfl, H, A⟩ := hI
  unfold M_tree_Tree_Right_L0 at hm
  refine aw_sr 1 (at_L 1 [(26, .bool (decide (x1 < (p0.Nodes.length : Int))))] H fun fr H => aw_sq (aw_if 26 H hm (fun hb hm H => ?_) fun hb hm H => ?_))
  ·refine aw_kn id (aw_sq (aw_block (id := 1) (by kernel_rfl) ?_))
   refine aw_sr 6 ?_
   obtain ⟨x3, hx, hm⟩ := bind_some hm
   refine at_g1 1 [(27, Ai x1)] 28 (.vptr (e_S_tree_Node x3)) h2 H (fun fr => .of (s_ixV (e := e_S_tree_Node) (x := x3) enc_S_tree_Node (by decide) (by kernel_rfl) hx)) fun fr t H => ?_
   refine at_l1 29 (.agg (e_S_tree_Node x3)) h2 H (fun fr => .of (s_lv (by kernel_rfl))) fun fr t H => ?_
   obtain ⟨h3, e2, A⟩ := A.pu (.cells none 2 [Ai 0, Ai 0, Ai 0, Ai 0, Ai 0, Ai 0, Au 0, Au 0, Au 0, Au 0])
   refine at_ln 4 (.ptr (some (h2.size, 0))) e2 H fun fr t H => ?_
   obtain ⟨h4, hx, A⟩ := A.s0 0 (e_S_tree_Node x3) [_, _, _, _, _, _, _, _, _, _]
   refine at_gS 1 [(3, Ai x1)] hx H fun fr t H => ?_
   refine at_ns 4 id (at_l1 30 _ _ H (fun fr => .of (s_ldA (by kernel_rfl) (A.ldA 0 rfl (o := 0) (n := 10) ⟨Nat.le_of_ble_eq_true rfl, rfl⟩))) fun fr t H => ?_)
   obtain ⟨x4, hx, hm⟩ := bind_some hm
   obtain ⟨v1, h5, hr, rfl, A1⟩ := ok_tree_may (av := [.agg (e_S_tree_Node x3), Ai x1]) hx (A.cut 0)
   replace A := A.g00 A1
   refine at_gc1 1 [] 32 hr H fun fr t H => ?_
   refine at_L 1 [(33, .bool (!x4))] H fun fr H => aw_if 33 H hm (fun hb hm H => ?_) fun hb hm H => ?_
   ·refine aw_sr 1 (at_L 1 [(2, .bool false)] H fun fr H => aw_rt ?_)
    replace A := A.k1 1
    exact nr hm fun e => Or.inr (.inl ⟨_, rfl, e, H.ls, A⟩)
   refine aw_kr 2 id (at_se 2 [(23, vs e_S_tree_Node p0.Nodes), (24, Ai (p0.Nodes.length : Int)), (25, Ai (IntKind.i64.wrap (x1 + 1)))] H fun fr H => at_nil ?_)
   replace A := A.k1 1
   exact nx hm ⟨_, rfl, H.ls, A⟩
  refine aw_exit (i := 0) (by kernel_rfl) ?_
  exact nr hm fun e => .inl ⟨rfl, e, H.ls, A⟩
 clear ho
 clear A
 intro e fr h6 hQ
 rcases hQ with ⟨rfl, rfl, H, A⟩ | ⟨x2, rfl, rfl, H, A⟩ | hF
 ·show AW _ _ _ _ _ _ _
  refine aw_sr 1 (at_L 1 [(2, .bool true)] H fun fr H => aw_rt ?_)
  obtain rfl := injA hm
  refine ⟨.inl rfl, .bool true, rH H, ?_⟩
  replace A := A.d0
  exact ⟨rfl, A⟩
 ·obtain rfl := injA hm
  refine ⟨.inl rfl, .bool x2, rH H, ?_⟩
  replace A := A.d0
  exact ⟨rfl, A⟩
 exact hF.elim
def M_class_Set_Has (p0 : A4_uint64) (p1 : Int) : Option (Bool) :=
 (ixV ([p0.w0, p0.w1, p0.w2, p0.w3] : List Int) (bShr .u8 p1 (6 : Int))).bind fun x1 => need (decide (0 ≤ (bAnd .u8 p1 (63 : Int)))) <| some ((bAnd .u64 (bShr .u64 x1 (bAnd .u8 p1 (63 : Int))) (1 : Int)) == 1)
theorem ok_class_Set_Has {p0 p1 q0} (hm : M_class_Set_Has p0 p1 = some q0) (A : HH g h [] F) (hc : canL (cfg.still 31) av = [.agg (e_A4_uint64 p0), Ab p1] := by kernel_rfl) : ∃ v h', Runs cfg g h 31 av v h' ∧ v = .bool q0 ∧ HH g h' [] F := by
 refine rq1 14 [.tmp 4] hc ?_
 clear hc
 unfold M_class_Set_Has at hm
 refine bg 14 [(0, .agg (e_A4_uint64 p0)), (1, Ab p1)] fun fr H => ?_
 refine aw_sr 2 ?_
 obtain ⟨h1, e1, A⟩ := A.pu (.cells none 2 (e_A4_uint64 p0))
 refine at_ln 2 (.ptr (some (h.size, 0))) e1 H fun fr t H => ?_
 refine at_S 1 [] 10 H fun fr H => ?_
 obtain ⟨x1, hq1, hm⟩ := bind_some hm
 refine at_g1 2 [] 7 (.ptr (some (h.size, 0 + (bShr .u8 p1 (6 : Int)).toNat * 1))) h1 H (fun fr => .of (s_ixA (by kernel_rfl) (ixA_of hq1 (h.size, 0) 1 rfl))) fun fr t H => ?_
 refine at_l1 8 _ _ H (fun fr => .of (s_ld (by kernel_rfl) (HH.ldW A 0 rfl 0 (fun w : Int => Au w) [p0.w0, p0.w1, p0.w2, p0.w3] rfl hq1))) fun fr t H => ?_
 refine at_sl 2 [(10, Ab (bAnd .u8 p1 (63 : Int)))] H fun fr H => ?_
 obtain ⟨hb, hm⟩ := need_some hm
 refine at_l1 11 (Au (bShr .u64 x1 (bAnd .u8 p1 (63 : Int)))) h1 H (fun fr => .of (s_shr (by kernel_rfl) hb)) fun fr t H => ?_
 refine at_L 3 [(4, .bool ((bAnd .u64 (bShr .u64 x1 (bAnd .u8 p1 (63 : Int))) (1 : Int)) == 1))] H fun fr H => aw_rt ?_
 obtain rfl := injA hm
 refine ⟨.inl rfl, .bool ((bAnd .u64 (bShr .u64 x1 (bAnd .u8 p1 (63 : Int))) (1 : Int)) == 1), rH H, ?_⟩
 replace A := A.d0
 exact ⟨rfl, A⟩
def M_groups_join_sOV_L0 (p1 : List Bool) (s : (List Bool) × Int) : Option (((List Bool) × Int) ⊕ (((List Bool)))) :=
 match s with
 | (x1, x2) => iteB (decide (x2 < (p1.length : Int))) ((ixV p1 x2).bind fun x4 => (ixV x1 x2).bind fun x5 => (ixV x1 x2).bind fun x6 => some (.inl ((x1.set x2.toNat (x5 || x4)), IntKind.i64.wrap (x2 + 1)))) (some (.inr x1))
def M_groups_join_sOV (p0 : List Bool) (p1 : List Bool) : Option ((List Bool)) :=
 (loop (M_groups_join_sOV_L0 p1) (p0, (0 : Int))).bind fun x3 => some x3
theorem ok_groups_join_sOV {p0 p1 rp0 u0} (hm : M_groups_join_sOV p0 p1 = some u0) (A : HH g h [.lst rp0 4 (lst eB p0)] F) (hc : canL (cfg.still 60) av = [rowV rp0 p0.length, vs eB p1] := by kernel_rfl) : ∃ v h', Runs cfg g h 60 av v h' ∧ ∃ (hl'0 : u0.length = p0.length), v = .tuple [] ∧ HH g h' [.lst rp0 4 (lst eB u0)] F := by
 refine rq1 24 [] hc ?_
 clear hc
 unfold M_groups_join_sOV at hm
 refine bg 24 [(0, rowV rp0 p0.length), (1, vs eB p1)] fun fr H => ?_
 refine aw_sr 3 (at_L 3 [(6, vs eB p1), (7, Ai (p1.length : Int)), (8, Ai 0)] H fun fr H => aw_block (id := 0) (by kernel_rfl) ?_)
 obtain ⟨o1, ho, hm⟩ := bind_some hm
 refine aw_mono (Q' := fun e fr' h' => (∃ x3, e = .exit 0 ∧ x3 = o1 ∧ ∃ (hl2 : x3.length = p0.length), Has fr' 24 [] ∧ HH g h' [.lst rp0 4 (lst eB x3)] F) ∨ False) ?_ ?_
 ·refine aw_loop (by kernel_rfl) (fun (s : (List Bool) × Int) fr' h' => ∃ x1 x2, (x1, x2) = s ∧ ∃ (hl1 : x1.length = p0.length), Has fr' 24 [(0, rowV rp0 x1.length), (6, vs eB p1), (7, Ai (p1.length : Int)), (8, Ai x2)] ∧ HH g h' [.lst rp0 4 (lst eB x1)] F) ho ⟨_, _, rfl, rfl, H.ls, A⟩ ?_
  clear ho hm H A
  intro s q fr h1 hI hm
  obtain ⟨x1, x2, rfl, hl1, H, A⟩ := hI
  unfold M_groups_join_sOV_L0 at hm
  refine aw_sr 1 (at_L 1 [(9, .bool (decide (x2 < (p1.length : Int))))] H fun fr H => aw_sq (aw_if 9 H hm (fun hb hm H => ?_) fun hb hm H => ?_))
  ·refine aw_kn id (aw_sq (aw_block (id := 1) (by kernel_rfl) ?_))
   refine aw_sr 5 ?_
   obtain ⟨x4, hx, hm⟩ := bind_some hm
   refine at_g1 1 [(10, Ai x2)] 11 (.vptr [.bool x4]) h1 H (fun fr => .of (s_ixV (e := eB) (x := x4) encB (by decide) (by kernel_rfl) hx)) fun fr t H => ?_
   refine at_l1 12 (.bool x4) h1 H (fun fr => .of (s_lv (by kernel_rfl))) fun fr t H => ?_
   refine at_R 2 [(4, Ai x2), (5, .bool x4)] 11 H fun fr H => ?_
   obtain ⟨x5, hx, hm⟩ := bind_some hm
   obtain ⟨i1, er1, _, hx, hq1⟩ := HH.ixO encB (by decide) A 0 (xs := x1) rfl hx
   refine at_g1 4 [(13, rowV rp0 x1.length), (14, Ai x2)] 17 (.ptr (some (i1, x2.toNat * 1))) h1 H (fun fr => .of (s_ixL (s := rowS rp0 x1.length) (by kernel_rfl) hx)) fun fr t H => ?_
   refine at_l1 18 _ _ H (fun fr => .of (s_ld (by kernel_rfl) (row_ld1 encB (HH.row A 0 rfl er1) hq1 (o := 0) rfl))) fun fr t H => ?_
   refine at_sl 1 [(19, .bool x5)] H fun fr H => at_cl 2 (fun fr' h' => h1 = h' ∧ Has fr' 24 [(0, rowV rp0 x1.length), (6, vs eB p1), (7, Ai (p1.length : Int)), (8, Ai x2), (13, rowV rp0 x1.length), (14, Ai x2), (21, .bool (x5 || x4))]) ?_ ?_
   ·cases hb : (x5 : Bool) with
    | true =>
     replace H := H.kn 19 hb
     exact at_sl 2 [(21, .bool true)] H fun fr H => at_zb H hb
    | false =>
     replace H := H.kn 19 hb
     exact at_sl 2 [(21, .bool x4)] H fun fr H => at_zb H hb
   intro t fr h' hK
   obtain ⟨e, H⟩ := hK
   subst e
   obtain ⟨x6, hx, hm⟩ := bind_some hm
   obtain ⟨i2, er2, _, hx, hq2⟩ := HH.ixO encB (by decide) A 0 (xs := x1) rfl hx
   refine at_l1 22 (.ptr (some (i2, x2.toNat * 1))) h1 H (fun fr => .of (s_ixL (s := rowS rp0 x1.length) (by kernel_rfl) hx)) fun fr t H => ?_
   obtain ⟨h2, hx, A1⟩ := HH.stO encB A 0 rfl er2 hq2 (y := x5 || x4) (o := 0) (new := [.bool (x5 || x4)]) rfl rfl (Nat.le_of_ble_eq_true rfl)
   have hl3 : (x1.set x2.toNat (x5 || x4)).length = p0.length := List.length_set.trans hl1
   have el : rowV rp0 x1.length = rowV rp0 (x1.set x2.toNat (x5 || x4)).length := congrArg _ List.length_set.symm
   try rw [el] at H
   try rw [el] at A1
   replace A : HH g h2 [.lst rp0 4 (lst eB (x1.set x2.toNat (x5 || x4)))] F := A1
   refine at_ls hx H fun fr t H => ?_
   refine at_nr 2 id (at_se 2 [(0, rowV rp0 ((x1.set x2.toNat (x5 || x4)).length)), (6, vs eB p1), (7, Ai (p1.length : Int)), (8, Ai (IntKind.i64.wrap (x2 + 1)))] H fun fr H => at_nil ?_)
   exact nx hm ⟨_, _, rfl, hl3, H.ls, A⟩
  refine aw_exit (i := 0) (by kernel_rfl) ?_
  exact nr hm fun e => .inl ⟨_, rfl, e, hl1, H.ls, A⟩
 clear ho
 clear A
 intro e fr h3 hQ
 rcases hQ with ⟨x3, rfl, rfl, hl2, H, A⟩ | hF
 ·obtain rfl := injA hm
  refine ⟨.inr rfl, .tuple [], rH H, ?_⟩
  exact ⟨hl2, rfl, A⟩
 exact hF.elim
def M_groups_after (p0 : S_tree_Node) (p1 : Int) : Option (Int) :=
 iteB (decide (p0.Max < 0)) (some (mn (IntKind.i64.wrap (p1 + 1)) p0.Min)) (some (IntKind.i64.wrap (p1 + 1)))
theorem ok_groups_after {p0 p1 q0} (hm : M_groups_after p0 p1 = some q0) (A : HH g h [] F) (hc : canL (cfg.still 64) av = [.agg (e_S_tree_Node p0), Ai p1] := by kernel_rfl) : ∃ v h', Runs cfg g h 64 av v h' ∧ v = Ai q0 ∧ HH g h' [] F := by
 refine rq1 15 [.tmp 4] hc ?_
 clear hc
 unfold M_groups_after at hm
 refine bg 15 [(0, .agg (e_S_tree_Node p0)), (1, Ai p1)] fun fr H => ?_
 refine aw_sr 2 ?_
 obtain ⟨h1, e1, A⟩ := A.pu (.cells none 2 (e_S_tree_Node p0))
 refine at_ln 2 (.ptr (some (h.size, 0))) e1 H fun fr t H => ?_
 refine at_L 1 [] H fun fr H => aw_sq (aw_sr 3 (at_gl 1 [] 6 0 4 A H fun fr t H => ?_))
 refine at_L 1 [(7, .bool (decide (p0.Max < 0)))] H fun fr H => aw_if 7 H hm (fun hb hm H => ?_) fun hb hm H => ?_
 ·refine aw_sr 6 (at_gl 3 [(9, Ai (IntKind.i64.wrap (p1 + 1)))] 11 0 3 A H fun fr t H => ?_)
  refine at_L 2 [(4, Ai (mn (IntKind.i64.wrap (p1 + 1)) p0.Min))] H fun fr H => aw_rt ?_
  obtain rfl := injA hm
  refine ⟨.inl rfl, Ai (mn (IntKind.i64.wrap (p1 + 1)) p0.Min), rH H, ?_⟩
  replace A := A.d0
  exact ⟨rfl, A⟩
 refine aw_ks 3 id (at_L 3 [(4, Ai (IntKind.i64.wrap (p1 + 1)))] H fun fr H => aw_rt ?_)
 obtain rfl := injA hm
 refine ⟨.inl rfl, Ai (IntKind.i64.wrap (p1 + 1)), rH H, ?_⟩
 replace A := A.d0
 exact ⟨rfl, A⟩
def M_groups_Spans_1_sIIIPO (p0 : Int) (p1 : Int) (p2 : Int) (p3 : List S_groups_Span) : Option ((List S_groups_Span)) :=
 (ixV p3 p0).bind fun x1 => some (p3.set p0.toNat (⟨p1, p2, true⟩ : S_groups_Span))
theorem ok_groups_Spans_1_sIIIPO {p0 p1 p2 p3 bp3 rp3_0 u1} (hm : M_groups_Spans_1_sIIIPO p0 p1 p2 p3 = some u1) (A : HH g h [.obj bp3 (.cells none 2 [rowV rp3_0 p3.length]), .lst rp3_0 32 (lst e_S_groups_Span p3)] F) (hc : canL (cfg.still 43) av = [Ai p0, Ai p1, Ai p2, .ptr (some (bp3, 0))] := by kernel_rfl) : ∃ v h', Runs cfg g h 43 av v h' ∧ ∃ (hl'1 : u1.length = p3.length), v = .tuple [] ∧ HH g h' [.obj bp3 (.cells none 2 [rowV rp3_0 u1.length]), .lst rp3_0 32 (lst e_S_groups_Span u1)] F := by
 refine rq1 13 [] hc ?_
 clear hc
 unfold M_groups_Spans_1_sIIIPO at hm
 refine bg 13 [(0, Ai p0), (1, Ai p1), (2, Ai p2), (3, .ptr (some (bp3, 0)))] fun fr H => ?_
 refine aw_rg 7 (at_ll 7 0 0 A H fun fr t H => ?_)
 obtain ⟨x1, hx, hm⟩ := bind_some hm
 obtain ⟨i1, er1, _, hx, hq1⟩ := HH.ixO enc_S_groups_Span (by decide) A 1 (xs := p3) rfl hx
 refine at_g1 4 [(11, .agg [Ai p1, Ai p2, .bool true])] 12 (.ptr (some (i1, p0.toNat * 3))) h H (fun fr => .of (s_ixL (s := rowS rp3_0 p3.length) (by kernel_rfl) hx)) fun fr t H => ?_
 obtain ⟨h1, hx, A1⟩ := HH.stO enc_S_groups_Span A 1 rfl er1 hq1 (y := (⟨p1, p2, true⟩ : S_groups_Span)) (o := 0) (new := [Ai p1, Ai p2, .bool true]) rfl rfl (Nat.le_of_ble_eq_true rfl)
 have hl1 : (p3.set p0.toNat (⟨p1, p2, true⟩ : S_groups_Span)).length = p3.length := List.length_set
 have el : rowV rp3_0 p3.length = rowV rp3_0 (p3.set p0.toNat (⟨p1, p2, true⟩ : S_groups_Span)).length := congrArg _ List.length_set.symm
 try rw [el] at H
 try rw [el] at A1
 replace A : HH g h1 [.obj bp3 (.cells none 2 [rowV rp3_0 ((p3.set p0.toNat (⟨p1, p2, true⟩ : S_groups_Span)).length)]), .lst rp3_0 32 (lst e_S_groups_Span (p3.set p0.toNat (⟨p1, p2, true⟩ : S_groups_Span)))] F := A1
 refine at_lS hx H fun fr t H => ?_
 refine at_nil ?_
 obtain rfl := injA hm
 refine ⟨.inr rfl, .tuple [], rH H, ?_⟩
 exact ⟨hl1, rfl, A⟩
end
end Go.Av.L
