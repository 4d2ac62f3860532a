/-
 Models of functions, and that the abstract run tells them. Written by lift2.py.
-/
import Derived.Test.YtkdlmohhklimjaaGreatDoorKCfg
import Derived.Test.YtkdlmohhklimjaaGreatDoorK2
import Derived.Test.YtkdlmohhklimjaaGreatDoorK4
import Derived.Test.YtkdlmohhklimjaaGreatDoorK5
namespace Go.Av.L
open Go.Av Go.Lib
set_option maxRecDepth 10000
set_option linter.unusedVariables false
set_option linter.unusedSimpArgs false
variable {g : Gd} {h : AHeap} {F : List Ck} {av : List AVal}
noncomputable def M_rewrite_Rule_Apply_L0 (p0 : S_rewrite_Rule) (p1 : List UInt8) (s : (List UInt8) × Int × Int × Int × Int) : Option (((List UInt8) × Int × Int × Int × Int) ⊕ (((List UInt8) × Int))) :=
 match s with
 | (x1, x2, x3, x4, x5) => (M_dfa_Dfa_Find p0.d_ p1 x5).bind fun (x8, x9, x10) => iteB (!x10) (some (.inr (x1, x2))) (iteB ((x8 == x9) && (x8 == x3)) (iteB (decide ((IntKind.i64.wrap (x8 + (1 : Int))) > (p1.length : Int))) (some (.inr (x1, x2))) (some (.inl (x1, x2, x3, x4, IntKind.i64.wrap (x8 + (1 : Int)))))) ((M_rewrite_Rule_chosen p0 (IntKind.i64.wrap (x4 + (1 : Int)))).bind fun x11 => iteB x11 ((subS p1 (some x2) (some x8)).bind fun x12 => need (okN 1 (x1.length + x12.length)) <| (M_rewrite_Rule_stand p0 p1 x8 x9).bind fun x13 => need (okN 1 ((x1 ++ x12).length + x13.length)) <| iteB (!p0.x_.Global) (some (.inr (((x1 ++ x12) ++ x13), x9))) (some (.inl (((x1 ++ x12) ++ x13), x9, x9, IntKind.i64.wrap (x4 + (1 : Int)), x9)))) (some (.inl (x1, x2, x9, IntKind.i64.wrap (x4 + (1 : Int)), x9)))))
noncomputable def M_rewrite_Rule_Apply (p0 : S_rewrite_Rule) (p1 : List UInt8) : Option ((List UInt8)) :=
 (loop (M_rewrite_Rule_Apply_L0 p0 p1) (([] : List UInt8), (0 : Int), (-1 : Int), (0 : Int), (0 : Int))).bind fun (x6, x7) => (subS p1 (some x7) none).bind fun x14 => need (okN 1 (x6.length + x14.length)) <| some (x6 ++ x14)
theorem ok_rewrite_Rule_Apply {p0 p1 q0} (hm : M_rewrite_Rule_Apply p0 p1 = some q0) (A : HH g h [] F) (hc : canL (cfg.still 21) av = [.vptr (e_S_rewrite_Rule p0), .str p1] := by kernel_rfl) : ∃ v h', Runs cfg g h 21 av v h' ∧ v = .str q0 ∧ HH g h' [] F := by
 refine rq1 73 [.tmp 4] hc ?_
 clear hc
 unfold M_rewrite_Rule_Apply at hm
 refine bg 73 [(0, .vptr (e_S_rewrite_Rule p0)), (1, .str p1)] fun fr H => ?_
 refine aw_sr 1 ?_
 refine at_el 1 [] H (fun _ => id) fun fr H => ?_
 refine aw_scope (by kernel_rfl) ?_
 refine aw_sr 1 ?_
 refine at_es 1 [(5, .slice none 0)] 3 H (fun _ => id) fun fr H => ?_
 refine at_es 3 [(6, .int .i64 0), (7, .int .i64 (-1)), (8, .int .i64 0)] 1 H (fun _ => id) fun fr H => ?_
 refine at_el 1 [(9, .int .i64 0)] H (fun _ => id) fun fr H => ?_
 refine aw_sq ?_
 refine aw_label (by kernel_rfl) ?_
 show AW _ _ _ _ _ _ _
 refine aw_sq ?_
 refine aw_block (id := 0) (by kernel_rfl) ?_
 replace A : HH g h [.lst none 5 (lst eY ([] : List UInt8))] F := A.nilL 5
 obtain ⟨o1, ho, hm⟩ := bind_some hm
 refine aw_mono (Q' := fun e fr' h' => (∃ x6 x7, e = .exit 0 ∧ (x6, x7) = o1 ∧ ∃ r2, Has fr' 73 [(1, .str p1), (5, rowV r2 x6.length), (6, .int .i64 x7)] ∧ HH g h' [.lst r2 5 (lst eY x6)] F) ∨ False) ?_ ?_
 ·refine aw_loop (by kernel_rfl) (fun (s : (List UInt8) × Int × Int × Int × Int) fr' h' => ∃ x1 x2 x3 x4 x5, (x1, x2, x3, x4, x5) = s ∧ ∃ r1, Has fr' 73 [(0, .vptr (e_S_rewrite_Rule p0)), (1, .str p1), (5, rowV r1 x1.length), (6, .int .i64 x2), (7, .int .i64 x3), (8, .int .i64 x4), (9, .int .i64 x5)] ∧ HH g h' [.lst r1 5 (lst eY x1)] F) ho ⟨_, _, _, _, _, rfl, none, H.ls, A⟩ ?_
  clear ho hm H A
  intro s q fr h1 hI hm
  obtain ⟨x1, x2, x3, x4, x5, rfl, r1, H, A⟩ := hI
  unfold M_rewrite_Rule_Apply_L0 at hm
  refine aw_block (id := 1) (by kernel_rfl) ?_
  refine aw_sr 14 ?_
  refine at_g1 3 [] 17 (.vptr (big 256 (AVal.int .u8) p0.d_.column_ ++ [.int .i64 p0.d_.columns_, vs (eI .i32) p0.d_.next_, vs eB p0.d_.ends_, vs eB p0.d_.last_, .int .i32 p0.d_.first_, .int .i32 p0.d_.later_, .bool p0.d_.empty_])) h1 H (fun fr => .of (s_lv (by kernel_rfl))) fun fr t H => ?_
  obtain ⟨⟨x8, x9, x10⟩, hx, hm⟩ := bind_some hm
  obtain ⟨v1, h2, hr, rfl, A1⟩ := ok_dfa_Dfa_Find (av := [.vptr (big 256 (AVal.int .u8) p0.d_.column_ ++ [.int .i64 p0.d_.columns_, vs (eI .i32) p0.d_.next_, vs eB p0.d_.ends_, vs eB p0.d_.last_, .int .i32 p0.d_.first_, .int .i32 p0.d_.later_, .bool p0.d_.empty_]), .str p1, .int .i64 x5]) hx (A.cut 0)
  replace A := A.g00 A1
  refine at_gc1 2 [] 20 hr H fun fr t H => ?_
  refine at_el 7 [(10, .int .i64 x8), (11, .int .i64 x9), (12, .bool x10)] H (fun _ => id) fun fr H => ?_
  refine aw_sq ?_
  refine aw_sr 2 ?_
  refine at_el 2 [(25, .bool (!x10))] H (fun _ => id) fun fr H => ?_
  refine aw_if 25 H hm (fun hb hm H => ?_) fun hb hm H => ?_
  ·refine aw_exit (i := 0) (by kernel_rfl) ?_
   exact nr hm fun e => .inl ⟨_, _, rfl, e, _, H.ls, A⟩
  refine aw_kn id ?_
  refine aw_sq ?_
  refine aw_sr 8 ?_
  refine at_sl 4 [(29, .bool (x8 == x9))] H fun fr H => ?_
  refine at_cl 4 (fun fr' h' => h2 = h' ∧ Has fr' 73 [(0, .vptr (e_S_rewrite_Rule p0)), (1, .str p1), (5, rowV r1 x1.length), (6, .int .i64 x2), (7, .int .i64 x3), (8, .int .i64 x4), (10, .int .i64 x8), (11, .int .i64 x9), (33, .bool ((x8 == x9) && (x8 == x3)))]) ?_ ?_
  ·cases hb : (x8 == x9 : Bool) with
   | true =>
    replace H := H.kn 29 hb
    refine at_sl 4 [(33, .bool (x8 == x3))] H fun fr H => ?_
    exact at_zb H hb
   | false =>
    replace H := H.kn 29 hb
    refine at_sl 4 [(33, .bool false)] H fun fr H => ?_
    exact at_zb H hb
  intro t fr h' hK
  obtain ⟨e, H⟩ := hK
  subst e
  refine at_nl id ?_
  refine aw_if 33 H hm (fun hb hm H => ?_) fun hb hm H => ?_
  ·refine aw_sr 3 ?_
   refine at_el 3 [(9, .int .i64 (IntKind.i64.wrap (x8 + (1 : Int))))] H (fun _ => id) fun fr H => ?_
   refine aw_sq ?_
   refine aw_sr 4 ?_
   refine at_el 4 [(39, .bool (decide ((IntKind.i64.wrap (x8 + (1 : Int))) > (p1.length : Int))))] H (fun _ => id) fun fr H => ?_
   refine aw_if 39 H hm (fun hb hm H => ?_) fun hb hm H => ?_
   ·refine aw_exit (i := 0) (by kernel_rfl) ?_
    exact nr hm fun e => .inl ⟨_, _, rfl, e, _, H.ls, A⟩
   refine aw_kn id ?_
   refine aw_exit (i := 1) (by kernel_rfl) ?_
   exact nx hm ⟨_, _, _, _, _, rfl, _, H.ls, A⟩
  refine aw_ks 3 id ?_
  refine at_se 3 [(0, .vptr (e_S_rewrite_Rule p0)), (1, .str p1), (5, rowV r1 x1.length), (6, .int .i64 x2), (8, .int .i64 (IntKind.i64.wrap (x4 + (1 : Int)))), (10, .int .i64 x8), (11, .int .i64 x9)] H fun fr H => ?_
  refine at_ns 4 id ?_
  refine at_es 4 [(7, .int .i64 x9), (9, .int .i64 x9)] 3 H (fun _ => id) fun fr H => ?_
  obtain ⟨x11, hx, hm⟩ := bind_some hm
  obtain ⟨v1, h3, hr, rfl, A1⟩ := ok_rewrite_Rule_chosen (av := [.vptr (e_S_rewrite_Rule p0), .int .i64 (IntKind.i64.wrap (x4 + (1 : Int)))]) hx (A.cut 0)
  replace A := A.g00 A1
  refine at_gc1 2 [] 46 hr H fun fr t H => ?_
  refine at_nl id ?_
  refine aw_if 46 H hm (fun hb hm H => ?_) fun hb hm H => ?_
  ·refine aw_sr 7 ?_
   obtain ⟨x12, hx, hm⟩ := bind_some hm
   refine at_g1 4 [(47, rowV r1 x1.length)] 51 (.str x12) h3 H (fun fr => .of (s_subS (k := .i64) (k' := .i64) (lo := (some x2)) (hi := (some x8)) (by kernel_rfl) hx)) fun fr t H => ?_
   obtain ⟨hb, hm⟩ := need_some hm
   obtain ⟨r3, h4, hx, A1⟩ := HH.appO encY (by decide) A 0 (xs := x1) (ys := x12) rfl (firstS _ x12) (encY.canL _) rfl hb
   replace A : HH g h4 [.lst r3 5 (lst eY (x1 ++ x12))] F := A1
   refine at_l1 52 _ _ H (fun fr => .of (s_app (s := rowS r1 x1.length) (by kernel_rfl) hx)) fun fr t H => ?_
   refine at_se 1 [(0, .vptr (e_S_rewrite_Rule p0)), (1, .str p1), (5, rowV r3 ((x1 ++ x12).length)), (7, .int .i64 x9), (8, .int .i64 (IntKind.i64.wrap (x4 + (1 : Int)))), (9, .int .i64 x9), (10, .int .i64 x8), (11, .int .i64 x9)] H fun fr H => ?_
   refine at_ns 8 id ?_
   obtain ⟨x13, hx, hm⟩ := bind_some hm
   obtain ⟨v1, h5, hr, rfl, A1⟩ := ok_rewrite_Rule_stand (av := [.vptr (e_S_rewrite_Rule p0), .str p1, .int .i64 x8, .int .i64 x9]) hx (A.cut 0)
   replace A := A.g00 A1
   refine at_gc1 5 [(53, rowV r3 ((x1 ++ x12).length))] 58 hr H fun fr t H => ?_
   obtain ⟨hb, hm⟩ := need_some hm
   obtain ⟨r4, h6, hx, A1⟩ := HH.appO encY (by decide) A 0 (xs := (x1 ++ x12)) (ys := x13) rfl (firstS _ x13) (encY.canL _) rfl hb
   replace A : HH g h6 [.lst r4 5 (lst eY ((x1 ++ x12) ++ x13))] F := A1
   refine at_l1 59 _ _ H (fun fr => .of (s_app (s := rowS r3 ((x1 ++ x12).length)) (by kernel_rfl) hx)) fun fr t H => ?_
   refine at_se 1 [(0, .vptr (e_S_rewrite_Rule p0)), (1, .str p1), (5, rowV r4 (((x1 ++ x12) ++ x13).length)), (7, .int .i64 x9), (8, .int .i64 (IntKind.i64.wrap (x4 + (1 : Int)))), (9, .int .i64 x9), (11, .int .i64 x9)] H fun fr H => ?_
   refine at_ns 2 id ?_
   refine at_es 2 [(6, .int .i64 x9)] 6 H (fun _ => id) fun fr H => ?_
   refine at_g1 4 [] 65 (.bool p0.x_.Global) h6 H (fun fr => .of (s_lv (by kernel_rfl))) fun fr t H => ?_
   refine at_el 1 [(66, .bool (!p0.x_.Global))] H (fun _ => id) fun fr H => ?_
   refine aw_if 66 H hm (fun hb hm H => ?_) fun hb hm H => ?_
   ·refine aw_exit (i := 0) (by kernel_rfl) ?_
    exact nr hm fun e => .inl ⟨_, _, rfl, e, _, H.ls, A⟩
   refine aw_sk ?_
   exact nx hm ⟨_, _, _, _, _, rfl, _, H.ls, A⟩
  refine aw_sk ?_
  exact nx hm ⟨_, _, _, _, _, rfl, _, H.ls, A⟩
 clear ho
 clear A
 intro e fr h7 hQ
 rcases hQ with ⟨x6, x7, rfl, rfl, r2, H, A⟩ | hF
 ·show AW _ _ _ _ _ _ _
  refine aw_sr 7 ?_
  obtain ⟨x14, hx, hm⟩ := bind_some hm
  refine at_g1 3 [(67, rowV r2 x6.length)] 70 (.str x14) h7 H (fun fr => .of (s_subS (k := .i64) (k' := .i64) (lo := (some x7)) (hi := none) (by kernel_rfl) hx)) fun fr t H => ?_
  obtain ⟨hb, hm⟩ := need_some hm
  obtain ⟨r5, h8, hx, A1⟩ := HH.appO encY (by decide) A 0 (xs := x6) (ys := x14) rfl (firstS _ x14) (encY.canL _) rfl hb
  replace A : HH g h8 [.lst r5 5 (lst eY (x6 ++ x14))] F := A1
  refine at_l1 71 _ _ H (fun fr => .of (s_app (s := rowS r2 x6.length) (by kernel_rfl) hx)) fun fr t H => ?_
  refine at_l1 72 (.str (x6 ++ x14)) h8 H (fun fr => .of (s_byO (xs := (x6 ++ x14)) A 0 rfl (by kernel_rfl))) fun fr t H => ?_
  refine at_el 1 [(4, .str (x6 ++ x14))] H (fun _ => id) fun fr H => ?_
  refine aw_rt ?_
  obtain rfl := injA hm
  refine ⟨.inl rfl, .str (x6 ++ x14), rH H, ?_⟩
  replace A := A.d0
  exact ⟨rfl, A⟩
 exact hF.elim
noncomputable def M_scope_Rules_apply_sPOSF_L0 (p0 : S_scope_Rules) (s : (List UInt8) × Int) : Option (((List UInt8) × Int) ⊕ (((List UInt8)) ⊕ ((List UInt8) × Int))) :=
 match s with
 | (x1, x2) => iteB (decide (x2 < (p0.l_.length : Int))) (((ixV p0.l_ x2).bind fun x9 => (M_rewrite_Rule_Expr x9).bind fun x10 => (M_scope_names x10).bind fun x11 => iteB (!x11) (some (.inl x1)) ((M_rewrite_Rule_Apply x9 x1).bind fun x12 => iteB (decide ((x12.length : Int) > p0.name_)) (some (.inr (([] : List UInt8), (7 : Int)))) (some (.inl x12))) : Option (((List UInt8)) ⊕ ((List UInt8) × Int))).bind fun o2 => (match o2 with | .inl x6 => some (.inl (x6, IntKind.i64.wrap (x2 + (1 : Int)))) | .inr (x7, x8) => some (.inr (.inr (x7, x8))))) (some (.inr (.inl x1)))
noncomputable def M_scope_Rules_apply_sPOSF (p0 : S_scope_Rules) (p1 : List UInt8) : Option ((List UInt8) × Int) :=
 iteB (decide ((p1.length : Int) > p0.name_)) (some (([] : List UInt8), (7 : Int))) ((loop (M_scope_Rules_apply_sPOSF_L0 p0) (p1, (0 : Int))).bind fun o1 => (match o1 with | .inl x3 => some (x3, (0 : Int)) | .inr (x4, x5) => some (x4, x5)))
theorem ok_scope_Rules_apply_sPOSF {p0 p1 bp0 rp0_0 q0 q1} (hm : M_scope_Rules_apply_sPOSF p0 p1 = some (q0, q1)) (A : HH g h [.obj bp0 (.cells none 2 [rowV rp0_0 p0.l_.length, .int .i64 p0.name_]), .lst rp0_0 58 (lst (eP e_S_rewrite_Rule) p0.l_)] F) (hc : canL (cfg.still 30) av = [.ptr (some (bp0, 0)), .str p1, .func (.func 52) [] []] := by kernel_rfl) : ∃ v h', Runs cfg g h 30 av v h' ∧ v = .tuple [.str q0, .int .i64 q1] ∧ HH g h' [.obj bp0 (.cells none 2 [rowV rp0_0 p0.l_.length, .int .i64 p0.name_]), .lst rp0_0 58 (lst (eP e_S_rewrite_Rule) p0.l_)] F := by
 refine rq1 43 [.tmp 6, .tmp 7] hc ?_
 clear hc
 unfold M_scope_Rules_apply_sPOSF at hm
 refine bg 43 [(0, .ptr (some (bp0, 0))), (1, .str p1), (2, .func (.func 52) [] [])] fun fr H => ?_
 refine aw_sr 2 ?_
 refine at_el 2 [] H (fun _ => id) fun fr H => ?_
 refine aw_sq ?_
 refine aw_sr 7 ?_
 refine at_gl 5 [(11, .int .i64 (p1.length : Int))] 15 0 1 A H fun fr t H => ?_
 refine at_el 1 [(16, .bool (decide ((p1.length : Int) > p0.name_)))] H (fun _ => id) fun fr H => ?_
 refine aw_if 16 H hm (fun hb hm H => ?_) fun hb hm H => ?_
 ·refine aw_sr 2 ?_
  refine at_el 2 [(6, .str ([] : List UInt8)), (7, .int .i64 7)] H (fun _ => id) fun fr H => ?_
  refine aw_rt ?_
  obtain ⟨rfl, rfl⟩ := injB hm
  exact ⟨.inl rfl, _, rH H, rfl, A⟩
 refine aw_kn id ?_
 refine aw_sq ?_
 refine aw_sr 6 ?_
 refine at_gl 3 [] 20 0 0 A H fun fr t H => ?_
 refine at_el 2 [(21, .int .i64 (p0.l_.length : Int)), (22, .int .i64 0)] H (fun _ => id) fun fr H => ?_
 refine aw_block (id := 0) (by kernel_rfl) ?_
 obtain ⟨o1, ho, hm⟩ := bind_some hm
 refine aw_mono (Q' := fun e fr' h' => (∃ x3, e = .exit 0 ∧ .inl x3 = o1 ∧ Has fr' 43 [(1, .str x3)] ∧ HH g h' [.obj bp0 (.cells none 2 [rowV rp0_0 p0.l_.length, .int .i64 p0.name_]), .lst rp0_0 58 (lst (eP e_S_rewrite_Rule) p0.l_)] F) ∨ (∃ x4 x5, e = .ret ∧ .inr (x4, x5) = o1 ∧ Has fr' 43 [(6, .str x4), (7, .int .i64 x5)] ∧ HH g h' [.obj bp0 (.cells none 2 [rowV rp0_0 p0.l_.length, .int .i64 p0.name_]), .lst rp0_0 58 (lst (eP e_S_rewrite_Rule) p0.l_)] F) ∨ False) ?_ ?_
 ·refine aw_loop (by kernel_rfl) (fun (s : (List UInt8) × Int) fr' h' => ∃ x1 x2, (x1, x2) = s ∧ Has fr' 43 [(0, .ptr (some (bp0, 0))), (1, .str x1), (2, .func (.func 52) [] []), (20, rowV rp0_0 p0.l_.length), (21, .int .i64 (p0.l_.length : Int)), (22, .int .i64 x2)] ∧ HH g h' [.obj bp0 (.cells none 2 [rowV rp0_0 p0.l_.length, .int .i64 p0.name_]), .lst rp0_0 58 (lst (eP e_S_rewrite_Rule) p0.l_)] F) ho ⟨_, _, rfl, H.ls, A⟩ ?_
  clear ho hm H A
  intro s q fr h1 hI hm
  obtain ⟨x1, x2, rfl, H, A⟩ := hI
  unfold M_scope_Rules_apply_sPOSF_L0 at hm
  refine aw_sr 1 ?_
  refine at_el 1 [(23, .bool (decide (x2 < (p0.l_.length : Int))))] H (fun _ => id) fun fr H => ?_
  refine aw_sq ?_
  refine aw_if 23 H hm (fun hb hm H => ?_) fun hb hm H => ?_
  ·refine aw_kn id ?_
   refine aw_sq ?_
   obtain ⟨o2, ho, hm⟩ := bind_some hm
   refine aw_mono (Q' := fun e fr' h' => (∃ x6, e = .normal ∧ .inl x6 = o2 ∧ Has fr' 43 [(0, .ptr (some (bp0, 0))), (1, .str x6), (2, .func (.func 52) [] []), (20, rowV rp0_0 p0.l_.length), (21, .int .i64 (p0.l_.length : Int)), (22, .int .i64 x2)] ∧ HH g h' [.obj bp0 (.cells none 2 [rowV rp0_0 p0.l_.length, .int .i64 p0.name_]), .lst rp0_0 58 (lst (eP e_S_rewrite_Rule) p0.l_)] F) ∨ (∃ x7 x8, e = .ret ∧ .inr (x7, x8) = o2 ∧ Has fr' 43 [(6, .str x7), (7, .int .i64 x8)] ∧ HH g h' [.obj bp0 (.cells none 2 [rowV rp0_0 p0.l_.length, .int .i64 p0.name_]), .lst rp0_0 58 (lst (eP e_S_rewrite_Rule) p0.l_)] F) ∨ False) ?_ ?_
   ·replace hm := ho
    clear ho
    refine aw_block (id := 1) (by kernel_rfl) ?_
    refine aw_sr 3 ?_
    obtain ⟨x9, hx, hm⟩ := bind_some hm
    obtain ⟨i1, er1, _, hx, hq1⟩ := HH.ixO (encP _) (by decide) A 1 (xs := p0.l_) rfl hx
    refine at_l1 24 (.ptr (some (i1, x2.toNat * 1))) h1 H (fun fr => .of (s_ixL (s := rowS rp0_0 p0.l_.length) (by kernel_rfl) hx)) fun fr t H => ?_
    refine at_l1 25 _ _ H (fun fr => .of (s_ld (by kernel_rfl) (row_ld1 (encP _) (HH.row A 1 rfl er1) hq1 (o := 0) rfl))) fun fr t H => ?_
    refine at_el 1 [(9, .vptr (e_S_rewrite_Rule x9))] H (fun _ => id) fun fr H => ?_
    refine aw_sq ?_
    refine aw_sr 5 ?_
    obtain ⟨x10, hx, hm⟩ := bind_some hm
    obtain ⟨v1, h2, hr, rfl, A1⟩ := ok_rewrite_Rule_Expr (av := [.vptr (e_S_rewrite_Rule x9)]) hx (A.cut 0)
    replace A := A.g00 A1
    refine at_gc1 2 [(26, .func (.func 52) [] [])] 28 hr H fun fr t H => ?_
    obtain ⟨x11, hx, hm⟩ := bind_some hm
    obtain ⟨v1, h3, hr, rfl, A1⟩ := ok_scope_names (av := [.agg (e_S_rewrite_Expr x10)]) hx (A.cut 0)
    replace A := A.g00 A1
    refine at_lc1 29 hr H fun fr t H => ?_
    refine at_el 1 [(30, .bool (!x11))] H (fun _ => id) fun fr H => ?_
    refine aw_if 30 H hm (fun hb hm H => ?_) fun hb hm H => ?_
    ·refine aw_exit (i := 1) (by kernel_rfl) ?_
     exact .inl ⟨_, rfl, injA hm, H.ls, A⟩
    refine aw_ks 4 id ?_
    obtain ⟨x12, hx, hm⟩ := bind_some hm
    obtain ⟨v1, h4, hr, rfl, A1⟩ := ok_rewrite_Rule_Apply (av := [.vptr (e_S_rewrite_Rule x9), .str x1]) hx (A.cut 0)
    replace A := A.g00 A1
    refine at_gc1 2 [] 33 hr H fun fr t H => ?_
    refine at_se 1 [(0, .ptr (some (bp0, 0))), (1, .str x12), (2, .func (.func 52) [] []), (20, rowV rp0_0 p0.l_.length), (21, .int .i64 (p0.l_.length : Int)), (22, .int .i64 x2)] H fun fr H => ?_
    refine at_ns 7 id ?_
    refine at_gl 5 [(35, .int .i64 (x12.length : Int))] 39 0 1 A H fun fr t H => ?_
    refine at_el 1 [(40, .bool (decide ((x12.length : Int) > p0.name_)))] H (fun _ => id) fun fr H => ?_
    refine aw_if 40 H hm (fun hb hm H => ?_) fun hb hm H => ?_
    ·refine aw_sr 2 ?_
     refine at_el 2 [(6, .str ([] : List UInt8)), (7, .int .i64 7)] H (fun _ => id) fun fr H => ?_
     refine aw_rt ?_
     exact .inr (.inl ⟨_, _, rfl, injA hm, H.ls, A⟩)
    refine aw_sk ?_
    exact .inl ⟨_, rfl, injA hm, H.ls, A⟩
   clear ho
   clear A
   intro e fr h5 hQ
   rcases hQ with ⟨x6, rfl, rfl, H, A⟩ | ⟨x7, x8, rfl, rfl, H, A⟩ | hF
   ·show AW _ _ _ _ _ _ _
    refine aw_rg 2 ?_
    refine at_se 2 [(0, .ptr (some (bp0, 0))), (1, .str x6), (2, .func (.func 52) [] []), (20, rowV rp0_0 p0.l_.length), (21, .int .i64 (p0.l_.length : Int)), (22, .int .i64 (IntKind.i64.wrap (x2 + (1 : Int))))] H fun fr H => ?_
    refine at_nil ?_
    exact nx hm ⟨_, _, rfl, H.ls, A⟩
   ·exact nr hm fun e => Or.inr (.inl ⟨_, _, rfl, e, H.ls, A⟩)
   exact hF.elim
  refine aw_exit (i := 0) (by kernel_rfl) ?_
  exact nr hm fun e => .inl ⟨_, rfl, e, H.ls, A⟩
 clear ho
 clear A
 intro e fr h6 hQ
 rcases hQ with ⟨x3, rfl, rfl, H, A⟩ | ⟨x4, x5, rfl, rfl, H, A⟩ | hF
 ·show AW _ _ _ _ _ _ _
  refine aw_sr 3 ?_
  refine at_el 3 [(6, .str x3), (7, .int .i64 0)] H (fun _ => id) fun fr H => ?_
  refine aw_rt ?_
  obtain ⟨rfl, rfl⟩ := injB hm
  exact ⟨.inl rfl, _, rH H, rfl, A⟩
 ·obtain ⟨rfl, rfl⟩ := injB hm
  exact ⟨.inl rfl, _, rH H, rfl, A⟩
 exact hF.elim
noncomputable def M_scope_Rules_Name_sPOS (p0 : S_scope_Rules) (p1 : List UInt8) : Option ((List UInt8) × Int) :=
 (M_scope_Rules_apply_sPOSF p0 p1).bind fun (x1, x2) => some (x1, x2)
theorem ok_scope_Rules_Name_sPOS {p0 p1 bp0 rp0_0 q0 q1} (hm : M_scope_Rules_Name_sPOS p0 p1 = some (q0, q1)) (A : HH g h [.obj bp0 (.cells none 2 [rowV rp0_0 p0.l_.length, .int .i64 p0.name_]), .lst rp0_0 58 (lst (eP e_S_rewrite_Rule) p0.l_)] F) (hc : canL (cfg.still 27) av = [.ptr (some (bp0, 0)), .str p1] := by kernel_rfl) : ∃ v h', Runs cfg g h 27 av v h' ∧ v = .tuple [.str q0, .int .i64 q1] ∧ HH g h' [.obj bp0 (.cells none 2 [rowV rp0_0 p0.l_.length, .int .i64 p0.name_]), .lst rp0_0 58 (lst (eP e_S_rewrite_Rule) p0.l_)] F := by
 refine rq1 11 [.tmp 4, .tmp 5] hc ?_
 clear hc
 unfold M_scope_Rules_Name_sPOS at hm
 refine bg 11 [(0, .ptr (some (bp0, 0))), (1, .str p1)] fun fr H => ?_
 refine aw_sr 2 ?_
 refine at_es 2 [] 7 H (fun _ => id) fun fr H => ?_
 obtain ⟨⟨x1, x2⟩, hx, hm⟩ := bind_some hm
 obtain ⟨v1, h1, hr, rfl, A1⟩ := ok_scope_Rules_apply_sPOSF (av := [.ptr (some (bp0, 0)), .str p1, .func (.func 52) [] []]) hx (A.cut 2)
 replace A := A.g22 A1
 refine at_gc1 2 [] 8 hr H fun fr t H => ?_
 refine at_el 4 [(4, .str x1), (5, .int .i64 x2)] H (fun _ => id) fun fr H => ?_
 refine aw_rt ?_
 obtain ⟨rfl, rfl⟩ := injB hm
 exact ⟨.inl rfl, _, rH H, rfl, A⟩
noncomputable def M_scope_Rules_apply_sPOSF_2_L0 (p0 : S_scope_Rules) (s : (List UInt8) × Int) : Option (((List UInt8) × Int) ⊕ (((List UInt8)) ⊕ ((List UInt8) × Int))) :=
 match s with
 | (x1, x2) => iteB (decide (x2 < (p0.l_.length : Int))) (((ixV p0.l_ x2).bind fun x9 => (M_rewrite_Rule_Expr x9).bind fun x10 => (M_scope_soft x10).bind fun x11 => iteB (!x11) (some (.inl x1)) ((M_rewrite_Rule_Apply x9 x1).bind fun x12 => iteB (decide ((x12.length : Int) > p0.name_)) (some (.inr (([] : List UInt8), (7 : Int)))) (some (.inl x12))) : Option (((List UInt8)) ⊕ ((List UInt8) × Int))).bind fun o2 => (match o2 with | .inl x6 => some (.inl (x6, IntKind.i64.wrap (x2 + (1 : Int)))) | .inr (x7, x8) => some (.inr (.inr (x7, x8))))) (some (.inr (.inl x1)))
noncomputable def M_scope_Rules_apply_sPOSF_2 (p0 : S_scope_Rules) (p1 : List UInt8) : Option ((List UInt8) × Int) :=
 iteB (decide ((p1.length : Int) > p0.name_)) (some (([] : List UInt8), (7 : Int))) ((loop (M_scope_Rules_apply_sPOSF_2_L0 p0) (p1, (0 : Int))).bind fun o1 => (match o1 with | .inl x3 => some (x3, (0 : Int)) | .inr (x4, x5) => some (x4, x5)))
theorem ok_scope_Rules_apply_sPOSF_2 {p0 p1 bp0 rp0_0 q0 q1} (hm : M_scope_Rules_apply_sPOSF_2 p0 p1 = some (q0, q1)) (A : HH g h [.obj bp0 (.cells none 2 [rowV rp0_0 p0.l_.length, .int .i64 p0.name_]), .lst rp0_0 58 (lst (eP e_S_rewrite_Rule) p0.l_)] F) (hc : canL (cfg.still 30) av = [.ptr (some (bp0, 0)), .str p1, .func (.func 28) [] []] := by kernel_rfl) : ∃ v h', Runs cfg g h 30 av v h' ∧ v = .tuple [.str q0, .int .i64 q1] ∧ HH g h' [.obj bp0 (.cells none 2 [rowV rp0_0 p0.l_.length, .int .i64 p0.name_]), .lst rp0_0 58 (lst (eP e_S_rewrite_Rule) p0.l_)] F := by
 refine rq1 43 [.tmp 6, .tmp 7] hc ?_
 clear hc
 unfold M_scope_Rules_apply_sPOSF_2 at hm
 refine bg 43 [(0, .ptr (some (bp0, 0))), (1, .str p1), (2, .func (.func 28) [] [])] fun fr H => ?_
 refine aw_sr 2 ?_
 refine at_el 2 [] H (fun _ => id) fun fr H => ?_
 refine aw_sq ?_
 refine aw_sr 7 ?_
 refine at_gl 5 [(11, .int .i64 (p1.length : Int))] 15 0 1 A H fun fr t H => ?_
 refine at_el 1 [(16, .bool (decide ((p1.length : Int) > p0.name_)))] H (fun _ => id) fun fr H => ?_
 refine aw_if 16 H hm (fun hb hm H => ?_) fun hb hm H => ?_
 ·refine aw_sr 2 ?_
  refine at_el 2 [(6, .str ([] : List UInt8)), (7, .int .i64 7)] H (fun _ => id) fun fr H => ?_
  refine aw_rt ?_
  obtain ⟨rfl, rfl⟩ := injB hm
  exact ⟨.inl rfl, _, rH H, rfl, A⟩
 refine aw_kn id ?_
 refine aw_sq ?_
 refine aw_sr 6 ?_
 refine at_gl 3 [] 20 0 0 A H fun fr t H => ?_
 refine at_el 2 [(21, .int .i64 (p0.l_.length : Int)), (22, .int .i64 0)] H (fun _ => id) fun fr H => ?_
 refine aw_block (id := 0) (by kernel_rfl) ?_
 obtain ⟨o1, ho, hm⟩ := bind_some hm
 refine aw_mono (Q' := fun e fr' h' => (∃ x3, e = .exit 0 ∧ .inl x3 = o1 ∧ Has fr' 43 [(1, .str x3)] ∧ HH g h' [.obj bp0 (.cells none 2 [rowV rp0_0 p0.l_.length, .int .i64 p0.name_]), .lst rp0_0 58 (lst (eP e_S_rewrite_Rule) p0.l_)] F) ∨ (∃ x4 x5, e = .ret ∧ .inr (x4, x5) = o1 ∧ Has fr' 43 [(6, .str x4), (7, .int .i64 x5)] ∧ HH g h' [.obj bp0 (.cells none 2 [rowV rp0_0 p0.l_.length, .int .i64 p0.name_]), .lst rp0_0 58 (lst (eP e_S_rewrite_Rule) p0.l_)] F) ∨ False) ?_ ?_
 ·refine aw_loop (by kernel_rfl) (fun (s : (List UInt8) × Int) fr' h' => ∃ x1 x2, (x1, x2) = s ∧ Has fr' 43 [(0, .ptr (some (bp0, 0))), (1, .str x1), (2, .func (.func 28) [] []), (20, rowV rp0_0 p0.l_.length), (21, .int .i64 (p0.l_.length : Int)), (22, .int .i64 x2)] ∧ HH g h' [.obj bp0 (.cells none 2 [rowV rp0_0 p0.l_.length, .int .i64 p0.name_]), .lst rp0_0 58 (lst (eP e_S_rewrite_Rule) p0.l_)] F) ho ⟨_, _, rfl, H.ls, A⟩ ?_
  clear ho hm H A
  intro s q fr h1 hI hm
  obtain ⟨x1, x2, rfl, H, A⟩ := hI
  unfold M_scope_Rules_apply_sPOSF_2_L0 at hm
  refine aw_sr 1 ?_
  refine at_el 1 [(23, .bool (decide (x2 < (p0.l_.length : Int))))] H (fun _ => id) fun fr H => ?_
  refine aw_sq ?_
  refine aw_if 23 H hm (fun hb hm H => ?_) fun hb hm H => ?_
  ·refine aw_kn id ?_
   refine aw_sq ?_
   obtain ⟨o2, ho, hm⟩ := bind_some hm
   refine aw_mono (Q' := fun e fr' h' => (∃ x6, e = .normal ∧ .inl x6 = o2 ∧ Has fr' 43 [(0, .ptr (some (bp0, 0))), (1, .str x6), (2, .func (.func 28) [] []), (20, rowV rp0_0 p0.l_.length), (21, .int .i64 (p0.l_.length : Int)), (22, .int .i64 x2)] ∧ HH g h' [.obj bp0 (.cells none 2 [rowV rp0_0 p0.l_.length, .int .i64 p0.name_]), .lst rp0_0 58 (lst (eP e_S_rewrite_Rule) p0.l_)] F) ∨ (∃ x7 x8, e = .ret ∧ .inr (x7, x8) = o2 ∧ Has fr' 43 [(6, .str x7), (7, .int .i64 x8)] ∧ HH g h' [.obj bp0 (.cells none 2 [rowV rp0_0 p0.l_.length, .int .i64 p0.name_]), .lst rp0_0 58 (lst (eP e_S_rewrite_Rule) p0.l_)] F) ∨ False) ?_ ?_
   ·replace hm := ho
    clear ho
    refine aw_block (id := 1) (by kernel_rfl) ?_
    refine aw_sr 3 ?_
    obtain ⟨x9, hx, hm⟩ := bind_some hm
    obtain ⟨i1, er1, _, hx, hq1⟩ := HH.ixO (encP _) (by decide) A 1 (xs := p0.l_) rfl hx
    refine at_l1 24 (.ptr (some (i1, x2.toNat * 1))) h1 H (fun fr => .of (s_ixL (s := rowS rp0_0 p0.l_.length) (by kernel_rfl) hx)) fun fr t H => ?_
    refine at_l1 25 _ _ H (fun fr => .of (s_ld (by kernel_rfl) (row_ld1 (encP _) (HH.row A 1 rfl er1) hq1 (o := 0) rfl))) fun fr t H => ?_
    refine at_el 1 [(9, .vptr (e_S_rewrite_Rule x9))] H (fun _ => id) fun fr H => ?_
    refine aw_sq ?_
    refine aw_sr 5 ?_
    obtain ⟨x10, hx, hm⟩ := bind_some hm
    obtain ⟨v1, h2, hr, rfl, A1⟩ := ok_rewrite_Rule_Expr (av := [.vptr (e_S_rewrite_Rule x9)]) hx (A.cut 0)
    replace A := A.g00 A1
    refine at_gc1 2 [(26, .func (.func 28) [] [])] 28 hr H fun fr t H => ?_
    obtain ⟨x11, hx, hm⟩ := bind_some hm
    obtain ⟨v1, h3, hr, rfl, A1⟩ := ok_scope_soft (av := [.agg (e_S_rewrite_Expr x10)]) hx (A.cut 0)
    replace A := A.g00 A1
    refine at_lc1 29 hr H fun fr t H => ?_
    refine at_el 1 [(30, .bool (!x11))] H (fun _ => id) fun fr H => ?_
    refine aw_if 30 H hm (fun hb hm H => ?_) fun hb hm H => ?_
    ·refine aw_exit (i := 1) (by kernel_rfl) ?_
     exact .inl ⟨_, rfl, injA hm, H.ls, A⟩
    refine aw_ks 4 id ?_
    obtain ⟨x12, hx, hm⟩ := bind_some hm
    obtain ⟨v1, h4, hr, rfl, A1⟩ := ok_rewrite_Rule_Apply (av := [.vptr (e_S_rewrite_Rule x9), .str x1]) hx (A.cut 0)
    replace A := A.g00 A1
    refine at_gc1 2 [] 33 hr H fun fr t H => ?_
    refine at_se 1 [(0, .ptr (some (bp0, 0))), (1, .str x12), (2, .func (.func 28) [] []), (20, rowV rp0_0 p0.l_.length), (21, .int .i64 (p0.l_.length : Int)), (22, .int .i64 x2)] H fun fr H => ?_
    refine at_ns 7 id ?_
    refine at_gl 5 [(35, .int .i64 (x12.length : Int))] 39 0 1 A H fun fr t H => ?_
    refine at_el 1 [(40, .bool (decide ((x12.length : Int) > p0.name_)))] H (fun _ => id) fun fr H => ?_
    refine aw_if 40 H hm (fun hb hm H => ?_) fun hb hm H => ?_
    ·refine aw_sr 2 ?_
     refine at_el 2 [(6, .str ([] : List UInt8)), (7, .int .i64 7)] H (fun _ => id) fun fr H => ?_
     refine aw_rt ?_
     exact .inr (.inl ⟨_, _, rfl, injA hm, H.ls, A⟩)
    refine aw_sk ?_
    exact .inl ⟨_, rfl, injA hm, H.ls, A⟩
   clear ho
   clear A
   intro e fr h5 hQ
   rcases hQ with ⟨x6, rfl, rfl, H, A⟩ | ⟨x7, x8, rfl, rfl, H, A⟩ | hF
   ·show AW _ _ _ _ _ _ _
    refine aw_rg 2 ?_
    refine at_se 2 [(0, .ptr (some (bp0, 0))), (1, .str x6), (2, .func (.func 28) [] []), (20, rowV rp0_0 p0.l_.length), (21, .int .i64 (p0.l_.length : Int)), (22, .int .i64 (IntKind.i64.wrap (x2 + (1 : Int))))] H fun fr H => ?_
    refine at_nil ?_
    exact nx hm ⟨_, _, rfl, H.ls, A⟩
   ·exact nr hm fun e => Or.inr (.inl ⟨_, _, rfl, e, H.ls, A⟩)
   exact hF.elim
  refine aw_exit (i := 0) (by kernel_rfl) ?_
  exact nr hm fun e => .inl ⟨_, rfl, e, H.ls, A⟩
 clear ho
 clear A
 intro e fr h6 hQ
 rcases hQ with ⟨x3, rfl, rfl, H, A⟩ | ⟨x4, x5, rfl, rfl, H, A⟩ | hF
 ·show AW _ _ _ _ _ _ _
  refine aw_sr 3 ?_
  refine at_el 3 [(6, .str x3), (7, .int .i64 0)] H (fun _ => id) fun fr H => ?_
  refine aw_rt ?_
  obtain ⟨rfl, rfl⟩ := injB hm
  exact ⟨.inl rfl, _, rH H, rfl, A⟩
 ·obtain ⟨rfl, rfl⟩ := injB hm
  exact ⟨.inl rfl, _, rH H, rfl, A⟩
 exact hF.elim
noncomputable def M_scope_hard (p0 : S_rewrite_Expr) : Option (Bool) :=
 some p0.Hard
theorem ok_scope_hard {p0 q0} (hm : M_scope_hard p0 = some q0) (A : HH g h [] F) (hc : canL (cfg.still 29) av = [.agg (e_S_rewrite_Expr p0)] := by kernel_rfl) : ∃ v h', Runs cfg g h 29 av v h' ∧ v = .bool q0 ∧ HH g h' [] F := by
 refine rq1 5 [.tmp 2] hc ?_
 clear hc
 unfold M_scope_hard at hm
 refine bg 5 [(0, .agg (e_S_rewrite_Expr p0))] fun fr H => ?_
 refine aw_sr 2 ?_
 obtain ⟨h1, e1, A⟩ := A.pu (.cells none 2 (e_S_rewrite_Expr p0))
 refine at_ln 1 (.ptr (some (h.size, 0))) e1 H fun fr t H => ?_
 refine at_es 1 [] 3 H (fun _ => id) fun fr H => ?_
 refine at_gl 1 [] 4 0 8 A H fun fr t H => ?_
 refine at_el 1 [(2, .bool p0.Hard)] H (fun _ => id) fun fr H => ?_
 refine aw_rt ?_
 obtain rfl := injA hm
 refine ⟨.inl rfl, .bool p0.Hard, rH H, ?_⟩
 replace A := A.d0
 exact ⟨rfl, A⟩
noncomputable def M_scope_Rules_apply_sPOSF_3_L0 (p0 : S_scope_Rules) (s : (List UInt8) × Int) : Option (((List UInt8) × Int) ⊕ (((List UInt8)) ⊕ ((List UInt8) × Int))) :=
 match s with
 | (x1, x2) => iteB (decide (x2 < (p0.l_.length : Int))) (((ixV p0.l_ x2).bind fun x9 => (M_rewrite_Rule_Expr x9).bind fun x10 => (M_scope_hard x10).bind fun x11 => iteB (!x11) (some (.inl x1)) ((M_rewrite_Rule_Apply x9 x1).bind fun x12 => iteB (decide ((x12.length : Int) > p0.name_)) (some (.inr (([] : List UInt8), (7 : Int)))) (some (.inl x12))) : Option (((List UInt8)) ⊕ ((List UInt8) × Int))).bind fun o2 => (match o2 with | .inl x6 => some (.inl (x6, IntKind.i64.wrap (x2 + (1 : Int)))) | .inr (x7, x8) => some (.inr (.inr (x7, x8))))) (some (.inr (.inl x1)))
noncomputable def M_scope_Rules_apply_sPOSF_3 (p0 : S_scope_Rules) (p1 : List UInt8) : Option ((List UInt8) × Int) :=
 iteB (decide ((p1.length : Int) > p0.name_)) (some (([] : List UInt8), (7 : Int))) ((loop (M_scope_Rules_apply_sPOSF_3_L0 p0) (p1, (0 : Int))).bind fun o1 => (match o1 with | .inl x3 => some (x3, (0 : Int)) | .inr (x4, x5) => some (x4, x5)))
theorem ok_scope_Rules_apply_sPOSF_3 {p0 p1 bp0 rp0_0 q0 q1} (hm : M_scope_Rules_apply_sPOSF_3 p0 p1 = some (q0, q1)) (A : HH g h [.obj bp0 (.cells none 2 [rowV rp0_0 p0.l_.length, .int .i64 p0.name_]), .lst rp0_0 58 (lst (eP e_S_rewrite_Rule) p0.l_)] F) (hc : canL (cfg.still 30) av = [.ptr (some (bp0, 0)), .str p1, .func (.func 29) [] []] := by kernel_rfl) : ∃ v h', Runs cfg g h 30 av v h' ∧ v = .tuple [.str q0, .int .i64 q1] ∧ HH g h' [.obj bp0 (.cells none 2 [rowV rp0_0 p0.l_.length, .int .i64 p0.name_]), .lst rp0_0 58 (lst (eP e_S_rewrite_Rule) p0.l_)] F := by
 refine rq1 43 [.tmp 6, .tmp 7] hc ?_
 clear hc
 unfold M_scope_Rules_apply_sPOSF_3 at hm
 refine bg 43 [(0, .ptr (some (bp0, 0))), (1, .str p1), (2, .func (.func 29) [] [])] fun fr H => ?_
 refine aw_sr 2 ?_
 refine at_el 2 [] H (fun _ => id) fun fr H => ?_
 refine aw_sq ?_
 refine aw_sr 7 ?_
 refine at_gl 5 [(11, .int .i64 (p1.length : Int))] 15 0 1 A H fun fr t H => ?_
 refine at_el 1 [(16, .bool (decide ((p1.length : Int) > p0.name_)))] H (fun _ => id) fun fr H => ?_
 refine aw_if 16 H hm (fun hb hm H => ?_) fun hb hm H => ?_
 ·refine aw_sr 2 ?_
  refine at_el 2 [(6, .str ([] : List UInt8)), (7, .int .i64 7)] H (fun _ => id) fun fr H => ?_
  refine aw_rt ?_
  obtain ⟨rfl, rfl⟩ := injB hm
  exact ⟨.inl rfl, _, rH H, rfl, A⟩
 refine aw_kn id ?_
 refine aw_sq ?_
 refine aw_sr 6 ?_
 refine at_gl 3 [] 20 0 0 A H fun fr t H => ?_
 refine at_el 2 [(21, .int .i64 (p0.l_.length : Int)), (22, .int .i64 0)] H (fun _ => id) fun fr H => ?_
 refine aw_block (id := 0) (by kernel_rfl) ?_
 obtain ⟨o1, ho, hm⟩ := bind_some hm
 refine aw_mono (Q' := fun e fr' h' => (∃ x3, e = .exit 0 ∧ .inl x3 = o1 ∧ Has fr' 43 [(1, .str x3)] ∧ HH g h' [.obj bp0 (.cells none 2 [rowV rp0_0 p0.l_.length, .int .i64 p0.name_]), .lst rp0_0 58 (lst (eP e_S_rewrite_Rule) p0.l_)] F) ∨ (∃ x4 x5, e = .ret ∧ .inr (x4, x5) = o1 ∧ Has fr' 43 [(6, .str x4), (7, .int .i64 x5)] ∧ HH g h' [.obj bp0 (.cells none 2 [rowV rp0_0 p0.l_.length, .int .i64 p0.name_]), .lst rp0_0 58 (lst (eP e_S_rewrite_Rule) p0.l_)] F) ∨ False) ?_ ?_
 ·refine aw_loop (by kernel_rfl) (fun (s : (List UInt8) × Int) fr' h' => ∃ x1 x2, (x1, x2) = s ∧ Has fr' 43 [(0, .ptr (some (bp0, 0))), (1, .str x1), (2, .func (.func 29) [] []), (20, rowV rp0_0 p0.l_.length), (21, .int .i64 (p0.l_.length : Int)), (22, .int .i64 x2)] ∧ HH g h' [.obj bp0 (.cells none 2 [rowV rp0_0 p0.l_.length, .int .i64 p0.name_]), .lst rp0_0 58 (lst (eP e_S_rewrite_Rule) p0.l_)] F) ho ⟨_, _, rfl, H.ls, A⟩ ?_
  clear ho hm H A
  intro s q fr h1 hI hm
  obtain ⟨x1, x2, rfl, H, A⟩ := hI
  unfold M_scope_Rules_apply_sPOSF_3_L0 at hm
  refine aw_sr 1 ?_
  refine at_el 1 [(23, .bool (decide (x2 < (p0.l_.length : Int))))] H (fun _ => id) fun fr H => ?_
  refine aw_sq ?_
  refine aw_if 23 H hm (fun hb hm H => ?_) fun hb hm H => ?_
  ·refine aw_kn id ?_
   refine aw_sq ?_
   obtain ⟨o2, ho, hm⟩ := bind_some hm
   refine aw_mono (Q' := fun e fr' h' => (∃ x6, e = .normal ∧ .inl x6 = o2 ∧ Has fr' 43 [(0, .ptr (some (bp0, 0))), (1, .str x6), (2, .func (.func 29) [] []), (20, rowV rp0_0 p0.l_.length), (21, .int .i64 (p0.l_.length : Int)), (22, .int .i64 x2)] ∧ HH g h' [.obj bp0 (.cells none 2 [rowV rp0_0 p0.l_.length, .int .i64 p0.name_]), .lst rp0_0 58 (lst (eP e_S_rewrite_Rule) p0.l_)] F) ∨ (∃ x7 x8, e = .ret ∧ .inr (x7, x8) = o2 ∧ Has fr' 43 [(6, .str x7), (7, .int .i64 x8)] ∧ HH g h' [.obj bp0 (.cells none 2 [rowV rp0_0 p0.l_.length, .int .i64 p0.name_]), .lst rp0_0 58 (lst (eP e_S_rewrite_Rule) p0.l_)] F) ∨ False) ?_ ?_
   ·replace hm := ho
    clear ho
    refine aw_block (id := 1) (by kernel_rfl) ?_
    refine aw_sr 3 ?_
    obtain ⟨x9, hx, hm⟩ := bind_some hm
    obtain ⟨i1, er1, _, hx, hq1⟩ := HH.ixO (encP _) (by decide) A 1 (xs := p0.l_) rfl hx
    refine at_l1 24 (.ptr (some (i1, x2.toNat * 1))) h1 H (fun fr => .of (s_ixL (s := rowS rp0_0 p0.l_.length) (by kernel_rfl) hx)) fun fr t H => ?_
    refine at_l1 25 _ _ H (fun fr => .of (s_ld (by kernel_rfl) (row_ld1 (encP _) (HH.row A 1 rfl er1) hq1 (o := 0) rfl))) fun fr t H => ?_
    refine at_el 1 [(9, .vptr (e_S_rewrite_Rule x9))] H (fun _ => id) fun fr H => ?_
    refine aw_sq ?_
    refine aw_sr 5 ?_
    obtain ⟨x10, hx, hm⟩ := bind_some hm
    obtain ⟨v1, h2, hr, rfl, A1⟩ := ok_rewrite_Rule_Expr (av := [.vptr (e_S_rewrite_Rule x9)]) hx (A.cut 0)
    replace A := A.g00 A1
    refine at_gc1 2 [(26, .func (.func 29) [] [])] 28 hr H fun fr t H => ?_
    obtain ⟨x11, hx, hm⟩ := bind_some hm
    obtain ⟨v1, h3, hr, rfl, A1⟩ := ok_scope_hard (av := [.agg (e_S_rewrite_Expr x10)]) hx (A.cut 0)
    replace A := A.g00 A1
    refine at_lc1 29 hr H fun fr t H => ?_
    refine at_el 1 [(30, .bool (!x11))] H (fun _ => id) fun fr H => ?_
    refine aw_if 30 H hm (fun hb hm H => ?_) fun hb hm H => ?_
    ·refine aw_exit (i := 1) (by kernel_rfl) ?_
     exact .inl ⟨_, rfl, injA hm, H.ls, A⟩
    refine aw_ks 4 id ?_
    obtain ⟨x12, hx, hm⟩ := bind_some hm
    obtain ⟨v1, h4, hr, rfl, A1⟩ := ok_rewrite_Rule_Apply (av := [.vptr (e_S_rewrite_Rule x9), .str x1]) hx (A.cut 0)
    replace A := A.g00 A1
    refine at_gc1 2 [] 33 hr H fun fr t H => ?_
    refine at_se 1 [(0, .ptr (some (bp0, 0))), (1, .str x12), (2, .func (.func 29) [] []), (20, rowV rp0_0 p0.l_.length), (21, .int .i64 (p0.l_.length : Int)), (22, .int .i64 x2)] H fun fr H => ?_
    refine at_ns 7 id ?_
    refine at_gl 5 [(35, .int .i64 (x12.length : Int))] 39 0 1 A H fun fr t H => ?_
    refine at_el 1 [(40, .bool (decide ((x12.length : Int) > p0.name_)))] H (fun _ => id) fun fr H => ?_
    refine aw_if 40 H hm (fun hb hm H => ?_) fun hb hm H => ?_
    ·refine aw_sr 2 ?_
     refine at_el 2 [(6, .str ([] : List UInt8)), (7, .int .i64 7)] H (fun _ => id) fun fr H => ?_
     refine aw_rt ?_
     exact .inr (.inl ⟨_, _, rfl, injA hm, H.ls, A⟩)
    refine aw_sk ?_
    exact .inl ⟨_, rfl, injA hm, H.ls, A⟩
   clear ho
   clear A
   intro e fr h5 hQ
   rcases hQ with ⟨x6, rfl, rfl, H, A⟩ | ⟨x7, x8, rfl, rfl, H, A⟩ | hF
   ·show AW _ _ _ _ _ _ _
    refine aw_rg 2 ?_
    refine at_se 2 [(0, .ptr (some (bp0, 0))), (1, .str x6), (2, .func (.func 29) [] []), (20, rowV rp0_0 p0.l_.length), (21, .int .i64 (p0.l_.length : Int)), (22, .int .i64 (IntKind.i64.wrap (x2 + (1 : Int))))] H fun fr H => ?_
    refine at_nil ?_
    exact nx hm ⟨_, _, rfl, H.ls, A⟩
   ·exact nr hm fun e => Or.inr (.inl ⟨_, _, rfl, e, H.ls, A⟩)
   exact hF.elim
  refine aw_exit (i := 0) (by kernel_rfl) ?_
  exact nr hm fun e => .inl ⟨_, rfl, e, H.ls, A⟩
 clear ho
 clear A
 intro e fr h6 hQ
 rcases hQ with ⟨x3, rfl, rfl, H, A⟩ | ⟨x4, x5, rfl, rfl, H, A⟩ | hF
 ·show AW _ _ _ _ _ _ _
  refine aw_sr 3 ?_
  refine at_el 3 [(6, .str x3), (7, .int .i64 0)] H (fun _ => id) fun fr H => ?_
  refine aw_rt ?_
  obtain ⟨rfl, rfl⟩ := injB hm
  exact ⟨.inl rfl, _, rH H, rfl, A⟩
 ·obtain ⟨rfl, rfl⟩ := injB hm
  exact ⟨.inl rfl, _, rH H, rfl, A⟩
 exact hF.elim
noncomputable def M_scope_Rules_Member_sPOR (p0 : S_scope_Rules) (p1 : S_api_Member) : Option (S_api_Member × Int) :=
 (M_scope_Rules_Name_sPOS p0 p1.Name).bind fun (x1, x2) => iteB (x2 != (0 : Int)) (some ((⟨([] : List UInt8), ([] : List UInt8), (0 : Int), (0 : Int), (0 : Int), (0 : Int), ([] : List UInt8), ([] : List UInt8), (0 : Int), (0 : Int), (⟨(0 : Int), (0 : Int)⟩ : S_api_Stamp), ([] : List S_api_Pair), ([] : List UInt8)⟩ : S_api_Member), x2)) (iteB (p1.Kind == (50 : Int)) (((M_scope_Rules_apply_sPOSF_2 p0 p1.Link).bind fun (x6, x7) => iteB (x7 != (0 : Int)) (some (.inr (x6, x7))) (some (.inl x6)) : Option (((List UInt8)) ⊕ ((List UInt8) × Int))).bind fun o1 => (match o1 with | .inl x3 => (iteB (x1 == ([] : List UInt8)) (some true) ((M_scope_spoilt x1 p1.Name).bind fun x9 => some x9) : Option (Bool)).bind fun x8 => (iteB x8 (some true) ((M_scope_spoilt x3 p1.Link).bind fun x11 => some x11) : Option (Bool)).bind fun x10 => iteB x10 (some ((⟨([] : List UInt8), ([] : List UInt8), (0 : Int), (0 : Int), (0 : Int), (0 : Int), ([] : List UInt8), ([] : List UInt8), (0 : Int), (0 : Int), (⟨(0 : Int), (0 : Int)⟩ : S_api_Stamp), ([] : List S_api_Pair), ([] : List UInt8)⟩ : S_api_Member), (2 : Int))) (need (okN 32 p1.Extra.length) <| some ((⟨x1, x3, p1.Kind, p1.Mode, p1.Uid, p1.Gid, p1.Uname, p1.Gname, p1.Major, p1.Minor, p1.Time, p1.Extra, p1.Data⟩ : S_api_Member), (0 : Int))) | .inr (x4, x5) => some ((⟨([] : List UInt8), ([] : List UInt8), (0 : Int), (0 : Int), (0 : Int), (0 : Int), ([] : List UInt8), ([] : List UInt8), (0 : Int), (0 : Int), (⟨(0 : Int), (0 : Int)⟩ : S_api_Stamp), ([] : List S_api_Pair), ([] : List UInt8)⟩ : S_api_Member), x5))) (iteB (p1.Kind == (49 : Int)) (((M_scope_Rules_apply_sPOSF_3 p0 p1.Link).bind fun (x15, x16) => iteB (x16 != (0 : Int)) (some (.inr (x15, x16))) (some (.inl x15)) : Option (((List UInt8)) ⊕ ((List UInt8) × Int))).bind fun o2 => (match o2 with | .inl x12 => (iteB (x1 == ([] : List UInt8)) (some true) ((M_scope_spoilt x1 p1.Name).bind fun x18 => some x18) : Option (Bool)).bind fun x17 => (iteB x17 (some true) ((M_scope_spoilt x12 p1.Link).bind fun x20 => some x20) : Option (Bool)).bind fun x19 => iteB x19 (some ((⟨([] : List UInt8), ([] : List UInt8), (0 : Int), (0 : Int), (0 : Int), (0 : Int), ([] : List UInt8), ([] : List UInt8), (0 : Int), (0 : Int), (⟨(0 : Int), (0 : Int)⟩ : S_api_Stamp), ([] : List S_api_Pair), ([] : List UInt8)⟩ : S_api_Member), (2 : Int))) (need (okN 32 p1.Extra.length) <| some ((⟨x1, x12, p1.Kind, p1.Mode, p1.Uid, p1.Gid, p1.Uname, p1.Gname, p1.Major, p1.Minor, p1.Time, p1.Extra, p1.Data⟩ : S_api_Member), (0 : Int))) | .inr (x13, x14) => some ((⟨([] : List UInt8), ([] : List UInt8), (0 : Int), (0 : Int), (0 : Int), (0 : Int), ([] : List UInt8), ([] : List UInt8), (0 : Int), (0 : Int), (⟨(0 : Int), (0 : Int)⟩ : S_api_Stamp), ([] : List S_api_Pair), ([] : List UInt8)⟩ : S_api_Member), x14))) ((some () : Option ((Unit))).bind fun _ => (iteB (x1 == ([] : List UInt8)) (some true) ((M_scope_spoilt x1 p1.Name).bind fun x22 => some x22) : Option (Bool)).bind fun x21 => (iteB x21 (some true) ((M_scope_spoilt p1.Link p1.Link).bind fun x24 => some x24) : Option (Bool)).bind fun x23 => iteB x23 (some ((⟨([] : List UInt8), ([] : List UInt8), (0 : Int), (0 : Int), (0 : Int), (0 : Int), ([] : List UInt8), ([] : List UInt8), (0 : Int), (0 : Int), (⟨(0 : Int), (0 : Int)⟩ : S_api_Stamp), ([] : List S_api_Pair), ([] : List UInt8)⟩ : S_api_Member), (2 : Int))) (need (okN 32 p1.Extra.length) <| some ((⟨x1, p1.Link, p1.Kind, p1.Mode, p1.Uid, p1.Gid, p1.Uname, p1.Gname, p1.Major, p1.Minor, p1.Time, p1.Extra, p1.Data⟩ : S_api_Member), (0 : Int))))))
theorem ok_scope_Rules_Member_sPOR {p0 p1 bp0 rp0_0 q0 q1} (hm : M_scope_Rules_Member_sPOR p0 p1 = some (q0, q1)) (A : HH g h [.obj bp0 (.cells none 2 [rowV rp0_0 p0.l_.length, .int .i64 p0.name_]), .lst rp0_0 58 (lst (eP e_S_rewrite_Rule) p0.l_)] F) (hc : canL (cfg.still 13) av = [.ptr (some (bp0, 0)), .agg (e_S_api_Member p1)] := by kernel_rfl) : ∃ v h', Runs cfg g h 13 av v h' ∧ v = .tuple [.agg (e_S_api_Member q0), .int .i64 q1] ∧ HH g h' [.obj bp0 (.cells none 2 [rowV rp0_0 p0.l_.length, .int .i64 p0.name_]), .lst rp0_0 58 (lst (eP e_S_rewrite_Rule) p0.l_)] F := by
 refine rq7 68 [.cell 4 44, .tmp 5] hc ?_
 clear hc
 unfold M_scope_Rules_Member_sPOR at hm
 refine bg 68 [(0, .ptr (some (bp0, 0))), (1, .agg (e_S_api_Member p1))] fun fr H => ?_
 refine aw_sr 3 ?_
 obtain ⟨h1, e1, A⟩ := A.pu (.cells none 2 (e_S_api_Member p1))
 refine at_ln 3 (.ptr (some (h.size, 0))) e1 H fun fr t H => ?_
 obtain ⟨h2, e2, A⟩ := A.pu (.cells none 2 [.str ([] : List UInt8), .str ([] : List UInt8), .int .u8 0, .int .i64 0, .int .i64 0, .int .i64 0, .str ([] : List UInt8), .str ([] : List UInt8), .int .i64 0, .int .i64 0, .int .i64 0, .int .i64 0, .slice none 0, .str ([] : List UInt8)])
 refine at_ln 4 (.ptr (some (h1.size, 0))) e2 H fun fr t H => ?_
 refine at_es 1 [] 3 H (fun _ => id) fun fr H => ?_
 refine at_l1 10 _ _ H (fun fr => .of (s_ldA (by kernel_rfl) (A.ldA 1 rfl (o := 0) (n := 14) ⟨Nat.le_of_ble_eq_true rfl, rfl⟩))) fun fr t H => ?_
 obtain ⟨h3, e3, A⟩ := A.pu (.cells none 2 [.str ([] : List UInt8), .str ([] : List UInt8), .int .u8 0, .int .i64 0, .int .i64 0, .int .i64 0, .str ([] : List UInt8), .str ([] : List UInt8), .int .i64 0, .int .i64 0, .int .i64 0, .int .i64 0, .slice none 0, .str ([] : List UInt8)])
 refine at_ln 6 (.ptr (some (h2.size, 0))) e3 H fun fr t H => ?_
 obtain ⟨h4, hx, A1⟩ := A.st 0 rfl (o := 0) (new := [.str p1.Name, .str p1.Link, .int .u8 p1.Kind, .int .i64 p1.Mode, .int .i64 p1.Uid, .int .i64 p1.Gid, .str p1.Uname, .str p1.Gname, .int .i64 p1.Major, .int .i64 p1.Minor, .int .i64 p1.Time.Sec, .int .i64 p1.Time.Nsec, vs e_S_api_Pair p1.Extra, .str p1.Data]) (ds := [.str p1.Name, .str p1.Link, .int .u8 p1.Kind, .int .i64 p1.Mode, .int .i64 p1.Uid, .int .i64 p1.Gid, .str p1.Uname, .str p1.Gname, .int .i64 p1.Major, .int .i64 p1.Minor, .int .i64 p1.Time.Sec, .int .i64 p1.Time.Nsec, vs e_S_api_Pair p1.Extra, .str p1.Data]) (Nat.le_of_ble_eq_true rfl) rfl rfl
 replace A : HH g h4 [.obj h2.size (.cells none 2 (e_S_api_Member p1)), .obj h1.size (.cells none 2 [.str ([] : List UInt8), .str ([] : List UInt8), .int .u8 0, .int .i64 0, .int .i64 0, .int .i64 0, .str ([] : List UInt8), .str ([] : List UInt8), .int .i64 0, .int .i64 0, .int .i64 0, .int .i64 0, .slice none 0, .str ([] : List UInt8)]), .obj h.size (.cells none 2 (e_S_api_Member p1)), _, _] F := A1
 refine at_lS hx H fun fr t H => ?_
 refine at_ns 3 id ?_
 refine at_es 3 [(7, .func (.func 27) [.ptr (some (bp0, 0))] [])] 1 H (fun _ => id) fun fr H => ?_
 refine at_el 1 [] H (fun _ => id) fun fr H => ?_
 refine aw_sq ?_
 refine aw_sr 10 ?_
 refine at_gl 2 [(14, .func (.func 27) [.ptr (some (bp0, 0))] [])] 16 2 0 A H fun fr t H => ?_
 replace A := A.k5 3 4 0 1 2
 obtain ⟨⟨x1, x2⟩, hx, hm⟩ := bind_some hm
 obtain ⟨v1, h5, hr, rfl, A1⟩ := ok_scope_Rules_Name_sPOS (av := [.ptr (some (bp0, 0)), .str p1.Name]) hx (A.cut 2)
 replace A := A.g22 A1
 refine at_lc1 17 hr H fun fr t H => ?_
 obtain ⟨h6, hx, A⟩ := A.s2 0 [.str x1] [_, _, _, _, _, _, _, _, _, _, _, _, _, _]
 refine at_gs 4 [(19, .int .i64 x2)] hx H fun fr t H => ?_
 refine at_es 1 [(8, .int .i64 x2)] 2 H (fun _ => id) fun fr H => ?_
 refine at_el 2 [(22, .bool (x2 != (0 : Int)))] H (fun _ => id) fun fr H => ?_
 refine aw_if 22 H hm (fun hb hm H => ?_) fun hb hm H => ?_
 ·refine aw_sr 4 ?_
  obtain ⟨h7, hx, A⟩ := A.s3 0 [.str ([] : List UInt8), .str ([] : List UInt8), .int .u8 0, .int .i64 0, .int .i64 0, .int .i64 0, .str ([] : List UInt8), .str ([] : List UInt8), .int .i64 0, .int .i64 0, .int .i64 0, .int .i64 0, .slice none 0, .str ([] : List UInt8)] [_, _, _, _, _, _, _, _, _, _, _, _, _, _]
  refine at_gS 2 [(24, .int .i64 x2)] hx H fun fr t H => ?_
  refine at_el 1 [(5, .int .i64 x2)] H (fun _ => id) fun fr H => ?_
  refine aw_rt ?_
  obtain ⟨rfl, rfl⟩ := injB hm
  refine ⟨.inl rfl, .tuple [.agg [.str ([] : List UInt8), .str ([] : List UInt8), .int .u8 0, .int .i64 0, .int .i64 0, .int .i64 0, .str ([] : List UInt8), .str ([] : List UInt8), .int .i64 0, .int .i64 0, .int .i64 0, .int .i64 0, .slice none 0, .str ([] : List UInt8)], .int .i64 x2], resL_many (.cell (rT H) (load_ldA (by kernel_rfl) (by kernel_rfl) (A.la 3 0 14)) (.tmp (rT H) .nil)), ?_⟩
  refine ⟨.tuple [.agg [.str ([] : List UInt8), .str ([] : List UInt8), .int .u8 0, .int .i64 0, .int .i64 0, .int .i64 0, .str ([] : List UInt8), .str ([] : List UInt8), .int .i64 0, .int .i64 0, .int .i64 0, .int .i64 0, vs e_S_api_Pair ([] : List S_api_Pair), .str ([] : List UInt8)], .int .i64 x2], h7, by first | rfl | (simp only [fz3T, fz3A, fz3B, fz3R, fz2A, fz2R, fz2V, fz2I, fz2B, fz2S, fz2N, fzL0, fzL1, fz1I, fz1B, fz1S, fz1V, fz1N, Option.map_some] <;> rfl), ?_⟩
  replace A := A.d2
  exact ⟨rfl, A⟩
 refine aw_ks 8 id ?_
 obtain ⟨h8, e4⟩ : ∃ x, x = h6.push (.map 2 []) := ⟨_, rfl⟩
 replace A : HH g h8 [.obj h6.size (.map 2 []), _, _, _, _, _] F := (A.push _).to e4
 refine at_ln 25 (.map (some h6.size)) e4 H fun fr t H => ?_
 obtain ⟨h9, hx, A1⟩ := HH.msetC (P := cfg.P) A 0 rfl (t := 77) (kt := 5) (et := 76) (by kernel_rfl) (k := .int .u8 50) (v := .func (.func 28) [] []) (by kernel_rfl) (by kernel_rfl)
 replace A : HH g h9 [.obj h6.size (.map 2 [(.int .u8 50, .func (.func 28) [] [])]), _, _, _, _, _] F := A1
 refine at_l0 (.tuple []) h9 H (fun fr => .of (s_ms (by kernel_rfl) hx)) fun fr t H => ?_
 obtain ⟨h10, hx, A1⟩ := HH.msetC (P := cfg.P) A 0 rfl (t := 77) (kt := 5) (et := 76) (by kernel_rfl) (k := .int .u8 49) (v := .func (.func 29) [] []) (by kernel_rfl) (by kernel_rfl)
 replace A : HH g h10 [.obj h6.size (.map 2 [(.int .u8 50, .func (.func 28) [] []), (.int .u8 49, .func (.func 29) [] [])]), _, _, _, _, _] F := A1
 refine at_l0 (.tuple []) h10 H (fun fr => .of (s_ms (by kernel_rfl) hx)) fun fr t H => ?_
 refine at_gl 2 [(26, .map (some h6.size))] 28 5 2 A H fun fr t H => ?_
 rcases iteB_some hm with ⟨hb, hm⟩ | ⟨hk1, hm⟩
 ·refine at_l1 29 (.func (.func 28) [] []) h10 H (fun fr => .of (s_lkF (by kernel_rfl) (HH.mlookI (P := cfg.P) A 0 rfl (t := 77) (kt := 5) (et := 76) (by kernel_rfl) (kd' := .u8) (by kernel_rfl) (x := p1.Kind) (.hit hb)))) fun fr t H => ?_
  refine at_el 1 [(9, .func (.func 28) [] [])] H (fun _ => id) fun fr H => ?_
  refine aw_sq ?_
  obtain ⟨o1, ho, hm⟩ := bind_some hm
  refine aw_mono (Q' := fun e fr' h' => (∃ x3, e = .normal ∧ .inl x3 = o1 ∧ Has fr' 68 [(3, .ptr (some (h.size, 0))), (4, .ptr (some (h1.size, 0))), (6, .ptr (some (h2.size, 0)))] ∧ HH g h' [.obj h6.size (.map 2 [(.int .u8 50, .func (.func 28) [] []), (.int .u8 49, .func (.func 29) [] [])]), .obj bp0 (.cells none 2 [rowV rp0_0 p0.l_.length, .int .i64 p0.name_]), .lst rp0_0 58 (lst (eP e_S_rewrite_Rule) p0.l_), .obj h2.size (.cells none 2 [.str x1, .str x3, .int .u8 p1.Kind, .int .i64 p1.Mode, .int .i64 p1.Uid, .int .i64 p1.Gid, .str p1.Uname, .str p1.Gname, .int .i64 p1.Major, .int .i64 p1.Minor, .int .i64 p1.Time.Sec, .int .i64 p1.Time.Nsec, vs e_S_api_Pair p1.Extra, .str p1.Data]), .obj h1.size (.cells none 2 [.str ([] : List UInt8), .str ([] : List UInt8), .int .u8 0, .int .i64 0, .int .i64 0, .int .i64 0, .str ([] : List UInt8), .str ([] : List UInt8), .int .i64 0, .int .i64 0, .int .i64 0, .int .i64 0, .slice none 0, .str ([] : List UInt8)]), .obj h.size (.cells none 2 (e_S_api_Member p1))] F) ∨ (∃ x4 x5, e = .ret ∧ .inr (x4, x5) = o1 ∧ Has fr' 68 [(4, .ptr (some (h1.size, 0))), (5, .int .i64 x5)] ∧ HH g h' [.obj h6.size (.map 2 [(.int .u8 50, .func (.func 28) [] []), (.int .u8 49, .func (.func 29) [] [])]), .obj bp0 (.cells none 2 [rowV rp0_0 p0.l_.length, .int .i64 p0.name_]), .lst rp0_0 58 (lst (eP e_S_rewrite_Rule) p0.l_), .obj h2.size (.cells none 2 [.str x1, .str x4, .int .u8 p1.Kind, .int .i64 p1.Mode, .int .i64 p1.Uid, .int .i64 p1.Gid, .str p1.Uname, .str p1.Gname, .int .i64 p1.Major, .int .i64 p1.Minor, .int .i64 p1.Time.Sec, .int .i64 p1.Time.Nsec, vs e_S_api_Pair p1.Extra, .str p1.Data]), .obj h1.size (.cells none 2 [.str ([] : List UInt8), .str ([] : List UInt8), .int .u8 0, .int .i64 0, .int .i64 0, .int .i64 0, .str ([] : List UInt8), .str ([] : List UInt8), .int .i64 0, .int .i64 0, .int .i64 0, .int .i64 0, .slice none 0, .str ([] : List UInt8)]), .obj h.size (.cells none 2 (e_S_api_Member p1))] F) ∨ False) ?_ ?_
  ·replace hm := ho
   clear ho
   refine aw_sr 2 ?_
   refine at_el 2 [(31, .bool true)] H (fun _ => id) fun fr H => ?_
   refine aw_true (x := .tmp 31) (by kernel_rfl) H (fun fr => by kernel_rfl) ?_
   refine aw_sr 11 ?_
   refine at_gl 2 [(33, .ptr (some (bp0, 0)))] 35 5 1 A H fun fr t H => ?_
   replace A := A.k6 1 2 0 3 4 5
   obtain ⟨⟨x6, x7⟩, hx, hm⟩ := bind_some hm
   obtain ⟨v1, h11, hr, rfl, A1⟩ := ok_scope_Rules_apply_sPOSF_2 (av := [.ptr (some (bp0, 0)), .str p1.Link, .func (.func 28) [] []]) hx (A.cut 2)
   replace A := A.g22 A1
   refine at_gc1 1 [] 37 hr H fun fr t H => ?_
   obtain ⟨h12, hx, A⟩ := A.s3 1 [.str x6] [_, _, _, _, _, _, _, _, _, _, _, _, _, _]
   refine at_gs 4 [(39, .int .i64 x7)] hx H fun fr t H => ?_
   refine at_se 1 [(3, .ptr (some (h.size, 0))), (4, .ptr (some (h1.size, 0))), (6, .ptr (some (h2.size, 0))), (8, .int .i64 x7)] H fun fr H => ?_
   refine at_ns 2 id ?_
   refine at_el 2 [(42, .bool (x7 != (0 : Int)))] H (fun _ => id) fun fr H => ?_
   refine aw_if 42 H hm (fun hb hm H => ?_) fun hb hm H => ?_
   ·refine aw_sr 4 ?_
    obtain ⟨h13, hx, A⟩ := A.s4 0 [.str ([] : List UInt8), .str ([] : List UInt8), .int .u8 0, .int .i64 0, .int .i64 0, .int .i64 0, .str ([] : List UInt8), .str ([] : List UInt8), .int .i64 0, .int .i64 0, .int .i64 0, .int .i64 0, .slice none 0, .str ([] : List UInt8)] [_, _, _, _, _, _, _, _, _, _, _, _, _, _]
    refine at_gS 2 [(44, .int .i64 x7)] hx H fun fr t H => ?_
    refine at_el 1 [(5, .int .i64 x7)] H (fun _ => id) fun fr H => ?_
    refine aw_rt ?_
    replace A := A.k6 2 0 1 3 4 5
    exact .inr (.inl ⟨_, _, rfl, injA hm, H.ls, A⟩)
   refine aw_sk ?_
   replace A := A.k6 2 0 1 3 4 5
   exact .inl ⟨_, rfl, injA hm, H.ls, A⟩
  clear ho
  clear A
  intro e fr h14 hQ
  rcases hQ with ⟨x3, rfl, rfl, H, A⟩ | ⟨x4, x5, rfl, rfl, H, A⟩ | hF
  ·show AW _ _ _ _ _ _ _
   refine aw_sq ?_
   refine aw_sr 17 ?_
   refine at_gl 1 [] 46 3 0 A H fun fr t H => ?_
   refine at_sl 2 [(48, .bool (x1 == ([] : List UInt8)))] H fun fr H => ?_
   obtain ⟨x8, ho, hm⟩ := bind_some hm
   refine at_cl 6 (fun fr' h' => Has fr' 68 [(3, .ptr (some (h.size, 0))), (4, .ptr (some (h1.size, 0))), (6, .ptr (some (h2.size, 0))), (54, .bool x8)] ∧ HH g h' [.obj h6.size (.map 2 [(.int .u8 50, .func (.func 28) [] []), (.int .u8 49, .func (.func 29) [] [])]), .obj bp0 (.cells none 2 [rowV rp0_0 p0.l_.length, .int .i64 p0.name_]), .lst rp0_0 58 (lst (eP e_S_rewrite_Rule) p0.l_), .obj h2.size (.cells none 2 [.str x1, .str x3, .int .u8 p1.Kind, .int .i64 p1.Mode, .int .i64 p1.Uid, .int .i64 p1.Gid, .str p1.Uname, .str p1.Gname, .int .i64 p1.Major, .int .i64 p1.Minor, .int .i64 p1.Time.Sec, .int .i64 p1.Time.Nsec, vs e_S_api_Pair p1.Extra, .str p1.Data]), .obj h1.size (.cells none 2 [.str ([] : List UInt8), .str ([] : List UInt8), .int .u8 0, .int .i64 0, .int .i64 0, .int .i64 0, .str ([] : List UInt8), .str ([] : List UInt8), .int .i64 0, .int .i64 0, .int .i64 0, .int .i64 0, .slice none 0, .str ([] : List UInt8)]), .obj h.size (.cells none 2 (e_S_api_Member p1))] F) ?_ ?_
   ·rcases iteB_some ho with ⟨hb, hm⟩ | ⟨hb, hm⟩
    ·replace H := H.kn 48 hb
     refine at_sl 6 [(54, .bool true)] H fun fr H => ?_
     obtain rfl := injA hm
     exact at_nil ⟨H.ls, A⟩
    replace H := H.kn 48 hb
    refine at_gl 1 [] 50 3 0 A H fun fr t H => ?_
    refine at_gl 1 [] 52 5 0 A H fun fr t H => ?_
    obtain ⟨x9, hx, hm⟩ := bind_some hm
    obtain ⟨v1, h16, hr, rfl, A1⟩ := ok_scope_spoilt (av := [.str x1, .str p1.Name]) hx (A.cut 0)
    replace A := A.g00 A1
    refine at_lc1 53 hr H fun fr t H => ?_
    refine at_sl 1 [(54, .bool x9)] H fun fr H => ?_
    obtain rfl := injA hm
    exact at_nil ⟨H.ls, A⟩
   clear A
   intro t fr h15 hK
   obtain ⟨H, A⟩ := hK
   refine at_sl 1 [(55, .bool x8)] H fun fr H => ?_
   obtain ⟨x10, ho, hm⟩ := bind_some hm
   refine at_cl 6 (fun fr' h' => Has fr' 68 [(3, .ptr (some (h.size, 0))), (4, .ptr (some (h1.size, 0))), (6, .ptr (some (h2.size, 0))), (61, .bool x10)] ∧ HH g h' [.obj h6.size (.map 2 [(.int .u8 50, .func (.func 28) [] []), (.int .u8 49, .func (.func 29) [] [])]), .obj bp0 (.cells none 2 [rowV rp0_0 p0.l_.length, .int .i64 p0.name_]), .lst rp0_0 58 (lst (eP e_S_rewrite_Rule) p0.l_), .obj h2.size (.cells none 2 [.str x1, .str x3, .int .u8 p1.Kind, .int .i64 p1.Mode, .int .i64 p1.Uid, .int .i64 p1.Gid, .str p1.Uname, .str p1.Gname, .int .i64 p1.Major, .int .i64 p1.Minor, .int .i64 p1.Time.Sec, .int .i64 p1.Time.Nsec, vs e_S_api_Pair p1.Extra, .str p1.Data]), .obj h1.size (.cells none 2 [.str ([] : List UInt8), .str ([] : List UInt8), .int .u8 0, .int .i64 0, .int .i64 0, .int .i64 0, .str ([] : List UInt8), .str ([] : List UInt8), .int .i64 0, .int .i64 0, .int .i64 0, .int .i64 0, .slice none 0, .str ([] : List UInt8)]), .obj h.size (.cells none 2 (e_S_api_Member p1))] F) ?_ ?_
   ·rcases iteB_some ho with ⟨hb, hm⟩ | ⟨hb, hm⟩
    ·replace H := H.kn 55 hb
     refine at_sl 6 [(61, .bool true)] H fun fr H => ?_
     obtain rfl := injA hm
     exact at_nil ⟨H.ls, A⟩
    replace H := H.kn 55 hb
    refine at_gl 1 [] 57 3 1 A H fun fr t H => ?_
    refine at_gl 1 [] 59 5 1 A H fun fr t H => ?_
    obtain ⟨x11, hx, hm⟩ := bind_some hm
    obtain ⟨v1, h18, hr, rfl, A1⟩ := ok_scope_spoilt (av := [.str x3, .str p1.Link]) hx (A.cut 0)
    replace A := A.g00 A1
    refine at_lc1 60 hr H fun fr t H => ?_
    refine at_sl 1 [(61, .bool x11)] H fun fr H => ?_
    obtain rfl := injA hm
    exact at_nil ⟨H.ls, A⟩
   clear A
   intro t fr h17 hK
   obtain ⟨H, A⟩ := hK
   refine at_nl id ?_
   refine aw_if 61 H hm (fun hb hm H => ?_) fun hb hm H => ?_
   ·refine aw_sr 3 ?_
    obtain ⟨h19, hx, A⟩ := A.s4 0 [.str ([] : List UInt8), .str ([] : List UInt8), .int .u8 0, .int .i64 0, .int .i64 0, .int .i64 0, .str ([] : List UInt8), .str ([] : List UInt8), .int .i64 0, .int .i64 0, .int .i64 0, .int .i64 0, .slice none 0, .str ([] : List UInt8)] [_, _, _, _, _, _, _, _, _, _, _, _, _, _]
    refine at_gS 1 [] hx H fun fr t H => ?_
    refine at_el 1 [(5, .int .i64 2)] H (fun _ => id) fun fr H => ?_
    refine aw_rt ?_
    obtain ⟨rfl, rfl⟩ := injB hm
    refine ⟨.inl rfl, .tuple [.agg [.str ([] : List UInt8), .str ([] : List UInt8), .int .u8 0, .int .i64 0, .int .i64 0, .int .i64 0, .str ([] : List UInt8), .str ([] : List UInt8), .int .i64 0, .int .i64 0, .int .i64 0, .int .i64 0, .slice none 0, .str ([] : List UInt8)], .int .i64 2], resL_many (.cell (rT H) (load_ldA (by kernel_rfl) (by kernel_rfl) (A.la 4 0 14)) (.tmp (rT H) .nil)), ?_⟩
    refine ⟨.tuple [.agg [.str ([] : List UInt8), .str ([] : List UInt8), .int .u8 0, .int .i64 0, .int .i64 0, .int .i64 0, .str ([] : List UInt8), .str ([] : List UInt8), .int .i64 0, .int .i64 0, .int .i64 0, .int .i64 0, vs e_S_api_Pair ([] : List S_api_Pair), .str ([] : List UInt8)], .int .i64 2], h19, by first | rfl | (simp only [fz3T, fz3A, fz3B, fz3R, fz2A, fz2R, fz2V, fz2I, fz2B, fz2S, fz2N, fzL0, fzL1, fz1I, fz1B, fz1S, fz1V, fz1N, Option.map_some] <;> rfl), ?_⟩
    replace A := A.k2 1 2
    exact ⟨rfl, A⟩
   refine aw_ks 5 id ?_
   refine at_gl 1 [] 64 5 12 A H fun fr t H => ?_
   have A1 := A.cut 0
   obtain ⟨hb, hm⟩ := need_some hm
   obtain ⟨r1, h20, hr, A1⟩ := HH.clone (C := cfg) (f := 32) (a := 0) (t := 82) (xs := p1.Extra) enc_S_api_Pair (by decide) A1 (by kernel_rfl) (l := exts) rfl (by kernel_rfl) (by kernel_rfl) rfl (firstV enc_S_api_Pair _ p1.Extra) (enc_S_api_Pair.canL _) hb
   replace A := A.g01 A1
   refine at_lc1 65 hr H fun fr t H => ?_
   obtain ⟨h21, hx, A⟩ := A.s4 12 [rowV r1 p1.Extra.length] [_, _, _, _, _, _, _, _, _, _, _, _, _, _]
   refine at_gs 1 [] hx H fun fr t H => ?_
   refine at_ns 3 id ?_
   refine at_l1 67 _ _ H (fun fr => .of (s_ldA (by kernel_rfl) (A.ldA 4 rfl (o := 0) (n := 14) ⟨Nat.le_of_ble_eq_true rfl, rfl⟩))) fun fr t H => ?_
   obtain ⟨h22, hx, A⟩ := A.s5 0 [.str x1, .str x3, .int .u8 p1.Kind, .int .i64 p1.Mode, .int .i64 p1.Uid, .int .i64 p1.Gid, .str p1.Uname, .str p1.Gname, .int .i64 p1.Major, .int .i64 p1.Minor, .int .i64 p1.Time.Sec, .int .i64 p1.Time.Nsec, rowV r1 p1.Extra.length, .str p1.Data] [_, _, _, _, _, _, _, _, _, _, _, _, _, _]
   refine at_lS hx H fun fr t H => ?_
   refine at_el 1 [(5, .int .i64 0)] H (fun _ => id) fun fr H => ?_
   refine aw_rt ?_
   obtain ⟨rfl, rfl⟩ := injB hm
   refine ⟨.inl rfl, .tuple [.agg [.str x1, .str x3, .int .u8 p1.Kind, .int .i64 p1.Mode, .int .i64 p1.Uid, .int .i64 p1.Gid, .str p1.Uname, .str p1.Gname, .int .i64 p1.Major, .int .i64 p1.Minor, .int .i64 p1.Time.Sec, .int .i64 p1.Time.Nsec, rowV r1 p1.Extra.length, .str p1.Data], .int .i64 0], resL_many (.cell (rT H) (load_ldA (by kernel_rfl) (by kernel_rfl) (A.la 5 0 14)) (.tmp (rT H) .nil)), ?_⟩
   obtain ⟨h23, hz0, A1⟩ := (A.front 0 rfl).frz (n := p1.Extra.length) (z := 2) (enc_S_api_Pair.lenL _) (by decide)
   replace A : HH g h23 [_, _, _, _, _, _] F := A1
   refine ⟨.tuple [.agg [.str x1, .str x3, .int .u8 p1.Kind, .int .i64 p1.Mode, .int .i64 p1.Uid, .int .i64 p1.Gid, .str p1.Uname, .str p1.Gname, .int .i64 p1.Major, .int .i64 p1.Minor, .int .i64 p1.Time.Sec, .int .i64 p1.Time.Nsec, vs e_S_api_Pair p1.Extra, .str p1.Data], .int .i64 0], h23, by first | rfl | (simp only [fz3T, fz3A, fz3B, fz3R, fz2A, fz2R, fz2V, fz2I, fz2B, fz2S, fz2N, fzL0, fzL1, fz1I, fz1B, fz1S, fz1V, fz1N, Option.map_some, hz0] <;> rfl), ?_⟩
   replace A := A.k2 1 2
   exact ⟨rfl, A⟩
  ·obtain ⟨rfl, rfl⟩ := injB hm
   refine ⟨.inl rfl, .tuple [.agg [.str ([] : List UInt8), .str ([] : List UInt8), .int .u8 0, .int .i64 0, .int .i64 0, .int .i64 0, .str ([] : List UInt8), .str ([] : List UInt8), .int .i64 0, .int .i64 0, .int .i64 0, .int .i64 0, .slice none 0, .str ([] : List UInt8)], .int .i64 x5], resL_many (.cell (rT H) (load_ldA (by kernel_rfl) (by kernel_rfl) (A.la 4 0 14)) (.tmp (rT H) .nil)), ?_⟩
   refine ⟨.tuple [.agg [.str ([] : List UInt8), .str ([] : List UInt8), .int .u8 0, .int .i64 0, .int .i64 0, .int .i64 0, .str ([] : List UInt8), .str ([] : List UInt8), .int .i64 0, .int .i64 0, .int .i64 0, .int .i64 0, vs e_S_api_Pair ([] : List S_api_Pair), .str ([] : List UInt8)], .int .i64 x5], h14, by first | rfl | (simp only [fz3T, fz3A, fz3B, fz3R, fz2A, fz2R, fz2V, fz2I, fz2B, fz2S, fz2N, fzL0, fzL1, fz1I, fz1B, fz1S, fz1V, fz1N, Option.map_some] <;> rfl), ?_⟩
   replace A := A.k2 1 2
   exact ⟨rfl, A⟩
  exact hF.elim
 rcases iteB_some hm with ⟨hb, hm⟩ | ⟨hk2, hm⟩
 ·refine at_l1 29 (.func (.func 29) [] []) h10 H (fun fr => .of (s_lkF (by kernel_rfl) (HH.mlookI (P := cfg.P) A 0 rfl (t := 77) (kt := 5) (et := 76) (by kernel_rfl) (kd' := .u8) (by kernel_rfl) (x := p1.Kind) (.miss hk1 (.hit hb))))) fun fr t H => ?_
  refine at_el 1 [(9, .func (.func 29) [] [])] H (fun _ => id) fun fr H => ?_
  refine aw_sq ?_
  obtain ⟨o2, ho, hm⟩ := bind_some hm
  refine aw_mono (Q' := fun e fr' h' => (∃ x12, e = .normal ∧ .inl x12 = o2 ∧ Has fr' 68 [(3, .ptr (some (h.size, 0))), (4, .ptr (some (h1.size, 0))), (6, .ptr (some (h2.size, 0)))] ∧ HH g h' [.obj h6.size (.map 2 [(.int .u8 50, .func (.func 28) [] []), (.int .u8 49, .func (.func 29) [] [])]), .obj bp0 (.cells none 2 [rowV rp0_0 p0.l_.length, .int .i64 p0.name_]), .lst rp0_0 58 (lst (eP e_S_rewrite_Rule) p0.l_), .obj h2.size (.cells none 2 [.str x1, .str x12, .int .u8 p1.Kind, .int .i64 p1.Mode, .int .i64 p1.Uid, .int .i64 p1.Gid, .str p1.Uname, .str p1.Gname, .int .i64 p1.Major, .int .i64 p1.Minor, .int .i64 p1.Time.Sec, .int .i64 p1.Time.Nsec, vs e_S_api_Pair p1.Extra, .str p1.Data]), .obj h1.size (.cells none 2 [.str ([] : List UInt8), .str ([] : List UInt8), .int .u8 0, .int .i64 0, .int .i64 0, .int .i64 0, .str ([] : List UInt8), .str ([] : List UInt8), .int .i64 0, .int .i64 0, .int .i64 0, .int .i64 0, .slice none 0, .str ([] : List UInt8)]), .obj h.size (.cells none 2 (e_S_api_Member p1))] F) ∨ (∃ x13 x14, e = .ret ∧ .inr (x13, x14) = o2 ∧ Has fr' 68 [(4, .ptr (some (h1.size, 0))), (5, .int .i64 x14)] ∧ HH g h' [.obj h6.size (.map 2 [(.int .u8 50, .func (.func 28) [] []), (.int .u8 49, .func (.func 29) [] [])]), .obj bp0 (.cells none 2 [rowV rp0_0 p0.l_.length, .int .i64 p0.name_]), .lst rp0_0 58 (lst (eP e_S_rewrite_Rule) p0.l_), .obj h2.size (.cells none 2 [.str x1, .str x13, .int .u8 p1.Kind, .int .i64 p1.Mode, .int .i64 p1.Uid, .int .i64 p1.Gid, .str p1.Uname, .str p1.Gname, .int .i64 p1.Major, .int .i64 p1.Minor, .int .i64 p1.Time.Sec, .int .i64 p1.Time.Nsec, vs e_S_api_Pair p1.Extra, .str p1.Data]), .obj h1.size (.cells none 2 [.str ([] : List UInt8), .str ([] : List UInt8), .int .u8 0, .int .i64 0, .int .i64 0, .int .i64 0, .str ([] : List UInt8), .str ([] : List UInt8), .int .i64 0, .int .i64 0, .int .i64 0, .int .i64 0, .slice none 0, .str ([] : List UInt8)]), .obj h.size (.cells none 2 (e_S_api_Member p1))] F) ∨ False) ?_ ?_
  ·replace hm := ho
   clear ho
   refine aw_sr 2 ?_
   refine at_el 2 [(31, .bool true)] H (fun _ => id) fun fr H => ?_
   refine aw_true (x := .tmp 31) (by kernel_rfl) H (fun fr => by kernel_rfl) ?_
   refine aw_sr 11 ?_
   refine at_gl 2 [(33, .ptr (some (bp0, 0)))] 35 5 1 A H fun fr t H => ?_
   replace A := A.k6 1 2 0 3 4 5
   obtain ⟨⟨x15, x16⟩, hx, hm⟩ := bind_some hm
   obtain ⟨v1, h24, hr, rfl, A1⟩ := ok_scope_Rules_apply_sPOSF_3 (av := [.ptr (some (bp0, 0)), .str p1.Link, .func (.func 29) [] []]) hx (A.cut 2)
   replace A := A.g22 A1
   refine at_gc1 1 [] 37 hr H fun fr t H => ?_
   obtain ⟨h25, hx, A⟩ := A.s3 1 [.str x15] [_, _, _, _, _, _, _, _, _, _, _, _, _, _]
   refine at_gs 4 [(39, .int .i64 x16)] hx H fun fr t H => ?_
   refine at_se 1 [(3, .ptr (some (h.size, 0))), (4, .ptr (some (h1.size, 0))), (6, .ptr (some (h2.size, 0))), (8, .int .i64 x16)] H fun fr H => ?_
   refine at_ns 2 id ?_
   refine at_el 2 [(42, .bool (x16 != (0 : Int)))] H (fun _ => id) fun fr H => ?_
   refine aw_if 42 H hm (fun hb hm H => ?_) fun hb hm H => ?_
   ·refine aw_sr 4 ?_
    obtain ⟨h26, hx, A⟩ := A.s4 0 [.str ([] : List UInt8), .str ([] : List UInt8), .int .u8 0, .int .i64 0, .int .i64 0, .int .i64 0, .str ([] : List UInt8), .str ([] : List UInt8), .int .i64 0, .int .i64 0, .int .i64 0, .int .i64 0, .slice none 0, .str ([] : List UInt8)] [_, _, _, _, _, _, _, _, _, _, _, _, _, _]
    refine at_gS 2 [(44, .int .i64 x16)] hx H fun fr t H => ?_
    refine at_el 1 [(5, .int .i64 x16)] H (fun _ => id) fun fr H => ?_
    refine aw_rt ?_
    replace A := A.k6 2 0 1 3 4 5
    exact .inr (.inl ⟨_, _, rfl, injA hm, H.ls, A⟩)
   refine aw_sk ?_
   replace A := A.k6 2 0 1 3 4 5
   exact .inl ⟨_, rfl, injA hm, H.ls, A⟩
  clear ho
  clear A
  intro e fr h27 hQ
  rcases hQ with ⟨x12, rfl, rfl, H, A⟩ | ⟨x13, x14, rfl, rfl, H, A⟩ | hF
  ·show AW _ _ _ _ _ _ _
   refine aw_sq ?_
   refine aw_sr 17 ?_
   refine at_gl 1 [] 46 3 0 A H fun fr t H => ?_
   refine at_sl 2 [(48, .bool (x1 == ([] : List UInt8)))] H fun fr H => ?_
   obtain ⟨x17, ho, hm⟩ := bind_some hm
   refine at_cl 6 (fun fr' h' => Has fr' 68 [(3, .ptr (some (h.size, 0))), (4, .ptr (some (h1.size, 0))), (6, .ptr (some (h2.size, 0))), (54, .bool x17)] ∧ HH g h' [.obj h6.size (.map 2 [(.int .u8 50, .func (.func 28) [] []), (.int .u8 49, .func (.func 29) [] [])]), .obj bp0 (.cells none 2 [rowV rp0_0 p0.l_.length, .int .i64 p0.name_]), .lst rp0_0 58 (lst (eP e_S_rewrite_Rule) p0.l_), .obj h2.size (.cells none 2 [.str x1, .str x12, .int .u8 p1.Kind, .int .i64 p1.Mode, .int .i64 p1.Uid, .int .i64 p1.Gid, .str p1.Uname, .str p1.Gname, .int .i64 p1.Major, .int .i64 p1.Minor, .int .i64 p1.Time.Sec, .int .i64 p1.Time.Nsec, vs e_S_api_Pair p1.Extra, .str p1.Data]), .obj h1.size (.cells none 2 [.str ([] : List UInt8), .str ([] : List UInt8), .int .u8 0, .int .i64 0, .int .i64 0, .int .i64 0, .str ([] : List UInt8), .str ([] : List UInt8), .int .i64 0, .int .i64 0, .int .i64 0, .int .i64 0, .slice none 0, .str ([] : List UInt8)]), .obj h.size (.cells none 2 (e_S_api_Member p1))] F) ?_ ?_
   ·rcases iteB_some ho with ⟨hb, hm⟩ | ⟨hb, hm⟩
    ·replace H := H.kn 48 hb
     refine at_sl 6 [(54, .bool true)] H fun fr H => ?_
     obtain rfl := injA hm
     exact at_nil ⟨H.ls, A⟩
    replace H := H.kn 48 hb
    refine at_gl 1 [] 50 3 0 A H fun fr t H => ?_
    refine at_gl 1 [] 52 5 0 A H fun fr t H => ?_
    obtain ⟨x18, hx, hm⟩ := bind_some hm
    obtain ⟨v1, h29, hr, rfl, A1⟩ := ok_scope_spoilt (av := [.str x1, .str p1.Name]) hx (A.cut 0)
    replace A := A.g00 A1
    refine at_lc1 53 hr H fun fr t H => ?_
    refine at_sl 1 [(54, .bool x18)] H fun fr H => ?_
    obtain rfl := injA hm
    exact at_nil ⟨H.ls, A⟩
   clear A
   intro t fr h28 hK
   obtain ⟨H, A⟩ := hK
   refine at_sl 1 [(55, .bool x17)] H fun fr H => ?_
   obtain ⟨x19, ho, hm⟩ := bind_some hm
   refine at_cl 6 (fun fr' h' => Has fr' 68 [(3, .ptr (some (h.size, 0))), (4, .ptr (some (h1.size, 0))), (6, .ptr (some (h2.size, 0))), (61, .bool x19)] ∧ HH g h' [.obj h6.size (.map 2 [(.int .u8 50, .func (.func 28) [] []), (.int .u8 49, .func (.func 29) [] [])]), .obj bp0 (.cells none 2 [rowV rp0_0 p0.l_.length, .int .i64 p0.name_]), .lst rp0_0 58 (lst (eP e_S_rewrite_Rule) p0.l_), .obj h2.size (.cells none 2 [.str x1, .str x12, .int .u8 p1.Kind, .int .i64 p1.Mode, .int .i64 p1.Uid, .int .i64 p1.Gid, .str p1.Uname, .str p1.Gname, .int .i64 p1.Major, .int .i64 p1.Minor, .int .i64 p1.Time.Sec, .int .i64 p1.Time.Nsec, vs e_S_api_Pair p1.Extra, .str p1.Data]), .obj h1.size (.cells none 2 [.str ([] : List UInt8), .str ([] : List UInt8), .int .u8 0, .int .i64 0, .int .i64 0, .int .i64 0, .str ([] : List UInt8), .str ([] : List UInt8), .int .i64 0, .int .i64 0, .int .i64 0, .int .i64 0, .slice none 0, .str ([] : List UInt8)]), .obj h.size (.cells none 2 (e_S_api_Member p1))] F) ?_ ?_
   ·rcases iteB_some ho with ⟨hb, hm⟩ | ⟨hb, hm⟩
    ·replace H := H.kn 55 hb
     refine at_sl 6 [(61, .bool true)] H fun fr H => ?_
     obtain rfl := injA hm
     exact at_nil ⟨H.ls, A⟩
    replace H := H.kn 55 hb
    refine at_gl 1 [] 57 3 1 A H fun fr t H => ?_
    refine at_gl 1 [] 59 5 1 A H fun fr t H => ?_
    obtain ⟨x20, hx, hm⟩ := bind_some hm
    obtain ⟨v1, h31, hr, rfl, A1⟩ := ok_scope_spoilt (av := [.str x12, .str p1.Link]) hx (A.cut 0)
    replace A := A.g00 A1
    refine at_lc1 60 hr H fun fr t H => ?_
    refine at_sl 1 [(61, .bool x20)] H fun fr H => ?_
    obtain rfl := injA hm
    exact at_nil ⟨H.ls, A⟩
   clear A
   intro t fr h30 hK
   obtain ⟨H, A⟩ := hK
   refine at_nl id ?_
   refine aw_if 61 H hm (fun hb hm H => ?_) fun hb hm H => ?_
   ·refine aw_sr 3 ?_
    obtain ⟨h32, hx, A⟩ := A.s4 0 [.str ([] : List UInt8), .str ([] : List UInt8), .int .u8 0, .int .i64 0, .int .i64 0, .int .i64 0, .str ([] : List UInt8), .str ([] : List UInt8), .int .i64 0, .int .i64 0, .int .i64 0, .int .i64 0, .slice none 0, .str ([] : List UInt8)] [_, _, _, _, _, _, _, _, _, _, _, _, _, _]
    refine at_gS 1 [] hx H fun fr t H => ?_
    refine at_el 1 [(5, .int .i64 2)] H (fun _ => id) fun fr H => ?_
    refine aw_rt ?_
    obtain ⟨rfl, rfl⟩ := injB hm
    refine ⟨.inl rfl, .tuple [.agg [.str ([] : List UInt8), .str ([] : List UInt8), .int .u8 0, .int .i64 0, .int .i64 0, .int .i64 0, .str ([] : List UInt8), .str ([] : List UInt8), .int .i64 0, .int .i64 0, .int .i64 0, .int .i64 0, .slice none 0, .str ([] : List UInt8)], .int .i64 2], resL_many (.cell (rT H) (load_ldA (by kernel_rfl) (by kernel_rfl) (A.la 4 0 14)) (.tmp (rT H) .nil)), ?_⟩
    refine ⟨.tuple [.agg [.str ([] : List UInt8), .str ([] : List UInt8), .int .u8 0, .int .i64 0, .int .i64 0, .int .i64 0, .str ([] : List UInt8), .str ([] : List UInt8), .int .i64 0, .int .i64 0, .int .i64 0, .int .i64 0, vs e_S_api_Pair ([] : List S_api_Pair), .str ([] : List UInt8)], .int .i64 2], h32, by first | rfl | (simp only [fz3T, fz3A, fz3B, fz3R, fz2A, fz2R, fz2V, fz2I, fz2B, fz2S, fz2N, fzL0, fzL1, fz1I, fz1B, fz1S, fz1V, fz1N, Option.map_some] <;> rfl), ?_⟩
    replace A := A.k2 1 2
    exact ⟨rfl, A⟩
   refine aw_ks 5 id ?_
   refine at_gl 1 [] 64 5 12 A H fun fr t H => ?_
   have A1 := A.cut 0
   obtain ⟨hb, hm⟩ := need_some hm
   obtain ⟨r2, h33, hr, A1⟩ := HH.clone (C := cfg) (f := 32) (a := 0) (t := 82) (xs := p1.Extra) enc_S_api_Pair (by decide) A1 (by kernel_rfl) (l := exts) rfl (by kernel_rfl) (by kernel_rfl) rfl (firstV enc_S_api_Pair _ p1.Extra) (enc_S_api_Pair.canL _) hb
   replace A := A.g01 A1
   refine at_lc1 65 hr H fun fr t H => ?_
   obtain ⟨h34, hx, A⟩ := A.s4 12 [rowV r2 p1.Extra.length] [_, _, _, _, _, _, _, _, _, _, _, _, _, _]
   refine at_gs 1 [] hx H fun fr t H => ?_
   refine at_ns 3 id ?_
   refine at_l1 67 _ _ H (fun fr => .of (s_ldA (by kernel_rfl) (A.ldA 4 rfl (o := 0) (n := 14) ⟨Nat.le_of_ble_eq_true rfl, rfl⟩))) fun fr t H => ?_
   obtain ⟨h35, hx, A⟩ := A.s5 0 [.str x1, .str x12, .int .u8 p1.Kind, .int .i64 p1.Mode, .int .i64 p1.Uid, .int .i64 p1.Gid, .str p1.Uname, .str p1.Gname, .int .i64 p1.Major, .int .i64 p1.Minor, .int .i64 p1.Time.Sec, .int .i64 p1.Time.Nsec, rowV r2 p1.Extra.length, .str p1.Data] [_, _, _, _, _, _, _, _, _, _, _, _, _, _]
   refine at_lS hx H fun fr t H => ?_
   refine at_el 1 [(5, .int .i64 0)] H (fun _ => id) fun fr H => ?_
   refine aw_rt ?_
   obtain ⟨rfl, rfl⟩ := injB hm
   refine ⟨.inl rfl, .tuple [.agg [.str x1, .str x12, .int .u8 p1.Kind, .int .i64 p1.Mode, .int .i64 p1.Uid, .int .i64 p1.Gid, .str p1.Uname, .str p1.Gname, .int .i64 p1.Major, .int .i64 p1.Minor, .int .i64 p1.Time.Sec, .int .i64 p1.Time.Nsec, rowV r2 p1.Extra.length, .str p1.Data], .int .i64 0], resL_many (.cell (rT H) (load_ldA (by kernel_rfl) (by kernel_rfl) (A.la 5 0 14)) (.tmp (rT H) .nil)), ?_⟩
   obtain ⟨h36, hz0, A1⟩ := (A.front 0 rfl).frz (n := p1.Extra.length) (z := 2) (enc_S_api_Pair.lenL _) (by decide)
   replace A : HH g h36 [_, _, _, _, _, _] F := A1
   refine ⟨.tuple [.agg [.str x1, .str x12, .int .u8 p1.Kind, .int .i64 p1.Mode, .int .i64 p1.Uid, .int .i64 p1.Gid, .str p1.Uname, .str p1.Gname, .int .i64 p1.Major, .int .i64 p1.Minor, .int .i64 p1.Time.Sec, .int .i64 p1.Time.Nsec, vs e_S_api_Pair p1.Extra, .str p1.Data], .int .i64 0], h36, by first | rfl | (simp only [fz3T, fz3A, fz3B, fz3R, fz2A, fz2R, fz2V, fz2I, fz2B, fz2S, fz2N, fzL0, fzL1, fz1I, fz1B, fz1S, fz1V, fz1N, Option.map_some, hz0] <;> rfl), ?_⟩
   replace A := A.k2 1 2
   exact ⟨rfl, A⟩
  ·obtain ⟨rfl, rfl⟩ := injB hm
   refine ⟨.inl rfl, .tuple [.agg [.str ([] : List UInt8), .str ([] : List UInt8), .int .u8 0, .int .i64 0, .int .i64 0, .int .i64 0, .str ([] : List UInt8), .str ([] : List UInt8), .int .i64 0, .int .i64 0, .int .i64 0, .int .i64 0, .slice none 0, .str ([] : List UInt8)], .int .i64 x14], resL_many (.cell (rT H) (load_ldA (by kernel_rfl) (by kernel_rfl) (A.la 4 0 14)) (.tmp (rT H) .nil)), ?_⟩
   refine ⟨.tuple [.agg [.str ([] : List UInt8), .str ([] : List UInt8), .int .u8 0, .int .i64 0, .int .i64 0, .int .i64 0, .str ([] : List UInt8), .str ([] : List UInt8), .int .i64 0, .int .i64 0, .int .i64 0, .int .i64 0, vs e_S_api_Pair ([] : List S_api_Pair), .str ([] : List UInt8)], .int .i64 x14], h27, by first | rfl | (simp only [fz3T, fz3A, fz3B, fz3R, fz2A, fz2R, fz2V, fz2I, fz2B, fz2S, fz2N, fzL0, fzL1, fz1I, fz1B, fz1S, fz1V, fz1N, Option.map_some] <;> rfl), ?_⟩
   replace A := A.k2 1 2
   exact ⟨rfl, A⟩
  exact hF.elim
 refine at_l1 29 (.nilFunc) h10 H (fun fr => .of (s_lkF (by kernel_rfl) (HH.mlookIN (P := cfg.P) A 0 rfl (t := 77) (kt := 5) (et := 76) (by kernel_rfl) (kd' := .u8) (by kernel_rfl) (z := .nilFunc) (by kernel_rfl) (x := p1.Kind) (.miss hk1 (.miss hk2 (.nil)))))) fun fr t H => ?_
 refine at_el 1 [(9, .nilFunc)] H (fun _ => id) fun fr H => ?_
 refine aw_sq ?_
 obtain ⟨o3, ho, hm⟩ := bind_some hm
 refine aw_mono (Q' := fun e fr' h' => (e = .normal ∧ () = o3 ∧ Has fr' 68 [(3, .ptr (some (h.size, 0))), (4, .ptr (some (h1.size, 0))), (6, .ptr (some (h2.size, 0)))] ∧ HH g h' [.obj h6.size (.map 2 [(.int .u8 50, .func (.func 28) [] []), (.int .u8 49, .func (.func 29) [] [])]), .obj bp0 (.cells none 2 [rowV rp0_0 p0.l_.length, .int .i64 p0.name_]), .lst rp0_0 58 (lst (eP e_S_rewrite_Rule) p0.l_), .obj h2.size (.cells none 2 [.str x1, .str p1.Link, .int .u8 p1.Kind, .int .i64 p1.Mode, .int .i64 p1.Uid, .int .i64 p1.Gid, .str p1.Uname, .str p1.Gname, .int .i64 p1.Major, .int .i64 p1.Minor, .int .i64 p1.Time.Sec, .int .i64 p1.Time.Nsec, vs e_S_api_Pair p1.Extra, .str p1.Data]), .obj h1.size (.cells none 2 [.str ([] : List UInt8), .str ([] : List UInt8), .int .u8 0, .int .i64 0, .int .i64 0, .int .i64 0, .str ([] : List UInt8), .str ([] : List UInt8), .int .i64 0, .int .i64 0, .int .i64 0, .int .i64 0, .slice none 0, .str ([] : List UInt8)]), .obj h.size (.cells none 2 (e_S_api_Member p1))] F) ∨ False) ?_ ?_
 ·replace hm := ho
  clear ho
  refine aw_sr 2 ?_
  refine at_el 2 [(31, .bool false)] H (fun _ => id) fun fr H => ?_
  refine aw_false (x := .tmp 31) (by kernel_rfl) H (fun fr => by kernel_rfl) ?_
  refine aw_sk ?_
  exact .inl ⟨rfl, injA hm, H.ls, A⟩
 clear ho
 clear A
 intro e fr h37 hQ
 rcases hQ with ⟨rfl, rfl, H, A⟩ | hF
 ·show AW _ _ _ _ _ _ _
  refine aw_sq ?_
  refine aw_sr 17 ?_
  refine at_gl 1 [] 46 3 0 A H fun fr t H => ?_
  refine at_sl 2 [(48, .bool (x1 == ([] : List UInt8)))] H fun fr H => ?_
  obtain ⟨x21, ho, hm⟩ := bind_some hm
  refine at_cl 6 (fun fr' h' => Has fr' 68 [(3, .ptr (some (h.size, 0))), (4, .ptr (some (h1.size, 0))), (6, .ptr (some (h2.size, 0))), (54, .bool x21)] ∧ HH g h' [.obj h6.size (.map 2 [(.int .u8 50, .func (.func 28) [] []), (.int .u8 49, .func (.func 29) [] [])]), .obj bp0 (.cells none 2 [rowV rp0_0 p0.l_.length, .int .i64 p0.name_]), .lst rp0_0 58 (lst (eP e_S_rewrite_Rule) p0.l_), .obj h2.size (.cells none 2 [.str x1, .str p1.Link, .int .u8 p1.Kind, .int .i64 p1.Mode, .int .i64 p1.Uid, .int .i64 p1.Gid, .str p1.Uname, .str p1.Gname, .int .i64 p1.Major, .int .i64 p1.Minor, .int .i64 p1.Time.Sec, .int .i64 p1.Time.Nsec, vs e_S_api_Pair p1.Extra, .str p1.Data]), .obj h1.size (.cells none 2 [.str ([] : List UInt8), .str ([] : List UInt8), .int .u8 0, .int .i64 0, .int .i64 0, .int .i64 0, .str ([] : List UInt8), .str ([] : List UInt8), .int .i64 0, .int .i64 0, .int .i64 0, .int .i64 0, .slice none 0, .str ([] : List UInt8)]), .obj h.size (.cells none 2 (e_S_api_Member p1))] F) ?_ ?_
  ·rcases iteB_some ho with ⟨hb, hm⟩ | ⟨hb, hm⟩
   ·replace H := H.kn 48 hb
    refine at_sl 6 [(54, .bool true)] H fun fr H => ?_
    obtain rfl := injA hm
    exact at_nil ⟨H.ls, A⟩
   replace H := H.kn 48 hb
   refine at_gl 1 [] 50 3 0 A H fun fr t H => ?_
   refine at_gl 1 [] 52 5 0 A H fun fr t H => ?_
   obtain ⟨x22, hx, hm⟩ := bind_some hm
   obtain ⟨v1, h39, hr, rfl, A1⟩ := ok_scope_spoilt (av := [.str x1, .str p1.Name]) hx (A.cut 0)
   replace A := A.g00 A1
   refine at_lc1 53 hr H fun fr t H => ?_
   refine at_sl 1 [(54, .bool x22)] H fun fr H => ?_
   obtain rfl := injA hm
   exact at_nil ⟨H.ls, A⟩
  clear A
  intro t fr h38 hK
  obtain ⟨H, A⟩ := hK
  refine at_sl 1 [(55, .bool x21)] H fun fr H => ?_
  obtain ⟨x23, ho, hm⟩ := bind_some hm
  refine at_cl 6 (fun fr' h' => Has fr' 68 [(3, .ptr (some (h.size, 0))), (4, .ptr (some (h1.size, 0))), (6, .ptr (some (h2.size, 0))), (61, .bool x23)] ∧ HH g h' [.obj h6.size (.map 2 [(.int .u8 50, .func (.func 28) [] []), (.int .u8 49, .func (.func 29) [] [])]), .obj bp0 (.cells none 2 [rowV rp0_0 p0.l_.length, .int .i64 p0.name_]), .lst rp0_0 58 (lst (eP e_S_rewrite_Rule) p0.l_), .obj h2.size (.cells none 2 [.str x1, .str p1.Link, .int .u8 p1.Kind, .int .i64 p1.Mode, .int .i64 p1.Uid, .int .i64 p1.Gid, .str p1.Uname, .str p1.Gname, .int .i64 p1.Major, .int .i64 p1.Minor, .int .i64 p1.Time.Sec, .int .i64 p1.Time.Nsec, vs e_S_api_Pair p1.Extra, .str p1.Data]), .obj h1.size (.cells none 2 [.str ([] : List UInt8), .str ([] : List UInt8), .int .u8 0, .int .i64 0, .int .i64 0, .int .i64 0, .str ([] : List UInt8), .str ([] : List UInt8), .int .i64 0, .int .i64 0, .int .i64 0, .int .i64 0, .slice none 0, .str ([] : List UInt8)]), .obj h.size (.cells none 2 (e_S_api_Member p1))] F) ?_ ?_
  ·rcases iteB_some ho with ⟨hb, hm⟩ | ⟨hb, hm⟩
   ·replace H := H.kn 55 hb
    refine at_sl 6 [(61, .bool true)] H fun fr H => ?_
    obtain rfl := injA hm
    exact at_nil ⟨H.ls, A⟩
   replace H := H.kn 55 hb
   refine at_gl 1 [] 57 3 1 A H fun fr t H => ?_
   refine at_gl 1 [] 59 5 1 A H fun fr t H => ?_
   obtain ⟨x24, hx, hm⟩ := bind_some hm
   obtain ⟨v1, h41, hr, rfl, A1⟩ := ok_scope_spoilt (av := [.str p1.Link, .str p1.Link]) hx (A.cut 0)
   replace A := A.g00 A1
   refine at_lc1 60 hr H fun fr t H => ?_
   refine at_sl 1 [(61, .bool x24)] H fun fr H => ?_
   obtain rfl := injA hm
   exact at_nil ⟨H.ls, A⟩
  clear A
  intro t fr h40 hK
  obtain ⟨H, A⟩ := hK
  refine at_nl id ?_
  refine aw_if 61 H hm (fun hb hm H => ?_) fun hb hm H => ?_
  ·refine aw_sr 3 ?_
   obtain ⟨h42, hx, A⟩ := A.s4 0 [.str ([] : List UInt8), .str ([] : List UInt8), .int .u8 0, .int .i64 0, .int .i64 0, .int .i64 0, .str ([] : List UInt8), .str ([] : List UInt8), .int .i64 0, .int .i64 0, .int .i64 0, .int .i64 0, .slice none 0, .str ([] : List UInt8)] [_, _, _, _, _, _, _, _, _, _, _, _, _, _]
   refine at_gS 1 [] hx H fun fr t H => ?_
   refine at_el 1 [(5, .int .i64 2)] H (fun _ => id) fun fr H => ?_
   refine aw_rt ?_
   obtain ⟨rfl, rfl⟩ := injB hm
   refine ⟨.inl rfl, .tuple [.agg [.str ([] : List UInt8), .str ([] : List UInt8), .int .u8 0, .int .i64 0, .int .i64 0, .int .i64 0, .str ([] : List UInt8), .str ([] : List UInt8), .int .i64 0, .int .i64 0, .int .i64 0, .int .i64 0, .slice none 0, .str ([] : List UInt8)], .int .i64 2], resL_many (.cell (rT H) (load_ldA (by kernel_rfl) (by kernel_rfl) (A.la 4 0 14)) (.tmp (rT H) .nil)), ?_⟩
   refine ⟨.tuple [.agg [.str ([] : List UInt8), .str ([] : List UInt8), .int .u8 0, .int .i64 0, .int .i64 0, .int .i64 0, .str ([] : List UInt8), .str ([] : List UInt8), .int .i64 0, .int .i64 0, .int .i64 0, .int .i64 0, vs e_S_api_Pair ([] : List S_api_Pair), .str ([] : List UInt8)], .int .i64 2], h42, by first | rfl | (simp only [fz3T, fz3A, fz3B, fz3R, fz2A, fz2R, fz2V, fz2I, fz2B, fz2S, fz2N, fzL0, fzL1, fz1I, fz1B, fz1S, fz1V, fz1N, Option.map_some] <;> rfl), ?_⟩
   replace A := A.k2 1 2
   exact ⟨rfl, A⟩
  refine aw_ks 5 id ?_
  refine at_gl 1 [] 64 5 12 A H fun fr t H => ?_
  have A1 := A.cut 0
  obtain ⟨hb, hm⟩ := need_some hm
  obtain ⟨r3, h43, hr, A1⟩ := HH.clone (C := cfg) (f := 32) (a := 0) (t := 82) (xs := p1.Extra) enc_S_api_Pair (by decide) A1 (by kernel_rfl) (l := exts) rfl (by kernel_rfl) (by kernel_rfl) rfl (firstV enc_S_api_Pair _ p1.Extra) (enc_S_api_Pair.canL _) hb
  replace A := A.g01 A1
  refine at_lc1 65 hr H fun fr t H => ?_
  obtain ⟨h44, hx, A⟩ := A.s4 12 [rowV r3 p1.Extra.length] [_, _, _, _, _, _, _, _, _, _, _, _, _, _]
  refine at_gs 1 [] hx H fun fr t H => ?_
  refine at_ns 3 id ?_
  refine at_l1 67 _ _ H (fun fr => .of (s_ldA (by kernel_rfl) (A.ldA 4 rfl (o := 0) (n := 14) ⟨Nat.le_of_ble_eq_true rfl, rfl⟩))) fun fr t H => ?_
  obtain ⟨h45, hx, A⟩ := A.s5 0 [.str x1, .str p1.Link, .int .u8 p1.Kind, .int .i64 p1.Mode, .int .i64 p1.Uid, .int .i64 p1.Gid, .str p1.Uname, .str p1.Gname, .int .i64 p1.Major, .int .i64 p1.Minor, .int .i64 p1.Time.Sec, .int .i64 p1.Time.Nsec, rowV r3 p1.Extra.length, .str p1.Data] [_, _, _, _, _, _, _, _, _, _, _, _, _, _]
  refine at_lS hx H fun fr t H => ?_
  refine at_el 1 [(5, .int .i64 0)] H (fun _ => id) fun fr H => ?_
  refine aw_rt ?_
  obtain ⟨rfl, rfl⟩ := injB hm
  refine ⟨.inl rfl, .tuple [.agg [.str x1, .str p1.Link, .int .u8 p1.Kind, .int .i64 p1.Mode, .int .i64 p1.Uid, .int .i64 p1.Gid, .str p1.Uname, .str p1.Gname, .int .i64 p1.Major, .int .i64 p1.Minor, .int .i64 p1.Time.Sec, .int .i64 p1.Time.Nsec, rowV r3 p1.Extra.length, .str p1.Data], .int .i64 0], resL_many (.cell (rT H) (load_ldA (by kernel_rfl) (by kernel_rfl) (A.la 5 0 14)) (.tmp (rT H) .nil)), ?_⟩
  obtain ⟨h46, hz0, A1⟩ := (A.front 0 rfl).frz (n := p1.Extra.length) (z := 2) (enc_S_api_Pair.lenL _) (by decide)
  replace A : HH g h46 [_, _, _, _, _, _] F := A1
  refine ⟨.tuple [.agg [.str x1, .str p1.Link, .int .u8 p1.Kind, .int .i64 p1.Mode, .int .i64 p1.Uid, .int .i64 p1.Gid, .str p1.Uname, .str p1.Gname, .int .i64 p1.Major, .int .i64 p1.Minor, .int .i64 p1.Time.Sec, .int .i64 p1.Time.Nsec, vs e_S_api_Pair p1.Extra, .str p1.Data], .int .i64 0], h46, by first | rfl | (simp only [fz3T, fz3A, fz3B, fz3R, fz2A, fz2R, fz2V, fz2I, fz2B, fz2S, fz2N, fzL0, fzL1, fz1I, fz1B, fz1S, fz1V, fz1N, Option.map_some, hz0] <;> rfl), ?_⟩
  replace A := A.k2 1 2
  exact ⟨rfl, A⟩
 exact hF.elim
noncomputable def M_scope_Rules_Len_sPO (p0 : S_scope_Rules) : Option (Int) :=
 some (p0.l_.length : Int)
theorem ok_scope_Rules_Len_sPO {p0 bp0 rp0_0 q0} (hm : M_scope_Rules_Len_sPO p0 = some q0) (A : HH g h [.obj bp0 (.cells none 2 [rowV rp0_0 p0.l_.length, .int .i64 p0.name_]), .lst rp0_0 58 (lst (eP e_S_rewrite_Rule) p0.l_)] F) (hc : canL (cfg.still 34) av = [.ptr (some (bp0, 0))] := by kernel_rfl) : ∃ v h', Runs cfg g h 34 av v h' ∧ v = .int .i64 q0 ∧ HH g h' [.obj bp0 (.cells none 2 [rowV rp0_0 p0.l_.length, .int .i64 p0.name_]), .lst rp0_0 58 (lst (eP e_S_rewrite_Rule) p0.l_)] F := by
 refine rq1 8 [.tmp 2] hc ?_
 clear hc
 unfold M_scope_Rules_Len_sPO at hm
 refine bg 8 [(0, .ptr (some (bp0, 0)))] fun fr H => ?_
 refine aw_sr 1 ?_
 refine at_es 1 [] 6 H (fun _ => id) fun fr H => ?_
 refine at_gl 3 [] 6 0 0 A H fun fr t H => ?_
 refine at_el 2 [(2, .int .i64 (p0.l_.length : Int))] H (fun _ => id) fun fr H => ?_
 refine aw_rt ?_
 obtain rfl := injA hm
 exact ⟨.inl rfl, _, rH H, rfl, A⟩
end Go.Av.L
