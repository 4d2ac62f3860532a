/-
 Models of functions, and that the abstract run tells them. Written by lift2.py.
-/
import Derived.Test.YtkdlmohhklimjaaGreatDoorKCfg
import Derived.Test.YtkdlmohhklimjaaGreatDoorK0
namespace Go.Av.L
open Go.Av Go.Lib
set_option maxRecDepth 10000
set_option linter.unusedVariables false
set_option linter.unusedSimpArgs false
variable {g : Gd} {h : AHeap} {F : List Ck} {av : List AVal}
noncomputable def M_subst_put_sOI (p0 : List S_subst_Part) (p1 : Int) : Option ((List S_subst_Part)) :=
 (iteB (decide ((p0.length : Int) > (0 : Int))) ((ixV p0 (IntKind.i64.wrap ((p0.length : Int) - (1 : Int)))).bind fun x2 => some (x2.Kind == (0 : Int))) (some false) : Option (Bool)).bind fun x1 => iteB x1 ((ixV p0 (IntKind.i64.wrap ((p0.length : Int) - (1 : Int)))).bind fun x3 => (toY p1).bind fun x4 => need (decide (x3.Bytes.length + ([x4] : List UInt8).length ≤ 9223372036854775807)) <| (ixV p0 (IntKind.i64.wrap ((p0.length : Int) - (1 : Int)))).bind fun x5 => some (p0.set (IntKind.i64.wrap ((p0.length : Int) - (1 : Int))).toNat (⟨x5.Kind, x5.Group, x3.Bytes ++ ([x4] : List UInt8)⟩ : S_subst_Part))) ((toY p1).bind fun x6 => need (okN 32 (p0.length + ([(⟨(0 : Int), (0 : Int), ([x6] : List UInt8)⟩ : S_subst_Part)] : List S_subst_Part).length)) <| some (p0 ++ ([(⟨(0 : Int), (0 : Int), ([x6] : List UInt8)⟩ : S_subst_Part)] : List S_subst_Part)))
theorem ok_subst_put_sOI {p0 p1 rp0 u0} (hm : M_subst_put_sOI p0 p1 = some u0) (A : HH g h [.lst rp0 154 (lst e_S_subst_Part p0)] F) (hc : canL (cfg.still 85) av = [rowV rp0 p0.length, .int .u8 p1] := by kernel_rfl) : ∃ v h', Runs cfg g h 85 av v h' ∧ ∃ (r'0 : Option Nat), v = rowV r'0 u0.length ∧ HH g h' [.lst r'0 154 (lst e_S_subst_Part u0)] F := by
 refine rq1 39 [.tmp 4] hc ?_
 clear hc
 unfold M_subst_put_sOI at hm
 refine bg 39 [(0, rowV rp0 p0.length), (1, .int .u8 p1)] fun fr H => ?_
 refine aw_sr 1 ?_
 refine at_el 1 [] H (fun _ => id) fun fr H => ?_
 refine aw_sq ?_
 refine aw_sr 3 ?_
 refine at_es 3 [(5, .int .i64 (p0.length : Int))] 11 H (fun _ => id) fun fr H => ?_
 refine at_sl 3 [(10, .bool (decide ((p0.length : Int) > (0 : Int))))] H fun fr H => ?_
 obtain ⟨x1, ho, hm⟩ := bind_some hm
 refine at_cl 8 (fun fr' h' => Has fr' 39 [(0, rowV rp0 p0.length), (1, .int .u8 p1), (5, .int .i64 (p0.length : Int)), (18, .bool x1)] ∧ HH g h' [.lst rp0 154 (lst e_S_subst_Part p0)] F) ?_ ?_
 ·rcases iteB_some ho with ⟨hb, hm⟩ | ⟨hb, hm⟩
  ·replace H := H.kn 10 hb
   obtain ⟨x2, hx, hm⟩ := bind_some hm
   obtain ⟨i1, er1, _, hx, hq1⟩ := HH.ixO enc_S_subst_Part (by decide) A 0 (xs := p0) rfl hx
   refine at_g1 3 [] 14 (.ptr (some (i1, (IntKind.i64.wrap ((p0.length : Int) - (1 : Int))).toNat * 3))) h H (fun fr => .of (s_ixL (s := rowS rp0 p0.length) (by kernel_rfl) hx)) fun fr t H => ?_
   refine at_g1 1 [] 16 _ _ H (fun fr => .of (s_ld (by kernel_rfl) (row_ld1 enc_S_subst_Part (HH.row A 0 rfl er1) hq1 (o := 0) rfl))) fun fr t H => ?_
   refine at_sl 2 [(18, .bool (x2.Kind == (0 : Int)))] H fun fr H => ?_
   obtain rfl := injA hm
   exact at_nil ⟨H.ls, A⟩
  replace H := H.kn 10 hb
  refine at_sl 8 [(18, .bool false)] H fun fr H => ?_
  obtain rfl := injA hm
  exact at_nil ⟨H.ls, A⟩
 clear A
 intro t fr h1 hK
 obtain ⟨H, A⟩ := hK
 refine at_nl id ?_
 refine aw_if 18 H hm (fun hb hm H => ?_) fun hb hm H => ?_
 ·refine aw_sq ?_
  refine aw_dg 3 13 ?_
  obtain ⟨x3, hx, hm⟩ := bind_some hm
  obtain ⟨i2, er2, _, hx, hq2⟩ := HH.ixO enc_S_subst_Part (by decide) A 0 (xs := p0) rfl hx
  refine at_g1 3 [(19, rowV rp0 p0.length), (21, .int .i64 (IntKind.i64.wrap ((p0.length : Int) - (1 : Int))))] 22 (.ptr (some (i2, (IntKind.i64.wrap ((p0.length : Int) - (1 : Int))).toNat * 3))) h1 H (fun fr => .of (s_ixL (s := rowS rp0 p0.length) (by kernel_rfl) hx)) fun fr t H => ?_
  refine at_g1 1 [] 24 _ _ H (fun fr => .of (s_ld (by kernel_rfl) (row_ld1 enc_S_subst_Part (HH.row A 0 rfl er2) hq2 (o := 2) rfl))) fun fr t H => ?_
  refine at_sl 1 [(25, .int .u8 p1)] H fun fr H => ?_
  obtain ⟨x4, hx, hm⟩ := bind_some hm
  have hx := toY_eq hx
  have kH := hm
  have kA := A
  have kR := H
  subst hx
  have hm := kH
  have A := kA
  have H := kR
  clear kH kA kR
  obtain ⟨h2, e1, A⟩ := A.pL 5 [.int .u8 (x4.toNat : Int)]
  refine at_ln 26 (rowV (some h1.size) (([x4] : List UInt8).length)) e1 H fun fr t H => ?_
  refine at_l1 27 (.str ([x4] : List UInt8)) h2 H (fun fr => .of (s_byO (xs := ([x4] : List UInt8)) A 0 rfl (by kernel_rfl))) fun fr t H => ?_
  obtain ⟨hb, hm⟩ := need_some hm
  refine at_l1 28 (.str (x3.Bytes ++ ([x4] : List UInt8))) h2 H (fun fr => .of (s_cat (by kernel_rfl) hb)) fun fr t H => ?_
  obtain ⟨x5, hx, hm⟩ := bind_some hm
  obtain ⟨i3, er3, _, hx, hq3⟩ := HH.ixO enc_S_subst_Part (by decide) A 1 (xs := p0) rfl hx
  refine at_l1 29 (.ptr (some (i3, (IntKind.i64.wrap ((p0.length : Int) - (1 : Int))).toNat * 3))) h2 H (fun fr => .of (s_ixL (s := rowS rp0 p0.length) (by kernel_rfl) hx)) fun fr t H => ?_
  obtain ⟨h3, hx, A1⟩ := HH.stO enc_S_subst_Part A 1 rfl er3 hq3 (y := (⟨x5.Kind, x5.Group, x3.Bytes ++ ([x4] : List UInt8)⟩ : S_subst_Part)) (o := 2) (new := [.str (x3.Bytes ++ ([x4] : List UInt8))]) rfl rfl (Nat.le_of_ble_eq_true rfl)
  have hl1 : (p0.set (IntKind.i64.wrap ((p0.length : Int) - (1 : Int))).toNat (⟨x5.Kind, x5.Group, x3.Bytes ++ ([x4] : List UInt8)⟩ : S_subst_Part)).length = p0.length := List.length_set
  have el : rowV rp0 p0.length = rowV rp0 (p0.set (IntKind.i64.wrap ((p0.length : Int) - (1 : Int))).toNat (⟨x5.Kind, x5.Group, x3.Bytes ++ ([x4] : List UInt8)⟩ : S_subst_Part)).length := congrArg _ List.length_set.symm
  try rw [el] at H
  try rw [el] at A1
  replace A : HH g h3 [.lst (some h1.size) 5 ([.int .u8 (x4.toNat : Int)]), .lst rp0 154 (lst e_S_subst_Part (p0.set (IntKind.i64.wrap ((p0.length : Int) - (1 : Int))).toNat (⟨x5.Kind, x5.Group, x3.Bytes ++ ([x4] : List UInt8)⟩ : S_subst_Part)))] F := A1
  refine at_gs 1 [] hx H fun fr t H => ?_
  refine at_ns 2 id ?_
  refine at_el 2 [(4, rowV rp0 ((p0.set (IntKind.i64.wrap ((p0.length : Int) - (1 : Int))).toNat (⟨x5.Kind, x5.Group, x3.Bytes ++ ([x4] : List UInt8)⟩ : S_subst_Part)).length))] H (fun _ => id) fun fr H => ?_
  refine aw_rt ?_
  obtain rfl := injA hm
  refine ⟨.inl rfl, rowV rp0 ((p0.set (IntKind.i64.wrap ((p0.length : Int) - (1 : Int))).toNat (⟨x5.Kind, x5.Group, x3.Bytes ++ ([x4] : List UInt8)⟩ : S_subst_Part)).length), rH H, ?_⟩
  replace A := A.k1 1
  exact ⟨rp0, rfl, A⟩
 refine aw_ks 8 id ?_
 refine at_sl 2 [(32, rowV rp0 p0.length), (33, .int .u8 p1)] H fun fr H => ?_
 obtain ⟨x6, hx, hm⟩ := bind_some hm
 have hx := toY_eq hx
 have kH := hm
 have kA := A
 have kR := H
 subst hx
 have hm := kH
 have A := kA
 have H := kR
 clear kH kA kR
 obtain ⟨h4, e2, A⟩ := A.pL 5 [.int .u8 (x6.toNat : Int)]
 refine at_ln 34 (rowV (some h1.size) (([x6] : List UInt8).length)) e2 H fun fr t H => ?_
 refine at_l1 35 (.str ([x6] : List UInt8)) h4 H (fun fr => .of (s_byO (xs := ([x6] : List UInt8)) A 0 rfl (by kernel_rfl))) fun fr t H => ?_
 refine at_sl 1 [(36, .agg [.int .i64 0, .int .i64 0, .str ([x6] : List UInt8)])] H fun fr H => ?_
 obtain ⟨h5, e3, A⟩ := A.pL 154 [.int .i64 0, .int .i64 0, .str ([x6] : List UInt8)]
 refine at_ln 37 (rowV (some h4.size) (([(⟨(0 : Int), (0 : Int), ([x6] : List UInt8)⟩ : S_subst_Part)] : List S_subst_Part).length)) e3 H fun fr t H => ?_
 obtain ⟨hb, hm⟩ := need_some hm
 obtain ⟨r1, h6, hx, A1⟩ := HH.appO enc_S_subst_Part (by decide) A 2 (xs := p0) (ys := ([(⟨(0 : Int), (0 : Int), ([x6] : List UInt8)⟩ : S_subst_Part)] : List S_subst_Part)) rfl (row_first A 0 rfl (n := ([(⟨(0 : Int), (0 : Int), ([x6] : List UInt8)⟩ : S_subst_Part)] : List S_subst_Part).length) (z := 3) rfl (by decide)) rfl rfl hb
 replace A : HH g h6 [.lst (some h4.size) 154 ([.int .i64 0, .int .i64 0, .str ([x6] : List UInt8)]), .lst (some h1.size) 5 ([.int .u8 (x6.toNat : Int)]), .lst r1 154 (lst e_S_subst_Part (p0 ++ ([(⟨(0 : Int), (0 : Int), ([x6] : List UInt8)⟩ : S_subst_Part)] : List S_subst_Part)))] F := A1
 replace A := A.k2 1 2
 refine at_l1 38 _ _ H (fun fr => .of (s_app (s := rowS rp0 p0.length) (by kernel_rfl) hx)) fun fr t H => ?_
 refine at_el 1 [(4, rowV r1 ((p0 ++ ([(⟨(0 : Int), (0 : Int), ([x6] : List UInt8)⟩ : S_subst_Part)] : List S_subst_Part)).length))] H (fun _ => id) fun fr H => ?_
 refine aw_rt ?_
 obtain rfl := injA hm
 refine ⟨.inl rfl, rowV r1 ((p0 ++ ([(⟨(0 : Int), (0 : Int), ([x6] : List UInt8)⟩ : S_subst_Part)] : List S_subst_Part)).length), rH H, ?_⟩
 replace A := A.k1 1
 exact ⟨r1, rfl, A⟩
noncomputable def M_subst_sign (p0 : Int) : Option (S_subst_Part × Bool) :=
 iteB ((decide (p0 ≥ (49 : Int))) && (decide (p0 ≤ (57 : Int)))) (some ((⟨(1 : Int), IntKind.i64.wrap (IntKind.u8.wrap (p0 - (48 : Int))), ([] : List UInt8)⟩ : S_subst_Part), true)) (some ((⟨((mfind (mput (mput (mput (mput (mput ([] : List (Int × Int)) (85 : Int) (2 : Int)) (76 : Int) (3 : Int)) (69 : Int) (4 : Int)) (117 : Int) (5 : Int)) (108 : Int) (6 : Int)) p0).getD (0 : Int)), (0 : Int), ([] : List UInt8)⟩ : S_subst_Part), (mfind (mput (mput (mput (mput (mput ([] : List (Int × Int)) (85 : Int) (2 : Int)) (76 : Int) (3 : Int)) (69 : Int) (4 : Int)) (117 : Int) (5 : Int)) (108 : Int) (6 : Int)) p0).isSome))
theorem ok_subst_sign {p0 q0 q1} (hm : M_subst_sign p0 = some (q0, q1)) (A : HH g h [] F) (hc : canL (cfg.still 86) av = [.int .u8 p0] := by kernel_rfl) : ∃ v h', Runs cfg g h 86 av v h' ∧ v = .tuple [.agg [.int .i64 q0.Kind, .int .i64 q0.Group, .str q0.Bytes], .bool q1] ∧ HH g h' [] F := by
 refine rq1 28 [.cell 2 154, .tmp 3] hc ?_
 clear hc
 unfold M_subst_sign at hm
 refine bg 28 [(0, .int .u8 p0)] fun fr H => ?_
 refine aw_sr 2 ?_
 obtain ⟨h1, e1, A⟩ := A.pu (.cells none 2 [.int .i64 0, .int .i64 0, .str ([] : List UInt8)])
 refine at_ln 2 (.ptr (some (h.size, 0))) e1 H fun fr t H => ?_
 refine at_el 1 [] H (fun _ => id) fun fr H => ?_
 refine aw_sq ?_
 refine aw_sr 6 ?_
 refine at_sl 3 [(9, .bool (decide (p0 ≥ (49 : Int))))] H fun fr H => ?_
 refine at_cl 3 (fun fr' h' => h1 = h' ∧ Has fr' 28 [(0, .int .u8 p0), (2, .ptr (some (h.size, 0))), (12, .bool ((decide (p0 ≥ (49 : Int))) && (decide (p0 ≤ (57 : Int)))))]) ?_ ?_
 ·cases hb : (decide (p0 ≥ (49 : Int)) : Bool) with
  | true =>
   replace H := H.kn 9 hb
   refine at_sl 3 [(12, .bool (decide (p0 ≤ (57 : Int))))] H fun fr H => ?_
   exact at_zb H hb
  | false =>
   replace H := H.kn 9 hb
   refine at_sl 3 [(12, .bool false)] H fun fr H => ?_
   exact at_zb H hb
 intro t fr h' hK
 obtain ⟨e, H⟩ := hK
 subst e
 refine at_nl id ?_
 refine aw_if 12 H hm (fun hb hm H => ?_) fun hb hm H => ?_
 ·refine aw_sr 6 ?_
  obtain ⟨h2, hx, A⟩ := A.s0 0 [.int .i64 1, .int .i64 (IntKind.i64.wrap (IntKind.u8.wrap (p0 - (48 : Int)))), .str ([] : List UInt8)] [_, _, _]
  refine at_gS 4 [] hx H fun fr t H => ?_
  refine at_el 1 [(3, .bool true)] H (fun _ => id) fun fr H => ?_
  refine aw_rt ?_
  obtain ⟨rfl, rfl⟩ := injB hm
  refine ⟨.inl rfl, .tuple [.agg [.int .i64 1, .int .i64 (IntKind.i64.wrap (IntKind.u8.wrap (p0 - (48 : Int)))), .str ([] : List UInt8)], .bool true], resL_many (.cell (rT H) (load_ldA (by kernel_rfl) (by kernel_rfl) (A.la 0 0 3)) (.tmp (rT H) .nil)), ?_⟩
  replace A := A.d0
  exact ⟨rfl, A⟩
 refine aw_ks 8 id ?_
 obtain ⟨h3, e2⟩ : ∃ x, x = h1.push (.map 2 []) := ⟨_, rfl⟩
 replace A : HH g h3 [.obj h1.size (.map 2 (encM (fun k : Int => .int .u8 k) (fun v : Int => .int .i64 v) ([] : List (Int × Int)))), .obj h.size (.cells none 2 [.int .i64 0, .int .i64 0, .str ([] : List UInt8)])] F := (A.push _).to e2
 refine at_ln 17 (.map (some h1.size)) e2 H fun fr t H => ?_
 obtain ⟨h4, hx, A1⟩ := HH.mset (kt := 5) (et := 3) (ek := fun k : Int => .int .u8 k) (ev := fun v : Int => .int .i64 v) (keyI (by kernel_rfl)) A 0 rfl (t := 215) (by kernel_rfl) (85 : Int) (2 : Int)
 replace A : HH g h4 [.obj h1.size (.map 2 (encM (fun k : Int => .int .u8 k) (fun v : Int => .int .i64 v) (mput ([] : List (Int × Int)) (85 : Int) (2 : Int)))), _] F := A1
 refine at_l0 (.tuple []) h4 H (fun fr => .of (s_ms (by kernel_rfl) hx)) fun fr t H => ?_
 obtain ⟨h5, hx, A1⟩ := HH.mset (kt := 5) (et := 3) (ek := fun k : Int => .int .u8 k) (ev := fun v : Int => .int .i64 v) (keyI (by kernel_rfl)) A 0 rfl (t := 215) (by kernel_rfl) (76 : Int) (3 : Int)
 replace A : HH g h5 [.obj h1.size (.map 2 (encM (fun k : Int => .int .u8 k) (fun v : Int => .int .i64 v) (mput (mput ([] : List (Int × Int)) (85 : Int) (2 : Int)) (76 : Int) (3 : Int)))), _] F := A1
 refine at_l0 (.tuple []) h5 H (fun fr => .of (s_ms (by kernel_rfl) hx)) fun fr t H => ?_
 obtain ⟨h6, hx, A1⟩ := HH.mset (kt := 5) (et := 3) (ek := fun k : Int => .int .u8 k) (ev := fun v : Int => .int .i64 v) (keyI (by kernel_rfl)) A 0 rfl (t := 215) (by kernel_rfl) (69 : Int) (4 : Int)
 replace A : HH g h6 [.obj h1.size (.map 2 (encM (fun k : Int => .int .u8 k) (fun v : Int => .int .i64 v) (mput (mput (mput ([] : List (Int × Int)) (85 : Int) (2 : Int)) (76 : Int) (3 : Int)) (69 : Int) (4 : Int)))), _] F := A1
 refine at_l0 (.tuple []) h6 H (fun fr => .of (s_ms (by kernel_rfl) hx)) fun fr t H => ?_
 obtain ⟨h7, hx, A1⟩ := HH.mset (kt := 5) (et := 3) (ek := fun k : Int => .int .u8 k) (ev := fun v : Int => .int .i64 v) (keyI (by kernel_rfl)) A 0 rfl (t := 215) (by kernel_rfl) (117 : Int) (5 : Int)
 replace A : HH g h7 [.obj h1.size (.map 2 (encM (fun k : Int => .int .u8 k) (fun v : Int => .int .i64 v) (mput (mput (mput (mput ([] : List (Int × Int)) (85 : Int) (2 : Int)) (76 : Int) (3 : Int)) (69 : Int) (4 : Int)) (117 : Int) (5 : Int)))), _] F := A1
 refine at_l0 (.tuple []) h7 H (fun fr => .of (s_ms (by kernel_rfl) hx)) fun fr t H => ?_
 obtain ⟨h8, hx, A1⟩ := HH.mset (kt := 5) (et := 3) (ek := fun k : Int => .int .u8 k) (ev := fun v : Int => .int .i64 v) (keyI (by kernel_rfl)) A 0 rfl (t := 215) (by kernel_rfl) (108 : Int) (6 : Int)
 replace A : HH g h8 [.obj h1.size (.map 2 (encM (fun k : Int => .int .u8 k) (fun v : Int => .int .i64 v) (mput (mput (mput (mput (mput ([] : List (Int × Int)) (85 : Int) (2 : Int)) (76 : Int) (3 : Int)) (69 : Int) (4 : Int)) (117 : Int) (5 : Int)) (108 : Int) (6 : Int)))), _] F := A1
 refine at_l0 (.tuple []) h8 H (fun fr => .of (s_ms (by kernel_rfl) hx)) fun fr t H => ?_
 refine at_es 2 [(4, .map (some h1.size))] 8 H (fun _ => id) fun fr H => ?_
 refine at_g1 2 [] 22 (.tuple [.int .i64 ((mfind (mput (mput (mput (mput (mput ([] : List (Int × Int)) (85 : Int) (2 : Int)) (76 : Int) (3 : Int)) (69 : Int) (4 : Int)) (117 : Int) (5 : Int)) (108 : Int) (6 : Int)) p0).getD (0 : Int)), .bool ((mfind (mput (mput (mput (mput (mput ([] : List (Int × Int)) (85 : Int) (2 : Int)) (76 : Int) (3 : Int)) (69 : Int) (4 : Int)) (117 : Int) (5 : Int)) (108 : Int) (6 : Int)) p0).isSome)]) h8 H (fun fr => .of (s_lkT (by kernel_rfl) (HH.mlook (kt := 5) (et := 3) (ek := fun k : Int => .int .u8 k) (ev := fun v : Int => .int .i64 v) (keyI (by kernel_rfl)) A 0 rfl (t := 215) (by kernel_rfl) (z := (0 : Int)) (by kernel_rfl) p0))) fun fr t H => ?_
 refine at_es 5 [(5, .int .i64 ((mfind (mput (mput (mput (mput (mput ([] : List (Int × Int)) (85 : Int) (2 : Int)) (76 : Int) (3 : Int)) (69 : Int) (4 : Int)) (117 : Int) (5 : Int)) (108 : Int) (6 : Int)) p0).getD (0 : Int))), (6, .bool ((mfind (mput (mput (mput (mput (mput ([] : List (Int × Int)) (85 : Int) (2 : Int)) (76 : Int) (3 : Int)) (69 : Int) (4 : Int)) (117 : Int) (5 : Int)) (108 : Int) (6 : Int)) p0).isSome))] 5 H (fun _ => id) fun fr H => ?_
 obtain ⟨h9, hx, A⟩ := A.s1 0 [.int .i64 ((mfind (mput (mput (mput (mput (mput ([] : List (Int × Int)) (85 : Int) (2 : Int)) (76 : Int) (3 : Int)) (69 : Int) (4 : Int)) (117 : Int) (5 : Int)) (108 : Int) (6 : Int)) p0).getD (0 : Int)), .int .i64 0, .str ([] : List UInt8)] [_, _, _]
 refine at_gS 3 [(27, .bool ((mfind (mput (mput (mput (mput (mput ([] : List (Int × Int)) (85 : Int) (2 : Int)) (76 : Int) (3 : Int)) (69 : Int) (4 : Int)) (117 : Int) (5 : Int)) (108 : Int) (6 : Int)) p0).isSome))] hx H fun fr t H => ?_
 refine at_el 1 [(3, .bool ((mfind (mput (mput (mput (mput (mput ([] : List (Int × Int)) (85 : Int) (2 : Int)) (76 : Int) (3 : Int)) (69 : Int) (4 : Int)) (117 : Int) (5 : Int)) (108 : Int) (6 : Int)) p0).isSome))] H (fun _ => id) fun fr H => ?_
 refine aw_rt ?_
 obtain ⟨rfl, rfl⟩ := injB hm
 refine ⟨.inl rfl, .tuple [.agg [.int .i64 ((mfind (mput (mput (mput (mput (mput ([] : List (Int × Int)) (85 : Int) (2 : Int)) (76 : Int) (3 : Int)) (69 : Int) (4 : Int)) (117 : Int) (5 : Int)) (108 : Int) (6 : Int)) p0).getD (0 : Int)), .int .i64 0, .str ([] : List UInt8)], .bool ((mfind (mput (mput (mput (mput (mput ([] : List (Int × Int)) (85 : Int) (2 : Int)) (76 : Int) (3 : Int)) (69 : Int) (4 : Int)) (117 : Int) (5 : Int)) (108 : Int) (6 : Int)) p0).isSome)], resL_many (.cell (rT H) (load_ldA (by kernel_rfl) (by kernel_rfl) (A.la 1 0 3)) (.tmp (rT H) .nil)), ?_⟩
 replace A := A.d0
 exact ⟨rfl, A⟩
noncomputable def M_subst_Parse_L0 (p0 : List UInt8) (s : (List S_subst_Part) × Int) : Option (((List S_subst_Part) × Int) ⊕ (((List S_subst_Part)) ⊕ (Int × Int))) :=
 match s with
 | (x1, x2) => iteB (decide (x2 < (p0.length : Int))) (((ixS p0 x2).bind fun x10 => iteB (x10 == (38 : Int)) (need (okN 32 (x1.length + ([(⟨(1 : Int), (0 : Int), ([] : List UInt8)⟩ : S_subst_Part)] : List S_subst_Part).length)) <| some (.inl ((x1 ++ ([(⟨(1 : Int), (0 : Int), ([] : List UInt8)⟩ : S_subst_Part)] : List S_subst_Part)), x2))) (iteB (x10 != (92 : Int)) ((M_subst_put_sOI x1 x10).bind fun x12 => some (.inl (x12, x2))) (iteB ((IntKind.i64.wrap (x2 + (1 : Int))) == (p0.length : Int)) (some (.inr (x2, (11 : Int)))) ((ixS p0 (IntKind.i64.wrap (x2 + (1 : Int)))).bind fun x13 => (M_subst_sign x13).bind fun (x14, x15) => (iteB x15 (need (okN 32 (x1.length + ([x14] : List S_subst_Part).length)) <| some (.inl (x1 ++ ([x14] : List S_subst_Part)))) (iteB (((x13 == (38 : Int)) || (x13 == (92 : Int))) || (x13 == (47 : Int))) ((M_subst_put_sOI x1 x13).bind fun x20 => some (.inl x20)) (some (.inr (x2, (11 : Int))))) : Option (((List S_subst_Part)) ⊕ (Int × Int))).bind fun o3 => (match o3 with | .inl x16 => some (.inl (x16, IntKind.i64.wrap (x2 + (1 : Int)))) | .inr (x17, x18) => some (.inr (x17, x18)))))) : Option (((List S_subst_Part) × Int) ⊕ (Int × Int))).bind fun o2 => (match o2 with | .inl (x6, x7) => some (.inl (x6, IntKind.i64.wrap (x7 + (1 : Int)))) | .inr (x8, x9) => some (.inr (.inr (x8, x9))))) (some (.inr (.inl x1)))
noncomputable def M_subst_Parse (p0 : List UInt8) : Option ((List S_subst_Part) × Int × Int) :=
 iteB (decide ((p0.length : Int) > (8192 : Int))) (some (([] : List S_subst_Part), (0 : Int), (12 : Int))) ((loop (M_subst_Parse_L0 p0) (([] : List S_subst_Part), (0 : Int))).bind fun o1 => (match o1 with | .inl x3 => some (x3, (0 : Int), (0 : Int)) | .inr (x4, x5) => some (([] : List S_subst_Part), x4, x5)))
theorem ok_subst_Parse {p0 q0 q1 q2} (hm : M_subst_Parse p0 = some (q0, q1, q2)) (A : HH g h [] F) (hc : canL (cfg.still 42) av = [.str p0] := by kernel_rfl) : ∃ v h', Runs cfg g h 42 av v h' ∧ ∃ (rq0 : Option Nat), v = .tuple [rowV rq0 q0.length, .int .i64 q1, .int .i64 q2] ∧ HH g h' [.lst rq0 154 (lst e_S_subst_Part q0)] F := by
 refine rq1 76 [.tmp 2, .tmp 3, .tmp 4] hc ?_
 clear hc
 unfold M_subst_Parse at hm
 refine bg 76 [(0, .str p0)] fun fr H => ?_
 refine aw_sr 3 ?_
 refine at_el 3 [] H (fun _ => id) fun fr H => ?_
 refine aw_scope (by kernel_rfl) ?_
 refine aw_sq ?_
 refine aw_sr 3 ?_
 refine at_el 3 [(13, .bool (decide ((p0.length : Int) > (8192 : Int))))] H (fun _ => id) fun fr H => ?_
 refine aw_if 13 H hm (fun hb hm H => ?_) fun hb hm H => ?_
 ·refine aw_sr 3 ?_
  refine at_el 3 [(2, .slice none 0), (3, .int .i64 0), (4, .int .i64 12)] H (fun _ => id) fun fr H => ?_
  refine aw_rt ?_
  obtain ⟨rfl, rfl, rfl⟩ := injC hm
  refine ⟨.inl rfl, .tuple [.slice none 0, .int .i64 0, .int .i64 12], rH H, ?_⟩
  replace A : HH g h [.lst none 154 (lst e_S_subst_Part ([] : List S_subst_Part))] F := A.nilL 154
  exact ⟨none, rfl, A⟩
 refine aw_ks 1 id ?_
 refine at_el 1 [(5, .slice none 0)] H (fun _ => id) fun fr H => ?_
 refine aw_sq ?_
 refine aw_label (by kernel_rfl) ?_
 show AW _ _ _ _ _ _ _
 refine aw_sq ?_
 refine aw_sr 1 ?_
 refine at_el 1 [(6, .int .i64 0)] H (fun _ => id) fun fr H => ?_
 refine aw_block (id := 0) (by kernel_rfl) ?_
 replace A : HH g h [.lst none 154 (lst e_S_subst_Part ([] : List S_subst_Part))] F := A.nilL 154
 obtain ⟨o1, ho, hm⟩ := bind_some hm
 refine aw_mono (Q' := fun e fr' h' => (∃ x3, e = .exit 0 ∧ .inl x3 = o1 ∧ ∃ r2, Has fr' 76 [(5, rowV r2 x3.length)] ∧ HH g h' [.lst r2 154 (lst e_S_subst_Part x3)] F) ∨ (∃ x4 x5, e = .ret ∧ .inr (x4, x5) = o1 ∧ Has fr' 76 [(2, .slice none 0), (3, .int .i64 x4), (4, .int .i64 x5)] ∧ HH g h' [] F) ∨ False) ?_ ?_
 ·refine aw_loop (by kernel_rfl) (fun (s : (List S_subst_Part) × Int) fr' h' => ∃ x1 x2, (x1, x2) = s ∧ ∃ r1, Has fr' 76 [(0, .str p0), (5, rowV r1 x1.length), (6, .int .i64 x2)] ∧ HH g h' [.lst r1 154 (lst e_S_subst_Part x1)] F) ho ⟨_, _, rfl, none, H.ls, A⟩ ?_
  clear ho hm H A
  intro s q fr h1 hI hm
  obtain ⟨x1, x2, rfl, r1, H, A⟩ := hI
  unfold M_subst_Parse_L0 at hm
  refine aw_sq ?_
  refine aw_sr 4 ?_
  refine at_el 4 [(17, .bool (decide (x2 < (p0.length : Int))))] H (fun _ => id) fun fr H => ?_
  refine aw_if 17 H hm (fun hb hm H => ?_) fun hb hm H => ?_
  ·refine aw_kn id ?_
   refine aw_sq ?_
   obtain ⟨o2, ho, hm⟩ := bind_some hm
   refine aw_mono (Q' := fun e fr' h' => (∃ x6 x7, e = .normal ∧ .inl (x6, x7) = o2 ∧ ∃ r3, Has fr' 76 [(0, .str p0), (5, rowV r3 x6.length), (6, .int .i64 x7)] ∧ HH g h' [.lst r3 154 (lst e_S_subst_Part x6)] F) ∨ (∃ x8 x9, e = .ret ∧ .inr (x8, x9) = o2 ∧ Has fr' 76 [(2, .slice none 0), (3, .int .i64 x8), (4, .int .i64 x9)] ∧ HH g h' [] F) ∨ False) ?_ ?_
   ·replace hm := ho
    clear ho
    refine aw_block (id := 1) (by kernel_rfl) ?_
    refine aw_sq ?_
    refine aw_sr 4 ?_
    obtain ⟨x10, hx, hm⟩ := bind_some hm
    refine at_g1 2 [] 22 (.int .u8 x10) h1 H (fun fr => .of (s_ixS (by kernel_rfl) hx)) fun fr t H => ?_
    refine at_el 1 [(7, .int .u8 x10)] H (fun _ => id) fun fr H => ?_
    refine aw_block (id := 2) (by kernel_rfl) ?_
    refine aw_sr 3 ?_
    refine at_el 3 [(23, .bool (x10 == (38 : Int)))] H (fun _ => id) fun fr H => ?_
    refine aw_if 23 H hm (fun hb hm H => ?_) fun hb hm H => ?_
    ·refine aw_sr 5 ?_
     refine at_sl 2 [(26, rowV r1 x1.length), (27, .agg [.int .i64 1, .int .i64 0, .str ([] : List UInt8)])] H fun fr H => ?_
     obtain ⟨h2, e1, A⟩ := A.pL 154 [.int .i64 1, .int .i64 0, .str ([] : List UInt8)]
     refine at_ln 28 (rowV (some h1.size) (([(⟨(1 : Int), (0 : Int), ([] : List UInt8)⟩ : S_subst_Part)] : List S_subst_Part).length)) e1 H fun fr t H => ?_
     obtain ⟨hb, hm⟩ := need_some hm
     obtain ⟨r4, h3, hx, A1⟩ := HH.appO enc_S_subst_Part (by decide) A 1 (xs := x1) (ys := ([(⟨(1 : Int), (0 : Int), ([] : List UInt8)⟩ : S_subst_Part)] : List S_subst_Part)) rfl (row_first A 0 rfl (n := ([(⟨(1 : Int), (0 : Int), ([] : List UInt8)⟩ : S_subst_Part)] : List S_subst_Part).length) (z := 3) rfl (by decide)) rfl rfl hb
     replace A : HH g h3 [.lst (some h1.size) 154 ([.int .i64 1, .int .i64 0, .str ([] : List UInt8)]), .lst r4 154 (lst e_S_subst_Part (x1 ++ ([(⟨(1 : Int), (0 : Int), ([] : List UInt8)⟩ : S_subst_Part)] : List S_subst_Part)))] F := A1
     replace A := A.k1 1
     refine at_l1 29 _ _ H (fun fr => .of (s_app (s := rowS r1 x1.length) (by kernel_rfl) hx)) fun fr t H => ?_
     refine at_se 1 [(0, .str p0), (5, rowV r4 ((x1 ++ ([(⟨(1 : Int), (0 : Int), ([] : List UInt8)⟩ : S_subst_Part)] : List S_subst_Part)).length)), (6, .int .i64 x2)] H fun fr H => ?_
     refine at_nl id ?_
     refine aw_exit (i := 1) (by kernel_rfl) ?_
     exact .inl ⟨_, _, rfl, injA hm, _, H.ls, A⟩
    refine aw_sr 3 ?_
    refine at_el 3 [(30, .bool (x10 != (92 : Int)))] H (fun _ => id) fun fr H => ?_
    refine aw_if 30 H hm (fun hb hm H => ?_) fun hb hm H => ?_
    ·refine aw_sr 4 ?_
     obtain ⟨x12, hx, hm⟩ := bind_some hm
     obtain ⟨v1, h4, hr, r5, rfl, A1⟩ := ok_subst_put_sOI (av := [rowV r1 x1.length, .int .u8 x10]) hx (A.cut 1)
     replace A := A.g11 A1
     refine at_gc1 2 [] 35 hr H fun fr t H => ?_
     refine at_se 1 [(0, .str p0), (5, rowV r5 x12.length), (6, .int .i64 x2)] H fun fr H => ?_
     refine at_nl id ?_
     refine aw_exit (i := 1) (by kernel_rfl) ?_
     exact .inl ⟨_, _, rfl, injA hm, _, H.ls, A⟩
    refine aw_sr 6 ?_
    refine at_el 6 [(36, .bool ((IntKind.i64.wrap (x2 + (1 : Int))) == (p0.length : Int)))] H (fun _ => id) fun fr H => ?_
    refine aw_if 36 H hm (fun hb hm H => ?_) fun hb hm H => ?_
    ·refine aw_sr 4 ?_
     refine at_el 4 [(2, .slice none 0), (3, .int .i64 x2), (4, .int .i64 11)] H (fun _ => id) fun fr H => ?_
     refine aw_rt ?_
     replace A := A.d0
     exact .inr (.inl ⟨_, _, rfl, injA hm, H.ls, A⟩)
    refine aw_ks 5 id ?_
    obtain ⟨x13, hx, hm⟩ := bind_some hm
    refine at_g1 3 [] 46 (.int .u8 x13) h1 H (fun fr => .of (s_ixS (by kernel_rfl) hx)) fun fr t H => ?_
    refine at_es 1 [(8, .int .u8 x13)] 8 H (fun _ => id) fun fr H => ?_
    obtain ⟨⟨x14, x15⟩, hx, hm⟩ := bind_some hm
    obtain ⟨v1, h5, hr, rfl, A1⟩ := ok_subst_sign (av := [.int .u8 x13]) hx (A.cut 0)
    replace A := A.g00 A1
    refine at_gc1 1 [] 49 hr H fun fr t H => ?_
    obtain ⟨h6, e2, A⟩ := A.pu (.cells none 2 [.int .i64 0, .int .i64 0, .str ([] : List UInt8)])
    refine at_gn 3 [(50, .agg [.int .i64 x14.Kind, .int .i64 x14.Group, .str x14.Bytes]), (51, .bool x15)] 9 (.ptr (some (h5.size, 0))) e2 H fun fr t H => ?_
    obtain ⟨h7, hx, A⟩ := A.s0 0 [.int .i64 x14.Kind, .int .i64 x14.Group, .str x14.Bytes] [_, _, _]
    refine at_lS hx H fun fr t H => ?_
    refine at_el 1 [(10, .bool x15)] H (fun _ => id) fun fr H => ?_
    refine aw_sq ?_
    obtain ⟨o3, ho, hm⟩ := bind_some hm
    refine aw_mono (Q' := fun e fr' h' => (∃ x16, e = .normal ∧ .inl x16 = o3 ∧ ∃ r6, Has fr' 76 [(0, .str p0), (5, rowV r6 x16.length), (6, .int .i64 x2)] ∧ HH g h' [.obj h5.size (.cells none 2 [.int .i64 x14.Kind, .int .i64 x14.Group, .str x14.Bytes]), .lst r6 154 (lst e_S_subst_Part x16)] F) ∨ (∃ x17 x18, e = .ret ∧ .inr (x17, x18) = o3 ∧ Has fr' 76 [(2, .slice none 0), (3, .int .i64 x17), (4, .int .i64 x18)] ∧ HH g h' [.obj h5.size (.cells none 2 [.int .i64 x14.Kind, .int .i64 x14.Group, .str x14.Bytes])] F) ∨ False) ?_ ?_
    ·replace hm := ho
     clear ho
     refine aw_block (id := 3) (by kernel_rfl) ?_
     refine aw_sr 2 ?_
     refine at_el 2 [(53, .bool x15)] H (fun _ => id) fun fr H => ?_
     refine aw_if 53 H hm (fun hb hm H => ?_) fun hb hm H => ?_
     ·refine aw_rg 5 ?_
      refine at_g1 1 [(55, rowV r1 x1.length)] 56 _ _ H (fun fr => .of (s_ldA (by kernel_rfl) (A.ldA 0 rfl (o := 0) (n := 3) ⟨Nat.le_of_ble_eq_true rfl, rfl⟩))) fun fr t H => ?_
      obtain ⟨h8, e3, A⟩ := A.pL 154 [.int .i64 x14.Kind, .int .i64 x14.Group, .str x14.Bytes]
      refine at_ln 57 (rowV (some h7.size) (([x14] : List S_subst_Part).length)) e3 H fun fr t H => ?_
      obtain ⟨hb, hm⟩ := need_some hm
      obtain ⟨r7, h9, hx, A1⟩ := HH.appO enc_S_subst_Part (by decide) A 2 (xs := x1) (ys := ([x14] : List S_subst_Part)) rfl (row_first A 0 rfl (n := ([x14] : List S_subst_Part).length) (z := 3) rfl (by decide)) rfl rfl hb
      replace A : HH g h9 [.lst (some h7.size) 154 ([.int .i64 x14.Kind, .int .i64 x14.Group, .str x14.Bytes]), _, .lst r7 154 (lst e_S_subst_Part (x1 ++ ([x14] : List S_subst_Part)))] F := A1
      replace A := A.k2 1 2
      refine at_l1 58 _ _ H (fun fr => .of (s_app (s := rowS r1 x1.length) (by kernel_rfl) hx)) fun fr t H => ?_
      refine at_se 1 [(0, .str p0), (5, rowV r7 ((x1 ++ ([x14] : List S_subst_Part)).length)), (6, .int .i64 x2)] H fun fr H => ?_
      refine at_nil ?_
      exact .inl ⟨_, rfl, injA hm, _, H.ls, A⟩
     refine aw_sr 11 ?_
     refine at_sl 3 [(62, .bool (x13 == (38 : Int)))] H fun fr H => ?_
     refine at_cl 3 (fun fr' h' => h7 = h' ∧ Has fr' 76 [(0, .str p0), (5, rowV r1 x1.length), (6, .int .i64 x2), (8, .int .u8 x13), (65, .bool ((x13 == (38 : Int)) || (x13 == (92 : Int))))]) ?_ ?_
     ·cases hb : (x13 == (38 : Int) : Bool) with
      | true =>
       replace H := H.kn 62 hb
       refine at_sl 3 [(65, .bool true)] H fun fr H => ?_
       exact at_zb H hb
      | false =>
       replace H := H.kn 62 hb
       refine at_sl 3 [(65, .bool (x13 == (92 : Int)))] H fun fr H => ?_
       exact at_zb H hb
     intro t fr h' hK
     obtain ⟨e, H⟩ := hK
     subst e
     refine at_sl 1 [(66, .bool ((x13 == (38 : Int)) || (x13 == (92 : Int))))] H fun fr H => ?_
     refine at_cl 3 (fun fr' h' => h7 = h' ∧ Has fr' 76 [(0, .str p0), (5, rowV r1 x1.length), (6, .int .i64 x2), (8, .int .u8 x13), (69, .bool (((x13 == (38 : Int)) || (x13 == (92 : Int))) || (x13 == (47 : Int))))]) ?_ ?_
     ·cases hb : ((x13 == (38 : Int)) || (x13 == (92 : Int)) : Bool) with
      | true =>
       replace H := H.kn 66 hb
       refine at_sl 3 [(69, .bool true)] H fun fr H => ?_
       exact at_zb H hb
      | false =>
       replace H := H.kn 66 hb
       refine at_sl 3 [(69, .bool (x13 == (47 : Int)))] H fun fr H => ?_
       exact at_zb H hb
     intro t fr h' hK
     obtain ⟨e, H⟩ := hK
     subst e
     refine at_el 1 [(59, .bool (((x13 == (38 : Int)) || (x13 == (92 : Int))) || (x13 == (47 : Int))))] H (fun _ => id) fun fr H => ?_
     refine aw_if 59 H hm (fun hb hm H => ?_) fun hb hm H => ?_
     ·refine aw_rg 4 ?_
      replace A := A.k2 1 0
      obtain ⟨x20, hx, hm⟩ := bind_some hm
      obtain ⟨v1, h10, hr, r8, rfl, A1⟩ := ok_subst_put_sOI (av := [rowV r1 x1.length, .int .u8 x13]) hx (A.cut 1)
      replace A := A.g11 A1
      refine at_gc1 2 [] 72 hr H fun fr t H => ?_
      refine at_se 1 [(0, .str p0), (5, rowV r8 x20.length), (6, .int .i64 x2)] H fun fr H => ?_
      refine at_nil ?_
      replace A := A.k2 1 0
      exact .inl ⟨_, rfl, injA hm, _, H.ls, A⟩
     refine aw_sr 4 ?_
     refine at_el 4 [(2, .slice none 0), (3, .int .i64 x2), (4, .int .i64 11)] H (fun _ => id) fun fr H => ?_
     refine aw_rt ?_
     replace A := A.d1
     exact .inr (.inl ⟨_, _, rfl, injA hm, H.ls, A⟩)
    clear ho
    clear A
    intro e fr h11 hQ
    rcases hQ with ⟨x16, rfl, rfl, r6, H, A⟩ | ⟨x17, x18, rfl, rfl, H, A⟩ | hF
    ·show AW _ _ _ _ _ _ _
     refine aw_rg 3 ?_
     refine at_se 3 [(0, .str p0), (5, rowV r6 x16.length), (6, .int .i64 (IntKind.i64.wrap (x2 + (1 : Int))))] H fun fr H => ?_
     refine at_nil ?_
     replace A := A.k1 1
     exact .inl ⟨_, _, rfl, injA hm, _, H.ls, A⟩
    ·replace A := A.d0
     exact .inr (.inl ⟨_, _, rfl, injA hm, H.ls, A⟩)
    exact hF.elim
   clear ho
   clear A
   intro e fr h12 hQ
   rcases hQ with ⟨x6, x7, rfl, rfl, r3, H, A⟩ | ⟨x8, x9, rfl, rfl, H, A⟩ | hF
   ·show AW _ _ _ _ _ _ _
    refine aw_rg 3 ?_
    refine at_se 3 [(0, .str p0), (5, rowV r3 x6.length), (6, .int .i64 (IntKind.i64.wrap (x7 + (1 : Int))))] H fun fr H => ?_
    refine at_nil ?_
    exact nx hm ⟨_, _, rfl, _, H.ls, A⟩
   ·exact nr hm fun e => Or.inr (.inl ⟨_, _, rfl, e, H.ls, A⟩)
   exact hF.elim
  refine aw_exit (i := 0) (by kernel_rfl) ?_
  exact nr hm fun e => .inl ⟨_, rfl, e, _, H.ls, A⟩
 clear ho
 clear A
 intro e fr h13 hQ
 rcases hQ with ⟨x3, rfl, rfl, r2, H, A⟩ | ⟨x4, x5, rfl, rfl, H, A⟩ | hF
 ·show AW _ _ _ _ _ _ _
  refine aw_sr 4 ?_
  refine at_el 4 [(2, rowV r2 x3.length), (3, .int .i64 0), (4, .int .i64 0)] H (fun _ => id) fun fr H => ?_
  refine aw_rt ?_
  obtain ⟨rfl, rfl, rfl⟩ := injC hm
  exact ⟨.inl rfl, _, rH H, _, rfl, A⟩
 ·obtain ⟨rfl, rfl, rfl⟩ := injC hm
  refine ⟨.inl rfl, .tuple [.slice none 0, .int .i64 x4, .int .i64 x5], rH H, ?_⟩
  replace A : HH g h13 [.lst none 154 (lst e_S_subst_Part ([] : List S_subst_Part))] F := A.nilL 154
  exact ⟨none, rfl, A⟩
 exact hF.elim
noncomputable def M_subst_Highest_sO_L0 (p0 : List S_subst_Part) (s : Int × Int) : Option ((Int × Int) ⊕ ((Int))) :=
 match s with
 | (x1, x2) => iteB (decide (x2 < (p0.length : Int))) (((ixV p0 x2).bind fun x5 => iteB (x5.Kind == (1 : Int)) (some (mx x1 x5.Group)) (some x1) : Option ((Int))).bind fun x4 => some (.inl (x4, IntKind.i64.wrap (x2 + (1 : Int))))) (some (.inr x1))
noncomputable def M_subst_Highest_sO (p0 : List S_subst_Part) : Option (Int) :=
 (loop (M_subst_Highest_sO_L0 p0) ((0 : Int), (0 : Int))).bind fun x3 => some x3
theorem ok_subst_Highest_sO {p0 rp0 q0} (hm : M_subst_Highest_sO p0 = some q0) (A : HH g h [.lst rp0 154 (lst e_S_subst_Part p0)] F) (hc : canL (cfg.still 43) av = [rowV rp0 p0.length] := by kernel_rfl) : ∃ v h', Runs cfg g h 43 av v h' ∧ v = .int .i64 q0 ∧ HH g h' [.lst rp0 154 (lst e_S_subst_Part p0)] F := by
 refine rq1 21 [.tmp 2] hc ?_
 clear hc
 unfold M_subst_Highest_sO at hm
 refine bg 21 [(0, rowV rp0 p0.length)] fun fr H => ?_
 refine aw_sr 1 ?_
 refine at_es 1 [] 1 H (fun _ => id) fun fr H => ?_
 refine at_el 1 [(3, .int .i64 0)] H (fun _ => id) fun fr H => ?_
 refine aw_sq ?_
 refine aw_sr 3 ?_
 refine at_el 3 [(6, rowV rp0 p0.length), (7, .int .i64 (p0.length : Int)), (8, .int .i64 0)] H (fun _ => id) fun fr H => ?_
 refine aw_block (id := 0) (by kernel_rfl) ?_
 obtain ⟨o1, ho, hm⟩ := bind_some hm
 refine aw_mono (Q' := fun e fr' h' => (∃ x3, e = .exit 0 ∧ x3 = o1 ∧ Has fr' 21 [(3, .int .i64 x3)] ∧ HH g h' [.lst rp0 154 (lst e_S_subst_Part p0)] F) ∨ False) ?_ ?_
 ·refine aw_loop (by kernel_rfl) (fun (s : Int × Int) fr' h' => ∃ x1 x2, (x1, x2) = s ∧ Has fr' 21 [(3, .int .i64 x1), (6, rowV rp0 p0.length), (7, .int .i64 (p0.length : Int)), (8, .int .i64 x2)] ∧ HH g h' [.lst rp0 154 (lst e_S_subst_Part p0)] F) ho ⟨_, _, rfl, H.ls, A⟩ ?_
  clear ho hm H A
  intro s q fr h1 hI hm
  obtain ⟨x1, x2, rfl, H, A⟩ := hI
  unfold M_subst_Highest_sO_L0 at hm
  refine aw_sr 1 ?_
  refine at_el 1 [(9, .bool (decide (x2 < (p0.length : Int))))] H (fun _ => id) fun fr H => ?_
  refine aw_sq ?_
  refine aw_if 9 H hm (fun hb hm H => ?_) fun hb hm H => ?_
  ·refine aw_kn id ?_
   refine aw_sq ?_
   obtain ⟨o2, ho, hm⟩ := bind_some hm
   refine aw_mono (Q' := fun e fr' h' => (∃ x4, e = .normal ∧ x4 = o2 ∧ Has fr' 21 [(3, .int .i64 x4), (6, rowV rp0 p0.length), (7, .int .i64 (p0.length : Int)), (8, .int .i64 x2)] ∧ HH g h' [.lst rp0 154 (lst e_S_subst_Part p0)] F) ∨ False) ?_ ?_
   ·replace hm := ho
    clear ho
    refine aw_block (id := 1) (by kernel_rfl) ?_
    refine aw_sr 4 ?_
    obtain ⟨x5, hx, hm⟩ := bind_some hm
    obtain ⟨i1, er1, _, hx, hq1⟩ := HH.ixO enc_S_subst_Part (by decide) A 0 (xs := p0) rfl hx
    refine at_l1 10 (.ptr (some (i1, x2.toNat * 3))) h1 H (fun fr => .of (s_ixL (s := rowS rp0 p0.length) (by kernel_rfl) hx)) fun fr t H => ?_
    refine at_l1 11 _ _ H (fun fr => .of (s_ldA (by kernel_rfl) (row_ldA enc_S_subst_Part (HH.row A 0 rfl er1) hq1 0 3 (Nat.le_of_ble_eq_true rfl)))) fun fr t H => ?_
    obtain ⟨h2, e1, A⟩ := A.pu (.cells none 2 [.int .i64 0, .int .i64 0, .str ([] : List UInt8)])
    refine at_ln 5 (.ptr (some (h1.size, 0))) e1 H fun fr t H => ?_
    obtain ⟨h3, hx, A⟩ := A.s0 0 [.int .i64 x5.Kind, .int .i64 x5.Group, .str x5.Bytes] [_, _, _]
    refine at_lS hx H fun fr t H => ?_
    refine at_ns 3 id ?_
    refine at_gl 1 [] 13 0 0 A H fun fr t H => ?_
    refine at_el 1 [(14, .bool (x5.Kind == (1 : Int)))] H (fun _ => id) fun fr H => ?_
    refine aw_if 14 H hm (fun hb hm H => ?_) fun hb hm H => ?_
    ·refine aw_rg 5 ?_
     refine at_gl 2 [(15, .int .i64 x1)] 17 0 1 A H fun fr t H => ?_
     refine at_se 2 [(3, .int .i64 (mx x1 x5.Group)), (6, rowV rp0 p0.length), (7, .int .i64 (p0.length : Int)), (8, .int .i64 x2)] H fun fr H => ?_
     refine at_nil ?_
     replace A := A.k1 1
     exact .inl ⟨_, rfl, injA hm, H.ls, A⟩
    refine aw_sk ?_
    replace A := A.k1 1
    exact .inl ⟨_, rfl, injA hm, H.ls, A⟩
   clear ho
   clear A
   intro e fr h4 hQ
   rcases hQ with ⟨x4, rfl, rfl, H, A⟩ | hF
   ·show AW _ _ _ _ _ _ _
    refine aw_rg 2 ?_
    refine at_se 2 [(3, .int .i64 x4), (6, rowV rp0 p0.length), (7, .int .i64 (p0.length : Int)), (8, .int .i64 (IntKind.i64.wrap (x2 + (1 : Int))))] H fun fr H => ?_
    refine at_nil ?_
    exact nx hm ⟨_, _, rfl, H.ls, A⟩
   exact hF.elim
  refine aw_exit (i := 0) (by kernel_rfl) ?_
  exact nr hm fun e => .inl ⟨_, rfl, e, H.ls, A⟩
 clear ho
 clear A
 intro e fr h5 hQ
 rcases hQ with ⟨x3, rfl, rfl, H, A⟩ | hF
 ·show AW _ _ _ _ _ _ _
  refine aw_sr 2 ?_
  refine at_el 2 [(2, .int .i64 x3)] H (fun _ => id) fun fr H => ?_
  refine aw_rt ?_
  obtain rfl := injA hm
  exact ⟨.inl rfl, _, rH H, rfl, A⟩
 exact hF.elim
noncomputable def M_tree_Tree_Right_L0 (p0 : S_tree_Tree) (s : Int) : Option ((Int) ⊕ ((Unit) ⊕ (Bool))) :=
 match s with
 | x1 => iteB (decide (x1 < (p0.Nodes.length : Int))) ((ixV p0.Nodes x1).bind fun x3 => (M_tree_may x3 x1).bind fun x4 => iteB (!x4) (some (.inr (.inr false))) (some (.inl (IntKind.i64.wrap (x1 + (1 : Int)))))) (some (.inr (.inl ())))
noncomputable def M_tree_Tree_Right (p0 : S_tree_Tree) : Option (Bool) :=
 iteB (((decide ((p0.Nodes.length : Int) > (1024 : Int))) || (decide (p0.Root < (0 : Int)))) || (decide (p0.Root ≥ (p0.Nodes.length : Int)))) (some false) ((loop (M_tree_Tree_Right_L0 p0) (0 : Int)).bind fun o1 => (match o1 with | .inl _ => some true | .inr x2 => some x2))
theorem ok_tree_Tree_Right {p0 q0} (hm : M_tree_Tree_Right p0 = some q0) (A : HH g h [] F) (hc : canL (cfg.still 87) av = [.agg [vs e_S_tree_Node p0.Nodes, .int .i64 p0.Root]] := by kernel_rfl) : ∃ v h', Runs cfg g h 87 av v h' ∧ v = .bool q0 ∧ HH g h' [] F := by
 refine rq1 35 [.tmp 2] hc ?_
 clear hc
 unfold M_tree_Tree_Right at hm
 refine bg 35 [(0, .agg [vs e_S_tree_Node p0.Nodes, .int .i64 p0.Root])] fun fr H => ?_
 refine aw_sr 2 ?_
 obtain ⟨h1, e1, A⟩ := A.pu (.cells none 2 [vs e_S_tree_Node p0.Nodes, .int .i64 p0.Root])
 refine at_ln 1 (.ptr (some (h.size, 0))) e1 H fun fr t H => ?_
 refine at_el 1 [] H (fun _ => id) fun fr H => ?_
 refine aw_sq ?_
 refine aw_sr 17 ?_
 refine at_gl 1 [] 6 0 0 A H fun fr t H => ?_
 refine at_sl 3 [(9, .bool (decide ((p0.Nodes.length : Int) > (1024 : Int))))] H fun fr H => ?_
 refine at_cl 4 (fun fr' h' => h1 = h' ∧ Has fr' 35 [(1, .ptr (some (h.size, 0))), (13, .bool ((decide ((p0.Nodes.length : Int) > (1024 : Int))) || (decide (p0.Root < (0 : Int)))))]) ?_ ?_
 ·cases hb : (decide ((p0.Nodes.length : Int) > (1024 : Int)) : Bool) with
  | true =>
   replace H := H.kn 9 hb
   refine at_sl 4 [(13, .bool true)] H fun fr H => ?_
   exact at_zb H hb
  | false =>
   replace H := H.kn 9 hb
   refine at_gl 1 [] 11 0 1 A H fun fr t H => ?_
   refine at_sl 2 [(13, .bool (decide (p0.Root < (0 : Int))))] H fun fr H => ?_
   exact at_zb H hb
 intro t fr h' hK
 obtain ⟨e, H⟩ := hK
 subst e
 refine at_sl 1 [(14, .bool ((decide ((p0.Nodes.length : Int) > (1024 : Int))) || (decide (p0.Root < (0 : Int)))))] H fun fr H => ?_
 refine at_cl 7 (fun fr' h' => h1 = h' ∧ Has fr' 35 [(1, .ptr (some (h.size, 0))), (21, .bool (((decide ((p0.Nodes.length : Int) > (1024 : Int))) || (decide (p0.Root < (0 : Int)))) || (decide (p0.Root ≥ (p0.Nodes.length : Int)))))]) ?_ ?_
 ·cases hb : ((decide ((p0.Nodes.length : Int) > (1024 : Int))) || (decide (p0.Root < (0 : Int))) : Bool) with
  | true =>
   replace H := H.kn 14 hb
   refine at_sl 7 [(21, .bool true)] H fun fr H => ?_
   exact at_zb H hb
  | false =>
   replace H := H.kn 14 hb
   refine at_gl 1 [] 16 0 1 A H fun fr t H => ?_
   refine at_gl 1 [] 18 0 0 A H fun fr t H => ?_
   refine at_sl 3 [(21, .bool (decide (p0.Root ≥ (p0.Nodes.length : Int))))] H fun fr H => ?_
   exact at_zb H hb
 intro t fr h' hK
 obtain ⟨e, H⟩ := hK
 subst e
 refine at_nl id ?_
 refine aw_if 21 H hm (fun hb hm H => ?_) fun hb hm H => ?_
 ·refine aw_sr 1 ?_
  refine at_el 1 [(2, .bool false)] H (fun _ => id) fun fr H => ?_
  refine aw_rt ?_
  obtain rfl := injA hm
  refine ⟨.inl rfl, .bool false, rH H, ?_⟩
  replace A := A.d0
  exact ⟨rfl, A⟩
 refine aw_kn id ?_
 refine aw_sq ?_
 refine aw_sr 4 ?_
 refine at_gl 1 [] 23 0 0 A H fun fr t H => ?_
 refine at_el 2 [(24, .int .i64 (p0.Nodes.length : Int)), (25, .int .i64 0)] H (fun _ => id) fun fr H => ?_
 refine aw_block (id := 0) (by kernel_rfl) ?_
 obtain ⟨o1, ho, hm⟩ := bind_some hm
 refine aw_mono (Q' := fun e fr' h' => (e = .exit 0 ∧ .inl () = o1 ∧ Has fr' 35 [] ∧ HH g h' [.obj h.size (.cells none 2 [vs e_S_tree_Node p0.Nodes, .int .i64 p0.Root])] F) ∨ (∃ x2, e = .ret ∧ .inr x2 = o1 ∧ Has fr' 35 [(2, .bool x2)] ∧ HH g h' [.obj h.size (.cells none 2 [vs e_S_tree_Node p0.Nodes, .int .i64 p0.Root])] F) ∨ False) ?_ ?_
 ·refine aw_loop (by kernel_rfl) (fun (s : Int) fr' h' => ∃ x1, x1 = s ∧ Has fr' 35 [(23, vs e_S_tree_Node p0.Nodes), (24, .int .i64 (p0.Nodes.length : Int)), (25, .int .i64 x1)] ∧ HH g h' [.obj h.size (.cells none 2 [vs e_S_tree_Node p0.Nodes, .int .i64 p0.Root])] F) ho ⟨_, rfl, H.ls, A⟩ ?_
  clear ho hm H A
  intro s q fr h2 hI hm
  obtain ⟨x1, rfl, H, A⟩ := hI
  unfold M_tree_Tree_Right_L0 at hm
  refine aw_sr 1 ?_
  refine at_el 1 [(26, .bool (decide (x1 < (p0.Nodes.length : Int))))] H (fun _ => id) fun fr H => ?_
  refine aw_sq ?_
  refine aw_if 26 H hm (fun hb hm H => ?_) fun hb hm H => ?_
  ·refine aw_kn id ?_
   refine aw_sq ?_
   refine aw_block (id := 1) (by kernel_rfl) ?_
   refine aw_sr 6 ?_
   obtain ⟨x3, hx, hm⟩ := bind_some hm
   refine at_g1 1 [(27, .int .i64 x1)] 28 (.vptr (e_S_tree_Node x3)) h2 H (fun fr => .of (s_ixV (e := e_S_tree_Node) (x := x3) enc_S_tree_Node (by decide) (by kernel_rfl) hx)) fun fr t H => ?_
   refine at_l1 29 (.agg (e_S_tree_Node x3)) h2 H (fun fr => .of (s_lv (by kernel_rfl))) fun fr t H => ?_
   obtain ⟨h3, e2, A⟩ := A.pu (.cells none 2 [.int .i64 0, .int .i64 0, .int .i64 0, .int .i64 0, .int .i64 0, .int .i64 0, .int .u64 0, .int .u64 0, .int .u64 0, .int .u64 0])
   refine at_ln 4 (.ptr (some (h2.size, 0))) e2 H fun fr t H => ?_
   obtain ⟨h4, hx, A⟩ := A.s0 0 [.int .i64 x3.Kind, .int .i64 x3.A, .int .i64 x3.B, .int .i64 x3.Min, .int .i64 x3.Max, .int .i64 x3.Group, .int .u64 x3.Set.w0, .int .u64 x3.Set.w1, .int .u64 x3.Set.w2, .int .u64 x3.Set.w3] [_, _, _, _, _, _, _, _, _, _]
   refine at_gS 1 [(3, .int .i64 x1)] hx H fun fr t H => ?_
   refine at_ns 4 id ?_
   refine at_l1 30 _ _ H (fun fr => .of (s_ldA (by kernel_rfl) (A.ldA 0 rfl (o := 0) (n := 10) ⟨Nat.le_of_ble_eq_true rfl, rfl⟩))) fun fr t H => ?_
   obtain ⟨x4, hx, hm⟩ := bind_some hm
   obtain ⟨v1, h5, hr, rfl, A1⟩ := ok_tree_may (av := [.agg (e_S_tree_Node x3), .int .i64 x1]) hx (A.cut 0)
   replace A := A.g00 A1
   refine at_gc1 1 [] 32 hr H fun fr t H => ?_
   refine at_el 1 [(33, .bool (!x4))] H (fun _ => id) fun fr H => ?_
   refine aw_if 33 H hm (fun hb hm H => ?_) fun hb hm H => ?_
   ·refine aw_sr 1 ?_
    refine at_el 1 [(2, .bool false)] H (fun _ => id) fun fr H => ?_
    refine aw_rt ?_
    replace A := A.k1 1
    exact nr hm fun e => Or.inr (.inl ⟨_, rfl, e, H.ls, A⟩)
   refine aw_kr 2 id ?_
   refine at_se 2 [(23, vs e_S_tree_Node p0.Nodes), (24, .int .i64 (p0.Nodes.length : Int)), (25, .int .i64 (IntKind.i64.wrap (x1 + (1 : Int))))] H fun fr H => ?_
   refine at_nil ?_
   replace A := A.k1 1
   exact nx hm ⟨_, rfl, H.ls, A⟩
  refine aw_exit (i := 0) (by kernel_rfl) ?_
  exact nr hm fun e => .inl ⟨rfl, e, H.ls, A⟩
 clear ho
 clear A
 intro e fr h6 hQ
 rcases hQ with ⟨rfl, rfl, H, A⟩ | ⟨x2, rfl, rfl, H, A⟩ | hF
 ·show AW _ _ _ _ _ _ _
  refine aw_sr 1 ?_
  refine at_el 1 [(2, .bool true)] H (fun _ => id) fun fr H => ?_
  refine aw_rt ?_
  obtain rfl := injA hm
  refine ⟨.inl rfl, .bool true, rH H, ?_⟩
  replace A := A.d0
  exact ⟨rfl, A⟩
 ·obtain rfl := injA hm
  refine ⟨.inl rfl, .bool x2, rH H, ?_⟩
  replace A := A.d0
  exact ⟨rfl, A⟩
 exact hF.elim
noncomputable def M_tree_Tree_used_L0 (p0 : S_tree_Tree) (s : (List Bool) × Int) : Option (((List Bool) × Int) ⊕ (((List Bool)))) :=
 match s with
 | (x2, x3) => iteB (decide (x3 ≥ (0 : Int))) (((ixV x2 x3).bind fun x6 => iteB (!x6) (some x2) ((ixV p0.Nodes x3).bind fun x7 => (iteB (x7.Kind == (2 : Int)) (some true) (some (x7.Kind == (3 : Int))) : Option ((Bool))).bind fun x8 => iteB x8 ((ixV x2 x7.A).bind fun x9 => (ixV (x2.set x7.A.toNat true) x7.B).bind fun x10 => some ((x2.set x7.A.toNat true).set x7.B.toNat true)) ((iteB (x7.Kind == (4 : Int)) (some true) (some (x7.Kind == (5 : Int))) : Option ((Bool))).bind fun x11 => iteB x11 ((ixV x2 x7.A).bind fun x12 => some (x2.set x7.A.toNat true)) (some x2))) : Option (((List Bool)))).bind fun x5 => some (.inl (x5, IntKind.i64.wrap (x3 - (1 : Int))))) (some (.inr x2))
noncomputable def M_tree_Tree_used (p0 : S_tree_Tree) : Option ((List Bool)) :=
 need (mkN 1 (p0.Nodes.length : Int)) <| (ixV (List.replicate (p0.Nodes.length : Int).toNat false) p0.Root).bind fun x1 => (loop (M_tree_Tree_used_L0 p0) (((List.replicate (p0.Nodes.length : Int).toNat false).set p0.Root.toNat true), p0.Root)).bind fun x4 => some x4
theorem ok_tree_Tree_used {p0 q0} (hm : M_tree_Tree_used p0 = some q0) (A : HH g h [] F) (hc : canL (cfg.still 88) av = [.agg [vs e_S_tree_Node p0.Nodes, .int .i64 p0.Root]] := by kernel_rfl) : ∃ v h', Runs cfg g h 88 av v h' ∧ ∃ (rq0 : Option Nat), v = rowV rq0 q0.length ∧ HH g h' [.lst rq0 4 (lst eB q0)] F := by
 refine rq1 51 [.tmp 2] hc ?_
 clear hc
 unfold M_tree_Tree_used at hm
 refine bg 51 [(0, .agg [vs e_S_tree_Node p0.Nodes, .int .i64 p0.Root])] fun fr H => ?_
 refine aw_sr 2 ?_
 obtain ⟨h1, e1, A⟩ := A.pu (.cells none 2 [vs e_S_tree_Node p0.Nodes, .int .i64 p0.Root])
 refine at_ln 1 (.ptr (some (h.size, 0))) e1 H fun fr t H => ?_
 refine at_es 1 [] 5 H (fun _ => id) fun fr H => ?_
 refine at_gl 1 [] 7 0 0 A H fun fr t H => ?_
 obtain ⟨hb, hm⟩ := need_some hm
 obtain ⟨h2, e2, A⟩ := A.pL 4 (lst eB (List.replicate (p0.Nodes.length : Int).toNat false))
 refine at_g1 1 [] 9 (rowV (some h1.size) (List.replicate (p0.Nodes.length : Int).toNat false).length) h2 H (fun fr => .of (s_mkO (e := eB) encB (x := false) (by kernel_rfl) hb (congrArg some e2.symm))) fun fr t H => ?_
 refine at_es 1 [(3, rowV (some h1.size) ((List.replicate (p0.Nodes.length : Int).toNat false).length))] 5 H (fun _ => id) fun fr H => ?_
 refine at_gl 2 [(10, rowV (some h1.size) ((List.replicate (p0.Nodes.length : Int).toNat false).length))] 12 1 1 A H fun fr t H => ?_
 obtain ⟨x1, hx, hm⟩ := bind_some hm
 obtain ⟨i1, er1, _, hx, hq1⟩ := HH.ixO encB (by decide) A 0 (xs := (List.replicate (p0.Nodes.length : Int).toNat false)) rfl hx
 refine at_l1 13 (.ptr (some (i1, p0.Root.toNat * 1))) h2 H (fun fr => .of (s_ixL (s := rowS (some h1.size) ((List.replicate (p0.Nodes.length : Int).toNat false).length)) (by kernel_rfl) hx)) fun fr t H => ?_
 obtain ⟨h3, hx, A1⟩ := HH.stO encB A 0 rfl er1 hq1 (y := true) (o := 0) (new := [.bool true]) rfl rfl (Nat.le_of_ble_eq_true rfl)
 have hl1 : ((List.replicate (p0.Nodes.length : Int).toNat false).set p0.Root.toNat true).length = (List.replicate (p0.Nodes.length : Int).toNat false).length := List.length_set
 have el : rowV (some h1.size) (List.replicate (p0.Nodes.length : Int).toNat false).length = rowV (some h1.size) ((List.replicate (p0.Nodes.length : Int).toNat false).set p0.Root.toNat true).length := congrArg _ List.length_set.symm
 try rw [el] at H
 try rw [el] at A1
 replace A : HH g h3 [.lst (some h1.size) 4 (lst eB ((List.replicate (p0.Nodes.length : Int).toNat false).set p0.Root.toNat true)), .obj h.size (.cells none 2 [vs e_S_tree_Node p0.Nodes, .int .i64 p0.Root])] F := A1
 refine at_ls hx H fun fr t H => ?_
 refine at_nl id ?_
 refine aw_sq ?_
 refine aw_sr 3 ?_
 refine at_gl 1 [] 15 1 1 A H fun fr t H => ?_
 refine at_el 1 [(4, .int .i64 p0.Root)] H (fun _ => id) fun fr H => ?_
 refine aw_block (id := 0) (by kernel_rfl) ?_
 obtain ⟨o1, ho, hm⟩ := bind_some hm
 refine aw_mono (Q' := fun e fr' h' => (∃ x4, e = .exit 0 ∧ x4 = o1 ∧ ∃ (hl3 : x4.length = (List.replicate (p0.Nodes.length : Int).toNat false).length), Has fr' 51 [(3, rowV (some h1.size) x4.length)] ∧ HH g h' [.lst (some h1.size) 4 (lst eB x4), .obj h.size (.cells none 2 [vs e_S_tree_Node p0.Nodes, .int .i64 p0.Root])] F) ∨ False) ?_ ?_
 ·refine aw_loop (by kernel_rfl) (fun (s : (List Bool) × Int) fr' h' => ∃ x2 x3, (x2, x3) = s ∧ ∃ (hl2 : x2.length = (List.replicate (p0.Nodes.length : Int).toNat false).length), Has fr' 51 [(1, .ptr (some (h.size, 0))), (3, rowV (some h1.size) x2.length), (4, .int .i64 x3)] ∧ HH g h' [.lst (some h1.size) 4 (lst eB x2), .obj h.size (.cells none 2 [vs e_S_tree_Node p0.Nodes, .int .i64 p0.Root])] F) ho ⟨_, _, rfl, hl1, H.ls, A⟩ ?_
  clear ho hm H A
  intro s q fr h4 hI hm
  obtain ⟨x2, x3, rfl, hl2, H, A⟩ := hI
  unfold M_tree_Tree_used_L0 at hm
  refine aw_sq ?_
  refine aw_sr 2 ?_
  refine at_el 2 [(17, .bool (decide (x3 ≥ (0 : Int))))] H (fun _ => id) fun fr H => ?_
  refine aw_if 17 H hm (fun hb hm H => ?_) fun hb hm H => ?_
  ·refine aw_kn id ?_
   refine aw_sq ?_
   obtain ⟨o2, ho, hm⟩ := bind_some hm
   refine aw_mono (Q' := fun e fr' h' => (∃ x5, e = .normal ∧ x5 = o2 ∧ ∃ (hl4 : x5.length = (List.replicate (p0.Nodes.length : Int).toNat false).length), Has fr' 51 [(1, .ptr (some (h.size, 0))), (3, rowV (some h1.size) x5.length), (4, .int .i64 x3)] ∧ HH g h' [.lst (some h1.size) 4 (lst eB x5), .obj h.size (.cells none 2 [vs e_S_tree_Node p0.Nodes, .int .i64 p0.Root])] F) ∨ False) ?_ ?_
   ·replace hm := ho
    clear ho
    refine aw_block (id := 1) (by kernel_rfl) ?_
    refine aw_sq ?_
    refine aw_sr 5 ?_
    obtain ⟨x6, hx, hm⟩ := bind_some hm
    obtain ⟨i2, er2, _, hx, hq2⟩ := HH.ixO encB (by decide) A 0 (xs := x2) rfl hx
    refine at_g1 2 [] 22 (.ptr (some (i2, x3.toNat * 1))) h4 H (fun fr => .of (s_ixL (s := rowS (some h1.size) x2.length) (by kernel_rfl) hx)) fun fr t H => ?_
    refine at_l1 23 _ _ H (fun fr => .of (s_ld (by kernel_rfl) (row_ld1 encB (HH.row A 0 rfl er2) hq2 (o := 0) rfl))) fun fr t H => ?_
    refine at_el 1 [(24, .bool (!x6))] H (fun _ => id) fun fr H => ?_
    refine aw_if 24 H hm (fun hb hm H => ?_) fun hb hm H => ?_
    ·refine aw_exit (i := 1) (by kernel_rfl) ?_
     exact .inl ⟨_, rfl, injA hm, hl2, H.ls, A⟩
    refine aw_ks 7 id ?_
    refine at_gl 1 [] 26 1 0 A H fun fr t H => ?_
    obtain ⟨x7, hx, hm⟩ := bind_some hm
    refine at_g1 1 [] 28 (.vptr (e_S_tree_Node x7)) h4 H (fun fr => .of (s_ixV (e := e_S_tree_Node) (x := x7) enc_S_tree_Node (by decide) (by kernel_rfl) hx)) fun fr t H => ?_
    refine at_l1 29 (.agg (e_S_tree_Node x7)) h4 H (fun fr => .of (s_lv (by kernel_rfl))) fun fr t H => ?_
    obtain ⟨h5, e3, A⟩ := A.pu (.cells none 2 [.int .i64 0, .int .i64 0, .int .i64 0, .int .i64 0, .int .i64 0, .int .i64 0, .int .u64 0, .int .u64 0, .int .u64 0, .int .u64 0])
    refine at_ln 5 (.ptr (some (h4.size, 0))) e3 H fun fr t H => ?_
    obtain ⟨h6, hx, A⟩ := A.s0 0 [.int .i64 x7.Kind, .int .i64 x7.A, .int .i64 x7.B, .int .i64 x7.Min, .int .i64 x7.Max, .int .i64 x7.Group, .int .u64 x7.Set.w0, .int .u64 x7.Set.w1, .int .u64 x7.Set.w2, .int .u64 x7.Set.w3] [_, _, _, _, _, _, _, _, _, _]
    refine at_lS hx H fun fr t H => ?_
    refine at_ns 2 id ?_
    refine at_gl 1 [] 31 0 0 A H fun fr t H => ?_
    refine at_nl id ?_
    refine aw_block (id := 2) (by kernel_rfl) ?_
    refine aw_sq ?_
    obtain ⟨o3, ho, hm⟩ := bind_some hm
    refine aw_mono (Q' := fun e fr' h' => (∃ x8, e = .normal ∧ x8 = o3 ∧ Has fr' 51 [(1, .ptr (some (h.size, 0))), (3, rowV (some h1.size) x2.length), (4, .int .i64 x3), (5, .ptr (some (h4.size, 0))), (31, .int .i64 x7.Kind), (32, .bool x8)] ∧ HH g h' [.obj h4.size (.cells none 2 (e_S_tree_Node x7)), .lst (some h1.size) 4 (lst eB x2), .obj h.size (.cells none 2 [vs e_S_tree_Node p0.Nodes, .int .i64 p0.Root])] F) ∨ False) ?_ ?_
    ·replace hm := ho
     clear ho
     refine aw_sr 2 ?_
     refine at_el 2 [(32, .bool (x7.Kind == (2 : Int)))] H (fun _ => id) fun fr H => ?_
     refine aw_if 32 H hm (fun hb hm H => ?_) fun hb hm H => ?_
     ·refine aw_sk ?_
      exact .inl ⟨_, rfl, injA hm, H.ls, A⟩
     refine aw_rg 2 ?_
     refine at_se 2 [(1, .ptr (some (h.size, 0))), (3, rowV (some h1.size) x2.length), (4, .int .i64 x3), (5, .ptr (some (h4.size, 0))), (31, .int .i64 x7.Kind), (32, .bool (x7.Kind == (3 : Int)))] H fun fr H => ?_
     refine at_nil ?_
     exact .inl ⟨_, rfl, injA hm, H.ls, A⟩
    clear ho
    clear A
    intro e fr h7 hQ
    rcases hQ with ⟨x8, rfl, rfl, H, A⟩ | hF
    ·show AW _ _ _ _ _ _ _
     refine aw_if 32 H hm (fun hb hm H => ?_) fun hb hm H => ?_
     ·refine aw_dw 11 10 [(0, []), (1, []), (2, []), (3, []), (4, []), (5, []), (6, []), (7, [5]), (8, []), (9, [])] ?_
      refine at_sl 2 [(35, rowV (some h1.size) x2.length), (36, .ptr (some (h4.size, 1)))] H fun fr H => ?_
      refine at_t1 37 (.int .i64 x7.A) h7 [(2, h4.size)] (g.prot) H (fun fr => .of (s_ld (by kernel_rfl) (A.l1 0 1))) (fun fr H => ?_)
      refine at_sl 2 [(38, rowV (some h1.size) x2.length), (39, .ptr (some (h4.size, 2)))] H fun fr H => ?_
      refine at_t1 40 (.int .i64 x7.B) h7 [(5, h4.size), (2, h4.size)] (g.prot) H (fun fr => .of (s_ld (by kernel_rfl) (A.l1 0 2))) (fun fr H => ?_)
      obtain ⟨x9, hx, hm⟩ := bind_some hm
      obtain ⟨i3, er3, _, hx, hq3⟩ := HH.ixO encB (by decide) A 1 (xs := x2) rfl hx
      refine at_t1 41 (.ptr (some (i3, x7.A.toNat * 1))) h7 [(5, h4.size), (2, h4.size)] (g.prot) H (fun fr => .of (s_ixL (s := rowS (some h1.size) x2.length) (by kernel_rfl) hx)) (fun fr H => ?_)
      replace A := A.k3 1 0 2
      have A1 := A.prot2 1 (pr := [h4.size]) (.cons 0 rfl (by simp [Ck.ids]) .nil)
      obtain ⟨h8, hx, A1⟩ := HH.stO encB A1 0 rfl er3 hq3 (y := true) (o := 0) (new := [.bool true]) rfl rfl (Nat.le_of_ble_eq_true rfl)
      have hl5 : (x2.set x7.A.toNat true).length = (List.replicate (p0.Nodes.length : Int).toNat false).length := List.length_set.trans hl2
      have el : rowV (some h1.size) x2.length = rowV (some h1.size) (x2.set x7.A.toNat true).length := congrArg _ List.length_set.symm
      try rw [el] at H
      try rw [el] at A1
      replace A := A.p11 A1
      refine at_t0 (.tuple []) h8 [(5, h4.size), (2, h4.size)] (h4.size :: g.prot) H (fun fr => .of (s_st (by kernel_rfl) rfl hx)) (fun fr H => ?_)
      obtain ⟨x10, hx, hm⟩ := bind_some hm
      obtain ⟨i4, er4, _, hx, hq4⟩ := HH.ixO encB (by decide) A 0 (xs := (x2.set x7.A.toNat true)) rfl hx
      refine at_t1 42 (.ptr (some (i4, x7.B.toNat * 1))) h8 [(5, h4.size), (2, h4.size)] (g.prot) H (fun fr => .of (s_ixL (s := rowS (some h1.size) ((x2.set x7.A.toNat true).length)) (by kernel_rfl) hx)) (fun fr H => ?_)
      obtain ⟨h9, hx, A1⟩ := HH.stO encB A 0 rfl er4 hq4 (y := true) (o := 0) (new := [.bool true]) rfl rfl (Nat.le_of_ble_eq_true rfl)
      have hl6 : ((x2.set x7.A.toNat true).set x7.B.toNat true).length = (List.replicate (p0.Nodes.length : Int).toNat false).length := List.length_set.trans hl5
      have el : rowV (some h1.size) (x2.set x7.A.toNat true).length = rowV (some h1.size) ((x2.set x7.A.toNat true).set x7.B.toNat true).length := congrArg _ List.length_set.symm
      try rw [el] at H
      try rw [el] at A1
      replace A : HH g h9 [.lst (some h1.size) 4 (lst eB ((x2.set x7.A.toNat true).set x7.B.toNat true)), _, _] F := A1
      refine at_t0 (.tuple []) h9 [(5, h4.size), (2, h4.size)] (g.prot) H (fun fr => .of (s_st (by kernel_rfl) rfl hx)) (fun fr H => ?_)
      refine at_nil ?_
      replace A := A.k2 0 2
      exact .inl ⟨_, rfl, injA hm, hl6, H.ls, A⟩
     refine aw_sq ?_
     obtain ⟨o4, ho, hm⟩ := bind_some hm
     refine aw_mono (Q' := fun e fr' h' => (∃ x11, e = .normal ∧ x11 = o4 ∧ Has fr' 51 [(1, .ptr (some (h.size, 0))), (3, rowV (some h1.size) x2.length), (4, .int .i64 x3), (5, .ptr (some (h4.size, 0))), (43, .bool x11)] ∧ HH g h' [.obj h4.size (.cells none 2 (e_S_tree_Node x7)), .lst (some h1.size) 4 (lst eB x2), .obj h.size (.cells none 2 [vs e_S_tree_Node p0.Nodes, .int .i64 p0.Root])] F) ∨ False) ?_ ?_
     ·replace hm := ho
      clear ho
      refine aw_sr 2 ?_
      refine at_el 2 [(43, .bool (x7.Kind == (4 : Int)))] H (fun _ => id) fun fr H => ?_
      refine aw_if 43 H hm (fun hb hm H => ?_) fun hb hm H => ?_
      ·refine aw_sk ?_
       exact .inl ⟨_, rfl, injA hm, H.ls, A⟩
      refine aw_rg 2 ?_
      refine at_se 2 [(1, .ptr (some (h.size, 0))), (3, rowV (some h1.size) x2.length), (4, .int .i64 x3), (5, .ptr (some (h4.size, 0))), (43, .bool (x7.Kind == (5 : Int)))] H fun fr H => ?_
      refine at_nil ?_
      exact .inl ⟨_, rfl, injA hm, H.ls, A⟩
     clear ho
     clear A
     intro e fr h10 hQ
     rcases hQ with ⟨x11, rfl, rfl, H, A⟩ | hF
     ·show AW _ _ _ _ _ _ _
      refine aw_if 43 H hm (fun hb hm H => ?_) fun hb hm H => ?_
      ·refine aw_rg 5 ?_
       refine at_gl 2 [(46, rowV (some h1.size) x2.length)] 48 0 1 A H fun fr t H => ?_
       obtain ⟨x12, hx, hm⟩ := bind_some hm
       obtain ⟨i5, er5, _, hx, hq5⟩ := HH.ixO encB (by decide) A 1 (xs := x2) rfl hx
       refine at_l1 49 (.ptr (some (i5, x7.A.toNat * 1))) h10 H (fun fr => .of (s_ixL (s := rowS (some h1.size) x2.length) (by kernel_rfl) hx)) fun fr t H => ?_
       obtain ⟨h11, hx, A1⟩ := HH.stO encB A 1 rfl er5 hq5 (y := true) (o := 0) (new := [.bool true]) rfl rfl (Nat.le_of_ble_eq_true rfl)
       have hl7 : (x2.set x7.A.toNat true).length = (List.replicate (p0.Nodes.length : Int).toNat false).length := List.length_set.trans hl2
       have el : rowV (some h1.size) x2.length = rowV (some h1.size) (x2.set x7.A.toNat true).length := congrArg _ List.length_set.symm
       try rw [el] at H
       try rw [el] at A1
       replace A : HH g h11 [_, .lst (some h1.size) 4 (lst eB (x2.set x7.A.toNat true)), _] F := A1
       refine at_ls hx H fun fr t H => ?_
       refine at_nil ?_
       replace A := A.k2 1 2
       exact .inl ⟨_, rfl, injA hm, hl7, H.ls, A⟩
      refine aw_sk ?_
      replace A := A.k2 1 2
      exact .inl ⟨_, rfl, injA hm, hl2, H.ls, A⟩
     exact hF.elim
    exact hF.elim
   clear ho
   clear A
   intro e fr h12 hQ
   rcases hQ with ⟨x5, rfl, rfl, hl4, H, A⟩ | hF
   ·show AW _ _ _ _ _ _ _
    refine aw_rg 3 ?_
    refine at_se 3 [(1, .ptr (some (h.size, 0))), (3, rowV (some h1.size) x5.length), (4, .int .i64 (IntKind.i64.wrap (x3 - (1 : Int))))] H fun fr H => ?_
    refine at_nil ?_
    exact nx hm ⟨_, _, rfl, hl4, H.ls, A⟩
   exact hF.elim
  refine aw_exit (i := 0) (by kernel_rfl) ?_
  exact nr hm fun e => .inl ⟨_, rfl, e, hl2, H.ls, A⟩
 clear ho
 clear A
 intro e fr h13 hQ
 rcases hQ with ⟨x4, rfl, rfl, hl3, H, A⟩ | hF
 ·show AW _ _ _ _ _ _ _
  refine aw_sr 2 ?_
  refine at_el 2 [(2, rowV (some h1.size) x4.length)] H (fun _ => id) fun fr H => ?_
  refine aw_rt ?_
  obtain rfl := injA hm
  refine ⟨.inl rfl, rowV (some h1.size) x4.length, rH H, ?_⟩
  replace A := A.d1
  exact ⟨some h1.size, rfl, A⟩
 exact hF.elim
noncomputable def M_tree_Tree_Groups_L0 (p0 : S_tree_Tree) (x2 : List Bool) (s : Int × Int) : Option ((Int × Int) ⊕ ((Int))) :=
 match s with
 | (x3, x4) => iteB (decide (x4 < (x2.length : Int))) (((ixV x2 x4).bind fun x7 => iteB x7 ((ixV p0.Nodes x4).bind fun x8 => some (mx x3 x8.Group)) (some x3) : Option ((Int))).bind fun x6 => some (.inl (x6, IntKind.i64.wrap (x4 + (1 : Int))))) (some (.inr x3))
noncomputable def M_tree_Tree_Groups (p0 : S_tree_Tree) : Option (Int) :=
 (M_tree_Tree_Right p0).bind fun x1 => iteB (!x1) (some (0 : Int)) ((M_tree_Tree_used p0).bind fun x2 => (loop (M_tree_Tree_Groups_L0 p0 x2) ((0 : Int), (0 : Int))).bind fun x5 => some x5)
theorem ok_tree_Tree_Groups {p0 q0} (hm : M_tree_Tree_Groups p0 = some q0) (A : HH g h [] F) (hc : canL (cfg.still 44) av = [.agg [vs e_S_tree_Node p0.Nodes, .int .i64 p0.Root]] := by kernel_rfl) : ∃ v h', Runs cfg g h 44 av v h' ∧ v = .int .i64 q0 ∧ HH g h' [] F := by
 refine rq1 28 [.tmp 2] hc ?_
 clear hc
 unfold M_tree_Tree_Groups at hm
 refine bg 28 [(0, .agg [vs e_S_tree_Node p0.Nodes, .int .i64 p0.Root])] fun fr H => ?_
 refine aw_sr 2 ?_
 obtain ⟨h1, e1, A⟩ := A.pu (.cells none 2 [vs e_S_tree_Node p0.Nodes, .int .i64 p0.Root])
 refine at_ln 1 (.ptr (some (h.size, 0))) e1 H fun fr t H => ?_
 refine at_el 1 [] H (fun _ => id) fun fr H => ?_
 refine aw_sq ?_
 refine aw_sr 3 ?_
 refine at_l1 6 _ _ H (fun fr => .of (s_ldA (by kernel_rfl) (A.ldA 0 rfl (o := 0) (n := 2) ⟨Nat.le_of_ble_eq_true rfl, rfl⟩))) fun fr t H => ?_
 obtain ⟨x1, hx, hm⟩ := bind_some hm
 obtain ⟨v1, h2, hr, rfl, A1⟩ := ok_tree_Tree_Right (av := [.agg [vs e_S_tree_Node p0.Nodes, .int .i64 p0.Root]]) hx (A.cut 0)
 replace A : HH g h2 [.obj h.size (.cells none 2 [vs e_S_tree_Node p0.Nodes, .int .i64 p0.Root])] F := A.glue0 (n := 0) A1
 refine at_lc1 7 hr H fun fr t H => ?_
 refine at_el 1 [(8, .bool (!x1))] H (fun _ => id) fun fr H => ?_
 refine aw_if 8 H hm (fun hb hm H => ?_) fun hb hm H => ?_
 ·refine aw_sr 1 ?_
  refine at_el 1 [(2, .int .i64 0)] H (fun _ => id) fun fr H => ?_
  refine aw_rt ?_
  obtain rfl := injA hm
  refine ⟨.inl rfl, .int .i64 0, rH H, ?_⟩
  replace A := A.d0
  exact ⟨rfl, A⟩
 refine aw_ks 1 id ?_
 refine at_el 1 [(3, .int .i64 0)] H (fun _ => id) fun fr H => ?_
 refine aw_sq ?_
 refine aw_sr 4 ?_
 refine at_l1 9 _ _ H (fun fr => .of (s_ldA (by kernel_rfl) (A.ldA 0 rfl (o := 0) (n := 2) ⟨Nat.le_of_ble_eq_true rfl, rfl⟩))) fun fr t H => ?_
 obtain ⟨x2, hx, hm⟩ := bind_some hm
 obtain ⟨v1, h3, hr, rqw2, rfl, A1⟩ := ok_tree_Tree_used (av := [.agg [vs e_S_tree_Node p0.Nodes, .int .i64 p0.Root]]) hx (A.cut 0)
 replace A := A.g01 A1
 refine at_lc1 10 hr H fun fr t H => ?_
 refine at_el 2 [(11, .int .i64 (x2.length : Int)), (12, .int .i64 0)] H (fun _ => id) fun fr H => ?_
 refine aw_block (id := 0) (by kernel_rfl) ?_
 obtain ⟨o1, ho, hm⟩ := bind_some hm
 refine aw_mono (Q' := fun e fr' h' => (∃ x5, e = .exit 0 ∧ x5 = o1 ∧ Has fr' 28 [(3, .int .i64 x5)] ∧ HH g h' [.obj h.size (.cells none 2 [vs e_S_tree_Node p0.Nodes, .int .i64 p0.Root])] F) ∨ False) ?_ ?_
 ·refine aw_loop (by kernel_rfl) (fun (s : Int × Int) fr' h' => ∃ x3 x4, (x3, x4) = s ∧ Has fr' 28 [(1, .ptr (some (h.size, 0))), (3, .int .i64 x3), (10, rowV rqw2 x2.length), (11, .int .i64 (x2.length : Int)), (12, .int .i64 x4)] ∧ HH g h' [.lst rqw2 4 (lst eB x2), .obj h.size (.cells none 2 [vs e_S_tree_Node p0.Nodes, .int .i64 p0.Root])] F) ho ⟨_, _, rfl, H.ls, A⟩ ?_
  clear ho hm H A
  intro s q fr h4 hI hm
  obtain ⟨x3, x4, rfl, H, A⟩ := hI
  unfold M_tree_Tree_Groups_L0 at hm
  refine aw_sr 1 ?_
  refine at_el 1 [(13, .bool (decide (x4 < (x2.length : Int))))] H (fun _ => id) fun fr H => ?_
  refine aw_sq ?_
  refine aw_if 13 H hm (fun hb hm H => ?_) fun hb hm H => ?_
  ·refine aw_kn id ?_
   refine aw_sq ?_
   obtain ⟨o2, ho, hm⟩ := bind_some hm
   refine aw_mono (Q' := fun e fr' h' => (∃ x6, e = .normal ∧ x6 = o2 ∧ Has fr' 28 [(1, .ptr (some (h.size, 0))), (3, .int .i64 x6), (10, rowV rqw2 x2.length), (11, .int .i64 (x2.length : Int)), (12, .int .i64 x4)] ∧ HH g h' [.lst rqw2 4 (lst eB x2), .obj h.size (.cells none 2 [vs e_S_tree_Node p0.Nodes, .int .i64 p0.Root])] F) ∨ False) ?_ ?_
   ·replace hm := ho
    clear ho
    refine aw_block (id := 1) (by kernel_rfl) ?_
    refine aw_sr 5 ?_
    obtain ⟨x7, hx, hm⟩ := bind_some hm
    obtain ⟨i1, er1, _, hx, hq1⟩ := HH.ixO encB (by decide) A 0 (xs := x2) rfl hx
    refine at_g1 1 [(14, .int .i64 x4)] 15 (.ptr (some (i1, x4.toNat * 1))) h4 H (fun fr => .of (s_ixL (s := rowS rqw2 x2.length) (by kernel_rfl) hx)) fun fr t H => ?_
    refine at_l1 16 _ _ H (fun fr => .of (s_ld (by kernel_rfl) (row_ld1 encB (HH.row A 0 rfl er1) hq1 (o := 0) rfl))) fun fr t H => ?_
    refine at_es 2 [(4, .int .i64 x4), (5, .bool x7)] 1 H (fun _ => id) fun fr H => ?_
    refine at_el 1 [(17, .bool x7)] H (fun _ => id) fun fr H => ?_
    refine aw_if 17 H hm (fun hb hm H => ?_) fun hb hm H => ?_
    ·refine aw_rg 9 ?_
     refine at_gl 2 [(18, .int .i64 x3)] 20 1 0 A H fun fr t H => ?_
     obtain ⟨x8, hx, hm⟩ := bind_some hm
     refine at_g1 1 [] 22 (.vptr (e_S_tree_Node x8)) h4 H (fun fr => .of (s_ixV (e := e_S_tree_Node) (x := x8) enc_S_tree_Node (by decide) (by kernel_rfl) hx)) fun fr t H => ?_
     refine at_g1 1 [] 24 (.int .i64 x8.Group) h4 H (fun fr => .of (s_lv (by kernel_rfl))) fun fr t H => ?_
     refine at_se 2 [(1, .ptr (some (h.size, 0))), (3, .int .i64 (mx x3 x8.Group)), (10, rowV rqw2 x2.length), (11, .int .i64 (x2.length : Int)), (12, .int .i64 x4)] H fun fr H => ?_
     refine at_nil ?_
     exact .inl ⟨_, rfl, injA hm, H.ls, A⟩
    refine aw_sk ?_
    exact .inl ⟨_, rfl, injA hm, H.ls, A⟩
   clear ho
   clear A
   intro e fr h5 hQ
   rcases hQ with ⟨x6, rfl, rfl, H, A⟩ | hF
   ·show AW _ _ _ _ _ _ _
    refine aw_rg 2 ?_
    refine at_se 2 [(1, .ptr (some (h.size, 0))), (3, .int .i64 x6), (10, rowV rqw2 x2.length), (11, .int .i64 (x2.length : Int)), (12, .int .i64 (IntKind.i64.wrap (x4 + (1 : Int))))] H fun fr H => ?_
    refine at_nil ?_
    exact nx hm ⟨_, _, rfl, H.ls, A⟩
   exact hF.elim
  refine aw_exit (i := 0) (by kernel_rfl) ?_
  replace A := A.k1 1
  exact nr hm fun e => .inl ⟨_, rfl, e, H.ls, A⟩
 clear ho
 clear A
 intro e fr h6 hQ
 rcases hQ with ⟨x5, rfl, rfl, H, A⟩ | hF
 ·show AW _ _ _ _ _ _ _
  refine aw_sr 2 ?_
  refine at_el 2 [(2, .int .i64 x5)] H (fun _ => id) fun fr H => ?_
  refine aw_rt ?_
  obtain rfl := injA hm
  refine ⟨.inl rfl, .int .i64 x5, rH H, ?_⟩
  replace A := A.d0
  exact ⟨rfl, A⟩
 exact hF.elim
noncomputable def M_auto_maker_lay_sPPOR (p0 : S_auto_maker) (p1 : S_auto_state) : Option (Int × S_auto_maker × (List S_auto_state)) :=
 iteB (p0.full_ || (decide ((p0.a_.l_.length : Int) ≥ p0.most_))) (some ((0 : Int), (⟨p0.t_, p0.a_, p0.most_, p0.full_ || (decide ((p0.a_.l_.length : Int) ≥ p0.most_))⟩ : S_auto_maker), p0.a_.l_)) (need (okN 56 (p0.a_.l_.length + ([p1] : List S_auto_state).length)) <| some (IntKind.i64.wrap (((p0.a_.l_ ++ ([p1] : List S_auto_state)).length : Int) - (1 : Int)), (⟨p0.t_, (⟨(p0.a_.l_ ++ ([p1] : List S_auto_state)), p0.a_.first_⟩ : S_auto_Auto), p0.most_, p0.full_ || (decide ((p0.a_.l_.length : Int) ≥ p0.most_))⟩ : S_auto_maker), (p0.a_.l_ ++ ([p1] : List S_auto_state))))
theorem ok_auto_maker_lay_sPPOR {p0 p1 bp0 bp0_2 rp0_2_0 q0 u0 u2} (hm : M_auto_maker_lay_sPPOR p0 p1 = some (q0, u0, u2)) (A : HH g h [.obj bp0 (.cells none 2 [vs e_S_tree_Node p0.t_.Nodes, .int .i64 p0.t_.Root, .ptr (some (bp0_2, 0)), .int .i64 p0.most_, .bool p0.full_]), .obj bp0_2 (.cells none 2 [rowV rp0_2_0 p0.a_.l_.length, .int .i64 p0.a_.first_]), .lst rp0_2_0 226 (lst e_S_auto_state p0.a_.l_)] F) (hc : canL (cfg.still 123) av = [.ptr (some (bp0, 0)), .agg (e_S_auto_state p1)] := by kernel_rfl) : ∃ v h', Runs cfg g h 123 av v h' ∧ ∃ (r'2 : Option Nat), v = .int .i64 q0 ∧ HH g h' [.obj bp0 (.cells none 2 [vs e_S_tree_Node u0.t_.Nodes, .int .i64 u0.t_.Root, .ptr (some (bp0_2, 0)), .int .i64 u0.most_, .bool u0.full_]), .obj bp0_2 (.cells none 2 [rowV r'2 u2.length, .int .i64 p0.a_.first_]), .lst r'2 226 (lst e_S_auto_state u2)] F := by
 refine rq1 56 [.tmp 4] hc ?_
 clear hc
 unfold M_auto_maker_lay_sPPOR at hm
 refine bg 56 [(0, .ptr (some (bp0, 0))), (1, .agg (e_S_auto_state p1))] fun fr H => ?_
 refine aw_sr 2 ?_
 obtain ⟨h1, e1, A⟩ := A.pu (.cells none 2 (e_S_auto_state p1))
 refine at_ln 3 (.ptr (some (h.size, 0))) e1 H fun fr t H => ?_
 refine at_el 1 [] H (fun _ => id) fun fr H => ?_
 refine aw_sq ?_
 refine aw_sq ?_
 refine aw_dg 1 23 ?_
 refine at_gl 4 [(5, .ptr (some (bp0, 0)))] 9 1 4 A H fun fr t H => ?_
 refine at_sl 1 [(10, .bool p0.full_)] H fun fr H => ?_
 refine at_cl 14 (fun fr' h' => h1 = h' ∧ Has fr' 56 [(0, .ptr (some (bp0, 0))), (3, .ptr (some (h.size, 0))), (5, .ptr (some (bp0, 0))), (24, .bool (p0.full_ || (decide ((p0.a_.l_.length : Int) ≥ p0.most_))))]) ?_ ?_
 ·cases hb : (p0.full_ : Bool) with
  | true =>
   replace H := H.kn 10 hb
   refine at_sl 14 [(24, .bool true)] H fun fr H => ?_
   exact at_zb H hb
  | false =>
   replace H := H.kn 10 hb
   refine at_gl 3 [] 14 1 2 A H fun fr t H => ?_
   refine at_gl 2 [] 17 2 0 A H fun fr t H => ?_
   refine at_gl 4 [(18, .int .i64 (p0.a_.l_.length : Int))] 22 1 3 A H fun fr t H => ?_
   refine at_sl 2 [(24, .bool (decide ((p0.a_.l_.length : Int) ≥ p0.most_)))] H fun fr H => ?_
   exact at_zb H hb
 intro t fr h' hK
 obtain ⟨e, H⟩ := hK
 subst e
 obtain ⟨h2, hx, A1⟩ := A.st 1 rfl (o := 4) (new := [.bool (p0.full_ || (decide ((p0.a_.l_.length : Int) ≥ p0.most_)))]) (ds := [vs e_S_tree_Node p0.t_.Nodes, .int .i64 p0.t_.Root, .ptr (some (bp0_2, 0)), .int .i64 p0.most_, .bool (p0.full_ || (decide ((p0.a_.l_.length : Int) ≥ p0.most_)))]) (Nat.le_of_ble_eq_true rfl) rfl rfl
 replace A : HH g h2 [.obj h.size (.cells none 2 (e_S_auto_state p1)), .obj bp0 (.cells none 2 [_, _, _, _, .bool (p0.full_ || (decide ((p0.a_.l_.length : Int) ≥ p0.most_)))]), _, _] F := A1
 refine at_gs 2 [] hx H fun fr t H => ?_
 refine at_ns 4 id ?_
 refine at_gl 3 [] 30 1 4 A H fun fr t H => ?_
 refine at_nl id ?_
 refine aw_if 30 H hm (fun hb hm H => ?_) fun hb hm H => ?_
 ·refine aw_sr 1 ?_
  refine at_el 1 [(4, .int .i64 0)] H (fun _ => id) fun fr H => ?_
  refine aw_rt ?_
  obtain ⟨rfl, rfl, rfl⟩ := injC hm
  refine ⟨.inl rfl, .int .i64 0, rH H, ?_⟩
  replace A := A.k3 1 2 3
  exact ⟨rp0_2_0, rfl, A⟩
 refine aw_kn id ?_
 refine aw_sq ?_
 refine aw_dw 4 17 [(0, []), (1, []), (2, []), (3, []), (4, []), (5, []), (6, []), (7, []), (8, []), (9, []), (10, []), (11, []), (12, []), (13, [3]), (14, []), (15, []), (16, [])] ?_
 refine at_sl 3 [(33, .ptr (some (bp0, 2)))] H fun fr H => ?_
 refine at_t1 34 (.ptr (some (bp0_2, 0))) h2 [(3, bp0)] (g.prot) H (fun fr => .of (s_ld (by kernel_rfl) (A.l1 1 2))) (fun fr H => ?_)
 refine at_sl 3 [(37, .ptr (some (bp0, 2)))] H fun fr H => ?_
 refine at_t1 38 (.ptr (some (bp0_2, 0))) h2 [(7, bp0), (3, bp0)] (g.prot) H (fun fr => .of (s_ld (by kernel_rfl) (A.l1 1 2))) (fun fr H => ?_)
 refine at_sl 2 [(40, .ptr (some (bp0_2, 0)))] H fun fr H => ?_
 refine at_t1 41 (rowV rp0_2_0 p0.a_.l_.length) h2 [(10, bp0_2), (7, bp0), (3, bp0)] (g.prot) H (fun fr => .of (s_ld (by kernel_rfl) (A.l1 2 0))) (fun fr H => ?_)
 refine at_t1 42 (.agg (e_S_auto_state p1)) h2 [(11, h.size), (10, bp0_2), (7, bp0), (3, bp0)] (g.prot) H (fun fr => .of (s_ldA (by kernel_rfl) (A.la 0 0 7))) (fun fr H => ?_)
 obtain ⟨h3, e2, A⟩ := A.pL 226 [.int .i64 p1.kind_, .int .i64 p1.a_, .int .i64 p1.b_, .int .u64 p1.set_.w0, .int .u64 p1.set_.w1, .int .u64 p1.set_.w2, .int .u64 p1.set_.w3]
 refine at_t1 43 (rowV (some h2.size) (([p1] : List S_auto_state).length)) h3 [(12, h2.size), (11, h.size), (10, bp0_2), (7, bp0), (3, bp0)] (g.prot) H (fun fr => .of (s_n' (by kernel_rfl) (congrArg some e2.symm))) (fun fr H => ?_)
 replace A : HH g h3 [_, .lst (some h2.size) 226 ([.int .i64 p1.kind_, .int .i64 p1.a_, .int .i64 p1.b_, .int .u64 p1.set_.w0, .int .u64 p1.set_.w1, .int .u64 p1.set_.w2, .int .u64 p1.set_.w3]), _, _, _] F := (A.front 4 rfl)
 have A1 := A.prot2 1 (pr := [bp0]) (.cons 2 rfl (by simp [Ck.ids]) .nil)
 obtain ⟨hb, hm⟩ := need_some hm
 obtain ⟨r1, h4, hx, A1⟩ := HH.appO enc_S_auto_state (by decide) A1 0 (xs := p0.a_.l_) (ys := ([p1] : List S_auto_state)) rfl (row_first A 1 rfl (n := ([p1] : List S_auto_state).length) (z := 7) rfl (by decide)) rfl rfl hb
 replace A := A.p11 A1
 replace A := A.k4 0 2 3 4
 refine at_t1 44 (rowV r1 ((p0.a_.l_ ++ ([p1] : List S_auto_state)).length)) h4 [(12, h2.size), (11, h.size), (10, bp0_2), (7, bp0), (3, bp0)] (bp0 :: g.prot) H (fun fr => .of (s_app (s := rowS rp0_2_0 p0.a_.l_.length) (by kernel_rfl) hx)) (fun fr H => ?_)
 refine at_sl 2 [(46, .ptr (some (bp0_2, 0)))] H fun fr H => ?_
 obtain ⟨h5, hx, A1⟩ := A.st 3 rfl (o := 0) (new := [rowV r1 ((p0.a_.l_ ++ ([p1] : List S_auto_state)).length)]) (ds := [rowV r1 ((p0.a_.l_ ++ ([p1] : List S_auto_state)).length), .int .i64 p0.a_.first_]) (Nat.le_of_ble_eq_true rfl) rfl rfl
 replace A : HH g h5 [_, _, _, .obj bp0_2 (.cells none 2 [rowV r1 ((p0.a_.l_ ++ ([p1] : List S_auto_state)).length), .int .i64 p0.a_.first_])] F := A1
 refine at_t0 (.tuple []) h5 [(12, h2.size), (11, h.size), (10, bp0_2), (7, bp0), (3, bp0)] (g.prot) H (fun fr => .of (s_st (by kernel_rfl) rfl hx)) (fun fr H => ?_)
 refine at_ns 10 id ?_
 refine at_gl 3 [] 50 2 2 A H fun fr t H => ?_
 refine at_gl 2 [] 53 3 0 A H fun fr t H => ?_
 refine at_el 3 [(4, .int .i64 (IntKind.i64.wrap (((p0.a_.l_ ++ ([p1] : List S_auto_state)).length : Int) - (1 : Int))))] H (fun _ => id) fun fr H => ?_
 refine aw_rt ?_
 obtain ⟨rfl, rfl, rfl⟩ := injC hm
 refine ⟨.inl rfl, .int .i64 (IntKind.i64.wrap (((p0.a_.l_ ++ ([p1] : List S_auto_state)).length : Int) - (1 : Int))), rH H, ?_⟩
 replace A := A.k3 2 3 0
 exact ⟨r1, rfl, A⟩
noncomputable def M_class_Set_Has (p0 : A4_uint64) (p1 : Int) : Option (Bool) :=
 (ixV ([p0.w0, p0.w1, p0.w2, p0.w3] : List Int) (bShr .u8 p1 (6 : Int))).bind fun x1 => need (decide (0 ≤ (bAnd .u8 p1 (63 : Int)))) <| some ((bAnd .u64 (bShr .u64 x1 (bAnd .u8 p1 (63 : Int))) (1 : Int)) == (1 : Int))
theorem ok_class_Set_Has {p0 p1 q0} (hm : M_class_Set_Has p0 p1 = some q0) (A : HH g h [] F) (hc : canL (cfg.still 132) av = [.agg [.int .u64 p0.w0, .int .u64 p0.w1, .int .u64 p0.w2, .int .u64 p0.w3], .int .u8 p1] := by kernel_rfl) : ∃ v h', Runs cfg g h 132 av v h' ∧ v = .bool q0 ∧ HH g h' [] F := by
 refine rq1 14 [.tmp 4] hc ?_
 clear hc
 unfold M_class_Set_Has at hm
 refine bg 14 [(0, .agg [.int .u64 p0.w0, .int .u64 p0.w1, .int .u64 p0.w2, .int .u64 p0.w3]), (1, .int .u8 p1)] fun fr H => ?_
 refine aw_sr 2 ?_
 obtain ⟨h1, e1, A⟩ := A.pu (.cells none 2 [.int .u64 p0.w0, .int .u64 p0.w1, .int .u64 p0.w2, .int .u64 p0.w3])
 refine at_ln 2 (.ptr (some (h.size, 0))) e1 H fun fr t H => ?_
 refine at_es 1 [] 10 H (fun _ => id) fun fr H => ?_
 obtain ⟨x1, hq1, hm⟩ := bind_some hm
 refine at_g1 2 [] 7 (.ptr (some (h.size, 0 + (bShr .u8 p1 (6 : Int)).toNat * 1))) h1 H (fun fr => .of (s_ixA (by kernel_rfl) (ixA_of hq1 (h.size, 0) 1 rfl))) fun fr t H => ?_
 refine at_l1 8 _ _ H (fun fr => .of (s_ld (by kernel_rfl) (HH.ldW A 0 rfl 0 (fun w : Int => .int .u64 w) [p0.w0, p0.w1, p0.w2, p0.w3] rfl hq1))) fun fr t H => ?_
 refine at_sl 2 [(10, .int .u8 (bAnd .u8 p1 (63 : Int)))] H fun fr H => ?_
 obtain ⟨hb, hm⟩ := need_some hm
 refine at_l1 11 (.int .u64 (bShr .u64 x1 (bAnd .u8 p1 (63 : Int)))) h1 H (fun fr => .of (s_shr (by kernel_rfl) hb)) fun fr t H => ?_
 refine at_el 3 [(4, .bool ((bAnd .u64 (bShr .u64 x1 (bAnd .u8 p1 (63 : Int))) (1 : Int)) == (1 : Int)))] H (fun _ => id) fun fr H => ?_
 refine aw_rt ?_
 obtain rfl := injA hm
 refine ⟨.inl rfl, .bool ((bAnd .u64 (bShr .u64 x1 (bAnd .u8 p1 (63 : Int))) (1 : Int)) == (1 : Int)), rH H, ?_⟩
 replace A := A.d0
 exact ⟨rfl, A⟩
noncomputable def M_auto_Auto_Apart_L0 (p0 : S_auto_Auto) (p1 : Int) (p2 : Int) (s : Int) : Option ((Int) ⊕ ((Unit) ⊕ (Bool))) :=
 match s with
 | x1 => iteB (decide (x1 < (p0.l_.length : Int))) ((ixV p0.l_ x1).bind fun x3 => (iteB (x3.kind_ == (1 : Int)) ((M_class_Set_Has x3.set_ p1).bind fun x5 => (M_class_Set_Has x3.set_ p2).bind fun x6 => some (!(x5 == x6))) (some false) : Option (Bool)).bind fun x4 => iteB x4 (some (.inr (.inr true))) (some (.inl (IntKind.i64.wrap (x1 + (1 : Int)))))) (some (.inr (.inl ())))
noncomputable def M_auto_Auto_Apart (p0 : S_auto_Auto) (p1 : Int) (p2 : Int) : Option (Bool) :=
 (loop (M_auto_Auto_Apart_L0 p0 p1 p2) (0 : Int)).bind fun o1 => (match o1 with | .inl _ => some false | .inr x2 => some x2)
theorem ok_auto_Auto_Apart {p0 p1 p2 q0} (hm : M_auto_Auto_Apart p0 p1 p2 = some q0) (A : HH g h [] F) (hc : canL (cfg.still 128) av = [.vptr [vs e_S_auto_state p0.l_, .int .i64 p0.first_], .int .u8 p1, .int .u8 p2] := by kernel_rfl) : ∃ v h', Runs cfg g h 128 av v h' ∧ v = .bool q0 ∧ HH g h' [] F := by
 refine rq1 33 [.tmp 6] hc ?_
 clear hc
 unfold M_auto_Auto_Apart at hm
 refine bg 33 [(0, .vptr [vs e_S_auto_state p0.l_, .int .i64 p0.first_]), (1, .int .u8 p1), (2, .int .u8 p2)] fun fr H => ?_
 refine aw_sr 1 ?_
 refine at_el 1 [] H (fun _ => id) fun fr H => ?_
 refine aw_sq ?_
 refine aw_sr 6 ?_
 refine at_g1 3 [] 12 (vs e_S_auto_state p0.l_) h H (fun fr => .of (s_lv (by kernel_rfl))) fun fr t H => ?_
 refine at_el 2 [(13, .int .i64 (p0.l_.length : Int)), (14, .int .i64 0)] H (fun _ => id) fun fr H => ?_
 refine aw_block (id := 0) (by kernel_rfl) ?_
 obtain ⟨o1, ho, hm⟩ := bind_some hm
 refine aw_mono (Q' := fun e fr' h' => (e = .exit 0 ∧ .inl () = o1 ∧ Has fr' 33 [] ∧ HH g h' [] F) ∨ (∃ x2, e = .ret ∧ .inr x2 = o1 ∧ Has fr' 33 [(6, .bool x2)] ∧ HH g h' [] F) ∨ False) ?_ ?_
 ·refine aw_loop (by kernel_rfl) (fun (s : Int) fr' h' => ∃ x1, x1 = s ∧ Has fr' 33 [(1, .int .u8 p1), (2, .int .u8 p2), (12, vs e_S_auto_state p0.l_), (13, .int .i64 (p0.l_.length : Int)), (14, .int .i64 x1)] ∧ HH g h' [] F) ho ⟨_, rfl, H.ls, A⟩ ?_
  clear ho hm H A
  intro s q fr h1 hI hm
  obtain ⟨x1, rfl, H, A⟩ := hI
  unfold M_auto_Auto_Apart_L0 at hm
  refine aw_sr 1 ?_
  refine at_el 1 [(15, .bool (decide (x1 < (p0.l_.length : Int))))] H (fun _ => id) fun fr H => ?_
  refine aw_sq ?_
  refine aw_if 15 H hm (fun hb hm H => ?_) fun hb hm H => ?_
  ·refine aw_kn id ?_
   refine aw_sq ?_
   refine aw_block (id := 1) (by kernel_rfl) ?_
   refine aw_sr 4 ?_
   obtain ⟨x3, hx, hm⟩ := bind_some hm
   refine at_l1 16 (.vptr (e_S_auto_state x3)) h1 H (fun fr => .of (s_ixV (e := e_S_auto_state) (x := x3) enc_S_auto_state (by decide) (by kernel_rfl) hx)) fun fr t H => ?_
   refine at_l1 17 (.agg (e_S_auto_state x3)) h1 H (fun fr => .of (s_lv (by kernel_rfl))) fun fr t H => ?_
   obtain ⟨h2, e1, A⟩ := A.pu (.cells none 2 [.int .i64 0, .int .i64 0, .int .i64 0, .int .u64 0, .int .u64 0, .int .u64 0, .int .u64 0])
   refine at_ln 8 (.ptr (some (h1.size, 0))) e1 H fun fr t H => ?_
   obtain ⟨h3, hx, A⟩ := A.s0 0 [.int .i64 x3.kind_, .int .i64 x3.a_, .int .i64 x3.b_, .int .u64 x3.set_.w0, .int .u64 x3.set_.w1, .int .u64 x3.set_.w2, .int .u64 x3.set_.w3] [_, _, _, _, _, _, _]
   refine at_lS hx H fun fr t H => ?_
   refine at_nl id ?_
   refine aw_sq ?_
   refine aw_dw 4 14 [(0, []), (1, []), (2, []), (3, []), (4, []), (5, []), (6, []), (8, []), (9, []), (7, [9]), (10, []), (11, []), (12, []), (13, [])] ?_
   refine at_sl 1 [(18, .ptr (some (h1.size, 0)))] H fun fr H => ?_
   refine at_t1 19 (.int .i64 x3.kind_) h3 [(1, h1.size)] (g.prot) H (fun fr => .of (s_ld (by kernel_rfl) (A.l1 0 0))) (fun fr H => ?_)
   refine at_sl 2 [(21, .bool (x3.kind_ == (1 : Int)))] H fun fr H => ?_
   obtain ⟨x4, ho, hm⟩ := bind_some hm
   refine at_cl 10 (fun fr' h' => Has fr' 33 [(1, .int .u8 p1), (2, .int .u8 p2), (12, vs e_S_auto_state p0.l_), (13, .int .i64 (p0.l_.length : Int)), (14, .int .i64 x1), (31, .bool x4)] ∧ HH g h' [.obj h1.size (.cells none 2 (e_S_auto_state x3))] F) ?_ ?_
   ·rcases iteB_some ho with ⟨hb, hm⟩ | ⟨hb, hm⟩
    ·replace H := H.kn 21 hb
     refine at_sl 1 [(22, .ptr (some (h1.size, 3)))] H fun fr H => ?_
     refine at_t1 23 (.agg [.int .u64 x3.set_.w0, .int .u64 x3.set_.w1, .int .u64 x3.set_.w2, .int .u64 x3.set_.w3]) h3 [(5, h1.size), (1, h1.size)] (g.prot) H (fun fr => .of (s_ldA (by kernel_rfl) (A.la 0 3 4))) (fun fr H => ?_)
     refine at_sl 2 [(24, .int .u8 p1), (26, .ptr (some (h1.size, 3)))] H fun fr H => ?_
     refine at_t1 27 (.agg [.int .u64 x3.set_.w0, .int .u64 x3.set_.w1, .int .u64 x3.set_.w2, .int .u64 x3.set_.w3]) h3 [(9, h1.size), (5, h1.size), (1, h1.size)] (g.prot) H (fun fr => .of (s_ldA (by kernel_rfl) (A.la 0 3 4))) (fun fr H => ?_)
     have A1 := A.prot2 0 (pr := [h1.size]) (.cons 0 rfl (by simp [Ck.ids]) .nil)
     obtain ⟨x5, hx, hm⟩ := bind_some hm
     obtain ⟨v1, h5, hr, rfl, A1⟩ := ok_class_Set_Has (av := [.agg [.int .u64 x3.set_.w0, .int .u64 x3.set_.w1, .int .u64 x3.set_.w2, .int .u64 x3.set_.w3], .int .u8 p1]) hx A1
     replace A := A.p00 A1
     refine at_t1 25 (.bool x5) h5 [(9, h1.size), (5, h1.size), (1, h1.size)] (h1.size :: g.prot) H (fun fr => Steps.call (by kernel_rfl) hr) (fun fr H => ?_)
     refine at_sl 1 [(28, .int .u8 p2)] H fun fr H => ?_
     obtain ⟨x6, hx, hm⟩ := bind_some hm
     obtain ⟨v1, h6, hr, rfl, A1⟩ := ok_class_Set_Has (av := [.agg [.int .u64 x3.set_.w0, .int .u64 x3.set_.w1, .int .u64 x3.set_.w2, .int .u64 x3.set_.w3], .int .u8 p2]) hx (A.cut 0)
     replace A := A.g00 A1
     refine at_t1 29 (.bool x6) h6 [(9, h1.size), (5, h1.size), (1, h1.size)] (g.prot) H (fun fr => Steps.call (by kernel_rfl) hr) (fun fr H => ?_)
     refine at_sl 2 [(31, .bool (!(x5 == x6)))] H fun fr H => ?_
     obtain rfl := injA hm
     exact at_nil ⟨H.ls, A⟩
    replace H := H.kn 21 hb
    refine at_sl 5 [(23, .tuple []), (24, .tuple []), (27, .tuple [])] H fun fr H => ?_
    refine at_skip [(1, .int .u8 p1), (2, .int .u8 p2), (12, vs e_S_auto_state p0.l_), (13, .int .i64 (p0.l_.length : Int)), (14, .int .i64 x1), (21, .bool false), (25, .tuple []), (27, .tuple [])] H (fun fr => by kernel_rfl) ?_
    intro fr H
    refine at_sl 4 [(31, .bool false)] H fun fr H => ?_
    obtain rfl := injA hm
    exact at_nil ⟨H.ls, A⟩
   clear A
   intro t fr h4 hK
   obtain ⟨H, A⟩ := hK
   refine at_nl id ?_
   refine aw_if 31 H hm (fun hb hm H => ?_) fun hb hm H => ?_
   ·refine aw_sr 1 ?_
    refine at_el 1 [(6, .bool true)] H (fun _ => id) fun fr H => ?_
    refine aw_rt ?_
    replace A := A.d0
    exact nr hm fun e => Or.inr (.inl ⟨_, rfl, e, H.ls, A⟩)
   refine aw_kr 2 id ?_
   refine at_se 2 [(1, .int .u8 p1), (2, .int .u8 p2), (12, vs e_S_auto_state p0.l_), (13, .int .i64 (p0.l_.length : Int)), (14, .int .i64 (IntKind.i64.wrap (x1 + (1 : Int))))] H fun fr H => ?_
   refine at_nil ?_
   replace A := A.d0
   exact nx hm ⟨_, rfl, H.ls, A⟩
  refine aw_exit (i := 0) (by kernel_rfl) ?_
  exact nr hm fun e => .inl ⟨rfl, e, H.ls, A⟩
 clear ho
 clear A
 intro e fr h7 hQ
 rcases hQ with ⟨rfl, rfl, H, A⟩ | ⟨x2, rfl, rfl, H, A⟩ | hF
 ·show AW _ _ _ _ _ _ _
  refine aw_sr 1 ?_
  refine at_el 1 [(6, .bool false)] H (fun _ => id) fun fr H => ?_
  refine aw_rt ?_
  obtain rfl := injA hm
  exact ⟨.inl rfl, _, rH H, rfl, A⟩
 ·obtain rfl := injA hm
  exact ⟨.inl rfl, _, rH H, rfl, A⟩
 exact hF.elim
noncomputable def M_dfa_maker_split_1_sIPPPOOOOOP (p0 : Int) (p1_0 : S_dfa_maker) (p2 : Int) : Option (Bool) :=
 (M_auto_Auto_Apart p1_0.a_ (IntKind.u8.wrap p2) p0).bind fun x1 => some (!x1)
theorem ok_dfa_maker_split_1_sIPPPOOOOOP {p0 p1_0 p2 bp1 bp1_0 bp1_0_1 rp1_0_1_2 rp1_0_1_3 rp1_0_1_4 rp1_0_3 bp1_0_4 rp1_0_5 bp2 q0} (hm : M_dfa_maker_split_1_sIPPPOOOOOP p0 p1_0 p2 = some q0) (A : HH g h [.obj bp1 (.cells none 2 [.ptr (some (bp1_0, 0))]), .obj bp1_0 (.cells none 2 [.vptr [vs e_S_auto_state p1_0.a_.l_, .int .i64 p1_0.a_.first_], .ptr (some (bp1_0_1, 0)), .int .i64 p1_0.most_, rowV rp1_0_3 p1_0.byte_.length, .map (some bp1_0_4), rowV rp1_0_5 p1_0.todo_.length]), .obj bp1_0_1 (.cells none 2 (big 256 (AVal.int .u8) p1_0.d_.column_ ++ [.int .i64 p1_0.d_.columns_, rowV rp1_0_1_2 p1_0.d_.next_.length, rowV rp1_0_1_3 p1_0.d_.ends_.length, rowV rp1_0_1_4 p1_0.d_.last_.length, .int .i32 p1_0.d_.first_, .int .i32 p1_0.d_.later_, .bool p1_0.d_.empty_])), .lst rp1_0_1_2 21 (lst (eI .i32) p1_0.d_.next_), .lst rp1_0_1_3 4 (lst eB p1_0.d_.ends_), .lst rp1_0_1_4 4 (lst eB p1_0.d_.last_), .lst rp1_0_3 5 (lst eY p1_0.byte_), .obj bp1_0_4 (.map 2 (encM (fun k : List UInt8 => .str k) (fun v : Int => .int .i32 v) p1_0.seen_)), .lst rp1_0_5 171 (lst (eL (eI .i64)) p1_0.todo_), .obj bp2 (.cells none 2 [.int .i64 p2])] F) (hc : canL (cfg.still 127) av = [.int .u8 p0, .ptr (some (bp1, 0)), .ptr (some (bp2, 0))] := by kernel_rfl) : ∃ v h', Runs cfg g h 127 av v h' ∧ v = .bool q0 ∧ HH g h' [.obj bp1 (.cells none 2 [.ptr (some (bp1_0, 0))]), .obj bp1_0 (.cells none 2 [.vptr [vs e_S_auto_state p1_0.a_.l_, .int .i64 p1_0.a_.first_], .ptr (some (bp1_0_1, 0)), .int .i64 p1_0.most_, rowV rp1_0_3 p1_0.byte_.length, .map (some bp1_0_4), rowV rp1_0_5 p1_0.todo_.length]), .obj bp1_0_1 (.cells none 2 (big 256 (AVal.int .u8) p1_0.d_.column_ ++ [.int .i64 p1_0.d_.columns_, rowV rp1_0_1_2 p1_0.d_.next_.length, rowV rp1_0_1_3 p1_0.d_.ends_.length, rowV rp1_0_1_4 p1_0.d_.last_.length, .int .i32 p1_0.d_.first_, .int .i32 p1_0.d_.later_, .bool p1_0.d_.empty_])), .lst rp1_0_1_2 21 (lst (eI .i32) p1_0.d_.next_), .lst rp1_0_1_3 4 (lst eB p1_0.d_.ends_), .lst rp1_0_1_4 4 (lst eB p1_0.d_.last_), .lst rp1_0_3 5 (lst eY p1_0.byte_), .obj bp1_0_4 (.map 2 (encM (fun k : List UInt8 => .str k) (fun v : Int => .int .i32 v) p1_0.seen_)), .lst rp1_0_5 171 (lst (eL (eI .i64)) p1_0.todo_), .obj bp2 (.cells none 2 [.int .i64 p2])] F := by
 refine rq1 14 [.tmp 4] hc ?_
 clear hc
 unfold M_dfa_maker_split_1_sIPPPOOOOOP at hm
 refine bg 14 [(0, .int .u8 p0), (1, .ptr (some (bp1, 0))), (2, .ptr (some (bp2, 0)))] fun fr H => ?_
 refine aw_sr 1 ?_
 refine at_el 1 [] H (fun _ => id) fun fr H => ?_
 refine aw_sq ?_
 refine aw_dg 1 10 ?_
 refine at_ll 5 0 0 A H fun fr t H => ?_
 refine at_gl 2 [] 8 1 0 A H fun fr t H => ?_
 refine at_ll 9 9 0 A H fun fr t H => ?_
 obtain ⟨x1, hx, hm⟩ := bind_some hm
 obtain ⟨v1, h1, hr, rfl, A1⟩ := ok_auto_Auto_Apart (av := [.vptr [vs e_S_auto_state p1_0.a_.l_, .int .i64 p1_0.a_.first_], .int .u8 (IntKind.u8.wrap p2), .int .u8 p0]) hx (A.cut 0)
 replace A := A.g00 A1
 refine at_gc1 2 [] 12 hr H fun fr t H => ?_
 refine at_el 2 [(4, .bool (!x1))] H (fun _ => id) fun fr H => ?_
 refine aw_rt ?_
 obtain rfl := injA hm
 exact ⟨.inl rfl, _, rH H, rfl, A⟩
noncomputable def M_rewrite_Rule_Expr (p0 : S_rewrite_Rule) : Option (S_rewrite_Expr) :=
 some p0.x_
theorem ok_rewrite_Rule_Expr {p0 q0} (hm : M_rewrite_Rule_Expr p0 = some q0) (A : HH g h [] F) (hc : canL (cfg.still 53) av = [.vptr (e_S_rewrite_Rule p0)] := by kernel_rfl) : ∃ v h', Runs cfg g h 53 av v h' ∧ v = .agg (e_S_rewrite_Expr q0) ∧ HH g h' [] F := by
 refine rq1 7 [.cell 2 24] hc ?_
 clear hc
 unfold M_rewrite_Rule_Expr at hm
 refine bg 7 [(0, .vptr (e_S_rewrite_Rule p0))] fun fr H => ?_
 refine aw_sr 1 ?_
 obtain ⟨h1, e1, A⟩ := A.pu (.cells none 2 [.str ([] : List UInt8), .str ([] : List UInt8), .bool false, .bool false, .bool false, .int .i64 0, .bool false, .bool false, .bool false])
 refine at_ln 2 (.ptr (some (h.size, 0))) e1 H fun fr t H => ?_
 refine at_ns 5 id ?_
 refine at_g1 3 [] 6 (.agg (e_S_rewrite_Expr p0.x_)) h1 H (fun fr => .of (s_lv (by kernel_rfl))) fun fr t H => ?_
 obtain ⟨h2, hx, A⟩ := A.s0 0 [.str p0.x_.Re, .str p0.x_.Template, .bool p0.x_.Global, .bool p0.x_.Fold, .bool p0.x_.Extended, .int .i64 p0.x_.Number, .bool p0.x_.Names, .bool p0.x_.Soft, .bool p0.x_.Hard] [_, _, _, _, _, _, _, _, _]
 refine at_lS hx H fun fr t H => ?_
 refine at_nl id ?_
 refine aw_rt ?_
 obtain rfl := injA hm
 refine ⟨.inl rfl, .agg (e_S_rewrite_Expr p0.x_), resL_one (.cell (rT H) (load_ldA (by kernel_rfl) (by kernel_rfl) (A.la 0 0 9)) .nil), ?_⟩
 replace A := A.d0
 exact ⟨rfl, A⟩
noncomputable def M_stringslite_IndexByte (p0 : List UInt8) (p1 : Int) : Option (Int) :=
 (X_IndexByte p0 p1).bind fun x1 => some x1
theorem ok_stringslite_IndexByte {p0 p1 q0} (hm : M_stringslite_IndexByte p0 p1 = some q0) (A : HH g h [] F) (hc : canL (cfg.still 51) av = [.str p0, .int .u8 p1] := by kernel_rfl) : ∃ v h', Runs cfg g h 51 av v h' ∧ v = .int .i64 q0 ∧ HH g h' [] F := by
 refine rq1 8 [.tmp 4] hc ?_
 clear hc
 unfold M_stringslite_IndexByte at hm
 refine bg 8 [(0, .str p0), (1, .int .u8 p1)] fun fr H => ?_
 refine aw_sr 1 ?_
 refine at_es 1 [] 4 H (fun _ => id) fun fr H => ?_
 obtain ⟨x1, hx, hm⟩ := bind_some hm
 refine at_g1 2 [] 7 (.int .i64 x1) h H (fun fr => Steps.call (by kernel_rfl) (runsIdx (C := cfg) (f := 102) (by kernel_rfl) (l := exts) rfl (by kernel_rfl) hx)) fun fr t H => ?_
 refine at_el 1 [(4, .int .i64 x1)] H (fun _ => id) fun fr H => ?_
 refine aw_rt ?_
 obtain rfl := injA hm
 exact ⟨.inl rfl, _, rH H, rfl, A⟩
end Go.Av.L
