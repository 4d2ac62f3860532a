/-
 Models of functions, and that the abstract run tells them. Written by lift2.py.
-/
import Derived.Test.YtiodcbipjnmpgaaKCfg
import Derived.Test.YtiodcbipjnmpgaaK2
import Derived.Test.YtiodcbipjnmpgaaK4
namespace Go.Av.L
open Go.Av Go.Lib
set_option maxRecDepth 10000
set_option linter.unusedVariables false
set_option linter.unusedSimpArgs false
variable {g : Gd} {h : AHeap} {F : List Ck} {av : List AVal}
noncomputable def M_auto_Auto_close_sPVOBB_L0 (p0 : S_auto_Auto) (p2 : Bool) (p3 : Bool) (s : (List Int) × (List Bool)) : Option (((List Int) × (List Bool)) ⊕ (((List Bool)))) :=
 match s with
 | (x1, x2) => iteB (decide ((x1.length : Int) > (0 : Int))) ((ixV x1 (IntKind.i64.wrap ((x1.length : Int) - (1 : Int)))).bind fun x4 => (subV x1 none (some (IntKind.i64.wrap ((x1.length : Int) - (1 : Int))))).bind fun x5 => (ixV x2 x4).bind fun x6 => iteB x6 (some (.inl (x5, x2))) ((ixV x2 x4).bind fun x7 => (ixV p0.l_ x4).bind fun x8 => iteB (x8.kind_ == (2 : Int)) (need (okN 8 (x5.length + ([x8.a_, x8.b_] : List Int).length)) <| some (.inl ((x5 ++ ([x8.a_, x8.b_] : List Int)), (x2.set x4.toNat true)))) ((iteB ((x8.kind_ == (3 : Int)) && p2) (some true) (some ((x8.kind_ == (4 : Int)) && p3)) : Option ((Bool))).bind fun x9 => iteB x9 (need (okN 8 (x5.length + ([x8.a_] : List Int).length)) <| some (.inl ((x5 ++ ([x8.a_] : List Int)), (x2.set x4.toNat true)))) (some (.inl (x5, (x2.set x4.toNat true))))))) (some (.inr x2))
noncomputable def M_auto_Auto_close_sPVOBB_L1 (x3 : List Bool) (s : (List Int) × Int) : Option (((List Int) × Int) ⊕ (((List Int)))) :=
 match s with
 | (x10, x11) => iteB (decide (x11 < (x3.length : Int))) (((ixV x3 x11).bind fun x14 => iteB x14 (need (okN 8 (x10.length + ([x11] : List Int).length)) <| some (x10 ++ ([x11] : List Int))) (some x10) : Option (((List Int)))).bind fun x13 => some (.inl (x13, IntKind.i64.wrap (x11 + (1 : Int))))) (some (.inr x10))
noncomputable def M_auto_Auto_close_sPVOBB (p0 : S_auto_Auto) (p1 : List Int) (p2 : Bool) (p3 : Bool) : Option ((List Int)) :=
 need (mkN 1 (p0.l_.length : Int)) <| need (okN 8 p1.length) <| (loop (M_auto_Auto_close_sPVOBB_L0 p0 p2 p3) (p1, (List.replicate (p0.l_.length : Int).toNat false))).bind fun x3 => (loop (M_auto_Auto_close_sPVOBB_L1 x3) (([] : List Int), (0 : Int))).bind fun x12 => some x12
theorem ok_auto_Auto_close_sPVOBB {p0 p1 p2 p3 rp1 q0} (hm : M_auto_Auto_close_sPVOBB p0 p1 p2 p3 = some q0) (A : HH g h [.lst rp1 3 (lst (eI .i64) p1)] F) (hc : canL (cfg.still 52) av = [.vptr [vs e_S_auto_state p0.l_, .int .i64 p0.first_], rowV rp1 p1.length, .bool p2, .bool p3] := by kernel_rfl) : ∃ v h', Runs cfg g h 52 av v h' ∧ v = vs (eI .i64) q0 ∧ HH g h' [.lst rp1 3 (lst (eI .i64) p1)] F := by
 refine rq7 95 [.tmp 8] hc ?_
 clear hc
 unfold M_auto_Auto_close_sPVOBB at hm
 refine bg 95 [(0, .vptr [vs e_S_auto_state p0.l_, .int .i64 p0.first_]), (1, rowV rp1 p1.length), (2, .bool p2), (3, .bool p3)] fun fr H => ?_
 refine aw_sr 1 ?_
 refine at_es 1 [] 7 H (fun _ => id) fun fr H => ?_
 refine at_g1 3 [] 19 (vs e_S_auto_state p0.l_) h H (fun fr => .of (s_lv (by kernel_rfl))) fun fr t H => ?_
 obtain ⟨hb, hm⟩ := need_some hm
 obtain ⟨h1, e1, A⟩ := A.pL 4 (lst eB (List.replicate (p0.l_.length : Int).toNat false))
 refine at_g1 1 [] 21 (rowV (some h.size) (List.replicate (p0.l_.length : Int).toNat false).length) h1 H (fun fr => .of (s_mkO (e := eB) encB (x := false) (by kernel_rfl) hb (congrArg some e1.symm))) fun fr t H => ?_
 refine at_es 1 [(9, rowV (some h.size) ((List.replicate (p0.l_.length : Int).toNat false).length))] 3 H (fun _ => id) fun fr H => ?_
 replace A : HH g h1 [_, .lst (some h.size) 4 (lst eB (List.replicate (p0.l_.length : Int).toNat false))] F := (A.front 1 rfl)
 have A1 := A.cut 1
 obtain ⟨hb, hm⟩ := need_some hm
 obtain ⟨r1, h2, hr, A1⟩ := HH.clone (C := cfg) (f := 69) (a := 0) (t := 3) (xs := p1) (encI .i64) (by decide) A1 (by kernel_rfl) (l := exts) rfl (by kernel_rfl) (by kernel_rfl) rfl (HH.firstO (encI .i64) (by decide) A1 0 (xs := p1) rfl) ((encI .i64).canL _) hb
 replace A := A.g12 A1
 refine at_gc1 1 [] 23 hr H fun fr t H => ?_
 refine at_el 1 [(10, rowV r1 p1.length)] H (fun _ => id) fun fr H => ?_
 refine aw_sq ?_
 refine aw_block (id := 0) (by kernel_rfl) ?_
 replace A : HH g h2 [.lst r1 3 (lst (eI .i64) (p1 ++ [])), _, _] F := A.tl0 0 rfl
 obtain ⟨o1, ho, hm⟩ := bind_some hm
 refine aw_mono (Q' := fun e fr' h' => (∃ x3, e = .exit 0 ∧ x3 = o1 ∧ ∃ (hl2 : x3.length = (List.replicate (p0.l_.length : Int).toNat false).length), Has fr' 95 [(9, rowV (some h.size) x3.length)] ∧ HH g h' [.lst rp1 3 (lst (eI .i64) p1), .lst (some h.size) 4 (lst eB x3)] F) ∨ False) ?_ ?_
 ·refine aw_loop (by kernel_rfl) (fun (s : (List Int) × (List Bool)) fr' h' => ∃ x1 x2, (x1, x2) = s ∧ ∃ r2 tl1, ∃ (hl1 : x2.length = (List.replicate (p0.l_.length : Int).toNat false).length), Has fr' 95 [(0, .vptr [vs e_S_auto_state p0.l_, .int .i64 p0.first_]), (2, .bool p2), (3, .bool p3), (9, rowV (some h.size) x2.length), (10, rowV r2 x1.length)] ∧ HH g h' [.lst r2 3 (lst (eI .i64) (x1 ++ tl1)), .lst rp1 3 (lst (eI .i64) p1), .lst (some h.size) 4 (lst eB x2)] F) ho ⟨_, _, rfl, _, [], rfl, H.ls, A⟩ ?_
  clear ho hm H A
  intro s q fr h3 hI hm
  obtain ⟨x1, x2, rfl, r2, tl1, hl1, H, A⟩ := hI
  unfold M_auto_Auto_close_sPVOBB_L0 at hm
  refine aw_sq ?_
  refine aw_sr 3 ?_
  refine at_el 3 [(26, .bool (decide ((x1.length : Int) > (0 : Int))))] H (fun _ => id) fun fr H => ?_
  refine aw_if 26 H hm (fun hb hm H => ?_) fun hb hm H => ?_
  ·refine aw_kn id ?_
   refine aw_block (id := 1) (by kernel_rfl) ?_
   refine aw_sr 7 ?_
   obtain ⟨x4, hx, hm⟩ := bind_some hm
   obtain ⟨i1, er1, _, hx, hq1⟩ := HH.ixT (encI .i64) (by decide) A 0 (xs := x1) (tl := tl1) rfl hx
   refine at_g1 4 [] 31 (.ptr (some (i1, (IntKind.i64.wrap ((x1.length : Int) - (1 : Int))).toNat * 1))) h3 H (fun fr => .of (s_ixL (s := rowS r2 x1.length) (by kernel_rfl) hx)) fun fr t H => ?_
   refine at_l1 32 _ _ H (fun fr => .of (s_ld (by kernel_rfl) (row_ld1 (encI .i64) (HH.row A 0 rfl er1) hq1 (o := 0) rfl))) fun fr t H => ?_
   refine at_es 1 [(11, .int .i64 x4)] 6 H (fun _ => id) fun fr H => ?_
   obtain ⟨x5, hx, hm⟩ := bind_some hm
   have Aw1 := A
   obtain ⟨tl2, A1⟩ := HH.cutT A 0 (xs := x1) (tl := tl1) rfl hx
   replace A : HH g h3 [.lst r2 3 (lst (eI .i64) (x5 ++ tl2)), _, _] F := A1
   refine at_g1 4 [] 37 (rowV r2 x5.length) h3 H (fun fr => .of (s_subT (encI .i64) (by decide) Aw1 0 (xs := x1) (tl := tl1) (k' := .i64) rfl (by kernel_rfl) (by kernel_rfl) hx)) fun fr t H => ?_
   refine at_se 1 [(0, .vptr [vs e_S_auto_state p0.l_, .int .i64 p0.first_]), (2, .bool p2), (3, .bool p3), (9, rowV (some h.size) x2.length), (10, rowV r2 x5.length), (11, .int .i64 x4)] H fun fr H => ?_
   refine at_nl id ?_
   refine aw_sq ?_
   refine aw_sr 4 ?_
   obtain ⟨x6, hx, hm⟩ := bind_some hm
   obtain ⟨i2, er2, _, hx, hq2⟩ := HH.ixO encB (by decide) A 2 (xs := x2) rfl hx
   refine at_g1 2 [] 40 (.ptr (some (i2, x4.toNat * 1))) h3 H (fun fr => .of (s_ixL (s := rowS (some h.size) x2.length) (by kernel_rfl) hx)) fun fr t H => ?_
   refine at_l1 41 _ _ H (fun fr => .of (s_ld (by kernel_rfl) (row_ld1 encB (HH.row A 2 rfl er2) hq2 (o := 0) rfl))) fun fr t H => ?_
   refine at_nl id ?_
   refine aw_if 41 H hm (fun hb hm H => ?_) fun hb hm H => ?_
   ·refine aw_exit (i := 1) (by kernel_rfl) ?_
    exact nx hm ⟨_, _, rfl, _, tl2, hl1, H.ls, A⟩
   refine aw_ks 4 id ?_
   obtain ⟨x7, hx, hm⟩ := bind_some hm
   obtain ⟨i3, er3, _, hx, hq3⟩ := HH.ixO encB (by decide) A 2 (xs := x2) rfl hx
   refine at_g1 2 [] 44 (.ptr (some (i3, x4.toNat * 1))) h3 H (fun fr => .of (s_ixL (s := rowS (some h.size) x2.length) (by kernel_rfl) hx)) fun fr t H => ?_
   obtain ⟨h4, hx, A1⟩ := HH.stO encB A 2 rfl er3 hq3 (y := true) (o := 0) (new := [.bool true]) rfl rfl (Nat.le_of_ble_eq_true rfl)
   have hl3 : (x2.set x4.toNat true).length = (List.replicate (p0.l_.length : Int).toNat false).length := List.length_set.trans hl1
   have el : rowV (some h.size) x2.length = rowV (some h.size) (x2.set x4.toNat true).length := congrArg _ List.length_set.symm
   try rw [el] at H
   try rw [el] at A1
   replace A : HH g h4 [_, _, .lst (some h.size) 4 (lst eB (x2.set x4.toNat true))] F := A1
   refine at_ls hx H fun fr t H => ?_
   refine at_ns 9 id ?_
   refine at_g1 3 [] 48 (vs e_S_auto_state p0.l_) h4 H (fun fr => .of (s_lv (by kernel_rfl))) fun fr t H => ?_
   obtain ⟨x8, hx, hm⟩ := bind_some hm
   refine at_g1 1 [] 50 (.vptr (e_S_auto_state x8)) h4 H (fun fr => .of (s_ixV (e := e_S_auto_state) (x := x8) enc_S_auto_state (by decide) (by kernel_rfl) hx)) fun fr t H => ?_
   refine at_l1 51 (.agg (e_S_auto_state x8)) h4 H (fun fr => .of (s_lv (by kernel_rfl))) fun fr t H => ?_
   obtain ⟨h5, e2, A⟩ := A.pu (.cells none 2 [.int .i64 0, .int .i64 0, .int .i64 0, .int .u64 0, .int .u64 0, .int .u64 0, .int .u64 0])
   refine at_ln 12 (.ptr (some (h4.size, 0))) e2 H fun fr t H => ?_
   obtain ⟨h6, hx, A⟩ := A.s0 0 [.int .i64 x8.kind_, .int .i64 x8.a_, .int .i64 x8.b_, .int .u64 x8.set_.w0, .int .u64 x8.set_.w1, .int .u64 x8.set_.w2, .int .u64 x8.set_.w3] [_, _, _, _, _, _, _]
   refine at_lS hx H fun fr t H => ?_
   refine at_nl id ?_
   refine aw_block (id := 2) (by kernel_rfl) ?_
   refine aw_sr 4 ?_
   refine at_gl 1 [] 54 0 0 A H fun fr t H => ?_
   refine at_el 2 [(52, .bool (x8.kind_ == (2 : Int)))] H (fun _ => id) fun fr H => ?_
   refine aw_if 52 H hm (fun hb hm H => ?_) fun hb hm H => ?_
   ·refine aw_rg 8 ?_
    refine at_gl 2 [(56, rowV r2 x5.length)] 58 0 1 A H fun fr t H => ?_
    refine at_gl 1 [] 60 0 2 A H fun fr t H => ?_
    obtain ⟨h7, e3, A⟩ := A.pL 3 [.int .i64 x8.a_, .int .i64 x8.b_]
    refine at_ln 61 (rowV (some h6.size) (([x8.a_, x8.b_] : List Int).length)) e3 H fun fr t H => ?_
    obtain ⟨hb, hm⟩ := need_some hm
    obtain ⟨r3, tl3, h8, hx, A1⟩ := HH.appT (encI .i64) (by decide) A 2 (xs := x5) (tl := tl2) (ys := ([x8.a_, x8.b_] : List Int)) rfl (row_first A 0 rfl (n := ([x8.a_, x8.b_] : List Int).length) (z := 1) rfl (by decide)) rfl rfl hb
    replace A : HH g h8 [.lst (some h6.size) 3 ([.int .i64 x8.a_, .int .i64 x8.b_]), _, .lst r3 3 (lst (eI .i64) ((x5 ++ ([x8.a_, x8.b_] : List Int)) ++ tl3)), _, _] F := A1
    replace A := A.k4 1 2 3 4
    refine at_l1 62 _ _ H (fun fr => .of (s_app (s := rowS r2 x5.length) (by kernel_rfl) hx)) fun fr t H => ?_
    refine at_se 1 [(0, .vptr [vs e_S_auto_state p0.l_, .int .i64 p0.first_]), (2, .bool p2), (3, .bool p3), (9, rowV (some h.size) ((x2.set x4.toNat true).length)), (10, rowV r3 ((x5 ++ ([x8.a_, x8.b_] : List Int)).length))] H fun fr H => ?_
    refine at_nil ?_
    replace A := A.k3 1 2 3
    exact nx hm ⟨_, _, rfl, _, tl3, hl3, H.ls, A⟩
   refine aw_sq ?_
   obtain ⟨o2, ho, hm⟩ := bind_some hm
   refine aw_mono (Q' := fun e fr' h' => (∃ x9, e = .normal ∧ x9 = o2 ∧ Has fr' 95 [(0, .vptr [vs e_S_auto_state p0.l_, .int .i64 p0.first_]), (2, .bool p2), (3, .bool p3), (9, rowV (some h.size) ((x2.set x4.toNat true).length)), (10, rowV r2 x5.length), (12, .ptr (some (h4.size, 0))), (63, .bool x9)] ∧ HH g h' [.obj h4.size (.cells none 2 (e_S_auto_state x8)), .lst r2 3 (lst (eI .i64) (x5 ++ tl2)), .lst rp1 3 (lst (eI .i64) p1), .lst (some h.size) 4 (lst eB (x2.set x4.toNat true))] F) ∨ False) ?_ ?_
   ·replace hm := ho
    clear ho
    refine aw_sr 7 ?_
    refine at_gl 1 [] 65 0 0 A H fun fr t H => ?_
    refine at_sl 2 [(67, .bool (x8.kind_ == (3 : Int)))] H fun fr H => ?_
    refine at_cl 2 (fun fr' h' => h6 = h' ∧ Has fr' 95 [(0, .vptr [vs e_S_auto_state p0.l_, .int .i64 p0.first_]), (2, .bool p2), (3, .bool p3), (9, rowV (some h.size) ((x2.set x4.toNat true).length)), (10, rowV r2 x5.length), (12, .ptr (some (h4.size, 0))), (69, .bool ((x8.kind_ == (3 : Int)) && p2))]) ?_ ?_
    ·cases hb : (x8.kind_ == (3 : Int) : Bool) with
     | true =>
      replace H := H.kn 67 hb
      refine at_sl 2 [(69, .bool p2)] H fun fr H => ?_
      exact at_zb H hb
     | false =>
      replace H := H.kn 67 hb
      refine at_sl 2 [(69, .bool false)] H fun fr H => ?_
      exact at_zb H hb
    intro t fr h' hK
    obtain ⟨e, H⟩ := hK
    subst e
    refine at_el 1 [(63, .bool ((x8.kind_ == (3 : Int)) && p2))] H (fun _ => id) fun fr H => ?_
    refine aw_if 63 H hm (fun hb hm H => ?_) fun hb hm H => ?_
    ·refine aw_sk ?_
     exact .inl ⟨_, rfl, injA hm, H.ls, A⟩
    refine aw_rg 7 ?_
    refine at_gl 1 [] 71 0 0 A H fun fr t H => ?_
    refine at_sl 2 [(73, .bool (x8.kind_ == (4 : Int)))] H fun fr H => ?_
    refine at_cl 2 (fun fr' h' => h6 = h' ∧ Has fr' 95 [(0, .vptr [vs e_S_auto_state p0.l_, .int .i64 p0.first_]), (2, .bool p2), (3, .bool p3), (9, rowV (some h.size) ((x2.set x4.toNat true).length)), (10, rowV r2 x5.length), (12, .ptr (some (h4.size, 0))), (75, .bool ((x8.kind_ == (4 : Int)) && p3))]) ?_ ?_
    ·cases hb : (x8.kind_ == (4 : Int) : Bool) with
     | true =>
      replace H := H.kn 73 hb
      refine at_sl 2 [(75, .bool p3)] H fun fr H => ?_
      exact at_zb H hb
     | false =>
      replace H := H.kn 73 hb
      refine at_sl 2 [(75, .bool false)] H fun fr H => ?_
      exact at_zb H hb
    intro t fr h' hK
    obtain ⟨e, H⟩ := hK
    subst e
    refine at_sl 1 [(63, .bool ((x8.kind_ == (4 : Int)) && p3))] H fun fr H => ?_
    refine at_nil ?_
    exact .inl ⟨_, rfl, injA hm, H.ls, A⟩
   clear ho
   clear A
   intro e fr h9 hQ
   rcases hQ with ⟨x9, rfl, rfl, H, A⟩ | hF
   ·show AW _ _ _ _ _ _ _
    refine aw_if 63 H hm (fun hb hm H => ?_) fun hb hm H => ?_
    ·refine aw_rg 6 ?_
     refine at_gl 2 [(76, rowV r2 x5.length)] 78 0 1 A H fun fr t H => ?_
     obtain ⟨h10, e4, A⟩ := A.pL 3 [.int .i64 x8.a_]
     refine at_ln 79 (rowV (some h9.size) (([x8.a_] : List Int).length)) e4 H fun fr t H => ?_
     obtain ⟨hb, hm⟩ := need_some hm
     obtain ⟨r4, tl4, h11, hx, A1⟩ := HH.appT (encI .i64) (by decide) A 2 (xs := x5) (tl := tl2) (ys := ([x8.a_] : List Int)) rfl (row_first A 0 rfl (n := ([x8.a_] : List Int).length) (z := 1) rfl (by decide)) rfl rfl hb
     replace A : HH g h11 [.lst (some h9.size) 3 ([.int .i64 x8.a_]), _, .lst r4 3 (lst (eI .i64) ((x5 ++ ([x8.a_] : List Int)) ++ tl4)), _, _] F := A1
     replace A := A.k4 1 2 3 4
     refine at_l1 80 _ _ H (fun fr => .of (s_app (s := rowS r2 x5.length) (by kernel_rfl) hx)) fun fr t H => ?_
     refine at_se 1 [(0, .vptr [vs e_S_auto_state p0.l_, .int .i64 p0.first_]), (2, .bool p2), (3, .bool p3), (9, rowV (some h.size) ((x2.set x4.toNat true).length)), (10, rowV r4 ((x5 ++ ([x8.a_] : List Int)).length))] H fun fr H => ?_
     refine at_nil ?_
     replace A := A.k3 1 2 3
     exact nx hm ⟨_, _, rfl, _, tl4, hl3, H.ls, A⟩
    refine aw_sk ?_
    replace A := A.k3 1 2 3
    exact nx hm ⟨_, _, rfl, _, tl2, hl3, H.ls, A⟩
   exact hF.elim
  refine aw_exit (i := 0) (by kernel_rfl) ?_
  replace A := A.k2 1 2
  exact nr hm fun e => .inl ⟨_, rfl, e, hl1, H.ls, A⟩
 clear ho
 clear A
 intro e fr h12 hQ
 rcases hQ with ⟨x3, rfl, rfl, hl2, H, A⟩ | hF
 ·show AW _ _ _ _ _ _ _
  refine aw_sr 1 ?_
  refine at_el 1 [(13, .slice none 0)] H (fun _ => id) fun fr H => ?_
  refine aw_sq ?_
  refine aw_sr 3 ?_
  refine at_el 3 [(81, rowV (some h.size) x3.length), (82, .int .i64 (x3.length : Int)), (83, .int .i64 0)] H (fun _ => id) fun fr H => ?_
  refine aw_block (id := 3) (by kernel_rfl) ?_
  replace A : HH g h12 [.lst none 3 (lst (eI .i64) ([] : List Int)), _, _] F := A.nilL 3
  obtain ⟨o3, ho, hm⟩ := bind_some hm
  refine aw_mono (Q' := fun e fr' h' => (∃ x12, e = .exit 3 ∧ x12 = o3 ∧ ∃ r6, Has fr' 95 [(13, rowV r6 x12.length)] ∧ HH g h' [.lst r6 3 (lst (eI .i64) x12), .lst rp1 3 (lst (eI .i64) p1)] F) ∨ False) ?_ ?_
  ·refine aw_loop (by kernel_rfl) (fun (s : (List Int) × Int) fr' h' => ∃ x10 x11, (x10, x11) = s ∧ ∃ r5, Has fr' 95 [(13, rowV r5 x10.length), (81, rowV (some h.size) x3.length), (82, .int .i64 (x3.length : Int)), (83, .int .i64 x11)] ∧ HH g h' [.lst r5 3 (lst (eI .i64) x10), .lst rp1 3 (lst (eI .i64) p1), .lst (some h.size) 4 (lst eB x3)] F) ho ⟨_, _, rfl, none, H.ls, A⟩ ?_
   clear ho hm H A
   intro s q fr h13 hI hm
   obtain ⟨x10, x11, rfl, r5, H, A⟩ := hI
   unfold M_auto_Auto_close_sPVOBB_L1 at hm
   refine aw_sr 1 ?_
   refine at_el 1 [(84, .bool (decide (x11 < (x3.length : Int))))] H (fun _ => id) fun fr H => ?_
   refine aw_sq ?_
   refine aw_if 84 H hm (fun hb hm H => ?_) fun hb hm H => ?_
   ·refine aw_kn id ?_
    refine aw_sq ?_
    obtain ⟨o4, ho, hm⟩ := bind_some hm
    refine aw_mono (Q' := fun e fr' h' => (∃ x13, e = .normal ∧ x13 = o4 ∧ ∃ r7, Has fr' 95 [(13, rowV r7 x13.length), (81, rowV (some h.size) x3.length), (82, .int .i64 (x3.length : Int)), (83, .int .i64 x11)] ∧ HH g h' [.lst r7 3 (lst (eI .i64) x13), .lst rp1 3 (lst (eI .i64) p1), .lst (some h.size) 4 (lst eB x3)] F) ∨ False) ?_ ?_
    ·replace hm := ho
     clear ho
     refine aw_block (id := 4) (by kernel_rfl) ?_
     refine aw_sr 5 ?_
     obtain ⟨x14, hx, hm⟩ := bind_some hm
     obtain ⟨i4, er4, _, hx, hq4⟩ := HH.ixO encB (by decide) A 2 (xs := x3) rfl hx
     refine at_g1 1 [(85, .int .i64 x11)] 86 (.ptr (some (i4, x11.toNat * 1))) h13 H (fun fr => .of (s_ixL (s := rowS (some h.size) x3.length) (by kernel_rfl) hx)) fun fr t H => ?_
     refine at_l1 87 _ _ H (fun fr => .of (s_ld (by kernel_rfl) (row_ld1 encB (HH.row A 2 rfl er4) hq4 (o := 0) rfl))) fun fr t H => ?_
     refine at_es 2 [(14, .int .i64 x11), (15, .bool x14)] 1 H (fun _ => id) fun fr H => ?_
     refine at_el 1 [(88, .bool x14)] H (fun _ => id) fun fr H => ?_
     refine aw_if 88 H hm (fun hb hm H => ?_) fun hb hm H => ?_
     ·refine aw_rg 5 ?_
      refine at_sl 2 [(89, rowV r5 x10.length), (90, .int .i64 x11)] H fun fr H => ?_
      obtain ⟨h14, e5, A⟩ := A.pL 3 [.int .i64 x11]
      refine at_ln 91 (rowV (some h13.size) (([x11] : List Int).length)) e5 H fun fr t H => ?_
      obtain ⟨hb, hm⟩ := need_some hm
      obtain ⟨r8, h15, hx, A1⟩ := HH.appO (encI .i64) (by decide) A 1 (xs := x10) (ys := ([x11] : List Int)) rfl (row_first A 0 rfl (n := ([x11] : List Int).length) (z := 1) rfl (by decide)) rfl rfl hb
      replace A : HH g h15 [.lst (some h13.size) 3 ([.int .i64 x11]), .lst r8 3 (lst (eI .i64) (x10 ++ ([x11] : List Int))), _, _] F := A1
      replace A := A.k3 1 2 3
      refine at_l1 92 _ _ H (fun fr => .of (s_app (s := rowS r5 x10.length) (by kernel_rfl) hx)) fun fr t H => ?_
      refine at_se 1 [(13, rowV r8 ((x10 ++ ([x11] : List Int)).length)), (81, rowV (some h.size) x3.length), (82, .int .i64 (x3.length : Int)), (83, .int .i64 x11)] H fun fr H => ?_
      refine at_nil ?_
      exact .inl ⟨_, rfl, injA hm, _, H.ls, A⟩
     refine aw_sk ?_
     exact .inl ⟨_, rfl, injA hm, _, H.ls, A⟩
    clear ho
    clear A
    intro e fr h16 hQ
    rcases hQ with ⟨x13, rfl, rfl, r7, H, A⟩ | hF
    ·show AW _ _ _ _ _ _ _
     refine aw_rg 2 ?_
     refine at_se 2 [(13, rowV r7 x13.length), (81, rowV (some h.size) x3.length), (82, .int .i64 (x3.length : Int)), (83, .int .i64 (IntKind.i64.wrap (x11 + (1 : Int))))] H fun fr H => ?_
     refine at_nil ?_
     exact nx hm ⟨_, _, rfl, _, H.ls, A⟩
    exact hF.elim
   refine aw_exit (i := 3) (by kernel_rfl) ?_
   replace A := A.d2
   exact nr hm fun e => .inl ⟨_, rfl, e, _, H.ls, A⟩
  clear ho
  clear A
  intro e fr h17 hQ
  rcases hQ with ⟨x12, rfl, rfl, r6, H, A⟩ | hF
  ·show AW _ _ _ _ _ _ _
   refine aw_sr 2 ?_
   refine at_el 2 [(8, rowV r6 x12.length)] H (fun _ => id) fun fr H => ?_
   refine aw_rt ?_
   obtain rfl := injA hm
   refine ⟨.inl rfl, rowV r6 x12.length, rH H, ?_⟩
   obtain ⟨h18, hz0, A1⟩ := (A.front 0 rfl).frz (n := x12.length) (z := 1) ((encI .i64).lenL _) (by decide)
   replace A : HH g h18 [_] F := A1
   refine ⟨vs (eI .i64) x12, h18, by first | rfl | (simp only [fz3T, fz3A, fz3B, fz3R, fz2A, fz2R, fz2V, fz2I, fz2B, fz2S, fz2N, fzL0, fzL1, fz1I, fz1B, fz1S, fz1V, fz1N, Option.map_some, hz0] <;> rfl), ?_⟩
   exact ⟨rfl, A⟩
  exact hF.elim
 exact hF.elim
noncomputable def M_auto_Auto_Start (p0 : S_auto_Auto) (p1 : Bool) : Option ((List Int)) :=
 (M_auto_Auto_close_sPVOBB p0 ([p0.first_] : List Int) p1 false).bind fun x1 => some x1
theorem ok_auto_Auto_Start {p0 p1 q0} (hm : M_auto_Auto_Start p0 p1 = some q0) (A : HH g h [] F) (hc : canL (cfg.still 26) av = [.vptr [vs e_S_auto_state p0.l_, .int .i64 p0.first_], .bool p1] := by kernel_rfl) : ∃ v h', Runs cfg g h 26 av v h' ∧ v = vs (eI .i64) q0 ∧ HH g h' [] F := by
 refine rq1 13 [.tmp 4] hc ?_
 clear hc
 unfold M_auto_Auto_Start at hm
 refine bg 13 [(0, .vptr [vs e_S_auto_state p0.l_, .int .i64 p0.first_]), (1, .bool p1)] fun fr H => ?_
 refine aw_sr 1 ?_
 refine at_es 1 [] 9 H (fun _ => id) fun fr H => ?_
 refine at_g1 4 [(5, .vptr [vs e_S_auto_state p0.l_, .int .i64 p0.first_])] 9 (.int .i64 p0.first_) h H (fun fr => .of (s_lv (by kernel_rfl))) fun fr t H => ?_
 obtain ⟨h1, e1, A⟩ := A.pL 3 [.int .i64 p0.first_]
 refine at_ln 10 (rowV (some h.size) (([p0.first_] : List Int).length)) e1 H fun fr t H => ?_
 replace A : HH g h1 [.lst (some h.size) 3 (lst (eI .i64) ([p0.first_] : List Int))] F := A
 obtain ⟨x1, hx, hm⟩ := bind_some hm
 obtain ⟨v1, h2, hr, rfl, A1⟩ := ok_auto_Auto_close_sPVOBB (av := [.vptr [vs e_S_auto_state p0.l_, .int .i64 p0.first_], rowV (some h.size) (([p0.first_] : List Int).length), .bool p1, .bool false]) hx (A.cut 1)
 replace A := A.g11 A1
 refine at_gc1 1 [] 12 hr H fun fr t H => ?_
 refine at_el 1 [(4, vs (eI .i64) x1)] H (fun _ => id) fun fr H => ?_
 refine aw_rt ?_
 obtain rfl := injA hm
 refine ⟨.inl rfl, vs (eI .i64) x1, rH H, ?_⟩
 replace A := A.d0
 exact ⟨rfl, A⟩
noncomputable def M_auto_Auto_close_L0 (p0 : S_auto_Auto) (p2 : Bool) (p3 : Bool) (s : (List Int) × (List Bool)) : Option (((List Int) × (List Bool)) ⊕ (((List Bool)))) :=
 match s with
 | (x1, x2) => iteB (decide ((x1.length : Int) > (0 : Int))) ((ixV x1 (IntKind.i64.wrap ((x1.length : Int) - (1 : Int)))).bind fun x4 => (subV x1 none (some (IntKind.i64.wrap ((x1.length : Int) - (1 : Int))))).bind fun x5 => (ixV x2 x4).bind fun x6 => iteB x6 (some (.inl (x5, x2))) ((ixV x2 x4).bind fun x7 => (ixV p0.l_ x4).bind fun x8 => iteB (x8.kind_ == (2 : Int)) (need (okN 8 (x5.length + ([x8.a_, x8.b_] : List Int).length)) <| some (.inl ((x5 ++ ([x8.a_, x8.b_] : List Int)), (x2.set x4.toNat true)))) ((iteB ((x8.kind_ == (3 : Int)) && p2) (some true) (some ((x8.kind_ == (4 : Int)) && p3)) : Option ((Bool))).bind fun x9 => iteB x9 (need (okN 8 (x5.length + ([x8.a_] : List Int).length)) <| some (.inl ((x5 ++ ([x8.a_] : List Int)), (x2.set x4.toNat true)))) (some (.inl (x5, (x2.set x4.toNat true))))))) (some (.inr x2))
noncomputable def M_auto_Auto_close_L1 (x3 : List Bool) (s : (List Int) × Int) : Option (((List Int) × Int) ⊕ (((List Int)))) :=
 match s with
 | (x10, x11) => iteB (decide (x11 < (x3.length : Int))) (((ixV x3 x11).bind fun x14 => iteB x14 (need (okN 8 (x10.length + ([x11] : List Int).length)) <| some (x10 ++ ([x11] : List Int))) (some x10) : Option (((List Int)))).bind fun x13 => some (.inl (x13, IntKind.i64.wrap (x11 + (1 : Int))))) (some (.inr x10))
noncomputable def M_auto_Auto_close (p0 : S_auto_Auto) (p1 : List Int) (p2 : Bool) (p3 : Bool) : Option ((List Int)) :=
 need (mkN 1 (p0.l_.length : Int)) <| need (okN 8 p1.length) <| (loop (M_auto_Auto_close_L0 p0 p2 p3) (p1, (List.replicate (p0.l_.length : Int).toNat false))).bind fun x3 => (loop (M_auto_Auto_close_L1 x3) (([] : List Int), (0 : Int))).bind fun x12 => some x12
theorem ok_auto_Auto_close {p0 p1 p2 p3 q0} (hm : M_auto_Auto_close p0 p1 p2 p3 = some q0) (A : HH g h [] F) (hc : canL (cfg.still 52) av = [.vptr [vs e_S_auto_state p0.l_, .int .i64 p0.first_], vs (eI .i64) p1, .bool p2, .bool p3] := by kernel_rfl) : ∃ v h', Runs cfg g h 52 av v h' ∧ v = vs (eI .i64) q0 ∧ HH g h' [] F := by
 refine rq7 95 [.tmp 8] hc ?_
 clear hc
 unfold M_auto_Auto_close at hm
 refine bg 95 [(0, .vptr [vs e_S_auto_state p0.l_, .int .i64 p0.first_]), (1, vs (eI .i64) p1), (2, .bool p2), (3, .bool p3)] fun fr H => ?_
 refine aw_sr 1 ?_
 refine at_es 1 [] 7 H (fun _ => id) fun fr H => ?_
 refine at_g1 3 [] 19 (vs e_S_auto_state p0.l_) h H (fun fr => .of (s_lv (by kernel_rfl))) fun fr t H => ?_
 obtain ⟨hb, hm⟩ := need_some hm
 obtain ⟨h1, e1, A⟩ := A.pL 4 (lst eB (List.replicate (p0.l_.length : Int).toNat false))
 refine at_g1 1 [] 21 (rowV (some h.size) (List.replicate (p0.l_.length : Int).toNat false).length) h1 H (fun fr => .of (s_mkO (e := eB) encB (x := false) (by kernel_rfl) hb (congrArg some e1.symm))) fun fr t H => ?_
 refine at_es 1 [(9, rowV (some h.size) ((List.replicate (p0.l_.length : Int).toNat false).length))] 3 H (fun _ => id) fun fr H => ?_
 have A1 := A.cut 0
 obtain ⟨hb, hm⟩ := need_some hm
 obtain ⟨r1, h2, hr, A1⟩ := HH.clone (C := cfg) (f := 69) (a := 0) (t := 3) (xs := p1) (encI .i64) (by decide) A1 (by kernel_rfl) (l := exts) rfl (by kernel_rfl) (by kernel_rfl) rfl (firstV (encI .i64) _ p1) ((encI .i64).canL _) hb
 replace A : HH g h2 [.lst r1 3 (lst (eI .i64) p1), .lst (some h.size) 4 (lst eB (List.replicate (p0.l_.length : Int).toNat false))] F := A.glue0 (n := 0) A1
 refine at_gc1 1 [] 23 hr H fun fr t H => ?_
 refine at_el 1 [(10, rowV r1 p1.length)] H (fun _ => id) fun fr H => ?_
 refine aw_sq ?_
 refine aw_block (id := 0) (by kernel_rfl) ?_
 replace A : HH g h2 [.lst r1 3 (lst (eI .i64) (p1 ++ [])), _] F := A.tl0 0 rfl
 obtain ⟨o1, ho, hm⟩ := bind_some hm
 refine aw_mono (Q' := fun e fr' h' => (∃ x3, e = .exit 0 ∧ x3 = o1 ∧ ∃ (hl2 : x3.length = (List.replicate (p0.l_.length : Int).toNat false).length), Has fr' 95 [(9, rowV (some h.size) x3.length)] ∧ HH g h' [.lst (some h.size) 4 (lst eB x3)] F) ∨ False) ?_ ?_
 ·refine aw_loop (by kernel_rfl) (fun (s : (List Int) × (List Bool)) fr' h' => ∃ x1 x2, (x1, x2) = s ∧ ∃ r2 tl1, ∃ (hl1 : x2.length = (List.replicate (p0.l_.length : Int).toNat false).length), Has fr' 95 [(0, .vptr [vs e_S_auto_state p0.l_, .int .i64 p0.first_]), (2, .bool p2), (3, .bool p3), (9, rowV (some h.size) x2.length), (10, rowV r2 x1.length)] ∧ HH g h' [.lst r2 3 (lst (eI .i64) (x1 ++ tl1)), .lst (some h.size) 4 (lst eB x2)] F) ho ⟨_, _, rfl, _, [], rfl, H.ls, A⟩ ?_
  clear ho hm H A
  intro s q fr h3 hI hm
  obtain ⟨x1, x2, rfl, r2, tl1, hl1, H, A⟩ := hI
  unfold M_auto_Auto_close_L0 at hm
  refine aw_sq ?_
  refine aw_sr 3 ?_
  refine at_el 3 [(26, .bool (decide ((x1.length : Int) > (0 : Int))))] H (fun _ => id) fun fr H => ?_
  refine aw_if 26 H hm (fun hb hm H => ?_) fun hb hm H => ?_
  ·refine aw_kn id ?_
   refine aw_block (id := 1) (by kernel_rfl) ?_
   refine aw_sr 7 ?_
   obtain ⟨x4, hx, hm⟩ := bind_some hm
   obtain ⟨i1, er1, _, hx, hq1⟩ := HH.ixT (encI .i64) (by decide) A 0 (xs := x1) (tl := tl1) rfl hx
   refine at_g1 4 [] 31 (.ptr (some (i1, (IntKind.i64.wrap ((x1.length : Int) - (1 : Int))).toNat * 1))) h3 H (fun fr => .of (s_ixL (s := rowS r2 x1.length) (by kernel_rfl) hx)) fun fr t H => ?_
   refine at_l1 32 _ _ H (fun fr => .of (s_ld (by kernel_rfl) (row_ld1 (encI .i64) (HH.row A 0 rfl er1) hq1 (o := 0) rfl))) fun fr t H => ?_
   refine at_es 1 [(11, .int .i64 x4)] 6 H (fun _ => id) fun fr H => ?_
   obtain ⟨x5, hx, hm⟩ := bind_some hm
   have Aw1 := A
   obtain ⟨tl2, A1⟩ := HH.cutT A 0 (xs := x1) (tl := tl1) rfl hx
   replace A : HH g h3 [.lst r2 3 (lst (eI .i64) (x5 ++ tl2)), _] F := A1
   refine at_g1 4 [] 37 (rowV r2 x5.length) h3 H (fun fr => .of (s_subT (encI .i64) (by decide) Aw1 0 (xs := x1) (tl := tl1) (k' := .i64) rfl (by kernel_rfl) (by kernel_rfl) hx)) fun fr t H => ?_
   refine at_se 1 [(0, .vptr [vs e_S_auto_state p0.l_, .int .i64 p0.first_]), (2, .bool p2), (3, .bool p3), (9, rowV (some h.size) x2.length), (10, rowV r2 x5.length), (11, .int .i64 x4)] H fun fr H => ?_
   refine at_nl id ?_
   refine aw_sq ?_
   refine aw_sr 4 ?_
   obtain ⟨x6, hx, hm⟩ := bind_some hm
   obtain ⟨i2, er2, _, hx, hq2⟩ := HH.ixO encB (by decide) A 1 (xs := x2) rfl hx
   refine at_g1 2 [] 40 (.ptr (some (i2, x4.toNat * 1))) h3 H (fun fr => .of (s_ixL (s := rowS (some h.size) x2.length) (by kernel_rfl) hx)) fun fr t H => ?_
   refine at_l1 41 _ _ H (fun fr => .of (s_ld (by kernel_rfl) (row_ld1 encB (HH.row A 1 rfl er2) hq2 (o := 0) rfl))) fun fr t H => ?_
   refine at_nl id ?_
   refine aw_if 41 H hm (fun hb hm H => ?_) fun hb hm H => ?_
   ·refine aw_exit (i := 1) (by kernel_rfl) ?_
    exact nx hm ⟨_, _, rfl, _, tl2, hl1, H.ls, A⟩
   refine aw_ks 4 id ?_
   obtain ⟨x7, hx, hm⟩ := bind_some hm
   obtain ⟨i3, er3, _, hx, hq3⟩ := HH.ixO encB (by decide) A 1 (xs := x2) rfl hx
   refine at_g1 2 [] 44 (.ptr (some (i3, x4.toNat * 1))) h3 H (fun fr => .of (s_ixL (s := rowS (some h.size) x2.length) (by kernel_rfl) hx)) fun fr t H => ?_
   obtain ⟨h4, hx, A1⟩ := HH.stO encB A 1 rfl er3 hq3 (y := true) (o := 0) (new := [.bool true]) rfl rfl (Nat.le_of_ble_eq_true rfl)
   have hl3 : (x2.set x4.toNat true).length = (List.replicate (p0.l_.length : Int).toNat false).length := List.length_set.trans hl1
   have el : rowV (some h.size) x2.length = rowV (some h.size) (x2.set x4.toNat true).length := congrArg _ List.length_set.symm
   try rw [el] at H
   try rw [el] at A1
   replace A : HH g h4 [_, .lst (some h.size) 4 (lst eB (x2.set x4.toNat true))] F := A1
   refine at_ls hx H fun fr t H => ?_
   refine at_ns 9 id ?_
   refine at_g1 3 [] 48 (vs e_S_auto_state p0.l_) h4 H (fun fr => .of (s_lv (by kernel_rfl))) fun fr t H => ?_
   obtain ⟨x8, hx, hm⟩ := bind_some hm
   refine at_g1 1 [] 50 (.vptr (e_S_auto_state x8)) h4 H (fun fr => .of (s_ixV (e := e_S_auto_state) (x := x8) enc_S_auto_state (by decide) (by kernel_rfl) hx)) fun fr t H => ?_
   refine at_l1 51 (.agg (e_S_auto_state x8)) h4 H (fun fr => .of (s_lv (by kernel_rfl))) fun fr t H => ?_
   obtain ⟨h5, e2, A⟩ := A.pu (.cells none 2 [.int .i64 0, .int .i64 0, .int .i64 0, .int .u64 0, .int .u64 0, .int .u64 0, .int .u64 0])
   refine at_ln 12 (.ptr (some (h4.size, 0))) e2 H fun fr t H => ?_
   obtain ⟨h6, hx, A⟩ := A.s0 0 [.int .i64 x8.kind_, .int .i64 x8.a_, .int .i64 x8.b_, .int .u64 x8.set_.w0, .int .u64 x8.set_.w1, .int .u64 x8.set_.w2, .int .u64 x8.set_.w3] [_, _, _, _, _, _, _]
   refine at_lS hx H fun fr t H => ?_
   refine at_nl id ?_
   refine aw_block (id := 2) (by kernel_rfl) ?_
   refine aw_sr 4 ?_
   refine at_gl 1 [] 54 0 0 A H fun fr t H => ?_
   refine at_el 2 [(52, .bool (x8.kind_ == (2 : Int)))] H (fun _ => id) fun fr H => ?_
   refine aw_if 52 H hm (fun hb hm H => ?_) fun hb hm H => ?_
   ·refine aw_rg 8 ?_
    refine at_gl 2 [(56, rowV r2 x5.length)] 58 0 1 A H fun fr t H => ?_
    refine at_gl 1 [] 60 0 2 A H fun fr t H => ?_
    obtain ⟨h7, e3, A⟩ := A.pL 3 [.int .i64 x8.a_, .int .i64 x8.b_]
    refine at_ln 61 (rowV (some h6.size) (([x8.a_, x8.b_] : List Int).length)) e3 H fun fr t H => ?_
    obtain ⟨hb, hm⟩ := need_some hm
    obtain ⟨r3, tl3, h8, hx, A1⟩ := HH.appT (encI .i64) (by decide) A 2 (xs := x5) (tl := tl2) (ys := ([x8.a_, x8.b_] : List Int)) rfl (row_first A 0 rfl (n := ([x8.a_, x8.b_] : List Int).length) (z := 1) rfl (by decide)) rfl rfl hb
    replace A : HH g h8 [.lst (some h6.size) 3 ([.int .i64 x8.a_, .int .i64 x8.b_]), _, .lst r3 3 (lst (eI .i64) ((x5 ++ ([x8.a_, x8.b_] : List Int)) ++ tl3)), _] F := A1
    replace A := A.k3 1 2 3
    refine at_l1 62 _ _ H (fun fr => .of (s_app (s := rowS r2 x5.length) (by kernel_rfl) hx)) fun fr t H => ?_
    refine at_se 1 [(0, .vptr [vs e_S_auto_state p0.l_, .int .i64 p0.first_]), (2, .bool p2), (3, .bool p3), (9, rowV (some h.size) ((x2.set x4.toNat true).length)), (10, rowV r3 ((x5 ++ ([x8.a_, x8.b_] : List Int)).length))] H fun fr H => ?_
    refine at_nil ?_
    replace A := A.k2 1 2
    exact nx hm ⟨_, _, rfl, _, tl3, hl3, H.ls, A⟩
   refine aw_sq ?_
   obtain ⟨o2, ho, hm⟩ := bind_some hm
   refine aw_mono (Q' := fun e fr' h' => (∃ x9, e = .normal ∧ x9 = o2 ∧ Has fr' 95 [(0, .vptr [vs e_S_auto_state p0.l_, .int .i64 p0.first_]), (2, .bool p2), (3, .bool p3), (9, rowV (some h.size) ((x2.set x4.toNat true).length)), (10, rowV r2 x5.length), (12, .ptr (some (h4.size, 0))), (63, .bool x9)] ∧ HH g h' [.obj h4.size (.cells none 2 (e_S_auto_state x8)), .lst r2 3 (lst (eI .i64) (x5 ++ tl2)), .lst (some h.size) 4 (lst eB (x2.set x4.toNat true))] F) ∨ False) ?_ ?_
   ·replace hm := ho
    clear ho
    refine aw_sr 7 ?_
    refine at_gl 1 [] 65 0 0 A H fun fr t H => ?_
    refine at_sl 2 [(67, .bool (x8.kind_ == (3 : Int)))] H fun fr H => ?_
    refine at_cl 2 (fun fr' h' => h6 = h' ∧ Has fr' 95 [(0, .vptr [vs e_S_auto_state p0.l_, .int .i64 p0.first_]), (2, .bool p2), (3, .bool p3), (9, rowV (some h.size) ((x2.set x4.toNat true).length)), (10, rowV r2 x5.length), (12, .ptr (some (h4.size, 0))), (69, .bool ((x8.kind_ == (3 : Int)) && p2))]) ?_ ?_
    ·cases hb : (x8.kind_ == (3 : Int) : Bool) with
     | true =>
      replace H := H.kn 67 hb
      refine at_sl 2 [(69, .bool p2)] H fun fr H => ?_
      exact at_zb H hb
     | false =>
      replace H := H.kn 67 hb
      refine at_sl 2 [(69, .bool false)] H fun fr H => ?_
      exact at_zb H hb
    intro t fr h' hK
    obtain ⟨e, H⟩ := hK
    subst e
    refine at_el 1 [(63, .bool ((x8.kind_ == (3 : Int)) && p2))] H (fun _ => id) fun fr H => ?_
    refine aw_if 63 H hm (fun hb hm H => ?_) fun hb hm H => ?_
    ·refine aw_sk ?_
     exact .inl ⟨_, rfl, injA hm, H.ls, A⟩
    refine aw_rg 7 ?_
    refine at_gl 1 [] 71 0 0 A H fun fr t H => ?_
    refine at_sl 2 [(73, .bool (x8.kind_ == (4 : Int)))] H fun fr H => ?_
    refine at_cl 2 (fun fr' h' => h6 = h' ∧ Has fr' 95 [(0, .vptr [vs e_S_auto_state p0.l_, .int .i64 p0.first_]), (2, .bool p2), (3, .bool p3), (9, rowV (some h.size) ((x2.set x4.toNat true).length)), (10, rowV r2 x5.length), (12, .ptr (some (h4.size, 0))), (75, .bool ((x8.kind_ == (4 : Int)) && p3))]) ?_ ?_
    ·cases hb : (x8.kind_ == (4 : Int) : Bool) with
     | true =>
      replace H := H.kn 73 hb
      refine at_sl 2 [(75, .bool p3)] H fun fr H => ?_
      exact at_zb H hb
     | false =>
      replace H := H.kn 73 hb
      refine at_sl 2 [(75, .bool false)] H fun fr H => ?_
      exact at_zb H hb
    intro t fr h' hK
    obtain ⟨e, H⟩ := hK
    subst e
    refine at_sl 1 [(63, .bool ((x8.kind_ == (4 : Int)) && p3))] H fun fr H => ?_
    refine at_nil ?_
    exact .inl ⟨_, rfl, injA hm, H.ls, A⟩
   clear ho
   clear A
   intro e fr h9 hQ
   rcases hQ with ⟨x9, rfl, rfl, H, A⟩ | hF
   ·show AW _ _ _ _ _ _ _
    refine aw_if 63 H hm (fun hb hm H => ?_) fun hb hm H => ?_
    ·refine aw_rg 6 ?_
     refine at_gl 2 [(76, rowV r2 x5.length)] 78 0 1 A H fun fr t H => ?_
     obtain ⟨h10, e4, A⟩ := A.pL 3 [.int .i64 x8.a_]
     refine at_ln 79 (rowV (some h9.size) (([x8.a_] : List Int).length)) e4 H fun fr t H => ?_
     obtain ⟨hb, hm⟩ := need_some hm
     obtain ⟨r4, tl4, h11, hx, A1⟩ := HH.appT (encI .i64) (by decide) A 2 (xs := x5) (tl := tl2) (ys := ([x8.a_] : List Int)) rfl (row_first A 0 rfl (n := ([x8.a_] : List Int).length) (z := 1) rfl (by decide)) rfl rfl hb
     replace A : HH g h11 [.lst (some h9.size) 3 ([.int .i64 x8.a_]), _, .lst r4 3 (lst (eI .i64) ((x5 ++ ([x8.a_] : List Int)) ++ tl4)), _] F := A1
     replace A := A.k3 1 2 3
     refine at_l1 80 _ _ H (fun fr => .of (s_app (s := rowS r2 x5.length) (by kernel_rfl) hx)) fun fr t H => ?_
     refine at_se 1 [(0, .vptr [vs e_S_auto_state p0.l_, .int .i64 p0.first_]), (2, .bool p2), (3, .bool p3), (9, rowV (some h.size) ((x2.set x4.toNat true).length)), (10, rowV r4 ((x5 ++ ([x8.a_] : List Int)).length))] H fun fr H => ?_
     refine at_nil ?_
     replace A := A.k2 1 2
     exact nx hm ⟨_, _, rfl, _, tl4, hl3, H.ls, A⟩
    refine aw_sk ?_
    replace A := A.k2 1 2
    exact nx hm ⟨_, _, rfl, _, tl2, hl3, H.ls, A⟩
   exact hF.elim
  refine aw_exit (i := 0) (by kernel_rfl) ?_
  replace A := A.k1 1
  exact nr hm fun e => .inl ⟨_, rfl, e, hl1, H.ls, A⟩
 clear ho
 clear A
 intro e fr h12 hQ
 rcases hQ with ⟨x3, rfl, rfl, hl2, H, A⟩ | hF
 ·show AW _ _ _ _ _ _ _
  refine aw_sr 1 ?_
  refine at_el 1 [(13, .slice none 0)] H (fun _ => id) fun fr H => ?_
  refine aw_sq ?_
  refine aw_sr 3 ?_
  refine at_el 3 [(81, rowV (some h.size) x3.length), (82, .int .i64 (x3.length : Int)), (83, .int .i64 0)] H (fun _ => id) fun fr H => ?_
  refine aw_block (id := 3) (by kernel_rfl) ?_
  replace A : HH g h12 [.lst none 3 (lst (eI .i64) ([] : List Int)), _] F := A.nilL 3
  obtain ⟨o3, ho, hm⟩ := bind_some hm
  refine aw_mono (Q' := fun e fr' h' => (∃ x12, e = .exit 3 ∧ x12 = o3 ∧ ∃ r6, Has fr' 95 [(13, rowV r6 x12.length)] ∧ HH g h' [.lst r6 3 (lst (eI .i64) x12)] F) ∨ False) ?_ ?_
  ·refine aw_loop (by kernel_rfl) (fun (s : (List Int) × Int) fr' h' => ∃ x10 x11, (x10, x11) = s ∧ ∃ r5, Has fr' 95 [(13, rowV r5 x10.length), (81, rowV (some h.size) x3.length), (82, .int .i64 (x3.length : Int)), (83, .int .i64 x11)] ∧ HH g h' [.lst r5 3 (lst (eI .i64) x10), .lst (some h.size) 4 (lst eB x3)] F) ho ⟨_, _, rfl, none, H.ls, A⟩ ?_
   clear ho hm H A
   intro s q fr h13 hI hm
   obtain ⟨x10, x11, rfl, r5, H, A⟩ := hI
   unfold M_auto_Auto_close_L1 at hm
   refine aw_sr 1 ?_
   refine at_el 1 [(84, .bool (decide (x11 < (x3.length : Int))))] H (fun _ => id) fun fr H => ?_
   refine aw_sq ?_
   refine aw_if 84 H hm (fun hb hm H => ?_) fun hb hm H => ?_
   ·refine aw_kn id ?_
    refine aw_sq ?_
    obtain ⟨o4, ho, hm⟩ := bind_some hm
    refine aw_mono (Q' := fun e fr' h' => (∃ x13, e = .normal ∧ x13 = o4 ∧ ∃ r7, Has fr' 95 [(13, rowV r7 x13.length), (81, rowV (some h.size) x3.length), (82, .int .i64 (x3.length : Int)), (83, .int .i64 x11)] ∧ HH g h' [.lst r7 3 (lst (eI .i64) x13), .lst (some h.size) 4 (lst eB x3)] F) ∨ False) ?_ ?_
    ·replace hm := ho
     clear ho
     refine aw_block (id := 4) (by kernel_rfl) ?_
     refine aw_sr 5 ?_
     obtain ⟨x14, hx, hm⟩ := bind_some hm
     obtain ⟨i4, er4, _, hx, hq4⟩ := HH.ixO encB (by decide) A 1 (xs := x3) rfl hx
     refine at_g1 1 [(85, .int .i64 x11)] 86 (.ptr (some (i4, x11.toNat * 1))) h13 H (fun fr => .of (s_ixL (s := rowS (some h.size) x3.length) (by kernel_rfl) hx)) fun fr t H => ?_
     refine at_l1 87 _ _ H (fun fr => .of (s_ld (by kernel_rfl) (row_ld1 encB (HH.row A 1 rfl er4) hq4 (o := 0) rfl))) fun fr t H => ?_
     refine at_es 2 [(14, .int .i64 x11), (15, .bool x14)] 1 H (fun _ => id) fun fr H => ?_
     refine at_el 1 [(88, .bool x14)] H (fun _ => id) fun fr H => ?_
     refine aw_if 88 H hm (fun hb hm H => ?_) fun hb hm H => ?_
     ·refine aw_rg 5 ?_
      refine at_sl 2 [(89, rowV r5 x10.length), (90, .int .i64 x11)] H fun fr H => ?_
      obtain ⟨h14, e5, A⟩ := A.pL 3 [.int .i64 x11]
      refine at_ln 91 (rowV (some h13.size) (([x11] : List Int).length)) e5 H fun fr t H => ?_
      obtain ⟨hb, hm⟩ := need_some hm
      obtain ⟨r8, h15, hx, A1⟩ := HH.appO (encI .i64) (by decide) A 1 (xs := x10) (ys := ([x11] : List Int)) rfl (row_first A 0 rfl (n := ([x11] : List Int).length) (z := 1) rfl (by decide)) rfl rfl hb
      replace A : HH g h15 [.lst (some h13.size) 3 ([.int .i64 x11]), .lst r8 3 (lst (eI .i64) (x10 ++ ([x11] : List Int))), _] F := A1
      replace A := A.k2 1 2
      refine at_l1 92 _ _ H (fun fr => .of (s_app (s := rowS r5 x10.length) (by kernel_rfl) hx)) fun fr t H => ?_
      refine at_se 1 [(13, rowV r8 ((x10 ++ ([x11] : List Int)).length)), (81, rowV (some h.size) x3.length), (82, .int .i64 (x3.length : Int)), (83, .int .i64 x11)] H fun fr H => ?_
      refine at_nil ?_
      exact .inl ⟨_, rfl, injA hm, _, H.ls, A⟩
     refine aw_sk ?_
     exact .inl ⟨_, rfl, injA hm, _, H.ls, A⟩
    clear ho
    clear A
    intro e fr h16 hQ
    rcases hQ with ⟨x13, rfl, rfl, r7, H, A⟩ | hF
    ·show AW _ _ _ _ _ _ _
     refine aw_rg 2 ?_
     refine at_se 2 [(13, rowV r7 x13.length), (81, rowV (some h.size) x3.length), (82, .int .i64 (x3.length : Int)), (83, .int .i64 (IntKind.i64.wrap (x11 + (1 : Int))))] H fun fr H => ?_
     refine at_nil ?_
     exact nx hm ⟨_, _, rfl, _, H.ls, A⟩
    exact hF.elim
   refine aw_exit (i := 3) (by kernel_rfl) ?_
   replace A := A.d1
   exact nr hm fun e => .inl ⟨_, rfl, e, _, H.ls, A⟩
  clear ho
  clear A
  intro e fr h17 hQ
  rcases hQ with ⟨x12, rfl, rfl, r6, H, A⟩ | hF
  ·show AW _ _ _ _ _ _ _
   refine aw_sr 2 ?_
   refine at_el 2 [(8, rowV r6 x12.length)] H (fun _ => id) fun fr H => ?_
   refine aw_rt ?_
   obtain rfl := injA hm
   refine ⟨.inl rfl, rowV r6 x12.length, rH H, ?_⟩
   obtain ⟨h18, hz0, A1⟩ := (A.front 0 rfl).frz (n := x12.length) (z := 1) ((encI .i64).lenL _) (by decide)
   replace A : HH g h18 [] F := A1
   refine ⟨vs (eI .i64) x12, h18, by first | rfl | (simp only [fz3T, fz3A, fz3B, fz3R, fz2A, fz2R, fz2V, fz2I, fz2B, fz2S, fz2N, fzL0, fzL1, fz1I, fz1B, fz1S, fz1V, fz1N, Option.map_some, hz0] <;> rfl), ?_⟩
   exact ⟨rfl, A⟩
  exact hF.elim
 exact hF.elim
noncomputable def M_auto_Auto_stops (p0 : S_auto_Auto) (p1 : List Int) (p2 : Bool) (p3 : Bool) : Option (Bool) :=
 (M_auto_Auto_close p0 p1 p2 p3).bind fun x1 => (M_slices_Contains_int_int x1 (0 : Int)).bind fun x2 => some x2
theorem ok_auto_Auto_stops {p0 p1 p2 p3 q0} (hm : M_auto_Auto_stops p0 p1 p2 p3 = some q0) (A : HH g h [] F) (hc : canL (cfg.still 50) av = [.vptr [vs e_S_auto_state p0.l_, .int .i64 p0.first_], vs (eI .i64) p1, .bool p2, .bool p3] := by kernel_rfl) : ∃ v h', Runs cfg g h 50 av v h' ∧ v = .bool q0 ∧ HH g h' [] F := by
 refine rq1 15 [.tmp 8] hc ?_
 clear hc
 unfold M_auto_Auto_stops at hm
 refine bg 15 [(0, .vptr [vs e_S_auto_state p0.l_, .int .i64 p0.first_]), (1, vs (eI .i64) p1), (2, .bool p2), (3, .bool p3)] fun fr H => ?_
 refine aw_sr 1 ?_
 refine at_es 1 [] 7 H (fun _ => id) fun fr H => ?_
 obtain ⟨x1, hx, hm⟩ := bind_some hm
 obtain ⟨v1, h1, hr, rfl, A1⟩ := ok_auto_Auto_close (av := [.vptr [vs e_S_auto_state p0.l_, .int .i64 p0.first_], vs (eI .i64) p1, .bool p2, .bool p3]) hx (A.cut 0)
 replace A := A.g00 A1
 refine at_gc1 4 [] 13 hr H fun fr t H => ?_
 obtain ⟨x2, hx, hm⟩ := bind_some hm
 obtain ⟨v1, h2, hr, rfl, A1⟩ := ok_slices_Contains_int_int (av := [vs (eI .i64) x1, .int .i64 0]) hx (A.cut 0)
 replace A := A.g00 A1
 refine at_lc1 14 hr H fun fr t H => ?_
 refine at_el 1 [(8, .bool x2)] H (fun _ => id) fun fr H => ?_
 refine aw_rt ?_
 obtain rfl := injA hm
 exact ⟨.inl rfl, _, rH H, rfl, A⟩
noncomputable def M_auto_Auto_Step_L0 (p0 : S_auto_Auto) (p1 : List Int) (p2 : Int) (s : (List Int) × Int) : Option (((List Int) × Int) ⊕ (((List Int)))) :=
 match s with
 | (x1, x2) => iteB (decide (x2 < (p1.length : Int))) (((ixV p1 x2).bind fun x5 => (ixV p0.l_ x5).bind fun x6 => (iteB (x6.kind_ == (1 : Int)) ((M_class_Set_Has x6.set_ p2).bind fun x8 => some x8) (some false) : Option (Bool)).bind fun x7 => iteB x7 (need (okN 8 (x1.length + ([x6.a_] : List Int).length)) <| some (x1 ++ ([x6.a_] : List Int))) (some x1) : Option (((List Int)))).bind fun x4 => some (.inl (x4, IntKind.i64.wrap (x2 + (1 : Int))))) (some (.inr x1))
noncomputable def M_auto_Auto_Step (p0 : S_auto_Auto) (p1 : List Int) (p2 : Int) : Option ((List Int)) :=
 (loop (M_auto_Auto_Step_L0 p0 p1 p2) (([] : List Int), (0 : Int))).bind fun x3 => (M_auto_Auto_close_sPVOBB p0 x3 false false).bind fun x9 => some x9
theorem ok_auto_Auto_Step {p0 p1 p2 q0} (hm : M_auto_Auto_Step p0 p1 p2 = some q0) (A : HH g h [] F) (hc : canL (cfg.still 29) av = [.vptr [vs e_S_auto_state p0.l_, .int .i64 p0.first_], vs (eI .i64) p1, .int .u8 p2] := by kernel_rfl) : ∃ v h', Runs cfg g h 29 av v h' ∧ v = vs (eI .i64) q0 ∧ HH g h' [] F := by
 refine rq1 42 [.tmp 6] hc ?_
 clear hc
 unfold M_auto_Auto_Step at hm
 refine bg 42 [(0, .vptr [vs e_S_auto_state p0.l_, .int .i64 p0.first_]), (1, vs (eI .i64) p1), (2, .int .u8 p2)] fun fr H => ?_
 refine aw_sr 1 ?_
 refine at_es 1 [] 1 H (fun _ => id) fun fr H => ?_
 refine at_el 1 [(7, .slice none 0)] H (fun _ => id) fun fr H => ?_
 refine aw_sq ?_
 refine aw_sr 3 ?_
 refine at_el 3 [(11, vs (eI .i64) p1), (12, .int .i64 (p1.length : Int)), (13, .int .i64 0)] H (fun _ => id) fun fr H => ?_
 refine aw_block (id := 0) (by kernel_rfl) ?_
 replace A : HH g h [.lst none 3 (lst (eI .i64) ([] : List Int))] F := A.nilL 3
 obtain ⟨o1, ho, hm⟩ := bind_some hm
 refine aw_mono (Q' := fun e fr' h' => (∃ x3, e = .exit 0 ∧ x3 = o1 ∧ ∃ r2, Has fr' 42 [(0, .vptr [vs e_S_auto_state p0.l_, .int .i64 p0.first_]), (7, rowV r2 x3.length)] ∧ HH g h' [.lst r2 3 (lst (eI .i64) x3)] F) ∨ False) ?_ ?_
 ·refine aw_loop (by kernel_rfl) (fun (s : (List Int) × Int) fr' h' => ∃ x1 x2, (x1, x2) = s ∧ ∃ r1, Has fr' 42 [(0, .vptr [vs e_S_auto_state p0.l_, .int .i64 p0.first_]), (2, .int .u8 p2), (7, rowV r1 x1.length), (11, vs (eI .i64) p1), (12, .int .i64 (p1.length : Int)), (13, .int .i64 x2)] ∧ HH g h' [.lst r1 3 (lst (eI .i64) x1)] F) ho ⟨_, _, rfl, none, H.ls, A⟩ ?_
  clear ho hm H A
  intro s q fr h1 hI hm
  obtain ⟨x1, x2, rfl, r1, H, A⟩ := hI
  unfold M_auto_Auto_Step_L0 at hm
  refine aw_sr 1 ?_
  refine at_el 1 [(14, .bool (decide (x2 < (p1.length : Int))))] H (fun _ => id) fun fr H => ?_
  refine aw_sq ?_
  refine aw_if 14 H hm (fun hb hm H => ?_) fun hb hm H => ?_
  ·refine aw_kn id ?_
   refine aw_sq ?_
   obtain ⟨o2, ho, hm⟩ := bind_some hm
   refine aw_mono (Q' := fun e fr' h' => (∃ x4, e = .normal ∧ x4 = o2 ∧ ∃ r3, Has fr' 42 [(0, .vptr [vs e_S_auto_state p0.l_, .int .i64 p0.first_]), (2, .int .u8 p2), (7, rowV r3 x4.length), (11, vs (eI .i64) p1), (12, .int .i64 (p1.length : Int)), (13, .int .i64 x2)] ∧ HH g h' [.lst r3 3 (lst (eI .i64) x4)] F) ∨ False) ?_ ?_
   ·replace hm := ho
    clear ho
    refine aw_block (id := 1) (by kernel_rfl) ?_
    refine aw_sr 3 ?_
    obtain ⟨x5, hx, hm⟩ := bind_some hm
    refine at_l1 15 (.vptr [.int .i64 x5]) h1 H (fun fr => .of (s_ixV (e := (eI .i64)) (x := x5) (encI .i64) (by decide) (by kernel_rfl) hx)) fun fr t H => ?_
    refine at_l1 16 (.int .i64 x5) h1 H (fun fr => .of (s_lv (by kernel_rfl))) fun fr t H => ?_
    refine at_es 1 [(9, .int .i64 x5)] 9 H (fun _ => id) fun fr H => ?_
    refine at_g1 3 [] 20 (vs e_S_auto_state p0.l_) h1 H (fun fr => .of (s_lv (by kernel_rfl))) fun fr t H => ?_
    obtain ⟨x6, hx, hm⟩ := bind_some hm
    refine at_g1 1 [] 22 (.vptr (e_S_auto_state x6)) h1 H (fun fr => .of (s_ixV (e := e_S_auto_state) (x := x6) enc_S_auto_state (by decide) (by kernel_rfl) hx)) fun fr t H => ?_
    refine at_l1 23 (.agg (e_S_auto_state x6)) h1 H (fun fr => .of (s_lv (by kernel_rfl))) fun fr t H => ?_
    obtain ⟨h2, e1, A⟩ := A.pu (.cells none 2 [.int .i64 0, .int .i64 0, .int .i64 0, .int .u64 0, .int .u64 0, .int .u64 0, .int .u64 0])
    refine at_ln 10 (.ptr (some (h1.size, 0))) e1 H fun fr t H => ?_
    obtain ⟨h3, hx, A⟩ := A.s0 0 [.int .i64 x6.kind_, .int .i64 x6.a_, .int .i64 x6.b_, .int .u64 x6.set_.w0, .int .u64 x6.set_.w1, .int .u64 x6.set_.w2, .int .u64 x6.set_.w3] [_, _, _, _, _, _, _]
    refine at_lS hx H fun fr t H => ?_
    refine at_ns 9 id ?_
    refine at_gl 1 [] 25 0 0 A H fun fr t H => ?_
    refine at_sl 2 [(27, .bool (x6.kind_ == (1 : Int)))] H fun fr H => ?_
    obtain ⟨x7, ho, hm⟩ := bind_some hm
    refine at_cl 5 (fun fr' h' => Has fr' 42 [(0, .vptr [vs e_S_auto_state p0.l_, .int .i64 p0.first_]), (2, .int .u8 p2), (7, rowV r1 x1.length), (10, .ptr (some (h1.size, 0))), (11, vs (eI .i64) p1), (12, .int .i64 (p1.length : Int)), (13, .int .i64 x2), (32, .bool x7)] ∧ HH g h' [.obj h1.size (.cells none 2 (e_S_auto_state x6)), .lst r1 3 (lst (eI .i64) x1)] F) ?_ ?_
    ·rcases iteB_some ho with ⟨hb, hm⟩ | ⟨hb, hm⟩
     ·replace H := H.kn 27 hb
      refine at_g1 1 [] 29 _ _ H (fun fr => .of (s_ldA (by kernel_rfl) (A.ldA 0 rfl (o := 3) (n := 4) ⟨Nat.le_of_ble_eq_true rfl, rfl⟩))) fun fr t H => ?_
      obtain ⟨x8, hx, hm⟩ := bind_some hm
      obtain ⟨v1, h5, hr, rfl, A1⟩ := ok_class_Set_Has (av := [.agg [.int .u64 x6.set_.w0, .int .u64 x6.set_.w1, .int .u64 x6.set_.w2, .int .u64 x6.set_.w3], .int .u8 p2]) hx (A.cut 0)
      replace A := A.g00 A1
      refine at_gc1 1 [] 31 hr H fun fr t H => ?_
      refine at_sl 1 [(32, .bool x8)] H fun fr H => ?_
      obtain rfl := injA hm
      exact at_nil ⟨H.ls, A⟩
     replace H := H.kn 27 hb
     refine at_sl 5 [(32, .bool false)] H fun fr H => ?_
     obtain rfl := injA hm
     exact at_nil ⟨H.ls, A⟩
    clear A
    intro t fr h4 hK
    obtain ⟨H, A⟩ := hK
    refine at_nl id ?_
    refine aw_if 32 H hm (fun hb hm H => ?_) fun hb hm H => ?_
    ·refine aw_rg 6 ?_
     refine at_gl 2 [(33, rowV r1 x1.length)] 35 0 1 A H fun fr t H => ?_
     obtain ⟨h6, e2, A⟩ := A.pL 3 [.int .i64 x6.a_]
     refine at_ln 36 (rowV (some h4.size) (([x6.a_] : List Int).length)) e2 H fun fr t H => ?_
     obtain ⟨hb, hm⟩ := need_some hm
     obtain ⟨r4, h7, hx, A1⟩ := HH.appO (encI .i64) (by decide) A 2 (xs := x1) (ys := ([x6.a_] : List Int)) rfl (row_first A 0 rfl (n := ([x6.a_] : List Int).length) (z := 1) rfl (by decide)) rfl rfl hb
     replace A : HH g h7 [.lst (some h4.size) 3 ([.int .i64 x6.a_]), _, .lst r4 3 (lst (eI .i64) (x1 ++ ([x6.a_] : List Int)))] F := A1
     replace A := A.k2 1 2
     refine at_l1 37 _ _ H (fun fr => .of (s_app (s := rowS r1 x1.length) (by kernel_rfl) hx)) fun fr t H => ?_
     refine at_se 1 [(0, .vptr [vs e_S_auto_state p0.l_, .int .i64 p0.first_]), (2, .int .u8 p2), (7, rowV r4 ((x1 ++ ([x6.a_] : List Int)).length)), (11, vs (eI .i64) p1), (12, .int .i64 (p1.length : Int)), (13, .int .i64 x2)] H fun fr H => ?_
     refine at_nil ?_
     replace A := A.k1 1
     exact .inl ⟨_, rfl, injA hm, _, H.ls, A⟩
    refine aw_sk ?_
    replace A := A.k1 1
    exact .inl ⟨_, rfl, injA hm, _, H.ls, A⟩
   clear ho
   clear A
   intro e fr h8 hQ
   rcases hQ with ⟨x4, rfl, rfl, r3, H, A⟩ | hF
   ·show AW _ _ _ _ _ _ _
    refine aw_rg 2 ?_
    refine at_se 2 [(0, .vptr [vs e_S_auto_state p0.l_, .int .i64 p0.first_]), (2, .int .u8 p2), (7, rowV r3 x4.length), (11, vs (eI .i64) p1), (12, .int .i64 (p1.length : Int)), (13, .int .i64 (IntKind.i64.wrap (x2 + (1 : Int))))] H fun fr H => ?_
    refine at_nil ?_
    exact nx hm ⟨_, _, rfl, _, H.ls, A⟩
   exact hF.elim
  refine aw_exit (i := 0) (by kernel_rfl) ?_
  exact nr hm fun e => .inl ⟨_, rfl, e, _, H.ls, A⟩
 clear ho
 clear A
 intro e fr h9 hQ
 rcases hQ with ⟨x3, rfl, rfl, r2, H, A⟩ | hF
 ·show AW _ _ _ _ _ _ _
  refine aw_sr 4 ?_
  obtain ⟨x9, hx, hm⟩ := bind_some hm
  obtain ⟨v1, h10, hr, rfl, A1⟩ := ok_auto_Auto_close_sPVOBB (av := [.vptr [vs e_S_auto_state p0.l_, .int .i64 p0.first_], rowV r2 x3.length, .bool false, .bool false]) hx (A.cut 1)
  replace A := A.g11 A1
  refine at_gc1 2 [] 41 hr H fun fr t H => ?_
  refine at_el 1 [(6, vs (eI .i64) x9)] H (fun _ => id) fun fr H => ?_
  refine aw_rt ?_
  obtain rfl := injA hm
  refine ⟨.inl rfl, vs (eI .i64) x9, rH H, ?_⟩
  replace A := A.d0
  exact ⟨rfl, A⟩
 exact hF.elim
noncomputable def M_auto_Auto_Ends_L0 (p0 : S_auto_Auto) (p1 : List UInt8) (s : (List Int) × (List Int) × Int) : Option (((List Int) × (List Int) × Int) ⊕ (((List Int)))) :=
 match s with
 | (x2, x3, x4) => iteB (decide ((x3.length : Int) > (0 : Int))) (((M_auto_Auto_stops p0 x3 (x4 == (0 : Int)) (x4 == (p1.length : Int))).bind fun x7 => iteB x7 (need (okN 8 (x2.length + ([x4] : List Int).length)) <| some (x2 ++ ([x4] : List Int))) (some x2) : Option (((List Int)))).bind fun x6 => iteB (x4 == (p1.length : Int)) (some (.inr x6)) ((ixS p1 x4).bind fun x8 => (M_auto_Auto_Step p0 x3 x8).bind fun x9 => some (.inl (x6, x9, IntKind.i64.wrap (x4 + (1 : Int)))))) (some (.inr x2))
noncomputable def M_auto_Auto_Ends (p0 : S_auto_Auto) (p1 : List UInt8) (p2 : Int) : Option ((List Int)) :=
 iteB ((decide (p2 < (0 : Int))) || (decide (p2 > (p1.length : Int)))) (some ([] : List Int)) ((M_auto_Auto_Start p0 (p2 == (0 : Int))).bind fun x1 => (loop (M_auto_Auto_Ends_L0 p0 p1) (([] : List Int), x1, p2)).bind fun x5 => some x5)
theorem ok_auto_Auto_Ends {p0 p1 p2 q0} (hm : M_auto_Auto_Ends p0 p1 p2 = some q0) (A : HH g h [] F) (hc : canL (cfg.still 24) av = [.vptr [vs e_S_auto_state p0.l_, .int .i64 p0.first_], .str p1, .int .i64 p2] := by kernel_rfl) : ∃ v h', Runs cfg g h 24 av v h' ∧ ∃ (rq0 : Option Nat), v = rowV rq0 q0.length ∧ HH g h' [.lst rq0 3 (lst (eI .i64) q0)] F := by
 refine rq1 52 [.tmp 6] hc ?_
 clear hc
 unfold M_auto_Auto_Ends at hm
 refine bg 52 [(0, .vptr [vs e_S_auto_state p0.l_, .int .i64 p0.first_]), (1, .str p1), (2, .int .i64 p2)] fun fr H => ?_
 refine aw_sr 1 ?_
 refine at_el 1 [] H (fun _ => id) fun fr H => ?_
 refine aw_sq ?_
 refine aw_sr 8 ?_
 refine at_sl 3 [(12, .bool (decide (p2 < (0 : Int))))] H fun fr H => ?_
 refine at_cl 5 (fun fr' h' => h = h' ∧ Has fr' 52 [(0, .vptr [vs e_S_auto_state p0.l_, .int .i64 p0.first_]), (1, .str p1), (2, .int .i64 p2), (17, .bool ((decide (p2 < (0 : Int))) || (decide (p2 > (p1.length : Int)))))]) ?_ ?_
 ·cases hb : (decide (p2 < (0 : Int)) : Bool) with
  | true =>
   replace H := H.kn 12 hb
   refine at_sl 5 [(17, .bool true)] H fun fr H => ?_
   exact at_zb H hb
  | false =>
   replace H := H.kn 12 hb
   refine at_sl 5 [(17, .bool (decide (p2 > (p1.length : Int))))] H fun fr H => ?_
   exact at_zb H hb
 intro t fr h' hK
 obtain ⟨e, H⟩ := hK
 subst e
 refine at_nl id ?_
 refine aw_if 17 H hm (fun hb hm H => ?_) fun hb hm H => ?_
 ·refine aw_sr 1 ?_
  refine at_el 1 [(6, .slice none 0)] H (fun _ => id) fun fr H => ?_
  refine aw_rt ?_
  obtain rfl := injA hm
  refine ⟨.inl rfl, .slice none 0, rH H, ?_⟩
  replace A : HH g h [.lst none 3 (lst (eI .i64) ([] : List Int))] F := A.nilL 3
  exact ⟨none, rfl, A⟩
 refine aw_ks 1 id ?_
 refine at_es 1 [(7, .slice none 0)] 5 H (fun _ => id) fun fr H => ?_
 obtain ⟨x1, hx, hm⟩ := bind_some hm
 obtain ⟨v1, h1, hr, rfl, A1⟩ := ok_auto_Auto_Start (av := [.vptr [vs e_S_auto_state p0.l_, .int .i64 p0.first_], .bool (p2 == (0 : Int))]) hx (A.cut 0)
 replace A := A.g00 A1
 refine at_gc1 3 [] 21 hr H fun fr t H => ?_
 refine at_el 1 [(8, vs (eI .i64) x1)] H (fun _ => id) fun fr H => ?_
 refine aw_sq ?_
 refine aw_sr 2 ?_
 refine at_el 2 [(9, .int .i64 p2)] H (fun _ => id) fun fr H => ?_
 refine aw_block (id := 0) (by kernel_rfl) ?_
 replace A : HH g h1 [.lst none 3 (lst (eI .i64) ([] : List Int))] F := A.nilL 3
 obtain ⟨o1, ho, hm⟩ := bind_some hm
 refine aw_mono (Q' := fun e fr' h' => (∃ x5, e = .exit 0 ∧ x5 = o1 ∧ ∃ r2, Has fr' 52 [(7, rowV r2 x5.length)] ∧ HH g h' [.lst r2 3 (lst (eI .i64) x5)] F) ∨ False) ?_ ?_
 ·refine aw_loop (by kernel_rfl) (fun (s : (List Int) × (List Int) × Int) fr' h' => ∃ x2 x3 x4, (x2, x3, x4) = s ∧ ∃ r1, Has fr' 52 [(0, .vptr [vs e_S_auto_state p0.l_, .int .i64 p0.first_]), (1, .str p1), (7, rowV r1 x2.length), (8, vs (eI .i64) x3), (9, .int .i64 x4)] ∧ HH g h' [.lst r1 3 (lst (eI .i64) x2)] F) ho ⟨_, _, _, rfl, none, H.ls, A⟩ ?_
  clear ho hm H A
  intro s q fr h2 hI hm
  obtain ⟨x2, x3, x4, rfl, r1, H, A⟩ := hI
  unfold M_auto_Auto_Ends_L0 at hm
  refine aw_sq ?_
  refine aw_sr 3 ?_
  refine at_el 3 [(25, .bool (decide ((x3.length : Int) > (0 : Int))))] H (fun _ => id) fun fr H => ?_
  refine aw_if 25 H hm (fun hb hm H => ?_) fun hb hm H => ?_
  ·refine aw_kn id ?_
   refine aw_sq ?_
   refine aw_block (id := 1) (by kernel_rfl) ?_
   refine aw_sq ?_
   obtain ⟨o2, ho, hm⟩ := bind_some hm
   refine aw_mono (Q' := fun e fr' h' => (∃ x6, e = .normal ∧ x6 = o2 ∧ ∃ r3, Has fr' 52 [(0, .vptr [vs e_S_auto_state p0.l_, .int .i64 p0.first_]), (1, .str p1), (7, rowV r3 x6.length), (8, vs (eI .i64) x3), (9, .int .i64 x4)] ∧ HH g h' [.lst r3 3 (lst (eI .i64) x6)] F) ∨ False) ?_ ?_
   ·replace hm := ho
    clear ho
    refine aw_sr 9 ?_
    obtain ⟨x7, hx, hm⟩ := bind_some hm
    obtain ⟨v1, h3, hr, rfl, A1⟩ := ok_auto_Auto_stops (av := [.vptr [vs e_S_auto_state p0.l_, .int .i64 p0.first_], vs (eI .i64) x3, .bool (x4 == (0 : Int)), .bool (x4 == (p1.length : Int))]) hx (A.cut 0)
    replace A := A.g00 A1
    refine at_gc1 8 [] 36 hr H fun fr t H => ?_
    refine at_nl id ?_
    refine aw_if 36 H hm (fun hb hm H => ?_) fun hb hm H => ?_
    ·refine aw_rg 5 ?_
     refine at_sl 2 [(37, rowV r1 x2.length), (38, .int .i64 x4)] H fun fr H => ?_
     obtain ⟨h4, e1, A⟩ := A.pL 3 [.int .i64 x4]
     refine at_ln 39 (rowV (some h3.size) (([x4] : List Int).length)) e1 H fun fr t H => ?_
     obtain ⟨hb, hm⟩ := need_some hm
     obtain ⟨r4, h5, hx, A1⟩ := HH.appO (encI .i64) (by decide) A 1 (xs := x2) (ys := ([x4] : List Int)) rfl (row_first A 0 rfl (n := ([x4] : List Int).length) (z := 1) rfl (by decide)) rfl rfl hb
     replace A : HH g h5 [.lst (some h3.size) 3 ([.int .i64 x4]), .lst r4 3 (lst (eI .i64) (x2 ++ ([x4] : List Int)))] F := A1
     replace A := A.k1 1
     refine at_l1 40 _ _ H (fun fr => .of (s_app (s := rowS r1 x2.length) (by kernel_rfl) hx)) fun fr t H => ?_
     refine at_se 1 [(0, .vptr [vs e_S_auto_state p0.l_, .int .i64 p0.first_]), (1, .str p1), (7, rowV r4 ((x2 ++ ([x4] : List Int)).length)), (8, vs (eI .i64) x3), (9, .int .i64 x4)] H fun fr H => ?_
     refine at_nil ?_
     exact .inl ⟨_, rfl, injA hm, _, H.ls, A⟩
    refine aw_sk ?_
    exact .inl ⟨_, rfl, injA hm, _, H.ls, A⟩
   clear ho
   clear A
   intro e fr h6 hQ
   rcases hQ with ⟨x6, rfl, rfl, r3, H, A⟩ | hF
   ·show AW _ _ _ _ _ _ _
    refine aw_sq ?_
    refine aw_sr 4 ?_
    refine at_el 4 [(44, .bool (x4 == (p1.length : Int)))] H (fun _ => id) fun fr H => ?_
    refine aw_if 44 H hm (fun hb hm H => ?_) fun hb hm H => ?_
    ·refine aw_exit (i := 0) (by kernel_rfl) ?_
     exact nr hm fun e => .inl ⟨_, rfl, e, _, H.ls, A⟩
    refine aw_kr 7 id ?_
    obtain ⟨x8, hx, hm⟩ := bind_some hm
    refine at_g1 4 [(45, .vptr [vs e_S_auto_state p0.l_, .int .i64 p0.first_]), (46, vs (eI .i64) x3)] 49 (.int .u8 x8) h6 H (fun fr => .of (s_ixS (by kernel_rfl) hx)) fun fr t H => ?_
    obtain ⟨x9, hx, hm⟩ := bind_some hm
    obtain ⟨v1, h7, hr, rfl, A1⟩ := ok_auto_Auto_Step (av := [.vptr [vs e_S_auto_state p0.l_, .int .i64 p0.first_], vs (eI .i64) x3, .int .u8 x8]) hx (A.cut 0)
    replace A := A.g00 A1
    refine at_lc1 50 hr H fun fr t H => ?_
    refine at_se 1 [(0, .vptr [vs e_S_auto_state p0.l_, .int .i64 p0.first_]), (1, .str p1), (7, rowV r3 x6.length), (8, vs (eI .i64) x9), (9, .int .i64 x4)] H fun fr H => ?_
    refine at_nr 3 id ?_
    refine at_se 3 [(0, .vptr [vs e_S_auto_state p0.l_, .int .i64 p0.first_]), (1, .str p1), (7, rowV r3 x6.length), (8, vs (eI .i64) x9), (9, .int .i64 (IntKind.i64.wrap (x4 + (1 : Int))))] H fun fr H => ?_
    refine at_nil ?_
    exact nx hm ⟨_, _, _, rfl, _, H.ls, A⟩
   exact hF.elim
  refine aw_exit (i := 0) (by kernel_rfl) ?_
  exact nr hm fun e => .inl ⟨_, rfl, e, _, H.ls, A⟩
 clear ho
 clear A
 intro e fr h8 hQ
 rcases hQ with ⟨x5, rfl, rfl, r2, H, A⟩ | hF
 ·show AW _ _ _ _ _ _ _
  refine aw_sr 2 ?_
  refine at_el 2 [(6, rowV r2 x5.length)] H (fun _ => id) fun fr H => ?_
  refine aw_rt ?_
  obtain rfl := injA hm
  exact ⟨.inl rfl, _, rH H, _, rfl, A⟩
 exact hF.elim
noncomputable def M_slices_IndexFunc_byte_byte_sOFPPPOOOe0OP_L0 (p0 : List UInt8) (p1_10_0 : S_dfa_maker) (p1_11 : Int) (s : Int) : Option ((Int) ⊕ ((Unit) ⊕ (Int))) :=
 match s with
 | x1 => iteB (decide (x1 < (p0.length : Int))) ((ixV p0 x1).bind fun x3 => (M_dfa_maker_split_1_sIPPPOOOOOP (x3.toNat : Int) (⟨p1_10_0.a_, p1_10_0.d_, p1_10_0.most_, p0, p1_10_0.seen_, p1_10_0.todo_⟩ : S_dfa_maker) p1_11).bind fun x4 => iteB x4 (some (.inr (.inr x1))) (some (.inl (IntKind.i64.wrap (x1 + (1 : Int)))))) (some (.inr (.inl ())))
noncomputable def M_slices_IndexFunc_byte_byte_sOFPPPOOOe0OP (p0 : List UInt8) (p1_10_0 : S_dfa_maker) (p1_11 : Int) : Option (Int) :=
 (loop (M_slices_IndexFunc_byte_byte_sOFPPPOOOe0OP_L0 p0 p1_10_0 p1_11) (0 : Int)).bind fun o1 => (match o1 with | .inl _ => some (-1 : Int) | .inr x2 => some x2)
theorem ok_slices_IndexFunc_byte_byte_sOFPPPOOOe0OP {p0 p1_10_0 p1_11 rp0 bp1_10 bp1_10_0 bp1_10_0_1 rp1_10_0_1_2 rp1_10_0_1_3 rp1_10_0_1_4 bp1_10_0_4 rp1_10_0_5 bp1_11 q0} (hm : M_slices_IndexFunc_byte_byte_sOFPPPOOOe0OP p0 p1_10_0 p1_11 = some q0) (A : HH g h [.lst rp0 5 (lst eY p0), .obj bp1_10 (.cells none 2 [.ptr (some (bp1_10_0, 0))]), .obj bp1_10_0 (.cells none 2 [.vptr [vs e_S_auto_state p1_10_0.a_.l_, .int .i64 p1_10_0.a_.first_], .ptr (some (bp1_10_0_1, 0)), .int .i64 p1_10_0.most_, rowV rp0 p0.length, .map (some bp1_10_0_4), rowV rp1_10_0_5 p1_10_0.todo_.length]), .obj bp1_10_0_1 (.cells none 2 (big 256 (AVal.int .u8) p1_10_0.d_.column_ ++ [.int .i64 p1_10_0.d_.columns_, rowV rp1_10_0_1_2 p1_10_0.d_.next_.length, rowV rp1_10_0_1_3 p1_10_0.d_.ends_.length, rowV rp1_10_0_1_4 p1_10_0.d_.last_.length, .int .i32 p1_10_0.d_.first_, .int .i32 p1_10_0.d_.later_, .bool p1_10_0.d_.empty_])), .lst rp1_10_0_1_2 21 (lst (eI .i32) p1_10_0.d_.next_), .lst rp1_10_0_1_3 4 (lst eB p1_10_0.d_.ends_), .lst rp1_10_0_1_4 4 (lst eB p1_10_0.d_.last_), .obj bp1_10_0_4 (.map 2 (encM (fun k : List UInt8 => .str k) (fun v : Int => .int .i32 v) p1_10_0.seen_)), .lst rp1_10_0_5 54 (lst (eL (eI .i64)) p1_10_0.todo_), .obj bp1_11 (.cells none 2 [.int .i64 p1_11])] F) (hc : canL (cfg.still 70) av = [rowV rp0 p0.length, .func (.func 71) [] [.ptr (some (bp1_10, 0)), .ptr (some (bp1_11, 0))]] := by kernel_rfl) : ∃ v h', Runs cfg g h 70 av v h' ∧ v = .int .i64 q0 ∧ HH g h' [.lst rp0 5 (lst eY p0), .obj bp1_10 (.cells none 2 [.ptr (some (bp1_10_0, 0))]), .obj bp1_10_0 (.cells none 2 [.vptr [vs e_S_auto_state p1_10_0.a_.l_, .int .i64 p1_10_0.a_.first_], .ptr (some (bp1_10_0_1, 0)), .int .i64 p1_10_0.most_, rowV rp0 p0.length, .map (some bp1_10_0_4), rowV rp1_10_0_5 p1_10_0.todo_.length]), .obj bp1_10_0_1 (.cells none 2 (big 256 (AVal.int .u8) p1_10_0.d_.column_ ++ [.int .i64 p1_10_0.d_.columns_, rowV rp1_10_0_1_2 p1_10_0.d_.next_.length, rowV rp1_10_0_1_3 p1_10_0.d_.ends_.length, rowV rp1_10_0_1_4 p1_10_0.d_.last_.length, .int .i32 p1_10_0.d_.first_, .int .i32 p1_10_0.d_.later_, .bool p1_10_0.d_.empty_])), .lst rp1_10_0_1_2 21 (lst (eI .i32) p1_10_0.d_.next_), .lst rp1_10_0_1_3 4 (lst eB p1_10_0.d_.ends_), .lst rp1_10_0_1_4 4 (lst eB p1_10_0.d_.last_), .obj bp1_10_0_4 (.map 2 (encM (fun k : List UInt8 => .str k) (fun v : Int => .int .i32 v) p1_10_0.seen_)), .lst rp1_10_0_5 54 (lst (eL (eI .i64)) p1_10_0.todo_), .obj bp1_11 (.cells none 2 [.int .i64 p1_11])] F := by
 refine rq1 19 [.tmp 4] hc ?_
 clear hc
 unfold M_slices_IndexFunc_byte_byte_sOFPPPOOOe0OP at hm
 refine bg 19 [(0, rowV rp0 p0.length), (1, .func (.func 71) [] [.ptr (some (bp1_10, 0)), .ptr (some (bp1_11, 0))])] fun fr H => ?_
 refine aw_sr 1 ?_
 refine at_el 1 [] H (fun _ => id) fun fr H => ?_
 refine aw_sq ?_
 refine aw_sr 3 ?_
 refine at_el 3 [(7, .int .i64 (p0.length : Int)), (8, .int .i64 0)] H (fun _ => id) fun fr H => ?_
 refine aw_block (id := 0) (by kernel_rfl) ?_
 obtain ⟨o1, ho, hm⟩ := bind_some hm
 refine aw_mono (Q' := fun e fr' h' => (e = .exit 0 ∧ .inl () = o1 ∧ Has fr' 19 [] ∧ HH g h' [.lst rp0 5 (lst eY p0), .obj bp1_10 (.cells none 2 [.ptr (some (bp1_10_0, 0))]), .obj bp1_10_0 (.cells none 2 [.vptr [vs e_S_auto_state p1_10_0.a_.l_, .int .i64 p1_10_0.a_.first_], .ptr (some (bp1_10_0_1, 0)), .int .i64 p1_10_0.most_, rowV rp0 p0.length, .map (some bp1_10_0_4), rowV rp1_10_0_5 p1_10_0.todo_.length]), .obj bp1_10_0_1 (.cells none 2 (big 256 (AVal.int .u8) p1_10_0.d_.column_ ++ [.int .i64 p1_10_0.d_.columns_, rowV rp1_10_0_1_2 p1_10_0.d_.next_.length, rowV rp1_10_0_1_3 p1_10_0.d_.ends_.length, rowV rp1_10_0_1_4 p1_10_0.d_.last_.length, .int .i32 p1_10_0.d_.first_, .int .i32 p1_10_0.d_.later_, .bool p1_10_0.d_.empty_])), .lst rp1_10_0_1_2 21 (lst (eI .i32) p1_10_0.d_.next_), .lst rp1_10_0_1_3 4 (lst eB p1_10_0.d_.ends_), .lst rp1_10_0_1_4 4 (lst eB p1_10_0.d_.last_), .obj bp1_10_0_4 (.map 2 (encM (fun k : List UInt8 => .str k) (fun v : Int => .int .i32 v) p1_10_0.seen_)), .lst rp1_10_0_5 54 (lst (eL (eI .i64)) p1_10_0.todo_), .obj bp1_11 (.cells none 2 [.int .i64 p1_11])] F) ∨ (∃ x2, e = .ret ∧ .inr x2 = o1 ∧ Has fr' 19 [(4, .int .i64 x2)] ∧ HH g h' [.lst rp0 5 (lst eY p0), .obj bp1_10 (.cells none 2 [.ptr (some (bp1_10_0, 0))]), .obj bp1_10_0 (.cells none 2 [.vptr [vs e_S_auto_state p1_10_0.a_.l_, .int .i64 p1_10_0.a_.first_], .ptr (some (bp1_10_0_1, 0)), .int .i64 p1_10_0.most_, rowV rp0 p0.length, .map (some bp1_10_0_4), rowV rp1_10_0_5 p1_10_0.todo_.length]), .obj bp1_10_0_1 (.cells none 2 (big 256 (AVal.int .u8) p1_10_0.d_.column_ ++ [.int .i64 p1_10_0.d_.columns_, rowV rp1_10_0_1_2 p1_10_0.d_.next_.length, rowV rp1_10_0_1_3 p1_10_0.d_.ends_.length, rowV rp1_10_0_1_4 p1_10_0.d_.last_.length, .int .i32 p1_10_0.d_.first_, .int .i32 p1_10_0.d_.later_, .bool p1_10_0.d_.empty_])), .lst rp1_10_0_1_2 21 (lst (eI .i32) p1_10_0.d_.next_), .lst rp1_10_0_1_3 4 (lst eB p1_10_0.d_.ends_), .lst rp1_10_0_1_4 4 (lst eB p1_10_0.d_.last_), .obj bp1_10_0_4 (.map 2 (encM (fun k : List UInt8 => .str k) (fun v : Int => .int .i32 v) p1_10_0.seen_)), .lst rp1_10_0_5 54 (lst (eL (eI .i64)) p1_10_0.todo_), .obj bp1_11 (.cells none 2 [.int .i64 p1_11])] F) ∨ False) ?_ ?_
 ·refine aw_loop (by kernel_rfl) (fun (s : Int) fr' h' => ∃ x1, x1 = s ∧ Has fr' 19 [(0, rowV rp0 p0.length), (1, .func (.func 71) [] [.ptr (some (bp1_10, 0)), .ptr (some (bp1_11, 0))]), (7, .int .i64 (p0.length : Int)), (8, .int .i64 x1)] ∧ HH g h' [.lst rp0 5 (lst eY p0), .obj bp1_10 (.cells none 2 [.ptr (some (bp1_10_0, 0))]), .obj bp1_10_0 (.cells none 2 [.vptr [vs e_S_auto_state p1_10_0.a_.l_, .int .i64 p1_10_0.a_.first_], .ptr (some (bp1_10_0_1, 0)), .int .i64 p1_10_0.most_, rowV rp0 p0.length, .map (some bp1_10_0_4), rowV rp1_10_0_5 p1_10_0.todo_.length]), .obj bp1_10_0_1 (.cells none 2 (big 256 (AVal.int .u8) p1_10_0.d_.column_ ++ [.int .i64 p1_10_0.d_.columns_, rowV rp1_10_0_1_2 p1_10_0.d_.next_.length, rowV rp1_10_0_1_3 p1_10_0.d_.ends_.length, rowV rp1_10_0_1_4 p1_10_0.d_.last_.length, .int .i32 p1_10_0.d_.first_, .int .i32 p1_10_0.d_.later_, .bool p1_10_0.d_.empty_])), .lst rp1_10_0_1_2 21 (lst (eI .i32) p1_10_0.d_.next_), .lst rp1_10_0_1_3 4 (lst eB p1_10_0.d_.ends_), .lst rp1_10_0_1_4 4 (lst eB p1_10_0.d_.last_), .obj bp1_10_0_4 (.map 2 (encM (fun k : List UInt8 => .str k) (fun v : Int => .int .i32 v) p1_10_0.seen_)), .lst rp1_10_0_5 54 (lst (eL (eI .i64)) p1_10_0.todo_), .obj bp1_11 (.cells none 2 [.int .i64 p1_11])] F) ho ⟨_, rfl, H.ls, A⟩ ?_
  clear ho hm H A
  intro s q fr h1 hI hm
  obtain ⟨x1, rfl, H, A⟩ := hI
  unfold M_slices_IndexFunc_byte_byte_sOFPPPOOOe0OP_L0 at hm
  refine aw_sr 1 ?_
  refine at_el 1 [(9, .bool (decide (x1 < (p0.length : Int))))] H (fun _ => id) fun fr H => ?_
  refine aw_sq ?_
  refine aw_if 9 H hm (fun hb hm H => ?_) fun hb hm H => ?_
  ·refine aw_kn id ?_
   refine aw_sq ?_
   refine aw_block (id := 1) (by kernel_rfl) ?_
   refine aw_sr 2 ?_
   refine at_es 2 [(5, .int .i64 x1)] 6 H (fun _ => id) fun fr H => ?_
   obtain ⟨x3, hx, hm⟩ := bind_some hm
   obtain ⟨i1, er1, _, hx, hq1⟩ := HH.ixO encY (by decide) A 0 (xs := p0) rfl hx
   refine at_g1 3 [(11, .func (.func 71) [] [.ptr (some (bp1_10, 0)), .ptr (some (bp1_11, 0))])] 14 (.ptr (some (i1, x1.toNat * 1))) h1 H (fun fr => .of (s_ixL (s := rowS rp0 p0.length) (by kernel_rfl) hx)) fun fr t H => ?_
   refine at_l1 15 _ _ H (fun fr => .of (s_ld (by kernel_rfl) (row_ld1 encY (HH.row A 0 rfl er1) hq1 (o := 0) rfl))) fun fr t H => ?_
   replace A : HH g h1 [_, _, _, _, _, _, _, _, _, _] F := ((((((((((A.front 9 rfl).front 9 rfl).front 9 rfl).front 3 rfl).front 9 rfl).front 9 rfl).front 9 rfl).front 9 rfl).front 9 rfl).front 9 rfl)
   obtain ⟨x4, hx, hm⟩ := bind_some hm
   obtain ⟨v1, h2, hr, rfl, A1⟩ := ok_dfa_maker_split_1_sIPPPOOOOOP (av := [.int .u8 (x3.toNat : Int), .ptr (some (bp1_10, 0)), .ptr (some (bp1_11, 0))]) hx (A.cut 10)
   replace A : HH g h2 [.obj bp1_10 (.cells none 2 [.ptr (some (bp1_10_0, 0))]), .obj bp1_10_0 (.cells none 2 [_, _, _, _, _, _]), .obj bp1_10_0_1 (.cells none 2 (big 256 (AVal.int .u8) p1_10_0.d_.column_ ++ [.int .i64 p1_10_0.d_.columns_, rowV rp1_10_0_1_2 p1_10_0.d_.next_.length, rowV rp1_10_0_1_3 p1_10_0.d_.ends_.length, rowV rp1_10_0_1_4 p1_10_0.d_.last_.length, .int .i32 p1_10_0.d_.first_, .int .i32 p1_10_0.d_.later_, .bool p1_10_0.d_.empty_])), .lst rp1_10_0_1_2 21 (lst (eI .i32) p1_10_0.d_.next_), .lst rp1_10_0_1_3 4 (lst eB p1_10_0.d_.ends_), .lst rp1_10_0_1_4 4 (lst eB p1_10_0.d_.last_), .lst rp0 5 (lst eY p0), .obj bp1_10_0_4 (.map 2 (encM (fun k : List UInt8 => .str k) (fun v : Int => .int .i32 v) p1_10_0.seen_)), .lst rp1_10_0_5 54 (lst (eL (eI .i64)) p1_10_0.todo_), .obj bp1_11 (.cells none 2 [.int .i64 p1_11])] F := A.glue0 (n := 10) A1
   refine at_lc1 16 hr H fun fr t H => ?_
   refine at_nl id ?_
   refine aw_if 16 H hm (fun hb hm H => ?_) fun hb hm H => ?_
   ·refine aw_sr 2 ?_
    refine at_el 2 [(4, .int .i64 x1)] H (fun _ => id) fun fr H => ?_
    refine aw_rt ?_
    replace A : HH g h2 [_, _, _, _, _, _, _, _, _, _] F := ((((((((((A.front 9 rfl).front 9 rfl).front 9 rfl).front 8 rfl).front 8 rfl).front 8 rfl).front 8 rfl).front 8 rfl).front 8 rfl).front 9 rfl)
    exact nr hm fun e => Or.inr (.inl ⟨_, rfl, e, H.ls, A⟩)
   refine aw_kr 2 id ?_
   refine at_se 2 [(0, rowV rp0 p0.length), (1, .func (.func 71) [] [.ptr (some (bp1_10, 0)), .ptr (some (bp1_11, 0))]), (7, .int .i64 (p0.length : Int)), (8, .int .i64 (IntKind.i64.wrap (x1 + (1 : Int))))] H fun fr H => ?_
   refine at_nil ?_
   replace A : HH g h2 [_, _, _, _, _, _, _, _, _, _] F := ((((((((((A.front 9 rfl).front 9 rfl).front 9 rfl).front 8 rfl).front 8 rfl).front 8 rfl).front 8 rfl).front 8 rfl).front 8 rfl).front 9 rfl)
   exact nx hm ⟨_, rfl, H.ls, A⟩
  refine aw_exit (i := 0) (by kernel_rfl) ?_
  exact nr hm fun e => .inl ⟨rfl, e, H.ls, A⟩
 clear ho
 clear A
 intro e fr h3 hQ
 rcases hQ with ⟨rfl, rfl, H, A⟩ | ⟨x2, rfl, rfl, H, A⟩ | hF
 ·show AW _ _ _ _ _ _ _
  refine aw_sr 1 ?_
  refine at_el 1 [(4, .int .i64 (-1))] H (fun _ => id) fun fr H => ?_
  refine aw_rt ?_
  obtain rfl := injA hm
  exact ⟨.inl rfl, _, rH H, rfl, A⟩
 ·obtain rfl := injA hm
  exact ⟨.inl rfl, _, rH H, rfl, A⟩
 exact hF.elim
noncomputable def M_dfa_maker_split_sPPOOOOO_L0 (p0 : S_dfa_maker) (s : (Nat → Int) × (List UInt8) × Int) : Option (((Nat → Int) × (List UInt8) × Int) ⊕ (((Nat → Int) × (List UInt8)))) :=
 match s with
 | (x1, x2, x3) => iteB (decide (x3 < (256 : Int))) ((M_slices_IndexFunc_byte_byte_sOFPPPOOOe0OP x2 (⟨p0.a_, (⟨x1, p0.d_.columns_, p0.d_.next_, p0.d_.ends_, p0.d_.last_, p0.d_.first_, p0.d_.later_, p0.d_.empty_⟩ : S_dfa_Dfa), p0.most_, x2, p0.seen_, p0.todo_⟩ : S_dfa_maker) x3).bind fun x6 => (iteB (decide (x6 < (0 : Int))) ((toY (IntKind.u8.wrap x3)).bind fun x9 => need (okN 1 (x2.length + ([x9] : List UInt8).length)) <| some ((x2 ++ ([x9] : List UInt8)), (x2.length : Int))) (some (x2, x6)) : Option (((List UInt8) × Int))).bind fun (x7, x8) => (ixB 256 x1 x3).bind fun x10 => some (.inl ((bset x1 x3.toNat (IntKind.u8.wrap x8)), x7, IntKind.i64.wrap (x3 + (1 : Int))))) (some (.inr (x1, x2)))
noncomputable def M_dfa_maker_split_sPPOOOOO (p0 : S_dfa_maker) : Option (S_dfa_Dfa × (List UInt8)) :=
 (loop (M_dfa_maker_split_sPPOOOOO_L0 p0) (p0.d_.column_, p0.byte_, (0 : Int))).bind fun (x4, x5) => some ((⟨x4, (x5.length : Int), p0.d_.next_, p0.d_.ends_, p0.d_.last_, p0.d_.first_, p0.d_.later_, p0.d_.empty_⟩ : S_dfa_Dfa), x5)
theorem ok_dfa_maker_split_sPPOOOOO {p0 bp0 bp0_1 rp0_1_2 rp0_1_3 rp0_1_4 rp0_3 bp0_4 rp0_5 u1 u5} (hm : M_dfa_maker_split_sPPOOOOO p0 = some (u1, u5)) (A : HH g h [.obj bp0 (.cells none 2 [.vptr [vs e_S_auto_state p0.a_.l_, .int .i64 p0.a_.first_], .ptr (some (bp0_1, 0)), .int .i64 p0.most_, rowV rp0_3 p0.byte_.length, .map (some bp0_4), rowV rp0_5 p0.todo_.length]), .obj bp0_1 (.cells none 2 (big 256 (AVal.int .u8) p0.d_.column_ ++ [.int .i64 p0.d_.columns_, rowV rp0_1_2 p0.d_.next_.length, rowV rp0_1_3 p0.d_.ends_.length, rowV rp0_1_4 p0.d_.last_.length, .int .i32 p0.d_.first_, .int .i32 p0.d_.later_, .bool p0.d_.empty_])), .lst rp0_1_2 21 (lst (eI .i32) p0.d_.next_), .lst rp0_1_3 4 (lst eB p0.d_.ends_), .lst rp0_1_4 4 (lst eB p0.d_.last_), .lst rp0_3 5 (lst eY p0.byte_), .obj bp0_4 (.map 2 (encM (fun k : List UInt8 => .str k) (fun v : Int => .int .i32 v) p0.seen_)), .lst rp0_5 54 (lst (eL (eI .i64)) p0.todo_)] F) (hc : canL (cfg.still 53) av = [.ptr (some (bp0, 0))] := by kernel_rfl) : ∃ v h', Runs cfg g h 53 av v h' ∧ ∃ (r'5 : Option Nat), v = .tuple [] ∧ HH g h' [.obj bp0 (.cells none 2 [.vptr [vs e_S_auto_state p0.a_.l_, .int .i64 p0.a_.first_], .ptr (some (bp0_1, 0)), .int .i64 p0.most_, rowV r'5 u5.length, .map (some bp0_4), rowV rp0_5 p0.todo_.length]), .obj bp0_1 (.cells none 2 (big 256 (AVal.int .u8) u1.column_ ++ [.int .i64 u1.columns_, rowV rp0_1_2 p0.d_.next_.length, rowV rp0_1_3 p0.d_.ends_.length, rowV rp0_1_4 p0.d_.last_.length, .int .i32 u1.first_, .int .i32 u1.later_, .bool u1.empty_])), .lst rp0_1_2 21 (lst (eI .i32) p0.d_.next_), .lst rp0_1_3 4 (lst eB p0.d_.ends_), .lst rp0_1_4 4 (lst eB p0.d_.last_), .lst r'5 5 (lst eY u5), .obj bp0_4 (.map 2 (encM (fun k : List UInt8 => .str k) (fun v : Int => .int .i32 v) p0.seen_)), .lst rp0_5 54 (lst (eL (eI .i64)) p0.todo_)] F := by
 refine rq1 53 [] hc ?_
 clear hc
 unfold M_dfa_maker_split_sPPOOOOO at hm
 refine bg 53 [(0, .ptr (some (bp0, 0)))] fun fr H => ?_
 refine aw_sr 1 ?_
 obtain ⟨h1, e1, A⟩ := A.pu (.cells none 2 [.ptr (some (bp0, 0))])
 refine at_ln 1 (.ptr (some (h.size, 0))) e1 H fun fr t H => ?_
 refine at_nl id ?_
 refine aw_sq ?_
 refine aw_sr 1 ?_
 refine at_el 1 [(4, .int .i64 0)] H (fun _ => id) fun fr H => ?_
 refine aw_block (id := 0) (by kernel_rfl) ?_
 obtain ⟨o1, ho, hm⟩ := bind_some hm
 refine aw_mono (Q' := fun e fr' h' => (∃ x4 x5, e = .exit 0 ∧ (x4, x5) = o1 ∧ ∃ r2, Has fr' 53 [(1, .ptr (some (h.size, 0)))] ∧ HH g h' [.obj h.size (.cells none 2 [.ptr (some (bp0, 0))]), .obj bp0 (.cells none 2 [.vptr [vs e_S_auto_state p0.a_.l_, .int .i64 p0.a_.first_], .ptr (some (bp0_1, 0)), .int .i64 p0.most_, rowV r2 x5.length, .map (some bp0_4), rowV rp0_5 p0.todo_.length]), .obj bp0_1 (.cells none 2 (big 256 (AVal.int .u8) x4 ++ [.int .i64 p0.d_.columns_, rowV rp0_1_2 p0.d_.next_.length, rowV rp0_1_3 p0.d_.ends_.length, rowV rp0_1_4 p0.d_.last_.length, .int .i32 p0.d_.first_, .int .i32 p0.d_.later_, .bool p0.d_.empty_])), .lst rp0_1_2 21 (lst (eI .i32) p0.d_.next_), .lst rp0_1_3 4 (lst eB p0.d_.ends_), .lst rp0_1_4 4 (lst eB p0.d_.last_), .lst r2 5 (lst eY x5), .obj bp0_4 (.map 2 (encM (fun k : List UInt8 => .str k) (fun v : Int => .int .i32 v) p0.seen_)), .lst rp0_5 54 (lst (eL (eI .i64)) p0.todo_)] F) ∨ False) ?_ ?_
 ·refine aw_loop (by kernel_rfl) (fun (s : (Nat → Int) × (List UInt8) × Int) fr' h' => ∃ x1 x2 x3, (x1, x2, x3) = s ∧ ∃ r1, Has fr' 53 [(1, .ptr (some (h.size, 0))), (4, .int .i64 x3)] ∧ HH g h' [.obj h.size (.cells none 2 [.ptr (some (bp0, 0))]), .obj bp0 (.cells none 2 [.vptr [vs e_S_auto_state p0.a_.l_, .int .i64 p0.a_.first_], .ptr (some (bp0_1, 0)), .int .i64 p0.most_, rowV r1 x2.length, .map (some bp0_4), rowV rp0_5 p0.todo_.length]), .obj bp0_1 (.cells none 2 (big 256 (AVal.int .u8) x1 ++ [.int .i64 p0.d_.columns_, rowV rp0_1_2 p0.d_.next_.length, rowV rp0_1_3 p0.d_.ends_.length, rowV rp0_1_4 p0.d_.last_.length, .int .i32 p0.d_.first_, .int .i32 p0.d_.later_, .bool p0.d_.empty_])), .lst rp0_1_2 21 (lst (eI .i32) p0.d_.next_), .lst rp0_1_3 4 (lst eB p0.d_.ends_), .lst rp0_1_4 4 (lst eB p0.d_.last_), .lst r1 5 (lst eY x2), .obj bp0_4 (.map 2 (encM (fun k : List UInt8 => .str k) (fun v : Int => .int .i32 v) p0.seen_)), .lst rp0_5 54 (lst (eL (eI .i64)) p0.todo_)] F) ho ⟨_, _, _, rfl, rp0_3, H.ls, A⟩ ?_
  clear ho hm H A
  intro s q fr h2 hI hm
  obtain ⟨x1, x2, x3, rfl, r1, H, A⟩ := hI
  unfold M_dfa_maker_split_sPPOOOOO_L0 at hm
  refine aw_sr 1 ?_
  refine at_el 1 [(5, .bool (decide (x3 < (256 : Int))))] H (fun _ => id) fun fr H => ?_
  refine aw_sq ?_
  refine aw_if 5 H hm (fun hb hm H => ?_) fun hb hm H => ?_
  ·refine aw_kn id ?_
   refine aw_sq ?_
   refine aw_block (id := 1) (by kernel_rfl) ?_
   refine aw_sr 3 ?_
   obtain ⟨h3, e2, A⟩ := A.pu (.cells none 2 [.int .i64 0])
   refine at_gn 1 [(6, .int .i64 x3)] 2 (.ptr (some (h2.size, 0))) e2 H fun fr t H => ?_
   obtain ⟨h4, hx, A⟩ := A.s0 0 [.int .i64 x3] [_]
   refine at_ls hx H fun fr t H => ?_
   refine at_ns 7 id ?_
   refine at_ll 7 1 0 A H fun fr t H => ?_
   refine at_gl 2 [] 10 2 3 A H fun fr t H => ?_
   replace A : HH g h4 [_, _, _, _, _, _, _, _, _, _] F := ((((((((((A.front 0 rfl).front 9 rfl).front 9 rfl).front 8 rfl).front 8 rfl).front 8 rfl).front 8 rfl).front 8 rfl).front 8 rfl).front 9 rfl)
   obtain ⟨x6, hx, hm⟩ := bind_some hm
   obtain ⟨v1, h5, hr, rfl, A1⟩ := ok_slices_IndexFunc_byte_byte_sOFPPPOOOe0OP (av := [rowV r1 x2.length, .func (.func 71) [] [.ptr (some (h.size, 0)), .ptr (some (h2.size, 0))]]) hx (A.cut 10)
   replace A : HH g h5 [.lst r1 5 (lst eY x2), .obj h.size (.cells none 2 [.ptr (some (bp0, 0))]), .obj bp0 (.cells none 2 [_, _, _, _, _, _]), .obj bp0_1 (.cells none 2 (big 256 (AVal.int .u8) x1 ++ [.int .i64 p0.d_.columns_, rowV rp0_1_2 p0.d_.next_.length, rowV rp0_1_3 p0.d_.ends_.length, rowV rp0_1_4 p0.d_.last_.length, .int .i32 p0.d_.first_, .int .i32 p0.d_.later_, .bool p0.d_.empty_])), .lst rp0_1_2 21 (lst (eI .i32) p0.d_.next_), .lst rp0_1_3 4 (lst eB p0.d_.ends_), .lst rp0_1_4 4 (lst eB p0.d_.last_), .obj bp0_4 (.map 2 (encM (fun k : List UInt8 => .str k) (fun v : Int => .int .i32 v) p0.seen_)), .lst rp0_5 54 (lst (eL (eI .i64)) p0.todo_), .obj h2.size (.cells none 2 [.int .i64 x3])] F := A.glue0 (n := 10) A1
   refine at_gc1 1 [] 12 hr H fun fr t H => ?_
   refine at_el 1 [(3, .int .i64 x6)] H (fun _ => id) fun fr H => ?_
   refine aw_sq ?_
   obtain ⟨o2, ho, hm⟩ := bind_some hm
   refine aw_mono (Q' := fun e fr' h' => (∃ x7 x8, e = .normal ∧ (x7, x8) = o2 ∧ ∃ r3, Has fr' 53 [(1, .ptr (some (h.size, 0))), (2, .ptr (some (h2.size, 0))), (3, .int .i64 x8), (4, .int .i64 x3)] ∧ HH g h' [.lst r3 5 (lst eY x7), .obj h.size (.cells none 2 [.ptr (some (bp0, 0))]), .obj bp0 (.cells none 2 [.vptr [vs e_S_auto_state p0.a_.l_, .int .i64 p0.a_.first_], .ptr (some (bp0_1, 0)), .int .i64 p0.most_, rowV r3 x7.length, .map (some bp0_4), rowV rp0_5 p0.todo_.length]), .obj bp0_1 (.cells none 2 (big 256 (AVal.int .u8) x1 ++ [.int .i64 p0.d_.columns_, rowV rp0_1_2 p0.d_.next_.length, rowV rp0_1_3 p0.d_.ends_.length, rowV rp0_1_4 p0.d_.last_.length, .int .i32 p0.d_.first_, .int .i32 p0.d_.later_, .bool p0.d_.empty_])), .lst rp0_1_2 21 (lst (eI .i32) p0.d_.next_), .lst rp0_1_3 4 (lst eB p0.d_.ends_), .lst rp0_1_4 4 (lst eB p0.d_.last_), .obj bp0_4 (.map 2 (encM (fun k : List UInt8 => .str k) (fun v : Int => .int .i32 v) p0.seen_)), .lst rp0_5 54 (lst (eL (eI .i64)) p0.todo_), .obj h2.size (.cells none 2 [.int .i64 x3])] F) ∨ False) ?_ ?_
   ·replace hm := ho
    clear ho
    refine aw_sr 2 ?_
    refine at_el 2 [(14, .bool (decide (x6 < (0 : Int))))] H (fun _ => id) fun fr H => ?_
    refine aw_if 14 H hm (fun hb hm H => ?_) fun hb hm H => ?_
    ·refine aw_sr 6 ?_
     refine at_ll 15 1 0 A H fun fr t H => ?_
     refine at_gl 2 [] 18 2 3 A H fun fr t H => ?_
     refine at_se 2 [(1, .ptr (some (h.size, 0))), (2, .ptr (some (h2.size, 0))), (3, .int .i64 (x2.length : Int)), (4, .int .i64 x3)] H fun fr H => ?_
     refine at_nl id ?_
     refine aw_dw 7 12 [(0, []), (1, []), (2, []), (3, []), (4, []), (5, []), (6, []), (7, []), (8, [0]), (9, []), (10, []), (11, [])] ?_
     refine at_t1 20 (.ptr (some (bp0, 0))) h5 [(0, h.size)] (g.prot) H (fun fr => .of (s_ld (by kernel_rfl) (A.l1 1 0))) (fun fr H => ?_)
     refine at_t1 21 (.ptr (some (bp0, 0))) h5 [(1, h.size), (0, h.size)] (g.prot) H (fun fr => .of (s_ld (by kernel_rfl) (A.l1 1 0))) (fun fr H => ?_)
     refine at_sl 2 [(23, .ptr (some (bp0, 3)))] H fun fr H => ?_
     refine at_t1 24 (rowV r1 x2.length) h5 [(4, bp0), (1, h.size), (0, h.size)] (g.prot) H (fun fr => .of (s_ld (by kernel_rfl) (A.l1 2 3))) (fun fr H => ?_)
     refine at_t1 25 (.int .i64 x3) h5 [(5, h2.size), (4, bp0), (1, h.size), (0, h.size)] (g.prot) H (fun fr => .of (s_ld (by kernel_rfl) (A.l1 9 0))) (fun fr H => ?_)
     refine at_sl 1 [(26, .int .u8 (IntKind.u8.wrap x3))] H fun fr H => ?_
     obtain ⟨x9, hx, hm⟩ := bind_some hm
     have hx := toY_eq hx
     rw [hx] at H
     obtain ⟨h6, e3, A⟩ := A.pL 5 [.int .u8 (x9.toNat : Int)]
     refine at_t1 27 (rowV (some h5.size) (([x9] : List UInt8).length)) h6 [(7, h5.size), (5, h2.size), (4, bp0), (1, h.size), (0, h.size)] (g.prot) H (fun fr => .of (s_n' (by kernel_rfl) (congrArg some e3.symm))) (fun fr H => ?_)
     replace A : HH g h6 [_, .lst (some h5.size) 5 ([.int .u8 (x9.toNat : Int)]), _, _, _, _, _, _, _, _, _] F := (A.front 1 rfl)
     have A1 := A.prot2 1 (pr := [h.size]) (.cons 1 rfl (by simp [Ck.ids]) .nil)
     obtain ⟨hb, hm⟩ := need_some hm
     obtain ⟨r4, h7, hx, A1⟩ := HH.appO encY (by decide) A1 0 (xs := x2) (ys := ([x9] : List UInt8)) rfl (row_first A 1 rfl (n := ([x9] : List UInt8).length) (z := 1) rfl (by decide)) rfl rfl hb
     replace A := A.p11 A1
     replace A : HH g h7 [_, _, _, _, _, _, _, _, _, _] F := (HH.dropF ((((((((((A.front 10 rfl).front 10 rfl).front 10 rfl).front 10 rfl).front 10 rfl).front 10 rfl).front 10 rfl).front 10 rfl).front 10 rfl).front 9 rfl) 10)
     refine at_t1 28 (rowV r4 ((x2 ++ ([x9] : List UInt8)).length)) h7 [(7, h5.size), (5, h2.size), (4, bp0), (1, h.size), (0, h.size)] (h.size :: g.prot) H (fun fr => .of (s_app (s := rowS r1 x2.length) (by kernel_rfl) hx)) (fun fr H => ?_)
     refine at_sl 2 [(30, .ptr (some (bp0, 3)))] H fun fr H => ?_
     obtain ⟨h8, hx, A1⟩ := A.st 2 rfl (o := 3) (new := [rowV r4 ((x2 ++ ([x9] : List UInt8)).length)]) (ds := [.vptr [vs e_S_auto_state p0.a_.l_, .int .i64 p0.a_.first_], .ptr (some (bp0_1, 0)), .int .i64 p0.most_, rowV r4 ((x2 ++ ([x9] : List UInt8)).length), .map (some bp0_4), rowV rp0_5 p0.todo_.length]) (Nat.le_of_ble_eq_true rfl) rfl rfl
     replace A : HH g h8 [_, _, .obj bp0 (.cells none 2 [_, _, _, rowV r4 ((x2 ++ ([x9] : List UInt8)).length), _, _]), _, _, _, _, _, _, _] F := A1
     refine at_t0 (.tuple []) h8 [(7, h5.size), (5, h2.size), (4, bp0), (1, h.size), (0, h.size)] (g.prot) H (fun fr => .of (s_st (by kernel_rfl) rfl hx)) (fun fr H => ?_)
     refine at_nil ?_
     exact .inl ⟨_, _, rfl, injA hm, _, H.ls, A⟩
    refine aw_sk ?_
    exact .inl ⟨_, _, rfl, injA hm, _, H.ls, A⟩
   clear ho
   clear A
   intro e fr h9 hQ
   rcases hQ with ⟨x7, x8, rfl, rfl, r3, H, A⟩ | hF
   ·show AW _ _ _ _ _ _ _
    refine aw_dg 8 11 ?_
    refine at_ll 31 1 0 A H fun fr t H => ?_
    refine at_gl 2 [] 34 2 1 A H fun fr t H => ?_
    refine at_ll 35 9 0 A H fun fr t H => ?_
    obtain ⟨x10, hq1, hm⟩ := bind_some hm
    refine at_g1 4 [(37, .int .u8 (IntKind.u8.wrap x8))] 40 (.ptr (some (bp0_1, 0 + x3.toNat * 1))) h9 H (fun fr => .of (s_ixA (by kernel_rfl) (ixA_big hq1 (bp0_1, 0) 1))) fun fr t H => ?_
    obtain ⟨h10, hx, A1⟩ := HH.stB A 3 (AVal.int .u8) (X := x1) [] ([.int .i64 p0.d_.columns_, rowV rp0_1_2 p0.d_.next_.length, rowV rp0_1_3 p0.d_.ends_.length, rowV rp0_1_4 p0.d_.last_.length, .int .i32 p0.d_.first_, .int .i32 p0.d_.later_, .bool p0.d_.empty_] : List AVal) (off := 0) rfl rfl (i := x3) (IntKind.u8.wrap x8) hq1 rfl
    replace A : HH g h10 [_, _, _, .obj bp0_1 (.cells none 2 (big 256 (AVal.int .u8) (bset x1 x3.toNat (IntKind.u8.wrap x8)) ++ [.int .i64 p0.d_.columns_, rowV rp0_1_2 p0.d_.next_.length, rowV rp0_1_3 p0.d_.ends_.length, rowV rp0_1_4 p0.d_.last_.length, .int .i32 p0.d_.first_, .int .i32 p0.d_.later_, .bool p0.d_.empty_])), _, _, _, _, _, _] F := A1
    refine at_ls hx H fun fr t H => ?_
    refine at_nr 2 id ?_
    refine at_se 2 [(1, .ptr (some (h.size, 0))), (4, .int .i64 (IntKind.i64.wrap (x3 + (1 : Int))))] H fun fr H => ?_
    refine at_nil ?_
    replace A := A.k9 1 2 3 4 5 6 0 7 8
    exact nx hm ⟨_, _, _, rfl, _, H.ls, A⟩
   exact hF.elim
  refine aw_exit (i := 0) (by kernel_rfl) ?_
  exact nr hm fun e => .inl ⟨_, _, rfl, e, _, H.ls, A⟩
 clear ho
 clear A
 intro e fr h11 hQ
 rcases hQ with ⟨x4, x5, rfl, rfl, r2, H, A⟩ | hF
 ·show AW _ _ _ _ _ _ _
  refine aw_dg 10 12 ?_
  refine at_ll 42 0 0 A H fun fr t H => ?_
  refine at_gl 2 [] 45 1 1 A H fun fr t H => ?_
  refine at_ll 46 0 0 A H fun fr t H => ?_
  refine at_gl 2 [] 49 1 3 A H fun fr t H => ?_
  obtain ⟨h12, hx, A1⟩ := A.st 2 rfl (o := 256) (new := [.int .i64 (x5.length : Int)]) (ds := (big 256 (AVal.int .u8) x4 ++ [.int .i64 (x5.length : Int), rowV rp0_1_2 p0.d_.next_.length, rowV rp0_1_3 p0.d_.ends_.length, rowV rp0_1_4 p0.d_.last_.length, .int .i32 p0.d_.first_, .int .i32 p0.d_.later_, .bool p0.d_.empty_])) (Nat.le_of_ble_eq_true (by kernel_rfl)) rfl (by kernel_rfl)
  replace A : HH g h12 [_, _, .obj bp0_1 (.cells none 2 (big 256 (AVal.int .u8) x4 ++ [.int .i64 (x5.length : Int), rowV rp0_1_2 p0.d_.next_.length, rowV rp0_1_3 p0.d_.ends_.length, rowV rp0_1_4 p0.d_.last_.length, .int .i32 p0.d_.first_, .int .i32 p0.d_.later_, .bool p0.d_.empty_])), _, _, _, _, _, _] F := A1
  refine at_gs 3 [] hx H fun fr t H => ?_
  refine at_nil ?_
  obtain ⟨rfl, rfl⟩ := injB hm
  refine ⟨.inr rfl, .tuple [], rH H, ?_⟩
  replace A := A.k8 1 2 3 4 5 6 7 8
  exact ⟨r2, rfl, A⟩
 exact hF.elim
noncomputable def M_auto_Auto_Stops (p0 : S_auto_Auto) (p1 : List Int) (p2 : Bool) : Option (Bool) :=
 (M_auto_Auto_stops p0 p1 false p2).bind fun x1 => some x1
theorem ok_auto_Auto_Stops {p0 p1 p2 q0} (hm : M_auto_Auto_Stops p0 p1 p2 = some q0) (A : HH g h [] F) (hc : canL (cfg.still 27) av = [.vptr [vs e_S_auto_state p0.l_, .int .i64 p0.first_], vs (eI .i64) p1, .bool p2] := by kernel_rfl) : ∃ v h', Runs cfg g h 27 av v h' ∧ v = .bool q0 ∧ HH g h' [] F := by
 refine rq1 11 [.tmp 6] hc ?_
 clear hc
 unfold M_auto_Auto_Stops at hm
 refine bg 11 [(0, .vptr [vs e_S_auto_state p0.l_, .int .i64 p0.first_]), (1, vs (eI .i64) p1), (2, .bool p2)] fun fr H => ?_
 refine aw_sr 1 ?_
 refine at_es 1 [] 5 H (fun _ => id) fun fr H => ?_
 obtain ⟨x1, hx, hm⟩ := bind_some hm
 obtain ⟨v1, h1, hr, rfl, A1⟩ := ok_auto_Auto_stops (av := [.vptr [vs e_S_auto_state p0.l_, .int .i64 p0.first_], vs (eI .i64) p1, .bool false, .bool p2]) hx (A.cut 0)
 replace A := A.g00 A1
 refine at_gc1 3 [] 10 hr H fun fr t H => ?_
 refine at_el 1 [(6, .bool x1)] H (fun _ => id) fun fr H => ?_
 refine aw_rt ?_
 obtain rfl := injA hm
 exact ⟨.inl rfl, _, rH H, rfl, A⟩
end Go.Av.L
