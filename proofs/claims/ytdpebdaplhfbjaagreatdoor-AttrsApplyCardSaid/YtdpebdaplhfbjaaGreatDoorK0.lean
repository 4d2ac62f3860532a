/-
 Models of functions, and that the abstract run tells them. Written by lift2.py.
-/
import Derived.Test.YtdpebdaplhfbjaaGreatDoorKCfg
namespace Go.Av.L
open Go.Av Go.Lib
set_option maxRecDepth 10000
set_option linter.unusedVariables false
set_option linter.unusedSimpArgs false
variable {g : Gd} {h : AHeap} {F : List Ck} {av : List AVal}
noncomputable section
def M_boulterlaw07_long_L0 (p0 : List S_api_Pair) (s : Int) : Option ((Int) ⊕ ((Unit) ⊕ (Bool))) :=
 match s with
 | x1 => iteB (decide (x1 < (p0.length : Int))) ((ixV p0 x1).bind fun x3 => iteB ((decide ((x3.Key.length : Int) > 300)) || (decide ((x3.Value.length : Int) > 300))) (some (.inr (.inr true))) (some (.inl (IntKind.i64.wrap (x1 + 1))))) (some (.inr (.inl ())))
def M_boulterlaw07_long (p0 : List S_api_Pair) : Option (Bool) :=
 iteB (decide ((p0.length : Int) > 12)) (some true) ((loop (M_boulterlaw07_long_L0 p0) (0 : Int)).bind fun o1 => (match o1 with | .inl _ => some false | .inr x2 => some x2))
theorem ok_boulterlaw07_long {p0 q0} (hm : M_boulterlaw07_long p0 = some q0) (A : HH g h [] F) (hc : canL (cfg.still 5) av = [vs e_S_api_Pair p0] := by kernel_rfl) : ∃ v h', Runs cfg g h 5 av v h' ∧ v = .bool q0 ∧ HH g h' [] F := by
 refine rq1 25 [.tmp 2] hc ?_
 clear hc
 unfold M_boulterlaw07_long at hm
 refine bg 25 [(0, vs e_S_api_Pair p0)] fun fr H => ?_
 refine aw_sr 1 (at_L 1 [] H fun fr H => aw_sq (aw_sr 3 (at_L 3 [(7, .bool (decide ((p0.length : Int) > 12)))] H fun fr H => aw_if 7 H hm (fun hb hm H => ?_) fun hb hm H => ?_)))
 ·refine aw_sr 1 (at_L 1 [(2, .bool true)] H fun fr H => aw_rt ?_)
  obtain rfl := injA hm
  exact ⟨.inl rfl, _, rH H, rfl, A⟩
 refine aw_kn id (aw_sq (aw_sr 3 (at_L 3 [(8, vs e_S_api_Pair p0), (9, Ai (p0.length : Int)), (10, Ai 0)] H fun fr H => aw_block (id := 0) (by kernel_rfl) ?_)))
 obtain ⟨o1, ho, hm⟩ := bind_some hm
 refine aw_mono (Q' := fun e fr' h' => (e = .exit 0 ∧ .inl () = o1 ∧ Has fr' 25 [] ∧ HH g h' [] F) ∨ (∃ x2, e = .ret ∧ .inr x2 = o1 ∧ Has fr' 25 [(2, .bool x2)] ∧ HH g h' [] F) ∨ False) ?_ ?_
 ·refine aw_loop (by kernel_rfl) (fun (s : Int) fr' h' => ∃ x1, x1 = s ∧ Has fr' 25 [(8, vs e_S_api_Pair p0), (9, Ai (p0.length : Int)), (10, Ai x1)] ∧ HH g h' [] F) ho ⟨_, rfl, H.ls, A⟩ ?_
  clear ho hm H A
  intro s q fr h1 hI hm
  obtain ⟨x1, rfl, H, A⟩ := hI
  unfold M_boulterlaw07_long_L0 at hm
  refine aw_sr 1 (at_L 1 [(11, .bool (decide (x1 < (p0.length : Int))))] H fun fr H => aw_sq (aw_if 11 H hm (fun hb hm H => ?_) fun hb hm H => ?_))
  ·refine aw_kn id (aw_sq (aw_block (id := 1) (by kernel_rfl) ?_))
   refine aw_sr 4 ?_
   obtain ⟨x3, hx, hm⟩ := bind_some hm
   refine at_l1 12 (.vptr [.str x3.Key, .str x3.Value]) h1 H (fun fr => .of (s_ixV (e := e_S_api_Pair) (x := x3) enc_S_api_Pair (by decide) (by kernel_rfl) hx)) fun fr t H => ?_
   refine at_l1 13 (.agg [.str x3.Key, .str x3.Value]) h1 H (fun fr => .of (s_lv (by kernel_rfl))) fun fr t H => ?_
   obtain ⟨h2, e1, A⟩ := A.pu (.cells none 2 [.str ([] : List UInt8), .str ([] : List UInt8)])
   refine at_ln 4 (.ptr (some (h1.size, 0))) e1 H fun fr t H => ?_
   obtain ⟨h3, hx, A⟩ := A.s0 0 [.str x3.Key, .str x3.Value] [_, _]
   refine at_lS hx H fun fr t H => ?_
   refine at_ns 10 id (at_gl 1 [] 15 0 0 A H fun fr t H => ?_)
   refine at_sl 3 [(18, .bool (decide ((x3.Key.length : Int) > 300)))] H fun fr H => at_cl 5 (fun fr' h' => h3 = h' ∧ Has fr' 25 [(8, vs e_S_api_Pair p0), (9, Ai (p0.length : Int)), (10, Ai x1), (23, .bool ((decide ((x3.Key.length : Int) > 300)) || (decide ((x3.Value.length : Int) > 300))))]) ?_ ?_
   ·cases hb : (decide ((x3.Key.length : Int) > 300) : Bool) with
    | true =>
     replace H := H.kn 18 hb
     exact at_sl 5 [(23, .bool true)] H fun fr H => at_zb H hb
    | false =>
     replace H := H.kn 18 hb
     refine at_gl 1 [] 20 0 1 A H fun fr t H => ?_
     exact at_sl 3 [(23, .bool (decide ((x3.Value.length : Int) > 300)))] H fun fr H => at_zb H hb
   intro t fr h' hK
   obtain ⟨e, H⟩ := hK
   subst e
   refine at_nl id (aw_if 23 H hm (fun hb hm H => ?_) fun hb hm H => ?_)
   ·refine aw_sr 1 (at_L 1 [(2, .bool true)] H fun fr H => aw_rt ?_)
    replace A := A.d0
    exact nr hm fun e => Or.inr (.inl ⟨_, rfl, e, H.ls, A⟩)
   refine aw_kr 2 id (at_se 2 [(8, vs e_S_api_Pair p0), (9, Ai (p0.length : Int)), (10, Ai (IntKind.i64.wrap (x1 + 1)))] H fun fr H => at_nil ?_)
   replace A := A.d0
   exact nx hm ⟨_, rfl, H.ls, A⟩
  refine aw_exit (i := 0) (by kernel_rfl) ?_
  exact nr hm fun e => .inl ⟨rfl, e, H.ls, A⟩
 clear ho
 clear A
 intro e fr h4 hQ
 rcases hQ with ⟨rfl, rfl, H, A⟩ | ⟨x2, rfl, rfl, H, A⟩ | hF
 ·show AW _ _ _ _ _ _ _
  refine aw_sr 1 (at_L 1 [(2, .bool false)] H fun fr H => aw_rt ?_)
  obtain rfl := injA hm
  exact ⟨.inl rfl, _, rH H, rfl, A⟩
 ·obtain rfl := injA hm
  exact ⟨.inl rfl, _, rH H, rfl, A⟩
 exact hF.elim
def M_boulterref07_put_sOR_L0 (p0 : List S_api_Pair) (p1 : S_api_Pair) (s : (List S_api_Pair) × Bool × Int) : Option (((List S_api_Pair) × Bool × Int) ⊕ (((List S_api_Pair) × Bool))) :=
 match s with
 | (x1, x2, x3) => iteB (decide (x3 < (p0.length : Int))) ((((iteB (!x2) ((ixV p0 x3).bind fun x11 => some (Op.bytesLess p1.Key x11.Key || p1.Key == x11.Key)) (some false) : Option (Bool)).bind fun x10 => iteB x10 (need (okN 32 (x1.length + ([p1] : List S_api_Pair).length)) <| some ((x1 ++ ([p1] : List S_api_Pair)), true)) (some (x1, x2)) : Option (((List S_api_Pair) × Bool))).bind fun (x8, x9) => (ixV p0 x3).bind fun x12 => iteB (!(x12.Key == p1.Key)) ((ixV p0 x3).bind fun x13 => need (okN 32 (x8.length + ([x13] : List S_api_Pair).length)) <| some ((x8 ++ ([x13] : List S_api_Pair)), x9)) (some (x8, x9)) : Option (((List S_api_Pair) × Bool))).bind fun (x6, x7) => some (.inl (x6, x7, IntKind.i64.wrap (x3 + 1)))) (some (.inr (x1, x2)))
def M_boulterref07_put_sOR (p0 : List S_api_Pair) (p1 : S_api_Pair) : Option ((List S_api_Pair)) :=
 (loop (M_boulterref07_put_sOR_L0 p0 p1) (([] : List S_api_Pair), false, (0 : Int))).bind fun (x4, x5) => (iteB (!x5) (need (okN 32 (x4.length + ([p1] : List S_api_Pair).length)) <| some (x4 ++ ([p1] : List S_api_Pair))) (some x4) : Option (((List S_api_Pair)))).bind fun x14 => some x14
theorem ok_boulterref07_put_sOR {p0 p1 rp0 q0} (hm : M_boulterref07_put_sOR p0 p1 = some q0) (A : HH g h [.lst rp0 40 (lst e_S_api_Pair p0)] F) (hc : canL (cfg.still 15) av = [rowV rp0 p0.length, .agg [.str p1.Key, .str p1.Value]] := by kernel_rfl) : ∃ v h', Runs cfg g h 15 av v h' ∧ ∃ (rq0 : Option Nat), v = rowV rq0 q0.length ∧ HH g h' [.lst rq0 40 (lst e_S_api_Pair q0), .lst rp0 40 (lst e_S_api_Pair p0)] F := by
 refine rq1 53 [.tmp 4] hc ?_
 clear hc
 unfold M_boulterref07_put_sOR at hm
 refine bg 53 [(0, rowV rp0 p0.length), (1, .agg [.str p1.Key, .str p1.Value])] fun fr H => ?_
 refine aw_sr 2 ?_
 obtain ⟨h1, e1, A⟩ := A.pu (.cells none 2 [.str p1.Key, .str p1.Value])
 refine at_ln 3 (.ptr (some (h.size, 0))) e1 H fun fr t H => ?_
 refine at_S 1 [] 2 H fun fr H => ?_
 obtain ⟨h2, e2, A⟩ := A.pL 40 []
 refine at_ln 8 (rowV (some h1.size) (([] : List S_api_Pair).length)) e2 H fun fr t H => ?_
 refine at_S 1 [(5, rowV (some h1.size) (([] : List S_api_Pair).length))] 1 H fun fr H => at_L 1 [(6, .bool false)] H fun fr H => aw_sq (aw_sr 1 (at_L 1 [(7, Ai 0)] H fun fr H => aw_block (id := 0) (by kernel_rfl) ?_))
 replace A : HH g h2 [.lst (some h1.size) 40 (lst e_S_api_Pair ([] : List S_api_Pair)), .obj h.size (.cells none 2 [.str p1.Key, .str p1.Value]), _] F := A
 obtain ⟨o1, ho, hm⟩ := bind_some hm
 refine aw_mono (Q' := fun e fr' h' => (∃ x4 x5, e = .exit 0 ∧ (x4, x5) = o1 ∧ ∃ r2, Has fr' 53 [(3, .ptr (some (h.size, 0))), (5, rowV r2 x4.length), (6, .bool x5)] ∧ HH g h' [.lst r2 40 (lst e_S_api_Pair x4), .obj h.size (.cells none 2 [.str p1.Key, .str p1.Value]), .lst rp0 40 (lst e_S_api_Pair p0)] F) ∨ False) ?_ ?_
 ·refine aw_loop (by kernel_rfl) (fun (s : (List S_api_Pair) × Bool × Int) fr' h' => ∃ x1 x2 x3, (x1, x2, x3) = s ∧ ∃ r1, Has fr' 53 [(0, rowV rp0 p0.length), (3, .ptr (some (h.size, 0))), (5, rowV r1 x1.length), (6, .bool x2), (7, Ai x3)] ∧ HH g h' [.lst r1 40 (lst e_S_api_Pair x1), .obj h.size (.cells none 2 [.str p1.Key, .str p1.Value]), .lst rp0 40 (lst e_S_api_Pair p0)] F) ho ⟨_, _, _, rfl, some h1.size, H.ls, A⟩ ?_
  clear ho hm H A
  intro s q fr h3 hI hm
  obtain ⟨x1, x2, x3, rfl, r1, H, A⟩ := hI
  unfold M_boulterref07_put_sOR_L0 at hm
  refine aw_sq (aw_sr 4 (at_L 4 [(12, .bool (decide (x3 < (p0.length : Int))))] H fun fr H => aw_if 12 H hm (fun hb hm H => ?_) fun hb hm H => ?_))
  ·refine aw_kn id (aw_sq ?_)
   obtain ⟨o2, ho, hm⟩ := bind_some hm
   refine aw_mono (Q' := fun e fr' h' => (∃ x6 x7, e = .normal ∧ (x6, x7) = o2 ∧ ∃ r3, Has fr' 53 [(0, rowV rp0 p0.length), (3, .ptr (some (h.size, 0))), (5, rowV r3 x6.length), (6, .bool x7), (7, Ai x3)] ∧ HH g h' [.lst r3 40 (lst e_S_api_Pair x6), .obj h.size (.cells none 2 [.str p1.Key, .str p1.Value]), .lst rp0 40 (lst e_S_api_Pair p0)] F) ∨ False) ?_ ?_
   ·replace hm := ho
    clear ho
    refine aw_block (id := 1) (by kernel_rfl) ?_
    refine aw_sq ?_
    obtain ⟨o3, ho, hm⟩ := bind_some hm
    refine aw_mono (Q' := fun e fr' h' => (∃ x8 x9, e = .normal ∧ (x8, x9) = o3 ∧ ∃ r4, Has fr' 53 [(0, rowV rp0 p0.length), (3, .ptr (some (h.size, 0))), (5, rowV r4 x8.length), (6, .bool x9), (7, Ai x3)] ∧ HH g h' [.lst r4 40 (lst e_S_api_Pair x8), .obj h.size (.cells none 2 [.str p1.Key, .str p1.Value]), .lst rp0 40 (lst e_S_api_Pair p0)] F) ∨ False) ?_ ?_
    ·replace hm := ho
     clear ho
     refine aw_sq (aw_dg 6 12 ?_)
     refine at_sl 3 [(17, .bool (!x2))] H fun fr H => ?_
     obtain ⟨x10, ho, hm⟩ := bind_some hm
     refine at_cl 9 (fun fr' h' => Has fr' 53 [(0, rowV rp0 p0.length), (3, .ptr (some (h.size, 0))), (5, rowV r1 x1.length), (6, .bool x2), (7, Ai x3), (26, .bool x10)] ∧ HH g h' [.lst r1 40 (lst e_S_api_Pair x1), .obj h.size (.cells none 2 [.str p1.Key, .str p1.Value]), .lst rp0 40 (lst e_S_api_Pair p0)] F) ?_ ?_
     ·rcases iteB_some ho with ⟨hb, hm⟩ | ⟨hb, hm⟩
      ·replace H := H.kn 17 hb
       refine at_gl 1 [] 19 1 0 A H fun fr t H => ?_
       obtain ⟨x11, hx, hm⟩ := bind_some hm
       obtain ⟨i1, er1, _, hx, hq1⟩ := HH.ixO enc_S_api_Pair (by decide) A 2 (xs := p0) rfl hx
       refine at_g1 2 [] 22 (.ptr (some (i1, x3.toNat * 2))) h3 H (fun fr => .of (s_ixL (s := rowS rp0 p0.length) (by kernel_rfl) hx)) fun fr t H => ?_
       refine at_g1 1 [] 24 _ _ H (fun fr => .of (s_ld (by kernel_rfl) (row_ld1 enc_S_api_Pair (HH.row A 2 rfl er1) hq1 (o := 0) rfl))) fun fr t H => ?_
       refine at_sl 2 [(26, .bool (Op.bytesLess p1.Key x11.Key || p1.Key == x11.Key))] H fun fr H => ?_
       obtain rfl := injA hm
       exact at_nil ⟨H.ls, A⟩
      replace H := H.kn 17 hb
      refine at_sl 9 [(26, .bool false)] H fun fr H => ?_
      obtain rfl := injA hm
      exact at_nil ⟨H.ls, A⟩
     clear A
     intro t fr h4 hK
     obtain ⟨H, A⟩ := hK
     refine at_nl id (aw_if 26 H hm (fun hb hm H => ?_) fun hb hm H => ?_)
     ·refine aw_sr 5 (at_g1 1 [(27, rowV r1 x1.length)] 28 _ _ H (fun fr => .of (s_ldA (by kernel_rfl) (A.ldA 1 rfl (o := 0) (n := 2) ⟨Nat.le_of_ble_eq_true rfl, rfl⟩))) fun fr t H => ?_)
      obtain ⟨h5, e3, A⟩ := A.pL 40 [.str p1.Key, .str p1.Value]
      refine at_ln 29 (rowV (some h4.size) (([p1] : List S_api_Pair).length)) e3 H fun fr t H => ?_
      obtain ⟨hb, hm⟩ := need_some hm
      obtain ⟨r5, h6, hx, A1⟩ := HH.appO enc_S_api_Pair (by decide) A 1 (xs := x1) (ys := ([p1] : List S_api_Pair)) rfl (row_first A 0 rfl (n := ([p1] : List S_api_Pair).length) (z := 2) rfl (by decide)) rfl rfl hb
      replace A : HH g h6 [.lst (some h4.size) 40 ([.str p1.Key, .str p1.Value]), .lst r5 40 (lst e_S_api_Pair (x1 ++ ([p1] : List S_api_Pair))), _, _] F := A1
      replace A := A.k3 1 2 3
      refine at_l1 30 _ _ H (fun fr => .of (s_app (s := rowS r1 x1.length) (by kernel_rfl) hx)) fun fr t H => ?_
      refine at_se 1 [(0, rowV rp0 p0.length), (3, .ptr (some (h.size, 0))), (5, rowV r5 ((x1 ++ ([p1] : List S_api_Pair)).length)), (7, Ai x3)] H fun fr H => at_nr 1 id (at_sl 1 [(6, .bool true)] H fun fr H => at_nil ?_)
      exact .inl ⟨_, _, rfl, injA hm, _, H.ls, A⟩
     exact aw_sk (.inl ⟨_, _, rfl, injA hm, _, H.ls, A⟩)
    clear ho
    clear A
    intro e fr h7 hQ
    rcases hQ with ⟨x8, x9, rfl, rfl, r4, H, A⟩ | hF
    ·show AW _ _ _ _ _ _ _
     refine aw_sq (aw_dg 9 8 ?_)
     obtain ⟨x12, hx, hm⟩ := bind_some hm
     obtain ⟨i2, er2, _, hx, hq2⟩ := HH.ixO enc_S_api_Pair (by decide) A 2 (xs := p0) rfl hx
     refine at_g1 2 [] 33 (.ptr (some (i2, x3.toNat * 2))) h7 H (fun fr => .of (s_ixL (s := rowS rp0 p0.length) (by kernel_rfl) hx)) fun fr t H => ?_
     refine at_g1 1 [] 35 _ _ H (fun fr => .of (s_ld (by kernel_rfl) (row_ld1 enc_S_api_Pair (HH.row A 2 rfl er2) hq2 (o := 0) rfl))) fun fr t H => ?_
     refine at_gl 1 [] 37 1 0 A H fun fr t H => ?_
     refine at_L 1 [(38, .bool (!(x12.Key == p1.Key)))] H fun fr H => aw_if 38 H hm (fun hb hm H => ?_) fun hb hm H => ?_
     ·refine aw_rg 8 ?_
      obtain ⟨x13, hx, hm⟩ := bind_some hm
      obtain ⟨i3, er3, _, hx, hq3⟩ := HH.ixO enc_S_api_Pair (by decide) A 2 (xs := p0) rfl hx
      refine at_g1 3 [(39, rowV r4 x8.length)] 42 (.ptr (some (i3, x3.toNat * 2))) h7 H (fun fr => .of (s_ixL (s := rowS rp0 p0.length) (by kernel_rfl) hx)) fun fr t H => ?_
      refine at_l1 43 _ _ H (fun fr => .of (s_ldA (by kernel_rfl) (row_ldA enc_S_api_Pair (HH.row A 2 rfl er3) hq3 0 2 (Nat.le_of_ble_eq_true rfl)))) fun fr t H => ?_
      obtain ⟨h8, e4, A⟩ := A.pL 40 (e_S_api_Pair x13)
      refine at_ln 44 (rowV (some h7.size) (([x13] : List S_api_Pair).length)) e4 H fun fr t H => ?_
      obtain ⟨hb, hm⟩ := need_some hm
      obtain ⟨r6, h9, hx, A1⟩ := HH.appO enc_S_api_Pair (by decide) A 1 (xs := x8) (ys := ([x13] : List S_api_Pair)) rfl (row_first A 0 rfl (n := ([x13] : List S_api_Pair).length) (z := 2) rfl (by decide)) rfl rfl hb
      replace A : HH g h9 [.lst (some h7.size) 40 ((e_S_api_Pair x13)), .lst r6 40 (lst e_S_api_Pair (x8 ++ ([x13] : List S_api_Pair))), _, _] F := A1
      replace A := A.k3 1 2 3
      refine at_l1 45 _ _ H (fun fr => .of (s_app (s := rowS r4 x8.length) (by kernel_rfl) hx)) fun fr t H => ?_
      refine at_se 1 [(0, rowV rp0 p0.length), (3, .ptr (some (h.size, 0))), (5, rowV r6 ((x8 ++ ([x13] : List S_api_Pair)).length)), (6, .bool x9), (7, Ai x3)] H fun fr H => at_nil ?_
      exact .inl ⟨_, _, rfl, injA hm, _, H.ls, A⟩
     exact aw_sk (.inl ⟨_, _, rfl, injA hm, _, H.ls, A⟩)
    exact hF.elim
   clear ho
   clear A
   intro e fr h10 hQ
   rcases hQ with ⟨x6, x7, rfl, rfl, r3, H, A⟩ | hF
   ·show AW _ _ _ _ _ _ _
    refine aw_rg 3 (at_se 3 [(0, rowV rp0 p0.length), (3, .ptr (some (h.size, 0))), (5, rowV r3 x6.length), (6, .bool x7), (7, Ai (IntKind.i64.wrap (x3 + 1)))] H fun fr H => at_nil ?_)
    exact nx hm ⟨_, _, _, rfl, _, H.ls, A⟩
   exact hF.elim
  refine aw_exit (i := 0) (by kernel_rfl) ?_
  exact nr hm fun e => .inl ⟨_, _, rfl, e, _, H.ls, A⟩
 clear ho
 clear A
 intro e fr h11 hQ
 rcases hQ with ⟨x4, x5, rfl, rfl, r2, H, A⟩ | hF
 ·show AW _ _ _ _ _ _ _
  refine aw_sq ?_
  obtain ⟨o4, ho, hm⟩ := bind_some hm
  refine aw_mono (Q' := fun e fr' h' => (∃ x14, e = .normal ∧ x14 = o4 ∧ ∃ r7, Has fr' 53 [(5, rowV r7 x14.length)] ∧ HH g h' [.lst r7 40 (lst e_S_api_Pair x14), .obj h.size (.cells none 2 [.str p1.Key, .str p1.Value]), .lst rp0 40 (lst e_S_api_Pair p0)] F) ∨ False) ?_ ?_
  ·replace hm := ho
   clear ho
   refine aw_sr 2 (at_L 2 [(47, .bool (!x5))] H fun fr H => aw_if 47 H hm (fun hb hm H => ?_) fun hb hm H => ?_)
   ·refine aw_rg 5 (at_g1 1 [(48, rowV r2 x4.length)] 49 _ _ H (fun fr => .of (s_ldA (by kernel_rfl) (A.ldA 1 rfl (o := 0) (n := 2) ⟨Nat.le_of_ble_eq_true rfl, rfl⟩))) fun fr t H => ?_)
    obtain ⟨h12, e5, A⟩ := A.pL 40 [.str p1.Key, .str p1.Value]
    refine at_ln 50 (rowV (some h11.size) (([p1] : List S_api_Pair).length)) e5 H fun fr t H => ?_
    obtain ⟨hb, hm⟩ := need_some hm
    obtain ⟨r8, h13, hx, A1⟩ := HH.appO enc_S_api_Pair (by decide) A 1 (xs := x4) (ys := ([p1] : List S_api_Pair)) rfl (row_first A 0 rfl (n := ([p1] : List S_api_Pair).length) (z := 2) rfl (by decide)) rfl rfl hb
    replace A : HH g h13 [.lst (some h11.size) 40 ([.str p1.Key, .str p1.Value]), .lst r8 40 (lst e_S_api_Pair (x4 ++ ([p1] : List S_api_Pair))), _, _] F := A1
    replace A := A.k3 1 2 3
    refine at_l1 51 _ _ H (fun fr => .of (s_app (s := rowS r2 x4.length) (by kernel_rfl) hx)) fun fr t H => ?_
    refine at_se 1 [(5, rowV r8 ((x4 ++ ([p1] : List S_api_Pair)).length))] H fun fr H => at_nil ?_
    exact .inl ⟨_, rfl, injA hm, _, H.ls, A⟩
   exact aw_sk (.inl ⟨_, rfl, injA hm, _, H.ls, A⟩)
  clear ho
  clear A
  intro e fr h14 hQ
  rcases hQ with ⟨x14, rfl, rfl, r7, H, A⟩ | hF
  ·show AW _ _ _ _ _ _ _
   refine aw_sr 2 (at_L 2 [(4, rowV r7 x14.length)] H fun fr H => aw_rt ?_)
   obtain rfl := injA hm
   refine ⟨.inl rfl, rowV r7 x14.length, rH H, ?_⟩
   replace A := A.k2 0 2
   exact ⟨r7, rfl, A⟩
  exact hF.elim
 exact hF.elim
def M_boulterref07_Merge_L0 (p0 : List S_api_Pair) (s : (List S_api_Pair) × Int) : Option (((List S_api_Pair) × Int) ⊕ (((List S_api_Pair)))) :=
 match s with
 | (x1, x2) => iteB (decide (x2 < (p0.length : Int))) ((ixV p0 x2).bind fun x4 => (M_boulterref07_put_sOR x1 x4).bind fun x5 => some (.inl (x5, IntKind.i64.wrap (x2 + 1)))) (some (.inr x1))
def M_boulterref07_Merge_L1 (p1 : List S_api_Pair) (s : (List S_api_Pair) × Int) : Option (((List S_api_Pair) × Int) ⊕ (((List S_api_Pair)))) :=
 match s with
 | (x6, x7) => iteB (decide (x7 < (p1.length : Int))) ((ixV p1 x7).bind fun x9 => (M_boulterref07_put_sOR x6 x9).bind fun x10 => some (.inl (x10, IntKind.i64.wrap (x7 + 1)))) (some (.inr x6))
def M_boulterref07_Merge_L2 (x8 : List S_api_Pair) (s : (List S_api_Pair) × Int) : Option (((List S_api_Pair) × Int) ⊕ (((List S_api_Pair)))) :=
 match s with
 | (x11, x12) => iteB (decide (x12 < (x8.length : Int))) (((ixV x8 x12).bind fun x15 => iteB (!(x15.Value == ([] : List UInt8))) ((ixV x8 x12).bind fun x16 => need (okN 32 (x11.length + ([x16] : List S_api_Pair).length)) <| some (x11 ++ ([x16] : List S_api_Pair))) (some x11) : Option (((List S_api_Pair)))).bind fun x14 => some (.inl (x14, IntKind.i64.wrap (x12 + 1)))) (some (.inr x11))
def M_boulterref07_Merge (p0 : List S_api_Pair) (p1 : List S_api_Pair) : Option ((List S_api_Pair)) :=
 (loop (M_boulterref07_Merge_L0 p0) (([] : List S_api_Pair), (0 : Int))).bind fun x3 => (loop (M_boulterref07_Merge_L1 p1) (x3, (0 : Int))).bind fun x8 => (loop (M_boulterref07_Merge_L2 x8) (([] : List S_api_Pair), (0 : Int))).bind fun x13 => some x13
theorem ok_boulterref07_Merge {p0 p1 q0} (hm : M_boulterref07_Merge p0 p1 = some q0) (A : HH g h [] F) (hc : canL (cfg.still 7) av = [vs e_S_api_Pair p0, vs e_S_api_Pair p1] := by kernel_rfl) : ∃ v h', Runs cfg g h 7 av v h' ∧ ∃ (rq0 : Option Nat), v = rowV rq0 q0.length ∧ HH g h' [.lst rq0 40 (lst e_S_api_Pair q0)] F := by
 refine rq1 56 [.tmp 4] hc ?_
 clear hc
 unfold M_boulterref07_Merge at hm
 refine bg 56 [(0, vs e_S_api_Pair p0), (1, vs e_S_api_Pair p1)] fun fr H => ?_
 refine aw_sr 1 (at_S 1 [] 2 H fun fr H => ?_)
 obtain ⟨h1, e1, A⟩ := A.pL 40 []
 refine at_ln 10 (rowV (some h.size) (([] : List S_api_Pair).length)) e1 H fun fr t H => ?_
 refine at_L 1 [(5, rowV (some h.size) (([] : List S_api_Pair).length))] H fun fr H => aw_sq (aw_sr 1 (at_L 1 [(6, Ai 0)] H fun fr H => aw_block (id := 0) (by kernel_rfl) ?_))
 replace A : HH g h1 [.lst (some h.size) 40 (lst e_S_api_Pair ([] : List S_api_Pair))] F := A
 obtain ⟨o1, ho, hm⟩ := bind_some hm
 refine aw_mono (Q' := fun e fr' h' => (∃ x3, e = .exit 0 ∧ x3 = o1 ∧ ∃ r2, Has fr' 56 [(1, vs e_S_api_Pair p1), (5, rowV r2 x3.length)] ∧ HH g h' [.lst r2 40 (lst e_S_api_Pair x3)] F) ∨ False) ?_ ?_
 ·refine aw_loop (by kernel_rfl) (fun (s : (List S_api_Pair) × Int) fr' h' => ∃ x1 x2, (x1, x2) = s ∧ ∃ r1, Has fr' 56 [(0, vs e_S_api_Pair p0), (1, vs e_S_api_Pair p1), (5, rowV r1 x1.length), (6, Ai x2)] ∧ HH g h' [.lst r1 40 (lst e_S_api_Pair x1)] F) ho ⟨_, _, rfl, some h.size, H.ls, A⟩ ?_
  clear ho hm H A
  intro s q fr h2 hI hm
  obtain ⟨x1, x2, rfl, r1, H, A⟩ := hI
  unfold M_boulterref07_Merge_L0 at hm
  refine aw_sq (aw_sr 4 (at_L 4 [(14, .bool (decide (x2 < (p0.length : Int))))] H fun fr H => aw_if 14 H hm (fun hb hm H => ?_) fun hb hm H => ?_))
  ·refine aw_kn id (aw_sq (aw_block (id := 1) (by kernel_rfl) ?_))
   refine aw_rg 7 ?_
   obtain ⟨x4, hx, hm⟩ := bind_some hm
   refine at_g1 3 [(17, rowV r1 x1.length)] 20 (.vptr [.str x4.Key, .str x4.Value]) h2 H (fun fr => .of (s_ixV (e := e_S_api_Pair) (x := x4) enc_S_api_Pair (by decide) (by kernel_rfl) hx)) fun fr t H => ?_
   refine at_l1 21 (.agg [.str x4.Key, .str x4.Value]) h2 H (fun fr => .of (s_lv (by kernel_rfl))) fun fr t H => ?_
   obtain ⟨x5, hx, hm⟩ := bind_some hm
   obtain ⟨v1, h3, hr, rqw1, rfl, A1⟩ := ok_boulterref07_put_sOR (av := [rowV r1 x1.length, .agg [.str x4.Key, .str x4.Value]]) hx (A.cut 1)
   replace A := A.g12 A1
   refine at_lc1 22 hr H fun fr t H => ?_
   refine at_se 1 [(0, vs e_S_api_Pair p0), (1, vs e_S_api_Pair p1), (5, rowV rqw1 x5.length), (6, Ai x2)] H fun fr H => at_nr 3 id (at_se 3 [(0, vs e_S_api_Pair p0), (1, vs e_S_api_Pair p1), (5, rowV rqw1 x5.length), (6, Ai (IntKind.i64.wrap (x2 + 1)))] H fun fr H => at_nil ?_)
   replace A := A.d1
   exact nx hm ⟨_, _, rfl, rqw1, H.ls, A⟩
  refine aw_exit (i := 0) (by kernel_rfl) ?_
  exact nr hm fun e => .inl ⟨_, rfl, e, _, H.ls, A⟩
 clear ho
 clear A
 intro e fr h4 hQ
 rcases hQ with ⟨x3, rfl, rfl, r2, H, A⟩ | hF
 ·show AW _ _ _ _ _ _ _
  refine aw_sq (aw_sr 1 (at_L 1 [(7, Ai 0)] H fun fr H => aw_block (id := 2) (by kernel_rfl) ?_))
  obtain ⟨o2, ho, hm⟩ := bind_some hm
  refine aw_mono (Q' := fun e fr' h' => (∃ x8, e = .exit 2 ∧ x8 = o2 ∧ ∃ r4, Has fr' 56 [(5, rowV r4 x8.length)] ∧ HH g h' [.lst r4 40 (lst e_S_api_Pair x8)] F) ∨ False) ?_ ?_
  ·refine aw_loop (by kernel_rfl) (fun (s : (List S_api_Pair) × Int) fr' h' => ∃ x6 x7, (x6, x7) = s ∧ ∃ r3, Has fr' 56 [(1, vs e_S_api_Pair p1), (5, rowV r3 x6.length), (7, Ai x7)] ∧ HH g h' [.lst r3 40 (lst e_S_api_Pair x6)] F) ho ⟨_, _, rfl, _, H.ls, A⟩ ?_
   clear ho hm H A
   intro s q fr h5 hI hm
   obtain ⟨x6, x7, rfl, r3, H, A⟩ := hI
   unfold M_boulterref07_Merge_L1 at hm
   refine aw_sq (aw_sr 4 (at_L 4 [(26, .bool (decide (x7 < (p1.length : Int))))] H fun fr H => aw_if 26 H hm (fun hb hm H => ?_) fun hb hm H => ?_))
   ·refine aw_kn id (aw_sq (aw_block (id := 3) (by kernel_rfl) ?_))
    refine aw_rg 7 ?_
    obtain ⟨x9, hx, hm⟩ := bind_some hm
    refine at_g1 3 [(29, rowV r3 x6.length)] 32 (.vptr [.str x9.Key, .str x9.Value]) h5 H (fun fr => .of (s_ixV (e := e_S_api_Pair) (x := x9) enc_S_api_Pair (by decide) (by kernel_rfl) hx)) fun fr t H => ?_
    refine at_l1 33 (.agg [.str x9.Key, .str x9.Value]) h5 H (fun fr => .of (s_lv (by kernel_rfl))) fun fr t H => ?_
    obtain ⟨x10, hx, hm⟩ := bind_some hm
    obtain ⟨v1, h6, hr, rqw2, rfl, A1⟩ := ok_boulterref07_put_sOR (av := [rowV r3 x6.length, .agg [.str x9.Key, .str x9.Value]]) hx (A.cut 1)
    replace A := A.g12 A1
    refine at_lc1 34 hr H fun fr t H => ?_
    refine at_se 1 [(1, vs e_S_api_Pair p1), (5, rowV rqw2 x10.length), (7, Ai x7)] H fun fr H => at_nr 3 id (at_se 3 [(1, vs e_S_api_Pair p1), (5, rowV rqw2 x10.length), (7, Ai (IntKind.i64.wrap (x7 + 1)))] H fun fr H => at_nil ?_)
    replace A := A.d1
    exact nx hm ⟨_, _, rfl, rqw2, H.ls, A⟩
   refine aw_exit (i := 2) (by kernel_rfl) ?_
   exact nr hm fun e => .inl ⟨_, rfl, e, _, H.ls, A⟩
  clear ho
  clear A
  intro e fr h7 hQ
  rcases hQ with ⟨x8, rfl, rfl, r4, H, A⟩ | hF
  ·show AW _ _ _ _ _ _ _
   refine aw_sr 2 ?_
   obtain ⟨h8, e2, A⟩ := A.pL 40 []
   refine at_ln 35 (rowV (some h7.size) (([] : List S_api_Pair).length)) e2 H fun fr t H => ?_
   refine at_L 1 [(8, rowV (some h7.size) (([] : List S_api_Pair).length))] H fun fr H => aw_sq (aw_sr 1 (at_L 1 [(9, Ai 0)] H fun fr H => aw_block (id := 4) (by kernel_rfl) ?_))
   replace A : HH g h8 [.lst (some h7.size) 40 (lst e_S_api_Pair ([] : List S_api_Pair)), _] F := A
   obtain ⟨o3, ho, hm⟩ := bind_some hm
   refine aw_mono (Q' := fun e fr' h' => (∃ x13, e = .exit 4 ∧ x13 = o3 ∧ ∃ r6, Has fr' 56 [(8, rowV r6 x13.length)] ∧ HH g h' [.lst r6 40 (lst e_S_api_Pair x13)] F) ∨ False) ?_ ?_
   ·refine aw_loop (by kernel_rfl) (fun (s : (List S_api_Pair) × Int) fr' h' => ∃ x11 x12, (x11, x12) = s ∧ ∃ r5, Has fr' 56 [(5, rowV r4 x8.length), (8, rowV r5 x11.length), (9, Ai x12)] ∧ HH g h' [.lst r5 40 (lst e_S_api_Pair x11), .lst r4 40 (lst e_S_api_Pair x8)] F) ho ⟨_, _, rfl, some h7.size, H.ls, A⟩ ?_
    clear ho hm H A
    intro s q fr h9 hI hm
    obtain ⟨x11, x12, rfl, r5, H, A⟩ := hI
    unfold M_boulterref07_Merge_L2 at hm
    refine aw_sq (aw_sr 4 (at_L 4 [(39, .bool (decide (x12 < (x8.length : Int))))] H fun fr H => aw_if 39 H hm (fun hb hm H => ?_) fun hb hm H => ?_))
    ·refine aw_kn id (aw_sq ?_)
     obtain ⟨o4, ho, hm⟩ := bind_some hm
     refine aw_mono (Q' := fun e fr' h' => (∃ x14, e = .normal ∧ x14 = o4 ∧ ∃ r7, Has fr' 56 [(5, rowV r4 x8.length), (8, rowV r7 x14.length), (9, Ai x12)] ∧ HH g h' [.lst r7 40 (lst e_S_api_Pair x14), .lst r4 40 (lst e_S_api_Pair x8)] F) ∨ False) ?_ ?_
     ·replace hm := ho
      clear ho
      refine aw_block (id := 5) (by kernel_rfl) ?_
      refine aw_sr 6 ?_
      obtain ⟨x15, hx, hm⟩ := bind_some hm
      obtain ⟨i1, er1, _, hx, hq1⟩ := HH.ixO enc_S_api_Pair (by decide) A 1 (xs := x8) rfl hx
      refine at_g1 2 [] 44 (.ptr (some (i1, x12.toNat * 2))) h9 H (fun fr => .of (s_ixL (s := rowS r4 x8.length) (by kernel_rfl) hx)) fun fr t H => ?_
      refine at_g1 1 [] 46 _ _ H (fun fr => .of (s_ld (by kernel_rfl) (row_ld1 enc_S_api_Pair (HH.row A 1 rfl er1) hq1 (o := 1) rfl))) fun fr t H => ?_
      refine at_L 1 [(47, .bool (!(x15.Value == ([] : List UInt8))))] H fun fr H => aw_if 47 H hm (fun hb hm H => ?_) fun hb hm H => ?_
      ·refine aw_rg 8 ?_
       obtain ⟨x16, hx, hm⟩ := bind_some hm
       obtain ⟨i2, er2, _, hx, hq2⟩ := HH.ixO enc_S_api_Pair (by decide) A 1 (xs := x8) rfl hx
       refine at_g1 3 [(48, rowV r5 x11.length)] 51 (.ptr (some (i2, x12.toNat * 2))) h9 H (fun fr => .of (s_ixL (s := rowS r4 x8.length) (by kernel_rfl) hx)) fun fr t H => ?_
       refine at_l1 52 _ _ H (fun fr => .of (s_ldA (by kernel_rfl) (row_ldA enc_S_api_Pair (HH.row A 1 rfl er2) hq2 0 2 (Nat.le_of_ble_eq_true rfl)))) fun fr t H => ?_
       obtain ⟨h10, e3, A⟩ := A.pL 40 (e_S_api_Pair x16)
       refine at_ln 53 (rowV (some h9.size) (([x16] : List S_api_Pair).length)) e3 H fun fr t H => ?_
       obtain ⟨hb, hm⟩ := need_some hm
       obtain ⟨r8, h11, hx, A1⟩ := HH.appO enc_S_api_Pair (by decide) A 1 (xs := x11) (ys := ([x16] : List S_api_Pair)) rfl (row_first A 0 rfl (n := ([x16] : List S_api_Pair).length) (z := 2) rfl (by decide)) rfl rfl hb
       replace A : HH g h11 [.lst (some h9.size) 40 ((e_S_api_Pair x16)), .lst r8 40 (lst e_S_api_Pair (x11 ++ ([x16] : List S_api_Pair))), _] F := A1
       replace A := A.k2 1 2
       refine at_l1 54 _ _ H (fun fr => .of (s_app (s := rowS r5 x11.length) (by kernel_rfl) hx)) fun fr t H => ?_
       refine at_se 1 [(5, rowV r4 x8.length), (8, rowV r8 ((x11 ++ ([x16] : List S_api_Pair)).length)), (9, Ai x12)] H fun fr H => at_nil ?_
       exact .inl ⟨_, rfl, injA hm, _, H.ls, A⟩
      exact aw_sk (.inl ⟨_, rfl, injA hm, _, H.ls, A⟩)
     clear ho
     clear A
     intro e fr h12 hQ
     rcases hQ with ⟨x14, rfl, rfl, r7, H, A⟩ | hF
     ·show AW _ _ _ _ _ _ _
      refine aw_rg 3 (at_se 3 [(5, rowV r4 x8.length), (8, rowV r7 x14.length), (9, Ai (IntKind.i64.wrap (x12 + 1)))] H fun fr H => at_nil ?_)
      exact nx hm ⟨_, _, rfl, _, H.ls, A⟩
     exact hF.elim
    refine aw_exit (i := 4) (by kernel_rfl) ?_
    replace A := A.d1
    exact nr hm fun e => .inl ⟨_, rfl, e, _, H.ls, A⟩
   clear ho
   clear A
   intro e fr h13 hQ
   rcases hQ with ⟨x13, rfl, rfl, r6, H, A⟩ | hF
   ·show AW _ _ _ _ _ _ _
    refine aw_sr 2 (at_L 2 [(4, rowV r6 x13.length)] H fun fr H => aw_rt ?_)
    obtain rfl := injA hm
    exact ⟨.inl rfl, _, rH H, _, rfl, A⟩
   exact hF.elim
  exact hF.elim
 exact hF.elim
def M_attrs_number_1_sSpQ5O_L0 (p0 : List UInt8) (s : Int × Int) : Option ((Int × Int) ⊕ ((Int) ⊕ (Int))) :=
 match s with
 | (x1, x2) => iteB (decide (x2 < (p0.length : Int))) ((ixS p0 x2).bind fun x5 => (iteB (decide (x5 < 48)) (some true) ((ixS p0 x2).bind fun x7 => some (decide (x7 > 57))) : Option (Bool)).bind fun x6 => iteB x6 (some (.inr (.inr (2 : Int)))) ((ixS p0 x2).bind fun x8 => some (.inl (IntKind.i64.wrap ((IntKind.i64.wrap ((10 : Int) * x1)) + (IntKind.i64.wrap (IntKind.u8.wrap (x8 - 48)))), IntKind.i64.wrap (x2 + 1))))) (some (.inr (.inl x1)))
def M_attrs_number_1_sSpQ5O (p0 : List UInt8) (p1_0 : S_api_Member) : Option (Int × S_api_Member) :=
 iteB (((p0.length : Int) == 0) || (decide ((p0.length : Int) > 16))) (some ((2 : Int), p1_0)) ((loop (M_attrs_number_1_sSpQ5O_L0 p0) ((0 : Int), (0 : Int))).bind fun o1 => (match o1 with | .inl x3 => iteB (decide (x3 > 9007199254740991)) (some ((6 : Int), p1_0)) (some ((0 : Int), (⟨p1_0.Name, p1_0.Link, p1_0.Kind, p1_0.Mode, p1_0.Uid, x3, p1_0.Uname, p1_0.Gname, p1_0.Major, p1_0.Minor, p1_0.Time, p1_0.Extra, p1_0.Data⟩ : S_api_Member))) | .inr x4 => some (x4, p1_0)))
theorem ok_attrs_number_1_sSpQ5O {p0 p1_0 bp1_0 rp1_0_12 q0 u0} (hm : M_attrs_number_1_sSpQ5O p0 p1_0 = some (q0, u0)) (A : HH g h [.obj bp1_0 (.cells none 2 (w_api_Member_12 p1_0 (rowV rp1_0_12 p1_0.Extra.length))), .lst rp1_0_12 40 (lst e_S_api_Pair p1_0.Extra)] F) (hc : canL (cfg.still 54) av = [.str p0, .vptr [.ptr (some (bp1_0, 5))]] := by kernel_rfl) : ∃ v h', Runs cfg g h 54 av v h' ∧ v = Ai q0 ∧ HH g h' [.obj bp1_0 (.cells none 2 (w_api_Member_12 u0 (rowV rp1_0_12 p1_0.Extra.length))), .lst rp1_0_12 40 (lst e_S_api_Pair p1_0.Extra)] F := by
 refine rq1 43 [.tmp 3] hc ?_
 clear hc
 unfold M_attrs_number_1_sSpQ5O at hm
 refine bg 43 [(0, .str p0), (1, .vptr [.ptr (some (bp1_0, 5))])] fun fr H => ?_
 refine aw_sr 1 (at_L 1 [] H fun fr H => aw_sq (aw_sr 8 (at_sl 4 [(9, .bool ((p0.length : Int) == 0))] H fun fr H => at_cl 4 (fun fr' h' => h = h' ∧ Has fr' 43 [(0, .str p0), (1, .vptr [.ptr (some (bp1_0, 5))]), (13, .bool (((p0.length : Int) == 0) || (decide ((p0.length : Int) > 16))))]) ?_ ?_)))
 ·cases hb : ((p0.length : Int) == 0 : Bool) with
  | true =>
   replace H := H.kn 9 hb
   exact at_sl 4 [(13, .bool true)] H fun fr H => at_zb H hb
  | false =>
   replace H := H.kn 9 hb
   exact at_sl 4 [(13, .bool (decide ((p0.length : Int) > 16)))] H fun fr H => at_zb H hb
 intro t fr h' hK
 obtain ⟨e, H⟩ := hK
 subst e
 refine at_nl id (aw_if 13 H hm (fun hb hm H => ?_) fun hb hm H => ?_)
 ·refine aw_sr 1 (at_L 1 [(3, Ai 2)] H fun fr H => aw_rt ?_)
  obtain ⟨rfl, rfl⟩ := injB hm
  exact ⟨.inl rfl, _, rH H, rfl, A⟩
 refine aw_ks 1 id (at_L 1 [(4, Ai 0)] H fun fr H => aw_sq (aw_sr 3 (at_L 3 [(15, Ai (p0.length : Int)), (16, Ai 0)] H fun fr H => aw_block (id := 0) (by kernel_rfl) ?_)))
 obtain ⟨o1, ho, hm⟩ := bind_some hm
 refine aw_mono (Q' := fun e fr' h' => (∃ x3, e = .exit 0 ∧ .inl x3 = o1 ∧ Has fr' 43 [(1, .vptr [.ptr (some (bp1_0, 5))]), (4, Ai x3)] ∧ HH g h' [.obj bp1_0 (.cells none 2 (w_api_Member_12 p1_0 (rowV rp1_0_12 p1_0.Extra.length))), .lst rp1_0_12 40 (lst e_S_api_Pair p1_0.Extra)] F) ∨ (∃ x4, e = .ret ∧ .inr x4 = o1 ∧ Has fr' 43 [(3, Ai x4)] ∧ HH g h' [.obj bp1_0 (.cells none 2 (w_api_Member_12 p1_0 (rowV rp1_0_12 p1_0.Extra.length))), .lst rp1_0_12 40 (lst e_S_api_Pair p1_0.Extra)] F) ∨ False) ?_ ?_
 ·refine aw_loop (by kernel_rfl) (fun (s : Int × Int) fr' h' => ∃ x1 x2, (x1, x2) = s ∧ Has fr' 43 [(0, .str p0), (1, .vptr [.ptr (some (bp1_0, 5))]), (4, Ai x1), (15, Ai (p0.length : Int)), (16, Ai x2)] ∧ HH g h' [.obj bp1_0 (.cells none 2 (w_api_Member_12 p1_0 (rowV rp1_0_12 p1_0.Extra.length))), .lst rp1_0_12 40 (lst e_S_api_Pair p1_0.Extra)] F) ho ⟨_, _, rfl, H.ls, A⟩ ?_
  clear ho hm H A
  intro s q fr h1 hI hm
  obtain ⟨x1, x2, rfl, H, A⟩ := hI
  unfold M_attrs_number_1_sSpQ5O_L0 at hm
  refine aw_sr 1 (at_L 1 [(17, .bool (decide (x2 < (p0.length : Int))))] H fun fr H => aw_sq (aw_if 17 H hm (fun hb hm H => ?_) fun hb hm H => ?_))
  ·refine aw_kn id (aw_sq (aw_block (id := 1) (by kernel_rfl) ?_))
   refine aw_sr 2 (at_L 2 [(5, Ai x2)] H fun fr H => aw_sq (aw_sr 10 ?_))
   obtain ⟨x5, hx, hm⟩ := bind_some hm
   refine at_g1 2 [] 21 (Ab x5) h1 H (fun fr => .of (s_ixS (by kernel_rfl) hx)) fun fr t H => ?_
   refine at_sl 2 [(23, .bool (decide (x5 < 48)))] H fun fr H => ?_
   obtain ⟨x6, ho, hm⟩ := bind_some hm
   refine at_cl 5 (fun fr' h' => Has fr' 43 [(0, .str p0), (1, .vptr [.ptr (some (bp1_0, 5))]), (4, Ai x1), (5, Ai x2), (15, Ai (p0.length : Int)), (16, Ai x2), (28, .bool x6)] ∧ HH g h' [.obj bp1_0 (.cells none 2 (w_api_Member_12 p1_0 (rowV rp1_0_12 p1_0.Extra.length))), .lst rp1_0_12 40 (lst e_S_api_Pair p1_0.Extra)] F) ?_ ?_
   ·rcases iteB_some ho with ⟨hb, hm⟩ | ⟨hb, hm⟩
    ·replace H := H.kn 23 hb
     refine at_sl 5 [(28, .bool true)] H fun fr H => ?_
     obtain rfl := injA hm
     exact at_nil ⟨H.ls, A⟩
    replace H := H.kn 23 hb
    obtain ⟨x7, hx, hm⟩ := bind_some hm
    refine at_g1 2 [] 26 (Ab x7) h1 H (fun fr => .of (s_ixS (by kernel_rfl) hx)) fun fr t H => ?_
    refine at_sl 2 [(28, .bool (decide (x7 > 57)))] H fun fr H => ?_
    obtain rfl := injA hm
    exact at_nil ⟨H.ls, A⟩
   clear A
   intro t fr h2 hK
   obtain ⟨H, A⟩ := hK
   refine at_nl id (aw_if 28 H hm (fun hb hm H => ?_) fun hb hm H => ?_)
   ·refine aw_sr 1 (at_L 1 [(3, Ai 2)] H fun fr H => aw_rt ?_)
    exact nr hm fun e => Or.inr (.inl ⟨_, rfl, e, H.ls, A⟩)
   refine aw_kr 9 id ?_
   obtain ⟨x8, hx, hm⟩ := bind_some hm
   refine at_g1 4 [(30, Ai (IntKind.i64.wrap ((10 : Int) * x1)))] 33 (Ab x8) h2 H (fun fr => .of (s_ixS (by kernel_rfl) hx)) fun fr t H => ?_
   refine at_se 4 [(0, .str p0), (1, .vptr [.ptr (some (bp1_0, 5))]), (4, Ai (IntKind.i64.wrap ((IntKind.i64.wrap ((10 : Int) * x1)) + (IntKind.i64.wrap (IntKind.u8.wrap (x8 - 48)))))), (15, Ai (p0.length : Int)), (16, Ai x2)] H fun fr H => at_nr 2 id (at_se 2 [(0, .str p0), (1, .vptr [.ptr (some (bp1_0, 5))]), (4, Ai (IntKind.i64.wrap ((IntKind.i64.wrap ((10 : Int) * x1)) + (IntKind.i64.wrap (IntKind.u8.wrap (x8 - 48)))))), (15, Ai (p0.length : Int)), (16, Ai (IntKind.i64.wrap (x2 + 1)))] H fun fr H => at_nil ?_)
   exact nx hm ⟨_, _, rfl, H.ls, A⟩
  refine aw_exit (i := 0) (by kernel_rfl) ?_
  exact nr hm fun e => .inl ⟨_, rfl, e, H.ls, A⟩
 clear ho
 clear A
 intro e fr h3 hQ
 rcases hQ with ⟨x3, rfl, rfl, H, A⟩ | ⟨x4, rfl, rfl, H, A⟩ | hF
 ·show AW _ _ _ _ _ _ _
  refine aw_sq (aw_sr 2 (at_L 2 [(39, .bool (decide (x3 > 9007199254740991)))] H fun fr H => aw_if 39 H hm (fun hb hm H => ?_) fun hb hm H => ?_))
  ·refine aw_sr 1 (at_L 1 [(3, Ai 6)] H fun fr H => aw_rt ?_)
   obtain ⟨rfl, rfl⟩ := injB hm
   exact ⟨.inl rfl, _, rH H, rfl, A⟩
  refine aw_ks 4 id (at_l1 40 (.ptr (some (bp1_0, 5))) h3 H (fun fr => .of (s_lv (by kernel_rfl))) fun fr t H => ?_)
  obtain ⟨h4, hx, A⟩ := A.s0 5 [Ai x3] [_, _, _, _, _, _, _, _, _, _, _, _, _, _]
  refine at_gs 2 [] hx H fun fr t H => ?_
  refine at_ns 1 id (at_L 1 [(3, Ai 0)] H fun fr H => aw_rt ?_)
  obtain ⟨rfl, rfl⟩ := injB hm
  exact ⟨.inl rfl, _, rH H, rfl, A⟩
 ·obtain ⟨rfl, rfl⟩ := injB hm
  exact ⟨.inl rfl, _, rH H, rfl, A⟩
 exact hF.elim
def M_attrs_number_1_sSpQ4O_L0 (p0 : List UInt8) (s : Int × Int) : Option ((Int × Int) ⊕ ((Int) ⊕ (Int))) :=
 match s with
 | (x1, x2) => iteB (decide (x2 < (p0.length : Int))) ((ixS p0 x2).bind fun x5 => (iteB (decide (x5 < 48)) (some true) ((ixS p0 x2).bind fun x7 => some (decide (x7 > 57))) : Option (Bool)).bind fun x6 => iteB x6 (some (.inr (.inr (2 : Int)))) ((ixS p0 x2).bind fun x8 => some (.inl (IntKind.i64.wrap ((IntKind.i64.wrap ((10 : Int) * x1)) + (IntKind.i64.wrap (IntKind.u8.wrap (x8 - 48)))), IntKind.i64.wrap (x2 + 1))))) (some (.inr (.inl x1)))
def M_attrs_number_1_sSpQ4O (p0 : List UInt8) (p1_0 : S_api_Member) : Option (Int × S_api_Member) :=
 iteB (((p0.length : Int) == 0) || (decide ((p0.length : Int) > 16))) (some ((2 : Int), p1_0)) ((loop (M_attrs_number_1_sSpQ4O_L0 p0) ((0 : Int), (0 : Int))).bind fun o1 => (match o1 with | .inl x3 => iteB (decide (x3 > 9007199254740991)) (some ((6 : Int), p1_0)) (some ((0 : Int), (⟨p1_0.Name, p1_0.Link, p1_0.Kind, p1_0.Mode, x3, p1_0.Gid, p1_0.Uname, p1_0.Gname, p1_0.Major, p1_0.Minor, p1_0.Time, p1_0.Extra, p1_0.Data⟩ : S_api_Member))) | .inr x4 => some (x4, p1_0)))
theorem ok_attrs_number_1_sSpQ4O {p0 p1_0 bp1_0 rp1_0_12 q0 u0} (hm : M_attrs_number_1_sSpQ4O p0 p1_0 = some (q0, u0)) (A : HH g h [.obj bp1_0 (.cells none 2 (w_api_Member_12 p1_0 (rowV rp1_0_12 p1_0.Extra.length))), .lst rp1_0_12 40 (lst e_S_api_Pair p1_0.Extra)] F) (hc : canL (cfg.still 54) av = [.str p0, .vptr [.ptr (some (bp1_0, 4))]] := by kernel_rfl) : ∃ v h', Runs cfg g h 54 av v h' ∧ v = Ai q0 ∧ HH g h' [.obj bp1_0 (.cells none 2 (w_api_Member_12 u0 (rowV rp1_0_12 p1_0.Extra.length))), .lst rp1_0_12 40 (lst e_S_api_Pair p1_0.Extra)] F := by
 refine rq1 43 [.tmp 3] hc ?_
 clear hc
 unfold M_attrs_number_1_sSpQ4O at hm
 refine bg 43 [(0, .str p0), (1, .vptr [.ptr (some (bp1_0, 4))])] fun fr H => ?_
 refine aw_sr 1 (at_L 1 [] H fun fr H => aw_sq (aw_sr 8 (at_sl 4 [(9, .bool ((p0.length : Int) == 0))] H fun fr H => at_cl 4 (fun fr' h' => h = h' ∧ Has fr' 43 [(0, .str p0), (1, .vptr [.ptr (some (bp1_0, 4))]), (13, .bool (((p0.length : Int) == 0) || (decide ((p0.length : Int) > 16))))]) ?_ ?_)))
 ·cases hb : ((p0.length : Int) == 0 : Bool) with
  | true =>
   replace H := H.kn 9 hb
   exact at_sl 4 [(13, .bool true)] H fun fr H => at_zb H hb
  | false =>
   replace H := H.kn 9 hb
   exact at_sl 4 [(13, .bool (decide ((p0.length : Int) > 16)))] H fun fr H => at_zb H hb
 intro t fr h' hK
 obtain ⟨e, H⟩ := hK
 subst e
 refine at_nl id (aw_if 13 H hm (fun hb hm H => ?_) fun hb hm H => ?_)
 ·refine aw_sr 1 (at_L 1 [(3, Ai 2)] H fun fr H => aw_rt ?_)
  obtain ⟨rfl, rfl⟩ := injB hm
  exact ⟨.inl rfl, _, rH H, rfl, A⟩
 refine aw_ks 1 id (at_L 1 [(4, Ai 0)] H fun fr H => aw_sq (aw_sr 3 (at_L 3 [(15, Ai (p0.length : Int)), (16, Ai 0)] H fun fr H => aw_block (id := 0) (by kernel_rfl) ?_)))
 obtain ⟨o1, ho, hm⟩ := bind_some hm
 refine aw_mono (Q' := fun e fr' h' => (∃ x3, e = .exit 0 ∧ .inl x3 = o1 ∧ Has fr' 43 [(1, .vptr [.ptr (some (bp1_0, 4))]), (4, Ai x3)] ∧ HH g h' [.obj bp1_0 (.cells none 2 (w_api_Member_12 p1_0 (rowV rp1_0_12 p1_0.Extra.length))), .lst rp1_0_12 40 (lst e_S_api_Pair p1_0.Extra)] F) ∨ (∃ x4, e = .ret ∧ .inr x4 = o1 ∧ Has fr' 43 [(3, Ai x4)] ∧ HH g h' [.obj bp1_0 (.cells none 2 (w_api_Member_12 p1_0 (rowV rp1_0_12 p1_0.Extra.length))), .lst rp1_0_12 40 (lst e_S_api_Pair p1_0.Extra)] F) ∨ False) ?_ ?_
 ·refine aw_loop (by kernel_rfl) (fun (s : Int × Int) fr' h' => ∃ x1 x2, (x1, x2) = s ∧ Has fr' 43 [(0, .str p0), (1, .vptr [.ptr (some (bp1_0, 4))]), (4, Ai x1), (15, Ai (p0.length : Int)), (16, Ai x2)] ∧ HH g h' [.obj bp1_0 (.cells none 2 (w_api_Member_12 p1_0 (rowV rp1_0_12 p1_0.Extra.length))), .lst rp1_0_12 40 (lst e_S_api_Pair p1_0.Extra)] F) ho ⟨_, _, rfl, H.ls, A⟩ ?_
  clear ho hm H A
  intro s q fr h1 hI hm
  obtain ⟨x1, x2, rfl, H, A⟩ := hI
  unfold M_attrs_number_1_sSpQ4O_L0 at hm
  refine aw_sr 1 (at_L 1 [(17, .bool (decide (x2 < (p0.length : Int))))] H fun fr H => aw_sq (aw_if 17 H hm (fun hb hm H => ?_) fun hb hm H => ?_))
  ·refine aw_kn id (aw_sq (aw_block (id := 1) (by kernel_rfl) ?_))
   refine aw_sr 2 (at_L 2 [(5, Ai x2)] H fun fr H => aw_sq (aw_sr 10 ?_))
   obtain ⟨x5, hx, hm⟩ := bind_some hm
   refine at_g1 2 [] 21 (Ab x5) h1 H (fun fr => .of (s_ixS (by kernel_rfl) hx)) fun fr t H => ?_
   refine at_sl 2 [(23, .bool (decide (x5 < 48)))] H fun fr H => ?_
   obtain ⟨x6, ho, hm⟩ := bind_some hm
   refine at_cl 5 (fun fr' h' => Has fr' 43 [(0, .str p0), (1, .vptr [.ptr (some (bp1_0, 4))]), (4, Ai x1), (5, Ai x2), (15, Ai (p0.length : Int)), (16, Ai x2), (28, .bool x6)] ∧ HH g h' [.obj bp1_0 (.cells none 2 (w_api_Member_12 p1_0 (rowV rp1_0_12 p1_0.Extra.length))), .lst rp1_0_12 40 (lst e_S_api_Pair p1_0.Extra)] F) ?_ ?_
   ·rcases iteB_some ho with ⟨hb, hm⟩ | ⟨hb, hm⟩
    ·replace H := H.kn 23 hb
     refine at_sl 5 [(28, .bool true)] H fun fr H => ?_
     obtain rfl := injA hm
     exact at_nil ⟨H.ls, A⟩
    replace H := H.kn 23 hb
    obtain ⟨x7, hx, hm⟩ := bind_some hm
    refine at_g1 2 [] 26 (Ab x7) h1 H (fun fr => .of (s_ixS (by kernel_rfl) hx)) fun fr t H => ?_
    refine at_sl 2 [(28, .bool (decide (x7 > 57)))] H fun fr H => ?_
    obtain rfl := injA hm
    exact at_nil ⟨H.ls, A⟩
   clear A
   intro t fr h2 hK
   obtain ⟨H, A⟩ := hK
   refine at_nl id (aw_if 28 H hm (fun hb hm H => ?_) fun hb hm H => ?_)
   ·refine aw_sr 1 (at_L 1 [(3, Ai 2)] H fun fr H => aw_rt ?_)
    exact nr hm fun e => Or.inr (.inl ⟨_, rfl, e, H.ls, A⟩)
   refine aw_kr 9 id ?_
   obtain ⟨x8, hx, hm⟩ := bind_some hm
   refine at_g1 4 [(30, Ai (IntKind.i64.wrap ((10 : Int) * x1)))] 33 (Ab x8) h2 H (fun fr => .of (s_ixS (by kernel_rfl) hx)) fun fr t H => ?_
   refine at_se 4 [(0, .str p0), (1, .vptr [.ptr (some (bp1_0, 4))]), (4, Ai (IntKind.i64.wrap ((IntKind.i64.wrap ((10 : Int) * x1)) + (IntKind.i64.wrap (IntKind.u8.wrap (x8 - 48)))))), (15, Ai (p0.length : Int)), (16, Ai x2)] H fun fr H => at_nr 2 id (at_se 2 [(0, .str p0), (1, .vptr [.ptr (some (bp1_0, 4))]), (4, Ai (IntKind.i64.wrap ((IntKind.i64.wrap ((10 : Int) * x1)) + (IntKind.i64.wrap (IntKind.u8.wrap (x8 - 48)))))), (15, Ai (p0.length : Int)), (16, Ai (IntKind.i64.wrap (x2 + 1)))] H fun fr H => at_nil ?_)
   exact nx hm ⟨_, _, rfl, H.ls, A⟩
  refine aw_exit (i := 0) (by kernel_rfl) ?_
  exact nr hm fun e => .inl ⟨_, rfl, e, H.ls, A⟩
 clear ho
 clear A
 intro e fr h3 hQ
 rcases hQ with ⟨x3, rfl, rfl, H, A⟩ | ⟨x4, rfl, rfl, H, A⟩ | hF
 ·show AW _ _ _ _ _ _ _
  refine aw_sq (aw_sr 2 (at_L 2 [(39, .bool (decide (x3 > 9007199254740991)))] H fun fr H => aw_if 39 H hm (fun hb hm H => ?_) fun hb hm H => ?_))
  ·refine aw_sr 1 (at_L 1 [(3, Ai 6)] H fun fr H => aw_rt ?_)
   obtain ⟨rfl, rfl⟩ := injB hm
   exact ⟨.inl rfl, _, rH H, rfl, A⟩
  refine aw_ks 4 id (at_l1 40 (.ptr (some (bp1_0, 4))) h3 H (fun fr => .of (s_lv (by kernel_rfl))) fun fr t H => ?_)
  obtain ⟨h4, hx, A⟩ := A.s0 4 [Ai x3] [_, _, _, _, _, _, _, _, _, _, _, _, _, _]
  refine at_gs 2 [] hx H fun fr t H => ?_
  refine at_ns 1 id (at_L 1 [(3, Ai 0)] H fun fr H => aw_rt ?_)
  obtain ⟨rfl, rfl⟩ := injB hm
  exact ⟨.inl rfl, _, rH H, rfl, A⟩
 ·obtain ⟨rfl, rfl⟩ := injB hm
  exact ⟨.inl rfl, _, rH H, rfl, A⟩
 exact hF.elim
def M_attrs_number_1_sSpP_L0 (p0 : List UInt8) (s : Int × Int) : Option ((Int × Int) ⊕ ((Int) ⊕ (Int))) :=
 match s with
 | (x1, x2) => iteB (decide (x2 < (p0.length : Int))) ((ixS p0 x2).bind fun x5 => (iteB (decide (x5 < 48)) (some true) ((ixS p0 x2).bind fun x7 => some (decide (x7 > 57))) : Option (Bool)).bind fun x6 => iteB x6 (some (.inr (.inr (2 : Int)))) ((ixS p0 x2).bind fun x8 => some (.inl (IntKind.i64.wrap ((IntKind.i64.wrap ((10 : Int) * x1)) + (IntKind.i64.wrap (IntKind.u8.wrap (x8 - 48)))), IntKind.i64.wrap (x2 + 1))))) (some (.inr (.inl x1)))
def M_attrs_number_1_sSpP (p0 : List UInt8) (p1_0 : Int) : Option (Int × Int) :=
 iteB (((p0.length : Int) == 0) || (decide ((p0.length : Int) > 16))) (some ((2 : Int), p1_0)) ((loop (M_attrs_number_1_sSpP_L0 p0) ((0 : Int), (0 : Int))).bind fun o1 => (match o1 with | .inl x3 => iteB (decide (x3 > 9007199254740991)) (some ((6 : Int), p1_0)) (some ((0 : Int), x3)) | .inr x4 => some (x4, p1_0)))
theorem ok_attrs_number_1_sSpP {p0 p1_0 bp1_0 q0 u0} (hm : M_attrs_number_1_sSpP p0 p1_0 = some (q0, u0)) (A : HH g h [.obj bp1_0 (.cells none 2 [Ai p1_0])] F) (hc : canL (cfg.still 54) av = [.str p0, .vptr [.ptr (some (bp1_0, 0))]] := by kernel_rfl) : ∃ v h', Runs cfg g h 54 av v h' ∧ v = Ai q0 ∧ HH g h' [.obj bp1_0 (.cells none 2 [Ai u0])] F := by
 refine rq1 43 [.tmp 3] hc ?_
 clear hc
 unfold M_attrs_number_1_sSpP at hm
 refine bg 43 [(0, .str p0), (1, .vptr [.ptr (some (bp1_0, 0))])] fun fr H => ?_
 refine aw_sr 1 (at_L 1 [] H fun fr H => aw_sq (aw_sr 8 (at_sl 4 [(9, .bool ((p0.length : Int) == 0))] H fun fr H => at_cl 4 (fun fr' h' => h = h' ∧ Has fr' 43 [(0, .str p0), (1, .vptr [.ptr (some (bp1_0, 0))]), (13, .bool (((p0.length : Int) == 0) || (decide ((p0.length : Int) > 16))))]) ?_ ?_)))
 ·cases hb : ((p0.length : Int) == 0 : Bool) with
  | true =>
   replace H := H.kn 9 hb
   exact at_sl 4 [(13, .bool true)] H fun fr H => at_zb H hb
  | false =>
   replace H := H.kn 9 hb
   exact at_sl 4 [(13, .bool (decide ((p0.length : Int) > 16)))] H fun fr H => at_zb H hb
 intro t fr h' hK
 obtain ⟨e, H⟩ := hK
 subst e
 refine at_nl id (aw_if 13 H hm (fun hb hm H => ?_) fun hb hm H => ?_)
 ·refine aw_sr 1 (at_L 1 [(3, Ai 2)] H fun fr H => aw_rt ?_)
  obtain ⟨rfl, rfl⟩ := injB hm
  exact ⟨.inl rfl, _, rH H, rfl, A⟩
 refine aw_ks 1 id (at_L 1 [(4, Ai 0)] H fun fr H => aw_sq (aw_sr 3 (at_L 3 [(15, Ai (p0.length : Int)), (16, Ai 0)] H fun fr H => aw_block (id := 0) (by kernel_rfl) ?_)))
 obtain ⟨o1, ho, hm⟩ := bind_some hm
 refine aw_mono (Q' := fun e fr' h' => (∃ x3, e = .exit 0 ∧ .inl x3 = o1 ∧ Has fr' 43 [(1, .vptr [.ptr (some (bp1_0, 0))]), (4, Ai x3)] ∧ HH g h' [.obj bp1_0 (.cells none 2 [Ai p1_0])] F) ∨ (∃ x4, e = .ret ∧ .inr x4 = o1 ∧ Has fr' 43 [(3, Ai x4)] ∧ HH g h' [.obj bp1_0 (.cells none 2 [Ai p1_0])] F) ∨ False) ?_ ?_
 ·refine aw_loop (by kernel_rfl) (fun (s : Int × Int) fr' h' => ∃ x1 x2, (x1, x2) = s ∧ Has fr' 43 [(0, .str p0), (1, .vptr [.ptr (some (bp1_0, 0))]), (4, Ai x1), (15, Ai (p0.length : Int)), (16, Ai x2)] ∧ HH g h' [.obj bp1_0 (.cells none 2 [Ai p1_0])] F) ho ⟨_, _, rfl, H.ls, A⟩ ?_
  clear ho hm H A
  intro s q fr h1 hI hm
  obtain ⟨x1, x2, rfl, H, A⟩ := hI
  unfold M_attrs_number_1_sSpP_L0 at hm
  refine aw_sr 1 (at_L 1 [(17, .bool (decide (x2 < (p0.length : Int))))] H fun fr H => aw_sq (aw_if 17 H hm (fun hb hm H => ?_) fun hb hm H => ?_))
  ·refine aw_kn id (aw_sq (aw_block (id := 1) (by kernel_rfl) ?_))
   refine aw_sr 2 (at_L 2 [(5, Ai x2)] H fun fr H => aw_sq (aw_sr 10 ?_))
   obtain ⟨x5, hx, hm⟩ := bind_some hm
   refine at_g1 2 [] 21 (Ab x5) h1 H (fun fr => .of (s_ixS (by kernel_rfl) hx)) fun fr t H => ?_
   refine at_sl 2 [(23, .bool (decide (x5 < 48)))] H fun fr H => ?_
   obtain ⟨x6, ho, hm⟩ := bind_some hm
   refine at_cl 5 (fun fr' h' => Has fr' 43 [(0, .str p0), (1, .vptr [.ptr (some (bp1_0, 0))]), (4, Ai x1), (5, Ai x2), (15, Ai (p0.length : Int)), (16, Ai x2), (28, .bool x6)] ∧ HH g h' [.obj bp1_0 (.cells none 2 [Ai p1_0])] F) ?_ ?_
   ·rcases iteB_some ho with ⟨hb, hm⟩ | ⟨hb, hm⟩
    ·replace H := H.kn 23 hb
     refine at_sl 5 [(28, .bool true)] H fun fr H => ?_
     obtain rfl := injA hm
     exact at_nil ⟨H.ls, A⟩
    replace H := H.kn 23 hb
    obtain ⟨x7, hx, hm⟩ := bind_some hm
    refine at_g1 2 [] 26 (Ab x7) h1 H (fun fr => .of (s_ixS (by kernel_rfl) hx)) fun fr t H => ?_
    refine at_sl 2 [(28, .bool (decide (x7 > 57)))] H fun fr H => ?_
    obtain rfl := injA hm
    exact at_nil ⟨H.ls, A⟩
   clear A
   intro t fr h2 hK
   obtain ⟨H, A⟩ := hK
   refine at_nl id (aw_if 28 H hm (fun hb hm H => ?_) fun hb hm H => ?_)
   ·refine aw_sr 1 (at_L 1 [(3, Ai 2)] H fun fr H => aw_rt ?_)
    exact nr hm fun e => Or.inr (.inl ⟨_, rfl, e, H.ls, A⟩)
   refine aw_kr 9 id ?_
   obtain ⟨x8, hx, hm⟩ := bind_some hm
   refine at_g1 4 [(30, Ai (IntKind.i64.wrap ((10 : Int) * x1)))] 33 (Ab x8) h2 H (fun fr => .of (s_ixS (by kernel_rfl) hx)) fun fr t H => ?_
   refine at_se 4 [(0, .str p0), (1, .vptr [.ptr (some (bp1_0, 0))]), (4, Ai (IntKind.i64.wrap ((IntKind.i64.wrap ((10 : Int) * x1)) + (IntKind.i64.wrap (IntKind.u8.wrap (x8 - 48)))))), (15, Ai (p0.length : Int)), (16, Ai x2)] H fun fr H => at_nr 2 id (at_se 2 [(0, .str p0), (1, .vptr [.ptr (some (bp1_0, 0))]), (4, Ai (IntKind.i64.wrap ((IntKind.i64.wrap ((10 : Int) * x1)) + (IntKind.i64.wrap (IntKind.u8.wrap (x8 - 48)))))), (15, Ai (p0.length : Int)), (16, Ai (IntKind.i64.wrap (x2 + 1)))] H fun fr H => at_nil ?_)
   exact nx hm ⟨_, _, rfl, H.ls, A⟩
  refine aw_exit (i := 0) (by kernel_rfl) ?_
  exact nr hm fun e => .inl ⟨_, rfl, e, H.ls, A⟩
 clear ho
 clear A
 intro e fr h3 hQ
 rcases hQ with ⟨x3, rfl, rfl, H, A⟩ | ⟨x4, rfl, rfl, H, A⟩ | hF
 ·show AW _ _ _ _ _ _ _
  refine aw_sq (aw_sr 2 (at_L 2 [(39, .bool (decide (x3 > 9007199254740991)))] H fun fr H => aw_if 39 H hm (fun hb hm H => ?_) fun hb hm H => ?_))
  ·refine aw_sr 1 (at_L 1 [(3, Ai 6)] H fun fr H => aw_rt ?_)
   obtain ⟨rfl, rfl⟩ := injB hm
   exact ⟨.inl rfl, _, rH H, rfl, A⟩
  refine aw_ks 4 id (at_l1 40 (.ptr (some (bp1_0, 0))) h3 H (fun fr => .of (s_lv (by kernel_rfl))) fun fr t H => ?_)
  obtain ⟨h4, hx, A⟩ := A.s0 0 [Ai x3] [_]
  refine at_gs 2 [] hx H fun fr t H => ?_
  refine at_ns 1 id (at_L 1 [(3, Ai 0)] H fun fr H => aw_rt ?_)
  obtain ⟨rfl, rfl⟩ := injB hm
  exact ⟨.inl rfl, _, rH H, rfl, A⟩
 ·obtain ⟨rfl, rfl⟩ := injB hm
  exact ⟨.inl rfl, _, rH H, rfl, A⟩
 exact hF.elim
def M_stringslite_IndexByte (p0 : List UInt8) (p1 : Int) : Option (Int) :=
 (X_IndexByte p0 p1).bind fun x1 => some x1
theorem ok_stringslite_IndexByte {p0 p1 q0} (hm : M_stringslite_IndexByte p0 p1 = some q0) (A : HH g h [] F) (hc : canL (cfg.still 82) av = [.str p0, Ab p1] := by kernel_rfl) : ∃ v h', Runs cfg g h 82 av v h' ∧ v = Ai q0 ∧ HH g h' [] F := by
 refine rq1 8 [.tmp 4] hc ?_
 clear hc
 unfold M_stringslite_IndexByte at hm
 refine bg 8 [(0, .str p0), (1, Ab p1)] fun fr H => ?_
 refine aw_sr 1 (at_S 1 [] 4 H fun fr H => ?_)
 obtain ⟨x1, hx, hm⟩ := bind_some hm
 refine at_g1 2 [] 7 (Ai x1) h H (fun fr => Steps.call (by kernel_rfl) (runsIdx (C := cfg) (f := 106) (by kernel_rfl) (l := exts) rfl (by kernel_rfl) hx)) fun fr t H => ?_
 refine at_L 1 [(4, Ai x1)] H fun fr H => aw_rt ?_
 obtain rfl := injA hm
 exact ⟨.inl rfl, _, rH H, rfl, A⟩
def M_strings_IndexByte (p0 : List UInt8) (p1 : Int) : Option (Int) :=
 (M_stringslite_IndexByte p0 p1).bind fun x1 => some x1
theorem ok_strings_IndexByte {p0 p1 q0} (hm : M_strings_IndexByte p0 p1 = some q0) (A : HH g h [] F) (hc : canL (cfg.still 56) av = [.str p0, Ab p1] := by kernel_rfl) : ∃ v h', Runs cfg g h 56 av v h' ∧ v = Ai q0 ∧ HH g h' [] F := by
 refine rq1 8 [.tmp 4] hc ?_
 clear hc
 unfold M_strings_IndexByte at hm
 refine bg 8 [(0, .str p0), (1, Ab p1)] fun fr H => ?_
 refine aw_sr 1 (at_S 1 [] 4 H fun fr H => ?_)
 obtain ⟨x1, hx, hm⟩ := bind_some hm
 obtain ⟨v1, h1, hr, rfl, A1⟩ := ok_stringslite_IndexByte (av := [.str p0, Ab p1]) hx (A.cut 0)
 replace A := A.g00 A1
 refine at_gc1 2 [] 7 hr H fun fr t H => ?_
 refine at_L 1 [(4, Ai x1)] H fun fr H => aw_rt ?_
 obtain rfl := injA hm
 exact ⟨.inl rfl, _, rH H, rfl, A⟩
def M_attrs_plain_1_sSpQ7O (p0 : List UInt8) (p1_0 : S_api_Member) : Option (Int × S_api_Member) :=
 (M_strings_IndexByte p0 (0 : Int)).bind fun x1 => iteB (decide (x1 ≥ 0)) (some ((2 : Int), p1_0)) (some ((0 : Int), (⟨p1_0.Name, p1_0.Link, p1_0.Kind, p1_0.Mode, p1_0.Uid, p1_0.Gid, p1_0.Uname, p0, p1_0.Major, p1_0.Minor, p1_0.Time, p1_0.Extra, p1_0.Data⟩ : S_api_Member)))
theorem ok_attrs_plain_1_sSpQ7O {p0 p1_0 bp1_0 rp1_0_12 q0 u0} (hm : M_attrs_plain_1_sSpQ7O p0 p1_0 = some (q0, u0)) (A : HH g h [.obj bp1_0 (.cells none 2 (w_api_Member_12 p1_0 (rowV rp1_0_12 p1_0.Extra.length))), .lst rp1_0_12 40 (lst e_S_api_Pair p1_0.Extra)] F) (hc : canL (cfg.still 55) av = [.str p0, .vptr [.ptr (some (bp1_0, 7))]] := by kernel_rfl) : ∃ v h', Runs cfg g h 55 av v h' ∧ v = Ai q0 ∧ HH g h' [.obj bp1_0 (.cells none 2 (w_api_Member_12 u0 (rowV rp1_0_12 p1_0.Extra.length))), .lst rp1_0_12 40 (lst e_S_api_Pair p1_0.Extra)] F := by
 refine rq1 10 [.tmp 3] hc ?_
 clear hc
 unfold M_attrs_plain_1_sSpQ7O at hm
 refine bg 10 [(0, .str p0), (1, .vptr [.ptr (some (bp1_0, 7))])] fun fr H => ?_
 refine aw_sr 1 (at_L 1 [] H fun fr H => aw_sq (aw_sr 3 ?_))
 obtain ⟨x1, hx, hm⟩ := bind_some hm
 obtain ⟨v1, h1, hr, rfl, A1⟩ := ok_strings_IndexByte (av := [.str p0, Ab 0]) hx (A.cut 0)
 replace A := A.g00 A1
 refine at_gc1 1 [] 5 hr H fun fr t H => ?_
 refine at_L 1 [(6, .bool (decide (x1 ≥ 0)))] H fun fr H => aw_if 6 H hm (fun hb hm H => ?_) fun hb hm H => ?_
 ·refine aw_sr 1 (at_L 1 [(3, Ai 2)] H fun fr H => aw_rt ?_)
  obtain ⟨rfl, rfl⟩ := injB hm
  exact ⟨.inl rfl, _, rH H, rfl, A⟩
 refine aw_ks 4 id (at_l1 7 (.ptr (some (bp1_0, 7))) h1 H (fun fr => .of (s_lv (by kernel_rfl))) fun fr t H => ?_)
 obtain ⟨h2, hx, A⟩ := A.s0 7 [.str p0] [_, _, _, _, _, _, _, _, _, _, _, _, _, _]
 refine at_gs 2 [] hx H fun fr t H => ?_
 refine at_ns 1 id (at_L 1 [(3, Ai 0)] H fun fr H => aw_rt ?_)
 obtain ⟨rfl, rfl⟩ := injB hm
 exact ⟨.inl rfl, _, rH H, rfl, A⟩
def M_attrs_plain_1_sSpQ6O (p0 : List UInt8) (p1_0 : S_api_Member) : Option (Int × S_api_Member) :=
 (M_strings_IndexByte p0 (0 : Int)).bind fun x1 => iteB (decide (x1 ≥ 0)) (some ((2 : Int), p1_0)) (some ((0 : Int), (⟨p1_0.Name, p1_0.Link, p1_0.Kind, p1_0.Mode, p1_0.Uid, p1_0.Gid, p0, p1_0.Gname, p1_0.Major, p1_0.Minor, p1_0.Time, p1_0.Extra, p1_0.Data⟩ : S_api_Member)))
theorem ok_attrs_plain_1_sSpQ6O {p0 p1_0 bp1_0 rp1_0_12 q0 u0} (hm : M_attrs_plain_1_sSpQ6O p0 p1_0 = some (q0, u0)) (A : HH g h [.obj bp1_0 (.cells none 2 (w_api_Member_12 p1_0 (rowV rp1_0_12 p1_0.Extra.length))), .lst rp1_0_12 40 (lst e_S_api_Pair p1_0.Extra)] F) (hc : canL (cfg.still 55) av = [.str p0, .vptr [.ptr (some (bp1_0, 6))]] := by kernel_rfl) : ∃ v h', Runs cfg g h 55 av v h' ∧ v = Ai q0 ∧ HH g h' [.obj bp1_0 (.cells none 2 (w_api_Member_12 u0 (rowV rp1_0_12 p1_0.Extra.length))), .lst rp1_0_12 40 (lst e_S_api_Pair p1_0.Extra)] F := by
 refine rq1 10 [.tmp 3] hc ?_
 clear hc
 unfold M_attrs_plain_1_sSpQ6O at hm
 refine bg 10 [(0, .str p0), (1, .vptr [.ptr (some (bp1_0, 6))])] fun fr H => ?_
 refine aw_sr 1 (at_L 1 [] H fun fr H => aw_sq (aw_sr 3 ?_))
 obtain ⟨x1, hx, hm⟩ := bind_some hm
 obtain ⟨v1, h1, hr, rfl, A1⟩ := ok_strings_IndexByte (av := [.str p0, Ab 0]) hx (A.cut 0)
 replace A := A.g00 A1
 refine at_gc1 1 [] 5 hr H fun fr t H => ?_
 refine at_L 1 [(6, .bool (decide (x1 ≥ 0)))] H fun fr H => aw_if 6 H hm (fun hb hm H => ?_) fun hb hm H => ?_
 ·refine aw_sr 1 (at_L 1 [(3, Ai 2)] H fun fr H => aw_rt ?_)
  obtain ⟨rfl, rfl⟩ := injB hm
  exact ⟨.inl rfl, _, rH H, rfl, A⟩
 refine aw_ks 4 id (at_l1 7 (.ptr (some (bp1_0, 6))) h1 H (fun fr => .of (s_lv (by kernel_rfl))) fun fr t H => ?_)
 obtain ⟨h2, hx, A⟩ := A.s0 6 [.str p0] [_, _, _, _, _, _, _, _, _, _, _, _, _, _]
 refine at_gs 2 [] hx H fun fr t H => ?_
 refine at_ns 1 id (at_L 1 [(3, Ai 0)] H fun fr H => aw_rt ?_)
 obtain ⟨rfl, rfl⟩ := injB hm
 exact ⟨.inl rfl, _, rH H, rfl, A⟩
def M_attrs_plain_1_sSpPO (p0 : List UInt8) (p1_0 : S_api_Member) : Option (Int × S_api_Member) :=
 (M_strings_IndexByte p0 (0 : Int)).bind fun x1 => iteB (decide (x1 ≥ 0)) (some ((2 : Int), p1_0)) (some ((0 : Int), (⟨p0, p1_0.Link, p1_0.Kind, p1_0.Mode, p1_0.Uid, p1_0.Gid, p1_0.Uname, p1_0.Gname, p1_0.Major, p1_0.Minor, p1_0.Time, p1_0.Extra, p1_0.Data⟩ : S_api_Member)))
theorem ok_attrs_plain_1_sSpPO {p0 p1_0 bp1_0 rp1_0_12 q0 u0} (hm : M_attrs_plain_1_sSpPO p0 p1_0 = some (q0, u0)) (A : HH g h [.obj bp1_0 (.cells none 2 (w_api_Member_12 p1_0 (rowV rp1_0_12 p1_0.Extra.length))), .lst rp1_0_12 40 (lst e_S_api_Pair p1_0.Extra)] F) (hc : canL (cfg.still 55) av = [.str p0, .vptr [.ptr (some (bp1_0, 0))]] := by kernel_rfl) : ∃ v h', Runs cfg g h 55 av v h' ∧ v = Ai q0 ∧ HH g h' [.obj bp1_0 (.cells none 2 (w_api_Member_12 u0 (rowV rp1_0_12 p1_0.Extra.length))), .lst rp1_0_12 40 (lst e_S_api_Pair p1_0.Extra)] F := by
 refine rq1 10 [.tmp 3] hc ?_
 clear hc
 unfold M_attrs_plain_1_sSpPO at hm
 refine bg 10 [(0, .str p0), (1, .vptr [.ptr (some (bp1_0, 0))])] fun fr H => ?_
 refine aw_sr 1 (at_L 1 [] H fun fr H => aw_sq (aw_sr 3 ?_))
 obtain ⟨x1, hx, hm⟩ := bind_some hm
 obtain ⟨v1, h1, hr, rfl, A1⟩ := ok_strings_IndexByte (av := [.str p0, Ab 0]) hx (A.cut 0)
 replace A := A.g00 A1
 refine at_gc1 1 [] 5 hr H fun fr t H => ?_
 refine at_L 1 [(6, .bool (decide (x1 ≥ 0)))] H fun fr H => aw_if 6 H hm (fun hb hm H => ?_) fun hb hm H => ?_
 ·refine aw_sr 1 (at_L 1 [(3, Ai 2)] H fun fr H => aw_rt ?_)
  obtain ⟨rfl, rfl⟩ := injB hm
  exact ⟨.inl rfl, _, rH H, rfl, A⟩
 refine aw_ks 4 id (at_l1 7 (.ptr (some (bp1_0, 0))) h1 H (fun fr => .of (s_lv (by kernel_rfl))) fun fr t H => ?_)
 obtain ⟨h2, hx, A⟩ := A.s0 0 [.str p0] [_, _, _, _, _, _, _, _, _, _, _, _, _, _]
 refine at_gs 2 [] hx H fun fr t H => ?_
 refine at_ns 1 id (at_L 1 [(3, Ai 0)] H fun fr H => aw_rt ?_)
 obtain ⟨rfl, rfl⟩ := injB hm
 exact ⟨.inl rfl, _, rH H, rfl, A⟩
def M_attrs_plain_1_sSpQ1O (p0 : List UInt8) (p1_0 : S_api_Member) : Option (Int × S_api_Member) :=
 (M_strings_IndexByte p0 (0 : Int)).bind fun x1 => iteB (decide (x1 ≥ 0)) (some ((2 : Int), p1_0)) (some ((0 : Int), (⟨p1_0.Name, p0, p1_0.Kind, p1_0.Mode, p1_0.Uid, p1_0.Gid, p1_0.Uname, p1_0.Gname, p1_0.Major, p1_0.Minor, p1_0.Time, p1_0.Extra, p1_0.Data⟩ : S_api_Member)))
theorem ok_attrs_plain_1_sSpQ1O {p0 p1_0 bp1_0 rp1_0_12 q0 u0} (hm : M_attrs_plain_1_sSpQ1O p0 p1_0 = some (q0, u0)) (A : HH g h [.obj bp1_0 (.cells none 2 (w_api_Member_12 p1_0 (rowV rp1_0_12 p1_0.Extra.length))), .lst rp1_0_12 40 (lst e_S_api_Pair p1_0.Extra)] F) (hc : canL (cfg.still 55) av = [.str p0, .vptr [.ptr (some (bp1_0, 1))]] := by kernel_rfl) : ∃ v h', Runs cfg g h 55 av v h' ∧ v = Ai q0 ∧ HH g h' [.obj bp1_0 (.cells none 2 (w_api_Member_12 u0 (rowV rp1_0_12 p1_0.Extra.length))), .lst rp1_0_12 40 (lst e_S_api_Pair p1_0.Extra)] F := by
 refine rq1 10 [.tmp 3] hc ?_
 clear hc
 unfold M_attrs_plain_1_sSpQ1O at hm
 refine bg 10 [(0, .str p0), (1, .vptr [.ptr (some (bp1_0, 1))])] fun fr H => ?_
 refine aw_sr 1 (at_L 1 [] H fun fr H => aw_sq (aw_sr 3 ?_))
 obtain ⟨x1, hx, hm⟩ := bind_some hm
 obtain ⟨v1, h1, hr, rfl, A1⟩ := ok_strings_IndexByte (av := [.str p0, Ab 0]) hx (A.cut 0)
 replace A := A.g00 A1
 refine at_gc1 1 [] 5 hr H fun fr t H => ?_
 refine at_L 1 [(6, .bool (decide (x1 ≥ 0)))] H fun fr H => aw_if 6 H hm (fun hb hm H => ?_) fun hb hm H => ?_
 ·refine aw_sr 1 (at_L 1 [(3, Ai 2)] H fun fr H => aw_rt ?_)
  obtain ⟨rfl, rfl⟩ := injB hm
  exact ⟨.inl rfl, _, rH H, rfl, A⟩
 refine aw_ks 4 id (at_l1 7 (.ptr (some (bp1_0, 1))) h1 H (fun fr => .of (s_lv (by kernel_rfl))) fun fr t H => ?_)
 obtain ⟨h2, hx, A⟩ := A.s0 1 [.str p0] [_, _, _, _, _, _, _, _, _, _, _, _, _, _]
 refine at_gs 2 [] hx H fun fr t H => ?_
 refine at_ns 1 id (at_L 1 [(3, Ai 0)] H fun fr H => aw_rt ?_)
 obtain ⟨rfl, rfl⟩ := injB hm
 exact ⟨.inl rfl, _, rH H, rfl, A⟩
def M_stringslite_HasPrefix (p0 : List UInt8) (p1 : List UInt8) : Option (Bool) :=
 (iteB (decide ((p0.length : Int) ≥ (p1.length : Int))) ((subS p0 none (some (p1.length : Int))).bind fun x2 => some (x2 == p1)) (some false) : Option (Bool)).bind fun x1 => some x1
theorem ok_stringslite_HasPrefix {p0 p1 q0} (hm : M_stringslite_HasPrefix p0 p1 = some q0) (A : HH g h [] F) (hc : canL (cfg.still 107) av = [.str p0, .str p1] := by kernel_rfl) : ∃ v h', Runs cfg g h 107 av v h' ∧ v = .bool q0 ∧ HH g h' [] F := by
 refine rq1 18 [.tmp 4] hc ?_
 clear hc
 unfold M_stringslite_HasPrefix at hm
 refine bg 18 [(0, .str p0), (1, .str p1)] fun fr H => ?_
 refine aw_sr 1 (at_S 1 [] 14 H fun fr H => at_sl 6 [(10, .bool (decide ((p0.length : Int) ≥ (p1.length : Int))))] H fun fr H => ?_)
 obtain ⟨x1, ho, hm⟩ := bind_some hm
 refine at_cl 7 (fun fr' h' => Has fr' 18 [(17, .bool x1)] ∧ HH g h' [] F) ?_ ?_
 ·rcases iteB_some ho with ⟨hb, hm⟩ | ⟨hb, hm⟩
  ·replace H := H.kn 10 hb
   obtain ⟨x2, hx, hm⟩ := bind_some hm
   refine at_g1 3 [] 14 (.str x2) h H (fun fr => .of (s_subS (k := .i64) (k' := .i64) (lo := none) (hi := (some (p1.length : Int))) (by kernel_rfl) hx)) fun fr t H => ?_
   refine at_sl 3 [(17, .bool (x2 == p1))] H fun fr H => ?_
   obtain rfl := injA hm
   exact at_nil ⟨H.ls, A⟩
  replace H := H.kn 10 hb
  refine at_sl 7 [(17, .bool false)] H fun fr H => ?_
  obtain rfl := injA hm
  exact at_nil ⟨H.ls, A⟩
 clear A
 intro t fr h1 hK
 obtain ⟨H, A⟩ := hK
 refine at_L 1 [(4, .bool x1)] H fun fr H => aw_rt ?_
 obtain rfl := injA hm
 exact ⟨.inl rfl, _, rH H, rfl, A⟩
def M_stringslite_CutPrefix (p0 : List UInt8) (p1 : List UInt8) : Option ((List UInt8) × Bool) :=
 (M_stringslite_HasPrefix p0 p1).bind fun x1 => iteB (!x1) (some (p0, false)) ((subS p0 (some (p1.length : Int)) none).bind fun x2 => some (x2, true))
theorem ok_stringslite_CutPrefix {p0 p1 q0 q1} (hm : M_stringslite_CutPrefix p0 p1 = some (q0, q1)) (A : HH g h [] F) (hc : canL (cfg.still 83) av = [.str p0, .str p1] := by kernel_rfl) : ∃ v h', Runs cfg g h 83 av v h' ∧ v = .tuple [.str q0, .bool q1] ∧ HH g h' [] F := by
 refine rq1 15 [.tmp 4, .tmp 5] hc ?_
 clear hc
 unfold M_stringslite_CutPrefix at hm
 refine bg 15 [(0, .str p0), (1, .str p1)] fun fr H => ?_
 refine aw_sr 2 (at_L 2 [] H fun fr H => aw_sq (aw_sr 4 ?_))
 obtain ⟨x1, hx, hm⟩ := bind_some hm
 obtain ⟨v1, h1, hr, rfl, A1⟩ := ok_stringslite_HasPrefix (av := [.str p0, .str p1]) hx (A.cut 0)
 replace A := A.g00 A1
 refine at_gc1 2 [] 8 hr H fun fr t H => ?_
 refine at_L 1 [(9, .bool (!x1))] H fun fr H => aw_if 9 H hm (fun hb hm H => ?_) fun hb hm H => ?_
 ·refine aw_sr 3 (at_L 3 [(4, .str p0), (5, .bool false)] H fun fr H => aw_rt ?_)
  obtain ⟨rfl, rfl⟩ := injB hm
  exact ⟨.inl rfl, _, rH H, rfl, A⟩
 refine aw_ks 6 id ?_
 obtain ⟨x2, hx, hm⟩ := bind_some hm
 refine at_g1 3 [] 14 (.str x2) h1 H (fun fr => .of (s_subS (k := .i64) (k' := .i64) (lo := (some (p1.length : Int))) (hi := none) (by kernel_rfl) hx)) fun fr t H => ?_
 refine at_L 2 [(4, .str x2), (5, .bool true)] H fun fr H => aw_rt ?_
 obtain ⟨rfl, rfl⟩ := injB hm
 exact ⟨.inl rfl, _, rH H, rfl, A⟩
def M_strings_CutPrefix (p0 : List UInt8) (p1 : List UInt8) : Option ((List UInt8) × Bool) :=
 (M_stringslite_CutPrefix p0 p1).bind fun (x1, x2) => some (x1, x2)
theorem ok_strings_CutPrefix {p0 p1 q0 q1} (hm : M_strings_CutPrefix p0 p1 = some (q0, q1)) (A : HH g h [] F) (hc : canL (cfg.still 57) av = [.str p0, .str p1] := by kernel_rfl) : ∃ v h', Runs cfg g h 57 av v h' ∧ v = .tuple [.str q0, .bool q1] ∧ HH g h' [] F := by
 refine rq1 11 [.tmp 4, .tmp 5] hc ?_
 clear hc
 unfold M_strings_CutPrefix at hm
 refine bg 11 [(0, .str p0), (1, .str p1)] fun fr H => ?_
 refine aw_sr 2 (at_S 2 [] 7 H fun fr H => ?_)
 obtain ⟨⟨x1, x2⟩, hx, hm⟩ := bind_some hm
 obtain ⟨v1, h1, hr, rfl, A1⟩ := ok_stringslite_CutPrefix (av := [.str p0, .str p1]) hx (A.cut 0)
 replace A := A.g00 A1
 refine at_gc1 2 [] 8 hr H fun fr t H => ?_
 refine at_L 4 [(4, .str x1), (5, .bool x2)] H fun fr H => aw_rt ?_
 obtain ⟨rfl, rfl⟩ := injB hm
 exact ⟨.inl rfl, _, rH H, rfl, A⟩
def M_stamp_digits_L0 (p0 : List UInt8) (s : Int × Int) : Option ((Int × Int) ⊕ ((Int) ⊕ (Int × Bool))) :=
 match s with
 | (x1, x2) => iteB (decide (x2 < (p0.length : Int))) (((ixS p0 x2).bind fun x9 => (iteB (decide (x9 < 48)) (some true) ((ixS p0 x2).bind fun x11 => some (decide (x11 > 57))) : Option (Bool)).bind fun x10 => iteB x10 (some (.inr ((0 : Int), false))) (iteB (decide (x2 < 16)) ((ixS p0 x2).bind fun x12 => some (.inl (IntKind.i64.wrap ((IntKind.i64.wrap ((10 : Int) * x1)) + (IntKind.i64.wrap (IntKind.u8.wrap (x12 - 48))))))) (some (.inl x1))) : Option ((Int) ⊕ (Int × Bool))).bind fun o2 => (match o2 with | .inl x6 => some (.inl (x6, IntKind.i64.wrap (x2 + 1))) | .inr (x7, x8) => some (.inr (.inr (x7, x8))))) (some (.inr (.inl x1)))
def M_stamp_digits (p0 : List UInt8) (p1 : Int) : Option (Int × Bool) :=
 iteB (((p0.length : Int) == 0) || (decide ((p0.length : Int) > p1))) (some ((0 : Int), false)) ((loop (M_stamp_digits_L0 p0) ((0 : Int), (0 : Int))).bind fun o1 => (match o1 with | .inl x3 => some (x3, true) | .inr (x4, x5) => some (x4, x5)))
theorem ok_stamp_digits {p0 p1 q0 q1} (hm : M_stamp_digits p0 p1 = some (q0, q1)) (A : HH g h [] F) (hc : canL (cfg.still 59) av = [.str p0, Ai p1] := by kernel_rfl) : ∃ v h', Runs cfg g h 59 av v h' ∧ v = .tuple [Ai q0, .bool q1] ∧ HH g h' [] F := by
 refine rq1 44 [.tmp 4, .tmp 5] hc ?_
 clear hc
 unfold M_stamp_digits at hm
 refine bg 44 [(0, .str p0), (1, Ai p1)] fun fr H => ?_
 refine aw_sr 2 (at_L 2 [] H fun fr H => aw_sq (aw_sr 9 (at_sl 4 [(11, .bool ((p0.length : Int) == 0))] H fun fr H => at_cl 5 (fun fr' h' => h = h' ∧ Has fr' 44 [(0, .str p0), (16, .bool (((p0.length : Int) == 0) || (decide ((p0.length : Int) > p1))))]) ?_ ?_)))
 ·cases hb : ((p0.length : Int) == 0 : Bool) with
  | true =>
   replace H := H.kn 11 hb
   exact at_sl 5 [(16, .bool true)] H fun fr H => at_zb H hb
  | false =>
   replace H := H.kn 11 hb
   exact at_sl 5 [(16, .bool (decide ((p0.length : Int) > p1)))] H fun fr H => at_zb H hb
 intro t fr h' hK
 obtain ⟨e, H⟩ := hK
 subst e
 refine at_nl id (aw_if 16 H hm (fun hb hm H => ?_) fun hb hm H => ?_)
 ·refine aw_sr 2 (at_L 2 [(4, Ai 0), (5, .bool false)] H fun fr H => aw_rt ?_)
  obtain ⟨rfl, rfl⟩ := injB hm
  exact ⟨.inl rfl, _, rH H, rfl, A⟩
 refine aw_ks 1 id (at_L 1 [(6, Ai 0)] H fun fr H => aw_sq (aw_sr 3 (at_L 3 [(18, Ai (p0.length : Int)), (19, Ai 0)] H fun fr H => aw_block (id := 0) (by kernel_rfl) ?_)))
 obtain ⟨o1, ho, hm⟩ := bind_some hm
 refine aw_mono (Q' := fun e fr' h' => (∃ x3, e = .exit 0 ∧ .inl x3 = o1 ∧ Has fr' 44 [(6, Ai x3)] ∧ HH g h' [] F) ∨ (∃ x4 x5, e = .ret ∧ .inr (x4, x5) = o1 ∧ Has fr' 44 [(4, Ai x4), (5, .bool x5)] ∧ HH g h' [] F) ∨ False) ?_ ?_
 ·refine aw_loop (by kernel_rfl) (fun (s : Int × Int) fr' h' => ∃ x1 x2, (x1, x2) = s ∧ Has fr' 44 [(0, .str p0), (6, Ai x1), (18, Ai (p0.length : Int)), (19, Ai x2)] ∧ HH g h' [] F) ho ⟨_, _, rfl, H.ls, A⟩ ?_
  clear ho hm H A
  intro s q fr h1 hI hm
  obtain ⟨x1, x2, rfl, H, A⟩ := hI
  unfold M_stamp_digits_L0 at hm
  refine aw_sr 1 (at_L 1 [(20, .bool (decide (x2 < (p0.length : Int))))] H fun fr H => aw_sq (aw_if 20 H hm (fun hb hm H => ?_) fun hb hm H => ?_))
  ·refine aw_kn id (aw_sq ?_)
   obtain ⟨o2, ho, hm⟩ := bind_some hm
   refine aw_mono (Q' := fun e fr' h' => (∃ x6, e = .normal ∧ .inl x6 = o2 ∧ Has fr' 44 [(0, .str p0), (6, Ai x6), (18, Ai (p0.length : Int)), (19, Ai x2)] ∧ HH g h' [] F) ∨ (∃ x7 x8, e = .ret ∧ .inr (x7, x8) = o2 ∧ Has fr' 44 [(4, Ai x7), (5, .bool x8)] ∧ HH g h' [] F) ∨ False) ?_ ?_
   ·replace hm := ho
    clear ho
    refine aw_block (id := 1) (by kernel_rfl) ?_
    refine aw_sr 2 (at_L 2 [(7, Ai x2)] H fun fr H => aw_sq (aw_sr 10 ?_))
    obtain ⟨x9, hx, hm⟩ := bind_some hm
    refine at_g1 2 [] 24 (Ab x9) h1 H (fun fr => .of (s_ixS (by kernel_rfl) hx)) fun fr t H => ?_
    refine at_sl 2 [(26, .bool (decide (x9 < 48)))] H fun fr H => ?_
    obtain ⟨x10, ho, hm⟩ := bind_some hm
    refine at_cl 5 (fun fr' h' => Has fr' 44 [(0, .str p0), (6, Ai x1), (7, Ai x2), (18, Ai (p0.length : Int)), (19, Ai x2), (31, .bool x10)] ∧ HH g h' [] F) ?_ ?_
    ·rcases iteB_some ho with ⟨hb, hm⟩ | ⟨hb, hm⟩
     ·replace H := H.kn 26 hb
      refine at_sl 5 [(31, .bool true)] H fun fr H => ?_
      obtain rfl := injA hm
      exact at_nil ⟨H.ls, A⟩
     replace H := H.kn 26 hb
     obtain ⟨x11, hx, hm⟩ := bind_some hm
     refine at_g1 2 [] 29 (Ab x11) h1 H (fun fr => .of (s_ixS (by kernel_rfl) hx)) fun fr t H => ?_
     refine at_sl 2 [(31, .bool (decide (x11 > 57)))] H fun fr H => ?_
     obtain rfl := injA hm
     exact at_nil ⟨H.ls, A⟩
    clear A
    intro t fr h2 hK
    obtain ⟨H, A⟩ := hK
    refine at_nl id (aw_if 31 H hm (fun hb hm H => ?_) fun hb hm H => ?_)
    ·refine aw_sr 2 (at_L 2 [(4, Ai 0), (5, .bool false)] H fun fr H => aw_rt ?_)
     exact .inr (.inl ⟨_, _, rfl, injA hm, H.ls, A⟩)
    refine aw_ks 2 id (at_L 2 [(33, .bool (decide (x2 < 16)))] H fun fr H => aw_if 33 H hm (fun hb hm H => ?_) fun hb hm H => ?_)
    ·refine aw_rg 9 ?_
     obtain ⟨x12, hx, hm⟩ := bind_some hm
     refine at_g1 4 [(35, Ai (IntKind.i64.wrap ((10 : Int) * x1)))] 38 (Ab x12) h2 H (fun fr => .of (s_ixS (by kernel_rfl) hx)) fun fr t H => ?_
     refine at_se 4 [(0, .str p0), (6, Ai (IntKind.i64.wrap ((IntKind.i64.wrap ((10 : Int) * x1)) + (IntKind.i64.wrap (IntKind.u8.wrap (x12 - 48)))))), (18, Ai (p0.length : Int)), (19, Ai x2)] H fun fr H => at_nil ?_
     exact .inl ⟨_, rfl, injA hm, H.ls, A⟩
    exact aw_sk (.inl ⟨_, rfl, injA hm, H.ls, A⟩)
   clear ho
   clear A
   intro e fr h3 hQ
   rcases hQ with ⟨x6, rfl, rfl, H, A⟩ | ⟨x7, x8, rfl, rfl, H, A⟩ | hF
   ·show AW _ _ _ _ _ _ _
    refine aw_rg 2 (at_se 2 [(0, .str p0), (6, Ai x6), (18, Ai (p0.length : Int)), (19, Ai (IntKind.i64.wrap (x2 + 1)))] H fun fr H => at_nil ?_)
    exact nx hm ⟨_, _, rfl, H.ls, A⟩
   ·exact nr hm fun e => Or.inr (.inl ⟨_, _, rfl, e, H.ls, A⟩)
   exact hF.elim
  refine aw_exit (i := 0) (by kernel_rfl) ?_
  exact nr hm fun e => .inl ⟨_, rfl, e, H.ls, A⟩
 clear ho
 clear A
 intro e fr h4 hQ
 rcases hQ with ⟨x3, rfl, rfl, H, A⟩ | ⟨x4, x5, rfl, rfl, H, A⟩ | hF
 ·show AW _ _ _ _ _ _ _
  refine aw_sr 3 (at_L 3 [(4, Ai x3), (5, .bool true)] H fun fr H => aw_rt ?_)
  obtain ⟨rfl, rfl⟩ := injB hm
  exact ⟨.inl rfl, _, rH H, rfl, A⟩
 ·obtain ⟨rfl, rfl⟩ := injB hm
  exact ⟨.inl rfl, _, rH H, rfl, A⟩
 exact hF.elim
def M_stamp_turn (p0 : S_api_Stamp) : Option (S_api_Stamp) :=
 iteB (p0.Nsec == 0) (some (⟨IntKind.i64.wrap (0 - p0.Sec), (0 : Int)⟩ : S_api_Stamp)) (some (⟨IntKind.i64.wrap ((IntKind.i64.wrap (0 - p0.Sec)) - 1), IntKind.i64.wrap ((1000000000 : Int) - p0.Nsec)⟩ : S_api_Stamp))
theorem ok_stamp_turn {p0 q0} (hm : M_stamp_turn p0 = some q0) (A : HH g h [] F) (hc : canL (cfg.still 60) av = [.agg (e_S_api_Stamp p0)] := by kernel_rfl) : ∃ v h', Runs cfg g h 60 av v h' ∧ v = .agg (e_S_api_Stamp q0) ∧ HH g h' [] F := by
 refine rq1 18 [.cell 2 29] hc ?_
 clear hc
 unfold M_stamp_turn at hm
 refine bg 18 [(0, .agg (e_S_api_Stamp p0))] fun fr H => ?_
 refine aw_sr 2 ?_
 obtain ⟨h1, e1, A⟩ := A.pu (.cells none 2 (e_S_api_Stamp p0))
 refine at_ln 1 (.ptr (some (h.size, 0))) e1 H fun fr t H => ?_
 obtain ⟨h2, e2, A⟩ := A.pu (.cells none 2 [Ai 0, Ai 0])
 refine at_ln 2 (.ptr (some (h1.size, 0))) e2 H fun fr t H => ?_
 refine at_nl id (aw_sq (aw_sr 3 (at_gl 1 [] 4 1 1 A H fun fr t H => ?_)))
 refine at_L 1 [(5, .bool (p0.Nsec == 0))] H fun fr H => aw_if 5 H hm (fun hb hm H => ?_) fun hb hm H => ?_
 ·refine aw_sr 5 (at_gl 1 [] 7 1 0 A H fun fr t H => ?_)
  obtain ⟨h3, hx, A1⟩ := A.st 0 rfl (o := 0) (new := [Ai (IntKind.i64.wrap (0 - p0.Sec)), Ai 0]) (ds := [Ai (IntKind.i64.wrap (0 - p0.Sec)), Ai 0]) (Nat.le_of_ble_eq_true rfl) rfl rfl
  replace A : HH g h3 [.obj h1.size (.cells none 2 [Ai (IntKind.i64.wrap (0 - p0.Sec)), Ai 0]), .obj h.size (.cells none 2 (e_S_api_Stamp p0))] F := A1
  refine at_gS 2 [] hx H fun fr t H => ?_
  refine at_nl id (aw_rt ?_)
  obtain rfl := injA hm
  refine ⟨.inl rfl, .agg [Ai (IntKind.i64.wrap (0 - p0.Sec)), Ai 0], resL_one (.cell (rT H) (load_ldA (by kernel_rfl) (by kernel_rfl) (A.la 0 0 2)) .nil), ?_⟩
  replace A := A.d0
  exact ⟨rfl, A⟩
 refine aw_ks 9 id (at_gl 1 [] 11 1 0 A H fun fr t H => ?_)
 refine at_gl 3 [(13, Ai (IntKind.i64.wrap ((IntKind.i64.wrap (0 - p0.Sec)) - 1)))] 15 1 1 A H fun fr t H => ?_
 obtain ⟨h4, hx, A1⟩ := A.st 0 rfl (o := 0) (new := [Ai (IntKind.i64.wrap ((IntKind.i64.wrap (0 - p0.Sec)) - 1)), Ai (IntKind.i64.wrap ((1000000000 : Int) - p0.Nsec))]) (ds := [Ai (IntKind.i64.wrap ((IntKind.i64.wrap (0 - p0.Sec)) - 1)), Ai (IntKind.i64.wrap ((1000000000 : Int) - p0.Nsec))]) (Nat.le_of_ble_eq_true rfl) rfl rfl
 replace A : HH g h4 [.obj h1.size (.cells none 2 [Ai (IntKind.i64.wrap ((IntKind.i64.wrap (0 - p0.Sec)) - 1)), Ai (IntKind.i64.wrap ((1000000000 : Int) - p0.Nsec))]), .obj h.size (.cells none 2 (e_S_api_Stamp p0))] F := A1
 refine at_gS 2 [] hx H fun fr t H => ?_
 refine at_nl id (aw_rt ?_)
 obtain rfl := injA hm
 refine ⟨.inl rfl, .agg [Ai (IntKind.i64.wrap ((IntKind.i64.wrap (0 - p0.Sec)) - 1)), Ai (IntKind.i64.wrap ((1000000000 : Int) - p0.Nsec))], resL_one (.cell (rT H) (load_ldA (by kernel_rfl) (by kernel_rfl) (A.la 0 0 2)) .nil), ?_⟩
 replace A := A.d0
 exact ⟨rfl, A⟩
def M_boulterref04_digit (p0 : Int) : Option (Bool) :=
 some ((decide (p0 ≥ 48)) && (decide (p0 ≤ 57)))
theorem ok_boulterref04_digit {p0 q0} (hm : M_boulterref04_digit p0 = some q0) (A : HH g h [] F) (hc : canL (cfg.still 32) av = [Ab p0] := by kernel_rfl) : ∃ v h', Runs cfg g h 32 av v h' ∧ v = .bool q0 ∧ HH g h' [] F := by
 refine rq1 9 [.tmp 2] hc ?_
 clear hc
 unfold M_boulterref04_digit at hm
 refine bg 9 [(0, Ab p0)] fun fr H => ?_
 refine aw_sr 1 (at_S 1 [] 7 H fun fr H => at_sl 3 [(5, .bool (decide (p0 ≥ 48)))] H fun fr H => at_cl 3 (fun fr' h' => h = h' ∧ Has fr' 9 [(8, .bool ((decide (p0 ≥ 48)) && (decide (p0 ≤ 57))))]) ?_ ?_)
 ·cases hb : (decide (p0 ≥ 48) : Bool) with
  | true =>
   replace H := H.kn 5 hb
   exact at_sl 3 [(8, .bool (decide (p0 ≤ 57)))] H fun fr H => at_zb H hb
  | false =>
   replace H := H.kn 5 hb
   exact at_sl 3 [(8, .bool false)] H fun fr H => at_zb H hb
 intro t fr h' hK
 obtain ⟨e, H⟩ := hK
 subst e
 refine at_L 1 [(2, .bool ((decide (p0 ≥ 48)) && (decide (p0 ≤ 57))))] H fun fr H => aw_rt ?_
 obtain rfl := injA hm
 exact ⟨.inl rfl, _, rH H, rfl, A⟩
end
end Go.Av.L
