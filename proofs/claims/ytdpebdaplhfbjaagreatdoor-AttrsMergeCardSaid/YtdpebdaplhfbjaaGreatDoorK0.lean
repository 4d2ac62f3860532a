/-
 Models of functions, and that the abstract run tells them. Written by lift2.py.
-/
import Derived.Test.YtdpebdaplhfbjaaGreatDoorKCfg
namespace Go.Av.L
open Go.Av Go.Lib
set_option maxRecDepth 10000
set_option linter.unusedVariables false
set_option linter.unusedSimpArgs false
variable {g : Gd} {h : AHeap} {F : List Ck} {av : List AVal}
noncomputable section
def M_boulterlaw07_long_L0 (p0 : List S_api_Pair) (s : Int) : Option ((Int) ⊕ ((Unit) ⊕ (Bool))) :=
 match s with
 | x1 => iteB (decide (x1 < (p0.length : Int))) ((ixV p0 x1).bind fun x3 => iteB ((decide ((x3.Key.length : Int) > 300)) || (decide ((x3.Value.length : Int) > 300))) (some (.inr (.inr true))) (some (.inl (IntKind.i64.wrap (x1 + 1))))) (some (.inr (.inl ())))
def M_boulterlaw07_long (p0 : List S_api_Pair) : Option (Bool) :=
 iteB (decide ((p0.length : Int) > 12)) (some true) ((loop (M_boulterlaw07_long_L0 p0) (0 : Int)).bind fun o1 => (match o1 with | .inl _ => some false | .inr x2 => some x2))
theorem ok_boulterlaw07_long {p0 q0} (hm : M_boulterlaw07_long p0 = some q0) (A : HH g h [] F) (hc : canL (cfg.still 5) av = [vs e_S_api_Pair p0] := by kernel_rfl) : ∃ v h', Runs cfg g h 5 av v h' ∧ v = .bool q0 ∧ HH g h' [] F := by
 refine rq1 25 [.tmp 2] hc ?_
 clear hc
 unfold M_boulterlaw07_long at hm
 refine bg 25 [(0, vs e_S_api_Pair p0)] fun fr H => ?_
 refine aw_sr 1 (at_L 1 [] H fun fr H => aw_sq (aw_sr 3 (at_L 3 [(7, .bool (decide ((p0.length : Int) > 12)))] H fun fr H => aw_if 7 H hm (fun hb hm H => ?_) fun hb hm H => ?_)))
 ·refine aw_sr 1 (at_L 1 [(2, .bool true)] H fun fr H => aw_rt ?_)
  obtain rfl := injA hm
  exact ⟨.inl rfl, _, rH H, rfl, A⟩
 refine aw_kn id (aw_sq (aw_sr 3 (at_L 3 [(8, vs e_S_api_Pair p0), (9, Ai (p0.length : Int)), (10, Ai 0)] H fun fr H => aw_block (id := 0) (by kernel_rfl) ?_)))
 obtain ⟨o1, ho, hm⟩ := bind_some hm
 refine aw_mono (Q' := fun e fr' h' => (e = .exit 0 ∧ .inl () = o1 ∧ Has fr' 25 [] ∧ HH g h' [] F) ∨ (∃ x2, e = .ret ∧ .inr x2 = o1 ∧ Has fr' 25 [(2, .bool x2)] ∧ HH g h' [] F) ∨ False) ?_ ?_
 ·refine aw_loop (by kernel_rfl) (fun (s : Int) fr' h' => ∃ x1, x1 = s ∧ Has fr' 25 [(8, vs e_S_api_Pair p0), (9, Ai (p0.length : Int)), (10, Ai x1)] ∧ HH g h' [] F) ho ⟨_, rfl, H.ls, A⟩ ?_
  clear ho hm H A
  intro s q fr h1 hI hm
  obtain ⟨x1, rfl, H, A⟩ := hI
  unfold M_boulterlaw07_long_L0 at hm
  refine aw_sr 1 (at_L 1 [(11, .bool (decide (x1 < (p0.length : Int))))] H fun fr H => aw_sq (aw_if 11 H hm (fun hb hm H => ?_) fun hb hm H => ?_))
  ·refine aw_kn id (aw_sq (aw_block (id := 1) (by kernel_rfl) ?_))
   refine aw_sr 4 ?_
   obtain ⟨x3, hx, hm⟩ := bind_some hm
   refine at_l1 12 (.vptr [.str x3.Key, .str x3.Value]) h1 H (fun fr => .of (s_ixV (e := e_S_api_Pair) (x := x3) enc_S_api_Pair (by decide) (by kernel_rfl) hx)) fun fr t H => ?_
   refine at_l1 13 (.agg [.str x3.Key, .str x3.Value]) h1 H (fun fr => .of (s_lv (by kernel_rfl))) fun fr t H => ?_
   obtain ⟨h2, e1, A⟩ := A.pu (.cells none 2 [.str ([] : List UInt8), .str ([] : List UInt8)])
   refine at_ln 4 (.ptr (some (h1.size, 0))) e1 H fun fr t H => ?_
   obtain ⟨h3, hx, A⟩ := A.s0 0 [.str x3.Key, .str x3.Value] [_, _]
   refine at_lS hx H fun fr t H => ?_
   refine at_ns 10 id (at_gl 1 [] 15 0 0 A H fun fr t H => ?_)
   refine at_sl 3 [(18, .bool (decide ((x3.Key.length : Int) > 300)))] H fun fr H => at_cl 5 (fun fr' h' => h3 = h' ∧ Has fr' 25 [(8, vs e_S_api_Pair p0), (9, Ai (p0.length : Int)), (10, Ai x1), (23, .bool ((decide ((x3.Key.length : Int) > 300)) || (decide ((x3.Value.length : Int) > 300))))]) ?_ ?_
   ·cases hb : (decide ((x3.Key.length : Int) > 300) : Bool) with
    | true =>
     replace H := H.kn 18 hb
     exact at_sl 5 [(23, .bool true)] H fun fr H => at_zb H hb
    | false =>
     replace H := H.kn 18 hb
     refine at_gl 1 [] 20 0 1 A H fun fr t H => ?_
     exact at_sl 3 [(23, .bool (decide ((x3.Value.length : Int) > 300)))] H fun fr H => at_zb H hb
   intro t fr h' hK
   obtain ⟨e, H⟩ := hK
   subst e
   refine at_nl id (aw_if 23 H hm (fun hb hm H => ?_) fun hb hm H => ?_)
   ·refine aw_sr 1 (at_L 1 [(2, .bool true)] H fun fr H => aw_rt ?_)
    replace A := A.d0
    exact nr hm fun e => Or.inr (.inl ⟨_, rfl, e, H.ls, A⟩)
   refine aw_kr 2 id (at_se 2 [(8, vs e_S_api_Pair p0), (9, Ai (p0.length : Int)), (10, Ai (IntKind.i64.wrap (x1 + 1)))] H fun fr H => at_nil ?_)
   replace A := A.d0
   exact nx hm ⟨_, rfl, H.ls, A⟩
  refine aw_exit (i := 0) (by kernel_rfl) ?_
  exact nr hm fun e => .inl ⟨rfl, e, H.ls, A⟩
 clear ho
 clear A
 intro e fr h4 hQ
 rcases hQ with ⟨rfl, rfl, H, A⟩ | ⟨x2, rfl, rfl, H, A⟩ | hF
 ·show AW _ _ _ _ _ _ _
  refine aw_sr 1 (at_L 1 [(2, .bool false)] H fun fr H => aw_rt ?_)
  obtain rfl := injA hm
  exact ⟨.inl rfl, _, rH H, rfl, A⟩
 ·obtain rfl := injA hm
  exact ⟨.inl rfl, _, rH H, rfl, A⟩
 exact hF.elim
def M_attrs_Merge_L1 (x4 : List S_api_Pair) (s : (List ((List UInt8) × (List UInt8))) × Int) : Option (((List ((List UInt8) × (List UInt8))) × Int) ⊕ (((List ((List UInt8) × (List UInt8)))))) :=
 match s with
 | (x5, x6) => iteB (decide (x6 < (x4.length : Int))) ((ixV x4 x6).bind fun x8 => some (.inl ((mput x5 x8.Key x8.Value), IntKind.i64.wrap (x6 + 1)))) (some (.inr x5))
def M_attrs_Merge_L0 (p0 : List S_api_Pair) (p1 : List S_api_Pair) (s : (List ((List UInt8) × (List UInt8))) × Int) : Option (((List ((List UInt8) × (List UInt8))) × Int) ⊕ (((List ((List UInt8) × (List UInt8)))))) :=
 match s with
 | (x1, x2) => iteB (decide (x2 < 2)) ((ixV ([p0, p1] : List (List S_api_Pair)) x2).bind fun x4 => (loop (M_attrs_Merge_L1 x4) (x1, (0 : Int))).bind fun x7 => some (.inl (x7, IntKind.i64.wrap (x2 + 1)))) (some (.inr x1))
def M_attrs_Merge_L2 (x3 : List ((List UInt8) × (List UInt8))) (s : (List S_api_Pair) × Int) : Option (((List S_api_Pair) × Int) ⊕ (((List S_api_Pair)))) :=
 match s with
 | (x9, x10) => iteB (decide (x10 < ((sortT (x3.map Prod.fst)).length : Int))) (((ixV (sortT (x3.map Prod.fst)) x10).bind fun x13 => iteB (!(((mfind x3 x13).getD ([] : List UInt8)) == ([] : List UInt8))) (need (okN 32 (x9.length + ([(⟨x13, ((mfind x3 x13).getD ([] : List UInt8))⟩ : S_api_Pair)] : List S_api_Pair).length)) <| some (x9 ++ ([(⟨x13, ((mfind x3 x13).getD ([] : List UInt8))⟩ : S_api_Pair)] : List S_api_Pair))) (some x9) : Option (((List S_api_Pair)))).bind fun x12 => some (.inl (x12, IntKind.i64.wrap (x10 + 1)))) (some (.inr x9))
def M_attrs_Merge (p0 : List S_api_Pair) (p1 : List S_api_Pair) : Option ((List S_api_Pair)) :=
 (loop (M_attrs_Merge_L0 p0 p1) (([] : List ((List UInt8) × (List UInt8))), (0 : Int))).bind fun x3 => need (keysOk (x3.map Prod.fst)) <| (loop (M_attrs_Merge_L2 x3) (([] : List S_api_Pair), (0 : Int))).bind fun x11 => some x11
theorem ok_attrs_Merge {p0 p1 q0} (hm : M_attrs_Merge p0 p1 = some q0) (A : HH g h [] F) (hc : canL (cfg.still 11) av = [vs e_S_api_Pair p0, vs e_S_api_Pair p1] := by kernel_rfl) : ∃ v h', Runs cfg g h 11 av v h' ∧ v = vs e_S_api_Pair q0 ∧ HH g h' [] F := by
 refine rq7 55 [.tmp 4] hc ?_
 clear hc
 unfold M_attrs_Merge at hm
 refine bg 55 [(0, vs e_S_api_Pair p0), (1, vs e_S_api_Pair p1)] fun fr H => ?_
 refine aw_sr 1 (at_S 1 [] 2 H fun fr H => ?_)
 obtain ⟨h1, e1⟩ : ∃ x, x = h.push (.map 2 []) := ⟨_, rfl⟩
 replace A : HH g h1 [.obj h.size (.map 2 (encM (fun k : List UInt8 => .str k) (fun v : List UInt8 => .str v) ([] : List ((List UInt8) × (List UInt8)))))] F := (A.push _).to e1
 refine at_ln 13 (.map (some h.size)) e1 H fun fr t H => ?_
 refine at_L 1 [(5, .map (some h.size))] H fun fr H => aw_sq (aw_sr 4 (at_L 4 [(16, .agg [vs e_S_api_Pair p0, vs e_S_api_Pair p1]), (17, Ai 0)] H fun fr H => aw_block (id := 0) (by kernel_rfl) ?_))
 obtain ⟨o1, ho, hm⟩ := bind_some hm
 refine aw_mono (Q' := fun e fr' h' => (∃ x3, e = .exit 0 ∧ x3 = o1 ∧ Has fr' 55 [(5, .map (some h.size))] ∧ HH g h' [.obj h.size (.map 2 (encM (fun k : List UInt8 => .str k) (fun v : List UInt8 => .str v) x3))] F) ∨ False) ?_ ?_
 ·refine aw_loop (by kernel_rfl) (fun (s : (List ((List UInt8) × (List UInt8))) × Int) fr' h' => ∃ x1 x2, (x1, x2) = s ∧ Has fr' 55 [(5, .map (some h.size)), (16, .agg [vs e_S_api_Pair p0, vs e_S_api_Pair p1]), (17, Ai x2)] ∧ HH g h' [.obj h.size (.map 2 (encM (fun k : List UInt8 => .str k) (fun v : List UInt8 => .str v) x1))] F) ho ⟨_, _, rfl, H.ls, A⟩ ?_
  clear ho hm H A
  intro s q fr h2 hI hm
  obtain ⟨x1, x2, rfl, H, A⟩ := hI
  unfold M_attrs_Merge_L0 at hm
  refine aw_sr 1 (at_L 1 [(18, .bool (decide (x2 < 2)))] H fun fr H => aw_sq (aw_if 18 H hm (fun hb hm H => ?_) fun hb hm H => ?_))
  ·refine aw_kn id (aw_sq (aw_block (id := 1) (by kernel_rfl) ?_))
   refine aw_sr 2 ?_
   obtain ⟨x4, hq1, hm⟩ := bind_some hm
   refine at_l1 19 (vs e_S_api_Pair x4) h2 H (fun fr => .of (s_ixAg (fun w : List S_api_Pair => vs e_S_api_Pair w) [p0, p1] (by kernel_rfl) rfl rfl hq1)) fun fr t H => ?_
   refine at_S 1 [(7, vs e_S_api_Pair x4)] 3 H fun fr H => at_L 3 [(20, vs e_S_api_Pair x4), (21, Ai (x4.length : Int)), (22, Ai 0)] H fun fr H => aw_block (id := 2) (by kernel_rfl) ?_
   obtain ⟨o2, ho, hm⟩ := bind_some hm
   refine aw_mono (Q' := fun e fr' h' => (∃ x7, e = .exit 2 ∧ x7 = o2 ∧ Has fr' 55 [(5, .map (some h.size)), (16, .agg [vs e_S_api_Pair p0, vs e_S_api_Pair p1]), (17, Ai x2)] ∧ HH g h' [.obj h.size (.map 2 (encM (fun k : List UInt8 => .str k) (fun v : List UInt8 => .str v) x7))] F) ∨ False) ?_ ?_
   ·refine aw_loop (by kernel_rfl) (fun (s : (List ((List UInt8) × (List UInt8))) × Int) fr' h' => ∃ x5 x6, (x5, x6) = s ∧ Has fr' 55 [(5, .map (some h.size)), (16, .agg [vs e_S_api_Pair p0, vs e_S_api_Pair p1]), (17, Ai x2), (20, vs e_S_api_Pair x4), (21, Ai (x4.length : Int)), (22, Ai x6)] ∧ HH g h' [.obj h.size (.map 2 (encM (fun k : List UInt8 => .str k) (fun v : List UInt8 => .str v) x5))] F) ho ⟨_, _, rfl, H.ls, A⟩ ?_
    clear ho hm H A
    intro s q fr h3 hI hm
    obtain ⟨x5, x6, rfl, H, A⟩ := hI
    unfold M_attrs_Merge_L1 at hm
    refine aw_sr 1 (at_L 1 [(23, .bool (decide (x6 < (x4.length : Int))))] H fun fr H => aw_sq (aw_if 23 H hm (fun hb hm H => ?_) fun hb hm H => ?_))
    ·refine aw_kn id (aw_sq (aw_block (id := 3) (by kernel_rfl) ?_))
     refine aw_sr 4 ?_
     obtain ⟨x8, hx, hm⟩ := bind_some hm
     refine at_l1 24 (.vptr [.str x8.Key, .str x8.Value]) h3 H (fun fr => .of (s_ixV (e := e_S_api_Pair) (x := x8) enc_S_api_Pair (by decide) (by kernel_rfl) hx)) fun fr t H => ?_
     refine at_l1 25 (.agg [.str x8.Key, .str x8.Value]) h3 H (fun fr => .of (s_lv (by kernel_rfl))) fun fr t H => ?_
     obtain ⟨h4, e2, A⟩ := A.pu (.cells none 2 [.str ([] : List UInt8), .str ([] : List UInt8)])
     refine at_ln 9 (.ptr (some (h3.size, 0))) e2 H fun fr t H => ?_
     obtain ⟨h5, hx, A⟩ := A.s0 0 [.str x8.Key, .str x8.Value] [_, _]
     refine at_lS hx H fun fr t H => ?_
     refine at_nr 6 id (at_gl 2 [(26, .map (some h.size))] 28 0 0 A H fun fr t H => ?_)
     refine at_gl 1 [] 30 0 1 A H fun fr t H => ?_
     obtain ⟨h6, hx, A1⟩ := HH.mset (kt := 9) (et := 9) (ek := fun k : List UInt8 => .str k) (ev := fun v : List UInt8 => .str v) (keyS (by kernel_rfl)) A 1 rfl (t := 60) (by kernel_rfl) x8.Key x8.Value
     replace A : HH g h6 [_, .obj h.size (.map 2 (encM (fun k : List UInt8 => .str k) (fun v : List UInt8 => .str v) (mput x5 x8.Key x8.Value)))] F := A1
     refine at_l0 (.tuple []) h6 H (fun fr => .of (s_ms (by kernel_rfl) hx)) fun fr t H => ?_
     refine at_nr 2 id (at_se 2 [(5, .map (some h.size)), (16, .agg [vs e_S_api_Pair p0, vs e_S_api_Pair p1]), (17, Ai x2), (20, vs e_S_api_Pair x4), (21, Ai (x4.length : Int)), (22, Ai (IntKind.i64.wrap (x6 + 1)))] H fun fr H => at_nil ?_)
     replace A := A.k1 1
     exact nx hm ⟨_, _, rfl, H.ls, A⟩
    refine aw_exit (i := 2) (by kernel_rfl) ?_
    exact nr hm fun e => .inl ⟨_, rfl, e, H.ls, A⟩
   clear ho
   clear A
   intro e fr h7 hQ
   rcases hQ with ⟨x7, rfl, rfl, H, A⟩ | hF
   ·show AW _ _ _ _ _ _ _
    refine aw_rg 2 (at_se 2 [(5, .map (some h.size)), (16, .agg [vs e_S_api_Pair p0, vs e_S_api_Pair p1]), (17, Ai (IntKind.i64.wrap (x2 + 1)))] H fun fr H => at_nil ?_)
    exact nx hm ⟨_, _, rfl, H.ls, A⟩
   exact hF.elim
  refine aw_exit (i := 0) (by kernel_rfl) ?_
  exact nr hm fun e => .inl ⟨_, rfl, e, H.ls, A⟩
 clear ho
 clear A
 intro e fr h8 hQ
 rcases hQ with ⟨x3, rfl, rfl, H, A⟩ | hF
 ·show AW _ _ _ _ _ _ _
  refine aw_sr 1 (at_L 1 [(10, .slice none 0)] H fun fr H => aw_sq (aw_sr 5 ?_))
  obtain ⟨h9, e3, A⟩ := A.pu (.cells none 2 [.map (some h.size)])
  have hr : ∀ g, Runs cfg g h8 22 [.map (some h.size)] (.func (.func 36) [] [.ptr (some (h8.size, 0))]) h9 := fun g => by rw [e3]; exact ⟨2, by kernel_rfl⟩
  refine at_g1 1 [] 34 _ _ H (fun fr => Steps.call (by kernel_rfl) (hr _)) fun fr t H => ?_
  have A1 := A.cut 2
  obtain ⟨hb, hm⟩ := need_some hm
  obtain ⟨r1, h10, hr, A1⟩ := HH.sorted (C := cfg) (f := 21) (it := 36) (t := 9) (ev := fun v : List UInt8 => .str v) (m := x3) A1 (by kernel_rfl) (l := exts) rfl (by kernel_rfl) 0 1 rfl rfl hb
  replace A := A.g23 A1
  refine at_lc1 35 hr H fun fr t H => ?_
  refine at_L 2 [(36, Ai ((sortT (x3.map Prod.fst)).length : Int)), (37, Ai 0)] H fun fr H => aw_block (id := 4) (by kernel_rfl) ?_
  replace A : HH g h10 [.lst none 40 (lst e_S_api_Pair ([] : List S_api_Pair)), _, _, _] F := A.nilL 40
  obtain ⟨o3, ho, hm⟩ := bind_some hm
  refine aw_mono (Q' := fun e fr' h' => (∃ x11, e = .exit 4 ∧ x11 = o3 ∧ ∃ r3, Has fr' 55 [(10, rowV r3 x11.length)] ∧ HH g h' [.lst r3 40 (lst e_S_api_Pair x11), .obj h8.size (.cells none 2 [.map (some h.size)]), .obj h.size (.map 2 (encM (fun k : List UInt8 => .str k) (fun v : List UInt8 => .str v) x3))] F) ∨ False) ?_ ?_
  ·refine aw_loop (by kernel_rfl) (fun (s : (List S_api_Pair) × Int) fr' h' => ∃ x9 x10, (x9, x10) = s ∧ ∃ r2, Has fr' 55 [(5, .map (some h.size)), (10, rowV r2 x9.length), (35, rowV r1 ((sortT (x3.map Prod.fst)).length)), (36, Ai ((sortT (x3.map Prod.fst)).length : Int)), (37, Ai x10)] ∧ HH g h' [.lst r2 40 (lst e_S_api_Pair x9), .lst r1 9 (lst eS (sortT (x3.map Prod.fst))), .obj h8.size (.cells none 2 [.map (some h.size)]), .obj h.size (.map 2 (encM (fun k : List UInt8 => .str k) (fun v : List UInt8 => .str v) x3))] F) ho ⟨_, _, rfl, none, H.ls, A⟩ ?_
   clear ho hm H A
   intro s q fr h11 hI hm
   obtain ⟨x9, x10, rfl, r2, H, A⟩ := hI
   unfold M_attrs_Merge_L2 at hm
   refine aw_sr 1 (at_L 1 [(38, .bool (decide (x10 < ((sortT (x3.map Prod.fst)).length : Int))))] H fun fr H => aw_sq (aw_if 38 H hm (fun hb hm H => ?_) fun hb hm H => ?_))
   ·refine aw_kn id (aw_sq ?_)
    obtain ⟨o4, ho, hm⟩ := bind_some hm
    refine aw_mono (Q' := fun e fr' h' => (∃ x12, e = .normal ∧ x12 = o4 ∧ ∃ r4, Has fr' 55 [(5, .map (some h.size)), (10, rowV r4 x12.length), (35, rowV r1 ((sortT (x3.map Prod.fst)).length)), (36, Ai ((sortT (x3.map Prod.fst)).length : Int)), (37, Ai x10)] ∧ HH g h' [.lst r4 40 (lst e_S_api_Pair x12), .lst r1 9 (lst eS (sortT (x3.map Prod.fst))), .obj h8.size (.cells none 2 [.map (some h.size)]), .obj h.size (.map 2 (encM (fun k : List UInt8 => .str k) (fun v : List UInt8 => .str v) x3))] F) ∨ False) ?_ ?_
    ·replace hm := ho
     clear ho
     refine aw_block (id := 5) (by kernel_rfl) ?_
     refine aw_sr 3 ?_
     obtain ⟨x13, hx, hm⟩ := bind_some hm
     obtain ⟨i1, er1, _, hx, hq2⟩ := HH.ixO encS (by decide) A 1 (xs := (sortT (x3.map Prod.fst))) rfl hx
     refine at_l1 39 (.ptr (some (i1, x10.toNat * 1))) h11 H (fun fr => .of (s_ixL (s := rowS r1 ((sortT (x3.map Prod.fst)).length)) (by kernel_rfl) hx)) fun fr t H => ?_
     refine at_l1 40 _ _ H (fun fr => .of (s_ld (by kernel_rfl) (row_ld1 encS (HH.row A 1 rfl er1) hq2 (o := 0) rfl))) fun fr t H => ?_
     refine at_S 1 [(12, .str x13)] 4 H fun fr H => at_g1 2 [] 43 (.str ((mfind x3 x13).getD ([] : List UInt8))) h11 H (fun fr => .of (s_lkF (by kernel_rfl) (HH.mlook (kt := 9) (et := 9) (ek := fun k : List UInt8 => .str k) (ev := fun v : List UInt8 => .str v) (keyS (by kernel_rfl)) A 3 rfl (t := 60) (by kernel_rfl) (z := ([] : List UInt8)) (by kernel_rfl) x13))) fun fr t H => ?_
     refine at_L 1 [(44, .bool (!(((mfind x3 x13).getD ([] : List UInt8)) == ([] : List UInt8))))] H fun fr H => aw_if 44 H hm (fun hb hm H => ?_) fun hb hm H => ?_
     ·refine aw_rg 9 (at_g1 4 [(45, rowV r2 x9.length), (46, .str x13)] 49 (.str ((mfind x3 x13).getD ([] : List UInt8))) h11 H (fun fr => .of (s_lkF (by kernel_rfl) (HH.mlook (kt := 9) (et := 9) (ek := fun k : List UInt8 => .str k) (ev := fun v : List UInt8 => .str v) (keyS (by kernel_rfl)) A 3 rfl (t := 60) (by kernel_rfl) (z := ([] : List UInt8)) (by kernel_rfl) x13))) fun fr t H => ?_)
      refine at_sl 1 [(50, .agg [.str x13, .str ((mfind x3 x13).getD ([] : List UInt8))])] H fun fr H => ?_
      obtain ⟨h12, e4, A⟩ := A.pL 40 [.str x13, .str ((mfind x3 x13).getD ([] : List UInt8))]
      refine at_ln 51 (rowV (some h11.size) (([(⟨x13, ((mfind x3 x13).getD ([] : List UInt8))⟩ : S_api_Pair)] : List S_api_Pair).length)) e4 H fun fr t H => ?_
      obtain ⟨hb, hm⟩ := need_some hm
      obtain ⟨r5, h13, hx, A1⟩ := HH.appO enc_S_api_Pair (by decide) A 1 (xs := x9) (ys := ([(⟨x13, ((mfind x3 x13).getD ([] : List UInt8))⟩ : S_api_Pair)] : List S_api_Pair)) rfl (row_first A 0 rfl (n := ([(⟨x13, ((mfind x3 x13).getD ([] : List UInt8))⟩ : S_api_Pair)] : List S_api_Pair).length) (z := 2) rfl (by decide)) rfl rfl hb
      replace A : HH g h13 [.lst (some h11.size) 40 ([.str x13, .str ((mfind x3 x13).getD ([] : List UInt8))]), .lst r5 40 (lst e_S_api_Pair (x9 ++ ([(⟨x13, ((mfind x3 x13).getD ([] : List UInt8))⟩ : S_api_Pair)] : List S_api_Pair))), _, _, _] F := A1
      replace A := A.k4 1 2 3 4
      refine at_l1 52 _ _ H (fun fr => .of (s_app (s := rowS r2 x9.length) (by kernel_rfl) hx)) fun fr t H => ?_
      refine at_se 1 [(5, .map (some h.size)), (10, rowV r5 ((x9 ++ ([(⟨x13, ((mfind x3 x13).getD ([] : List UInt8))⟩ : S_api_Pair)] : List S_api_Pair)).length)), (35, rowV r1 ((sortT (x3.map Prod.fst)).length)), (36, Ai ((sortT (x3.map Prod.fst)).length : Int)), (37, Ai x10)] H fun fr H => at_nil ?_
      exact .inl ⟨_, rfl, injA hm, _, H.ls, A⟩
     exact aw_sk (.inl ⟨_, rfl, injA hm, _, H.ls, A⟩)
    clear ho
    clear A
    intro e fr h14 hQ
    rcases hQ with ⟨x12, rfl, rfl, r4, H, A⟩ | hF
    ·show AW _ _ _ _ _ _ _
     refine aw_rg 2 (at_se 2 [(5, .map (some h.size)), (10, rowV r4 x12.length), (35, rowV r1 ((sortT (x3.map Prod.fst)).length)), (36, Ai ((sortT (x3.map Prod.fst)).length : Int)), (37, Ai (IntKind.i64.wrap (x10 + 1)))] H fun fr H => at_nil ?_)
     exact nx hm ⟨_, _, rfl, _, H.ls, A⟩
    exact hF.elim
   refine aw_exit (i := 4) (by kernel_rfl) ?_
   replace A := A.k3 0 2 3
   exact nr hm fun e => .inl ⟨_, rfl, e, _, H.ls, A⟩
  clear ho
  clear A
  intro e fr h15 hQ
  rcases hQ with ⟨x11, rfl, rfl, r3, H, A⟩ | hF
  ·show AW _ _ _ _ _ _ _
   refine aw_sr 2 (at_L 2 [(4, rowV r3 x11.length)] H fun fr H => aw_rt ?_)
   obtain rfl := injA hm
   refine ⟨.inl rfl, rowV r3 x11.length, rH H, ?_⟩
   obtain ⟨h16, hz0, A1⟩ := (A.front 0 rfl).frz (n := x11.length) (z := 2) (enc_S_api_Pair.lenL _) (by decide)
   replace A : HH g h16 [_, _] F := A1
   refine ⟨vs e_S_api_Pair x11, h16, by first | rfl | (simp only [fz3T, fz3A, fz3B, fz3R, fz2A, fz2R, fz2V, fz2I, fz2B, fz2S, fz2N, fzL0, fzL1, fz1I, fz1B, fz1S, fz1V, fz1N, Option.map_some, hz0] <;> rfl), ?_⟩
   replace A := A.d0
   exact ⟨rfl, A⟩
  exact hF.elim
 exact hF.elim
def M_boulterref07_put_sOR_L0 (p0 : List S_api_Pair) (p1 : S_api_Pair) (s : (List S_api_Pair) × Bool × Int) : Option (((List S_api_Pair) × Bool × Int) ⊕ (((List S_api_Pair) × Bool))) :=
 match s with
 | (x1, x2, x3) => iteB (decide (x3 < (p0.length : Int))) ((((iteB (!x2) ((ixV p0 x3).bind fun x11 => some (Op.bytesLess p1.Key x11.Key || p1.Key == x11.Key)) (some false) : Option (Bool)).bind fun x10 => iteB x10 (need (okN 32 (x1.length + ([p1] : List S_api_Pair).length)) <| some ((x1 ++ ([p1] : List S_api_Pair)), true)) (some (x1, x2)) : Option (((List S_api_Pair) × Bool))).bind fun (x8, x9) => (ixV p0 x3).bind fun x12 => iteB (!(x12.Key == p1.Key)) ((ixV p0 x3).bind fun x13 => need (okN 32 (x8.length + ([x13] : List S_api_Pair).length)) <| some ((x8 ++ ([x13] : List S_api_Pair)), x9)) (some (x8, x9)) : Option (((List S_api_Pair) × Bool))).bind fun (x6, x7) => some (.inl (x6, x7, IntKind.i64.wrap (x3 + 1)))) (some (.inr (x1, x2)))
def M_boulterref07_put_sOR (p0 : List S_api_Pair) (p1 : S_api_Pair) : Option ((List S_api_Pair)) :=
 (loop (M_boulterref07_put_sOR_L0 p0 p1) (([] : List S_api_Pair), false, (0 : Int))).bind fun (x4, x5) => (iteB (!x5) (need (okN 32 (x4.length + ([p1] : List S_api_Pair).length)) <| some (x4 ++ ([p1] : List S_api_Pair))) (some x4) : Option (((List S_api_Pair)))).bind fun x14 => some x14
theorem ok_boulterref07_put_sOR {p0 p1 rp0 q0} (hm : M_boulterref07_put_sOR p0 p1 = some q0) (A : HH g h [.lst rp0 40 (lst e_S_api_Pair p0)] F) (hc : canL (cfg.still 15) av = [rowV rp0 p0.length, .agg [.str p1.Key, .str p1.Value]] := by kernel_rfl) : ∃ v h', Runs cfg g h 15 av v h' ∧ ∃ (rq0 : Option Nat), v = rowV rq0 q0.length ∧ HH g h' [.lst rq0 40 (lst e_S_api_Pair q0), .lst rp0 40 (lst e_S_api_Pair p0)] F := by
 refine rq1 53 [.tmp 4] hc ?_
 clear hc
 unfold M_boulterref07_put_sOR at hm
 refine bg 53 [(0, rowV rp0 p0.length), (1, .agg [.str p1.Key, .str p1.Value])] fun fr H => ?_
 refine aw_sr 2 ?_
 obtain ⟨h1, e1, A⟩ := A.pu (.cells none 2 [.str p1.Key, .str p1.Value])
 refine at_ln 3 (.ptr (some (h.size, 0))) e1 H fun fr t H => ?_
 refine at_S 1 [] 2 H fun fr H => ?_
 obtain ⟨h2, e2, A⟩ := A.pL 40 []
 refine at_ln 8 (rowV (some h1.size) (([] : List S_api_Pair).length)) e2 H fun fr t H => ?_
 refine at_S 1 [(5, rowV (some h1.size) (([] : List S_api_Pair).length))] 1 H fun fr H => at_L 1 [(6, .bool false)] H fun fr H => aw_sq (aw_sr 1 (at_L 1 [(7, Ai 0)] H fun fr H => aw_block (id := 0) (by kernel_rfl) ?_))
 replace A : HH g h2 [.lst (some h1.size) 40 (lst e_S_api_Pair ([] : List S_api_Pair)), .obj h.size (.cells none 2 [.str p1.Key, .str p1.Value]), _] F := A
 obtain ⟨o1, ho, hm⟩ := bind_some hm
 refine aw_mono (Q' := fun e fr' h' => (∃ x4 x5, e = .exit 0 ∧ (x4, x5) = o1 ∧ ∃ r2, Has fr' 53 [(3, .ptr (some (h.size, 0))), (5, rowV r2 x4.length), (6, .bool x5)] ∧ HH g h' [.lst r2 40 (lst e_S_api_Pair x4), .obj h.size (.cells none 2 [.str p1.Key, .str p1.Value]), .lst rp0 40 (lst e_S_api_Pair p0)] F) ∨ False) ?_ ?_
 ·refine aw_loop (by kernel_rfl) (fun (s : (List S_api_Pair) × Bool × Int) fr' h' => ∃ x1 x2 x3, (x1, x2, x3) = s ∧ ∃ r1, Has fr' 53 [(0, rowV rp0 p0.length), (3, .ptr (some (h.size, 0))), (5, rowV r1 x1.length), (6, .bool x2), (7, Ai x3)] ∧ HH g h' [.lst r1 40 (lst e_S_api_Pair x1), .obj h.size (.cells none 2 [.str p1.Key, .str p1.Value]), .lst rp0 40 (lst e_S_api_Pair p0)] F) ho ⟨_, _, _, rfl, some h1.size, H.ls, A⟩ ?_
  clear ho hm H A
  intro s q fr h3 hI hm
  obtain ⟨x1, x2, x3, rfl, r1, H, A⟩ := hI
  unfold M_boulterref07_put_sOR_L0 at hm
  refine aw_sq (aw_sr 4 (at_L 4 [(12, .bool (decide (x3 < (p0.length : Int))))] H fun fr H => aw_if 12 H hm (fun hb hm H => ?_) fun hb hm H => ?_))
  ·refine aw_kn id (aw_sq ?_)
   obtain ⟨o2, ho, hm⟩ := bind_some hm
   refine aw_mono (Q' := fun e fr' h' => (∃ x6 x7, e = .normal ∧ (x6, x7) = o2 ∧ ∃ r3, Has fr' 53 [(0, rowV rp0 p0.length), (3, .ptr (some (h.size, 0))), (5, rowV r3 x6.length), (6, .bool x7), (7, Ai x3)] ∧ HH g h' [.lst r3 40 (lst e_S_api_Pair x6), .obj h.size (.cells none 2 [.str p1.Key, .str p1.Value]), .lst rp0 40 (lst e_S_api_Pair p0)] F) ∨ False) ?_ ?_
   ·replace hm := ho
    clear ho
    refine aw_block (id := 1) (by kernel_rfl) ?_
    refine aw_sq ?_
    obtain ⟨o3, ho, hm⟩ := bind_some hm
    refine aw_mono (Q' := fun e fr' h' => (∃ x8 x9, e = .normal ∧ (x8, x9) = o3 ∧ ∃ r4, Has fr' 53 [(0, rowV rp0 p0.length), (3, .ptr (some (h.size, 0))), (5, rowV r4 x8.length), (6, .bool x9), (7, Ai x3)] ∧ HH g h' [.lst r4 40 (lst e_S_api_Pair x8), .obj h.size (.cells none 2 [.str p1.Key, .str p1.Value]), .lst rp0 40 (lst e_S_api_Pair p0)] F) ∨ False) ?_ ?_
    ·replace hm := ho
     clear ho
     refine aw_sq (aw_dg 6 12 ?_)
     refine at_sl 3 [(17, .bool (!x2))] H fun fr H => ?_
     obtain ⟨x10, ho, hm⟩ := bind_some hm
     refine at_cl 9 (fun fr' h' => Has fr' 53 [(0, rowV rp0 p0.length), (3, .ptr (some (h.size, 0))), (5, rowV r1 x1.length), (6, .bool x2), (7, Ai x3), (26, .bool x10)] ∧ HH g h' [.lst r1 40 (lst e_S_api_Pair x1), .obj h.size (.cells none 2 [.str p1.Key, .str p1.Value]), .lst rp0 40 (lst e_S_api_Pair p0)] F) ?_ ?_
     ·rcases iteB_some ho with ⟨hb, hm⟩ | ⟨hb, hm⟩
      ·replace H := H.kn 17 hb
       refine at_gl 1 [] 19 1 0 A H fun fr t H => ?_
       obtain ⟨x11, hx, hm⟩ := bind_some hm
       obtain ⟨i1, er1, _, hx, hq1⟩ := HH.ixO enc_S_api_Pair (by decide) A 2 (xs := p0) rfl hx
       refine at_g1 2 [] 22 (.ptr (some (i1, x3.toNat * 2))) h3 H (fun fr => .of (s_ixL (s := rowS rp0 p0.length) (by kernel_rfl) hx)) fun fr t H => ?_
       refine at_g1 1 [] 24 _ _ H (fun fr => .of (s_ld (by kernel_rfl) (row_ld1 enc_S_api_Pair (HH.row A 2 rfl er1) hq1 (o := 0) rfl))) fun fr t H => ?_
       refine at_sl 2 [(26, .bool (Op.bytesLess p1.Key x11.Key || p1.Key == x11.Key))] H fun fr H => ?_
       obtain rfl := injA hm
       exact at_nil ⟨H.ls, A⟩
      replace H := H.kn 17 hb
      refine at_sl 9 [(26, .bool false)] H fun fr H => ?_
      obtain rfl := injA hm
      exact at_nil ⟨H.ls, A⟩
     clear A
     intro t fr h4 hK
     obtain ⟨H, A⟩ := hK
     refine at_nl id (aw_if 26 H hm (fun hb hm H => ?_) fun hb hm H => ?_)
     ·refine aw_sr 5 (at_g1 1 [(27, rowV r1 x1.length)] 28 _ _ H (fun fr => .of (s_ldA (by kernel_rfl) (A.ldA 1 rfl (o := 0) (n := 2) ⟨Nat.le_of_ble_eq_true rfl, rfl⟩))) fun fr t H => ?_)
      obtain ⟨h5, e3, A⟩ := A.pL 40 [.str p1.Key, .str p1.Value]
      refine at_ln 29 (rowV (some h4.size) (([p1] : List S_api_Pair).length)) e3 H fun fr t H => ?_
      obtain ⟨hb, hm⟩ := need_some hm
      obtain ⟨r5, h6, hx, A1⟩ := HH.appO enc_S_api_Pair (by decide) A 1 (xs := x1) (ys := ([p1] : List S_api_Pair)) rfl (row_first A 0 rfl (n := ([p1] : List S_api_Pair).length) (z := 2) rfl (by decide)) rfl rfl hb
      replace A : HH g h6 [.lst (some h4.size) 40 ([.str p1.Key, .str p1.Value]), .lst r5 40 (lst e_S_api_Pair (x1 ++ ([p1] : List S_api_Pair))), _, _] F := A1
      replace A := A.k3 1 2 3
      refine at_l1 30 _ _ H (fun fr => .of (s_app (s := rowS r1 x1.length) (by kernel_rfl) hx)) fun fr t H => ?_
      refine at_se 1 [(0, rowV rp0 p0.length), (3, .ptr (some (h.size, 0))), (5, rowV r5 ((x1 ++ ([p1] : List S_api_Pair)).length)), (7, Ai x3)] H fun fr H => at_nr 1 id (at_sl 1 [(6, .bool true)] H fun fr H => at_nil ?_)
      exact .inl ⟨_, _, rfl, injA hm, _, H.ls, A⟩
     exact aw_sk (.inl ⟨_, _, rfl, injA hm, _, H.ls, A⟩)
    clear ho
    clear A
    intro e fr h7 hQ
    rcases hQ with ⟨x8, x9, rfl, rfl, r4, H, A⟩ | hF
    ·show AW _ _ _ _ _ _ _
     refine aw_sq (aw_dg 9 8 ?_)
     obtain ⟨x12, hx, hm⟩ := bind_some hm
     obtain ⟨i2, er2, _, hx, hq2⟩ := HH.ixO enc_S_api_Pair (by decide) A 2 (xs := p0) rfl hx
     refine at_g1 2 [] 33 (.ptr (some (i2, x3.toNat * 2))) h7 H (fun fr => .of (s_ixL (s := rowS rp0 p0.length) (by kernel_rfl) hx)) fun fr t H => ?_
     refine at_g1 1 [] 35 _ _ H (fun fr => .of (s_ld (by kernel_rfl) (row_ld1 enc_S_api_Pair (HH.row A 2 rfl er2) hq2 (o := 0) rfl))) fun fr t H => ?_
     refine at_gl 1 [] 37 1 0 A H fun fr t H => ?_
     refine at_L 1 [(38, .bool (!(x12.Key == p1.Key)))] H fun fr H => aw_if 38 H hm (fun hb hm H => ?_) fun hb hm H => ?_
     ·refine aw_rg 8 ?_
      obtain ⟨x13, hx, hm⟩ := bind_some hm
      obtain ⟨i3, er3, _, hx, hq3⟩ := HH.ixO enc_S_api_Pair (by decide) A 2 (xs := p0) rfl hx
      refine at_g1 3 [(39, rowV r4 x8.length)] 42 (.ptr (some (i3, x3.toNat * 2))) h7 H (fun fr => .of (s_ixL (s := rowS rp0 p0.length) (by kernel_rfl) hx)) fun fr t H => ?_
      refine at_l1 43 _ _ H (fun fr => .of (s_ldA (by kernel_rfl) (row_ldA enc_S_api_Pair (HH.row A 2 rfl er3) hq3 0 2 (Nat.le_of_ble_eq_true rfl)))) fun fr t H => ?_
      obtain ⟨h8, e4, A⟩ := A.pL 40 (e_S_api_Pair x13)
      refine at_ln 44 (rowV (some h7.size) (([x13] : List S_api_Pair).length)) e4 H fun fr t H => ?_
      obtain ⟨hb, hm⟩ := need_some hm
      obtain ⟨r6, h9, hx, A1⟩ := HH.appO enc_S_api_Pair (by decide) A 1 (xs := x8) (ys := ([x13] : List S_api_Pair)) rfl (row_first A 0 rfl (n := ([x13] : List S_api_Pair).length) (z := 2) rfl (by decide)) rfl rfl hb
      replace A : HH g h9 [.lst (some h7.size) 40 ((e_S_api_Pair x13)), .lst r6 40 (lst e_S_api_Pair (x8 ++ ([x13] : List S_api_Pair))), _, _] F := A1
      replace A := A.k3 1 2 3
      refine at_l1 45 _ _ H (fun fr => .of (s_app (s := rowS r4 x8.length) (by kernel_rfl) hx)) fun fr t H => ?_
      refine at_se 1 [(0, rowV rp0 p0.length), (3, .ptr (some (h.size, 0))), (5, rowV r6 ((x8 ++ ([x13] : List S_api_Pair)).length)), (6, .bool x9), (7, Ai x3)] H fun fr H => at_nil ?_
      exact .inl ⟨_, _, rfl, injA hm, _, H.ls, A⟩
     exact aw_sk (.inl ⟨_, _, rfl, injA hm, _, H.ls, A⟩)
    exact hF.elim
   clear ho
   clear A
   intro e fr h10 hQ
   rcases hQ with ⟨x6, x7, rfl, rfl, r3, H, A⟩ | hF
   ·show AW _ _ _ _ _ _ _
    refine aw_rg 3 (at_se 3 [(0, rowV rp0 p0.length), (3, .ptr (some (h.size, 0))), (5, rowV r3 x6.length), (6, .bool x7), (7, Ai (IntKind.i64.wrap (x3 + 1)))] H fun fr H => at_nil ?_)
    exact nx hm ⟨_, _, _, rfl, _, H.ls, A⟩
   exact hF.elim
  refine aw_exit (i := 0) (by kernel_rfl) ?_
  exact nr hm fun e => .inl ⟨_, _, rfl, e, _, H.ls, A⟩
 clear ho
 clear A
 intro e fr h11 hQ
 rcases hQ with ⟨x4, x5, rfl, rfl, r2, H, A⟩ | hF
 ·show AW _ _ _ _ _ _ _
  refine aw_sq ?_
  obtain ⟨o4, ho, hm⟩ := bind_some hm
  refine aw_mono (Q' := fun e fr' h' => (∃ x14, e = .normal ∧ x14 = o4 ∧ ∃ r7, Has fr' 53 [(5, rowV r7 x14.length)] ∧ HH g h' [.lst r7 40 (lst e_S_api_Pair x14), .obj h.size (.cells none 2 [.str p1.Key, .str p1.Value]), .lst rp0 40 (lst e_S_api_Pair p0)] F) ∨ False) ?_ ?_
  ·replace hm := ho
   clear ho
   refine aw_sr 2 (at_L 2 [(47, .bool (!x5))] H fun fr H => aw_if 47 H hm (fun hb hm H => ?_) fun hb hm H => ?_)
   ·refine aw_rg 5 (at_g1 1 [(48, rowV r2 x4.length)] 49 _ _ H (fun fr => .of (s_ldA (by kernel_rfl) (A.ldA 1 rfl (o := 0) (n := 2) ⟨Nat.le_of_ble_eq_true rfl, rfl⟩))) fun fr t H => ?_)
    obtain ⟨h12, e5, A⟩ := A.pL 40 [.str p1.Key, .str p1.Value]
    refine at_ln 50 (rowV (some h11.size) (([p1] : List S_api_Pair).length)) e5 H fun fr t H => ?_
    obtain ⟨hb, hm⟩ := need_some hm
    obtain ⟨r8, h13, hx, A1⟩ := HH.appO enc_S_api_Pair (by decide) A 1 (xs := x4) (ys := ([p1] : List S_api_Pair)) rfl (row_first A 0 rfl (n := ([p1] : List S_api_Pair).length) (z := 2) rfl (by decide)) rfl rfl hb
    replace A : HH g h13 [.lst (some h11.size) 40 ([.str p1.Key, .str p1.Value]), .lst r8 40 (lst e_S_api_Pair (x4 ++ ([p1] : List S_api_Pair))), _, _] F := A1
    replace A := A.k3 1 2 3
    refine at_l1 51 _ _ H (fun fr => .of (s_app (s := rowS r2 x4.length) (by kernel_rfl) hx)) fun fr t H => ?_
    refine at_se 1 [(5, rowV r8 ((x4 ++ ([p1] : List S_api_Pair)).length))] H fun fr H => at_nil ?_
    exact .inl ⟨_, rfl, injA hm, _, H.ls, A⟩
   exact aw_sk (.inl ⟨_, rfl, injA hm, _, H.ls, A⟩)
  clear ho
  clear A
  intro e fr h14 hQ
  rcases hQ with ⟨x14, rfl, rfl, r7, H, A⟩ | hF
  ·show AW _ _ _ _ _ _ _
   refine aw_sr 2 (at_L 2 [(4, rowV r7 x14.length)] H fun fr H => aw_rt ?_)
   obtain rfl := injA hm
   refine ⟨.inl rfl, rowV r7 x14.length, rH H, ?_⟩
   replace A := A.k2 0 2
   exact ⟨r7, rfl, A⟩
  exact hF.elim
 exact hF.elim
def M_boulterref07_Merge_L0 (p0 : List S_api_Pair) (s : (List S_api_Pair) × Int) : Option (((List S_api_Pair) × Int) ⊕ (((List S_api_Pair)))) :=
 match s with
 | (x1, x2) => iteB (decide (x2 < (p0.length : Int))) ((ixV p0 x2).bind fun x4 => (M_boulterref07_put_sOR x1 x4).bind fun x5 => some (.inl (x5, IntKind.i64.wrap (x2 + 1)))) (some (.inr x1))
def M_boulterref07_Merge_L1 (p1 : List S_api_Pair) (s : (List S_api_Pair) × Int) : Option (((List S_api_Pair) × Int) ⊕ (((List S_api_Pair)))) :=
 match s with
 | (x6, x7) => iteB (decide (x7 < (p1.length : Int))) ((ixV p1 x7).bind fun x9 => (M_boulterref07_put_sOR x6 x9).bind fun x10 => some (.inl (x10, IntKind.i64.wrap (x7 + 1)))) (some (.inr x6))
def M_boulterref07_Merge_L2 (x8 : List S_api_Pair) (s : (List S_api_Pair) × Int) : Option (((List S_api_Pair) × Int) ⊕ (((List S_api_Pair)))) :=
 match s with
 | (x11, x12) => iteB (decide (x12 < (x8.length : Int))) (((ixV x8 x12).bind fun x15 => iteB (!(x15.Value == ([] : List UInt8))) ((ixV x8 x12).bind fun x16 => need (okN 32 (x11.length + ([x16] : List S_api_Pair).length)) <| some (x11 ++ ([x16] : List S_api_Pair))) (some x11) : Option (((List S_api_Pair)))).bind fun x14 => some (.inl (x14, IntKind.i64.wrap (x12 + 1)))) (some (.inr x11))
def M_boulterref07_Merge (p0 : List S_api_Pair) (p1 : List S_api_Pair) : Option ((List S_api_Pair)) :=
 (loop (M_boulterref07_Merge_L0 p0) (([] : List S_api_Pair), (0 : Int))).bind fun x3 => (loop (M_boulterref07_Merge_L1 p1) (x3, (0 : Int))).bind fun x8 => (loop (M_boulterref07_Merge_L2 x8) (([] : List S_api_Pair), (0 : Int))).bind fun x13 => some x13
theorem ok_boulterref07_Merge {p0 p1 q0} (hm : M_boulterref07_Merge p0 p1 = some q0) (A : HH g h [] F) (hc : canL (cfg.still 7) av = [vs e_S_api_Pair p0, vs e_S_api_Pair p1] := by kernel_rfl) : ∃ v h', Runs cfg g h 7 av v h' ∧ ∃ (rq0 : Option Nat), v = rowV rq0 q0.length ∧ HH g h' [.lst rq0 40 (lst e_S_api_Pair q0)] F := by
 refine rq1 56 [.tmp 4] hc ?_
 clear hc
 unfold M_boulterref07_Merge at hm
 refine bg 56 [(0, vs e_S_api_Pair p0), (1, vs e_S_api_Pair p1)] fun fr H => ?_
 refine aw_sr 1 (at_S 1 [] 2 H fun fr H => ?_)
 obtain ⟨h1, e1, A⟩ := A.pL 40 []
 refine at_ln 10 (rowV (some h.size) (([] : List S_api_Pair).length)) e1 H fun fr t H => ?_
 refine at_L 1 [(5, rowV (some h.size) (([] : List S_api_Pair).length))] H fun fr H => aw_sq (aw_sr 1 (at_L 1 [(6, Ai 0)] H fun fr H => aw_block (id := 0) (by kernel_rfl) ?_))
 replace A : HH g h1 [.lst (some h.size) 40 (lst e_S_api_Pair ([] : List S_api_Pair))] F := A
 obtain ⟨o1, ho, hm⟩ := bind_some hm
 refine aw_mono (Q' := fun e fr' h' => (∃ x3, e = .exit 0 ∧ x3 = o1 ∧ ∃ r2, Has fr' 56 [(1, vs e_S_api_Pair p1), (5, rowV r2 x3.length)] ∧ HH g h' [.lst r2 40 (lst e_S_api_Pair x3)] F) ∨ False) ?_ ?_
 ·refine aw_loop (by kernel_rfl) (fun (s : (List S_api_Pair) × Int) fr' h' => ∃ x1 x2, (x1, x2) = s ∧ ∃ r1, Has fr' 56 [(0, vs e_S_api_Pair p0), (1, vs e_S_api_Pair p1), (5, rowV r1 x1.length), (6, Ai x2)] ∧ HH g h' [.lst r1 40 (lst e_S_api_Pair x1)] F) ho ⟨_, _, rfl, some h.size, H.ls, A⟩ ?_
  clear ho hm H A
  intro s q fr h2 hI hm
  obtain ⟨x1, x2, rfl, r1, H, A⟩ := hI
  unfold M_boulterref07_Merge_L0 at hm
  refine aw_sq (aw_sr 4 (at_L 4 [(14, .bool (decide (x2 < (p0.length : Int))))] H fun fr H => aw_if 14 H hm (fun hb hm H => ?_) fun hb hm H => ?_))
  ·refine aw_kn id (aw_sq (aw_block (id := 1) (by kernel_rfl) ?_))
   refine aw_rg 7 ?_
   obtain ⟨x4, hx, hm⟩ := bind_some hm
   refine at_g1 3 [(17, rowV r1 x1.length)] 20 (.vptr [.str x4.Key, .str x4.Value]) h2 H (fun fr => .of (s_ixV (e := e_S_api_Pair) (x := x4) enc_S_api_Pair (by decide) (by kernel_rfl) hx)) fun fr t H => ?_
   refine at_l1 21 (.agg [.str x4.Key, .str x4.Value]) h2 H (fun fr => .of (s_lv (by kernel_rfl))) fun fr t H => ?_
   obtain ⟨x5, hx, hm⟩ := bind_some hm
   obtain ⟨v1, h3, hr, rqw1, rfl, A1⟩ := ok_boulterref07_put_sOR (av := [rowV r1 x1.length, .agg [.str x4.Key, .str x4.Value]]) hx (A.cut 1)
   replace A := A.g12 A1
   refine at_lc1 22 hr H fun fr t H => ?_
   refine at_se 1 [(0, vs e_S_api_Pair p0), (1, vs e_S_api_Pair p1), (5, rowV rqw1 x5.length), (6, Ai x2)] H fun fr H => at_nr 3 id (at_se 3 [(0, vs e_S_api_Pair p0), (1, vs e_S_api_Pair p1), (5, rowV rqw1 x5.length), (6, Ai (IntKind.i64.wrap (x2 + 1)))] H fun fr H => at_nil ?_)
   replace A := A.d1
   exact nx hm ⟨_, _, rfl, rqw1, H.ls, A⟩
  refine aw_exit (i := 0) (by kernel_rfl) ?_
  exact nr hm fun e => .inl ⟨_, rfl, e, _, H.ls, A⟩
 clear ho
 clear A
 intro e fr h4 hQ
 rcases hQ with ⟨x3, rfl, rfl, r2, H, A⟩ | hF
 ·show AW _ _ _ _ _ _ _
  refine aw_sq (aw_sr 1 (at_L 1 [(7, Ai 0)] H fun fr H => aw_block (id := 2) (by kernel_rfl) ?_))
  obtain ⟨o2, ho, hm⟩ := bind_some hm
  refine aw_mono (Q' := fun e fr' h' => (∃ x8, e = .exit 2 ∧ x8 = o2 ∧ ∃ r4, Has fr' 56 [(5, rowV r4 x8.length)] ∧ HH g h' [.lst r4 40 (lst e_S_api_Pair x8)] F) ∨ False) ?_ ?_
  ·refine aw_loop (by kernel_rfl) (fun (s : (List S_api_Pair) × Int) fr' h' => ∃ x6 x7, (x6, x7) = s ∧ ∃ r3, Has fr' 56 [(1, vs e_S_api_Pair p1), (5, rowV r3 x6.length), (7, Ai x7)] ∧ HH g h' [.lst r3 40 (lst e_S_api_Pair x6)] F) ho ⟨_, _, rfl, _, H.ls, A⟩ ?_
   clear ho hm H A
   intro s q fr h5 hI hm
   obtain ⟨x6, x7, rfl, r3, H, A⟩ := hI
   unfold M_boulterref07_Merge_L1 at hm
   refine aw_sq (aw_sr 4 (at_L 4 [(26, .bool (decide (x7 < (p1.length : Int))))] H fun fr H => aw_if 26 H hm (fun hb hm H => ?_) fun hb hm H => ?_))
   ·refine aw_kn id (aw_sq (aw_block (id := 3) (by kernel_rfl) ?_))
    refine aw_rg 7 ?_
    obtain ⟨x9, hx, hm⟩ := bind_some hm
    refine at_g1 3 [(29, rowV r3 x6.length)] 32 (.vptr [.str x9.Key, .str x9.Value]) h5 H (fun fr => .of (s_ixV (e := e_S_api_Pair) (x := x9) enc_S_api_Pair (by decide) (by kernel_rfl) hx)) fun fr t H => ?_
    refine at_l1 33 (.agg [.str x9.Key, .str x9.Value]) h5 H (fun fr => .of (s_lv (by kernel_rfl))) fun fr t H => ?_
    obtain ⟨x10, hx, hm⟩ := bind_some hm
    obtain ⟨v1, h6, hr, rqw2, rfl, A1⟩ := ok_boulterref07_put_sOR (av := [rowV r3 x6.length, .agg [.str x9.Key, .str x9.Value]]) hx (A.cut 1)
    replace A := A.g12 A1
    refine at_lc1 34 hr H fun fr t H => ?_
    refine at_se 1 [(1, vs e_S_api_Pair p1), (5, rowV rqw2 x10.length), (7, Ai x7)] H fun fr H => at_nr 3 id (at_se 3 [(1, vs e_S_api_Pair p1), (5, rowV rqw2 x10.length), (7, Ai (IntKind.i64.wrap (x7 + 1)))] H fun fr H => at_nil ?_)
    replace A := A.d1
    exact nx hm ⟨_, _, rfl, rqw2, H.ls, A⟩
   refine aw_exit (i := 2) (by kernel_rfl) ?_
   exact nr hm fun e => .inl ⟨_, rfl, e, _, H.ls, A⟩
  clear ho
  clear A
  intro e fr h7 hQ
  rcases hQ with ⟨x8, rfl, rfl, r4, H, A⟩ | hF
  ·show AW _ _ _ _ _ _ _
   refine aw_sr 2 ?_
   obtain ⟨h8, e2, A⟩ := A.pL 40 []
   refine at_ln 35 (rowV (some h7.size) (([] : List S_api_Pair).length)) e2 H fun fr t H => ?_
   refine at_L 1 [(8, rowV (some h7.size) (([] : List S_api_Pair).length))] H fun fr H => aw_sq (aw_sr 1 (at_L 1 [(9, Ai 0)] H fun fr H => aw_block (id := 4) (by kernel_rfl) ?_))
   replace A : HH g h8 [.lst (some h7.size) 40 (lst e_S_api_Pair ([] : List S_api_Pair)), _] F := A
   obtain ⟨o3, ho, hm⟩ := bind_some hm
   refine aw_mono (Q' := fun e fr' h' => (∃ x13, e = .exit 4 ∧ x13 = o3 ∧ ∃ r6, Has fr' 56 [(8, rowV r6 x13.length)] ∧ HH g h' [.lst r6 40 (lst e_S_api_Pair x13)] F) ∨ False) ?_ ?_
   ·refine aw_loop (by kernel_rfl) (fun (s : (List S_api_Pair) × Int) fr' h' => ∃ x11 x12, (x11, x12) = s ∧ ∃ r5, Has fr' 56 [(5, rowV r4 x8.length), (8, rowV r5 x11.length), (9, Ai x12)] ∧ HH g h' [.lst r5 40 (lst e_S_api_Pair x11), .lst r4 40 (lst e_S_api_Pair x8)] F) ho ⟨_, _, rfl, some h7.size, H.ls, A⟩ ?_
    clear ho hm H A
    intro s q fr h9 hI hm
    obtain ⟨x11, x12, rfl, r5, H, A⟩ := hI
    unfold M_boulterref07_Merge_L2 at hm
    refine aw_sq (aw_sr 4 (at_L 4 [(39, .bool (decide (x12 < (x8.length : Int))))] H fun fr H => aw_if 39 H hm (fun hb hm H => ?_) fun hb hm H => ?_))
    ·refine aw_kn id (aw_sq ?_)
     obtain ⟨o4, ho, hm⟩ := bind_some hm
     refine aw_mono (Q' := fun e fr' h' => (∃ x14, e = .normal ∧ x14 = o4 ∧ ∃ r7, Has fr' 56 [(5, rowV r4 x8.length), (8, rowV r7 x14.length), (9, Ai x12)] ∧ HH g h' [.lst r7 40 (lst e_S_api_Pair x14), .lst r4 40 (lst e_S_api_Pair x8)] F) ∨ False) ?_ ?_
     ·replace hm := ho
      clear ho
      refine aw_block (id := 5) (by kernel_rfl) ?_
      refine aw_sr 6 ?_
      obtain ⟨x15, hx, hm⟩ := bind_some hm
      obtain ⟨i1, er1, _, hx, hq1⟩ := HH.ixO enc_S_api_Pair (by decide) A 1 (xs := x8) rfl hx
      refine at_g1 2 [] 44 (.ptr (some (i1, x12.toNat * 2))) h9 H (fun fr => .of (s_ixL (s := rowS r4 x8.length) (by kernel_rfl) hx)) fun fr t H => ?_
      refine at_g1 1 [] 46 _ _ H (fun fr => .of (s_ld (by kernel_rfl) (row_ld1 enc_S_api_Pair (HH.row A 1 rfl er1) hq1 (o := 1) rfl))) fun fr t H => ?_
      refine at_L 1 [(47, .bool (!(x15.Value == ([] : List UInt8))))] H fun fr H => aw_if 47 H hm (fun hb hm H => ?_) fun hb hm H => ?_
      ·refine aw_rg 8 ?_
       obtain ⟨x16, hx, hm⟩ := bind_some hm
       obtain ⟨i2, er2, _, hx, hq2⟩ := HH.ixO enc_S_api_Pair (by decide) A 1 (xs := x8) rfl hx
       refine at_g1 3 [(48, rowV r5 x11.length)] 51 (.ptr (some (i2, x12.toNat * 2))) h9 H (fun fr => .of (s_ixL (s := rowS r4 x8.length) (by kernel_rfl) hx)) fun fr t H => ?_
       refine at_l1 52 _ _ H (fun fr => .of (s_ldA (by kernel_rfl) (row_ldA enc_S_api_Pair (HH.row A 1 rfl er2) hq2 0 2 (Nat.le_of_ble_eq_true rfl)))) fun fr t H => ?_
       obtain ⟨h10, e3, A⟩ := A.pL 40 (e_S_api_Pair x16)
       refine at_ln 53 (rowV (some h9.size) (([x16] : List S_api_Pair).length)) e3 H fun fr t H => ?_
       obtain ⟨hb, hm⟩ := need_some hm
       obtain ⟨r8, h11, hx, A1⟩ := HH.appO enc_S_api_Pair (by decide) A 1 (xs := x11) (ys := ([x16] : List S_api_Pair)) rfl (row_first A 0 rfl (n := ([x16] : List S_api_Pair).length) (z := 2) rfl (by decide)) rfl rfl hb
       replace A : HH g h11 [.lst (some h9.size) 40 ((e_S_api_Pair x16)), .lst r8 40 (lst e_S_api_Pair (x11 ++ ([x16] : List S_api_Pair))), _] F := A1
       replace A := A.k2 1 2
       refine at_l1 54 _ _ H (fun fr => .of (s_app (s := rowS r5 x11.length) (by kernel_rfl) hx)) fun fr t H => ?_
       refine at_se 1 [(5, rowV r4 x8.length), (8, rowV r8 ((x11 ++ ([x16] : List S_api_Pair)).length)), (9, Ai x12)] H fun fr H => at_nil ?_
       exact .inl ⟨_, rfl, injA hm, _, H.ls, A⟩
      exact aw_sk (.inl ⟨_, rfl, injA hm, _, H.ls, A⟩)
     clear ho
     clear A
     intro e fr h12 hQ
     rcases hQ with ⟨x14, rfl, rfl, r7, H, A⟩ | hF
     ·show AW _ _ _ _ _ _ _
      refine aw_rg 3 (at_se 3 [(5, rowV r4 x8.length), (8, rowV r7 x14.length), (9, Ai (IntKind.i64.wrap (x12 + 1)))] H fun fr H => at_nil ?_)
      exact nx hm ⟨_, _, rfl, _, H.ls, A⟩
     exact hF.elim
    refine aw_exit (i := 4) (by kernel_rfl) ?_
    replace A := A.d1
    exact nr hm fun e => .inl ⟨_, rfl, e, _, H.ls, A⟩
   clear ho
   clear A
   intro e fr h13 hQ
   rcases hQ with ⟨x13, rfl, rfl, r6, H, A⟩ | hF
   ·show AW _ _ _ _ _ _ _
    refine aw_sr 2 (at_L 2 [(4, rowV r6 x13.length)] H fun fr H => aw_rt ?_)
    obtain rfl := injA hm
    exact ⟨.inl rfl, _, rH H, _, rfl, A⟩
   exact hF.elim
  exact hF.elim
 exact hF.elim
def M_boulterref06_Same_sVO_L0 (p0 : List S_api_Pair) (p1 : List S_api_Pair) (s : Int) : Option ((Int) ⊕ ((Unit) ⊕ (Bool))) :=
 match s with
 | x1 => iteB (decide (x1 < (p0.length : Int))) ((ixV p0 x1).bind fun x3 => (ixV p1 x1).bind fun x4 => (eqG cfg.P 40 [.str x3.Key, .str x3.Value] [.str x4.Key, .str x4.Value]).bind fun x5 => iteB (!x5) (some (.inr (.inr false))) (some (.inl (IntKind.i64.wrap (x1 + 1))))) (some (.inr (.inl ())))
def M_boulterref06_Same_sVO (p0 : List S_api_Pair) (p1 : List S_api_Pair) : Option (Bool) :=
 iteB ((p0.length : Int) != (p1.length : Int)) (some false) ((loop (M_boulterref06_Same_sVO_L0 p0 p1) (0 : Int)).bind fun o1 => (match o1 with | .inl _ => some true | .inr x2 => some x2))
theorem ok_boulterref06_Same_sVO {p0 p1 rp1 q0} (hm : M_boulterref06_Same_sVO p0 p1 = some q0) (A : HH g h [.lst rp1 40 (lst e_S_api_Pair p1)] F) (hc : canL (cfg.still 12) av = [vs e_S_api_Pair p0, rowV rp1 p1.length] := by kernel_rfl) : ∃ v h', Runs cfg g h 12 av v h' ∧ v = .bool q0 ∧ HH g h' [.lst rp1 40 (lst e_S_api_Pair p1)] F := by
 refine rq1 26 [.tmp 4] hc ?_
 clear hc
 unfold M_boulterref06_Same_sVO at hm
 refine bg 26 [(0, vs e_S_api_Pair p0), (1, rowV rp1 p1.length)] fun fr H => ?_
 refine aw_sr 1 (at_L 1 [] H fun fr H => aw_sq (aw_sr 5 (at_L 5 [(10, .bool ((p0.length : Int) != (p1.length : Int)))] H fun fr H => aw_if 10 H hm (fun hb hm H => ?_) fun hb hm H => ?_)))
 ·refine aw_sr 1 (at_L 1 [(4, .bool false)] H fun fr H => aw_rt ?_)
  obtain rfl := injA hm
  exact ⟨.inl rfl, _, rH H, rfl, A⟩
 refine aw_kn id (aw_sq (aw_sr 1 (at_L 1 [(5, Ai 0)] H fun fr H => aw_block (id := 0) (by kernel_rfl) ?_)))
 obtain ⟨o1, ho, hm⟩ := bind_some hm
 refine aw_mono (Q' := fun e fr' h' => (e = .exit 0 ∧ .inl () = o1 ∧ Has fr' 26 [] ∧ HH g h' [.lst rp1 40 (lst e_S_api_Pair p1)] F) ∨ (∃ x2, e = .ret ∧ .inr x2 = o1 ∧ Has fr' 26 [(4, .bool x2)] ∧ HH g h' [.lst rp1 40 (lst e_S_api_Pair p1)] F) ∨ False) ?_ ?_
 ·refine aw_loop (by kernel_rfl) (fun (s : Int) fr' h' => ∃ x1, x1 = s ∧ Has fr' 26 [(0, vs e_S_api_Pair p0), (1, rowV rp1 p1.length), (5, Ai x1)] ∧ HH g h' [.lst rp1 40 (lst e_S_api_Pair p1)] F) ho ⟨_, rfl, H.ls, A⟩ ?_
  clear ho hm H A
  intro s q fr h1 hI hm
  obtain ⟨x1, rfl, H, A⟩ := hI
  unfold M_boulterref06_Same_sVO_L0 at hm
  refine aw_sq (aw_sr 4 (at_L 4 [(14, .bool (decide (x1 < (p0.length : Int))))] H fun fr H => aw_if 14 H hm (fun hb hm H => ?_) fun hb hm H => ?_))
  ·refine aw_kn id (aw_sq (aw_block (id := 1) (by kernel_rfl) ?_))
   refine aw_sq (aw_dg 6 9 ?_)
   obtain ⟨x3, hx, hm⟩ := bind_some hm
   refine at_g1 2 [] 19 (.vptr [.str x3.Key, .str x3.Value]) h1 H (fun fr => .of (s_ixV (e := e_S_api_Pair) (x := x3) enc_S_api_Pair (by decide) (by kernel_rfl) hx)) fun fr t H => ?_
   refine at_l1 20 (.agg [.str x3.Key, .str x3.Value]) h1 H (fun fr => .of (s_lv (by kernel_rfl))) fun fr t H => ?_
   obtain ⟨x4, hx, hm⟩ := bind_some hm
   obtain ⟨i1, er1, _, hx, hq1⟩ := HH.ixO enc_S_api_Pair (by decide) A 0 (xs := p1) rfl hx
   refine at_g1 2 [] 23 (.ptr (some (i1, x1.toNat * 2))) h1 H (fun fr => .of (s_ixL (s := rowS rp1 p1.length) (by kernel_rfl) hx)) fun fr t H => ?_
   refine at_l1 24 _ _ H (fun fr => .of (s_ldA (by kernel_rfl) (row_ldA enc_S_api_Pair (HH.row A 0 rfl er1) hq1 0 2 (Nat.le_of_ble_eq_true rfl)))) fun fr t H => ?_
   obtain ⟨x5, hx, hm⟩ := bind_some hm
   refine at_l1 25 (.bool (!x5)) h1 H (fun fr => .of (s_neG (by kernel_rfl) hx)) fun fr t H => ?_
   refine at_nl id (aw_if 25 H hm (fun hb hm H => ?_) fun hb hm H => ?_)
   ·refine aw_sr 1 (at_L 1 [(4, .bool false)] H fun fr H => aw_rt ?_)
    exact nr hm fun e => Or.inr (.inl ⟨_, rfl, e, H.ls, A⟩)
   refine aw_kr 3 id (at_se 3 [(0, vs e_S_api_Pair p0), (1, rowV rp1 p1.length), (5, Ai (IntKind.i64.wrap (x1 + 1)))] H fun fr H => at_nil ?_)
   exact nx hm ⟨_, rfl, H.ls, A⟩
  refine aw_exit (i := 0) (by kernel_rfl) ?_
  exact nr hm fun e => .inl ⟨rfl, e, H.ls, A⟩
 clear ho
 clear A
 intro e fr h2 hQ
 rcases hQ with ⟨rfl, rfl, H, A⟩ | ⟨x2, rfl, rfl, H, A⟩ | hF
 ·show AW _ _ _ _ _ _ _
  refine aw_sr 1 (at_L 1 [(4, .bool true)] H fun fr H => aw_rt ?_)
  obtain rfl := injA hm
  exact ⟨.inl rfl, _, rH H, rfl, A⟩
 ·obtain rfl := injA hm
  exact ⟨.inl rfl, _, rH H, rfl, A⟩
 exact hF.elim
def M_boulterref06_Same_L0 (p0 : List S_api_Pair) (p1 : List S_api_Pair) (s : Int) : Option ((Int) ⊕ ((Unit) ⊕ (Bool))) :=
 match s with
 | x1 => iteB (decide (x1 < (p0.length : Int))) ((ixV p0 x1).bind fun x3 => (ixV p1 x1).bind fun x4 => (eqG cfg.P 40 [.str x3.Key, .str x3.Value] [.str x4.Key, .str x4.Value]).bind fun x5 => iteB (!x5) (some (.inr (.inr false))) (some (.inl (IntKind.i64.wrap (x1 + 1))))) (some (.inr (.inl ())))
def M_boulterref06_Same (p0 : List S_api_Pair) (p1 : List S_api_Pair) : Option (Bool) :=
 iteB ((p0.length : Int) != (p1.length : Int)) (some false) ((loop (M_boulterref06_Same_L0 p0 p1) (0 : Int)).bind fun o1 => (match o1 with | .inl _ => some true | .inr x2 => some x2))
theorem ok_boulterref06_Same {p0 p1 q0} (hm : M_boulterref06_Same p0 p1 = some q0) (A : HH g h [] F) (hc : canL (cfg.still 12) av = [vs e_S_api_Pair p0, vs e_S_api_Pair p1] := by kernel_rfl) : ∃ v h', Runs cfg g h 12 av v h' ∧ v = .bool q0 ∧ HH g h' [] F := by
 refine rq1 26 [.tmp 4] hc ?_
 clear hc
 unfold M_boulterref06_Same at hm
 refine bg 26 [(0, vs e_S_api_Pair p0), (1, vs e_S_api_Pair p1)] fun fr H => ?_
 refine aw_sr 1 (at_L 1 [] H fun fr H => aw_sq (aw_sr 5 (at_L 5 [(10, .bool ((p0.length : Int) != (p1.length : Int)))] H fun fr H => aw_if 10 H hm (fun hb hm H => ?_) fun hb hm H => ?_)))
 ·refine aw_sr 1 (at_L 1 [(4, .bool false)] H fun fr H => aw_rt ?_)
  obtain rfl := injA hm
  exact ⟨.inl rfl, _, rH H, rfl, A⟩
 refine aw_kn id (aw_sq (aw_sr 1 (at_L 1 [(5, Ai 0)] H fun fr H => aw_block (id := 0) (by kernel_rfl) ?_)))
 obtain ⟨o1, ho, hm⟩ := bind_some hm
 refine aw_mono (Q' := fun e fr' h' => (e = .exit 0 ∧ .inl () = o1 ∧ Has fr' 26 [] ∧ HH g h' [] F) ∨ (∃ x2, e = .ret ∧ .inr x2 = o1 ∧ Has fr' 26 [(4, .bool x2)] ∧ HH g h' [] F) ∨ False) ?_ ?_
 ·refine aw_loop (by kernel_rfl) (fun (s : Int) fr' h' => ∃ x1, x1 = s ∧ Has fr' 26 [(0, vs e_S_api_Pair p0), (1, vs e_S_api_Pair p1), (5, Ai x1)] ∧ HH g h' [] F) ho ⟨_, rfl, H.ls, A⟩ ?_
  clear ho hm H A
  intro s q fr h1 hI hm
  obtain ⟨x1, rfl, H, A⟩ := hI
  unfold M_boulterref06_Same_L0 at hm
  refine aw_sq (aw_sr 4 (at_L 4 [(14, .bool (decide (x1 < (p0.length : Int))))] H fun fr H => aw_if 14 H hm (fun hb hm H => ?_) fun hb hm H => ?_))
  ·refine aw_kn id (aw_sq (aw_block (id := 1) (by kernel_rfl) ?_))
   refine aw_sq (aw_dg 6 9 ?_)
   obtain ⟨x3, hx, hm⟩ := bind_some hm
   refine at_g1 2 [] 19 (.vptr [.str x3.Key, .str x3.Value]) h1 H (fun fr => .of (s_ixV (e := e_S_api_Pair) (x := x3) enc_S_api_Pair (by decide) (by kernel_rfl) hx)) fun fr t H => ?_
   refine at_l1 20 (.agg [.str x3.Key, .str x3.Value]) h1 H (fun fr => .of (s_lv (by kernel_rfl))) fun fr t H => ?_
   obtain ⟨x4, hx, hm⟩ := bind_some hm
   refine at_g1 2 [] 23 (.vptr [.str x4.Key, .str x4.Value]) h1 H (fun fr => .of (s_ixV (e := e_S_api_Pair) (x := x4) enc_S_api_Pair (by decide) (by kernel_rfl) hx)) fun fr t H => ?_
   refine at_l1 24 (.agg [.str x4.Key, .str x4.Value]) h1 H (fun fr => .of (s_lv (by kernel_rfl))) fun fr t H => ?_
   obtain ⟨x5, hx, hm⟩ := bind_some hm
   refine at_l1 25 (.bool (!x5)) h1 H (fun fr => .of (s_neG (by kernel_rfl) hx)) fun fr t H => ?_
   refine at_nl id (aw_if 25 H hm (fun hb hm H => ?_) fun hb hm H => ?_)
   ·refine aw_sr 1 (at_L 1 [(4, .bool false)] H fun fr H => aw_rt ?_)
    exact nr hm fun e => Or.inr (.inl ⟨_, rfl, e, H.ls, A⟩)
   refine aw_kr 3 id (at_se 3 [(0, vs e_S_api_Pair p0), (1, vs e_S_api_Pair p1), (5, Ai (IntKind.i64.wrap (x1 + 1)))] H fun fr H => at_nil ?_)
   exact nx hm ⟨_, rfl, H.ls, A⟩
  refine aw_exit (i := 0) (by kernel_rfl) ?_
  exact nr hm fun e => .inl ⟨rfl, e, H.ls, A⟩
 clear ho
 clear A
 intro e fr h2 hQ
 rcases hQ with ⟨rfl, rfl, H, A⟩ | ⟨x2, rfl, rfl, H, A⟩ | hF
 ·show AW _ _ _ _ _ _ _
  refine aw_sr 1 (at_L 1 [(4, .bool true)] H fun fr H => aw_rt ?_)
  obtain rfl := injA hm
  exact ⟨.inl rfl, _, rH H, rfl, A⟩
 ·obtain rfl := injA hm
  exact ⟨.inl rfl, _, rH H, rfl, A⟩
 exact hF.elim
def M_boulterlaw07_AttrsMerge_L0 (x4 : List S_api_Pair) (s : Int) : Option ((Int) ⊕ ((Unit) ⊕ (Bool))) :=
 match s with
 | x5 => iteB (decide (x5 < (x4.length : Int))) ((ixV x4 (IntKind.i64.wrap (x5 - 1))).bind fun x7 => (ixV x4 x5).bind fun x8 => iteB (!(Op.bytesLess x7.Key x8.Key)) (some (.inr (.inr false))) (some (.inl (IntKind.i64.wrap (x5 + 1))))) (some (.inr (.inl ())))
def M_boulterlaw07_AttrsMerge (p0 : List S_api_Pair) (p1 : List S_api_Pair) : Option (Bool) :=
 (M_boulterlaw07_long p0).bind fun x1 => (iteB x1 (some true) ((M_boulterlaw07_long p1).bind fun x3 => some x3) : Option (Bool)).bind fun x2 => iteB x2 (some true) ((M_attrs_Merge p0 p1).bind fun x4 => (loop (M_boulterlaw07_AttrsMerge_L0 x4) (1 : Int)).bind fun o1 => (match o1 with | .inl _ => (M_boulterref07_Merge p0 p1).bind fun x9 => (M_boulterref06_Same_sVO x4 x9).bind fun x10 => (iteB x10 ((M_attrs_Merge x4 ([] : List S_api_Pair)).bind fun x12 => (M_boulterref06_Same x12 x4).bind fun x13 => some x13) (some false) : Option (Bool)).bind fun x11 => some (x11 || false) | .inr x6 => some x6))
theorem ok_boulterlaw07_AttrsMerge {p0 p1 q0} (hm : M_boulterlaw07_AttrsMerge p0 p1 = some q0) (A : HH g h [] F) (hc : canL (cfg.still 4) av = [vs e_S_api_Pair p0, vs e_S_api_Pair p1] := by kernel_rfl) : ∃ v h', Runs cfg g h 4 av v h' ∧ v = .bool q0 ∧ HH g h' [] F := by
 refine rq1 49 [.tmp 4] hc ?_
 clear hc
 unfold M_boulterlaw07_AttrsMerge at hm
 refine bg 49 [(0, vs e_S_api_Pair p0), (1, vs e_S_api_Pair p1)] fun fr H => ?_
 refine aw_sr 1 (at_L 1 [] H fun fr H => aw_sq (aw_sr 6 ?_))
 obtain ⟨x1, hx, hm⟩ := bind_some hm
 obtain ⟨v1, h1, hr, rfl, A1⟩ := ok_boulterlaw07_long (av := [vs e_S_api_Pair p0]) hx (A.cut 0)
 replace A := A.g00 A1
 refine at_gc1 1 [] 8 hr H fun fr t H => ?_
 refine at_sl 1 [(9, .bool x1)] H fun fr H => ?_
 obtain ⟨x2, ho, hm⟩ := bind_some hm
 refine at_cl 3 (fun fr' h' => Has fr' 49 [(0, vs e_S_api_Pair p0), (1, vs e_S_api_Pair p1), (12, .bool x2)] ∧ HH g h' [] F) ?_ ?_
 ·rcases iteB_some ho with ⟨hb, hm⟩ | ⟨hb, hm⟩
  ·replace H := H.kn 9 hb
   refine at_sl 3 [(12, .bool true)] H fun fr H => ?_
   obtain rfl := injA hm
   exact at_nil ⟨H.ls, A⟩
  replace H := H.kn 9 hb
  obtain ⟨x3, hx, hm⟩ := bind_some hm
  obtain ⟨v1, h3, hr, rfl, A1⟩ := ok_boulterlaw07_long (av := [vs e_S_api_Pair p1]) hx (A.cut 0)
  replace A := A.g00 A1
  refine at_gc1 1 [] 11 hr H fun fr t H => ?_
  refine at_sl 1 [(12, .bool x3)] H fun fr H => ?_
  obtain rfl := injA hm
  exact at_nil ⟨H.ls, A⟩
 clear A
 intro t fr h2 hK
 obtain ⟨H, A⟩ := hK
 refine at_nl id (aw_if 12 H hm (fun hb hm H => ?_) fun hb hm H => ?_)
 ·refine aw_sr 2 (at_l1 13 (.bool true) h2 H (fun fr => Steps.call (by kernel_rfl) (runsTrue (C := cfg) (f := 6) (by kernel_rfl) (l := exts) rfl (by kernel_rfl))) fun fr t H => ?_)
  refine at_L 1 [(4, .bool true)] H fun fr H => aw_rt ?_
  obtain rfl := injA hm
  exact ⟨.inl rfl, _, rH H, rfl, A⟩
 refine aw_ks 4 id ?_
 obtain ⟨x4, hx, hm⟩ := bind_some hm
 obtain ⟨v1, h4, hr, rfl, A1⟩ := ok_attrs_Merge (av := [vs e_S_api_Pair p0, vs e_S_api_Pair p1]) hx (A.cut 0)
 replace A := A.g00 A1
 refine at_gc1 2 [] 16 hr H fun fr t H => ?_
 refine at_L 1 [(5, vs e_S_api_Pair x4)] H fun fr H => aw_sq (aw_sr 1 (at_L 1 [(6, Ai 1)] H fun fr H => aw_block (id := 0) (by kernel_rfl) ?_))
 obtain ⟨o1, ho, hm⟩ := bind_some hm
 refine aw_mono (Q' := fun e fr' h' => (e = .exit 0 ∧ .inl () = o1 ∧ Has fr' 49 [(0, vs e_S_api_Pair p0), (1, vs e_S_api_Pair p1), (5, vs e_S_api_Pair x4)] ∧ HH g h' [] F) ∨ (∃ x6, e = .ret ∧ .inr x6 = o1 ∧ Has fr' 49 [(4, .bool x6)] ∧ HH g h' [] F) ∨ False) ?_ ?_
 ·refine aw_loop (by kernel_rfl) (fun (s : Int) fr' h' => ∃ x5, x5 = s ∧ Has fr' 49 [(0, vs e_S_api_Pair p0), (1, vs e_S_api_Pair p1), (5, vs e_S_api_Pair x4), (6, Ai x5)] ∧ HH g h' [] F) ho ⟨_, rfl, H.ls, A⟩ ?_
  clear ho hm H A
  intro s q fr h5 hI hm
  obtain ⟨x5, rfl, H, A⟩ := hI
  unfold M_boulterlaw07_AttrsMerge_L0 at hm
  refine aw_sq (aw_sr 4 (at_L 4 [(20, .bool (decide (x5 < (x4.length : Int))))] H fun fr H => aw_if 20 H hm (fun hb hm H => ?_) fun hb hm H => ?_))
  ·refine aw_kn id (aw_sq (aw_block (id := 1) (by kernel_rfl) ?_))
   refine aw_sq (aw_dg 7 12 ?_)
   obtain ⟨x7, hx, hm⟩ := bind_some hm
   refine at_g1 3 [] 26 (.vptr [.str x7.Key, .str x7.Value]) h5 H (fun fr => .of (s_ixV (e := e_S_api_Pair) (x := x7) enc_S_api_Pair (by decide) (by kernel_rfl) hx)) fun fr t H => ?_
   refine at_g1 1 [] 28 (.str x7.Key) h5 H (fun fr => .of (s_lv (by kernel_rfl))) fun fr t H => ?_
   obtain ⟨x8, hx, hm⟩ := bind_some hm
   refine at_g1 2 [] 31 (.vptr [.str x8.Key, .str x8.Value]) h5 H (fun fr => .of (s_ixV (e := e_S_api_Pair) (x := x8) enc_S_api_Pair (by decide) (by kernel_rfl) hx)) fun fr t H => ?_
   refine at_g1 1 [] 33 (.str x8.Key) h5 H (fun fr => .of (s_lv (by kernel_rfl))) fun fr t H => ?_
   refine at_L 1 [(34, .bool (!(Op.bytesLess x7.Key x8.Key)))] H fun fr H => aw_if 34 H hm (fun hb hm H => ?_) fun hb hm H => ?_
   ·refine aw_sr 1 (at_L 1 [(4, .bool false)] H fun fr H => aw_rt ?_)
    exact nr hm fun e => Or.inr (.inl ⟨_, rfl, e, H.ls, A⟩)
   refine aw_kr 3 id (at_se 3 [(0, vs e_S_api_Pair p0), (1, vs e_S_api_Pair p1), (5, vs e_S_api_Pair x4), (6, Ai (IntKind.i64.wrap (x5 + 1)))] H fun fr H => at_nil ?_)
   exact nx hm ⟨_, rfl, H.ls, A⟩
  refine aw_exit (i := 0) (by kernel_rfl) ?_
  exact nr hm fun e => .inl ⟨rfl, e, H.ls, A⟩
 clear ho
 clear A
 intro e fr h6 hQ
 rcases hQ with ⟨rfl, rfl, H, A⟩ | ⟨x6, rfl, rfl, H, A⟩ | hF
 ·show AW _ _ _ _ _ _ _
  refine aw_sr 15 ?_
  obtain ⟨x9, hx, hm⟩ := bind_some hm
  obtain ⟨v1, h7, hr, rqw4, rfl, A1⟩ := ok_boulterref07_Merge (av := [vs e_S_api_Pair p0, vs e_S_api_Pair p1]) hx (A.cut 0)
  replace A := A.g01 A1
  refine at_gc1 3 [(35, vs e_S_api_Pair x4)] 38 hr H fun fr t H => ?_
  obtain ⟨x10, hx, hm⟩ := bind_some hm
  obtain ⟨v1, h8, hr, rfl, A1⟩ := ok_boulterref06_Same_sVO (av := [vs e_S_api_Pair x4, rowV rqw4 x9.length]) hx (A.cut 1)
  replace A := A.g11 A1
  refine at_lc1 39 hr H fun fr t H => ?_
  refine at_sl 1 [(40, .bool x10)] H fun fr H => ?_
  obtain ⟨x11, ho, hm⟩ := bind_some hm
  refine at_cl 5 (fun fr' h' => Has fr' 49 [(45, .bool x11)] ∧ HH g h' [] F) ?_ ?_
  ·rcases iteB_some ho with ⟨hb, hm⟩ | ⟨hb, hm⟩
   ·replace H := H.kn 40 hb
    obtain ⟨x12, hx, hm⟩ := bind_some hm
    obtain ⟨v1, h10, hr, rfl, A1⟩ := ok_attrs_Merge (av := [vs e_S_api_Pair x4, .slice none 0]) hx (A.cut 0)
    replace A := A.g00 A1
    refine at_gc1 1 [] 42 hr H fun fr t H => ?_
    obtain ⟨x13, hx, hm⟩ := bind_some hm
    obtain ⟨v1, h11, hr, rfl, A1⟩ := ok_boulterref06_Same (av := [vs e_S_api_Pair x12, vs e_S_api_Pair x4]) hx (A.cut 0)
    replace A := A.g00 A1
    refine at_gc1 1 [] 44 hr H fun fr t H => ?_
    refine at_sl 1 [(45, .bool x13)] H fun fr H => ?_
    obtain rfl := injA hm
    replace A := A.d0
    exact at_nil ⟨H.ls, A⟩
   replace H := H.kn 40 hb
   refine at_sl 5 [(45, .bool false)] H fun fr H => ?_
   obtain rfl := injA hm
   replace A := A.d0
   exact at_nil ⟨H.ls, A⟩
  clear A
  intro t fr h9 hK
  obtain ⟨H, A⟩ := hK
  refine at_sl 1 [(46, .bool x11)] H fun fr H => at_cl 2 (fun fr' h' => h9 = h' ∧ Has fr' 49 [(48, .bool (x11 || false))]) ?_ ?_
  ·cases hb : (x11 : Bool) with
   | true =>
    replace H := H.kn 46 hb
    refine at_l1 47 (.bool true) h9 H (fun fr => Steps.call (by kernel_rfl) (runsTrue (C := cfg) (f := 6) (by kernel_rfl) (l := exts) rfl (by kernel_rfl))) fun fr t H => ?_
    exact at_sl 1 [(48, .bool true)] H fun fr H => at_zb H hb
   | false =>
    replace H := H.kn 46 hb
    exact at_sl 2 [(48, .bool false)] H fun fr H => at_zb H hb
  intro t fr h' hK
  obtain ⟨e, H⟩ := hK
  subst e
  refine at_L 1 [(4, .bool (x11 || false))] H fun fr H => aw_rt ?_
  obtain rfl := injA hm
  exact ⟨.inl rfl, _, rH H, rfl, A⟩
 ·obtain rfl := injA hm
  exact ⟨.inl rfl, _, rH H, rfl, A⟩
 exact hF.elim
end
end Go.Av.L
