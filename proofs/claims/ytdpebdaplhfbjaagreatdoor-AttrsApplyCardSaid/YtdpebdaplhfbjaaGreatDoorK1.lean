/-
 Models of functions, and that the abstract run tells them. Written by lift2.py.
-/
import Derived.Test.YtdpebdaplhfbjaaGreatDoorKCfg
import Derived.Test.YtdpebdaplhfbjaaGreatDoorK0
namespace Go.Av.L
open Go.Av Go.Lib
set_option maxRecDepth 10000
set_option linter.unusedVariables false
set_option linter.unusedSimpArgs false
variable {g : Gd} {h : AHeap} {F : List Ck} {av : List AVal}
noncomputable section
def M_stamp_Right (p0 : S_api_Stamp) : Option (Bool) :=
 some ((((decide (p0.Sec ≥ (-9007199254740991))) && (decide (p0.Sec ≤ 9007199254740991))) && (decide (p0.Nsec ≥ 0))) && (decide (p0.Nsec < 1000000000)))
theorem ok_stamp_Right {p0 q0} (hm : M_stamp_Right p0 = some q0) (A : HH g h [] F) (hc : canL (cfg.still 61) av = [.agg (e_S_api_Stamp p0)] := by kernel_rfl) : ∃ v h', Runs cfg g h 61 av v h' ∧ v = .bool q0 ∧ HH g h' [] F := by
 refine rq1 21 [.tmp 2] hc ?_
 clear hc
 unfold M_stamp_Right at hm
 refine bg 21 [(0, .agg (e_S_api_Stamp p0))] fun fr H => ?_
 refine aw_sr 2 ?_
 obtain ⟨h1, e1, A⟩ := A.pu (.cells none 2 (e_S_api_Stamp p0))
 refine at_ln 1 (.ptr (some (h.size, 0))) e1 H fun fr t H => ?_
 refine at_S 1 [] 19 H fun fr H => at_gl 1 [] 4 0 0 A H fun fr t H => ?_
 refine at_sl 2 [(6, .bool (decide (p0.Sec ≥ (-9007199254740991))))] H fun fr H => at_cl 4 (fun fr' h' => h1 = h' ∧ Has fr' 21 [(1, .ptr (some (h.size, 0))), (10, .bool ((decide (p0.Sec ≥ (-9007199254740991))) && (decide (p0.Sec ≤ 9007199254740991))))]) ?_ ?_
 ·cases hb : (decide (p0.Sec ≥ (-9007199254740991)) : Bool) with
  | true =>
   replace H := H.kn 6 hb
   refine at_gl 1 [] 8 0 0 A H fun fr t H => ?_
   exact at_sl 2 [(10, .bool (decide (p0.Sec ≤ 9007199254740991)))] H fun fr H => at_zb H hb
  | false =>
   replace H := H.kn 6 hb
   exact at_sl 4 [(10, .bool false)] H fun fr H => at_zb H hb
 intro t fr h' hK
 obtain ⟨e, H⟩ := hK
 subst e
 refine at_sl 1 [(11, .bool ((decide (p0.Sec ≥ (-9007199254740991))) && (decide (p0.Sec ≤ 9007199254740991))))] H fun fr H => at_cl 4 (fun fr' h' => h1 = h' ∧ Has fr' 21 [(1, .ptr (some (h.size, 0))), (15, .bool (((decide (p0.Sec ≥ (-9007199254740991))) && (decide (p0.Sec ≤ 9007199254740991))) && (decide (p0.Nsec ≥ 0))))]) ?_ ?_
 ·cases hb : ((decide (p0.Sec ≥ (-9007199254740991))) && (decide (p0.Sec ≤ 9007199254740991)) : Bool) with
  | true =>
   replace H := H.kn 11 hb
   refine at_gl 1 [] 13 0 1 A H fun fr t H => ?_
   exact at_sl 2 [(15, .bool (decide (p0.Nsec ≥ 0)))] H fun fr H => at_zb H hb
  | false =>
   replace H := H.kn 11 hb
   exact at_sl 4 [(15, .bool false)] H fun fr H => at_zb H hb
 intro t fr h' hK
 obtain ⟨e, H⟩ := hK
 subst e
 refine at_sl 1 [(16, .bool (((decide (p0.Sec ≥ (-9007199254740991))) && (decide (p0.Sec ≤ 9007199254740991))) && (decide (p0.Nsec ≥ 0))))] H fun fr H => at_cl 4 (fun fr' h' => h1 = h' ∧ Has fr' 21 [(20, .bool ((((decide (p0.Sec ≥ (-9007199254740991))) && (decide (p0.Sec ≤ 9007199254740991))) && (decide (p0.Nsec ≥ 0))) && (decide (p0.Nsec < 1000000000))))]) ?_ ?_
 ·cases hb : (((decide (p0.Sec ≥ (-9007199254740991))) && (decide (p0.Sec ≤ 9007199254740991))) && (decide (p0.Nsec ≥ 0)) : Bool) with
  | true =>
   replace H := H.kn 16 hb
   refine at_gl 1 [] 18 0 1 A H fun fr t H => ?_
   exact at_sl 2 [(20, .bool (decide (p0.Nsec < 1000000000)))] H fun fr H => at_zb H hb
  | false =>
   replace H := H.kn 16 hb
   exact at_sl 4 [(20, .bool false)] H fun fr H => at_zb H hb
 intro t fr h' hK
 obtain ⟨e, H⟩ := hK
 subst e
 refine at_L 1 [(2, .bool ((((decide (p0.Sec ≥ (-9007199254740991))) && (decide (p0.Sec ≤ 9007199254740991))) && (decide (p0.Nsec ≥ 0))) && (decide (p0.Nsec < 1000000000))))] H fun fr H => aw_rt ?_
 obtain rfl := injA hm
 refine ⟨.inl rfl, .bool ((((decide (p0.Sec ≥ (-9007199254740991))) && (decide (p0.Sec ≤ 9007199254740991))) && (decide (p0.Nsec ≥ 0))) && (decide (p0.Nsec < 1000000000))), rH H, ?_⟩
 replace A := A.d0
 exact ⟨rfl, A⟩
def M_stamp_Parse (p0 : List UInt8) : Option (S_api_Stamp × Int) :=
 (M_strings_CutPrefix p0 ([45] : List UInt8)).bind fun (x1, x2) => need (decide (x1.length ≤ 4294967280)) <| (M_stamp_digits ((Lib.cut x1 ([46] : List UInt8)).1) (16 : Int)).bind fun (x3, x4) => iteB (!x4) (some ((⟨(0 : Int), (0 : Int)⟩ : S_api_Stamp), (2 : Int))) ((iteB ((Lib.cut x1 ([46] : List UInt8)).2.2) ((M_stamp_digits ((Lib.cut x1 ([46] : List UInt8)).2.1) (40 : Int)).bind fun (x7, x8) => iteB (!x8) (some (.inr (2 : Int))) (need (decide (((Lib.cut x1 ([46] : List UInt8)).2.1).length + ([48, 48, 48, 48, 48, 48, 48, 48] : List UInt8).length ≤ 9223372036854775807)) <| (subS (((Lib.cut x1 ([46] : List UInt8)).2.1) ++ ([48, 48, 48, 48, 48, 48, 48, 48] : List UInt8)) none (some (9 : Int))).bind fun x9 => (M_stamp_digits x9 (9 : Int)).bind fun (x10, x11) => some (.inl x10))) (some (.inl (0 : Int))) : Option ((Int) ⊕ (Int))).bind fun o1 => (match o1 with | .inl x5 => (iteB x2 ((M_stamp_turn (⟨x3, x5⟩ : S_api_Stamp)).bind fun x14 => some (x14.Sec, x14.Nsec)) (some (x3, x5)) : Option ((Int × Int))).bind fun (x12, x13) => (M_stamp_Right (⟨x12, x13⟩ : S_api_Stamp)).bind fun x15 => iteB (!x15) (some ((⟨(0 : Int), (0 : Int)⟩ : S_api_Stamp), (6 : Int))) (some ((⟨x12, x13⟩ : S_api_Stamp), (0 : Int))) | .inr x6 => some ((⟨(0 : Int), (0 : Int)⟩ : S_api_Stamp), x6)))
theorem ok_stamp_Parse {p0 q0 q1} (hm : M_stamp_Parse p0 = some (q0, q1)) (A : HH g h [] F) (hc : canL (cfg.still 31) av = [.str p0] := by kernel_rfl) : ∃ v h', Runs cfg g h 31 av v h' ∧ v = .tuple [.agg (e_S_api_Stamp q0), Ai q1] ∧ HH g h' [] F := by
 refine rq1 61 [.cell 2 29, .tmp 3] hc ?_
 clear hc
 unfold M_stamp_Parse at hm
 refine bg 61 [(0, .str p0)] fun fr H => ?_
 refine aw_sr 2 ?_
 obtain ⟨h1, e1, A⟩ := A.pu (.cells none 2 [Ai 0, Ai 0])
 refine at_ln 2 (.ptr (some (h.size, 0))) e1 H fun fr t H => ?_
 refine at_S 1 [] 7 H fun fr H => ?_
 obtain ⟨⟨x1, x2⟩, hx, hm⟩ := bind_some hm
 obtain ⟨v1, h2, hr, rfl, A1⟩ := ok_strings_CutPrefix (av := [.str p0, .str ([45] : List UInt8)]) hx (A.cut 0)
 replace A : HH g h2 [.obj h.size (.cells none 2 [Ai (0 : Int), Ai (0 : Int)])] F := A.glue0 (n := 0) A1
 refine at_gc1 1 [] 17 hr H fun fr t H => ?_
 refine at_S 5 [(4, .str x1), (5, .bool x2)] 9 H fun fr H => ?_
 obtain ⟨hb, hm⟩ := need_some hm
 refine at_g1 1 [] 22 (.tuple [.str ((Lib.cut x1 ([46] : List UInt8)).1), .str ((Lib.cut x1 ([46] : List UInt8)).2.1), .bool ((Lib.cut x1 ([46] : List UInt8)).2.2)]) h2 H (fun fr => Steps.call (by kernel_rfl) (runsCut (C := cfg) (f := 58) (a := 0) (by kernel_rfl) (l := exts) rfl (by kernel_rfl) hb)) fun fr t H => ?_
 refine at_S 7 [(6, .str ((Lib.cut x1 ([46] : List UInt8)).1)), (7, .str ((Lib.cut x1 ([46] : List UInt8)).2.1)), (8, .bool ((Lib.cut x1 ([46] : List UInt8)).2.2))] 7 H fun fr H => ?_
 obtain ⟨⟨x3, x4⟩, hx, hm⟩ := bind_some hm
 obtain ⟨v1, h3, hr, rfl, A1⟩ := ok_stamp_digits (av := [.str ((Lib.cut x1 ([46] : List UInt8)).1), Ai 16]) hx (A.cut 0)
 replace A := A.g00 A1
 refine at_gc1 1 [] 28 hr H fun fr t H => ?_
 refine at_L 5 [(9, Ai x3), (10, .bool x4)] H fun fr H => aw_sq (aw_sr 2 (at_L 2 [(32, .bool (!x4))] H fun fr H => aw_if 32 H hm (fun hb hm H => ?_) fun hb hm H => ?_))
 ·refine aw_sr 3 ?_
  obtain ⟨h4, hx, A⟩ := A.s0 0 [Ai 0, Ai 0] [_, _]
  refine at_gS 1 [] hx H fun fr t H => ?_
  refine at_L 1 [(3, Ai 2)] H fun fr H => aw_rt ?_
  obtain ⟨rfl, rfl⟩ := injB hm
  refine ⟨.inl rfl, .tuple [.agg [Ai 0, Ai 0], Ai 2], resL_many (.cell (rT H) (load_ldA (by kernel_rfl) (by kernel_rfl) (A.la 0 0 2)) (.tmp (rT H) .nil)), ?_⟩
  replace A := A.d0
  exact ⟨rfl, A⟩
 refine aw_ks 1 id (at_L 1 [(11, Ai 0)] H fun fr H => aw_sq ?_)
 obtain ⟨o1, ho, hm⟩ := bind_some hm
 refine aw_mono (Q' := fun e fr' h' => (∃ x5, e = .normal ∧ .inl x5 = o1 ∧ Has fr' 61 [(2, .ptr (some (h.size, 0))), (5, .bool x2), (9, Ai x3), (11, Ai x5)] ∧ HH g h' [.obj h.size (.cells none 2 [Ai 0, Ai 0])] F) ∨ (∃ x6, e = .ret ∧ .inr x6 = o1 ∧ Has fr' 61 [(2, .ptr (some (h.size, 0))), (3, Ai x6)] ∧ HH g h' [.obj h.size (.cells none 2 [Ai 0, Ai 0])] F) ∨ False) ?_ ?_
 ·replace hm := ho
  clear ho
  refine aw_sr 1 (at_L 1 [(34, .bool ((Lib.cut x1 ([46] : List UInt8)).2.2))] H fun fr H => aw_if 34 H hm (fun hb hm H => ?_) fun hb hm H => ?_)
  ·refine aw_sq (aw_sr 7 ?_)
   obtain ⟨⟨x7, x8⟩, hx, hm⟩ := bind_some hm
   obtain ⟨v1, h5, hr, rfl, A1⟩ := ok_stamp_digits (av := [.str ((Lib.cut x1 ([46] : List UInt8)).2.1), Ai 40]) hx (A.cut 0)
   replace A := A.g00 A1
   refine at_gc1 1 [] 37 hr H fun fr t H => ?_
   refine at_S 5 [(13, .bool x8)] 2 H fun fr H => at_L 2 [(41, .bool (!x8))] H fun fr H => aw_if 41 H hm (fun hb hm H => ?_) fun hb hm H => ?_
   ·refine aw_sr 3 ?_
    obtain ⟨h6, hx, A⟩ := A.s0 0 [Ai 0, Ai 0] [_, _]
    refine at_gS 1 [] hx H fun fr t H => ?_
    refine at_L 1 [(3, Ai 2)] H fun fr H => aw_rt ?_
    exact .inr (.inl ⟨_, rfl, injA hm, H.ls, A⟩)
   refine aw_kr 8 id (at_sl 1 [(44, .str ((Lib.cut x1 ([46] : List UInt8)).2.1))] H fun fr H => ?_)
   obtain ⟨hb, hm⟩ := need_some hm
   refine at_l1 45 (.str (((Lib.cut x1 ([46] : List UInt8)).2.1) ++ ([48, 48, 48, 48, 48, 48, 48, 48] : List UInt8))) h5 H (fun fr => .of (s_cat (by kernel_rfl) hb)) fun fr t H => ?_
   obtain ⟨x9, hx, hm⟩ := bind_some hm
   refine at_l1 46 (.str x9) h5 H (fun fr => .of (s_subS (k := .i64) (k' := .i64) (lo := none) (hi := (some (9 : Int))) (by kernel_rfl) hx)) fun fr t H => ?_
   obtain ⟨⟨x10, x11⟩, hx, hm⟩ := bind_some hm
   obtain ⟨v1, h7, hr, rfl, A1⟩ := ok_stamp_digits (av := [.str x9, Ai 9]) hx (A.cut 0)
   replace A := A.g00 A1
   refine at_lc1 47 hr H fun fr t H => ?_
   refine at_se 4 [(2, .ptr (some (h.size, 0))), (5, .bool x2), (9, Ai x3), (11, Ai x10)] H fun fr H => at_nil ?_
   exact .inl ⟨_, rfl, injA hm, H.ls, A⟩
  exact aw_sk (.inl ⟨_, rfl, injA hm, H.ls, A⟩)
 clear ho
 clear A
 intro e fr h8 hQ
 rcases hQ with ⟨x5, rfl, rfl, H, A⟩ | ⟨x6, rfl, rfl, H, A⟩ | hF
 ·show AW _ _ _ _ _ _ _
  refine aw_sr 5 ?_
  obtain ⟨h9, e2, A⟩ := A.pu (.cells none 2 [Ai 0, Ai 0])
  refine at_gn 3 [(52, .agg [Ai x3, Ai x5])] 14 (.ptr (some (h8.size, 0))) e2 H fun fr t H => ?_
  obtain ⟨h10, hx, A⟩ := A.s0 0 [Ai x3, Ai x5] [_, _]
  refine at_lS hx H fun fr t H => ?_
  refine at_nl id (aw_sq ?_)
  obtain ⟨o2, ho, hm⟩ := bind_some hm
  refine aw_mono (Q' := fun e fr' h' => (∃ x12 x13, e = .normal ∧ (x12, x13) = o2 ∧ Has fr' 61 [(2, .ptr (some (h.size, 0))), (14, .ptr (some (h8.size, 0)))] ∧ HH g h' [.obj h8.size (.cells none 2 [Ai x12, Ai x13]), .obj h.size (.cells none 2 [Ai 0, Ai 0])] F) ∨ False) ?_ ?_
  ·replace hm := ho
   clear ho
   refine aw_sr 1 (at_L 1 [(53, .bool x2)] H fun fr H => aw_if 53 H hm (fun hb hm H => ?_) fun hb hm H => ?_)
   ·refine aw_rg 3 (at_l1 54 _ _ H (fun fr => .of (s_ldA (by kernel_rfl) (A.ldA 0 rfl (o := 0) (n := 2) ⟨Nat.le_of_ble_eq_true rfl, rfl⟩))) fun fr t H => ?_)
    obtain ⟨x14, hx, hm⟩ := bind_some hm
    obtain ⟨v1, h11, hr, rfl, A1⟩ := ok_stamp_turn (av := [.agg [Ai x3, Ai x5]]) hx (A.cut 0)
    replace A := A.g00 A1
    refine at_lc1 55 hr H fun fr t H => ?_
    obtain ⟨h12, hx, A⟩ := A.s0 0 (e_S_api_Stamp x14) [_, _]
    refine at_lS hx H fun fr t H => ?_
    refine at_nil ?_
    exact .inl ⟨_, _, rfl, injA hm, H.ls, A⟩
   exact aw_sk (.inl ⟨_, _, rfl, injA hm, H.ls, A⟩)
  clear ho
  clear A
  intro e fr h13 hQ
  rcases hQ with ⟨x12, x13, rfl, rfl, H, A⟩ | hF
  ·show AW _ _ _ _ _ _ _
   refine aw_sq (aw_sr 3 (at_l1 56 _ _ H (fun fr => .of (s_ldA (by kernel_rfl) (A.ldA 0 rfl (o := 0) (n := 2) ⟨Nat.le_of_ble_eq_true rfl, rfl⟩))) fun fr t H => ?_))
   obtain ⟨x15, hx, hm⟩ := bind_some hm
   obtain ⟨v1, h14, hr, rfl, A1⟩ := ok_stamp_Right (av := [.agg [Ai x12, Ai x13]]) hx (A.cut 0)
   replace A := A.g00 A1
   refine at_lc1 57 hr H fun fr t H => ?_
   refine at_L 1 [(58, .bool (!x15))] H fun fr H => aw_if 58 H hm (fun hb hm H => ?_) fun hb hm H => ?_
   ·refine aw_sr 3 ?_
    obtain ⟨h15, hx, A⟩ := A.s1 0 [Ai 0, Ai 0] [_, _]
    refine at_gS 1 [] hx H fun fr t H => ?_
    refine at_L 1 [(3, Ai 6)] H fun fr H => aw_rt ?_
    obtain ⟨rfl, rfl⟩ := injB hm
    refine ⟨.inl rfl, .tuple [.agg [Ai 0, Ai 0], Ai 6], resL_many (.cell (rT H) (load_ldA (by kernel_rfl) (by kernel_rfl) (A.la 1 0 2)) (.tmp (rT H) .nil)), ?_⟩
    replace A := A.d0
    exact ⟨rfl, A⟩
   refine aw_ks 3 id (at_l1 60 _ _ H (fun fr => .of (s_ldA (by kernel_rfl) (A.ldA 0 rfl (o := 0) (n := 2) ⟨Nat.le_of_ble_eq_true rfl, rfl⟩))) fun fr t H => ?_)
   obtain ⟨h16, hx, A⟩ := A.s1 0 [Ai x12, Ai x13] [_, _]
   refine at_lS hx H fun fr t H => ?_
   refine at_L 1 [(3, Ai 0)] H fun fr H => aw_rt ?_
   obtain ⟨rfl, rfl⟩ := injB hm
   refine ⟨.inl rfl, .tuple [.agg [Ai x12, Ai x13], Ai 0], resL_many (.cell (rT H) (load_ldA (by kernel_rfl) (by kernel_rfl) (A.la 1 0 2)) (.tmp (rT H) .nil)), ?_⟩
   replace A := A.d0
   exact ⟨rfl, A⟩
  exact hF.elim
 ·obtain ⟨rfl, rfl⟩ := injB hm
  refine ⟨.inl rfl, .tuple [.agg [Ai 0, Ai 0], Ai x6], resL_many (.cell (rT H) (load_ldA (by kernel_rfl) (by kernel_rfl) (A.la 0 0 2)) (.tmp (rT H) .nil)), ?_⟩
  replace A := A.d0
  exact ⟨rfl, A⟩
 exact hF.elim
def M_attrs_sets_1_sSpPO (p0 : List UInt8) (p1_0 : S_api_Member) : Option (Int × S_api_Member) :=
 (M_stamp_Parse p0).bind fun (x1, x2) => (iteB (x2 == 0) (some (x1.Sec, x1.Nsec)) (some (p1_0.Time.Sec, p1_0.Time.Nsec)) : Option ((Int × Int))).bind fun (x3, x4) => some (x2, (⟨p1_0.Name, p1_0.Link, p1_0.Kind, p1_0.Mode, p1_0.Uid, p1_0.Gid, p1_0.Uname, p1_0.Gname, p1_0.Major, p1_0.Minor, (⟨x3, x4⟩ : S_api_Stamp), p1_0.Extra, p1_0.Data⟩ : S_api_Member))
theorem ok_attrs_sets_1_sSpPO {p0 p1_0 bp1_0 rp1_0_12 q0 u0} (hm : M_attrs_sets_1_sSpPO p0 p1_0 = some (q0, u0)) (A : HH g h [.obj bp1_0 (.cells none 2 (w_api_Member_12 p1_0 (rowV rp1_0_12 p1_0.Extra.length))), .lst rp1_0_12 40 (lst e_S_api_Pair p1_0.Extra)] F) (hc : canL (cfg.still 30) av = [.str p0, .vptr [.ptr (some (bp1_0, 0))]] := by kernel_rfl) : ∃ v h', Runs cfg g h 30 av v h' ∧ v = Ai q0 ∧ HH g h' [.obj bp1_0 (.cells none 2 (w_api_Member_12 u0 (rowV rp1_0_12 p1_0.Extra.length))), .lst rp1_0_12 40 (lst e_S_api_Pair p1_0.Extra)] F := by
 refine rq1 18 [.tmp 3] hc ?_
 clear hc
 unfold M_attrs_sets_1_sSpPO at hm
 refine bg 18 [(0, .str p0), (1, .vptr [.ptr (some (bp1_0, 0))])] fun fr H => ?_
 refine aw_sr 1 (at_S 1 [] 8 H fun fr H => ?_)
 obtain ⟨⟨x1, x2⟩, hx, hm⟩ := bind_some hm
 obtain ⟨v1, h1, hr, rfl, A1⟩ := ok_stamp_Parse (av := [.str p0]) hx (A.cut 0)
 replace A := A.g00 A1
 refine at_gc1 1 [] 8 hr H fun fr t H => ?_
 obtain ⟨h2, e1, A⟩ := A.pu (.cells none 2 [Ai 0, Ai 0])
 refine at_gn 3 [(9, .agg (e_S_api_Stamp x1)), (10, Ai x2)] 4 (.ptr (some (h1.size, 0))) e1 H fun fr t H => ?_
 obtain ⟨h3, hx, A⟩ := A.s0 0 (e_S_api_Stamp x1) [_, _]
 refine at_lS hx H fun fr t H => ?_
 refine at_L 1 [(5, Ai x2)] H fun fr H => aw_sq ?_
 obtain ⟨o1, ho, hm⟩ := bind_some hm
 refine aw_mono (Q' := fun e fr' h' => (∃ x3 x4, e = .normal ∧ (x3, x4) = o1 ∧ Has fr' 18 [(5, Ai x2)] ∧ HH g h' [.obj h1.size (.cells none 2 (e_S_api_Stamp x1)), .obj bp1_0 (.cells none 2 [.str p1_0.Name, .str p1_0.Link, Ab p1_0.Kind, Ai p1_0.Mode, Ai p1_0.Uid, Ai p1_0.Gid, .str p1_0.Uname, .str p1_0.Gname, Ai p1_0.Major, Ai p1_0.Minor, Ai x3, Ai x4, rowV rp1_0_12 p1_0.Extra.length, .str p1_0.Data]), .lst rp1_0_12 40 (lst e_S_api_Pair p1_0.Extra)] F) ∨ False) ?_ ?_
 ·replace hm := ho
  clear ho
  refine aw_sr 2 (at_L 2 [(12, .bool (x2 == 0))] H fun fr H => aw_if 12 H hm (fun hb hm H => ?_) fun hb hm H => ?_)
  ·refine aw_rg 5 (at_l1 13 (.ptr (some (bp1_0, 0))) h3 H (fun fr => .of (s_lv (by kernel_rfl))) fun fr t H => ?_)
   refine at_l1 14 _ _ H (fun fr => .of (s_ldA (by kernel_rfl) (A.ldA 0 rfl (o := 0) (n := 2) ⟨Nat.le_of_ble_eq_true rfl, rfl⟩))) fun fr t H => ?_
   obtain ⟨h4, hx, A⟩ := A.s1 10 (e_S_api_Stamp x1) [_, _, _, _, _, _, _, _, _, _, _, _, _, _]
   refine at_gS 2 [] hx H fun fr t H => ?_
   refine at_nil ?_
   exact .inl ⟨_, _, rfl, injA hm, H.ls, A⟩
  exact aw_sk (.inl ⟨_, _, rfl, injA hm, H.ls, A⟩)
 clear ho
 clear A
 intro e fr h5 hQ
 rcases hQ with ⟨x3, x4, rfl, rfl, H, A⟩ | hF
 ·show AW _ _ _ _ _ _ _
  refine aw_sr 2 (at_L 2 [(3, Ai x2)] H fun fr H => aw_rt ?_)
  obtain ⟨rfl, rfl⟩ := injB hm
  refine ⟨.inl rfl, Ai x2, rH H, ?_⟩
  replace A := A.k2 1 2
  exact ⟨rfl, A⟩
 exact hF.elim
def M_attrs_Apply_sRO_L0 (p1 : List S_api_Pair) (s : (List S_api_Pair) × Int × (List UInt8) × (List UInt8) × Int × Int × Int × Int × (List UInt8) × (List UInt8) × Int × Int × Int × Int × (List UInt8) × Int) : Option (((List S_api_Pair) × Int × (List UInt8) × (List UInt8) × Int × Int × Int × Int × (List UInt8) × (List UInt8) × Int × Int × Int × Int × (List UInt8) × Int) ⊕ (((List S_api_Pair) × Int × (List UInt8) × (List UInt8) × Int × Int × Int × Int × (List UInt8) × (List UInt8) × Int × Int × Int × Int × (List UInt8)) ⊕ ((List S_api_Pair) × Int × (List UInt8) × (List UInt8) × Int × Int × Int × Int × (List UInt8) × (List UInt8) × Int × Int × Int × Int × (List UInt8) × Int × Int))) :=
 match s with
 | (x1, x2, x3, x4, x5, x6, x7, x8, x9, x10, x11, x12, x13, x14, x15, x16) => iteB (decide (x16 < (p1.length : Int))) (((ixV p1 x16).bind fun x80 => iteB (x80.Key == ([103, 105, 100] : List UInt8)) ((M_attrs_number_1_sSpQ5O x80.Value (⟨x3, x4, x5, x6, x7, x8, x9, x10, x11, x12, (⟨x13, x14⟩ : S_api_Stamp), x1, x15⟩ : S_api_Member)).bind fun (x81, x82) => iteB (x81 != 0) (some (.inr (x2, x82.Name, x82.Link, x82.Kind, x82.Mode, x82.Uid, x82.Gid, x82.Uname, x82.Gname, x82.Major, x82.Minor, x82.Time.Sec, x82.Time.Nsec, x82.Data, (0 : Int), x81))) (some (.inl (x1, x2, x82.Name, x82.Link, x82.Kind, x82.Mode, x82.Uid, x82.Gid, x82.Uname, x82.Gname, x82.Major, x82.Minor, x82.Time.Sec, x82.Time.Nsec, x82.Data)))) (iteB (x80.Key == ([117, 105, 100] : List UInt8)) ((M_attrs_number_1_sSpQ4O x80.Value (⟨x3, x4, x5, x6, x7, x8, x9, x10, x11, x12, (⟨x13, x14⟩ : S_api_Stamp), x1, x15⟩ : S_api_Member)).bind fun (x83, x84) => iteB (x83 != 0) (some (.inr (x2, x84.Name, x84.Link, x84.Kind, x84.Mode, x84.Uid, x84.Gid, x84.Uname, x84.Gname, x84.Major, x84.Minor, x84.Time.Sec, x84.Time.Nsec, x84.Data, (0 : Int), x83))) (some (.inl (x1, x2, x84.Name, x84.Link, x84.Kind, x84.Mode, x84.Uid, x84.Gid, x84.Uname, x84.Gname, x84.Major, x84.Minor, x84.Time.Sec, x84.Time.Nsec, x84.Data)))) (iteB (x80.Key == ([115, 105, 122, 101] : List UInt8)) ((M_attrs_number_1_sSpP x80.Value x2).bind fun (x85, x86) => iteB (x85 != 0) (some (.inr (x86, x3, x4, x5, x6, x7, x8, x9, x10, x11, x12, x13, x14, x15, (0 : Int), x85))) (some (.inl (x1, x86, x3, x4, x5, x6, x7, x8, x9, x10, x11, x12, x13, x14, x15)))) (iteB (x80.Key == ([103, 110, 97, 109, 101] : List UInt8)) ((M_attrs_plain_1_sSpQ7O x80.Value (⟨x3, x4, x5, x6, x7, x8, x9, x10, x11, x12, (⟨x13, x14⟩ : S_api_Stamp), x1, x15⟩ : S_api_Member)).bind fun (x87, x88) => iteB (x87 != 0) (some (.inr (x2, x88.Name, x88.Link, x88.Kind, x88.Mode, x88.Uid, x88.Gid, x88.Uname, x88.Gname, x88.Major, x88.Minor, x88.Time.Sec, x88.Time.Nsec, x88.Data, (0 : Int), x87))) (some (.inl (x1, x2, x88.Name, x88.Link, x88.Kind, x88.Mode, x88.Uid, x88.Gid, x88.Uname, x88.Gname, x88.Major, x88.Minor, x88.Time.Sec, x88.Time.Nsec, x88.Data)))) (iteB (x80.Key == ([117, 110, 97, 109, 101] : List UInt8)) ((M_attrs_plain_1_sSpQ6O x80.Value (⟨x3, x4, x5, x6, x7, x8, x9, x10, x11, x12, (⟨x13, x14⟩ : S_api_Stamp), x1, x15⟩ : S_api_Member)).bind fun (x89, x90) => iteB (x89 != 0) (some (.inr (x2, x90.Name, x90.Link, x90.Kind, x90.Mode, x90.Uid, x90.Gid, x90.Uname, x90.Gname, x90.Major, x90.Minor, x90.Time.Sec, x90.Time.Nsec, x90.Data, (0 : Int), x89))) (some (.inl (x1, x2, x90.Name, x90.Link, x90.Kind, x90.Mode, x90.Uid, x90.Gid, x90.Uname, x90.Gname, x90.Major, x90.Minor, x90.Time.Sec, x90.Time.Nsec, x90.Data)))) (iteB (x80.Key == ([112, 97, 116, 104] : List UInt8)) ((M_attrs_plain_1_sSpPO x80.Value (⟨x3, x4, x5, x6, x7, x8, x9, x10, x11, x12, (⟨x13, x14⟩ : S_api_Stamp), x1, x15⟩ : S_api_Member)).bind fun (x91, x92) => iteB (x91 != 0) (some (.inr (x2, x92.Name, x92.Link, x92.Kind, x92.Mode, x92.Uid, x92.Gid, x92.Uname, x92.Gname, x92.Major, x92.Minor, x92.Time.Sec, x92.Time.Nsec, x92.Data, (0 : Int), x91))) (some (.inl (x1, x2, x92.Name, x92.Link, x92.Kind, x92.Mode, x92.Uid, x92.Gid, x92.Uname, x92.Gname, x92.Major, x92.Minor, x92.Time.Sec, x92.Time.Nsec, x92.Data)))) (iteB (x80.Key == ([108, 105, 110, 107, 112, 97, 116, 104] : List UInt8)) ((M_attrs_plain_1_sSpQ1O x80.Value (⟨x3, x4, x5, x6, x7, x8, x9, x10, x11, x12, (⟨x13, x14⟩ : S_api_Stamp), x1, x15⟩ : S_api_Member)).bind fun (x93, x94) => iteB (x93 != 0) (some (.inr (x2, x94.Name, x94.Link, x94.Kind, x94.Mode, x94.Uid, x94.Gid, x94.Uname, x94.Gname, x94.Major, x94.Minor, x94.Time.Sec, x94.Time.Nsec, x94.Data, (0 : Int), x93))) (some (.inl (x1, x2, x94.Name, x94.Link, x94.Kind, x94.Mode, x94.Uid, x94.Gid, x94.Uname, x94.Gname, x94.Major, x94.Minor, x94.Time.Sec, x94.Time.Nsec, x94.Data)))) (iteB (x80.Key == ([109, 116, 105, 109, 101] : List UInt8)) ((M_attrs_sets_1_sSpPO x80.Value (⟨x3, x4, x5, x6, x7, x8, x9, x10, x11, x12, (⟨x13, x14⟩ : S_api_Stamp), x1, x15⟩ : S_api_Member)).bind fun (x95, x96) => iteB (x95 != 0) (some (.inr (x2, x96.Name, x96.Link, x96.Kind, x96.Mode, x96.Uid, x96.Gid, x96.Uname, x96.Gname, x96.Major, x96.Minor, x96.Time.Sec, x96.Time.Nsec, x96.Data, (0 : Int), x95))) (some (.inl (x1, x2, x96.Name, x96.Link, x96.Kind, x96.Mode, x96.Uid, x96.Gid, x96.Uname, x96.Gname, x96.Major, x96.Minor, x96.Time.Sec, x96.Time.Nsec, x96.Data)))) (need (okN 32 (x1.length + ([x80] : List S_api_Pair).length)) <| some (.inl ((x1 ++ ([x80] : List S_api_Pair)), x2, x3, x4, x5, x6, x7, x8, x9, x10, x11, x12, x13, x14, x15)))))))))) : Option (((List S_api_Pair) × Int × (List UInt8) × (List UInt8) × Int × Int × Int × Int × (List UInt8) × (List UInt8) × Int × Int × Int × Int × (List UInt8)) ⊕ (Int × (List UInt8) × (List UInt8) × Int × Int × Int × Int × (List UInt8) × (List UInt8) × Int × Int × Int × Int × (List UInt8) × Int × Int))).bind fun o2 => (match o2 with | .inl (x49, x50, x51, x52, x53, x54, x55, x56, x57, x58, x59, x60, x61, x62, x63) => some (.inl (x49, x50, x51, x52, x53, x54, x55, x56, x57, x58, x59, x60, x61, x62, x63, IntKind.i64.wrap (x16 + 1))) | .inr (x64, x65, x66, x67, x68, x69, x70, x71, x72, x73, x74, x75, x76, x77, x78, x79) => some (.inr (.inr (x1, x64, x65, x66, x67, x68, x69, x70, x71, x72, x73, x74, x75, x76, x77, x78, x79))))) (some (.inr (.inl (x1, x2, x3, x4, x5, x6, x7, x8, x9, x10, x11, x12, x13, x14, x15))))
def M_attrs_Apply_sRO (p0 : S_api_Head) (p1 : List S_api_Pair) : Option (S_api_Member × Int × Int) :=
 (loop (M_attrs_Apply_sRO_L0 p1) (([] : List S_api_Pair), p0.Size, p0.Name, p0.Link, p0.Kind, p0.Mode, p0.Uid, p0.Gid, p0.Uname, p0.Gname, p0.Major, p0.Minor, p0.Time, (0 : Int), ([] : List UInt8), (0 : Int))).bind fun o1 => (match o1 with | .inl (x17, x18, x19, x20, x21, x22, x23, x24, x25, x26, x27, x28, x29, x30, x31) => some ((⟨x19, x20, x21, x22, x23, x24, x25, x26, x27, x28, (⟨x29, x30⟩ : S_api_Stamp), x17, x31⟩ : S_api_Member), x18, (0 : Int)) | .inr (x32, x33, x34, x35, x36, x37, x38, x39, x40, x41, x42, x43, x44, x45, x46, x47, x48) => some ((⟨([] : List UInt8), ([] : List UInt8), (0 : Int), (0 : Int), (0 : Int), (0 : Int), ([] : List UInt8), ([] : List UInt8), (0 : Int), (0 : Int), (⟨(0 : Int), (0 : Int)⟩ : S_api_Stamp), ([] : List S_api_Pair), ([] : List UInt8)⟩ : S_api_Member), x47, x48))
theorem ok_attrs_Apply_sRO {p0 p1 rp1 q0 q1 q2} (hm : M_attrs_Apply_sRO p0 p1 = some (q0, q1, q2)) (A : HH g h [.lst rp1 40 (lst e_S_api_Pair p1)] F) (hc : canL (cfg.still 8) av = [.agg (e_S_api_Head p0), rowV rp1 p1.length] := by kernel_rfl) : ∃ v h', Runs cfg g h 8 av v h' ∧ v = .tuple [.agg (e_S_api_Member q0), Ai q1, Ai q2] ∧ HH g h' [.lst rp1 40 (lst e_S_api_Pair p1)] F := by
 refine rq7 74 [.cell 4 31, .tmp 5, .tmp 6] hc ?_
 clear hc
 unfold M_attrs_Apply_sRO at hm
 refine bg 74 [(0, .agg (e_S_api_Head p0)), (1, rowV rp1 p1.length)] fun fr H => ?_
 refine aw_sr 4 ?_
 obtain ⟨h1, e1, A⟩ := A.pu (.cells none 2 (e_S_api_Head p0))
 refine at_ln 2 (.ptr (some (h.size, 0))) e1 H fun fr t H => ?_
 obtain ⟨h2, e2, A⟩ := A.pu (.cells none 2 [.str ([] : List UInt8), .str ([] : List UInt8), Ab 0, Ai 0, Ai 0, Ai 0, .str ([] : List UInt8), .str ([] : List UInt8), Ai 0, Ai 0, Ai 0, Ai 0, .slice none 0, .str ([] : List UInt8)])
 refine at_ln 4 (.ptr (some (h1.size, 0))) e2 H fun fr t H => ?_
 refine at_S 2 [] 26 H fun fr H => at_gl 1 [] 16 1 0 A H fun fr t H => ?_
 refine at_gl 1 [] 18 1 1 A H fun fr t H => ?_
 refine at_gl 1 [] 20 1 2 A H fun fr t H => ?_
 refine at_gl 1 [] 22 1 3 A H fun fr t H => ?_
 refine at_gl 1 [] 24 1 4 A H fun fr t H => ?_
 refine at_gl 1 [] 26 1 5 A H fun fr t H => ?_
 refine at_gl 1 [] 28 1 8 A H fun fr t H => ?_
 refine at_gl 1 [] 30 1 9 A H fun fr t H => ?_
 refine at_gl 1 [] 32 1 10 A H fun fr t H => ?_
 refine at_gl 1 [] 34 1 11 A H fun fr t H => ?_
 refine at_gl 1 [] 36 1 7 A H fun fr t H => ?_
 obtain ⟨h3, e3, A⟩ := A.pu (.cells none 2 [.str ([] : List UInt8), .str ([] : List UInt8), Ab 0, Ai 0, Ai 0, Ai 0, .str ([] : List UInt8), .str ([] : List UInt8), Ai 0, Ai 0, Ai 0, Ai 0, .slice none 0, .str ([] : List UInt8)])
 refine at_gn 2 [(38, .agg [.str p0.Name, .str p0.Link, Ab p0.Kind, Ai p0.Mode, Ai p0.Uid, Ai p0.Gid, .str p0.Uname, .str p0.Gname, Ai p0.Major, Ai p0.Minor, Ai p0.Time, Ai (0 : Int), .slice none 0, .str ([] : List UInt8)])] 7 (.ptr (some (h2.size, 0))) e3 H fun fr t H => ?_
 obtain ⟨h4, hx, A1⟩ := A.st 0 rfl (o := 0) (new := [.str p0.Name, .str p0.Link, Ab p0.Kind, Ai p0.Mode, Ai p0.Uid, Ai p0.Gid, .str p0.Uname, .str p0.Gname, Ai p0.Major, Ai p0.Minor, Ai p0.Time, Ai 0, .slice none 0, .str ([] : List UInt8)]) (ds := [.str p0.Name, .str p0.Link, Ab p0.Kind, Ai p0.Mode, Ai p0.Uid, Ai p0.Gid, .str p0.Uname, .str p0.Gname, Ai p0.Major, Ai p0.Minor, Ai p0.Time, Ai 0, .slice none 0, .str ([] : List UInt8)]) (Nat.le_of_ble_eq_true rfl) rfl rfl
 replace A : HH g h4 [.obj h2.size (.cells none 2 [.str p0.Name, .str p0.Link, Ab p0.Kind, Ai p0.Mode, Ai p0.Uid, Ai p0.Gid, .str p0.Uname, .str p0.Gname, Ai p0.Major, Ai p0.Minor, Ai p0.Time, Ai 0, .slice none 0, .str ([] : List UInt8)]), .obj h1.size (.cells none 2 [.str ([] : List UInt8), .str ([] : List UInt8), Ab 0, Ai 0, Ai 0, Ai 0, .str ([] : List UInt8), .str ([] : List UInt8), Ai 0, Ai 0, Ai 0, Ai 0, .slice none 0, .str ([] : List UInt8)]), .obj h.size (.cells none 2 (e_S_api_Head p0)), _] F := A1
 refine at_lS hx H fun fr t H => ?_
 refine at_ns 4 id (at_gl 1 [] 40 2 6 A H fun fr t H => ?_)
 obtain ⟨h5, e4, A⟩ := A.pu (.cells none 2 [Ai 0])
 refine at_ln 8 (.ptr (some (h4.size, 0))) e4 H fun fr t H => ?_
 obtain ⟨h6, hx, A⟩ := A.s0 0 [Ai p0.Size] [_]
 refine at_ls hx H fun fr t H => ?_
 refine at_ns 2 id ?_
 obtain ⟨h7, e5⟩ : ∃ x, x = h6.push (.map 3 [(.str ([103, 105, 100] : List UInt8), .func (.func 54) [] [.vptr [.ptr (some (h2.size, 5))]]), (.str ([117, 105, 100] : List UInt8), .func (.func 54) [] [.vptr [.ptr (some (h2.size, 4))]]), (.str ([115, 105, 122, 101] : List UInt8), .func (.func 54) [] [.vptr [.ptr (some (h4.size, 0))]]), (.str ([103, 110, 97, 109, 101] : List UInt8), .func (.func 55) [] [.vptr [.ptr (some (h2.size, 7))]]), (.str ([117, 110, 97, 109, 101] : List UInt8), .func (.func 55) [] [.vptr [.ptr (some (h2.size, 6))]]), (.str ([112, 97, 116, 104] : List UInt8), .func (.func 55) [] [.vptr [.ptr (some (h2.size, 0))]]), (.str ([108, 105, 110, 107, 112, 97, 116, 104] : List UInt8), .func (.func 55) [] [.vptr [.ptr (some (h2.size, 1))]]), (.str ([109, 116, 105, 109, 101] : List UInt8), .func (.func 30) [] [.vptr [.ptr (some (h2.size, 0))]])]) := ⟨_, rfl⟩
 replace A : HH g h7 [.obj h6.size (.map 3 [(.str ([103, 105, 100] : List UInt8), .func (.func 54) [] [.vptr [.ptr (some (h2.size, 5))]]), (.str ([117, 105, 100] : List UInt8), .func (.func 54) [] [.vptr [.ptr (some (h2.size, 4))]]), (.str ([115, 105, 122, 101] : List UInt8), .func (.func 54) [] [.vptr [.ptr (some (h4.size, 0))]]), (.str ([103, 110, 97, 109, 101] : List UInt8), .func (.func 55) [] [.vptr [.ptr (some (h2.size, 7))]]), (.str ([117, 110, 97, 109, 101] : List UInt8), .func (.func 55) [] [.vptr [.ptr (some (h2.size, 6))]]), (.str ([112, 97, 116, 104] : List UInt8), .func (.func 55) [] [.vptr [.ptr (some (h2.size, 0))]]), (.str ([108, 105, 110, 107, 112, 97, 116, 104] : List UInt8), .func (.func 55) [] [.vptr [.ptr (some (h2.size, 1))]]), (.str ([109, 116, 105, 109, 101] : List UInt8), .func (.func 30) [] [.vptr [.ptr (some (h2.size, 0))]])]), _, _, _, _, _] F := (A.push _).to e5
 have hr : ∀ g, Runs cfg g h6 16 [.ptr (some (h2.size, 0)), .ptr (some (h4.size, 0))] (.map (some h6.size)) h7 := fun g => by rw [e5]; exact runsLM (C := cfg) (f := 16) (j := 0) (n := 2) (es := [(.str ([103, 105, 100] : List UInt8), .func (.func 54) [] [.vptr [.ptr (some (h2.size, 5))]]), (.str ([117, 105, 100] : List UInt8), .func (.func 54) [] [.vptr [.ptr (some (h2.size, 4))]]), (.str ([115, 105, 122, 101] : List UInt8), .func (.func 54) [] [.vptr [.ptr (some (h4.size, 0))]]), (.str ([103, 110, 97, 109, 101] : List UInt8), .func (.func 55) [] [.vptr [.ptr (some (h2.size, 7))]]), (.str ([117, 110, 97, 109, 101] : List UInt8), .func (.func 55) [] [.vptr [.ptr (some (h2.size, 6))]]), (.str ([112, 97, 116, 104] : List UInt8), .func (.func 55) [] [.vptr [.ptr (some (h2.size, 0))]]), (.str ([108, 105, 110, 107, 112, 97, 116, 104] : List UInt8), .func (.func 55) [] [.vptr [.ptr (some (h2.size, 1))]]), (.str ([109, 116, 105, 109, 101] : List UInt8), .func (.func 30) [] [.vptr [.ptr (some (h2.size, 0))]])]) (by kernel_rfl) (l := exts) rfl (by kernel_rfl) (by kernel_rfl) (by kernel_rfl)
 refine at_l1 41 _ _ H (fun fr => Steps.call (by kernel_rfl) (hr _)) fun fr t H => ?_
 refine at_L 1 [(9, .map (some h6.size))] H fun fr H => aw_sq (aw_sr 3 (at_L 3 [(42, rowV rp1 p1.length), (43, Ai (p1.length : Int)), (44, Ai 0)] H fun fr H => aw_block (id := 0) (by kernel_rfl) ?_))
 replace A : HH g h7 [.lst none 40 (lst e_S_api_Pair ([] : List S_api_Pair)), _, _, _, _, _, _] F := A.nilL 40
 obtain ⟨o1, ho, hm⟩ := bind_some hm
 refine aw_mono (Q' := fun e fr' h' => (∃ x17 x18 x19 x20 x21 x22 x23 x24 x25 x26 x27 x28 x29 x30 x31, e = .exit 0 ∧ .inl (x17, x18, x19, x20, x21, x22, x23, x24, x25, x26, x27, x28, x29, x30, x31) = o1 ∧ ∃ r2, Has fr' 74 [(4, .ptr (some (h1.size, 0))), (7, .ptr (some (h2.size, 0))), (8, .ptr (some (h4.size, 0)))] ∧ HH g h' [.lst r2 40 (lst e_S_api_Pair x17), .obj h6.size (.map 3 [(.str ([103, 105, 100] : List UInt8), .func (.func 54) [] [.vptr [.ptr (some (h2.size, 5))]]), (.str ([117, 105, 100] : List UInt8), .func (.func 54) [] [.vptr [.ptr (some (h2.size, 4))]]), (.str ([115, 105, 122, 101] : List UInt8), .func (.func 54) [] [.vptr [.ptr (some (h4.size, 0))]]), (.str ([103, 110, 97, 109, 101] : List UInt8), .func (.func 55) [] [.vptr [.ptr (some (h2.size, 7))]]), (.str ([117, 110, 97, 109, 101] : List UInt8), .func (.func 55) [] [.vptr [.ptr (some (h2.size, 6))]]), (.str ([112, 97, 116, 104] : List UInt8), .func (.func 55) [] [.vptr [.ptr (some (h2.size, 0))]]), (.str ([108, 105, 110, 107, 112, 97, 116, 104] : List UInt8), .func (.func 55) [] [.vptr [.ptr (some (h2.size, 1))]]), (.str ([109, 116, 105, 109, 101] : List UInt8), .func (.func 30) [] [.vptr [.ptr (some (h2.size, 0))]])]), .obj h4.size (.cells none 2 [Ai x18]), .obj h2.size (.cells none 2 [.str x19, .str x20, Ab x21, Ai x22, Ai x23, Ai x24, .str x25, .str x26, Ai x27, Ai x28, Ai x29, Ai x30, rowV r2 x17.length, .str x31]), .obj h1.size (.cells none 2 [.str ([] : List UInt8), .str ([] : List UInt8), Ab 0, Ai 0, Ai 0, Ai 0, .str ([] : List UInt8), .str ([] : List UInt8), Ai 0, Ai 0, Ai 0, Ai 0, .slice none 0, .str ([] : List UInt8)]), .obj h.size (.cells none 2 (e_S_api_Head p0)), .lst rp1 40 (lst e_S_api_Pair p1)] F) ∨ (∃ x32 x33 x34 x35 x36 x37 x38 x39 x40 x41 x42 x43 x44 x45 x46 x47 x48, e = .ret ∧ .inr (x32, x33, x34, x35, x36, x37, x38, x39, x40, x41, x42, x43, x44, x45, x46, x47, x48) = o1 ∧ ∃ r3, Has fr' 74 [(4, .ptr (some (h1.size, 0))), (5, Ai x47), (6, Ai x48)] ∧ HH g h' [.lst r3 40 (lst e_S_api_Pair x32), .obj h6.size (.map 3 [(.str ([103, 105, 100] : List UInt8), .func (.func 54) [] [.vptr [.ptr (some (h2.size, 5))]]), (.str ([117, 105, 100] : List UInt8), .func (.func 54) [] [.vptr [.ptr (some (h2.size, 4))]]), (.str ([115, 105, 122, 101] : List UInt8), .func (.func 54) [] [.vptr [.ptr (some (h4.size, 0))]]), (.str ([103, 110, 97, 109, 101] : List UInt8), .func (.func 55) [] [.vptr [.ptr (some (h2.size, 7))]]), (.str ([117, 110, 97, 109, 101] : List UInt8), .func (.func 55) [] [.vptr [.ptr (some (h2.size, 6))]]), (.str ([112, 97, 116, 104] : List UInt8), .func (.func 55) [] [.vptr [.ptr (some (h2.size, 0))]]), (.str ([108, 105, 110, 107, 112, 97, 116, 104] : List UInt8), .func (.func 55) [] [.vptr [.ptr (some (h2.size, 1))]]), (.str ([109, 116, 105, 109, 101] : List UInt8), .func (.func 30) [] [.vptr [.ptr (some (h2.size, 0))]])]), .obj h4.size (.cells none 2 [Ai x33]), .obj h2.size (.cells none 2 [.str x34, .str x35, Ab x36, Ai x37, Ai x38, Ai x39, .str x40, .str x41, Ai x42, Ai x43, Ai x44, Ai x45, rowV r3 x32.length, .str x46]), .obj h1.size (.cells none 2 [.str ([] : List UInt8), .str ([] : List UInt8), Ab 0, Ai 0, Ai 0, Ai 0, .str ([] : List UInt8), .str ([] : List UInt8), Ai 0, Ai 0, Ai 0, Ai 0, .slice none 0, .str ([] : List UInt8)]), .obj h.size (.cells none 2 (e_S_api_Head p0)), .lst rp1 40 (lst e_S_api_Pair p1)] F) ∨ False) ?_ ?_
 ·refine aw_loop (by kernel_rfl) (fun (s : (List S_api_Pair) × Int × (List UInt8) × (List UInt8) × Int × Int × Int × Int × (List UInt8) × (List UInt8) × Int × Int × Int × Int × (List UInt8) × Int) fr' h' => ∃ x1 x2 x3 x4 x5 x6 x7 x8 x9 x10 x11 x12 x13 x14 x15 x16, (x1, x2, x3, x4, x5, x6, x7, x8, x9, x10, x11, x12, x13, x14, x15, x16) = s ∧ ∃ r1, Has fr' 74 [(4, .ptr (some (h1.size, 0))), (7, .ptr (some (h2.size, 0))), (8, .ptr (some (h4.size, 0))), (9, .map (some h6.size)), (42, rowV rp1 p1.length), (43, Ai (p1.length : Int)), (44, Ai x16)] ∧ HH g h' [.lst r1 40 (lst e_S_api_Pair x1), .obj h6.size (.map 3 [(.str ([103, 105, 100] : List UInt8), .func (.func 54) [] [.vptr [.ptr (some (h2.size, 5))]]), (.str ([117, 105, 100] : List UInt8), .func (.func 54) [] [.vptr [.ptr (some (h2.size, 4))]]), (.str ([115, 105, 122, 101] : List UInt8), .func (.func 54) [] [.vptr [.ptr (some (h4.size, 0))]]), (.str ([103, 110, 97, 109, 101] : List UInt8), .func (.func 55) [] [.vptr [.ptr (some (h2.size, 7))]]), (.str ([117, 110, 97, 109, 101] : List UInt8), .func (.func 55) [] [.vptr [.ptr (some (h2.size, 6))]]), (.str ([112, 97, 116, 104] : List UInt8), .func (.func 55) [] [.vptr [.ptr (some (h2.size, 0))]]), (.str ([108, 105, 110, 107, 112, 97, 116, 104] : List UInt8), .func (.func 55) [] [.vptr [.ptr (some (h2.size, 1))]]), (.str ([109, 116, 105, 109, 101] : List UInt8), .func (.func 30) [] [.vptr [.ptr (some (h2.size, 0))]])]), .obj h4.size (.cells none 2 [Ai x2]), .obj h2.size (.cells none 2 [.str x3, .str x4, Ab x5, Ai x6, Ai x7, Ai x8, .str x9, .str x10, Ai x11, Ai x12, Ai x13, Ai x14, rowV r1 x1.length, .str x15]), .obj h1.size (.cells none 2 [.str ([] : List UInt8), .str ([] : List UInt8), Ab 0, Ai 0, Ai 0, Ai 0, .str ([] : List UInt8), .str ([] : List UInt8), Ai 0, Ai 0, Ai 0, Ai 0, .slice none 0, .str ([] : List UInt8)]), .obj h.size (.cells none 2 (e_S_api_Head p0)), .lst rp1 40 (lst e_S_api_Pair p1)] F) ho ⟨_, _, _, _, _, _, _, _, _, _, _, _, _, _, _, _, rfl, none, H.ls, A⟩ ?_
  clear ho hm H A
  intro s q fr h8 hI hm
  obtain ⟨x1, x2, x3, x4, x5, x6, x7, x8, x9, x10, x11, x12, x13, x14, x15, x16, rfl, r1, H, A⟩ := hI
  unfold M_attrs_Apply_sRO_L0 at hm
  refine aw_sr 1 (at_L 1 [(45, .bool (decide (x16 < (p1.length : Int))))] H fun fr H => aw_sq (aw_if 45 H hm (fun hb hm H => ?_) fun hb hm H => ?_))
  ·refine aw_kn id (aw_sq ?_)
   obtain ⟨o2, ho, hm⟩ := bind_some hm
   refine aw_mono (Q' := fun e fr' h' => (∃ x49 x50 x51 x52 x53 x54 x55 x56 x57 x58 x59 x60 x61 x62 x63, e = .normal ∧ .inl (x49, x50, x51, x52, x53, x54, x55, x56, x57, x58, x59, x60, x61, x62, x63) = o2 ∧ ∃ r4, Has fr' 74 [(4, .ptr (some (h1.size, 0))), (7, .ptr (some (h2.size, 0))), (8, .ptr (some (h4.size, 0))), (9, .map (some h6.size)), (42, rowV rp1 p1.length), (43, Ai (p1.length : Int)), (44, Ai x16)] ∧ HH g h' [.lst r4 40 (lst e_S_api_Pair x49), .obj h6.size (.map 3 [(.str ([103, 105, 100] : List UInt8), .func (.func 54) [] [.vptr [.ptr (some (h2.size, 5))]]), (.str ([117, 105, 100] : List UInt8), .func (.func 54) [] [.vptr [.ptr (some (h2.size, 4))]]), (.str ([115, 105, 122, 101] : List UInt8), .func (.func 54) [] [.vptr [.ptr (some (h4.size, 0))]]), (.str ([103, 110, 97, 109, 101] : List UInt8), .func (.func 55) [] [.vptr [.ptr (some (h2.size, 7))]]), (.str ([117, 110, 97, 109, 101] : List UInt8), .func (.func 55) [] [.vptr [.ptr (some (h2.size, 6))]]), (.str ([112, 97, 116, 104] : List UInt8), .func (.func 55) [] [.vptr [.ptr (some (h2.size, 0))]]), (.str ([108, 105, 110, 107, 112, 97, 116, 104] : List UInt8), .func (.func 55) [] [.vptr [.ptr (some (h2.size, 1))]]), (.str ([109, 116, 105, 109, 101] : List UInt8), .func (.func 30) [] [.vptr [.ptr (some (h2.size, 0))]])]), .obj h4.size (.cells none 2 [Ai x50]), .obj h2.size (.cells none 2 [.str x51, .str x52, Ab x53, Ai x54, Ai x55, Ai x56, .str x57, .str x58, Ai x59, Ai x60, Ai x61, Ai x62, rowV r4 x49.length, .str x63]), .obj h1.size (.cells none 2 [.str ([] : List UInt8), .str ([] : List UInt8), Ab 0, Ai 0, Ai 0, Ai 0, .str ([] : List UInt8), .str ([] : List UInt8), Ai 0, Ai 0, Ai 0, Ai 0, .slice none 0, .str ([] : List UInt8)]), .obj h.size (.cells none 2 (e_S_api_Head p0)), .lst rp1 40 (lst e_S_api_Pair p1)] F) ∨ (∃ x64 x65 x66 x67 x68 x69 x70 x71 x72 x73 x74 x75 x76 x77 x78 x79, e = .ret ∧ .inr (x64, x65, x66, x67, x68, x69, x70, x71, x72, x73, x74, x75, x76, x77, x78, x79) = o2 ∧ Has fr' 74 [(4, .ptr (some (h1.size, 0))), (5, Ai x78), (6, Ai x79)] ∧ HH g h' [.lst r1 40 (lst e_S_api_Pair x1), .obj h6.size (.map 3 [(.str ([103, 105, 100] : List UInt8), .func (.func 54) [] [.vptr [.ptr (some (h2.size, 5))]]), (.str ([117, 105, 100] : List UInt8), .func (.func 54) [] [.vptr [.ptr (some (h2.size, 4))]]), (.str ([115, 105, 122, 101] : List UInt8), .func (.func 54) [] [.vptr [.ptr (some (h4.size, 0))]]), (.str ([103, 110, 97, 109, 101] : List UInt8), .func (.func 55) [] [.vptr [.ptr (some (h2.size, 7))]]), (.str ([117, 110, 97, 109, 101] : List UInt8), .func (.func 55) [] [.vptr [.ptr (some (h2.size, 6))]]), (.str ([112, 97, 116, 104] : List UInt8), .func (.func 55) [] [.vptr [.ptr (some (h2.size, 0))]]), (.str ([108, 105, 110, 107, 112, 97, 116, 104] : List UInt8), .func (.func 55) [] [.vptr [.ptr (some (h2.size, 1))]]), (.str ([109, 116, 105, 109, 101] : List UInt8), .func (.func 30) [] [.vptr [.ptr (some (h2.size, 0))]])]), .obj h4.size (.cells none 2 [Ai x64]), .obj h2.size (.cells none 2 [.str x65, .str x66, Ab x67, Ai x68, Ai x69, Ai x70, .str x71, .str x72, Ai x73, Ai x74, Ai x75, Ai x76, rowV r1 x1.length, .str x77]), .obj h1.size (.cells none 2 [.str ([] : List UInt8), .str ([] : List UInt8), Ab 0, Ai 0, Ai 0, Ai 0, .str ([] : List UInt8), .str ([] : List UInt8), Ai 0, Ai 0, Ai 0, Ai 0, .slice none 0, .str ([] : List UInt8)]), .obj h.size (.cells none 2 (e_S_api_Head p0)), .lst rp1 40 (lst e_S_api_Pair p1)] F) ∨ False) ?_ ?_
   ·replace hm := ho
    clear ho
    refine aw_block (id := 1) (by kernel_rfl) ?_
    refine aw_sr 4 ?_
    obtain ⟨x80, hx, hm⟩ := bind_some hm
    obtain ⟨i1, er1, _, hx, hq1⟩ := HH.ixO enc_S_api_Pair (by decide) A 6 (xs := p1) rfl hx
    refine at_l1 46 (.ptr (some (i1, x16.toNat * 2))) h8 H (fun fr => .of (s_ixL (s := rowS rp1 p1.length) (by kernel_rfl) hx)) fun fr t H => ?_
    refine at_l1 47 _ _ H (fun fr => .of (s_ldA (by kernel_rfl) (row_ldA enc_S_api_Pair (HH.row A 6 rfl er1) hq1 0 2 (Nat.le_of_ble_eq_true rfl)))) fun fr t H => ?_
    obtain ⟨h9, e6, A⟩ := A.pu (.cells none 2 [.str ([] : List UInt8), .str ([] : List UInt8)])
    refine at_ln 11 (.ptr (some (h8.size, 0))) e6 H fun fr t H => ?_
    obtain ⟨h10, hx, A⟩ := A.s0 0 (e_S_api_Pair x80) [_, _]
    refine at_lS hx H fun fr t H => ?_
    refine at_ns 9 id (at_gl 2 [(49, .map (some h6.size))] 51 0 0 A H fun fr t H => ?_)
    rcases iteB_some hm with ⟨hb, hm⟩ | ⟨hk1, hm⟩
    ·refine at_l1 52 (.tuple [.func (.func 54) [] [.vptr [.ptr (some (h2.size, 5))]], .bool true]) h10 H (fun fr => .of (s_lkT (by kernel_rfl) (HH.mlookC (P := cfg.P) A 2 rfl (t := 47) (kt := 9) (et := 52) (by kernel_rfl) (by kernel_rfl) (s := x80.Key) (.hit hb)))) fun fr t H => ?_
     refine at_L 5 [(12, .func (.func 54) [] [.vptr [.ptr (some (h2.size, 5))]]), (13, .bool true)] H fun fr H => aw_sq (aw_sr 2 (at_L 2 [(56, .bool false)] H fun fr H => aw_false (x := .tmp 56) (by kernel_rfl) H (fun fr => by kernel_rfl) ?_))
     refine aw_ks 5 id (at_gl 2 [(63, .func (.func 54) [] [.vptr [.ptr (some (h2.size, 5))]])] 65 0 1 A H fun fr t H => ?_)
     replace A := A.k8 4 1 0 2 3 5 6 7
     obtain ⟨⟨x81, x82⟩, hx, hm⟩ := bind_some hm
     obtain ⟨v1, h11, hr, rfl, A1⟩ := ok_attrs_number_1_sSpQ5O (av := [.str x80.Value, .vptr [.ptr (some (h2.size, 5))]]) hx (A.cut 2)
     replace A := A.g22 A1
     refine at_lc1 66 hr H fun fr t H => ?_
     refine at_S 1 [(14, Ai x81)] 2 H fun fr H => at_L 2 [(68, .bool (x81 != 0))] H fun fr H => aw_if 68 H hm (fun hb hm H => ?_) fun hb hm H => ?_
     ·refine aw_sr 5 ?_
      obtain ⟨h12, hx, A⟩ := A.s5 0 [.str ([] : List UInt8), .str ([] : List UInt8), Ab 0, Ai 0, Ai 0, Ai 0, .str ([] : List UInt8), .str ([] : List UInt8), Ai 0, Ai 0, Ai 0, Ai 0, .slice none 0, .str ([] : List UInt8)] [_, _, _, _, _, _, _, _, _, _, _, _, _, _]
      refine at_gS 2 [(70, Ai x81)] hx H fun fr t H => ?_
      refine at_L 2 [(5, Ai 0), (6, Ai x81)] H fun fr H => aw_rt ?_
      replace A := A.k7 1 3 4 0 5 6 7
      exact .inr (.inl ⟨_, _, _, _, _, _, _, _, _, _, _, _, _, _, _, _, rfl, injA hm, H.ls, A⟩)
     refine aw_sk ?_
     replace A := A.k7 1 3 4 0 5 6 7
     exact .inl ⟨_, _, _, _, _, _, _, _, _, _, _, _, _, _, _, rfl, injA hm, _, H.ls, A⟩
    rcases iteB_some hm with ⟨hb, hm⟩ | ⟨hk2, hm⟩
    ·refine at_l1 52 (.tuple [.func (.func 54) [] [.vptr [.ptr (some (h2.size, 4))]], .bool true]) h10 H (fun fr => .of (s_lkT (by kernel_rfl) (HH.mlookC (P := cfg.P) A 2 rfl (t := 47) (kt := 9) (et := 52) (by kernel_rfl) (by kernel_rfl) (s := x80.Key) (.miss hk1 (.hit hb))))) fun fr t H => ?_
     refine at_L 5 [(12, .func (.func 54) [] [.vptr [.ptr (some (h2.size, 4))]]), (13, .bool true)] H fun fr H => aw_sq (aw_sr 2 (at_L 2 [(56, .bool false)] H fun fr H => aw_false (x := .tmp 56) (by kernel_rfl) H (fun fr => by kernel_rfl) ?_))
     refine aw_ks 5 id (at_gl 2 [(63, .func (.func 54) [] [.vptr [.ptr (some (h2.size, 4))]])] 65 0 1 A H fun fr t H => ?_)
     replace A := A.k8 4 1 0 2 3 5 6 7
     obtain ⟨⟨x83, x84⟩, hx, hm⟩ := bind_some hm
     obtain ⟨v1, h13, hr, rfl, A1⟩ := ok_attrs_number_1_sSpQ4O (av := [.str x80.Value, .vptr [.ptr (some (h2.size, 4))]]) hx (A.cut 2)
     replace A := A.g22 A1
     refine at_lc1 66 hr H fun fr t H => ?_
     refine at_S 1 [(14, Ai x83)] 2 H fun fr H => at_L 2 [(68, .bool (x83 != 0))] H fun fr H => aw_if 68 H hm (fun hb hm H => ?_) fun hb hm H => ?_
     ·refine aw_sr 5 ?_
      obtain ⟨h14, hx, A⟩ := A.s5 0 [.str ([] : List UInt8), .str ([] : List UInt8), Ab 0, Ai 0, Ai 0, Ai 0, .str ([] : List UInt8), .str ([] : List UInt8), Ai 0, Ai 0, Ai 0, Ai 0, .slice none 0, .str ([] : List UInt8)] [_, _, _, _, _, _, _, _, _, _, _, _, _, _]
      refine at_gS 2 [(70, Ai x83)] hx H fun fr t H => ?_
      refine at_L 2 [(5, Ai 0), (6, Ai x83)] H fun fr H => aw_rt ?_
      replace A := A.k7 1 3 4 0 5 6 7
      exact .inr (.inl ⟨_, _, _, _, _, _, _, _, _, _, _, _, _, _, _, _, rfl, injA hm, H.ls, A⟩)
     refine aw_sk ?_
     replace A := A.k7 1 3 4 0 5 6 7
     exact .inl ⟨_, _, _, _, _, _, _, _, _, _, _, _, _, _, _, rfl, injA hm, _, H.ls, A⟩
    rcases iteB_some hm with ⟨hb, hm⟩ | ⟨hk3, hm⟩
    ·refine at_l1 52 (.tuple [.func (.func 54) [] [.vptr [.ptr (some (h4.size, 0))]], .bool true]) h10 H (fun fr => .of (s_lkT (by kernel_rfl) (HH.mlookC (P := cfg.P) A 2 rfl (t := 47) (kt := 9) (et := 52) (by kernel_rfl) (by kernel_rfl) (s := x80.Key) (.miss hk1 (.miss hk2 (.hit hb)))))) fun fr t H => ?_
     refine at_L 5 [(12, .func (.func 54) [] [.vptr [.ptr (some (h4.size, 0))]]), (13, .bool true)] H fun fr H => aw_sq (aw_sr 2 (at_L 2 [(56, .bool false)] H fun fr H => aw_false (x := .tmp 56) (by kernel_rfl) H (fun fr => by kernel_rfl) ?_))
     refine aw_ks 5 id (at_gl 2 [(63, .func (.func 54) [] [.vptr [.ptr (some (h4.size, 0))]])] 65 0 1 A H fun fr t H => ?_)
     replace A := A.k8 3 0 1 2 4 5 6 7
     obtain ⟨⟨x85, x86⟩, hx, hm⟩ := bind_some hm
     obtain ⟨v1, h15, hr, rfl, A1⟩ := ok_attrs_number_1_sSpP (av := [.str x80.Value, .vptr [.ptr (some (h4.size, 0))]]) hx (A.cut 1)
     replace A := A.g11 A1
     refine at_lc1 66 hr H fun fr t H => ?_
     refine at_S 1 [(14, Ai x85)] 2 H fun fr H => at_L 2 [(68, .bool (x85 != 0))] H fun fr H => aw_if 68 H hm (fun hb hm H => ?_) fun hb hm H => ?_
     ·refine aw_sr 5 ?_
      obtain ⟨h16, hx, A⟩ := A.s5 0 [.str ([] : List UInt8), .str ([] : List UInt8), Ab 0, Ai 0, Ai 0, Ai 0, .str ([] : List UInt8), .str ([] : List UInt8), Ai 0, Ai 0, Ai 0, Ai 0, .slice none 0, .str ([] : List UInt8)] [_, _, _, _, _, _, _, _, _, _, _, _, _, _]
      refine at_gS 2 [(70, Ai x85)] hx H fun fr t H => ?_
      refine at_L 2 [(5, Ai 0), (6, Ai x85)] H fun fr H => aw_rt ?_
      replace A := A.k7 2 3 0 4 5 6 7
      exact .inr (.inl ⟨_, _, _, _, _, _, _, _, _, _, _, _, _, _, _, _, rfl, injA hm, H.ls, A⟩)
     refine aw_sk ?_
     replace A := A.k7 2 3 0 4 5 6 7
     exact .inl ⟨_, _, _, _, _, _, _, _, _, _, _, _, _, _, _, rfl, injA hm, _, H.ls, A⟩
    rcases iteB_some hm with ⟨hb, hm⟩ | ⟨hk4, hm⟩
    ·refine at_l1 52 (.tuple [.func (.func 55) [] [.vptr [.ptr (some (h2.size, 7))]], .bool true]) h10 H (fun fr => .of (s_lkT (by kernel_rfl) (HH.mlookC (P := cfg.P) A 2 rfl (t := 47) (kt := 9) (et := 52) (by kernel_rfl) (by kernel_rfl) (s := x80.Key) (.miss hk1 (.miss hk2 (.miss hk3 (.hit hb))))))) fun fr t H => ?_
     refine at_L 5 [(12, .func (.func 55) [] [.vptr [.ptr (some (h2.size, 7))]]), (13, .bool true)] H fun fr H => aw_sq (aw_sr 2 (at_L 2 [(56, .bool false)] H fun fr H => aw_false (x := .tmp 56) (by kernel_rfl) H (fun fr => by kernel_rfl) ?_))
     refine aw_ks 5 id (at_gl 2 [(63, .func (.func 55) [] [.vptr [.ptr (some (h2.size, 7))]])] 65 0 1 A H fun fr t H => ?_)
     replace A := A.k8 4 1 0 2 3 5 6 7
     obtain ⟨⟨x87, x88⟩, hx, hm⟩ := bind_some hm
     obtain ⟨v1, h17, hr, rfl, A1⟩ := ok_attrs_plain_1_sSpQ7O (av := [.str x80.Value, .vptr [.ptr (some (h2.size, 7))]]) hx (A.cut 2)
     replace A := A.g22 A1
     refine at_lc1 66 hr H fun fr t H => ?_
     refine at_S 1 [(14, Ai x87)] 2 H fun fr H => at_L 2 [(68, .bool (x87 != 0))] H fun fr H => aw_if 68 H hm (fun hb hm H => ?_) fun hb hm H => ?_
     ·refine aw_sr 5 ?_
      obtain ⟨h18, hx, A⟩ := A.s5 0 [.str ([] : List UInt8), .str ([] : List UInt8), Ab 0, Ai 0, Ai 0, Ai 0, .str ([] : List UInt8), .str ([] : List UInt8), Ai 0, Ai 0, Ai 0, Ai 0, .slice none 0, .str ([] : List UInt8)] [_, _, _, _, _, _, _, _, _, _, _, _, _, _]
      refine at_gS 2 [(70, Ai x87)] hx H fun fr t H => ?_
      refine at_L 2 [(5, Ai 0), (6, Ai x87)] H fun fr H => aw_rt ?_
      replace A := A.k7 1 3 4 0 5 6 7
      exact .inr (.inl ⟨_, _, _, _, _, _, _, _, _, _, _, _, _, _, _, _, rfl, injA hm, H.ls, A⟩)
     refine aw_sk ?_
     replace A := A.k7 1 3 4 0 5 6 7
     exact .inl ⟨_, _, _, _, _, _, _, _, _, _, _, _, _, _, _, rfl, injA hm, _, H.ls, A⟩
    rcases iteB_some hm with ⟨hb, hm⟩ | ⟨hk5, hm⟩
    ·refine at_l1 52 (.tuple [.func (.func 55) [] [.vptr [.ptr (some (h2.size, 6))]], .bool true]) h10 H (fun fr => .of (s_lkT (by kernel_rfl) (HH.mlookC (P := cfg.P) A 2 rfl (t := 47) (kt := 9) (et := 52) (by kernel_rfl) (by kernel_rfl) (s := x80.Key) (.miss hk1 (.miss hk2 (.miss hk3 (.miss hk4 (.hit hb)))))))) fun fr t H => ?_
     refine at_L 5 [(12, .func (.func 55) [] [.vptr [.ptr (some (h2.size, 6))]]), (13, .bool true)] H fun fr H => aw_sq (aw_sr 2 (at_L 2 [(56, .bool false)] H fun fr H => aw_false (x := .tmp 56) (by kernel_rfl) H (fun fr => by kernel_rfl) ?_))
     refine aw_ks 5 id (at_gl 2 [(63, .func (.func 55) [] [.vptr [.ptr (some (h2.size, 6))]])] 65 0 1 A H fun fr t H => ?_)
     replace A := A.k8 4 1 0 2 3 5 6 7
     obtain ⟨⟨x89, x90⟩, hx, hm⟩ := bind_some hm
     obtain ⟨v1, h19, hr, rfl, A1⟩ := ok_attrs_plain_1_sSpQ6O (av := [.str x80.Value, .vptr [.ptr (some (h2.size, 6))]]) hx (A.cut 2)
     replace A := A.g22 A1
     refine at_lc1 66 hr H fun fr t H => ?_
     refine at_S 1 [(14, Ai x89)] 2 H fun fr H => at_L 2 [(68, .bool (x89 != 0))] H fun fr H => aw_if 68 H hm (fun hb hm H => ?_) fun hb hm H => ?_
     ·refine aw_sr 5 ?_
      obtain ⟨h20, hx, A⟩ := A.s5 0 [.str ([] : List UInt8), .str ([] : List UInt8), Ab 0, Ai 0, Ai 0, Ai 0, .str ([] : List UInt8), .str ([] : List UInt8), Ai 0, Ai 0, Ai 0, Ai 0, .slice none 0, .str ([] : List UInt8)] [_, _, _, _, _, _, _, _, _, _, _, _, _, _]
      refine at_gS 2 [(70, Ai x89)] hx H fun fr t H => ?_
      refine at_L 2 [(5, Ai 0), (6, Ai x89)] H fun fr H => aw_rt ?_
      replace A := A.k7 1 3 4 0 5 6 7
      exact .inr (.inl ⟨_, _, _, _, _, _, _, _, _, _, _, _, _, _, _, _, rfl, injA hm, H.ls, A⟩)
     refine aw_sk ?_
     replace A := A.k7 1 3 4 0 5 6 7
     exact .inl ⟨_, _, _, _, _, _, _, _, _, _, _, _, _, _, _, rfl, injA hm, _, H.ls, A⟩
    rcases iteB_some hm with ⟨hb, hm⟩ | ⟨hk6, hm⟩
    ·refine at_l1 52 (.tuple [.func (.func 55) [] [.vptr [.ptr (some (h2.size, 0))]], .bool true]) h10 H (fun fr => .of (s_lkT (by kernel_rfl) (HH.mlookC (P := cfg.P) A 2 rfl (t := 47) (kt := 9) (et := 52) (by kernel_rfl) (by kernel_rfl) (s := x80.Key) (.miss hk1 (.miss hk2 (.miss hk3 (.miss hk4 (.miss hk5 (.hit hb))))))))) fun fr t H => ?_
     refine at_L 5 [(12, .func (.func 55) [] [.vptr [.ptr (some (h2.size, 0))]]), (13, .bool true)] H fun fr H => aw_sq (aw_sr 2 (at_L 2 [(56, .bool false)] H fun fr H => aw_false (x := .tmp 56) (by kernel_rfl) H (fun fr => by kernel_rfl) ?_))
     refine aw_ks 5 id (at_gl 2 [(63, .func (.func 55) [] [.vptr [.ptr (some (h2.size, 0))]])] 65 0 1 A H fun fr t H => ?_)
     replace A := A.k8 4 1 0 2 3 5 6 7
     obtain ⟨⟨x91, x92⟩, hx, hm⟩ := bind_some hm
     obtain ⟨v1, h21, hr, rfl, A1⟩ := ok_attrs_plain_1_sSpPO (av := [.str x80.Value, .vptr [.ptr (some (h2.size, 0))]]) hx (A.cut 2)
     replace A := A.g22 A1
     refine at_lc1 66 hr H fun fr t H => ?_
     refine at_S 1 [(14, Ai x91)] 2 H fun fr H => at_L 2 [(68, .bool (x91 != 0))] H fun fr H => aw_if 68 H hm (fun hb hm H => ?_) fun hb hm H => ?_
     ·refine aw_sr 5 ?_
      obtain ⟨h22, hx, A⟩ := A.s5 0 [.str ([] : List UInt8), .str ([] : List UInt8), Ab 0, Ai 0, Ai 0, Ai 0, .str ([] : List UInt8), .str ([] : List UInt8), Ai 0, Ai 0, Ai 0, Ai 0, .slice none 0, .str ([] : List UInt8)] [_, _, _, _, _, _, _, _, _, _, _, _, _, _]
      refine at_gS 2 [(70, Ai x91)] hx H fun fr t H => ?_
      refine at_L 2 [(5, Ai 0), (6, Ai x91)] H fun fr H => aw_rt ?_
      replace A := A.k7 1 3 4 0 5 6 7
      exact .inr (.inl ⟨_, _, _, _, _, _, _, _, _, _, _, _, _, _, _, _, rfl, injA hm, H.ls, A⟩)
     refine aw_sk ?_
     replace A := A.k7 1 3 4 0 5 6 7
     exact .inl ⟨_, _, _, _, _, _, _, _, _, _, _, _, _, _, _, rfl, injA hm, _, H.ls, A⟩
    rcases iteB_some hm with ⟨hb, hm⟩ | ⟨hk7, hm⟩
    ·refine at_l1 52 (.tuple [.func (.func 55) [] [.vptr [.ptr (some (h2.size, 1))]], .bool true]) h10 H (fun fr => .of (s_lkT (by kernel_rfl) (HH.mlookC (P := cfg.P) A 2 rfl (t := 47) (kt := 9) (et := 52) (by kernel_rfl) (by kernel_rfl) (s := x80.Key) (.miss hk1 (.miss hk2 (.miss hk3 (.miss hk4 (.miss hk5 (.miss hk6 (.hit hb)))))))))) fun fr t H => ?_
     refine at_L 5 [(12, .func (.func 55) [] [.vptr [.ptr (some (h2.size, 1))]]), (13, .bool true)] H fun fr H => aw_sq (aw_sr 2 (at_L 2 [(56, .bool false)] H fun fr H => aw_false (x := .tmp 56) (by kernel_rfl) H (fun fr => by kernel_rfl) ?_))
     refine aw_ks 5 id (at_gl 2 [(63, .func (.func 55) [] [.vptr [.ptr (some (h2.size, 1))]])] 65 0 1 A H fun fr t H => ?_)
     replace A := A.k8 4 1 0 2 3 5 6 7
     obtain ⟨⟨x93, x94⟩, hx, hm⟩ := bind_some hm
     obtain ⟨v1, h23, hr, rfl, A1⟩ := ok_attrs_plain_1_sSpQ1O (av := [.str x80.Value, .vptr [.ptr (some (h2.size, 1))]]) hx (A.cut 2)
     replace A := A.g22 A1
     refine at_lc1 66 hr H fun fr t H => ?_
     refine at_S 1 [(14, Ai x93)] 2 H fun fr H => at_L 2 [(68, .bool (x93 != 0))] H fun fr H => aw_if 68 H hm (fun hb hm H => ?_) fun hb hm H => ?_
     ·refine aw_sr 5 ?_
      obtain ⟨h24, hx, A⟩ := A.s5 0 [.str ([] : List UInt8), .str ([] : List UInt8), Ab 0, Ai 0, Ai 0, Ai 0, .str ([] : List UInt8), .str ([] : List UInt8), Ai 0, Ai 0, Ai 0, Ai 0, .slice none 0, .str ([] : List UInt8)] [_, _, _, _, _, _, _, _, _, _, _, _, _, _]
      refine at_gS 2 [(70, Ai x93)] hx H fun fr t H => ?_
      refine at_L 2 [(5, Ai 0), (6, Ai x93)] H fun fr H => aw_rt ?_
      replace A := A.k7 1 3 4 0 5 6 7
      exact .inr (.inl ⟨_, _, _, _, _, _, _, _, _, _, _, _, _, _, _, _, rfl, injA hm, H.ls, A⟩)
     refine aw_sk ?_
     replace A := A.k7 1 3 4 0 5 6 7
     exact .inl ⟨_, _, _, _, _, _, _, _, _, _, _, _, _, _, _, rfl, injA hm, _, H.ls, A⟩
    rcases iteB_some hm with ⟨hb, hm⟩ | ⟨hk8, hm⟩
    ·refine at_l1 52 (.tuple [.func (.func 30) [] [.vptr [.ptr (some (h2.size, 0))]], .bool true]) h10 H (fun fr => .of (s_lkT (by kernel_rfl) (HH.mlookC (P := cfg.P) A 2 rfl (t := 47) (kt := 9) (et := 52) (by kernel_rfl) (by kernel_rfl) (s := x80.Key) (.miss hk1 (.miss hk2 (.miss hk3 (.miss hk4 (.miss hk5 (.miss hk6 (.miss hk7 (.hit hb))))))))))) fun fr t H => ?_
     refine at_L 5 [(12, .func (.func 30) [] [.vptr [.ptr (some (h2.size, 0))]]), (13, .bool true)] H fun fr H => aw_sq (aw_sr 2 (at_L 2 [(56, .bool false)] H fun fr H => aw_false (x := .tmp 56) (by kernel_rfl) H (fun fr => by kernel_rfl) ?_))
     refine aw_ks 5 id (at_gl 2 [(63, .func (.func 30) [] [.vptr [.ptr (some (h2.size, 0))]])] 65 0 1 A H fun fr t H => ?_)
     replace A := A.k8 4 1 0 2 3 5 6 7
     obtain ⟨⟨x95, x96⟩, hx, hm⟩ := bind_some hm
     obtain ⟨v1, h25, hr, rfl, A1⟩ := ok_attrs_sets_1_sSpPO (av := [.str x80.Value, .vptr [.ptr (some (h2.size, 0))]]) hx (A.cut 2)
     replace A := A.g22 A1
     refine at_lc1 66 hr H fun fr t H => ?_
     refine at_S 1 [(14, Ai x95)] 2 H fun fr H => at_L 2 [(68, .bool (x95 != 0))] H fun fr H => aw_if 68 H hm (fun hb hm H => ?_) fun hb hm H => ?_
     ·refine aw_sr 5 ?_
      obtain ⟨h26, hx, A⟩ := A.s5 0 [.str ([] : List UInt8), .str ([] : List UInt8), Ab 0, Ai 0, Ai 0, Ai 0, .str ([] : List UInt8), .str ([] : List UInt8), Ai 0, Ai 0, Ai 0, Ai 0, .slice none 0, .str ([] : List UInt8)] [_, _, _, _, _, _, _, _, _, _, _, _, _, _]
      refine at_gS 2 [(70, Ai x95)] hx H fun fr t H => ?_
      refine at_L 2 [(5, Ai 0), (6, Ai x95)] H fun fr H => aw_rt ?_
      replace A := A.k7 1 3 4 0 5 6 7
      exact .inr (.inl ⟨_, _, _, _, _, _, _, _, _, _, _, _, _, _, _, _, rfl, injA hm, H.ls, A⟩)
     refine aw_sk ?_
     replace A := A.k7 1 3 4 0 5 6 7
     exact .inl ⟨_, _, _, _, _, _, _, _, _, _, _, _, _, _, _, rfl, injA hm, _, H.ls, A⟩
    refine at_l1 52 (.tuple [.nilFunc, .bool false]) h10 H (fun fr => .of (s_lkT (by kernel_rfl) (HH.mlookCN (P := cfg.P) A 2 rfl (t := 47) (kt := 9) (et := 52) (by kernel_rfl) (by kernel_rfl) (z := .nilFunc) (by kernel_rfl) (s := x80.Key) (.miss hk1 (.miss hk2 (.miss hk3 (.miss hk4 (.miss hk5 (.miss hk6 (.miss hk7 (.miss hk8 (.nil)))))))))))) fun fr t H => ?_
    refine at_L 5 [(12, .nilFunc), (13, .bool false)] H fun fr H => aw_sq (aw_sr 2 (at_L 2 [(56, .bool true)] H fun fr H => aw_true (x := .tmp 56) (by kernel_rfl) H (fun fr => by kernel_rfl) ?_))
    refine aw_sr 7 (at_gl 1 [] 58 4 12 A H fun fr t H => ?_)
    refine at_l1 59 _ _ H (fun fr => .of (s_ldA (by kernel_rfl) (A.ldA 0 rfl (o := 0) (n := 2) ⟨Nat.le_of_ble_eq_true rfl, rfl⟩))) fun fr t H => ?_
    obtain ⟨h27, e7, A⟩ := A.pL 40 (e_S_api_Pair x80)
    refine at_ln 60 (rowV (some h10.size) (([x80] : List S_api_Pair).length)) e7 H fun fr t H => ?_
    obtain ⟨hb, hm⟩ := need_some hm
    obtain ⟨r5, h28, hx, A1⟩ := HH.appO enc_S_api_Pair (by decide) A 2 (xs := x1) (ys := ([x80] : List S_api_Pair)) rfl (row_first A 0 rfl (n := ([x80] : List S_api_Pair).length) (z := 2) rfl (by decide)) rfl rfl hb
    replace A : HH g h28 [.lst (some h10.size) 40 ((e_S_api_Pair x80)), _, .lst r5 40 (lst e_S_api_Pair (x1 ++ ([x80] : List S_api_Pair))), _, _, _, _, _, _] F := A1
    replace A := A.k8 1 2 3 4 5 6 7 8
    refine at_l1 61 _ _ H (fun fr => .of (s_app (s := rowS r1 x1.length) (by kernel_rfl) hx)) fun fr t H => ?_
    obtain ⟨h29, hx, A1⟩ := A.st 4 rfl (o := 12) (new := [rowV r5 ((x1 ++ ([x80] : List S_api_Pair)).length)]) (ds := [.str x3, .str x4, Ab x5, Ai x6, Ai x7, Ai x8, .str x9, .str x10, Ai x11, Ai x12, Ai x13, Ai x14, rowV r5 ((x1 ++ ([x80] : List S_api_Pair)).length), .str x15]) (Nat.le_of_ble_eq_true rfl) rfl rfl
    replace A : HH g h29 [_, _, _, _, .obj h2.size (.cells none 2 [_, _, _, _, _, _, _, _, _, _, _, _, rowV r5 ((x1 ++ ([x80] : List S_api_Pair)).length), _]), _, _, _] F := A1
    refine at_gs 1 [] hx H fun fr t H => ?_
    refine at_nl id (aw_exit (i := 1) (by kernel_rfl) ?_)
    replace A := A.k7 1 2 3 4 5 6 7
    exact .inl ⟨_, _, _, _, _, _, _, _, _, _, _, _, _, _, _, rfl, injA hm, _, H.ls, A⟩
   clear ho
   clear A
   intro e fr h30 hQ
   rcases hQ with ⟨x49, x50, x51, x52, x53, x54, x55, x56, x57, x58, x59, x60, x61, x62, x63, rfl, rfl, r4, H, A⟩ | ⟨x64, x65, x66, x67, x68, x69, x70, x71, x72, x73, x74, x75, x76, x77, x78, x79, rfl, rfl, H, A⟩ | hF
   ·show AW _ _ _ _ _ _ _
    refine aw_rg 2 (at_se 2 [(4, .ptr (some (h1.size, 0))), (7, .ptr (some (h2.size, 0))), (8, .ptr (some (h4.size, 0))), (9, .map (some h6.size)), (42, rowV rp1 p1.length), (43, Ai (p1.length : Int)), (44, Ai (IntKind.i64.wrap (x16 + 1)))] H fun fr H => at_nil ?_)
    exact nx hm ⟨_, _, _, _, _, _, _, _, _, _, _, _, _, _, _, _, rfl, _, H.ls, A⟩
   ·exact nr hm fun e => Or.inr (.inl ⟨_, _, _, _, _, _, _, _, _, _, _, _, _, _, _, _, _, rfl, e, _, H.ls, A⟩)
   exact hF.elim
  refine aw_exit (i := 0) (by kernel_rfl) ?_
  exact nr hm fun e => .inl ⟨_, _, _, _, _, _, _, _, _, _, _, _, _, _, _, rfl, e, _, H.ls, A⟩
 clear ho
 clear A
 intro e fr h31 hQ
 rcases hQ with ⟨x17, x18, x19, x20, x21, x22, x23, x24, x25, x26, x27, x28, x29, x30, x31, rfl, rfl, r2, H, A⟩ | ⟨x32, x33, x34, x35, x36, x37, x38, x39, x40, x41, x42, x43, x44, x45, x46, x47, x48, rfl, rfl, r3, H, A⟩ | hF
 ·show AW _ _ _ _ _ _ _
  refine aw_sq (aw_dw 14 5 [(0, []), (1, []), (2, [1]), (3, []), (4, [])] ?_)
  refine at_t1 72 (.agg [.str x19, .str x20, Ab x21, Ai x22, Ai x23, Ai x24, .str x25, .str x26, Ai x27, Ai x28, Ai x29, Ai x30, rowV r2 x17.length, .str x31]) h31 [(0, h2.size)] (g.prot) H (fun fr => .of (s_ldA (by kernel_rfl) (A.la 3 0 14))) (fun fr H => ?_)
  refine at_t1 73 (Ai x18) h31 [(1, h4.size), (0, h2.size)] (g.prot) H (fun fr => .of (s_ld (by kernel_rfl) (A.l1 2 0))) (fun fr H => ?_)
  replace A := A.k7 4 0 1 2 3 5 6
  have A1 := A.prot2 1 (pr := [h4.size]) (.cons 2 rfl (by simp [Ck.ids]) .nil)
  obtain ⟨h32, hx, A1⟩ := A1.st 0 rfl (o := 0) (new := [.str x19, .str x20, Ab x21, Ai x22, Ai x23, Ai x24, .str x25, .str x26, Ai x27, Ai x28, Ai x29, Ai x30, rowV r2 x17.length, .str x31]) (ds := [.str x19, .str x20, Ab x21, Ai x22, Ai x23, Ai x24, .str x25, .str x26, Ai x27, Ai x28, Ai x29, Ai x30, rowV r2 x17.length, .str x31]) (Nat.le_of_ble_eq_true rfl) rfl rfl
  replace A := A.p11 A1
  refine at_t0 (.tuple []) h32 [(1, h4.size), (0, h2.size)] (h4.size :: g.prot) H (fun fr => .of (s_stG (by kernel_rfl) (stG_st hx rfl))) (fun fr H => ?_)
  refine at_L 2 [(5, Ai x18), (6, Ai 0)] H fun fr H => aw_rt ?_
  obtain ⟨rfl, rfl, rfl⟩ := injC hm
  refine ⟨.inl rfl, .tuple [.agg [.str x19, .str x20, Ab x21, Ai x22, Ai x23, Ai x24, .str x25, .str x26, Ai x27, Ai x28, Ai x29, Ai x30, rowV r2 x17.length, .str x31], Ai x18, Ai 0], resL_many (.cell (rT H) (load_ldA (by kernel_rfl) (by kernel_rfl) (A.la 0 0 14)) (.tmp (rT H) (.tmp (rT H) .nil))), ?_⟩
  obtain ⟨h33, hz0, A1⟩ := (A.front 1 rfl).frz (n := x17.length) (z := 2) (enc_S_api_Pair.lenL _) (by decide)
  replace A : HH g h33 [_, _, _, _, _, _] F := A1
  refine ⟨.tuple [.agg [.str x19, .str x20, Ab x21, Ai x22, Ai x23, Ai x24, .str x25, .str x26, Ai x27, Ai x28, Ai x29, Ai x30, vs e_S_api_Pair x17, .str x31], Ai x18, Ai 0], h33, by first | rfl | (simp only [fz3T, fz3A, fz3B, fz3R, fz2A, fz2R, fz2V, fz2I, fz2B, fz2S, fz2N, fzL0, fzL1, fz1I, fz1B, fz1S, fz1V, fz1N, Option.map_some, hz0] <;> rfl), ?_⟩
  replace A := A.k1 5
  exact ⟨rfl, A⟩
 ·obtain ⟨rfl, rfl, rfl⟩ := injC hm
  refine ⟨.inl rfl, .tuple [.agg [.str ([] : List UInt8), .str ([] : List UInt8), Ab 0, Ai 0, Ai 0, Ai 0, .str ([] : List UInt8), .str ([] : List UInt8), Ai 0, Ai 0, Ai 0, Ai 0, .slice none 0, .str ([] : List UInt8)], Ai x47, Ai x48], resL_many (.cell (rT H) (load_ldA (by kernel_rfl) (by kernel_rfl) (A.la 4 0 14)) (.tmp (rT H) (.tmp (rT H) .nil))), ?_⟩
  refine ⟨.tuple [.agg [.str ([] : List UInt8), .str ([] : List UInt8), Ab 0, Ai 0, Ai 0, Ai 0, .str ([] : List UInt8), .str ([] : List UInt8), Ai 0, Ai 0, Ai 0, Ai 0, vs e_S_api_Pair ([] : List S_api_Pair), .str ([] : List UInt8)], Ai x47, Ai x48], h31, by first | rfl | (simp only [fz3T, fz3A, fz3B, fz3R, fz2A, fz2R, fz2V, fz2I, fz2B, fz2S, fz2N, fzL0, fzL1, fz1I, fz1B, fz1S, fz1V, fz1N, Option.map_some] <;> rfl), ?_⟩
  replace A := A.k1 6
  exact ⟨rfl, A⟩
 exact hF.elim
def M_boulterref07_known (p0 : List UInt8) : Option (Bool) :=
 some ((((((((p0 == ([103, 105, 100] : List UInt8)) || (p0 == ([103, 110, 97, 109, 101] : List UInt8))) || (p0 == ([108, 105, 110, 107, 112, 97, 116, 104] : List UInt8))) || (p0 == ([109, 116, 105, 109, 101] : List UInt8))) || (p0 == ([112, 97, 116, 104] : List UInt8))) || (p0 == ([115, 105, 122, 101] : List UInt8))) || (p0 == ([117, 105, 100] : List UInt8))) || (p0 == ([117, 110, 97, 109, 101] : List UInt8)))
theorem ok_boulterref07_known {p0 q0} (hm : M_boulterref07_known p0 = some q0) (A : HH g h [] F) (hc : canL (cfg.still 17) av = [.str p0] := by kernel_rfl) : ∃ v h', Runs cfg g h 17 av v h' ∧ v = .bool q0 ∧ HH g h' [] F := by
 refine rq1 33 [.tmp 2] hc ?_
 clear hc
 unfold M_boulterref07_known at hm
 refine bg 33 [(0, .str p0)] fun fr H => ?_
 refine aw_sr 1 (at_S 1 [] 31 H fun fr H => at_sl 3 [(5, .bool (p0 == ([103, 105, 100] : List UInt8)))] H fun fr H => at_cl 3 (fun fr' h' => h = h' ∧ Has fr' 33 [(0, .str p0), (8, .bool ((p0 == ([103, 105, 100] : List UInt8)) || (p0 == ([103, 110, 97, 109, 101] : List UInt8))))]) ?_ ?_)
 ·cases hb : (p0 == ([103, 105, 100] : List UInt8) : Bool) with
  | true =>
   replace H := H.kn 5 hb
   exact at_sl 3 [(8, .bool true)] H fun fr H => at_zb H hb
  | false =>
   replace H := H.kn 5 hb
   exact at_sl 3 [(8, .bool (p0 == ([103, 110, 97, 109, 101] : List UInt8)))] H fun fr H => at_zb H hb
 intro t fr h' hK
 obtain ⟨e, H⟩ := hK
 subst e
 refine at_sl 1 [(9, .bool ((p0 == ([103, 105, 100] : List UInt8)) || (p0 == ([103, 110, 97, 109, 101] : List UInt8))))] H fun fr H => at_cl 3 (fun fr' h' => h = h' ∧ Has fr' 33 [(0, .str p0), (12, .bool (((p0 == ([103, 105, 100] : List UInt8)) || (p0 == ([103, 110, 97, 109, 101] : List UInt8))) || (p0 == ([108, 105, 110, 107, 112, 97, 116, 104] : List UInt8))))]) ?_ ?_
 ·cases hb : ((p0 == ([103, 105, 100] : List UInt8)) || (p0 == ([103, 110, 97, 109, 101] : List UInt8)) : Bool) with
  | true =>
   replace H := H.kn 9 hb
   exact at_sl 3 [(12, .bool true)] H fun fr H => at_zb H hb
  | false =>
   replace H := H.kn 9 hb
   exact at_sl 3 [(12, .bool (p0 == ([108, 105, 110, 107, 112, 97, 116, 104] : List UInt8)))] H fun fr H => at_zb H hb
 intro t fr h' hK
 obtain ⟨e, H⟩ := hK
 subst e
 refine at_sl 1 [(13, .bool (((p0 == ([103, 105, 100] : List UInt8)) || (p0 == ([103, 110, 97, 109, 101] : List UInt8))) || (p0 == ([108, 105, 110, 107, 112, 97, 116, 104] : List UInt8))))] H fun fr H => at_cl 3 (fun fr' h' => h = h' ∧ Has fr' 33 [(0, .str p0), (16, .bool ((((p0 == ([103, 105, 100] : List UInt8)) || (p0 == ([103, 110, 97, 109, 101] : List UInt8))) || (p0 == ([108, 105, 110, 107, 112, 97, 116, 104] : List UInt8))) || (p0 == ([109, 116, 105, 109, 101] : List UInt8))))]) ?_ ?_
 ·cases hb : (((p0 == ([103, 105, 100] : List UInt8)) || (p0 == ([103, 110, 97, 109, 101] : List UInt8))) || (p0 == ([108, 105, 110, 107, 112, 97, 116, 104] : List UInt8)) : Bool) with
  | true =>
   replace H := H.kn 13 hb
   exact at_sl 3 [(16, .bool true)] H fun fr H => at_zb H hb
  | false =>
   replace H := H.kn 13 hb
   exact at_sl 3 [(16, .bool (p0 == ([109, 116, 105, 109, 101] : List UInt8)))] H fun fr H => at_zb H hb
 intro t fr h' hK
 obtain ⟨e, H⟩ := hK
 subst e
 refine at_sl 1 [(17, .bool ((((p0 == ([103, 105, 100] : List UInt8)) || (p0 == ([103, 110, 97, 109, 101] : List UInt8))) || (p0 == ([108, 105, 110, 107, 112, 97, 116, 104] : List UInt8))) || (p0 == ([109, 116, 105, 109, 101] : List UInt8))))] H fun fr H => at_cl 3 (fun fr' h' => h = h' ∧ Has fr' 33 [(0, .str p0), (20, .bool (((((p0 == ([103, 105, 100] : List UInt8)) || (p0 == ([103, 110, 97, 109, 101] : List UInt8))) || (p0 == ([108, 105, 110, 107, 112, 97, 116, 104] : List UInt8))) || (p0 == ([109, 116, 105, 109, 101] : List UInt8))) || (p0 == ([112, 97, 116, 104] : List UInt8))))]) ?_ ?_
 ·cases hb : ((((p0 == ([103, 105, 100] : List UInt8)) || (p0 == ([103, 110, 97, 109, 101] : List UInt8))) || (p0 == ([108, 105, 110, 107, 112, 97, 116, 104] : List UInt8))) || (p0 == ([109, 116, 105, 109, 101] : List UInt8)) : Bool) with
  | true =>
   replace H := H.kn 17 hb
   exact at_sl 3 [(20, .bool true)] H fun fr H => at_zb H hb
  | false =>
   replace H := H.kn 17 hb
   exact at_sl 3 [(20, .bool (p0 == ([112, 97, 116, 104] : List UInt8)))] H fun fr H => at_zb H hb
 intro t fr h' hK
 obtain ⟨e, H⟩ := hK
 subst e
 refine at_sl 1 [(21, .bool (((((p0 == ([103, 105, 100] : List UInt8)) || (p0 == ([103, 110, 97, 109, 101] : List UInt8))) || (p0 == ([108, 105, 110, 107, 112, 97, 116, 104] : List UInt8))) || (p0 == ([109, 116, 105, 109, 101] : List UInt8))) || (p0 == ([112, 97, 116, 104] : List UInt8))))] H fun fr H => at_cl 3 (fun fr' h' => h = h' ∧ Has fr' 33 [(0, .str p0), (24, .bool ((((((p0 == ([103, 105, 100] : List UInt8)) || (p0 == ([103, 110, 97, 109, 101] : List UInt8))) || (p0 == ([108, 105, 110, 107, 112, 97, 116, 104] : List UInt8))) || (p0 == ([109, 116, 105, 109, 101] : List UInt8))) || (p0 == ([112, 97, 116, 104] : List UInt8))) || (p0 == ([115, 105, 122, 101] : List UInt8))))]) ?_ ?_
 ·cases hb : (((((p0 == ([103, 105, 100] : List UInt8)) || (p0 == ([103, 110, 97, 109, 101] : List UInt8))) || (p0 == ([108, 105, 110, 107, 112, 97, 116, 104] : List UInt8))) || (p0 == ([109, 116, 105, 109, 101] : List UInt8))) || (p0 == ([112, 97, 116, 104] : List UInt8)) : Bool) with
  | true =>
   replace H := H.kn 21 hb
   exact at_sl 3 [(24, .bool true)] H fun fr H => at_zb H hb
  | false =>
   replace H := H.kn 21 hb
   exact at_sl 3 [(24, .bool (p0 == ([115, 105, 122, 101] : List UInt8)))] H fun fr H => at_zb H hb
 intro t fr h' hK
 obtain ⟨e, H⟩ := hK
 subst e
 refine at_sl 1 [(25, .bool ((((((p0 == ([103, 105, 100] : List UInt8)) || (p0 == ([103, 110, 97, 109, 101] : List UInt8))) || (p0 == ([108, 105, 110, 107, 112, 97, 116, 104] : List UInt8))) || (p0 == ([109, 116, 105, 109, 101] : List UInt8))) || (p0 == ([112, 97, 116, 104] : List UInt8))) || (p0 == ([115, 105, 122, 101] : List UInt8))))] H fun fr H => at_cl 3 (fun fr' h' => h = h' ∧ Has fr' 33 [(0, .str p0), (28, .bool (((((((p0 == ([103, 105, 100] : List UInt8)) || (p0 == ([103, 110, 97, 109, 101] : List UInt8))) || (p0 == ([108, 105, 110, 107, 112, 97, 116, 104] : List UInt8))) || (p0 == ([109, 116, 105, 109, 101] : List UInt8))) || (p0 == ([112, 97, 116, 104] : List UInt8))) || (p0 == ([115, 105, 122, 101] : List UInt8))) || (p0 == ([117, 105, 100] : List UInt8))))]) ?_ ?_
 ·cases hb : ((((((p0 == ([103, 105, 100] : List UInt8)) || (p0 == ([103, 110, 97, 109, 101] : List UInt8))) || (p0 == ([108, 105, 110, 107, 112, 97, 116, 104] : List UInt8))) || (p0 == ([109, 116, 105, 109, 101] : List UInt8))) || (p0 == ([112, 97, 116, 104] : List UInt8))) || (p0 == ([115, 105, 122, 101] : List UInt8)) : Bool) with
  | true =>
   replace H := H.kn 25 hb
   exact at_sl 3 [(28, .bool true)] H fun fr H => at_zb H hb
  | false =>
   replace H := H.kn 25 hb
   exact at_sl 3 [(28, .bool (p0 == ([117, 105, 100] : List UInt8)))] H fun fr H => at_zb H hb
 intro t fr h' hK
 obtain ⟨e, H⟩ := hK
 subst e
 refine at_sl 1 [(29, .bool (((((((p0 == ([103, 105, 100] : List UInt8)) || (p0 == ([103, 110, 97, 109, 101] : List UInt8))) || (p0 == ([108, 105, 110, 107, 112, 97, 116, 104] : List UInt8))) || (p0 == ([109, 116, 105, 109, 101] : List UInt8))) || (p0 == ([112, 97, 116, 104] : List UInt8))) || (p0 == ([115, 105, 122, 101] : List UInt8))) || (p0 == ([117, 105, 100] : List UInt8))))] H fun fr H => at_cl 3 (fun fr' h' => h = h' ∧ Has fr' 33 [(32, .bool ((((((((p0 == ([103, 105, 100] : List UInt8)) || (p0 == ([103, 110, 97, 109, 101] : List UInt8))) || (p0 == ([108, 105, 110, 107, 112, 97, 116, 104] : List UInt8))) || (p0 == ([109, 116, 105, 109, 101] : List UInt8))) || (p0 == ([112, 97, 116, 104] : List UInt8))) || (p0 == ([115, 105, 122, 101] : List UInt8))) || (p0 == ([117, 105, 100] : List UInt8))) || (p0 == ([117, 110, 97, 109, 101] : List UInt8))))]) ?_ ?_
 ·cases hb : (((((((p0 == ([103, 105, 100] : List UInt8)) || (p0 == ([103, 110, 97, 109, 101] : List UInt8))) || (p0 == ([108, 105, 110, 107, 112, 97, 116, 104] : List UInt8))) || (p0 == ([109, 116, 105, 109, 101] : List UInt8))) || (p0 == ([112, 97, 116, 104] : List UInt8))) || (p0 == ([115, 105, 122, 101] : List UInt8))) || (p0 == ([117, 105, 100] : List UInt8)) : Bool) with
  | true =>
   replace H := H.kn 29 hb
   exact at_sl 3 [(32, .bool true)] H fun fr H => at_zb H hb
  | false =>
   replace H := H.kn 29 hb
   exact at_sl 3 [(32, .bool (p0 == ([117, 110, 97, 109, 101] : List UInt8)))] H fun fr H => at_zb H hb
 intro t fr h' hK
 obtain ⟨e, H⟩ := hK
 subst e
 refine at_L 1 [(2, .bool ((((((((p0 == ([103, 105, 100] : List UInt8)) || (p0 == ([103, 110, 97, 109, 101] : List UInt8))) || (p0 == ([108, 105, 110, 107, 112, 97, 116, 104] : List UInt8))) || (p0 == ([109, 116, 105, 109, 101] : List UInt8))) || (p0 == ([112, 97, 116, 104] : List UInt8))) || (p0 == ([115, 105, 122, 101] : List UInt8))) || (p0 == ([117, 105, 100] : List UInt8))) || (p0 == ([117, 110, 97, 109, 101] : List UInt8))))] H fun fr H => aw_rt ?_
 obtain rfl := injA hm
 exact ⟨.inl rfl, _, rH H, rfl, A⟩
end
end Go.Av.L
