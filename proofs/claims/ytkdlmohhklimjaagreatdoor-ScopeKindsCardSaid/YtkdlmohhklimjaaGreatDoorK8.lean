/-
 Models of functions, and that the abstract run tells them. Written by lift2.py.
-/
import Derived.Test.YtkdlmohhklimjaaGreatDoorKCfg
import Derived.Test.YtkdlmohhklimjaaGreatDoorK5
import Derived.Test.YtkdlmohhklimjaaGreatDoorK6
import Derived.Test.YtkdlmohhklimjaaGreatDoorK7
namespace Go.Av.L
open Go.Av Go.Lib
set_option maxRecDepth 10000
set_option linter.unusedVariables false
set_option linter.unusedSimpArgs false
variable {g : Gd} {h : AHeap} {F : List Ck} {av : List AVal}
noncomputable def M_boulterlaw25_ScopeKinds (p0 : Int) (p1 : Bool) (p2 : Bool) (p3 : Bool) : Option (Bool) :=
 (M_scope_New_sOII ([(⟨([97] : List UInt8), ([98] : List UInt8), false, false, false, (1 : Int), p1, p2, p3⟩ : S_rewrite_Expr)] : List S_rewrite_Expr) (100 : Int) (100 : Int)).bind fun (w2, x2, x3) => (match w2 with | some x1w1 => iteB ((x3 != (0 : Int)) || false) (some false) ((M_scope_Rules_Member_sPOR x1w1 (⟨([97] : List UInt8), ([97] : List UInt8), p0, (0 : Int), (0 : Int), (0 : Int), ([] : List UInt8), ([] : List UInt8), (0 : Int), (0 : Int), (⟨(0 : Int), (0 : Int)⟩ : S_api_Stamp), ([] : List S_api_Pair), ([] : List UInt8)⟩ : S_api_Member)).bind fun (x4, x5) => (iteB p1 (some ([98] : List UInt8)) (some ([97] : List UInt8)) : Option (((List UInt8)))).bind fun x6 => (iteB (((p0 == (50 : Int)) && p2) || ((p0 == (49 : Int)) && p3)) (some ([98] : List UInt8)) (some ([97] : List UInt8)) : Option (((List UInt8)))).bind fun x7 => (iteB ((((x5 == (0 : Int)) && (x4.Name == x6)) && (x4.Link == x7)) && (x4.Kind == p0)) ((M_boulterlaw25_awake).bind fun x9 => some x9) (some false) : Option (Bool)).bind fun x8 => some x8) | none => iteB ((x3 != (0 : Int)) || true) (some false) (none))
theorem ok_boulterlaw25_ScopeKinds {p0 p1 p2 p3 q0} (hm : M_boulterlaw25_ScopeKinds p0 p1 p2 p3 = some q0) (A : HH g h [] F) (hc : canL (cfg.still 5) av = [.int .u8 p0, .bool p1, .bool p2, .bool p3] := by kernel_rfl) : ∃ v h', Runs cfg g h 5 av v h' ∧ v = .bool q0 ∧ HH g h' [] F := by
 refine rq1 77 [.tmp 8] hc ?_
 clear hc
 unfold M_boulterlaw25_ScopeKinds at hm
 refine bg 77 [(0, .int .u8 p0), (1, .bool p1), (2, .bool p2), (3, .bool p3)] fun fr H => ?_
 refine aw_sr 1 ?_
 refine at_es 1 [] 6 H (fun _ => id) fun fr H => ?_
 obtain ⟨h1, e1, A⟩ := A.pu (.cells none 2 [.str ([] : List UInt8), .str ([] : List UInt8), .bool false, .bool false, .bool false, .int .i64 0, .bool false, .bool false, .bool false])
 refine at_gn 4 [(20, .agg [.str ([97] : List UInt8), .str ([98] : List UInt8), .bool false, .bool false, .bool false, .int .i64 (1 : Int), .bool p1, .bool p2, .bool p3])] 9 (.ptr (some (h.size, 0))) e1 H fun fr t H => ?_
 obtain ⟨h2, hx, A⟩ := A.s0 0 [.str ([97] : List UInt8), .str ([98] : List UInt8), .bool false, .bool false, .bool false, .int .i64 1, .bool p1, .bool p2, .bool p3] [_, _, _, _, _, _, _, _, _]
 refine at_lS hx H fun fr t H => ?_
 refine at_ns 10 id ?_
 refine at_l1 22 _ _ H (fun fr => .of (s_ldA (by kernel_rfl) (A.ldA 0 rfl (o := 0) (n := 9) ⟨Nat.le_of_ble_eq_true rfl, rfl⟩))) fun fr t H => ?_
 obtain ⟨h3, e2, A⟩ := A.pL 24 [.str ([97] : List UInt8), .str ([98] : List UInt8), .bool false, .bool false, .bool false, .int .i64 1, .bool p1, .bool p2, .bool p3]
 refine at_ln 23 (rowV (some h2.size) (([(⟨([97] : List UInt8), ([98] : List UInt8), false, false, false, (1 : Int), p1, p2, p3⟩ : S_rewrite_Expr)] : List S_rewrite_Expr).length)) e2 H fun fr t H => ?_
 replace A : HH g h3 [.lst (some h2.size) 24 (lst e_S_rewrite_Expr ([(⟨([97] : List UInt8), ([98] : List UInt8), false, false, false, (1 : Int), p1, p2, p3⟩ : S_rewrite_Expr)] : List S_rewrite_Expr)), _] F := A
 obtain ⟨⟨w2, x2, x3⟩, hx, hm⟩ := bind_some hm
 obtain ⟨v1, h4, hr, hc⟩ := ok_scope_New_sOII (av := [rowV (some h2.size) (([(⟨([97] : List UInt8), ([98] : List UInt8), false, false, false, (1 : Int), p1, p2, p3⟩ : S_rewrite_Expr)] : List S_rewrite_Expr).length), .int .i64 100, .int .i64 100]) hx (A.cut 1)
 rcases hc with ⟨bx1w1, rx1w1_0, x1w1, rfl, rfl, A1⟩ | ⟨rfl, rfl, A1⟩
 ·replace A : HH g h4 [.obj bx1w1 (.cells none 2 [rowV rx1w1_0 x1w1.l_.length, .int .i64 x1w1.name_]), .lst rx1w1_0 58 (lst (eP e_S_rewrite_Rule) x1w1.l_), .lst (some h2.size) 24 (lst e_S_rewrite_Expr ([(⟨([97] : List UInt8), ([98] : List UInt8), false, false, false, (1 : Int), p1, p2, p3⟩ : S_rewrite_Expr)] : List S_rewrite_Expr)), _] F := A.glue0 (n := 1) A1
  refine at_lc1 24 hr H fun fr t H => ?_
  refine at_el 7 [(10, .ptr (some (bx1w1, 0))), (12, .int .i64 x3)] H (fun _ => id) fun fr H => ?_
  refine aw_sq ?_
  refine aw_sr 6 ?_
  refine at_sl 3 [(30, .bool (x3 != (0 : Int)))] H fun fr H => ?_
  refine at_cl 3 (fun fr' h' => h4 = h' ∧ Has fr' 77 [(0, .int .u8 p0), (1, .bool p1), (2, .bool p2), (3, .bool p3), (10, .ptr (some (bx1w1, 0))), (33, .bool ((x3 != (0 : Int)) || false))]) ?_ ?_
  ·cases hb : (x3 != (0 : Int) : Bool) with
   | true =>
    replace H := H.kn 30 hb
    refine at_sl 3 [(33, .bool true)] H fun fr H => ?_
    exact at_zb H hb
   | false =>
    replace H := H.kn 30 hb
    refine at_sl 3 [(33, .bool false)] H fun fr H => ?_
    exact at_zb H hb
  intro t fr h' hK
  obtain ⟨e, H⟩ := hK
  subst e
  refine at_nl id ?_
  refine aw_if 33 H hm (fun hb hm H => ?_) fun hb hm H => ?_
  ·refine aw_sr 1 ?_
   refine at_el 1 [(8, .bool false)] H (fun _ => id) fun fr H => ?_
   refine aw_rt ?_
   obtain rfl := injA hm
   refine ⟨.inl rfl, .bool false, rH H, ?_⟩
   replace A := A.d0
   exact ⟨rfl, A⟩
  refine aw_ks 10 id ?_
  obtain ⟨⟨x4, x5⟩, hx, hm⟩ := bind_some hm
  obtain ⟨v1, h5, hr, rfl, A1⟩ := ok_scope_Rules_Member_sPOR (av := [.ptr (some (bx1w1, 0)), .agg [.str ([97] : List UInt8), .str ([97] : List UInt8), .int .u8 p0, .int .i64 0, .int .i64 0, .int .i64 0, .str ([] : List UInt8), .str ([] : List UInt8), .int .i64 0, .int .i64 0, .int .i64 0, .int .i64 0, .slice none 0, .str ([] : List UInt8)]]) hx (A.cut 2)
  replace A := A.g22 A1
  refine at_gc1 3 [] 38 hr H fun fr t H => ?_
  obtain ⟨h6, e3, A⟩ := A.pu (.cells none 2 [.str ([] : List UInt8), .str ([] : List UInt8), .int .u8 0, .int .i64 0, .int .i64 0, .int .i64 0, .str ([] : List UInt8), .str ([] : List UInt8), .int .i64 0, .int .i64 0, .int .i64 0, .int .i64 0, .slice none 0, .str ([] : List UInt8)])
  refine at_gn 3 [(39, .agg (e_S_api_Member x4)), (40, .int .i64 x5)] 13 (.ptr (some (h5.size, 0))) e3 H fun fr t H => ?_
  obtain ⟨h7, hx, A⟩ := A.s0 0 [.str x4.Name, .str x4.Link, .int .u8 x4.Kind, .int .i64 x4.Mode, .int .i64 x4.Uid, .int .i64 x4.Gid, .str x4.Uname, .str x4.Gname, .int .i64 x4.Major, .int .i64 x4.Minor, .int .i64 x4.Time.Sec, .int .i64 x4.Time.Nsec, vs e_S_api_Pair x4.Extra, .str x4.Data] [_, _, _, _, _, _, _, _, _, _, _, _, _, _]
  refine at_lS hx H fun fr t H => ?_
  refine at_es 1 [(14, .int .i64 x5)] 2 H (fun _ => id) fun fr H => ?_
  refine at_el 2 [(15, .str ([97] : List UInt8)), (16, .str ([97] : List UInt8))] H (fun _ => id) fun fr H => ?_
  refine aw_sq ?_
  obtain ⟨o1, ho, hm⟩ := bind_some hm
  refine aw_mono (Q' := fun e fr' h' => (∃ x6, e = .normal ∧ x6 = o1 ∧ Has fr' 77 [(0, .int .u8 p0), (2, .bool p2), (3, .bool p3), (13, .ptr (some (h5.size, 0))), (14, .int .i64 x5), (15, .str x6), (16, .str ([97] : List UInt8))] ∧ HH g h' [.obj h5.size (.cells none 2 (e_S_api_Member x4)), .obj bx1w1 (.cells none 2 [rowV rx1w1_0 x1w1.l_.length, .int .i64 x1w1.name_]), .lst rx1w1_0 58 (lst (eP e_S_rewrite_Rule) x1w1.l_), .obj h.size (.cells none 2 [.str ([97] : List UInt8), .str ([98] : List UInt8), .bool false, .bool false, .bool false, .int .i64 1, .bool p1, .bool p2, .bool p3])] F) ∨ False) ?_ ?_
  ·replace hm := ho
   clear ho
   refine aw_sr 1 ?_
   refine at_el 1 [(41, .bool p1)] H (fun _ => id) fun fr H => ?_
   refine aw_if 41 H hm (fun hb hm H => ?_) fun hb hm H => ?_
   ·refine aw_rg 1 ?_
    refine at_se 1 [(0, .int .u8 p0), (2, .bool p2), (3, .bool p3), (13, .ptr (some (h5.size, 0))), (14, .int .i64 x5), (15, .str ([98] : List UInt8)), (16, .str ([97] : List UInt8))] H fun fr H => ?_
    refine at_nil ?_
    replace A := A.k4 0 1 2 4
    exact .inl ⟨_, rfl, injA hm, H.ls, A⟩
   refine aw_sk ?_
   replace A := A.k4 0 1 2 4
   exact .inl ⟨_, rfl, injA hm, H.ls, A⟩
  clear ho
  clear A
  intro e fr h8 hQ
  rcases hQ with ⟨x6, rfl, rfl, H, A⟩ | hF
  ·show AW _ _ _ _ _ _ _
   refine aw_sq ?_
   obtain ⟨o2, ho, hm⟩ := bind_some hm
   refine aw_mono (Q' := fun e fr' h' => (∃ x7, e = .normal ∧ x7 = o2 ∧ Has fr' 77 [(0, .int .u8 p0), (13, .ptr (some (h5.size, 0))), (14, .int .i64 x5), (15, .str x6), (16, .str x7)] ∧ HH g h' [.obj h5.size (.cells none 2 (e_S_api_Member x4)), .obj bx1w1 (.cells none 2 [rowV rx1w1_0 x1w1.l_.length, .int .i64 x1w1.name_]), .lst rx1w1_0 58 (lst (eP e_S_rewrite_Rule) x1w1.l_), .obj h.size (.cells none 2 [.str ([97] : List UInt8), .str ([98] : List UInt8), .bool false, .bool false, .bool false, .int .i64 1, .bool p1, .bool p2, .bool p3])] F) ∨ False) ?_ ?_
   ·replace hm := ho
    clear ho
    refine aw_sr 12 ?_
    refine at_sl 3 [(44, .bool (p0 == (50 : Int)))] H fun fr H => ?_
    refine at_cl 2 (fun fr' h' => h8 = h' ∧ Has fr' 77 [(0, .int .u8 p0), (3, .bool p3), (13, .ptr (some (h5.size, 0))), (14, .int .i64 x5), (15, .str x6), (16, .str ([97] : List UInt8)), (46, .bool ((p0 == (50 : Int)) && p2))]) ?_ ?_
    ·cases hb : (p0 == (50 : Int) : Bool) with
     | true =>
      replace H := H.kn 44 hb
      refine at_sl 2 [(46, .bool p2)] H fun fr H => ?_
      exact at_zb H hb
     | false =>
      replace H := H.kn 44 hb
      refine at_sl 2 [(46, .bool false)] H fun fr H => ?_
      exact at_zb H hb
    intro t fr h' hK
    obtain ⟨e, H⟩ := hK
    subst e
    refine at_sl 1 [(47, .bool ((p0 == (50 : Int)) && p2))] H fun fr H => ?_
    refine at_cl 6 (fun fr' h' => h8 = h' ∧ Has fr' 77 [(0, .int .u8 p0), (13, .ptr (some (h5.size, 0))), (14, .int .i64 x5), (15, .str x6), (16, .str ([97] : List UInt8)), (53, .bool (((p0 == (50 : Int)) && p2) || ((p0 == (49 : Int)) && p3)))]) ?_ ?_
    ·cases hb : ((p0 == (50 : Int)) && p2 : Bool) with
     | true =>
      replace H := H.kn 47 hb
      refine at_sl 6 [(53, .bool true)] H fun fr H => ?_
      exact at_zb H hb
     | false =>
      replace H := H.kn 47 hb
      refine at_sl 3 [(50, .bool (p0 == (49 : Int)))] H fun fr H => ?_
      refine at_cl 2 (fun fr' h' => h8 = h' ∧ Has fr' 77 [(0, .int .u8 p0), (13, .ptr (some (h5.size, 0))), (14, .int .i64 x5), (15, .str x6), (16, .str ([97] : List UInt8)), (47, .bool false), (52, .bool ((p0 == (49 : Int)) && p3))]) ?_ ?_
      ·cases hb : (p0 == (49 : Int) : Bool) with
       | true =>
        replace H := H.kn 50 hb
        refine at_sl 2 [(52, .bool p3)] H fun fr H => ?_
        exact at_zb H hb
       | false =>
        replace H := H.kn 50 hb
        refine at_sl 2 [(52, .bool false)] H fun fr H => ?_
        exact at_zb H hb
      intro t fr h' hK
      obtain ⟨e, H⟩ := hK
      subst e
      refine at_sl 1 [(53, .bool ((p0 == (49 : Int)) && p3))] H fun fr H => ?_
      exact at_zb H hb
    intro t fr h' hK
    obtain ⟨e, H⟩ := hK
    subst e
    refine at_nl id ?_
    refine aw_if 53 H hm (fun hb hm H => ?_) fun hb hm H => ?_
    ·refine aw_rg 1 ?_
     refine at_se 1 [(0, .int .u8 p0), (13, .ptr (some (h5.size, 0))), (14, .int .i64 x5), (15, .str x6), (16, .str ([98] : List UInt8))] H fun fr H => ?_
     refine at_nil ?_
     exact .inl ⟨_, rfl, injA hm, H.ls, A⟩
    refine aw_sk ?_
    exact .inl ⟨_, rfl, injA hm, H.ls, A⟩
   clear ho
   clear A
   intro e fr h9 hQ
   rcases hQ with ⟨x7, rfl, rfl, H, A⟩ | hF
   ·show AW _ _ _ _ _ _ _
    refine aw_sr 24 ?_
    refine at_sl 3 [(56, .bool (x5 == (0 : Int)))] H fun fr H => ?_
    refine at_cl 5 (fun fr' h' => h9 = h' ∧ Has fr' 77 [(0, .int .u8 p0), (13, .ptr (some (h5.size, 0))), (16, .str x7), (61, .bool ((x5 == (0 : Int)) && (x4.Name == x6)))]) ?_ ?_
    ·cases hb : (x5 == (0 : Int) : Bool) with
     | true =>
      replace H := H.kn 56 hb
      refine at_gl 1 [] 58 0 0 A H fun fr t H => ?_
      refine at_sl 3 [(61, .bool (x4.Name == x6))] H fun fr H => ?_
      exact at_zb H hb
     | false =>
      replace H := H.kn 56 hb
      refine at_sl 5 [(61, .bool false)] H fun fr H => ?_
      exact at_zb H hb
    intro t fr h' hK
    obtain ⟨e, H⟩ := hK
    subst e
    refine at_sl 1 [(62, .bool ((x5 == (0 : Int)) && (x4.Name == x6)))] H fun fr H => ?_
    refine at_cl 5 (fun fr' h' => h9 = h' ∧ Has fr' 77 [(0, .int .u8 p0), (13, .ptr (some (h5.size, 0))), (67, .bool (((x5 == (0 : Int)) && (x4.Name == x6)) && (x4.Link == x7)))]) ?_ ?_
    ·cases hb : ((x5 == (0 : Int)) && (x4.Name == x6) : Bool) with
     | true =>
      replace H := H.kn 62 hb
      refine at_gl 1 [] 64 0 1 A H fun fr t H => ?_
      refine at_sl 3 [(67, .bool (x4.Link == x7))] H fun fr H => ?_
      exact at_zb H hb
     | false =>
      replace H := H.kn 62 hb
      refine at_sl 5 [(67, .bool false)] H fun fr H => ?_
      exact at_zb H hb
    intro t fr h' hK
    obtain ⟨e, H⟩ := hK
    subst e
    refine at_sl 1 [(68, .bool (((x5 == (0 : Int)) && (x4.Name == x6)) && (x4.Link == x7)))] H fun fr H => ?_
    refine at_cl 5 (fun fr' h' => h9 = h' ∧ Has fr' 77 [(73, .bool ((((x5 == (0 : Int)) && (x4.Name == x6)) && (x4.Link == x7)) && (x4.Kind == p0)))]) ?_ ?_
    ·cases hb : (((x5 == (0 : Int)) && (x4.Name == x6)) && (x4.Link == x7) : Bool) with
     | true =>
      replace H := H.kn 68 hb
      refine at_gl 1 [] 70 0 2 A H fun fr t H => ?_
      refine at_sl 3 [(73, .bool (x4.Kind == p0))] H fun fr H => ?_
      exact at_zb H hb
     | false =>
      replace H := H.kn 68 hb
      refine at_sl 5 [(73, .bool false)] H fun fr H => ?_
      exact at_zb H hb
    intro t fr h' hK
    obtain ⟨e, H⟩ := hK
    subst e
    refine at_sl 1 [(74, .bool ((((x5 == (0 : Int)) && (x4.Name == x6)) && (x4.Link == x7)) && (x4.Kind == p0)))] H fun fr H => ?_
    obtain ⟨x8, ho, hm⟩ := bind_some hm
    refine at_cl 2 (fun fr' h' => Has fr' 77 [(76, .bool x8)] ∧ HH g h' [.obj h5.size (.cells none 2 (e_S_api_Member x4)), .obj bx1w1 (.cells none 2 [rowV rx1w1_0 x1w1.l_.length, .int .i64 x1w1.name_]), .lst rx1w1_0 58 (lst (eP e_S_rewrite_Rule) x1w1.l_), .obj h.size (.cells none 2 [.str ([97] : List UInt8), .str ([98] : List UInt8), .bool false, .bool false, .bool false, .int .i64 1, .bool p1, .bool p2, .bool p3])] F) ?_ ?_
    ·rcases iteB_some ho with ⟨hb, hm⟩ | ⟨hb, hm⟩
     ·replace H := H.kn 74 hb
      obtain ⟨x9, hx, hm⟩ := bind_some hm
      obtain ⟨v1, h11, hr, rfl, A1⟩ := ok_boulterlaw25_awake (av := []) hx (A.cut 0)
      replace A := A.g00 A1
      refine at_lc1 75 hr H fun fr t H => ?_
      refine at_sl 1 [(76, .bool x9)] H fun fr H => ?_
      obtain rfl := injA hm
      exact at_nil ⟨H.ls, A⟩
     replace H := H.kn 74 hb
     refine at_sl 2 [(76, .bool false)] H fun fr H => ?_
     obtain rfl := injA hm
     exact at_nil ⟨H.ls, A⟩
    clear A
    intro t fr h10 hK
    obtain ⟨H, A⟩ := hK
    refine at_el 1 [(8, .bool x8)] H (fun _ => id) fun fr H => ?_
    refine aw_rt ?_
    obtain rfl := injA hm
    refine ⟨.inl rfl, .bool x8, rH H, ?_⟩
    replace A := A.d0
    exact ⟨rfl, A⟩
   exact hF.elim
  exact hF.elim
 replace A : HH g h4 [.lst (some h2.size) 24 (lst e_S_rewrite_Expr ([(⟨([97] : List UInt8), ([98] : List UInt8), false, false, false, (1 : Int), p1, p2, p3⟩ : S_rewrite_Expr)] : List S_rewrite_Expr)), _] F := A.glue0 (n := 1) A1
 refine at_lc1 24 hr H fun fr t H => ?_
 refine at_el 7 [(10, .ptr none), (12, .int .i64 x3)] H (fun _ => id) fun fr H => ?_
 refine aw_sq ?_
 refine aw_sr 6 ?_
 refine at_sl 3 [(30, .bool (x3 != (0 : Int)))] H fun fr H => ?_
 refine at_cl 3 (fun fr' h' => h4 = h' ∧ Has fr' 77 [(0, .int .u8 p0), (1, .bool p1), (2, .bool p2), (3, .bool p3), (10, .ptr none), (33, .bool ((x3 != (0 : Int)) || true))]) ?_ ?_
 ·cases hb : (x3 != (0 : Int) : Bool) with
  | true =>
   replace H := H.kn 30 hb
   refine at_sl 3 [(33, .bool true)] H fun fr H => ?_
   exact at_zb H hb
  | false =>
   replace H := H.kn 30 hb
   refine at_sl 3 [(33, .bool true)] H fun fr H => ?_
   exact at_zb H hb
 intro t fr h' hK
 obtain ⟨e, H⟩ := hK
 subst e
 refine at_nl id ?_
 refine aw_if 33 H hm (fun hb hm H => ?_) fun hb hm H => ?_
 ·refine aw_sr 1 ?_
  refine at_el 1 [(8, .bool false)] H (fun _ => id) fun fr H => ?_
  refine aw_rt ?_
  obtain rfl := injA hm
  refine ⟨.inl rfl, .bool false, rH H, ?_⟩
  replace A := A.d0
  exact ⟨rfl, A⟩
 refine aw_ks 10 id ?_
 cases hm
end Go.Av.L
