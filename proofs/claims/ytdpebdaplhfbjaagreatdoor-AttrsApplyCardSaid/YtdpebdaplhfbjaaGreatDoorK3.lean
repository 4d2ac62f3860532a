/-
 Models of functions, and that the abstract run tells them. Written by lift2.py.
-/
import Derived.Test.YtdpebdaplhfbjaaGreatDoorKCfg
import Derived.Test.YtdpebdaplhfbjaaGreatDoorK0
import Derived.Test.YtdpebdaplhfbjaaGreatDoorK1
import Derived.Test.YtdpebdaplhfbjaaGreatDoorK2
namespace Go.Av.L
open Go.Av Go.Lib
set_option maxRecDepth 10000
set_option linter.unusedVariables false
set_option linter.unusedSimpArgs false
variable {g : Gd} {h : AHeap} {F : List Ck} {av : List AVal}
noncomputable section
def M_boulterref07_Same (p0 : S_api_Member) (p1 : S_api_Member) : Option (Bool) :=
 (iteB ((((((((((p0.Name == p1.Name) && (p0.Link == p1.Link)) && (p0.Kind == p1.Kind)) && (p0.Mode == p1.Mode)) && (p0.Uid == p1.Uid)) && (p0.Gid == p1.Gid)) && (p0.Uname == p1.Uname)) && (p0.Gname == p1.Gname)) && (p0.Major == p1.Major)) && (p0.Minor == p1.Minor)) ((eqG cfg.P 29 (e_S_api_Stamp p0.Time) (e_S_api_Stamp p1.Time)).bind fun x2 => some x2) (some false) : Option (Bool)).bind fun x1 => (iteB x1 ((M_boulterref06_Same p0.Extra p1.Extra).bind fun x4 => some x4) (some false) : Option (Bool)).bind fun x3 => some (x3 && (p0.Data == p1.Data))
theorem ok_boulterref07_Same {p0 p1 q0} (hm : M_boulterref07_Same p0 p1 = some q0) (A : HH g h [] F) (hc : canL (cfg.still 10) av = [.agg (e_S_api_Member p0), .agg (e_S_api_Member p1)] := by kernel_rfl) : ∃ v h', Runs cfg g h 10 av v h' ∧ v = .bool q0 ∧ HH g h' [] F := by
 refine rq1 94 [.tmp 4] hc ?_
 clear hc
 unfold M_boulterref07_Same at hm
 refine bg 94 [(0, .agg (e_S_api_Member p0)), (1, .agg (e_S_api_Member p1))] fun fr H => ?_
 refine aw_sr 3 ?_
 obtain ⟨h1, e1, A⟩ := A.pu (.cells none 2 (e_S_api_Member p0))
 refine at_ln 2 (.ptr (some (h.size, 0))) e1 H fun fr t H => ?_
 obtain ⟨h2, e2, A⟩ := A.pu (.cells none 2 (e_S_api_Member p1))
 refine at_ln 3 (.ptr (some (h1.size, 0))) e2 H fun fr t H => ?_
 refine at_S 1 [] 90 H fun fr H => at_gl 1 [] 6 1 0 A H fun fr t H => ?_
 refine at_gl 1 [] 8 0 0 A H fun fr t H => ?_
 refine at_sl 2 [(10, .bool (p0.Name == p1.Name))] H fun fr H => at_cl 6 (fun fr' h' => h2 = h' ∧ Has fr' 94 [(2, .ptr (some (h.size, 0))), (3, .ptr (some (h1.size, 0))), (16, .bool ((p0.Name == p1.Name) && (p0.Link == p1.Link)))]) ?_ ?_
 ·cases hb : (p0.Name == p1.Name : Bool) with
  | true =>
   replace H := H.kn 10 hb
   refine at_gl 1 [] 12 1 1 A H fun fr t H => ?_
   refine at_gl 1 [] 14 0 1 A H fun fr t H => ?_
   exact at_sl 2 [(16, .bool (p0.Link == p1.Link))] H fun fr H => at_zb H hb
  | false =>
   replace H := H.kn 10 hb
   exact at_sl 6 [(16, .bool false)] H fun fr H => at_zb H hb
 intro t fr h' hK
 obtain ⟨e, H⟩ := hK
 subst e
 refine at_sl 1 [(17, .bool ((p0.Name == p1.Name) && (p0.Link == p1.Link)))] H fun fr H => at_cl 6 (fun fr' h' => h2 = h' ∧ Has fr' 94 [(2, .ptr (some (h.size, 0))), (3, .ptr (some (h1.size, 0))), (23, .bool (((p0.Name == p1.Name) && (p0.Link == p1.Link)) && (p0.Kind == p1.Kind)))]) ?_ ?_
 ·cases hb : ((p0.Name == p1.Name) && (p0.Link == p1.Link) : Bool) with
  | true =>
   replace H := H.kn 17 hb
   refine at_gl 1 [] 19 1 2 A H fun fr t H => ?_
   refine at_gl 1 [] 21 0 2 A H fun fr t H => ?_
   exact at_sl 2 [(23, .bool (p0.Kind == p1.Kind))] H fun fr H => at_zb H hb
  | false =>
   replace H := H.kn 17 hb
   exact at_sl 6 [(23, .bool false)] H fun fr H => at_zb H hb
 intro t fr h' hK
 obtain ⟨e, H⟩ := hK
 subst e
 refine at_sl 1 [(24, .bool (((p0.Name == p1.Name) && (p0.Link == p1.Link)) && (p0.Kind == p1.Kind)))] H fun fr H => at_cl 6 (fun fr' h' => h2 = h' ∧ Has fr' 94 [(2, .ptr (some (h.size, 0))), (3, .ptr (some (h1.size, 0))), (30, .bool ((((p0.Name == p1.Name) && (p0.Link == p1.Link)) && (p0.Kind == p1.Kind)) && (p0.Mode == p1.Mode)))]) ?_ ?_
 ·cases hb : (((p0.Name == p1.Name) && (p0.Link == p1.Link)) && (p0.Kind == p1.Kind) : Bool) with
  | true =>
   replace H := H.kn 24 hb
   refine at_gl 1 [] 26 1 3 A H fun fr t H => ?_
   refine at_gl 1 [] 28 0 3 A H fun fr t H => ?_
   exact at_sl 2 [(30, .bool (p0.Mode == p1.Mode))] H fun fr H => at_zb H hb
  | false =>
   replace H := H.kn 24 hb
   exact at_sl 6 [(30, .bool false)] H fun fr H => at_zb H hb
 intro t fr h' hK
 obtain ⟨e, H⟩ := hK
 subst e
 refine at_sl 1 [(31, .bool ((((p0.Name == p1.Name) && (p0.Link == p1.Link)) && (p0.Kind == p1.Kind)) && (p0.Mode == p1.Mode)))] H fun fr H => at_cl 6 (fun fr' h' => h2 = h' ∧ Has fr' 94 [(2, .ptr (some (h.size, 0))), (3, .ptr (some (h1.size, 0))), (37, .bool (((((p0.Name == p1.Name) && (p0.Link == p1.Link)) && (p0.Kind == p1.Kind)) && (p0.Mode == p1.Mode)) && (p0.Uid == p1.Uid)))]) ?_ ?_
 ·cases hb : ((((p0.Name == p1.Name) && (p0.Link == p1.Link)) && (p0.Kind == p1.Kind)) && (p0.Mode == p1.Mode) : Bool) with
  | true =>
   replace H := H.kn 31 hb
   refine at_gl 1 [] 33 1 4 A H fun fr t H => ?_
   refine at_gl 1 [] 35 0 4 A H fun fr t H => ?_
   exact at_sl 2 [(37, .bool (p0.Uid == p1.Uid))] H fun fr H => at_zb H hb
  | false =>
   replace H := H.kn 31 hb
   exact at_sl 6 [(37, .bool false)] H fun fr H => at_zb H hb
 intro t fr h' hK
 obtain ⟨e, H⟩ := hK
 subst e
 refine at_sl 1 [(38, .bool (((((p0.Name == p1.Name) && (p0.Link == p1.Link)) && (p0.Kind == p1.Kind)) && (p0.Mode == p1.Mode)) && (p0.Uid == p1.Uid)))] H fun fr H => at_cl 6 (fun fr' h' => h2 = h' ∧ Has fr' 94 [(2, .ptr (some (h.size, 0))), (3, .ptr (some (h1.size, 0))), (44, .bool ((((((p0.Name == p1.Name) && (p0.Link == p1.Link)) && (p0.Kind == p1.Kind)) && (p0.Mode == p1.Mode)) && (p0.Uid == p1.Uid)) && (p0.Gid == p1.Gid)))]) ?_ ?_
 ·cases hb : (((((p0.Name == p1.Name) && (p0.Link == p1.Link)) && (p0.Kind == p1.Kind)) && (p0.Mode == p1.Mode)) && (p0.Uid == p1.Uid) : Bool) with
  | true =>
   replace H := H.kn 38 hb
   refine at_gl 1 [] 40 1 5 A H fun fr t H => ?_
   refine at_gl 1 [] 42 0 5 A H fun fr t H => ?_
   exact at_sl 2 [(44, .bool (p0.Gid == p1.Gid))] H fun fr H => at_zb H hb
  | false =>
   replace H := H.kn 38 hb
   exact at_sl 6 [(44, .bool false)] H fun fr H => at_zb H hb
 intro t fr h' hK
 obtain ⟨e, H⟩ := hK
 subst e
 refine at_sl 1 [(45, .bool ((((((p0.Name == p1.Name) && (p0.Link == p1.Link)) && (p0.Kind == p1.Kind)) && (p0.Mode == p1.Mode)) && (p0.Uid == p1.Uid)) && (p0.Gid == p1.Gid)))] H fun fr H => at_cl 6 (fun fr' h' => h2 = h' ∧ Has fr' 94 [(2, .ptr (some (h.size, 0))), (3, .ptr (some (h1.size, 0))), (51, .bool (((((((p0.Name == p1.Name) && (p0.Link == p1.Link)) && (p0.Kind == p1.Kind)) && (p0.Mode == p1.Mode)) && (p0.Uid == p1.Uid)) && (p0.Gid == p1.Gid)) && (p0.Uname == p1.Uname)))]) ?_ ?_
 ·cases hb : ((((((p0.Name == p1.Name) && (p0.Link == p1.Link)) && (p0.Kind == p1.Kind)) && (p0.Mode == p1.Mode)) && (p0.Uid == p1.Uid)) && (p0.Gid == p1.Gid) : Bool) with
  | true =>
   replace H := H.kn 45 hb
   refine at_gl 1 [] 47 1 6 A H fun fr t H => ?_
   refine at_gl 1 [] 49 0 6 A H fun fr t H => ?_
   exact at_sl 2 [(51, .bool (p0.Uname == p1.Uname))] H fun fr H => at_zb H hb
  | false =>
   replace H := H.kn 45 hb
   exact at_sl 6 [(51, .bool false)] H fun fr H => at_zb H hb
 intro t fr h' hK
 obtain ⟨e, H⟩ := hK
 subst e
 refine at_sl 1 [(52, .bool (((((((p0.Name == p1.Name) && (p0.Link == p1.Link)) && (p0.Kind == p1.Kind)) && (p0.Mode == p1.Mode)) && (p0.Uid == p1.Uid)) && (p0.Gid == p1.Gid)) && (p0.Uname == p1.Uname)))] H fun fr H => at_cl 6 (fun fr' h' => h2 = h' ∧ Has fr' 94 [(2, .ptr (some (h.size, 0))), (3, .ptr (some (h1.size, 0))), (58, .bool ((((((((p0.Name == p1.Name) && (p0.Link == p1.Link)) && (p0.Kind == p1.Kind)) && (p0.Mode == p1.Mode)) && (p0.Uid == p1.Uid)) && (p0.Gid == p1.Gid)) && (p0.Uname == p1.Uname)) && (p0.Gname == p1.Gname)))]) ?_ ?_
 ·cases hb : (((((((p0.Name == p1.Name) && (p0.Link == p1.Link)) && (p0.Kind == p1.Kind)) && (p0.Mode == p1.Mode)) && (p0.Uid == p1.Uid)) && (p0.Gid == p1.Gid)) && (p0.Uname == p1.Uname) : Bool) with
  | true =>
   replace H := H.kn 52 hb
   refine at_gl 1 [] 54 1 7 A H fun fr t H => ?_
   refine at_gl 1 [] 56 0 7 A H fun fr t H => ?_
   exact at_sl 2 [(58, .bool (p0.Gname == p1.Gname))] H fun fr H => at_zb H hb
  | false =>
   replace H := H.kn 52 hb
   exact at_sl 6 [(58, .bool false)] H fun fr H => at_zb H hb
 intro t fr h' hK
 obtain ⟨e, H⟩ := hK
 subst e
 refine at_sl 1 [(59, .bool ((((((((p0.Name == p1.Name) && (p0.Link == p1.Link)) && (p0.Kind == p1.Kind)) && (p0.Mode == p1.Mode)) && (p0.Uid == p1.Uid)) && (p0.Gid == p1.Gid)) && (p0.Uname == p1.Uname)) && (p0.Gname == p1.Gname)))] H fun fr H => at_cl 6 (fun fr' h' => h2 = h' ∧ Has fr' 94 [(2, .ptr (some (h.size, 0))), (3, .ptr (some (h1.size, 0))), (65, .bool (((((((((p0.Name == p1.Name) && (p0.Link == p1.Link)) && (p0.Kind == p1.Kind)) && (p0.Mode == p1.Mode)) && (p0.Uid == p1.Uid)) && (p0.Gid == p1.Gid)) && (p0.Uname == p1.Uname)) && (p0.Gname == p1.Gname)) && (p0.Major == p1.Major)))]) ?_ ?_
 ·cases hb : ((((((((p0.Name == p1.Name) && (p0.Link == p1.Link)) && (p0.Kind == p1.Kind)) && (p0.Mode == p1.Mode)) && (p0.Uid == p1.Uid)) && (p0.Gid == p1.Gid)) && (p0.Uname == p1.Uname)) && (p0.Gname == p1.Gname) : Bool) with
  | true =>
   replace H := H.kn 59 hb
   refine at_gl 1 [] 61 1 8 A H fun fr t H => ?_
   refine at_gl 1 [] 63 0 8 A H fun fr t H => ?_
   exact at_sl 2 [(65, .bool (p0.Major == p1.Major))] H fun fr H => at_zb H hb
  | false =>
   replace H := H.kn 59 hb
   exact at_sl 6 [(65, .bool false)] H fun fr H => at_zb H hb
 intro t fr h' hK
 obtain ⟨e, H⟩ := hK
 subst e
 refine at_sl 1 [(66, .bool (((((((((p0.Name == p1.Name) && (p0.Link == p1.Link)) && (p0.Kind == p1.Kind)) && (p0.Mode == p1.Mode)) && (p0.Uid == p1.Uid)) && (p0.Gid == p1.Gid)) && (p0.Uname == p1.Uname)) && (p0.Gname == p1.Gname)) && (p0.Major == p1.Major)))] H fun fr H => at_cl 6 (fun fr' h' => h2 = h' ∧ Has fr' 94 [(2, .ptr (some (h.size, 0))), (3, .ptr (some (h1.size, 0))), (72, .bool ((((((((((p0.Name == p1.Name) && (p0.Link == p1.Link)) && (p0.Kind == p1.Kind)) && (p0.Mode == p1.Mode)) && (p0.Uid == p1.Uid)) && (p0.Gid == p1.Gid)) && (p0.Uname == p1.Uname)) && (p0.Gname == p1.Gname)) && (p0.Major == p1.Major)) && (p0.Minor == p1.Minor)))]) ?_ ?_
 ·cases hb : (((((((((p0.Name == p1.Name) && (p0.Link == p1.Link)) && (p0.Kind == p1.Kind)) && (p0.Mode == p1.Mode)) && (p0.Uid == p1.Uid)) && (p0.Gid == p1.Gid)) && (p0.Uname == p1.Uname)) && (p0.Gname == p1.Gname)) && (p0.Major == p1.Major) : Bool) with
  | true =>
   replace H := H.kn 66 hb
   refine at_gl 1 [] 68 1 9 A H fun fr t H => ?_
   refine at_gl 1 [] 70 0 9 A H fun fr t H => ?_
   exact at_sl 2 [(72, .bool (p0.Minor == p1.Minor))] H fun fr H => at_zb H hb
  | false =>
   replace H := H.kn 66 hb
   exact at_sl 6 [(72, .bool false)] H fun fr H => at_zb H hb
 intro t fr h' hK
 obtain ⟨e, H⟩ := hK
 subst e
 refine at_sl 1 [(73, .bool ((((((((((p0.Name == p1.Name) && (p0.Link == p1.Link)) && (p0.Kind == p1.Kind)) && (p0.Mode == p1.Mode)) && (p0.Uid == p1.Uid)) && (p0.Gid == p1.Gid)) && (p0.Uname == p1.Uname)) && (p0.Gname == p1.Gname)) && (p0.Major == p1.Major)) && (p0.Minor == p1.Minor)))] H fun fr H => ?_
 obtain ⟨x1, ho, hm⟩ := bind_some hm
 refine at_cl 6 (fun fr' h' => Has fr' 94 [(2, .ptr (some (h.size, 0))), (3, .ptr (some (h1.size, 0))), (79, .bool x1)] ∧ HH g h' [.obj h1.size (.cells none 2 (e_S_api_Member p1)), .obj h.size (.cells none 2 (e_S_api_Member p0))] F) ?_ ?_
 ·rcases iteB_some ho with ⟨hb, hm⟩ | ⟨hb, hm⟩
  ·replace H := H.kn 73 hb
   refine at_g1 1 [] 75 _ _ H (fun fr => .of (s_ldA (by kernel_rfl) (A.ldA 1 rfl (o := 10) (n := 2) ⟨Nat.le_of_ble_eq_true rfl, rfl⟩))) fun fr t H => ?_
   refine at_g1 1 [] 77 _ _ H (fun fr => .of (s_ldA (by kernel_rfl) (A.ldA 0 rfl (o := 10) (n := 2) ⟨Nat.le_of_ble_eq_true rfl, rfl⟩))) fun fr t H => ?_
   obtain ⟨x2, hx, hm⟩ := bind_some hm
   refine at_l1 78 (.bool x2) h2 H (fun fr => .of (s_eqG (by kernel_rfl) hx)) fun fr t H => ?_
   refine at_sl 1 [(79, .bool x2)] H fun fr H => ?_
   obtain rfl := injA hm
   exact at_nil ⟨H.ls, A⟩
  replace H := H.kn 73 hb
  refine at_sl 6 [(79, .bool false)] H fun fr H => ?_
  obtain rfl := injA hm
  exact at_nil ⟨H.ls, A⟩
 clear A
 intro t fr h3 hK
 obtain ⟨H, A⟩ := hK
 refine at_sl 1 [(80, .bool x1)] H fun fr H => ?_
 obtain ⟨x3, ho, hm⟩ := bind_some hm
 refine at_cl 6 (fun fr' h' => Has fr' 94 [(2, .ptr (some (h.size, 0))), (3, .ptr (some (h1.size, 0))), (86, .bool x3)] ∧ HH g h' [.obj h1.size (.cells none 2 (e_S_api_Member p1)), .obj h.size (.cells none 2 (e_S_api_Member p0))] F) ?_ ?_
 ·rcases iteB_some ho with ⟨hb, hm⟩ | ⟨hb, hm⟩
  ·replace H := H.kn 80 hb
   refine at_gl 1 [] 82 1 12 A H fun fr t H => ?_
   refine at_gl 1 [] 84 0 12 A H fun fr t H => ?_
   obtain ⟨x4, hx, hm⟩ := bind_some hm
   obtain ⟨v1, h5, hr, rfl, A1⟩ := ok_boulterref06_Same (av := [vs e_S_api_Pair p0.Extra, vs e_S_api_Pair p1.Extra]) hx (A.cut 0)
   replace A := A.g00 A1
   refine at_lc1 85 hr H fun fr t H => ?_
   refine at_sl 1 [(86, .bool x4)] H fun fr H => ?_
   obtain rfl := injA hm
   exact at_nil ⟨H.ls, A⟩
  replace H := H.kn 80 hb
  refine at_sl 6 [(86, .bool false)] H fun fr H => ?_
  obtain rfl := injA hm
  exact at_nil ⟨H.ls, A⟩
 clear A
 intro t fr h4 hK
 obtain ⟨H, A⟩ := hK
 refine at_sl 1 [(87, .bool x3)] H fun fr H => at_cl 6 (fun fr' h' => h4 = h' ∧ Has fr' 94 [(93, .bool (x3 && (p0.Data == p1.Data)))]) ?_ ?_
 ·cases hb : (x3 : Bool) with
  | true =>
   replace H := H.kn 87 hb
   refine at_gl 1 [] 89 1 13 A H fun fr t H => ?_
   refine at_gl 1 [] 91 0 13 A H fun fr t H => ?_
   exact at_sl 2 [(93, .bool (p0.Data == p1.Data))] H fun fr H => at_zb H hb
  | false =>
   replace H := H.kn 87 hb
   exact at_sl 6 [(93, .bool false)] H fun fr H => at_zb H hb
 intro t fr h' hK
 obtain ⟨e, H⟩ := hK
 subst e
 refine at_L 1 [(4, .bool (x3 && (p0.Data == p1.Data)))] H fun fr H => aw_rt ?_
 obtain rfl := injA hm
 refine ⟨.inl rfl, .bool (x3 && (p0.Data == p1.Data)), rH H, ?_⟩
 replace A := A.d0
 exact ⟨rfl, A⟩
def M_boulterlaw07_AttrsApply (p0 : S_api_Head) (p1 : List S_api_Pair) (p2 : List S_api_Pair) : Option (Bool) :=
 (M_boulterlaw07_long p1).bind fun x1 => (iteB x1 (some true) ((M_boulterlaw07_long p2).bind fun x3 => some x3) : Option (Bool)).bind fun x2 => iteB (x2 || (decide ((IntKind.i64.wrap ((IntKind.i64.wrap ((IntKind.i64.wrap ((p0.Name.length : Int) + (p0.Link.length : Int))) + (p0.Uname.length : Int))) + (p0.Gname.length : Int))) > 2000))) (some true) ((M_boulterref07_Merge p1 p2).bind fun x4 => (M_attrs_Apply_sRO p0 x4).bind fun (x5, x6, x7) => (M_boulterref07_Apply_sRO p0 x4).bind fun (x8, x9, x10) => (M_boulterref07_Same x5 x8).bind fun x11 => some (((x11 && (x6 == x9)) && (x7 == x10)) || false))
theorem ok_boulterlaw07_AttrsApply {p0 p1 p2 q0} (hm : M_boulterlaw07_AttrsApply p0 p1 p2 = some q0) (A : HH g h [] F) (hc : canL (cfg.still 3) av = [.agg (e_S_api_Head p0), vs e_S_api_Pair p1, vs e_S_api_Pair p2] := by kernel_rfl) : ∃ v h', Runs cfg g h 3 av v h' ∧ v = .bool q0 ∧ HH g h' [] F := by
 refine rq1 72 [.tmp 6] hc ?_
 clear hc
 unfold M_boulterlaw07_AttrsApply at hm
 refine bg 72 [(0, .agg (e_S_api_Head p0)), (1, vs e_S_api_Pair p1), (2, vs e_S_api_Pair p2)] fun fr H => ?_
 refine aw_sr 2 ?_
 obtain ⟨h1, e1, A⟩ := A.pu (.cells none 2 (e_S_api_Head p0))
 refine at_ln 3 (.ptr (some (h.size, 0))) e1 H fun fr t H => ?_
 refine at_L 1 [] H fun fr H => aw_sq (aw_sr 24 ?_)
 obtain ⟨x1, hx, hm⟩ := bind_some hm
 obtain ⟨v1, h2, hr, rfl, A1⟩ := ok_boulterlaw07_long (av := [vs e_S_api_Pair p1]) hx (A.cut 0)
 replace A : HH g h2 [.obj h.size (.cells none 2 (e_S_api_Head p0))] F := A.glue0 (n := 0) A1
 refine at_gc1 1 [] 15 hr H fun fr t H => ?_
 refine at_sl 1 [(16, .bool x1)] H fun fr H => ?_
 obtain ⟨x2, ho, hm⟩ := bind_some hm
 refine at_cl 3 (fun fr' h' => Has fr' 72 [(1, vs e_S_api_Pair p1), (2, vs e_S_api_Pair p2), (3, .ptr (some (h.size, 0))), (19, .bool x2)] ∧ HH g h' [.obj h.size (.cells none 2 (e_S_api_Head p0))] F) ?_ ?_
 ·rcases iteB_some ho with ⟨hb, hm⟩ | ⟨hb, hm⟩
  ·replace H := H.kn 16 hb
   refine at_sl 3 [(19, .bool true)] H fun fr H => ?_
   obtain rfl := injA hm
   exact at_nil ⟨H.ls, A⟩
  replace H := H.kn 16 hb
  obtain ⟨x3, hx, hm⟩ := bind_some hm
  obtain ⟨v1, h4, hr, rfl, A1⟩ := ok_boulterlaw07_long (av := [vs e_S_api_Pair p2]) hx (A.cut 0)
  replace A := A.g00 A1
  refine at_gc1 1 [] 18 hr H fun fr t H => ?_
  refine at_sl 1 [(19, .bool x3)] H fun fr H => ?_
  obtain rfl := injA hm
  exact at_nil ⟨H.ls, A⟩
 clear A
 intro t fr h3 hK
 obtain ⟨H, A⟩ := hK
 refine at_sl 1 [(20, .bool x2)] H fun fr H => at_cl 17 (fun fr' h' => h3 = h' ∧ Has fr' 72 [(1, vs e_S_api_Pair p1), (2, vs e_S_api_Pair p2), (3, .ptr (some (h.size, 0))), (37, .bool (x2 || (decide ((IntKind.i64.wrap ((IntKind.i64.wrap ((IntKind.i64.wrap ((p0.Name.length : Int) + (p0.Link.length : Int))) + (p0.Uname.length : Int))) + (p0.Gname.length : Int))) > 2000))))]) ?_ ?_
 ·cases hb : (x2 : Bool) with
  | true =>
   replace H := H.kn 20 hb
   exact at_sl 17 [(37, .bool true)] H fun fr H => at_zb H hb
  | false =>
   replace H := H.kn 20 hb
   refine at_gl 1 [] 22 0 0 A H fun fr t H => ?_
   refine at_gl 2 [(23, Ai (p0.Name.length : Int))] 25 0 1 A H fun fr t H => ?_
   refine at_gl 3 [(27, Ai (IntKind.i64.wrap ((p0.Name.length : Int) + (p0.Link.length : Int))))] 29 0 8 A H fun fr t H => ?_
   refine at_gl 3 [(31, Ai (IntKind.i64.wrap ((IntKind.i64.wrap ((p0.Name.length : Int) + (p0.Link.length : Int))) + (p0.Uname.length : Int))))] 33 0 9 A H fun fr t H => ?_
   exact at_sl 4 [(37, .bool (decide ((IntKind.i64.wrap ((IntKind.i64.wrap ((IntKind.i64.wrap ((p0.Name.length : Int) + (p0.Link.length : Int))) + (p0.Uname.length : Int))) + (p0.Gname.length : Int))) > 2000)))] H fun fr H => at_zb H hb
 intro t fr h' hK
 obtain ⟨e, H⟩ := hK
 subst e
 refine at_nl id (aw_if 37 H hm (fun hb hm H => ?_) fun hb hm H => ?_)
 ·refine aw_sr 2 (at_l1 38 (.bool true) h3 H (fun fr => Steps.call (by kernel_rfl) (runsTrue (C := cfg) (f := 6) (by kernel_rfl) (l := exts) rfl (by kernel_rfl))) fun fr t H => ?_)
  refine at_L 1 [(6, .bool true)] H fun fr H => aw_rt ?_
  obtain rfl := injA hm
  refine ⟨.inl rfl, .bool true, rH H, ?_⟩
  replace A := A.d0
  exact ⟨rfl, A⟩
 refine aw_ks 4 id ?_
 obtain ⟨x4, hx, hm⟩ := bind_some hm
 obtain ⟨v1, h5, hr, rqw3, rfl, A1⟩ := ok_boulterref07_Merge (av := [vs e_S_api_Pair p1, vs e_S_api_Pair p2]) hx (A.cut 0)
 replace A := A.g01 A1
 refine at_gc1 2 [] 41 hr H fun fr t H => ?_
 refine at_S 1 [(7, rowV rqw3 x4.length)] 11 H fun fr H => at_l1 43 _ _ H (fun fr => .of (s_ldA (by kernel_rfl) (A.ldA 1 rfl (o := 0) (n := 13) ⟨Nat.le_of_ble_eq_true rfl, rfl⟩))) fun fr t H => ?_
 obtain ⟨⟨x5, x6, x7⟩, hx, hm⟩ := bind_some hm
 obtain ⟨v1, h6, hr, rfl, A1⟩ := ok_attrs_Apply_sRO (av := [.agg (e_S_api_Head p0), rowV rqw3 x4.length]) hx (A.cut 1)
 replace A := A.g11 A1
 refine at_gc1 1 [] 45 hr H fun fr t H => ?_
 obtain ⟨h7, e2, A⟩ := A.pu (.cells none 2 [.str ([] : List UInt8), .str ([] : List UInt8), Ab 0, Ai 0, Ai 0, Ai 0, .str ([] : List UInt8), .str ([] : List UInt8), Ai 0, Ai 0, Ai 0, Ai 0, .slice none 0, .str ([] : List UInt8)])
 refine at_gn 4 [(46, .agg (e_S_api_Member x5)), (47, Ai x6), (48, Ai x7)] 8 (.ptr (some (h6.size, 0))) e2 H fun fr t H => ?_
 obtain ⟨h8, hx, A⟩ := A.s0 0 (e_S_api_Member x5) [_, _, _, _, _, _, _, _, _, _, _, _, _, _]
 refine at_lS hx H fun fr t H => ?_
 refine at_S 2 [(9, Ai x6), (10, Ai x7)] 11 H fun fr H => at_l1 50 _ _ H (fun fr => .of (s_ldA (by kernel_rfl) (A.ldA 2 rfl (o := 0) (n := 13) ⟨Nat.le_of_ble_eq_true rfl, rfl⟩))) fun fr t H => ?_
 replace A := A.k3 1 0 2
 obtain ⟨⟨x8, x9, x10⟩, hx, hm⟩ := bind_some hm
 obtain ⟨v1, h9, hr, rfl, A1⟩ := ok_boulterref07_Apply_sRO (av := [.agg (e_S_api_Head p0), rowV rqw3 x4.length]) hx (A.cut 1)
 replace A := A.g11 A1
 refine at_gc1 1 [] 52 hr H fun fr t H => ?_
 obtain ⟨h10, e3, A⟩ := A.pu (.cells none 2 [.str ([] : List UInt8), .str ([] : List UInt8), Ab 0, Ai 0, Ai 0, Ai 0, .str ([] : List UInt8), .str ([] : List UInt8), Ai 0, Ai 0, Ai 0, Ai 0, .slice none 0, .str ([] : List UInt8)])
 refine at_gn 4 [(53, .agg (e_S_api_Member x8)), (54, Ai x9), (55, Ai x10)] 11 (.ptr (some (h9.size, 0))) e3 H fun fr t H => ?_
 obtain ⟨h11, hx, A⟩ := A.s0 0 (e_S_api_Member x8) [_, _, _, _, _, _, _, _, _, _, _, _, _, _]
 refine at_lS hx H fun fr t H => ?_
 refine at_S 2 [(12, Ai x9), (13, Ai x10)] 17 H fun fr H => at_l1 56 _ _ H (fun fr => .of (s_ldA (by kernel_rfl) (A.ldA 2 rfl (o := 0) (n := 14) ⟨Nat.le_of_ble_eq_true rfl, rfl⟩))) fun fr t H => ?_
 refine at_l1 57 _ _ H (fun fr => .of (s_ldA (by kernel_rfl) (A.ldA 0 rfl (o := 0) (n := 14) ⟨Nat.le_of_ble_eq_true rfl, rfl⟩))) fun fr t H => ?_
 obtain ⟨x11, hx, hm⟩ := bind_some hm
 obtain ⟨v1, h12, hr, rfl, A1⟩ := ok_boulterref07_Same (av := [.agg (e_S_api_Member x5), .agg (e_S_api_Member x8)]) hx (A.cut 0)
 replace A := A.g00 A1
 refine at_lc1 58 hr H fun fr t H => ?_
 refine at_sl 1 [(59, .bool x11)] H fun fr H => at_cl 4 (fun fr' h' => h12 = h' ∧ Has fr' 72 [(10, Ai x7), (13, Ai x10), (63, .bool (x11 && (x6 == x9)))]) ?_ ?_
 ·cases hb : (x11 : Bool) with
  | true =>
   replace H := H.kn 59 hb
   exact at_sl 4 [(63, .bool (x6 == x9))] H fun fr H => at_zb H hb
  | false =>
   replace H := H.kn 59 hb
   exact at_sl 4 [(63, .bool false)] H fun fr H => at_zb H hb
 intro t fr h' hK
 obtain ⟨e, H⟩ := hK
 subst e
 refine at_sl 1 [(64, .bool (x11 && (x6 == x9)))] H fun fr H => at_cl 4 (fun fr' h' => h12 = h' ∧ Has fr' 72 [(68, .bool ((x11 && (x6 == x9)) && (x7 == x10)))]) ?_ ?_
 ·cases hb : (x11 && (x6 == x9) : Bool) with
  | true =>
   replace H := H.kn 64 hb
   exact at_sl 4 [(68, .bool (x7 == x10))] H fun fr H => at_zb H hb
  | false =>
   replace H := H.kn 64 hb
   exact at_sl 4 [(68, .bool false)] H fun fr H => at_zb H hb
 intro t fr h' hK
 obtain ⟨e, H⟩ := hK
 subst e
 refine at_sl 1 [(69, .bool ((x11 && (x6 == x9)) && (x7 == x10)))] H fun fr H => at_cl 2 (fun fr' h' => h12 = h' ∧ Has fr' 72 [(71, .bool (((x11 && (x6 == x9)) && (x7 == x10)) || false))]) ?_ ?_
 ·cases hb : ((x11 && (x6 == x9)) && (x7 == x10) : Bool) with
  | true =>
   replace H := H.kn 69 hb
   refine at_l1 70 (.bool true) h12 H (fun fr => Steps.call (by kernel_rfl) (runsTrue (C := cfg) (f := 6) (by kernel_rfl) (l := exts) rfl (by kernel_rfl))) fun fr t H => ?_
   exact at_sl 1 [(71, .bool true)] H fun fr H => at_zb H hb
  | false =>
   replace H := H.kn 69 hb
   exact at_sl 2 [(71, .bool false)] H fun fr H => at_zb H hb
 intro t fr h' hK
 obtain ⟨e, H⟩ := hK
 subst e
 refine at_L 1 [(6, .bool (((x11 && (x6 == x9)) && (x7 == x10)) || false))] H fun fr H => aw_rt ?_
 obtain rfl := injA hm
 refine ⟨.inl rfl, .bool (((x11 && (x6 == x9)) && (x7 == x10)) || false), rH H, ?_⟩
 replace A := A.d0
 exact ⟨rfl, A⟩
end
end Go.Av.L
