/-
  Models of functions, and that the abstract run tells them. Written by lift2.py.
-/
import Derived.Test.YtcmfogjpkkodbaaKCfg
import Derived.Test.YtcmfogjpkkodbaaK0
import Derived.Test.YtcmfogjpkkodbaaK1
import Derived.Test.YtcmfogjpkkodbaaK2
namespace Go.Av.L
open Go.Av Go.Lib
set_option maxRecDepth 10000
set_option linter.unusedVariables false
set_option linter.unusedSimpArgs false
/-! ### boulter/archive.Same -/
noncomputable def M_archive_Same (p0 : S_api_Member) (p1 : S_api_Member) : Option (Bool) :=
 (M_archive_bare p0).bind fun (x1, x2) => (M_archive_bare p1).bind fun (x3, x4) => (M_slices_Equal_boulter_api_Pair_boulter_api_Pair x2 x4).bind fun x5 => (iteB ((((((((((x5 && (x1.Name == x3.Name)) && (x1.Link == x3.Link)) && (x1.Kind == x3.Kind)) && (x1.Mode == x3.Mode)) && (x1.Uid == x3.Uid)) && (x1.Gid == x3.Gid)) && (x1.Uname == x3.Uname)) && (x1.Gname == x3.Gname)) && (x1.Major == x3.Major)) && (x1.Minor == x3.Minor)) ((eqG cfg.P 60 [.int .i64 x1.Time.Sec, .int .i64 x1.Time.Nsec] [.int .i64 x3.Time.Sec, .int .i64 x3.Time.Nsec]).bind fun x7 => some x7) (some false) : Option (Bool)).bind fun x6 => some (x6 && (x1.Data == x3.Data))
theorem ok_archive_Same {g : Gd} {h : AHeap} {F : List Ck} {p0 : S_api_Member} {p1 : S_api_Member} {q0 : Bool} {av : List AVal} (hm : M_archive_Same p0 p1 = some q0) (hc : canL (cfg.still 51) av = [.agg (e_S_api_Member p0), .agg (e_S_api_Member p1)]) (A : HH g h [] F) : ∃ v h', Runs cfg g h 51 av v h' ∧ v = .bool q0 ∧ HH g h' [] F := by
  refine runsQ1 (n := 106) (rs := [.tmp 4]) (by kernel_rfl) hc (by kernel_rfl) ?_
  clear hc
  unfold M_archive_Same at hm
  refine start (n := 106) [(0, .agg (e_S_api_Member p0)), (1, .agg (e_S_api_Member p1))] (by kernel_rfl) (by kernel_rfl) ?_
  intro fr H
  refine aw_seq (by kernel_rfl) ?_
  refine aw_reg (id := 0) (n := 3) [(0, []), (1, []), (2, [])] (by kernel_rfl) (by kernel_rfl) ?_
  obtain ⟨h1, e1⟩ : ∃ x, x = h.push (.cells none 2 (e_S_api_Member p0)) := ⟨_, rfl⟩
  replace A := (A.push _).to e1
  refine at_step (v := .ptr (some (h.size, 0))) (h1 := h1) [(1, .agg (e_S_api_Member p1)), (2, .ptr (some (h.size, 0)))] H (fun fr => by kernel_rfl) (fun fr => .of (s_n' (by kernel_rfl) (congrArg some e1.symm))) ?_
  intro fr t H
  obtain ⟨h2, e2⟩ : ∃ x, x = h1.push (.cells none 2 (e_S_api_Member p1)) := ⟨_, rfl⟩
  replace A := (A.push _).to e2
  refine at_step (v := .ptr (some (h1.size, 0))) (h1 := h2) [(2, .ptr (some (h.size, 0))), (3, .ptr (some (h1.size, 0)))] H (fun fr => by kernel_rfl) (fun fr => .of (s_n' (by kernel_rfl) (congrArg some e2.symm))) ?_
  intro fr t H
  refine at_seg [(2, [])] [(2, .ptr (some (h.size, 0))), (3, .ptr (some (h1.size, 0)))] H (noU_all rfl) (fun fr => by kernel_rfl) ?_
  intro fr H
  refine at_nil ?_
  show AW cfg 51 g (right (bodyC cfg.P 51)) fr h2 _
  refine aw_seq (by kernel_rfl) ?_
  refine aw_reg (id := 1) (n := 8) [(0, []), (1, []), (2, []), (3, []), (4, []), (5, []), (6, []), (7, [])] (by kernel_rfl) (by kernel_rfl) ?_
  refine at_step (v := .agg (e_S_api_Member p0)) (h1 := h2) [(3, .ptr (some (h1.size, 0))), (10, .agg (e_S_api_Member p0))] H (fun fr => by kernel_rfl) (fun fr => .of (s_ldA (by kernel_rfl) (A.ldA 1 rfl (o := 0) (n := 14) ⟨Nat.le_of_ble_eq_true rfl, rfl⟩))) ?_
  intro fr t H
  have A1 := A.cut 0
  obtain ⟨⟨x1, x2⟩, hx, hm⟩ := bind_some hm
  obtain ⟨v1, h3, hr, rfl, A1⟩ := ok_archive_bare (av := [.agg (e_S_api_Member p0)]) hx (by kernel_rfl) A1
  replace A : HH g h3 [.obj h1.size (.cells none 2 (e_S_api_Member p1)), .obj h.size (.cells none 2 (e_S_api_Member p0))] F := A.glue0 (n := 0) A1
  refine at_step (v := .tuple [.agg (e_S_api_Member x1), vs e_S_api_Pair x2]) (h1 := h3) [(3, .ptr (some (h1.size, 0))), (11, .tuple [.agg (e_S_api_Member x1), vs e_S_api_Pair x2])] H (fun fr => by kernel_rfl) (fun fr => Steps.call (by kernel_rfl) hr) ?_
  intro fr t H
  refine at_seg [(2, []), (3, []), (4, [])] [(3, .ptr (some (h1.size, 0))), (12, .agg (e_S_api_Member x1)), (13, vs e_S_api_Pair x2)] H (noU_all rfl) (fun fr => by kernel_rfl) ?_
  intro fr H
  obtain ⟨h4, e3⟩ : ∃ x, x = h3.push (.cells none 2 [.str ([] : List UInt8), .str ([] : List UInt8), .int .u8 (0 : Int), .int .i64 (0 : Int), .int .i64 (0 : Int), .int .i64 (0 : Int), .str ([] : List UInt8), .str ([] : List UInt8), .int .i64 (0 : Int), .int .i64 (0 : Int), .int .i64 (0 : Int), .int .i64 (0 : Int), .slice none 0, .str ([] : List UInt8)]) := ⟨_, rfl⟩
  replace A := (A.push _).to e3
  refine at_step (v := .ptr (some (h3.size, 0))) (h1 := h4) [(3, .ptr (some (h1.size, 0))), (5, .ptr (some (h3.size, 0))), (12, .agg (e_S_api_Member x1)), (13, vs e_S_api_Pair x2)] H (fun fr => by kernel_rfl) (fun fr => .of (s_n' (by kernel_rfl) (congrArg some e3.symm))) ?_
  intro fr t H
  obtain ⟨h5, hx, A1⟩ := A.st 0 rfl (o := 0) (new := [.str x1.Name, .str x1.Link, .int .u8 x1.Kind, .int .i64 x1.Mode, .int .i64 x1.Uid, .int .i64 x1.Gid, .str x1.Uname, .str x1.Gname, .int .i64 x1.Major, .int .i64 x1.Minor, .int .i64 x1.Time.Sec, .int .i64 x1.Time.Nsec, vs e_S_api_Pair x1.Extra, .str x1.Data]) (ds := [.str x1.Name, .str x1.Link, .int .u8 x1.Kind, .int .i64 x1.Mode, .int .i64 x1.Uid, .int .i64 x1.Gid, .str x1.Uname, .str x1.Gname, .int .i64 x1.Major, .int .i64 x1.Minor, .int .i64 x1.Time.Sec, .int .i64 x1.Time.Nsec, vs e_S_api_Pair x1.Extra, .str x1.Data]) (Nat.le_of_ble_eq_true rfl) rfl rfl
  replace A : HH g h5 [.obj h3.size (.cells none 2 (e_S_api_Member x1)), .obj h1.size (.cells none 2 (e_S_api_Member p1)), .obj h.size (.cells none 2 (e_S_api_Member p0))] F := A1
  refine at_step (v := .tuple []) (h1 := h5) [(3, .ptr (some (h1.size, 0))), (5, .ptr (some (h3.size, 0))), (13, vs e_S_api_Pair x2)] H (fun fr => by kernel_rfl) (fun fr => .of (s_stG (by kernel_rfl) (stG_st hx rfl))) ?_
  intro fr t H
  refine at_seg [(7, [])] [(3, .ptr (some (h1.size, 0))), (5, .ptr (some (h3.size, 0))), (6, vs e_S_api_Pair x2)] H (noU_all rfl) (fun fr => by kernel_rfl) ?_
  intro fr H
  refine at_nil ?_
  show AW cfg 51 g (right (right (bodyC cfg.P 51))) fr h5 _
  refine aw_seq (by kernel_rfl) ?_
  refine aw_reg (id := 2) (n := 8) [(0, []), (1, []), (2, []), (3, []), (4, []), (5, []), (6, []), (7, [])] (by kernel_rfl) (by kernel_rfl) ?_
  refine at_step (v := .agg (e_S_api_Member p1)) (h1 := h5) [(5, .ptr (some (h3.size, 0))), (6, vs e_S_api_Pair x2), (15, .agg (e_S_api_Member p1))] H (fun fr => by kernel_rfl) (fun fr => .of (s_ldA (by kernel_rfl) (A.ldA 1 rfl (o := 0) (n := 14) ⟨Nat.le_of_ble_eq_true rfl, rfl⟩))) ?_
  intro fr t H
  have A1 := A.cut 0
  obtain ⟨⟨x3, x4⟩, hx, hm⟩ := bind_some hm
  obtain ⟨v1, h6, hr, rfl, A1⟩ := ok_archive_bare (av := [.agg (e_S_api_Member p1)]) hx (by kernel_rfl) A1
  replace A : HH g h6 [.obj h3.size (.cells none 2 (e_S_api_Member x1)), .obj h1.size (.cells none 2 (e_S_api_Member p1)), .obj h.size (.cells none 2 (e_S_api_Member p0))] F := A.glue0 (n := 0) A1
  refine at_step (v := .tuple [.agg (e_S_api_Member x3), vs e_S_api_Pair x4]) (h1 := h6) [(5, .ptr (some (h3.size, 0))), (6, vs e_S_api_Pair x2), (16, .tuple [.agg (e_S_api_Member x3), vs e_S_api_Pair x4])] H (fun fr => by kernel_rfl) (fun fr => Steps.call (by kernel_rfl) hr) ?_
  intro fr t H
  refine at_seg [(2, []), (3, []), (4, [])] [(5, .ptr (some (h3.size, 0))), (6, vs e_S_api_Pair x2), (17, .agg (e_S_api_Member x3)), (18, vs e_S_api_Pair x4)] H (noU_all rfl) (fun fr => by kernel_rfl) ?_
  intro fr H
  obtain ⟨h7, e4⟩ : ∃ x, x = h6.push (.cells none 2 [.str ([] : List UInt8), .str ([] : List UInt8), .int .u8 (0 : Int), .int .i64 (0 : Int), .int .i64 (0 : Int), .int .i64 (0 : Int), .str ([] : List UInt8), .str ([] : List UInt8), .int .i64 (0 : Int), .int .i64 (0 : Int), .int .i64 (0 : Int), .int .i64 (0 : Int), .slice none 0, .str ([] : List UInt8)]) := ⟨_, rfl⟩
  replace A := (A.push _).to e4
  refine at_step (v := .ptr (some (h6.size, 0))) (h1 := h7) [(5, .ptr (some (h3.size, 0))), (6, vs e_S_api_Pair x2), (7, .ptr (some (h6.size, 0))), (17, .agg (e_S_api_Member x3)), (18, vs e_S_api_Pair x4)] H (fun fr => by kernel_rfl) (fun fr => .of (s_n' (by kernel_rfl) (congrArg some e4.symm))) ?_
  intro fr t H
  obtain ⟨h8, hx, A1⟩ := A.st 0 rfl (o := 0) (new := [.str x3.Name, .str x3.Link, .int .u8 x3.Kind, .int .i64 x3.Mode, .int .i64 x3.Uid, .int .i64 x3.Gid, .str x3.Uname, .str x3.Gname, .int .i64 x3.Major, .int .i64 x3.Minor, .int .i64 x3.Time.Sec, .int .i64 x3.Time.Nsec, vs e_S_api_Pair x3.Extra, .str x3.Data]) (ds := [.str x3.Name, .str x3.Link, .int .u8 x3.Kind, .int .i64 x3.Mode, .int .i64 x3.Uid, .int .i64 x3.Gid, .str x3.Uname, .str x3.Gname, .int .i64 x3.Major, .int .i64 x3.Minor, .int .i64 x3.Time.Sec, .int .i64 x3.Time.Nsec, vs e_S_api_Pair x3.Extra, .str x3.Data]) (Nat.le_of_ble_eq_true rfl) rfl rfl
  replace A : HH g h8 [.obj h6.size (.cells none 2 (e_S_api_Member x3)), .obj h3.size (.cells none 2 (e_S_api_Member x1)), .obj h1.size (.cells none 2 (e_S_api_Member p1)), .obj h.size (.cells none 2 (e_S_api_Member p0))] F := A1
  refine at_step (v := .tuple []) (h1 := h8) [(5, .ptr (some (h3.size, 0))), (6, vs e_S_api_Pair x2), (7, .ptr (some (h6.size, 0))), (18, vs e_S_api_Pair x4)] H (fun fr => by kernel_rfl) (fun fr => .of (s_stG (by kernel_rfl) (stG_st hx rfl))) ?_
  intro fr t H
  refine at_seg [(7, [])] [(5, .ptr (some (h3.size, 0))), (6, vs e_S_api_Pair x2), (7, .ptr (some (h6.size, 0))), (8, vs e_S_api_Pair x4)] H (noU_all rfl) (fun fr => by kernel_rfl) ?_
  intro fr H
  refine at_nil ?_
  show AW cfg 51 g (right (right (right (bodyC cfg.P 51)))) fr h8 _
  refine aw_seq (by kernel_rfl) ?_
  refine aw_reg (id := 3) (n := 88) [(0, []), (1, []), (2, []), (3, []), (4, []), (5, []), (6, []), (7, []), (8, []), (9, []), (10, []), (11, []), (12, []), (13, []), (14, []), (15, []), (16, []), (17, []), (18, []), (19, []), (20, []), (21, []), (22, []), (23, []), (24, []), (25, []), (26, []), (27, []), (28, []), (29, []), (30, []), (31, []), (32, []), (33, []), (34, []), (35, []), (36, []), (37, []), (38, []), (39, []), (40, []), (41, []), (42, []), (43, []), (44, []), (45, []), (46, []), (47, []), (48, []), (49, []), (50, []), (51, []), (52, []), (53, []), (54, []), (55, []), (56, []), (57, []), (58, []), (59, []), (60, []), (61, []), (62, []), (63, []), (64, []), (65, []), (66, []), (67, []), (68, []), (69, []), (70, []), (71, []), (72, []), (73, []), (74, []), (75, []), (76, []), (77, []), (78, []), (79, []), (80, []), (81, []), (82, []), (83, []), (84, []), (85, []), (86, []), (87, [])] (by kernel_rfl) (by kernel_rfl) ?_
  refine at_seg [(0, []), (1, [])] [(5, .ptr (some (h3.size, 0))), (7, .ptr (some (h6.size, 0))), (19, vs e_S_api_Pair x2), (20, vs e_S_api_Pair x4)] H (noU_all rfl) (fun fr => by kernel_rfl) ?_
  intro fr H
  have A1 := A.cut 0
  obtain ⟨x5, hx, hm⟩ := bind_some hm
  obtain ⟨v1, h9, hr, rfl, A1⟩ := ok_slices_Equal_boulter_api_Pair_boulter_api_Pair (av := [vs e_S_api_Pair x2, vs e_S_api_Pair x4]) hx (by kernel_rfl) A1
  replace A : HH g h9 [.obj h6.size (.cells none 2 (e_S_api_Member x3)), .obj h3.size (.cells none 2 (e_S_api_Member x1)), .obj h1.size (.cells none 2 (e_S_api_Member p1)), .obj h.size (.cells none 2 (e_S_api_Member p0))] F := A.glue0 (n := 0) A1
  refine at_step (v := .bool x5) (h1 := h9) [(5, .ptr (some (h3.size, 0))), (7, .ptr (some (h6.size, 0))), (21, .bool x5)] H (fun fr => by kernel_rfl) (fun fr => Steps.call (by kernel_rfl) hr) ?_
  intro fr t H
  refine at_seg [(3, [])] [(5, .ptr (some (h3.size, 0))), (7, .ptr (some (h6.size, 0))), (22, .bool x5)] H (noU_all rfl) (fun fr => by kernel_rfl) ?_
  intro fr H
  refine at_cut [(4, []), (5, []), (6, []), (7, []), (8, []), (9, [])] (fun fr' h' => h9 = h' ∧ Has fr' 106 [(5, .ptr (some (h3.size, 0))), (7, .ptr (some (h6.size, 0))), (28, .bool (x5 && (x1.Name == x3.Name)))]) ?_ ?_
  · cases hb : (x5 : Bool) with
    | true =>
      replace H := H.know 22 hb (by kernel_rfl)
      refine at_seg [(4, [])] [(5, .ptr (some (h3.size, 0))), (7, .ptr (some (h6.size, 0))), (22, .bool true), (23, .ptr (some (h3.size, 0)))] H (noU_all rfl) (fun fr => by kernel_rfl) ?_
      intro fr H
      refine at_step (v := .str x1.Name) (h1 := h9) [(5, .ptr (some (h3.size, 0))), (7, .ptr (some (h6.size, 0))), (22, .bool true), (24, .str x1.Name)] H (fun fr => by kernel_rfl) (fun fr => .of (s_ld (by kernel_rfl) (A.ld1 1 rfl (o := 0) rfl))) ?_
      intro fr t H
      refine at_seg [(6, [])] [(5, .ptr (some (h3.size, 0))), (7, .ptr (some (h6.size, 0))), (22, .bool true), (24, .str x1.Name), (25, .ptr (some (h6.size, 0)))] H (noU_all rfl) (fun fr => by kernel_rfl) ?_
      intro fr H
      refine at_step (v := .str x3.Name) (h1 := h9) [(5, .ptr (some (h3.size, 0))), (7, .ptr (some (h6.size, 0))), (22, .bool true), (24, .str x1.Name), (26, .str x3.Name)] H (fun fr => by kernel_rfl) (fun fr => .of (s_ld (by kernel_rfl) (A.ld1 0 rfl (o := 0) rfl))) ?_
      intro fr t H
      refine at_seg [(8, []), (9, [])] [(5, .ptr (some (h3.size, 0))), (7, .ptr (some (h6.size, 0))), (28, .bool (x1.Name == x3.Name))] H (noU_all rfl) (fun fr => by kernel_rfl) ?_
      intro fr H
      exact at_nil ⟨rfl, by first | exact H.less _ (fun fr => by rfl) | exact H.less _ (fun fr => by rw [hb]; rfl)⟩
    | false =>
      replace H := H.know 22 hb (by kernel_rfl)
      refine at_seg [(4, []), (5, []), (6, []), (7, []), (8, []), (9, [])] [(5, .ptr (some (h3.size, 0))), (7, .ptr (some (h6.size, 0))), (28, .bool false)] H (noU_all rfl) (fun fr => by kernel_rfl) ?_
      intro fr H
      exact at_nil ⟨rfl, by first | exact H.less _ (fun fr => by rfl) | exact H.less _ (fun fr => by rw [hb]; rfl)⟩
  · intro t fr h' hK
    obtain ⟨e, H⟩ := hK
    subst e
    refine at_seg [(10, [])] [(5, .ptr (some (h3.size, 0))), (7, .ptr (some (h6.size, 0))), (29, .bool (x5 && (x1.Name == x3.Name)))] H (noU_all rfl) (fun fr => by kernel_rfl) ?_
    intro fr H
    refine at_cut [(11, []), (12, []), (13, []), (14, []), (15, []), (16, [])] (fun fr' h' => h9 = h' ∧ Has fr' 106 [(5, .ptr (some (h3.size, 0))), (7, .ptr (some (h6.size, 0))), (35, .bool ((x5 && (x1.Name == x3.Name)) && (x1.Link == x3.Link)))]) ?_ ?_
    · cases hb : (x5 && (x1.Name == x3.Name) : Bool) with
      | true =>
        replace H := H.know 29 hb (by kernel_rfl)
        refine at_seg [(11, [])] [(5, .ptr (some (h3.size, 0))), (7, .ptr (some (h6.size, 0))), (29, .bool true), (30, .ptr (some (h3.size, 1)))] H (noU_all rfl) (fun fr => by kernel_rfl) ?_
        intro fr H
        refine at_step (v := .str x1.Link) (h1 := h9) [(5, .ptr (some (h3.size, 0))), (7, .ptr (some (h6.size, 0))), (29, .bool true), (31, .str x1.Link)] H (fun fr => by kernel_rfl) (fun fr => .of (s_ld (by kernel_rfl) (A.ld1 1 rfl (o := 1) rfl))) ?_
        intro fr t H
        refine at_seg [(13, [])] [(5, .ptr (some (h3.size, 0))), (7, .ptr (some (h6.size, 0))), (29, .bool true), (31, .str x1.Link), (32, .ptr (some (h6.size, 1)))] H (noU_all rfl) (fun fr => by kernel_rfl) ?_
        intro fr H
        refine at_step (v := .str x3.Link) (h1 := h9) [(5, .ptr (some (h3.size, 0))), (7, .ptr (some (h6.size, 0))), (29, .bool true), (31, .str x1.Link), (33, .str x3.Link)] H (fun fr => by kernel_rfl) (fun fr => .of (s_ld (by kernel_rfl) (A.ld1 0 rfl (o := 1) rfl))) ?_
        intro fr t H
        refine at_seg [(15, []), (16, [])] [(5, .ptr (some (h3.size, 0))), (7, .ptr (some (h6.size, 0))), (35, .bool (x1.Link == x3.Link))] H (noU_all rfl) (fun fr => by kernel_rfl) ?_
        intro fr H
        exact at_nil ⟨rfl, by first | exact H.less _ (fun fr => by rfl) | exact H.less _ (fun fr => by rw [hb]; rfl)⟩
      | false =>
        replace H := H.know 29 hb (by kernel_rfl)
        refine at_seg [(11, []), (12, []), (13, []), (14, []), (15, []), (16, [])] [(5, .ptr (some (h3.size, 0))), (7, .ptr (some (h6.size, 0))), (35, .bool false)] H (noU_all rfl) (fun fr => by kernel_rfl) ?_
        intro fr H
        exact at_nil ⟨rfl, by first | exact H.less _ (fun fr => by rfl) | exact H.less _ (fun fr => by rw [hb]; rfl)⟩
    · intro t fr h' hK
      obtain ⟨e, H⟩ := hK
      subst e
      refine at_seg [(17, [])] [(5, .ptr (some (h3.size, 0))), (7, .ptr (some (h6.size, 0))), (36, .bool ((x5 && (x1.Name == x3.Name)) && (x1.Link == x3.Link)))] H (noU_all rfl) (fun fr => by kernel_rfl) ?_
      intro fr H
      refine at_cut [(18, []), (19, []), (20, []), (21, []), (22, []), (23, [])] (fun fr' h' => h9 = h' ∧ Has fr' 106 [(5, .ptr (some (h3.size, 0))), (7, .ptr (some (h6.size, 0))), (42, .bool (((x5 && (x1.Name == x3.Name)) && (x1.Link == x3.Link)) && (x1.Kind == x3.Kind)))]) ?_ ?_
      · cases hb : ((x5 && (x1.Name == x3.Name)) && (x1.Link == x3.Link) : Bool) with
        | true =>
          replace H := H.know 36 hb (by kernel_rfl)
          refine at_seg [(18, [])] [(5, .ptr (some (h3.size, 0))), (7, .ptr (some (h6.size, 0))), (36, .bool true), (37, .ptr (some (h3.size, 2)))] H (noU_all rfl) (fun fr => by kernel_rfl) ?_
          intro fr H
          refine at_step (v := .int .u8 x1.Kind) (h1 := h9) [(5, .ptr (some (h3.size, 0))), (7, .ptr (some (h6.size, 0))), (36, .bool true), (38, .int .u8 x1.Kind)] H (fun fr => by kernel_rfl) (fun fr => .of (s_ld (by kernel_rfl) (A.ld1 1 rfl (o := 2) rfl))) ?_
          intro fr t H
          refine at_seg [(20, [])] [(5, .ptr (some (h3.size, 0))), (7, .ptr (some (h6.size, 0))), (36, .bool true), (38, .int .u8 x1.Kind), (39, .ptr (some (h6.size, 2)))] H (noU_all rfl) (fun fr => by kernel_rfl) ?_
          intro fr H
          refine at_step (v := .int .u8 x3.Kind) (h1 := h9) [(5, .ptr (some (h3.size, 0))), (7, .ptr (some (h6.size, 0))), (36, .bool true), (38, .int .u8 x1.Kind), (40, .int .u8 x3.Kind)] H (fun fr => by kernel_rfl) (fun fr => .of (s_ld (by kernel_rfl) (A.ld1 0 rfl (o := 2) rfl))) ?_
          intro fr t H
          refine at_seg [(22, []), (23, [])] [(5, .ptr (some (h3.size, 0))), (7, .ptr (some (h6.size, 0))), (42, .bool (x1.Kind == x3.Kind))] H (noU_all rfl) (fun fr => by kernel_rfl) ?_
          intro fr H
          exact at_nil ⟨rfl, by first | exact H.less _ (fun fr => by rfl) | exact H.less _ (fun fr => by rw [hb]; rfl)⟩
        | false =>
          replace H := H.know 36 hb (by kernel_rfl)
          refine at_seg [(18, []), (19, []), (20, []), (21, []), (22, []), (23, [])] [(5, .ptr (some (h3.size, 0))), (7, .ptr (some (h6.size, 0))), (42, .bool false)] H (noU_all rfl) (fun fr => by kernel_rfl) ?_
          intro fr H
          exact at_nil ⟨rfl, by first | exact H.less _ (fun fr => by rfl) | exact H.less _ (fun fr => by rw [hb]; rfl)⟩
      · intro t fr h' hK
        obtain ⟨e, H⟩ := hK
        subst e
        refine at_seg [(24, [])] [(5, .ptr (some (h3.size, 0))), (7, .ptr (some (h6.size, 0))), (43, .bool (((x5 && (x1.Name == x3.Name)) && (x1.Link == x3.Link)) && (x1.Kind == x3.Kind)))] H (noU_all rfl) (fun fr => by kernel_rfl) ?_
        intro fr H
        refine at_cut [(25, []), (26, []), (27, []), (28, []), (29, []), (30, [])] (fun fr' h' => h9 = h' ∧ Has fr' 106 [(5, .ptr (some (h3.size, 0))), (7, .ptr (some (h6.size, 0))), (49, .bool ((((x5 && (x1.Name == x3.Name)) && (x1.Link == x3.Link)) && (x1.Kind == x3.Kind)) && (x1.Mode == x3.Mode)))]) ?_ ?_
        · cases hb : (((x5 && (x1.Name == x3.Name)) && (x1.Link == x3.Link)) && (x1.Kind == x3.Kind) : Bool) with
          | true =>
            replace H := H.know 43 hb (by kernel_rfl)
            refine at_seg [(25, [])] [(5, .ptr (some (h3.size, 0))), (7, .ptr (some (h6.size, 0))), (43, .bool true), (44, .ptr (some (h3.size, 3)))] H (noU_all rfl) (fun fr => by kernel_rfl) ?_
            intro fr H
            refine at_step (v := .int .i64 x1.Mode) (h1 := h9) [(5, .ptr (some (h3.size, 0))), (7, .ptr (some (h6.size, 0))), (43, .bool true), (45, .int .i64 x1.Mode)] H (fun fr => by kernel_rfl) (fun fr => .of (s_ld (by kernel_rfl) (A.ld1 1 rfl (o := 3) rfl))) ?_
            intro fr t H
            refine at_seg [(27, [])] [(5, .ptr (some (h3.size, 0))), (7, .ptr (some (h6.size, 0))), (43, .bool true), (45, .int .i64 x1.Mode), (46, .ptr (some (h6.size, 3)))] H (noU_all rfl) (fun fr => by kernel_rfl) ?_
            intro fr H
            refine at_step (v := .int .i64 x3.Mode) (h1 := h9) [(5, .ptr (some (h3.size, 0))), (7, .ptr (some (h6.size, 0))), (43, .bool true), (45, .int .i64 x1.Mode), (47, .int .i64 x3.Mode)] H (fun fr => by kernel_rfl) (fun fr => .of (s_ld (by kernel_rfl) (A.ld1 0 rfl (o := 3) rfl))) ?_
            intro fr t H
            refine at_seg [(29, []), (30, [])] [(5, .ptr (some (h3.size, 0))), (7, .ptr (some (h6.size, 0))), (49, .bool (x1.Mode == x3.Mode))] H (noU_all rfl) (fun fr => by kernel_rfl) ?_
            intro fr H
            exact at_nil ⟨rfl, by first | exact H.less _ (fun fr => by rfl) | exact H.less _ (fun fr => by rw [hb]; rfl)⟩
          | false =>
            replace H := H.know 43 hb (by kernel_rfl)
            refine at_seg [(25, []), (26, []), (27, []), (28, []), (29, []), (30, [])] [(5, .ptr (some (h3.size, 0))), (7, .ptr (some (h6.size, 0))), (49, .bool false)] H (noU_all rfl) (fun fr => by kernel_rfl) ?_
            intro fr H
            exact at_nil ⟨rfl, by first | exact H.less _ (fun fr => by rfl) | exact H.less _ (fun fr => by rw [hb]; rfl)⟩
        · intro t fr h' hK
          obtain ⟨e, H⟩ := hK
          subst e
          refine at_seg [(31, [])] [(5, .ptr (some (h3.size, 0))), (7, .ptr (some (h6.size, 0))), (50, .bool ((((x5 && (x1.Name == x3.Name)) && (x1.Link == x3.Link)) && (x1.Kind == x3.Kind)) && (x1.Mode == x3.Mode)))] H (noU_all rfl) (fun fr => by kernel_rfl) ?_
          intro fr H
          refine at_cut [(32, []), (33, []), (34, []), (35, []), (36, []), (37, [])] (fun fr' h' => h9 = h' ∧ Has fr' 106 [(5, .ptr (some (h3.size, 0))), (7, .ptr (some (h6.size, 0))), (56, .bool (((((x5 && (x1.Name == x3.Name)) && (x1.Link == x3.Link)) && (x1.Kind == x3.Kind)) && (x1.Mode == x3.Mode)) && (x1.Uid == x3.Uid)))]) ?_ ?_
          · cases hb : ((((x5 && (x1.Name == x3.Name)) && (x1.Link == x3.Link)) && (x1.Kind == x3.Kind)) && (x1.Mode == x3.Mode) : Bool) with
            | true =>
              replace H := H.know 50 hb (by kernel_rfl)
              refine at_seg [(32, [])] [(5, .ptr (some (h3.size, 0))), (7, .ptr (some (h6.size, 0))), (50, .bool true), (51, .ptr (some (h3.size, 4)))] H (noU_all rfl) (fun fr => by kernel_rfl) ?_
              intro fr H
              refine at_step (v := .int .i64 x1.Uid) (h1 := h9) [(5, .ptr (some (h3.size, 0))), (7, .ptr (some (h6.size, 0))), (50, .bool true), (52, .int .i64 x1.Uid)] H (fun fr => by kernel_rfl) (fun fr => .of (s_ld (by kernel_rfl) (A.ld1 1 rfl (o := 4) rfl))) ?_
              intro fr t H
              refine at_seg [(34, [])] [(5, .ptr (some (h3.size, 0))), (7, .ptr (some (h6.size, 0))), (50, .bool true), (52, .int .i64 x1.Uid), (53, .ptr (some (h6.size, 4)))] H (noU_all rfl) (fun fr => by kernel_rfl) ?_
              intro fr H
              refine at_step (v := .int .i64 x3.Uid) (h1 := h9) [(5, .ptr (some (h3.size, 0))), (7, .ptr (some (h6.size, 0))), (50, .bool true), (52, .int .i64 x1.Uid), (54, .int .i64 x3.Uid)] H (fun fr => by kernel_rfl) (fun fr => .of (s_ld (by kernel_rfl) (A.ld1 0 rfl (o := 4) rfl))) ?_
              intro fr t H
              refine at_seg [(36, []), (37, [])] [(5, .ptr (some (h3.size, 0))), (7, .ptr (some (h6.size, 0))), (56, .bool (x1.Uid == x3.Uid))] H (noU_all rfl) (fun fr => by kernel_rfl) ?_
              intro fr H
              exact at_nil ⟨rfl, by first | exact H.less _ (fun fr => by rfl) | exact H.less _ (fun fr => by rw [hb]; rfl)⟩
            | false =>
              replace H := H.know 50 hb (by kernel_rfl)
              refine at_seg [(32, []), (33, []), (34, []), (35, []), (36, []), (37, [])] [(5, .ptr (some (h3.size, 0))), (7, .ptr (some (h6.size, 0))), (56, .bool false)] H (noU_all rfl) (fun fr => by kernel_rfl) ?_
              intro fr H
              exact at_nil ⟨rfl, by first | exact H.less _ (fun fr => by rfl) | exact H.less _ (fun fr => by rw [hb]; rfl)⟩
          · intro t fr h' hK
            obtain ⟨e, H⟩ := hK
            subst e
            refine at_seg [(38, [])] [(5, .ptr (some (h3.size, 0))), (7, .ptr (some (h6.size, 0))), (57, .bool (((((x5 && (x1.Name == x3.Name)) && (x1.Link == x3.Link)) && (x1.Kind == x3.Kind)) && (x1.Mode == x3.Mode)) && (x1.Uid == x3.Uid)))] H (noU_all rfl) (fun fr => by kernel_rfl) ?_
            intro fr H
            refine at_cut [(39, []), (40, []), (41, []), (42, []), (43, []), (44, [])] (fun fr' h' => h9 = h' ∧ Has fr' 106 [(5, .ptr (some (h3.size, 0))), (7, .ptr (some (h6.size, 0))), (63, .bool ((((((x5 && (x1.Name == x3.Name)) && (x1.Link == x3.Link)) && (x1.Kind == x3.Kind)) && (x1.Mode == x3.Mode)) && (x1.Uid == x3.Uid)) && (x1.Gid == x3.Gid)))]) ?_ ?_
            · cases hb : (((((x5 && (x1.Name == x3.Name)) && (x1.Link == x3.Link)) && (x1.Kind == x3.Kind)) && (x1.Mode == x3.Mode)) && (x1.Uid == x3.Uid) : Bool) with
              | true =>
                replace H := H.know 57 hb (by kernel_rfl)
                refine at_seg [(39, [])] [(5, .ptr (some (h3.size, 0))), (7, .ptr (some (h6.size, 0))), (57, .bool true), (58, .ptr (some (h3.size, 5)))] H (noU_all rfl) (fun fr => by kernel_rfl) ?_
                intro fr H
                refine at_step (v := .int .i64 x1.Gid) (h1 := h9) [(5, .ptr (some (h3.size, 0))), (7, .ptr (some (h6.size, 0))), (57, .bool true), (59, .int .i64 x1.Gid)] H (fun fr => by kernel_rfl) (fun fr => .of (s_ld (by kernel_rfl) (A.ld1 1 rfl (o := 5) rfl))) ?_
                intro fr t H
                refine at_seg [(41, [])] [(5, .ptr (some (h3.size, 0))), (7, .ptr (some (h6.size, 0))), (57, .bool true), (59, .int .i64 x1.Gid), (60, .ptr (some (h6.size, 5)))] H (noU_all rfl) (fun fr => by kernel_rfl) ?_
                intro fr H
                refine at_step (v := .int .i64 x3.Gid) (h1 := h9) [(5, .ptr (some (h3.size, 0))), (7, .ptr (some (h6.size, 0))), (57, .bool true), (59, .int .i64 x1.Gid), (61, .int .i64 x3.Gid)] H (fun fr => by kernel_rfl) (fun fr => .of (s_ld (by kernel_rfl) (A.ld1 0 rfl (o := 5) rfl))) ?_
                intro fr t H
                refine at_seg [(43, []), (44, [])] [(5, .ptr (some (h3.size, 0))), (7, .ptr (some (h6.size, 0))), (63, .bool (x1.Gid == x3.Gid))] H (noU_all rfl) (fun fr => by kernel_rfl) ?_
                intro fr H
                exact at_nil ⟨rfl, by first | exact H.less _ (fun fr => by rfl) | exact H.less _ (fun fr => by rw [hb]; rfl)⟩
              | false =>
                replace H := H.know 57 hb (by kernel_rfl)
                refine at_seg [(39, []), (40, []), (41, []), (42, []), (43, []), (44, [])] [(5, .ptr (some (h3.size, 0))), (7, .ptr (some (h6.size, 0))), (63, .bool false)] H (noU_all rfl) (fun fr => by kernel_rfl) ?_
                intro fr H
                exact at_nil ⟨rfl, by first | exact H.less _ (fun fr => by rfl) | exact H.less _ (fun fr => by rw [hb]; rfl)⟩
            · intro t fr h' hK
              obtain ⟨e, H⟩ := hK
              subst e
              refine at_seg [(45, [])] [(5, .ptr (some (h3.size, 0))), (7, .ptr (some (h6.size, 0))), (64, .bool ((((((x5 && (x1.Name == x3.Name)) && (x1.Link == x3.Link)) && (x1.Kind == x3.Kind)) && (x1.Mode == x3.Mode)) && (x1.Uid == x3.Uid)) && (x1.Gid == x3.Gid)))] H (noU_all rfl) (fun fr => by kernel_rfl) ?_
              intro fr H
              refine at_cut [(46, []), (47, []), (48, []), (49, []), (50, []), (51, [])] (fun fr' h' => h9 = h' ∧ Has fr' 106 [(5, .ptr (some (h3.size, 0))), (7, .ptr (some (h6.size, 0))), (70, .bool (((((((x5 && (x1.Name == x3.Name)) && (x1.Link == x3.Link)) && (x1.Kind == x3.Kind)) && (x1.Mode == x3.Mode)) && (x1.Uid == x3.Uid)) && (x1.Gid == x3.Gid)) && (x1.Uname == x3.Uname)))]) ?_ ?_
              · cases hb : ((((((x5 && (x1.Name == x3.Name)) && (x1.Link == x3.Link)) && (x1.Kind == x3.Kind)) && (x1.Mode == x3.Mode)) && (x1.Uid == x3.Uid)) && (x1.Gid == x3.Gid) : Bool) with
                | true =>
                  replace H := H.know 64 hb (by kernel_rfl)
                  refine at_seg [(46, [])] [(5, .ptr (some (h3.size, 0))), (7, .ptr (some (h6.size, 0))), (64, .bool true), (65, .ptr (some (h3.size, 6)))] H (noU_all rfl) (fun fr => by kernel_rfl) ?_
                  intro fr H
                  refine at_step (v := .str x1.Uname) (h1 := h9) [(5, .ptr (some (h3.size, 0))), (7, .ptr (some (h6.size, 0))), (64, .bool true), (66, .str x1.Uname)] H (fun fr => by kernel_rfl) (fun fr => .of (s_ld (by kernel_rfl) (A.ld1 1 rfl (o := 6) rfl))) ?_
                  intro fr t H
                  refine at_seg [(48, [])] [(5, .ptr (some (h3.size, 0))), (7, .ptr (some (h6.size, 0))), (64, .bool true), (66, .str x1.Uname), (67, .ptr (some (h6.size, 6)))] H (noU_all rfl) (fun fr => by kernel_rfl) ?_
                  intro fr H
                  refine at_step (v := .str x3.Uname) (h1 := h9) [(5, .ptr (some (h3.size, 0))), (7, .ptr (some (h6.size, 0))), (64, .bool true), (66, .str x1.Uname), (68, .str x3.Uname)] H (fun fr => by kernel_rfl) (fun fr => .of (s_ld (by kernel_rfl) (A.ld1 0 rfl (o := 6) rfl))) ?_
                  intro fr t H
                  refine at_seg [(50, []), (51, [])] [(5, .ptr (some (h3.size, 0))), (7, .ptr (some (h6.size, 0))), (70, .bool (x1.Uname == x3.Uname))] H (noU_all rfl) (fun fr => by kernel_rfl) ?_
                  intro fr H
                  exact at_nil ⟨rfl, by first | exact H.less _ (fun fr => by rfl) | exact H.less _ (fun fr => by rw [hb]; rfl)⟩
                | false =>
                  replace H := H.know 64 hb (by kernel_rfl)
                  refine at_seg [(46, []), (47, []), (48, []), (49, []), (50, []), (51, [])] [(5, .ptr (some (h3.size, 0))), (7, .ptr (some (h6.size, 0))), (70, .bool false)] H (noU_all rfl) (fun fr => by kernel_rfl) ?_
                  intro fr H
                  exact at_nil ⟨rfl, by first | exact H.less _ (fun fr => by rfl) | exact H.less _ (fun fr => by rw [hb]; rfl)⟩
              · intro t fr h' hK
                obtain ⟨e, H⟩ := hK
                subst e
                refine at_seg [(52, [])] [(5, .ptr (some (h3.size, 0))), (7, .ptr (some (h6.size, 0))), (71, .bool (((((((x5 && (x1.Name == x3.Name)) && (x1.Link == x3.Link)) && (x1.Kind == x3.Kind)) && (x1.Mode == x3.Mode)) && (x1.Uid == x3.Uid)) && (x1.Gid == x3.Gid)) && (x1.Uname == x3.Uname)))] H (noU_all rfl) (fun fr => by kernel_rfl) ?_
                intro fr H
                refine at_cut [(53, []), (54, []), (55, []), (56, []), (57, []), (58, [])] (fun fr' h' => h9 = h' ∧ Has fr' 106 [(5, .ptr (some (h3.size, 0))), (7, .ptr (some (h6.size, 0))), (77, .bool ((((((((x5 && (x1.Name == x3.Name)) && (x1.Link == x3.Link)) && (x1.Kind == x3.Kind)) && (x1.Mode == x3.Mode)) && (x1.Uid == x3.Uid)) && (x1.Gid == x3.Gid)) && (x1.Uname == x3.Uname)) && (x1.Gname == x3.Gname)))]) ?_ ?_
                · cases hb : (((((((x5 && (x1.Name == x3.Name)) && (x1.Link == x3.Link)) && (x1.Kind == x3.Kind)) && (x1.Mode == x3.Mode)) && (x1.Uid == x3.Uid)) && (x1.Gid == x3.Gid)) && (x1.Uname == x3.Uname) : Bool) with
                  | true =>
                    replace H := H.know 71 hb (by kernel_rfl)
                    refine at_seg [(53, [])] [(5, .ptr (some (h3.size, 0))), (7, .ptr (some (h6.size, 0))), (71, .bool true), (72, .ptr (some (h3.size, 7)))] H (noU_all rfl) (fun fr => by kernel_rfl) ?_
                    intro fr H
                    refine at_step (v := .str x1.Gname) (h1 := h9) [(5, .ptr (some (h3.size, 0))), (7, .ptr (some (h6.size, 0))), (71, .bool true), (73, .str x1.Gname)] H (fun fr => by kernel_rfl) (fun fr => .of (s_ld (by kernel_rfl) (A.ld1 1 rfl (o := 7) rfl))) ?_
                    intro fr t H
                    refine at_seg [(55, [])] [(5, .ptr (some (h3.size, 0))), (7, .ptr (some (h6.size, 0))), (71, .bool true), (73, .str x1.Gname), (74, .ptr (some (h6.size, 7)))] H (noU_all rfl) (fun fr => by kernel_rfl) ?_
                    intro fr H
                    refine at_step (v := .str x3.Gname) (h1 := h9) [(5, .ptr (some (h3.size, 0))), (7, .ptr (some (h6.size, 0))), (71, .bool true), (73, .str x1.Gname), (75, .str x3.Gname)] H (fun fr => by kernel_rfl) (fun fr => .of (s_ld (by kernel_rfl) (A.ld1 0 rfl (o := 7) rfl))) ?_
                    intro fr t H
                    refine at_seg [(57, []), (58, [])] [(5, .ptr (some (h3.size, 0))), (7, .ptr (some (h6.size, 0))), (77, .bool (x1.Gname == x3.Gname))] H (noU_all rfl) (fun fr => by kernel_rfl) ?_
                    intro fr H
                    exact at_nil ⟨rfl, by first | exact H.less _ (fun fr => by rfl) | exact H.less _ (fun fr => by rw [hb]; rfl)⟩
                  | false =>
                    replace H := H.know 71 hb (by kernel_rfl)
                    refine at_seg [(53, []), (54, []), (55, []), (56, []), (57, []), (58, [])] [(5, .ptr (some (h3.size, 0))), (7, .ptr (some (h6.size, 0))), (77, .bool false)] H (noU_all rfl) (fun fr => by kernel_rfl) ?_
                    intro fr H
                    exact at_nil ⟨rfl, by first | exact H.less _ (fun fr => by rfl) | exact H.less _ (fun fr => by rw [hb]; rfl)⟩
                · intro t fr h' hK
                  obtain ⟨e, H⟩ := hK
                  subst e
                  refine at_seg [(59, [])] [(5, .ptr (some (h3.size, 0))), (7, .ptr (some (h6.size, 0))), (78, .bool ((((((((x5 && (x1.Name == x3.Name)) && (x1.Link == x3.Link)) && (x1.Kind == x3.Kind)) && (x1.Mode == x3.Mode)) && (x1.Uid == x3.Uid)) && (x1.Gid == x3.Gid)) && (x1.Uname == x3.Uname)) && (x1.Gname == x3.Gname)))] H (noU_all rfl) (fun fr => by kernel_rfl) ?_
                  intro fr H
                  refine at_cut [(60, []), (61, []), (62, []), (63, []), (64, []), (65, [])] (fun fr' h' => h9 = h' ∧ Has fr' 106 [(5, .ptr (some (h3.size, 0))), (7, .ptr (some (h6.size, 0))), (84, .bool (((((((((x5 && (x1.Name == x3.Name)) && (x1.Link == x3.Link)) && (x1.Kind == x3.Kind)) && (x1.Mode == x3.Mode)) && (x1.Uid == x3.Uid)) && (x1.Gid == x3.Gid)) && (x1.Uname == x3.Uname)) && (x1.Gname == x3.Gname)) && (x1.Major == x3.Major)))]) ?_ ?_
                  · cases hb : ((((((((x5 && (x1.Name == x3.Name)) && (x1.Link == x3.Link)) && (x1.Kind == x3.Kind)) && (x1.Mode == x3.Mode)) && (x1.Uid == x3.Uid)) && (x1.Gid == x3.Gid)) && (x1.Uname == x3.Uname)) && (x1.Gname == x3.Gname) : Bool) with
                    | true =>
                      replace H := H.know 78 hb (by kernel_rfl)
                      refine at_seg [(60, [])] [(5, .ptr (some (h3.size, 0))), (7, .ptr (some (h6.size, 0))), (78, .bool true), (79, .ptr (some (h3.size, 8)))] H (noU_all rfl) (fun fr => by kernel_rfl) ?_
                      intro fr H
                      refine at_step (v := .int .i64 x1.Major) (h1 := h9) [(5, .ptr (some (h3.size, 0))), (7, .ptr (some (h6.size, 0))), (78, .bool true), (80, .int .i64 x1.Major)] H (fun fr => by kernel_rfl) (fun fr => .of (s_ld (by kernel_rfl) (A.ld1 1 rfl (o := 8) rfl))) ?_
                      intro fr t H
                      refine at_seg [(62, [])] [(5, .ptr (some (h3.size, 0))), (7, .ptr (some (h6.size, 0))), (78, .bool true), (80, .int .i64 x1.Major), (81, .ptr (some (h6.size, 8)))] H (noU_all rfl) (fun fr => by kernel_rfl) ?_
                      intro fr H
                      refine at_step (v := .int .i64 x3.Major) (h1 := h9) [(5, .ptr (some (h3.size, 0))), (7, .ptr (some (h6.size, 0))), (78, .bool true), (80, .int .i64 x1.Major), (82, .int .i64 x3.Major)] H (fun fr => by kernel_rfl) (fun fr => .of (s_ld (by kernel_rfl) (A.ld1 0 rfl (o := 8) rfl))) ?_
                      intro fr t H
                      refine at_seg [(64, []), (65, [])] [(5, .ptr (some (h3.size, 0))), (7, .ptr (some (h6.size, 0))), (84, .bool (x1.Major == x3.Major))] H (noU_all rfl) (fun fr => by kernel_rfl) ?_
                      intro fr H
                      exact at_nil ⟨rfl, by first | exact H.less _ (fun fr => by rfl) | exact H.less _ (fun fr => by rw [hb]; rfl)⟩
                    | false =>
                      replace H := H.know 78 hb (by kernel_rfl)
                      refine at_seg [(60, []), (61, []), (62, []), (63, []), (64, []), (65, [])] [(5, .ptr (some (h3.size, 0))), (7, .ptr (some (h6.size, 0))), (84, .bool false)] H (noU_all rfl) (fun fr => by kernel_rfl) ?_
                      intro fr H
                      exact at_nil ⟨rfl, by first | exact H.less _ (fun fr => by rfl) | exact H.less _ (fun fr => by rw [hb]; rfl)⟩
                  · intro t fr h' hK
                    obtain ⟨e, H⟩ := hK
                    subst e
                    refine at_seg [(66, [])] [(5, .ptr (some (h3.size, 0))), (7, .ptr (some (h6.size, 0))), (85, .bool (((((((((x5 && (x1.Name == x3.Name)) && (x1.Link == x3.Link)) && (x1.Kind == x3.Kind)) && (x1.Mode == x3.Mode)) && (x1.Uid == x3.Uid)) && (x1.Gid == x3.Gid)) && (x1.Uname == x3.Uname)) && (x1.Gname == x3.Gname)) && (x1.Major == x3.Major)))] H (noU_all rfl) (fun fr => by kernel_rfl) ?_
                    intro fr H
                    refine at_cut [(67, []), (68, []), (69, []), (70, []), (71, []), (72, [])] (fun fr' h' => h9 = h' ∧ Has fr' 106 [(5, .ptr (some (h3.size, 0))), (7, .ptr (some (h6.size, 0))), (91, .bool ((((((((((x5 && (x1.Name == x3.Name)) && (x1.Link == x3.Link)) && (x1.Kind == x3.Kind)) && (x1.Mode == x3.Mode)) && (x1.Uid == x3.Uid)) && (x1.Gid == x3.Gid)) && (x1.Uname == x3.Uname)) && (x1.Gname == x3.Gname)) && (x1.Major == x3.Major)) && (x1.Minor == x3.Minor)))]) ?_ ?_
                    · cases hb : (((((((((x5 && (x1.Name == x3.Name)) && (x1.Link == x3.Link)) && (x1.Kind == x3.Kind)) && (x1.Mode == x3.Mode)) && (x1.Uid == x3.Uid)) && (x1.Gid == x3.Gid)) && (x1.Uname == x3.Uname)) && (x1.Gname == x3.Gname)) && (x1.Major == x3.Major) : Bool) with
                      | true =>
                        replace H := H.know 85 hb (by kernel_rfl)
                        refine at_seg [(67, [])] [(5, .ptr (some (h3.size, 0))), (7, .ptr (some (h6.size, 0))), (85, .bool true), (86, .ptr (some (h3.size, 9)))] H (noU_all rfl) (fun fr => by kernel_rfl) ?_
                        intro fr H
                        refine at_step (v := .int .i64 x1.Minor) (h1 := h9) [(5, .ptr (some (h3.size, 0))), (7, .ptr (some (h6.size, 0))), (85, .bool true), (87, .int .i64 x1.Minor)] H (fun fr => by kernel_rfl) (fun fr => .of (s_ld (by kernel_rfl) (A.ld1 1 rfl (o := 9) rfl))) ?_
                        intro fr t H
                        refine at_seg [(69, [])] [(5, .ptr (some (h3.size, 0))), (7, .ptr (some (h6.size, 0))), (85, .bool true), (87, .int .i64 x1.Minor), (88, .ptr (some (h6.size, 9)))] H (noU_all rfl) (fun fr => by kernel_rfl) ?_
                        intro fr H
                        refine at_step (v := .int .i64 x3.Minor) (h1 := h9) [(5, .ptr (some (h3.size, 0))), (7, .ptr (some (h6.size, 0))), (85, .bool true), (87, .int .i64 x1.Minor), (89, .int .i64 x3.Minor)] H (fun fr => by kernel_rfl) (fun fr => .of (s_ld (by kernel_rfl) (A.ld1 0 rfl (o := 9) rfl))) ?_
                        intro fr t H
                        refine at_seg [(71, []), (72, [])] [(5, .ptr (some (h3.size, 0))), (7, .ptr (some (h6.size, 0))), (91, .bool (x1.Minor == x3.Minor))] H (noU_all rfl) (fun fr => by kernel_rfl) ?_
                        intro fr H
                        exact at_nil ⟨rfl, by first | exact H.less _ (fun fr => by rfl) | exact H.less _ (fun fr => by rw [hb]; rfl)⟩
                      | false =>
                        replace H := H.know 85 hb (by kernel_rfl)
                        refine at_seg [(67, []), (68, []), (69, []), (70, []), (71, []), (72, [])] [(5, .ptr (some (h3.size, 0))), (7, .ptr (some (h6.size, 0))), (91, .bool false)] H (noU_all rfl) (fun fr => by kernel_rfl) ?_
                        intro fr H
                        exact at_nil ⟨rfl, by first | exact H.less _ (fun fr => by rfl) | exact H.less _ (fun fr => by rw [hb]; rfl)⟩
                    · intro t fr h' hK
                      obtain ⟨e, H⟩ := hK
                      subst e
                      refine at_seg [(73, [])] [(5, .ptr (some (h3.size, 0))), (7, .ptr (some (h6.size, 0))), (92, .bool ((((((((((x5 && (x1.Name == x3.Name)) && (x1.Link == x3.Link)) && (x1.Kind == x3.Kind)) && (x1.Mode == x3.Mode)) && (x1.Uid == x3.Uid)) && (x1.Gid == x3.Gid)) && (x1.Uname == x3.Uname)) && (x1.Gname == x3.Gname)) && (x1.Major == x3.Major)) && (x1.Minor == x3.Minor)))] H (noU_all rfl) (fun fr => by kernel_rfl) ?_
                      intro fr H
                      obtain ⟨x6, ho, hm⟩ := bind_some hm
                      refine at_cut [(74, []), (75, []), (76, []), (77, []), (78, []), (79, [])] (fun fr' h' => Has fr' 106 [(5, .ptr (some (h3.size, 0))), (7, .ptr (some (h6.size, 0))), (98, .bool x6)] ∧ HH g h' [.obj h6.size (.cells none 2 (e_S_api_Member x3)), .obj h3.size (.cells none 2 (e_S_api_Member x1)), .obj h1.size (.cells none 2 (e_S_api_Member p1)), .obj h.size (.cells none 2 (e_S_api_Member p0))] F) ?_ ?_
                      · rcases iteB_some ho with ⟨hb, hm⟩ | ⟨hb, hm⟩
                        · replace H := H.know 92 hb (by kernel_rfl)
                          refine at_seg [(74, [])] [(5, .ptr (some (h3.size, 0))), (7, .ptr (some (h6.size, 0))), (92, .bool true), (93, .ptr (some (h3.size, 10)))] H (noU_all rfl) (fun fr => by kernel_rfl) ?_
                          intro fr H
                          refine at_step (v := .agg [.int .i64 x1.Time.Sec, .int .i64 x1.Time.Nsec]) (h1 := h9) [(5, .ptr (some (h3.size, 0))), (7, .ptr (some (h6.size, 0))), (92, .bool true), (94, .agg [.int .i64 x1.Time.Sec, .int .i64 x1.Time.Nsec])] H (fun fr => by kernel_rfl) (fun fr => .of (s_ldA (by kernel_rfl) (A.ldA 1 rfl (o := 10) (n := 2) ⟨Nat.le_of_ble_eq_true rfl, rfl⟩))) ?_
                          intro fr t H
                          refine at_seg [(76, [])] [(5, .ptr (some (h3.size, 0))), (7, .ptr (some (h6.size, 0))), (92, .bool true), (94, .agg [.int .i64 x1.Time.Sec, .int .i64 x1.Time.Nsec]), (95, .ptr (some (h6.size, 10)))] H (noU_all rfl) (fun fr => by kernel_rfl) ?_
                          intro fr H
                          refine at_step (v := .agg [.int .i64 x3.Time.Sec, .int .i64 x3.Time.Nsec]) (h1 := h9) [(5, .ptr (some (h3.size, 0))), (7, .ptr (some (h6.size, 0))), (92, .bool true), (94, .agg [.int .i64 x1.Time.Sec, .int .i64 x1.Time.Nsec]), (96, .agg [.int .i64 x3.Time.Sec, .int .i64 x3.Time.Nsec])] H (fun fr => by kernel_rfl) (fun fr => .of (s_ldA (by kernel_rfl) (A.ldA 0 rfl (o := 10) (n := 2) ⟨Nat.le_of_ble_eq_true rfl, rfl⟩))) ?_
                          intro fr t H
                          obtain ⟨x7, hx, hm⟩ := bind_some hm
                          refine at_step (v := .bool x7) (h1 := h9) [(5, .ptr (some (h3.size, 0))), (7, .ptr (some (h6.size, 0))), (92, .bool true), (97, .bool x7)] H (fun fr => by kernel_rfl) (fun fr => .of (s_eqG (by kernel_rfl) hx)) ?_
                          intro fr t H
                          refine at_seg [(79, [])] [(5, .ptr (some (h3.size, 0))), (7, .ptr (some (h6.size, 0))), (98, .bool x7)] H (noU_all rfl) (fun fr => by kernel_rfl) ?_
                          intro fr H
                          have e1 := Option.some.inj hm
                          subst e1
                          exact at_nil ⟨H.less _ (fun fr => by kernel_rfl), A⟩
                        · replace H := H.know 92 hb (by kernel_rfl)
                          refine at_seg [(74, []), (75, []), (76, []), (77, []), (78, []), (79, [])] [(5, .ptr (some (h3.size, 0))), (7, .ptr (some (h6.size, 0))), (98, .bool false)] H (noU_all rfl) (fun fr => by kernel_rfl) ?_
                          intro fr H
                          have e1 := Option.some.inj hm
                          subst e1
                          exact at_nil ⟨H.less _ (fun fr => by kernel_rfl), A⟩
                      · clear A
                        intro t fr h10 hK
                        obtain ⟨H, A⟩ := hK
                        refine at_seg [(80, [])] [(5, .ptr (some (h3.size, 0))), (7, .ptr (some (h6.size, 0))), (99, .bool x6)] H (noU_all rfl) (fun fr => by kernel_rfl) ?_
                        intro fr H
                        refine at_cut [(81, []), (82, []), (83, []), (84, []), (85, []), (86, [])] (fun fr' h' => h10 = h' ∧ Has fr' 106 [(105, .bool (x6 && (x1.Data == x3.Data)))]) ?_ ?_
                        · cases hb : (x6 : Bool) with
                          | true =>
                            replace H := H.know 99 hb (by kernel_rfl)
                            refine at_seg [(81, [])] [(7, .ptr (some (h6.size, 0))), (99, .bool true), (100, .ptr (some (h3.size, 13)))] H (noU_all rfl) (fun fr => by kernel_rfl) ?_
                            intro fr H
                            refine at_step (v := .str x1.Data) (h1 := h10) [(7, .ptr (some (h6.size, 0))), (99, .bool true), (101, .str x1.Data)] H (fun fr => by kernel_rfl) (fun fr => .of (s_ld (by kernel_rfl) (A.ld1 1 rfl (o := 13) rfl))) ?_
                            intro fr t H
                            refine at_seg [(83, [])] [(99, .bool true), (101, .str x1.Data), (102, .ptr (some (h6.size, 13)))] H (noU_all rfl) (fun fr => by kernel_rfl) ?_
                            intro fr H
                            refine at_step (v := .str x3.Data) (h1 := h10) [(99, .bool true), (101, .str x1.Data), (103, .str x3.Data)] H (fun fr => by kernel_rfl) (fun fr => .of (s_ld (by kernel_rfl) (A.ld1 0 rfl (o := 13) rfl))) ?_
                            intro fr t H
                            refine at_seg [(85, []), (86, [])] [(105, .bool (x1.Data == x3.Data))] H (noU_all rfl) (fun fr => by kernel_rfl) ?_
                            intro fr H
                            exact at_nil ⟨rfl, by first | exact H.less _ (fun fr => by rfl) | exact H.less _ (fun fr => by rw [hb]; rfl)⟩
                          | false =>
                            replace H := H.know 99 hb (by kernel_rfl)
                            refine at_seg [(81, []), (82, []), (83, []), (84, []), (85, []), (86, [])] [(105, .bool false)] H (noU_all rfl) (fun fr => by kernel_rfl) ?_
                            intro fr H
                            exact at_nil ⟨rfl, by first | exact H.less _ (fun fr => by rfl) | exact H.less _ (fun fr => by rw [hb]; rfl)⟩
                        · intro t fr h' hK
                          obtain ⟨e, H⟩ := hK
                          subst e
                          refine at_seg [(87, [])] [(4, .bool (x6 && (x1.Data == x3.Data)))] H (noU_all rfl) (fun fr => by kernel_rfl) ?_
                          intro fr H
                          refine at_nil ?_
                          show AW cfg 51 g (right (right (right (right (bodyC cfg.P 51))))) fr h10 _
                          refine aw_ret (by kernel_rfl) ?_
                          have e1 := Option.some.inj hm
                          subst e1
                          refine ⟨.inl rfl, .bool (x6 && (x1.Data == x3.Data)), resH H (fun fr => by kernel_rfl), ?_⟩
                          replace A : HH g h10 [] F := (HH.dropF A 0)
                          exact ⟨rfl, A⟩
/-! ### boulter/delta.Of -/
noncomputable def M_delta_Of_L0 (p0 : List S_api_Member) (p1 : List S_api_Member) (x2 : List ((List UInt8) × Int)) (s : (List (List UInt8)) × (List (List UInt8)) × (List ((List UInt8) × Int)) × Int) : Option (((List (List UInt8)) × (List (List UInt8)) × (List ((List UInt8) × Int)) × Int) ⊕ (((List (List UInt8)) × (List (List UInt8)) × (List ((List UInt8) × Int))))) :=
  match s with
  | (x3, x4, x5, x6) => iteB (decide (x6 < ((sortT (x2.map Prod.fst)).length : Int))) ((ixV (sortT (x2.map Prod.fst)) x6).bind fun x10 => (iteB (!((mfind x5 x10).isSome)) (need (okN 16 (x3.length + ([x10] : List (List UInt8)).length)) <| some ((x3 ++ ([x10] : List (List UInt8))), x4)) ((ixV p0 ((mfind x5 x10).getD (0 : Int))).bind fun x13 => (ixV p1 ((mfind x2 x10).getD (0 : Int))).bind fun x14 => (M_archive_Same x13 x14).bind fun x15 => iteB (!x15) (need (okN 16 (x4.length + ([x10] : List (List UInt8)).length)) <| some (x3, (x4 ++ ([x10] : List (List UInt8))))) (some (x3, x4))) : Option (((List (List UInt8)) × (List (List UInt8))))).bind fun (x11, x12) => some (.inl (x11, x12, (mdel x5 x10), IntKind.i64.wrap (x6 + (1 : Int))))) (some (.inr (x3, x4, x5)))
noncomputable def M_delta_Of (p0 : List S_api_Member) (p1 : List S_api_Member) : Option (S_delta_Diff) :=
 (M_delta_places p0).bind fun x1 => (M_delta_places p1).bind fun x2 => need (keysOk (x2.map Prod.fst)) <| (loop (M_delta_Of_L0 p0 p1 x2) (([] : List (List UInt8)), ([] : List (List UInt8)), x1, (0 : Int))).bind fun (x7, x8, x9) => need (keysOk (x9.map Prod.fst)) <| some (⟨x7, (sortT (x9.map Prod.fst)), x8⟩ : S_delta_Diff)
theorem ok_delta_Of {g : Gd} {h : AHeap} {F : List Ck} {p0 : List S_api_Member} {p1 : List S_api_Member} {q0 : S_delta_Diff} {av : List AVal} (hm : M_delta_Of p0 p1 = some q0) (hc : canL (cfg.still 25) av = [vs e_S_api_Member p0, vs e_S_api_Member p1]) (A : HH g h [] F) : ∃ v h', Runs cfg g h 25 av v h' ∧ v = .agg [vs eS q0.Added, vs eS q0.Removed, vs eS q0.Changed] ∧ HH g h' [] F := by
  refine runsQ7 (n := 66) (rs := [.cell 4 41]) (by kernel_rfl) hc (by kernel_rfl) ?_
  clear hc
  unfold M_delta_Of at hm
  refine start (n := 66) [(0, vs e_S_api_Member p0), (1, vs e_S_api_Member p1)] (by kernel_rfl) (by kernel_rfl) ?_
  intro fr H
  refine aw_seq (by kernel_rfl) ?_
  refine aw_reg (id := 0) (n := 1) [(0, [])] (by kernel_rfl) (by kernel_rfl) ?_
  obtain ⟨h1, e1⟩ : ∃ x, x = h.push (.cells none 2 [.slice none 0, .slice none 0, .slice none 0]) := ⟨_, rfl⟩
  replace A := (A.push _).to e1
  refine at_step (v := .ptr (some (h.size, 0))) (h1 := h1) [(0, vs e_S_api_Member p0), (1, vs e_S_api_Member p1), (4, .ptr (some (h.size, 0)))] H (fun fr => by kernel_rfl) (fun fr => .of (s_n' (by kernel_rfl) (congrArg some e1.symm))) ?_
  intro fr t H
  refine at_nil ?_
  show AW cfg 25 g (right (bodyC cfg.P 25)) fr h1 _
  refine aw_seq (by kernel_rfl) ?_
  refine aw_reg (id := 1) (n := 6) [(0, []), (1, []), (2, []), (3, []), (4, []), (5, [])] (by kernel_rfl) (by kernel_rfl) ?_
  refine at_seg [(0, [])] [(0, vs e_S_api_Member p0), (1, vs e_S_api_Member p1), (4, .ptr (some (h.size, 0))), (12, vs e_S_api_Member p0)] H (noU_all rfl) (fun fr => by kernel_rfl) ?_
  intro fr H
  have A1 := A.cut 0
  obtain ⟨x1, hx, hm⟩ := bind_some hm
  obtain ⟨v1, h2, hr, bqw1, rfl, A1⟩ := ok_delta_places (av := [vs e_S_api_Member p0]) hx (by kernel_rfl) A1
  replace A : HH g h2 [.obj bqw1 (.map 2 (encM (fun k : List UInt8 => .str k) (fun v : Int => .int .i64 v) x1)), .obj h.size (.cells none 2 [.slice none 0, .slice none 0, .slice none 0])] F := A.glue0 (n := 0) A1
  refine at_step (v := .map (some bqw1)) (h1 := h2) [(0, vs e_S_api_Member p0), (1, vs e_S_api_Member p1), (4, .ptr (some (h.size, 0))), (13, .map (some bqw1))] H (fun fr => by kernel_rfl) (fun fr => Steps.call (by kernel_rfl) hr) ?_
  intro fr t H
  refine at_seg [(2, [])] [(0, vs e_S_api_Member p0), (1, vs e_S_api_Member p1), (4, .ptr (some (h.size, 0))), (13, .map (some bqw1)), (14, vs e_S_api_Member p1)] H (noU_all rfl) (fun fr => by kernel_rfl) ?_
  intro fr H
  have A1 := A.cut 0
  obtain ⟨x2, hx, hm⟩ := bind_some hm
  obtain ⟨v1, h3, hr, bqw2, rfl, A1⟩ := ok_delta_places (av := [vs e_S_api_Member p1]) hx (by kernel_rfl) A1
  replace A : HH g h3 [.obj bqw2 (.map 2 (encM (fun k : List UInt8 => .str k) (fun v : Int => .int .i64 v) x2)), .obj bqw1 (.map 2 (encM (fun k : List UInt8 => .str k) (fun v : Int => .int .i64 v) x1)), .obj h.size (.cells none 2 [.slice none 0, .slice none 0, .slice none 0])] F := A.glue0 (n := 0) A1
  refine at_step (v := .map (some bqw2)) (h1 := h3) [(0, vs e_S_api_Member p0), (1, vs e_S_api_Member p1), (4, .ptr (some (h.size, 0))), (13, .map (some bqw1)), (15, .map (some bqw2))] H (fun fr => by kernel_rfl) (fun fr => Steps.call (by kernel_rfl) hr) ?_
  intro fr t H
  refine at_seg [(4, []), (5, [])] [(0, vs e_S_api_Member p0), (1, vs e_S_api_Member p1), (4, .ptr (some (h.size, 0))), (5, .map (some bqw1)), (6, .map (some bqw2))] H (noU_all rfl) (fun fr => by kernel_rfl) ?_
  intro fr H
  refine at_nil ?_
  show AW cfg 25 g (right (right (bodyC cfg.P 25))) fr h3 _
  refine aw_seq (by kernel_rfl) ?_
  refine aw_reg (id := 2) (n := 1) [(0, [])] (by kernel_rfl) (by kernel_rfl) ?_
  obtain ⟨h4, e2⟩ : ∃ x, x = h3.push (.cells none 2 [.slice none 0, .slice none 0, .slice none 0]) := ⟨_, rfl⟩
  replace A := (A.push _).to e2
  refine at_step (v := .ptr (some (h3.size, 0))) (h1 := h4) [(0, vs e_S_api_Member p0), (1, vs e_S_api_Member p1), (4, .ptr (some (h.size, 0))), (5, .map (some bqw1)), (6, .map (some bqw2)), (7, .ptr (some (h3.size, 0)))] H (fun fr => by kernel_rfl) (fun fr => .of (s_n' (by kernel_rfl) (congrArg some e2.symm))) ?_
  intro fr t H
  refine at_nil ?_
  show AW cfg 25 g (right (right (right (bodyC cfg.P 25)))) fr h4 _
  refine aw_seq (by kernel_rfl) ?_
  refine aw_seq (by kernel_rfl) ?_
  refine aw_reg (id := 3) (n := 5) [(0, []), (1, []), (2, []), (3, []), (4, [])] (by kernel_rfl) (by kernel_rfl) ?_
  refine at_seg [(0, [])] [(0, vs e_S_api_Member p0), (1, vs e_S_api_Member p1), (4, .ptr (some (h.size, 0))), (5, .map (some bqw1)), (6, .map (some bqw2)), (7, .ptr (some (h3.size, 0))), (16, .map (some bqw2))] H (noU_all rfl) (fun fr => by kernel_rfl) ?_
  intro fr H
  obtain ⟨h5, e3⟩ : ∃ x, x = h4.push (.cells none 2 [.map (some bqw2)]) := ⟨_, rfl⟩
  replace A := (A.push _).to e3
  have hr : ∀ g, Runs cfg g h4 50 [.map (some bqw2)] (.func (.func 70) [] [.ptr (some (h4.size, 0))]) h5 := fun g => by rw [e3]; exact ⟨2, by kernel_rfl⟩
  refine at_step (v := .func (.func 70) [] [.ptr (some (h4.size, 0))]) (h1 := h5) [(0, vs e_S_api_Member p0), (1, vs e_S_api_Member p1), (4, .ptr (some (h.size, 0))), (5, .map (some bqw1)), (6, .map (some bqw2)), (7, .ptr (some (h3.size, 0))), (17, .func (.func 70) [] [.ptr (some (h4.size, 0))])] H (fun fr => by kernel_rfl) (fun fr => Steps.call (by kernel_rfl) (hr _)) ?_
  intro fr t H
  replace A : HH g h5 [.obj h4.size (.cells none 2 [.map (some bqw2)]), .obj bqw2 (.map 2 (encM (fun k : List UInt8 => .str k) (fun v : Int => .int .i64 v) x2)), .obj h3.size (.cells none 2 [.slice none 0, .slice none 0, .slice none 0]), .obj bqw1 (.map 2 (encM (fun k : List UInt8 => .str k) (fun v : Int => .int .i64 v) x1)), .obj h.size (.cells none 2 [.slice none 0, .slice none 0, .slice none 0])] F := ((A.front 2 rfl).front 1 rfl)
  have A1 := A.cut 2
  obtain ⟨hb, hm⟩ := need_some hm
  obtain ⟨r1, h6, hr, A1⟩ := HH.sorted (C := cfg) (f := 49) (it := 70) (t := 9) (ev := fun v : Int => .int .i64 v) (m := x2) A1 (by kernel_rfl) (l := exts) rfl (by kernel_rfl) 0 1 rfl rfl hb
  replace A : HH g h6 [.lst r1 9 (lst eS (sortT (x2.map Prod.fst))), .obj h4.size (.cells none 2 [.map (some bqw2)]), .obj bqw2 (.map 2 (encM (fun k : List UInt8 => .str k) (fun v : Int => .int .i64 v) x2)), .obj h3.size (.cells none 2 [.slice none 0, .slice none 0, .slice none 0]), .obj bqw1 (.map 2 (encM (fun k : List UInt8 => .str k) (fun v : Int => .int .i64 v) x1)), .obj h.size (.cells none 2 [.slice none 0, .slice none 0, .slice none 0])] F := A.glue0 (n := 2) A1
  refine at_step (v := rowV r1 ((sortT (x2.map Prod.fst)).length)) (h1 := h6) [(0, vs e_S_api_Member p0), (1, vs e_S_api_Member p1), (4, .ptr (some (h.size, 0))), (5, .map (some bqw1)), (6, .map (some bqw2)), (7, .ptr (some (h3.size, 0))), (18, rowV r1 ((sortT (x2.map Prod.fst)).length))] H (fun fr => by kernel_rfl) (fun fr => Steps.call (by kernel_rfl) hr) ?_
  intro fr t H
  refine at_seg [(3, []), (4, [])] [(0, vs e_S_api_Member p0), (1, vs e_S_api_Member p1), (4, .ptr (some (h.size, 0))), (5, .map (some bqw1)), (6, .map (some bqw2)), (7, .ptr (some (h3.size, 0))), (18, rowV r1 ((sortT (x2.map Prod.fst)).length)), (19, .int .i64 ((sortT (x2.map Prod.fst)).length : Int)), (20, .int .i64 (0 : Int))] H (noU_all rfl) (fun fr => by kernel_rfl) ?_
  intro fr H
  refine at_nil ?_
  show AW cfg 25 g (right (left (right (right (right (bodyC cfg.P 25)))))) fr h6 _
  refine aw_block (id := 0) (by kernel_rfl) ?_
  replace A : HH g h6 [.lst none 9 (lst eS ([] : List (List UInt8))), .lst r1 9 (lst eS (sortT (x2.map Prod.fst))), .obj h4.size (.cells none 2 [.map (some bqw2)]), .obj bqw2 (.map 2 (encM (fun k : List UInt8 => .str k) (fun v : Int => .int .i64 v) x2)), .obj h3.size (.cells none 2 [.slice none 0, .slice none 0, .slice none 0]), .obj bqw1 (.map 2 (encM (fun k : List UInt8 => .str k) (fun v : Int => .int .i64 v) x1)), .obj h.size (.cells none 2 [.slice none 0, .slice none 0, .slice none 0])] F := A.nilL 9
  replace A : HH g h6 [.lst none 9 (lst eS ([] : List (List UInt8))), .lst none 9 (lst eS ([] : List (List UInt8))), .lst r1 9 (lst eS (sortT (x2.map Prod.fst))), .obj h4.size (.cells none 2 [.map (some bqw2)]), .obj bqw2 (.map 2 (encM (fun k : List UInt8 => .str k) (fun v : Int => .int .i64 v) x2)), .obj h3.size (.cells none 2 [rowV none (([] : List (List UInt8)).length), .slice none 0, .slice none 0]), .obj bqw1 (.map 2 (encM (fun k : List UInt8 => .str k) (fun v : Int => .int .i64 v) x1)), .obj h.size (.cells none 2 [.slice none 0, .slice none 0, .slice none 0])] F := A.nilL 9
  replace A : HH g h6 [.lst none 9 (lst eS ([] : List (List UInt8))), .lst none 9 (lst eS ([] : List (List UInt8))), .lst none 9 (lst eS ([] : List (List UInt8))), .lst r1 9 (lst eS (sortT (x2.map Prod.fst))), .obj h4.size (.cells none 2 [.map (some bqw2)]), .obj bqw2 (.map 2 (encM (fun k : List UInt8 => .str k) (fun v : Int => .int .i64 v) x2)), .obj h3.size (.cells none 2 [.slice none 0, .slice none 0, rowV none (([] : List (List UInt8)).length)]), .obj bqw1 (.map 2 (encM (fun k : List UInt8 => .str k) (fun v : Int => .int .i64 v) x1)), .obj h.size (.cells none 2 [.slice none 0, .slice none 0, .slice none 0])] F := A.nilL 9
  replace A : HH g h6 [.lst none 9 (lst eS ([] : List (List UInt8))), .lst none 9 (lst eS ([] : List (List UInt8))), .lst r1 9 (lst eS (sortT (x2.map Prod.fst))), .obj h4.size (.cells none 2 [.map (some bqw2)]), .obj bqw2 (.map 2 (encM (fun k : List UInt8 => .str k) (fun v : Int => .int .i64 v) x2)), .obj h3.size (.cells none 2 [rowV none (([] : List (List UInt8)).length), .slice none 0, rowV none (([] : List (List UInt8)).length)]), .obj bqw1 (.map 2 (encM (fun k : List UInt8 => .str k) (fun v : Int => .int .i64 v) x1)), .obj h.size (.cells none 2 [.slice none 0, .slice none 0, .slice none 0])] F := (HH.dropF ((((((((A.front 8 rfl).front 8 rfl).front 8 rfl).front 8 rfl).front 8 rfl).front 8 rfl).front 7 rfl).front 7 rfl) 8)
  obtain ⟨o1, ho, hm⟩ := bind_some hm
  refine aw_mono (Q' := fun e fr' h' => (∃ (x7 : List (List UInt8)) (x8 : List (List UInt8)) (x9 : List ((List UInt8) × Int)), e = .exit 0 ∧ (x7, x8, x9) = o1 ∧ ∃ (r4 : Option Nat) (r5 : Option Nat), Has fr' 66 [(4, .ptr (some (h.size, 0))), (5, .map (some bqw1)), (7, .ptr (some (h3.size, 0)))] ∧ HH g h' [.lst r4 9 (lst eS x7), .lst r5 9 (lst eS x8), .obj h4.size (.cells none 2 [.map (some bqw2)]), .obj bqw2 (.map 2 (encM (fun k : List UInt8 => .str k) (fun v : Int => .int .i64 v) x2)), .obj h3.size (.cells none 2 [rowV r4 x7.length, .slice none 0, rowV r5 x8.length]), .obj bqw1 (.map 2 (encM (fun k : List UInt8 => .str k) (fun v : Int => .int .i64 v) x9)), .obj h.size (.cells none 2 [.slice none 0, .slice none 0, .slice none 0])] F) ∨ False) ?_ ?_
  · refine aw_loop (by kernel_rfl) (fun (s : (List (List UInt8)) × (List (List UInt8)) × (List ((List UInt8) × Int)) × Int) fr' h' => ∃ (x3 : List (List UInt8)) (x4 : List (List UInt8)) (x5 : List ((List UInt8) × Int)) (x6 : Int), (x3, x4, x5, x6) = s ∧ ∃ (r2 : Option Nat) (r3 : Option Nat), Has fr' 66 [(0, vs e_S_api_Member p0), (1, vs e_S_api_Member p1), (4, .ptr (some (h.size, 0))), (5, .map (some bqw1)), (6, .map (some bqw2)), (7, .ptr (some (h3.size, 0))), (18, rowV r1 ((sortT (x2.map Prod.fst)).length)), (19, .int .i64 ((sortT (x2.map Prod.fst)).length : Int)), (20, .int .i64 x6)] ∧ HH g h' [.lst r2 9 (lst eS x3), .lst r3 9 (lst eS x4), .lst r1 9 (lst eS (sortT (x2.map Prod.fst))), .obj h4.size (.cells none 2 [.map (some bqw2)]), .obj bqw2 (.map 2 (encM (fun k : List UInt8 => .str k) (fun v : Int => .int .i64 v) x2)), .obj h3.size (.cells none 2 [rowV r2 x3.length, .slice none 0, rowV r3 x4.length]), .obj bqw1 (.map 2 (encM (fun k : List UInt8 => .str k) (fun v : Int => .int .i64 v) x5)), .obj h.size (.cells none 2 [.slice none 0, .slice none 0, .slice none 0])] F) ho ⟨([] : List (List UInt8)), ([] : List (List UInt8)), x1, (0 : Int), rfl, none, none, H.less _ (fun fr => by kernel_rfl), A⟩ ?_
    clear ho hm H A
    intro s q fr h7 hI hm
    obtain ⟨x3, x4, x5, x6, rfl, r2, r3, H, A⟩ := hI
    unfold M_delta_Of_L0 at hm
    refine aw_seq (by kernel_rfl) ?_
    refine aw_reg (id := 4) (n := 1) [(0, [])] (by kernel_rfl) (by kernel_rfl) ?_
    refine at_seg [(0, [])] [(0, vs e_S_api_Member p0), (1, vs e_S_api_Member p1), (4, .ptr (some (h.size, 0))), (5, .map (some bqw1)), (6, .map (some bqw2)), (7, .ptr (some (h3.size, 0))), (18, rowV r1 ((sortT (x2.map Prod.fst)).length)), (19, .int .i64 ((sortT (x2.map Prod.fst)).length : Int)), (20, .int .i64 x6), (21, .bool (decide (x6 < ((sortT (x2.map Prod.fst)).length : Int))))] H (noU_all rfl) (fun fr => by kernel_rfl) ?_
    intro fr H
    refine at_nil ?_
    show AW cfg 25 g (right (left (left (right (left (right (right (right (bodyC cfg.P 25))))))))) fr h7 _
    refine aw_seq (by kernel_rfl) ?_
    rcases iteB_some hm with ⟨hb, hm⟩ | ⟨hb, hm⟩
    · replace H := H.know 21 hb (by kernel_rfl)
      refine aw_true (x := .tmp 21) (by kernel_rfl) H (fun fr => by kernel_rfl) ?_
      refine aw_skip (by kernel_rfl) ?_
      show AW cfg 25 g (right (right (left (left (right (left (right (right (right (bodyC cfg.P 25)))))))))) fr h7 _
      refine aw_seq (by kernel_rfl) ?_
      refine aw_block (id := 1) (by kernel_rfl) ?_
      refine aw_seq (by kernel_rfl) ?_
      refine aw_reg (id := 5) (n := 3) [(0, []), (1, []), (2, [])] (by kernel_rfl) (by kernel_rfl) ?_
      obtain ⟨x10, hx, hm⟩ := bind_some hm
      obtain ⟨i1, er1, _, hx, hq1⟩ := HH.ixO encS (by decide) A 2 (xs := (sortT (x2.map Prod.fst))) rfl hx
      refine at_step (v := .ptr (some (i1, x6.toNat * 1))) (h1 := h7) [(0, vs e_S_api_Member p0), (1, vs e_S_api_Member p1), (4, .ptr (some (h.size, 0))), (5, .map (some bqw1)), (6, .map (some bqw2)), (7, .ptr (some (h3.size, 0))), (18, rowV r1 ((sortT (x2.map Prod.fst)).length)), (19, .int .i64 ((sortT (x2.map Prod.fst)).length : Int)), (20, .int .i64 x6), (22, .ptr (some (i1, x6.toNat * 1)))] H (fun fr => by kernel_rfl) (fun fr => .of (s_ixL (s := rowS r1 ((sortT (x2.map Prod.fst)).length)) (by kernel_rfl) hx)) ?_
      intro fr t H
      refine at_step (v := .str x10) (h1 := h7) [(0, vs e_S_api_Member p0), (1, vs e_S_api_Member p1), (4, .ptr (some (h.size, 0))), (5, .map (some bqw1)), (6, .map (some bqw2)), (7, .ptr (some (h3.size, 0))), (18, rowV r1 ((sortT (x2.map Prod.fst)).length)), (19, .int .i64 ((sortT (x2.map Prod.fst)).length : Int)), (20, .int .i64 x6), (23, .str x10)] H (fun fr => by kernel_rfl) (fun fr => .of (s_ld (by kernel_rfl) (row_ld1 encS (HH.row A 2 rfl er1) hq1 (o := 0) rfl))) ?_
      intro fr t H
      refine at_seg [(2, [])] [(0, vs e_S_api_Member p0), (1, vs e_S_api_Member p1), (4, .ptr (some (h.size, 0))), (5, .map (some bqw1)), (6, .map (some bqw2)), (7, .ptr (some (h3.size, 0))), (9, .str x10), (18, rowV r1 ((sortT (x2.map Prod.fst)).length)), (19, .int .i64 ((sortT (x2.map Prod.fst)).length : Int)), (20, .int .i64 x6)] H (noU_all rfl) (fun fr => by kernel_rfl) ?_
      intro fr H
      refine at_nil ?_
      show AW cfg 25 g (right (left (left (right (right (left (left (right (left (right (right (right (bodyC cfg.P 25))))))))))))) fr h7 _
      refine aw_seq (by kernel_rfl) ?_
      refine aw_reg (id := 6) (n := 8) [(0, []), (1, []), (2, []), (3, []), (4, []), (5, []), (6, []), (7, [])] (by kernel_rfl) (by kernel_rfl) ?_
      refine at_seg [(0, []), (1, [])] [(0, vs e_S_api_Member p0), (1, vs e_S_api_Member p1), (4, .ptr (some (h.size, 0))), (5, .map (some bqw1)), (6, .map (some bqw2)), (7, .ptr (some (h3.size, 0))), (9, .str x10), (18, rowV r1 ((sortT (x2.map Prod.fst)).length)), (19, .int .i64 ((sortT (x2.map Prod.fst)).length : Int)), (20, .int .i64 x6), (25, .map (some bqw1)), (26, .str x10)] H (noU_all rfl) (fun fr => by kernel_rfl) ?_
      intro fr H
      refine at_step (v := .tuple [.int .i64 ((mfind x5 x10).getD (0 : Int)), .bool ((mfind x5 x10).isSome)]) (h1 := h7) [(0, vs e_S_api_Member p0), (1, vs e_S_api_Member p1), (4, .ptr (some (h.size, 0))), (5, .map (some bqw1)), (6, .map (some bqw2)), (7, .ptr (some (h3.size, 0))), (9, .str x10), (18, rowV r1 ((sortT (x2.map Prod.fst)).length)), (19, .int .i64 ((sortT (x2.map Prod.fst)).length : Int)), (20, .int .i64 x6), (27, .tuple [.int .i64 ((mfind x5 x10).getD (0 : Int)), .bool ((mfind x5 x10).isSome)])] H (fun fr => by kernel_rfl) (fun fr => .of (s_lkT (by kernel_rfl) (HH.mlook (kt := 9) (et := 3) (ek := fun k : List UInt8 => .str k) (ev := fun v : Int => .int .i64 v) (keyS (by kernel_rfl)) A 6 rfl (t := 68) (by kernel_rfl) (z := (0 : Int)) (by kernel_rfl) x10))) ?_
      intro fr t H
      refine at_seg [(3, []), (4, []), (5, []), (6, []), (7, [])] [(0, vs e_S_api_Member p0), (1, vs e_S_api_Member p1), (4, .ptr (some (h.size, 0))), (5, .map (some bqw1)), (6, .map (some bqw2)), (7, .ptr (some (h3.size, 0))), (9, .str x10), (10, .int .i64 ((mfind x5 x10).getD (0 : Int))), (11, .bool ((mfind x5 x10).isSome)), (18, rowV r1 ((sortT (x2.map Prod.fst)).length)), (19, .int .i64 ((sortT (x2.map Prod.fst)).length : Int)), (20, .int .i64 x6)] H (noU_all rfl) (fun fr => by kernel_rfl) ?_
      intro fr H
      refine at_nil ?_
      show AW cfg 25 g (right (right (left (left (right (right (left (left (right (left (right (right (right (bodyC cfg.P 25)))))))))))))) fr h7 _
      refine aw_seq (by kernel_rfl) ?_
      obtain ⟨o2, ho, hm⟩ := bind_some hm
      refine aw_mono (Q' := fun e fr' h' => (∃ (x11 : List (List UInt8)) (x12 : List (List UInt8)), e = .normal ∧ (x11, x12) = o2 ∧ ∃ (r6 : Option Nat) (r7 : Option Nat), Has fr' 66 [(0, vs e_S_api_Member p0), (1, vs e_S_api_Member p1), (4, .ptr (some (h.size, 0))), (5, .map (some bqw1)), (6, .map (some bqw2)), (7, .ptr (some (h3.size, 0))), (9, .str x10), (18, rowV r1 ((sortT (x2.map Prod.fst)).length)), (19, .int .i64 ((sortT (x2.map Prod.fst)).length : Int)), (20, .int .i64 x6)] ∧ HH g h' [.lst r6 9 (lst eS x11), .lst r7 9 (lst eS x12), .lst r1 9 (lst eS (sortT (x2.map Prod.fst))), .obj h4.size (.cells none 2 [.map (some bqw2)]), .obj bqw2 (.map 2 (encM (fun k : List UInt8 => .str k) (fun v : Int => .int .i64 v) x2)), .obj h3.size (.cells none 2 [rowV r6 x11.length, .slice none 0, rowV r7 x12.length]), .obj bqw1 (.map 2 (encM (fun k : List UInt8 => .str k) (fun v : Int => .int .i64 v) x5)), .obj h.size (.cells none 2 [.slice none 0, .slice none 0, .slice none 0])] F) ∨ False) ?_ ?_
      · replace hm := ho
        clear ho
        refine aw_block (id := 2) (by kernel_rfl) ?_
        refine aw_seq (by kernel_rfl) ?_
        refine aw_reg (id := 7) (n := 3) [(0, []), (1, []), (2, [])] (by kernel_rfl) (by kernel_rfl) ?_
        refine at_seg [(0, []), (1, []), (2, [])] [(0, vs e_S_api_Member p0), (1, vs e_S_api_Member p1), (4, .ptr (some (h.size, 0))), (5, .map (some bqw1)), (6, .map (some bqw2)), (7, .ptr (some (h3.size, 0))), (9, .str x10), (10, .int .i64 ((mfind x5 x10).getD (0 : Int))), (18, rowV r1 ((sortT (x2.map Prod.fst)).length)), (19, .int .i64 ((sortT (x2.map Prod.fst)).length : Int)), (20, .int .i64 x6), (30, .bool (!((mfind x5 x10).isSome)))] H (noU_all rfl) (fun fr => by kernel_rfl) ?_
        intro fr H
        refine at_nil ?_
        show AW cfg 25 g (right (left (left (right (right (left (left (right (right (left (left (right (left (right (right (right (bodyC cfg.P 25))))))))))))))))) fr h7 _
        rcases iteB_some hm with ⟨hb, hm⟩ | ⟨hb, hm⟩
        · replace H := H.know 30 hb (by kernel_rfl)
          refine aw_true (x := .tmp 30) (by kernel_rfl) H (fun fr => by kernel_rfl) ?_
          refine aw_reg (id := 8) (n := 7) [(0, []), (1, []), (2, []), (3, []), (4, []), (5, []), (6, [])] (by kernel_rfl) (by kernel_rfl) ?_
          refine at_seg [(0, [])] [(0, vs e_S_api_Member p0), (1, vs e_S_api_Member p1), (4, .ptr (some (h.size, 0))), (5, .map (some bqw1)), (6, .map (some bqw2)), (7, .ptr (some (h3.size, 0))), (9, .str x10), (18, rowV r1 ((sortT (x2.map Prod.fst)).length)), (19, .int .i64 ((sortT (x2.map Prod.fst)).length : Int)), (20, .int .i64 x6), (33, .ptr (some (h3.size, 0)))] H (noU_all rfl) (fun fr => by kernel_rfl) ?_
          intro fr H
          refine at_step (v := rowV r2 x3.length) (h1 := h7) [(0, vs e_S_api_Member p0), (1, vs e_S_api_Member p1), (4, .ptr (some (h.size, 0))), (5, .map (some bqw1)), (6, .map (some bqw2)), (7, .ptr (some (h3.size, 0))), (9, .str x10), (18, rowV r1 ((sortT (x2.map Prod.fst)).length)), (19, .int .i64 ((sortT (x2.map Prod.fst)).length : Int)), (20, .int .i64 x6), (34, rowV r2 x3.length)] H (fun fr => by kernel_rfl) (fun fr => .of (s_ld (by kernel_rfl) (A.ld1 5 rfl (o := 0) rfl))) ?_
          intro fr t H
          refine at_seg [(2, [])] [(0, vs e_S_api_Member p0), (1, vs e_S_api_Member p1), (4, .ptr (some (h.size, 0))), (5, .map (some bqw1)), (6, .map (some bqw2)), (7, .ptr (some (h3.size, 0))), (9, .str x10), (18, rowV r1 ((sortT (x2.map Prod.fst)).length)), (19, .int .i64 ((sortT (x2.map Prod.fst)).length : Int)), (20, .int .i64 x6), (34, rowV r2 x3.length), (35, .str x10)] H (noU_all rfl) (fun fr => by kernel_rfl) ?_
          intro fr H
          obtain ⟨h8, e4⟩ : ∃ x, x = h7.push (.cells (some 9) 2 [.str x10]) := ⟨_, rfl⟩
          replace A := (A.pushL _ _).to e4
          refine at_step (v := rowV (some h7.size) (([x10] : List (List UInt8)).length)) (h1 := h8) [(0, vs e_S_api_Member p0), (1, vs e_S_api_Member p1), (4, .ptr (some (h.size, 0))), (5, .map (some bqw1)), (6, .map (some bqw2)), (7, .ptr (some (h3.size, 0))), (9, .str x10), (18, rowV r1 ((sortT (x2.map Prod.fst)).length)), (19, .int .i64 ((sortT (x2.map Prod.fst)).length : Int)), (20, .int .i64 x6), (34, rowV r2 x3.length), (36, rowV (some h7.size) (([x10] : List (List UInt8)).length))] H (fun fr => by kernel_rfl) (fun fr => .of (s_n' (by kernel_rfl) (congrArg some e4.symm))) ?_
          intro fr t H
          obtain ⟨hb, hm⟩ := need_some hm
          obtain ⟨r8, h9, hx, A1⟩ := HH.appO encS (by decide) A 1 (xs := x3) (ys := ([x10] : List (List UInt8))) rfl (row_first A 0 rfl (n := ([x10] : List (List UInt8)).length) (z := 1) rfl (by decide)) rfl rfl hb
          replace A : HH g h9 [.lst (some h7.size) 9 ([.str x10]), .lst r8 9 (lst eS (x3 ++ ([x10] : List (List UInt8)))), .lst r3 9 (lst eS x4), .lst r1 9 (lst eS (sortT (x2.map Prod.fst))), .obj h4.size (.cells none 2 [.map (some bqw2)]), .obj bqw2 (.map 2 (encM (fun k : List UInt8 => .str k) (fun v : Int => .int .i64 v) x2)), .obj h3.size (.cells none 2 [rowV r2 x3.length, .slice none 0, rowV r3 x4.length]), .obj bqw1 (.map 2 (encM (fun k : List UInt8 => .str k) (fun v : Int => .int .i64 v) x5)), .obj h.size (.cells none 2 [.slice none 0, .slice none 0, .slice none 0])] F := A1
          replace A : HH g h9 [.lst r8 9 (lst eS (x3 ++ ([x10] : List (List UInt8)))), .lst r3 9 (lst eS x4), .lst r1 9 (lst eS (sortT (x2.map Prod.fst))), .obj h4.size (.cells none 2 [.map (some bqw2)]), .obj bqw2 (.map 2 (encM (fun k : List UInt8 => .str k) (fun v : Int => .int .i64 v) x2)), .obj h3.size (.cells none 2 [rowV r2 x3.length, .slice none 0, rowV r3 x4.length]), .obj bqw1 (.map 2 (encM (fun k : List UInt8 => .str k) (fun v : Int => .int .i64 v) x5)), .obj h.size (.cells none 2 [.slice none 0, .slice none 0, .slice none 0])] F := (HH.dropF ((((((((A.front 8 rfl).front 8 rfl).front 8 rfl).front 8 rfl).front 8 rfl).front 8 rfl).front 8 rfl).front 8 rfl) 8)
          refine at_step (v := rowV r8 ((x3 ++ ([x10] : List (List UInt8))).length)) (h1 := h9) [(0, vs e_S_api_Member p0), (1, vs e_S_api_Member p1), (4, .ptr (some (h.size, 0))), (5, .map (some bqw1)), (6, .map (some bqw2)), (7, .ptr (some (h3.size, 0))), (9, .str x10), (18, rowV r1 ((sortT (x2.map Prod.fst)).length)), (19, .int .i64 ((sortT (x2.map Prod.fst)).length : Int)), (20, .int .i64 x6), (37, rowV r8 ((x3 ++ ([x10] : List (List UInt8))).length))] H (fun fr => by kernel_rfl) (fun fr => .of (s_app (s := rowS r2 x3.length) (by kernel_rfl) hx)) ?_
          intro fr t H
          refine at_seg [(5, [])] [(0, vs e_S_api_Member p0), (1, vs e_S_api_Member p1), (4, .ptr (some (h.size, 0))), (5, .map (some bqw1)), (6, .map (some bqw2)), (7, .ptr (some (h3.size, 0))), (9, .str x10), (18, rowV r1 ((sortT (x2.map Prod.fst)).length)), (19, .int .i64 ((sortT (x2.map Prod.fst)).length : Int)), (20, .int .i64 x6), (37, rowV r8 ((x3 ++ ([x10] : List (List UInt8))).length)), (38, .ptr (some (h3.size, 0)))] H (noU_all rfl) (fun fr => by kernel_rfl) ?_
          intro fr H
          obtain ⟨h10, hx, A1⟩ := A.st 5 rfl (o := 0) (new := [rowV r8 ((x3 ++ ([x10] : List (List UInt8))).length)]) (ds := [rowV r8 ((x3 ++ ([x10] : List (List UInt8))).length), .slice none 0, rowV r3 x4.length]) (Nat.le_of_ble_eq_true rfl) rfl rfl
          replace A : HH g h10 [.lst r8 9 (lst eS (x3 ++ ([x10] : List (List UInt8)))), .lst r3 9 (lst eS x4), .lst r1 9 (lst eS (sortT (x2.map Prod.fst))), .obj h4.size (.cells none 2 [.map (some bqw2)]), .obj bqw2 (.map 2 (encM (fun k : List UInt8 => .str k) (fun v : Int => .int .i64 v) x2)), .obj h3.size (.cells none 2 [rowV r8 ((x3 ++ ([x10] : List (List UInt8))).length), .slice none 0, rowV r3 x4.length]), .obj bqw1 (.map 2 (encM (fun k : List UInt8 => .str k) (fun v : Int => .int .i64 v) x5)), .obj h.size (.cells none 2 [.slice none 0, .slice none 0, .slice none 0])] F := A1
          refine at_step (v := .tuple []) (h1 := h10) [(0, vs e_S_api_Member p0), (1, vs e_S_api_Member p1), (4, .ptr (some (h.size, 0))), (5, .map (some bqw1)), (6, .map (some bqw2)), (7, .ptr (some (h3.size, 0))), (9, .str x10), (18, rowV r1 ((sortT (x2.map Prod.fst)).length)), (19, .int .i64 ((sortT (x2.map Prod.fst)).length : Int)), (20, .int .i64 x6)] H (fun fr => by kernel_rfl) (fun fr => .of (s_st (by kernel_rfl) rfl hx)) ?_
          intro fr t H
          refine at_nil ?_
          exact Or.inl ⟨(x3 ++ ([x10] : List (List UInt8))), x4, rfl, Option.some.inj hm, r8, r3, H.less _ (fun fr => by kernel_rfl), A⟩
        · replace H := H.know 30 hb (by kernel_rfl)
          refine aw_false (x := .tmp 30) (by kernel_rfl) H (fun fr => by kernel_rfl) ?_
          refine aw_seq (by kernel_rfl) ?_
          refine aw_draw (id := 9) (n := 13) (by kernel_rfl) [(0, []), (1, []), (2, []), (3, []), (4, []), (5, []), (6, []), (7, []), (8, []), (9, []), (10, []), (11, []), (12, [])] (by kernel_rfl) ?_
          refine at_seg [(0, []), (1, [])] [(0, vs e_S_api_Member p0), (1, vs e_S_api_Member p1), (4, .ptr (some (h.size, 0))), (5, .map (some bqw1)), (6, .map (some bqw2)), (7, .ptr (some (h3.size, 0))), (9, .str x10), (18, rowV r1 ((sortT (x2.map Prod.fst)).length)), (19, .int .i64 ((sortT (x2.map Prod.fst)).length : Int)), (20, .int .i64 x6), (40, vs e_S_api_Member p0), (41, .int .i64 ((mfind x5 x10).getD (0 : Int)))] H (noU_all rfl) (fun fr => by kernel_rfl) ?_
          intro fr H
          obtain ⟨x13, hx, hm⟩ := bind_some hm
          refine at_step (v := .vptr [.str x13.Name, .str x13.Link, .int .u8 x13.Kind, .int .i64 x13.Mode, .int .i64 x13.Uid, .int .i64 x13.Gid, .str x13.Uname, .str x13.Gname, .int .i64 x13.Major, .int .i64 x13.Minor, .int .i64 x13.Time.Sec, .int .i64 x13.Time.Nsec, vs e_S_api_Pair x13.Extra, .str x13.Data]) (h1 := h7) [(0, vs e_S_api_Member p0), (1, vs e_S_api_Member p1), (4, .ptr (some (h.size, 0))), (5, .map (some bqw1)), (6, .map (some bqw2)), (7, .ptr (some (h3.size, 0))), (9, .str x10), (18, rowV r1 ((sortT (x2.map Prod.fst)).length)), (19, .int .i64 ((sortT (x2.map Prod.fst)).length : Int)), (20, .int .i64 x6), (42, .vptr [.str x13.Name, .str x13.Link, .int .u8 x13.Kind, .int .i64 x13.Mode, .int .i64 x13.Uid, .int .i64 x13.Gid, .str x13.Uname, .str x13.Gname, .int .i64 x13.Major, .int .i64 x13.Minor, .int .i64 x13.Time.Sec, .int .i64 x13.Time.Nsec, vs e_S_api_Pair x13.Extra, .str x13.Data])] H (fun fr => by kernel_rfl) (fun fr => .of (s_ixV (e := e_S_api_Member) (x := x13) enc_S_api_Member (by decide) (by kernel_rfl) hx)) ?_
          intro fr t H
          refine at_step (v := .agg (e_S_api_Member x13)) (h1 := h7) [(0, vs e_S_api_Member p0), (1, vs e_S_api_Member p1), (4, .ptr (some (h.size, 0))), (5, .map (some bqw1)), (6, .map (some bqw2)), (7, .ptr (some (h3.size, 0))), (9, .str x10), (18, rowV r1 ((sortT (x2.map Prod.fst)).length)), (19, .int .i64 ((sortT (x2.map Prod.fst)).length : Int)), (20, .int .i64 x6), (43, .agg (e_S_api_Member x13))] H (fun fr => by kernel_rfl) (fun fr => .of (s_lv (by kernel_rfl))) ?_
          intro fr t H
          refine at_seg [(4, []), (5, []), (6, [])] [(0, vs e_S_api_Member p0), (1, vs e_S_api_Member p1), (4, .ptr (some (h.size, 0))), (5, .map (some bqw1)), (6, .map (some bqw2)), (7, .ptr (some (h3.size, 0))), (9, .str x10), (18, rowV r1 ((sortT (x2.map Prod.fst)).length)), (19, .int .i64 ((sortT (x2.map Prod.fst)).length : Int)), (20, .int .i64 x6), (43, .agg (e_S_api_Member x13)), (44, vs e_S_api_Member p1), (45, .map (some bqw2)), (46, .str x10)] H (noU_all rfl) (fun fr => by kernel_rfl) ?_
          intro fr H
          refine at_step (v := .int .i64 ((mfind x2 x10).getD (0 : Int))) (h1 := h7) [(0, vs e_S_api_Member p0), (1, vs e_S_api_Member p1), (4, .ptr (some (h.size, 0))), (5, .map (some bqw1)), (6, .map (some bqw2)), (7, .ptr (some (h3.size, 0))), (9, .str x10), (18, rowV r1 ((sortT (x2.map Prod.fst)).length)), (19, .int .i64 ((sortT (x2.map Prod.fst)).length : Int)), (20, .int .i64 x6), (43, .agg (e_S_api_Member x13)), (44, vs e_S_api_Member p1), (47, .int .i64 ((mfind x2 x10).getD (0 : Int)))] H (fun fr => by kernel_rfl) (fun fr => .of (s_lkF (by kernel_rfl) (HH.mlook (kt := 9) (et := 3) (ek := fun k : List UInt8 => .str k) (ev := fun v : Int => .int .i64 v) (keyS (by kernel_rfl)) A 4 rfl (t := 68) (by kernel_rfl) (z := (0 : Int)) (by kernel_rfl) x10))) ?_
          intro fr t H
          obtain ⟨x14, hx, hm⟩ := bind_some hm
          refine at_step (v := .vptr [.str x14.Name, .str x14.Link, .int .u8 x14.Kind, .int .i64 x14.Mode, .int .i64 x14.Uid, .int .i64 x14.Gid, .str x14.Uname, .str x14.Gname, .int .i64 x14.Major, .int .i64 x14.Minor, .int .i64 x14.Time.Sec, .int .i64 x14.Time.Nsec, vs e_S_api_Pair x14.Extra, .str x14.Data]) (h1 := h7) [(0, vs e_S_api_Member p0), (1, vs e_S_api_Member p1), (4, .ptr (some (h.size, 0))), (5, .map (some bqw1)), (6, .map (some bqw2)), (7, .ptr (some (h3.size, 0))), (9, .str x10), (18, rowV r1 ((sortT (x2.map Prod.fst)).length)), (19, .int .i64 ((sortT (x2.map Prod.fst)).length : Int)), (20, .int .i64 x6), (43, .agg (e_S_api_Member x13)), (48, .vptr [.str x14.Name, .str x14.Link, .int .u8 x14.Kind, .int .i64 x14.Mode, .int .i64 x14.Uid, .int .i64 x14.Gid, .str x14.Uname, .str x14.Gname, .int .i64 x14.Major, .int .i64 x14.Minor, .int .i64 x14.Time.Sec, .int .i64 x14.Time.Nsec, vs e_S_api_Pair x14.Extra, .str x14.Data])] H (fun fr => by kernel_rfl) (fun fr => .of (s_ixV (e := e_S_api_Member) (x := x14) enc_S_api_Member (by decide) (by kernel_rfl) hx)) ?_
          intro fr t H
          refine at_step (v := .agg (e_S_api_Member x14)) (h1 := h7) [(0, vs e_S_api_Member p0), (1, vs e_S_api_Member p1), (4, .ptr (some (h.size, 0))), (5, .map (some bqw1)), (6, .map (some bqw2)), (7, .ptr (some (h3.size, 0))), (9, .str x10), (18, rowV r1 ((sortT (x2.map Prod.fst)).length)), (19, .int .i64 ((sortT (x2.map Prod.fst)).length : Int)), (20, .int .i64 x6), (43, .agg (e_S_api_Member x13)), (49, .agg (e_S_api_Member x14))] H (fun fr => by kernel_rfl) (fun fr => .of (s_lv (by kernel_rfl))) ?_
          intro fr t H
          have A1 := A.cut 0
          obtain ⟨x15, hx, hm⟩ := bind_some hm
          obtain ⟨v1, h11, hr, rfl, A1⟩ := ok_archive_Same (av := [.agg (e_S_api_Member x13), .agg (e_S_api_Member x14)]) hx (by kernel_rfl) A1
          replace A : HH g h11 [.lst r2 9 (lst eS x3), .lst r3 9 (lst eS x4), .lst r1 9 (lst eS (sortT (x2.map Prod.fst))), .obj h4.size (.cells none 2 [.map (some bqw2)]), .obj bqw2 (.map 2 (encM (fun k : List UInt8 => .str k) (fun v : Int => .int .i64 v) x2)), .obj h3.size (.cells none 2 [rowV r2 x3.length, .slice none 0, rowV r3 x4.length]), .obj bqw1 (.map 2 (encM (fun k : List UInt8 => .str k) (fun v : Int => .int .i64 v) x5)), .obj h.size (.cells none 2 [.slice none 0, .slice none 0, .slice none 0])] F := A.glue0 (n := 0) A1
          refine at_step (v := .bool x15) (h1 := h11) [(0, vs e_S_api_Member p0), (1, vs e_S_api_Member p1), (4, .ptr (some (h.size, 0))), (5, .map (some bqw1)), (6, .map (some bqw2)), (7, .ptr (some (h3.size, 0))), (9, .str x10), (18, rowV r1 ((sortT (x2.map Prod.fst)).length)), (19, .int .i64 ((sortT (x2.map Prod.fst)).length : Int)), (20, .int .i64 x6), (50, .bool x15)] H (fun fr => by kernel_rfl) (fun fr => Steps.call (by kernel_rfl) hr) ?_
          intro fr t H
          refine at_seg [(11, []), (12, [])] [(0, vs e_S_api_Member p0), (1, vs e_S_api_Member p1), (4, .ptr (some (h.size, 0))), (5, .map (some bqw1)), (6, .map (some bqw2)), (7, .ptr (some (h3.size, 0))), (9, .str x10), (18, rowV r1 ((sortT (x2.map Prod.fst)).length)), (19, .int .i64 ((sortT (x2.map Prod.fst)).length : Int)), (20, .int .i64 x6), (39, .bool (!x15))] H (noU_all rfl) (fun fr => by kernel_rfl) ?_
          intro fr H
          refine at_nil ?_
          show AW cfg 25 g (right (right (right (left (left (right (right (left (left (right (right (left (left (right (left (right (right (right (bodyC cfg.P 25))))))))))))))))))) fr h11 _
          rcases iteB_some hm with ⟨hb, hm⟩ | ⟨hb, hm⟩
          · replace H := H.know 39 hb (by kernel_rfl)
            refine aw_true (x := .tmp 39) (by kernel_rfl) H (fun fr => by kernel_rfl) ?_
            refine aw_reg (id := 10) (n := 7) [(0, []), (1, []), (2, []), (3, []), (4, []), (5, []), (6, [])] (by kernel_rfl) (by kernel_rfl) ?_
            refine at_seg [(0, [])] [(0, vs e_S_api_Member p0), (1, vs e_S_api_Member p1), (4, .ptr (some (h.size, 0))), (5, .map (some bqw1)), (6, .map (some bqw2)), (7, .ptr (some (h3.size, 0))), (9, .str x10), (18, rowV r1 ((sortT (x2.map Prod.fst)).length)), (19, .int .i64 ((sortT (x2.map Prod.fst)).length : Int)), (20, .int .i64 x6), (52, .ptr (some (h3.size, 2)))] H (noU_all rfl) (fun fr => by kernel_rfl) ?_
            intro fr H
            refine at_step (v := rowV r3 x4.length) (h1 := h11) [(0, vs e_S_api_Member p0), (1, vs e_S_api_Member p1), (4, .ptr (some (h.size, 0))), (5, .map (some bqw1)), (6, .map (some bqw2)), (7, .ptr (some (h3.size, 0))), (9, .str x10), (18, rowV r1 ((sortT (x2.map Prod.fst)).length)), (19, .int .i64 ((sortT (x2.map Prod.fst)).length : Int)), (20, .int .i64 x6), (53, rowV r3 x4.length)] H (fun fr => by kernel_rfl) (fun fr => .of (s_ld (by kernel_rfl) (A.ld1 5 rfl (o := 2) rfl))) ?_
            intro fr t H
            refine at_seg [(2, [])] [(0, vs e_S_api_Member p0), (1, vs e_S_api_Member p1), (4, .ptr (some (h.size, 0))), (5, .map (some bqw1)), (6, .map (some bqw2)), (7, .ptr (some (h3.size, 0))), (9, .str x10), (18, rowV r1 ((sortT (x2.map Prod.fst)).length)), (19, .int .i64 ((sortT (x2.map Prod.fst)).length : Int)), (20, .int .i64 x6), (53, rowV r3 x4.length), (54, .str x10)] H (noU_all rfl) (fun fr => by kernel_rfl) ?_
            intro fr H
            obtain ⟨h12, e5⟩ : ∃ x, x = h11.push (.cells (some 9) 2 [.str x10]) := ⟨_, rfl⟩
            replace A := (A.pushL _ _).to e5
            refine at_step (v := rowV (some h11.size) (([x10] : List (List UInt8)).length)) (h1 := h12) [(0, vs e_S_api_Member p0), (1, vs e_S_api_Member p1), (4, .ptr (some (h.size, 0))), (5, .map (some bqw1)), (6, .map (some bqw2)), (7, .ptr (some (h3.size, 0))), (9, .str x10), (18, rowV r1 ((sortT (x2.map Prod.fst)).length)), (19, .int .i64 ((sortT (x2.map Prod.fst)).length : Int)), (20, .int .i64 x6), (53, rowV r3 x4.length), (55, rowV (some h11.size) (([x10] : List (List UInt8)).length))] H (fun fr => by kernel_rfl) (fun fr => .of (s_n' (by kernel_rfl) (congrArg some e5.symm))) ?_
            intro fr t H
            obtain ⟨hb, hm⟩ := need_some hm
            obtain ⟨r9, h13, hx, A1⟩ := HH.appO encS (by decide) A 2 (xs := x4) (ys := ([x10] : List (List UInt8))) rfl (row_first A 0 rfl (n := ([x10] : List (List UInt8)).length) (z := 1) rfl (by decide)) rfl rfl hb
            replace A : HH g h13 [.lst (some h11.size) 9 ([.str x10]), .lst r2 9 (lst eS x3), .lst r9 9 (lst eS (x4 ++ ([x10] : List (List UInt8)))), .lst r1 9 (lst eS (sortT (x2.map Prod.fst))), .obj h4.size (.cells none 2 [.map (some bqw2)]), .obj bqw2 (.map 2 (encM (fun k : List UInt8 => .str k) (fun v : Int => .int .i64 v) x2)), .obj h3.size (.cells none 2 [rowV r2 x3.length, .slice none 0, rowV r3 x4.length]), .obj bqw1 (.map 2 (encM (fun k : List UInt8 => .str k) (fun v : Int => .int .i64 v) x5)), .obj h.size (.cells none 2 [.slice none 0, .slice none 0, .slice none 0])] F := A1
            replace A : HH g h13 [.lst r2 9 (lst eS x3), .lst r9 9 (lst eS (x4 ++ ([x10] : List (List UInt8)))), .lst r1 9 (lst eS (sortT (x2.map Prod.fst))), .obj h4.size (.cells none 2 [.map (some bqw2)]), .obj bqw2 (.map 2 (encM (fun k : List UInt8 => .str k) (fun v : Int => .int .i64 v) x2)), .obj h3.size (.cells none 2 [rowV r2 x3.length, .slice none 0, rowV r3 x4.length]), .obj bqw1 (.map 2 (encM (fun k : List UInt8 => .str k) (fun v : Int => .int .i64 v) x5)), .obj h.size (.cells none 2 [.slice none 0, .slice none 0, .slice none 0])] F := (HH.dropF ((((((((A.front 8 rfl).front 8 rfl).front 8 rfl).front 8 rfl).front 8 rfl).front 8 rfl).front 8 rfl).front 8 rfl) 8)
            refine at_step (v := rowV r9 ((x4 ++ ([x10] : List (List UInt8))).length)) (h1 := h13) [(0, vs e_S_api_Member p0), (1, vs e_S_api_Member p1), (4, .ptr (some (h.size, 0))), (5, .map (some bqw1)), (6, .map (some bqw2)), (7, .ptr (some (h3.size, 0))), (9, .str x10), (18, rowV r1 ((sortT (x2.map Prod.fst)).length)), (19, .int .i64 ((sortT (x2.map Prod.fst)).length : Int)), (20, .int .i64 x6), (56, rowV r9 ((x4 ++ ([x10] : List (List UInt8))).length))] H (fun fr => by kernel_rfl) (fun fr => .of (s_app (s := rowS r3 x4.length) (by kernel_rfl) hx)) ?_
            intro fr t H
            refine at_seg [(5, [])] [(0, vs e_S_api_Member p0), (1, vs e_S_api_Member p1), (4, .ptr (some (h.size, 0))), (5, .map (some bqw1)), (6, .map (some bqw2)), (7, .ptr (some (h3.size, 0))), (9, .str x10), (18, rowV r1 ((sortT (x2.map Prod.fst)).length)), (19, .int .i64 ((sortT (x2.map Prod.fst)).length : Int)), (20, .int .i64 x6), (56, rowV r9 ((x4 ++ ([x10] : List (List UInt8))).length)), (57, .ptr (some (h3.size, 2)))] H (noU_all rfl) (fun fr => by kernel_rfl) ?_
            intro fr H
            obtain ⟨h14, hx, A1⟩ := A.st 5 rfl (o := 2) (new := [rowV r9 ((x4 ++ ([x10] : List (List UInt8))).length)]) (ds := [rowV r2 x3.length, .slice none 0, rowV r9 ((x4 ++ ([x10] : List (List UInt8))).length)]) (Nat.le_of_ble_eq_true rfl) rfl rfl
            replace A : HH g h14 [.lst r2 9 (lst eS x3), .lst r9 9 (lst eS (x4 ++ ([x10] : List (List UInt8)))), .lst r1 9 (lst eS (sortT (x2.map Prod.fst))), .obj h4.size (.cells none 2 [.map (some bqw2)]), .obj bqw2 (.map 2 (encM (fun k : List UInt8 => .str k) (fun v : Int => .int .i64 v) x2)), .obj h3.size (.cells none 2 [rowV r2 x3.length, .slice none 0, rowV r9 ((x4 ++ ([x10] : List (List UInt8))).length)]), .obj bqw1 (.map 2 (encM (fun k : List UInt8 => .str k) (fun v : Int => .int .i64 v) x5)), .obj h.size (.cells none 2 [.slice none 0, .slice none 0, .slice none 0])] F := A1
            refine at_step (v := .tuple []) (h1 := h14) [(0, vs e_S_api_Member p0), (1, vs e_S_api_Member p1), (4, .ptr (some (h.size, 0))), (5, .map (some bqw1)), (6, .map (some bqw2)), (7, .ptr (some (h3.size, 0))), (9, .str x10), (18, rowV r1 ((sortT (x2.map Prod.fst)).length)), (19, .int .i64 ((sortT (x2.map Prod.fst)).length : Int)), (20, .int .i64 x6)] H (fun fr => by kernel_rfl) (fun fr => .of (s_st (by kernel_rfl) rfl hx)) ?_
            intro fr t H
            refine at_nil ?_
            exact Or.inl ⟨x3, (x4 ++ ([x10] : List (List UInt8))), rfl, Option.some.inj hm, r2, r9, H.less _ (fun fr => by kernel_rfl), A⟩
          · replace H := H.know 39 hb (by kernel_rfl)
            refine aw_false (x := .tmp 39) (by kernel_rfl) H (fun fr => by kernel_rfl) ?_
            refine aw_skip (by kernel_rfl) ?_
            exact Or.inl ⟨x3, x4, rfl, Option.some.inj hm, r2, r3, H.less _ (fun fr => by kernel_rfl), A⟩
      · clear ho
        clear A
        intro e fr h15 hQ
        rcases hQ with ⟨x11, x12, rfl, rfl, r6, r7, H, A⟩ | hF
        · skip
          show AW cfg 25 g (right (right (right (left (left (right (right (left (left (right (left (right (right (right (bodyC cfg.P 25))))))))))))))) fr h15 _
          refine aw_reg (id := 11) (n := 3) [(0, []), (1, []), (2, [])] (by kernel_rfl) (by kernel_rfl) ?_
          refine at_seg [(0, []), (1, [])] [(0, vs e_S_api_Member p0), (1, vs e_S_api_Member p1), (4, .ptr (some (h.size, 0))), (5, .map (some bqw1)), (6, .map (some bqw2)), (7, .ptr (some (h3.size, 0))), (18, rowV r1 ((sortT (x2.map Prod.fst)).length)), (19, .int .i64 ((sortT (x2.map Prod.fst)).length : Int)), (20, .int .i64 x6), (58, .map (some bqw1)), (59, .str x10)] H (noU_all rfl) (fun fr => by kernel_rfl) ?_
          intro fr H
          obtain ⟨h16, hx, A1⟩ := HH.mdel' (kt := 9) (et := 3) (ek := fun k : List UInt8 => .str k) (ev := fun v : Int => .int .i64 v) (keyS (by kernel_rfl)) A 6 rfl (t := 68) (ts := #[68, 9]) rfl (by kernel_rfl) x10
          replace A : HH g h16 [.lst r6 9 (lst eS x11), .lst r7 9 (lst eS x12), .lst r1 9 (lst eS (sortT (x2.map Prod.fst))), .obj h4.size (.cells none 2 [.map (some bqw2)]), .obj bqw2 (.map 2 (encM (fun k : List UInt8 => .str k) (fun v : Int => .int .i64 v) x2)), .obj h3.size (.cells none 2 [rowV r6 x11.length, .slice none 0, rowV r7 x12.length]), .obj bqw1 (.map 2 (encM (fun k : List UInt8 => .str k) (fun v : Int => .int .i64 v) (mdel x5 x10))), .obj h.size (.cells none 2 [.slice none 0, .slice none 0, .slice none 0])] F := A1
          refine at_step (v := .tuple []) (h1 := h16) [(0, vs e_S_api_Member p0), (1, vs e_S_api_Member p1), (4, .ptr (some (h.size, 0))), (5, .map (some bqw1)), (6, .map (some bqw2)), (7, .ptr (some (h3.size, 0))), (18, rowV r1 ((sortT (x2.map Prod.fst)).length)), (19, .int .i64 ((sortT (x2.map Prod.fst)).length : Int)), (20, .int .i64 x6)] H (fun fr => by kernel_rfl) (fun fr => .of (s_del (by kernel_rfl) hx)) ?_
          intro fr t H
          refine at_nil ?_
          show AW cfg 25 g (right (right (right (left (left (right (left (right (right (right (bodyC cfg.P 25))))))))))) fr h16 _
          refine aw_reg (id := 12) (n := 2) [(0, []), (1, [])] (by kernel_rfl) (by kernel_rfl) ?_
          refine at_seg [(0, []), (1, [])] [(0, vs e_S_api_Member p0), (1, vs e_S_api_Member p1), (4, .ptr (some (h.size, 0))), (5, .map (some bqw1)), (6, .map (some bqw2)), (7, .ptr (some (h3.size, 0))), (18, rowV r1 ((sortT (x2.map Prod.fst)).length)), (19, .int .i64 ((sortT (x2.map Prod.fst)).length : Int)), (20, .int .i64 (IntKind.i64.wrap (x6 + (1 : Int))))] H (noU_all rfl) (fun fr => by kernel_rfl) ?_
          intro fr H
          refine at_nil ?_
          exact Exists.intro (x11, x12, (mdel x5 x10), IntKind.i64.wrap (x6 + (1 : Int))) (And.intro (Option.some.inj hm).symm ⟨x11, x12, (mdel x5 x10), IntKind.i64.wrap (x6 + (1 : Int)), rfl, r6, r7, H.less _ (fun fr => by kernel_rfl), A⟩)
        · exact hF.elim
    · replace H := H.know 21 hb (by kernel_rfl)
      refine aw_false (x := .tmp 21) (by kernel_rfl) H (fun fr => by kernel_rfl) ?_
      refine aw_exit (i := 0) (by kernel_rfl) ?_
      replace A : HH g h7 [.lst r2 9 (lst eS x3), .lst r3 9 (lst eS x4), .obj h4.size (.cells none 2 [.map (some bqw2)]), .obj bqw2 (.map 2 (encM (fun k : List UInt8 => .str k) (fun v : Int => .int .i64 v) x2)), .obj h3.size (.cells none 2 [rowV r2 x3.length, .slice none 0, rowV r3 x4.length]), .obj bqw1 (.map 2 (encM (fun k : List UInt8 => .str k) (fun v : Int => .int .i64 v) x5)), .obj h.size (.cells none 2 [.slice none 0, .slice none 0, .slice none 0])] F := (HH.dropF (((((((A.front 7 rfl).front 7 rfl).front 7 rfl).front 7 rfl).front 7 rfl).front 6 rfl).front 6 rfl) 7)
      exact Exists.intro _ (And.intro (Option.some.inj hm).symm (fun e => Or.inl ⟨x3, x4, x5, rfl, e, r2, r3, H.less _ (fun fr => by kernel_rfl), A⟩))
  · clear ho
    clear A
    intro e fr h17 hQ
    rcases hQ with ⟨x7, x8, x9, rfl, rfl, r4, r5, H, A⟩ | hF
    · skip
      show AW cfg 25 g (right (right (right (right (bodyC cfg.P 25))))) fr h17 _
      refine aw_seq (by kernel_rfl) ?_
      refine aw_reg (id := 13) (n := 5) [(0, []), (1, []), (2, []), (3, []), (4, [])] (by kernel_rfl) (by kernel_rfl) ?_
      refine at_seg [(0, [])] [(4, .ptr (some (h.size, 0))), (7, .ptr (some (h3.size, 0))), (61, .map (some bqw1))] H (noU_all rfl) (fun fr => by kernel_rfl) ?_
      intro fr H
      obtain ⟨h18, e6⟩ : ∃ x, x = h17.push (.cells none 2 [.map (some bqw1)]) := ⟨_, rfl⟩
      replace A := (A.push _).to e6
      have hr : ∀ g, Runs cfg g h17 50 [.map (some bqw1)] (.func (.func 70) [] [.ptr (some (h17.size, 0))]) h18 := fun g => by rw [e6]; exact ⟨2, by kernel_rfl⟩
      refine at_step (v := .func (.func 70) [] [.ptr (some (h17.size, 0))]) (h1 := h18) [(4, .ptr (some (h.size, 0))), (7, .ptr (some (h3.size, 0))), (62, .func (.func 70) [] [.ptr (some (h17.size, 0))])] H (fun fr => by kernel_rfl) (fun fr => Steps.call (by kernel_rfl) (hr _)) ?_
      intro fr t H
      replace A : HH g h18 [.obj h17.size (.cells none 2 [.map (some bqw1)]), .obj bqw1 (.map 2 (encM (fun k : List UInt8 => .str k) (fun v : Int => .int .i64 v) x9)), .lst r4 9 (lst eS x7), .lst r5 9 (lst eS x8), .obj h4.size (.cells none 2 [.map (some bqw2)]), .obj bqw2 (.map 2 (encM (fun k : List UInt8 => .str k) (fun v : Int => .int .i64 v) x2)), .obj h3.size (.cells none 2 [rowV r4 x7.length, .slice none 0, rowV r5 x8.length]), .obj h.size (.cells none 2 [.slice none 0, .slice none 0, .slice none 0])] F := ((A.front 6 rfl).front 1 rfl)
      have A1 := A.cut 2
      obtain ⟨hb, hm⟩ := need_some hm
      obtain ⟨r10, h19, hr, A1⟩ := HH.sorted (C := cfg) (f := 49) (it := 70) (t := 9) (ev := fun v : Int => .int .i64 v) (m := x9) A1 (by kernel_rfl) (l := exts) rfl (by kernel_rfl) 0 1 rfl rfl hb
      replace A : HH g h19 [.lst r10 9 (lst eS (sortT (x9.map Prod.fst))), .obj h17.size (.cells none 2 [.map (some bqw1)]), .obj bqw1 (.map 2 (encM (fun k : List UInt8 => .str k) (fun v : Int => .int .i64 v) x9)), .lst r4 9 (lst eS x7), .lst r5 9 (lst eS x8), .obj h4.size (.cells none 2 [.map (some bqw2)]), .obj bqw2 (.map 2 (encM (fun k : List UInt8 => .str k) (fun v : Int => .int .i64 v) x2)), .obj h3.size (.cells none 2 [rowV r4 x7.length, .slice none 0, rowV r5 x8.length]), .obj h.size (.cells none 2 [.slice none 0, .slice none 0, .slice none 0])] F := A.glue0 (n := 2) A1
      refine at_step (v := rowV r10 ((sortT (x9.map Prod.fst)).length)) (h1 := h19) [(4, .ptr (some (h.size, 0))), (7, .ptr (some (h3.size, 0))), (63, rowV r10 ((sortT (x9.map Prod.fst)).length))] H (fun fr => by kernel_rfl) (fun fr => Steps.call (by kernel_rfl) hr) ?_
      intro fr t H
      refine at_seg [(3, [])] [(4, .ptr (some (h.size, 0))), (7, .ptr (some (h3.size, 0))), (63, rowV r10 ((sortT (x9.map Prod.fst)).length)), (64, .ptr (some (h3.size, 1)))] H (noU_all rfl) (fun fr => by kernel_rfl) ?_
      intro fr H
      obtain ⟨h20, hx, A1⟩ := A.st 7 rfl (o := 1) (new := [rowV r10 ((sortT (x9.map Prod.fst)).length)]) (ds := [rowV r4 x7.length, rowV r10 ((sortT (x9.map Prod.fst)).length), rowV r5 x8.length]) (Nat.le_of_ble_eq_true rfl) rfl rfl
      replace A : HH g h20 [.lst r10 9 (lst eS (sortT (x9.map Prod.fst))), .obj h17.size (.cells none 2 [.map (some bqw1)]), .obj bqw1 (.map 2 (encM (fun k : List UInt8 => .str k) (fun v : Int => .int .i64 v) x9)), .lst r4 9 (lst eS x7), .lst r5 9 (lst eS x8), .obj h4.size (.cells none 2 [.map (some bqw2)]), .obj bqw2 (.map 2 (encM (fun k : List UInt8 => .str k) (fun v : Int => .int .i64 v) x2)), .obj h3.size (.cells none 2 [rowV r4 x7.length, rowV r10 ((sortT (x9.map Prod.fst)).length), rowV r5 x8.length]), .obj h.size (.cells none 2 [.slice none 0, .slice none 0, .slice none 0])] F := A1
      refine at_step (v := .tuple []) (h1 := h20) [(4, .ptr (some (h.size, 0))), (7, .ptr (some (h3.size, 0)))] H (fun fr => by kernel_rfl) (fun fr => .of (s_st (by kernel_rfl) rfl hx)) ?_
      intro fr t H
      refine at_nil ?_
      show AW cfg 25 g (right (right (right (right (right (bodyC cfg.P 25)))))) fr h20 _
      refine aw_seq (by kernel_rfl) ?_
      refine aw_reg (id := 14) (n := 2) [(0, []), (1, [])] (by kernel_rfl) (by kernel_rfl) ?_
      refine at_step (v := .agg [rowV r4 x7.length, rowV r10 ((sortT (x9.map Prod.fst)).length), rowV r5 x8.length]) (h1 := h20) [(4, .ptr (some (h.size, 0))), (65, .agg [rowV r4 x7.length, rowV r10 ((sortT (x9.map Prod.fst)).length), rowV r5 x8.length])] H (fun fr => by kernel_rfl) (fun fr => .of (s_ldA (by kernel_rfl) (A.ldA 7 rfl (o := 0) (n := 3) ⟨Nat.le_of_ble_eq_true rfl, rfl⟩))) ?_
      intro fr t H
      obtain ⟨h21, hx, A1⟩ := A.st 8 rfl (o := 0) (new := [rowV r4 x7.length, rowV r10 ((sortT (x9.map Prod.fst)).length), rowV r5 x8.length]) (ds := [rowV r4 x7.length, rowV r10 ((sortT (x9.map Prod.fst)).length), rowV r5 x8.length]) (Nat.le_of_ble_eq_true rfl) rfl rfl
      replace A : HH g h21 [.lst r10 9 (lst eS (sortT (x9.map Prod.fst))), .obj h17.size (.cells none 2 [.map (some bqw1)]), .obj bqw1 (.map 2 (encM (fun k : List UInt8 => .str k) (fun v : Int => .int .i64 v) x9)), .lst r4 9 (lst eS x7), .lst r5 9 (lst eS x8), .obj h4.size (.cells none 2 [.map (some bqw2)]), .obj bqw2 (.map 2 (encM (fun k : List UInt8 => .str k) (fun v : Int => .int .i64 v) x2)), .obj h3.size (.cells none 2 [rowV r4 x7.length, rowV r10 ((sortT (x9.map Prod.fst)).length), rowV r5 x8.length]), .obj h.size (.cells none 2 [rowV r4 x7.length, rowV r10 ((sortT (x9.map Prod.fst)).length), rowV r5 x8.length])] F := A1
      refine at_step (v := .tuple []) (h1 := h21) [(4, .ptr (some (h.size, 0)))] H (fun fr => by kernel_rfl) (fun fr => .of (s_stG (by kernel_rfl) (stG_st hx rfl))) ?_
      intro fr t H
      refine at_nil ?_
      show AW cfg 25 g (right (right (right (right (right (right (bodyC cfg.P 25))))))) fr h21 _
      refine aw_ret (by kernel_rfl) ?_
      have e1 := Option.some.inj hm
      subst e1
      refine ⟨.inl rfl, .agg [rowV r4 x7.length, rowV r10 ((sortT (x9.map Prod.fst)).length), rowV r5 x8.length], resL_one (.cell (resT H (fun fr => by kernel_rfl)) (load_ldA (by kernel_rfl) (by kernel_rfl) (A.ldA 8 rfl (o := 0) (n := 3) ⟨Nat.le_of_ble_eq_true rfl, rfl⟩)) .nil), ?_⟩
      obtain ⟨h22, hz0, A1⟩ := (A.front 3 rfl).frz (n := x7.length) (z := 1) (encS.lenL _) (by decide)
      replace A : HH g h22 [.lst r10 9 (lst eS (sortT (x9.map Prod.fst))), .obj h17.size (.cells none 2 [.map (some bqw1)]), .obj bqw1 (.map 2 (encM (fun k : List UInt8 => .str k) (fun v : Int => .int .i64 v) x9)), .lst r5 9 (lst eS x8), .obj h4.size (.cells none 2 [.map (some bqw2)]), .obj bqw2 (.map 2 (encM (fun k : List UInt8 => .str k) (fun v : Int => .int .i64 v) x2)), .obj h3.size (.cells none 2 [rowV r4 x7.length, rowV r10 ((sortT (x9.map Prod.fst)).length), rowV r5 x8.length]), .obj h.size (.cells none 2 [rowV r4 x7.length, rowV r10 ((sortT (x9.map Prod.fst)).length), rowV r5 x8.length])] F := A1
      obtain ⟨h23, hz1, A1⟩ := (A.front 0 rfl).frz (n := (sortT (x9.map Prod.fst)).length) (z := 1) (encS.lenL _) (by decide)
      replace A : HH g h23 [.obj h17.size (.cells none 2 [.map (some bqw1)]), .obj bqw1 (.map 2 (encM (fun k : List UInt8 => .str k) (fun v : Int => .int .i64 v) x9)), .lst r5 9 (lst eS x8), .obj h4.size (.cells none 2 [.map (some bqw2)]), .obj bqw2 (.map 2 (encM (fun k : List UInt8 => .str k) (fun v : Int => .int .i64 v) x2)), .obj h3.size (.cells none 2 [rowV r4 x7.length, rowV r10 ((sortT (x9.map Prod.fst)).length), rowV r5 x8.length]), .obj h.size (.cells none 2 [rowV r4 x7.length, rowV r10 ((sortT (x9.map Prod.fst)).length), rowV r5 x8.length])] F := A1
      obtain ⟨h24, hz2, A1⟩ := (A.front 2 rfl).frz (n := x8.length) (z := 1) (encS.lenL _) (by decide)
      replace A : HH g h24 [.obj h17.size (.cells none 2 [.map (some bqw1)]), .obj bqw1 (.map 2 (encM (fun k : List UInt8 => .str k) (fun v : Int => .int .i64 v) x9)), .obj h4.size (.cells none 2 [.map (some bqw2)]), .obj bqw2 (.map 2 (encM (fun k : List UInt8 => .str k) (fun v : Int => .int .i64 v) x2)), .obj h3.size (.cells none 2 [rowV r4 x7.length, rowV r10 ((sortT (x9.map Prod.fst)).length), rowV r5 x8.length]), .obj h.size (.cells none 2 [rowV r4 x7.length, rowV r10 ((sortT (x9.map Prod.fst)).length), rowV r5 x8.length])] F := A1
      refine ⟨.agg [vs eS x7, vs eS (sortT (x9.map Prod.fst)), vs eS x8], h24, by first | rfl | (simp only [fz3T, fz3A, fz3B, fz3R, fz2A, fz2R, fz2V, fz2I, fz2B, fz2S, fz2N, fzL0, fzL1, fz1I, fz1B, fz1S, fz1V, fz1N, Option.map_some, hz0, hz1, hz2] <;> rfl), ?_⟩
      replace A : HH g h24 [] F := (HH.dropF A 0)
      exact ⟨rfl, A⟩
    · exact hF.elim
end Go.Av.L
