/-
  Models of functions, and that the abstract run tells them. Written by lift2.py.
-/
import Derived.Test.YtcmfogjpkkodbaaKCfg
import Derived.Test.YtcmfogjpkkodbaaK0
import Derived.Test.YtcmfogjpkkodbaaK1
import Derived.Test.YtcmfogjpkkodbaaK2
import Derived.Test.YtcmfogjpkkodbaaK3
namespace Go.Av.L
open Go.Av Go.Lib
set_option maxRecDepth 10000
set_option linter.unusedVariables false
set_option linter.unusedSimpArgs false
/-! ### boulter/boulterref38.Newer -/
noncomputable def M_boulterref38_Newer_L0 (p0 : List S_api_Member) (x1 : List S_api_Member) (s : (List S_api_Member) × Int) : Option (((List S_api_Member) × Int) ⊕ (((List S_api_Member)))) :=
  match s with
  | (x2, x3) => iteB (decide (x3 < (x1.length : Int))) (((ixV x1 x3).bind fun x6 => (M_boulterref12_Find p0 x6.Name).bind fun x7 => (iteB (decide (x7 < (0 : Int))) (some true) ((ixV p0 x7).bind fun x9 => (ixV p0 x7).bind fun x10 => (ixV x1 x3).bind fun x11 => (ixV x1 x3).bind fun x12 => (M_boulterref04_Cmp x9.Time.Sec x10.Time.Nsec x11.Time.Sec x12.Time.Nsec).bind fun x13 => some (decide (x13 < (0 : Int)))) : Option (Bool)).bind fun x8 => iteB x8 ((ixV x1 x3).bind fun x14 => need (okN 168 (x2.length + ([x14] : List S_api_Member).length)) <| some (x2 ++ ([x14] : List S_api_Member))) (some x2) : Option (((List S_api_Member)))).bind fun x5 => some (.inl (x5, IntKind.i64.wrap (x3 + (1 : Int))))) (some (.inr x2))
noncomputable def M_boulterref38_Newer (p0 : List S_api_Member) (p1 : List S_api_Member) : Option ((List S_api_Member)) :=
 need (okN 168 (([] : List S_api_Member).length + p0.length)) <| (M_boulterref38_Last p1).bind fun x1 => (loop (M_boulterref38_Newer_L0 p0 x1) ((([] : List S_api_Member) ++ p0), (0 : Int))).bind fun x4 => (M_boulterref38_Last_sO x4).bind fun x15 => some x15
theorem ok_boulterref38_Newer {g : Gd} {h : AHeap} {F : List Ck} {p0 : List S_api_Member} {p1 : List S_api_Member} {q0 : List S_api_Member} {av : List AVal} (hm : M_boulterref38_Newer p0 p1 = some q0) (hc : canL (cfg.still 35) av = [vs e_S_api_Member p0, vs e_S_api_Member p1]) (A : HH g h [] F) : ∃ v h', Runs cfg g h 35 av v h' ∧ ∃ (rq0 : Option Nat), v = rowV rq0 q0.length ∧ HH g h' [.lst rq0 63 (lst e_S_api_Member q0)] F := by
  refine runsQ1 (n := 67) (rs := [.tmp 4]) (by kernel_rfl) hc (by kernel_rfl) ?_
  clear hc
  unfold M_boulterref38_Newer at hm
  refine start (n := 67) [(0, vs e_S_api_Member p0), (1, vs e_S_api_Member p1)] (by kernel_rfl) (by kernel_rfl) ?_
  intro fr H
  refine aw_seq (by kernel_rfl) ?_
  refine aw_reg (id := 0) (n := 1) [(0, [])] (by kernel_rfl) (by kernel_rfl) ?_
  refine at_seg [(0, [])] [(0, vs e_S_api_Member p0), (1, vs e_S_api_Member p1)] H (noU_all rfl) (fun fr => by kernel_rfl) ?_
  intro fr H
  refine at_nil ?_
  show AW cfg 35 g (right (bodyC cfg.P 35)) fr h _
  refine aw_seq (by kernel_rfl) ?_
  refine aw_reg (id := 1) (n := 2) [(0, []), (1, [])] (by kernel_rfl) (by kernel_rfl) ?_
  obtain ⟨h1, e1⟩ : ∃ x, x = h.push (.cells (some 63) 2 []) := ⟨_, rfl⟩
  replace A := (A.pushL _ _).to e1
  refine at_step (v := rowV (some h.size) (([] : List S_api_Member).length)) (h1 := h1) [(0, vs e_S_api_Member p0), (1, vs e_S_api_Member p1), (9, rowV (some h.size) (([] : List S_api_Member).length))] H (fun fr => by kernel_rfl) (fun fr => .of (s_n' (by kernel_rfl) (congrArg some e1.symm))) ?_
  intro fr t H
  refine at_seg [(1, [])] [(0, vs e_S_api_Member p0), (1, vs e_S_api_Member p1), (5, rowV (some h.size) (([] : List S_api_Member).length))] H (noU_all rfl) (fun fr => by kernel_rfl) ?_
  intro fr H
  refine at_nil ?_
  show AW cfg 35 g (right (right (bodyC cfg.P 35))) fr h1 _
  refine aw_seq (by kernel_rfl) ?_
  refine aw_reg (id := 2) (n := 4) [(0, []), (1, []), (2, []), (3, [])] (by kernel_rfl) (by kernel_rfl) ?_
  refine at_seg [(0, []), (1, [])] [(0, vs e_S_api_Member p0), (1, vs e_S_api_Member p1), (10, rowV (some h.size) (([] : List S_api_Member).length)), (11, vs e_S_api_Member p0)] H (noU_all rfl) (fun fr => by kernel_rfl) ?_
  intro fr H
  replace A : HH g h1 [.lst (some h.size) 63 (lst e_S_api_Member ([] : List S_api_Member))] F := A
  obtain ⟨hb, hm⟩ := need_some hm
  obtain ⟨r1, h2, hx, A1⟩ := HH.appO enc_S_api_Member (by decide) A 0 (xs := ([] : List S_api_Member)) (ys := p0) rfl (firstV enc_S_api_Member _ p0) (enc_S_api_Member.canL _) rfl hb
  replace A : HH g h2 [.lst r1 63 (lst e_S_api_Member (([] : List S_api_Member) ++ p0))] F := A1
  refine at_step (v := rowV r1 ((([] : List S_api_Member) ++ p0).length)) (h1 := h2) [(0, vs e_S_api_Member p0), (1, vs e_S_api_Member p1), (12, rowV r1 ((([] : List S_api_Member) ++ p0).length))] H (fun fr => by kernel_rfl) (fun fr => .of (s_app (s := rowS (some h.size) (([] : List S_api_Member).length)) (by kernel_rfl) hx)) ?_
  intro fr t H
  refine at_seg [(3, [])] [(0, vs e_S_api_Member p0), (1, vs e_S_api_Member p1), (5, rowV r1 ((([] : List S_api_Member) ++ p0).length))] H (noU_all rfl) (fun fr => by kernel_rfl) ?_
  intro fr H
  refine at_nil ?_
  show AW cfg 35 g (right (right (right (bodyC cfg.P 35)))) fr h2 _
  refine aw_seq (by kernel_rfl) ?_
  refine aw_reg (id := 3) (n := 3) [(0, []), (1, []), (2, [])] (by kernel_rfl) (by kernel_rfl) ?_
  refine at_seg [(0, [])] [(0, vs e_S_api_Member p0), (5, rowV r1 ((([] : List S_api_Member) ++ p0).length)), (13, vs e_S_api_Member p1)] H (noU_all rfl) (fun fr => by kernel_rfl) ?_
  intro fr H
  have A1 := A.cut 0
  obtain ⟨x1, hx, hm⟩ := bind_some hm
  obtain ⟨v1, h3, hr, rqw1, rfl, A1⟩ := ok_boulterref38_Last (av := [vs e_S_api_Member p1]) hx (by kernel_rfl) A1
  replace A : HH g h3 [.lst rqw1 63 (lst e_S_api_Member x1), .lst r1 63 (lst e_S_api_Member (([] : List S_api_Member) ++ p0))] F := A.glue0 (n := 0) A1
  refine at_step (v := rowV rqw1 x1.length) (h1 := h3) [(0, vs e_S_api_Member p0), (5, rowV r1 ((([] : List S_api_Member) ++ p0).length)), (14, rowV rqw1 x1.length)] H (fun fr => by kernel_rfl) (fun fr => Steps.call (by kernel_rfl) hr) ?_
  intro fr t H
  refine at_seg [(2, [])] [(0, vs e_S_api_Member p0), (5, rowV r1 ((([] : List S_api_Member) ++ p0).length)), (6, rowV rqw1 x1.length)] H (noU_all rfl) (fun fr => by kernel_rfl) ?_
  intro fr H
  refine at_nil ?_
  show AW cfg 35 g (right (right (right (right (bodyC cfg.P 35))))) fr h3 _
  refine aw_seq (by kernel_rfl) ?_
  refine aw_seq (by kernel_rfl) ?_
  refine aw_reg (id := 4) (n := 1) [(0, [])] (by kernel_rfl) (by kernel_rfl) ?_
  refine at_seg [(0, [])] [(0, vs e_S_api_Member p0), (5, rowV r1 ((([] : List S_api_Member) ++ p0).length)), (6, rowV rqw1 x1.length), (7, .int .i64 (0 : Int))] H (noU_all rfl) (fun fr => by kernel_rfl) ?_
  intro fr H
  refine at_nil ?_
  show AW cfg 35 g (right (left (right (right (right (right (bodyC cfg.P 35))))))) fr h3 _
  refine aw_block (id := 0) (by kernel_rfl) ?_
  obtain ⟨o1, ho, hm⟩ := bind_some hm
  refine aw_mono (Q' := fun e fr' h' => (∃ (x4 : List S_api_Member), e = .exit 0 ∧ x4 = o1 ∧ ∃ (r3 : Option Nat), Has fr' 67 [(5, rowV r3 x4.length)] ∧ HH g h' [.lst r3 63 (lst e_S_api_Member x4)] F) ∨ False) ?_ ?_
  · refine aw_loop (by kernel_rfl) (fun (s : (List S_api_Member) × Int) fr' h' => ∃ (x2 : List S_api_Member) (x3 : Int), (x2, x3) = s ∧ ∃ (r2 : Option Nat), Has fr' 67 [(0, vs e_S_api_Member p0), (5, rowV r2 x2.length), (6, rowV rqw1 x1.length), (7, .int .i64 x3)] ∧ HH g h' [.lst rqw1 63 (lst e_S_api_Member x1), .lst r2 63 (lst e_S_api_Member x2)] F) ho ⟨(([] : List S_api_Member) ++ p0), (0 : Int), rfl, r1, H.less _ (fun fr => by kernel_rfl), A⟩ ?_
    clear ho hm H A
    intro s q fr h4 hI hm
    obtain ⟨x2, x3, rfl, r2, H, A⟩ := hI
    unfold M_boulterref38_Newer_L0 at hm
    refine aw_seq (by kernel_rfl) ?_
    refine aw_seq (by kernel_rfl) ?_
    refine aw_reg (id := 5) (n := 4) [(0, []), (1, []), (2, []), (3, [])] (by kernel_rfl) (by kernel_rfl) ?_
    refine at_seg [(0, []), (1, []), (2, []), (3, [])] [(0, vs e_S_api_Member p0), (5, rowV r2 x2.length), (6, rowV rqw1 x1.length), (7, .int .i64 x3), (18, .bool (decide (x3 < (x1.length : Int))))] H (noU_all rfl) (fun fr => by kernel_rfl) ?_
    intro fr H
    refine at_nil ?_
    show AW cfg 35 g (right (left (left (left (right (left (right (right (right (right (bodyC cfg.P 35))))))))))) fr h4 _
    rcases iteB_some hm with ⟨hb, hm⟩ | ⟨hb, hm⟩
    · replace H := H.know 18 hb (by kernel_rfl)
      refine aw_true (x := .tmp 18) (by kernel_rfl) H (fun fr => by kernel_rfl) ?_
      refine aw_skip (by kernel_rfl) ?_
      show AW cfg 35 g (right (left (left (right (left (right (right (right (right (bodyC cfg.P 35)))))))))) fr h4 _
      refine aw_seq (by kernel_rfl) ?_
      obtain ⟨o2, ho, hm⟩ := bind_some hm
      refine aw_mono (Q' := fun e fr' h' => (∃ (x5 : List S_api_Member), e = .normal ∧ x5 = o2 ∧ ∃ (r4 : Option Nat), Has fr' 67 [(0, vs e_S_api_Member p0), (5, rowV r4 x5.length), (6, rowV rqw1 x1.length), (7, .int .i64 x3)] ∧ HH g h' [.lst rqw1 63 (lst e_S_api_Member x1), .lst r4 63 (lst e_S_api_Member x5)] F) ∨ False) ?_ ?_
      · replace hm := ho
        clear ho
        refine aw_block (id := 1) (by kernel_rfl) ?_
        refine aw_seq (by kernel_rfl) ?_
        refine aw_reg (id := 7) (n := 8) [(0, []), (1, []), (2, []), (3, []), (4, []), (5, []), (6, []), (7, [])] (by kernel_rfl) (by kernel_rfl) ?_
        refine at_seg [(0, []), (1, []), (2, [])] [(0, vs e_S_api_Member p0), (5, rowV r2 x2.length), (6, rowV rqw1 x1.length), (7, .int .i64 x3), (21, vs e_S_api_Member p0), (22, rowV rqw1 x1.length), (23, .int .i64 x3)] H (noU_all rfl) (fun fr => by kernel_rfl) ?_
        intro fr H
        obtain ⟨x6, hx, hm⟩ := bind_some hm
        obtain ⟨i1, er1, _, hx, hq1⟩ := HH.ixO enc_S_api_Member (by decide) A 0 (xs := x1) rfl hx
        refine at_step (v := .ptr (some (i1, x3.toNat * 14))) (h1 := h4) [(0, vs e_S_api_Member p0), (5, rowV r2 x2.length), (6, rowV rqw1 x1.length), (7, .int .i64 x3), (21, vs e_S_api_Member p0), (24, .ptr (some (i1, x3.toNat * 14)))] H (fun fr => by kernel_rfl) (fun fr => .of (s_ixL (s := rowS rqw1 x1.length) (by kernel_rfl) hx)) ?_
        intro fr t H
        refine at_seg [(4, [])] [(0, vs e_S_api_Member p0), (5, rowV r2 x2.length), (6, rowV rqw1 x1.length), (7, .int .i64 x3), (21, vs e_S_api_Member p0), (25, .ptr (some (i1, x3.toNat * 14)))] H (noU_all rfl) (fun fr => by kernel_rfl) ?_
        intro fr H
        refine at_step (v := .str x6.Name) (h1 := h4) [(0, vs e_S_api_Member p0), (5, rowV r2 x2.length), (6, rowV rqw1 x1.length), (7, .int .i64 x3), (21, vs e_S_api_Member p0), (26, .str x6.Name)] H (fun fr => by kernel_rfl) (fun fr => .of (s_ld (by kernel_rfl) (row_ld1 enc_S_api_Member (HH.row A 0 rfl er1) hq1 (o := 0) rfl))) ?_
        intro fr t H
        have A1 := A.cut 0
        obtain ⟨x7, hx, hm⟩ := bind_some hm
        obtain ⟨v1, h5, hr, rfl, A1⟩ := ok_boulterref12_Find (av := [vs e_S_api_Member p0, .str x6.Name]) hx (by kernel_rfl) A1
        replace A : HH g h5 [.lst rqw1 63 (lst e_S_api_Member x1), .lst r2 63 (lst e_S_api_Member x2)] F := A.glue0 (n := 0) A1
        refine at_step (v := .int .i64 x7) (h1 := h5) [(0, vs e_S_api_Member p0), (5, rowV r2 x2.length), (6, rowV rqw1 x1.length), (7, .int .i64 x3), (27, .int .i64 x7)] H (fun fr => by kernel_rfl) (fun fr => Steps.call (by kernel_rfl) hr) ?_
        intro fr t H
        refine at_seg [(7, [])] [(0, vs e_S_api_Member p0), (5, rowV r2 x2.length), (6, rowV rqw1 x1.length), (7, .int .i64 x3), (8, .int .i64 x7)] H (noU_all rfl) (fun fr => by kernel_rfl) ?_
        intro fr H
        refine at_nil ?_
        show AW cfg 35 g (right (left (left (right (left (left (right (left (right (right (right (right (bodyC cfg.P 35))))))))))))) fr h5 _
        refine aw_seq (by kernel_rfl) ?_
        refine aw_draw (id := 8) (n := 30) (by kernel_rfl) [(0, []), (1, []), (2, []), (3, []), (4, []), (5, []), (6, []), (7, []), (8, []), (9, []), (10, []), (11, []), (12, []), (13, []), (14, []), (15, []), (16, []), (17, []), (18, []), (19, []), (20, []), (21, []), (22, []), (23, []), (24, []), (25, []), (26, []), (27, []), (28, []), (29, [])] (by kernel_rfl) ?_
        refine at_seg [(0, []), (1, []), (2, [])] [(0, vs e_S_api_Member p0), (5, rowV r2 x2.length), (6, rowV rqw1 x1.length), (7, .int .i64 x3), (8, .int .i64 x7), (30, .bool (decide (x7 < (0 : Int))))] H (noU_all rfl) (fun fr => by kernel_rfl) ?_
        intro fr H
        obtain ⟨x8, ho, hm⟩ := bind_some hm
        refine at_cut [(3, []), (4, []), (5, []), (6, []), (7, []), (8, []), (9, []), (10, []), (11, []), (12, []), (13, []), (14, []), (15, []), (16, []), (17, []), (18, []), (19, []), (20, []), (21, []), (22, []), (23, []), (24, []), (25, []), (26, []), (27, []), (28, []), (29, [])] (fun fr' h' => Has fr' 67 [(0, vs e_S_api_Member p0), (5, rowV r2 x2.length), (6, rowV rqw1 x1.length), (7, .int .i64 x3), (57, .bool x8)] ∧ HH g h' [.lst rqw1 63 (lst e_S_api_Member x1), .lst r2 63 (lst e_S_api_Member x2)] F) ?_ ?_
        · rcases iteB_some ho with ⟨hb, hm⟩ | ⟨hb, hm⟩
          · replace H := H.know 30 hb (by kernel_rfl)
            refine at_seg [(3, []), (4, []), (5, []), (6, []), (7, []), (8, []), (9, []), (10, []), (11, []), (12, []), (13, []), (14, []), (15, []), (16, []), (17, []), (18, []), (19, []), (20, []), (21, []), (22, []), (23, []), (24, []), (25, []), (26, []), (27, []), (28, []), (29, [])] [(0, vs e_S_api_Member p0), (5, rowV r2 x2.length), (6, rowV rqw1 x1.length), (7, .int .i64 x3), (57, .bool true)] H (noU_all rfl) (fun fr => by kernel_rfl) ?_
            intro fr H
            have e1 := Option.some.inj hm
            subst e1
            exact at_nil ⟨H.less _ (fun fr => by kernel_rfl), A⟩
          · replace H := H.know 30 hb (by kernel_rfl)
            refine at_seg [(3, []), (4, [])] [(0, vs e_S_api_Member p0), (5, rowV r2 x2.length), (6, rowV rqw1 x1.length), (7, .int .i64 x3), (8, .int .i64 x7), (30, .bool false), (31, vs e_S_api_Member p0), (32, .int .i64 x7)] H (noU_all rfl) (fun fr => by kernel_rfl) ?_
            intro fr H
            obtain ⟨x9, hx, hm⟩ := bind_some hm
            refine at_step (v := .vptr [.str x9.Name, .str x9.Link, .int .u8 x9.Kind, .int .i64 x9.Mode, .int .i64 x9.Uid, .int .i64 x9.Gid, .str x9.Uname, .str x9.Gname, .int .i64 x9.Major, .int .i64 x9.Minor, .int .i64 x9.Time.Sec, .int .i64 x9.Time.Nsec, vs e_S_api_Pair x9.Extra, .str x9.Data]) (h1 := h5) [(0, vs e_S_api_Member p0), (5, rowV r2 x2.length), (6, rowV rqw1 x1.length), (7, .int .i64 x3), (8, .int .i64 x7), (30, .bool false), (33, .vptr [.str x9.Name, .str x9.Link, .int .u8 x9.Kind, .int .i64 x9.Mode, .int .i64 x9.Uid, .int .i64 x9.Gid, .str x9.Uname, .str x9.Gname, .int .i64 x9.Major, .int .i64 x9.Minor, .int .i64 x9.Time.Sec, .int .i64 x9.Time.Nsec, vs e_S_api_Pair x9.Extra, .str x9.Data])] H (fun fr => by kernel_rfl) (fun fr => .of (s_ixV (e := e_S_api_Member) (x := x9) enc_S_api_Member (by decide) (by kernel_rfl) hx)) ?_
            intro fr t H
            refine at_seg [(6, []), (7, [])] [(0, vs e_S_api_Member p0), (5, rowV r2 x2.length), (6, rowV rqw1 x1.length), (7, .int .i64 x3), (8, .int .i64 x7), (30, .bool false), (35, .vptr [.int .i64 x9.Time.Sec, .int .i64 x9.Time.Nsec, vs e_S_api_Pair x9.Extra, .str x9.Data])] H (noU_all rfl) (fun fr => by kernel_rfl) ?_
            intro fr H
            refine at_step (v := .int .i64 x9.Time.Sec) (h1 := h5) [(0, vs e_S_api_Member p0), (5, rowV r2 x2.length), (6, rowV rqw1 x1.length), (7, .int .i64 x3), (8, .int .i64 x7), (30, .bool false), (36, .int .i64 x9.Time.Sec)] H (fun fr => by kernel_rfl) (fun fr => .of (s_lv (by kernel_rfl))) ?_
            intro fr t H
            refine at_seg [(9, []), (10, [])] [(0, vs e_S_api_Member p0), (5, rowV r2 x2.length), (6, rowV rqw1 x1.length), (7, .int .i64 x3), (30, .bool false), (36, .int .i64 x9.Time.Sec), (37, vs e_S_api_Member p0), (38, .int .i64 x7)] H (noU_all rfl) (fun fr => by kernel_rfl) ?_
            intro fr H
            obtain ⟨x10, hx, hm⟩ := bind_some hm
            refine at_step (v := .vptr [.str x10.Name, .str x10.Link, .int .u8 x10.Kind, .int .i64 x10.Mode, .int .i64 x10.Uid, .int .i64 x10.Gid, .str x10.Uname, .str x10.Gname, .int .i64 x10.Major, .int .i64 x10.Minor, .int .i64 x10.Time.Sec, .int .i64 x10.Time.Nsec, vs e_S_api_Pair x10.Extra, .str x10.Data]) (h1 := h5) [(0, vs e_S_api_Member p0), (5, rowV r2 x2.length), (6, rowV rqw1 x1.length), (7, .int .i64 x3), (30, .bool false), (36, .int .i64 x9.Time.Sec), (39, .vptr [.str x10.Name, .str x10.Link, .int .u8 x10.Kind, .int .i64 x10.Mode, .int .i64 x10.Uid, .int .i64 x10.Gid, .str x10.Uname, .str x10.Gname, .int .i64 x10.Major, .int .i64 x10.Minor, .int .i64 x10.Time.Sec, .int .i64 x10.Time.Nsec, vs e_S_api_Pair x10.Extra, .str x10.Data])] H (fun fr => by kernel_rfl) (fun fr => .of (s_ixV (e := e_S_api_Member) (x := x10) enc_S_api_Member (by decide) (by kernel_rfl) hx)) ?_
            intro fr t H
            refine at_seg [(12, []), (13, [])] [(0, vs e_S_api_Member p0), (5, rowV r2 x2.length), (6, rowV rqw1 x1.length), (7, .int .i64 x3), (30, .bool false), (36, .int .i64 x9.Time.Sec), (41, .vptr [.int .i64 x10.Time.Nsec, vs e_S_api_Pair x10.Extra, .str x10.Data])] H (noU_all rfl) (fun fr => by kernel_rfl) ?_
            intro fr H
            refine at_step (v := .int .i64 x10.Time.Nsec) (h1 := h5) [(0, vs e_S_api_Member p0), (5, rowV r2 x2.length), (6, rowV rqw1 x1.length), (7, .int .i64 x3), (30, .bool false), (36, .int .i64 x9.Time.Sec), (42, .int .i64 x10.Time.Nsec)] H (fun fr => by kernel_rfl) (fun fr => .of (s_lv (by kernel_rfl))) ?_
            intro fr t H
            refine at_seg [(15, []), (16, [])] [(0, vs e_S_api_Member p0), (5, rowV r2 x2.length), (6, rowV rqw1 x1.length), (7, .int .i64 x3), (30, .bool false), (36, .int .i64 x9.Time.Sec), (42, .int .i64 x10.Time.Nsec), (43, rowV rqw1 x1.length), (44, .int .i64 x3)] H (noU_all rfl) (fun fr => by kernel_rfl) ?_
            intro fr H
            obtain ⟨x11, hx, hm⟩ := bind_some hm
            obtain ⟨i2, er2, _, hx, hq2⟩ := HH.ixO enc_S_api_Member (by decide) A 0 (xs := x1) rfl hx
            refine at_step (v := .ptr (some (i2, x3.toNat * 14))) (h1 := h5) [(0, vs e_S_api_Member p0), (5, rowV r2 x2.length), (6, rowV rqw1 x1.length), (7, .int .i64 x3), (30, .bool false), (36, .int .i64 x9.Time.Sec), (42, .int .i64 x10.Time.Nsec), (45, .ptr (some (i2, x3.toNat * 14)))] H (fun fr => by kernel_rfl) (fun fr => .of (s_ixL (s := rowS rqw1 x1.length) (by kernel_rfl) hx)) ?_
            intro fr t H
            refine at_seg [(18, []), (19, [])] [(0, vs e_S_api_Member p0), (5, rowV r2 x2.length), (6, rowV rqw1 x1.length), (7, .int .i64 x3), (30, .bool false), (36, .int .i64 x9.Time.Sec), (42, .int .i64 x10.Time.Nsec), (47, .ptr (some (i2, x3.toNat * 14 + 10)))] H (noU_all rfl) (fun fr => by kernel_rfl) ?_
            intro fr H
            refine at_step (v := .int .i64 x11.Time.Sec) (h1 := h5) [(0, vs e_S_api_Member p0), (5, rowV r2 x2.length), (6, rowV rqw1 x1.length), (7, .int .i64 x3), (30, .bool false), (36, .int .i64 x9.Time.Sec), (42, .int .i64 x10.Time.Nsec), (48, .int .i64 x11.Time.Sec)] H (fun fr => by kernel_rfl) (fun fr => .of (s_ld (by kernel_rfl) (row_ld1 enc_S_api_Member (HH.row A 0 rfl er2) hq2 (o := 10) rfl))) ?_
            intro fr t H
            refine at_seg [(21, []), (22, [])] [(0, vs e_S_api_Member p0), (5, rowV r2 x2.length), (6, rowV rqw1 x1.length), (7, .int .i64 x3), (30, .bool false), (36, .int .i64 x9.Time.Sec), (42, .int .i64 x10.Time.Nsec), (48, .int .i64 x11.Time.Sec), (49, rowV rqw1 x1.length), (50, .int .i64 x3)] H (noU_all rfl) (fun fr => by kernel_rfl) ?_
            intro fr H
            obtain ⟨x12, hx, hm⟩ := bind_some hm
            obtain ⟨i3, er3, _, hx, hq3⟩ := HH.ixO enc_S_api_Member (by decide) A 0 (xs := x1) rfl hx
            refine at_step (v := .ptr (some (i3, x3.toNat * 14))) (h1 := h5) [(0, vs e_S_api_Member p0), (5, rowV r2 x2.length), (6, rowV rqw1 x1.length), (7, .int .i64 x3), (30, .bool false), (36, .int .i64 x9.Time.Sec), (42, .int .i64 x10.Time.Nsec), (48, .int .i64 x11.Time.Sec), (51, .ptr (some (i3, x3.toNat * 14)))] H (fun fr => by kernel_rfl) (fun fr => .of (s_ixL (s := rowS rqw1 x1.length) (by kernel_rfl) hx)) ?_
            intro fr t H
            refine at_seg [(24, []), (25, [])] [(0, vs e_S_api_Member p0), (5, rowV r2 x2.length), (6, rowV rqw1 x1.length), (7, .int .i64 x3), (30, .bool false), (36, .int .i64 x9.Time.Sec), (42, .int .i64 x10.Time.Nsec), (48, .int .i64 x11.Time.Sec), (53, .ptr (some (i3, x3.toNat * 14 + 11)))] H (noU_all rfl) (fun fr => by kernel_rfl) ?_
            intro fr H
            refine at_step (v := .int .i64 x12.Time.Nsec) (h1 := h5) [(0, vs e_S_api_Member p0), (5, rowV r2 x2.length), (6, rowV rqw1 x1.length), (7, .int .i64 x3), (30, .bool false), (36, .int .i64 x9.Time.Sec), (42, .int .i64 x10.Time.Nsec), (48, .int .i64 x11.Time.Sec), (54, .int .i64 x12.Time.Nsec)] H (fun fr => by kernel_rfl) (fun fr => .of (s_ld (by kernel_rfl) (row_ld1 enc_S_api_Member (HH.row A 0 rfl er3) hq3 (o := 11) rfl))) ?_
            intro fr t H
            have A1 := A.cut 0
            obtain ⟨x13, hx, hm⟩ := bind_some hm
            obtain ⟨v1, h7, hr, rfl, A1⟩ := ok_boulterref04_Cmp (av := [.int .i64 x9.Time.Sec, .int .i64 x10.Time.Nsec, .int .i64 x11.Time.Sec, .int .i64 x12.Time.Nsec]) hx (by kernel_rfl) A1
            replace A : HH g h7 [.lst rqw1 63 (lst e_S_api_Member x1), .lst r2 63 (lst e_S_api_Member x2)] F := A.glue0 (n := 0) A1
            refine at_step (v := .int .i64 x13) (h1 := h7) [(0, vs e_S_api_Member p0), (5, rowV r2 x2.length), (6, rowV rqw1 x1.length), (7, .int .i64 x3), (30, .bool false), (55, .int .i64 x13)] H (fun fr => by kernel_rfl) (fun fr => Steps.call (by kernel_rfl) hr) ?_
            intro fr t H
            refine at_seg [(28, []), (29, [])] [(0, vs e_S_api_Member p0), (5, rowV r2 x2.length), (6, rowV rqw1 x1.length), (7, .int .i64 x3), (57, .bool (decide (x13 < (0 : Int))))] H (noU_all rfl) (fun fr => by kernel_rfl) ?_
            intro fr H
            have e1 := Option.some.inj hm
            subst e1
            exact at_nil ⟨H.less _ (fun fr => by kernel_rfl), A⟩
        · clear A
          intro t fr h6 hK
          obtain ⟨H, A⟩ := hK
          refine at_nil ?_
          show AW cfg 35 g (right (right (left (left (right (left (left (right (left (right (right (right (right (bodyC cfg.P 35)))))))))))))) fr h6 _
          rcases iteB_some hm with ⟨hb, hm⟩ | ⟨hb, hm⟩
          · replace H := H.know 57 hb (by kernel_rfl)
            refine aw_true (x := .tmp 57) (by kernel_rfl) H (fun fr => by kernel_rfl) ?_
            refine aw_reg (id := 9) (n := 8) [(0, []), (1, []), (2, []), (3, []), (4, []), (5, []), (6, []), (7, [])] (by kernel_rfl) (by kernel_rfl) ?_
            refine at_seg [(0, []), (1, []), (2, [])] [(0, vs e_S_api_Member p0), (6, rowV rqw1 x1.length), (7, .int .i64 x3), (58, rowV r2 x2.length), (59, rowV rqw1 x1.length), (60, .int .i64 x3)] H (noU_all rfl) (fun fr => by kernel_rfl) ?_
            intro fr H
            obtain ⟨x14, hx, hm⟩ := bind_some hm
            obtain ⟨i4, er4, _, hx, hq4⟩ := HH.ixO enc_S_api_Member (by decide) A 0 (xs := x1) rfl hx
            refine at_step (v := .ptr (some (i4, x3.toNat * 14))) (h1 := h6) [(0, vs e_S_api_Member p0), (6, rowV rqw1 x1.length), (7, .int .i64 x3), (58, rowV r2 x2.length), (61, .ptr (some (i4, x3.toNat * 14)))] H (fun fr => by kernel_rfl) (fun fr => .of (s_ixL (s := rowS rqw1 x1.length) (by kernel_rfl) hx)) ?_
            intro fr t H
            refine at_step (v := .agg (e_S_api_Member x14)) (h1 := h6) [(0, vs e_S_api_Member p0), (6, rowV rqw1 x1.length), (7, .int .i64 x3), (58, rowV r2 x2.length), (62, .agg (e_S_api_Member x14))] H (fun fr => by kernel_rfl) (fun fr => .of (s_ldA (by kernel_rfl) (row_ldA enc_S_api_Member (HH.row A 0 rfl er4) hq4 0 14 (Nat.le_of_ble_eq_true rfl)))) ?_
            intro fr t H
            obtain ⟨h8, e2⟩ : ∃ x, x = h6.push (.cells (some 63) 2 [.str x14.Name, .str x14.Link, .int .u8 x14.Kind, .int .i64 x14.Mode, .int .i64 x14.Uid, .int .i64 x14.Gid, .str x14.Uname, .str x14.Gname, .int .i64 x14.Major, .int .i64 x14.Minor, .int .i64 x14.Time.Sec, .int .i64 x14.Time.Nsec, vs e_S_api_Pair x14.Extra, .str x14.Data]) := ⟨_, rfl⟩
            replace A := (A.pushL _ _).to e2
            refine at_step (v := rowV (some h6.size) (([x14] : List S_api_Member).length)) (h1 := h8) [(0, vs e_S_api_Member p0), (6, rowV rqw1 x1.length), (7, .int .i64 x3), (58, rowV r2 x2.length), (63, rowV (some h6.size) (([x14] : List S_api_Member).length))] H (fun fr => by kernel_rfl) (fun fr => .of (s_n' (by kernel_rfl) (congrArg some e2.symm))) ?_
            intro fr t H
            obtain ⟨hb, hm⟩ := need_some hm
            obtain ⟨r5, h9, hx, A1⟩ := HH.appO enc_S_api_Member (by decide) A 2 (xs := x2) (ys := ([x14] : List S_api_Member)) rfl (row_first A 0 rfl (n := ([x14] : List S_api_Member).length) (z := 14) rfl (by decide)) rfl rfl hb
            replace A : HH g h9 [.lst (some h6.size) 63 ([.str x14.Name, .str x14.Link, .int .u8 x14.Kind, .int .i64 x14.Mode, .int .i64 x14.Uid, .int .i64 x14.Gid, .str x14.Uname, .str x14.Gname, .int .i64 x14.Major, .int .i64 x14.Minor, .int .i64 x14.Time.Sec, .int .i64 x14.Time.Nsec, vs e_S_api_Pair x14.Extra, .str x14.Data]), .lst rqw1 63 (lst e_S_api_Member x1), .lst r5 63 (lst e_S_api_Member (x2 ++ ([x14] : List S_api_Member)))] F := A1
            replace A : HH g h9 [.lst rqw1 63 (lst e_S_api_Member x1), .lst r5 63 (lst e_S_api_Member (x2 ++ ([x14] : List S_api_Member)))] F := (HH.dropF ((A.front 2 rfl).front 2 rfl) 2)
            refine at_step (v := rowV r5 ((x2 ++ ([x14] : List S_api_Member)).length)) (h1 := h9) [(0, vs e_S_api_Member p0), (6, rowV rqw1 x1.length), (7, .int .i64 x3), (64, rowV r5 ((x2 ++ ([x14] : List S_api_Member)).length))] H (fun fr => by kernel_rfl) (fun fr => .of (s_app (s := rowS r2 x2.length) (by kernel_rfl) hx)) ?_
            intro fr t H
            refine at_seg [(7, [])] [(0, vs e_S_api_Member p0), (5, rowV r5 ((x2 ++ ([x14] : List S_api_Member)).length)), (6, rowV rqw1 x1.length), (7, .int .i64 x3)] H (noU_all rfl) (fun fr => by kernel_rfl) ?_
            intro fr H
            refine at_nil ?_
            exact Or.inl ⟨(x2 ++ ([x14] : List S_api_Member)), rfl, Option.some.inj hm, r5, H.less _ (fun fr => by kernel_rfl), A⟩
          · replace H := H.know 57 hb (by kernel_rfl)
            refine aw_false (x := .tmp 57) (by kernel_rfl) H (fun fr => by kernel_rfl) ?_
            refine aw_skip (by kernel_rfl) ?_
            exact Or.inl ⟨x2, rfl, Option.some.inj hm, r2, H.less _ (fun fr => by kernel_rfl), A⟩
      · clear ho
        clear A
        intro e fr h10 hQ
        rcases hQ with ⟨x5, rfl, rfl, r4, H, A⟩ | hF
        · skip
          show AW cfg 35 g (right (right (left (left (right (left (right (right (right (right (bodyC cfg.P 35))))))))))) fr h10 _
          refine aw_reg (id := 6) (n := 3) [(0, []), (1, []), (2, [])] (by kernel_rfl) (by kernel_rfl) ?_
          refine at_seg [(0, []), (1, []), (2, [])] [(0, vs e_S_api_Member p0), (5, rowV r4 x5.length), (6, rowV rqw1 x1.length), (7, .int .i64 (IntKind.i64.wrap (x3 + (1 : Int))))] H (noU_all rfl) (fun fr => by kernel_rfl) ?_
          intro fr H
          refine at_nil ?_
          exact Exists.intro (x5, IntKind.i64.wrap (x3 + (1 : Int))) (And.intro (Option.some.inj hm).symm ⟨x5, IntKind.i64.wrap (x3 + (1 : Int)), rfl, r4, H.less _ (fun fr => by kernel_rfl), A⟩)
        · exact hF.elim
    · replace H := H.know 18 hb (by kernel_rfl)
      refine aw_false (x := .tmp 18) (by kernel_rfl) H (fun fr => by kernel_rfl) ?_
      refine aw_exit (i := 0) (by kernel_rfl) ?_
      replace A : HH g h4 [.lst r2 63 (lst e_S_api_Member x2)] F := (HH.dropF (A.front 1 rfl) 1)
      exact Exists.intro _ (And.intro (Option.some.inj hm).symm (fun e => Or.inl ⟨x2, rfl, e, r2, H.less _ (fun fr => by kernel_rfl), A⟩))
  · clear ho
    clear A
    intro e fr h11 hQ
    rcases hQ with ⟨x4, rfl, rfl, r3, H, A⟩ | hF
    · skip
      show AW cfg 35 g (right (right (right (right (right (bodyC cfg.P 35)))))) fr h11 _
      refine aw_seq (by kernel_rfl) ?_
      refine aw_reg (id := 10) (n := 3) [(0, []), (1, []), (2, [])] (by kernel_rfl) (by kernel_rfl) ?_
      refine at_seg [(0, [])] [(65, rowV r3 x4.length)] H (noU_all rfl) (fun fr => by kernel_rfl) ?_
      intro fr H
      have A1 := A.cut 1
      obtain ⟨x15, hx, hm⟩ := bind_some hm
      obtain ⟨v1, h12, hr, rqw4, rfl, A1⟩ := ok_boulterref38_Last_sO (av := [rowV r3 x4.length]) hx (by kernel_rfl) A1
      replace A : HH g h12 [.lst rqw4 63 (lst e_S_api_Member x15), .lst r3 63 (lst e_S_api_Member x4)] F := A.glue0 (n := 1) A1
      refine at_step (v := rowV rqw4 x15.length) (h1 := h12) [(66, rowV rqw4 x15.length)] H (fun fr => by kernel_rfl) (fun fr => Steps.call (by kernel_rfl) hr) ?_
      intro fr t H
      refine at_seg [(2, [])] [(4, rowV rqw4 x15.length)] H (noU_all rfl) (fun fr => by kernel_rfl) ?_
      intro fr H
      refine at_nil ?_
      show AW cfg 35 g (right (right (right (right (right (right (bodyC cfg.P 35))))))) fr h12 _
      refine aw_ret (by kernel_rfl) ?_
      have e1 := Option.some.inj hm
      subst e1
      refine ⟨.inl rfl, rowV rqw4 x15.length, resH H (fun fr => by kernel_rfl), ?_⟩
      replace A : HH g h12 [.lst rqw4 63 (lst e_S_api_Member x15)] F := (HH.dropF (A.front 0 rfl) 1)
      exact ⟨rqw4, rfl, A⟩
    · exact hF.elim
/-! ### boulter/boulterlaw38.DeltaLists -/
noncomputable def M_boulterlaw38_DeltaLists (p0 : List S_api_Member) (p1 : List S_api_Member) : Option (Bool) :=
 (M_boulterlaw38_long p0).bind fun x1 => (iteB x1 (some true) ((M_boulterlaw38_long p1).bind fun x3 => some x3) : Option (Bool)).bind fun x2 => iteB x2 ((M_boulterlaw38_awake).bind fun x4 => some x4) (need (okN 168 (([] : List S_api_Member).length + p0.length)) <| need (okN 168 ((([] : List S_api_Member) ++ p0).length + p1.length)) <| (M_delta_Last p0).bind fun x5 => (M_boulterref38_Last p0).bind fun x6 => (M_boulterref12_Same_sOO x5 x6).bind fun x7 => (iteB x7 ((M_delta_Sorted p0).bind fun x9 => (M_boulterref38_Sorted p0).bind fun x10 => (M_boulterref12_Same_sOO x9 x10).bind fun x11 => some x11) (some false) : Option (Bool)).bind fun x8 => (iteB x8 ((M_delta_Update p0 p1).bind fun x13 => (M_boulterref38_Last_sO ((([] : List S_api_Member) ++ p0) ++ p1)).bind fun x14 => (M_boulterref12_Same_sVO x13 x14).bind fun x15 => some x15) (some false) : Option (Bool)).bind fun x12 => (iteB x12 ((M_delta_Newer p0 p1).bind fun x17 => (M_boulterref38_Newer p0 p1).bind fun x18 => (M_boulterref12_Same_sOO x17 x18).bind fun x19 => some x19) (some false) : Option (Bool)).bind fun x16 => (iteB x16 ((M_boulterlaw38_awake).bind fun x21 => some x21) (some false) : Option (Bool)).bind fun x20 => some x20)
theorem ok_boulterlaw38_DeltaLists {g : Gd} {h : AHeap} {F : List Ck} {p0 : List S_api_Member} {p1 : List S_api_Member} {q0 : Bool} {av : List AVal} (hm : M_boulterlaw38_DeltaLists p0 p1 = some q0) (hc : canL (cfg.still 8) av = [vs e_S_api_Member p0, vs e_S_api_Member p1]) (A : HH g h [] F) : ∃ v h', Runs cfg g h 8 av v h' ∧ v = .bool q0 ∧ HH g h' [] F := by
  refine runsQ1 (n := 50) (rs := [.tmp 4]) (by kernel_rfl) hc (by kernel_rfl) ?_
  clear hc
  unfold M_boulterlaw38_DeltaLists at hm
  refine start (n := 50) [(0, vs e_S_api_Member p0), (1, vs e_S_api_Member p1)] (by kernel_rfl) (by kernel_rfl) ?_
  intro fr H
  refine aw_seq (by kernel_rfl) ?_
  refine aw_reg (id := 0) (n := 1) [(0, [])] (by kernel_rfl) (by kernel_rfl) ?_
  refine at_seg [(0, [])] [(0, vs e_S_api_Member p0), (1, vs e_S_api_Member p1)] H (noU_all rfl) (fun fr => by kernel_rfl) ?_
  intro fr H
  refine at_nil ?_
  show AW cfg 8 g (right (bodyC cfg.P 8)) fr h _
  refine aw_seq (by kernel_rfl) ?_
  refine aw_seq (by kernel_rfl) ?_
  refine aw_reg (id := 1) (n := 6) [(0, []), (1, []), (2, []), (3, []), (4, []), (5, [])] (by kernel_rfl) (by kernel_rfl) ?_
  refine at_seg [(0, [])] [(0, vs e_S_api_Member p0), (1, vs e_S_api_Member p1), (6, vs e_S_api_Member p0)] H (noU_all rfl) (fun fr => by kernel_rfl) ?_
  intro fr H
  have A1 := A.cut 0
  obtain ⟨x1, hx, hm⟩ := bind_some hm
  obtain ⟨v1, h1, hr, rfl, A1⟩ := ok_boulterlaw38_long (av := [vs e_S_api_Member p0]) hx (by kernel_rfl) A1
  replace A : HH g h1 [] F := A.glue0 (n := 0) A1
  refine at_step (v := .bool x1) (h1 := h1) [(0, vs e_S_api_Member p0), (1, vs e_S_api_Member p1), (7, .bool x1)] H (fun fr => by kernel_rfl) (fun fr => Steps.call (by kernel_rfl) hr) ?_
  intro fr t H
  refine at_seg [(2, [])] [(0, vs e_S_api_Member p0), (1, vs e_S_api_Member p1), (8, .bool x1)] H (noU_all rfl) (fun fr => by kernel_rfl) ?_
  intro fr H
  obtain ⟨x2, ho, hm⟩ := bind_some hm
  refine at_cut [(3, []), (4, []), (5, [])] (fun fr' h' => Has fr' 50 [(0, vs e_S_api_Member p0), (1, vs e_S_api_Member p1), (11, .bool x2)] ∧ HH g h' [] F) ?_ ?_
  · rcases iteB_some ho with ⟨hb, hm⟩ | ⟨hb, hm⟩
    · replace H := H.know 8 hb (by kernel_rfl)
      refine at_seg [(3, []), (4, []), (5, [])] [(0, vs e_S_api_Member p0), (1, vs e_S_api_Member p1), (11, .bool true)] H (noU_all rfl) (fun fr => by kernel_rfl) ?_
      intro fr H
      have e1 := Option.some.inj hm
      subst e1
      exact at_nil ⟨H.less _ (fun fr => by kernel_rfl), A⟩
    · replace H := H.know 8 hb (by kernel_rfl)
      refine at_seg [(3, [])] [(0, vs e_S_api_Member p0), (1, vs e_S_api_Member p1), (8, .bool false), (9, vs e_S_api_Member p1)] H (noU_all rfl) (fun fr => by kernel_rfl) ?_
      intro fr H
      have A1 := A.cut 0
      obtain ⟨x3, hx, hm⟩ := bind_some hm
      obtain ⟨v1, h3, hr, rfl, A1⟩ := ok_boulterlaw38_long (av := [vs e_S_api_Member p1]) hx (by kernel_rfl) A1
      replace A : HH g h3 [] F := A.glue0 (n := 0) A1
      refine at_step (v := .bool x3) (h1 := h3) [(0, vs e_S_api_Member p0), (1, vs e_S_api_Member p1), (8, .bool false), (10, .bool x3)] H (fun fr => by kernel_rfl) (fun fr => Steps.call (by kernel_rfl) hr) ?_
      intro fr t H
      refine at_seg [(5, [])] [(0, vs e_S_api_Member p0), (1, vs e_S_api_Member p1), (11, .bool x3)] H (noU_all rfl) (fun fr => by kernel_rfl) ?_
      intro fr H
      have e1 := Option.some.inj hm
      subst e1
      exact at_nil ⟨H.less _ (fun fr => by kernel_rfl), A⟩
  · clear A
    intro t fr h2 hK
    obtain ⟨H, A⟩ := hK
    refine at_nil ?_
    show AW cfg 8 g (right (left (right (bodyC cfg.P 8)))) fr h2 _
    rcases iteB_some hm with ⟨hb, hm⟩ | ⟨hb, hm⟩
    · replace H := H.know 11 hb (by kernel_rfl)
      refine aw_true (x := .tmp 11) (by kernel_rfl) H (fun fr => by kernel_rfl) ?_
      refine aw_seq (by kernel_rfl) ?_
      refine aw_reg (id := 2) (n := 2) [(0, []), (1, [])] (by kernel_rfl) (by kernel_rfl) ?_
      obtain ⟨x4, hx, hm⟩ := bind_some hm
      refine at_step (v := .bool x4) (h1 := h2) [(12, .bool x4)] H (fun fr => by kernel_rfl) (fun fr => Steps.call (by kernel_rfl) (ok_boulterlaw38_awake hx)) ?_
      intro fr t H
      refine at_seg [(1, [])] [(4, .bool x4)] H (noU_all rfl) (fun fr => by kernel_rfl) ?_
      intro fr H
      refine at_nil ?_
      show AW cfg 8 g (right (left (right (left (right (bodyC cfg.P 8)))))) fr h2 _
      refine aw_ret (by kernel_rfl) ?_
      have e1 := Option.some.inj hm
      subst e1
      refine ⟨.inl rfl, .bool x4, resH H (fun fr => by kernel_rfl), ?_⟩
      exact ⟨rfl, A⟩
    · replace H := H.know 11 hb (by kernel_rfl)
      refine aw_false (x := .tmp 11) (by kernel_rfl) H (fun fr => by kernel_rfl) ?_
      refine aw_skip (by kernel_rfl) ?_
      show AW cfg 8 g (right (right (bodyC cfg.P 8))) fr h2 _
      refine aw_seq (by kernel_rfl) ?_
      refine aw_reg (id := 3) (n := 6) [(0, []), (1, []), (2, []), (3, []), (4, []), (5, [])] (by kernel_rfl) (by kernel_rfl) ?_
      obtain ⟨h4, e1⟩ : ∃ x, x = h2.push (.cells (some 63) 2 []) := ⟨_, rfl⟩
      replace A := (A.pushL _ _).to e1
      refine at_step (v := rowV (some h2.size) (([] : List S_api_Member).length)) (h1 := h4) [(0, vs e_S_api_Member p0), (1, vs e_S_api_Member p1), (13, rowV (some h2.size) (([] : List S_api_Member).length))] H (fun fr => by kernel_rfl) (fun fr => .of (s_n' (by kernel_rfl) (congrArg some e1.symm))) ?_
      intro fr t H
      refine at_seg [(1, [])] [(0, vs e_S_api_Member p0), (1, vs e_S_api_Member p1), (13, rowV (some h2.size) (([] : List S_api_Member).length)), (14, vs e_S_api_Member p0)] H (noU_all rfl) (fun fr => by kernel_rfl) ?_
      intro fr H
      replace A : HH g h4 [.lst (some h2.size) 63 (lst e_S_api_Member ([] : List S_api_Member))] F := A
      obtain ⟨hb, hm⟩ := need_some hm
      obtain ⟨r1, h5, hx, A1⟩ := HH.appO enc_S_api_Member (by decide) A 0 (xs := ([] : List S_api_Member)) (ys := p0) rfl (firstV enc_S_api_Member _ p0) (enc_S_api_Member.canL _) rfl hb
      replace A : HH g h5 [.lst r1 63 (lst e_S_api_Member (([] : List S_api_Member) ++ p0))] F := A1
      refine at_step (v := rowV r1 ((([] : List S_api_Member) ++ p0).length)) (h1 := h5) [(0, vs e_S_api_Member p0), (1, vs e_S_api_Member p1), (15, rowV r1 ((([] : List S_api_Member) ++ p0).length))] H (fun fr => by kernel_rfl) (fun fr => .of (s_app (s := rowS (some h2.size) (([] : List S_api_Member).length)) (by kernel_rfl) hx)) ?_
      intro fr t H
      refine at_seg [(3, [])] [(0, vs e_S_api_Member p0), (1, vs e_S_api_Member p1), (15, rowV r1 ((([] : List S_api_Member) ++ p0).length)), (16, vs e_S_api_Member p1)] H (noU_all rfl) (fun fr => by kernel_rfl) ?_
      intro fr H
      obtain ⟨hb, hm⟩ := need_some hm
      obtain ⟨r2, h6, hx, A1⟩ := HH.appO enc_S_api_Member (by decide) A 0 (xs := (([] : List S_api_Member) ++ p0)) (ys := p1) rfl (firstV enc_S_api_Member _ p1) (enc_S_api_Member.canL _) rfl hb
      replace A : HH g h6 [.lst r2 63 (lst e_S_api_Member ((([] : List S_api_Member) ++ p0) ++ p1))] F := A1
      refine at_step (v := rowV r2 (((([] : List S_api_Member) ++ p0) ++ p1).length)) (h1 := h6) [(0, vs e_S_api_Member p0), (1, vs e_S_api_Member p1), (17, rowV r2 (((([] : List S_api_Member) ++ p0) ++ p1).length))] H (fun fr => by kernel_rfl) (fun fr => .of (s_app (s := rowS r1 ((([] : List S_api_Member) ++ p0).length)) (by kernel_rfl) hx)) ?_
      intro fr t H
      refine at_seg [(5, [])] [(0, vs e_S_api_Member p0), (1, vs e_S_api_Member p1), (5, rowV r2 (((([] : List S_api_Member) ++ p0) ++ p1).length))] H (noU_all rfl) (fun fr => by kernel_rfl) ?_
      intro fr H
      refine at_nil ?_
      show AW cfg 8 g (right (right (right (bodyC cfg.P 8)))) fr h6 _
      refine aw_seq (by kernel_rfl) ?_
      refine aw_reg (id := 4) (n := 33) [(0, []), (1, []), (2, []), (3, []), (4, []), (5, []), (6, []), (7, []), (8, []), (9, []), (10, []), (11, []), (12, []), (13, []), (14, []), (15, []), (16, []), (17, []), (18, []), (19, []), (20, []), (21, []), (22, []), (23, []), (24, []), (25, []), (26, []), (27, []), (28, []), (29, []), (30, []), (31, []), (32, [])] (by kernel_rfl) (by kernel_rfl) ?_
      refine at_seg [(0, [])] [(0, vs e_S_api_Member p0), (1, vs e_S_api_Member p1), (5, rowV r2 (((([] : List S_api_Member) ++ p0) ++ p1).length)), (18, vs e_S_api_Member p0)] H (noU_all rfl) (fun fr => by kernel_rfl) ?_
      intro fr H
      have A1 := A.cut 0
      obtain ⟨x5, hx, hm⟩ := bind_some hm
      obtain ⟨v1, h7, hr, rqw3, rfl, A1⟩ := ok_delta_Last (av := [vs e_S_api_Member p0]) hx (by kernel_rfl) A1
      replace A : HH g h7 [.lst rqw3 63 (lst e_S_api_Member x5), .lst r2 63 (lst e_S_api_Member ((([] : List S_api_Member) ++ p0) ++ p1))] F := A.glue0 (n := 0) A1
      refine at_step (v := rowV rqw3 x5.length) (h1 := h7) [(0, vs e_S_api_Member p0), (1, vs e_S_api_Member p1), (5, rowV r2 (((([] : List S_api_Member) ++ p0) ++ p1).length)), (19, rowV rqw3 x5.length)] H (fun fr => by kernel_rfl) (fun fr => Steps.call (by kernel_rfl) hr) ?_
      intro fr t H
      refine at_seg [(2, [])] [(0, vs e_S_api_Member p0), (1, vs e_S_api_Member p1), (5, rowV r2 (((([] : List S_api_Member) ++ p0) ++ p1).length)), (19, rowV rqw3 x5.length), (20, vs e_S_api_Member p0)] H (noU_all rfl) (fun fr => by kernel_rfl) ?_
      intro fr H
      have A1 := A.cut 0
      obtain ⟨x6, hx, hm⟩ := bind_some hm
      obtain ⟨v1, h8, hr, rqw4, rfl, A1⟩ := ok_boulterref38_Last (av := [vs e_S_api_Member p0]) hx (by kernel_rfl) A1
      replace A : HH g h8 [.lst rqw4 63 (lst e_S_api_Member x6), .lst rqw3 63 (lst e_S_api_Member x5), .lst r2 63 (lst e_S_api_Member ((([] : List S_api_Member) ++ p0) ++ p1))] F := A.glue0 (n := 0) A1
      refine at_step (v := rowV rqw4 x6.length) (h1 := h8) [(0, vs e_S_api_Member p0), (1, vs e_S_api_Member p1), (5, rowV r2 (((([] : List S_api_Member) ++ p0) ++ p1).length)), (19, rowV rqw3 x5.length), (21, rowV rqw4 x6.length)] H (fun fr => by kernel_rfl) (fun fr => Steps.call (by kernel_rfl) hr) ?_
      intro fr t H
      replace A : HH g h8 [.lst rqw3 63 (lst e_S_api_Member x5), .lst rqw4 63 (lst e_S_api_Member x6), .lst r2 63 (lst e_S_api_Member ((([] : List S_api_Member) ++ p0) ++ p1))] F := ((A.front 0 rfl).front 1 rfl)
      have A1 := A.cut 2
      obtain ⟨x7, hx, hm⟩ := bind_some hm
      obtain ⟨v1, h9, hr, rfl, A1⟩ := ok_boulterref12_Same_sOO (av := [rowV rqw3 x5.length, rowV rqw4 x6.length]) hx (by kernel_rfl) A1
      replace A : HH g h9 [.lst rqw3 63 (lst e_S_api_Member x5), .lst rqw4 63 (lst e_S_api_Member x6), .lst r2 63 (lst e_S_api_Member ((([] : List S_api_Member) ++ p0) ++ p1))] F := A.glue0 (n := 2) A1
      refine at_step (v := .bool x7) (h1 := h9) [(0, vs e_S_api_Member p0), (1, vs e_S_api_Member p1), (5, rowV r2 (((([] : List S_api_Member) ++ p0) ++ p1).length)), (22, .bool x7)] H (fun fr => by kernel_rfl) (fun fr => Steps.call (by kernel_rfl) hr) ?_
      intro fr t H
      refine at_seg [(5, [])] [(0, vs e_S_api_Member p0), (1, vs e_S_api_Member p1), (5, rowV r2 (((([] : List S_api_Member) ++ p0) ++ p1).length)), (23, .bool x7)] H (noU_all rfl) (fun fr => by kernel_rfl) ?_
      intro fr H
      obtain ⟨x8, ho, hm⟩ := bind_some hm
      refine at_cut [(6, []), (7, []), (8, []), (9, []), (10, []), (11, [])] (fun fr' h' => Has fr' 50 [(0, vs e_S_api_Member p0), (1, vs e_S_api_Member p1), (5, rowV r2 (((([] : List S_api_Member) ++ p0) ++ p1).length)), (29, .bool x8)] ∧ HH g h' [.lst r2 63 (lst e_S_api_Member ((([] : List S_api_Member) ++ p0) ++ p1))] F) ?_ ?_
      · rcases iteB_some ho with ⟨hb, hm⟩ | ⟨hb, hm⟩
        · replace H := H.know 23 hb (by kernel_rfl)
          refine at_seg [(6, [])] [(0, vs e_S_api_Member p0), (1, vs e_S_api_Member p1), (5, rowV r2 (((([] : List S_api_Member) ++ p0) ++ p1).length)), (23, .bool true), (24, vs e_S_api_Member p0)] H (noU_all rfl) (fun fr => by kernel_rfl) ?_
          intro fr H
          have A1 := A.cut 0
          obtain ⟨x9, hx, hm⟩ := bind_some hm
          obtain ⟨v1, h11, hr, rqw6, rfl, A1⟩ := ok_delta_Sorted (av := [vs e_S_api_Member p0]) hx (by kernel_rfl) A1
          replace A : HH g h11 [.lst rqw6 63 (lst e_S_api_Member x9), .lst rqw3 63 (lst e_S_api_Member x5), .lst rqw4 63 (lst e_S_api_Member x6), .lst r2 63 (lst e_S_api_Member ((([] : List S_api_Member) ++ p0) ++ p1))] F := A.glue0 (n := 0) A1
          refine at_step (v := rowV rqw6 x9.length) (h1 := h11) [(0, vs e_S_api_Member p0), (1, vs e_S_api_Member p1), (5, rowV r2 (((([] : List S_api_Member) ++ p0) ++ p1).length)), (23, .bool true), (25, rowV rqw6 x9.length)] H (fun fr => by kernel_rfl) (fun fr => Steps.call (by kernel_rfl) hr) ?_
          intro fr t H
          refine at_seg [(8, [])] [(0, vs e_S_api_Member p0), (1, vs e_S_api_Member p1), (5, rowV r2 (((([] : List S_api_Member) ++ p0) ++ p1).length)), (23, .bool true), (25, rowV rqw6 x9.length), (26, vs e_S_api_Member p0)] H (noU_all rfl) (fun fr => by kernel_rfl) ?_
          intro fr H
          have A1 := A.cut 0
          obtain ⟨x10, hx, hm⟩ := bind_some hm
          obtain ⟨v1, h12, hr, rqw7, rfl, A1⟩ := ok_boulterref38_Sorted (av := [vs e_S_api_Member p0]) hx (by kernel_rfl) A1
          replace A : HH g h12 [.lst rqw7 63 (lst e_S_api_Member x10), .lst rqw6 63 (lst e_S_api_Member x9), .lst rqw3 63 (lst e_S_api_Member x5), .lst rqw4 63 (lst e_S_api_Member x6), .lst r2 63 (lst e_S_api_Member ((([] : List S_api_Member) ++ p0) ++ p1))] F := A.glue0 (n := 0) A1
          refine at_step (v := rowV rqw7 x10.length) (h1 := h12) [(0, vs e_S_api_Member p0), (1, vs e_S_api_Member p1), (5, rowV r2 (((([] : List S_api_Member) ++ p0) ++ p1).length)), (23, .bool true), (25, rowV rqw6 x9.length), (27, rowV rqw7 x10.length)] H (fun fr => by kernel_rfl) (fun fr => Steps.call (by kernel_rfl) hr) ?_
          intro fr t H
          replace A : HH g h12 [.lst rqw6 63 (lst e_S_api_Member x9), .lst rqw7 63 (lst e_S_api_Member x10), .lst rqw3 63 (lst e_S_api_Member x5), .lst rqw4 63 (lst e_S_api_Member x6), .lst r2 63 (lst e_S_api_Member ((([] : List S_api_Member) ++ p0) ++ p1))] F := ((A.front 0 rfl).front 1 rfl)
          have A1 := A.cut 2
          obtain ⟨x11, hx, hm⟩ := bind_some hm
          obtain ⟨v1, h13, hr, rfl, A1⟩ := ok_boulterref12_Same_sOO (av := [rowV rqw6 x9.length, rowV rqw7 x10.length]) hx (by kernel_rfl) A1
          replace A : HH g h13 [.lst rqw6 63 (lst e_S_api_Member x9), .lst rqw7 63 (lst e_S_api_Member x10), .lst rqw3 63 (lst e_S_api_Member x5), .lst rqw4 63 (lst e_S_api_Member x6), .lst r2 63 (lst e_S_api_Member ((([] : List S_api_Member) ++ p0) ++ p1))] F := A.glue0 (n := 2) A1
          refine at_step (v := .bool x11) (h1 := h13) [(0, vs e_S_api_Member p0), (1, vs e_S_api_Member p1), (5, rowV r2 (((([] : List S_api_Member) ++ p0) ++ p1).length)), (23, .bool true), (28, .bool x11)] H (fun fr => by kernel_rfl) (fun fr => Steps.call (by kernel_rfl) hr) ?_
          intro fr t H
          refine at_seg [(11, [])] [(0, vs e_S_api_Member p0), (1, vs e_S_api_Member p1), (5, rowV r2 (((([] : List S_api_Member) ++ p0) ++ p1).length)), (29, .bool x11)] H (noU_all rfl) (fun fr => by kernel_rfl) ?_
          intro fr H
          have e1 := Option.some.inj hm
          subst e1
          replace A : HH g h13 [.lst r2 63 (lst e_S_api_Member ((([] : List S_api_Member) ++ p0) ++ p1))] F := (HH.dropF (A.front 4 rfl) 1)
          exact at_nil ⟨H.less _ (fun fr => by kernel_rfl), A⟩
        · replace H := H.know 23 hb (by kernel_rfl)
          refine at_seg [(6, []), (7, []), (8, []), (9, []), (10, []), (11, [])] [(0, vs e_S_api_Member p0), (1, vs e_S_api_Member p1), (5, rowV r2 (((([] : List S_api_Member) ++ p0) ++ p1).length)), (29, .bool false)] H (noU_all rfl) (fun fr => by kernel_rfl) ?_
          intro fr H
          have e1 := Option.some.inj hm
          subst e1
          replace A : HH g h9 [.lst r2 63 (lst e_S_api_Member ((([] : List S_api_Member) ++ p0) ++ p1))] F := (HH.dropF (A.front 2 rfl) 1)
          exact at_nil ⟨H.less _ (fun fr => by kernel_rfl), A⟩
      · clear A
        intro t fr h10 hK
        obtain ⟨H, A⟩ := hK
        refine at_seg [(12, [])] [(0, vs e_S_api_Member p0), (1, vs e_S_api_Member p1), (5, rowV r2 (((([] : List S_api_Member) ++ p0) ++ p1).length)), (30, .bool x8)] H (noU_all rfl) (fun fr => by kernel_rfl) ?_
        intro fr H
        obtain ⟨x12, ho, hm⟩ := bind_some hm
        refine at_cut [(13, []), (14, []), (15, []), (16, []), (17, []), (18, []), (19, [])] (fun fr' h' => Has fr' 50 [(0, vs e_S_api_Member p0), (1, vs e_S_api_Member p1), (37, .bool x12)] ∧ HH g h' [] F) ?_ ?_
        · rcases iteB_some ho with ⟨hb, hm⟩ | ⟨hb, hm⟩
          · replace H := H.know 30 hb (by kernel_rfl)
            refine at_seg [(13, []), (14, [])] [(0, vs e_S_api_Member p0), (1, vs e_S_api_Member p1), (5, rowV r2 (((([] : List S_api_Member) ++ p0) ++ p1).length)), (30, .bool true), (31, vs e_S_api_Member p0), (32, vs e_S_api_Member p1)] H (noU_all rfl) (fun fr => by kernel_rfl) ?_
            intro fr H
            have A1 := A.cut 0
            obtain ⟨x13, hx, hm⟩ := bind_some hm
            obtain ⟨v1, h15, hr, rfl, A1⟩ := ok_delta_Update (av := [vs e_S_api_Member p0, vs e_S_api_Member p1]) hx (by kernel_rfl) A1
            replace A : HH g h15 [.lst r2 63 (lst e_S_api_Member ((([] : List S_api_Member) ++ p0) ++ p1))] F := A.glue0 (n := 0) A1
            refine at_step (v := vs e_S_api_Member x13) (h1 := h15) [(0, vs e_S_api_Member p0), (1, vs e_S_api_Member p1), (5, rowV r2 (((([] : List S_api_Member) ++ p0) ++ p1).length)), (30, .bool true), (33, vs e_S_api_Member x13)] H (fun fr => by kernel_rfl) (fun fr => Steps.call (by kernel_rfl) hr) ?_
            intro fr t H
            refine at_seg [(16, [])] [(0, vs e_S_api_Member p0), (1, vs e_S_api_Member p1), (30, .bool true), (33, vs e_S_api_Member x13), (34, rowV r2 (((([] : List S_api_Member) ++ p0) ++ p1).length))] H (noU_all rfl) (fun fr => by kernel_rfl) ?_
            intro fr H
            have A1 := A.cut 1
            obtain ⟨x14, hx, hm⟩ := bind_some hm
            obtain ⟨v1, h16, hr, rqw10, rfl, A1⟩ := ok_boulterref38_Last_sO (av := [rowV r2 (((([] : List S_api_Member) ++ p0) ++ p1).length)]) hx (by kernel_rfl) A1
            replace A : HH g h16 [.lst rqw10 63 (lst e_S_api_Member x14), .lst r2 63 (lst e_S_api_Member ((([] : List S_api_Member) ++ p0) ++ p1))] F := A.glue0 (n := 1) A1
            refine at_step (v := rowV rqw10 x14.length) (h1 := h16) [(0, vs e_S_api_Member p0), (1, vs e_S_api_Member p1), (30, .bool true), (33, vs e_S_api_Member x13), (35, rowV rqw10 x14.length)] H (fun fr => by kernel_rfl) (fun fr => Steps.call (by kernel_rfl) hr) ?_
            intro fr t H
            have A1 := A.cut 1
            obtain ⟨x15, hx, hm⟩ := bind_some hm
            obtain ⟨v1, h17, hr, rfl, A1⟩ := ok_boulterref12_Same_sVO (av := [vs e_S_api_Member x13, rowV rqw10 x14.length]) hx (by kernel_rfl) A1
            replace A : HH g h17 [.lst rqw10 63 (lst e_S_api_Member x14), .lst r2 63 (lst e_S_api_Member ((([] : List S_api_Member) ++ p0) ++ p1))] F := A.glue0 (n := 1) A1
            refine at_step (v := .bool x15) (h1 := h17) [(0, vs e_S_api_Member p0), (1, vs e_S_api_Member p1), (30, .bool true), (36, .bool x15)] H (fun fr => by kernel_rfl) (fun fr => Steps.call (by kernel_rfl) hr) ?_
            intro fr t H
            refine at_seg [(19, [])] [(0, vs e_S_api_Member p0), (1, vs e_S_api_Member p1), (37, .bool x15)] H (noU_all rfl) (fun fr => by kernel_rfl) ?_
            intro fr H
            have e1 := Option.some.inj hm
            subst e1
            replace A : HH g h17 [] F := (HH.dropF A 0)
            exact at_nil ⟨H.less _ (fun fr => by kernel_rfl), A⟩
          · replace H := H.know 30 hb (by kernel_rfl)
            refine at_seg [(13, []), (14, []), (15, []), (16, []), (17, []), (18, []), (19, [])] [(0, vs e_S_api_Member p0), (1, vs e_S_api_Member p1), (37, .bool false)] H (noU_all rfl) (fun fr => by kernel_rfl) ?_
            intro fr H
            have e1 := Option.some.inj hm
            subst e1
            replace A : HH g h10 [] F := (HH.dropF A 0)
            exact at_nil ⟨H.less _ (fun fr => by kernel_rfl), A⟩
        · clear A
          intro t fr h14 hK
          obtain ⟨H, A⟩ := hK
          refine at_seg [(20, [])] [(0, vs e_S_api_Member p0), (1, vs e_S_api_Member p1), (38, .bool x12)] H (noU_all rfl) (fun fr => by kernel_rfl) ?_
          intro fr H
          obtain ⟨x16, ho, hm⟩ := bind_some hm
          refine at_cut [(21, []), (22, []), (23, []), (24, []), (25, []), (26, []), (27, []), (28, [])] (fun fr' h' => Has fr' 50 [(46, .bool x16)] ∧ HH g h' [] F) ?_ ?_
          · rcases iteB_some ho with ⟨hb, hm⟩ | ⟨hb, hm⟩
            · replace H := H.know 38 hb (by kernel_rfl)
              refine at_seg [(21, []), (22, [])] [(0, vs e_S_api_Member p0), (1, vs e_S_api_Member p1), (38, .bool true), (39, vs e_S_api_Member p0), (40, vs e_S_api_Member p1)] H (noU_all rfl) (fun fr => by kernel_rfl) ?_
              intro fr H
              have A1 := A.cut 0
              obtain ⟨x17, hx, hm⟩ := bind_some hm
              obtain ⟨v1, h19, hr, rqw12, rfl, A1⟩ := ok_delta_Newer (av := [vs e_S_api_Member p0, vs e_S_api_Member p1]) hx (by kernel_rfl) A1
              replace A : HH g h19 [.lst rqw12 63 (lst e_S_api_Member x17)] F := A.glue0 (n := 0) A1
              refine at_step (v := rowV rqw12 x17.length) (h1 := h19) [(0, vs e_S_api_Member p0), (1, vs e_S_api_Member p1), (38, .bool true), (41, rowV rqw12 x17.length)] H (fun fr => by kernel_rfl) (fun fr => Steps.call (by kernel_rfl) hr) ?_
              intro fr t H
              refine at_seg [(24, []), (25, [])] [(38, .bool true), (41, rowV rqw12 x17.length), (42, vs e_S_api_Member p0), (43, vs e_S_api_Member p1)] H (noU_all rfl) (fun fr => by kernel_rfl) ?_
              intro fr H
              have A1 := A.cut 0
              obtain ⟨x18, hx, hm⟩ := bind_some hm
              obtain ⟨v1, h20, hr, rqw13, rfl, A1⟩ := ok_boulterref38_Newer (av := [vs e_S_api_Member p0, vs e_S_api_Member p1]) hx (by kernel_rfl) A1
              replace A : HH g h20 [.lst rqw13 63 (lst e_S_api_Member x18), .lst rqw12 63 (lst e_S_api_Member x17)] F := A.glue0 (n := 0) A1
              refine at_step (v := rowV rqw13 x18.length) (h1 := h20) [(38, .bool true), (41, rowV rqw12 x17.length), (44, rowV rqw13 x18.length)] H (fun fr => by kernel_rfl) (fun fr => Steps.call (by kernel_rfl) hr) ?_
              intro fr t H
              replace A : HH g h20 [.lst rqw12 63 (lst e_S_api_Member x17), .lst rqw13 63 (lst e_S_api_Member x18)] F := ((A.front 0 rfl).front 1 rfl)
              have A1 := A.cut 2
              obtain ⟨x19, hx, hm⟩ := bind_some hm
              obtain ⟨v1, h21, hr, rfl, A1⟩ := ok_boulterref12_Same_sOO (av := [rowV rqw12 x17.length, rowV rqw13 x18.length]) hx (by kernel_rfl) A1
              replace A : HH g h21 [.lst rqw12 63 (lst e_S_api_Member x17), .lst rqw13 63 (lst e_S_api_Member x18)] F := A.glue0 (n := 2) A1
              refine at_step (v := .bool x19) (h1 := h21) [(38, .bool true), (45, .bool x19)] H (fun fr => by kernel_rfl) (fun fr => Steps.call (by kernel_rfl) hr) ?_
              intro fr t H
              refine at_seg [(28, [])] [(46, .bool x19)] H (noU_all rfl) (fun fr => by kernel_rfl) ?_
              intro fr H
              have e1 := Option.some.inj hm
              subst e1
              replace A : HH g h21 [] F := (HH.dropF A 0)
              exact at_nil ⟨H.less _ (fun fr => by kernel_rfl), A⟩
            · replace H := H.know 38 hb (by kernel_rfl)
              refine at_seg [(21, []), (22, []), (23, []), (24, []), (25, []), (26, []), (27, []), (28, [])] [(46, .bool false)] H (noU_all rfl) (fun fr => by kernel_rfl) ?_
              intro fr H
              have e1 := Option.some.inj hm
              subst e1
              exact at_nil ⟨H.less _ (fun fr => by kernel_rfl), A⟩
          · clear A
            intro t fr h18 hK
            obtain ⟨H, A⟩ := hK
            refine at_seg [(29, [])] [(47, .bool x16)] H (noU_all rfl) (fun fr => by kernel_rfl) ?_
            intro fr H
            obtain ⟨x20, ho, hm⟩ := bind_some hm
            refine at_cut [(30, []), (31, [])] (fun fr' h' => Has fr' 50 [(49, .bool x20)] ∧ HH g h' [] F) ?_ ?_
            · rcases iteB_some ho with ⟨hb, hm⟩ | ⟨hb, hm⟩
              · replace H := H.know 47 hb (by kernel_rfl)
                obtain ⟨x21, hx, hm⟩ := bind_some hm
                refine at_step (v := .bool x21) (h1 := h18) [(47, .bool true), (48, .bool x21)] H (fun fr => by kernel_rfl) (fun fr => Steps.call (by kernel_rfl) (ok_boulterlaw38_awake hx)) ?_
                intro fr t H
                refine at_seg [(31, [])] [(49, .bool x21)] H (noU_all rfl) (fun fr => by kernel_rfl) ?_
                intro fr H
                have e1 := Option.some.inj hm
                subst e1
                exact at_nil ⟨H.less _ (fun fr => by kernel_rfl), A⟩
              · replace H := H.know 47 hb (by kernel_rfl)
                refine at_seg [(30, []), (31, [])] [(49, .bool false)] H (noU_all rfl) (fun fr => by kernel_rfl) ?_
                intro fr H
                have e1 := Option.some.inj hm
                subst e1
                exact at_nil ⟨H.less _ (fun fr => by kernel_rfl), A⟩
            · clear A
              intro t fr h22 hK
              obtain ⟨H, A⟩ := hK
              refine at_seg [(32, [])] [(4, .bool x20)] H (noU_all rfl) (fun fr => by kernel_rfl) ?_
              intro fr H
              refine at_nil ?_
              show AW cfg 8 g (right (right (right (right (bodyC cfg.P 8))))) fr h22 _
              refine aw_ret (by kernel_rfl) ?_
              have e1 := Option.some.inj hm
              subst e1
              refine ⟨.inl rfl, .bool x20, resH H (fun fr => by kernel_rfl), ?_⟩
              exact ⟨rfl, A⟩
end Go.Av.L
