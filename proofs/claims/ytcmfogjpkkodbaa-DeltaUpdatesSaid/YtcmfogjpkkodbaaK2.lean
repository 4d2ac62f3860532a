/-
  Models of functions, and that the abstract run tells them. Written by lift2.py.
-/
import Derived.Test.YtcmfogjpkkodbaaKCfg
import Derived.Test.YtcmfogjpkkodbaaK0
import Derived.Test.YtcmfogjpkkodbaaK1
namespace Go.Av.L
open Go.Av Go.Lib
set_option maxRecDepth 10000
set_option linter.unusedVariables false
set_option linter.unusedSimpArgs false
/-! ### boulter/stamp.Cmp -/
noncomputable def M_stamp_Cmp (p0 : S_api_Stamp) (p1 : S_api_Stamp) : Option (Int) :=
 (eqG cfg.P 60 [.int .i64 p0.Sec, .int .i64 p0.Nsec] [.int .i64 p1.Sec, .int .i64 p1.Nsec]).bind fun x1 => iteB x1 (some (0 : Int)) (iteB ((decide (p0.Sec < p1.Sec)) || ((p0.Sec == p1.Sec) && (decide (p0.Nsec < p1.Nsec)))) (some (-1 : Int)) (some (1 : Int)))
theorem ok_stamp_Cmp {g : Gd} {h : AHeap} {F : List Ck} {p0 : S_api_Stamp} {p1 : S_api_Stamp} {q0 : Int} {av : List AVal} (hm : M_stamp_Cmp p0 p1 = some q0) (hc : canL (cfg.still 48) av = [.agg [.int .i64 p0.Sec, .int .i64 p0.Nsec], .agg [.int .i64 p1.Sec, .int .i64 p1.Nsec]]) (A : HH g h [] F) : ∃ v h', Runs cfg g h 48 av v h' ∧ v = .int .i64 q0 ∧ HH g h' [] F := by
  refine runsQ1 (n := 27) (rs := [.tmp 4]) (by kernel_rfl) hc (by kernel_rfl) ?_
  clear hc
  unfold M_stamp_Cmp at hm
  refine start (n := 27) [(0, .agg [.int .i64 p0.Sec, .int .i64 p0.Nsec]), (1, .agg [.int .i64 p1.Sec, .int .i64 p1.Nsec])] (by kernel_rfl) (by kernel_rfl) ?_
  intro fr H
  refine aw_seq (by kernel_rfl) ?_
  refine aw_reg (id := 0) (n := 3) [(0, []), (1, []), (2, [])] (by kernel_rfl) (by kernel_rfl) ?_
  obtain ⟨h1, e1⟩ : ∃ x, x = h.push (.cells none 2 [.int .i64 p0.Sec, .int .i64 p0.Nsec]) := ⟨_, rfl⟩
  replace A := (A.push _).to e1
  refine at_step (v := .ptr (some (h.size, 0))) (h1 := h1) [(1, .agg [.int .i64 p1.Sec, .int .i64 p1.Nsec]), (2, .ptr (some (h.size, 0)))] H (fun fr => by kernel_rfl) (fun fr => .of (s_n' (by kernel_rfl) (congrArg some e1.symm))) ?_
  intro fr t H
  obtain ⟨h2, e2⟩ : ∃ x, x = h1.push (.cells none 2 [.int .i64 p1.Sec, .int .i64 p1.Nsec]) := ⟨_, rfl⟩
  replace A := (A.push _).to e2
  refine at_step (v := .ptr (some (h1.size, 0))) (h1 := h2) [(2, .ptr (some (h.size, 0))), (3, .ptr (some (h1.size, 0)))] H (fun fr => by kernel_rfl) (fun fr => .of (s_n' (by kernel_rfl) (congrArg some e2.symm))) ?_
  intro fr t H
  refine at_seg [(2, [])] [(2, .ptr (some (h.size, 0))), (3, .ptr (some (h1.size, 0)))] H (noU_all rfl) (fun fr => by kernel_rfl) ?_
  intro fr H
  refine at_nil ?_
  show AW cfg 48 g (right (bodyC cfg.P 48)) fr h2 _
  refine aw_seq (by kernel_rfl) ?_
  refine aw_seq (by kernel_rfl) ?_
  refine aw_reg (id := 1) (n := 3) [(0, []), (1, []), (2, [])] (by kernel_rfl) (by kernel_rfl) ?_
  refine at_step (v := .agg [.int .i64 p0.Sec, .int .i64 p0.Nsec]) (h1 := h2) [(2, .ptr (some (h.size, 0))), (3, .ptr (some (h1.size, 0))), (5, .agg [.int .i64 p0.Sec, .int .i64 p0.Nsec])] H (fun fr => by kernel_rfl) (fun fr => .of (s_ldA (by kernel_rfl) (A.ldA 1 rfl (o := 0) (n := 2) ⟨Nat.le_of_ble_eq_true rfl, rfl⟩))) ?_
  intro fr t H
  refine at_step (v := .agg [.int .i64 p1.Sec, .int .i64 p1.Nsec]) (h1 := h2) [(2, .ptr (some (h.size, 0))), (3, .ptr (some (h1.size, 0))), (5, .agg [.int .i64 p0.Sec, .int .i64 p0.Nsec]), (6, .agg [.int .i64 p1.Sec, .int .i64 p1.Nsec])] H (fun fr => by kernel_rfl) (fun fr => .of (s_ldA (by kernel_rfl) (A.ldA 0 rfl (o := 0) (n := 2) ⟨Nat.le_of_ble_eq_true rfl, rfl⟩))) ?_
  intro fr t H
  obtain ⟨x1, hx, hm⟩ := bind_some hm
  refine at_step (v := .bool x1) (h1 := h2) [(2, .ptr (some (h.size, 0))), (3, .ptr (some (h1.size, 0))), (7, .bool x1)] H (fun fr => by kernel_rfl) (fun fr => .of (s_eqG (by kernel_rfl) hx)) ?_
  intro fr t H
  refine at_nil ?_
  show AW cfg 48 g (right (left (right (bodyC cfg.P 48)))) fr h2 _
  rcases iteB_some hm with ⟨hb, hm⟩ | ⟨hb, hm⟩
  · replace H := H.know 7 hb (by kernel_rfl)
    refine aw_true (x := .tmp 7) (by kernel_rfl) H (fun fr => by kernel_rfl) ?_
    refine aw_seq (by kernel_rfl) ?_
    refine aw_reg (id := 2) (n := 1) [(0, [])] (by kernel_rfl) (by kernel_rfl) ?_
    refine at_seg [(0, [])] [(4, .int .i64 (0 : Int))] H (noU_all rfl) (fun fr => by kernel_rfl) ?_
    intro fr H
    refine at_nil ?_
    show AW cfg 48 g (right (left (right (left (right (bodyC cfg.P 48)))))) fr h2 _
    refine aw_ret (by kernel_rfl) ?_
    have e1 := Option.some.inj hm
    subst e1
    refine ⟨.inl rfl, .int .i64 (0 : Int), resH H (fun fr => by kernel_rfl), ?_⟩
    replace A : HH g h2 [] F := (HH.dropF A 0)
    exact ⟨rfl, A⟩
  · replace H := H.know 7 hb (by kernel_rfl)
    refine aw_false (x := .tmp 7) (by kernel_rfl) H (fun fr => by kernel_rfl) ?_
    refine aw_skip (by kernel_rfl) ?_
    show AW cfg 48 g (right (right (bodyC cfg.P 48))) fr h2 _
    refine aw_seq (by kernel_rfl) ?_
    refine aw_seq (by kernel_rfl) ?_
    refine aw_reg (id := 3) (n := 19) [(0, []), (1, []), (2, []), (3, []), (4, []), (5, []), (6, []), (7, []), (8, []), (9, []), (10, []), (11, []), (12, []), (13, []), (14, []), (15, []), (16, []), (17, []), (18, [])] (by kernel_rfl) (by kernel_rfl) ?_
    refine at_seg [(0, [])] [(2, .ptr (some (h.size, 0))), (3, .ptr (some (h1.size, 0))), (8, .ptr (some (h.size, 0)))] H (noU_all rfl) (fun fr => by kernel_rfl) ?_
    intro fr H
    refine at_step (v := .int .i64 p0.Sec) (h1 := h2) [(2, .ptr (some (h.size, 0))), (3, .ptr (some (h1.size, 0))), (9, .int .i64 p0.Sec)] H (fun fr => by kernel_rfl) (fun fr => .of (s_ld (by kernel_rfl) (A.ld1 1 rfl (o := 0) rfl))) ?_
    intro fr t H
    refine at_seg [(2, [])] [(2, .ptr (some (h.size, 0))), (3, .ptr (some (h1.size, 0))), (9, .int .i64 p0.Sec), (10, .ptr (some (h1.size, 0)))] H (noU_all rfl) (fun fr => by kernel_rfl) ?_
    intro fr H
    refine at_step (v := .int .i64 p1.Sec) (h1 := h2) [(2, .ptr (some (h.size, 0))), (3, .ptr (some (h1.size, 0))), (9, .int .i64 p0.Sec), (11, .int .i64 p1.Sec)] H (fun fr => by kernel_rfl) (fun fr => .of (s_ld (by kernel_rfl) (A.ld1 0 rfl (o := 0) rfl))) ?_
    intro fr t H
    refine at_seg [(4, []), (5, [])] [(2, .ptr (some (h.size, 0))), (3, .ptr (some (h1.size, 0))), (13, .bool (decide (p0.Sec < p1.Sec)))] H (noU_all rfl) (fun fr => by kernel_rfl) ?_
    intro fr H
    refine at_cut [(6, []), (7, []), (8, []), (9, []), (10, []), (11, []), (12, []), (13, []), (14, []), (15, []), (16, []), (17, []), (18, [])] (fun fr' h' => h2 = h' ∧ Has fr' 27 [(26, .bool ((decide (p0.Sec < p1.Sec)) || ((p0.Sec == p1.Sec) && (decide (p0.Nsec < p1.Nsec)))))]) ?_ ?_
    · cases hb : (decide (p0.Sec < p1.Sec) : Bool) with
      | true =>
        replace H := H.know 13 hb (by kernel_rfl)
        refine at_seg [(6, []), (7, []), (8, []), (9, []), (10, []), (11, []), (12, []), (13, []), (14, []), (15, []), (16, []), (17, []), (18, [])] [(26, .bool true)] H (noU_all rfl) (fun fr => by kernel_rfl) ?_
        intro fr H
        exact at_nil ⟨rfl, by first | exact H.less _ (fun fr => by rfl) | exact H.less _ (fun fr => by rw [hb]; rfl)⟩
      | false =>
        replace H := H.know 13 hb (by kernel_rfl)
        refine at_seg [(6, [])] [(2, .ptr (some (h.size, 0))), (3, .ptr (some (h1.size, 0))), (13, .bool false), (14, .ptr (some (h.size, 0)))] H (noU_all rfl) (fun fr => by kernel_rfl) ?_
        intro fr H
        refine at_step (v := .int .i64 p0.Sec) (h1 := h2) [(2, .ptr (some (h.size, 0))), (3, .ptr (some (h1.size, 0))), (13, .bool false), (15, .int .i64 p0.Sec)] H (fun fr => by kernel_rfl) (fun fr => .of (s_ld (by kernel_rfl) (A.ld1 1 rfl (o := 0) rfl))) ?_
        intro fr t H
        refine at_seg [(8, [])] [(2, .ptr (some (h.size, 0))), (3, .ptr (some (h1.size, 0))), (13, .bool false), (15, .int .i64 p0.Sec), (16, .ptr (some (h1.size, 0)))] H (noU_all rfl) (fun fr => by kernel_rfl) ?_
        intro fr H
        refine at_step (v := .int .i64 p1.Sec) (h1 := h2) [(2, .ptr (some (h.size, 0))), (3, .ptr (some (h1.size, 0))), (13, .bool false), (15, .int .i64 p0.Sec), (17, .int .i64 p1.Sec)] H (fun fr => by kernel_rfl) (fun fr => .of (s_ld (by kernel_rfl) (A.ld1 0 rfl (o := 0) rfl))) ?_
        intro fr t H
        refine at_seg [(10, []), (11, [])] [(2, .ptr (some (h.size, 0))), (3, .ptr (some (h1.size, 0))), (13, .bool false), (19, .bool (p0.Sec == p1.Sec))] H (noU_all rfl) (fun fr => by kernel_rfl) ?_
        intro fr H
        refine at_cut [(12, []), (13, []), (14, []), (15, []), (16, []), (17, [])] (fun fr' h' => h2 = h' ∧ Has fr' 27 [(13, .bool false), (25, .bool ((p0.Sec == p1.Sec) && (decide (p0.Nsec < p1.Nsec))))]) ?_ ?_
        · cases hb : (p0.Sec == p1.Sec : Bool) with
          | true =>
            replace H := H.know 19 hb (by kernel_rfl)
            refine at_seg [(12, [])] [(3, .ptr (some (h1.size, 0))), (13, .bool false), (19, .bool true), (20, .ptr (some (h.size, 1)))] H (noU_all rfl) (fun fr => by kernel_rfl) ?_
            intro fr H
            refine at_step (v := .int .i64 p0.Nsec) (h1 := h2) [(3, .ptr (some (h1.size, 0))), (13, .bool false), (19, .bool true), (21, .int .i64 p0.Nsec)] H (fun fr => by kernel_rfl) (fun fr => .of (s_ld (by kernel_rfl) (A.ld1 1 rfl (o := 1) rfl))) ?_
            intro fr t H
            refine at_seg [(14, [])] [(13, .bool false), (19, .bool true), (21, .int .i64 p0.Nsec), (22, .ptr (some (h1.size, 1)))] H (noU_all rfl) (fun fr => by kernel_rfl) ?_
            intro fr H
            refine at_step (v := .int .i64 p1.Nsec) (h1 := h2) [(13, .bool false), (19, .bool true), (21, .int .i64 p0.Nsec), (23, .int .i64 p1.Nsec)] H (fun fr => by kernel_rfl) (fun fr => .of (s_ld (by kernel_rfl) (A.ld1 0 rfl (o := 1) rfl))) ?_
            intro fr t H
            refine at_seg [(16, []), (17, [])] [(13, .bool false), (25, .bool (decide (p0.Nsec < p1.Nsec)))] H (noU_all rfl) (fun fr => by kernel_rfl) ?_
            intro fr H
            exact at_nil ⟨rfl, by first | exact H.less _ (fun fr => by rfl) | exact H.less _ (fun fr => by rw [hb]; rfl)⟩
          | false =>
            replace H := H.know 19 hb (by kernel_rfl)
            refine at_seg [(12, []), (13, []), (14, []), (15, []), (16, []), (17, [])] [(13, .bool false), (25, .bool false)] H (noU_all rfl) (fun fr => by kernel_rfl) ?_
            intro fr H
            exact at_nil ⟨rfl, by first | exact H.less _ (fun fr => by rfl) | exact H.less _ (fun fr => by rw [hb]; rfl)⟩
        · intro t fr h' hK
          obtain ⟨e, H⟩ := hK
          subst e
          refine at_seg [(18, [])] [(26, .bool ((p0.Sec == p1.Sec) && (decide (p0.Nsec < p1.Nsec))))] H (noU_all rfl) (fun fr => by kernel_rfl) ?_
          intro fr H
          exact at_nil ⟨rfl, by first | exact H.less _ (fun fr => by rfl) | exact H.less _ (fun fr => by rw [hb]; rfl)⟩
    · intro t fr h' hK
      obtain ⟨e, H⟩ := hK
      subst e
      refine at_nil ?_
      show AW cfg 48 g (right (left (right (right (bodyC cfg.P 48))))) fr h2 _
      rcases iteB_some hm with ⟨hb, hm⟩ | ⟨hb, hm⟩
      · replace H := H.know 26 hb (by kernel_rfl)
        refine aw_true (x := .tmp 26) (by kernel_rfl) H (fun fr => by kernel_rfl) ?_
        refine aw_seq (by kernel_rfl) ?_
        refine aw_reg (id := 4) (n := 1) [(0, [])] (by kernel_rfl) (by kernel_rfl) ?_
        refine at_seg [(0, [])] [(4, .int .i64 (-1 : Int))] H (noU_all rfl) (fun fr => by kernel_rfl) ?_
        intro fr H
        refine at_nil ?_
        show AW cfg 48 g (right (left (right (left (right (right (bodyC cfg.P 48))))))) fr h2 _
        refine aw_ret (by kernel_rfl) ?_
        have e1 := Option.some.inj hm
        subst e1
        refine ⟨.inl rfl, .int .i64 (-1 : Int), resH H (fun fr => by kernel_rfl), ?_⟩
        replace A : HH g h2 [] F := (HH.dropF A 0)
        exact ⟨rfl, A⟩
      · replace H := H.know 26 hb (by kernel_rfl)
        refine aw_false (x := .tmp 26) (by kernel_rfl) H (fun fr => by kernel_rfl) ?_
        refine aw_skip (by kernel_rfl) ?_
        show AW cfg 48 g (right (right (right (bodyC cfg.P 48)))) fr h2 _
        refine aw_seq (by kernel_rfl) ?_
        refine aw_reg (id := 5) (n := 1) [(0, [])] (by kernel_rfl) (by kernel_rfl) ?_
        refine at_seg [(0, [])] [(4, .int .i64 (1 : Int))] H (noU_all rfl) (fun fr => by kernel_rfl) ?_
        intro fr H
        refine at_nil ?_
        show AW cfg 48 g (right (right (right (right (bodyC cfg.P 48))))) fr h2 _
        refine aw_ret (by kernel_rfl) ?_
        have e1 := Option.some.inj hm
        subst e1
        refine ⟨.inl rfl, .int .i64 (1 : Int), resH H (fun fr => by kernel_rfl), ?_⟩
        replace A : HH g h2 [] F := (HH.dropF A 0)
        exact ⟨rfl, A⟩
/-! ### boulter/delta.Newer -/
noncomputable def M_delta_Newer_L0 (p0 : List S_api_Member) (x1 : List ((List UInt8) × Int)) (x2 : List S_api_Member) (s : (List S_api_Member) × Int) : Option (((List S_api_Member) × Int) ⊕ (((List S_api_Member)))) :=
  match s with
  | (x3, x4) => iteB (decide (x4 < (x2.length : Int))) (((ixV x2 x4).bind fun x7 => (iteB (!((mfind x1 x7.Name).isSome)) (some true) ((ixV p0 ((mfind x1 x7.Name).getD (0 : Int))).bind fun x9 => (M_stamp_Cmp x9.Time x7.Time).bind fun x10 => some (decide (x10 < (0 : Int)))) : Option (Bool)).bind fun x8 => iteB x8 (need (okN 168 (x3.length + ([x7] : List S_api_Member).length)) <| some (x3 ++ ([x7] : List S_api_Member))) (some x3) : Option (((List S_api_Member)))).bind fun x6 => some (.inl (x6, IntKind.i64.wrap (x4 + (1 : Int))))) (some (.inr x3))
noncomputable def M_delta_Newer (p0 : List S_api_Member) (p1 : List S_api_Member) : Option ((List S_api_Member)) :=
 (M_delta_places p0).bind fun x1 => need (okN 168 p0.length) <| (M_delta_Last p1).bind fun x2 => (loop (M_delta_Newer_L0 p0 x1 x2) (p0, (0 : Int))).bind fun x5 => (M_delta_Last_sO x5).bind fun x11 => some x11
theorem ok_delta_Newer {g : Gd} {h : AHeap} {F : List Ck} {p0 : List S_api_Member} {p1 : List S_api_Member} {q0 : List S_api_Member} {av : List AVal} (hm : M_delta_Newer p0 p1 = some q0) (hc : canL (cfg.still 24) av = [vs e_S_api_Member p0, vs e_S_api_Member p1]) (A : HH g h [] F) : ∃ v h', Runs cfg g h 24 av v h' ∧ ∃ (rq0 : Option Nat), v = rowV rq0 q0.length ∧ HH g h' [.lst rq0 63 (lst e_S_api_Member q0)] F := by
  refine runsQ1 (n := 49) (rs := [.tmp 4]) (by kernel_rfl) hc (by kernel_rfl) ?_
  clear hc
  unfold M_delta_Newer at hm
  refine start (n := 49) [(0, vs e_S_api_Member p0), (1, vs e_S_api_Member p1)] (by kernel_rfl) (by kernel_rfl) ?_
  intro fr H
  refine aw_seq (by kernel_rfl) ?_
  refine aw_reg (id := 0) (n := 1) [(0, [])] (by kernel_rfl) (by kernel_rfl) ?_
  refine at_seg [(0, [])] [(0, vs e_S_api_Member p0), (1, vs e_S_api_Member p1)] H (noU_all rfl) (fun fr => by kernel_rfl) ?_
  intro fr H
  refine at_nil ?_
  show AW cfg 24 g (right (bodyC cfg.P 24)) fr h _
  refine aw_seq (by kernel_rfl) ?_
  refine aw_reg (id := 1) (n := 3) [(0, []), (1, []), (2, [])] (by kernel_rfl) (by kernel_rfl) ?_
  refine at_seg [(0, [])] [(0, vs e_S_api_Member p0), (1, vs e_S_api_Member p1), (11, vs e_S_api_Member p0)] H (noU_all rfl) (fun fr => by kernel_rfl) ?_
  intro fr H
  have A1 := A.cut 0
  obtain ⟨x1, hx, hm⟩ := bind_some hm
  obtain ⟨v1, h1, hr, bqw1, rfl, A1⟩ := ok_delta_places (av := [vs e_S_api_Member p0]) hx (by kernel_rfl) A1
  replace A : HH g h1 [.obj bqw1 (.map 2 (encM (fun k : List UInt8 => .str k) (fun v : Int => .int .i64 v) x1))] F := A.glue0 (n := 0) A1
  refine at_step (v := .map (some bqw1)) (h1 := h1) [(0, vs e_S_api_Member p0), (1, vs e_S_api_Member p1), (12, .map (some bqw1))] H (fun fr => by kernel_rfl) (fun fr => Steps.call (by kernel_rfl) hr) ?_
  intro fr t H
  refine at_seg [(2, [])] [(0, vs e_S_api_Member p0), (1, vs e_S_api_Member p1), (5, .map (some bqw1))] H (noU_all rfl) (fun fr => by kernel_rfl) ?_
  intro fr H
  refine at_nil ?_
  show AW cfg 24 g (right (right (bodyC cfg.P 24))) fr h1 _
  refine aw_seq (by kernel_rfl) ?_
  refine aw_reg (id := 2) (n := 3) [(0, []), (1, []), (2, [])] (by kernel_rfl) (by kernel_rfl) ?_
  refine at_seg [(0, [])] [(0, vs e_S_api_Member p0), (1, vs e_S_api_Member p1), (5, .map (some bqw1)), (13, vs e_S_api_Member p0)] H (noU_all rfl) (fun fr => by kernel_rfl) ?_
  intro fr H
  have A1 := A.cut 0
  obtain ⟨hb, hm⟩ := need_some hm
  obtain ⟨r1, h2, hr, A1⟩ := HH.clone (C := cfg) (f := 47) (a := 0) (t := 63) (xs := p0) enc_S_api_Member (by decide) A1 (by kernel_rfl) (l := exts) rfl (by kernel_rfl) (by kernel_rfl) rfl (firstV enc_S_api_Member _ p0) (enc_S_api_Member.canL _) hb
  replace A : HH g h2 [.lst r1 63 (lst e_S_api_Member p0), .obj bqw1 (.map 2 (encM (fun k : List UInt8 => .str k) (fun v : Int => .int .i64 v) x1))] F := A.glue0 (n := 0) A1
  refine at_step (v := rowV r1 p0.length) (h1 := h2) [(0, vs e_S_api_Member p0), (1, vs e_S_api_Member p1), (5, .map (some bqw1)), (14, rowV r1 p0.length)] H (fun fr => by kernel_rfl) (fun fr => Steps.call (by kernel_rfl) hr) ?_
  intro fr t H
  refine at_seg [(2, [])] [(0, vs e_S_api_Member p0), (1, vs e_S_api_Member p1), (5, .map (some bqw1)), (6, rowV r1 p0.length)] H (noU_all rfl) (fun fr => by kernel_rfl) ?_
  intro fr H
  refine at_nil ?_
  show AW cfg 24 g (right (right (right (bodyC cfg.P 24)))) fr h2 _
  refine aw_seq (by kernel_rfl) ?_
  refine aw_seq (by kernel_rfl) ?_
  refine aw_reg (id := 3) (n := 4) [(0, []), (1, []), (2, []), (3, [])] (by kernel_rfl) (by kernel_rfl) ?_
  refine at_seg [(0, [])] [(0, vs e_S_api_Member p0), (5, .map (some bqw1)), (6, rowV r1 p0.length), (15, vs e_S_api_Member p1)] H (noU_all rfl) (fun fr => by kernel_rfl) ?_
  intro fr H
  have A1 := A.cut 0
  obtain ⟨x2, hx, hm⟩ := bind_some hm
  obtain ⟨v1, h3, hr, rqw2, rfl, A1⟩ := ok_delta_Last (av := [vs e_S_api_Member p1]) hx (by kernel_rfl) A1
  replace A : HH g h3 [.lst rqw2 63 (lst e_S_api_Member x2), .lst r1 63 (lst e_S_api_Member p0), .obj bqw1 (.map 2 (encM (fun k : List UInt8 => .str k) (fun v : Int => .int .i64 v) x1))] F := A.glue0 (n := 0) A1
  refine at_step (v := rowV rqw2 x2.length) (h1 := h3) [(0, vs e_S_api_Member p0), (5, .map (some bqw1)), (6, rowV r1 p0.length), (16, rowV rqw2 x2.length)] H (fun fr => by kernel_rfl) (fun fr => Steps.call (by kernel_rfl) hr) ?_
  intro fr t H
  refine at_seg [(2, []), (3, [])] [(0, vs e_S_api_Member p0), (5, .map (some bqw1)), (6, rowV r1 p0.length), (16, rowV rqw2 x2.length), (17, .int .i64 (x2.length : Int)), (18, .int .i64 (0 : Int))] H (noU_all rfl) (fun fr => by kernel_rfl) ?_
  intro fr H
  refine at_nil ?_
  show AW cfg 24 g (right (left (right (right (right (bodyC cfg.P 24)))))) fr h3 _
  refine aw_block (id := 0) (by kernel_rfl) ?_
  obtain ⟨o1, ho, hm⟩ := bind_some hm
  refine aw_mono (Q' := fun e fr' h' => (∃ (x5 : List S_api_Member), e = .exit 0 ∧ x5 = o1 ∧ ∃ (r3 : Option Nat), Has fr' 49 [(6, rowV r3 x5.length)] ∧ HH g h' [.lst r3 63 (lst e_S_api_Member x5), .obj bqw1 (.map 2 (encM (fun k : List UInt8 => .str k) (fun v : Int => .int .i64 v) x1))] F) ∨ False) ?_ ?_
  · refine aw_loop (by kernel_rfl) (fun (s : (List S_api_Member) × Int) fr' h' => ∃ (x3 : List S_api_Member) (x4 : Int), (x3, x4) = s ∧ ∃ (r2 : Option Nat), Has fr' 49 [(0, vs e_S_api_Member p0), (5, .map (some bqw1)), (6, rowV r2 x3.length), (16, rowV rqw2 x2.length), (17, .int .i64 (x2.length : Int)), (18, .int .i64 x4)] ∧ HH g h' [.lst rqw2 63 (lst e_S_api_Member x2), .lst r2 63 (lst e_S_api_Member x3), .obj bqw1 (.map 2 (encM (fun k : List UInt8 => .str k) (fun v : Int => .int .i64 v) x1))] F) ho ⟨p0, (0 : Int), rfl, r1, H.less _ (fun fr => by kernel_rfl), A⟩ ?_
    clear ho hm H A
    intro s q fr h4 hI hm
    obtain ⟨x3, x4, rfl, r2, H, A⟩ := hI
    unfold M_delta_Newer_L0 at hm
    refine aw_seq (by kernel_rfl) ?_
    refine aw_reg (id := 4) (n := 1) [(0, [])] (by kernel_rfl) (by kernel_rfl) ?_
    refine at_seg [(0, [])] [(0, vs e_S_api_Member p0), (5, .map (some bqw1)), (6, rowV r2 x3.length), (16, rowV rqw2 x2.length), (17, .int .i64 (x2.length : Int)), (18, .int .i64 x4), (19, .bool (decide (x4 < (x2.length : Int))))] H (noU_all rfl) (fun fr => by kernel_rfl) ?_
    intro fr H
    refine at_nil ?_
    show AW cfg 24 g (right (left (left (right (left (right (right (right (bodyC cfg.P 24))))))))) fr h4 _
    refine aw_seq (by kernel_rfl) ?_
    rcases iteB_some hm with ⟨hb, hm⟩ | ⟨hb, hm⟩
    · replace H := H.know 19 hb (by kernel_rfl)
      refine aw_true (x := .tmp 19) (by kernel_rfl) H (fun fr => by kernel_rfl) ?_
      refine aw_skip (by kernel_rfl) ?_
      show AW cfg 24 g (right (right (left (left (right (left (right (right (right (bodyC cfg.P 24)))))))))) fr h4 _
      refine aw_seq (by kernel_rfl) ?_
      obtain ⟨o2, ho, hm⟩ := bind_some hm
      refine aw_mono (Q' := fun e fr' h' => (∃ (x6 : List S_api_Member), e = .normal ∧ x6 = o2 ∧ ∃ (r4 : Option Nat), Has fr' 49 [(0, vs e_S_api_Member p0), (5, .map (some bqw1)), (6, rowV r4 x6.length), (16, rowV rqw2 x2.length), (17, .int .i64 (x2.length : Int)), (18, .int .i64 x4)] ∧ HH g h' [.lst rqw2 63 (lst e_S_api_Member x2), .lst r4 63 (lst e_S_api_Member x6), .obj bqw1 (.map 2 (encM (fun k : List UInt8 => .str k) (fun v : Int => .int .i64 v) x1))] F) ∨ False) ?_ ?_
      · replace hm := ho
        clear ho
        refine aw_block (id := 1) (by kernel_rfl) ?_
        refine aw_seq (by kernel_rfl) ?_
        refine aw_reg (id := 5) (n := 4) [(0, []), (1, []), (2, []), (3, [])] (by kernel_rfl) (by kernel_rfl) ?_
        obtain ⟨x7, hx, hm⟩ := bind_some hm
        obtain ⟨i1, er1, _, hx, hq1⟩ := HH.ixO enc_S_api_Member (by decide) A 0 (xs := x2) rfl hx
        refine at_step (v := .ptr (some (i1, x4.toNat * 14))) (h1 := h4) [(0, vs e_S_api_Member p0), (5, .map (some bqw1)), (6, rowV r2 x3.length), (16, rowV rqw2 x2.length), (17, .int .i64 (x2.length : Int)), (18, .int .i64 x4), (20, .ptr (some (i1, x4.toNat * 14)))] H (fun fr => by kernel_rfl) (fun fr => .of (s_ixL (s := rowS rqw2 x2.length) (by kernel_rfl) hx)) ?_
        intro fr t H
        refine at_step (v := .agg (e_S_api_Member x7)) (h1 := h4) [(0, vs e_S_api_Member p0), (5, .map (some bqw1)), (6, rowV r2 x3.length), (16, rowV rqw2 x2.length), (17, .int .i64 (x2.length : Int)), (18, .int .i64 x4), (21, .agg (e_S_api_Member x7))] H (fun fr => by kernel_rfl) (fun fr => .of (s_ldA (by kernel_rfl) (row_ldA enc_S_api_Member (HH.row A 0 rfl er1) hq1 0 14 (Nat.le_of_ble_eq_true rfl)))) ?_
        intro fr t H
        obtain ⟨h5, e1⟩ : ∃ x, x = h4.push (.cells none 2 [.str ([] : List UInt8), .str ([] : List UInt8), .int .u8 (0 : Int), .int .i64 (0 : Int), .int .i64 (0 : Int), .int .i64 (0 : Int), .str ([] : List UInt8), .str ([] : List UInt8), .int .i64 (0 : Int), .int .i64 (0 : Int), .int .i64 (0 : Int), .int .i64 (0 : Int), .slice none 0, .str ([] : List UInt8)]) := ⟨_, rfl⟩
        replace A := (A.push _).to e1
        refine at_step (v := .ptr (some (h4.size, 0))) (h1 := h5) [(0, vs e_S_api_Member p0), (5, .map (some bqw1)), (6, rowV r2 x3.length), (8, .ptr (some (h4.size, 0))), (16, rowV rqw2 x2.length), (17, .int .i64 (x2.length : Int)), (18, .int .i64 x4), (21, .agg (e_S_api_Member x7))] H (fun fr => by kernel_rfl) (fun fr => .of (s_n' (by kernel_rfl) (congrArg some e1.symm))) ?_
        intro fr t H
        obtain ⟨h6, hx, A1⟩ := A.st 0 rfl (o := 0) (new := [.str x7.Name, .str x7.Link, .int .u8 x7.Kind, .int .i64 x7.Mode, .int .i64 x7.Uid, .int .i64 x7.Gid, .str x7.Uname, .str x7.Gname, .int .i64 x7.Major, .int .i64 x7.Minor, .int .i64 x7.Time.Sec, .int .i64 x7.Time.Nsec, vs e_S_api_Pair x7.Extra, .str x7.Data]) (ds := [.str x7.Name, .str x7.Link, .int .u8 x7.Kind, .int .i64 x7.Mode, .int .i64 x7.Uid, .int .i64 x7.Gid, .str x7.Uname, .str x7.Gname, .int .i64 x7.Major, .int .i64 x7.Minor, .int .i64 x7.Time.Sec, .int .i64 x7.Time.Nsec, vs e_S_api_Pair x7.Extra, .str x7.Data]) (Nat.le_of_ble_eq_true rfl) rfl rfl
        replace A : HH g h6 [.obj h4.size (.cells none 2 (e_S_api_Member x7)), .lst rqw2 63 (lst e_S_api_Member x2), .lst r2 63 (lst e_S_api_Member x3), .obj bqw1 (.map 2 (encM (fun k : List UInt8 => .str k) (fun v : Int => .int .i64 v) x1))] F := A1
        refine at_step (v := .tuple []) (h1 := h6) [(0, vs e_S_api_Member p0), (5, .map (some bqw1)), (6, rowV r2 x3.length), (8, .ptr (some (h4.size, 0))), (16, rowV rqw2 x2.length), (17, .int .i64 (x2.length : Int)), (18, .int .i64 x4)] H (fun fr => by kernel_rfl) (fun fr => .of (s_stG (by kernel_rfl) (stG_st hx rfl))) ?_
        intro fr t H
        refine at_nil ?_
        show AW cfg 24 g (right (left (left (right (right (left (left (right (left (right (right (right (bodyC cfg.P 24))))))))))))) fr h6 _
        refine aw_seq (by kernel_rfl) ?_
        refine aw_reg (id := 6) (n := 9) [(0, []), (1, []), (2, []), (3, []), (4, []), (5, []), (6, []), (7, []), (8, [])] (by kernel_rfl) (by kernel_rfl) ?_
        refine at_seg [(0, []), (1, [])] [(0, vs e_S_api_Member p0), (5, .map (some bqw1)), (6, rowV r2 x3.length), (8, .ptr (some (h4.size, 0))), (16, rowV rqw2 x2.length), (17, .int .i64 (x2.length : Int)), (18, .int .i64 x4), (23, .map (some bqw1)), (24, .ptr (some (h4.size, 0)))] H (noU_all rfl) (fun fr => by kernel_rfl) ?_
        intro fr H
        refine at_step (v := .str x7.Name) (h1 := h6) [(0, vs e_S_api_Member p0), (5, .map (some bqw1)), (6, rowV r2 x3.length), (8, .ptr (some (h4.size, 0))), (16, rowV rqw2 x2.length), (17, .int .i64 (x2.length : Int)), (18, .int .i64 x4), (23, .map (some bqw1)), (25, .str x7.Name)] H (fun fr => by kernel_rfl) (fun fr => .of (s_ld (by kernel_rfl) (A.ld1 0 rfl (o := 0) rfl))) ?_
        intro fr t H
        refine at_step (v := .tuple [.int .i64 ((mfind x1 x7.Name).getD (0 : Int)), .bool ((mfind x1 x7.Name).isSome)]) (h1 := h6) [(0, vs e_S_api_Member p0), (5, .map (some bqw1)), (6, rowV r2 x3.length), (8, .ptr (some (h4.size, 0))), (16, rowV rqw2 x2.length), (17, .int .i64 (x2.length : Int)), (18, .int .i64 x4), (26, .tuple [.int .i64 ((mfind x1 x7.Name).getD (0 : Int)), .bool ((mfind x1 x7.Name).isSome)])] H (fun fr => by kernel_rfl) (fun fr => .of (s_lkT (by kernel_rfl) (HH.mlook (kt := 9) (et := 3) (ek := fun k : List UInt8 => .str k) (ev := fun v : Int => .int .i64 v) (keyS (by kernel_rfl)) A 3 rfl (t := 68) (by kernel_rfl) (z := (0 : Int)) (by kernel_rfl) x7.Name))) ?_
        intro fr t H
        refine at_seg [(4, []), (5, []), (6, []), (7, []), (8, [])] [(0, vs e_S_api_Member p0), (5, .map (some bqw1)), (6, rowV r2 x3.length), (8, .ptr (some (h4.size, 0))), (9, .int .i64 ((mfind x1 x7.Name).getD (0 : Int))), (10, .bool ((mfind x1 x7.Name).isSome)), (16, rowV rqw2 x2.length), (17, .int .i64 (x2.length : Int)), (18, .int .i64 x4)] H (noU_all rfl) (fun fr => by kernel_rfl) ?_
        intro fr H
        refine at_nil ?_
        show AW cfg 24 g (right (right (left (left (right (right (left (left (right (left (right (right (right (bodyC cfg.P 24)))))))))))))) fr h6 _
        refine aw_seq (by kernel_rfl) ?_
        refine aw_draw (id := 7) (n := 13) (by kernel_rfl) [(0, []), (1, []), (2, []), (3, []), (4, []), (5, []), (6, []), (7, []), (8, []), (9, []), (10, []), (11, []), (12, [])] (by kernel_rfl) ?_
        refine at_seg [(0, []), (1, []), (2, [])] [(0, vs e_S_api_Member p0), (5, .map (some bqw1)), (6, rowV r2 x3.length), (8, .ptr (some (h4.size, 0))), (9, .int .i64 ((mfind x1 x7.Name).getD (0 : Int))), (16, rowV rqw2 x2.length), (17, .int .i64 (x2.length : Int)), (18, .int .i64 x4), (31, .bool (!((mfind x1 x7.Name).isSome)))] H (noU_all rfl) (fun fr => by kernel_rfl) ?_
        intro fr H
        obtain ⟨x8, ho, hm⟩ := bind_some hm
        refine at_cut [(3, []), (4, []), (5, []), (6, []), (7, []), (8, []), (9, []), (10, []), (11, []), (12, [])] (fun fr' h' => Has fr' 49 [(0, vs e_S_api_Member p0), (5, .map (some bqw1)), (6, rowV r2 x3.length), (8, .ptr (some (h4.size, 0))), (16, rowV rqw2 x2.length), (17, .int .i64 (x2.length : Int)), (18, .int .i64 x4), (41, .bool x8)] ∧ HH g h' [.obj h4.size (.cells none 2 (e_S_api_Member x7)), .lst rqw2 63 (lst e_S_api_Member x2), .lst r2 63 (lst e_S_api_Member x3), .obj bqw1 (.map 2 (encM (fun k : List UInt8 => .str k) (fun v : Int => .int .i64 v) x1))] F) ?_ ?_
        · rcases iteB_some ho with ⟨hb, hm⟩ | ⟨hb, hm⟩
          · replace H := H.know 31 hb (by kernel_rfl)
            refine at_seg [(3, []), (4, []), (5, []), (6, []), (7, []), (8, []), (9, []), (10, []), (11, []), (12, [])] [(0, vs e_S_api_Member p0), (5, .map (some bqw1)), (6, rowV r2 x3.length), (8, .ptr (some (h4.size, 0))), (16, rowV rqw2 x2.length), (17, .int .i64 (x2.length : Int)), (18, .int .i64 x4), (41, .bool true)] H (noU_all rfl) (fun fr => by kernel_rfl) ?_
            intro fr H
            have e1 := Option.some.inj hm
            subst e1
            exact at_nil ⟨H.less _ (fun fr => by kernel_rfl), A⟩
          · replace H := H.know 31 hb (by kernel_rfl)
            refine at_seg [(3, []), (4, [])] [(0, vs e_S_api_Member p0), (5, .map (some bqw1)), (6, rowV r2 x3.length), (8, .ptr (some (h4.size, 0))), (16, rowV rqw2 x2.length), (17, .int .i64 (x2.length : Int)), (18, .int .i64 x4), (31, .bool false), (32, vs e_S_api_Member p0), (33, .int .i64 ((mfind x1 x7.Name).getD (0 : Int)))] H (noU_all rfl) (fun fr => by kernel_rfl) ?_
            intro fr H
            obtain ⟨x9, hx, hm⟩ := bind_some hm
            refine at_step (v := .vptr [.str x9.Name, .str x9.Link, .int .u8 x9.Kind, .int .i64 x9.Mode, .int .i64 x9.Uid, .int .i64 x9.Gid, .str x9.Uname, .str x9.Gname, .int .i64 x9.Major, .int .i64 x9.Minor, .int .i64 x9.Time.Sec, .int .i64 x9.Time.Nsec, vs e_S_api_Pair x9.Extra, .str x9.Data]) (h1 := h6) [(0, vs e_S_api_Member p0), (5, .map (some bqw1)), (6, rowV r2 x3.length), (8, .ptr (some (h4.size, 0))), (16, rowV rqw2 x2.length), (17, .int .i64 (x2.length : Int)), (18, .int .i64 x4), (31, .bool false), (34, .vptr [.str x9.Name, .str x9.Link, .int .u8 x9.Kind, .int .i64 x9.Mode, .int .i64 x9.Uid, .int .i64 x9.Gid, .str x9.Uname, .str x9.Gname, .int .i64 x9.Major, .int .i64 x9.Minor, .int .i64 x9.Time.Sec, .int .i64 x9.Time.Nsec, vs e_S_api_Pair x9.Extra, .str x9.Data])] H (fun fr => by kernel_rfl) (fun fr => .of (s_ixV (e := e_S_api_Member) (x := x9) enc_S_api_Member (by decide) (by kernel_rfl) hx)) ?_
            intro fr t H
            refine at_seg [(6, [])] [(0, vs e_S_api_Member p0), (5, .map (some bqw1)), (6, rowV r2 x3.length), (8, .ptr (some (h4.size, 0))), (16, rowV rqw2 x2.length), (17, .int .i64 (x2.length : Int)), (18, .int .i64 x4), (31, .bool false), (35, .vptr [.int .i64 x9.Time.Sec, .int .i64 x9.Time.Nsec, vs e_S_api_Pair x9.Extra, .str x9.Data])] H (noU_all rfl) (fun fr => by kernel_rfl) ?_
            intro fr H
            refine at_step (v := .agg [.int .i64 x9.Time.Sec, .int .i64 x9.Time.Nsec]) (h1 := h6) [(0, vs e_S_api_Member p0), (5, .map (some bqw1)), (6, rowV r2 x3.length), (8, .ptr (some (h4.size, 0))), (16, rowV rqw2 x2.length), (17, .int .i64 (x2.length : Int)), (18, .int .i64 x4), (31, .bool false), (36, .agg [.int .i64 x9.Time.Sec, .int .i64 x9.Time.Nsec])] H (fun fr => by kernel_rfl) (fun fr => .of (s_lv (by kernel_rfl))) ?_
            intro fr t H
            refine at_seg [(8, [])] [(0, vs e_S_api_Member p0), (5, .map (some bqw1)), (6, rowV r2 x3.length), (8, .ptr (some (h4.size, 0))), (16, rowV rqw2 x2.length), (17, .int .i64 (x2.length : Int)), (18, .int .i64 x4), (31, .bool false), (36, .agg [.int .i64 x9.Time.Sec, .int .i64 x9.Time.Nsec]), (37, .ptr (some (h4.size, 10)))] H (noU_all rfl) (fun fr => by kernel_rfl) ?_
            intro fr H
            refine at_step (v := .agg [.int .i64 x7.Time.Sec, .int .i64 x7.Time.Nsec]) (h1 := h6) [(0, vs e_S_api_Member p0), (5, .map (some bqw1)), (6, rowV r2 x3.length), (8, .ptr (some (h4.size, 0))), (16, rowV rqw2 x2.length), (17, .int .i64 (x2.length : Int)), (18, .int .i64 x4), (31, .bool false), (36, .agg [.int .i64 x9.Time.Sec, .int .i64 x9.Time.Nsec]), (38, .agg [.int .i64 x7.Time.Sec, .int .i64 x7.Time.Nsec])] H (fun fr => by kernel_rfl) (fun fr => .of (s_ldA (by kernel_rfl) (A.ldA 0 rfl (o := 10) (n := 2) ⟨Nat.le_of_ble_eq_true rfl, rfl⟩))) ?_
            intro fr t H
            have A1 := A.cut 0
            obtain ⟨x10, hx, hm⟩ := bind_some hm
            obtain ⟨v1, h8, hr, rfl, A1⟩ := ok_stamp_Cmp (av := [.agg [.int .i64 x9.Time.Sec, .int .i64 x9.Time.Nsec], .agg [.int .i64 x7.Time.Sec, .int .i64 x7.Time.Nsec]]) hx (by kernel_rfl) A1
            replace A : HH g h8 [.obj h4.size (.cells none 2 (e_S_api_Member x7)), .lst rqw2 63 (lst e_S_api_Member x2), .lst r2 63 (lst e_S_api_Member x3), .obj bqw1 (.map 2 (encM (fun k : List UInt8 => .str k) (fun v : Int => .int .i64 v) x1))] F := A.glue0 (n := 0) A1
            refine at_step (v := .int .i64 x10) (h1 := h8) [(0, vs e_S_api_Member p0), (5, .map (some bqw1)), (6, rowV r2 x3.length), (8, .ptr (some (h4.size, 0))), (16, rowV rqw2 x2.length), (17, .int .i64 (x2.length : Int)), (18, .int .i64 x4), (31, .bool false), (39, .int .i64 x10)] H (fun fr => by kernel_rfl) (fun fr => Steps.call (by kernel_rfl) hr) ?_
            intro fr t H
            refine at_seg [(11, []), (12, [])] [(0, vs e_S_api_Member p0), (5, .map (some bqw1)), (6, rowV r2 x3.length), (8, .ptr (some (h4.size, 0))), (16, rowV rqw2 x2.length), (17, .int .i64 (x2.length : Int)), (18, .int .i64 x4), (41, .bool (decide (x10 < (0 : Int))))] H (noU_all rfl) (fun fr => by kernel_rfl) ?_
            intro fr H
            have e1 := Option.some.inj hm
            subst e1
            exact at_nil ⟨H.less _ (fun fr => by kernel_rfl), A⟩
        · clear A
          intro t fr h7 hK
          obtain ⟨H, A⟩ := hK
          refine at_nil ?_
          show AW cfg 24 g (right (right (right (left (left (right (right (left (left (right (left (right (right (right (bodyC cfg.P 24))))))))))))))) fr h7 _
          rcases iteB_some hm with ⟨hb, hm⟩ | ⟨hb, hm⟩
          · replace H := H.know 41 hb (by kernel_rfl)
            refine aw_true (x := .tmp 41) (by kernel_rfl) H (fun fr => by kernel_rfl) ?_
            refine aw_reg (id := 8) (n := 5) [(0, []), (1, []), (2, []), (3, []), (4, [])] (by kernel_rfl) (by kernel_rfl) ?_
            refine at_seg [(0, [])] [(0, vs e_S_api_Member p0), (5, .map (some bqw1)), (8, .ptr (some (h4.size, 0))), (16, rowV rqw2 x2.length), (17, .int .i64 (x2.length : Int)), (18, .int .i64 x4), (42, rowV r2 x3.length)] H (noU_all rfl) (fun fr => by kernel_rfl) ?_
            intro fr H
            refine at_step (v := .agg (e_S_api_Member x7)) (h1 := h7) [(0, vs e_S_api_Member p0), (5, .map (some bqw1)), (16, rowV rqw2 x2.length), (17, .int .i64 (x2.length : Int)), (18, .int .i64 x4), (42, rowV r2 x3.length), (43, .agg (e_S_api_Member x7))] H (fun fr => by kernel_rfl) (fun fr => .of (s_ldA (by kernel_rfl) (A.ldA 0 rfl (o := 0) (n := 14) ⟨Nat.le_of_ble_eq_true rfl, rfl⟩))) ?_
            intro fr t H
            obtain ⟨h9, e2⟩ : ∃ x, x = h7.push (.cells (some 63) 2 [.str x7.Name, .str x7.Link, .int .u8 x7.Kind, .int .i64 x7.Mode, .int .i64 x7.Uid, .int .i64 x7.Gid, .str x7.Uname, .str x7.Gname, .int .i64 x7.Major, .int .i64 x7.Minor, .int .i64 x7.Time.Sec, .int .i64 x7.Time.Nsec, vs e_S_api_Pair x7.Extra, .str x7.Data]) := ⟨_, rfl⟩
            replace A := (A.pushL _ _).to e2
            refine at_step (v := rowV (some h7.size) (([x7] : List S_api_Member).length)) (h1 := h9) [(0, vs e_S_api_Member p0), (5, .map (some bqw1)), (16, rowV rqw2 x2.length), (17, .int .i64 (x2.length : Int)), (18, .int .i64 x4), (42, rowV r2 x3.length), (44, rowV (some h7.size) (([x7] : List S_api_Member).length))] H (fun fr => by kernel_rfl) (fun fr => .of (s_n' (by kernel_rfl) (congrArg some e2.symm))) ?_
            intro fr t H
            obtain ⟨hb, hm⟩ := need_some hm
            obtain ⟨r5, h10, hx, A1⟩ := HH.appO enc_S_api_Member (by decide) A 3 (xs := x3) (ys := ([x7] : List S_api_Member)) rfl (row_first A 0 rfl (n := ([x7] : List S_api_Member).length) (z := 14) rfl (by decide)) rfl rfl hb
            replace A : HH g h10 [.lst (some h7.size) 63 ([.str x7.Name, .str x7.Link, .int .u8 x7.Kind, .int .i64 x7.Mode, .int .i64 x7.Uid, .int .i64 x7.Gid, .str x7.Uname, .str x7.Gname, .int .i64 x7.Major, .int .i64 x7.Minor, .int .i64 x7.Time.Sec, .int .i64 x7.Time.Nsec, vs e_S_api_Pair x7.Extra, .str x7.Data]), .obj h4.size (.cells none 2 (e_S_api_Member x7)), .lst rqw2 63 (lst e_S_api_Member x2), .lst r5 63 (lst e_S_api_Member (x3 ++ ([x7] : List S_api_Member))), .obj bqw1 (.map 2 (encM (fun k : List UInt8 => .str k) (fun v : Int => .int .i64 v) x1))] F := A1
            replace A : HH g h10 [.obj h4.size (.cells none 2 (e_S_api_Member x7)), .lst rqw2 63 (lst e_S_api_Member x2), .lst r5 63 (lst e_S_api_Member (x3 ++ ([x7] : List S_api_Member))), .obj bqw1 (.map 2 (encM (fun k : List UInt8 => .str k) (fun v : Int => .int .i64 v) x1))] F := (HH.dropF ((((A.front 4 rfl).front 4 rfl).front 4 rfl).front 4 rfl) 4)
            refine at_step (v := rowV r5 ((x3 ++ ([x7] : List S_api_Member)).length)) (h1 := h10) [(0, vs e_S_api_Member p0), (5, .map (some bqw1)), (16, rowV rqw2 x2.length), (17, .int .i64 (x2.length : Int)), (18, .int .i64 x4), (45, rowV r5 ((x3 ++ ([x7] : List S_api_Member)).length))] H (fun fr => by kernel_rfl) (fun fr => .of (s_app (s := rowS r2 x3.length) (by kernel_rfl) hx)) ?_
            intro fr t H
            refine at_seg [(4, [])] [(0, vs e_S_api_Member p0), (5, .map (some bqw1)), (6, rowV r5 ((x3 ++ ([x7] : List S_api_Member)).length)), (16, rowV rqw2 x2.length), (17, .int .i64 (x2.length : Int)), (18, .int .i64 x4)] H (noU_all rfl) (fun fr => by kernel_rfl) ?_
            intro fr H
            refine at_nil ?_
            replace A : HH g h10 [.lst rqw2 63 (lst e_S_api_Member x2), .lst r5 63 (lst e_S_api_Member (x3 ++ ([x7] : List S_api_Member))), .obj bqw1 (.map 2 (encM (fun k : List UInt8 => .str k) (fun v : Int => .int .i64 v) x1))] F := (HH.dropF (((A.front 3 rfl).front 3 rfl).front 3 rfl) 3)
            exact Or.inl ⟨(x3 ++ ([x7] : List S_api_Member)), rfl, Option.some.inj hm, r5, H.less _ (fun fr => by kernel_rfl), A⟩
          · replace H := H.know 41 hb (by kernel_rfl)
            refine aw_false (x := .tmp 41) (by kernel_rfl) H (fun fr => by kernel_rfl) ?_
            refine aw_skip (by kernel_rfl) ?_
            replace A : HH g h7 [.lst rqw2 63 (lst e_S_api_Member x2), .lst r2 63 (lst e_S_api_Member x3), .obj bqw1 (.map 2 (encM (fun k : List UInt8 => .str k) (fun v : Int => .int .i64 v) x1))] F := (HH.dropF (((A.front 3 rfl).front 3 rfl).front 3 rfl) 3)
            exact Or.inl ⟨x3, rfl, Option.some.inj hm, r2, H.less _ (fun fr => by kernel_rfl), A⟩
      · clear ho
        clear A
        intro e fr h11 hQ
        rcases hQ with ⟨x6, rfl, rfl, r4, H, A⟩ | hF
        · skip
          show AW cfg 24 g (right (right (right (left (left (right (left (right (right (right (bodyC cfg.P 24))))))))))) fr h11 _
          refine aw_reg (id := 9) (n := 2) [(0, []), (1, [])] (by kernel_rfl) (by kernel_rfl) ?_
          refine at_seg [(0, []), (1, [])] [(0, vs e_S_api_Member p0), (5, .map (some bqw1)), (6, rowV r4 x6.length), (16, rowV rqw2 x2.length), (17, .int .i64 (x2.length : Int)), (18, .int .i64 (IntKind.i64.wrap (x4 + (1 : Int))))] H (noU_all rfl) (fun fr => by kernel_rfl) ?_
          intro fr H
          refine at_nil ?_
          exact Exists.intro (x6, IntKind.i64.wrap (x4 + (1 : Int))) (And.intro (Option.some.inj hm).symm ⟨x6, IntKind.i64.wrap (x4 + (1 : Int)), rfl, r4, H.less _ (fun fr => by kernel_rfl), A⟩)
        · exact hF.elim
    · replace H := H.know 19 hb (by kernel_rfl)
      refine aw_false (x := .tmp 19) (by kernel_rfl) H (fun fr => by kernel_rfl) ?_
      refine aw_exit (i := 0) (by kernel_rfl) ?_
      replace A : HH g h4 [.lst r2 63 (lst e_S_api_Member x3), .obj bqw1 (.map 2 (encM (fun k : List UInt8 => .str k) (fun v : Int => .int .i64 v) x1))] F := (HH.dropF ((A.front 2 rfl).front 2 rfl) 2)
      exact Exists.intro _ (And.intro (Option.some.inj hm).symm (fun e => Or.inl ⟨x3, rfl, e, r2, H.less _ (fun fr => by kernel_rfl), A⟩))
  · clear ho
    clear A
    intro e fr h12 hQ
    rcases hQ with ⟨x5, rfl, rfl, r3, H, A⟩ | hF
    · skip
      show AW cfg 24 g (right (right (right (right (bodyC cfg.P 24))))) fr h12 _
      refine aw_seq (by kernel_rfl) ?_
      refine aw_reg (id := 10) (n := 3) [(0, []), (1, []), (2, [])] (by kernel_rfl) (by kernel_rfl) ?_
      refine at_seg [(0, [])] [(47, rowV r3 x5.length)] H (noU_all rfl) (fun fr => by kernel_rfl) ?_
      intro fr H
      have A1 := A.cut 1
      obtain ⟨x11, hx, hm⟩ := bind_some hm
      obtain ⟨v1, h13, hr, rqw4, rfl, A1⟩ := ok_delta_Last_sO (av := [rowV r3 x5.length]) hx (by kernel_rfl) A1
      replace A : HH g h13 [.lst rqw4 63 (lst e_S_api_Member x11), .lst r3 63 (lst e_S_api_Member x5), .obj bqw1 (.map 2 (encM (fun k : List UInt8 => .str k) (fun v : Int => .int .i64 v) x1))] F := A.glue0 (n := 1) A1
      refine at_step (v := rowV rqw4 x11.length) (h1 := h13) [(48, rowV rqw4 x11.length)] H (fun fr => by kernel_rfl) (fun fr => Steps.call (by kernel_rfl) hr) ?_
      intro fr t H
      refine at_seg [(2, [])] [(4, rowV rqw4 x11.length)] H (noU_all rfl) (fun fr => by kernel_rfl) ?_
      intro fr H
      refine at_nil ?_
      show AW cfg 24 g (right (right (right (right (right (bodyC cfg.P 24)))))) fr h13 _
      refine aw_ret (by kernel_rfl) ?_
      have e1 := Option.some.inj hm
      subst e1
      refine ⟨.inl rfl, rowV rqw4 x11.length, resH H (fun fr => by kernel_rfl), ?_⟩
      replace A : HH g h13 [.lst rqw4 63 (lst e_S_api_Member x11)] F := (HH.dropF (A.front 0 rfl) 1)
      exact ⟨rqw4, rfl, A⟩
    · exact hF.elim
/-! ### boulter/boulterref12.Same -/
noncomputable def M_boulterref12_Same_sOO_L0 (p0 : List S_api_Member) (p1 : List S_api_Member) (s : Int) : Option ((Int) ⊕ ((Unit) ⊕ (Bool))) :=
  match s with
  | x1 => iteB (decide (x1 < (p0.length : Int))) ((ixV p0 x1).bind fun x3 => (ixV p1 x1).bind fun x4 => (M_boulterref07_Same x3 x4).bind fun x5 => iteB (!x5) (some (.inr (.inr false))) (some (.inl (IntKind.i64.wrap (x1 + (1 : Int)))))) (some (.inr (.inl ())))
noncomputable def M_boulterref12_Same_sOO (p0 : List S_api_Member) (p1 : List S_api_Member) : Option (Bool) :=
 iteB ((p0.length : Int) != (p1.length : Int)) (some false) ((loop (M_boulterref12_Same_sOO_L0 p0 p1) (0 : Int)).bind fun o1 => (match o1 with | .inl _ => some true | .inr x2 => some x2))
theorem ok_boulterref12_Same_sOO {g : Gd} {h : AHeap} {F : List Ck} {p0 : List S_api_Member} {p1 : List S_api_Member} {rp0 : Option Nat} {rp1 : Option Nat} {q0 : Bool} {av : List AVal} (hm : M_boulterref12_Same_sOO p0 p1 = some q0) (hc : canL (cfg.still 21) av = [rowV rp0 p0.length, rowV rp1 p1.length]) (A : HH g h [.lst rp0 63 (lst e_S_api_Member p0), .lst rp1 63 (lst e_S_api_Member p1)] F) : ∃ v h', Runs cfg g h 21 av v h' ∧ v = .bool q0 ∧ HH g h' [.lst rp0 63 (lst e_S_api_Member p0), .lst rp1 63 (lst e_S_api_Member p1)] F := by
  refine runsQ1 (n := 27) (rs := [.tmp 4]) (by kernel_rfl) hc (by kernel_rfl) ?_
  clear hc
  unfold M_boulterref12_Same_sOO at hm
  refine start (n := 27) [(0, rowV rp0 p0.length), (1, rowV rp1 p1.length)] (by kernel_rfl) (by kernel_rfl) ?_
  intro fr H
  refine aw_seq (by kernel_rfl) ?_
  refine aw_reg (id := 0) (n := 1) [(0, [])] (by kernel_rfl) (by kernel_rfl) ?_
  refine at_seg [(0, [])] [(0, rowV rp0 p0.length), (1, rowV rp1 p1.length)] H (noU_all rfl) (fun fr => by kernel_rfl) ?_
  intro fr H
  refine at_nil ?_
  show AW cfg 21 g (right (bodyC cfg.P 21)) fr h _
  refine aw_seq (by kernel_rfl) ?_
  refine aw_seq (by kernel_rfl) ?_
  refine aw_reg (id := 1) (n := 5) [(0, []), (1, []), (2, []), (3, []), (4, [])] (by kernel_rfl) (by kernel_rfl) ?_
  refine at_seg [(0, []), (1, []), (2, []), (3, []), (4, [])] [(0, rowV rp0 p0.length), (1, rowV rp1 p1.length), (10, .bool ((p0.length : Int) != (p1.length : Int)))] H (noU_all rfl) (fun fr => by kernel_rfl) ?_
  intro fr H
  refine at_nil ?_
  show AW cfg 21 g (right (left (right (bodyC cfg.P 21)))) fr h _
  rcases iteB_some hm with ⟨hb, hm⟩ | ⟨hb, hm⟩
  · replace H := H.know 10 hb (by kernel_rfl)
    refine aw_true (x := .tmp 10) (by kernel_rfl) H (fun fr => by kernel_rfl) ?_
    refine aw_seq (by kernel_rfl) ?_
    refine aw_reg (id := 2) (n := 1) [(0, [])] (by kernel_rfl) (by kernel_rfl) ?_
    refine at_seg [(0, [])] [(4, .bool false)] H (noU_all rfl) (fun fr => by kernel_rfl) ?_
    intro fr H
    refine at_nil ?_
    show AW cfg 21 g (right (left (right (left (right (bodyC cfg.P 21)))))) fr h _
    refine aw_ret (by kernel_rfl) ?_
    have e1 := Option.some.inj hm
    subst e1
    refine ⟨.inl rfl, .bool false, resH H (fun fr => by kernel_rfl), ?_⟩
    exact ⟨rfl, A⟩
  · replace H := H.know 10 hb (by kernel_rfl)
    refine aw_false (x := .tmp 10) (by kernel_rfl) H (fun fr => by kernel_rfl) ?_
    refine aw_skip (by kernel_rfl) ?_
    show AW cfg 21 g (right (right (bodyC cfg.P 21))) fr h _
    refine aw_seq (by kernel_rfl) ?_
    refine aw_seq (by kernel_rfl) ?_
    refine aw_reg (id := 3) (n := 1) [(0, [])] (by kernel_rfl) (by kernel_rfl) ?_
    refine at_seg [(0, [])] [(0, rowV rp0 p0.length), (1, rowV rp1 p1.length), (5, .int .i64 (0 : Int))] H (noU_all rfl) (fun fr => by kernel_rfl) ?_
    intro fr H
    refine at_nil ?_
    show AW cfg 21 g (right (left (right (right (bodyC cfg.P 21))))) fr h _
    refine aw_block (id := 0) (by kernel_rfl) ?_
    obtain ⟨o1, ho, hm⟩ := bind_some hm
    refine aw_mono (Q' := fun e fr' h' => (e = .exit 0 ∧ .inl () = o1 ∧ Has fr' 27 [] ∧ HH g h' [.lst rp0 63 (lst e_S_api_Member p0), .lst rp1 63 (lst e_S_api_Member p1)] F) ∨ (∃ (x2 : Bool), e = .ret ∧ .inr x2 = o1 ∧ Has fr' 27 [(4, .bool x2)] ∧ HH g h' [.lst rp0 63 (lst e_S_api_Member p0), .lst rp1 63 (lst e_S_api_Member p1)] F) ∨ False) ?_ ?_
    · refine aw_loop (by kernel_rfl) (fun (s : Int) fr' h' => ∃ (x1 : Int), x1 = s ∧ Has fr' 27 [(0, rowV rp0 p0.length), (1, rowV rp1 p1.length), (5, .int .i64 x1)] ∧ HH g h' [.lst rp0 63 (lst e_S_api_Member p0), .lst rp1 63 (lst e_S_api_Member p1)] F) ho ⟨(0 : Int), rfl, H.less _ (fun fr => by kernel_rfl), A⟩ ?_
      clear ho hm H A
      intro s q fr h1 hI hm
      obtain ⟨x1, rfl, H, A⟩ := hI
      unfold M_boulterref12_Same_sOO_L0 at hm
      refine aw_seq (by kernel_rfl) ?_
      refine aw_seq (by kernel_rfl) ?_
      refine aw_reg (id := 4) (n := 4) [(0, []), (1, []), (2, []), (3, [])] (by kernel_rfl) (by kernel_rfl) ?_
      refine at_seg [(0, []), (1, []), (2, []), (3, [])] [(0, rowV rp0 p0.length), (1, rowV rp1 p1.length), (5, .int .i64 x1), (14, .bool (decide (x1 < (p0.length : Int))))] H (noU_all rfl) (fun fr => by kernel_rfl) ?_
      intro fr H
      refine at_nil ?_
      show AW cfg 21 g (right (left (left (left (right (left (right (right (bodyC cfg.P 21))))))))) fr h1 _
      rcases iteB_some hm with ⟨hb, hm⟩ | ⟨hb, hm⟩
      · replace H := H.know 14 hb (by kernel_rfl)
        refine aw_true (x := .tmp 14) (by kernel_rfl) H (fun fr => by kernel_rfl) ?_
        refine aw_skip (by kernel_rfl) ?_
        show AW cfg 21 g (right (left (left (right (left (right (right (bodyC cfg.P 21)))))))) fr h1 _
        refine aw_seq (by kernel_rfl) ?_
        refine aw_block (id := 1) (by kernel_rfl) ?_
        refine aw_seq (by kernel_rfl) ?_
        refine aw_draw (id := 6) (n := 10) (by kernel_rfl) [(0, []), (1, []), (2, []), (3, []), (4, []), (5, []), (6, []), (7, []), (8, []), (9, [])] (by kernel_rfl) ?_
        refine at_seg [(0, []), (1, [])] [(0, rowV rp0 p0.length), (1, rowV rp1 p1.length), (5, .int .i64 x1), (17, rowV rp0 p0.length), (18, .int .i64 x1)] H (noU_all rfl) (fun fr => by kernel_rfl) ?_
        intro fr H
        obtain ⟨x3, hx, hm⟩ := bind_some hm
        obtain ⟨i1, er1, _, hx, hq1⟩ := HH.ixO enc_S_api_Member (by decide) A 0 (xs := p0) rfl hx
        refine at_step (v := .ptr (some (i1, x1.toNat * 14))) (h1 := h1) [(0, rowV rp0 p0.length), (1, rowV rp1 p1.length), (5, .int .i64 x1), (19, .ptr (some (i1, x1.toNat * 14)))] H (fun fr => by kernel_rfl) (fun fr => .of (s_ixL (s := rowS rp0 p0.length) (by kernel_rfl) hx)) ?_
        intro fr t H
        refine at_step (v := .agg (e_S_api_Member x3)) (h1 := h1) [(0, rowV rp0 p0.length), (1, rowV rp1 p1.length), (5, .int .i64 x1), (20, .agg (e_S_api_Member x3))] H (fun fr => by kernel_rfl) (fun fr => .of (s_ldA (by kernel_rfl) (row_ldA enc_S_api_Member (HH.row A 0 rfl er1) hq1 0 14 (Nat.le_of_ble_eq_true rfl)))) ?_
        intro fr t H
        refine at_seg [(4, []), (5, [])] [(0, rowV rp0 p0.length), (1, rowV rp1 p1.length), (5, .int .i64 x1), (20, .agg (e_S_api_Member x3)), (21, rowV rp1 p1.length), (22, .int .i64 x1)] H (noU_all rfl) (fun fr => by kernel_rfl) ?_
        intro fr H
        obtain ⟨x4, hx, hm⟩ := bind_some hm
        obtain ⟨i2, er2, _, hx, hq2⟩ := HH.ixO enc_S_api_Member (by decide) A 1 (xs := p1) rfl hx
        refine at_step (v := .ptr (some (i2, x1.toNat * 14))) (h1 := h1) [(0, rowV rp0 p0.length), (1, rowV rp1 p1.length), (5, .int .i64 x1), (20, .agg (e_S_api_Member x3)), (23, .ptr (some (i2, x1.toNat * 14)))] H (fun fr => by kernel_rfl) (fun fr => .of (s_ixL (s := rowS rp1 p1.length) (by kernel_rfl) hx)) ?_
        intro fr t H
        refine at_step (v := .agg (e_S_api_Member x4)) (h1 := h1) [(0, rowV rp0 p0.length), (1, rowV rp1 p1.length), (5, .int .i64 x1), (20, .agg (e_S_api_Member x3)), (24, .agg (e_S_api_Member x4))] H (fun fr => by kernel_rfl) (fun fr => .of (s_ldA (by kernel_rfl) (row_ldA enc_S_api_Member (HH.row A 1 rfl er2) hq2 0 14 (Nat.le_of_ble_eq_true rfl)))) ?_
        intro fr t H
        have A1 := A.cut 0
        obtain ⟨x5, hx, hm⟩ := bind_some hm
        obtain ⟨v1, h2, hr, rfl, A1⟩ := ok_boulterref07_Same (av := [.agg (e_S_api_Member x3), .agg (e_S_api_Member x4)]) hx (by kernel_rfl) A1
        replace A : HH g h2 [.lst rp0 63 (lst e_S_api_Member p0), .lst rp1 63 (lst e_S_api_Member p1)] F := A.glue0 (n := 0) A1
        refine at_step (v := .bool x5) (h1 := h2) [(0, rowV rp0 p0.length), (1, rowV rp1 p1.length), (5, .int .i64 x1), (25, .bool x5)] H (fun fr => by kernel_rfl) (fun fr => Steps.call (by kernel_rfl) hr) ?_
        intro fr t H
        refine at_seg [(9, [])] [(0, rowV rp0 p0.length), (1, rowV rp1 p1.length), (5, .int .i64 x1), (26, .bool (!x5))] H (noU_all rfl) (fun fr => by kernel_rfl) ?_
        intro fr H
        refine at_nil ?_
        show AW cfg 21 g (right (left (left (right (left (left (right (left (right (right (bodyC cfg.P 21))))))))))) fr h2 _
        rcases iteB_some hm with ⟨hb, hm⟩ | ⟨hb, hm⟩
        · replace H := H.know 26 hb (by kernel_rfl)
          refine aw_true (x := .tmp 26) (by kernel_rfl) H (fun fr => by kernel_rfl) ?_
          refine aw_seq (by kernel_rfl) ?_
          refine aw_reg (id := 7) (n := 1) [(0, [])] (by kernel_rfl) (by kernel_rfl) ?_
          refine at_seg [(0, [])] [(4, .bool false)] H (noU_all rfl) (fun fr => by kernel_rfl) ?_
          intro fr H
          refine at_nil ?_
          show AW cfg 21 g (right (left (right (left (left (right (left (left (right (left (right (right (bodyC cfg.P 21))))))))))))) fr h2 _
          refine aw_ret (by kernel_rfl) ?_
          exact Exists.intro _ (And.intro (Option.some.inj hm).symm (fun e => Or.inr (Or.inl ⟨false, rfl, e, H.less _ (fun fr => by kernel_rfl), A⟩)))
        · replace H := H.know 26 hb (by kernel_rfl)
          refine aw_false (x := .tmp 26) (by kernel_rfl) H (fun fr => by kernel_rfl) ?_
          refine aw_skip (by kernel_rfl) ?_
          show AW cfg 21 g (right (right (left (left (right (left (right (right (bodyC cfg.P 21))))))))) fr h2 _
          refine aw_reg (id := 5) (n := 3) [(0, []), (1, []), (2, [])] (by kernel_rfl) (by kernel_rfl) ?_
          refine at_seg [(0, []), (1, []), (2, [])] [(0, rowV rp0 p0.length), (1, rowV rp1 p1.length), (5, .int .i64 (IntKind.i64.wrap (x1 + (1 : Int))))] H (noU_all rfl) (fun fr => by kernel_rfl) ?_
          intro fr H
          refine at_nil ?_
          exact Exists.intro (IntKind.i64.wrap (x1 + (1 : Int))) (And.intro (Option.some.inj hm).symm ⟨IntKind.i64.wrap (x1 + (1 : Int)), rfl, H.less _ (fun fr => by kernel_rfl), A⟩)
      · replace H := H.know 14 hb (by kernel_rfl)
        refine aw_false (x := .tmp 14) (by kernel_rfl) H (fun fr => by kernel_rfl) ?_
        refine aw_exit (i := 0) (by kernel_rfl) ?_
        exact Exists.intro _ (And.intro (Option.some.inj hm).symm (fun e => Or.inl ⟨rfl, e, H.less _ (fun fr => by kernel_rfl), A⟩))
    · clear ho
      clear A
      intro e fr h3 hQ
      rcases hQ with ⟨rfl, rfl, H, A⟩ | ⟨x2, rfl, rfl, H, A⟩ | hF
      · skip
        show AW cfg 21 g (right (right (right (bodyC cfg.P 21)))) fr h3 _
        refine aw_seq (by kernel_rfl) ?_
        refine aw_reg (id := 8) (n := 1) [(0, [])] (by kernel_rfl) (by kernel_rfl) ?_
        refine at_seg [(0, [])] [(4, .bool true)] H (noU_all rfl) (fun fr => by kernel_rfl) ?_
        intro fr H
        refine at_nil ?_
        show AW cfg 21 g (right (right (right (right (bodyC cfg.P 21))))) fr h3 _
        refine aw_ret (by kernel_rfl) ?_
        have e1 := Option.some.inj hm
        subst e1
        refine ⟨.inl rfl, .bool true, resH H (fun fr => by kernel_rfl), ?_⟩
        exact ⟨rfl, A⟩
      · skip
        have e1 := Option.some.inj hm
        subst e1
        refine ⟨.inl rfl, .bool x2, resH H (fun fr => by kernel_rfl), ?_⟩
        exact ⟨rfl, A⟩
      · exact hF.elim
/-! ### slices.Equal[[]boulter/api.Pair,boulter/api.Pair] -/
noncomputable def M_slices_Equal_boulter_api_Pair_boulter_api_Pair_L0 (p0 : List S_api_Pair) (p1 : List S_api_Pair) (s : Int) : Option ((Int) ⊕ ((Unit) ⊕ (Bool))) :=
  match s with
  | x1 => iteB (decide (x1 < (p0.length : Int))) ((ixV p0 x1).bind fun x3 => (ixV p1 x1).bind fun x4 => (eqG cfg.P 88 [.str x3.Key, .str x3.Value] [.str x4.Key, .str x4.Value]).bind fun x5 => iteB (!x5) (some (.inr (.inr false))) (some (.inl (IntKind.i64.wrap (x1 + (1 : Int)))))) (some (.inr (.inl ())))
noncomputable def M_slices_Equal_boulter_api_Pair_boulter_api_Pair (p0 : List S_api_Pair) (p1 : List S_api_Pair) : Option (Bool) :=
 iteB ((p0.length : Int) != (p1.length : Int)) (some false) ((loop (M_slices_Equal_boulter_api_Pair_boulter_api_Pair_L0 p0 p1) (0 : Int)).bind fun o1 => (match o1 with | .inl _ => some true | .inr x2 => some x2))
theorem ok_slices_Equal_boulter_api_Pair_boulter_api_Pair {g : Gd} {h : AHeap} {F : List Ck} {p0 : List S_api_Pair} {p1 : List S_api_Pair} {q0 : Bool} {av : List AVal} (hm : M_slices_Equal_boulter_api_Pair_boulter_api_Pair p0 p1 = some q0) (hc : canL (cfg.still 72) av = [vs e_S_api_Pair p0, vs e_S_api_Pair p1]) (A : HH g h [] F) : ∃ v h', Runs cfg g h 72 av v h' ∧ v = .bool q0 ∧ HH g h' [] F := by
  refine runsQ1 (n := 26) (rs := [.tmp 4]) (by kernel_rfl) hc (by kernel_rfl) ?_
  clear hc
  unfold M_slices_Equal_boulter_api_Pair_boulter_api_Pair at hm
  refine start (n := 26) [(0, vs e_S_api_Pair p0), (1, vs e_S_api_Pair p1)] (by kernel_rfl) (by kernel_rfl) ?_
  intro fr H
  refine aw_seq (by kernel_rfl) ?_
  refine aw_reg (id := 0) (n := 1) [(0, [])] (by kernel_rfl) (by kernel_rfl) ?_
  refine at_seg [(0, [])] [(0, vs e_S_api_Pair p0), (1, vs e_S_api_Pair p1)] H (noU_all rfl) (fun fr => by kernel_rfl) ?_
  intro fr H
  refine at_nil ?_
  show AW cfg 72 g (right (bodyC cfg.P 72)) fr h _
  refine aw_seq (by kernel_rfl) ?_
  refine aw_seq (by kernel_rfl) ?_
  refine aw_reg (id := 1) (n := 5) [(0, []), (1, []), (2, []), (3, []), (4, [])] (by kernel_rfl) (by kernel_rfl) ?_
  refine at_seg [(0, []), (1, []), (2, []), (3, []), (4, [])] [(0, vs e_S_api_Pair p0), (1, vs e_S_api_Pair p1), (10, .bool ((p0.length : Int) != (p1.length : Int)))] H (noU_all rfl) (fun fr => by kernel_rfl) ?_
  intro fr H
  refine at_nil ?_
  show AW cfg 72 g (right (left (right (bodyC cfg.P 72)))) fr h _
  rcases iteB_some hm with ⟨hb, hm⟩ | ⟨hb, hm⟩
  · replace H := H.know 10 hb (by kernel_rfl)
    refine aw_true (x := .tmp 10) (by kernel_rfl) H (fun fr => by kernel_rfl) ?_
    refine aw_seq (by kernel_rfl) ?_
    refine aw_reg (id := 2) (n := 1) [(0, [])] (by kernel_rfl) (by kernel_rfl) ?_
    refine at_seg [(0, [])] [(4, .bool false)] H (noU_all rfl) (fun fr => by kernel_rfl) ?_
    intro fr H
    refine at_nil ?_
    show AW cfg 72 g (right (left (right (left (right (bodyC cfg.P 72)))))) fr h _
    refine aw_ret (by kernel_rfl) ?_
    have e1 := Option.some.inj hm
    subst e1
    refine ⟨.inl rfl, .bool false, resH H (fun fr => by kernel_rfl), ?_⟩
    exact ⟨rfl, A⟩
  · replace H := H.know 10 hb (by kernel_rfl)
    refine aw_false (x := .tmp 10) (by kernel_rfl) H (fun fr => by kernel_rfl) ?_
    refine aw_skip (by kernel_rfl) ?_
    show AW cfg 72 g (right (right (bodyC cfg.P 72))) fr h _
    refine aw_seq (by kernel_rfl) ?_
    refine aw_seq (by kernel_rfl) ?_
    refine aw_reg (id := 3) (n := 3) [(0, []), (1, []), (2, [])] (by kernel_rfl) (by kernel_rfl) ?_
    refine at_seg [(0, []), (1, []), (2, [])] [(0, vs e_S_api_Pair p0), (1, vs e_S_api_Pair p1), (12, .int .i64 (p0.length : Int)), (13, .int .i64 (0 : Int))] H (noU_all rfl) (fun fr => by kernel_rfl) ?_
    intro fr H
    refine at_nil ?_
    show AW cfg 72 g (right (left (right (right (bodyC cfg.P 72))))) fr h _
    refine aw_block (id := 0) (by kernel_rfl) ?_
    obtain ⟨o1, ho, hm⟩ := bind_some hm
    refine aw_mono (Q' := fun e fr' h' => (e = .exit 0 ∧ .inl () = o1 ∧ Has fr' 26 [] ∧ HH g h' [] F) ∨ (∃ (x2 : Bool), e = .ret ∧ .inr x2 = o1 ∧ Has fr' 26 [(4, .bool x2)] ∧ HH g h' [] F) ∨ False) ?_ ?_
    · refine aw_loop (by kernel_rfl) (fun (s : Int) fr' h' => ∃ (x1 : Int), x1 = s ∧ Has fr' 26 [(0, vs e_S_api_Pair p0), (1, vs e_S_api_Pair p1), (12, .int .i64 (p0.length : Int)), (13, .int .i64 x1)] ∧ HH g h' [] F) ho ⟨(0 : Int), rfl, H.less _ (fun fr => by kernel_rfl), A⟩ ?_
      clear ho hm H A
      intro s q fr h1 hI hm
      obtain ⟨x1, rfl, H, A⟩ := hI
      unfold M_slices_Equal_boulter_api_Pair_boulter_api_Pair_L0 at hm
      refine aw_seq (by kernel_rfl) ?_
      refine aw_reg (id := 4) (n := 1) [(0, [])] (by kernel_rfl) (by kernel_rfl) ?_
      refine at_seg [(0, [])] [(0, vs e_S_api_Pair p0), (1, vs e_S_api_Pair p1), (12, .int .i64 (p0.length : Int)), (13, .int .i64 x1), (14, .bool (decide (x1 < (p0.length : Int))))] H (noU_all rfl) (fun fr => by kernel_rfl) ?_
      intro fr H
      refine at_nil ?_
      show AW cfg 72 g (right (left (left (right (left (right (right (bodyC cfg.P 72)))))))) fr h1 _
      refine aw_seq (by kernel_rfl) ?_
      rcases iteB_some hm with ⟨hb, hm⟩ | ⟨hb, hm⟩
      · replace H := H.know 14 hb (by kernel_rfl)
        refine aw_true (x := .tmp 14) (by kernel_rfl) H (fun fr => by kernel_rfl) ?_
        refine aw_skip (by kernel_rfl) ?_
        show AW cfg 72 g (right (right (left (left (right (left (right (right (bodyC cfg.P 72))))))))) fr h1 _
        refine aw_seq (by kernel_rfl) ?_
        refine aw_block (id := 1) (by kernel_rfl) ?_
        refine aw_seq (by kernel_rfl) ?_
        refine aw_reg (id := 5) (n := 2) [(0, []), (1, [])] (by kernel_rfl) (by kernel_rfl) ?_
        refine at_seg [(0, []), (1, [])] [(0, vs e_S_api_Pair p0), (1, vs e_S_api_Pair p1), (5, .int .i64 x1), (12, .int .i64 (p0.length : Int)), (13, .int .i64 x1)] H (noU_all rfl) (fun fr => by kernel_rfl) ?_
        intro fr H
        refine at_nil ?_
        show AW cfg 72 g (right (left (left (right (right (left (left (right (left (right (right (bodyC cfg.P 72)))))))))))) fr h1 _
        refine aw_seq (by kernel_rfl) ?_
        refine aw_draw (id := 6) (n := 9) (by kernel_rfl) [(0, []), (1, []), (2, []), (3, []), (4, []), (5, []), (6, []), (7, []), (8, [])] (by kernel_rfl) ?_
        refine at_seg [(0, []), (1, [])] [(0, vs e_S_api_Pair p0), (1, vs e_S_api_Pair p1), (5, .int .i64 x1), (12, .int .i64 (p0.length : Int)), (13, .int .i64 x1), (16, vs e_S_api_Pair p0), (17, .int .i64 x1)] H (noU_all rfl) (fun fr => by kernel_rfl) ?_
        intro fr H
        obtain ⟨x3, hx, hm⟩ := bind_some hm
        refine at_step (v := .vptr [.str x3.Key, .str x3.Value]) (h1 := h1) [(0, vs e_S_api_Pair p0), (1, vs e_S_api_Pair p1), (5, .int .i64 x1), (12, .int .i64 (p0.length : Int)), (13, .int .i64 x1), (18, .vptr [.str x3.Key, .str x3.Value])] H (fun fr => by kernel_rfl) (fun fr => .of (s_ixV (e := e_S_api_Pair) (x := x3) enc_S_api_Pair (by decide) (by kernel_rfl) hx)) ?_
        intro fr t H
        refine at_step (v := .agg [.str x3.Key, .str x3.Value]) (h1 := h1) [(0, vs e_S_api_Pair p0), (1, vs e_S_api_Pair p1), (5, .int .i64 x1), (12, .int .i64 (p0.length : Int)), (13, .int .i64 x1), (19, .agg [.str x3.Key, .str x3.Value])] H (fun fr => by kernel_rfl) (fun fr => .of (s_lv (by kernel_rfl))) ?_
        intro fr t H
        refine at_seg [(4, []), (5, [])] [(0, vs e_S_api_Pair p0), (1, vs e_S_api_Pair p1), (12, .int .i64 (p0.length : Int)), (13, .int .i64 x1), (19, .agg [.str x3.Key, .str x3.Value]), (20, vs e_S_api_Pair p1), (21, .int .i64 x1)] H (noU_all rfl) (fun fr => by kernel_rfl) ?_
        intro fr H
        obtain ⟨x4, hx, hm⟩ := bind_some hm
        refine at_step (v := .vptr [.str x4.Key, .str x4.Value]) (h1 := h1) [(0, vs e_S_api_Pair p0), (1, vs e_S_api_Pair p1), (12, .int .i64 (p0.length : Int)), (13, .int .i64 x1), (19, .agg [.str x3.Key, .str x3.Value]), (22, .vptr [.str x4.Key, .str x4.Value])] H (fun fr => by kernel_rfl) (fun fr => .of (s_ixV (e := e_S_api_Pair) (x := x4) enc_S_api_Pair (by decide) (by kernel_rfl) hx)) ?_
        intro fr t H
        refine at_step (v := .agg [.str x4.Key, .str x4.Value]) (h1 := h1) [(0, vs e_S_api_Pair p0), (1, vs e_S_api_Pair p1), (12, .int .i64 (p0.length : Int)), (13, .int .i64 x1), (19, .agg [.str x3.Key, .str x3.Value]), (23, .agg [.str x4.Key, .str x4.Value])] H (fun fr => by kernel_rfl) (fun fr => .of (s_lv (by kernel_rfl))) ?_
        intro fr t H
        obtain ⟨x5, hx, hm⟩ := bind_some hm
        refine at_step (v := .bool (!x5)) (h1 := h1) [(0, vs e_S_api_Pair p0), (1, vs e_S_api_Pair p1), (12, .int .i64 (p0.length : Int)), (13, .int .i64 x1), (24, .bool (!x5))] H (fun fr => by kernel_rfl) (fun fr => .of (s_neG (by kernel_rfl) hx)) ?_
        intro fr t H
        refine at_nil ?_
        show AW cfg 72 g (right (right (left (left (right (right (left (left (right (left (right (right (bodyC cfg.P 72))))))))))))) fr h1 _
        rcases iteB_some hm with ⟨hb, hm⟩ | ⟨hb, hm⟩
        · replace H := H.know 24 hb (by kernel_rfl)
          refine aw_true (x := .tmp 24) (by kernel_rfl) H (fun fr => by kernel_rfl) ?_
          refine aw_seq (by kernel_rfl) ?_
          refine aw_reg (id := 7) (n := 1) [(0, [])] (by kernel_rfl) (by kernel_rfl) ?_
          refine at_seg [(0, [])] [(4, .bool false)] H (noU_all rfl) (fun fr => by kernel_rfl) ?_
          intro fr H
          refine at_nil ?_
          show AW cfg 72 g (right (left (right (right (left (left (right (right (left (left (right (left (right (right (bodyC cfg.P 72))))))))))))))) fr h1 _
          refine aw_ret (by kernel_rfl) ?_
          exact Exists.intro _ (And.intro (Option.some.inj hm).symm (fun e => Or.inr (Or.inl ⟨false, rfl, e, H.less _ (fun fr => by kernel_rfl), A⟩)))
        · replace H := H.know 24 hb (by kernel_rfl)
          refine aw_false (x := .tmp 24) (by kernel_rfl) H (fun fr => by kernel_rfl) ?_
          refine aw_skip (by kernel_rfl) ?_
          show AW cfg 72 g (right (right (right (left (left (right (left (right (right (bodyC cfg.P 72)))))))))) fr h1 _
          refine aw_reg (id := 8) (n := 2) [(0, []), (1, [])] (by kernel_rfl) (by kernel_rfl) ?_
          refine at_seg [(0, []), (1, [])] [(0, vs e_S_api_Pair p0), (1, vs e_S_api_Pair p1), (12, .int .i64 (p0.length : Int)), (13, .int .i64 (IntKind.i64.wrap (x1 + (1 : Int))))] H (noU_all rfl) (fun fr => by kernel_rfl) ?_
          intro fr H
          refine at_nil ?_
          exact Exists.intro (IntKind.i64.wrap (x1 + (1 : Int))) (And.intro (Option.some.inj hm).symm ⟨IntKind.i64.wrap (x1 + (1 : Int)), rfl, H.less _ (fun fr => by kernel_rfl), A⟩)
      · replace H := H.know 14 hb (by kernel_rfl)
        refine aw_false (x := .tmp 14) (by kernel_rfl) H (fun fr => by kernel_rfl) ?_
        refine aw_exit (i := 0) (by kernel_rfl) ?_
        exact Exists.intro _ (And.intro (Option.some.inj hm).symm (fun e => Or.inl ⟨rfl, e, H.less _ (fun fr => by kernel_rfl), A⟩))
    · clear ho
      clear A
      intro e fr h2 hQ
      rcases hQ with ⟨rfl, rfl, H, A⟩ | ⟨x2, rfl, rfl, H, A⟩ | hF
      · skip
        show AW cfg 72 g (right (right (right (bodyC cfg.P 72)))) fr h2 _
        refine aw_seq (by kernel_rfl) ?_
        refine aw_reg (id := 9) (n := 1) [(0, [])] (by kernel_rfl) (by kernel_rfl) ?_
        refine at_seg [(0, [])] [(4, .bool true)] H (noU_all rfl) (fun fr => by kernel_rfl) ?_
        intro fr H
        refine at_nil ?_
        show AW cfg 72 g (right (right (right (right (bodyC cfg.P 72))))) fr h2 _
        refine aw_ret (by kernel_rfl) ?_
        have e1 := Option.some.inj hm
        subst e1
        refine ⟨.inl rfl, .bool true, resH H (fun fr => by kernel_rfl), ?_⟩
        exact ⟨rfl, A⟩
      · skip
        have e1 := Option.some.inj hm
        subst e1
        refine ⟨.inl rfl, .bool x2, resH H (fun fr => by kernel_rfl), ?_⟩
        exact ⟨rfl, A⟩
      · exact hF.elim
end Go.Av.L
