/-
  Models of functions, and that the abstract run tells them. Written by lift2.py.
-/
import Derived.Test.YtcmfogjpkkodbaaKCfg
import Derived.Test.YtcmfogjpkkodbaaK0
import Derived.Test.YtcmfogjpkkodbaaK1
import Derived.Test.YtcmfogjpkkodbaaK2
import Derived.Test.YtcmfogjpkkodbaaK3
namespace Go.Av.L
open Go.Av Go.Lib
set_option maxRecDepth 10000
set_option linter.unusedVariables false
set_option linter.unusedSimpArgs false
/-! ### boulter/boulterlaw38.DeltaUpdates -/
noncomputable def M_boulterlaw38_DeltaUpdates (p0 : List S_api_Member) (p1 : List S_api_Member) : Option (Bool) :=
 (M_boulterlaw38_long p0).bind fun x1 => (iteB x1 (some true) ((M_boulterlaw38_long p1).bind fun x3 => some x3) : Option (Bool)).bind fun x2 => iteB x2 ((M_boulterlaw38_awake).bind fun x4 => some x4) ((M_delta_Update p0 p0).bind fun x5 => (M_delta_Last p0).bind fun x6 => (M_boulterref12_Same_sVO x5 x6).bind fun x7 => (iteB (!x7) (some true) ((M_delta_Newer p0 p0).bind fun x9 => (M_delta_Last p0).bind fun x10 => (M_boulterref12_Same_sOO x9 x10).bind fun x11 => some (!x11)) : Option (Bool)).bind fun x8 => iteB x8 (some false) ((M_delta_Update p0 p1).bind fun x12 => (M_delta_Of x12 p1).bind fun x13 => (iteB (((x13.Added.length : Int) == (0 : Int)) && ((x13.Changed.length : Int) == (0 : Int))) ((M_delta_Update x12 p1).bind fun x15 => need (okN 168 (([] : List S_api_Member).length + x12.length)) <| need (okN 168 ((([] : List S_api_Member) ++ x12).length + p1.length)) <| (M_delta_Last_sO ((([] : List S_api_Member) ++ x12) ++ p1)).bind fun x16 => (M_boulterref12_Same_sVO x15 x16).bind fun x17 => some x17) (some false) : Option (Bool)).bind fun x14 => (iteB x14 ((M_boulterlaw38_awake).bind fun x19 => some x19) (some false) : Option (Bool)).bind fun x18 => some x18))
theorem ok_boulterlaw38_DeltaUpdates {g : Gd} {h : AHeap} {F : List Ck} {p0 : List S_api_Member} {p1 : List S_api_Member} {q0 : Bool} {av : List AVal} (hm : M_boulterlaw38_DeltaUpdates p0 p1 = some q0) (hc : canL (cfg.still 5) av = [vs e_S_api_Member p0, vs e_S_api_Member p1]) (A : HH g h [] F) : ∃ v h', Runs cfg g h 5 av v h' ∧ v = .bool q0 ∧ HH g h' [] F := by
  refine runsQ1 (n := 61) (rs := [.tmp 4]) (by kernel_rfl) hc (by kernel_rfl) ?_
  clear hc
  unfold M_boulterlaw38_DeltaUpdates at hm
  refine start (n := 61) [(0, vs e_S_api_Member p0), (1, vs e_S_api_Member p1)] (by kernel_rfl) (by kernel_rfl) ?_
  intro fr H
  refine aw_seq (by kernel_rfl) ?_
  refine aw_reg (id := 0) (n := 1) [(0, [])] (by kernel_rfl) (by kernel_rfl) ?_
  refine at_seg [(0, [])] [(0, vs e_S_api_Member p0), (1, vs e_S_api_Member p1)] H (noU_all rfl) (fun fr => by kernel_rfl) ?_
  intro fr H
  refine at_nil ?_
  show AW cfg 5 g (right (bodyC cfg.P 5)) fr h _
  refine aw_seq (by kernel_rfl) ?_
  refine aw_seq (by kernel_rfl) ?_
  refine aw_reg (id := 1) (n := 6) [(0, []), (1, []), (2, []), (3, []), (4, []), (5, [])] (by kernel_rfl) (by kernel_rfl) ?_
  refine at_seg [(0, [])] [(0, vs e_S_api_Member p0), (1, vs e_S_api_Member p1), (7, vs e_S_api_Member p0)] H (noU_all rfl) (fun fr => by kernel_rfl) ?_
  intro fr H
  have A1 := A.cut 0
  obtain ⟨x1, hx, hm⟩ := bind_some hm
  obtain ⟨v1, h1, hr, rfl, A1⟩ := ok_boulterlaw38_long (av := [vs e_S_api_Member p0]) hx (by kernel_rfl) A1
  replace A : HH g h1 [] F := A.glue0 (n := 0) A1
  refine at_step (v := .bool x1) (h1 := h1) [(0, vs e_S_api_Member p0), (1, vs e_S_api_Member p1), (8, .bool x1)] H (fun fr => by kernel_rfl) (fun fr => Steps.call (by kernel_rfl) hr) ?_
  intro fr t H
  refine at_seg [(2, [])] [(0, vs e_S_api_Member p0), (1, vs e_S_api_Member p1), (9, .bool x1)] H (noU_all rfl) (fun fr => by kernel_rfl) ?_
  intro fr H
  obtain ⟨x2, ho, hm⟩ := bind_some hm
  refine at_cut [(3, []), (4, []), (5, [])] (fun fr' h' => Has fr' 61 [(0, vs e_S_api_Member p0), (1, vs e_S_api_Member p1), (12, .bool x2)] ∧ HH g h' [] F) ?_ ?_
  · rcases iteB_some ho with ⟨hb, hm⟩ | ⟨hb, hm⟩
    · replace H := H.know 9 hb (by kernel_rfl)
      refine at_seg [(3, []), (4, []), (5, [])] [(0, vs e_S_api_Member p0), (1, vs e_S_api_Member p1), (12, .bool true)] H (noU_all rfl) (fun fr => by kernel_rfl) ?_
      intro fr H
      have e1 := Option.some.inj hm
      subst e1
      exact at_nil ⟨H.less _ (fun fr => by kernel_rfl), A⟩
    · replace H := H.know 9 hb (by kernel_rfl)
      refine at_seg [(3, [])] [(0, vs e_S_api_Member p0), (1, vs e_S_api_Member p1), (9, .bool false), (10, vs e_S_api_Member p1)] H (noU_all rfl) (fun fr => by kernel_rfl) ?_
      intro fr H
      have A1 := A.cut 0
      obtain ⟨x3, hx, hm⟩ := bind_some hm
      obtain ⟨v1, h3, hr, rfl, A1⟩ := ok_boulterlaw38_long (av := [vs e_S_api_Member p1]) hx (by kernel_rfl) A1
      replace A : HH g h3 [] F := A.glue0 (n := 0) A1
      refine at_step (v := .bool x3) (h1 := h3) [(0, vs e_S_api_Member p0), (1, vs e_S_api_Member p1), (9, .bool false), (11, .bool x3)] H (fun fr => by kernel_rfl) (fun fr => Steps.call (by kernel_rfl) hr) ?_
      intro fr t H
      refine at_seg [(5, [])] [(0, vs e_S_api_Member p0), (1, vs e_S_api_Member p1), (12, .bool x3)] H (noU_all rfl) (fun fr => by kernel_rfl) ?_
      intro fr H
      have e1 := Option.some.inj hm
      subst e1
      exact at_nil ⟨H.less _ (fun fr => by kernel_rfl), A⟩
  · clear A
    intro t fr h2 hK
    obtain ⟨H, A⟩ := hK
    refine at_nil ?_
    show AW cfg 5 g (right (left (right (bodyC cfg.P 5)))) fr h2 _
    rcases iteB_some hm with ⟨hb, hm⟩ | ⟨hb, hm⟩
    · replace H := H.know 12 hb (by kernel_rfl)
      refine aw_true (x := .tmp 12) (by kernel_rfl) H (fun fr => by kernel_rfl) ?_
      refine aw_seq (by kernel_rfl) ?_
      refine aw_reg (id := 2) (n := 2) [(0, []), (1, [])] (by kernel_rfl) (by kernel_rfl) ?_
      obtain ⟨x4, hx, hm⟩ := bind_some hm
      refine at_step (v := .bool x4) (h1 := h2) [(13, .bool x4)] H (fun fr => by kernel_rfl) (fun fr => Steps.call (by kernel_rfl) (ok_boulterlaw38_awake hx)) ?_
      intro fr t H
      refine at_seg [(1, [])] [(4, .bool x4)] H (noU_all rfl) (fun fr => by kernel_rfl) ?_
      intro fr H
      refine at_nil ?_
      show AW cfg 5 g (right (left (right (left (right (bodyC cfg.P 5)))))) fr h2 _
      refine aw_ret (by kernel_rfl) ?_
      have e1 := Option.some.inj hm
      subst e1
      refine ⟨.inl rfl, .bool x4, resH H (fun fr => by kernel_rfl), ?_⟩
      exact ⟨rfl, A⟩
    · replace H := H.know 12 hb (by kernel_rfl)
      refine aw_false (x := .tmp 12) (by kernel_rfl) H (fun fr => by kernel_rfl) ?_
      refine aw_skip (by kernel_rfl) ?_
      show AW cfg 5 g (right (right (bodyC cfg.P 5))) fr h2 _
      refine aw_seq (by kernel_rfl) ?_
      refine aw_seq (by kernel_rfl) ?_
      refine aw_reg (id := 3) (n := 16) [(0, []), (1, []), (2, []), (3, []), (4, []), (5, []), (6, []), (7, []), (8, []), (9, []), (10, []), (11, []), (12, []), (13, []), (14, []), (15, [])] (by kernel_rfl) (by kernel_rfl) ?_
      refine at_seg [(0, []), (1, [])] [(0, vs e_S_api_Member p0), (1, vs e_S_api_Member p1), (14, vs e_S_api_Member p0), (15, vs e_S_api_Member p0)] H (noU_all rfl) (fun fr => by kernel_rfl) ?_
      intro fr H
      have A1 := A.cut 0
      obtain ⟨x5, hx, hm⟩ := bind_some hm
      obtain ⟨v1, h4, hr, rfl, A1⟩ := ok_delta_Update (av := [vs e_S_api_Member p0, vs e_S_api_Member p0]) hx (by kernel_rfl) A1
      replace A : HH g h4 [] F := A.glue0 (n := 0) A1
      refine at_step (v := vs e_S_api_Member x5) (h1 := h4) [(0, vs e_S_api_Member p0), (1, vs e_S_api_Member p1), (16, vs e_S_api_Member x5)] H (fun fr => by kernel_rfl) (fun fr => Steps.call (by kernel_rfl) hr) ?_
      intro fr t H
      refine at_seg [(3, [])] [(0, vs e_S_api_Member p0), (1, vs e_S_api_Member p1), (16, vs e_S_api_Member x5), (17, vs e_S_api_Member p0)] H (noU_all rfl) (fun fr => by kernel_rfl) ?_
      intro fr H
      have A1 := A.cut 0
      obtain ⟨x6, hx, hm⟩ := bind_some hm
      obtain ⟨v1, h5, hr, rqw4, rfl, A1⟩ := ok_delta_Last (av := [vs e_S_api_Member p0]) hx (by kernel_rfl) A1
      replace A : HH g h5 [.lst rqw4 63 (lst e_S_api_Member x6)] F := A.glue0 (n := 0) A1
      refine at_step (v := rowV rqw4 x6.length) (h1 := h5) [(0, vs e_S_api_Member p0), (1, vs e_S_api_Member p1), (16, vs e_S_api_Member x5), (18, rowV rqw4 x6.length)] H (fun fr => by kernel_rfl) (fun fr => Steps.call (by kernel_rfl) hr) ?_
      intro fr t H
      have A1 := A.cut 1
      obtain ⟨x7, hx, hm⟩ := bind_some hm
      obtain ⟨v1, h6, hr, rfl, A1⟩ := ok_boulterref12_Same_sVO (av := [vs e_S_api_Member x5, rowV rqw4 x6.length]) hx (by kernel_rfl) A1
      replace A : HH g h6 [.lst rqw4 63 (lst e_S_api_Member x6)] F := A.glue0 (n := 1) A1
      refine at_step (v := .bool x7) (h1 := h6) [(0, vs e_S_api_Member p0), (1, vs e_S_api_Member p1), (19, .bool x7)] H (fun fr => by kernel_rfl) (fun fr => Steps.call (by kernel_rfl) hr) ?_
      intro fr t H
      refine at_seg [(6, []), (7, [])] [(0, vs e_S_api_Member p0), (1, vs e_S_api_Member p1), (21, .bool (!x7))] H (noU_all rfl) (fun fr => by kernel_rfl) ?_
      intro fr H
      obtain ⟨x8, ho, hm⟩ := bind_some hm
      refine at_cut [(8, []), (9, []), (10, []), (11, []), (12, []), (13, []), (14, []), (15, [])] (fun fr' h' => Has fr' 61 [(0, vs e_S_api_Member p0), (1, vs e_S_api_Member p1), (29, .bool x8)] ∧ HH g h' [] F) ?_ ?_
      · rcases iteB_some ho with ⟨hb, hm⟩ | ⟨hb, hm⟩
        · replace H := H.know 21 hb (by kernel_rfl)
          refine at_seg [(8, []), (9, []), (10, []), (11, []), (12, []), (13, []), (14, []), (15, [])] [(0, vs e_S_api_Member p0), (1, vs e_S_api_Member p1), (29, .bool true)] H (noU_all rfl) (fun fr => by kernel_rfl) ?_
          intro fr H
          have e1 := Option.some.inj hm
          subst e1
          replace A : HH g h6 [] F := (HH.dropF A 0)
          exact at_nil ⟨H.less _ (fun fr => by kernel_rfl), A⟩
        · replace H := H.know 21 hb (by kernel_rfl)
          refine at_seg [(8, []), (9, [])] [(0, vs e_S_api_Member p0), (1, vs e_S_api_Member p1), (21, .bool false), (22, vs e_S_api_Member p0), (23, vs e_S_api_Member p0)] H (noU_all rfl) (fun fr => by kernel_rfl) ?_
          intro fr H
          have A1 := A.cut 0
          obtain ⟨x9, hx, hm⟩ := bind_some hm
          obtain ⟨v1, h8, hr, rqw6, rfl, A1⟩ := ok_delta_Newer (av := [vs e_S_api_Member p0, vs e_S_api_Member p0]) hx (by kernel_rfl) A1
          replace A : HH g h8 [.lst rqw6 63 (lst e_S_api_Member x9), .lst rqw4 63 (lst e_S_api_Member x6)] F := A.glue0 (n := 0) A1
          refine at_step (v := rowV rqw6 x9.length) (h1 := h8) [(0, vs e_S_api_Member p0), (1, vs e_S_api_Member p1), (21, .bool false), (24, rowV rqw6 x9.length)] H (fun fr => by kernel_rfl) (fun fr => Steps.call (by kernel_rfl) hr) ?_
          intro fr t H
          refine at_seg [(11, [])] [(0, vs e_S_api_Member p0), (1, vs e_S_api_Member p1), (21, .bool false), (24, rowV rqw6 x9.length), (25, vs e_S_api_Member p0)] H (noU_all rfl) (fun fr => by kernel_rfl) ?_
          intro fr H
          have A1 := A.cut 0
          obtain ⟨x10, hx, hm⟩ := bind_some hm
          obtain ⟨v1, h9, hr, rqw7, rfl, A1⟩ := ok_delta_Last (av := [vs e_S_api_Member p0]) hx (by kernel_rfl) A1
          replace A : HH g h9 [.lst rqw7 63 (lst e_S_api_Member x10), .lst rqw6 63 (lst e_S_api_Member x9), .lst rqw4 63 (lst e_S_api_Member x6)] F := A.glue0 (n := 0) A1
          refine at_step (v := rowV rqw7 x10.length) (h1 := h9) [(0, vs e_S_api_Member p0), (1, vs e_S_api_Member p1), (21, .bool false), (24, rowV rqw6 x9.length), (26, rowV rqw7 x10.length)] H (fun fr => by kernel_rfl) (fun fr => Steps.call (by kernel_rfl) hr) ?_
          intro fr t H
          replace A : HH g h9 [.lst rqw6 63 (lst e_S_api_Member x9), .lst rqw7 63 (lst e_S_api_Member x10), .lst rqw4 63 (lst e_S_api_Member x6)] F := ((A.front 0 rfl).front 1 rfl)
          have A1 := A.cut 2
          obtain ⟨x11, hx, hm⟩ := bind_some hm
          obtain ⟨v1, h10, hr, rfl, A1⟩ := ok_boulterref12_Same_sOO (av := [rowV rqw6 x9.length, rowV rqw7 x10.length]) hx (by kernel_rfl) A1
          replace A : HH g h10 [.lst rqw6 63 (lst e_S_api_Member x9), .lst rqw7 63 (lst e_S_api_Member x10), .lst rqw4 63 (lst e_S_api_Member x6)] F := A.glue0 (n := 2) A1
          refine at_step (v := .bool x11) (h1 := h10) [(0, vs e_S_api_Member p0), (1, vs e_S_api_Member p1), (21, .bool false), (27, .bool x11)] H (fun fr => by kernel_rfl) (fun fr => Steps.call (by kernel_rfl) hr) ?_
          intro fr t H
          refine at_seg [(14, []), (15, [])] [(0, vs e_S_api_Member p0), (1, vs e_S_api_Member p1), (29, .bool (!x11))] H (noU_all rfl) (fun fr => by kernel_rfl) ?_
          intro fr H
          have e1 := Option.some.inj hm
          subst e1
          replace A : HH g h10 [] F := (HH.dropF A 0)
          exact at_nil ⟨H.less _ (fun fr => by kernel_rfl), A⟩
      · clear A
        intro t fr h7 hK
        obtain ⟨H, A⟩ := hK
        refine at_nil ?_
        show AW cfg 5 g (right (left (right (right (bodyC cfg.P 5))))) fr h7 _
        rcases iteB_some hm with ⟨hb, hm⟩ | ⟨hb, hm⟩
        · replace H := H.know 29 hb (by kernel_rfl)
          refine aw_true (x := .tmp 29) (by kernel_rfl) H (fun fr => by kernel_rfl) ?_
          refine aw_seq (by kernel_rfl) ?_
          refine aw_reg (id := 4) (n := 1) [(0, [])] (by kernel_rfl) (by kernel_rfl) ?_
          refine at_seg [(0, [])] [(4, .bool false)] H (noU_all rfl) (fun fr => by kernel_rfl) ?_
          intro fr H
          refine at_nil ?_
          show AW cfg 5 g (right (left (right (left (right (right (bodyC cfg.P 5))))))) fr h7 _
          refine aw_ret (by kernel_rfl) ?_
          have e1 := Option.some.inj hm
          subst e1
          refine ⟨.inl rfl, .bool false, resH H (fun fr => by kernel_rfl), ?_⟩
          exact ⟨rfl, A⟩
        · replace H := H.know 29 hb (by kernel_rfl)
          refine aw_false (x := .tmp 29) (by kernel_rfl) H (fun fr => by kernel_rfl) ?_
          refine aw_skip (by kernel_rfl) ?_
          show AW cfg 5 g (right (right (right (bodyC cfg.P 5)))) fr h7 _
          refine aw_seq (by kernel_rfl) ?_
          refine aw_reg (id := 5) (n := 4) [(0, []), (1, []), (2, []), (3, [])] (by kernel_rfl) (by kernel_rfl) ?_
          refine at_seg [(0, []), (1, [])] [(1, vs e_S_api_Member p1), (30, vs e_S_api_Member p0), (31, vs e_S_api_Member p1)] H (noU_all rfl) (fun fr => by kernel_rfl) ?_
          intro fr H
          have A1 := A.cut 0
          obtain ⟨x12, hx, hm⟩ := bind_some hm
          obtain ⟨v1, h11, hr, rfl, A1⟩ := ok_delta_Update (av := [vs e_S_api_Member p0, vs e_S_api_Member p1]) hx (by kernel_rfl) A1
          replace A : HH g h11 [] F := A.glue0 (n := 0) A1
          refine at_step (v := vs e_S_api_Member x12) (h1 := h11) [(1, vs e_S_api_Member p1), (32, vs e_S_api_Member x12)] H (fun fr => by kernel_rfl) (fun fr => Steps.call (by kernel_rfl) hr) ?_
          intro fr t H
          refine at_seg [(3, [])] [(1, vs e_S_api_Member p1), (5, vs e_S_api_Member x12)] H (noU_all rfl) (fun fr => by kernel_rfl) ?_
          intro fr H
          refine at_nil ?_
          show AW cfg 5 g (right (right (right (right (bodyC cfg.P 5))))) fr h11 _
          refine aw_seq (by kernel_rfl) ?_
          refine aw_reg (id := 6) (n := 5) [(0, []), (1, []), (2, []), (3, []), (4, [])] (by kernel_rfl) (by kernel_rfl) ?_
          refine at_seg [(0, []), (1, [])] [(1, vs e_S_api_Member p1), (5, vs e_S_api_Member x12), (33, vs e_S_api_Member x12), (34, vs e_S_api_Member p1)] H (noU_all rfl) (fun fr => by kernel_rfl) ?_
          intro fr H
          have A1 := A.cut 0
          obtain ⟨x13, hx, hm⟩ := bind_some hm
          obtain ⟨v1, h12, hr, rfl, A1⟩ := ok_delta_Of (av := [vs e_S_api_Member x12, vs e_S_api_Member p1]) hx (by kernel_rfl) A1
          replace A : HH g h12 [] F := A.glue0 (n := 0) A1
          refine at_step (v := .agg [vs eS x13.Added, vs eS x13.Removed, vs eS x13.Changed]) (h1 := h12) [(1, vs e_S_api_Member p1), (5, vs e_S_api_Member x12), (35, .agg [vs eS x13.Added, vs eS x13.Removed, vs eS x13.Changed])] H (fun fr => by kernel_rfl) (fun fr => Steps.call (by kernel_rfl) hr) ?_
          intro fr t H
          obtain ⟨h13, e1⟩ : ∃ x, x = h12.push (.cells none 2 [.slice none 0, .slice none 0, .slice none 0]) := ⟨_, rfl⟩
          replace A := (A.push _).to e1
          refine at_step (v := .ptr (some (h12.size, 0))) (h1 := h13) [(1, vs e_S_api_Member p1), (5, vs e_S_api_Member x12), (6, .ptr (some (h12.size, 0))), (35, .agg [vs eS x13.Added, vs eS x13.Removed, vs eS x13.Changed])] H (fun fr => by kernel_rfl) (fun fr => .of (s_n' (by kernel_rfl) (congrArg some e1.symm))) ?_
          intro fr t H
          obtain ⟨h14, hx, A1⟩ := A.st 0 rfl (o := 0) (new := [vs eS x13.Added, vs eS x13.Removed, vs eS x13.Changed]) (ds := [vs eS x13.Added, vs eS x13.Removed, vs eS x13.Changed]) (Nat.le_of_ble_eq_true rfl) rfl rfl
          replace A : HH g h14 [.obj h12.size (.cells none 2 [vs eS x13.Added, vs eS x13.Removed, vs eS x13.Changed])] F := A1
          refine at_step (v := .tuple []) (h1 := h14) [(1, vs e_S_api_Member p1), (5, vs e_S_api_Member x12), (6, .ptr (some (h12.size, 0)))] H (fun fr => by kernel_rfl) (fun fr => .of (s_stG (by kernel_rfl) (stG_st hx rfl))) ?_
          intro fr t H
          refine at_nil ?_
          show AW cfg 5 g (right (right (right (right (right (bodyC cfg.P 5)))))) fr h14 _
          refine aw_seq (by kernel_rfl) ?_
          refine aw_reg (id := 7) (n := 26) [(0, []), (1, []), (2, []), (3, []), (4, []), (5, []), (6, []), (7, []), (8, []), (9, []), (10, []), (11, []), (12, []), (13, []), (14, []), (15, []), (16, []), (17, []), (18, []), (19, []), (20, []), (21, []), (22, []), (23, []), (24, []), (25, [])] (by kernel_rfl) (by kernel_rfl) ?_
          refine at_seg [(0, [])] [(1, vs e_S_api_Member p1), (5, vs e_S_api_Member x12), (6, .ptr (some (h12.size, 0))), (36, .ptr (some (h12.size, 0)))] H (noU_all rfl) (fun fr => by kernel_rfl) ?_
          intro fr H
          refine at_step (v := vs eS x13.Added) (h1 := h14) [(1, vs e_S_api_Member p1), (5, vs e_S_api_Member x12), (6, .ptr (some (h12.size, 0))), (37, vs eS x13.Added)] H (fun fr => by kernel_rfl) (fun fr => .of (s_ld (by kernel_rfl) (A.ld1 0 rfl (o := 0) rfl))) ?_
          intro fr t H
          refine at_seg [(2, []), (3, []), (4, [])] [(1, vs e_S_api_Member p1), (5, vs e_S_api_Member x12), (6, .ptr (some (h12.size, 0))), (40, .bool ((x13.Added.length : Int) == (0 : Int)))] H (noU_all rfl) (fun fr => by kernel_rfl) ?_
          intro fr H
          refine at_cut [(5, []), (6, []), (7, []), (8, []), (9, [])] (fun fr' h' => h14 = h' ∧ Has fr' 61 [(1, vs e_S_api_Member p1), (5, vs e_S_api_Member x12), (45, .bool (((x13.Added.length : Int) == (0 : Int)) && ((x13.Changed.length : Int) == (0 : Int))))]) ?_ ?_
          · cases hb : ((x13.Added.length : Int) == (0 : Int) : Bool) with
            | true =>
              replace H := H.know 40 hb (by kernel_rfl)
              refine at_seg [(5, [])] [(1, vs e_S_api_Member p1), (5, vs e_S_api_Member x12), (40, .bool true), (41, .ptr (some (h12.size, 2)))] H (noU_all rfl) (fun fr => by kernel_rfl) ?_
              intro fr H
              refine at_step (v := vs eS x13.Changed) (h1 := h14) [(1, vs e_S_api_Member p1), (5, vs e_S_api_Member x12), (40, .bool true), (42, vs eS x13.Changed)] H (fun fr => by kernel_rfl) (fun fr => .of (s_ld (by kernel_rfl) (A.ld1 0 rfl (o := 2) rfl))) ?_
              intro fr t H
              refine at_seg [(7, []), (8, []), (9, [])] [(1, vs e_S_api_Member p1), (5, vs e_S_api_Member x12), (45, .bool ((x13.Changed.length : Int) == (0 : Int)))] H (noU_all rfl) (fun fr => by kernel_rfl) ?_
              intro fr H
              exact at_nil ⟨rfl, by first | exact H.less _ (fun fr => by rfl) | exact H.less _ (fun fr => by rw [hb]; rfl)⟩
            | false =>
              replace H := H.know 40 hb (by kernel_rfl)
              refine at_seg [(5, []), (6, []), (7, []), (8, []), (9, [])] [(1, vs e_S_api_Member p1), (5, vs e_S_api_Member x12), (45, .bool false)] H (noU_all rfl) (fun fr => by kernel_rfl) ?_
              intro fr H
              exact at_nil ⟨rfl, by first | exact H.less _ (fun fr => by rfl) | exact H.less _ (fun fr => by rw [hb]; rfl)⟩
          · intro t fr h' hK
            obtain ⟨e, H⟩ := hK
            subst e
            refine at_seg [(10, [])] [(1, vs e_S_api_Member p1), (5, vs e_S_api_Member x12), (46, .bool (((x13.Added.length : Int) == (0 : Int)) && ((x13.Changed.length : Int) == (0 : Int))))] H (noU_all rfl) (fun fr => by kernel_rfl) ?_
            intro fr H
            obtain ⟨x14, ho, hm⟩ := bind_some hm
            refine at_cut [(11, []), (12, []), (13, []), (14, []), (15, []), (16, []), (17, []), (18, []), (19, []), (20, []), (21, [])] (fun fr' h' => Has fr' 61 [(57, .bool x14)] ∧ HH g h' [.obj h12.size (.cells none 2 [vs eS x13.Added, vs eS x13.Removed, vs eS x13.Changed])] F) ?_ ?_
            · rcases iteB_some ho with ⟨hb, hm⟩ | ⟨hb, hm⟩
              · replace H := H.know 46 hb (by kernel_rfl)
                refine at_seg [(11, []), (12, [])] [(1, vs e_S_api_Member p1), (5, vs e_S_api_Member x12), (46, .bool true), (47, vs e_S_api_Member x12), (48, vs e_S_api_Member p1)] H (noU_all rfl) (fun fr => by kernel_rfl) ?_
                intro fr H
                have A1 := A.cut 0
                obtain ⟨x15, hx, hm⟩ := bind_some hm
                obtain ⟨v1, h16, hr, rfl, A1⟩ := ok_delta_Update (av := [vs e_S_api_Member x12, vs e_S_api_Member p1]) hx (by kernel_rfl) A1
                replace A : HH g h16 [.obj h12.size (.cells none 2 [vs eS x13.Added, vs eS x13.Removed, vs eS x13.Changed])] F := A.glue0 (n := 0) A1
                refine at_step (v := vs e_S_api_Member x15) (h1 := h16) [(1, vs e_S_api_Member p1), (5, vs e_S_api_Member x12), (46, .bool true), (49, vs e_S_api_Member x15)] H (fun fr => by kernel_rfl) (fun fr => Steps.call (by kernel_rfl) hr) ?_
                intro fr t H
                obtain ⟨h17, e2⟩ : ∃ x, x = h16.push (.cells (some 63) 2 []) := ⟨_, rfl⟩
                replace A := (A.pushL _ _).to e2
                refine at_step (v := rowV (some h16.size) (([] : List S_api_Member).length)) (h1 := h17) [(1, vs e_S_api_Member p1), (5, vs e_S_api_Member x12), (46, .bool true), (49, vs e_S_api_Member x15), (50, rowV (some h16.size) (([] : List S_api_Member).length))] H (fun fr => by kernel_rfl) (fun fr => .of (s_n' (by kernel_rfl) (congrArg some e2.symm))) ?_
                intro fr t H
                refine at_seg [(15, [])] [(1, vs e_S_api_Member p1), (46, .bool true), (49, vs e_S_api_Member x15), (50, rowV (some h16.size) (([] : List S_api_Member).length)), (51, vs e_S_api_Member x12)] H (noU_all rfl) (fun fr => by kernel_rfl) ?_
                intro fr H
                replace A : HH g h17 [.lst (some h16.size) 63 (lst e_S_api_Member ([] : List S_api_Member)), .obj h12.size (.cells none 2 [vs eS x13.Added, vs eS x13.Removed, vs eS x13.Changed])] F := A
                obtain ⟨hb, hm⟩ := need_some hm
                obtain ⟨r1, h18, hx, A1⟩ := HH.appO enc_S_api_Member (by decide) A 0 (xs := ([] : List S_api_Member)) (ys := x12) rfl (firstV enc_S_api_Member _ x12) (enc_S_api_Member.canL _) rfl hb
                replace A : HH g h18 [.lst r1 63 (lst e_S_api_Member (([] : List S_api_Member) ++ x12)), .obj h12.size (.cells none 2 [vs eS x13.Added, vs eS x13.Removed, vs eS x13.Changed])] F := A1
                refine at_step (v := rowV r1 ((([] : List S_api_Member) ++ x12).length)) (h1 := h18) [(1, vs e_S_api_Member p1), (46, .bool true), (49, vs e_S_api_Member x15), (52, rowV r1 ((([] : List S_api_Member) ++ x12).length))] H (fun fr => by kernel_rfl) (fun fr => .of (s_app (s := rowS (some h16.size) (([] : List S_api_Member).length)) (by kernel_rfl) hx)) ?_
                intro fr t H
                refine at_seg [(17, [])] [(46, .bool true), (49, vs e_S_api_Member x15), (52, rowV r1 ((([] : List S_api_Member) ++ x12).length)), (53, vs e_S_api_Member p1)] H (noU_all rfl) (fun fr => by kernel_rfl) ?_
                intro fr H
                obtain ⟨hb, hm⟩ := need_some hm
                obtain ⟨r2, h19, hx, A1⟩ := HH.appO enc_S_api_Member (by decide) A 0 (xs := (([] : List S_api_Member) ++ x12)) (ys := p1) rfl (firstV enc_S_api_Member _ p1) (enc_S_api_Member.canL _) rfl hb
                replace A : HH g h19 [.lst r2 63 (lst e_S_api_Member ((([] : List S_api_Member) ++ x12) ++ p1)), .obj h12.size (.cells none 2 [vs eS x13.Added, vs eS x13.Removed, vs eS x13.Changed])] F := A1
                refine at_step (v := rowV r2 (((([] : List S_api_Member) ++ x12) ++ p1).length)) (h1 := h19) [(46, .bool true), (49, vs e_S_api_Member x15), (54, rowV r2 (((([] : List S_api_Member) ++ x12) ++ p1).length))] H (fun fr => by kernel_rfl) (fun fr => .of (s_app (s := rowS r1 ((([] : List S_api_Member) ++ x12).length)) (by kernel_rfl) hx)) ?_
                intro fr t H
                have A1 := A.cut 1
                obtain ⟨x16, hx, hm⟩ := bind_some hm
                obtain ⟨v1, h20, hr, rqw12, rfl, A1⟩ := ok_delta_Last_sO (av := [rowV r2 (((([] : List S_api_Member) ++ x12) ++ p1).length)]) hx (by kernel_rfl) A1
                replace A : HH g h20 [.lst rqw12 63 (lst e_S_api_Member x16), .lst r2 63 (lst e_S_api_Member ((([] : List S_api_Member) ++ x12) ++ p1)), .obj h12.size (.cells none 2 [vs eS x13.Added, vs eS x13.Removed, vs eS x13.Changed])] F := A.glue0 (n := 1) A1
                refine at_step (v := rowV rqw12 x16.length) (h1 := h20) [(46, .bool true), (49, vs e_S_api_Member x15), (55, rowV rqw12 x16.length)] H (fun fr => by kernel_rfl) (fun fr => Steps.call (by kernel_rfl) hr) ?_
                intro fr t H
                have A1 := A.cut 1
                obtain ⟨x17, hx, hm⟩ := bind_some hm
                obtain ⟨v1, h21, hr, rfl, A1⟩ := ok_boulterref12_Same_sVO (av := [vs e_S_api_Member x15, rowV rqw12 x16.length]) hx (by kernel_rfl) A1
                replace A : HH g h21 [.lst rqw12 63 (lst e_S_api_Member x16), .lst r2 63 (lst e_S_api_Member ((([] : List S_api_Member) ++ x12) ++ p1)), .obj h12.size (.cells none 2 [vs eS x13.Added, vs eS x13.Removed, vs eS x13.Changed])] F := A.glue0 (n := 1) A1
                refine at_step (v := .bool x17) (h1 := h21) [(46, .bool true), (56, .bool x17)] H (fun fr => by kernel_rfl) (fun fr => Steps.call (by kernel_rfl) hr) ?_
                intro fr t H
                refine at_seg [(21, [])] [(57, .bool x17)] H (noU_all rfl) (fun fr => by kernel_rfl) ?_
                intro fr H
                have e1 := Option.some.inj hm
                subst e1
                replace A : HH g h21 [.obj h12.size (.cells none 2 [vs eS x13.Added, vs eS x13.Removed, vs eS x13.Changed])] F := (HH.dropF (A.front 2 rfl) 1)
                exact at_nil ⟨H.less _ (fun fr => by kernel_rfl), A⟩
              · replace H := H.know 46 hb (by kernel_rfl)
                refine at_seg [(11, []), (12, []), (13, []), (14, []), (15, []), (16, []), (17, []), (18, []), (19, []), (20, []), (21, [])] [(57, .bool false)] H (noU_all rfl) (fun fr => by kernel_rfl) ?_
                intro fr H
                have e1 := Option.some.inj hm
                subst e1
                exact at_nil ⟨H.less _ (fun fr => by kernel_rfl), A⟩
            · clear A
              intro t fr h15 hK
              obtain ⟨H, A⟩ := hK
              refine at_seg [(22, [])] [(58, .bool x14)] H (noU_all rfl) (fun fr => by kernel_rfl) ?_
              intro fr H
              obtain ⟨x18, ho, hm⟩ := bind_some hm
              refine at_cut [(23, []), (24, [])] (fun fr' h' => Has fr' 61 [(60, .bool x18)] ∧ HH g h' [.obj h12.size (.cells none 2 [vs eS x13.Added, vs eS x13.Removed, vs eS x13.Changed])] F) ?_ ?_
              · rcases iteB_some ho with ⟨hb, hm⟩ | ⟨hb, hm⟩
                · replace H := H.know 58 hb (by kernel_rfl)
                  obtain ⟨x19, hx, hm⟩ := bind_some hm
                  refine at_step (v := .bool x19) (h1 := h15) [(58, .bool true), (59, .bool x19)] H (fun fr => by kernel_rfl) (fun fr => Steps.call (by kernel_rfl) (ok_boulterlaw38_awake hx)) ?_
                  intro fr t H
                  refine at_seg [(24, [])] [(60, .bool x19)] H (noU_all rfl) (fun fr => by kernel_rfl) ?_
                  intro fr H
                  have e1 := Option.some.inj hm
                  subst e1
                  exact at_nil ⟨H.less _ (fun fr => by kernel_rfl), A⟩
                · replace H := H.know 58 hb (by kernel_rfl)
                  refine at_seg [(23, []), (24, [])] [(60, .bool false)] H (noU_all rfl) (fun fr => by kernel_rfl) ?_
                  intro fr H
                  have e1 := Option.some.inj hm
                  subst e1
                  exact at_nil ⟨H.less _ (fun fr => by kernel_rfl), A⟩
              · clear A
                intro t fr h22 hK
                obtain ⟨H, A⟩ := hK
                refine at_seg [(25, [])] [(4, .bool x18)] H (noU_all rfl) (fun fr => by kernel_rfl) ?_
                intro fr H
                refine at_nil ?_
                show AW cfg 5 g (right (right (right (right (right (right (bodyC cfg.P 5))))))) fr h22 _
                refine aw_ret (by kernel_rfl) ?_
                have e1 := Option.some.inj hm
                subst e1
                refine ⟨.inl rfl, .bool x18, resH H (fun fr => by kernel_rfl), ?_⟩
                replace A : HH g h22 [] F := (HH.dropF A 0)
                exact ⟨rfl, A⟩
end Go.Av.L
