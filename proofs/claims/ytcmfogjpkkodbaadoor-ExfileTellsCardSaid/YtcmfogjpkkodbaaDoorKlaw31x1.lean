/-
  Models of functions of package law31, and that the abstract run tells them. Written by lift2.py.
-/
import Derived.Test.YtcmfogjpkkodbaaDoorKCfg
import Derived.Test.YtcmfogjpkkodbaaDoorKexfile
import Derived.Test.YtcmfogjpkkodbaaDoorKlaw31
import Derived.Test.YtcmfogjpkkodbaaDoorKref26
import Derived.Test.YtcmfogjpkkodbaaDoorKref31
namespace Go.Av.L
open Go.Av
set_option linter.unusedVariables false
set_option linter.unusedSimpArgs false
/-! ### boulter/boulterlaw31.ExfileTells -/
noncomputable def M_boulterlaw31_ExfileTells (p0 : List UInt8) : Option (Bool) :=
 iteB (decide ((p0.length : Int) > (400 : Int))) ((M_boulterlaw31_awake).bind fun x1 => some x1) ((M_exfile_Lines p0).bind fun x2 => (M_boulterref31_Lines p0).bind fun x3 => (M_boulterref26_Same_s0 x2 x3).bind fun x4 => (iteB x4 ((M_exfile_Items p0).bind fun x6 => (M_boulterref31_Items p0).bind fun x7 => (M_boulterref26_Same_s0 x6 x7).bind fun x8 => some x8) (some false) : Option (Bool)).bind fun x5 => (iteB x5 ((M_boulterlaw31_awake).bind fun x10 => some x10) (some false) : Option (Bool)).bind fun x9 => some x9)
theorem ok_boulterlaw31_ExfileTells {g : Gd} {h : AHeap} {F : List Ck} {p0 : List UInt8} {q0 : Bool} {av : List AVal} (hm : M_boulterlaw31_ExfileTells p0 = some q0) (hc : canL (cfg.still 3) av = [.str p0]) (A : HH g h [] F) : ∃ v h', Runs cfg g h 3 av v h' ∧ v = .bool q0 ∧ HH g h' [] F := by
  refine runsQ1 (n := 22) (rs := [.tmp 2]) (by kernel_rfl) hc (by kernel_rfl) ?_
  clear hc
  unfold M_boulterlaw31_ExfileTells at hm
  refine start (n := 22) [(0, .str p0)] (by kernel_rfl) (by kernel_rfl) ?_
  intro fr H
  refine aw_seq (by kernel_rfl) ?_
  refine aw_reg (id := 0) (n := 1) [(0, [])] (by kernel_rfl) (by kernel_rfl) ?_
  refine at_seg [(0, [])] [(0, .str p0)] H (noU_all rfl) (fun fr => by kernel_rfl) ?_
  intro fr H
  refine at_nil ?_
  show AW cfg 3 g (right (bodyC cfg.P 3)) fr h _
  refine aw_seq (by kernel_rfl) ?_
  refine aw_seq (by kernel_rfl) ?_
  refine aw_reg (id := 1) (n := 3) [(0, []), (1, []), (2, [])] (by kernel_rfl) (by kernel_rfl) ?_
  refine at_seg [(0, []), (1, []), (2, [])] [(0, .str p0), (5, .bool (decide ((p0.length : Int) > (400 : Int))))] H (noU_all rfl) (fun fr => by kernel_rfl) ?_
  intro fr H
  refine at_nil ?_
  show AW cfg 3 g (right (left (right (bodyC cfg.P 3)))) fr h _
  rcases iteB_some hm with ⟨hb, hm⟩ | ⟨hb, hm⟩
  · replace H := H.know 5 hb (by kernel_rfl)
    refine aw_true (x := .tmp 5) (by kernel_rfl) H (fun fr => by kernel_rfl) ?_
    refine aw_seq (by kernel_rfl) ?_
    refine aw_reg (id := 2) (n := 2) [(0, []), (1, [])] (by kernel_rfl) (by kernel_rfl) ?_
    obtain ⟨x1, hx, hm⟩ := bind_some hm
    refine at_step (v := .bool x1) (h1 := h) [(6, .bool x1)] H (fun fr => by kernel_rfl) (fun fr => Steps.call (by kernel_rfl) (ok_boulterlaw31_awake hx)) ?_
    intro fr t H
    refine at_seg [(1, [])] [(2, .bool x1)] H (noU_all rfl) (fun fr => by kernel_rfl) ?_
    intro fr H
    refine at_nil ?_
    show AW cfg 3 g (right (left (right (left (right (bodyC cfg.P 3)))))) fr h _
    refine aw_ret (by kernel_rfl) ?_
    have e1 := Option.some.inj hm
    subst e1
    refine ⟨.inl rfl, .bool x1, resH H (fun fr => by kernel_rfl), ?_⟩
    exact ⟨rfl, A⟩
  · replace H := H.know 5 hb (by kernel_rfl)
    refine aw_false (x := .tmp 5) (by kernel_rfl) H (fun fr => by kernel_rfl) ?_
    refine aw_skip (by kernel_rfl) ?_
    show AW cfg 3 g (right (right (bodyC cfg.P 3))) fr h _
    refine aw_seq (by kernel_rfl) ?_
    refine aw_reg (id := 3) (n := 16) [(0, []), (1, []), (2, []), (3, []), (4, []), (5, []), (6, []), (7, []), (8, []), (9, []), (10, []), (11, []), (12, []), (13, []), (14, []), (15, [])] (by kernel_rfl) (by kernel_rfl) ?_
    refine at_seg [(0, [])] [(0, .str p0), (7, .str p0)] H (noU_all rfl) (fun fr => by kernel_rfl) ?_
    intro fr H
    have A1 := A.cut 0
    obtain ⟨x2, hx, hm⟩ := bind_some hm
    obtain ⟨v1, h1, hr, rqw1, rfl, A1⟩ := ok_exfile_Lines (av := [.str p0]) hx (by kernel_rfl) A1
    replace A : HH g h1 [.lst rqw1 9 (lst eS x2)] F := A.glue0 (n := 0) A1
    refine at_step (v := rowV rqw1 x2.length) (h1 := h1) [(0, .str p0), (8, rowV rqw1 x2.length)] H (fun fr => by kernel_rfl) (fun fr => Steps.call (by kernel_rfl) hr) ?_
    intro fr t H
    refine at_seg [(2, [])] [(0, .str p0), (8, rowV rqw1 x2.length), (9, .str p0)] H (noU_all rfl) (fun fr => by kernel_rfl) ?_
    intro fr H
    have A1 := A.cut 0
    obtain ⟨x3, hx, hm⟩ := bind_some hm
    obtain ⟨v1, h2, hr, rqw2, rfl, A1⟩ := ok_boulterref31_Lines (av := [.str p0]) hx (by kernel_rfl) A1
    replace A : HH g h2 [.lst rqw2 9 (lst eS x3), .lst rqw1 9 (lst eS x2)] F := A.glue0 (n := 0) A1
    refine at_step (v := rowV rqw2 x3.length) (h1 := h2) [(0, .str p0), (8, rowV rqw1 x2.length), (10, rowV rqw2 x3.length)] H (fun fr => by kernel_rfl) (fun fr => Steps.call (by kernel_rfl) hr) ?_
    intro fr t H
    replace A : HH g h2 [.lst rqw1 9 (lst eS x2), .lst rqw2 9 (lst eS x3)] F := ((A.front 0 rfl).front 1 rfl)
    have A1 := A.cut 2
    obtain ⟨x4, hx, hm⟩ := bind_some hm
    obtain ⟨v1, h3, hr, rfl, A1⟩ := ok_boulterref26_Same_s0 (av := [rowV rqw1 x2.length, rowV rqw2 x3.length]) hx (by kernel_rfl) A1
    replace A : HH g h3 [.lst rqw1 9 (lst eS x2), .lst rqw2 9 (lst eS x3)] F := A.glue0 (n := 2) A1
    refine at_step (v := .bool x4) (h1 := h3) [(0, .str p0), (11, .bool x4)] H (fun fr => by kernel_rfl) (fun fr => Steps.call (by kernel_rfl) hr) ?_
    intro fr t H
    refine at_seg [(5, [])] [(0, .str p0), (12, .bool x4)] H (noU_all rfl) (fun fr => by kernel_rfl) ?_
    intro fr H
    obtain ⟨x5, ho, hm⟩ := bind_some hm
    refine at_cut [(6, []), (7, []), (8, []), (9, []), (10, []), (11, [])] (fun fr' h' => Has fr' 22 [(18, .bool x5)] ∧ HH g h' [] F) ?_ ?_
    · rcases iteB_some ho with ⟨hb, hm⟩ | ⟨hb, hm⟩
      · replace H := H.know 12 hb (by kernel_rfl)
        refine at_seg [(6, [])] [(0, .str p0), (12, .bool true), (13, .str p0)] H (noU_all rfl) (fun fr => by kernel_rfl) ?_
        intro fr H
        have A1 := A.cut 0
        obtain ⟨x6, hx, hm⟩ := bind_some hm
        obtain ⟨v1, h5, hr, rqw4, rfl, A1⟩ := ok_exfile_Items (av := [.str p0]) hx (by kernel_rfl) A1
        replace A : HH g h5 [.lst rqw4 9 (lst eS x6), .lst rqw1 9 (lst eS x2), .lst rqw2 9 (lst eS x3)] F := A.glue0 (n := 0) A1
        refine at_step (v := rowV rqw4 x6.length) (h1 := h5) [(0, .str p0), (12, .bool true), (14, rowV rqw4 x6.length)] H (fun fr => by kernel_rfl) (fun fr => Steps.call (by kernel_rfl) hr) ?_
        intro fr t H
        refine at_seg [(8, [])] [(12, .bool true), (14, rowV rqw4 x6.length), (15, .str p0)] H (noU_all rfl) (fun fr => by kernel_rfl) ?_
        intro fr H
        have A1 := A.cut 0
        obtain ⟨x7, hx, hm⟩ := bind_some hm
        obtain ⟨v1, h6, hr, rqw5, rfl, A1⟩ := ok_boulterref31_Items (av := [.str p0]) hx (by kernel_rfl) A1
        replace A : HH g h6 [.lst rqw5 9 (lst eS x7), .lst rqw4 9 (lst eS x6), .lst rqw1 9 (lst eS x2), .lst rqw2 9 (lst eS x3)] F := A.glue0 (n := 0) A1
        refine at_step (v := rowV rqw5 x7.length) (h1 := h6) [(12, .bool true), (14, rowV rqw4 x6.length), (16, rowV rqw5 x7.length)] H (fun fr => by kernel_rfl) (fun fr => Steps.call (by kernel_rfl) hr) ?_
        intro fr t H
        replace A : HH g h6 [.lst rqw4 9 (lst eS x6), .lst rqw5 9 (lst eS x7), .lst rqw1 9 (lst eS x2), .lst rqw2 9 (lst eS x3)] F := ((A.front 0 rfl).front 1 rfl)
        have A1 := A.cut 2
        obtain ⟨x8, hx, hm⟩ := bind_some hm
        obtain ⟨v1, h7, hr, rfl, A1⟩ := ok_boulterref26_Same_s0 (av := [rowV rqw4 x6.length, rowV rqw5 x7.length]) hx (by kernel_rfl) A1
        replace A : HH g h7 [.lst rqw4 9 (lst eS x6), .lst rqw5 9 (lst eS x7), .lst rqw1 9 (lst eS x2), .lst rqw2 9 (lst eS x3)] F := A.glue0 (n := 2) A1
        refine at_step (v := .bool x8) (h1 := h7) [(12, .bool true), (17, .bool x8)] H (fun fr => by kernel_rfl) (fun fr => Steps.call (by kernel_rfl) hr) ?_
        intro fr t H
        refine at_seg [(11, [])] [(18, .bool x8)] H (noU_all rfl) (fun fr => by kernel_rfl) ?_
        intro fr H
        have e1 := Option.some.inj hm
        subst e1
        replace A : HH g h7 [] F := (HH.dropF A 0)
        exact at_nil ⟨H.less _ (fun fr => by kernel_rfl), A⟩
      · replace H := H.know 12 hb (by kernel_rfl)
        refine at_seg [(6, []), (7, []), (8, []), (9, []), (10, []), (11, [])] [(18, .bool false)] H (noU_all rfl) (fun fr => by kernel_rfl) ?_
        intro fr H
        have e1 := Option.some.inj hm
        subst e1
        replace A : HH g h3 [] F := (HH.dropF A 0)
        exact at_nil ⟨H.less _ (fun fr => by kernel_rfl), A⟩
    · clear A
      intro t fr h4 hK
      obtain ⟨H, A⟩ := hK
      refine at_seg [(12, [])] [(19, .bool x5)] H (noU_all rfl) (fun fr => by kernel_rfl) ?_
      intro fr H
      obtain ⟨x9, ho, hm⟩ := bind_some hm
      refine at_cut [(13, []), (14, [])] (fun fr' h' => Has fr' 22 [(21, .bool x9)] ∧ HH g h' [] F) ?_ ?_
      · rcases iteB_some ho with ⟨hb, hm⟩ | ⟨hb, hm⟩
        · replace H := H.know 19 hb (by kernel_rfl)
          obtain ⟨x10, hx, hm⟩ := bind_some hm
          refine at_step (v := .bool x10) (h1 := h4) [(19, .bool true), (20, .bool x10)] H (fun fr => by kernel_rfl) (fun fr => Steps.call (by kernel_rfl) (ok_boulterlaw31_awake hx)) ?_
          intro fr t H
          refine at_seg [(14, [])] [(21, .bool x10)] H (noU_all rfl) (fun fr => by kernel_rfl) ?_
          intro fr H
          have e1 := Option.some.inj hm
          subst e1
          exact at_nil ⟨H.less _ (fun fr => by kernel_rfl), A⟩
        · replace H := H.know 19 hb (by kernel_rfl)
          refine at_seg [(13, []), (14, [])] [(21, .bool false)] H (noU_all rfl) (fun fr => by kernel_rfl) ?_
          intro fr H
          have e1 := Option.some.inj hm
          subst e1
          exact at_nil ⟨H.less _ (fun fr => by kernel_rfl), A⟩
      · clear A
        intro t fr h8 hK
        obtain ⟨H, A⟩ := hK
        refine at_seg [(15, [])] [(2, .bool x9)] H (noU_all rfl) (fun fr => by kernel_rfl) ?_
        intro fr H
        refine at_nil ?_
        show AW cfg 3 g (right (right (right (bodyC cfg.P 3)))) fr h8 _
        refine aw_ret (by kernel_rfl) ?_
        have e1 := Option.some.inj hm
        subst e1
        refine ⟨.inl rfl, .bool x9, resH H (fun fr => by kernel_rfl), ?_⟩
        exact ⟨rfl, A⟩
end Go.Av.L
