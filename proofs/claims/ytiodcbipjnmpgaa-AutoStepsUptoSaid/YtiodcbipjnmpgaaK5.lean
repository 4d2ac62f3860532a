/-
  Models of functions, and that the abstract run tells them. Written by lift2.py.
-/
import Derived.Test.YtiodcbipjnmpgaaKCfg
import Derived.Test.YtiodcbipjnmpgaaK0
import Derived.Test.YtiodcbipjnmpgaaK1
import Derived.Test.YtiodcbipjnmpgaaK2
import Derived.Test.YtiodcbipjnmpgaaK4
namespace Go.Av.L
open Go.Av Go.Lib
set_option maxRecDepth 10000
set_option linter.unusedVariables false
set_option linter.unusedSimpArgs false
/-! ### boulter/boulterlaw20.AutoSteps -/
noncomputable def M_boulterlaw20_AutoSteps_L1 (p1 : List UInt8) (x4 : S_auto_Auto) (x6 : Int) (s : (List Int) × (List Int) × Int) : Option (((List Int) × (List Int) × Int) ⊕ (((List Int)))) :=
  match s with
  | (x9, x10, x11) => ((M_auto_Auto_Stops_sPVOB x4 x10 (x11 == (p1.length : Int))).bind fun x14 => (iteB x14 (some true) ((iteB (((x6 == (0 : Int)) && (x11 == (0 : Int))) && ((p1.length : Int) == (0 : Int))) ((M_auto_Auto_Ends x4 p1 (0 : Int)).bind fun x17 => (M_boulterlaw20_contains_sOI x17 (0 : Int)).bind fun x18 => some x18) (some false) : Option (Bool)).bind fun x16 => some x16) : Option (Bool)).bind fun x15 => iteB x15 (need (okN 8 (x9.length + ([x11] : List Int).length)) <| some (x9 ++ ([x11] : List Int))) (some x9) : Option (((List Int)))).bind fun x13 => iteB (x11 == (p1.length : Int)) (some (.inr x13)) ((ixS p1 x11).bind fun x19 => (M_auto_Auto_Step_sPVOI x4 x10 x19).bind fun x20 => some (.inl (x13, x20, IntKind.i64.wrap (x11 + (1 : Int)))))
noncomputable def M_boulterlaw20_AutoSteps_L0 (p1 : List UInt8) (x4 : S_auto_Auto) (s : Int) : Option ((Int) ⊕ ((Unit) ⊕ (Bool))) :=
  match s with
  | x6 => iteB (decide (x6 ≤ (p1.length : Int))) ((M_auto_Auto_Start x4 (x6 == (0 : Int))).bind fun x8 => (loop (M_boulterlaw20_AutoSteps_L1 p1 x4 x6) (([] : List Int), x8, x6)).bind fun x12 => (M_auto_Auto_Ends x4 p1 x6).bind fun x21 => (M_boulterref16_Same_sOO x12 x21).bind fun x22 => iteB (!x22) (some (.inr (.inr false))) (some (.inl (IntKind.i64.wrap (x6 + (1 : Int)))))) (some (.inr (.inl ())))
noncomputable def M_boulterlaw20_AutoSteps (p0 : S_tree_Tree) (p1 : List UInt8) : Option (Bool) :=
 (M_boulterlaw18_Plain p0).bind fun x1 => (M_boulterref18_Small x1).bind fun x2 => iteB ((!x2) || (decide ((p1.length : Int) > (30 : Int)))) ((M_boulterlaw20_awake).bind fun x3 => some x3) ((M_auto_Build p0 (4096 : Int)).bind fun (w4, x5) => (match w4 with | some x4 => iteB (x5 != (0 : Int)) (some false) ((loop (M_boulterlaw20_AutoSteps_L0 p1 x4) (0 : Int)).bind fun o1 => (match o1 with | .inl _ => (M_boulterlaw20_awake).bind fun x23 => some x23 | .inr x7 => some x7)) | none => iteB (x5 != (0 : Int)) ((M_boulterlaw20_awake).bind fun x24 => some x24) (some false)))
theorem ok_boulterlaw20_AutoSteps {g : Gd} {h : AHeap} {F : List Ck} {p0 : S_tree_Tree} {p1 : List UInt8} {q0 : Bool} {av : List AVal} (hm : M_boulterlaw20_AutoSteps p0 p1 = some q0) (hc : canL (cfg.still 6) av = [.agg [vs e_S_tree_Node p0.Nodes, .int .i64 p0.Root], .str p1]) (A : HH g h [] F) : ∃ v h', Runs cfg g h 6 av v h' ∧ v = .bool q0 ∧ HH g h' [] F := by
  refine runsQ1 (n := 96) (rs := [.tmp 4]) (by kernel_rfl) hc (by kernel_rfl) ?_
  clear hc
  unfold M_boulterlaw20_AutoSteps at hm
  refine start (n := 96) [(0, .agg [vs e_S_tree_Node p0.Nodes, .int .i64 p0.Root]), (1, .str p1)] (by kernel_rfl) (by kernel_rfl) ?_
  intro fr H
  refine aw_seq (by kernel_rfl) ?_
  refine aw_reg (id := 0) (n := 2) [(0, []), (1, [])] (by kernel_rfl) (by kernel_rfl) ?_
  obtain ⟨h1, e1⟩ : ∃ x, x = h.push (.cells none 2 [vs e_S_tree_Node p0.Nodes, .int .i64 p0.Root]) := ⟨_, rfl⟩
  replace A := (A.push _).to e1
  refine at_step (v := .ptr (some (h.size, 0))) (h1 := h1) [(1, .str p1), (2, .ptr (some (h.size, 0)))] H (fun fr => by kernel_rfl) (fun fr => .of (s_n' (by kernel_rfl) (congrArg some e1.symm))) ?_
  intro fr t H
  refine at_seg [(1, [])] [(1, .str p1), (2, .ptr (some (h.size, 0)))] H (noU_all rfl) (fun fr => by kernel_rfl) ?_
  intro fr H
  refine at_nil ?_
  show AW cfg 6 g (right (bodyC cfg.P 6)) fr h1 _
  refine aw_seq (by kernel_rfl) ?_
  refine aw_seq (by kernel_rfl) ?_
  refine aw_reg (id := 1) (n := 9) [(0, []), (1, []), (2, []), (3, []), (4, []), (5, []), (6, []), (7, []), (8, [])] (by kernel_rfl) (by kernel_rfl) ?_
  refine at_step (v := .agg [vs e_S_tree_Node p0.Nodes, .int .i64 p0.Root]) (h1 := h1) [(1, .str p1), (2, .ptr (some (h.size, 0))), (11, .agg [vs e_S_tree_Node p0.Nodes, .int .i64 p0.Root])] H (fun fr => by kernel_rfl) (fun fr => .of (s_ldA (by kernel_rfl) (A.ldA 0 rfl (o := 0) (n := 2) ⟨Nat.le_of_ble_eq_true rfl, rfl⟩))) ?_
  intro fr t H
  have A1 := A.cut 0
  obtain ⟨x1, hx, hm⟩ := bind_some hm
  obtain ⟨v1, h2, hr, rfl, A1⟩ := ok_boulterlaw18_Plain (av := [.agg [vs e_S_tree_Node p0.Nodes, .int .i64 p0.Root]]) hx (by kernel_rfl) A1
  replace A : HH g h2 [.obj h.size (.cells none 2 [vs e_S_tree_Node p0.Nodes, .int .i64 p0.Root])] F := A.glue0 (n := 0) A1
  refine at_step (v := .agg [vs e_S_boulterref18_Node x1.L, .int .i64 x1.Root]) (h1 := h2) [(1, .str p1), (2, .ptr (some (h.size, 0))), (12, .agg [vs e_S_boulterref18_Node x1.L, .int .i64 x1.Root])] H (fun fr => by kernel_rfl) (fun fr => Steps.call (by kernel_rfl) hr) ?_
  intro fr t H
  have A1 := A.cut 0
  obtain ⟨x2, hx, hm⟩ := bind_some hm
  obtain ⟨v1, h3, hr, rfl, A1⟩ := ok_boulterref18_Small (av := [.agg [vs e_S_boulterref18_Node x1.L, .int .i64 x1.Root]]) hx (by kernel_rfl) A1
  replace A : HH g h3 [.obj h.size (.cells none 2 [vs e_S_tree_Node p0.Nodes, .int .i64 p0.Root])] F := A.glue0 (n := 0) A1
  refine at_step (v := .bool x2) (h1 := h3) [(1, .str p1), (2, .ptr (some (h.size, 0))), (13, .bool x2)] H (fun fr => by kernel_rfl) (fun fr => Steps.call (by kernel_rfl) hr) ?_
  intro fr t H
  refine at_seg [(3, []), (4, [])] [(1, .str p1), (2, .ptr (some (h.size, 0))), (15, .bool (!x2))] H (noU_all rfl) (fun fr => by kernel_rfl) ?_
  intro fr H
  refine at_cut [(5, []), (6, []), (7, []), (8, [])] (fun fr' h' => h3 = h' ∧ Has fr' 96 [(1, .str p1), (2, .ptr (some (h.size, 0))), (19, .bool ((!x2) || (decide ((p1.length : Int) > (30 : Int)))))]) ?_ ?_
  · cases hb : (!x2 : Bool) with
    | true =>
      replace H := H.know 15 hb (by kernel_rfl)
      refine at_seg [(5, []), (6, []), (7, []), (8, [])] [(1, .str p1), (2, .ptr (some (h.size, 0))), (19, .bool true)] H (noU_all rfl) (fun fr => by kernel_rfl) ?_
      intro fr H
      exact at_nil ⟨rfl, by first | exact H.less _ (fun fr => by rfl) | exact H.less _ (fun fr => by rw [hb]; rfl)⟩
    | false =>
      replace H := H.know 15 hb (by kernel_rfl)
      refine at_seg [(5, []), (6, []), (7, []), (8, [])] [(1, .str p1), (2, .ptr (some (h.size, 0))), (19, .bool (decide ((p1.length : Int) > (30 : Int))))] H (noU_all rfl) (fun fr => by kernel_rfl) ?_
      intro fr H
      exact at_nil ⟨rfl, by first | exact H.less _ (fun fr => by rfl) | exact H.less _ (fun fr => by rw [hb]; rfl)⟩
  · intro t fr h' hK
    obtain ⟨e, H⟩ := hK
    subst e
    refine at_nil ?_
    show AW cfg 6 g (right (left (right (bodyC cfg.P 6)))) fr h3 _
    rcases iteB_some hm with ⟨hb, hm⟩ | ⟨hb, hm⟩
    · replace H := H.know 19 hb (by kernel_rfl)
      refine aw_true (x := .tmp 19) (by kernel_rfl) H (fun fr => by kernel_rfl) ?_
      refine aw_seq (by kernel_rfl) ?_
      refine aw_reg (id := 2) (n := 2) [(0, []), (1, [])] (by kernel_rfl) (by kernel_rfl) ?_
      obtain ⟨x3, hx, hm⟩ := bind_some hm
      refine at_step (v := .bool x3) (h1 := h3) [(20, .bool x3)] H (fun fr => by kernel_rfl) (fun fr => Steps.call (by kernel_rfl) (ok_boulterlaw20_awake hx)) ?_
      intro fr t H
      refine at_seg [(1, [])] [(4, .bool x3)] H (noU_all rfl) (fun fr => by kernel_rfl) ?_
      intro fr H
      refine at_nil ?_
      show AW cfg 6 g (right (left (right (left (right (bodyC cfg.P 6)))))) fr h3 _
      refine aw_ret (by kernel_rfl) ?_
      have e1 := Option.some.inj hm
      subst e1
      refine ⟨.inl rfl, .bool x3, resH H (fun fr => by kernel_rfl), ?_⟩
      replace A : HH g h3 [] F := (HH.dropF A 0)
      exact ⟨rfl, A⟩
    · replace H := H.know 19 hb (by kernel_rfl)
      refine aw_false (x := .tmp 19) (by kernel_rfl) H (fun fr => by kernel_rfl) ?_
      refine aw_skip (by kernel_rfl) ?_
      show AW cfg 6 g (right (right (bodyC cfg.P 6))) fr h3 _
      refine aw_seq (by kernel_rfl) ?_
      refine aw_reg (id := 3) (n := 7) [(0, []), (1, []), (2, []), (3, []), (4, []), (5, []), (6, [])] (by kernel_rfl) (by kernel_rfl) ?_
      refine at_step (v := .agg [vs e_S_tree_Node p0.Nodes, .int .i64 p0.Root]) (h1 := h3) [(1, .str p1), (22, .agg [vs e_S_tree_Node p0.Nodes, .int .i64 p0.Root])] H (fun fr => by kernel_rfl) (fun fr => .of (s_ldA (by kernel_rfl) (A.ldA 0 rfl (o := 0) (n := 2) ⟨Nat.le_of_ble_eq_true rfl, rfl⟩))) ?_
      intro fr t H
      have A1 := A.cut 0
      obtain ⟨⟨w4, x5⟩, hx, hm⟩ := bind_some hm
      obtain ⟨v1, h4, hr, hc⟩ := ok_auto_Build (av := [.agg [vs e_S_tree_Node p0.Nodes, .int .i64 p0.Root], .int .i64 (4096 : Int)]) hx (by kernel_rfl) A1
      rcases hc with ⟨x4, rfl, rfl, A1⟩ | ⟨rfl, rfl, A1⟩
      · skip
        replace A : HH g h4 [.obj h.size (.cells none 2 [vs e_S_tree_Node p0.Nodes, .int .i64 p0.Root])] F := A.glue0 (n := 0) A1
        refine at_step (v := .tuple [.vptr [vs e_S_auto_state x4.l_, .int .i64 x4.first_], .int .i64 x5]) (h1 := h4) [(1, .str p1), (23, .tuple [.vptr [vs e_S_auto_state x4.l_, .int .i64 x4.first_], .int .i64 x5])] H (fun fr => by kernel_rfl) (fun fr => Steps.call (by kernel_rfl) hr) ?_
        intro fr t H
        refine at_seg [(2, []), (3, []), (4, []), (5, []), (6, [])] [(1, .str p1), (5, .vptr [vs e_S_auto_state x4.l_, .int .i64 x4.first_]), (6, .int .i64 x5)] H (noU_all rfl) (fun fr => by kernel_rfl) ?_
        intro fr H
        refine at_nil ?_
        show AW cfg 6 g (right (right (right (bodyC cfg.P 6)))) fr h4 _
        refine aw_seq (by kernel_rfl) ?_
        refine aw_seq (by kernel_rfl) ?_
        refine aw_reg (id := 4) (n := 2) [(0, []), (1, [])] (by kernel_rfl) (by kernel_rfl) ?_
        refine at_seg [(0, []), (1, [])] [(1, .str p1), (5, .vptr [vs e_S_auto_state x4.l_, .int .i64 x4.first_]), (27, .bool (x5 != (0 : Int)))] H (noU_all rfl) (fun fr => by kernel_rfl) ?_
        intro fr H
        refine at_nil ?_
        show AW cfg 6 g (right (left (right (right (right (bodyC cfg.P 6)))))) fr h4 _
        rcases iteB_some hm with ⟨hb, hm⟩ | ⟨hb, hm⟩
        · replace H := H.know 27 hb (by kernel_rfl)
          refine aw_true (x := .tmp 27) (by kernel_rfl) H (fun fr => by kernel_rfl) ?_
          refine aw_seq (by kernel_rfl) ?_
          refine aw_reg (id := 5) (n := 6) [(0, []), (1, []), (2, []), (3, []), (4, []), (5, [])] (by kernel_rfl) (by kernel_rfl) ?_
          refine at_seg [(0, []), (1, []), (2, []), (3, []), (4, []), (5, [])] [(4, .bool false)] H (noU_all rfl) (fun fr => by kernel_rfl) ?_
          intro fr H
          refine at_nil ?_
          show AW cfg 6 g (right (left (right (left (right (right (right (bodyC cfg.P 6)))))))) fr h4 _
          refine aw_ret (by kernel_rfl) ?_
          have e1 := Option.some.inj hm
          subst e1
          refine ⟨.inl rfl, .bool false, resH H (fun fr => by kernel_rfl), ?_⟩
          replace A : HH g h4 [] F := (HH.dropF A 0)
          exact ⟨rfl, A⟩
        · replace H := H.know 27 hb (by kernel_rfl)
          refine aw_false (x := .tmp 27) (by kernel_rfl) H (fun fr => by kernel_rfl) ?_
          refine aw_skip (by kernel_rfl) ?_
          show AW cfg 6 g (right (right (right (right (bodyC cfg.P 6))))) fr h4 _
          refine aw_seq (by kernel_rfl) ?_
          refine aw_seq (by kernel_rfl) ?_
          refine aw_reg (id := 6) (n := 2) [(0, []), (1, [])] (by kernel_rfl) (by kernel_rfl) ?_
          refine at_seg [(0, []), (1, [])] [(1, .str p1), (5, .vptr [vs e_S_auto_state x4.l_, .int .i64 x4.first_]), (34, .bool false)] H (noU_all rfl) (fun fr => by kernel_rfl) ?_
          intro fr H
          refine at_nil ?_
          show AW cfg 6 g (right (left (right (right (right (right (bodyC cfg.P 6))))))) fr h4 _
          refine aw_false (x := .tmp 34) (by kernel_rfl) H (fun fr => by kernel_rfl) ?_
          refine aw_skip (by kernel_rfl) ?_
          show AW cfg 6 g (right (right (right (right (right (bodyC cfg.P 6)))))) fr h4 _
          refine aw_seq (by kernel_rfl) ?_
          refine aw_seq (by kernel_rfl) ?_
          refine aw_reg (id := 8) (n := 1) [(0, [])] (by kernel_rfl) (by kernel_rfl) ?_
          refine at_seg [(0, [])] [(1, .str p1), (5, .vptr [vs e_S_auto_state x4.l_, .int .i64 x4.first_]), (7, .int .i64 (0 : Int))] H (noU_all rfl) (fun fr => by kernel_rfl) ?_
          intro fr H
          refine at_nil ?_
          show AW cfg 6 g (right (left (right (right (right (right (right (bodyC cfg.P 6)))))))) fr h4 _
          refine aw_block (id := 0) (by kernel_rfl) ?_
          obtain ⟨o1, ho, hm⟩ := bind_some hm
          refine aw_mono (Q' := fun e fr' h' => (e = .exit 0 ∧ .inl () = o1 ∧ Has fr' 96 [] ∧ HH g h' [.obj h.size (.cells none 2 [vs e_S_tree_Node p0.Nodes, .int .i64 p0.Root])] F) ∨ (∃ (x7 : Bool), e = .ret ∧ .inr x7 = o1 ∧ Has fr' 96 [(4, .bool x7)] ∧ HH g h' [.obj h.size (.cells none 2 [vs e_S_tree_Node p0.Nodes, .int .i64 p0.Root])] F) ∨ False) ?_ ?_
          · refine aw_loop (by kernel_rfl) (fun (s : Int) fr' h' => ∃ (x6 : Int), x6 = s ∧ Has fr' 96 [(1, .str p1), (5, .vptr [vs e_S_auto_state x4.l_, .int .i64 x4.first_]), (7, .int .i64 x6)] ∧ HH g h' [.obj h.size (.cells none 2 [vs e_S_tree_Node p0.Nodes, .int .i64 p0.Root])] F) ho ⟨(0 : Int), rfl, H.less _ (fun fr => by kernel_rfl), A⟩ ?_
            clear ho hm H A
            intro s q fr h5 hI hm
            obtain ⟨x6, rfl, H, A⟩ := hI
            unfold M_boulterlaw20_AutoSteps_L0 at hm
            refine aw_seq (by kernel_rfl) ?_
            refine aw_seq (by kernel_rfl) ?_
            refine aw_reg (id := 9) (n := 4) [(0, []), (1, []), (2, []), (3, [])] (by kernel_rfl) (by kernel_rfl) ?_
            refine at_seg [(0, []), (1, []), (2, []), (3, [])] [(1, .str p1), (5, .vptr [vs e_S_auto_state x4.l_, .int .i64 x4.first_]), (7, .int .i64 x6), (38, .bool (decide (x6 ≤ (p1.length : Int))))] H (noU_all rfl) (fun fr => by kernel_rfl) ?_
            intro fr H
            refine at_nil ?_
            show AW cfg 6 g (right (left (left (left (right (left (right (right (right (right (right (bodyC cfg.P 6)))))))))))) fr h5 _
            rcases iteB_some hm with ⟨hb, hm⟩ | ⟨hb, hm⟩
            · replace H := H.know 38 hb (by kernel_rfl)
              refine aw_true (x := .tmp 38) (by kernel_rfl) H (fun fr => by kernel_rfl) ?_
              refine aw_skip (by kernel_rfl) ?_
              show AW cfg 6 g (right (left (left (right (left (right (right (right (right (right (bodyC cfg.P 6))))))))))) fr h5 _
              refine aw_seq (by kernel_rfl) ?_
              refine aw_block (id := 1) (by kernel_rfl) ?_
              refine aw_seq (by kernel_rfl) ?_
              refine aw_reg (id := 11) (n := 5) [(0, []), (1, []), (2, []), (3, []), (4, [])] (by kernel_rfl) (by kernel_rfl) ?_
              refine at_seg [(0, []), (1, []), (2, [])] [(1, .str p1), (5, .vptr [vs e_S_auto_state x4.l_, .int .i64 x4.first_]), (7, .int .i64 x6), (41, .vptr [vs e_S_auto_state x4.l_, .int .i64 x4.first_]), (43, .bool (x6 == (0 : Int)))] H (noU_all rfl) (fun fr => by kernel_rfl) ?_
              intro fr H
              have A1 := A.cut 0
              obtain ⟨x8, hx, hm⟩ := bind_some hm
              obtain ⟨v1, h6, hr, rqw6, rfl, A1⟩ := ok_auto_Auto_Start (av := [.vptr [vs e_S_auto_state x4.l_, .int .i64 x4.first_], .bool (x6 == (0 : Int))]) hx (by kernel_rfl) A1
              replace A : HH g h6 [.lst rqw6 3 (lst (eI .i64) x8), .obj h.size (.cells none 2 [vs e_S_tree_Node p0.Nodes, .int .i64 p0.Root])] F := A.glue0 (n := 0) A1
              refine at_step (v := rowV rqw6 x8.length) (h1 := h6) [(1, .str p1), (5, .vptr [vs e_S_auto_state x4.l_, .int .i64 x4.first_]), (7, .int .i64 x6), (44, rowV rqw6 x8.length)] H (fun fr => by kernel_rfl) (fun fr => Steps.call (by kernel_rfl) hr) ?_
              intro fr t H
              refine at_seg [(4, [])] [(1, .str p1), (5, .vptr [vs e_S_auto_state x4.l_, .int .i64 x4.first_]), (7, .int .i64 x6), (8, rowV rqw6 x8.length)] H (noU_all rfl) (fun fr => by kernel_rfl) ?_
              intro fr H
              refine at_nil ?_
              show AW cfg 6 g (right (left (left (right (left (left (right (left (right (right (right (right (right (bodyC cfg.P 6)))))))))))))) fr h6 _
              refine aw_seq (by kernel_rfl) ?_
              refine aw_reg (id := 12) (n := 1) [(0, [])] (by kernel_rfl) (by kernel_rfl) ?_
              refine at_seg [(0, [])] [(1, .str p1), (5, .vptr [vs e_S_auto_state x4.l_, .int .i64 x4.first_]), (7, .int .i64 x6), (8, rowV rqw6 x8.length), (9, .slice none 0)] H (noU_all rfl) (fun fr => by kernel_rfl) ?_
              intro fr H
              refine at_nil ?_
              show AW cfg 6 g (right (right (left (left (right (left (left (right (left (right (right (right (right (right (bodyC cfg.P 6))))))))))))))) fr h6 _
              refine aw_seq (by kernel_rfl) ?_
              refine aw_seq (by kernel_rfl) ?_
              refine aw_reg (id := 13) (n := 2) [(0, []), (1, [])] (by kernel_rfl) (by kernel_rfl) ?_
              refine at_seg [(0, []), (1, [])] [(1, .str p1), (5, .vptr [vs e_S_auto_state x4.l_, .int .i64 x4.first_]), (7, .int .i64 x6), (8, rowV rqw6 x8.length), (9, .slice none 0), (10, .int .i64 x6)] H (noU_all rfl) (fun fr => by kernel_rfl) ?_
              intro fr H
              refine at_nil ?_
              show AW cfg 6 g (right (left (right (right (left (left (right (left (left (right (left (right (right (right (right (right (bodyC cfg.P 6))))))))))))))))) fr h6 _
              refine aw_block (id := 2) (by kernel_rfl) ?_
              replace A : HH g h6 [.lst none 3 (lst (eI .i64) ([] : List Int)), .lst rqw6 3 (lst (eI .i64) x8), .obj h.size (.cells none 2 [vs e_S_tree_Node p0.Nodes, .int .i64 p0.Root])] F := A.nilL 3
              replace A : HH g h6 [.lst rqw6 3 (lst (eI .i64) x8), .lst none 3 (lst (eI .i64) ([] : List Int)), .obj h.size (.cells none 2 [vs e_S_tree_Node p0.Nodes, .int .i64 p0.Root])] F := (((A.front 2 rfl).front 1 rfl).front 2 rfl)
              obtain ⟨o2, ho, hm⟩ := bind_some hm
              refine aw_mono (Q' := fun e fr' h' => (∃ (x12 : List Int), e = .exit 2 ∧ x12 = o2 ∧ ∃ (r3 : Option Nat), Has fr' 96 [(1, .str p1), (5, .vptr [vs e_S_auto_state x4.l_, .int .i64 x4.first_]), (7, .int .i64 x6), (9, rowV r3 x12.length)] ∧ HH g h' [.lst r3 3 (lst (eI .i64) x12), .obj h.size (.cells none 2 [vs e_S_tree_Node p0.Nodes, .int .i64 p0.Root])] F) ∨ False) ?_ ?_
              · refine aw_loop (by kernel_rfl) (fun (s : (List Int) × (List Int) × Int) fr' h' => ∃ (x9 : List Int) (x10 : List Int) (x11 : Int), (x9, x10, x11) = s ∧ ∃ (r1 : Option Nat) (r2 : Option Nat), Has fr' 96 [(1, .str p1), (5, .vptr [vs e_S_auto_state x4.l_, .int .i64 x4.first_]), (7, .int .i64 x6), (8, rowV r2 x10.length), (9, rowV r1 x9.length), (10, .int .i64 x11)] ∧ HH g h' [.lst r2 3 (lst (eI .i64) x10), .lst r1 3 (lst (eI .i64) x9), .obj h.size (.cells none 2 [vs e_S_tree_Node p0.Nodes, .int .i64 p0.Root])] F) ho ⟨([] : List Int), x8, x6, rfl, none, rqw6, H.less _ (fun fr => by kernel_rfl), A⟩ ?_
                clear ho hm H A
                intro s q fr h7 hI hm
                obtain ⟨x9, x10, x11, rfl, r1, r2, H, A⟩ := hI
                unfold M_boulterlaw20_AutoSteps_L1 at hm
                refine aw_seq (by kernel_rfl) ?_
                refine aw_block (id := 3) (by kernel_rfl) ?_
                refine aw_seq (by kernel_rfl) ?_
                obtain ⟨o3, ho, hm⟩ := bind_some hm
                refine aw_mono (Q' := fun e fr' h' => (∃ (x13 : List Int), e = .normal ∧ x13 = o3 ∧ ∃ (r4 : Option Nat), Has fr' 96 [(1, .str p1), (5, .vptr [vs e_S_auto_state x4.l_, .int .i64 x4.first_]), (7, .int .i64 x6), (8, rowV r2 x10.length), (9, rowV r4 x13.length), (10, .int .i64 x11)] ∧ HH g h' [.lst r2 3 (lst (eI .i64) x10), .lst r4 3 (lst (eI .i64) x13), .obj h.size (.cells none 2 [vs e_S_tree_Node p0.Nodes, .int .i64 p0.Root])] F) ∨ False) ?_ ?_
                · replace hm := ho
                  clear ho
                  refine aw_seq (by kernel_rfl) ?_
                  refine aw_reg (id := 15) (n := 26) [(0, []), (1, []), (2, []), (3, []), (4, []), (5, []), (6, []), (7, []), (8, []), (9, []), (10, []), (11, []), (12, []), (13, []), (14, []), (15, []), (16, []), (17, []), (18, []), (19, []), (20, []), (21, []), (22, []), (23, []), (24, []), (25, [])] (by kernel_rfl) (by kernel_rfl) ?_
                  refine at_seg [(0, []), (1, []), (2, []), (3, []), (4, []), (5, [])] [(1, .str p1), (5, .vptr [vs e_S_auto_state x4.l_, .int .i64 x4.first_]), (7, .int .i64 x6), (8, rowV r2 x10.length), (9, rowV r1 x9.length), (10, .int .i64 x11), (48, .vptr [vs e_S_auto_state x4.l_, .int .i64 x4.first_]), (49, rowV r2 x10.length), (53, .bool (x11 == (p1.length : Int)))] H (noU_all rfl) (fun fr => by kernel_rfl) ?_
                  intro fr H
                  have A1 := A.cut 1
                  obtain ⟨x14, hx, hm⟩ := bind_some hm
                  obtain ⟨v1, h8, hr, rfl, A1⟩ := ok_auto_Auto_Stops_sPVOB (av := [.vptr [vs e_S_auto_state x4.l_, .int .i64 x4.first_], rowV r2 x10.length, .bool (x11 == (p1.length : Int))]) hx (by kernel_rfl) A1
                  replace A : HH g h8 [.lst r2 3 (lst (eI .i64) x10), .lst r1 3 (lst (eI .i64) x9), .obj h.size (.cells none 2 [vs e_S_tree_Node p0.Nodes, .int .i64 p0.Root])] F := A.glue0 (n := 1) A1
                  refine at_step (v := .bool x14) (h1 := h8) [(1, .str p1), (5, .vptr [vs e_S_auto_state x4.l_, .int .i64 x4.first_]), (7, .int .i64 x6), (8, rowV r2 x10.length), (9, rowV r1 x9.length), (10, .int .i64 x11), (54, .bool x14)] H (fun fr => by kernel_rfl) (fun fr => Steps.call (by kernel_rfl) hr) ?_
                  intro fr t H
                  refine at_seg [(7, [])] [(1, .str p1), (5, .vptr [vs e_S_auto_state x4.l_, .int .i64 x4.first_]), (7, .int .i64 x6), (8, rowV r2 x10.length), (9, rowV r1 x9.length), (10, .int .i64 x11), (55, .bool x14)] H (noU_all rfl) (fun fr => by kernel_rfl) ?_
                  intro fr H
                  obtain ⟨x15, ho, hm⟩ := bind_some hm
                  refine at_cut [(8, []), (9, []), (10, []), (11, []), (12, []), (13, []), (14, []), (15, []), (16, []), (17, []), (18, []), (19, []), (20, []), (21, []), (22, []), (23, []), (24, []), (25, [])] (fun fr' h' => Has fr' 96 [(1, .str p1), (5, .vptr [vs e_S_auto_state x4.l_, .int .i64 x4.first_]), (7, .int .i64 x6), (8, rowV r2 x10.length), (9, rowV r1 x9.length), (10, .int .i64 x11), (73, .bool x15)] ∧ HH g h' [.lst r2 3 (lst (eI .i64) x10), .lst r1 3 (lst (eI .i64) x9), .obj h.size (.cells none 2 [vs e_S_tree_Node p0.Nodes, .int .i64 p0.Root])] F) ?_ ?_
                  · rcases iteB_some ho with ⟨hb, hm⟩ | ⟨hb, hm⟩
                    · replace H := H.know 55 hb (by kernel_rfl)
                      refine at_seg [(8, []), (9, []), (10, []), (11, []), (12, []), (13, []), (14, []), (15, []), (16, []), (17, []), (18, []), (19, []), (20, []), (21, []), (22, []), (23, []), (24, []), (25, [])] [(1, .str p1), (5, .vptr [vs e_S_auto_state x4.l_, .int .i64 x4.first_]), (7, .int .i64 x6), (8, rowV r2 x10.length), (9, rowV r1 x9.length), (10, .int .i64 x11), (73, .bool true)] H (noU_all rfl) (fun fr => by kernel_rfl) ?_
                      intro fr H
                      have e1 := Option.some.inj hm
                      subst e1
                      exact at_nil ⟨H.less _ (fun fr => by kernel_rfl), A⟩
                    · replace H := H.know 55 hb (by kernel_rfl)
                      refine at_seg [(8, []), (9, []), (10, [])] [(1, .str p1), (5, .vptr [vs e_S_auto_state x4.l_, .int .i64 x4.first_]), (7, .int .i64 x6), (8, rowV r2 x10.length), (9, rowV r1 x9.length), (10, .int .i64 x11), (55, .bool false), (58, .bool (x6 == (0 : Int)))] H (noU_all rfl) (fun fr => by kernel_rfl) ?_
                      intro fr H
                      refine at_cut [(11, []), (12, []), (13, [])] (fun fr' h' => h8 = h' ∧ Has fr' 96 [(1, .str p1), (5, .vptr [vs e_S_auto_state x4.l_, .int .i64 x4.first_]), (7, .int .i64 x6), (8, rowV r2 x10.length), (9, rowV r1 x9.length), (10, .int .i64 x11), (55, .bool false), (61, .bool ((x6 == (0 : Int)) && (x11 == (0 : Int))))]) ?_ ?_
                      · cases hb : (x6 == (0 : Int) : Bool) with
                        | true =>
                          replace H := H.know 58 hb (by kernel_rfl)
                          refine at_seg [(11, []), (12, []), (13, [])] [(1, .str p1), (5, .vptr [vs e_S_auto_state x4.l_, .int .i64 x4.first_]), (7, .int .i64 x6), (8, rowV r2 x10.length), (9, rowV r1 x9.length), (10, .int .i64 x11), (55, .bool false), (61, .bool (x11 == (0 : Int)))] H (noU_all rfl) (fun fr => by kernel_rfl) ?_
                          intro fr H
                          exact at_nil ⟨rfl, by first | exact H.less _ (fun fr => by rfl) | exact H.less _ (fun fr => by rw [hb]; rfl)⟩
                        | false =>
                          replace H := H.know 58 hb (by kernel_rfl)
                          refine at_seg [(11, []), (12, []), (13, [])] [(1, .str p1), (5, .vptr [vs e_S_auto_state x4.l_, .int .i64 x4.first_]), (7, .int .i64 x6), (8, rowV r2 x10.length), (9, rowV r1 x9.length), (10, .int .i64 x11), (55, .bool false), (61, .bool false)] H (noU_all rfl) (fun fr => by kernel_rfl) ?_
                          intro fr H
                          exact at_nil ⟨rfl, by first | exact H.less _ (fun fr => by rfl) | exact H.less _ (fun fr => by rw [hb]; rfl)⟩
                      · intro t fr h' hK
                        obtain ⟨e, H⟩ := hK
                        subst e
                        refine at_seg [(14, [])] [(1, .str p1), (5, .vptr [vs e_S_auto_state x4.l_, .int .i64 x4.first_]), (7, .int .i64 x6), (8, rowV r2 x10.length), (9, rowV r1 x9.length), (10, .int .i64 x11), (55, .bool false), (62, .bool ((x6 == (0 : Int)) && (x11 == (0 : Int))))] H (noU_all rfl) (fun fr => by kernel_rfl) ?_
                        intro fr H
                        refine at_cut [(15, []), (16, []), (17, []), (18, [])] (fun fr' h' => h8 = h' ∧ Has fr' 96 [(1, .str p1), (5, .vptr [vs e_S_auto_state x4.l_, .int .i64 x4.first_]), (7, .int .i64 x6), (8, rowV r2 x10.length), (9, rowV r1 x9.length), (10, .int .i64 x11), (55, .bool false), (66, .bool (((x6 == (0 : Int)) && (x11 == (0 : Int))) && ((p1.length : Int) == (0 : Int))))]) ?_ ?_
                        · cases hb : ((x6 == (0 : Int)) && (x11 == (0 : Int)) : Bool) with
                          | true =>
                            replace H := H.know 62 hb (by kernel_rfl)
                            refine at_seg [(15, []), (16, []), (17, []), (18, [])] [(1, .str p1), (5, .vptr [vs e_S_auto_state x4.l_, .int .i64 x4.first_]), (7, .int .i64 x6), (8, rowV r2 x10.length), (9, rowV r1 x9.length), (10, .int .i64 x11), (55, .bool false), (66, .bool ((p1.length : Int) == (0 : Int)))] H (noU_all rfl) (fun fr => by kernel_rfl) ?_
                            intro fr H
                            exact at_nil ⟨rfl, by first | exact H.less _ (fun fr => by rfl) | exact H.less _ (fun fr => by rw [hb]; rfl)⟩
                          | false =>
                            replace H := H.know 62 hb (by kernel_rfl)
                            refine at_seg [(15, []), (16, []), (17, []), (18, [])] [(1, .str p1), (5, .vptr [vs e_S_auto_state x4.l_, .int .i64 x4.first_]), (7, .int .i64 x6), (8, rowV r2 x10.length), (9, rowV r1 x9.length), (10, .int .i64 x11), (55, .bool false), (66, .bool false)] H (noU_all rfl) (fun fr => by kernel_rfl) ?_
                            intro fr H
                            exact at_nil ⟨rfl, by first | exact H.less _ (fun fr => by rfl) | exact H.less _ (fun fr => by rw [hb]; rfl)⟩
                        · intro t fr h' hK
                          obtain ⟨e, H⟩ := hK
                          subst e
                          refine at_seg [(19, [])] [(1, .str p1), (5, .vptr [vs e_S_auto_state x4.l_, .int .i64 x4.first_]), (7, .int .i64 x6), (8, rowV r2 x10.length), (9, rowV r1 x9.length), (10, .int .i64 x11), (55, .bool false), (67, .bool (((x6 == (0 : Int)) && (x11 == (0 : Int))) && ((p1.length : Int) == (0 : Int))))] H (noU_all rfl) (fun fr => by kernel_rfl) ?_
                          intro fr H
                          obtain ⟨x16, ho, hm⟩ := bind_some hm
                          refine at_cut [(20, []), (21, []), (22, []), (23, []), (24, [])] (fun fr' h' => Has fr' 96 [(1, .str p1), (5, .vptr [vs e_S_auto_state x4.l_, .int .i64 x4.first_]), (7, .int .i64 x6), (8, rowV r2 x10.length), (9, rowV r1 x9.length), (10, .int .i64 x11), (55, .bool false), (72, .bool x16)] ∧ HH g h' [.lst r2 3 (lst (eI .i64) x10), .lst r1 3 (lst (eI .i64) x9), .obj h.size (.cells none 2 [vs e_S_tree_Node p0.Nodes, .int .i64 p0.Root])] F) ?_ ?_
                          · rcases iteB_some ho with ⟨hb, hm⟩ | ⟨hb, hm⟩
                            · replace H := H.know 67 hb (by kernel_rfl)
                              refine at_seg [(20, []), (21, [])] [(1, .str p1), (5, .vptr [vs e_S_auto_state x4.l_, .int .i64 x4.first_]), (7, .int .i64 x6), (8, rowV r2 x10.length), (9, rowV r1 x9.length), (10, .int .i64 x11), (55, .bool false), (67, .bool true), (68, .vptr [vs e_S_auto_state x4.l_, .int .i64 x4.first_]), (69, .str p1)] H (noU_all rfl) (fun fr => by kernel_rfl) ?_
                              intro fr H
                              have A1 := A.cut 0
                              obtain ⟨x17, hx, hm⟩ := bind_some hm
                              obtain ⟨v1, h11, hr, rqw8, rfl, A1⟩ := ok_auto_Auto_Ends (av := [.vptr [vs e_S_auto_state x4.l_, .int .i64 x4.first_], .str p1, .int .i64 (0 : Int)]) hx (by kernel_rfl) A1
                              replace A : HH g h11 [.lst rqw8 3 (lst (eI .i64) x17), .lst r2 3 (lst (eI .i64) x10), .lst r1 3 (lst (eI .i64) x9), .obj h.size (.cells none 2 [vs e_S_tree_Node p0.Nodes, .int .i64 p0.Root])] F := A.glue0 (n := 0) A1
                              refine at_step (v := rowV rqw8 x17.length) (h1 := h11) [(1, .str p1), (5, .vptr [vs e_S_auto_state x4.l_, .int .i64 x4.first_]), (7, .int .i64 x6), (8, rowV r2 x10.length), (9, rowV r1 x9.length), (10, .int .i64 x11), (55, .bool false), (67, .bool true), (70, rowV rqw8 x17.length)] H (fun fr => by kernel_rfl) (fun fr => Steps.call (by kernel_rfl) hr) ?_
                              intro fr t H
                              have A1 := A.cut 1
                              obtain ⟨x18, hx, hm⟩ := bind_some hm
                              obtain ⟨v1, h12, hr, rfl, A1⟩ := ok_boulterlaw20_contains_sOI (av := [rowV rqw8 x17.length, .int .i64 (0 : Int)]) hx (by kernel_rfl) A1
                              replace A : HH g h12 [.lst rqw8 3 (lst (eI .i64) x17), .lst r2 3 (lst (eI .i64) x10), .lst r1 3 (lst (eI .i64) x9), .obj h.size (.cells none 2 [vs e_S_tree_Node p0.Nodes, .int .i64 p0.Root])] F := A.glue0 (n := 1) A1
                              refine at_step (v := .bool x18) (h1 := h12) [(1, .str p1), (5, .vptr [vs e_S_auto_state x4.l_, .int .i64 x4.first_]), (7, .int .i64 x6), (8, rowV r2 x10.length), (9, rowV r1 x9.length), (10, .int .i64 x11), (55, .bool false), (67, .bool true), (71, .bool x18)] H (fun fr => by kernel_rfl) (fun fr => Steps.call (by kernel_rfl) hr) ?_
                              intro fr t H
                              refine at_seg [(24, [])] [(1, .str p1), (5, .vptr [vs e_S_auto_state x4.l_, .int .i64 x4.first_]), (7, .int .i64 x6), (8, rowV r2 x10.length), (9, rowV r1 x9.length), (10, .int .i64 x11), (55, .bool false), (72, .bool x18)] H (noU_all rfl) (fun fr => by kernel_rfl) ?_
                              intro fr H
                              have e1 := Option.some.inj hm
                              subst e1
                              replace A : HH g h12 [.lst r2 3 (lst (eI .i64) x10), .lst r1 3 (lst (eI .i64) x9), .obj h.size (.cells none 2 [vs e_S_tree_Node p0.Nodes, .int .i64 p0.Root])] F := (HH.dropF (((A.front 3 rfl).front 3 rfl).front 3 rfl) 3)
                              exact at_nil ⟨H.less _ (fun fr => by kernel_rfl), A⟩
                            · replace H := H.know 67 hb (by kernel_rfl)
                              refine at_seg [(20, []), (21, []), (22, []), (23, []), (24, [])] [(1, .str p1), (5, .vptr [vs e_S_auto_state x4.l_, .int .i64 x4.first_]), (7, .int .i64 x6), (8, rowV r2 x10.length), (9, rowV r1 x9.length), (10, .int .i64 x11), (55, .bool false), (72, .bool false)] H (noU_all rfl) (fun fr => by kernel_rfl) ?_
                              intro fr H
                              have e1 := Option.some.inj hm
                              subst e1
                              exact at_nil ⟨H.less _ (fun fr => by kernel_rfl), A⟩
                          · clear A
                            intro t fr h10 hK
                            obtain ⟨H, A⟩ := hK
                            refine at_seg [(25, [])] [(1, .str p1), (5, .vptr [vs e_S_auto_state x4.l_, .int .i64 x4.first_]), (7, .int .i64 x6), (8, rowV r2 x10.length), (9, rowV r1 x9.length), (10, .int .i64 x11), (73, .bool x16)] H (noU_all rfl) (fun fr => by kernel_rfl) ?_
                            intro fr H
                            have e1 := Option.some.inj hm
                            subst e1
                            exact at_nil ⟨H.less _ (fun fr => by kernel_rfl), A⟩
                  · clear A
                    intro t fr h9 hK
                    obtain ⟨H, A⟩ := hK
                    refine at_nil ?_
                    show AW cfg 6 g (right (left (left (left (left (left (right (left (right (right (left (left (right (left (left (right (left (right (right (right (right (right (bodyC cfg.P 6))))))))))))))))))))))) fr h9 _
                    rcases iteB_some hm with ⟨hb, hm⟩ | ⟨hb, hm⟩
                    · replace H := H.know 73 hb (by kernel_rfl)
                      refine aw_true (x := .tmp 73) (by kernel_rfl) H (fun fr => by kernel_rfl) ?_
                      refine aw_reg (id := 16) (n := 5) [(0, []), (1, []), (2, []), (3, []), (4, [])] (by kernel_rfl) (by kernel_rfl) ?_
                      refine at_seg [(0, []), (1, [])] [(1, .str p1), (5, .vptr [vs e_S_auto_state x4.l_, .int .i64 x4.first_]), (7, .int .i64 x6), (8, rowV r2 x10.length), (10, .int .i64 x11), (74, rowV r1 x9.length), (75, .int .i64 x11)] H (noU_all rfl) (fun fr => by kernel_rfl) ?_
                      intro fr H
                      obtain ⟨h13, e2⟩ : ∃ x, x = h9.push (.cells (some 3) 2 [.int .i64 x11]) := ⟨_, rfl⟩
                      replace A := (A.pushL _ _).to e2
                      refine at_step (v := rowV (some h9.size) (([x11] : List Int).length)) (h1 := h13) [(1, .str p1), (5, .vptr [vs e_S_auto_state x4.l_, .int .i64 x4.first_]), (7, .int .i64 x6), (8, rowV r2 x10.length), (10, .int .i64 x11), (74, rowV r1 x9.length), (76, rowV (some h9.size) (([x11] : List Int).length))] H (fun fr => by kernel_rfl) (fun fr => .of (s_n' (by kernel_rfl) (congrArg some e2.symm))) ?_
                      intro fr t H
                      obtain ⟨hb, hm⟩ := need_some hm
                      obtain ⟨r5, h14, hx, A1⟩ := HH.appO (encI .i64) (by decide) A 2 (xs := x9) (ys := ([x11] : List Int)) rfl (row_first A 0 rfl (n := ([x11] : List Int).length) (z := 1) rfl (by decide)) rfl rfl hb
                      replace A : HH g h14 [.lst (some h9.size) 3 ([.int .i64 x11]), .lst r2 3 (lst (eI .i64) x10), .lst r5 3 (lst (eI .i64) (x9 ++ ([x11] : List Int))), .obj h.size (.cells none 2 [vs e_S_tree_Node p0.Nodes, .int .i64 p0.Root])] F := A1
                      replace A : HH g h14 [.lst r2 3 (lst (eI .i64) x10), .lst r5 3 (lst (eI .i64) (x9 ++ ([x11] : List Int))), .obj h.size (.cells none 2 [vs e_S_tree_Node p0.Nodes, .int .i64 p0.Root])] F := (HH.dropF (((A.front 3 rfl).front 3 rfl).front 3 rfl) 3)
                      refine at_step (v := rowV r5 ((x9 ++ ([x11] : List Int)).length)) (h1 := h14) [(1, .str p1), (5, .vptr [vs e_S_auto_state x4.l_, .int .i64 x4.first_]), (7, .int .i64 x6), (8, rowV r2 x10.length), (10, .int .i64 x11), (77, rowV r5 ((x9 ++ ([x11] : List Int)).length))] H (fun fr => by kernel_rfl) (fun fr => .of (s_app (s := rowS r1 x9.length) (by kernel_rfl) hx)) ?_
                      intro fr t H
                      refine at_seg [(4, [])] [(1, .str p1), (5, .vptr [vs e_S_auto_state x4.l_, .int .i64 x4.first_]), (7, .int .i64 x6), (8, rowV r2 x10.length), (9, rowV r5 ((x9 ++ ([x11] : List Int)).length)), (10, .int .i64 x11)] H (noU_all rfl) (fun fr => by kernel_rfl) ?_
                      intro fr H
                      refine at_nil ?_
                      exact Or.inl ⟨(x9 ++ ([x11] : List Int)), rfl, Option.some.inj hm, r5, H.less _ (fun fr => by kernel_rfl), A⟩
                    · replace H := H.know 73 hb (by kernel_rfl)
                      refine aw_false (x := .tmp 73) (by kernel_rfl) H (fun fr => by kernel_rfl) ?_
                      refine aw_skip (by kernel_rfl) ?_
                      exact Or.inl ⟨x9, rfl, Option.some.inj hm, r1, H.less _ (fun fr => by kernel_rfl), A⟩
                · clear ho
                  clear A
                  intro e fr h15 hQ
                  rcases hQ with ⟨x13, rfl, rfl, r4, H, A⟩ | hF
                  · skip
                    show AW cfg 6 g (right (left (left (left (left (right (left (right (right (left (left (right (left (left (right (left (right (right (right (right (right (bodyC cfg.P 6)))))))))))))))))))))) fr h15 _
                    refine aw_seq (by kernel_rfl) ?_
                    refine aw_seq (by kernel_rfl) ?_
                    refine aw_reg (id := 17) (n := 4) [(0, []), (1, []), (2, []), (3, [])] (by kernel_rfl) (by kernel_rfl) ?_
                    refine at_seg [(0, []), (1, []), (2, []), (3, [])] [(1, .str p1), (5, .vptr [vs e_S_auto_state x4.l_, .int .i64 x4.first_]), (7, .int .i64 x6), (8, rowV r2 x10.length), (9, rowV r4 x13.length), (10, .int .i64 x11), (81, .bool (x11 == (p1.length : Int)))] H (noU_all rfl) (fun fr => by kernel_rfl) ?_
                    intro fr H
                    refine at_nil ?_
                    show AW cfg 6 g (right (left (right (left (left (left (left (right (left (right (right (left (left (right (left (left (right (left (right (right (right (right (right (bodyC cfg.P 6)))))))))))))))))))))))) fr h15 _
                    rcases iteB_some hm with ⟨hb, hm⟩ | ⟨hb, hm⟩
                    · replace H := H.know 81 hb (by kernel_rfl)
                      refine aw_true (x := .tmp 81) (by kernel_rfl) H (fun fr => by kernel_rfl) ?_
                      refine aw_exit (i := 2) (by kernel_rfl) ?_
                      replace A : HH g h15 [.lst r4 3 (lst (eI .i64) x13), .obj h.size (.cells none 2 [vs e_S_tree_Node p0.Nodes, .int .i64 p0.Root])] F := (HH.dropF ((A.front 2 rfl).front 2 rfl) 2)
                      exact Exists.intro _ (And.intro (Option.some.inj hm).symm (fun e => Or.inl ⟨x13, rfl, e, r4, H.less _ (fun fr => by kernel_rfl), A⟩))
                    · replace H := H.know 81 hb (by kernel_rfl)
                      refine aw_false (x := .tmp 81) (by kernel_rfl) H (fun fr => by kernel_rfl) ?_
                      refine aw_skip (by kernel_rfl) ?_
                      show AW cfg 6 g (right (right (left (left (left (left (right (left (right (right (left (left (right (left (left (right (left (right (right (right (right (right (bodyC cfg.P 6))))))))))))))))))))))) fr h15 _
                      refine aw_reg (id := 18) (n := 7) [(0, []), (1, []), (2, []), (3, []), (4, []), (5, []), (6, [])] (by kernel_rfl) (by kernel_rfl) ?_
                      refine at_seg [(0, []), (1, []), (2, []), (3, [])] [(1, .str p1), (5, .vptr [vs e_S_auto_state x4.l_, .int .i64 x4.first_]), (7, .int .i64 x6), (9, rowV r4 x13.length), (10, .int .i64 x11), (82, .vptr [vs e_S_auto_state x4.l_, .int .i64 x4.first_]), (83, rowV r2 x10.length), (84, .str p1), (85, .int .i64 x11)] H (noU_all rfl) (fun fr => by kernel_rfl) ?_
                      intro fr H
                      obtain ⟨x19, hx, hm⟩ := bind_some hm
                      refine at_step (v := .int .u8 x19) (h1 := h15) [(1, .str p1), (5, .vptr [vs e_S_auto_state x4.l_, .int .i64 x4.first_]), (7, .int .i64 x6), (9, rowV r4 x13.length), (10, .int .i64 x11), (82, .vptr [vs e_S_auto_state x4.l_, .int .i64 x4.first_]), (83, rowV r2 x10.length), (86, .int .u8 x19)] H (fun fr => by kernel_rfl) (fun fr => .of (s_ixS (by kernel_rfl) hx)) ?_
                      intro fr t H
                      have A1 := A.cut 1
                      obtain ⟨x20, hx, hm⟩ := bind_some hm
                      obtain ⟨v1, h16, hr, rqw10, rfl, A1⟩ := ok_auto_Auto_Step_sPVOI (av := [.vptr [vs e_S_auto_state x4.l_, .int .i64 x4.first_], rowV r2 x10.length, .int .u8 x19]) hx (by kernel_rfl) A1
                      replace A : HH g h16 [.lst rqw10 3 (lst (eI .i64) x20), .lst r2 3 (lst (eI .i64) x10), .lst r4 3 (lst (eI .i64) x13), .obj h.size (.cells none 2 [vs e_S_tree_Node p0.Nodes, .int .i64 p0.Root])] F := A.glue0 (n := 1) A1
                      refine at_step (v := rowV rqw10 x20.length) (h1 := h16) [(1, .str p1), (5, .vptr [vs e_S_auto_state x4.l_, .int .i64 x4.first_]), (7, .int .i64 x6), (9, rowV r4 x13.length), (10, .int .i64 x11), (87, rowV rqw10 x20.length)] H (fun fr => by kernel_rfl) (fun fr => Steps.call (by kernel_rfl) hr) ?_
                      intro fr t H
                      refine at_seg [(6, [])] [(1, .str p1), (5, .vptr [vs e_S_auto_state x4.l_, .int .i64 x4.first_]), (7, .int .i64 x6), (8, rowV rqw10 x20.length), (9, rowV r4 x13.length), (10, .int .i64 x11)] H (noU_all rfl) (fun fr => by kernel_rfl) ?_
                      intro fr H
                      refine at_nil ?_
                      show AW cfg 6 g (right (left (left (right (left (right (right (left (left (right (left (left (right (left (right (right (right (right (right (bodyC cfg.P 6)))))))))))))))))))) fr h16 _
                      refine aw_reg (id := 14) (n := 3) [(0, []), (1, []), (2, [])] (by kernel_rfl) (by kernel_rfl) ?_
                      refine at_seg [(0, []), (1, []), (2, [])] [(1, .str p1), (5, .vptr [vs e_S_auto_state x4.l_, .int .i64 x4.first_]), (7, .int .i64 x6), (8, rowV rqw10 x20.length), (9, rowV r4 x13.length), (10, .int .i64 (IntKind.i64.wrap (x11 + (1 : Int))))] H (noU_all rfl) (fun fr => by kernel_rfl) ?_
                      intro fr H
                      refine at_nil ?_
                      replace A : HH g h16 [.lst rqw10 3 (lst (eI .i64) x20), .lst r4 3 (lst (eI .i64) x13), .obj h.size (.cells none 2 [vs e_S_tree_Node p0.Nodes, .int .i64 p0.Root])] F := (HH.dropF (((A.front 3 rfl).front 3 rfl).front 2 rfl) 3)
                      exact Exists.intro (x13, x20, IntKind.i64.wrap (x11 + (1 : Int))) (And.intro (Option.some.inj hm).symm ⟨x13, x20, IntKind.i64.wrap (x11 + (1 : Int)), rfl, r4, rqw10, H.less _ (fun fr => by kernel_rfl), A⟩)
                  · exact hF.elim
              · clear ho
                clear A
                intro e fr h17 hQ
                rcases hQ with ⟨x12, rfl, rfl, r3, H, A⟩ | hF
                · skip
                  show AW cfg 6 g (right (right (right (left (left (right (left (left (right (left (right (right (right (right (right (bodyC cfg.P 6)))))))))))))))) fr h17 _
                  refine aw_seq (by kernel_rfl) ?_
                  refine aw_reg (id := 19) (n := 7) [(0, []), (1, []), (2, []), (3, []), (4, []), (5, []), (6, [])] (by kernel_rfl) (by kernel_rfl) ?_
                  refine at_seg [(0, []), (1, []), (2, []), (3, [])] [(1, .str p1), (5, .vptr [vs e_S_auto_state x4.l_, .int .i64 x4.first_]), (7, .int .i64 x6), (88, rowV r3 x12.length), (89, .vptr [vs e_S_auto_state x4.l_, .int .i64 x4.first_]), (90, .str p1), (91, .int .i64 x6)] H (noU_all rfl) (fun fr => by kernel_rfl) ?_
                  intro fr H
                  have A1 := A.cut 0
                  obtain ⟨x21, hx, hm⟩ := bind_some hm
                  obtain ⟨v1, h18, hr, rqw11, rfl, A1⟩ := ok_auto_Auto_Ends (av := [.vptr [vs e_S_auto_state x4.l_, .int .i64 x4.first_], .str p1, .int .i64 x6]) hx (by kernel_rfl) A1
                  replace A : HH g h18 [.lst rqw11 3 (lst (eI .i64) x21), .lst r3 3 (lst (eI .i64) x12), .obj h.size (.cells none 2 [vs e_S_tree_Node p0.Nodes, .int .i64 p0.Root])] F := A.glue0 (n := 0) A1
                  refine at_step (v := rowV rqw11 x21.length) (h1 := h18) [(1, .str p1), (5, .vptr [vs e_S_auto_state x4.l_, .int .i64 x4.first_]), (7, .int .i64 x6), (88, rowV r3 x12.length), (92, rowV rqw11 x21.length)] H (fun fr => by kernel_rfl) (fun fr => Steps.call (by kernel_rfl) hr) ?_
                  intro fr t H
                  replace A : HH g h18 [.lst r3 3 (lst (eI .i64) x12), .lst rqw11 3 (lst (eI .i64) x21), .obj h.size (.cells none 2 [vs e_S_tree_Node p0.Nodes, .int .i64 p0.Root])] F := ((A.front 0 rfl).front 1 rfl)
                  have A1 := A.cut 2
                  obtain ⟨x22, hx, hm⟩ := bind_some hm
                  obtain ⟨v1, h19, hr, rfl, A1⟩ := ok_boulterref16_Same_sOO (av := [rowV r3 x12.length, rowV rqw11 x21.length]) hx (by kernel_rfl) A1
                  replace A : HH g h19 [.lst r3 3 (lst (eI .i64) x12), .lst rqw11 3 (lst (eI .i64) x21), .obj h.size (.cells none 2 [vs e_S_tree_Node p0.Nodes, .int .i64 p0.Root])] F := A.glue0 (n := 2) A1
                  refine at_step (v := .bool x22) (h1 := h19) [(1, .str p1), (5, .vptr [vs e_S_auto_state x4.l_, .int .i64 x4.first_]), (7, .int .i64 x6), (93, .bool x22)] H (fun fr => by kernel_rfl) (fun fr => Steps.call (by kernel_rfl) hr) ?_
                  intro fr t H
                  refine at_seg [(6, [])] [(1, .str p1), (5, .vptr [vs e_S_auto_state x4.l_, .int .i64 x4.first_]), (7, .int .i64 x6), (94, .bool (!x22))] H (noU_all rfl) (fun fr => by kernel_rfl) ?_
                  intro fr H
                  refine at_nil ?_
                  show AW cfg 6 g (right (right (right (right (left (left (right (left (left (right (left (right (right (right (right (right (bodyC cfg.P 6))))))))))))))))) fr h19 _
                  rcases iteB_some hm with ⟨hb, hm⟩ | ⟨hb, hm⟩
                  · replace H := H.know 94 hb (by kernel_rfl)
                    refine aw_true (x := .tmp 94) (by kernel_rfl) H (fun fr => by kernel_rfl) ?_
                    refine aw_seq (by kernel_rfl) ?_
                    refine aw_reg (id := 20) (n := 1) [(0, [])] (by kernel_rfl) (by kernel_rfl) ?_
                    refine at_seg [(0, [])] [(4, .bool false)] H (noU_all rfl) (fun fr => by kernel_rfl) ?_
                    intro fr H
                    refine at_nil ?_
                    show AW cfg 6 g (right (left (right (right (right (right (left (left (right (left (left (right (left (right (right (right (right (right (bodyC cfg.P 6))))))))))))))))))) fr h19 _
                    refine aw_ret (by kernel_rfl) ?_
                    replace A : HH g h19 [.obj h.size (.cells none 2 [vs e_S_tree_Node p0.Nodes, .int .i64 p0.Root])] F := (HH.dropF (A.front 2 rfl) 1)
                    exact Exists.intro _ (And.intro (Option.some.inj hm).symm (fun e => Or.inr (Or.inl ⟨false, rfl, e, H.less _ (fun fr => by kernel_rfl), A⟩)))
                  · replace H := H.know 94 hb (by kernel_rfl)
                    refine aw_false (x := .tmp 94) (by kernel_rfl) H (fun fr => by kernel_rfl) ?_
                    refine aw_skip (by kernel_rfl) ?_
                    show AW cfg 6 g (right (right (left (left (right (left (right (right (right (right (right (bodyC cfg.P 6)))))))))))) fr h19 _
                    refine aw_reg (id := 10) (n := 3) [(0, []), (1, []), (2, [])] (by kernel_rfl) (by kernel_rfl) ?_
                    refine at_seg [(0, []), (1, []), (2, [])] [(1, .str p1), (5, .vptr [vs e_S_auto_state x4.l_, .int .i64 x4.first_]), (7, .int .i64 (IntKind.i64.wrap (x6 + (1 : Int))))] H (noU_all rfl) (fun fr => by kernel_rfl) ?_
                    intro fr H
                    refine at_nil ?_
                    replace A : HH g h19 [.obj h.size (.cells none 2 [vs e_S_tree_Node p0.Nodes, .int .i64 p0.Root])] F := (HH.dropF (A.front 2 rfl) 1)
                    exact Exists.intro (IntKind.i64.wrap (x6 + (1 : Int))) (And.intro (Option.some.inj hm).symm ⟨IntKind.i64.wrap (x6 + (1 : Int)), rfl, H.less _ (fun fr => by kernel_rfl), A⟩)
                · exact hF.elim
            · replace H := H.know 38 hb (by kernel_rfl)
              refine aw_false (x := .tmp 38) (by kernel_rfl) H (fun fr => by kernel_rfl) ?_
              refine aw_exit (i := 0) (by kernel_rfl) ?_
              exact Exists.intro _ (And.intro (Option.some.inj hm).symm (fun e => Or.inl ⟨rfl, e, H.less _ (fun fr => by kernel_rfl), A⟩))
          · clear ho
            clear A
            intro e fr h20 hQ
            rcases hQ with ⟨rfl, rfl, H, A⟩ | ⟨x7, rfl, rfl, H, A⟩ | hF
            · skip
              show AW cfg 6 g (right (right (right (right (right (right (bodyC cfg.P 6))))))) fr h20 _
              refine aw_seq (by kernel_rfl) ?_
              refine aw_reg (id := 21) (n := 2) [(0, []), (1, [])] (by kernel_rfl) (by kernel_rfl) ?_
              obtain ⟨x23, hx, hm⟩ := bind_some hm
              refine at_step (v := .bool x23) (h1 := h20) [(95, .bool x23)] H (fun fr => by kernel_rfl) (fun fr => Steps.call (by kernel_rfl) (ok_boulterlaw20_awake hx)) ?_
              intro fr t H
              refine at_seg [(1, [])] [(4, .bool x23)] H (noU_all rfl) (fun fr => by kernel_rfl) ?_
              intro fr H
              refine at_nil ?_
              show AW cfg 6 g (right (right (right (right (right (right (right (bodyC cfg.P 6)))))))) fr h20 _
              refine aw_ret (by kernel_rfl) ?_
              have e1 := Option.some.inj hm
              subst e1
              refine ⟨.inl rfl, .bool x23, resH H (fun fr => by kernel_rfl), ?_⟩
              replace A : HH g h20 [] F := (HH.dropF A 0)
              exact ⟨rfl, A⟩
            · skip
              have e1 := Option.some.inj hm
              subst e1
              refine ⟨.inl rfl, .bool x7, resH H (fun fr => by kernel_rfl), ?_⟩
              replace A : HH g h20 [] F := (HH.dropF A 0)
              exact ⟨rfl, A⟩
            · exact hF.elim
      · skip
        replace A : HH g h4 [.obj h.size (.cells none 2 [vs e_S_tree_Node p0.Nodes, .int .i64 p0.Root])] F := A.glue0 (n := 0) A1
        refine at_step (v := .tuple [.ptr none, .int .i64 x5]) (h1 := h4) [(1, .str p1), (23, .tuple [.ptr none, .int .i64 x5])] H (fun fr => by kernel_rfl) (fun fr => Steps.call (by kernel_rfl) hr) ?_
        intro fr t H
        refine at_seg [(2, []), (3, []), (4, []), (5, []), (6, [])] [(1, .str p1), (5, .ptr none), (6, .int .i64 x5)] H (noU_all rfl) (fun fr => by kernel_rfl) ?_
        intro fr H
        refine at_nil ?_
        show AW cfg 6 g (right (right (right (bodyC cfg.P 6)))) fr h4 _
        refine aw_seq (by kernel_rfl) ?_
        refine aw_seq (by kernel_rfl) ?_
        refine aw_reg (id := 4) (n := 2) [(0, []), (1, [])] (by kernel_rfl) (by kernel_rfl) ?_
        refine at_seg [(0, []), (1, [])] [(1, .str p1), (5, .ptr none), (27, .bool (x5 != (0 : Int)))] H (noU_all rfl) (fun fr => by kernel_rfl) ?_
        intro fr H
        refine at_nil ?_
        show AW cfg 6 g (right (left (right (right (right (bodyC cfg.P 6)))))) fr h4 _
        rcases iteB_some hm with ⟨hb, hm⟩ | ⟨hb, hm⟩
        · replace H := H.know 27 hb (by kernel_rfl)
          refine aw_true (x := .tmp 27) (by kernel_rfl) H (fun fr => by kernel_rfl) ?_
          refine aw_seq (by kernel_rfl) ?_
          refine aw_reg (id := 5) (n := 6) [(0, []), (1, []), (2, []), (3, []), (4, []), (5, [])] (by kernel_rfl) (by kernel_rfl) ?_
          refine at_seg [(0, []), (1, []), (2, [])] [(30, .bool true)] H (noU_all rfl) (fun fr => by kernel_rfl) ?_
          intro fr H
          obtain ⟨x24, hx, hm⟩ := bind_some hm
          refine at_step (v := .bool x24) (h1 := h4) [(30, .bool true), (31, .bool x24)] H (fun fr => by kernel_rfl) (fun fr => Steps.call (by kernel_rfl) (ok_boulterlaw20_awake hx)) ?_
          intro fr t H
          refine at_seg [(4, []), (5, [])] [(4, .bool x24)] H (noU_all rfl) (fun fr => by kernel_rfl) ?_
          intro fr H
          refine at_nil ?_
          show AW cfg 6 g (right (left (right (left (right (right (right (bodyC cfg.P 6)))))))) fr h4 _
          refine aw_ret (by kernel_rfl) ?_
          have e1 := Option.some.inj hm
          subst e1
          refine ⟨.inl rfl, .bool x24, resH H (fun fr => by kernel_rfl), ?_⟩
          replace A : HH g h4 [] F := (HH.dropF A 0)
          exact ⟨rfl, A⟩
        · replace H := H.know 27 hb (by kernel_rfl)
          refine aw_false (x := .tmp 27) (by kernel_rfl) H (fun fr => by kernel_rfl) ?_
          refine aw_skip (by kernel_rfl) ?_
          show AW cfg 6 g (right (right (right (right (bodyC cfg.P 6))))) fr h4 _
          refine aw_seq (by kernel_rfl) ?_
          refine aw_seq (by kernel_rfl) ?_
          refine aw_reg (id := 6) (n := 2) [(0, []), (1, [])] (by kernel_rfl) (by kernel_rfl) ?_
          refine at_seg [(0, []), (1, [])] [(1, .str p1), (5, .ptr none), (34, .bool true)] H (noU_all rfl) (fun fr => by kernel_rfl) ?_
          intro fr H
          refine at_nil ?_
          show AW cfg 6 g (right (left (right (right (right (right (bodyC cfg.P 6))))))) fr h4 _
          refine aw_true (x := .tmp 34) (by kernel_rfl) H (fun fr => by kernel_rfl) ?_
          refine aw_seq (by kernel_rfl) ?_
          refine aw_reg (id := 7) (n := 1) [(0, [])] (by kernel_rfl) (by kernel_rfl) ?_
          refine at_seg [(0, [])] [(4, .bool false)] H (noU_all rfl) (fun fr => by kernel_rfl) ?_
          intro fr H
          refine at_nil ?_
          show AW cfg 6 g (right (left (right (left (right (right (right (right (bodyC cfg.P 6))))))))) fr h4 _
          refine aw_ret (by kernel_rfl) ?_
          have e1 := Option.some.inj hm
          subst e1
          refine ⟨.inl rfl, .bool false, resH H (fun fr => by kernel_rfl), ?_⟩
          replace A : HH g h4 [] F := (HH.dropF A 0)
          exact ⟨rfl, A⟩
end Go.Av.L
