/-
  Models of functions, and that the abstract run tells them. Written by lift2.py.
-/
import Derived.Test.YtiodcbipjnmpgaaKCfg
import Derived.Test.YtiodcbipjnmpgaaK0
namespace Go.Av.L
open Go.Av Go.Lib
set_option maxRecDepth 10000
set_option linter.unusedVariables false
set_option linter.unusedSimpArgs false
/-! ### boulter/tree.bare -/
noncomputable def M_tree_bare (p0 : S_tree_Node) : Option (S_tree_Node × Bool) :=
 (iteB (p0.Kind == (0 : Int)) (some true) (iteB (p0.Kind == (6 : Int)) (some true) (some (p0.Kind == (7 : Int)))) : Option ((Bool))).bind fun x1 => iteB x1 (some ((⟨p0.Kind, (0 : Int), (0 : Int), (0 : Int), (0 : Int), (0 : Int), (⟨(0 : Int), (0 : Int), (0 : Int), (0 : Int)⟩ : A4_uint64)⟩ : S_tree_Node), true)) (iteB (p0.Kind == (1 : Int)) (some ((⟨(1 : Int), (0 : Int), (0 : Int), (0 : Int), (0 : Int), (0 : Int), p0.Set⟩ : S_tree_Node), true)) ((iteB (p0.Kind == (2 : Int)) (some true) (some (p0.Kind == (3 : Int))) : Option ((Bool))).bind fun x2 => iteB x2 (some ((⟨p0.Kind, p0.A, p0.B, (0 : Int), (0 : Int), (0 : Int), (⟨(0 : Int), (0 : Int), (0 : Int), (0 : Int)⟩ : A4_uint64)⟩ : S_tree_Node), true)) (iteB (p0.Kind == (4 : Int)) (some ((⟨(4 : Int), p0.A, (0 : Int), p0.Min, p0.Max, (0 : Int), (⟨(0 : Int), (0 : Int), (0 : Int), (0 : Int)⟩ : A4_uint64)⟩ : S_tree_Node), true)) (iteB (p0.Kind == (5 : Int)) (some ((⟨(5 : Int), p0.A, (0 : Int), (0 : Int), (0 : Int), p0.Group, (⟨(0 : Int), (0 : Int), (0 : Int), (0 : Int)⟩ : A4_uint64)⟩ : S_tree_Node), true)) (some ((⟨(0 : Int), (0 : Int), (0 : Int), (0 : Int), (0 : Int), (0 : Int), (⟨(0 : Int), (0 : Int), (0 : Int), (0 : Int)⟩ : A4_uint64)⟩ : S_tree_Node), false))))))
theorem ok_tree_bare {g : Gd} {h : AHeap} {F : List Ck} {p0 : S_tree_Node} {q0 : S_tree_Node} {q1 : Bool} {av : List AVal} (hm : M_tree_bare p0 = some (q0, q1)) (hc : canL (cfg.still 79) av = [.agg (e_S_tree_Node p0)]) (A : HH g h [] F) : ∃ v h', Runs cfg g h 79 av v h' ∧ v = .tuple [.agg (e_S_tree_Node q0), .bool q1] ∧ HH g h' [] F := by
  refine runsQ1 (n := 45) (rs := [.cell 2 68, .tmp 3]) (by kernel_rfl) hc (by kernel_rfl) ?_
  clear hc
  unfold M_tree_bare at hm
  refine start (n := 45) [(0, .agg (e_S_tree_Node p0))] (by kernel_rfl) (by kernel_rfl) ?_
  intro fr H
  refine aw_seq (by kernel_rfl) ?_
  refine aw_reg (id := 0) (n := 3) [(0, []), (1, []), (2, [])] (by kernel_rfl) (by kernel_rfl) ?_
  obtain ⟨h1, e1⟩ : ∃ x, x = h.push (.cells none 2 (e_S_tree_Node p0)) := ⟨_, rfl⟩
  replace A := (A.push _).to e1
  refine at_step (v := .ptr (some (h.size, 0))) (h1 := h1) [(1, .ptr (some (h.size, 0)))] H (fun fr => by kernel_rfl) (fun fr => .of (s_n' (by kernel_rfl) (congrArg some e1.symm))) ?_
  intro fr t H
  obtain ⟨h2, e2⟩ : ∃ x, x = h1.push (.cells none 2 [.int .i64 (0 : Int), .int .i64 (0 : Int), .int .i64 (0 : Int), .int .i64 (0 : Int), .int .i64 (0 : Int), .int .i64 (0 : Int), .int .u64 (0 : Int), .int .u64 (0 : Int), .int .u64 (0 : Int), .int .u64 (0 : Int)]) := ⟨_, rfl⟩
  replace A := (A.push _).to e2
  refine at_step (v := .ptr (some (h1.size, 0))) (h1 := h2) [(1, .ptr (some (h.size, 0))), (2, .ptr (some (h1.size, 0)))] H (fun fr => by kernel_rfl) (fun fr => .of (s_n' (by kernel_rfl) (congrArg some e2.symm))) ?_
  intro fr t H
  refine at_seg [(2, [])] [(1, .ptr (some (h.size, 0))), (2, .ptr (some (h1.size, 0)))] H (noU_all rfl) (fun fr => by kernel_rfl) ?_
  intro fr H
  refine at_nil ?_
  show AW cfg 79 g (right (bodyC cfg.P 79)) fr h2 _
  refine aw_seq (by kernel_rfl) ?_
  refine aw_seq (by kernel_rfl) ?_
  refine aw_reg (id := 1) (n := 2) [(0, []), (1, [])] (by kernel_rfl) (by kernel_rfl) ?_
  refine at_seg [(0, [])] [(1, .ptr (some (h.size, 0))), (2, .ptr (some (h1.size, 0))), (4, .ptr (some (h.size, 0)))] H (noU_all rfl) (fun fr => by kernel_rfl) ?_
  intro fr H
  refine at_step (v := .int .i64 p0.Kind) (h1 := h2) [(1, .ptr (some (h.size, 0))), (2, .ptr (some (h1.size, 0))), (5, .int .i64 p0.Kind)] H (fun fr => by kernel_rfl) (fun fr => .of (s_ld (by kernel_rfl) (A.ld1 1 rfl (o := 0) rfl))) ?_
  intro fr t H
  refine at_nil ?_
  show AW cfg 79 g (right (left (right (bodyC cfg.P 79)))) fr h2 _
  refine aw_block (id := 0) (by kernel_rfl) ?_
  refine aw_seq (by kernel_rfl) ?_
  obtain ⟨o1, ho, hm⟩ := bind_some hm
  refine aw_mono (Q' := fun e fr' h' => (∃ (x1 : Bool), e = .normal ∧ x1 = o1 ∧ Has fr' 45 [(1, .ptr (some (h.size, 0))), (2, .ptr (some (h1.size, 0))), (5, .int .i64 p0.Kind), (6, .bool x1)] ∧ HH g h' [.obj h1.size (.cells none 2 [.int .i64 (0 : Int), .int .i64 (0 : Int), .int .i64 (0 : Int), .int .i64 (0 : Int), .int .i64 (0 : Int), .int .i64 (0 : Int), .int .u64 (0 : Int), .int .u64 (0 : Int), .int .u64 (0 : Int), .int .u64 (0 : Int)]), .obj h.size (.cells none 2 (e_S_tree_Node p0))] F) ∨ False) ?_ ?_
  · replace hm := ho
    clear ho
    refine aw_seq (by kernel_rfl) ?_
    refine aw_reg (id := 2) (n := 2) [(0, []), (1, [])] (by kernel_rfl) (by kernel_rfl) ?_
    refine at_seg [(0, []), (1, [])] [(1, .ptr (some (h.size, 0))), (2, .ptr (some (h1.size, 0))), (5, .int .i64 p0.Kind), (6, .bool (p0.Kind == (0 : Int)))] H (noU_all rfl) (fun fr => by kernel_rfl) ?_
    intro fr H
    refine at_nil ?_
    show AW cfg 79 g (right (left (left (right (left (right (bodyC cfg.P 79))))))) fr h2 _
    rcases iteB_some hm with ⟨hb, hm⟩ | ⟨hb, hm⟩
    · replace H := H.know 6 hb (by kernel_rfl)
      refine aw_true (x := .tmp 6) (by kernel_rfl) H (fun fr => by kernel_rfl) ?_
      refine aw_skip (by kernel_rfl) ?_
      exact Or.inl ⟨true, rfl, Option.some.inj hm, H.less _ (fun fr => by kernel_rfl), A⟩
    · replace H := H.know 6 hb (by kernel_rfl)
      refine aw_false (x := .tmp 6) (by kernel_rfl) H (fun fr => by kernel_rfl) ?_
      refine aw_seq (by kernel_rfl) ?_
      refine aw_reg (id := 3) (n := 2) [(0, []), (1, [])] (by kernel_rfl) (by kernel_rfl) ?_
      refine at_seg [(0, []), (1, [])] [(1, .ptr (some (h.size, 0))), (2, .ptr (some (h1.size, 0))), (5, .int .i64 p0.Kind), (6, .bool (p0.Kind == (6 : Int)))] H (noU_all rfl) (fun fr => by kernel_rfl) ?_
      intro fr H
      refine at_nil ?_
      show AW cfg 79 g (right (right (right (left (left (right (left (right (bodyC cfg.P 79))))))))) fr h2 _
      rcases iteB_some hm with ⟨hb, hm⟩ | ⟨hb, hm⟩
      · replace H := H.know 6 hb (by kernel_rfl)
        refine aw_true (x := .tmp 6) (by kernel_rfl) H (fun fr => by kernel_rfl) ?_
        refine aw_skip (by kernel_rfl) ?_
        exact Or.inl ⟨true, rfl, Option.some.inj hm, H.less _ (fun fr => by kernel_rfl), A⟩
      · replace H := H.know 6 hb (by kernel_rfl)
        refine aw_false (x := .tmp 6) (by kernel_rfl) H (fun fr => by kernel_rfl) ?_
        refine aw_reg (id := 4) (n := 2) [(0, []), (1, [])] (by kernel_rfl) (by kernel_rfl) ?_
        refine at_seg [(0, []), (1, [])] [(1, .ptr (some (h.size, 0))), (2, .ptr (some (h1.size, 0))), (5, .int .i64 p0.Kind), (6, .bool (p0.Kind == (7 : Int)))] H (noU_all rfl) (fun fr => by kernel_rfl) ?_
        intro fr H
        refine at_nil ?_
        exact Or.inl ⟨p0.Kind == (7 : Int), rfl, Option.some.inj hm, H.less _ (fun fr => by kernel_rfl), A⟩
  · clear ho
    clear A
    intro e fr h3 hQ
    rcases hQ with ⟨x1, rfl, rfl, H, A⟩ | hF
    · skip
      show AW cfg 79 g (right (left (right (left (right (bodyC cfg.P 79)))))) fr h3 _
      rcases iteB_some hm with ⟨hb, hm⟩ | ⟨hb, hm⟩
      · replace H := H.know 6 hb (by kernel_rfl)
        refine aw_true (x := .tmp 6) (by kernel_rfl) H (fun fr => by kernel_rfl) ?_
        refine aw_seq (by kernel_rfl) ?_
        refine aw_reg (id := 5) (n := 5) [(0, []), (1, []), (2, []), (3, []), (4, [])] (by kernel_rfl) (by kernel_rfl) ?_
        refine at_seg [(0, [])] [(2, .ptr (some (h1.size, 0))), (10, .ptr (some (h.size, 0)))] H (noU_all rfl) (fun fr => by kernel_rfl) ?_
        intro fr H
        refine at_step (v := .int .i64 p0.Kind) (h1 := h3) [(2, .ptr (some (h1.size, 0))), (11, .int .i64 p0.Kind)] H (fun fr => by kernel_rfl) (fun fr => .of (s_ld (by kernel_rfl) (A.ld1 1 rfl (o := 0) rfl))) ?_
        intro fr t H
        refine at_seg [(2, [])] [(2, .ptr (some (h1.size, 0))), (12, .agg [.int .i64 p0.Kind, .int .i64 (0 : Int), .int .i64 (0 : Int), .int .i64 (0 : Int), .int .i64 (0 : Int), .int .i64 (0 : Int), .int .u64 (0 : Int), .int .u64 (0 : Int), .int .u64 (0 : Int), .int .u64 (0 : Int)])] H (noU_all rfl) (fun fr => by kernel_rfl) ?_
        intro fr H
        obtain ⟨h4, hx, A1⟩ := A.st 0 rfl (o := 0) (new := [.int .i64 p0.Kind, .int .i64 (0 : Int), .int .i64 (0 : Int), .int .i64 (0 : Int), .int .i64 (0 : Int), .int .i64 (0 : Int), .int .u64 (0 : Int), .int .u64 (0 : Int), .int .u64 (0 : Int), .int .u64 (0 : Int)]) (ds := [.int .i64 p0.Kind, .int .i64 (0 : Int), .int .i64 (0 : Int), .int .i64 (0 : Int), .int .i64 (0 : Int), .int .i64 (0 : Int), .int .u64 (0 : Int), .int .u64 (0 : Int), .int .u64 (0 : Int), .int .u64 (0 : Int)]) (Nat.le_of_ble_eq_true rfl) rfl rfl
        replace A : HH g h4 [.obj h1.size (.cells none 2 [.int .i64 p0.Kind, .int .i64 (0 : Int), .int .i64 (0 : Int), .int .i64 (0 : Int), .int .i64 (0 : Int), .int .i64 (0 : Int), .int .u64 (0 : Int), .int .u64 (0 : Int), .int .u64 (0 : Int), .int .u64 (0 : Int)]), .obj h.size (.cells none 2 (e_S_tree_Node p0))] F := A1
        refine at_step (v := .tuple []) (h1 := h4) [(2, .ptr (some (h1.size, 0)))] H (fun fr => by kernel_rfl) (fun fr => .of (s_stG (by kernel_rfl) (stG_st hx rfl))) ?_
        intro fr t H
        refine at_seg [(4, [])] [(2, .ptr (some (h1.size, 0))), (3, .bool true)] H (noU_all rfl) (fun fr => by kernel_rfl) ?_
        intro fr H
        refine at_nil ?_
        show AW cfg 79 g (right (left (right (left (right (left (right (bodyC cfg.P 79)))))))) fr h4 _
        refine aw_ret (by kernel_rfl) ?_
        have e0 := Option.some.inj hm
        obtain ⟨y0, z0⟩ := Prod.mk.inj e0
        subst y0
        subst z0
        refine ⟨.inl rfl, .tuple [.agg [.int .i64 p0.Kind, .int .i64 (0 : Int), .int .i64 (0 : Int), .int .i64 (0 : Int), .int .i64 (0 : Int), .int .i64 (0 : Int), .int .u64 (0 : Int), .int .u64 (0 : Int), .int .u64 (0 : Int), .int .u64 (0 : Int)], .bool true], resL_many (.cell (resT H (fun fr => by kernel_rfl)) (load_ldA (by kernel_rfl) (by kernel_rfl) (A.ldA 0 rfl (o := 0) (n := 10) ⟨Nat.le_of_ble_eq_true rfl, rfl⟩)) (.tmp (resT H (fun fr => by kernel_rfl)) .nil)), ?_⟩
        replace A : HH g h4 [] F := (HH.dropF A 0)
        exact ⟨rfl, A⟩
      · replace H := H.know 6 hb (by kernel_rfl)
        refine aw_false (x := .tmp 6) (by kernel_rfl) H (fun fr => by kernel_rfl) ?_
        refine aw_seq (by kernel_rfl) ?_
        refine aw_reg (id := 6) (n := 2) [(0, []), (1, [])] (by kernel_rfl) (by kernel_rfl) ?_
        refine at_seg [(0, []), (1, [])] [(1, .ptr (some (h.size, 0))), (2, .ptr (some (h1.size, 0))), (5, .int .i64 p0.Kind), (13, .bool (p0.Kind == (1 : Int)))] H (noU_all rfl) (fun fr => by kernel_rfl) ?_
        intro fr H
        refine at_nil ?_
        show AW cfg 79 g (right (right (right (left (right (left (right (bodyC cfg.P 79)))))))) fr h3 _
        rcases iteB_some hm with ⟨hb, hm⟩ | ⟨hb, hm⟩
        · replace H := H.know 13 hb (by kernel_rfl)
          refine aw_true (x := .tmp 13) (by kernel_rfl) H (fun fr => by kernel_rfl) ?_
          refine aw_seq (by kernel_rfl) ?_
          refine aw_reg (id := 7) (n := 5) [(0, []), (1, []), (2, []), (3, []), (4, [])] (by kernel_rfl) (by kernel_rfl) ?_
          refine at_seg [(0, [])] [(2, .ptr (some (h1.size, 0))), (15, .ptr (some (h.size, 6)))] H (noU_all rfl) (fun fr => by kernel_rfl) ?_
          intro fr H
          refine at_step (v := .agg [.int .u64 p0.Set.w0, .int .u64 p0.Set.w1, .int .u64 p0.Set.w2, .int .u64 p0.Set.w3]) (h1 := h3) [(2, .ptr (some (h1.size, 0))), (16, .agg [.int .u64 p0.Set.w0, .int .u64 p0.Set.w1, .int .u64 p0.Set.w2, .int .u64 p0.Set.w3])] H (fun fr => by kernel_rfl) (fun fr => .of (s_ldA (by kernel_rfl) (A.ldA 1 rfl (o := 6) (n := 4) ⟨Nat.le_of_ble_eq_true rfl, rfl⟩))) ?_
          intro fr t H
          refine at_seg [(2, [])] [(2, .ptr (some (h1.size, 0))), (17, .agg [.int .i64 (1 : Int), .int .i64 (0 : Int), .int .i64 (0 : Int), .int .i64 (0 : Int), .int .i64 (0 : Int), .int .i64 (0 : Int), .int .u64 p0.Set.w0, .int .u64 p0.Set.w1, .int .u64 p0.Set.w2, .int .u64 p0.Set.w3])] H (noU_all rfl) (fun fr => by kernel_rfl) ?_
          intro fr H
          obtain ⟨h5, hx, A1⟩ := A.st 0 rfl (o := 0) (new := [.int .i64 (1 : Int), .int .i64 (0 : Int), .int .i64 (0 : Int), .int .i64 (0 : Int), .int .i64 (0 : Int), .int .i64 (0 : Int), .int .u64 p0.Set.w0, .int .u64 p0.Set.w1, .int .u64 p0.Set.w2, .int .u64 p0.Set.w3]) (ds := [.int .i64 (1 : Int), .int .i64 (0 : Int), .int .i64 (0 : Int), .int .i64 (0 : Int), .int .i64 (0 : Int), .int .i64 (0 : Int), .int .u64 p0.Set.w0, .int .u64 p0.Set.w1, .int .u64 p0.Set.w2, .int .u64 p0.Set.w3]) (Nat.le_of_ble_eq_true rfl) rfl rfl
          replace A : HH g h5 [.obj h1.size (.cells none 2 [.int .i64 (1 : Int), .int .i64 (0 : Int), .int .i64 (0 : Int), .int .i64 (0 : Int), .int .i64 (0 : Int), .int .i64 (0 : Int), .int .u64 p0.Set.w0, .int .u64 p0.Set.w1, .int .u64 p0.Set.w2, .int .u64 p0.Set.w3]), .obj h.size (.cells none 2 (e_S_tree_Node p0))] F := A1
          refine at_step (v := .tuple []) (h1 := h5) [(2, .ptr (some (h1.size, 0)))] H (fun fr => by kernel_rfl) (fun fr => .of (s_stG (by kernel_rfl) (stG_st hx rfl))) ?_
          intro fr t H
          refine at_seg [(4, [])] [(2, .ptr (some (h1.size, 0))), (3, .bool true)] H (noU_all rfl) (fun fr => by kernel_rfl) ?_
          intro fr H
          refine at_nil ?_
          show AW cfg 79 g (right (left (right (right (right (left (right (left (right (bodyC cfg.P 79)))))))))) fr h5 _
          refine aw_ret (by kernel_rfl) ?_
          have e0 := Option.some.inj hm
          obtain ⟨y0, z0⟩ := Prod.mk.inj e0
          subst y0
          subst z0
          refine ⟨.inl rfl, .tuple [.agg [.int .i64 (1 : Int), .int .i64 (0 : Int), .int .i64 (0 : Int), .int .i64 (0 : Int), .int .i64 (0 : Int), .int .i64 (0 : Int), .int .u64 p0.Set.w0, .int .u64 p0.Set.w1, .int .u64 p0.Set.w2, .int .u64 p0.Set.w3], .bool true], resL_many (.cell (resT H (fun fr => by kernel_rfl)) (load_ldA (by kernel_rfl) (by kernel_rfl) (A.ldA 0 rfl (o := 0) (n := 10) ⟨Nat.le_of_ble_eq_true rfl, rfl⟩)) (.tmp (resT H (fun fr => by kernel_rfl)) .nil)), ?_⟩
          replace A : HH g h5 [] F := (HH.dropF A 0)
          exact ⟨rfl, A⟩
        · replace H := H.know 13 hb (by kernel_rfl)
          refine aw_false (x := .tmp 13) (by kernel_rfl) H (fun fr => by kernel_rfl) ?_
          refine aw_seq (by kernel_rfl) ?_
          obtain ⟨o2, ho, hm⟩ := bind_some hm
          refine aw_mono (Q' := fun e fr' h' => (∃ (x2 : Bool), e = .normal ∧ x2 = o2 ∧ Has fr' 45 [(1, .ptr (some (h.size, 0))), (2, .ptr (some (h1.size, 0))), (5, .int .i64 p0.Kind), (18, .bool x2)] ∧ HH g h' [.obj h1.size (.cells none 2 [.int .i64 (0 : Int), .int .i64 (0 : Int), .int .i64 (0 : Int), .int .i64 (0 : Int), .int .i64 (0 : Int), .int .i64 (0 : Int), .int .u64 (0 : Int), .int .u64 (0 : Int), .int .u64 (0 : Int), .int .u64 (0 : Int)]), .obj h.size (.cells none 2 (e_S_tree_Node p0))] F) ∨ False) ?_ ?_
          · replace hm := ho
            clear ho
            refine aw_seq (by kernel_rfl) ?_
            refine aw_reg (id := 8) (n := 2) [(0, []), (1, [])] (by kernel_rfl) (by kernel_rfl) ?_
            refine at_seg [(0, []), (1, [])] [(1, .ptr (some (h.size, 0))), (2, .ptr (some (h1.size, 0))), (5, .int .i64 p0.Kind), (18, .bool (p0.Kind == (2 : Int)))] H (noU_all rfl) (fun fr => by kernel_rfl) ?_
            intro fr H
            refine at_nil ?_
            show AW cfg 79 g (right (left (right (right (right (right (left (right (left (right (bodyC cfg.P 79))))))))))) fr h3 _
            rcases iteB_some hm with ⟨hb, hm⟩ | ⟨hb, hm⟩
            · replace H := H.know 18 hb (by kernel_rfl)
              refine aw_true (x := .tmp 18) (by kernel_rfl) H (fun fr => by kernel_rfl) ?_
              refine aw_skip (by kernel_rfl) ?_
              exact Or.inl ⟨true, rfl, Option.some.inj hm, H.less _ (fun fr => by kernel_rfl), A⟩
            · replace H := H.know 18 hb (by kernel_rfl)
              refine aw_false (x := .tmp 18) (by kernel_rfl) H (fun fr => by kernel_rfl) ?_
              refine aw_reg (id := 9) (n := 2) [(0, []), (1, [])] (by kernel_rfl) (by kernel_rfl) ?_
              refine at_seg [(0, []), (1, [])] [(1, .ptr (some (h.size, 0))), (2, .ptr (some (h1.size, 0))), (5, .int .i64 p0.Kind), (18, .bool (p0.Kind == (3 : Int)))] H (noU_all rfl) (fun fr => by kernel_rfl) ?_
              intro fr H
              refine at_nil ?_
              exact Or.inl ⟨p0.Kind == (3 : Int), rfl, Option.some.inj hm, H.less _ (fun fr => by kernel_rfl), A⟩
          · clear ho
            clear A
            intro e fr h6 hQ
            rcases hQ with ⟨x2, rfl, rfl, H, A⟩ | hF
            · skip
              show AW cfg 79 g (right (right (right (right (right (left (right (left (right (bodyC cfg.P 79)))))))))) fr h6 _
              rcases iteB_some hm with ⟨hb, hm⟩ | ⟨hb, hm⟩
              · replace H := H.know 18 hb (by kernel_rfl)
                refine aw_true (x := .tmp 18) (by kernel_rfl) H (fun fr => by kernel_rfl) ?_
                refine aw_seq (by kernel_rfl) ?_
                refine aw_reg (id := 10) (n := 9) [(0, []), (1, []), (2, []), (3, []), (4, []), (5, []), (6, []), (7, []), (8, [])] (by kernel_rfl) (by kernel_rfl) ?_
                refine at_seg [(0, [])] [(1, .ptr (some (h.size, 0))), (2, .ptr (some (h1.size, 0))), (21, .ptr (some (h.size, 0)))] H (noU_all rfl) (fun fr => by kernel_rfl) ?_
                intro fr H
                refine at_step (v := .int .i64 p0.Kind) (h1 := h6) [(1, .ptr (some (h.size, 0))), (2, .ptr (some (h1.size, 0))), (22, .int .i64 p0.Kind)] H (fun fr => by kernel_rfl) (fun fr => .of (s_ld (by kernel_rfl) (A.ld1 1 rfl (o := 0) rfl))) ?_
                intro fr t H
                refine at_seg [(2, [])] [(1, .ptr (some (h.size, 0))), (2, .ptr (some (h1.size, 0))), (22, .int .i64 p0.Kind), (23, .ptr (some (h.size, 1)))] H (noU_all rfl) (fun fr => by kernel_rfl) ?_
                intro fr H
                refine at_step (v := .int .i64 p0.A) (h1 := h6) [(1, .ptr (some (h.size, 0))), (2, .ptr (some (h1.size, 0))), (22, .int .i64 p0.Kind), (24, .int .i64 p0.A)] H (fun fr => by kernel_rfl) (fun fr => .of (s_ld (by kernel_rfl) (A.ld1 1 rfl (o := 1) rfl))) ?_
                intro fr t H
                refine at_seg [(4, [])] [(2, .ptr (some (h1.size, 0))), (22, .int .i64 p0.Kind), (24, .int .i64 p0.A), (25, .ptr (some (h.size, 2)))] H (noU_all rfl) (fun fr => by kernel_rfl) ?_
                intro fr H
                refine at_step (v := .int .i64 p0.B) (h1 := h6) [(2, .ptr (some (h1.size, 0))), (22, .int .i64 p0.Kind), (24, .int .i64 p0.A), (26, .int .i64 p0.B)] H (fun fr => by kernel_rfl) (fun fr => .of (s_ld (by kernel_rfl) (A.ld1 1 rfl (o := 2) rfl))) ?_
                intro fr t H
                refine at_seg [(6, [])] [(2, .ptr (some (h1.size, 0))), (27, .agg [.int .i64 p0.Kind, .int .i64 p0.A, .int .i64 p0.B, .int .i64 (0 : Int), .int .i64 (0 : Int), .int .i64 (0 : Int), .int .u64 (0 : Int), .int .u64 (0 : Int), .int .u64 (0 : Int), .int .u64 (0 : Int)])] H (noU_all rfl) (fun fr => by kernel_rfl) ?_
                intro fr H
                obtain ⟨h7, hx, A1⟩ := A.st 0 rfl (o := 0) (new := [.int .i64 p0.Kind, .int .i64 p0.A, .int .i64 p0.B, .int .i64 (0 : Int), .int .i64 (0 : Int), .int .i64 (0 : Int), .int .u64 (0 : Int), .int .u64 (0 : Int), .int .u64 (0 : Int), .int .u64 (0 : Int)]) (ds := [.int .i64 p0.Kind, .int .i64 p0.A, .int .i64 p0.B, .int .i64 (0 : Int), .int .i64 (0 : Int), .int .i64 (0 : Int), .int .u64 (0 : Int), .int .u64 (0 : Int), .int .u64 (0 : Int), .int .u64 (0 : Int)]) (Nat.le_of_ble_eq_true rfl) rfl rfl
                replace A : HH g h7 [.obj h1.size (.cells none 2 [.int .i64 p0.Kind, .int .i64 p0.A, .int .i64 p0.B, .int .i64 (0 : Int), .int .i64 (0 : Int), .int .i64 (0 : Int), .int .u64 (0 : Int), .int .u64 (0 : Int), .int .u64 (0 : Int), .int .u64 (0 : Int)]), .obj h.size (.cells none 2 (e_S_tree_Node p0))] F := A1
                refine at_step (v := .tuple []) (h1 := h7) [(2, .ptr (some (h1.size, 0)))] H (fun fr => by kernel_rfl) (fun fr => .of (s_stG (by kernel_rfl) (stG_st hx rfl))) ?_
                intro fr t H
                refine at_seg [(8, [])] [(2, .ptr (some (h1.size, 0))), (3, .bool true)] H (noU_all rfl) (fun fr => by kernel_rfl) ?_
                intro fr H
                refine at_nil ?_
                show AW cfg 79 g (right (left (right (right (right (right (right (left (right (left (right (bodyC cfg.P 79)))))))))))) fr h7 _
                refine aw_ret (by kernel_rfl) ?_
                have e0 := Option.some.inj hm
                obtain ⟨y0, z0⟩ := Prod.mk.inj e0
                subst y0
                subst z0
                refine ⟨.inl rfl, .tuple [.agg [.int .i64 p0.Kind, .int .i64 p0.A, .int .i64 p0.B, .int .i64 (0 : Int), .int .i64 (0 : Int), .int .i64 (0 : Int), .int .u64 (0 : Int), .int .u64 (0 : Int), .int .u64 (0 : Int), .int .u64 (0 : Int)], .bool true], resL_many (.cell (resT H (fun fr => by kernel_rfl)) (load_ldA (by kernel_rfl) (by kernel_rfl) (A.ldA 0 rfl (o := 0) (n := 10) ⟨Nat.le_of_ble_eq_true rfl, rfl⟩)) (.tmp (resT H (fun fr => by kernel_rfl)) .nil)), ?_⟩
                replace A : HH g h7 [] F := (HH.dropF A 0)
                exact ⟨rfl, A⟩
              · replace H := H.know 18 hb (by kernel_rfl)
                refine aw_false (x := .tmp 18) (by kernel_rfl) H (fun fr => by kernel_rfl) ?_
                refine aw_seq (by kernel_rfl) ?_
                refine aw_reg (id := 11) (n := 2) [(0, []), (1, [])] (by kernel_rfl) (by kernel_rfl) ?_
                refine at_seg [(0, []), (1, [])] [(1, .ptr (some (h.size, 0))), (2, .ptr (some (h1.size, 0))), (5, .int .i64 p0.Kind), (28, .bool (p0.Kind == (4 : Int)))] H (noU_all rfl) (fun fr => by kernel_rfl) ?_
                intro fr H
                refine at_nil ?_
                show AW cfg 79 g (right (right (right (right (right (right (right (left (right (left (right (bodyC cfg.P 79)))))))))))) fr h6 _
                rcases iteB_some hm with ⟨hb, hm⟩ | ⟨hb, hm⟩
                · replace H := H.know 28 hb (by kernel_rfl)
                  refine aw_true (x := .tmp 28) (by kernel_rfl) H (fun fr => by kernel_rfl) ?_
                  refine aw_seq (by kernel_rfl) ?_
                  refine aw_reg (id := 12) (n := 9) [(0, []), (1, []), (2, []), (3, []), (4, []), (5, []), (6, []), (7, []), (8, [])] (by kernel_rfl) (by kernel_rfl) ?_
                  refine at_seg [(0, [])] [(1, .ptr (some (h.size, 0))), (2, .ptr (some (h1.size, 0))), (30, .ptr (some (h.size, 1)))] H (noU_all rfl) (fun fr => by kernel_rfl) ?_
                  intro fr H
                  refine at_step (v := .int .i64 p0.A) (h1 := h6) [(1, .ptr (some (h.size, 0))), (2, .ptr (some (h1.size, 0))), (31, .int .i64 p0.A)] H (fun fr => by kernel_rfl) (fun fr => .of (s_ld (by kernel_rfl) (A.ld1 1 rfl (o := 1) rfl))) ?_
                  intro fr t H
                  refine at_seg [(2, [])] [(1, .ptr (some (h.size, 0))), (2, .ptr (some (h1.size, 0))), (31, .int .i64 p0.A), (32, .ptr (some (h.size, 3)))] H (noU_all rfl) (fun fr => by kernel_rfl) ?_
                  intro fr H
                  refine at_step (v := .int .i64 p0.Min) (h1 := h6) [(1, .ptr (some (h.size, 0))), (2, .ptr (some (h1.size, 0))), (31, .int .i64 p0.A), (33, .int .i64 p0.Min)] H (fun fr => by kernel_rfl) (fun fr => .of (s_ld (by kernel_rfl) (A.ld1 1 rfl (o := 3) rfl))) ?_
                  intro fr t H
                  refine at_seg [(4, [])] [(2, .ptr (some (h1.size, 0))), (31, .int .i64 p0.A), (33, .int .i64 p0.Min), (34, .ptr (some (h.size, 4)))] H (noU_all rfl) (fun fr => by kernel_rfl) ?_
                  intro fr H
                  refine at_step (v := .int .i64 p0.Max) (h1 := h6) [(2, .ptr (some (h1.size, 0))), (31, .int .i64 p0.A), (33, .int .i64 p0.Min), (35, .int .i64 p0.Max)] H (fun fr => by kernel_rfl) (fun fr => .of (s_ld (by kernel_rfl) (A.ld1 1 rfl (o := 4) rfl))) ?_
                  intro fr t H
                  refine at_seg [(6, [])] [(2, .ptr (some (h1.size, 0))), (36, .agg [.int .i64 (4 : Int), .int .i64 p0.A, .int .i64 (0 : Int), .int .i64 p0.Min, .int .i64 p0.Max, .int .i64 (0 : Int), .int .u64 (0 : Int), .int .u64 (0 : Int), .int .u64 (0 : Int), .int .u64 (0 : Int)])] H (noU_all rfl) (fun fr => by kernel_rfl) ?_
                  intro fr H
                  obtain ⟨h8, hx, A1⟩ := A.st 0 rfl (o := 0) (new := [.int .i64 (4 : Int), .int .i64 p0.A, .int .i64 (0 : Int), .int .i64 p0.Min, .int .i64 p0.Max, .int .i64 (0 : Int), .int .u64 (0 : Int), .int .u64 (0 : Int), .int .u64 (0 : Int), .int .u64 (0 : Int)]) (ds := [.int .i64 (4 : Int), .int .i64 p0.A, .int .i64 (0 : Int), .int .i64 p0.Min, .int .i64 p0.Max, .int .i64 (0 : Int), .int .u64 (0 : Int), .int .u64 (0 : Int), .int .u64 (0 : Int), .int .u64 (0 : Int)]) (Nat.le_of_ble_eq_true rfl) rfl rfl
                  replace A : HH g h8 [.obj h1.size (.cells none 2 [.int .i64 (4 : Int), .int .i64 p0.A, .int .i64 (0 : Int), .int .i64 p0.Min, .int .i64 p0.Max, .int .i64 (0 : Int), .int .u64 (0 : Int), .int .u64 (0 : Int), .int .u64 (0 : Int), .int .u64 (0 : Int)]), .obj h.size (.cells none 2 (e_S_tree_Node p0))] F := A1
                  refine at_step (v := .tuple []) (h1 := h8) [(2, .ptr (some (h1.size, 0)))] H (fun fr => by kernel_rfl) (fun fr => .of (s_stG (by kernel_rfl) (stG_st hx rfl))) ?_
                  intro fr t H
                  refine at_seg [(8, [])] [(2, .ptr (some (h1.size, 0))), (3, .bool true)] H (noU_all rfl) (fun fr => by kernel_rfl) ?_
                  intro fr H
                  refine at_nil ?_
                  show AW cfg 79 g (right (left (right (right (right (right (right (right (right (left (right (left (right (bodyC cfg.P 79)))))))))))))) fr h8 _
                  refine aw_ret (by kernel_rfl) ?_
                  have e0 := Option.some.inj hm
                  obtain ⟨y0, z0⟩ := Prod.mk.inj e0
                  subst y0
                  subst z0
                  refine ⟨.inl rfl, .tuple [.agg [.int .i64 (4 : Int), .int .i64 p0.A, .int .i64 (0 : Int), .int .i64 p0.Min, .int .i64 p0.Max, .int .i64 (0 : Int), .int .u64 (0 : Int), .int .u64 (0 : Int), .int .u64 (0 : Int), .int .u64 (0 : Int)], .bool true], resL_many (.cell (resT H (fun fr => by kernel_rfl)) (load_ldA (by kernel_rfl) (by kernel_rfl) (A.ldA 0 rfl (o := 0) (n := 10) ⟨Nat.le_of_ble_eq_true rfl, rfl⟩)) (.tmp (resT H (fun fr => by kernel_rfl)) .nil)), ?_⟩
                  replace A : HH g h8 [] F := (HH.dropF A 0)
                  exact ⟨rfl, A⟩
                · replace H := H.know 28 hb (by kernel_rfl)
                  refine aw_false (x := .tmp 28) (by kernel_rfl) H (fun fr => by kernel_rfl) ?_
                  refine aw_seq (by kernel_rfl) ?_
                  refine aw_reg (id := 13) (n := 2) [(0, []), (1, [])] (by kernel_rfl) (by kernel_rfl) ?_
                  refine at_seg [(0, []), (1, [])] [(1, .ptr (some (h.size, 0))), (2, .ptr (some (h1.size, 0))), (37, .bool (p0.Kind == (5 : Int)))] H (noU_all rfl) (fun fr => by kernel_rfl) ?_
                  intro fr H
                  refine at_nil ?_
                  show AW cfg 79 g (right (right (right (right (right (right (right (right (right (left (right (left (right (bodyC cfg.P 79)))))))))))))) fr h6 _
                  rcases iteB_some hm with ⟨hb, hm⟩ | ⟨hb, hm⟩
                  · replace H := H.know 37 hb (by kernel_rfl)
                    refine aw_true (x := .tmp 37) (by kernel_rfl) H (fun fr => by kernel_rfl) ?_
                    refine aw_seq (by kernel_rfl) ?_
                    refine aw_reg (id := 14) (n := 7) [(0, []), (1, []), (2, []), (3, []), (4, []), (5, []), (6, [])] (by kernel_rfl) (by kernel_rfl) ?_
                    refine at_seg [(0, [])] [(1, .ptr (some (h.size, 0))), (2, .ptr (some (h1.size, 0))), (39, .ptr (some (h.size, 1)))] H (noU_all rfl) (fun fr => by kernel_rfl) ?_
                    intro fr H
                    refine at_step (v := .int .i64 p0.A) (h1 := h6) [(1, .ptr (some (h.size, 0))), (2, .ptr (some (h1.size, 0))), (40, .int .i64 p0.A)] H (fun fr => by kernel_rfl) (fun fr => .of (s_ld (by kernel_rfl) (A.ld1 1 rfl (o := 1) rfl))) ?_
                    intro fr t H
                    refine at_seg [(2, [])] [(2, .ptr (some (h1.size, 0))), (40, .int .i64 p0.A), (41, .ptr (some (h.size, 5)))] H (noU_all rfl) (fun fr => by kernel_rfl) ?_
                    intro fr H
                    refine at_step (v := .int .i64 p0.Group) (h1 := h6) [(2, .ptr (some (h1.size, 0))), (40, .int .i64 p0.A), (42, .int .i64 p0.Group)] H (fun fr => by kernel_rfl) (fun fr => .of (s_ld (by kernel_rfl) (A.ld1 1 rfl (o := 5) rfl))) ?_
                    intro fr t H
                    refine at_seg [(4, [])] [(2, .ptr (some (h1.size, 0))), (43, .agg [.int .i64 (5 : Int), .int .i64 p0.A, .int .i64 (0 : Int), .int .i64 (0 : Int), .int .i64 (0 : Int), .int .i64 p0.Group, .int .u64 (0 : Int), .int .u64 (0 : Int), .int .u64 (0 : Int), .int .u64 (0 : Int)])] H (noU_all rfl) (fun fr => by kernel_rfl) ?_
                    intro fr H
                    obtain ⟨h9, hx, A1⟩ := A.st 0 rfl (o := 0) (new := [.int .i64 (5 : Int), .int .i64 p0.A, .int .i64 (0 : Int), .int .i64 (0 : Int), .int .i64 (0 : Int), .int .i64 p0.Group, .int .u64 (0 : Int), .int .u64 (0 : Int), .int .u64 (0 : Int), .int .u64 (0 : Int)]) (ds := [.int .i64 (5 : Int), .int .i64 p0.A, .int .i64 (0 : Int), .int .i64 (0 : Int), .int .i64 (0 : Int), .int .i64 p0.Group, .int .u64 (0 : Int), .int .u64 (0 : Int), .int .u64 (0 : Int), .int .u64 (0 : Int)]) (Nat.le_of_ble_eq_true rfl) rfl rfl
                    replace A : HH g h9 [.obj h1.size (.cells none 2 [.int .i64 (5 : Int), .int .i64 p0.A, .int .i64 (0 : Int), .int .i64 (0 : Int), .int .i64 (0 : Int), .int .i64 p0.Group, .int .u64 (0 : Int), .int .u64 (0 : Int), .int .u64 (0 : Int), .int .u64 (0 : Int)]), .obj h.size (.cells none 2 (e_S_tree_Node p0))] F := A1
                    refine at_step (v := .tuple []) (h1 := h9) [(2, .ptr (some (h1.size, 0)))] H (fun fr => by kernel_rfl) (fun fr => .of (s_stG (by kernel_rfl) (stG_st hx rfl))) ?_
                    intro fr t H
                    refine at_seg [(6, [])] [(2, .ptr (some (h1.size, 0))), (3, .bool true)] H (noU_all rfl) (fun fr => by kernel_rfl) ?_
                    intro fr H
                    refine at_nil ?_
                    show AW cfg 79 g (right (left (right (right (right (right (right (right (right (right (right (left (right (left (right (bodyC cfg.P 79)))))))))))))))) fr h9 _
                    refine aw_ret (by kernel_rfl) ?_
                    have e0 := Option.some.inj hm
                    obtain ⟨y0, z0⟩ := Prod.mk.inj e0
                    subst y0
                    subst z0
                    refine ⟨.inl rfl, .tuple [.agg [.int .i64 (5 : Int), .int .i64 p0.A, .int .i64 (0 : Int), .int .i64 (0 : Int), .int .i64 (0 : Int), .int .i64 p0.Group, .int .u64 (0 : Int), .int .u64 (0 : Int), .int .u64 (0 : Int), .int .u64 (0 : Int)], .bool true], resL_many (.cell (resT H (fun fr => by kernel_rfl)) (load_ldA (by kernel_rfl) (by kernel_rfl) (A.ldA 0 rfl (o := 0) (n := 10) ⟨Nat.le_of_ble_eq_true rfl, rfl⟩)) (.tmp (resT H (fun fr => by kernel_rfl)) .nil)), ?_⟩
                    replace A : HH g h9 [] F := (HH.dropF A 0)
                    exact ⟨rfl, A⟩
                  · replace H := H.know 37 hb (by kernel_rfl)
                    refine aw_false (x := .tmp 37) (by kernel_rfl) H (fun fr => by kernel_rfl) ?_
                    refine aw_skip (by kernel_rfl) ?_
                    show AW cfg 79 g (right (right (bodyC cfg.P 79))) fr h6 _
                    refine aw_seq (by kernel_rfl) ?_
                    refine aw_reg (id := 15) (n := 3) [(0, []), (1, []), (2, [])] (by kernel_rfl) (by kernel_rfl) ?_
                    refine at_seg [(0, [])] [(2, .ptr (some (h1.size, 0))), (44, .agg [.int .i64 (0 : Int), .int .i64 (0 : Int), .int .i64 (0 : Int), .int .i64 (0 : Int), .int .i64 (0 : Int), .int .i64 (0 : Int), .int .u64 (0 : Int), .int .u64 (0 : Int), .int .u64 (0 : Int), .int .u64 (0 : Int)])] H (noU_all rfl) (fun fr => by kernel_rfl) ?_
                    intro fr H
                    obtain ⟨h10, hx, A1⟩ := A.st 0 rfl (o := 0) (new := [.int .i64 (0 : Int), .int .i64 (0 : Int), .int .i64 (0 : Int), .int .i64 (0 : Int), .int .i64 (0 : Int), .int .i64 (0 : Int), .int .u64 (0 : Int), .int .u64 (0 : Int), .int .u64 (0 : Int), .int .u64 (0 : Int)]) (ds := [.int .i64 (0 : Int), .int .i64 (0 : Int), .int .i64 (0 : Int), .int .i64 (0 : Int), .int .i64 (0 : Int), .int .i64 (0 : Int), .int .u64 (0 : Int), .int .u64 (0 : Int), .int .u64 (0 : Int), .int .u64 (0 : Int)]) (Nat.le_of_ble_eq_true rfl) rfl rfl
                    replace A : HH g h10 [.obj h1.size (.cells none 2 [.int .i64 (0 : Int), .int .i64 (0 : Int), .int .i64 (0 : Int), .int .i64 (0 : Int), .int .i64 (0 : Int), .int .i64 (0 : Int), .int .u64 (0 : Int), .int .u64 (0 : Int), .int .u64 (0 : Int), .int .u64 (0 : Int)]), .obj h.size (.cells none 2 (e_S_tree_Node p0))] F := A1
                    refine at_step (v := .tuple []) (h1 := h10) [(2, .ptr (some (h1.size, 0)))] H (fun fr => by kernel_rfl) (fun fr => .of (s_stG (by kernel_rfl) (stG_st hx rfl))) ?_
                    intro fr t H
                    refine at_seg [(2, [])] [(2, .ptr (some (h1.size, 0))), (3, .bool false)] H (noU_all rfl) (fun fr => by kernel_rfl) ?_
                    intro fr H
                    refine at_nil ?_
                    show AW cfg 79 g (right (right (right (bodyC cfg.P 79)))) fr h10 _
                    refine aw_ret (by kernel_rfl) ?_
                    have e0 := Option.some.inj hm
                    obtain ⟨y0, z0⟩ := Prod.mk.inj e0
                    subst y0
                    subst z0
                    refine ⟨.inl rfl, .tuple [.agg [.int .i64 (0 : Int), .int .i64 (0 : Int), .int .i64 (0 : Int), .int .i64 (0 : Int), .int .i64 (0 : Int), .int .i64 (0 : Int), .int .u64 (0 : Int), .int .u64 (0 : Int), .int .u64 (0 : Int), .int .u64 (0 : Int)], .bool false], resL_many (.cell (resT H (fun fr => by kernel_rfl)) (load_ldA (by kernel_rfl) (by kernel_rfl) (A.ldA 0 rfl (o := 0) (n := 10) ⟨Nat.le_of_ble_eq_true rfl, rfl⟩)) (.tmp (resT H (fun fr => by kernel_rfl)) .nil)), ?_⟩
                    replace A : HH g h10 [] F := (HH.dropF A 0)
                    exact ⟨rfl, A⟩
            · exact hF.elim
    · exact hF.elim
/-! ### boulter/tree.may -/
noncomputable def M_tree_may (p0 : S_tree_Node) (p1 : Int) : Option (Bool) :=
 (M_tree_bare p0).bind fun (x1, x2) => (iteB (!x2) (some true) ((eqG cfg.P 68 [.int .i64 x1.Kind, .int .i64 x1.A, .int .i64 x1.B, .int .i64 x1.Min, .int .i64 x1.Max, .int .i64 x1.Group, .int .u64 x1.Set.w0, .int .u64 x1.Set.w1, .int .u64 x1.Set.w2, .int .u64 x1.Set.w3] [.int .i64 p0.Kind, .int .i64 p0.A, .int .i64 p0.B, .int .i64 p0.Min, .int .i64 p0.Max, .int .i64 p0.Group, .int .u64 p0.Set.w0, .int .u64 p0.Set.w1, .int .u64 p0.Set.w2, .int .u64 p0.Set.w3]).bind fun x4 => some (!x4)) : Option (Bool)).bind fun x3 => iteB x3 (some false) ((iteB (p0.Kind == (2 : Int)) (some true) (some (p0.Kind == (3 : Int))) : Option ((Bool))).bind fun x5 => iteB x5 ((M_tree_may_1_sIP p0.A p1).bind fun x6 => (iteB x6 ((M_tree_may_1_sIP p0.B p1).bind fun x8 => some x8) (some false) : Option (Bool)).bind fun x7 => some x7) (iteB (p0.Kind == (4 : Int)) ((M_tree_may_1_sIP p0.A p1).bind fun x9 => some (((x9 && (decide (p0.Min ≥ (0 : Int)))) && (decide (p0.Min ≤ (255 : Int)))) && ((p0.Max == (-1 : Int)) || ((decide (p0.Max ≥ p0.Min)) && (decide (p0.Max ≤ (255 : Int))))))) (iteB (p0.Kind == (5 : Int)) ((M_tree_may_1_sIP p0.A p1).bind fun x10 => some ((x10 && (decide (p0.Group ≥ (1 : Int)))) && (decide (p0.Group ≤ (1024 : Int))))) (some true))))
theorem ok_tree_may {g : Gd} {h : AHeap} {F : List Ck} {p0 : S_tree_Node} {p1 : Int} {q0 : Bool} {av : List AVal} (hm : M_tree_may p0 p1 = some q0) (hc : canL (cfg.still 59) av = [.agg (e_S_tree_Node p0), .int .i64 p1]) (A : HH g h [] F) : ∃ v h', Runs cfg g h 59 av v h' ∧ v = .bool q0 ∧ HH g h' [] F := by
  refine runsQ1 (n := 85) (rs := [.tmp 4]) (by kernel_rfl) hc (by kernel_rfl) ?_
  clear hc
  unfold M_tree_may at hm
  refine start (n := 85) [(0, .agg (e_S_tree_Node p0)), (1, .int .i64 p1)] (by kernel_rfl) (by kernel_rfl) ?_
  intro fr H
  refine aw_seq (by kernel_rfl) ?_
  refine aw_reg (id := 0) (n := 3) [(0, []), (1, []), (2, [])] (by kernel_rfl) (by kernel_rfl) ?_
  obtain ⟨h1, e1⟩ : ∃ x, x = h.push (.cells none 2 (e_S_tree_Node p0)) := ⟨_, rfl⟩
  replace A := (A.push _).to e1
  refine at_step (v := .ptr (some (h.size, 0))) (h1 := h1) [(1, .int .i64 p1), (2, .ptr (some (h.size, 0)))] H (fun fr => by kernel_rfl) (fun fr => .of (s_n' (by kernel_rfl) (congrArg some e1.symm))) ?_
  intro fr t H
  obtain ⟨h2, e2⟩ : ∃ x, x = h1.push (.cells none 2 [.int .i64 p1]) := ⟨_, rfl⟩
  replace A := (A.push _).to e2
  refine at_step (v := .ptr (some (h1.size, 0))) (h1 := h2) [(2, .ptr (some (h.size, 0))), (3, .ptr (some (h1.size, 0)))] H (fun fr => by kernel_rfl) (fun fr => .of (s_n' (by kernel_rfl) (congrArg some e2.symm))) ?_
  intro fr t H
  refine at_seg [(2, [])] [(2, .ptr (some (h.size, 0))), (3, .ptr (some (h1.size, 0)))] H (noU_all rfl) (fun fr => by kernel_rfl) ?_
  intro fr H
  refine at_nil ?_
  show AW cfg 59 g (right (bodyC cfg.P 59)) fr h2 _
  refine aw_seq (by kernel_rfl) ?_
  refine aw_seq (by kernel_rfl) ?_
  refine aw_reg (id := 1) (n := 8) [(0, []), (1, []), (2, []), (3, []), (4, []), (5, []), (6, []), (7, [])] (by kernel_rfl) (by kernel_rfl) ?_
  refine at_step (v := .agg (e_S_tree_Node p0)) (h1 := h2) [(2, .ptr (some (h.size, 0))), (3, .ptr (some (h1.size, 0))), (9, .agg (e_S_tree_Node p0))] H (fun fr => by kernel_rfl) (fun fr => .of (s_ldA (by kernel_rfl) (A.ldA 1 rfl (o := 0) (n := 10) ⟨Nat.le_of_ble_eq_true rfl, rfl⟩))) ?_
  intro fr t H
  have A1 := A.cut 0
  obtain ⟨⟨x1, x2⟩, hx, hm⟩ := bind_some hm
  obtain ⟨v1, h3, hr, rfl, A1⟩ := ok_tree_bare (av := [.agg (e_S_tree_Node p0)]) hx (by kernel_rfl) A1
  replace A : HH g h3 [.obj h1.size (.cells none 2 [.int .i64 p1]), .obj h.size (.cells none 2 (e_S_tree_Node p0))] F := A.glue0 (n := 0) A1
  refine at_step (v := .tuple [.agg (e_S_tree_Node x1), .bool x2]) (h1 := h3) [(2, .ptr (some (h.size, 0))), (3, .ptr (some (h1.size, 0))), (10, .tuple [.agg (e_S_tree_Node x1), .bool x2])] H (fun fr => by kernel_rfl) (fun fr => Steps.call (by kernel_rfl) hr) ?_
  intro fr t H
  refine at_seg [(2, []), (3, []), (4, [])] [(2, .ptr (some (h.size, 0))), (3, .ptr (some (h1.size, 0))), (11, .agg (e_S_tree_Node x1)), (12, .bool x2)] H (noU_all rfl) (fun fr => by kernel_rfl) ?_
  intro fr H
  obtain ⟨h4, e3⟩ : ∃ x, x = h3.push (.cells none 2 [.int .i64 (0 : Int), .int .i64 (0 : Int), .int .i64 (0 : Int), .int .i64 (0 : Int), .int .i64 (0 : Int), .int .i64 (0 : Int), .int .u64 (0 : Int), .int .u64 (0 : Int), .int .u64 (0 : Int), .int .u64 (0 : Int)]) := ⟨_, rfl⟩
  replace A := (A.push _).to e3
  refine at_step (v := .ptr (some (h3.size, 0))) (h1 := h4) [(2, .ptr (some (h.size, 0))), (3, .ptr (some (h1.size, 0))), (5, .ptr (some (h3.size, 0))), (11, .agg (e_S_tree_Node x1)), (12, .bool x2)] H (fun fr => by kernel_rfl) (fun fr => .of (s_n' (by kernel_rfl) (congrArg some e3.symm))) ?_
  intro fr t H
  obtain ⟨h5, hx, A1⟩ := A.st 0 rfl (o := 0) (new := [.int .i64 x1.Kind, .int .i64 x1.A, .int .i64 x1.B, .int .i64 x1.Min, .int .i64 x1.Max, .int .i64 x1.Group, .int .u64 x1.Set.w0, .int .u64 x1.Set.w1, .int .u64 x1.Set.w2, .int .u64 x1.Set.w3]) (ds := [.int .i64 x1.Kind, .int .i64 x1.A, .int .i64 x1.B, .int .i64 x1.Min, .int .i64 x1.Max, .int .i64 x1.Group, .int .u64 x1.Set.w0, .int .u64 x1.Set.w1, .int .u64 x1.Set.w2, .int .u64 x1.Set.w3]) (Nat.le_of_ble_eq_true rfl) rfl rfl
  replace A : HH g h5 [.obj h3.size (.cells none 2 (e_S_tree_Node x1)), .obj h1.size (.cells none 2 [.int .i64 p1]), .obj h.size (.cells none 2 (e_S_tree_Node p0))] F := A1
  refine at_step (v := .tuple []) (h1 := h5) [(2, .ptr (some (h.size, 0))), (3, .ptr (some (h1.size, 0))), (5, .ptr (some (h3.size, 0))), (12, .bool x2)] H (fun fr => by kernel_rfl) (fun fr => .of (s_stG (by kernel_rfl) (stG_st hx rfl))) ?_
  intro fr t H
  refine at_seg [(7, [])] [(2, .ptr (some (h.size, 0))), (3, .ptr (some (h1.size, 0))), (5, .ptr (some (h3.size, 0))), (6, .bool x2)] H (noU_all rfl) (fun fr => by kernel_rfl) ?_
  intro fr H
  refine at_nil ?_
  show AW cfg 59 g (right (left (right (bodyC cfg.P 59)))) fr h5 _
  refine aw_seq (by kernel_rfl) ?_
  refine aw_reg (id := 2) (n := 7) [(0, []), (1, []), (2, []), (3, []), (4, []), (5, []), (6, [])] (by kernel_rfl) (by kernel_rfl) ?_
  refine at_seg [(0, []), (1, []), (2, [])] [(2, .ptr (some (h.size, 0))), (3, .ptr (some (h1.size, 0))), (5, .ptr (some (h3.size, 0))), (15, .bool (!x2))] H (noU_all rfl) (fun fr => by kernel_rfl) ?_
  intro fr H
  obtain ⟨x3, ho, hm⟩ := bind_some hm
  refine at_cut [(3, []), (4, []), (5, []), (6, [])] (fun fr' h' => Has fr' 85 [(2, .ptr (some (h.size, 0))), (3, .ptr (some (h1.size, 0))), (19, .bool x3)] ∧ HH g h' [.obj h3.size (.cells none 2 (e_S_tree_Node x1)), .obj h1.size (.cells none 2 [.int .i64 p1]), .obj h.size (.cells none 2 (e_S_tree_Node p0))] F) ?_ ?_
  · rcases iteB_some ho with ⟨hb, hm⟩ | ⟨hb, hm⟩
    · replace H := H.know 15 hb (by kernel_rfl)
      refine at_seg [(3, []), (4, []), (5, []), (6, [])] [(2, .ptr (some (h.size, 0))), (3, .ptr (some (h1.size, 0))), (19, .bool true)] H (noU_all rfl) (fun fr => by kernel_rfl) ?_
      intro fr H
      have e1 := Option.some.inj hm
      subst e1
      exact at_nil ⟨H.less _ (fun fr => by kernel_rfl), A⟩
    · replace H := H.know 15 hb (by kernel_rfl)
      refine at_step (v := .agg (e_S_tree_Node x1)) (h1 := h5) [(2, .ptr (some (h.size, 0))), (3, .ptr (some (h1.size, 0))), (15, .bool false), (16, .agg (e_S_tree_Node x1))] H (fun fr => by kernel_rfl) (fun fr => .of (s_ldA (by kernel_rfl) (A.ldA 0 rfl (o := 0) (n := 10) ⟨Nat.le_of_ble_eq_true rfl, rfl⟩))) ?_
      intro fr t H
      refine at_step (v := .agg (e_S_tree_Node p0)) (h1 := h5) [(2, .ptr (some (h.size, 0))), (3, .ptr (some (h1.size, 0))), (15, .bool false), (16, .agg (e_S_tree_Node x1)), (17, .agg (e_S_tree_Node p0))] H (fun fr => by kernel_rfl) (fun fr => .of (s_ldA (by kernel_rfl) (A.ldA 2 rfl (o := 0) (n := 10) ⟨Nat.le_of_ble_eq_true rfl, rfl⟩))) ?_
      intro fr t H
      obtain ⟨x4, hx, hm⟩ := bind_some hm
      refine at_step (v := .bool (!x4)) (h1 := h5) [(2, .ptr (some (h.size, 0))), (3, .ptr (some (h1.size, 0))), (15, .bool false), (18, .bool (!x4))] H (fun fr => by kernel_rfl) (fun fr => .of (s_neG (by kernel_rfl) hx)) ?_
      intro fr t H
      refine at_seg [(6, [])] [(2, .ptr (some (h.size, 0))), (3, .ptr (some (h1.size, 0))), (19, .bool (!x4))] H (noU_all rfl) (fun fr => by kernel_rfl) ?_
      intro fr H
      have e1 := Option.some.inj hm
      subst e1
      exact at_nil ⟨H.less _ (fun fr => by kernel_rfl), A⟩
  · clear A
    intro t fr h6 hK
    obtain ⟨H, A⟩ := hK
    refine at_nil ?_
    show AW cfg 59 g (right (right (left (right (bodyC cfg.P 59))))) fr h6 _
    rcases iteB_some hm with ⟨hb, hm⟩ | ⟨hb, hm⟩
    · replace H := H.know 19 hb (by kernel_rfl)
      refine aw_true (x := .tmp 19) (by kernel_rfl) H (fun fr => by kernel_rfl) ?_
      refine aw_seq (by kernel_rfl) ?_
      refine aw_reg (id := 3) (n := 1) [(0, [])] (by kernel_rfl) (by kernel_rfl) ?_
      refine at_seg [(0, [])] [(4, .bool false)] H (noU_all rfl) (fun fr => by kernel_rfl) ?_
      intro fr H
      refine at_nil ?_
      show AW cfg 59 g (right (left (right (right (left (right (bodyC cfg.P 59))))))) fr h6 _
      refine aw_ret (by kernel_rfl) ?_
      have e1 := Option.some.inj hm
      subst e1
      refine ⟨.inl rfl, .bool false, resH H (fun fr => by kernel_rfl), ?_⟩
      replace A : HH g h6 [] F := (HH.dropF A 0)
      exact ⟨rfl, A⟩
    · replace H := H.know 19 hb (by kernel_rfl)
      refine aw_false (x := .tmp 19) (by kernel_rfl) H (fun fr => by kernel_rfl) ?_
      refine aw_skip (by kernel_rfl) ?_
      show AW cfg 59 g (right (right (bodyC cfg.P 59))) fr h6 _
      refine aw_seq (by kernel_rfl) ?_
      refine aw_reg (id := 4) (n := 2) [(0, []), (1, [])] (by kernel_rfl) (by kernel_rfl) ?_
      refine at_seg [(0, []), (1, [])] [(2, .ptr (some (h.size, 0))), (7, .func (.func 80) [] [.ptr (some (h1.size, 0))])] H (noU_all rfl) (fun fr => by kernel_rfl) ?_
      intro fr H
      refine at_nil ?_
      show AW cfg 59 g (right (right (right (bodyC cfg.P 59)))) fr h6 _
      refine aw_seq (by kernel_rfl) ?_
      refine aw_seq (by kernel_rfl) ?_
      refine aw_reg (id := 5) (n := 2) [(0, []), (1, [])] (by kernel_rfl) (by kernel_rfl) ?_
      refine at_seg [(0, [])] [(2, .ptr (some (h.size, 0))), (7, .func (.func 80) [] [.ptr (some (h1.size, 0))]), (21, .ptr (some (h.size, 0)))] H (noU_all rfl) (fun fr => by kernel_rfl) ?_
      intro fr H
      refine at_step (v := .int .i64 p0.Kind) (h1 := h6) [(2, .ptr (some (h.size, 0))), (7, .func (.func 80) [] [.ptr (some (h1.size, 0))]), (22, .int .i64 p0.Kind)] H (fun fr => by kernel_rfl) (fun fr => .of (s_ld (by kernel_rfl) (A.ld1 2 rfl (o := 0) rfl))) ?_
      intro fr t H
      refine at_nil ?_
      show AW cfg 59 g (right (left (right (right (right (bodyC cfg.P 59)))))) fr h6 _
      refine aw_block (id := 0) (by kernel_rfl) ?_
      refine aw_seq (by kernel_rfl) ?_
      obtain ⟨o1, ho, hm⟩ := bind_some hm
      refine aw_mono (Q' := fun e fr' h' => (∃ (x5 : Bool), e = .normal ∧ x5 = o1 ∧ Has fr' 85 [(2, .ptr (some (h.size, 0))), (7, .func (.func 80) [] [.ptr (some (h1.size, 0))]), (22, .int .i64 p0.Kind), (23, .bool x5)] ∧ HH g h' [.obj h3.size (.cells none 2 (e_S_tree_Node x1)), .obj h1.size (.cells none 2 [.int .i64 p1]), .obj h.size (.cells none 2 (e_S_tree_Node p0))] F) ∨ False) ?_ ?_
      · replace hm := ho
        clear ho
        refine aw_seq (by kernel_rfl) ?_
        refine aw_reg (id := 6) (n := 2) [(0, []), (1, [])] (by kernel_rfl) (by kernel_rfl) ?_
        refine at_seg [(0, []), (1, [])] [(2, .ptr (some (h.size, 0))), (7, .func (.func 80) [] [.ptr (some (h1.size, 0))]), (22, .int .i64 p0.Kind), (23, .bool (p0.Kind == (2 : Int)))] H (noU_all rfl) (fun fr => by kernel_rfl) ?_
        intro fr H
        refine at_nil ?_
        show AW cfg 59 g (right (left (left (right (left (right (right (right (bodyC cfg.P 59))))))))) fr h6 _
        rcases iteB_some hm with ⟨hb, hm⟩ | ⟨hb, hm⟩
        · replace H := H.know 23 hb (by kernel_rfl)
          refine aw_true (x := .tmp 23) (by kernel_rfl) H (fun fr => by kernel_rfl) ?_
          refine aw_skip (by kernel_rfl) ?_
          exact Or.inl ⟨true, rfl, Option.some.inj hm, H.less _ (fun fr => by kernel_rfl), A⟩
        · replace H := H.know 23 hb (by kernel_rfl)
          refine aw_false (x := .tmp 23) (by kernel_rfl) H (fun fr => by kernel_rfl) ?_
          refine aw_reg (id := 7) (n := 2) [(0, []), (1, [])] (by kernel_rfl) (by kernel_rfl) ?_
          refine at_seg [(0, []), (1, [])] [(2, .ptr (some (h.size, 0))), (7, .func (.func 80) [] [.ptr (some (h1.size, 0))]), (22, .int .i64 p0.Kind), (23, .bool (p0.Kind == (3 : Int)))] H (noU_all rfl) (fun fr => by kernel_rfl) ?_
          intro fr H
          refine at_nil ?_
          exact Or.inl ⟨p0.Kind == (3 : Int), rfl, Option.some.inj hm, H.less _ (fun fr => by kernel_rfl), A⟩
      · clear ho
        clear A
        intro e fr h7 hQ
        rcases hQ with ⟨x5, rfl, rfl, H, A⟩ | hF
        · skip
          show AW cfg 59 g (right (left (right (left (right (right (right (bodyC cfg.P 59)))))))) fr h7 _
          rcases iteB_some hm with ⟨hb, hm⟩ | ⟨hb, hm⟩
          · replace H := H.know 23 hb (by kernel_rfl)
            refine aw_true (x := .tmp 23) (by kernel_rfl) H (fun fr => by kernel_rfl) ?_
            refine aw_seq (by kernel_rfl) ?_
            refine aw_reg (id := 8) (n := 11) [(0, []), (1, []), (2, []), (3, []), (4, []), (5, []), (6, []), (7, []), (8, []), (9, []), (10, [])] (by kernel_rfl) (by kernel_rfl) ?_
            refine at_seg [(0, []), (1, [])] [(2, .ptr (some (h.size, 0))), (7, .func (.func 80) [] [.ptr (some (h1.size, 0))]), (26, .func (.func 80) [] [.ptr (some (h1.size, 0))]), (27, .ptr (some (h.size, 1)))] H (noU_all rfl) (fun fr => by kernel_rfl) ?_
            intro fr H
            refine at_step (v := .int .i64 p0.A) (h1 := h7) [(2, .ptr (some (h.size, 0))), (7, .func (.func 80) [] [.ptr (some (h1.size, 0))]), (26, .func (.func 80) [] [.ptr (some (h1.size, 0))]), (28, .int .i64 p0.A)] H (fun fr => by kernel_rfl) (fun fr => .of (s_ld (by kernel_rfl) (A.ld1 2 rfl (o := 1) rfl))) ?_
            intro fr t H
            replace A : HH g h7 [.obj h1.size (.cells none 2 [.int .i64 p1]), .obj h3.size (.cells none 2 (e_S_tree_Node x1)), .obj h.size (.cells none 2 (e_S_tree_Node p0))] F := (A.front 1 rfl)
            have A1 := A.cut 1
            obtain ⟨x6, hx, hm⟩ := bind_some hm
            obtain ⟨v1, h8, hr, rfl, A1⟩ := ok_tree_may_1_sIP (av := [.int .i64 p0.A, .ptr (some (h1.size, 0))]) hx (by kernel_rfl) A1
            replace A : HH g h8 [.obj h1.size (.cells none 2 [.int .i64 p1]), .obj h3.size (.cells none 2 (e_S_tree_Node x1)), .obj h.size (.cells none 2 (e_S_tree_Node p0))] F := A.glue0 (n := 1) A1
            refine at_step (v := .bool x6) (h1 := h8) [(2, .ptr (some (h.size, 0))), (7, .func (.func 80) [] [.ptr (some (h1.size, 0))]), (29, .bool x6)] H (fun fr => by kernel_rfl) (fun fr => Steps.call (by kernel_rfl) hr) ?_
            intro fr t H
            refine at_seg [(4, [])] [(2, .ptr (some (h.size, 0))), (7, .func (.func 80) [] [.ptr (some (h1.size, 0))]), (30, .bool x6)] H (noU_all rfl) (fun fr => by kernel_rfl) ?_
            intro fr H
            obtain ⟨x7, ho, hm⟩ := bind_some hm
            refine at_cut [(5, []), (6, []), (7, []), (8, []), (9, [])] (fun fr' h' => Has fr' 85 [(35, .bool x7)] ∧ HH g h' [.obj h1.size (.cells none 2 [.int .i64 p1]), .obj h3.size (.cells none 2 (e_S_tree_Node x1)), .obj h.size (.cells none 2 (e_S_tree_Node p0))] F) ?_ ?_
            · rcases iteB_some ho with ⟨hb, hm⟩ | ⟨hb, hm⟩
              · replace H := H.know 30 hb (by kernel_rfl)
                refine at_seg [(5, []), (6, [])] [(30, .bool true), (31, .func (.func 80) [] [.ptr (some (h1.size, 0))]), (32, .ptr (some (h.size, 2)))] H (noU_all rfl) (fun fr => by kernel_rfl) ?_
                intro fr H
                refine at_step (v := .int .i64 p0.B) (h1 := h8) [(30, .bool true), (31, .func (.func 80) [] [.ptr (some (h1.size, 0))]), (33, .int .i64 p0.B)] H (fun fr => by kernel_rfl) (fun fr => .of (s_ld (by kernel_rfl) (A.ld1 2 rfl (o := 2) rfl))) ?_
                intro fr t H
                have A1 := A.cut 1
                obtain ⟨x8, hx, hm⟩ := bind_some hm
                obtain ⟨v1, h10, hr, rfl, A1⟩ := ok_tree_may_1_sIP (av := [.int .i64 p0.B, .ptr (some (h1.size, 0))]) hx (by kernel_rfl) A1
                replace A : HH g h10 [.obj h1.size (.cells none 2 [.int .i64 p1]), .obj h3.size (.cells none 2 (e_S_tree_Node x1)), .obj h.size (.cells none 2 (e_S_tree_Node p0))] F := A.glue0 (n := 1) A1
                refine at_step (v := .bool x8) (h1 := h10) [(30, .bool true), (34, .bool x8)] H (fun fr => by kernel_rfl) (fun fr => Steps.call (by kernel_rfl) hr) ?_
                intro fr t H
                refine at_seg [(9, [])] [(35, .bool x8)] H (noU_all rfl) (fun fr => by kernel_rfl) ?_
                intro fr H
                have e1 := Option.some.inj hm
                subst e1
                exact at_nil ⟨H.less _ (fun fr => by kernel_rfl), A⟩
              · replace H := H.know 30 hb (by kernel_rfl)
                refine at_seg [(5, []), (6, []), (7, []), (8, []), (9, [])] [(35, .bool false)] H (noU_all rfl) (fun fr => by kernel_rfl) ?_
                intro fr H
                have e1 := Option.some.inj hm
                subst e1
                exact at_nil ⟨H.less _ (fun fr => by kernel_rfl), A⟩
            · clear A
              intro t fr h9 hK
              obtain ⟨H, A⟩ := hK
              refine at_seg [(10, [])] [(4, .bool x7)] H (noU_all rfl) (fun fr => by kernel_rfl) ?_
              intro fr H
              refine at_nil ?_
              show AW cfg 59 g (right (left (right (left (right (left (right (right (right (bodyC cfg.P 59)))))))))) fr h9 _
              refine aw_ret (by kernel_rfl) ?_
              have e1 := Option.some.inj hm
              subst e1
              refine ⟨.inl rfl, .bool x7, resH H (fun fr => by kernel_rfl), ?_⟩
              replace A : HH g h9 [] F := (HH.dropF A 0)
              exact ⟨rfl, A⟩
          · replace H := H.know 23 hb (by kernel_rfl)
            refine aw_false (x := .tmp 23) (by kernel_rfl) H (fun fr => by kernel_rfl) ?_
            refine aw_seq (by kernel_rfl) ?_
            refine aw_reg (id := 9) (n := 2) [(0, []), (1, [])] (by kernel_rfl) (by kernel_rfl) ?_
            refine at_seg [(0, []), (1, [])] [(2, .ptr (some (h.size, 0))), (7, .func (.func 80) [] [.ptr (some (h1.size, 0))]), (22, .int .i64 p0.Kind), (36, .bool (p0.Kind == (4 : Int)))] H (noU_all rfl) (fun fr => by kernel_rfl) ?_
            intro fr H
            refine at_nil ?_
            show AW cfg 59 g (right (right (right (left (right (left (right (right (right (bodyC cfg.P 59)))))))))) fr h7 _
            rcases iteB_some hm with ⟨hb, hm⟩ | ⟨hb, hm⟩
            · replace H := H.know 36 hb (by kernel_rfl)
              refine aw_true (x := .tmp 36) (by kernel_rfl) H (fun fr => by kernel_rfl) ?_
              refine aw_seq (by kernel_rfl) ?_
              refine aw_reg (id := 10) (n := 32) [(0, []), (1, []), (2, []), (3, []), (4, []), (5, []), (6, []), (7, []), (8, []), (9, []), (10, []), (11, []), (12, []), (13, []), (14, []), (15, []), (16, []), (17, []), (18, []), (19, []), (20, []), (21, []), (22, []), (23, []), (24, []), (25, []), (26, []), (27, []), (28, []), (29, []), (30, []), (31, [])] (by kernel_rfl) (by kernel_rfl) ?_
              refine at_seg [(0, []), (1, [])] [(2, .ptr (some (h.size, 0))), (38, .func (.func 80) [] [.ptr (some (h1.size, 0))]), (39, .ptr (some (h.size, 1)))] H (noU_all rfl) (fun fr => by kernel_rfl) ?_
              intro fr H
              refine at_step (v := .int .i64 p0.A) (h1 := h7) [(2, .ptr (some (h.size, 0))), (38, .func (.func 80) [] [.ptr (some (h1.size, 0))]), (40, .int .i64 p0.A)] H (fun fr => by kernel_rfl) (fun fr => .of (s_ld (by kernel_rfl) (A.ld1 2 rfl (o := 1) rfl))) ?_
              intro fr t H
              replace A : HH g h7 [.obj h1.size (.cells none 2 [.int .i64 p1]), .obj h3.size (.cells none 2 (e_S_tree_Node x1)), .obj h.size (.cells none 2 (e_S_tree_Node p0))] F := (A.front 1 rfl)
              have A1 := A.cut 1
              obtain ⟨x9, hx, hm⟩ := bind_some hm
              obtain ⟨v1, h11, hr, rfl, A1⟩ := ok_tree_may_1_sIP (av := [.int .i64 p0.A, .ptr (some (h1.size, 0))]) hx (by kernel_rfl) A1
              replace A : HH g h11 [.obj h1.size (.cells none 2 [.int .i64 p1]), .obj h3.size (.cells none 2 (e_S_tree_Node x1)), .obj h.size (.cells none 2 (e_S_tree_Node p0))] F := A.glue0 (n := 1) A1
              refine at_step (v := .bool x9) (h1 := h11) [(2, .ptr (some (h.size, 0))), (41, .bool x9)] H (fun fr => by kernel_rfl) (fun fr => Steps.call (by kernel_rfl) hr) ?_
              intro fr t H
              refine at_seg [(4, [])] [(2, .ptr (some (h.size, 0))), (42, .bool x9)] H (noU_all rfl) (fun fr => by kernel_rfl) ?_
              intro fr H
              refine at_cut [(5, []), (6, []), (7, []), (8, [])] (fun fr' h' => h11 = h' ∧ Has fr' 85 [(2, .ptr (some (h.size, 0))), (46, .bool (x9 && (decide (p0.Min ≥ (0 : Int)))))]) ?_ ?_
              · cases hb : (x9 : Bool) with
                | true =>
                  replace H := H.know 42 hb (by kernel_rfl)
                  refine at_seg [(5, [])] [(2, .ptr (some (h.size, 0))), (42, .bool true), (43, .ptr (some (h.size, 3)))] H (noU_all rfl) (fun fr => by kernel_rfl) ?_
                  intro fr H
                  refine at_step (v := .int .i64 p0.Min) (h1 := h11) [(2, .ptr (some (h.size, 0))), (42, .bool true), (44, .int .i64 p0.Min)] H (fun fr => by kernel_rfl) (fun fr => .of (s_ld (by kernel_rfl) (A.ld1 2 rfl (o := 3) rfl))) ?_
                  intro fr t H
                  refine at_seg [(7, []), (8, [])] [(2, .ptr (some (h.size, 0))), (46, .bool (decide (p0.Min ≥ (0 : Int))))] H (noU_all rfl) (fun fr => by kernel_rfl) ?_
                  intro fr H
                  exact at_nil ⟨rfl, by first | exact H.less _ (fun fr => by rfl) | exact H.less _ (fun fr => by rw [hb]; rfl)⟩
                | false =>
                  replace H := H.know 42 hb (by kernel_rfl)
                  refine at_seg [(5, []), (6, []), (7, []), (8, [])] [(2, .ptr (some (h.size, 0))), (46, .bool false)] H (noU_all rfl) (fun fr => by kernel_rfl) ?_
                  intro fr H
                  exact at_nil ⟨rfl, by first | exact H.less _ (fun fr => by rfl) | exact H.less _ (fun fr => by rw [hb]; rfl)⟩
              · intro t fr h' hK
                obtain ⟨e, H⟩ := hK
                subst e
                refine at_seg [(9, [])] [(2, .ptr (some (h.size, 0))), (47, .bool (x9 && (decide (p0.Min ≥ (0 : Int)))))] H (noU_all rfl) (fun fr => by kernel_rfl) ?_
                intro fr H
                refine at_cut [(10, []), (11, []), (12, []), (13, [])] (fun fr' h' => h11 = h' ∧ Has fr' 85 [(2, .ptr (some (h.size, 0))), (51, .bool ((x9 && (decide (p0.Min ≥ (0 : Int)))) && (decide (p0.Min ≤ (255 : Int)))))]) ?_ ?_
                · cases hb : (x9 && (decide (p0.Min ≥ (0 : Int))) : Bool) with
                  | true =>
                    replace H := H.know 47 hb (by kernel_rfl)
                    refine at_seg [(10, [])] [(2, .ptr (some (h.size, 0))), (47, .bool true), (48, .ptr (some (h.size, 3)))] H (noU_all rfl) (fun fr => by kernel_rfl) ?_
                    intro fr H
                    refine at_step (v := .int .i64 p0.Min) (h1 := h11) [(2, .ptr (some (h.size, 0))), (47, .bool true), (49, .int .i64 p0.Min)] H (fun fr => by kernel_rfl) (fun fr => .of (s_ld (by kernel_rfl) (A.ld1 2 rfl (o := 3) rfl))) ?_
                    intro fr t H
                    refine at_seg [(12, []), (13, [])] [(2, .ptr (some (h.size, 0))), (51, .bool (decide (p0.Min ≤ (255 : Int))))] H (noU_all rfl) (fun fr => by kernel_rfl) ?_
                    intro fr H
                    exact at_nil ⟨rfl, by first | exact H.less _ (fun fr => by rfl) | exact H.less _ (fun fr => by rw [hb]; rfl)⟩
                  | false =>
                    replace H := H.know 47 hb (by kernel_rfl)
                    refine at_seg [(10, []), (11, []), (12, []), (13, [])] [(2, .ptr (some (h.size, 0))), (51, .bool false)] H (noU_all rfl) (fun fr => by kernel_rfl) ?_
                    intro fr H
                    exact at_nil ⟨rfl, by first | exact H.less _ (fun fr => by rfl) | exact H.less _ (fun fr => by rw [hb]; rfl)⟩
                · intro t fr h' hK
                  obtain ⟨e, H⟩ := hK
                  subst e
                  refine at_seg [(14, [])] [(2, .ptr (some (h.size, 0))), (52, .bool ((x9 && (decide (p0.Min ≥ (0 : Int)))) && (decide (p0.Min ≤ (255 : Int)))))] H (noU_all rfl) (fun fr => by kernel_rfl) ?_
                  intro fr H
                  refine at_cut [(15, []), (16, []), (17, []), (18, []), (19, []), (20, []), (21, []), (22, []), (23, []), (24, []), (25, []), (26, []), (27, []), (28, []), (29, []), (30, [])] (fun fr' h' => h11 = h' ∧ Has fr' 85 [(68, .bool (((x9 && (decide (p0.Min ≥ (0 : Int)))) && (decide (p0.Min ≤ (255 : Int)))) && ((p0.Max == (-1 : Int)) || ((decide (p0.Max ≥ p0.Min)) && (decide (p0.Max ≤ (255 : Int)))))))]) ?_ ?_
                  · cases hb : ((x9 && (decide (p0.Min ≥ (0 : Int)))) && (decide (p0.Min ≤ (255 : Int))) : Bool) with
                    | true =>
                      replace H := H.know 52 hb (by kernel_rfl)
                      refine at_seg [(15, [])] [(2, .ptr (some (h.size, 0))), (52, .bool true), (53, .ptr (some (h.size, 4)))] H (noU_all rfl) (fun fr => by kernel_rfl) ?_
                      intro fr H
                      refine at_step (v := .int .i64 p0.Max) (h1 := h11) [(2, .ptr (some (h.size, 0))), (52, .bool true), (54, .int .i64 p0.Max)] H (fun fr => by kernel_rfl) (fun fr => .of (s_ld (by kernel_rfl) (A.ld1 2 rfl (o := 4) rfl))) ?_
                      intro fr t H
                      refine at_seg [(17, []), (18, [])] [(2, .ptr (some (h.size, 0))), (52, .bool true), (56, .bool (p0.Max == (-1 : Int)))] H (noU_all rfl) (fun fr => by kernel_rfl) ?_
                      intro fr H
                      refine at_cut [(19, []), (20, []), (21, []), (22, []), (23, []), (24, []), (25, []), (26, []), (27, []), (28, []), (29, [])] (fun fr' h' => h11 = h' ∧ Has fr' 85 [(52, .bool true), (67, .bool ((p0.Max == (-1 : Int)) || ((decide (p0.Max ≥ p0.Min)) && (decide (p0.Max ≤ (255 : Int))))))]) ?_ ?_
                      · cases hb : (p0.Max == (-1 : Int) : Bool) with
                        | true =>
                          replace H := H.know 56 hb (by kernel_rfl)
                          refine at_seg [(19, []), (20, []), (21, []), (22, []), (23, []), (24, []), (25, []), (26, []), (27, []), (28, []), (29, [])] [(52, .bool true), (67, .bool true)] H (noU_all rfl) (fun fr => by kernel_rfl) ?_
                          intro fr H
                          exact at_nil ⟨rfl, by first | exact H.less _ (fun fr => by rfl) | exact H.less _ (fun fr => by rw [hb]; rfl)⟩
                        | false =>
                          replace H := H.know 56 hb (by kernel_rfl)
                          refine at_seg [(19, [])] [(2, .ptr (some (h.size, 0))), (52, .bool true), (56, .bool false), (57, .ptr (some (h.size, 4)))] H (noU_all rfl) (fun fr => by kernel_rfl) ?_
                          intro fr H
                          refine at_step (v := .int .i64 p0.Max) (h1 := h11) [(2, .ptr (some (h.size, 0))), (52, .bool true), (56, .bool false), (58, .int .i64 p0.Max)] H (fun fr => by kernel_rfl) (fun fr => .of (s_ld (by kernel_rfl) (A.ld1 2 rfl (o := 4) rfl))) ?_
                          intro fr t H
                          refine at_seg [(21, [])] [(2, .ptr (some (h.size, 0))), (52, .bool true), (56, .bool false), (58, .int .i64 p0.Max), (59, .ptr (some (h.size, 3)))] H (noU_all rfl) (fun fr => by kernel_rfl) ?_
                          intro fr H
                          refine at_step (v := .int .i64 p0.Min) (h1 := h11) [(2, .ptr (some (h.size, 0))), (52, .bool true), (56, .bool false), (58, .int .i64 p0.Max), (60, .int .i64 p0.Min)] H (fun fr => by kernel_rfl) (fun fr => .of (s_ld (by kernel_rfl) (A.ld1 2 rfl (o := 3) rfl))) ?_
                          intro fr t H
                          refine at_seg [(23, []), (24, [])] [(2, .ptr (some (h.size, 0))), (52, .bool true), (56, .bool false), (62, .bool (decide (p0.Max ≥ p0.Min)))] H (noU_all rfl) (fun fr => by kernel_rfl) ?_
                          intro fr H
                          refine at_cut [(25, []), (26, []), (27, []), (28, [])] (fun fr' h' => h11 = h' ∧ Has fr' 85 [(52, .bool true), (56, .bool false), (66, .bool ((decide (p0.Max ≥ p0.Min)) && (decide (p0.Max ≤ (255 : Int)))))]) ?_ ?_
                          · cases hb : (decide (p0.Max ≥ p0.Min) : Bool) with
                            | true =>
                              replace H := H.know 62 hb (by kernel_rfl)
                              refine at_seg [(25, [])] [(52, .bool true), (56, .bool false), (62, .bool true), (63, .ptr (some (h.size, 4)))] H (noU_all rfl) (fun fr => by kernel_rfl) ?_
                              intro fr H
                              refine at_step (v := .int .i64 p0.Max) (h1 := h11) [(52, .bool true), (56, .bool false), (62, .bool true), (64, .int .i64 p0.Max)] H (fun fr => by kernel_rfl) (fun fr => .of (s_ld (by kernel_rfl) (A.ld1 2 rfl (o := 4) rfl))) ?_
                              intro fr t H
                              refine at_seg [(27, []), (28, [])] [(52, .bool true), (56, .bool false), (66, .bool (decide (p0.Max ≤ (255 : Int))))] H (noU_all rfl) (fun fr => by kernel_rfl) ?_
                              intro fr H
                              exact at_nil ⟨rfl, by first | exact H.less _ (fun fr => by rfl) | exact H.less _ (fun fr => by rw [hb]; rfl)⟩
                            | false =>
                              replace H := H.know 62 hb (by kernel_rfl)
                              refine at_seg [(25, []), (26, []), (27, []), (28, [])] [(52, .bool true), (56, .bool false), (66, .bool false)] H (noU_all rfl) (fun fr => by kernel_rfl) ?_
                              intro fr H
                              exact at_nil ⟨rfl, by first | exact H.less _ (fun fr => by rfl) | exact H.less _ (fun fr => by rw [hb]; rfl)⟩
                          · intro t fr h' hK
                            obtain ⟨e, H⟩ := hK
                            subst e
                            refine at_seg [(29, [])] [(52, .bool true), (67, .bool ((decide (p0.Max ≥ p0.Min)) && (decide (p0.Max ≤ (255 : Int)))))] H (noU_all rfl) (fun fr => by kernel_rfl) ?_
                            intro fr H
                            exact at_nil ⟨rfl, by first | exact H.less _ (fun fr => by rfl) | exact H.less _ (fun fr => by rw [hb]; rfl)⟩
                      · intro t fr h' hK
                        obtain ⟨e, H⟩ := hK
                        subst e
                        refine at_seg [(30, [])] [(68, .bool ((p0.Max == (-1 : Int)) || ((decide (p0.Max ≥ p0.Min)) && (decide (p0.Max ≤ (255 : Int))))))] H (noU_all rfl) (fun fr => by kernel_rfl) ?_
                        intro fr H
                        exact at_nil ⟨rfl, by first | exact H.less _ (fun fr => by rfl) | exact H.less _ (fun fr => by rw [hb]; rfl)⟩
                    | false =>
                      replace H := H.know 52 hb (by kernel_rfl)
                      refine at_seg [(15, []), (16, []), (17, []), (18, []), (19, []), (20, []), (21, []), (22, []), (23, []), (24, []), (25, []), (26, []), (27, []), (28, []), (29, []), (30, [])] [(68, .bool false)] H (noU_all rfl) (fun fr => by kernel_rfl) ?_
                      intro fr H
                      exact at_nil ⟨rfl, by first | exact H.less _ (fun fr => by rfl) | exact H.less _ (fun fr => by rw [hb]; rfl)⟩
                  · intro t fr h' hK
                    obtain ⟨e, H⟩ := hK
                    subst e
                    refine at_seg [(31, [])] [(4, .bool (((x9 && (decide (p0.Min ≥ (0 : Int)))) && (decide (p0.Min ≤ (255 : Int)))) && ((p0.Max == (-1 : Int)) || ((decide (p0.Max ≥ p0.Min)) && (decide (p0.Max ≤ (255 : Int)))))))] H (noU_all rfl) (fun fr => by kernel_rfl) ?_
                    intro fr H
                    refine at_nil ?_
                    show AW cfg 59 g (right (left (right (right (right (left (right (left (right (right (right (bodyC cfg.P 59)))))))))))) fr h11 _
                    refine aw_ret (by kernel_rfl) ?_
                    have e1 := Option.some.inj hm
                    subst e1
                    refine ⟨.inl rfl, .bool (((x9 && (decide (p0.Min ≥ (0 : Int)))) && (decide (p0.Min ≤ (255 : Int)))) && ((p0.Max == (-1 : Int)) || ((decide (p0.Max ≥ p0.Min)) && (decide (p0.Max ≤ (255 : Int)))))), resH H (fun fr => by kernel_rfl), ?_⟩
                    replace A : HH g h11 [] F := (HH.dropF A 0)
                    exact ⟨rfl, A⟩
            · replace H := H.know 36 hb (by kernel_rfl)
              refine aw_false (x := .tmp 36) (by kernel_rfl) H (fun fr => by kernel_rfl) ?_
              refine aw_seq (by kernel_rfl) ?_
              refine aw_reg (id := 11) (n := 2) [(0, []), (1, [])] (by kernel_rfl) (by kernel_rfl) ?_
              refine at_seg [(0, []), (1, [])] [(2, .ptr (some (h.size, 0))), (7, .func (.func 80) [] [.ptr (some (h1.size, 0))]), (69, .bool (p0.Kind == (5 : Int)))] H (noU_all rfl) (fun fr => by kernel_rfl) ?_
              intro fr H
              refine at_nil ?_
              show AW cfg 59 g (right (right (right (right (right (left (right (left (right (right (right (bodyC cfg.P 59)))))))))))) fr h7 _
              rcases iteB_some hm with ⟨hb, hm⟩ | ⟨hb, hm⟩
              · replace H := H.know 69 hb (by kernel_rfl)
                refine aw_true (x := .tmp 69) (by kernel_rfl) H (fun fr => by kernel_rfl) ?_
                refine aw_seq (by kernel_rfl) ?_
                refine aw_reg (id := 12) (n := 15) [(0, []), (1, []), (2, []), (3, []), (4, []), (5, []), (6, []), (7, []), (8, []), (9, []), (10, []), (11, []), (12, []), (13, []), (14, [])] (by kernel_rfl) (by kernel_rfl) ?_
                refine at_seg [(0, []), (1, [])] [(2, .ptr (some (h.size, 0))), (71, .func (.func 80) [] [.ptr (some (h1.size, 0))]), (72, .ptr (some (h.size, 1)))] H (noU_all rfl) (fun fr => by kernel_rfl) ?_
                intro fr H
                refine at_step (v := .int .i64 p0.A) (h1 := h7) [(2, .ptr (some (h.size, 0))), (71, .func (.func 80) [] [.ptr (some (h1.size, 0))]), (73, .int .i64 p0.A)] H (fun fr => by kernel_rfl) (fun fr => .of (s_ld (by kernel_rfl) (A.ld1 2 rfl (o := 1) rfl))) ?_
                intro fr t H
                replace A : HH g h7 [.obj h1.size (.cells none 2 [.int .i64 p1]), .obj h3.size (.cells none 2 (e_S_tree_Node x1)), .obj h.size (.cells none 2 (e_S_tree_Node p0))] F := (A.front 1 rfl)
                have A1 := A.cut 1
                obtain ⟨x10, hx, hm⟩ := bind_some hm
                obtain ⟨v1, h12, hr, rfl, A1⟩ := ok_tree_may_1_sIP (av := [.int .i64 p0.A, .ptr (some (h1.size, 0))]) hx (by kernel_rfl) A1
                replace A : HH g h12 [.obj h1.size (.cells none 2 [.int .i64 p1]), .obj h3.size (.cells none 2 (e_S_tree_Node x1)), .obj h.size (.cells none 2 (e_S_tree_Node p0))] F := A.glue0 (n := 1) A1
                refine at_step (v := .bool x10) (h1 := h12) [(2, .ptr (some (h.size, 0))), (74, .bool x10)] H (fun fr => by kernel_rfl) (fun fr => Steps.call (by kernel_rfl) hr) ?_
                intro fr t H
                refine at_seg [(4, [])] [(2, .ptr (some (h.size, 0))), (75, .bool x10)] H (noU_all rfl) (fun fr => by kernel_rfl) ?_
                intro fr H
                refine at_cut [(5, []), (6, []), (7, []), (8, [])] (fun fr' h' => h12 = h' ∧ Has fr' 85 [(2, .ptr (some (h.size, 0))), (79, .bool (x10 && (decide (p0.Group ≥ (1 : Int)))))]) ?_ ?_
                · cases hb : (x10 : Bool) with
                  | true =>
                    replace H := H.know 75 hb (by kernel_rfl)
                    refine at_seg [(5, [])] [(2, .ptr (some (h.size, 0))), (75, .bool true), (76, .ptr (some (h.size, 5)))] H (noU_all rfl) (fun fr => by kernel_rfl) ?_
                    intro fr H
                    refine at_step (v := .int .i64 p0.Group) (h1 := h12) [(2, .ptr (some (h.size, 0))), (75, .bool true), (77, .int .i64 p0.Group)] H (fun fr => by kernel_rfl) (fun fr => .of (s_ld (by kernel_rfl) (A.ld1 2 rfl (o := 5) rfl))) ?_
                    intro fr t H
                    refine at_seg [(7, []), (8, [])] [(2, .ptr (some (h.size, 0))), (79, .bool (decide (p0.Group ≥ (1 : Int))))] H (noU_all rfl) (fun fr => by kernel_rfl) ?_
                    intro fr H
                    exact at_nil ⟨rfl, by first | exact H.less _ (fun fr => by rfl) | exact H.less _ (fun fr => by rw [hb]; rfl)⟩
                  | false =>
                    replace H := H.know 75 hb (by kernel_rfl)
                    refine at_seg [(5, []), (6, []), (7, []), (8, [])] [(2, .ptr (some (h.size, 0))), (79, .bool false)] H (noU_all rfl) (fun fr => by kernel_rfl) ?_
                    intro fr H
                    exact at_nil ⟨rfl, by first | exact H.less _ (fun fr => by rfl) | exact H.less _ (fun fr => by rw [hb]; rfl)⟩
                · intro t fr h' hK
                  obtain ⟨e, H⟩ := hK
                  subst e
                  refine at_seg [(9, [])] [(2, .ptr (some (h.size, 0))), (80, .bool (x10 && (decide (p0.Group ≥ (1 : Int)))))] H (noU_all rfl) (fun fr => by kernel_rfl) ?_
                  intro fr H
                  refine at_cut [(10, []), (11, []), (12, []), (13, [])] (fun fr' h' => h12 = h' ∧ Has fr' 85 [(84, .bool ((x10 && (decide (p0.Group ≥ (1 : Int)))) && (decide (p0.Group ≤ (1024 : Int)))))]) ?_ ?_
                  · cases hb : (x10 && (decide (p0.Group ≥ (1 : Int))) : Bool) with
                    | true =>
                      replace H := H.know 80 hb (by kernel_rfl)
                      refine at_seg [(10, [])] [(80, .bool true), (81, .ptr (some (h.size, 5)))] H (noU_all rfl) (fun fr => by kernel_rfl) ?_
                      intro fr H
                      refine at_step (v := .int .i64 p0.Group) (h1 := h12) [(80, .bool true), (82, .int .i64 p0.Group)] H (fun fr => by kernel_rfl) (fun fr => .of (s_ld (by kernel_rfl) (A.ld1 2 rfl (o := 5) rfl))) ?_
                      intro fr t H
                      refine at_seg [(12, []), (13, [])] [(84, .bool (decide (p0.Group ≤ (1024 : Int))))] H (noU_all rfl) (fun fr => by kernel_rfl) ?_
                      intro fr H
                      exact at_nil ⟨rfl, by first | exact H.less _ (fun fr => by rfl) | exact H.less _ (fun fr => by rw [hb]; rfl)⟩
                    | false =>
                      replace H := H.know 80 hb (by kernel_rfl)
                      refine at_seg [(10, []), (11, []), (12, []), (13, [])] [(84, .bool false)] H (noU_all rfl) (fun fr => by kernel_rfl) ?_
                      intro fr H
                      exact at_nil ⟨rfl, by first | exact H.less _ (fun fr => by rfl) | exact H.less _ (fun fr => by rw [hb]; rfl)⟩
                  · intro t fr h' hK
                    obtain ⟨e, H⟩ := hK
                    subst e
                    refine at_seg [(14, [])] [(4, .bool ((x10 && (decide (p0.Group ≥ (1 : Int)))) && (decide (p0.Group ≤ (1024 : Int)))))] H (noU_all rfl) (fun fr => by kernel_rfl) ?_
                    intro fr H
                    refine at_nil ?_
                    show AW cfg 59 g (right (left (right (right (right (right (right (left (right (left (right (right (right (bodyC cfg.P 59)))))))))))))) fr h12 _
                    refine aw_ret (by kernel_rfl) ?_
                    have e1 := Option.some.inj hm
                    subst e1
                    refine ⟨.inl rfl, .bool ((x10 && (decide (p0.Group ≥ (1 : Int)))) && (decide (p0.Group ≤ (1024 : Int)))), resH H (fun fr => by kernel_rfl), ?_⟩
                    replace A : HH g h12 [] F := (HH.dropF A 0)
                    exact ⟨rfl, A⟩
              · replace H := H.know 69 hb (by kernel_rfl)
                refine aw_false (x := .tmp 69) (by kernel_rfl) H (fun fr => by kernel_rfl) ?_
                refine aw_skip (by kernel_rfl) ?_
                show AW cfg 59 g (right (right (right (right (bodyC cfg.P 59))))) fr h7 _
                refine aw_seq (by kernel_rfl) ?_
                refine aw_reg (id := 13) (n := 1) [(0, [])] (by kernel_rfl) (by kernel_rfl) ?_
                refine at_seg [(0, [])] [(4, .bool true)] H (noU_all rfl) (fun fr => by kernel_rfl) ?_
                intro fr H
                refine at_nil ?_
                show AW cfg 59 g (right (right (right (right (right (bodyC cfg.P 59)))))) fr h7 _
                refine aw_ret (by kernel_rfl) ?_
                have e1 := Option.some.inj hm
                subst e1
                refine ⟨.inl rfl, .bool true, resH H (fun fr => by kernel_rfl), ?_⟩
                replace A : HH g h7 [] F := (HH.dropF A 0)
                exact ⟨rfl, A⟩
        · exact hF.elim
/-! ### (boulter/tree.Tree).Right -/
noncomputable def M_tree_Tree_Right_L0 (p0 : S_tree_Tree) (s : Int) : Option ((Int) ⊕ ((Unit) ⊕ (Bool))) :=
  match s with
  | x1 => iteB (decide (x1 < (p0.Nodes.length : Int))) ((ixV p0.Nodes x1).bind fun x3 => (M_tree_may x3 x1).bind fun x4 => iteB (!x4) (some (.inr (.inr false))) (some (.inl (IntKind.i64.wrap (x1 + (1 : Int)))))) (some (.inr (.inl ())))
noncomputable def M_tree_Tree_Right (p0 : S_tree_Tree) : Option (Bool) :=
 iteB (((decide ((p0.Nodes.length : Int) > (1024 : Int))) || (decide (p0.Root < (0 : Int)))) || (decide (p0.Root ≥ (p0.Nodes.length : Int)))) (some false) ((loop (M_tree_Tree_Right_L0 p0) (0 : Int)).bind fun o1 => (match o1 with | .inl _ => some true | .inr x2 => some x2))
theorem ok_tree_Tree_Right {g : Gd} {h : AHeap} {F : List Ck} {p0 : S_tree_Tree} {q0 : Bool} {av : List AVal} (hm : M_tree_Tree_Right p0 = some q0) (hc : canL (cfg.still 39) av = [.agg [vs e_S_tree_Node p0.Nodes, .int .i64 p0.Root]]) (A : HH g h [] F) : ∃ v h', Runs cfg g h 39 av v h' ∧ v = .bool q0 ∧ HH g h' [] F := by
  refine runsQ1 (n := 35) (rs := [.tmp 2]) (by kernel_rfl) hc (by kernel_rfl) ?_
  clear hc
  unfold M_tree_Tree_Right at hm
  refine start (n := 35) [(0, .agg [vs e_S_tree_Node p0.Nodes, .int .i64 p0.Root])] (by kernel_rfl) (by kernel_rfl) ?_
  intro fr H
  refine aw_seq (by kernel_rfl) ?_
  refine aw_reg (id := 0) (n := 2) [(0, []), (1, [])] (by kernel_rfl) (by kernel_rfl) ?_
  obtain ⟨h1, e1⟩ : ∃ x, x = h.push (.cells none 2 [vs e_S_tree_Node p0.Nodes, .int .i64 p0.Root]) := ⟨_, rfl⟩
  replace A := (A.push _).to e1
  refine at_step (v := .ptr (some (h.size, 0))) (h1 := h1) [(1, .ptr (some (h.size, 0)))] H (fun fr => by kernel_rfl) (fun fr => .of (s_n' (by kernel_rfl) (congrArg some e1.symm))) ?_
  intro fr t H
  refine at_seg [(1, [])] [(1, .ptr (some (h.size, 0)))] H (noU_all rfl) (fun fr => by kernel_rfl) ?_
  intro fr H
  refine at_nil ?_
  show AW cfg 39 g (right (bodyC cfg.P 39)) fr h1 _
  refine aw_seq (by kernel_rfl) ?_
  refine aw_seq (by kernel_rfl) ?_
  refine aw_reg (id := 1) (n := 17) [(0, []), (1, []), (2, []), (3, []), (4, []), (5, []), (6, []), (7, []), (8, []), (9, []), (10, []), (11, []), (12, []), (13, []), (14, []), (15, []), (16, [])] (by kernel_rfl) (by kernel_rfl) ?_
  refine at_seg [(0, [])] [(1, .ptr (some (h.size, 0))), (5, .ptr (some (h.size, 0)))] H (noU_all rfl) (fun fr => by kernel_rfl) ?_
  intro fr H
  refine at_step (v := vs e_S_tree_Node p0.Nodes) (h1 := h1) [(1, .ptr (some (h.size, 0))), (6, vs e_S_tree_Node p0.Nodes)] H (fun fr => by kernel_rfl) (fun fr => .of (s_ld (by kernel_rfl) (A.ld1 0 rfl (o := 0) rfl))) ?_
  intro fr t H
  refine at_seg [(2, []), (3, []), (4, [])] [(1, .ptr (some (h.size, 0))), (9, .bool (decide ((p0.Nodes.length : Int) > (1024 : Int))))] H (noU_all rfl) (fun fr => by kernel_rfl) ?_
  intro fr H
  refine at_cut [(5, []), (6, []), (7, []), (8, [])] (fun fr' h' => h1 = h' ∧ Has fr' 35 [(1, .ptr (some (h.size, 0))), (13, .bool ((decide ((p0.Nodes.length : Int) > (1024 : Int))) || (decide (p0.Root < (0 : Int)))))]) ?_ ?_
  · cases hb : (decide ((p0.Nodes.length : Int) > (1024 : Int)) : Bool) with
    | true =>
      replace H := H.know 9 hb (by kernel_rfl)
      refine at_seg [(5, []), (6, []), (7, []), (8, [])] [(1, .ptr (some (h.size, 0))), (13, .bool true)] H (noU_all rfl) (fun fr => by kernel_rfl) ?_
      intro fr H
      exact at_nil ⟨rfl, by first | exact H.less _ (fun fr => by rfl) | exact H.less _ (fun fr => by rw [hb]; rfl)⟩
    | false =>
      replace H := H.know 9 hb (by kernel_rfl)
      refine at_seg [(5, [])] [(1, .ptr (some (h.size, 0))), (9, .bool false), (10, .ptr (some (h.size, 1)))] H (noU_all rfl) (fun fr => by kernel_rfl) ?_
      intro fr H
      refine at_step (v := .int .i64 p0.Root) (h1 := h1) [(1, .ptr (some (h.size, 0))), (9, .bool false), (11, .int .i64 p0.Root)] H (fun fr => by kernel_rfl) (fun fr => .of (s_ld (by kernel_rfl) (A.ld1 0 rfl (o := 1) rfl))) ?_
      intro fr t H
      refine at_seg [(7, []), (8, [])] [(1, .ptr (some (h.size, 0))), (13, .bool (decide (p0.Root < (0 : Int))))] H (noU_all rfl) (fun fr => by kernel_rfl) ?_
      intro fr H
      exact at_nil ⟨rfl, by first | exact H.less _ (fun fr => by rfl) | exact H.less _ (fun fr => by rw [hb]; rfl)⟩
  · intro t fr h' hK
    obtain ⟨e, H⟩ := hK
    subst e
    refine at_seg [(9, [])] [(1, .ptr (some (h.size, 0))), (14, .bool ((decide ((p0.Nodes.length : Int) > (1024 : Int))) || (decide (p0.Root < (0 : Int)))))] H (noU_all rfl) (fun fr => by kernel_rfl) ?_
    intro fr H
    refine at_cut [(10, []), (11, []), (12, []), (13, []), (14, []), (15, []), (16, [])] (fun fr' h' => h1 = h' ∧ Has fr' 35 [(1, .ptr (some (h.size, 0))), (21, .bool (((decide ((p0.Nodes.length : Int) > (1024 : Int))) || (decide (p0.Root < (0 : Int)))) || (decide (p0.Root ≥ (p0.Nodes.length : Int)))))]) ?_ ?_
    · cases hb : ((decide ((p0.Nodes.length : Int) > (1024 : Int))) || (decide (p0.Root < (0 : Int))) : Bool) with
      | true =>
        replace H := H.know 14 hb (by kernel_rfl)
        refine at_seg [(10, []), (11, []), (12, []), (13, []), (14, []), (15, []), (16, [])] [(1, .ptr (some (h.size, 0))), (21, .bool true)] H (noU_all rfl) (fun fr => by kernel_rfl) ?_
        intro fr H
        exact at_nil ⟨rfl, by first | exact H.less _ (fun fr => by rfl) | exact H.less _ (fun fr => by rw [hb]; rfl)⟩
      | false =>
        replace H := H.know 14 hb (by kernel_rfl)
        refine at_seg [(10, [])] [(1, .ptr (some (h.size, 0))), (14, .bool false), (15, .ptr (some (h.size, 1)))] H (noU_all rfl) (fun fr => by kernel_rfl) ?_
        intro fr H
        refine at_step (v := .int .i64 p0.Root) (h1 := h1) [(1, .ptr (some (h.size, 0))), (14, .bool false), (16, .int .i64 p0.Root)] H (fun fr => by kernel_rfl) (fun fr => .of (s_ld (by kernel_rfl) (A.ld1 0 rfl (o := 1) rfl))) ?_
        intro fr t H
        refine at_seg [(12, [])] [(1, .ptr (some (h.size, 0))), (14, .bool false), (16, .int .i64 p0.Root), (17, .ptr (some (h.size, 0)))] H (noU_all rfl) (fun fr => by kernel_rfl) ?_
        intro fr H
        refine at_step (v := vs e_S_tree_Node p0.Nodes) (h1 := h1) [(1, .ptr (some (h.size, 0))), (14, .bool false), (16, .int .i64 p0.Root), (18, vs e_S_tree_Node p0.Nodes)] H (fun fr => by kernel_rfl) (fun fr => .of (s_ld (by kernel_rfl) (A.ld1 0 rfl (o := 0) rfl))) ?_
        intro fr t H
        refine at_seg [(14, []), (15, []), (16, [])] [(1, .ptr (some (h.size, 0))), (21, .bool (decide (p0.Root ≥ (p0.Nodes.length : Int))))] H (noU_all rfl) (fun fr => by kernel_rfl) ?_
        intro fr H
        exact at_nil ⟨rfl, by first | exact H.less _ (fun fr => by rfl) | exact H.less _ (fun fr => by rw [hb]; rfl)⟩
    · intro t fr h' hK
      obtain ⟨e, H⟩ := hK
      subst e
      refine at_nil ?_
      show AW cfg 39 g (right (left (right (bodyC cfg.P 39)))) fr h1 _
      rcases iteB_some hm with ⟨hb, hm⟩ | ⟨hb, hm⟩
      · replace H := H.know 21 hb (by kernel_rfl)
        refine aw_true (x := .tmp 21) (by kernel_rfl) H (fun fr => by kernel_rfl) ?_
        refine aw_seq (by kernel_rfl) ?_
        refine aw_reg (id := 2) (n := 1) [(0, [])] (by kernel_rfl) (by kernel_rfl) ?_
        refine at_seg [(0, [])] [(2, .bool false)] H (noU_all rfl) (fun fr => by kernel_rfl) ?_
        intro fr H
        refine at_nil ?_
        show AW cfg 39 g (right (left (right (left (right (bodyC cfg.P 39)))))) fr h1 _
        refine aw_ret (by kernel_rfl) ?_
        have e1 := Option.some.inj hm
        subst e1
        refine ⟨.inl rfl, .bool false, resH H (fun fr => by kernel_rfl), ?_⟩
        replace A : HH g h1 [] F := (HH.dropF A 0)
        exact ⟨rfl, A⟩
      · replace H := H.know 21 hb (by kernel_rfl)
        refine aw_false (x := .tmp 21) (by kernel_rfl) H (fun fr => by kernel_rfl) ?_
        refine aw_skip (by kernel_rfl) ?_
        show AW cfg 39 g (right (right (bodyC cfg.P 39))) fr h1 _
        refine aw_seq (by kernel_rfl) ?_
        refine aw_seq (by kernel_rfl) ?_
        refine aw_reg (id := 3) (n := 4) [(0, []), (1, []), (2, []), (3, [])] (by kernel_rfl) (by kernel_rfl) ?_
        refine at_seg [(0, [])] [(22, .ptr (some (h.size, 0)))] H (noU_all rfl) (fun fr => by kernel_rfl) ?_
        intro fr H
        refine at_step (v := vs e_S_tree_Node p0.Nodes) (h1 := h1) [(23, vs e_S_tree_Node p0.Nodes)] H (fun fr => by kernel_rfl) (fun fr => .of (s_ld (by kernel_rfl) (A.ld1 0 rfl (o := 0) rfl))) ?_
        intro fr t H
        refine at_seg [(2, []), (3, [])] [(23, vs e_S_tree_Node p0.Nodes), (24, .int .i64 (p0.Nodes.length : Int)), (25, .int .i64 (0 : Int))] H (noU_all rfl) (fun fr => by kernel_rfl) ?_
        intro fr H
        refine at_nil ?_
        show AW cfg 39 g (right (left (right (right (bodyC cfg.P 39))))) fr h1 _
        refine aw_block (id := 0) (by kernel_rfl) ?_
        obtain ⟨o1, ho, hm⟩ := bind_some hm
        refine aw_mono (Q' := fun e fr' h' => (e = .exit 0 ∧ .inl () = o1 ∧ Has fr' 35 [] ∧ HH g h' [.obj h.size (.cells none 2 [vs e_S_tree_Node p0.Nodes, .int .i64 p0.Root])] F) ∨ (∃ (x2 : Bool), e = .ret ∧ .inr x2 = o1 ∧ Has fr' 35 [(2, .bool x2)] ∧ HH g h' [.obj h.size (.cells none 2 [vs e_S_tree_Node p0.Nodes, .int .i64 p0.Root])] F) ∨ False) ?_ ?_
        · refine aw_loop (by kernel_rfl) (fun (s : Int) fr' h' => ∃ (x1 : Int), x1 = s ∧ Has fr' 35 [(23, vs e_S_tree_Node p0.Nodes), (24, .int .i64 (p0.Nodes.length : Int)), (25, .int .i64 x1)] ∧ HH g h' [.obj h.size (.cells none 2 [vs e_S_tree_Node p0.Nodes, .int .i64 p0.Root])] F) ho ⟨(0 : Int), rfl, H.less _ (fun fr => by kernel_rfl), A⟩ ?_
          clear ho hm H A
          intro s q fr h2 hI hm
          obtain ⟨x1, rfl, H, A⟩ := hI
          unfold M_tree_Tree_Right_L0 at hm
          refine aw_seq (by kernel_rfl) ?_
          refine aw_reg (id := 4) (n := 1) [(0, [])] (by kernel_rfl) (by kernel_rfl) ?_
          refine at_seg [(0, [])] [(23, vs e_S_tree_Node p0.Nodes), (24, .int .i64 (p0.Nodes.length : Int)), (25, .int .i64 x1), (26, .bool (decide (x1 < (p0.Nodes.length : Int))))] H (noU_all rfl) (fun fr => by kernel_rfl) ?_
          intro fr H
          refine at_nil ?_
          show AW cfg 39 g (right (left (left (right (left (right (right (bodyC cfg.P 39)))))))) fr h2 _
          refine aw_seq (by kernel_rfl) ?_
          rcases iteB_some hm with ⟨hb, hm⟩ | ⟨hb, hm⟩
          · replace H := H.know 26 hb (by kernel_rfl)
            refine aw_true (x := .tmp 26) (by kernel_rfl) H (fun fr => by kernel_rfl) ?_
            refine aw_skip (by kernel_rfl) ?_
            show AW cfg 39 g (right (right (left (left (right (left (right (right (bodyC cfg.P 39))))))))) fr h2 _
            refine aw_seq (by kernel_rfl) ?_
            refine aw_block (id := 1) (by kernel_rfl) ?_
            refine aw_seq (by kernel_rfl) ?_
            refine aw_reg (id := 5) (n := 6) [(0, []), (1, []), (2, []), (3, []), (4, []), (5, [])] (by kernel_rfl) (by kernel_rfl) ?_
            refine at_seg [(0, [])] [(23, vs e_S_tree_Node p0.Nodes), (24, .int .i64 (p0.Nodes.length : Int)), (25, .int .i64 x1), (27, .int .i64 x1)] H (noU_all rfl) (fun fr => by kernel_rfl) ?_
            intro fr H
            obtain ⟨x3, hx, hm⟩ := bind_some hm
            refine at_step (v := .vptr (e_S_tree_Node x3)) (h1 := h2) [(23, vs e_S_tree_Node p0.Nodes), (24, .int .i64 (p0.Nodes.length : Int)), (25, .int .i64 x1), (27, .int .i64 x1), (28, .vptr (e_S_tree_Node x3))] H (fun fr => by kernel_rfl) (fun fr => .of (s_ixV (e := e_S_tree_Node) (x := x3) enc_S_tree_Node (by decide) (by kernel_rfl) hx)) ?_
            intro fr t H
            refine at_step (v := .agg (e_S_tree_Node x3)) (h1 := h2) [(23, vs e_S_tree_Node p0.Nodes), (24, .int .i64 (p0.Nodes.length : Int)), (25, .int .i64 x1), (27, .int .i64 x1), (29, .agg (e_S_tree_Node x3))] H (fun fr => by kernel_rfl) (fun fr => .of (s_lv (by kernel_rfl))) ?_
            intro fr t H
            obtain ⟨h3, e2⟩ : ∃ x, x = h2.push (.cells none 2 [.int .i64 (0 : Int), .int .i64 (0 : Int), .int .i64 (0 : Int), .int .i64 (0 : Int), .int .i64 (0 : Int), .int .i64 (0 : Int), .int .u64 (0 : Int), .int .u64 (0 : Int), .int .u64 (0 : Int), .int .u64 (0 : Int)]) := ⟨_, rfl⟩
            replace A := (A.push _).to e2
            refine at_step (v := .ptr (some (h2.size, 0))) (h1 := h3) [(4, .ptr (some (h2.size, 0))), (23, vs e_S_tree_Node p0.Nodes), (24, .int .i64 (p0.Nodes.length : Int)), (25, .int .i64 x1), (27, .int .i64 x1), (29, .agg (e_S_tree_Node x3))] H (fun fr => by kernel_rfl) (fun fr => .of (s_n' (by kernel_rfl) (congrArg some e2.symm))) ?_
            intro fr t H
            refine at_seg [(4, [])] [(3, .int .i64 x1), (4, .ptr (some (h2.size, 0))), (23, vs e_S_tree_Node p0.Nodes), (24, .int .i64 (p0.Nodes.length : Int)), (25, .int .i64 x1), (29, .agg (e_S_tree_Node x3))] H (noU_all rfl) (fun fr => by kernel_rfl) ?_
            intro fr H
            obtain ⟨h4, hx, A1⟩ := A.st 0 rfl (o := 0) (new := [.int .i64 x3.Kind, .int .i64 x3.A, .int .i64 x3.B, .int .i64 x3.Min, .int .i64 x3.Max, .int .i64 x3.Group, .int .u64 x3.Set.w0, .int .u64 x3.Set.w1, .int .u64 x3.Set.w2, .int .u64 x3.Set.w3]) (ds := [.int .i64 x3.Kind, .int .i64 x3.A, .int .i64 x3.B, .int .i64 x3.Min, .int .i64 x3.Max, .int .i64 x3.Group, .int .u64 x3.Set.w0, .int .u64 x3.Set.w1, .int .u64 x3.Set.w2, .int .u64 x3.Set.w3]) (Nat.le_of_ble_eq_true rfl) rfl rfl
            replace A : HH g h4 [.obj h2.size (.cells none 2 (e_S_tree_Node x3)), .obj h.size (.cells none 2 [vs e_S_tree_Node p0.Nodes, .int .i64 p0.Root])] F := A1
            refine at_step (v := .tuple []) (h1 := h4) [(3, .int .i64 x1), (4, .ptr (some (h2.size, 0))), (23, vs e_S_tree_Node p0.Nodes), (24, .int .i64 (p0.Nodes.length : Int)), (25, .int .i64 x1)] H (fun fr => by kernel_rfl) (fun fr => .of (s_stG (by kernel_rfl) (stG_st hx rfl))) ?_
            intro fr t H
            refine at_nil ?_
            show AW cfg 39 g (right (left (left (right (right (left (left (right (left (right (right (bodyC cfg.P 39)))))))))))) fr h4 _
            refine aw_seq (by kernel_rfl) ?_
            refine aw_reg (id := 6) (n := 4) [(0, []), (1, []), (2, []), (3, [])] (by kernel_rfl) (by kernel_rfl) ?_
            refine at_step (v := .agg (e_S_tree_Node x3)) (h1 := h4) [(3, .int .i64 x1), (23, vs e_S_tree_Node p0.Nodes), (24, .int .i64 (p0.Nodes.length : Int)), (25, .int .i64 x1), (30, .agg (e_S_tree_Node x3))] H (fun fr => by kernel_rfl) (fun fr => .of (s_ldA (by kernel_rfl) (A.ldA 0 rfl (o := 0) (n := 10) ⟨Nat.le_of_ble_eq_true rfl, rfl⟩))) ?_
            intro fr t H
            refine at_seg [(1, [])] [(23, vs e_S_tree_Node p0.Nodes), (24, .int .i64 (p0.Nodes.length : Int)), (25, .int .i64 x1), (30, .agg (e_S_tree_Node x3)), (31, .int .i64 x1)] H (noU_all rfl) (fun fr => by kernel_rfl) ?_
            intro fr H
            have A1 := A.cut 0
            obtain ⟨x4, hx, hm⟩ := bind_some hm
            obtain ⟨v1, h5, hr, rfl, A1⟩ := ok_tree_may (av := [.agg (e_S_tree_Node x3), .int .i64 x1]) hx (by kernel_rfl) A1
            replace A : HH g h5 [.obj h2.size (.cells none 2 (e_S_tree_Node x3)), .obj h.size (.cells none 2 [vs e_S_tree_Node p0.Nodes, .int .i64 p0.Root])] F := A.glue0 (n := 0) A1
            refine at_step (v := .bool x4) (h1 := h5) [(23, vs e_S_tree_Node p0.Nodes), (24, .int .i64 (p0.Nodes.length : Int)), (25, .int .i64 x1), (32, .bool x4)] H (fun fr => by kernel_rfl) (fun fr => Steps.call (by kernel_rfl) hr) ?_
            intro fr t H
            refine at_seg [(3, [])] [(23, vs e_S_tree_Node p0.Nodes), (24, .int .i64 (p0.Nodes.length : Int)), (25, .int .i64 x1), (33, .bool (!x4))] H (noU_all rfl) (fun fr => by kernel_rfl) ?_
            intro fr H
            refine at_nil ?_
            show AW cfg 39 g (right (right (left (left (right (right (left (left (right (left (right (right (bodyC cfg.P 39))))))))))))) fr h5 _
            rcases iteB_some hm with ⟨hb, hm⟩ | ⟨hb, hm⟩
            · replace H := H.know 33 hb (by kernel_rfl)
              refine aw_true (x := .tmp 33) (by kernel_rfl) H (fun fr => by kernel_rfl) ?_
              refine aw_seq (by kernel_rfl) ?_
              refine aw_reg (id := 7) (n := 1) [(0, [])] (by kernel_rfl) (by kernel_rfl) ?_
              refine at_seg [(0, [])] [(2, .bool false)] H (noU_all rfl) (fun fr => by kernel_rfl) ?_
              intro fr H
              refine at_nil ?_
              show AW cfg 39 g (right (left (right (right (left (left (right (right (left (left (right (left (right (right (bodyC cfg.P 39))))))))))))))) fr h5 _
              refine aw_ret (by kernel_rfl) ?_
              replace A : HH g h5 [.obj h.size (.cells none 2 [vs e_S_tree_Node p0.Nodes, .int .i64 p0.Root])] F := (HH.dropF (A.front 1 rfl) 1)
              exact Exists.intro _ (And.intro (Option.some.inj hm).symm (fun e => Or.inr (Or.inl ⟨false, rfl, e, H.less _ (fun fr => by kernel_rfl), A⟩)))
            · replace H := H.know 33 hb (by kernel_rfl)
              refine aw_false (x := .tmp 33) (by kernel_rfl) H (fun fr => by kernel_rfl) ?_
              refine aw_skip (by kernel_rfl) ?_
              show AW cfg 39 g (right (right (right (left (left (right (left (right (right (bodyC cfg.P 39)))))))))) fr h5 _
              refine aw_reg (id := 8) (n := 2) [(0, []), (1, [])] (by kernel_rfl) (by kernel_rfl) ?_
              refine at_seg [(0, []), (1, [])] [(23, vs e_S_tree_Node p0.Nodes), (24, .int .i64 (p0.Nodes.length : Int)), (25, .int .i64 (IntKind.i64.wrap (x1 + (1 : Int))))] H (noU_all rfl) (fun fr => by kernel_rfl) ?_
              intro fr H
              refine at_nil ?_
              replace A : HH g h5 [.obj h.size (.cells none 2 [vs e_S_tree_Node p0.Nodes, .int .i64 p0.Root])] F := (HH.dropF (A.front 1 rfl) 1)
              exact Exists.intro (IntKind.i64.wrap (x1 + (1 : Int))) (And.intro (Option.some.inj hm).symm ⟨IntKind.i64.wrap (x1 + (1 : Int)), rfl, H.less _ (fun fr => by kernel_rfl), A⟩)
          · replace H := H.know 26 hb (by kernel_rfl)
            refine aw_false (x := .tmp 26) (by kernel_rfl) H (fun fr => by kernel_rfl) ?_
            refine aw_exit (i := 0) (by kernel_rfl) ?_
            exact Exists.intro _ (And.intro (Option.some.inj hm).symm (fun e => Or.inl ⟨rfl, e, H.less _ (fun fr => by kernel_rfl), A⟩))
        · clear ho
          clear A
          intro e fr h6 hQ
          rcases hQ with ⟨rfl, rfl, H, A⟩ | ⟨x2, rfl, rfl, H, A⟩ | hF
          · skip
            show AW cfg 39 g (right (right (right (bodyC cfg.P 39)))) fr h6 _
            refine aw_seq (by kernel_rfl) ?_
            refine aw_reg (id := 9) (n := 1) [(0, [])] (by kernel_rfl) (by kernel_rfl) ?_
            refine at_seg [(0, [])] [(2, .bool true)] H (noU_all rfl) (fun fr => by kernel_rfl) ?_
            intro fr H
            refine at_nil ?_
            show AW cfg 39 g (right (right (right (right (bodyC cfg.P 39))))) fr h6 _
            refine aw_ret (by kernel_rfl) ?_
            have e1 := Option.some.inj hm
            subst e1
            refine ⟨.inl rfl, .bool true, resH H (fun fr => by kernel_rfl), ?_⟩
            replace A : HH g h6 [] F := (HH.dropF A 0)
            exact ⟨rfl, A⟩
          · skip
            have e1 := Option.some.inj hm
            subst e1
            refine ⟨.inl rfl, .bool x2, resH H (fun fr => by kernel_rfl), ?_⟩
            replace A : HH g h6 [] F := (HH.dropF A 0)
            exact ⟨rfl, A⟩
          · exact hF.elim
end Go.Av.L
