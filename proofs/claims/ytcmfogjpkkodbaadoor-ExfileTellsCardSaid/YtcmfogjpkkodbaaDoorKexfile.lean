/-
  Models of functions of package exfile, and that the abstract run tells them. Written by lift2.py.
-/
import Derived.Test.YtcmfogjpkkodbaaDoorKCfg
import Derived.Test.YtcmfogjpkkodbaaDoorKstrings
import Derived.Test.YtcmfogjpkkodbaaDoorKstringsx1
namespace Go.Av.L
open Go.Av
set_option linter.unusedVariables false
set_option linter.unusedSimpArgs false
/-! ### boulter/exfile.Lines -/
noncomputable def M_exfile_Lines_Y0 (s : (List (List UInt8))) (v1 : (List UInt8)) : Option (((List (List UInt8))) ⊕ (Unit)) :=
  match s with
  | x2 => (M_strings_TrimSuffix v1 ([10] : List UInt8)).bind fun x3 => (iteB (x3 == ([] : List UInt8)) (some true) ((ixS x3 (0 : Int)).bind fun x5 => some (x5 == (35 : Int))) : Option (Bool)).bind fun x4 => iteB x4 (some (.inl x2)) (((M_strings_HasPrefix x3 ([92, 35] : List UInt8)).bind fun x7 => iteB x7 ((subS x3 (some (1 : Int)) none).bind fun x8 => some x8) (some x3) : Option (((List UInt8)))).bind fun x6 => need (okN 16 (x2.length + ([x6] : List (List UInt8)).length)) <| some (.inl (x2 ++ ([x6] : List (List UInt8)))))
noncomputable def M_exfile_Lines (p0 : List UInt8) : Option ((List (List UInt8))) :=
 (M_strings_Lines p0).bind fun x1_10 => (M_strings_Lines_1_s0 (M_exfile_Lines_Y0) (.inl ([] : List (List UInt8))) x1_10).bind fun (x9, y1) => (match y1 with | .inl x2 => some x2 | .inr _ => none)
theorem ok_exfile_Lines {g : Gd} {h : AHeap} {F : List Ck} {p0 : List UInt8} {q0 : List (List UInt8)} {av : List AVal} (hm : M_exfile_Lines p0 = some q0) (hc : canL (cfg.still 9) av = [.str p0]) (A : HH g h [] F) : ∃ v h', Runs cfg g h 9 av v h' ∧ ∃ (rq0 : Option Nat), v = rowV rq0 q0.length ∧ HH g h' [.lst rq0 9 (lst eS q0)] F := by
  refine runsQ1 (n := 26) (rs := [.tmp 2]) (by kernel_rfl) hc (by kernel_rfl) ?_
  clear hc
  unfold M_exfile_Lines at hm
  refine start (n := 26) [(0, .str p0)] (by kernel_rfl) (by kernel_rfl) ?_
  intro fr H
  refine aw_seq (by kernel_rfl) ?_
  refine aw_reg (id := 0) (n := 1) [(0, [])] (by kernel_rfl) (by kernel_rfl) ?_
  refine at_seg [(0, [])] [(0, .str p0)] H (noU_all rfl) (fun fr => by kernel_rfl) ?_
  intro fr H
  refine at_nil ?_
  show AW cfg 9 g (right (bodyC cfg.P 9)) fr h _
  refine aw_seq (by kernel_rfl) ?_
  refine aw_reg (id := 1) (n := 1) [(0, [])] (by kernel_rfl) (by kernel_rfl) ?_
  obtain ⟨h1, e1⟩ : ∃ x, x = h.push (.cells none 2 [.slice none 0]) := ⟨_, rfl⟩
  replace A := (A.push _).to e1
  refine at_step (v := .ptr (some (h.size, 0))) (h1 := h1) [(0, .str p0), (3, .ptr (some (h.size, 0)))] H (fun fr => by kernel_rfl) (fun fr => .of (s_n' (by kernel_rfl) (congrArg some e1.symm))) ?_
  intro fr t H
  refine at_nil ?_
  show AW cfg 9 g (right (right (bodyC cfg.P 9))) fr h1 _
  refine aw_seq (by kernel_rfl) ?_
  refine aw_seq (by kernel_rfl) ?_
  refine aw_reg (id := 2) (n := 2) [(0, []), (1, [])] (by kernel_rfl) (by kernel_rfl) ?_
  refine at_seg [(0, [])] [(3, .ptr (some (h.size, 0))), (5, .str p0)] H (noU_all rfl) (fun fr => by kernel_rfl) ?_
  intro fr H
  have A1 := A.cut 0
  obtain ⟨x1_10, hx, hm⟩ := bind_some hm
  obtain ⟨v1, h2, hr, bqw1_10, rfl, A1⟩ := ok_strings_Lines (av := [.str p0]) hx (by kernel_rfl) A1
  replace A : HH g h2 [.obj bqw1_10 (.cells none 2 [.str x1_10]), .obj h.size (.cells none 2 [.slice none 0])] F := A.glue0 (n := 0) A1
  refine at_step (v := .func (.func 47) [] [.ptr (some (bqw1_10, 0))]) (h1 := h2) [(3, .ptr (some (h.size, 0))), (6, .func (.func 47) [] [.ptr (some (bqw1_10, 0))])] H (fun fr => by kernel_rfl) (fun fr => Steps.call (by kernel_rfl) hr) ?_
  intro fr t H
  refine at_nil ?_
  show AW cfg 9 g (right (left (right (right (bodyC cfg.P 9))))) fr h2 _
  refine aw_block (id := 0) (by kernel_rfl) ?_
  replace A : HH g h2 [.lst none 9 (lst eS ([] : List (List UInt8))), .obj bqw1_10 (.cells none 2 [.str x1_10]), .obj h.size (.cells none 2 [.slice none 0])] F := A.nilL 9
  replace A : HH g h2 [.obj bqw1_10 (.cells none 2 [.str x1_10]), .lst none 9 (lst eS ([] : List (List UInt8))), .obj h.size (.cells none 2 [rowV none (([] : List (List UInt8)).length)])] F := (((A.front 2 rfl).front 1 rfl).front 2 rfl)
  obtain ⟨⟨x9, y1⟩, ho, hm⟩ := bind_some hm
  refine aw_range (C := cfg) (x := .tmp 6) (ps := [7]) (f' := 47) (first := []) (cap := [.ptr (some (bqw1_10, 0))]) (Lu := [.obj bqw1_10 (.cells none 2 [.str x1_10])]) (Lc := [.lst none 9 (lst eS ([] : List (List UInt8))), .obj h.size (.cells none 2 [rowV none (([] : List (List UInt8)).length)])]) (F := F) (ex := fun x => [.str x]) (Y := M_exfile_Lines_Y0) (PL := fun s Lc => ∃ (x2 : List (List UInt8)), x2 = s ∧ ∃ (r1 : Option Nat), Lc = [.lst r1 9 (lst eS x2), .obj h.size (.cells none 2 [rowV r1 x2.length])]) (PR := fun r Lc => False) (pe := fun _ => .ret) (s := ([] : List (List UInt8))) (y := y1) (PU := fun L => L = [.obj bqw1_10 (.cells none 2 [.str x9])]) (by kernel_rfl) H (fun fr => by kernel_rfl) (by kernel_rfl) (fun _ => rfl) (by kernel_rfl) A ⟨([] : List (List UInt8)), rfl, none, rfl⟩ ?_ ?_ ?_ ?_ ?_
  · refine range_body H (kn := fun v1 => [(3, .ptr (some (h.size, 0))), (7, .str v1)]) (fun v1 fr => by kernel_rfl) ?_
    clear ho hm A H
    intro g h3 F s v1 o Lc fr H hP hm A
    obtain ⟨x2, rfl, r1, rfl⟩ := hP
    unfold M_exfile_Lines_Y0 at hm
    show AW cfg 9 g (left (left (right (left (right (right (bodyC cfg.P 9))))))) fr h3 _
    refine aw_reg (id := 3) (n := 1) [(0, [])] (by kernel_rfl) (by kernel_rfl) ?_
    refine at_seg [(0, [])] [(3, .ptr (some (h.size, 0))), (4, .str v1)] H (noU_all rfl) (fun fr => by kernel_rfl) ?_
    intro fr H
    refine at_nil ?_
    refine ⟨rfl, _, A, ?_⟩
    clear A
    intro h4 F A
    show AW cfg 9 g (right (left (right (left (right (right (bodyC cfg.P 9))))))) fr h4 _
    refine aw_block (id := 1) (by kernel_rfl) ?_
    refine aw_seq (by kernel_rfl) ?_
    refine aw_reg (id := 4) (n := 3) [(0, []), (1, []), (2, [])] (by kernel_rfl) (by kernel_rfl) ?_
    refine at_seg [(0, [])] [(3, .ptr (some (h.size, 0))), (8, .str v1)] H (noU_all rfl) (fun fr => by kernel_rfl) ?_
    intro fr H
    have A1 := A.cut 0
    obtain ⟨x3, hx, hm⟩ := bind_some hm
    obtain ⟨v1, h5, hr, rfl, A1⟩ := ok_strings_TrimSuffix (av := [.str v1, .str ([10] : List UInt8)]) hx (by kernel_rfl) A1
    replace A : HH g h5 [.lst r1 9 (lst eS x2), .obj h.size (.cells none 2 [rowV r1 x2.length])] F := A.glue0 (n := 0) A1
    refine at_step (v := .str x3) (h1 := h5) [(3, .ptr (some (h.size, 0))), (9, .str x3)] H (fun fr => by kernel_rfl) (fun fr => Steps.call (by kernel_rfl) hr) ?_
    intro fr t H
    refine at_seg [(2, [])] [(3, .ptr (some (h.size, 0))), (4, .str x3)] H (noU_all rfl) (fun fr => by kernel_rfl) ?_
    intro fr H
    refine at_nil ?_
    show AW cfg 9 g (right (left (right (left (right (left (right (right (bodyC cfg.P 9))))))))) fr h5 _
    refine aw_seq (by kernel_rfl) ?_
    refine aw_seq (by kernel_rfl) ?_
    refine aw_reg (id := 5) (n := 7) [(0, []), (1, []), (2, []), (3, []), (4, []), (5, []), (6, [])] (by kernel_rfl) (by kernel_rfl) ?_
    refine at_seg [(0, []), (1, []), (2, [])] [(3, .ptr (some (h.size, 0))), (4, .str x3), (12, .bool (x3 == ([] : List UInt8)))] H (noU_all rfl) (fun fr => by kernel_rfl) ?_
    intro fr H
    obtain ⟨x4, ho, hm⟩ := bind_some hm
    refine at_cut [(3, []), (4, []), (5, []), (6, [])] (fun fr' h' => Has fr' 26 [(3, .ptr (some (h.size, 0))), (4, .str x3), (16, .bool x4)] ∧ HH g h' [.lst r1 9 (lst eS x2), .obj h.size (.cells none 2 [rowV r1 x2.length])] F) ?_ ?_
    · rcases iteB_some ho with ⟨hb, hm⟩ | ⟨hb, hm⟩
      · replace H := H.know 12 hb (by kernel_rfl)
        refine at_seg [(3, []), (4, []), (5, []), (6, [])] [(3, .ptr (some (h.size, 0))), (4, .str x3), (16, .bool true)] H (noU_all rfl) (fun fr => by kernel_rfl) ?_
        intro fr H
        have e1 := Option.some.inj hm
        subst e1
        exact at_nil ⟨H.less _ (fun fr => by kernel_rfl), A⟩
      · replace H := H.know 12 hb (by kernel_rfl)
        refine at_seg [(3, [])] [(3, .ptr (some (h.size, 0))), (4, .str x3), (12, .bool false), (13, .str x3)] H (noU_all rfl) (fun fr => by kernel_rfl) ?_
        intro fr H
        obtain ⟨x5, hx, hm⟩ := bind_some hm
        refine at_step (v := .int .u8 x5) (h1 := h5) [(3, .ptr (some (h.size, 0))), (4, .str x3), (12, .bool false), (14, .int .u8 x5)] H (fun fr => by kernel_rfl) (fun fr => .of (s_ixS (by kernel_rfl) hx)) ?_
        intro fr t H
        refine at_seg [(5, []), (6, [])] [(3, .ptr (some (h.size, 0))), (4, .str x3), (16, .bool (x5 == (35 : Int)))] H (noU_all rfl) (fun fr => by kernel_rfl) ?_
        intro fr H
        have e1 := Option.some.inj hm
        subst e1
        exact at_nil ⟨H.less _ (fun fr => by kernel_rfl), A⟩
    · clear A
      intro t fr h6 hK
      obtain ⟨H, A⟩ := hK
      refine at_nil ?_
      show AW cfg 9 g (right (left (right (left (right (left (right (left (right (right (bodyC cfg.P 9))))))))))) fr h6 _
      rcases iteB_some hm with ⟨hb, hm⟩ | ⟨hb, hm⟩
      · replace H := H.know 16 hb (by kernel_rfl)
        refine aw_true (x := .tmp 16) (by kernel_rfl) H (fun fr => by kernel_rfl) ?_
        refine aw_exit (i := 1) (by kernel_rfl) ?_
        have e1 := Option.some.inj hm
        subst e1
        exact ⟨rfl, _, ⟨x2, rfl, r1, rfl⟩, A⟩
      · replace H := H.know 16 hb (by kernel_rfl)
        refine aw_false (x := .tmp 16) (by kernel_rfl) H (fun fr => by kernel_rfl) ?_
        refine aw_skip (by kernel_rfl) ?_
        show AW cfg 9 g (right (right (left (right (left (right (left (right (right (bodyC cfg.P 9)))))))))) fr h6 _
        refine aw_seq (by kernel_rfl) ?_
        obtain ⟨o1, ho, hm⟩ := bind_some hm
        refine aw_mono (Q' := fun e fr' h' => (∃ (x6 : List UInt8), e = .normal ∧ x6 = o1 ∧ Has fr' 26 [(3, .ptr (some (h.size, 0))), (4, .str x6)] ∧ HH g h' [.lst r1 9 (lst eS x2), .obj h.size (.cells none 2 [rowV r1 x2.length])] F) ∨ False) ?_ ?_
        · replace hm := ho
          clear ho
          refine aw_seq (by kernel_rfl) ?_
          refine aw_reg (id := 6) (n := 2) [(0, []), (1, [])] (by kernel_rfl) (by kernel_rfl) ?_
          refine at_seg [(0, [])] [(3, .ptr (some (h.size, 0))), (4, .str x3), (17, .str x3)] H (noU_all rfl) (fun fr => by kernel_rfl) ?_
          intro fr H
          have A1 := A.cut 0
          obtain ⟨x7, hx, hm⟩ := bind_some hm
          obtain ⟨v1, h7, hr, rfl, A1⟩ := ok_strings_HasPrefix (av := [.str x3, .str ([92, 35] : List UInt8)]) hx (by kernel_rfl) A1
          replace A : HH g h7 [.lst r1 9 (lst eS x2), .obj h.size (.cells none 2 [rowV r1 x2.length])] F := A.glue0 (n := 0) A1
          refine at_step (v := .bool x7) (h1 := h7) [(3, .ptr (some (h.size, 0))), (4, .str x3), (18, .bool x7)] H (fun fr => by kernel_rfl) (fun fr => Steps.call (by kernel_rfl) hr) ?_
          intro fr t H
          refine at_nil ?_
          show AW cfg 9 g (right (left (right (right (left (right (left (right (left (right (right (bodyC cfg.P 9)))))))))))) fr h7 _
          rcases iteB_some hm with ⟨hb, hm⟩ | ⟨hb, hm⟩
          · replace H := H.know 18 hb (by kernel_rfl)
            refine aw_true (x := .tmp 18) (by kernel_rfl) H (fun fr => by kernel_rfl) ?_
            refine aw_reg (id := 7) (n := 3) [(0, []), (1, []), (2, [])] (by kernel_rfl) (by kernel_rfl) ?_
            refine at_seg [(0, [])] [(3, .ptr (some (h.size, 0))), (19, .str x3)] H (noU_all rfl) (fun fr => by kernel_rfl) ?_
            intro fr H
            obtain ⟨x8, hx, hm⟩ := bind_some hm
            refine at_step (v := .str x8) (h1 := h7) [(3, .ptr (some (h.size, 0))), (20, .str x8)] H (fun fr => by kernel_rfl) (fun fr => .of (s_subS (k := .i64) (k' := .i64) (lo := (some (1 : Int))) (hi := none) (by kernel_rfl) hx)) ?_
            intro fr t H
            refine at_seg [(2, [])] [(3, .ptr (some (h.size, 0))), (4, .str x8)] H (noU_all rfl) (fun fr => by kernel_rfl) ?_
            intro fr H
            refine at_nil ?_
            exact Or.inl ⟨x8, rfl, Option.some.inj hm, H.less _ (fun fr => by kernel_rfl), A⟩
          · replace H := H.know 18 hb (by kernel_rfl)
            refine aw_false (x := .tmp 18) (by kernel_rfl) H (fun fr => by kernel_rfl) ?_
            refine aw_skip (by kernel_rfl) ?_
            exact Or.inl ⟨x3, rfl, Option.some.inj hm, H.less _ (fun fr => by kernel_rfl), A⟩
        · clear ho
          clear A
          intro e fr h8 hQ
          rcases hQ with ⟨x6, rfl, rfl, H, A⟩ | hF
          · skip
            show AW cfg 9 g (right (right (right (left (right (left (right (left (right (right (bodyC cfg.P 9))))))))))) fr h8 _
            refine aw_reg (id := 8) (n := 5) [(0, []), (1, []), (2, []), (3, []), (4, [])] (by kernel_rfl) (by kernel_rfl) ?_
            refine at_step (v := rowV r1 x2.length) (h1 := h8) [(3, .ptr (some (h.size, 0))), (4, .str x6), (21, rowV r1 x2.length)] H (fun fr => by kernel_rfl) (fun fr => .of (s_ld (by kernel_rfl) (A.ld1 1 rfl (o := 0) rfl))) ?_
            intro fr t H
            refine at_seg [(1, [])] [(3, .ptr (some (h.size, 0))), (21, rowV r1 x2.length), (22, .str x6)] H (noU_all rfl) (fun fr => by kernel_rfl) ?_
            intro fr H
            obtain ⟨h9, e2⟩ : ∃ x, x = h8.push (.cells (some 9) 2 [.str x6]) := ⟨_, rfl⟩
            replace A := (A.pushL _ _).to e2
            refine at_step (v := rowV (some h8.size) (([x6] : List (List UInt8)).length)) (h1 := h9) [(3, .ptr (some (h.size, 0))), (21, rowV r1 x2.length), (23, rowV (some h8.size) (([x6] : List (List UInt8)).length))] H (fun fr => by kernel_rfl) (fun fr => .of (s_n' (by kernel_rfl) (congrArg some e2.symm))) ?_
            intro fr t H
            obtain ⟨hb, hm⟩ := need_some hm
            obtain ⟨r2, h10, hx, A1⟩ := HH.appO encS (by decide) A 1 (xs := x2) (ys := ([x6] : List (List UInt8))) rfl (row_first A 0 rfl (n := ([x6] : List (List UInt8)).length) (z := 1) rfl (by decide)) rfl rfl hb
            replace A : HH g h10 [.lst (some h8.size) 9 ([.str x6]), .lst r2 9 (lst eS (x2 ++ ([x6] : List (List UInt8)))), .obj h.size (.cells none 2 [rowV r1 x2.length])] F := A1
            replace A : HH g h10 [.lst r2 9 (lst eS (x2 ++ ([x6] : List (List UInt8)))), .obj h.size (.cells none 2 [rowV r1 x2.length])] F := (HH.dropF ((A.front 2 rfl).front 2 rfl) 2)
            refine at_step (v := rowV r2 ((x2 ++ ([x6] : List (List UInt8))).length)) (h1 := h10) [(3, .ptr (some (h.size, 0))), (24, rowV r2 ((x2 ++ ([x6] : List (List UInt8))).length))] H (fun fr => by kernel_rfl) (fun fr => .of (s_app (s := rowS r1 x2.length) (by kernel_rfl) hx)) ?_
            intro fr t H
            obtain ⟨h11, hx, A1⟩ := A.st 1 rfl (o := 0) (new := [rowV r2 ((x2 ++ ([x6] : List (List UInt8))).length)]) (ds := [rowV r2 ((x2 ++ ([x6] : List (List UInt8))).length)]) (Nat.le_of_ble_eq_true rfl) rfl rfl
            replace A : HH g h11 [.lst r2 9 (lst eS (x2 ++ ([x6] : List (List UInt8)))), .obj h.size (.cells none 2 [rowV r2 ((x2 ++ ([x6] : List (List UInt8))).length)])] F := A1
            refine at_step (v := .tuple []) (h1 := h11) [] H (fun fr => by kernel_rfl) (fun fr => .of (s_st (by kernel_rfl) rfl hx)) ?_
            intro fr t H
            refine at_nil ?_
            have e1 := Option.some.inj hm
            subst e1
            exact ⟨rfl, _, ⟨(x2 ++ ([x6] : List (List UInt8))), rfl, r2, rfl⟩, A⟩
          · exact hF.elim
  · intro h1 l F1 R hYR B A
    obtain ⟨v1, h2, hr, _, F2, B, A⟩ := ok_strings_Lines_1_s0 (av := [.yfn l, .ptr (some (bqw1_10, 0))]) ho (by kernel_rfl) hYR B A
    exact ⟨v1, h2, F2, _, hr, B, rfl, A⟩
  · clear ho A
    intro s2 h12 Lc Lu ey hP hU A
    subst ey
    obtain ⟨x2, rfl, r1, rfl⟩ := hP
    subst hU
    replace A : HH g h12 [.obj bqw1_10 (.cells none 2 [.str x9]), .lst r1 9 (lst eS x2), .obj h.size (.cells none 2 [rowV r1 x2.length])] F := A
    show AW cfg 9 g (right (right (right (bodyC cfg.P 9)))) fr h12 _
    refine aw_seq (by kernel_rfl) ?_
    refine aw_reg (id := 9) (n := 2) [(0, []), (1, [])] (by kernel_rfl) (by kernel_rfl) ?_
    refine at_step (v := rowV r1 x2.length) (h1 := h12) [(25, rowV r1 x2.length)] H (fun fr => by kernel_rfl) (fun fr => .of (s_ld (by kernel_rfl) (A.ld1 2 rfl (o := 0) rfl))) ?_
    intro fr t H
    refine at_seg [(1, [])] [(2, rowV r1 x2.length)] H (noU_all rfl) (fun fr => by kernel_rfl) ?_
    intro fr H
    refine at_nil ?_
    show AW cfg 9 g (right (right (right (right (bodyC cfg.P 9))))) fr h12 _
    refine aw_ret (by kernel_rfl) ?_
    have e1 := Option.some.inj hm
    subst e1
    refine ⟨.inl rfl, rowV r1 x2.length, resH H (fun fr => by kernel_rfl), ?_⟩
    replace A : HH g h12 [.lst r1 9 (lst eS x2)] F := (HH.dropF (A.front 1 rfl) 1)
    exact ⟨r1, rfl, A⟩
  · clear ho A
    intro r2 h12 Lc Lu e ey he hP hU A
    subst ey
    subst hU
    exact False.elim hP
  · exact fun _ => ⟨.ret, rfl⟩
/-! ### boulter/exfile.Items -/
noncomputable def M_exfile_Items_Y0 (s : (List (List UInt8))) (v1 : (List UInt8)) : Option (((List (List UInt8))) ⊕ (Unit)) :=
  match s with
  | x2 => iteB (!(v1 == ([] : List UInt8))) (need (okN 16 (x2.length + ([v1] : List (List UInt8)).length)) <| some (.inl (x2 ++ ([v1] : List (List UInt8))))) (some (.inl x2))
noncomputable def M_exfile_Items (p0 : List UInt8) : Option ((List (List UInt8))) :=
 (M_strings_SplitSeq_s0 p0).bind fun x1_11 => (M_strings_splitSeq_1_s0 (M_exfile_Items_Y0) (.inl ([] : List (List UInt8))) x1_11).bind fun (x3, y1) => (match y1 with | .inl x2 => some x2 | .inr _ => none)
theorem ok_exfile_Items {g : Gd} {h : AHeap} {F : List Ck} {p0 : List UInt8} {q0 : List (List UInt8)} {av : List AVal} (hm : M_exfile_Items p0 = some q0) (hc : canL (cfg.still 11) av = [.str p0]) (A : HH g h [] F) : ∃ v h', Runs cfg g h 11 av v h' ∧ ∃ (rq0 : Option Nat), v = rowV rq0 q0.length ∧ HH g h' [.lst rq0 9 (lst eS q0)] F := by
  refine runsQ1 (n := 15) (rs := [.tmp 2]) (by kernel_rfl) hc (by kernel_rfl) ?_
  clear hc
  unfold M_exfile_Items at hm
  refine start (n := 15) [(0, .str p0)] (by kernel_rfl) (by kernel_rfl) ?_
  intro fr H
  refine aw_seq (by kernel_rfl) ?_
  refine aw_reg (id := 0) (n := 1) [(0, [])] (by kernel_rfl) (by kernel_rfl) ?_
  refine at_seg [(0, [])] [(0, .str p0)] H (noU_all rfl) (fun fr => by kernel_rfl) ?_
  intro fr H
  refine at_nil ?_
  show AW cfg 11 g (right (bodyC cfg.P 11)) fr h _
  refine aw_seq (by kernel_rfl) ?_
  refine aw_reg (id := 1) (n := 1) [(0, [])] (by kernel_rfl) (by kernel_rfl) ?_
  obtain ⟨h1, e1⟩ : ∃ x, x = h.push (.cells none 2 [.slice none 0]) := ⟨_, rfl⟩
  replace A := (A.push _).to e1
  refine at_step (v := .ptr (some (h.size, 0))) (h1 := h1) [(0, .str p0), (3, .ptr (some (h.size, 0)))] H (fun fr => by kernel_rfl) (fun fr => .of (s_n' (by kernel_rfl) (congrArg some e1.symm))) ?_
  intro fr t H
  refine at_nil ?_
  show AW cfg 11 g (right (right (bodyC cfg.P 11))) fr h1 _
  refine aw_seq (by kernel_rfl) ?_
  refine aw_seq (by kernel_rfl) ?_
  refine aw_reg (id := 2) (n := 2) [(0, []), (1, [])] (by kernel_rfl) (by kernel_rfl) ?_
  refine at_seg [(0, [])] [(3, .ptr (some (h.size, 0))), (5, .str p0)] H (noU_all rfl) (fun fr => by kernel_rfl) ?_
  intro fr H
  have A1 := A.cut 0
  obtain ⟨x1_11, hx, hm⟩ := bind_some hm
  obtain ⟨v1, h2, hr, bqw1_10, bqw1_11, bqw1_12, rfl, A1⟩ := ok_strings_SplitSeq_s0 (av := [.str p0, .str ([0] : List UInt8)]) hx (by kernel_rfl) A1
  replace A : HH g h2 [.obj bqw1_10 (.cells none 2 [.str ([0] : List UInt8)]), .obj bqw1_11 (.cells none 2 [.str x1_11]), .obj bqw1_12 (.cells none 2 [.int .i64 (0 : Int)]), .obj h.size (.cells none 2 [.slice none 0])] F := A.glue0 (n := 0) A1
  refine at_step (v := .func (.func 63) [] [.ptr (some (bqw1_10, 0)), .ptr (some (bqw1_11, 0)), .ptr (some (bqw1_12, 0))]) (h1 := h2) [(3, .ptr (some (h.size, 0))), (6, .func (.func 63) [] [.ptr (some (bqw1_10, 0)), .ptr (some (bqw1_11, 0)), .ptr (some (bqw1_12, 0))])] H (fun fr => by kernel_rfl) (fun fr => Steps.call (by kernel_rfl) hr) ?_
  intro fr t H
  refine at_nil ?_
  show AW cfg 11 g (right (left (right (right (bodyC cfg.P 11))))) fr h2 _
  refine aw_block (id := 0) (by kernel_rfl) ?_
  replace A : HH g h2 [.lst none 9 (lst eS ([] : List (List UInt8))), .obj bqw1_10 (.cells none 2 [.str ([0] : List UInt8)]), .obj bqw1_11 (.cells none 2 [.str x1_11]), .obj bqw1_12 (.cells none 2 [.int .i64 (0 : Int)]), .obj h.size (.cells none 2 [.slice none 0])] F := A.nilL 9
  replace A : HH g h2 [.obj bqw1_10 (.cells none 2 [.str ([0] : List UInt8)]), .obj bqw1_11 (.cells none 2 [.str x1_11]), .obj bqw1_12 (.cells none 2 [.int .i64 (0 : Int)]), .lst none 9 (lst eS ([] : List (List UInt8))), .obj h.size (.cells none 2 [rowV none (([] : List (List UInt8)).length)])] F := (((((A.front 4 rfl).front 1 rfl).front 4 rfl).front 4 rfl).front 4 rfl)
  obtain ⟨⟨x3, y1⟩, ho, hm⟩ := bind_some hm
  refine aw_range (C := cfg) (x := .tmp 6) (ps := [7]) (f' := 63) (first := []) (cap := [.ptr (some (bqw1_10, 0)), .ptr (some (bqw1_11, 0)), .ptr (some (bqw1_12, 0))]) (Lu := [.obj bqw1_10 (.cells none 2 [.str ([0] : List UInt8)]), .obj bqw1_11 (.cells none 2 [.str x1_11]), .obj bqw1_12 (.cells none 2 [.int .i64 (0 : Int)])]) (Lc := [.lst none 9 (lst eS ([] : List (List UInt8))), .obj h.size (.cells none 2 [rowV none (([] : List (List UInt8)).length)])]) (F := F) (ex := fun x => [.str x]) (Y := M_exfile_Items_Y0) (PL := fun s Lc => ∃ (x2 : List (List UInt8)), x2 = s ∧ ∃ (r1 : Option Nat), Lc = [.lst r1 9 (lst eS x2), .obj h.size (.cells none 2 [rowV r1 x2.length])]) (PR := fun r Lc => False) (pe := fun _ => .ret) (s := ([] : List (List UInt8))) (y := y1) (PU := fun L => L = [.obj bqw1_10 (.cells none 2 [.str ([0] : List UInt8)]), .obj bqw1_11 (.cells none 2 [.str x3]), .obj bqw1_12 (.cells none 2 [.int .i64 (0 : Int)])]) (by kernel_rfl) H (fun fr => by kernel_rfl) (by kernel_rfl) (fun _ => rfl) (by kernel_rfl) A ⟨([] : List (List UInt8)), rfl, none, rfl⟩ ?_ ?_ ?_ ?_ ?_
  · refine range_body H (kn := fun v1 => [(3, .ptr (some (h.size, 0))), (7, .str v1)]) (fun v1 fr => by kernel_rfl) ?_
    clear ho hm A H
    intro g h3 F s v1 o Lc fr H hP hm A
    obtain ⟨x2, rfl, r1, rfl⟩ := hP
    unfold M_exfile_Items_Y0 at hm
    show AW cfg 11 g (left (left (right (left (right (right (bodyC cfg.P 11))))))) fr h3 _
    refine aw_reg (id := 3) (n := 1) [(0, [])] (by kernel_rfl) (by kernel_rfl) ?_
    refine at_seg [(0, [])] [(3, .ptr (some (h.size, 0))), (4, .str v1)] H (noU_all rfl) (fun fr => by kernel_rfl) ?_
    intro fr H
    refine at_nil ?_
    refine ⟨rfl, _, A, ?_⟩
    clear A
    intro h4 F A
    show AW cfg 11 g (right (left (right (left (right (right (bodyC cfg.P 11))))))) fr h4 _
    refine aw_block (id := 1) (by kernel_rfl) ?_
    refine aw_seq (by kernel_rfl) ?_
    refine aw_reg (id := 4) (n := 2) [(0, []), (1, [])] (by kernel_rfl) (by kernel_rfl) ?_
    refine at_seg [(0, []), (1, [])] [(3, .ptr (some (h.size, 0))), (4, .str v1), (9, .bool (!(v1 == ([] : List UInt8))))] H (noU_all rfl) (fun fr => by kernel_rfl) ?_
    intro fr H
    refine at_nil ?_
    show AW cfg 11 g (right (left (right (left (right (left (right (right (bodyC cfg.P 11))))))))) fr h4 _
    rcases iteB_some hm with ⟨hb, hm⟩ | ⟨hb, hm⟩
    · replace H := H.know 9 hb (by kernel_rfl)
      refine aw_true (x := .tmp 9) (by kernel_rfl) H (fun fr => by kernel_rfl) ?_
      refine aw_reg (id := 5) (n := 5) [(0, []), (1, []), (2, []), (3, []), (4, [])] (by kernel_rfl) (by kernel_rfl) ?_
      refine at_step (v := rowV r1 x2.length) (h1 := h4) [(3, .ptr (some (h.size, 0))), (4, .str v1), (10, rowV r1 x2.length)] H (fun fr => by kernel_rfl) (fun fr => .of (s_ld (by kernel_rfl) (A.ld1 1 rfl (o := 0) rfl))) ?_
      intro fr t H
      refine at_seg [(1, [])] [(3, .ptr (some (h.size, 0))), (10, rowV r1 x2.length), (11, .str v1)] H (noU_all rfl) (fun fr => by kernel_rfl) ?_
      intro fr H
      obtain ⟨h5, e2⟩ : ∃ x, x = h4.push (.cells (some 9) 2 [.str v1]) := ⟨_, rfl⟩
      replace A := (A.pushL _ _).to e2
      refine at_step (v := rowV (some h4.size) (([v1] : List (List UInt8)).length)) (h1 := h5) [(3, .ptr (some (h.size, 0))), (10, rowV r1 x2.length), (12, rowV (some h4.size) (([v1] : List (List UInt8)).length))] H (fun fr => by kernel_rfl) (fun fr => .of (s_n' (by kernel_rfl) (congrArg some e2.symm))) ?_
      intro fr t H
      obtain ⟨hb, hm⟩ := need_some hm
      obtain ⟨r2, h6, hx, A1⟩ := HH.appO encS (by decide) A 1 (xs := x2) (ys := ([v1] : List (List UInt8))) rfl (row_first A 0 rfl (n := ([v1] : List (List UInt8)).length) (z := 1) rfl (by decide)) rfl rfl hb
      replace A : HH g h6 [.lst (some h4.size) 9 ([.str v1]), .lst r2 9 (lst eS (x2 ++ ([v1] : List (List UInt8)))), .obj h.size (.cells none 2 [rowV r1 x2.length])] F := A1
      replace A : HH g h6 [.lst r2 9 (lst eS (x2 ++ ([v1] : List (List UInt8)))), .obj h.size (.cells none 2 [rowV r1 x2.length])] F := (HH.dropF ((A.front 2 rfl).front 2 rfl) 2)
      refine at_step (v := rowV r2 ((x2 ++ ([v1] : List (List UInt8))).length)) (h1 := h6) [(3, .ptr (some (h.size, 0))), (13, rowV r2 ((x2 ++ ([v1] : List (List UInt8))).length))] H (fun fr => by kernel_rfl) (fun fr => .of (s_app (s := rowS r1 x2.length) (by kernel_rfl) hx)) ?_
      intro fr t H
      obtain ⟨h7, hx, A1⟩ := A.st 1 rfl (o := 0) (new := [rowV r2 ((x2 ++ ([v1] : List (List UInt8))).length)]) (ds := [rowV r2 ((x2 ++ ([v1] : List (List UInt8))).length)]) (Nat.le_of_ble_eq_true rfl) rfl rfl
      replace A : HH g h7 [.lst r2 9 (lst eS (x2 ++ ([v1] : List (List UInt8)))), .obj h.size (.cells none 2 [rowV r2 ((x2 ++ ([v1] : List (List UInt8))).length)])] F := A1
      refine at_step (v := .tuple []) (h1 := h7) [] H (fun fr => by kernel_rfl) (fun fr => .of (s_st (by kernel_rfl) rfl hx)) ?_
      intro fr t H
      refine at_nil ?_
      have e1 := Option.some.inj hm
      subst e1
      exact ⟨rfl, _, ⟨(x2 ++ ([v1] : List (List UInt8))), rfl, r2, rfl⟩, A⟩
    · replace H := H.know 9 hb (by kernel_rfl)
      refine aw_false (x := .tmp 9) (by kernel_rfl) H (fun fr => by kernel_rfl) ?_
      refine aw_skip (by kernel_rfl) ?_
      have e1 := Option.some.inj hm
      subst e1
      exact ⟨rfl, _, ⟨x2, rfl, r1, rfl⟩, A⟩
  · intro h1 l F1 R hYR B A
    obtain ⟨v1, h2, hr, _, F2, B, A⟩ := ok_strings_splitSeq_1_s0 (av := [.yfn l, .ptr (some (bqw1_10, 0)), .ptr (some (bqw1_11, 0)), .ptr (some (bqw1_12, 0))]) ho (by kernel_rfl) hYR B A
    exact ⟨v1, h2, F2, _, hr, B, rfl, A⟩
  · clear ho A
    intro s2 h8 Lc Lu ey hP hU A
    subst ey
    obtain ⟨x2, rfl, r1, rfl⟩ := hP
    subst hU
    replace A : HH g h8 [.obj bqw1_10 (.cells none 2 [.str ([0] : List UInt8)]), .obj bqw1_11 (.cells none 2 [.str x3]), .obj bqw1_12 (.cells none 2 [.int .i64 (0 : Int)]), .lst r1 9 (lst eS x2), .obj h.size (.cells none 2 [rowV r1 x2.length])] F := A
    show AW cfg 11 g (right (right (right (bodyC cfg.P 11)))) fr h8 _
    refine aw_seq (by kernel_rfl) ?_
    refine aw_reg (id := 6) (n := 2) [(0, []), (1, [])] (by kernel_rfl) (by kernel_rfl) ?_
    refine at_step (v := rowV r1 x2.length) (h1 := h8) [(14, rowV r1 x2.length)] H (fun fr => by kernel_rfl) (fun fr => .of (s_ld (by kernel_rfl) (A.ld1 4 rfl (o := 0) rfl))) ?_
    intro fr t H
    refine at_seg [(1, [])] [(2, rowV r1 x2.length)] H (noU_all rfl) (fun fr => by kernel_rfl) ?_
    intro fr H
    refine at_nil ?_
    show AW cfg 11 g (right (right (right (right (bodyC cfg.P 11))))) fr h8 _
    refine aw_ret (by kernel_rfl) ?_
    have e1 := Option.some.inj hm
    subst e1
    refine ⟨.inl rfl, rowV r1 x2.length, resH H (fun fr => by kernel_rfl), ?_⟩
    replace A : HH g h8 [.lst r1 9 (lst eS x2)] F := (HH.dropF (A.front 3 rfl) 1)
    exact ⟨r1, rfl, A⟩
  · clear ho A
    intro r2 h8 Lc Lu e ey he hP hU A
    subst ey
    subst hU
    exact False.elim hP
  · exact fun _ => ⟨.ret, rfl⟩
end Go.Av.L
