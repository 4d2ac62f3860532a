/-
  Models of functions of package law23, and that the abstract run tells them. Written by lift.py.
-/
import Derived.Test.YtklabpnclemmoaaLCfg
import Derived.Test.YtklabpnclemmoaaLlaw23
import Derived.Test.YtklabpnclemmoaaLref23
import Derived.Test.YtklabpnclemmoaaLsubst
import Derived.Test.YtklabpnclemmoaaLsubstx1
namespace Go.Abs.L
open Go.Abs
set_option linter.unusedVariables false
/-! ### boulter/boulterlaw23.SubstExpands -/
noncomputable def M_boulterlaw23_SubstExpands_L0 (h : AHeap) (p0 : Sl) (s : Sl × Int × AHeap) : Option ((Sl × Int × AHeap) ⊕ ((Sl × AHeap) ⊕ (Bool × AHeap))) :=
  match s with
  | (x6, x7, h1) => iteB (decide (x7 < ((p0.n : Nat) : Int))) ((ixL p0 3 x7).bind fun a1 => (ldA h1 (a1.1, a1.2) 3).bind fun x8 => (some (h1.push (.cells none 2 [.int .i64 (0 : Int), .int .i64 (0 : Int), .str ([] : List UInt8)]))).bind fun h2 => (stG 3 (⟨h.size, []⟩ : Gd) h2 (h1.size, 0) x8).bind fun h3 => (ldS h3 (h1.size, 2)).bind fun x9 => iteB (decide ((x9.length : Int) > (50 : Int))) ((M_boulterlaw23_awake).bind fun x10 => some (.inr (.inr (x10, h3)))) ((ldA h3 (h1.size, 0) 3).bind fun x11 => need (Nat.beq x11.length 3 && x11.all AVal.one) <| (some (h3.push (.cells (some 51) 2 x11))).bind fun h4 => (app 51 3 32 (⟨h.size, []⟩ : Gd) h4 x6 1 (.slice (some (h3.size, 0)) 1)).bind fun (x12, h5) => some (.inl (x12, IntKind.i64.wrap (x7 + (1 : Int)), h5)))) (some (.inr (.inl (x6, h1))))
noncomputable def M_boulterlaw23_SubstExpands_L1 (h : AHeap) (p2 : Sl) (s : Sl × Int × AHeap) : Option ((Sl × Int × AHeap) ⊕ ((Sl × AHeap))) :=
  match s with
  | (x16, x17, h7) => iteB (decide (x17 < ((p2.n : Nat) : Int))) ((ixL p2 3 x17).bind fun a2 => (ldA h7 (a2.1, a2.2) 3).bind fun x18 => (some (h7.push (.cells none 2 [.int .i64 (0 : Int), .int .i64 (0 : Int), .bool false]))).bind fun h8 => (stG 3 (⟨h.size, []⟩ : Gd) h8 (h7.size, 0) x18).bind fun h9 => (ldA h9 (h7.size, 0) 3).bind fun x19 => need (Nat.beq x19.length 3 && x19.all AVal.one) <| (some (h9.push (.cells (some 55) 2 x19))).bind fun h10 => (app 55 3 24 (⟨h.size, []⟩ : Gd) h10 x16 1 (.slice (some (h9.size, 0)) 1)).bind fun (x20, h11) => some (.inl (x20, IntKind.i64.wrap (x17 + (1 : Int)), h11))) (some (.inr (x16, h7)))
noncomputable def M_boulterlaw23_SubstExpands (h : AHeap) (p0 : Sl) (p1 : List UInt8) (p2 : Sl) : Option (Bool) :=
 iteB (((decide (((p0.n : Nat) : Int) > (20 : Int))) || (decide ((p1.length : Int) > (100 : Int)))) || (decide (((p2.n : Nat) : Int) > (20 : Int)))) ((M_boulterlaw23_awake).bind fun x1 => some x1) ((loop (M_boulterlaw23_SubstExpands_L0 h p0) ((⟨none, 0⟩ : Sl), (0 : Int), h)).bind fun o1 => (match o1 with | .inl (x4, h6) => (loop (M_boulterlaw23_SubstExpands_L1 h p2) ((⟨none, 0⟩ : Sl), (0 : Int), h6)).bind fun (x15, h12) => (M_subst_Expand h12 p0 p1 p2).bind fun x21 => (M_boulterref23_Expand h12 x4 p1 x15).bind fun x22 => (iteB (x21 == x22) ((M_boulterlaw23_awake).bind fun x24 => some x24) (some false) : Option (Bool)).bind fun x23 => some x23 | .inr (x5, h6) => some x5))
theorem ok_boulterlaw23_SubstExpands {g : Gd} {h : AHeap} {p0 : Sl} {p1 : List UInt8} {p2 : Sl} {r0 : Bool} (hm : M_boulterlaw23_SubstExpands h p0 p1 p2 = some r0) : Runs cfg g h 7 [.slice p0.r p0.n, .str p1, .slice p2.r p2.n] (.bool r0) h := by
  refine runs2E (by kernel_rfl) (by kernel_rfl) (body_ofE (n := 66) (rs := [.tmp 6]) (by kernel_rfl) ?_)
  unfold M_boulterlaw23_SubstExpands at hm
  refine start (n := 66) [(0, .slice p0.r p0.n), (1, .str p1), (2, .slice p2.r p2.n)] (by kernel_rfl) (by kernel_rfl) ?_
  intro fr H
  refine aw_seq (by kernel_rfl) ?_
  refine aw_reg (id := 0) (n := 1) [(0, [])] (by kernel_rfl) (by kernel_rfl) ?_
  refine at_seg [(0, [])] [(0, .slice p0.r p0.n), (1, .str p1), (2, .slice p2.r p2.n)] H (noU_all rfl) (fun fr => by kernel_rfl) ?_
  intro fr H
  refine at_nil ?_
  show AW cfg 7 (⟨h.size, []⟩ : Gd) (right (bodyC cfg.P 7)) fr h _
  refine aw_seq (by kernel_rfl) ?_
  refine aw_seq (by kernel_rfl) ?_
  refine aw_reg (id := 1) (n := 13) [(0, []), (1, []), (2, []), (3, []), (4, []), (5, []), (6, []), (7, []), (8, []), (9, []), (10, []), (11, []), (12, [])] (by kernel_rfl) (by kernel_rfl) ?_
  refine at_seg [(0, []), (1, []), (2, []), (3, [])] [(0, .slice p0.r p0.n), (1, .str p1), (2, .slice p2.r p2.n), (16, .bool (decide (((p0.n : Nat) : Int) > (20 : Int))))] H (noU_all rfl) (fun fr => by kernel_rfl) ?_
  intro fr H
  refine at_cut [(4, []), (5, []), (6, []), (7, [])] (fun fr' h' => h = h' ∧ Has fr' 66 [(0, .slice p0.r p0.n), (1, .str p1), (2, .slice p2.r p2.n), (20, .bool ((decide (((p0.n : Nat) : Int) > (20 : Int))) || (decide ((p1.length : Int) > (100 : Int)))))]) ?_ ?_
  · cases hb : (decide (((p0.n : Nat) : Int) > (20 : Int)) : Bool) with
    | true =>
      replace H := H.know 16 hb (by kernel_rfl)
      refine at_seg [(4, []), (5, []), (6, []), (7, [])] [(0, .slice p0.r p0.n), (1, .str p1), (2, .slice p2.r p2.n), (20, .bool true)] H (noU_all rfl) (fun fr => by kernel_rfl) ?_
      intro fr H
      exact at_nil ⟨rfl, by first | exact H.less _ (fun fr => by rfl) | exact H.less _ (fun fr => by rw [hb]; rfl)⟩
    | false =>
      replace H := H.know 16 hb (by kernel_rfl)
      refine at_seg [(4, []), (5, []), (6, []), (7, [])] [(0, .slice p0.r p0.n), (1, .str p1), (2, .slice p2.r p2.n), (20, .bool (decide ((p1.length : Int) > (100 : Int))))] H (noU_all rfl) (fun fr => by kernel_rfl) ?_
      intro fr H
      exact at_nil ⟨rfl, by first | exact H.less _ (fun fr => by rfl) | exact H.less _ (fun fr => by rw [hb]; rfl)⟩
  · intro t fr h' hK
    obtain ⟨e, H⟩ := hK
    subst e
    refine at_seg [(8, [])] [(0, .slice p0.r p0.n), (1, .str p1), (2, .slice p2.r p2.n), (21, .bool ((decide (((p0.n : Nat) : Int) > (20 : Int))) || (decide ((p1.length : Int) > (100 : Int)))))] H (noU_all rfl) (fun fr => by kernel_rfl) ?_
    intro fr H
    refine at_cut [(9, []), (10, []), (11, []), (12, [])] (fun fr' h' => h = h' ∧ Has fr' 66 [(0, .slice p0.r p0.n), (1, .str p1), (2, .slice p2.r p2.n), (25, .bool (((decide (((p0.n : Nat) : Int) > (20 : Int))) || (decide ((p1.length : Int) > (100 : Int)))) || (decide (((p2.n : Nat) : Int) > (20 : Int)))))]) ?_ ?_
    · cases hb : ((decide (((p0.n : Nat) : Int) > (20 : Int))) || (decide ((p1.length : Int) > (100 : Int))) : Bool) with
      | true =>
        replace H := H.know 21 hb (by kernel_rfl)
        refine at_seg [(9, []), (10, []), (11, []), (12, [])] [(0, .slice p0.r p0.n), (1, .str p1), (2, .slice p2.r p2.n), (25, .bool true)] H (noU_all rfl) (fun fr => by kernel_rfl) ?_
        intro fr H
        exact at_nil ⟨rfl, by first | exact H.less _ (fun fr => by rfl) | exact H.less _ (fun fr => by rw [hb]; rfl)⟩
      | false =>
        replace H := H.know 21 hb (by kernel_rfl)
        refine at_seg [(9, []), (10, []), (11, []), (12, [])] [(0, .slice p0.r p0.n), (1, .str p1), (2, .slice p2.r p2.n), (25, .bool (decide (((p2.n : Nat) : Int) > (20 : Int))))] H (noU_all rfl) (fun fr => by kernel_rfl) ?_
        intro fr H
        exact at_nil ⟨rfl, by first | exact H.less _ (fun fr => by rfl) | exact H.less _ (fun fr => by rw [hb]; rfl)⟩
    · intro t fr h' hK
      obtain ⟨e, H⟩ := hK
      subst e
      refine at_nil ?_
      show AW cfg 7 (⟨h.size, []⟩ : Gd) (right (left (right (bodyC cfg.P 7)))) fr h _
      rcases iteB_some hm with ⟨hb, hm⟩ | ⟨hb, hm⟩
      · replace H := H.know 25 hb (by kernel_rfl)
        refine aw_true (x := .tmp 25) (by kernel_rfl) H (fun fr => by kernel_rfl) ?_
        refine aw_seq (by kernel_rfl) ?_
        refine aw_reg (id := 2) (n := 2) [(0, []), (1, [])] (by kernel_rfl) (by kernel_rfl) ?_
        obtain ⟨x1, hx, hm⟩ := bind_some hm
        refine at_step (v := .bool x1) (h1 := h) [(26, .bool x1)] H (fun fr => by kernel_rfl) (fun fr => Steps.call (by kernel_rfl) (ok_boulterlaw23_awake hx)) ?_
        intro fr t H
        refine at_seg [(1, [])] [(6, .bool x1)] H (noU_all rfl) (fun fr => by kernel_rfl) ?_
        intro fr H
        refine at_nil ?_
        show AW cfg 7 (⟨h.size, []⟩ : Gd) (right (left (right (left (right (bodyC cfg.P 7)))))) fr h _
        refine aw_ret (by kernel_rfl) ?_
        have e1 := Option.some.inj hm
        subst e1
        exact (doneE_of .ret H (fun fr => by kernel_rfl) (.inl rfl) : doneE cfg.P _ _ _ fr _)
      · replace H := H.know 25 hb (by kernel_rfl)
        refine aw_false (x := .tmp 25) (by kernel_rfl) H (fun fr => by kernel_rfl) ?_
        refine aw_skip (by kernel_rfl) ?_
        show AW cfg 7 (⟨h.size, []⟩ : Gd) (right (right (bodyC cfg.P 7))) fr h _
        refine aw_seq (by kernel_rfl) ?_
        refine aw_reg (id := 3) (n := 1) [(0, [])] (by kernel_rfl) (by kernel_rfl) ?_
        refine at_seg [(0, [])] [(0, .slice p0.r p0.n), (1, .str p1), (2, .slice p2.r p2.n), (7, .slice none 0)] H (noU_all rfl) (fun fr => by kernel_rfl) ?_
        intro fr H
        refine at_nil ?_
        show AW cfg 7 (⟨h.size, []⟩ : Gd) (right (right (right (bodyC cfg.P 7)))) fr h _
        refine aw_seq (by kernel_rfl) ?_
        refine aw_seq (by kernel_rfl) ?_
        refine aw_reg (id := 4) (n := 3) [(0, []), (1, []), (2, [])] (by kernel_rfl) (by kernel_rfl) ?_
        refine at_seg [(0, []), (1, []), (2, [])] [(0, .slice p0.r p0.n), (1, .str p1), (2, .slice p2.r p2.n), (7, .slice none 0), (27, .slice p0.r p0.n), (28, .int .i64 ((p0.n : Nat) : Int)), (29, .int .i64 (0 : Int))] H (noU_all rfl) (fun fr => by kernel_rfl) ?_
        intro fr H
        refine at_nil ?_
        show AW cfg 7 (⟨h.size, []⟩ : Gd) (right (left (right (right (right (bodyC cfg.P 7)))))) fr h _
        refine aw_block (id := 0) (by kernel_rfl) ?_
        obtain ⟨o1, ho, hm⟩ := bind_some hm
        refine aw_mono (Q' := fun e fr' h' => (∃ (x4 : Sl), e = .exit 0 ∧ .inl (x4, h') = o1 ∧ h' = h' ∧ Has fr' 66 [(0, .slice p0.r p0.n), (1, .str p1), (2, .slice p2.r p2.n), (7, .slice x4.r x4.n)]) ∨ (∃ (x5 : Bool), e = .ret ∧ .inr (x5, h') = o1 ∧ h' = h' ∧ Has fr' 66 [(6, .bool x5)]) ∨ False) ?_ ?_
        · refine aw_loop (by kernel_rfl) (fun (s : Sl × Int × AHeap) fr' h' => ∃ (x6 : Sl) (x7 : Int), (x6, x7, h') = s ∧ h' = h' ∧ Has fr' 66 [(0, .slice p0.r p0.n), (1, .str p1), (2, .slice p2.r p2.n), (7, .slice x6.r x6.n), (27, .slice p0.r p0.n), (28, .int .i64 ((p0.n : Nat) : Int)), (29, .int .i64 x7)]) ho ⟨(⟨none, 0⟩ : Sl), (0 : Int), rfl, rfl, H.less _ (fun fr => by kernel_rfl)⟩ ?_
          clear ho hm H
          intro s q fr h1 hI hm
          obtain ⟨x6, x7, rfl, _, H⟩ := hI
          unfold M_boulterlaw23_SubstExpands_L0 at hm
          refine aw_seq (by kernel_rfl) ?_
          refine aw_reg (id := 5) (n := 1) [(0, [])] (by kernel_rfl) (by kernel_rfl) ?_
          refine at_seg [(0, [])] [(0, .slice p0.r p0.n), (1, .str p1), (2, .slice p2.r p2.n), (7, .slice x6.r x6.n), (27, .slice p0.r p0.n), (28, .int .i64 ((p0.n : Nat) : Int)), (29, .int .i64 x7), (30, .bool (decide (x7 < ((p0.n : Nat) : Int))))] H (noU_all rfl) (fun fr => by kernel_rfl) ?_
          intro fr H
          refine at_nil ?_
          show AW cfg 7 (⟨h.size, []⟩ : Gd) (right (left (left (right (left (right (right (right (bodyC cfg.P 7))))))))) fr h1 _
          refine aw_seq (by kernel_rfl) ?_
          rcases iteB_some hm with ⟨hb, hm⟩ | ⟨hb, hm⟩
          · replace H := H.know 30 hb (by kernel_rfl)
            refine aw_true (x := .tmp 30) (by kernel_rfl) H (fun fr => by kernel_rfl) ?_
            refine aw_skip (by kernel_rfl) ?_
            show AW cfg 7 (⟨h.size, []⟩ : Gd) (right (right (left (left (right (left (right (right (right (bodyC cfg.P 7)))))))))) fr h1 _
            refine aw_seq (by kernel_rfl) ?_
            refine aw_block (id := 1) (by kernel_rfl) ?_
            refine aw_seq (by kernel_rfl) ?_
            refine aw_reg (id := 6) (n := 4) [(0, []), (1, []), (2, []), (3, [])] (by kernel_rfl) (by kernel_rfl) ?_
            obtain ⟨a1, hx, hm⟩ := bind_some hm
            refine at_step (v := .ptr (some a1)) (h1 := h1) [(0, .slice p0.r p0.n), (1, .str p1), (2, .slice p2.r p2.n), (7, .slice x6.r x6.n), (27, .slice p0.r p0.n), (28, .int .i64 ((p0.n : Nat) : Int)), (29, .int .i64 x7), (31, .ptr (some (a1.1, a1.2)))] H (fun fr => by kernel_rfl) (fun fr => .of (s_ixL (s := p0) (by kernel_rfl) hx)) ?_
            intro fr t H
            obtain ⟨x8, hx, hm⟩ := bind_some hm
            refine at_step (v := .agg x8) (h1 := h1) [(0, .slice p0.r p0.n), (1, .str p1), (2, .slice p2.r p2.n), (7, .slice x6.r x6.n), (27, .slice p0.r p0.n), (28, .int .i64 ((p0.n : Nat) : Int)), (29, .int .i64 x7), (32, .agg x8)] H (fun fr => by kernel_rfl) (fun fr => .of (s_ldA (by kernel_rfl) hx)) ?_
            intro fr t H
            obtain ⟨h2, hx, hm⟩ := bind_some hm
            refine at_step (v := .ptr (some (h1.size, 0))) (h1 := h2) [(0, .slice p0.r p0.n), (1, .str p1), (2, .slice p2.r p2.n), (7, .slice x6.r x6.n), (9, .ptr (some (h1.size, 0))), (27, .slice p0.r p0.n), (28, .int .i64 ((p0.n : Nat) : Int)), (29, .int .i64 x7), (32, .agg x8)] H (fun fr => by kernel_rfl) (fun fr => .of (s_n' (by kernel_rfl) hx)) ?_
            intro fr t H
            obtain ⟨h3, hx, hm⟩ := bind_some hm
            refine at_step (v := .tuple []) (h1 := h3) [(0, .slice p0.r p0.n), (1, .str p1), (2, .slice p2.r p2.n), (7, .slice x6.r x6.n), (9, .ptr (some (h1.size, 0))), (27, .slice p0.r p0.n), (28, .int .i64 ((p0.n : Nat) : Int)), (29, .int .i64 x7)] H (fun fr => by kernel_rfl) (fun fr => .of (s_stG (by kernel_rfl) hx)) ?_
            intro fr t H
            refine at_nil ?_
            show AW cfg 7 (⟨h.size, []⟩ : Gd) (right (left (left (right (right (left (left (right (left (right (right (right (bodyC cfg.P 7))))))))))))) fr h3 _
            refine aw_seq (by kernel_rfl) ?_
            refine aw_seq (by kernel_rfl) ?_
            refine aw_reg (id := 7) (n := 4) [(0, []), (1, []), (2, []), (3, [])] (by kernel_rfl) (by kernel_rfl) ?_
            refine at_seg [(0, [])] [(0, .slice p0.r p0.n), (1, .str p1), (2, .slice p2.r p2.n), (7, .slice x6.r x6.n), (9, .ptr (some (h1.size, 0))), (27, .slice p0.r p0.n), (28, .int .i64 ((p0.n : Nat) : Int)), (29, .int .i64 x7), (33, .ptr (some (h1.size, 2)))] H (noU_all rfl) (fun fr => by kernel_rfl) ?_
            intro fr H
            obtain ⟨x9, hx, hm⟩ := bind_some hm
            refine at_step (v := .str x9) (h1 := h3) [(0, .slice p0.r p0.n), (1, .str p1), (2, .slice p2.r p2.n), (7, .slice x6.r x6.n), (9, .ptr (some (h1.size, 0))), (27, .slice p0.r p0.n), (28, .int .i64 ((p0.n : Nat) : Int)), (29, .int .i64 x7), (34, .str x9)] H (fun fr => by kernel_rfl) (fun fr => .of (s_ld (by kernel_rfl) (ldS_eq hx))) ?_
            intro fr t H
            refine at_seg [(2, []), (3, [])] [(0, .slice p0.r p0.n), (1, .str p1), (2, .slice p2.r p2.n), (7, .slice x6.r x6.n), (9, .ptr (some (h1.size, 0))), (27, .slice p0.r p0.n), (28, .int .i64 ((p0.n : Nat) : Int)), (29, .int .i64 x7), (36, .bool (decide ((x9.length : Int) > (50 : Int))))] H (noU_all rfl) (fun fr => by kernel_rfl) ?_
            intro fr H
            refine at_nil ?_
            show AW cfg 7 (⟨h.size, []⟩ : Gd) (right (left (right (left (left (right (right (left (left (right (left (right (right (right (bodyC cfg.P 7))))))))))))))) fr h3 _
            rcases iteB_some hm with ⟨hb, hm⟩ | ⟨hb, hm⟩
            · replace H := H.know 36 hb (by kernel_rfl)
              refine aw_true (x := .tmp 36) (by kernel_rfl) H (fun fr => by kernel_rfl) ?_
              refine aw_seq (by kernel_rfl) ?_
              refine aw_reg (id := 8) (n := 2) [(0, []), (1, [])] (by kernel_rfl) (by kernel_rfl) ?_
              obtain ⟨x10, hx, hm⟩ := bind_some hm
              refine at_step (v := .bool x10) (h1 := h3) [(37, .bool x10)] H (fun fr => by kernel_rfl) (fun fr => Steps.call (by kernel_rfl) (ok_boulterlaw23_awake hx)) ?_
              intro fr t H
              refine at_seg [(1, [])] [(6, .bool x10)] H (noU_all rfl) (fun fr => by kernel_rfl) ?_
              intro fr H
              refine at_nil ?_
              show AW cfg 7 (⟨h.size, []⟩ : Gd) (right (left (right (left (right (left (left (right (right (left (left (right (left (right (right (right (bodyC cfg.P 7))))))))))))))))) fr h3 _
              refine aw_ret (by kernel_rfl) ?_
              exact Exists.intro _ (And.intro (Option.some.inj hm).symm (fun e => Or.inr (Or.inl ⟨x10, rfl, e, rfl, H.less _ (fun fr => by kernel_rfl)⟩)))
            · replace H := H.know 36 hb (by kernel_rfl)
              refine aw_false (x := .tmp 36) (by kernel_rfl) H (fun fr => by kernel_rfl) ?_
              refine aw_skip (by kernel_rfl) ?_
              show AW cfg 7 (⟨h.size, []⟩ : Gd) (right (right (left (left (right (right (left (left (right (left (right (right (right (bodyC cfg.P 7)))))))))))))) fr h3 _
              refine aw_reg (id := 9) (n := 5) [(0, []), (1, []), (2, []), (3, []), (4, [])] (by kernel_rfl) (by kernel_rfl) ?_
              refine at_seg [(0, [])] [(0, .slice p0.r p0.n), (1, .str p1), (2, .slice p2.r p2.n), (9, .ptr (some (h1.size, 0))), (27, .slice p0.r p0.n), (28, .int .i64 ((p0.n : Nat) : Int)), (29, .int .i64 x7), (38, .slice x6.r x6.n)] H (noU_all rfl) (fun fr => by kernel_rfl) ?_
              intro fr H
              obtain ⟨x11, hx, hm⟩ := bind_some hm
              refine at_step (v := .agg x11) (h1 := h3) [(0, .slice p0.r p0.n), (1, .str p1), (2, .slice p2.r p2.n), (27, .slice p0.r p0.n), (28, .int .i64 ((p0.n : Nat) : Int)), (29, .int .i64 x7), (38, .slice x6.r x6.n), (39, .agg x11)] H (fun fr => by kernel_rfl) (fun fr => .of (s_ldA (by kernel_rfl) hx)) ?_
              intro fr t H
              obtain ⟨hb, hm⟩ := need_some hm
              obtain ⟨h4, hx, hm⟩ := bind_some hm
              refine at_step (v := .slice (some (h3.size, 0)) 1) (h1 := h4) [(0, .slice p0.r p0.n), (1, .str p1), (2, .slice p2.r p2.n), (27, .slice p0.r p0.n), (28, .int .i64 ((p0.n : Nat) : Int)), (29, .int .i64 x7), (38, .slice x6.r x6.n), (40, .slice (some (h3.size, 0)) 1)] H (fun fr => by kernel_rfl) (fun fr => .of (s_one (by kernel_rfl) hb hx)) ?_
              intro fr t H
              obtain ⟨⟨x12, h5⟩, hx, hm⟩ := bind_some hm
              refine at_step (v := .slice x12.r x12.n) (h1 := h5) [(0, .slice p0.r p0.n), (1, .str p1), (2, .slice p2.r p2.n), (27, .slice p0.r p0.n), (28, .int .i64 ((p0.n : Nat) : Int)), (29, .int .i64 x7), (41, .slice x12.r x12.n)] H (fun fr => by kernel_rfl) (fun fr => .of (s_app (s := x6) (by kernel_rfl) hx)) ?_
              intro fr t H
              refine at_seg [(4, [])] [(0, .slice p0.r p0.n), (1, .str p1), (2, .slice p2.r p2.n), (7, .slice x12.r x12.n), (27, .slice p0.r p0.n), (28, .int .i64 ((p0.n : Nat) : Int)), (29, .int .i64 x7)] H (noU_all rfl) (fun fr => by kernel_rfl) ?_
              intro fr H
              refine at_nil ?_
              show AW cfg 7 (⟨h.size, []⟩ : Gd) (right (right (right (left (left (right (left (right (right (right (bodyC cfg.P 7))))))))))) fr h5 _
              refine aw_reg (id := 10) (n := 2) [(0, []), (1, [])] (by kernel_rfl) (by kernel_rfl) ?_
              refine at_seg [(0, []), (1, [])] [(0, .slice p0.r p0.n), (1, .str p1), (2, .slice p2.r p2.n), (7, .slice x12.r x12.n), (27, .slice p0.r p0.n), (28, .int .i64 ((p0.n : Nat) : Int)), (29, .int .i64 (IntKind.i64.wrap (x7 + (1 : Int))))] H (noU_all rfl) (fun fr => by kernel_rfl) ?_
              intro fr H
              refine at_nil ?_
              exact Exists.intro (x12, IntKind.i64.wrap (x7 + (1 : Int)), h5) (And.intro (Option.some.inj hm).symm ⟨x12, IntKind.i64.wrap (x7 + (1 : Int)), rfl, rfl, H.less _ (fun fr => by kernel_rfl)⟩)
          · replace H := H.know 30 hb (by kernel_rfl)
            refine aw_false (x := .tmp 30) (by kernel_rfl) H (fun fr => by kernel_rfl) ?_
            refine aw_exit (i := 0) (by kernel_rfl) ?_
            exact Exists.intro _ (And.intro (Option.some.inj hm).symm (fun e => Or.inl ⟨x6, rfl, e, rfl, H.less _ (fun fr => by kernel_rfl)⟩))
        · clear ho
          intro e fr h6 hQ
          rcases hQ with ⟨x4, rfl, rfl, _, H⟩ | ⟨x5, rfl, rfl, _, H⟩ | hF
          · skip
            show AW cfg 7 (⟨h.size, []⟩ : Gd) (right (right (right (right (bodyC cfg.P 7))))) fr h6 _
            refine aw_seq (by kernel_rfl) ?_
            refine aw_reg (id := 11) (n := 1) [(0, [])] (by kernel_rfl) (by kernel_rfl) ?_
            refine at_seg [(0, [])] [(0, .slice p0.r p0.n), (1, .str p1), (2, .slice p2.r p2.n), (7, .slice x4.r x4.n), (10, .slice none 0)] H (noU_all rfl) (fun fr => by kernel_rfl) ?_
            intro fr H
            refine at_nil ?_
            show AW cfg 7 (⟨h.size, []⟩ : Gd) (right (right (right (right (right (bodyC cfg.P 7)))))) fr h6 _
            refine aw_seq (by kernel_rfl) ?_
            refine aw_seq (by kernel_rfl) ?_
            refine aw_reg (id := 12) (n := 3) [(0, []), (1, []), (2, [])] (by kernel_rfl) (by kernel_rfl) ?_
            refine at_seg [(0, []), (1, []), (2, [])] [(0, .slice p0.r p0.n), (1, .str p1), (2, .slice p2.r p2.n), (7, .slice x4.r x4.n), (10, .slice none 0), (43, .slice p2.r p2.n), (44, .int .i64 ((p2.n : Nat) : Int)), (45, .int .i64 (0 : Int))] H (noU_all rfl) (fun fr => by kernel_rfl) ?_
            intro fr H
            refine at_nil ?_
            show AW cfg 7 (⟨h.size, []⟩ : Gd) (right (left (right (right (right (right (right (bodyC cfg.P 7)))))))) fr h6 _
            refine aw_block (id := 2) (by kernel_rfl) ?_
            obtain ⟨o2, ho, hm⟩ := bind_some hm
            refine aw_mono (Q' := fun e fr' h' => (∃ (x15 : Sl), e = .exit 2 ∧ (x15, h') = o2 ∧ h' = h' ∧ Has fr' 66 [(0, .slice p0.r p0.n), (1, .str p1), (2, .slice p2.r p2.n), (7, .slice x4.r x4.n), (10, .slice x15.r x15.n)]) ∨ False) ?_ ?_
            · refine aw_loop (by kernel_rfl) (fun (s : Sl × Int × AHeap) fr' h' => ∃ (x16 : Sl) (x17 : Int), (x16, x17, h') = s ∧ h' = h' ∧ Has fr' 66 [(0, .slice p0.r p0.n), (1, .str p1), (2, .slice p2.r p2.n), (7, .slice x4.r x4.n), (10, .slice x16.r x16.n), (43, .slice p2.r p2.n), (44, .int .i64 ((p2.n : Nat) : Int)), (45, .int .i64 x17)]) ho ⟨(⟨none, 0⟩ : Sl), (0 : Int), rfl, rfl, H.less _ (fun fr => by kernel_rfl)⟩ ?_
              clear ho hm H
              intro s q fr h7 hI hm
              obtain ⟨x16, x17, rfl, _, H⟩ := hI
              unfold M_boulterlaw23_SubstExpands_L1 at hm
              refine aw_seq (by kernel_rfl) ?_
              refine aw_reg (id := 13) (n := 1) [(0, [])] (by kernel_rfl) (by kernel_rfl) ?_
              refine at_seg [(0, [])] [(0, .slice p0.r p0.n), (1, .str p1), (2, .slice p2.r p2.n), (7, .slice x4.r x4.n), (10, .slice x16.r x16.n), (43, .slice p2.r p2.n), (44, .int .i64 ((p2.n : Nat) : Int)), (45, .int .i64 x17), (46, .bool (decide (x17 < ((p2.n : Nat) : Int))))] H (noU_all rfl) (fun fr => by kernel_rfl) ?_
              intro fr H
              refine at_nil ?_
              show AW cfg 7 (⟨h.size, []⟩ : Gd) (right (left (left (right (left (right (right (right (right (right (bodyC cfg.P 7))))))))))) fr h7 _
              refine aw_seq (by kernel_rfl) ?_
              rcases iteB_some hm with ⟨hb, hm⟩ | ⟨hb, hm⟩
              · replace H := H.know 46 hb (by kernel_rfl)
                refine aw_true (x := .tmp 46) (by kernel_rfl) H (fun fr => by kernel_rfl) ?_
                refine aw_skip (by kernel_rfl) ?_
                show AW cfg 7 (⟨h.size, []⟩ : Gd) (right (right (left (left (right (left (right (right (right (right (right (bodyC cfg.P 7)))))))))))) fr h7 _
                refine aw_seq (by kernel_rfl) ?_
                refine aw_block (id := 3) (by kernel_rfl) ?_
                refine aw_seq (by kernel_rfl) ?_
                refine aw_reg (id := 14) (n := 4) [(0, []), (1, []), (2, []), (3, [])] (by kernel_rfl) (by kernel_rfl) ?_
                obtain ⟨a2, hx, hm⟩ := bind_some hm
                refine at_step (v := .ptr (some a2)) (h1 := h7) [(0, .slice p0.r p0.n), (1, .str p1), (2, .slice p2.r p2.n), (7, .slice x4.r x4.n), (10, .slice x16.r x16.n), (43, .slice p2.r p2.n), (44, .int .i64 ((p2.n : Nat) : Int)), (45, .int .i64 x17), (47, .ptr (some (a2.1, a2.2)))] H (fun fr => by kernel_rfl) (fun fr => .of (s_ixL (s := p2) (by kernel_rfl) hx)) ?_
                intro fr t H
                obtain ⟨x18, hx, hm⟩ := bind_some hm
                refine at_step (v := .agg x18) (h1 := h7) [(0, .slice p0.r p0.n), (1, .str p1), (2, .slice p2.r p2.n), (7, .slice x4.r x4.n), (10, .slice x16.r x16.n), (43, .slice p2.r p2.n), (44, .int .i64 ((p2.n : Nat) : Int)), (45, .int .i64 x17), (48, .agg x18)] H (fun fr => by kernel_rfl) (fun fr => .of (s_ldA (by kernel_rfl) hx)) ?_
                intro fr t H
                obtain ⟨h8, hx, hm⟩ := bind_some hm
                refine at_step (v := .ptr (some (h7.size, 0))) (h1 := h8) [(0, .slice p0.r p0.n), (1, .str p1), (2, .slice p2.r p2.n), (7, .slice x4.r x4.n), (10, .slice x16.r x16.n), (12, .ptr (some (h7.size, 0))), (43, .slice p2.r p2.n), (44, .int .i64 ((p2.n : Nat) : Int)), (45, .int .i64 x17), (48, .agg x18)] H (fun fr => by kernel_rfl) (fun fr => .of (s_n' (by kernel_rfl) hx)) ?_
                intro fr t H
                obtain ⟨h9, hx, hm⟩ := bind_some hm
                refine at_step (v := .tuple []) (h1 := h9) [(0, .slice p0.r p0.n), (1, .str p1), (2, .slice p2.r p2.n), (7, .slice x4.r x4.n), (10, .slice x16.r x16.n), (12, .ptr (some (h7.size, 0))), (43, .slice p2.r p2.n), (44, .int .i64 ((p2.n : Nat) : Int)), (45, .int .i64 x17)] H (fun fr => by kernel_rfl) (fun fr => .of (s_stG (by kernel_rfl) hx)) ?_
                intro fr t H
                refine at_nil ?_
                show AW cfg 7 (⟨h.size, []⟩ : Gd) (right (left (left (right (right (left (left (right (left (right (right (right (right (right (bodyC cfg.P 7))))))))))))))) fr h9 _
                refine aw_reg (id := 15) (n := 5) [(0, []), (1, []), (2, []), (3, []), (4, [])] (by kernel_rfl) (by kernel_rfl) ?_
                refine at_seg [(0, [])] [(0, .slice p0.r p0.n), (1, .str p1), (2, .slice p2.r p2.n), (7, .slice x4.r x4.n), (12, .ptr (some (h7.size, 0))), (43, .slice p2.r p2.n), (44, .int .i64 ((p2.n : Nat) : Int)), (45, .int .i64 x17), (49, .slice x16.r x16.n)] H (noU_all rfl) (fun fr => by kernel_rfl) ?_
                intro fr H
                obtain ⟨x19, hx, hm⟩ := bind_some hm
                refine at_step (v := .agg x19) (h1 := h9) [(0, .slice p0.r p0.n), (1, .str p1), (2, .slice p2.r p2.n), (7, .slice x4.r x4.n), (43, .slice p2.r p2.n), (44, .int .i64 ((p2.n : Nat) : Int)), (45, .int .i64 x17), (49, .slice x16.r x16.n), (50, .agg x19)] H (fun fr => by kernel_rfl) (fun fr => .of (s_ldA (by kernel_rfl) hx)) ?_
                intro fr t H
                obtain ⟨hb, hm⟩ := need_some hm
                obtain ⟨h10, hx, hm⟩ := bind_some hm
                refine at_step (v := .slice (some (h9.size, 0)) 1) (h1 := h10) [(0, .slice p0.r p0.n), (1, .str p1), (2, .slice p2.r p2.n), (7, .slice x4.r x4.n), (43, .slice p2.r p2.n), (44, .int .i64 ((p2.n : Nat) : Int)), (45, .int .i64 x17), (49, .slice x16.r x16.n), (51, .slice (some (h9.size, 0)) 1)] H (fun fr => by kernel_rfl) (fun fr => .of (s_one (by kernel_rfl) hb hx)) ?_
                intro fr t H
                obtain ⟨⟨x20, h11⟩, hx, hm⟩ := bind_some hm
                refine at_step (v := .slice x20.r x20.n) (h1 := h11) [(0, .slice p0.r p0.n), (1, .str p1), (2, .slice p2.r p2.n), (7, .slice x4.r x4.n), (43, .slice p2.r p2.n), (44, .int .i64 ((p2.n : Nat) : Int)), (45, .int .i64 x17), (52, .slice x20.r x20.n)] H (fun fr => by kernel_rfl) (fun fr => .of (s_app (s := x16) (by kernel_rfl) hx)) ?_
                intro fr t H
                refine at_seg [(4, [])] [(0, .slice p0.r p0.n), (1, .str p1), (2, .slice p2.r p2.n), (7, .slice x4.r x4.n), (10, .slice x20.r x20.n), (43, .slice p2.r p2.n), (44, .int .i64 ((p2.n : Nat) : Int)), (45, .int .i64 x17)] H (noU_all rfl) (fun fr => by kernel_rfl) ?_
                intro fr H
                refine at_nil ?_
                show AW cfg 7 (⟨h.size, []⟩ : Gd) (right (right (right (left (left (right (left (right (right (right (right (right (bodyC cfg.P 7))))))))))))) fr h11 _
                refine aw_reg (id := 16) (n := 2) [(0, []), (1, [])] (by kernel_rfl) (by kernel_rfl) ?_
                refine at_seg [(0, []), (1, [])] [(0, .slice p0.r p0.n), (1, .str p1), (2, .slice p2.r p2.n), (7, .slice x4.r x4.n), (10, .slice x20.r x20.n), (43, .slice p2.r p2.n), (44, .int .i64 ((p2.n : Nat) : Int)), (45, .int .i64 (IntKind.i64.wrap (x17 + (1 : Int))))] H (noU_all rfl) (fun fr => by kernel_rfl) ?_
                intro fr H
                refine at_nil ?_
                exact Exists.intro (x20, IntKind.i64.wrap (x17 + (1 : Int)), h11) (And.intro (Option.some.inj hm).symm ⟨x20, IntKind.i64.wrap (x17 + (1 : Int)), rfl, rfl, H.less _ (fun fr => by kernel_rfl)⟩)
              · replace H := H.know 46 hb (by kernel_rfl)
                refine aw_false (x := .tmp 46) (by kernel_rfl) H (fun fr => by kernel_rfl) ?_
                refine aw_exit (i := 2) (by kernel_rfl) ?_
                exact Exists.intro _ (And.intro (Option.some.inj hm).symm (fun e => Or.inl ⟨x16, rfl, e, rfl, H.less _ (fun fr => by kernel_rfl)⟩))
            · clear ho
              intro e fr h12 hQ
              rcases hQ with ⟨x15, rfl, rfl, _, H⟩ | hF
              · skip
                show AW cfg 7 (⟨h.size, []⟩ : Gd) (right (right (right (right (right (right (bodyC cfg.P 7))))))) fr h12 _
                refine aw_seq (by kernel_rfl) ?_
                refine aw_reg (id := 17) (n := 13) [(0, []), (1, []), (2, []), (3, []), (4, []), (5, []), (6, []), (7, []), (8, []), (9, []), (10, []), (11, []), (12, [])] (by kernel_rfl) (by kernel_rfl) ?_
                refine at_seg [(0, []), (1, []), (2, [])] [(1, .str p1), (7, .slice x4.r x4.n), (10, .slice x15.r x15.n), (54, .slice p0.r p0.n), (55, .str p1), (56, .slice p2.r p2.n)] H (noU_all rfl) (fun fr => by kernel_rfl) ?_
                intro fr H
                obtain ⟨x21, hx, hm⟩ := bind_some hm
                refine at_step (v := .str x21) (h1 := h12) [(1, .str p1), (7, .slice x4.r x4.n), (10, .slice x15.r x15.n), (57, .str x21)] H (fun fr => by kernel_rfl) (fun fr => Steps.call (by kernel_rfl) (ok_subst_Expand hx)) ?_
                intro fr t H
                refine at_seg [(4, []), (5, []), (6, [])] [(57, .str x21), (58, .slice x4.r x4.n), (59, .str p1), (60, .slice x15.r x15.n)] H (noU_all rfl) (fun fr => by kernel_rfl) ?_
                intro fr H
                obtain ⟨x22, hx, hm⟩ := bind_some hm
                refine at_step (v := .str x22) (h1 := h12) [(57, .str x21), (61, .str x22)] H (fun fr => by kernel_rfl) (fun fr => Steps.call (by kernel_rfl) (ok_boulterref23_Expand hx)) ?_
                intro fr t H
                refine at_seg [(8, []), (9, [])] [(63, .bool (x21 == x22))] H (noU_all rfl) (fun fr => by kernel_rfl) ?_
                intro fr H
                obtain ⟨x23, ho, hm⟩ := bind_some hm
                refine at_cut [(10, []), (11, [])] (fun fr' h' => h12 = h' ∧ Has fr' 66 [(65, .bool x23)]) ?_ ?_
                · rcases iteB_some ho with ⟨hb, hm⟩ | ⟨hb, hm⟩
                  · replace H := H.know 63 hb (by kernel_rfl)
                    obtain ⟨x24, hx, hm⟩ := bind_some hm
                    refine at_step (v := .bool x24) (h1 := h12) [(63, .bool true), (64, .bool x24)] H (fun fr => by kernel_rfl) (fun fr => Steps.call (by kernel_rfl) (ok_boulterlaw23_awake hx)) ?_
                    intro fr t H
                    refine at_seg [(11, [])] [(65, .bool x24)] H (noU_all rfl) (fun fr => by kernel_rfl) ?_
                    intro fr H
                    have e1 := Option.some.inj hm
                    subst e1
                    exact at_nil ⟨rfl, H.less _ (fun fr => by kernel_rfl)⟩
                  · replace H := H.know 63 hb (by kernel_rfl)
                    refine at_seg [(10, []), (11, [])] [(65, .bool false)] H (noU_all rfl) (fun fr => by kernel_rfl) ?_
                    intro fr H
                    have e1 := Option.some.inj hm
                    subst e1
                    exact at_nil ⟨rfl, H.less _ (fun fr => by kernel_rfl)⟩
                · intro t fr h' hK
                  obtain ⟨e, H⟩ := hK
                  subst e
                  refine at_seg [(12, [])] [(6, .bool x23)] H (noU_all rfl) (fun fr => by kernel_rfl) ?_
                  intro fr H
                  refine at_nil ?_
                  show AW cfg 7 (⟨h.size, []⟩ : Gd) (right (right (right (right (right (right (right (bodyC cfg.P 7)))))))) fr h12 _
                  refine aw_ret (by kernel_rfl) ?_
                  have e1 := Option.some.inj hm
                  subst e1
                  exact (doneE_of .ret H (fun fr => by kernel_rfl) (.inl rfl) : doneE cfg.P _ _ _ fr _)
              · exact hF.elim
          · skip
            have e1 := Option.some.inj hm
            subst e1
            exact (doneE_of .ret H (fun fr => by kernel_rfl) (.inl rfl) : doneE cfg.P _ _ _ fr _)
          · exact hF.elim
/-! ### boulter/boulterlaw23.SubstParses -/
noncomputable def M_boulterlaw23_SubstParses_L0 (x2 : Sl) (x5 : Sl) (h2 : AHeap) (s : Int × Int) : Option ((Int × Int) ⊕ ((Int) ⊕ (Bool))) :=
  match s with
  | (x12, x13) => iteB (decide (x13 < ((x5.n : Nat) : Int))) (((ixL x2 3 x13).bind fun a1 => (ldA h2 (a1.1, a1.2) 3).bind fun x16 => (ixL x5 3 x13).bind fun a2 => (ldA h2 (a2.1, a2.2) 3).bind fun x17 => (eqG cfg.P 51 x16 x17).bind fun x18 => iteB (!x18) (some (.inr false)) ((ixL x5 3 x13).bind fun a3 => (ldI h2 (a3.1, a3.2 + 0) .i64).bind fun x19 => iteB (x19 == (1 : Int)) ((ixL x5 3 x13).bind fun a4 => (ldI h2 (a4.1, a4.2 + 1) .i64).bind fun x20 => some (.inl (mx x12 x20))) (some (.inl x12))) : Option ((Int) ⊕ (Bool))).bind fun o2 => (match o2 with | .inl x14 => some (.inl (x14, IntKind.i64.wrap (x13 + (1 : Int)))) | .inr x15 => some (.inr (.inr x15)))) (some (.inr (.inl x12)))
noncomputable def M_boulterlaw23_SubstParses (h : AHeap) (p0 : List UInt8) : Option (Bool) :=
 iteB (decide ((p0.length : Int) > (300 : Int))) ((M_boulterlaw23_awake).bind fun x1 => some x1) ((M_subst_Parse (⟨h.size, []⟩ : Gd) h p0).bind fun ((x2, x3, x4), h1) => (M_boulterref23_Parse (⟨h.size, []⟩ : Gd) h1 p0).bind fun ((x5, x6, x7), h2) => iteB (((x3 != x6) || (x4 != x7)) || (((x2.n : Nat) : Int) != ((x5.n : Nat) : Int))) (some false) ((loop (M_boulterlaw23_SubstParses_L0 x2 x5 h2) ((0 : Int), (0 : Int))).bind fun o1 => (match o1 with | .inl x10 => (M_subst_Highest h2 x2).bind fun x21 => (iteB (x21 == x10) ((M_boulterlaw23_awake).bind fun x23 => some x23) (some false) : Option (Bool)).bind fun x22 => some x22 | .inr x11 => some x11)))
theorem ok_boulterlaw23_SubstParses {g : Gd} {h : AHeap} {p0 : List UInt8} {r0 : Bool} (hm : M_boulterlaw23_SubstParses h p0 = some r0) : Runs cfg g h 12 [.str p0] (.bool r0) h := by
  refine runs2E (by kernel_rfl) (by kernel_rfl) (body_ofE (n := 77) (rs := [.tmp 2]) (by kernel_rfl) ?_)
  unfold M_boulterlaw23_SubstParses at hm
  refine start (n := 77) [(0, .str p0)] (by kernel_rfl) (by kernel_rfl) ?_
  intro fr H
  refine aw_seq (by kernel_rfl) ?_
  refine aw_reg (id := 0) (n := 1) [(0, [])] (by kernel_rfl) (by kernel_rfl) ?_
  refine at_seg [(0, [])] [(0, .str p0)] H (noU_all rfl) (fun fr => by kernel_rfl) ?_
  intro fr H
  refine at_nil ?_
  show AW cfg 12 (⟨h.size, []⟩ : Gd) (right (bodyC cfg.P 12)) fr h _
  refine aw_seq (by kernel_rfl) ?_
  refine aw_seq (by kernel_rfl) ?_
  refine aw_reg (id := 1) (n := 3) [(0, []), (1, []), (2, [])] (by kernel_rfl) (by kernel_rfl) ?_
  refine at_seg [(0, []), (1, []), (2, [])] [(0, .str p0), (13, .bool (decide ((p0.length : Int) > (300 : Int))))] H (noU_all rfl) (fun fr => by kernel_rfl) ?_
  intro fr H
  refine at_nil ?_
  show AW cfg 12 (⟨h.size, []⟩ : Gd) (right (left (right (bodyC cfg.P 12)))) fr h _
  rcases iteB_some hm with ⟨hb, hm⟩ | ⟨hb, hm⟩
  · replace H := H.know 13 hb (by kernel_rfl)
    refine aw_true (x := .tmp 13) (by kernel_rfl) H (fun fr => by kernel_rfl) ?_
    refine aw_seq (by kernel_rfl) ?_
    refine aw_reg (id := 2) (n := 2) [(0, []), (1, [])] (by kernel_rfl) (by kernel_rfl) ?_
    obtain ⟨x1, hx, hm⟩ := bind_some hm
    refine at_step (v := .bool x1) (h1 := h) [(14, .bool x1)] H (fun fr => by kernel_rfl) (fun fr => Steps.call (by kernel_rfl) (ok_boulterlaw23_awake hx)) ?_
    intro fr t H
    refine at_seg [(1, [])] [(2, .bool x1)] H (noU_all rfl) (fun fr => by kernel_rfl) ?_
    intro fr H
    refine at_nil ?_
    show AW cfg 12 (⟨h.size, []⟩ : Gd) (right (left (right (left (right (bodyC cfg.P 12)))))) fr h _
    refine aw_ret (by kernel_rfl) ?_
    have e1 := Option.some.inj hm
    subst e1
    exact (doneE_of .ret H (fun fr => by kernel_rfl) (.inl rfl) : doneE cfg.P _ _ _ fr _)
  · replace H := H.know 13 hb (by kernel_rfl)
    refine aw_false (x := .tmp 13) (by kernel_rfl) H (fun fr => by kernel_rfl) ?_
    refine aw_skip (by kernel_rfl) ?_
    show AW cfg 12 (⟨h.size, []⟩ : Gd) (right (right (bodyC cfg.P 12))) fr h _
    refine aw_seq (by kernel_rfl) ?_
    refine aw_reg (id := 3) (n := 9) [(0, []), (1, []), (2, []), (3, []), (4, []), (5, []), (6, []), (7, []), (8, [])] (by kernel_rfl) (by kernel_rfl) ?_
    refine at_seg [(0, [])] [(0, .str p0), (16, .str p0)] H (noU_all rfl) (fun fr => by kernel_rfl) ?_
    intro fr H
    obtain ⟨⟨⟨x2, x3, x4⟩, h1⟩, hx, hm⟩ := bind_some hm
    refine at_step (v := .tuple [.slice x2.r x2.n, .int .i64 x3, .int .i64 x4]) (h1 := h1) [(0, .str p0), (17, .tuple [.slice x2.r x2.n, .int .i64 x3, .int .i64 x4])] H (fun fr => by kernel_rfl) (fun fr => Steps.call (by kernel_rfl) (ok_subst_Parse hx)) ?_
    intro fr t H
    refine at_seg [(2, []), (3, []), (4, []), (5, []), (6, []), (7, []), (8, [])] [(0, .str p0), (3, .slice x2.r x2.n), (4, .int .i64 x3), (5, .int .i64 x4)] H (noU_all rfl) (fun fr => by kernel_rfl) ?_
    intro fr H
    refine at_nil ?_
    show AW cfg 12 (⟨h.size, []⟩ : Gd) (right (right (right (bodyC cfg.P 12)))) fr h1 _
    refine aw_seq (by kernel_rfl) ?_
    refine aw_reg (id := 4) (n := 9) [(0, []), (1, []), (2, []), (3, []), (4, []), (5, []), (6, []), (7, []), (8, [])] (by kernel_rfl) (by kernel_rfl) ?_
    refine at_seg [(0, [])] [(3, .slice x2.r x2.n), (4, .int .i64 x3), (5, .int .i64 x4), (22, .str p0)] H (noU_all rfl) (fun fr => by kernel_rfl) ?_
    intro fr H
    obtain ⟨⟨⟨x5, x6, x7⟩, h2⟩, hx, hm⟩ := bind_some hm
    refine at_step (v := .tuple [.slice x5.r x5.n, .int .i64 x6, .int .i64 x7]) (h1 := h2) [(3, .slice x2.r x2.n), (4, .int .i64 x3), (5, .int .i64 x4), (23, .tuple [.slice x5.r x5.n, .int .i64 x6, .int .i64 x7])] H (fun fr => by kernel_rfl) (fun fr => Steps.call (by kernel_rfl) (ok_boulterref23_Parse hx)) ?_
    intro fr t H
    refine at_seg [(2, []), (3, []), (4, []), (5, []), (6, []), (7, []), (8, [])] [(3, .slice x2.r x2.n), (4, .int .i64 x3), (5, .int .i64 x4), (6, .slice x5.r x5.n), (7, .int .i64 x6), (8, .int .i64 x7)] H (noU_all rfl) (fun fr => by kernel_rfl) ?_
    intro fr H
    refine at_nil ?_
    show AW cfg 12 (⟨h.size, []⟩ : Gd) (right (right (right (right (bodyC cfg.P 12))))) fr h2 _
    refine aw_seq (by kernel_rfl) ?_
    refine aw_seq (by kernel_rfl) ?_
    refine aw_reg (id := 5) (n := 15) [(0, []), (1, []), (2, []), (3, []), (4, []), (5, []), (6, []), (7, []), (8, []), (9, []), (10, []), (11, []), (12, []), (13, []), (14, [])] (by kernel_rfl) (by kernel_rfl) ?_
    refine at_seg [(0, []), (1, []), (2, []), (3, [])] [(3, .slice x2.r x2.n), (5, .int .i64 x4), (6, .slice x5.r x5.n), (8, .int .i64 x7), (30, .bool (x3 != x6))] H (noU_all rfl) (fun fr => by kernel_rfl) ?_
    intro fr H
    refine at_cut [(4, []), (5, []), (6, []), (7, [])] (fun fr' h' => h2 = h' ∧ Has fr' 77 [(3, .slice x2.r x2.n), (6, .slice x5.r x5.n), (34, .bool ((x3 != x6) || (x4 != x7)))]) ?_ ?_
    · cases hb : (x3 != x6 : Bool) with
      | true =>
        replace H := H.know 30 hb (by kernel_rfl)
        refine at_seg [(4, []), (5, []), (6, []), (7, [])] [(3, .slice x2.r x2.n), (6, .slice x5.r x5.n), (34, .bool true)] H (noU_all rfl) (fun fr => by kernel_rfl) ?_
        intro fr H
        exact at_nil ⟨rfl, by first | exact H.less _ (fun fr => by rfl) | exact H.less _ (fun fr => by rw [hb]; rfl)⟩
      | false =>
        replace H := H.know 30 hb (by kernel_rfl)
        refine at_seg [(4, []), (5, []), (6, []), (7, [])] [(3, .slice x2.r x2.n), (6, .slice x5.r x5.n), (34, .bool (x4 != x7))] H (noU_all rfl) (fun fr => by kernel_rfl) ?_
        intro fr H
        exact at_nil ⟨rfl, by first | exact H.less _ (fun fr => by rfl) | exact H.less _ (fun fr => by rw [hb]; rfl)⟩
    · intro t fr h' hK
      obtain ⟨e, H⟩ := hK
      subst e
      refine at_seg [(8, [])] [(3, .slice x2.r x2.n), (6, .slice x5.r x5.n), (35, .bool ((x3 != x6) || (x4 != x7)))] H (noU_all rfl) (fun fr => by kernel_rfl) ?_
      intro fr H
      refine at_cut [(9, []), (10, []), (11, []), (12, []), (13, []), (14, [])] (fun fr' h' => h2 = h' ∧ Has fr' 77 [(3, .slice x2.r x2.n), (6, .slice x5.r x5.n), (41, .bool (((x3 != x6) || (x4 != x7)) || (((x2.n : Nat) : Int) != ((x5.n : Nat) : Int))))]) ?_ ?_
      · cases hb : ((x3 != x6) || (x4 != x7) : Bool) with
        | true =>
          replace H := H.know 35 hb (by kernel_rfl)
          refine at_seg [(9, []), (10, []), (11, []), (12, []), (13, []), (14, [])] [(3, .slice x2.r x2.n), (6, .slice x5.r x5.n), (41, .bool true)] H (noU_all rfl) (fun fr => by kernel_rfl) ?_
          intro fr H
          exact at_nil ⟨rfl, by first | exact H.less _ (fun fr => by rfl) | exact H.less _ (fun fr => by rw [hb]; rfl)⟩
        | false =>
          replace H := H.know 35 hb (by kernel_rfl)
          refine at_seg [(9, []), (10, []), (11, []), (12, []), (13, []), (14, [])] [(3, .slice x2.r x2.n), (6, .slice x5.r x5.n), (41, .bool (((x2.n : Nat) : Int) != ((x5.n : Nat) : Int)))] H (noU_all rfl) (fun fr => by kernel_rfl) ?_
          intro fr H
          exact at_nil ⟨rfl, by first | exact H.less _ (fun fr => by rfl) | exact H.less _ (fun fr => by rw [hb]; rfl)⟩
      · intro t fr h' hK
        obtain ⟨e, H⟩ := hK
        subst e
        refine at_nil ?_
        show AW cfg 12 (⟨h.size, []⟩ : Gd) (right (left (right (right (right (right (bodyC cfg.P 12))))))) fr h2 _
        rcases iteB_some hm with ⟨hb, hm⟩ | ⟨hb, hm⟩
        · replace H := H.know 41 hb (by kernel_rfl)
          refine aw_true (x := .tmp 41) (by kernel_rfl) H (fun fr => by kernel_rfl) ?_
          refine aw_seq (by kernel_rfl) ?_
          refine aw_reg (id := 6) (n := 1) [(0, [])] (by kernel_rfl) (by kernel_rfl) ?_
          refine at_seg [(0, [])] [(2, .bool false)] H (noU_all rfl) (fun fr => by kernel_rfl) ?_
          intro fr H
          refine at_nil ?_
          show AW cfg 12 (⟨h.size, []⟩ : Gd) (right (left (right (left (right (right (right (right (bodyC cfg.P 12))))))))) fr h2 _
          refine aw_ret (by kernel_rfl) ?_
          have e1 := Option.some.inj hm
          subst e1
          exact (doneE_of .ret H (fun fr => by kernel_rfl) (.inl rfl) : doneE cfg.P _ _ _ fr _)
        · replace H := H.know 41 hb (by kernel_rfl)
          refine aw_false (x := .tmp 41) (by kernel_rfl) H (fun fr => by kernel_rfl) ?_
          refine aw_skip (by kernel_rfl) ?_
          show AW cfg 12 (⟨h.size, []⟩ : Gd) (right (right (right (right (right (bodyC cfg.P 12)))))) fr h2 _
          refine aw_seq (by kernel_rfl) ?_
          refine aw_reg (id := 7) (n := 1) [(0, [])] (by kernel_rfl) (by kernel_rfl) ?_
          refine at_seg [(0, [])] [(3, .slice x2.r x2.n), (6, .slice x5.r x5.n), (9, .int .i64 (0 : Int))] H (noU_all rfl) (fun fr => by kernel_rfl) ?_
          intro fr H
          refine at_nil ?_
          show AW cfg 12 (⟨h.size, []⟩ : Gd) (right (right (right (right (right (right (bodyC cfg.P 12))))))) fr h2 _
          refine aw_seq (by kernel_rfl) ?_
          refine aw_seq (by kernel_rfl) ?_
          refine aw_reg (id := 8) (n := 3) [(0, []), (1, []), (2, [])] (by kernel_rfl) (by kernel_rfl) ?_
          refine at_seg [(0, []), (1, []), (2, [])] [(3, .slice x2.r x2.n), (6, .slice x5.r x5.n), (9, .int .i64 (0 : Int)), (43, .int .i64 ((x5.n : Nat) : Int)), (44, .int .i64 (0 : Int))] H (noU_all rfl) (fun fr => by kernel_rfl) ?_
          intro fr H
          refine at_nil ?_
          show AW cfg 12 (⟨h.size, []⟩ : Gd) (right (left (right (right (right (right (right (right (bodyC cfg.P 12))))))))) fr h2 _
          refine aw_block (id := 0) (by kernel_rfl) ?_
          obtain ⟨o1, ho, hm⟩ := bind_some hm
          refine aw_mono (Q' := fun e fr' h' => (∃ (x10 : Int), e = .exit 0 ∧ .inl x10 = o1 ∧ h2 = h' ∧ Has fr' 77 [(3, .slice x2.r x2.n), (9, .int .i64 x10)]) ∨ (∃ (x11 : Bool), e = .ret ∧ .inr x11 = o1 ∧ h2 = h' ∧ Has fr' 77 [(2, .bool x11)]) ∨ False) ?_ ?_
          · refine aw_loop (by kernel_rfl) (fun (s : Int × Int) fr' h' => ∃ (x12 : Int) (x13 : Int), (x12, x13) = s ∧ h2 = h' ∧ Has fr' 77 [(3, .slice x2.r x2.n), (6, .slice x5.r x5.n), (9, .int .i64 x12), (43, .int .i64 ((x5.n : Nat) : Int)), (44, .int .i64 x13)]) ho ⟨(0 : Int), (0 : Int), rfl, rfl, H.less _ (fun fr => by kernel_rfl)⟩ ?_
            clear ho hm H
            intro s q fr hz hI hm
            obtain ⟨x12, x13, rfl, rfl, H⟩ := hI
            unfold M_boulterlaw23_SubstParses_L0 at hm
            refine aw_seq (by kernel_rfl) ?_
            refine aw_reg (id := 9) (n := 1) [(0, [])] (by kernel_rfl) (by kernel_rfl) ?_
            refine at_seg [(0, [])] [(3, .slice x2.r x2.n), (6, .slice x5.r x5.n), (9, .int .i64 x12), (43, .int .i64 ((x5.n : Nat) : Int)), (44, .int .i64 x13), (45, .bool (decide (x13 < ((x5.n : Nat) : Int))))] H (noU_all rfl) (fun fr => by kernel_rfl) ?_
            intro fr H
            refine at_nil ?_
            show AW cfg 12 (⟨h.size, []⟩ : Gd) (right (left (left (right (left (right (right (right (right (right (right (bodyC cfg.P 12)))))))))))) fr h2 _
            refine aw_seq (by kernel_rfl) ?_
            rcases iteB_some hm with ⟨hb, hm⟩ | ⟨hb, hm⟩
            · replace H := H.know 45 hb (by kernel_rfl)
              refine aw_true (x := .tmp 45) (by kernel_rfl) H (fun fr => by kernel_rfl) ?_
              refine aw_skip (by kernel_rfl) ?_
              show AW cfg 12 (⟨h.size, []⟩ : Gd) (right (right (left (left (right (left (right (right (right (right (right (right (bodyC cfg.P 12))))))))))))) fr h2 _
              refine aw_seq (by kernel_rfl) ?_
              obtain ⟨o2, ho, hm⟩ := bind_some hm
              refine aw_mono (Q' := fun e fr' h' => (∃ (x14 : Int), e = .normal ∧ .inl x14 = o2 ∧ h2 = h' ∧ Has fr' 77 [(3, .slice x2.r x2.n), (6, .slice x5.r x5.n), (9, .int .i64 x14), (43, .int .i64 ((x5.n : Nat) : Int)), (44, .int .i64 x13)]) ∨ (∃ (x15 : Bool), e = .ret ∧ .inr x15 = o2 ∧ h2 = h' ∧ Has fr' 77 [(2, .bool x15)]) ∨ False) ?_ ?_
              · replace hm := ho
                clear ho
                refine aw_block (id := 1) (by kernel_rfl) ?_
                refine aw_seq (by kernel_rfl) ?_
                refine aw_reg (id := 10) (n := 2) [(0, []), (1, [])] (by kernel_rfl) (by kernel_rfl) ?_
                refine at_seg [(0, []), (1, [])] [(3, .slice x2.r x2.n), (6, .slice x5.r x5.n), (9, .int .i64 x12), (10, .int .i64 x13), (43, .int .i64 ((x5.n : Nat) : Int)), (44, .int .i64 x13)] H (noU_all rfl) (fun fr => by kernel_rfl) ?_
                intro fr H
                refine at_nil ?_
                show AW cfg 12 (⟨h.size, []⟩ : Gd) (right (left (left (right (right (left (left (right (left (right (right (right (right (right (right (bodyC cfg.P 12)))))))))))))))) fr h2 _
                refine aw_seq (by kernel_rfl) ?_
                refine aw_seq (by kernel_rfl) ?_
                refine aw_draw (id := 11) (n := 9) (by kernel_rfl) [(0, []), (1, []), (2, []), (3, []), (4, []), (5, []), (6, []), (7, []), (8, [])] (by kernel_rfl) ?_
                refine at_seg [(0, []), (1, [])] [(3, .slice x2.r x2.n), (6, .slice x5.r x5.n), (9, .int .i64 x12), (10, .int .i64 x13), (43, .int .i64 ((x5.n : Nat) : Int)), (44, .int .i64 x13), (47, .slice x2.r x2.n), (48, .int .i64 x13)] H (noU_all rfl) (fun fr => by kernel_rfl) ?_
                intro fr H
                obtain ⟨a1, hx, hm⟩ := bind_some hm
                refine at_step (v := .ptr (some a1)) (h1 := h2) [(3, .slice x2.r x2.n), (6, .slice x5.r x5.n), (9, .int .i64 x12), (10, .int .i64 x13), (43, .int .i64 ((x5.n : Nat) : Int)), (44, .int .i64 x13), (49, .ptr (some (a1.1, a1.2)))] H (fun fr => by kernel_rfl) (fun fr => .of (s_ixL (s := x2) (by kernel_rfl) hx)) ?_
                intro fr t H
                obtain ⟨x16, hx, hm⟩ := bind_some hm
                refine at_step (v := .agg x16) (h1 := h2) [(3, .slice x2.r x2.n), (6, .slice x5.r x5.n), (9, .int .i64 x12), (10, .int .i64 x13), (43, .int .i64 ((x5.n : Nat) : Int)), (44, .int .i64 x13), (50, .agg x16)] H (fun fr => by kernel_rfl) (fun fr => .of (s_ldA (by kernel_rfl) hx)) ?_
                intro fr t H
                refine at_seg [(4, []), (5, [])] [(3, .slice x2.r x2.n), (6, .slice x5.r x5.n), (9, .int .i64 x12), (10, .int .i64 x13), (43, .int .i64 ((x5.n : Nat) : Int)), (44, .int .i64 x13), (50, .agg x16), (51, .slice x5.r x5.n), (52, .int .i64 x13)] H (noU_all rfl) (fun fr => by kernel_rfl) ?_
                intro fr H
                obtain ⟨a2, hx, hm⟩ := bind_some hm
                refine at_step (v := .ptr (some a2)) (h1 := h2) [(3, .slice x2.r x2.n), (6, .slice x5.r x5.n), (9, .int .i64 x12), (10, .int .i64 x13), (43, .int .i64 ((x5.n : Nat) : Int)), (44, .int .i64 x13), (50, .agg x16), (53, .ptr (some (a2.1, a2.2)))] H (fun fr => by kernel_rfl) (fun fr => .of (s_ixL (s := x5) (by kernel_rfl) hx)) ?_
                intro fr t H
                obtain ⟨x17, hx, hm⟩ := bind_some hm
                refine at_step (v := .agg x17) (h1 := h2) [(3, .slice x2.r x2.n), (6, .slice x5.r x5.n), (9, .int .i64 x12), (10, .int .i64 x13), (43, .int .i64 ((x5.n : Nat) : Int)), (44, .int .i64 x13), (50, .agg x16), (54, .agg x17)] H (fun fr => by kernel_rfl) (fun fr => .of (s_ldA (by kernel_rfl) hx)) ?_
                intro fr t H
                obtain ⟨x18, hx, hm⟩ := bind_some hm
                refine at_step (v := .bool (!x18)) (h1 := h2) [(3, .slice x2.r x2.n), (6, .slice x5.r x5.n), (9, .int .i64 x12), (10, .int .i64 x13), (43, .int .i64 ((x5.n : Nat) : Int)), (44, .int .i64 x13), (55, .bool (!x18))] H (fun fr => by kernel_rfl) (fun fr => .of (s_neG (by kernel_rfl) hx)) ?_
                intro fr t H
                refine at_nil ?_
                show AW cfg 12 (⟨h.size, []⟩ : Gd) (right (left (right (left (left (right (right (left (left (right (left (right (right (right (right (right (right (bodyC cfg.P 12)))))))))))))))))) fr h2 _
                rcases iteB_some hm with ⟨hb, hm⟩ | ⟨hb, hm⟩
                · replace H := H.know 55 hb (by kernel_rfl)
                  refine aw_true (x := .tmp 55) (by kernel_rfl) H (fun fr => by kernel_rfl) ?_
                  refine aw_seq (by kernel_rfl) ?_
                  refine aw_reg (id := 12) (n := 1) [(0, [])] (by kernel_rfl) (by kernel_rfl) ?_
                  refine at_seg [(0, [])] [(2, .bool false)] H (noU_all rfl) (fun fr => by kernel_rfl) ?_
                  intro fr H
                  refine at_nil ?_
                  show AW cfg 12 (⟨h.size, []⟩ : Gd) (right (left (right (left (right (left (left (right (right (left (left (right (left (right (right (right (right (right (right (bodyC cfg.P 12)))))))))))))))))))) fr h2 _
                  refine aw_ret (by kernel_rfl) ?_
                  exact Or.inr (Or.inl ⟨false, rfl, Option.some.inj hm, rfl, H.less _ (fun fr => by kernel_rfl)⟩)
                · replace H := H.know 55 hb (by kernel_rfl)
                  refine aw_false (x := .tmp 55) (by kernel_rfl) H (fun fr => by kernel_rfl) ?_
                  refine aw_skip (by kernel_rfl) ?_
                  show AW cfg 12 (⟨h.size, []⟩ : Gd) (right (right (left (left (right (right (left (left (right (left (right (right (right (right (right (right (bodyC cfg.P 12))))))))))))))))) fr h2 _
                  refine aw_seq (by kernel_rfl) ?_
                  refine aw_reg (id := 13) (n := 6) [(0, []), (1, []), (2, []), (3, []), (4, []), (5, [])] (by kernel_rfl) (by kernel_rfl) ?_
                  refine at_seg [(0, []), (1, [])] [(3, .slice x2.r x2.n), (6, .slice x5.r x5.n), (9, .int .i64 x12), (10, .int .i64 x13), (43, .int .i64 ((x5.n : Nat) : Int)), (44, .int .i64 x13), (56, .slice x5.r x5.n), (57, .int .i64 x13)] H (noU_all rfl) (fun fr => by kernel_rfl) ?_
                  intro fr H
                  obtain ⟨a3, hx, hm⟩ := bind_some hm
                  refine at_step (v := .ptr (some a3)) (h1 := h2) [(3, .slice x2.r x2.n), (6, .slice x5.r x5.n), (9, .int .i64 x12), (10, .int .i64 x13), (43, .int .i64 ((x5.n : Nat) : Int)), (44, .int .i64 x13), (58, .ptr (some (a3.1, a3.2)))] H (fun fr => by kernel_rfl) (fun fr => .of (s_ixL (s := x5) (by kernel_rfl) hx)) ?_
                  intro fr t H
                  refine at_seg [(3, [])] [(3, .slice x2.r x2.n), (6, .slice x5.r x5.n), (9, .int .i64 x12), (10, .int .i64 x13), (43, .int .i64 ((x5.n : Nat) : Int)), (44, .int .i64 x13), (59, .ptr (some (a3.1, a3.2 + 0)))] H (noU_all rfl) (fun fr => by kernel_rfl) ?_
                  intro fr H
                  obtain ⟨x19, hx, hm⟩ := bind_some hm
                  refine at_step (v := .int .i64 x19) (h1 := h2) [(3, .slice x2.r x2.n), (6, .slice x5.r x5.n), (9, .int .i64 x12), (10, .int .i64 x13), (43, .int .i64 ((x5.n : Nat) : Int)), (44, .int .i64 x13), (60, .int .i64 x19)] H (fun fr => by kernel_rfl) (fun fr => .of (s_ld (by kernel_rfl) (ldI_eq hx))) ?_
                  intro fr t H
                  refine at_seg [(5, [])] [(3, .slice x2.r x2.n), (6, .slice x5.r x5.n), (9, .int .i64 x12), (10, .int .i64 x13), (43, .int .i64 ((x5.n : Nat) : Int)), (44, .int .i64 x13), (61, .bool (x19 == (1 : Int)))] H (noU_all rfl) (fun fr => by kernel_rfl) ?_
                  intro fr H
                  refine at_nil ?_
                  show AW cfg 12 (⟨h.size, []⟩ : Gd) (right (right (right (left (left (right (right (left (left (right (left (right (right (right (right (right (right (bodyC cfg.P 12)))))))))))))))))) fr h2 _
                  rcases iteB_some hm with ⟨hb, hm⟩ | ⟨hb, hm⟩
                  · replace H := H.know 61 hb (by kernel_rfl)
                    refine aw_true (x := .tmp 61) (by kernel_rfl) H (fun fr => by kernel_rfl) ?_
                    refine aw_reg (id := 14) (n := 8) [(0, []), (1, []), (2, []), (3, []), (4, []), (5, []), (6, []), (7, [])] (by kernel_rfl) (by kernel_rfl) ?_
                    refine at_seg [(0, []), (1, []), (2, [])] [(3, .slice x2.r x2.n), (6, .slice x5.r x5.n), (43, .int .i64 ((x5.n : Nat) : Int)), (44, .int .i64 x13), (62, .int .i64 x12), (63, .slice x5.r x5.n), (64, .int .i64 x13)] H (noU_all rfl) (fun fr => by kernel_rfl) ?_
                    intro fr H
                    obtain ⟨a4, hx, hm⟩ := bind_some hm
                    refine at_step (v := .ptr (some a4)) (h1 := h2) [(3, .slice x2.r x2.n), (6, .slice x5.r x5.n), (43, .int .i64 ((x5.n : Nat) : Int)), (44, .int .i64 x13), (62, .int .i64 x12), (65, .ptr (some (a4.1, a4.2)))] H (fun fr => by kernel_rfl) (fun fr => .of (s_ixL (s := x5) (by kernel_rfl) hx)) ?_
                    intro fr t H
                    refine at_seg [(4, [])] [(3, .slice x2.r x2.n), (6, .slice x5.r x5.n), (43, .int .i64 ((x5.n : Nat) : Int)), (44, .int .i64 x13), (62, .int .i64 x12), (66, .ptr (some (a4.1, a4.2 + 1)))] H (noU_all rfl) (fun fr => by kernel_rfl) ?_
                    intro fr H
                    obtain ⟨x20, hx, hm⟩ := bind_some hm
                    refine at_step (v := .int .i64 x20) (h1 := h2) [(3, .slice x2.r x2.n), (6, .slice x5.r x5.n), (43, .int .i64 ((x5.n : Nat) : Int)), (44, .int .i64 x13), (62, .int .i64 x12), (67, .int .i64 x20)] H (fun fr => by kernel_rfl) (fun fr => .of (s_ld (by kernel_rfl) (ldI_eq hx))) ?_
                    intro fr t H
                    refine at_seg [(6, []), (7, [])] [(3, .slice x2.r x2.n), (6, .slice x5.r x5.n), (9, .int .i64 (mx x12 x20)), (43, .int .i64 ((x5.n : Nat) : Int)), (44, .int .i64 x13)] H (noU_all rfl) (fun fr => by kernel_rfl) ?_
                    intro fr H
                    refine at_nil ?_
                    exact Or.inl ⟨mx x12 x20, rfl, Option.some.inj hm, rfl, H.less _ (fun fr => by kernel_rfl)⟩
                  · replace H := H.know 61 hb (by kernel_rfl)
                    refine aw_false (x := .tmp 61) (by kernel_rfl) H (fun fr => by kernel_rfl) ?_
                    refine aw_skip (by kernel_rfl) ?_
                    exact Or.inl ⟨x12, rfl, Option.some.inj hm, rfl, H.less _ (fun fr => by kernel_rfl)⟩
              · clear ho
                intro e fr hz hQ
                rcases hQ with ⟨x14, rfl, rfl, rfl, H⟩ | ⟨x15, rfl, rfl, rfl, H⟩ | hF
                · skip
                  show AW cfg 12 (⟨h.size, []⟩ : Gd) (right (right (right (left (left (right (left (right (right (right (right (right (right (bodyC cfg.P 12)))))))))))))) fr h2 _
                  refine aw_reg (id := 15) (n := 2) [(0, []), (1, [])] (by kernel_rfl) (by kernel_rfl) ?_
                  refine at_seg [(0, []), (1, [])] [(3, .slice x2.r x2.n), (6, .slice x5.r x5.n), (9, .int .i64 x14), (43, .int .i64 ((x5.n : Nat) : Int)), (44, .int .i64 (IntKind.i64.wrap (x13 + (1 : Int))))] H (noU_all rfl) (fun fr => by kernel_rfl) ?_
                  intro fr H
                  refine at_nil ?_
                  exact Exists.intro (x14, IntKind.i64.wrap (x13 + (1 : Int))) (And.intro (Option.some.inj hm).symm ⟨x14, IntKind.i64.wrap (x13 + (1 : Int)), rfl, rfl, H.less _ (fun fr => by kernel_rfl)⟩)
                · skip
                  exact Exists.intro _ (And.intro (Option.some.inj hm).symm (fun e => Or.inr (Or.inl ⟨x15, rfl, e, rfl, H.less _ (fun fr => by kernel_rfl)⟩)))
                · exact hF.elim
            · replace H := H.know 45 hb (by kernel_rfl)
              refine aw_false (x := .tmp 45) (by kernel_rfl) H (fun fr => by kernel_rfl) ?_
              refine aw_exit (i := 0) (by kernel_rfl) ?_
              exact Exists.intro _ (And.intro (Option.some.inj hm).symm (fun e => Or.inl ⟨x12, rfl, e, rfl, H.less _ (fun fr => by kernel_rfl)⟩))
          · clear ho
            intro e fr hz hQ
            rcases hQ with ⟨x10, rfl, rfl, rfl, H⟩ | ⟨x11, rfl, rfl, rfl, H⟩ | hF
            · skip
              show AW cfg 12 (⟨h.size, []⟩ : Gd) (right (right (right (right (right (right (right (bodyC cfg.P 12)))))))) fr h2 _
              refine aw_seq (by kernel_rfl) ?_
              refine aw_reg (id := 16) (n := 8) [(0, []), (1, []), (2, []), (3, []), (4, []), (5, []), (6, []), (7, [])] (by kernel_rfl) (by kernel_rfl) ?_
              refine at_seg [(0, [])] [(9, .int .i64 x10), (70, .slice x2.r x2.n)] H (noU_all rfl) (fun fr => by kernel_rfl) ?_
              intro fr H
              obtain ⟨x21, hx, hm⟩ := bind_some hm
              refine at_step (v := .int .i64 x21) (h1 := h2) [(9, .int .i64 x10), (71, .int .i64 x21)] H (fun fr => by kernel_rfl) (fun fr => Steps.call (by kernel_rfl) (ok_subst_Highest hx)) ?_
              intro fr t H
              refine at_seg [(2, []), (3, []), (4, [])] [(74, .bool (x21 == x10))] H (noU_all rfl) (fun fr => by kernel_rfl) ?_
              intro fr H
              obtain ⟨x22, ho, hm⟩ := bind_some hm
              refine at_cut [(5, []), (6, [])] (fun fr' h' => h2 = h' ∧ Has fr' 77 [(76, .bool x22)]) ?_ ?_
              · rcases iteB_some ho with ⟨hb, hm⟩ | ⟨hb, hm⟩
                · replace H := H.know 74 hb (by kernel_rfl)
                  obtain ⟨x23, hx, hm⟩ := bind_some hm
                  refine at_step (v := .bool x23) (h1 := h2) [(74, .bool true), (75, .bool x23)] H (fun fr => by kernel_rfl) (fun fr => Steps.call (by kernel_rfl) (ok_boulterlaw23_awake hx)) ?_
                  intro fr t H
                  refine at_seg [(6, [])] [(76, .bool x23)] H (noU_all rfl) (fun fr => by kernel_rfl) ?_
                  intro fr H
                  have e1 := Option.some.inj hm
                  subst e1
                  exact at_nil ⟨rfl, H.less _ (fun fr => by kernel_rfl)⟩
                · replace H := H.know 74 hb (by kernel_rfl)
                  refine at_seg [(5, []), (6, [])] [(76, .bool false)] H (noU_all rfl) (fun fr => by kernel_rfl) ?_
                  intro fr H
                  have e1 := Option.some.inj hm
                  subst e1
                  exact at_nil ⟨rfl, H.less _ (fun fr => by kernel_rfl)⟩
              · intro t fr h' hK
                obtain ⟨e, H⟩ := hK
                subst e
                refine at_seg [(7, [])] [(2, .bool x22)] H (noU_all rfl) (fun fr => by kernel_rfl) ?_
                intro fr H
                refine at_nil ?_
                show AW cfg 12 (⟨h.size, []⟩ : Gd) (right (right (right (right (right (right (right (right (bodyC cfg.P 12))))))))) fr h2 _
                refine aw_ret (by kernel_rfl) ?_
                have e1 := Option.some.inj hm
                subst e1
                exact (doneE_of .ret H (fun fr => by kernel_rfl) (.inl rfl) : doneE cfg.P _ _ _ fr _)
            · skip
              have e1 := Option.some.inj hm
              subst e1
              exact (doneE_of .ret H (fun fr => by kernel_rfl) (.inl rfl) : doneE cfg.P _ _ _ fr _)
            · exact hF.elim
/-! ### boulter/boulterlaw23.SubstQuotes -/
noncomputable def M_boulterlaw23_SubstQuotes (h : AHeap) (p0 : List UInt8) (p1 : List UInt8) : Option (Bool) :=
 iteB ((decide ((p0.length : Int) > (200 : Int))) || (decide ((p1.length : Int) > (200 : Int)))) ((M_boulterlaw23_awake).bind fun x1 => some x1) ((M_subst_Quote h p0).bind fun x2 => (M_subst_Parse (⟨h.size, []⟩ : Gd) h x2).bind fun ((x3, x4, x5), h1) => (iteB ((x4 == (0 : Int)) && (x5 == (0 : Int))) ((some (h1.push (.cells (some 54) 2 [.int .i64 (0 : Int), .int .i64 (p1.length : Int), .bool true]))).bind fun h3 => (M_subst_Expand h3 x3 p1 (⟨some (h1.size, 0), 1⟩ : Sl)).bind fun x7 => some (x7 == p0, h3)) (some (false, h1)) : Option (Bool × AHeap)).bind fun (x6, h2) => (iteB x6 ((M_subst_Highest h2 x3).bind fun x9 => some (x9 == (0 : Int))) (some false) : Option (Bool)).bind fun x8 => (iteB x8 ((M_boulterlaw23_awake).bind fun x11 => some x11) (some false) : Option (Bool)).bind fun x10 => some x10)
theorem ok_boulterlaw23_SubstQuotes {g : Gd} {h : AHeap} {p0 : List UInt8} {p1 : List UInt8} {r0 : Bool} (hm : M_boulterlaw23_SubstQuotes h p0 p1 = some r0) : Runs cfg g h 13 [.str p0, .str p1] (.bool r0) h := by
  refine runs2E (by kernel_rfl) (by kernel_rfl) (body_ofE (n := 49) (rs := [.tmp 4]) (by kernel_rfl) ?_)
  unfold M_boulterlaw23_SubstQuotes at hm
  refine start (n := 49) [(0, .str p0), (1, .str p1)] (by kernel_rfl) (by kernel_rfl) ?_
  intro fr H
  refine aw_seq (by kernel_rfl) ?_
  refine aw_reg (id := 0) (n := 1) [(0, [])] (by kernel_rfl) (by kernel_rfl) ?_
  refine at_seg [(0, [])] [(0, .str p0), (1, .str p1)] H (noU_all rfl) (fun fr => by kernel_rfl) ?_
  intro fr H
  refine at_nil ?_
  show AW cfg 13 (⟨h.size, []⟩ : Gd) (right (bodyC cfg.P 13)) fr h _
  refine aw_seq (by kernel_rfl) ?_
  refine aw_seq (by kernel_rfl) ?_
  refine aw_reg (id := 1) (n := 8) [(0, []), (1, []), (2, []), (3, []), (4, []), (5, []), (6, []), (7, [])] (by kernel_rfl) (by kernel_rfl) ?_
  refine at_seg [(0, []), (1, []), (2, []), (3, [])] [(0, .str p0), (1, .str p1), (11, .bool (decide ((p0.length : Int) > (200 : Int))))] H (noU_all rfl) (fun fr => by kernel_rfl) ?_
  intro fr H
  refine at_cut [(4, []), (5, []), (6, []), (7, [])] (fun fr' h' => h = h' ∧ Has fr' 49 [(0, .str p0), (1, .str p1), (15, .bool ((decide ((p0.length : Int) > (200 : Int))) || (decide ((p1.length : Int) > (200 : Int)))))]) ?_ ?_
  · cases hb : (decide ((p0.length : Int) > (200 : Int)) : Bool) with
    | true =>
      replace H := H.know 11 hb (by kernel_rfl)
      refine at_seg [(4, []), (5, []), (6, []), (7, [])] [(0, .str p0), (1, .str p1), (15, .bool true)] H (noU_all rfl) (fun fr => by kernel_rfl) ?_
      intro fr H
      exact at_nil ⟨rfl, by first | exact H.less _ (fun fr => by rfl) | exact H.less _ (fun fr => by rw [hb]; rfl)⟩
    | false =>
      replace H := H.know 11 hb (by kernel_rfl)
      refine at_seg [(4, []), (5, []), (6, []), (7, [])] [(0, .str p0), (1, .str p1), (15, .bool (decide ((p1.length : Int) > (200 : Int))))] H (noU_all rfl) (fun fr => by kernel_rfl) ?_
      intro fr H
      exact at_nil ⟨rfl, by first | exact H.less _ (fun fr => by rfl) | exact H.less _ (fun fr => by rw [hb]; rfl)⟩
  · intro t fr h' hK
    obtain ⟨e, H⟩ := hK
    subst e
    refine at_nil ?_
    show AW cfg 13 (⟨h.size, []⟩ : Gd) (right (left (right (bodyC cfg.P 13)))) fr h _
    rcases iteB_some hm with ⟨hb, hm⟩ | ⟨hb, hm⟩
    · replace H := H.know 15 hb (by kernel_rfl)
      refine aw_true (x := .tmp 15) (by kernel_rfl) H (fun fr => by kernel_rfl) ?_
      refine aw_seq (by kernel_rfl) ?_
      refine aw_reg (id := 2) (n := 2) [(0, []), (1, [])] (by kernel_rfl) (by kernel_rfl) ?_
      obtain ⟨x1, hx, hm⟩ := bind_some hm
      refine at_step (v := .bool x1) (h1 := h) [(16, .bool x1)] H (fun fr => by kernel_rfl) (fun fr => Steps.call (by kernel_rfl) (ok_boulterlaw23_awake hx)) ?_
      intro fr t H
      refine at_seg [(1, [])] [(4, .bool x1)] H (noU_all rfl) (fun fr => by kernel_rfl) ?_
      intro fr H
      refine at_nil ?_
      show AW cfg 13 (⟨h.size, []⟩ : Gd) (right (left (right (left (right (bodyC cfg.P 13)))))) fr h _
      refine aw_ret (by kernel_rfl) ?_
      have e1 := Option.some.inj hm
      subst e1
      exact (doneE_of .ret H (fun fr => by kernel_rfl) (.inl rfl) : doneE cfg.P _ _ _ fr _)
    · replace H := H.know 15 hb (by kernel_rfl)
      refine aw_false (x := .tmp 15) (by kernel_rfl) H (fun fr => by kernel_rfl) ?_
      refine aw_skip (by kernel_rfl) ?_
      show AW cfg 13 (⟨h.size, []⟩ : Gd) (right (right (bodyC cfg.P 13))) fr h _
      refine aw_seq (by kernel_rfl) ?_
      refine aw_reg (id := 3) (n := 10) [(0, []), (1, []), (2, []), (3, []), (4, []), (5, []), (6, []), (7, []), (8, []), (9, [])] (by kernel_rfl) (by kernel_rfl) ?_
      refine at_seg [(0, [])] [(0, .str p0), (1, .str p1), (18, .str p0)] H (noU_all rfl) (fun fr => by kernel_rfl) ?_
      intro fr H
      obtain ⟨x2, hx, hm⟩ := bind_some hm
      refine at_step (v := .str x2) (h1 := h) [(0, .str p0), (1, .str p1), (19, .str x2)] H (fun fr => by kernel_rfl) (fun fr => Steps.call (by kernel_rfl) (ok_subst_Quote hx)) ?_
      intro fr t H
      obtain ⟨⟨⟨x3, x4, x5⟩, h1⟩, hx, hm⟩ := bind_some hm
      refine at_step (v := .tuple [.slice x3.r x3.n, .int .i64 x4, .int .i64 x5]) (h1 := h1) [(0, .str p0), (1, .str p1), (20, .tuple [.slice x3.r x3.n, .int .i64 x4, .int .i64 x5])] H (fun fr => by kernel_rfl) (fun fr => Steps.call (by kernel_rfl) (ok_subst_Parse hx)) ?_
      intro fr t H
      refine at_seg [(3, []), (4, []), (5, []), (6, []), (7, []), (8, []), (9, [])] [(0, .str p0), (1, .str p1), (5, .slice x3.r x3.n), (6, .int .i64 x4), (7, .int .i64 x5)] H (noU_all rfl) (fun fr => by kernel_rfl) ?_
      intro fr H
      refine at_nil ?_
      show AW cfg 13 (⟨h.size, []⟩ : Gd) (right (right (right (bodyC cfg.P 13)))) fr h1 _
      refine aw_seq (by kernel_rfl) ?_
      refine aw_reg (id := 4) (n := 26) [(0, []), (1, []), (2, []), (3, []), (4, []), (5, []), (6, []), (7, []), (8, []), (9, []), (10, []), (11, []), (12, []), (13, []), (14, []), (15, []), (16, []), (17, []), (18, []), (19, []), (20, []), (21, []), (22, []), (23, []), (24, []), (25, [])] (by kernel_rfl) (by kernel_rfl) ?_
      refine at_seg [(0, []), (1, []), (2, [])] [(0, .str p0), (1, .str p1), (5, .slice x3.r x3.n), (7, .int .i64 x5), (26, .bool (x4 == (0 : Int)))] H (noU_all rfl) (fun fr => by kernel_rfl) ?_
      intro fr H
      refine at_cut [(3, []), (4, []), (5, [])] (fun fr' h' => h1 = h' ∧ Has fr' 49 [(0, .str p0), (1, .str p1), (5, .slice x3.r x3.n), (29, .bool ((x4 == (0 : Int)) && (x5 == (0 : Int))))]) ?_ ?_
      · cases hb : (x4 == (0 : Int) : Bool) with
        | true =>
          replace H := H.know 26 hb (by kernel_rfl)
          refine at_seg [(3, []), (4, []), (5, [])] [(0, .str p0), (1, .str p1), (5, .slice x3.r x3.n), (29, .bool (x5 == (0 : Int)))] H (noU_all rfl) (fun fr => by kernel_rfl) ?_
          intro fr H
          exact at_nil ⟨rfl, by first | exact H.less _ (fun fr => by rfl) | exact H.less _ (fun fr => by rw [hb]; rfl)⟩
        | false =>
          replace H := H.know 26 hb (by kernel_rfl)
          refine at_seg [(3, []), (4, []), (5, [])] [(0, .str p0), (1, .str p1), (5, .slice x3.r x3.n), (29, .bool false)] H (noU_all rfl) (fun fr => by kernel_rfl) ?_
          intro fr H
          exact at_nil ⟨rfl, by first | exact H.less _ (fun fr => by rfl) | exact H.less _ (fun fr => by rw [hb]; rfl)⟩
      · intro t fr h' hK
        obtain ⟨e, H⟩ := hK
        subst e
        refine at_seg [(6, [])] [(0, .str p0), (1, .str p1), (5, .slice x3.r x3.n), (30, .bool ((x4 == (0 : Int)) && (x5 == (0 : Int))))] H (noU_all rfl) (fun fr => by kernel_rfl) ?_
        intro fr H
        obtain ⟨⟨x6, h2⟩, ho, hm⟩ := bind_some hm
        refine at_cut [(7, []), (8, []), (9, []), (10, []), (11, []), (12, []), (13, []), (14, []), (15, []), (16, [])] (fun fr' h' => h2 = h' ∧ Has fr' 49 [(5, .slice x3.r x3.n), (40, .bool x6)]) ?_ ?_
        · rcases iteB_some ho with ⟨hb, hm⟩ | ⟨hb, hm⟩
          · replace H := H.know 30 hb (by kernel_rfl)
            refine at_seg [(7, []), (8, []), (9, []), (10, []), (11, [])] [(0, .str p0), (5, .slice x3.r x3.n), (30, .bool true), (31, .slice x3.r x3.n), (32, .str p1), (35, .agg [.int .i64 (0 : Int), .int .i64 (p1.length : Int), .bool true])] H (noU_all rfl) (fun fr => by kernel_rfl) ?_
            intro fr H
            obtain ⟨h3, hx, hm⟩ := bind_some hm
            refine at_step (v := .slice (some (h1.size, 0)) 1) (h1 := h3) [(0, .str p0), (5, .slice x3.r x3.n), (30, .bool true), (31, .slice x3.r x3.n), (32, .str p1), (36, .slice (some (h1.size, 0)) 1)] H (fun fr => by kernel_rfl) (fun fr => .of (s_n' (by kernel_rfl) hx)) ?_
            intro fr t H
            obtain ⟨x7, hx, hm⟩ := bind_some hm
            refine at_step (v := .str x7) (h1 := h3) [(0, .str p0), (5, .slice x3.r x3.n), (30, .bool true), (37, .str x7)] H (fun fr => by kernel_rfl) (fun fr => Steps.call (by kernel_rfl) (ok_subst_Expand hx)) ?_
            intro fr t H
            refine at_seg [(14, []), (15, []), (16, [])] [(5, .slice x3.r x3.n), (40, .bool (x7 == p0))] H (noU_all rfl) (fun fr => by kernel_rfl) ?_
            intro fr H
            have e0 := Option.some.inj hm
            obtain ⟨e1, f1⟩ := Prod.mk.inj e0
            subst e1
            subst f1
            exact at_nil ⟨rfl, H.less _ (fun fr => by kernel_rfl)⟩
          · replace H := H.know 30 hb (by kernel_rfl)
            refine at_seg [(7, []), (8, []), (9, []), (10, []), (11, []), (12, []), (13, []), (14, []), (15, []), (16, [])] [(5, .slice x3.r x3.n), (40, .bool false)] H (noU_all rfl) (fun fr => by kernel_rfl) ?_
            intro fr H
            have e0 := Option.some.inj hm
            obtain ⟨e1, f1⟩ := Prod.mk.inj e0
            subst e1
            subst f1
            exact at_nil ⟨rfl, H.less _ (fun fr => by kernel_rfl)⟩
        · intro t fr h' hK
          obtain ⟨e, H⟩ := hK
          subst e
          refine at_seg [(17, [])] [(5, .slice x3.r x3.n), (41, .bool x6)] H (noU_all rfl) (fun fr => by kernel_rfl) ?_
          intro fr H
          obtain ⟨x8, ho, hm⟩ := bind_some hm
          refine at_cut [(18, []), (19, []), (20, []), (21, [])] (fun fr' h' => h2 = h' ∧ Has fr' 49 [(45, .bool x8)]) ?_ ?_
          · rcases iteB_some ho with ⟨hb, hm⟩ | ⟨hb, hm⟩
            · replace H := H.know 41 hb (by kernel_rfl)
              refine at_seg [(18, [])] [(41, .bool true), (42, .slice x3.r x3.n)] H (noU_all rfl) (fun fr => by kernel_rfl) ?_
              intro fr H
              obtain ⟨x9, hx, hm⟩ := bind_some hm
              refine at_step (v := .int .i64 x9) (h1 := h2) [(41, .bool true), (43, .int .i64 x9)] H (fun fr => by kernel_rfl) (fun fr => Steps.call (by kernel_rfl) (ok_subst_Highest hx)) ?_
              intro fr t H
              refine at_seg [(20, []), (21, [])] [(45, .bool (x9 == (0 : Int)))] H (noU_all rfl) (fun fr => by kernel_rfl) ?_
              intro fr H
              have e1 := Option.some.inj hm
              subst e1
              exact at_nil ⟨rfl, H.less _ (fun fr => by kernel_rfl)⟩
            · replace H := H.know 41 hb (by kernel_rfl)
              refine at_seg [(18, []), (19, []), (20, []), (21, [])] [(45, .bool false)] H (noU_all rfl) (fun fr => by kernel_rfl) ?_
              intro fr H
              have e1 := Option.some.inj hm
              subst e1
              exact at_nil ⟨rfl, H.less _ (fun fr => by kernel_rfl)⟩
          · intro t fr h' hK
            obtain ⟨e, H⟩ := hK
            subst e
            refine at_seg [(22, [])] [(46, .bool x8)] H (noU_all rfl) (fun fr => by kernel_rfl) ?_
            intro fr H
            obtain ⟨x10, ho, hm⟩ := bind_some hm
            refine at_cut [(23, []), (24, [])] (fun fr' h' => h2 = h' ∧ Has fr' 49 [(48, .bool x10)]) ?_ ?_
            · rcases iteB_some ho with ⟨hb, hm⟩ | ⟨hb, hm⟩
              · replace H := H.know 46 hb (by kernel_rfl)
                obtain ⟨x11, hx, hm⟩ := bind_some hm
                refine at_step (v := .bool x11) (h1 := h2) [(46, .bool true), (47, .bool x11)] H (fun fr => by kernel_rfl) (fun fr => Steps.call (by kernel_rfl) (ok_boulterlaw23_awake hx)) ?_
                intro fr t H
                refine at_seg [(24, [])] [(48, .bool x11)] H (noU_all rfl) (fun fr => by kernel_rfl) ?_
                intro fr H
                have e1 := Option.some.inj hm
                subst e1
                exact at_nil ⟨rfl, H.less _ (fun fr => by kernel_rfl)⟩
              · replace H := H.know 46 hb (by kernel_rfl)
                refine at_seg [(23, []), (24, [])] [(48, .bool false)] H (noU_all rfl) (fun fr => by kernel_rfl) ?_
                intro fr H
                have e1 := Option.some.inj hm
                subst e1
                exact at_nil ⟨rfl, H.less _ (fun fr => by kernel_rfl)⟩
            · intro t fr h' hK
              obtain ⟨e, H⟩ := hK
              subst e
              refine at_seg [(25, [])] [(4, .bool x10)] H (noU_all rfl) (fun fr => by kernel_rfl) ?_
              intro fr H
              refine at_nil ?_
              show AW cfg 13 (⟨h.size, []⟩ : Gd) (right (right (right (right (bodyC cfg.P 13))))) fr h2 _
              refine aw_ret (by kernel_rfl) ?_
              have e1 := Option.some.inj hm
              subst e1
              exact (doneE_of .ret H (fun fr => by kernel_rfl) (.inl rfl) : doneE cfg.P _ _ _ fr _)
end Go.Abs.L
