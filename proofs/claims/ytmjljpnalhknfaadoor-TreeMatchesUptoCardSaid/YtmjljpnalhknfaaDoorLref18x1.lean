/-
  Models of functions of package ref18, and that the abstract run tells them. Written by lift.py.
-/
import Derived.Test.YtmjljpnalhknfaaDoorLCfg
import Derived.Test.YtmjljpnalhknfaaDoorLref13
import Derived.Test.YtmjljpnalhknfaaDoorLref18
namespace Go.Abs.L
open Go.Abs
set_option linter.unusedVariables false
structure SC_boulterref18_memo_once where
  M_boulterref18_memo_once : Gd → AHeap → (Option (Nat × Nat)) → (List AVal) → Int → (List UInt8) → Sl → Option ((Sl) × AHeap)
  M_boulterref18_memo_ends : Gd → AHeap → (Option (Nat × Nat)) → (List AVal) → Int → (List UInt8) → Int → Option ((Sl) × AHeap)
  M_boulterref18_memo_repeat : Gd → AHeap → (Option (Nat × Nat)) → (List AVal) → (List AVal) → (List UInt8) → Int → Option ((Sl) × AHeap)
structure OkSC_boulterref18_memo_once (S : SC_boulterref18_memo_once) : Prop where
  ok_boulterref18_memo_once : ∀ {g : Gd} {h h' : AHeap} {p0 : Option (Nat × Nat)} {p1 : List AVal} {p2 : Int} {p3 : List UInt8} {p4 : Sl} {r0 : Sl}, S.M_boulterref18_memo_once g h p0 p1 p2 p3 p4 = some (r0, h') → Runs cfg g h 42 [.ptr p0, .agg p1, .int .i64 p2, .str p3, .slice p4.r p4.n] (.slice r0.r r0.n) h'
  ok_boulterref18_memo_ends : ∀ {g : Gd} {h h' : AHeap} {p0 : Option (Nat × Nat)} {p1 : List AVal} {p2 : Int} {p3 : List UInt8} {p4 : Int} {r0 : Sl}, S.M_boulterref18_memo_ends g h p0 p1 p2 p3 p4 = some (r0, h') → Runs cfg g h 24 [.ptr p0, .agg p1, .int .i64 p2, .str p3, .int .i64 p4] (.slice r0.r r0.n) h'
  ok_boulterref18_memo_repeat : ∀ {g : Gd} {h h' : AHeap} {p0 : Option (Nat × Nat)} {p1 : List AVal} {p2 : List AVal} {p3 : List UInt8} {p4 : Int} {r0 : Sl}, S.M_boulterref18_memo_repeat g h p0 p1 p2 p3 p4 = some (r0, h') → Runs cfg g h 35 [.ptr p0, .agg p1, .agg p2, .str p3, .int .i64 p4] (.slice r0.r r0.n) h'
/-! ### (*boulter/boulterref18.memo).once -/
noncomputable def M_boulterref18_memo_once_L0 (S : SC_boulterref18_memo_once) (g : Gd) (h : AHeap) (p0 : Option (Nat × Nat)) (p2 : Int) (p3 : List UInt8) (p4 : Sl) (h1 : AHeap) (s : Int × AHeap) : Option ((Int × AHeap) ⊕ ((AHeap))) :=
  match s with
  | (x3, h3) => iteB (decide (x3 ≤ (p3.length : Int))) (((ixL p4 1 x3).bind fun a1 => (ldB h3 (a1.1, a1.2)).bind fun x4 => iteB x4 ((ldA h3 (h.size, 0) 2).bind fun x5 => (S.M_boulterref18_memo_ends g h3 p0 x5 p2 p3 x3).bind fun (x6, h4) => (M_boulterref18_add g h4 (⟨some (h1.size, 0), (IntKind.i64.wrap ((p3.length : Int) + (1 : Int))).toNat⟩ : Sl) x6).bind fun (_, h5) => some h5) (some h3) : Option ((AHeap))).bind fun h6 => some (.inl (IntKind.i64.wrap (x3 + (1 : Int)), h6))) (some (.inr h3))
noncomputable def B_boulterref18_memo_once (S : SC_boulterref18_memo_once) (g : Gd) (h : AHeap) (p0 : Option (Nat × Nat)) (p1 : List AVal) (p2 : Int) (p3 : List UInt8) (p4 : Sl) : Option ((Sl) × AHeap) :=
 need (p1.all AVal.one) <| (some (h.push (.cells none 2 p1))).bind fun h1 => (mkL 1 [.bool false] (IntKind.i64.wrap ((p3.length : Int) + (1 : Int))) (IntKind.i64.wrap ((p3.length : Int) + (1 : Int)))).bind fun x1 => (some (h1.push (.cells (some 4) 2 x1))).bind fun h2 => (loop (M_boulterref18_memo_once_L0 S g h p0 p2 p3 p4 h1) ((0 : Int), h2)).bind fun h7 => some ((⟨some (h1.size, 0), (IntKind.i64.wrap ((p3.length : Int) + (1 : Int))).toNat⟩ : Sl), h7)
theorem okB_boulterref18_memo_once {S : SC_boulterref18_memo_once} (hS : OkSC_boulterref18_memo_once S) {g : Gd} {h h' : AHeap} {p0 : Option (Nat × Nat)} {p1 : List AVal} {p2 : Int} {p3 : List UInt8} {p4 : Sl} {r0 : Sl} (hm : B_boulterref18_memo_once S g h p0 p1 p2 p3 p4 = some (r0, h')) : Runs cfg g h 42 [.ptr p0, .agg p1, .int .i64 p2, .str p3, .slice p4.r p4.n] (.slice r0.r r0.n) h' := by
  refine runs1 (by kernel_rfl) (body_of (n := 36) (rs := [.tmp 10]) (by kernel_rfl) ?_)
  unfold B_boulterref18_memo_once at hm
  refine start (n := 36) [(0, .ptr p0), (1, .agg p1), (2, .int .i64 p2), (3, .str p3), (4, .slice p4.r p4.n)] (by kernel_rfl) (by kernel_rfl) ?_
  intro fr H
  refine aw_seq (by kernel_rfl) ?_
  refine aw_reg (id := 0) (n := 2) [(0, []), (1, [])] (by kernel_rfl) (by kernel_rfl) ?_
  obtain ⟨hb, hm⟩ := need_some hm
  obtain ⟨h1, hx, hm⟩ := bind_some hm
  refine at_step (v := .ptr (some (h.size, 0))) (h1 := h1) [(0, .ptr p0), (2, .int .i64 p2), (3, .str p3), (4, .slice p4.r p4.n), (6, .ptr (some (h.size, 0)))] H (fun fr => by kernel_rfl) (fun fr => .of (s_boxG (by kernel_rfl) hb hx)) ?_
  intro fr t H
  refine at_seg [(1, [])] [(0, .ptr p0), (2, .int .i64 p2), (3, .str p3), (4, .slice p4.r p4.n), (6, .ptr (some (h.size, 0)))] H (noU_all rfl) (fun fr => by kernel_rfl) ?_
  intro fr H
  refine at_nil ?_
  show AW cfg 42 g (right (bodyC cfg.P 42)) fr h1 _
  refine aw_seq (by kernel_rfl) ?_
  refine aw_reg (id := 1) (n := 5) [(0, []), (1, []), (2, []), (3, []), (4, [])] (by kernel_rfl) (by kernel_rfl) ?_
  refine at_seg [(0, []), (1, []), (2, [])] [(0, .ptr p0), (2, .int .i64 p2), (3, .str p3), (4, .slice p4.r p4.n), (6, .ptr (some (h.size, 0))), (15, .int .i64 (IntKind.i64.wrap ((p3.length : Int) + (1 : Int))))] H (noU_all rfl) (fun fr => by kernel_rfl) ?_
  intro fr H
  obtain ⟨x1, hx, hm⟩ := bind_some hm
  obtain ⟨h2, hy, hm⟩ := bind_some hm
  refine at_step (v := .slice (some (h1.size, 0)) ((IntKind.i64.wrap ((p3.length : Int) + (1 : Int))).toNat)) (h1 := h2) [(0, .ptr p0), (2, .int .i64 p2), (3, .str p3), (4, .slice p4.r p4.n), (6, .ptr (some (h.size, 0))), (16, .slice (some (h1.size, 0)) ((IntKind.i64.wrap ((p3.length : Int) + (1 : Int))).toNat))] H (fun fr => by kernel_rfl) (fun fr => .of (s_mk' (by kernel_rfl) hx hy)) ?_
  intro fr t H
  refine at_seg [(4, [])] [(0, .ptr p0), (2, .int .i64 p2), (3, .str p3), (4, .slice p4.r p4.n), (6, .ptr (some (h.size, 0))), (11, .slice (some (h1.size, 0)) ((IntKind.i64.wrap ((p3.length : Int) + (1 : Int))).toNat))] H (noU_all rfl) (fun fr => by kernel_rfl) ?_
  intro fr H
  refine at_nil ?_
  show AW cfg 42 g (right (right (bodyC cfg.P 42))) fr h2 _
  refine aw_seq (by kernel_rfl) ?_
  refine aw_seq (by kernel_rfl) ?_
  refine aw_reg (id := 2) (n := 1) [(0, [])] (by kernel_rfl) (by kernel_rfl) ?_
  refine at_seg [(0, [])] [(0, .ptr p0), (2, .int .i64 p2), (3, .str p3), (4, .slice p4.r p4.n), (6, .ptr (some (h.size, 0))), (11, .slice (some (h1.size, 0)) ((IntKind.i64.wrap ((p3.length : Int) + (1 : Int))).toNat)), (12, .int .i64 (0 : Int))] H (noU_all rfl) (fun fr => by kernel_rfl) ?_
  intro fr H
  refine at_nil ?_
  show AW cfg 42 g (right (left (right (right (bodyC cfg.P 42))))) fr h2 _
  refine aw_block (id := 0) (by kernel_rfl) ?_
  obtain ⟨o1, ho, hm⟩ := bind_some hm
  refine aw_mono (Q' := fun e fr' h' => (e = .exit 0 ∧ h' = o1 ∧ h' = h' ∧ Has fr' 36 [(11, .slice (some (h1.size, 0)) ((IntKind.i64.wrap ((p3.length : Int) + (1 : Int))).toNat))]) ∨ False) ?_ ?_
  · refine aw_loop (by kernel_rfl) (fun (s : Int × AHeap) fr' h' => ∃ (x3 : Int), (x3, h') = s ∧ h' = h' ∧ Has fr' 36 [(0, .ptr p0), (2, .int .i64 p2), (3, .str p3), (4, .slice p4.r p4.n), (6, .ptr (some (h.size, 0))), (11, .slice (some (h1.size, 0)) ((IntKind.i64.wrap ((p3.length : Int) + (1 : Int))).toNat)), (12, .int .i64 x3)]) ho ⟨(0 : Int), rfl, rfl, H.less _ (fun fr => by kernel_rfl)⟩ ?_
    clear ho hm H
    intro s q fr h3 hI hm
    obtain ⟨x3, rfl, _, H⟩ := hI
    unfold M_boulterref18_memo_once_L0 at hm
    refine aw_seq (by kernel_rfl) ?_
    refine aw_seq (by kernel_rfl) ?_
    refine aw_reg (id := 3) (n := 4) [(0, []), (1, []), (2, []), (3, [])] (by kernel_rfl) (by kernel_rfl) ?_
    refine at_seg [(0, []), (1, []), (2, []), (3, [])] [(0, .ptr p0), (2, .int .i64 p2), (3, .str p3), (4, .slice p4.r p4.n), (6, .ptr (some (h.size, 0))), (11, .slice (some (h1.size, 0)) ((IntKind.i64.wrap ((p3.length : Int) + (1 : Int))).toNat)), (12, .int .i64 x3), (20, .bool (decide (x3 ≤ (p3.length : Int))))] H (noU_all rfl) (fun fr => by kernel_rfl) ?_
    intro fr H
    refine at_nil ?_
    show AW cfg 42 g (right (left (left (left (right (left (right (right (bodyC cfg.P 42))))))))) fr h3 _
    rcases iteB_some hm with ⟨hb, hm⟩ | ⟨hb, hm⟩
    · replace H := H.know 20 hb (by kernel_rfl)
      refine aw_true (x := .tmp 20) (by kernel_rfl) H (fun fr => by kernel_rfl) ?_
      refine aw_skip (by kernel_rfl) ?_
      show AW cfg 42 g (right (left (left (right (left (right (right (bodyC cfg.P 42)))))))) fr h3 _
      refine aw_seq (by kernel_rfl) ?_
      obtain ⟨o2, ho, hm⟩ := bind_some hm
      refine aw_mono (Q' := fun e fr' h' => (e = .normal ∧ h' = o2 ∧ h' = h' ∧ Has fr' 36 [(0, .ptr p0), (2, .int .i64 p2), (3, .str p3), (4, .slice p4.r p4.n), (6, .ptr (some (h.size, 0))), (11, .slice (some (h1.size, 0)) ((IntKind.i64.wrap ((p3.length : Int) + (1 : Int))).toNat)), (12, .int .i64 x3)]) ∨ False) ?_ ?_
      · replace hm := ho
        clear ho
        refine aw_block (id := 1) (by kernel_rfl) ?_
        refine aw_seq (by kernel_rfl) ?_
        refine aw_reg (id := 5) (n := 4) [(0, []), (1, []), (2, []), (3, [])] (by kernel_rfl) (by kernel_rfl) ?_
        refine at_seg [(0, []), (1, [])] [(0, .ptr p0), (2, .int .i64 p2), (3, .str p3), (4, .slice p4.r p4.n), (6, .ptr (some (h.size, 0))), (11, .slice (some (h1.size, 0)) ((IntKind.i64.wrap ((p3.length : Int) + (1 : Int))).toNat)), (12, .int .i64 x3), (23, .slice p4.r p4.n), (24, .int .i64 x3)] H (noU_all rfl) (fun fr => by kernel_rfl) ?_
        intro fr H
        obtain ⟨a1, hx, hm⟩ := bind_some hm
        refine at_step (v := .ptr (some a1)) (h1 := h3) [(0, .ptr p0), (2, .int .i64 p2), (3, .str p3), (4, .slice p4.r p4.n), (6, .ptr (some (h.size, 0))), (11, .slice (some (h1.size, 0)) ((IntKind.i64.wrap ((p3.length : Int) + (1 : Int))).toNat)), (12, .int .i64 x3), (25, .ptr (some (a1.1, a1.2)))] H (fun fr => by kernel_rfl) (fun fr => .of (s_ixL (s := p4) (by kernel_rfl) hx)) ?_
        intro fr t H
        obtain ⟨x4, hx, hm⟩ := bind_some hm
        refine at_step (v := .bool x4) (h1 := h3) [(0, .ptr p0), (2, .int .i64 p2), (3, .str p3), (4, .slice p4.r p4.n), (6, .ptr (some (h.size, 0))), (11, .slice (some (h1.size, 0)) ((IntKind.i64.wrap ((p3.length : Int) + (1 : Int))).toNat)), (12, .int .i64 x3), (26, .bool x4)] H (fun fr => by kernel_rfl) (fun fr => .of (s_ld (by kernel_rfl) (ldB_eq hx))) ?_
        intro fr t H
        refine at_nil ?_
        show AW cfg 42 g (right (left (left (right (left (left (right (left (right (right (bodyC cfg.P 42))))))))))) fr h3 _
        rcases iteB_some hm with ⟨hb, hm⟩ | ⟨hb, hm⟩
        · replace H := H.know 26 hb (by kernel_rfl)
          refine aw_true (x := .tmp 26) (by kernel_rfl) H (fun fr => by kernel_rfl) ?_
          refine aw_reg (id := 6) (n := 8) [(0, []), (1, []), (2, []), (3, []), (4, []), (5, []), (6, []), (7, [])] (by kernel_rfl) (by kernel_rfl) ?_
          refine at_seg [(0, []), (1, [])] [(0, .ptr p0), (2, .int .i64 p2), (3, .str p3), (4, .slice p4.r p4.n), (6, .ptr (some (h.size, 0))), (11, .slice (some (h1.size, 0)) ((IntKind.i64.wrap ((p3.length : Int) + (1 : Int))).toNat)), (12, .int .i64 x3), (27, .slice (some (h1.size, 0)) ((IntKind.i64.wrap ((p3.length : Int) + (1 : Int))).toNat)), (28, .ptr p0)] H (noU_all rfl) (fun fr => by kernel_rfl) ?_
          intro fr H
          obtain ⟨x5, hx, hm⟩ := bind_some hm
          refine at_step (v := .agg x5) (h1 := h3) [(0, .ptr p0), (2, .int .i64 p2), (3, .str p3), (4, .slice p4.r p4.n), (6, .ptr (some (h.size, 0))), (11, .slice (some (h1.size, 0)) ((IntKind.i64.wrap ((p3.length : Int) + (1 : Int))).toNat)), (12, .int .i64 x3), (27, .slice (some (h1.size, 0)) ((IntKind.i64.wrap ((p3.length : Int) + (1 : Int))).toNat)), (28, .ptr p0), (29, .agg x5)] H (fun fr => by kernel_rfl) (fun fr => .of (s_ldA (by kernel_rfl) hx)) ?_
          intro fr t H
          refine at_seg [(3, []), (4, []), (5, [])] [(0, .ptr p0), (2, .int .i64 p2), (3, .str p3), (4, .slice p4.r p4.n), (6, .ptr (some (h.size, 0))), (11, .slice (some (h1.size, 0)) ((IntKind.i64.wrap ((p3.length : Int) + (1 : Int))).toNat)), (12, .int .i64 x3), (27, .slice (some (h1.size, 0)) ((IntKind.i64.wrap ((p3.length : Int) + (1 : Int))).toNat)), (28, .ptr p0), (29, .agg x5), (30, .int .i64 p2), (31, .str p3), (32, .int .i64 x3)] H (noU_all rfl) (fun fr => by kernel_rfl) ?_
          intro fr H
          obtain ⟨⟨x6, h4⟩, hx, hm⟩ := bind_some hm
          refine at_step (v := .slice x6.r x6.n) (h1 := h4) [(0, .ptr p0), (2, .int .i64 p2), (3, .str p3), (4, .slice p4.r p4.n), (6, .ptr (some (h.size, 0))), (11, .slice (some (h1.size, 0)) ((IntKind.i64.wrap ((p3.length : Int) + (1 : Int))).toNat)), (12, .int .i64 x3), (27, .slice (some (h1.size, 0)) ((IntKind.i64.wrap ((p3.length : Int) + (1 : Int))).toNat)), (33, .slice x6.r x6.n)] H (fun fr => by kernel_rfl) (fun fr => Steps.call (by kernel_rfl) (hS.ok_boulterref18_memo_ends hx)) ?_
          intro fr t H
          obtain ⟨⟨⟨⟩, h5⟩, hx, hm⟩ := bind_some hm
          refine at_step (v := .tuple []) (h1 := h5) [(0, .ptr p0), (2, .int .i64 p2), (3, .str p3), (4, .slice p4.r p4.n), (6, .ptr (some (h.size, 0))), (11, .slice (some (h1.size, 0)) ((IntKind.i64.wrap ((p3.length : Int) + (1 : Int))).toNat)), (12, .int .i64 x3)] H (fun fr => by kernel_rfl) (fun fr => Steps.call (by kernel_rfl) (ok_boulterref18_add hx)) ?_
          intro fr t H
          refine at_nil ?_
          exact Or.inl ⟨rfl, Option.some.inj hm, rfl, H.less _ (fun fr => by kernel_rfl)⟩
        · replace H := H.know 26 hb (by kernel_rfl)
          refine aw_false (x := .tmp 26) (by kernel_rfl) H (fun fr => by kernel_rfl) ?_
          refine aw_skip (by kernel_rfl) ?_
          exact Or.inl ⟨rfl, Option.some.inj hm, rfl, H.less _ (fun fr => by kernel_rfl)⟩
      · clear ho
        intro e fr h6 hQ
        rcases hQ with ⟨rfl, rfl, _, H⟩ | hF
        · skip
          show AW cfg 42 g (right (right (left (left (right (left (right (right (bodyC cfg.P 42))))))))) fr h6 _
          refine aw_reg (id := 4) (n := 3) [(0, []), (1, []), (2, [])] (by kernel_rfl) (by kernel_rfl) ?_
          refine at_seg [(0, []), (1, []), (2, [])] [(0, .ptr p0), (2, .int .i64 p2), (3, .str p3), (4, .slice p4.r p4.n), (6, .ptr (some (h.size, 0))), (11, .slice (some (h1.size, 0)) ((IntKind.i64.wrap ((p3.length : Int) + (1 : Int))).toNat)), (12, .int .i64 (IntKind.i64.wrap (x3 + (1 : Int))))] H (noU_all rfl) (fun fr => by kernel_rfl) ?_
          intro fr H
          refine at_nil ?_
          exact Exists.intro (IntKind.i64.wrap (x3 + (1 : Int)), h6) (And.intro (Option.some.inj hm).symm ⟨IntKind.i64.wrap (x3 + (1 : Int)), rfl, rfl, H.less _ (fun fr => by kernel_rfl)⟩)
        · exact hF.elim
    · replace H := H.know 20 hb (by kernel_rfl)
      refine aw_false (x := .tmp 20) (by kernel_rfl) H (fun fr => by kernel_rfl) ?_
      refine aw_exit (i := 0) (by kernel_rfl) ?_
      exact Exists.intro _ (And.intro (Option.some.inj hm).symm (fun e => Or.inl ⟨rfl, e, rfl, H.less _ (fun fr => by kernel_rfl)⟩))
  · clear ho
    intro e fr h7 hQ
    rcases hQ with ⟨rfl, rfl, _, H⟩ | hF
    · skip
      show AW cfg 42 g (right (right (right (bodyC cfg.P 42)))) fr h7 _
      refine aw_seq (by kernel_rfl) ?_
      refine aw_reg (id := 7) (n := 2) [(0, []), (1, [])] (by kernel_rfl) (by kernel_rfl) ?_
      refine at_seg [(0, []), (1, [])] [(10, .slice (some (h1.size, 0)) ((IntKind.i64.wrap ((p3.length : Int) + (1 : Int))).toNat))] H (noU_all rfl) (fun fr => by kernel_rfl) ?_
      intro fr H
      refine at_nil ?_
      show AW cfg 42 g (right (right (right (right (bodyC cfg.P 42))))) fr h7 _
      refine aw_ret (by kernel_rfl) ?_
      obtain ⟨e1, e2⟩ := inj2 hm
      subst e2
      subst e1
      exact (done_ret H (fun fr => by kernel_rfl) rfl : doneQ cfg.P _ _ _ _ fr _)
    · exact hF.elim
/-! ### (*boulter/boulterref18.memo).ends -/
noncomputable def M_boulterref18_memo_ends_L0 (S : SC_boulterref18_memo_once) (g : Gd) (h : AHeap) (p0 : Option (Nat × Nat)) (p3 : List UInt8) (h4 : AHeap) (h6 : AHeap) (x21 : Sl) (s : Int × AHeap) : Option ((Int × AHeap) ⊕ ((AHeap))) :=
  match s with
  | (x23, h11) => iteB (decide (x23 ≤ (p3.length : Int))) (((ixL x21 1 x23).bind fun a14 => (ldB h11 (a14.1, a14.2)).bind fun x24 => iteB x24 ((ldA h11 (h.size, 0) 2).bind fun x25 => (ldI h11 (h4.size, 2) .i64).bind fun x26 => (S.M_boulterref18_memo_ends g h11 p0 x25 x26 p3 x23).bind fun (x27, h12) => (M_boulterref18_add g h12 (⟨some (h6.size, 0), (IntKind.i64.wrap ((p3.length : Int) + (1 : Int))).toNat⟩ : Sl) x27).bind fun (_, h13) => some h13) (some h11) : Option ((AHeap))).bind fun h14 => some (.inl (IntKind.i64.wrap (x23 + (1 : Int)), h14))) (some (.inr h11))
noncomputable def B_boulterref18_memo_ends (S : SC_boulterref18_memo_once) (g : Gd) (h : AHeap) (p0 : Option (Nat × Nat)) (p1 : List AVal) (p2 : Int) (p3 : List UInt8) (p4 : Int) : Option ((Sl) × AHeap) :=
 need (p1.all AVal.one) <| (some (h.push (.cells none 2 p1))).bind fun h1 => ((p0).bind fun a1 => (ldL h1 (a1.1, a1.2 + 0)).bind fun x1 => (ixL x1 1 p2).bind fun a2 => (ldL h1 (a2.1, a2.2)).bind fun x2 => iteB x2.r.isNone ((p0).bind fun a3 => (ldL h1 (a3.1, a3.2 + 0)).bind fun x3 => (mkL 24 [.slice none 0] (IntKind.i64.wrap ((p3.length : Int) + (1 : Int))) (IntKind.i64.wrap ((p3.length : Int) + (1 : Int)))).bind fun x4 => (some (h1.push (.cells (some 45) 2 x4))).bind fun h2 => (ixL x3 1 p2).bind fun a4 => (st g h2 (a4.1, a4.2) [.slice (some (h1.size, 0)) ((IntKind.i64.wrap ((p3.length : Int) + (1 : Int))).toNat)]).bind fun h3 => some h3) (some h1) : Option ((AHeap))).bind fun h4 => (p0).bind fun a5 => (ldL h4 (a5.1, a5.2 + 0)).bind fun x5 => (ixL x5 1 p2).bind fun a6 => (ldL h4 (a6.1, a6.2)).bind fun x6 => (ixL x6 1 p4).bind fun a7 => (ldL h4 (a7.1, a7.2)).bind fun x7 => iteB x7.r.isSome ((p0).bind fun a8 => (ldL h4 (a8.1, a8.2 + 0)).bind fun x8 => (ixL x8 1 p2).bind fun a9 => (ldL h4 (a9.1, a9.2)).bind fun x9 => (ixL x9 1 p4).bind fun a10 => (ldL h4 (a10.1, a10.2)).bind fun x10 => some (x10, h4)) ((ldL h4 (h.size, 0)).bind fun x11 => (ixL x11 7 p2).bind fun a11 => (ldA h4 (a11.1, a11.2) 7).bind fun x12 => (some (h4.push (.cells none 2 [.int .i64 (0 : Int), .int .i64 (0 : Int), .int .i64 (0 : Int), .int .i64 (0 : Int), .int .i64 (0 : Int), .int .i64 (0 : Int), .str ([] : List UInt8)]))).bind fun h5 => (stG 7 g h5 (h4.size, 0) x12).bind fun h6 => (mkL 1 [.bool false] (IntKind.i64.wrap ((p3.length : Int) + (1 : Int))) (IntKind.i64.wrap ((p3.length : Int) + (1 : Int)))).bind fun x13 => (some (h6.push (.cells (some 4) 2 x13))).bind fun h7 => ((ldI h7 (h4.size, 0) .i64).bind fun x14 => iteB (x14 == (0 : Int)) ((ixL (⟨some (h6.size, 0), (IntKind.i64.wrap ((p3.length : Int) + (1 : Int))).toNat⟩ : Sl) 1 p4).bind fun a12 => (st g h7 (a12.1, a12.2) [.bool true]).bind fun h8 => some h8) (iteB (x14 == (1 : Int)) ((iteB (decide (p4 < (p3.length : Int))) ((ixS p3 p4).bind fun x16 => (ldS h7 (h4.size, 6)).bind fun x17 => (M_boulterref13_In h7 x16 x17).bind fun x18 => some x18) (some false) : Option (Bool)).bind fun x15 => iteB x15 ((ixL (⟨some (h6.size, 0), (IntKind.i64.wrap ((p3.length : Int) + (1 : Int))).toNat⟩ : Sl) 1 (IntKind.i64.wrap (p4 + (1 : Int)))).bind fun a13 => (st g h7 (a13.1, a13.2) [.bool true]).bind fun h9 => some h9) (some h7)) (iteB (x14 == (2 : Int)) ((ldA h7 (h.size, 0) 2).bind fun x19 => (ldI h7 (h4.size, 1) .i64).bind fun x20 => (S.M_boulterref18_memo_ends g h7 p0 x19 x20 p3 p4).bind fun (x21, h10) => (loop (M_boulterref18_memo_ends_L0 S g h p0 p3 h4 h6 x21) (p4, h10)).bind fun h15 => some h15) (iteB (x14 == (3 : Int)) ((ldA h7 (h.size, 0) 2).bind fun x28 => (ldI h7 (h4.size, 1) .i64).bind fun x29 => (S.M_boulterref18_memo_ends g h7 p0 x28 x29 p3 p4).bind fun (x30, h16) => (M_boulterref18_add g h16 (⟨some (h6.size, 0), (IntKind.i64.wrap ((p3.length : Int) + (1 : Int))).toNat⟩ : Sl) x30).bind fun (_, h17) => (ldA h17 (h.size, 0) 2).bind fun x31 => (ldI h17 (h4.size, 2) .i64).bind fun x32 => (S.M_boulterref18_memo_ends g h17 p0 x31 x32 p3 p4).bind fun (x33, h18) => (M_boulterref18_add g h18 (⟨some (h6.size, 0), (IntKind.i64.wrap ((p3.length : Int) + (1 : Int))).toNat⟩ : Sl) x33).bind fun (_, h19) => some h19) (iteB (x14 == (4 : Int)) ((ldA h7 (h.size, 0) 2).bind fun x34 => (ldA h7 (h4.size, 0) 7).bind fun x35 => (S.M_boulterref18_memo_repeat g h7 p0 x34 x35 p3 p4).bind fun (x36, h20) => (M_boulterref18_add g h20 (⟨some (h6.size, 0), (IntKind.i64.wrap ((p3.length : Int) + (1 : Int))).toNat⟩ : Sl) x36).bind fun (_, h21) => some h21) (iteB (x14 == (5 : Int)) ((ldA h7 (h.size, 0) 2).bind fun x37 => (ldI h7 (h4.size, 1) .i64).bind fun x38 => (S.M_boulterref18_memo_ends g h7 p0 x37 x38 p3 p4).bind fun (x39, h22) => (M_boulterref18_add g h22 (⟨some (h6.size, 0), (IntKind.i64.wrap ((p3.length : Int) + (1 : Int))).toNat⟩ : Sl) x39).bind fun (_, h23) => some h23) (iteB (x14 == (6 : Int)) ((ixL (⟨some (h6.size, 0), (IntKind.i64.wrap ((p3.length : Int) + (1 : Int))).toNat⟩ : Sl) 1 p4).bind fun a15 => (st g h7 (a15.1, a15.2) [.bool (p4 == (0 : Int))]).bind fun h24 => some h24) (iteB (x14 == (7 : Int)) ((ixL (⟨some (h6.size, 0), (IntKind.i64.wrap ((p3.length : Int) + (1 : Int))).toNat⟩ : Sl) 1 p4).bind fun a16 => (st g h7 (a16.1, a16.2) [.bool (p4 == (p3.length : Int))]).bind fun h25 => some h25) (some h7)))))))) : Option ((AHeap))).bind fun h26 => (p0).bind fun a17 => (ldL h26 (a17.1, a17.2 + 0)).bind fun x40 => (ixL x40 1 p2).bind fun a18 => (ldL h26 (a18.1, a18.2)).bind fun x41 => (ixL x41 1 p4).bind fun a19 => (st g h26 (a19.1, a19.2) [.slice (some (h6.size, 0)) ((IntKind.i64.wrap ((p3.length : Int) + (1 : Int))).toNat)]).bind fun h27 => some ((⟨some (h6.size, 0), (IntKind.i64.wrap ((p3.length : Int) + (1 : Int))).toNat⟩ : Sl), h27))
theorem okB_boulterref18_memo_ends {S : SC_boulterref18_memo_once} (hS : OkSC_boulterref18_memo_once S) {g : Gd} {h h' : AHeap} {p0 : Option (Nat × Nat)} {p1 : List AVal} {p2 : Int} {p3 : List UInt8} {p4 : Int} {r0 : Sl} (hm : B_boulterref18_memo_ends S g h p0 p1 p2 p3 p4 = some (r0, h')) : Runs cfg g h 24 [.ptr p0, .agg p1, .int .i64 p2, .str p3, .int .i64 p4] (.slice r0.r r0.n) h' := by
  refine runs1 (by kernel_rfl) (body_of (n := 185) (rs := [.tmp 10]) (by kernel_rfl) ?_)
  unfold B_boulterref18_memo_ends at hm
  refine start (n := 185) [(0, .ptr p0), (1, .agg p1), (2, .int .i64 p2), (3, .str p3), (4, .int .i64 p4)] (by kernel_rfl) (by kernel_rfl) ?_
  intro fr H
  refine aw_seq (by kernel_rfl) ?_
  refine aw_reg (id := 0) (n := 2) [(0, []), (1, [])] (by kernel_rfl) (by kernel_rfl) ?_
  obtain ⟨hb, hm⟩ := need_some hm
  obtain ⟨h1, hx, hm⟩ := bind_some hm
  refine at_step (v := .ptr (some (h.size, 0))) (h1 := h1) [(0, .ptr p0), (2, .int .i64 p2), (3, .str p3), (4, .int .i64 p4), (6, .ptr (some (h.size, 0)))] H (fun fr => by kernel_rfl) (fun fr => .of (s_boxG (by kernel_rfl) hb hx)) ?_
  intro fr t H
  refine at_seg [(1, [])] [(0, .ptr p0), (2, .int .i64 p2), (3, .str p3), (4, .int .i64 p4), (6, .ptr (some (h.size, 0)))] H (noU_all rfl) (fun fr => by kernel_rfl) ?_
  intro fr H
  refine at_nil ?_
  show AW cfg 24 g (right (bodyC cfg.P 24)) fr h1 _
  refine aw_seq (by kernel_rfl) ?_
  obtain ⟨o1, ho, hm⟩ := bind_some hm
  refine aw_mono (Q' := fun e fr' h' => (e = .normal ∧ h' = o1 ∧ h' = h' ∧ Has fr' 185 [(0, .ptr p0), (2, .int .i64 p2), (3, .str p3), (4, .int .i64 p4), (6, .ptr (some (h.size, 0)))]) ∨ False) ?_ ?_
  · replace hm := ho
    clear ho
    refine aw_seq (by kernel_rfl) ?_
    refine aw_reg (id := 1) (n := 8) [(0, []), (1, []), (2, []), (3, []), (4, []), (5, []), (6, []), (7, [])] (by kernel_rfl) (by kernel_rfl) ?_
    refine at_seg [(0, [])] [(0, .ptr p0), (2, .int .i64 p2), (3, .str p3), (4, .int .i64 p4), (6, .ptr (some (h.size, 0))), (15, .ptr p0)] H (noU_all rfl) (fun fr => by kernel_rfl) ?_
    intro fr H
    obtain ⟨a1, hx, hm⟩ := bind_some hm
    refine at_step (v := .ptr (some a1)) (h1 := h1) [(0, .ptr p0), (2, .int .i64 p2), (3, .str p3), (4, .int .i64 p4), (6, .ptr (some (h.size, 0))), (16, .ptr (some (a1.1, a1.2)))] H (fun fr => by kernel_rfl) (fun fr => .of (s_nc (by kernel_rfl) hx)) ?_
    intro fr t H
    refine at_seg [(2, [])] [(0, .ptr p0), (2, .int .i64 p2), (3, .str p3), (4, .int .i64 p4), (6, .ptr (some (h.size, 0))), (17, .ptr (some (a1.1, a1.2 + 0)))] H (noU_all rfl) (fun fr => by kernel_rfl) ?_
    intro fr H
    obtain ⟨x1, hx, hm⟩ := bind_some hm
    refine at_step (v := .slice x1.r x1.n) (h1 := h1) [(0, .ptr p0), (2, .int .i64 p2), (3, .str p3), (4, .int .i64 p4), (6, .ptr (some (h.size, 0))), (18, .slice x1.r x1.n)] H (fun fr => by kernel_rfl) (fun fr => .of (s_ld (by kernel_rfl) (ldL_eq hx))) ?_
    intro fr t H
    refine at_seg [(4, [])] [(0, .ptr p0), (2, .int .i64 p2), (3, .str p3), (4, .int .i64 p4), (6, .ptr (some (h.size, 0))), (18, .slice x1.r x1.n), (19, .int .i64 p2)] H (noU_all rfl) (fun fr => by kernel_rfl) ?_
    intro fr H
    obtain ⟨a2, hx, hm⟩ := bind_some hm
    refine at_step (v := .ptr (some a2)) (h1 := h1) [(0, .ptr p0), (2, .int .i64 p2), (3, .str p3), (4, .int .i64 p4), (6, .ptr (some (h.size, 0))), (20, .ptr (some (a2.1, a2.2)))] H (fun fr => by kernel_rfl) (fun fr => .of (s_ixL (s := x1) (by kernel_rfl) hx)) ?_
    intro fr t H
    obtain ⟨x2, hx, hm⟩ := bind_some hm
    refine at_step (v := .slice x2.r x2.n) (h1 := h1) [(0, .ptr p0), (2, .int .i64 p2), (3, .str p3), (4, .int .i64 p4), (6, .ptr (some (h.size, 0))), (21, .slice x2.r x2.n)] H (fun fr => by kernel_rfl) (fun fr => .of (s_ld (by kernel_rfl) (ldL_eq hx))) ?_
    intro fr t H
    refine at_step (v := .bool x2.r.isNone) (h1 := h1) [(0, .ptr p0), (2, .int .i64 p2), (3, .str p3), (4, .int .i64 p4), (6, .ptr (some (h.size, 0))), (22, .bool x2.r.isNone)] H (fun fr => by kernel_rfl) (fun fr => .of (s_nilT (by kernel_rfl))) ?_
    intro fr t H
    refine at_nil ?_
    show AW cfg 24 g (right (left (right (bodyC cfg.P 24)))) fr h1 _
    rcases iteB_some hm with ⟨hb, hm⟩ | ⟨hb, hm⟩
    · replace H := H.know 22 hb (by kernel_rfl)
      refine aw_true (x := .tmp 22) (by kernel_rfl) H (fun fr => by kernel_rfl) ?_
      refine aw_draw (id := 2) (n := 11) (by kernel_rfl) [(0, []), (1, []), (2, []), (3, []), (4, []), (5, []), (6, []), (7, []), (8, []), (9, []), (10, [])] (by kernel_rfl) ?_
      refine at_seg [(0, [])] [(0, .ptr p0), (2, .int .i64 p2), (3, .str p3), (4, .int .i64 p4), (6, .ptr (some (h.size, 0))), (23, .ptr p0)] H (noU_all rfl) (fun fr => by kernel_rfl) ?_
      intro fr H
      obtain ⟨a3, hx, hm⟩ := bind_some hm
      refine at_step (v := .ptr (some a3)) (h1 := h1) [(0, .ptr p0), (2, .int .i64 p2), (3, .str p3), (4, .int .i64 p4), (6, .ptr (some (h.size, 0))), (24, .ptr (some (a3.1, a3.2)))] H (fun fr => by kernel_rfl) (fun fr => .of (s_nc (by kernel_rfl) hx)) ?_
      intro fr t H
      refine at_seg [(2, [])] [(0, .ptr p0), (2, .int .i64 p2), (3, .str p3), (4, .int .i64 p4), (6, .ptr (some (h.size, 0))), (25, .ptr (some (a3.1, a3.2 + 0)))] H (noU_all rfl) (fun fr => by kernel_rfl) ?_
      intro fr H
      obtain ⟨x3, hx, hm⟩ := bind_some hm
      refine at_step (v := .slice x3.r x3.n) (h1 := h1) [(0, .ptr p0), (2, .int .i64 p2), (3, .str p3), (4, .int .i64 p4), (6, .ptr (some (h.size, 0))), (26, .slice x3.r x3.n)] H (fun fr => by kernel_rfl) (fun fr => .of (s_ld (by kernel_rfl) (ldL_eq hx))) ?_
      intro fr t H
      refine at_seg [(4, []), (5, []), (6, []), (7, [])] [(0, .ptr p0), (2, .int .i64 p2), (3, .str p3), (4, .int .i64 p4), (6, .ptr (some (h.size, 0))), (26, .slice x3.r x3.n), (27, .int .i64 p2), (30, .int .i64 (IntKind.i64.wrap ((p3.length : Int) + (1 : Int))))] H (noU_all rfl) (fun fr => by kernel_rfl) ?_
      intro fr H
      obtain ⟨x4, hx, hm⟩ := bind_some hm
      obtain ⟨h2, hy, hm⟩ := bind_some hm
      refine at_step (v := .slice (some (h1.size, 0)) ((IntKind.i64.wrap ((p3.length : Int) + (1 : Int))).toNat)) (h1 := h2) [(0, .ptr p0), (2, .int .i64 p2), (3, .str p3), (4, .int .i64 p4), (6, .ptr (some (h.size, 0))), (26, .slice x3.r x3.n), (27, .int .i64 p2), (31, .slice (some (h1.size, 0)) ((IntKind.i64.wrap ((p3.length : Int) + (1 : Int))).toNat))] H (fun fr => by kernel_rfl) (fun fr => .of (s_mk' (by kernel_rfl) hx hy)) ?_
      intro fr t H
      obtain ⟨a4, hx, hm⟩ := bind_some hm
      refine at_step (v := .ptr (some a4)) (h1 := h2) [(0, .ptr p0), (2, .int .i64 p2), (3, .str p3), (4, .int .i64 p4), (6, .ptr (some (h.size, 0))), (31, .slice (some (h1.size, 0)) ((IntKind.i64.wrap ((p3.length : Int) + (1 : Int))).toNat)), (32, .ptr (some (a4.1, a4.2)))] H (fun fr => by kernel_rfl) (fun fr => .of (s_ixL (s := x3) (by kernel_rfl) hx)) ?_
      intro fr t H
      obtain ⟨h3, hx, hm⟩ := bind_some hm
      refine at_step (v := .tuple []) (h1 := h3) [(0, .ptr p0), (2, .int .i64 p2), (3, .str p3), (4, .int .i64 p4), (6, .ptr (some (h.size, 0)))] H (fun fr => by kernel_rfl) (fun fr => .of (s_st (by kernel_rfl) rfl hx)) ?_
      intro fr t H
      refine at_nil ?_
      exact Or.inl ⟨rfl, Option.some.inj hm, rfl, H.less _ (fun fr => by kernel_rfl)⟩
    · replace H := H.know 22 hb (by kernel_rfl)
      refine aw_false (x := .tmp 22) (by kernel_rfl) H (fun fr => by kernel_rfl) ?_
      refine aw_skip (by kernel_rfl) ?_
      exact Or.inl ⟨rfl, Option.some.inj hm, rfl, H.less _ (fun fr => by kernel_rfl)⟩
  · clear ho
    intro e fr h4 hQ
    rcases hQ with ⟨rfl, rfl, _, H⟩ | hF
    · skip
      show AW cfg 24 g (right (right (bodyC cfg.P 24))) fr h4 _
      refine aw_seq (by kernel_rfl) ?_
      refine aw_seq (by kernel_rfl) ?_
      refine aw_reg (id := 3) (n := 11) [(0, []), (1, []), (2, []), (3, []), (4, []), (5, []), (6, []), (7, []), (8, []), (9, []), (10, [])] (by kernel_rfl) (by kernel_rfl) ?_
      refine at_seg [(0, [])] [(0, .ptr p0), (2, .int .i64 p2), (3, .str p3), (4, .int .i64 p4), (6, .ptr (some (h.size, 0))), (33, .ptr p0)] H (noU_all rfl) (fun fr => by kernel_rfl) ?_
      intro fr H
      obtain ⟨a5, hx, hm⟩ := bind_some hm
      refine at_step (v := .ptr (some a5)) (h1 := h4) [(0, .ptr p0), (2, .int .i64 p2), (3, .str p3), (4, .int .i64 p4), (6, .ptr (some (h.size, 0))), (34, .ptr (some (a5.1, a5.2)))] H (fun fr => by kernel_rfl) (fun fr => .of (s_nc (by kernel_rfl) hx)) ?_
      intro fr t H
      refine at_seg [(2, [])] [(0, .ptr p0), (2, .int .i64 p2), (3, .str p3), (4, .int .i64 p4), (6, .ptr (some (h.size, 0))), (35, .ptr (some (a5.1, a5.2 + 0)))] H (noU_all rfl) (fun fr => by kernel_rfl) ?_
      intro fr H
      obtain ⟨x5, hx, hm⟩ := bind_some hm
      refine at_step (v := .slice x5.r x5.n) (h1 := h4) [(0, .ptr p0), (2, .int .i64 p2), (3, .str p3), (4, .int .i64 p4), (6, .ptr (some (h.size, 0))), (36, .slice x5.r x5.n)] H (fun fr => by kernel_rfl) (fun fr => .of (s_ld (by kernel_rfl) (ldL_eq hx))) ?_
      intro fr t H
      refine at_seg [(4, [])] [(0, .ptr p0), (2, .int .i64 p2), (3, .str p3), (4, .int .i64 p4), (6, .ptr (some (h.size, 0))), (36, .slice x5.r x5.n), (37, .int .i64 p2)] H (noU_all rfl) (fun fr => by kernel_rfl) ?_
      intro fr H
      obtain ⟨a6, hx, hm⟩ := bind_some hm
      refine at_step (v := .ptr (some a6)) (h1 := h4) [(0, .ptr p0), (2, .int .i64 p2), (3, .str p3), (4, .int .i64 p4), (6, .ptr (some (h.size, 0))), (38, .ptr (some (a6.1, a6.2)))] H (fun fr => by kernel_rfl) (fun fr => .of (s_ixL (s := x5) (by kernel_rfl) hx)) ?_
      intro fr t H
      obtain ⟨x6, hx, hm⟩ := bind_some hm
      refine at_step (v := .slice x6.r x6.n) (h1 := h4) [(0, .ptr p0), (2, .int .i64 p2), (3, .str p3), (4, .int .i64 p4), (6, .ptr (some (h.size, 0))), (39, .slice x6.r x6.n)] H (fun fr => by kernel_rfl) (fun fr => .of (s_ld (by kernel_rfl) (ldL_eq hx))) ?_
      intro fr t H
      refine at_seg [(7, [])] [(0, .ptr p0), (2, .int .i64 p2), (3, .str p3), (4, .int .i64 p4), (6, .ptr (some (h.size, 0))), (39, .slice x6.r x6.n), (40, .int .i64 p4)] H (noU_all rfl) (fun fr => by kernel_rfl) ?_
      intro fr H
      obtain ⟨a7, hx, hm⟩ := bind_some hm
      refine at_step (v := .ptr (some a7)) (h1 := h4) [(0, .ptr p0), (2, .int .i64 p2), (3, .str p3), (4, .int .i64 p4), (6, .ptr (some (h.size, 0))), (41, .ptr (some (a7.1, a7.2)))] H (fun fr => by kernel_rfl) (fun fr => .of (s_ixL (s := x6) (by kernel_rfl) hx)) ?_
      intro fr t H
      obtain ⟨x7, hx, hm⟩ := bind_some hm
      refine at_step (v := .slice x7.r x7.n) (h1 := h4) [(0, .ptr p0), (2, .int .i64 p2), (3, .str p3), (4, .int .i64 p4), (6, .ptr (some (h.size, 0))), (42, .slice x7.r x7.n)] H (fun fr => by kernel_rfl) (fun fr => .of (s_ld (by kernel_rfl) (ldL_eq hx))) ?_
      intro fr t H
      refine at_step (v := .bool x7.r.isSome) (h1 := h4) [(0, .ptr p0), (2, .int .i64 p2), (3, .str p3), (4, .int .i64 p4), (6, .ptr (some (h.size, 0))), (43, .bool x7.r.isSome)] H (fun fr => by kernel_rfl) (fun fr => .of (s_nilF (by kernel_rfl))) ?_
      intro fr t H
      refine at_nil ?_
      show AW cfg 24 g (right (left (right (right (bodyC cfg.P 24))))) fr h4 _
      rcases iteB_some hm with ⟨hb, hm⟩ | ⟨hb, hm⟩
      · replace H := H.know 43 hb (by kernel_rfl)
        refine aw_true (x := .tmp 43) (by kernel_rfl) H (fun fr => by kernel_rfl) ?_
        refine aw_seq (by kernel_rfl) ?_
        refine aw_reg (id := 4) (n := 11) [(0, []), (1, []), (2, []), (3, []), (4, []), (5, []), (6, []), (7, []), (8, []), (9, []), (10, [])] (by kernel_rfl) (by kernel_rfl) ?_
        refine at_seg [(0, [])] [(2, .int .i64 p2), (4, .int .i64 p4), (44, .ptr p0)] H (noU_all rfl) (fun fr => by kernel_rfl) ?_
        intro fr H
        obtain ⟨a8, hx, hm⟩ := bind_some hm
        refine at_step (v := .ptr (some a8)) (h1 := h4) [(2, .int .i64 p2), (4, .int .i64 p4), (45, .ptr (some (a8.1, a8.2)))] H (fun fr => by kernel_rfl) (fun fr => .of (s_nc (by kernel_rfl) hx)) ?_
        intro fr t H
        refine at_seg [(2, [])] [(2, .int .i64 p2), (4, .int .i64 p4), (46, .ptr (some (a8.1, a8.2 + 0)))] H (noU_all rfl) (fun fr => by kernel_rfl) ?_
        intro fr H
        obtain ⟨x8, hx, hm⟩ := bind_some hm
        refine at_step (v := .slice x8.r x8.n) (h1 := h4) [(2, .int .i64 p2), (4, .int .i64 p4), (47, .slice x8.r x8.n)] H (fun fr => by kernel_rfl) (fun fr => .of (s_ld (by kernel_rfl) (ldL_eq hx))) ?_
        intro fr t H
        refine at_seg [(4, [])] [(4, .int .i64 p4), (47, .slice x8.r x8.n), (48, .int .i64 p2)] H (noU_all rfl) (fun fr => by kernel_rfl) ?_
        intro fr H
        obtain ⟨a9, hx, hm⟩ := bind_some hm
        refine at_step (v := .ptr (some a9)) (h1 := h4) [(4, .int .i64 p4), (49, .ptr (some (a9.1, a9.2)))] H (fun fr => by kernel_rfl) (fun fr => .of (s_ixL (s := x8) (by kernel_rfl) hx)) ?_
        intro fr t H
        obtain ⟨x9, hx, hm⟩ := bind_some hm
        refine at_step (v := .slice x9.r x9.n) (h1 := h4) [(4, .int .i64 p4), (50, .slice x9.r x9.n)] H (fun fr => by kernel_rfl) (fun fr => .of (s_ld (by kernel_rfl) (ldL_eq hx))) ?_
        intro fr t H
        refine at_seg [(7, [])] [(50, .slice x9.r x9.n), (51, .int .i64 p4)] H (noU_all rfl) (fun fr => by kernel_rfl) ?_
        intro fr H
        obtain ⟨a10, hx, hm⟩ := bind_some hm
        refine at_step (v := .ptr (some a10)) (h1 := h4) [(52, .ptr (some (a10.1, a10.2)))] H (fun fr => by kernel_rfl) (fun fr => .of (s_ixL (s := x9) (by kernel_rfl) hx)) ?_
        intro fr t H
        obtain ⟨x10, hx, hm⟩ := bind_some hm
        refine at_step (v := .slice x10.r x10.n) (h1 := h4) [(53, .slice x10.r x10.n)] H (fun fr => by kernel_rfl) (fun fr => .of (s_ld (by kernel_rfl) (ldL_eq hx))) ?_
        intro fr t H
        refine at_seg [(10, [])] [(10, .slice x10.r x10.n)] H (noU_all rfl) (fun fr => by kernel_rfl) ?_
        intro fr H
        refine at_nil ?_
        show AW cfg 24 g (right (left (right (left (right (right (bodyC cfg.P 24))))))) fr h4 _
        refine aw_ret (by kernel_rfl) ?_
        obtain ⟨e1, e2⟩ := inj2 hm
        subst e2
        subst e1
        exact (done_ret H (fun fr => by kernel_rfl) rfl : doneQ cfg.P _ _ _ _ fr _)
      · replace H := H.know 43 hb (by kernel_rfl)
        refine aw_false (x := .tmp 43) (by kernel_rfl) H (fun fr => by kernel_rfl) ?_
        refine aw_skip (by kernel_rfl) ?_
        show AW cfg 24 g (right (right (right (bodyC cfg.P 24)))) fr h4 _
        refine aw_seq (by kernel_rfl) ?_
        refine aw_reg (id := 5) (n := 7) [(0, []), (1, []), (2, []), (3, []), (4, []), (5, []), (6, [])] (by kernel_rfl) (by kernel_rfl) ?_
        refine at_seg [(0, [])] [(0, .ptr p0), (2, .int .i64 p2), (3, .str p3), (4, .int .i64 p4), (6, .ptr (some (h.size, 0))), (54, .ptr (some (h.size, 0)))] H (noU_all rfl) (fun fr => by kernel_rfl) ?_
        intro fr H
        obtain ⟨x11, hx, hm⟩ := bind_some hm
        refine at_step (v := .slice x11.r x11.n) (h1 := h4) [(0, .ptr p0), (2, .int .i64 p2), (3, .str p3), (4, .int .i64 p4), (6, .ptr (some (h.size, 0))), (55, .slice x11.r x11.n)] H (fun fr => by kernel_rfl) (fun fr => .of (s_ld (by kernel_rfl) (ldL_eq hx))) ?_
        intro fr t H
        refine at_seg [(2, [])] [(0, .ptr p0), (2, .int .i64 p2), (3, .str p3), (4, .int .i64 p4), (6, .ptr (some (h.size, 0))), (55, .slice x11.r x11.n), (56, .int .i64 p2)] H (noU_all rfl) (fun fr => by kernel_rfl) ?_
        intro fr H
        obtain ⟨a11, hx, hm⟩ := bind_some hm
        refine at_step (v := .ptr (some a11)) (h1 := h4) [(0, .ptr p0), (2, .int .i64 p2), (3, .str p3), (4, .int .i64 p4), (6, .ptr (some (h.size, 0))), (57, .ptr (some (a11.1, a11.2)))] H (fun fr => by kernel_rfl) (fun fr => .of (s_ixL (s := x11) (by kernel_rfl) hx)) ?_
        intro fr t H
        obtain ⟨x12, hx, hm⟩ := bind_some hm
        refine at_step (v := .agg x12) (h1 := h4) [(0, .ptr p0), (2, .int .i64 p2), (3, .str p3), (4, .int .i64 p4), (6, .ptr (some (h.size, 0))), (58, .agg x12)] H (fun fr => by kernel_rfl) (fun fr => .of (s_ldA (by kernel_rfl) hx)) ?_
        intro fr t H
        obtain ⟨h5, hx, hm⟩ := bind_some hm
        refine at_step (v := .ptr (some (h4.size, 0))) (h1 := h5) [(0, .ptr p0), (2, .int .i64 p2), (3, .str p3), (4, .int .i64 p4), (6, .ptr (some (h.size, 0))), (11, .ptr (some (h4.size, 0))), (58, .agg x12)] H (fun fr => by kernel_rfl) (fun fr => .of (s_n' (by kernel_rfl) hx)) ?_
        intro fr t H
        obtain ⟨h6, hx, hm⟩ := bind_some hm
        refine at_step (v := .tuple []) (h1 := h6) [(0, .ptr p0), (2, .int .i64 p2), (3, .str p3), (4, .int .i64 p4), (6, .ptr (some (h.size, 0))), (11, .ptr (some (h4.size, 0)))] H (fun fr => by kernel_rfl) (fun fr => .of (s_stG (by kernel_rfl) hx)) ?_
        intro fr t H
        refine at_nil ?_
        show AW cfg 24 g (right (right (right (right (bodyC cfg.P 24))))) fr h6 _
        refine aw_seq (by kernel_rfl) ?_
        refine aw_reg (id := 6) (n := 5) [(0, []), (1, []), (2, []), (3, []), (4, [])] (by kernel_rfl) (by kernel_rfl) ?_
        refine at_seg [(0, []), (1, []), (2, [])] [(0, .ptr p0), (2, .int .i64 p2), (3, .str p3), (4, .int .i64 p4), (6, .ptr (some (h.size, 0))), (11, .ptr (some (h4.size, 0))), (61, .int .i64 (IntKind.i64.wrap ((p3.length : Int) + (1 : Int))))] H (noU_all rfl) (fun fr => by kernel_rfl) ?_
        intro fr H
        obtain ⟨x13, hx, hm⟩ := bind_some hm
        obtain ⟨h7, hy, hm⟩ := bind_some hm
        refine at_step (v := .slice (some (h6.size, 0)) ((IntKind.i64.wrap ((p3.length : Int) + (1 : Int))).toNat)) (h1 := h7) [(0, .ptr p0), (2, .int .i64 p2), (3, .str p3), (4, .int .i64 p4), (6, .ptr (some (h.size, 0))), (11, .ptr (some (h4.size, 0))), (62, .slice (some (h6.size, 0)) ((IntKind.i64.wrap ((p3.length : Int) + (1 : Int))).toNat))] H (fun fr => by kernel_rfl) (fun fr => .of (s_mk' (by kernel_rfl) hx hy)) ?_
        intro fr t H
        refine at_seg [(4, [])] [(0, .ptr p0), (2, .int .i64 p2), (3, .str p3), (4, .int .i64 p4), (6, .ptr (some (h.size, 0))), (11, .ptr (some (h4.size, 0))), (12, .slice (some (h6.size, 0)) ((IntKind.i64.wrap ((p3.length : Int) + (1 : Int))).toNat))] H (noU_all rfl) (fun fr => by kernel_rfl) ?_
        intro fr H
        refine at_nil ?_
        show AW cfg 24 g (right (right (right (right (right (bodyC cfg.P 24)))))) fr h7 _
        refine aw_seq (by kernel_rfl) ?_
        obtain ⟨o2, ho, hm⟩ := bind_some hm
        refine aw_mono (Q' := fun e fr' h' => (e = .normal ∧ h' = o2 ∧ h' = h' ∧ Has fr' 185 [(0, .ptr p0), (2, .int .i64 p2), (4, .int .i64 p4), (12, .slice (some (h6.size, 0)) ((IntKind.i64.wrap ((p3.length : Int) + (1 : Int))).toNat))]) ∨ False) ?_ ?_
        · replace hm := ho
          clear ho
          refine aw_seq (by kernel_rfl) ?_
          refine aw_reg (id := 7) (n := 2) [(0, []), (1, [])] (by kernel_rfl) (by kernel_rfl) ?_
          refine at_seg [(0, [])] [(0, .ptr p0), (2, .int .i64 p2), (3, .str p3), (4, .int .i64 p4), (6, .ptr (some (h.size, 0))), (11, .ptr (some (h4.size, 0))), (12, .slice (some (h6.size, 0)) ((IntKind.i64.wrap ((p3.length : Int) + (1 : Int))).toNat)), (63, .ptr (some (h4.size, 0)))] H (noU_all rfl) (fun fr => by kernel_rfl) ?_
          intro fr H
          obtain ⟨x14, hx, hm⟩ := bind_some hm
          refine at_step (v := .int .i64 x14) (h1 := h7) [(0, .ptr p0), (2, .int .i64 p2), (3, .str p3), (4, .int .i64 p4), (6, .ptr (some (h.size, 0))), (11, .ptr (some (h4.size, 0))), (12, .slice (some (h6.size, 0)) ((IntKind.i64.wrap ((p3.length : Int) + (1 : Int))).toNat)), (64, .int .i64 x14)] H (fun fr => by kernel_rfl) (fun fr => .of (s_ld (by kernel_rfl) (ldI_eq hx))) ?_
          intro fr t H
          refine at_nil ?_
          show AW cfg 24 g (right (left (right (right (right (right (right (bodyC cfg.P 24)))))))) fr h7 _
          refine aw_block (id := 0) (by kernel_rfl) ?_
          refine aw_seq (by kernel_rfl) ?_
          refine aw_reg (id := 8) (n := 2) [(0, []), (1, [])] (by kernel_rfl) (by kernel_rfl) ?_
          refine at_seg [(0, []), (1, [])] [(0, .ptr p0), (2, .int .i64 p2), (3, .str p3), (4, .int .i64 p4), (6, .ptr (some (h.size, 0))), (11, .ptr (some (h4.size, 0))), (12, .slice (some (h6.size, 0)) ((IntKind.i64.wrap ((p3.length : Int) + (1 : Int))).toNat)), (64, .int .i64 x14), (65, .bool (x14 == (0 : Int)))] H (noU_all rfl) (fun fr => by kernel_rfl) ?_
          intro fr H
          refine at_nil ?_
          show AW cfg 24 g (right (left (right (left (right (right (right (right (right (bodyC cfg.P 24)))))))))) fr h7 _
          rcases iteB_some hm with ⟨hb, hm⟩ | ⟨hb, hm⟩
          · replace H := H.know 65 hb (by kernel_rfl)
            refine aw_true (x := .tmp 65) (by kernel_rfl) H (fun fr => by kernel_rfl) ?_
            refine aw_reg (id := 9) (n := 4) [(0, []), (1, []), (2, []), (3, [])] (by kernel_rfl) (by kernel_rfl) ?_
            refine at_seg [(0, []), (1, [])] [(0, .ptr p0), (2, .int .i64 p2), (4, .int .i64 p4), (12, .slice (some (h6.size, 0)) ((IntKind.i64.wrap ((p3.length : Int) + (1 : Int))).toNat)), (67, .slice (some (h6.size, 0)) ((IntKind.i64.wrap ((p3.length : Int) + (1 : Int))).toNat)), (68, .int .i64 p4)] H (noU_all rfl) (fun fr => by kernel_rfl) ?_
            intro fr H
            obtain ⟨a12, hx, hm⟩ := bind_some hm
            refine at_step (v := .ptr (some a12)) (h1 := h7) [(0, .ptr p0), (2, .int .i64 p2), (4, .int .i64 p4), (12, .slice (some (h6.size, 0)) ((IntKind.i64.wrap ((p3.length : Int) + (1 : Int))).toNat)), (69, .ptr (some (a12.1, a12.2)))] H (fun fr => by kernel_rfl) (fun fr => .of (s_ixL (s := (⟨some (h6.size, 0), (IntKind.i64.wrap ((p3.length : Int) + (1 : Int))).toNat⟩ : Sl)) (by kernel_rfl) hx)) ?_
            intro fr t H
            obtain ⟨h8, hx, hm⟩ := bind_some hm
            refine at_step (v := .tuple []) (h1 := h8) [(0, .ptr p0), (2, .int .i64 p2), (4, .int .i64 p4), (12, .slice (some (h6.size, 0)) ((IntKind.i64.wrap ((p3.length : Int) + (1 : Int))).toNat))] H (fun fr => by kernel_rfl) (fun fr => .of (s_st (by kernel_rfl) rfl hx)) ?_
            intro fr t H
            refine at_nil ?_
            exact Or.inl ⟨rfl, Option.some.inj hm, rfl, H.less _ (fun fr => by kernel_rfl)⟩
          · replace H := H.know 65 hb (by kernel_rfl)
            refine aw_false (x := .tmp 65) (by kernel_rfl) H (fun fr => by kernel_rfl) ?_
            refine aw_seq (by kernel_rfl) ?_
            refine aw_reg (id := 10) (n := 2) [(0, []), (1, [])] (by kernel_rfl) (by kernel_rfl) ?_
            refine at_seg [(0, []), (1, [])] [(0, .ptr p0), (2, .int .i64 p2), (3, .str p3), (4, .int .i64 p4), (6, .ptr (some (h.size, 0))), (11, .ptr (some (h4.size, 0))), (12, .slice (some (h6.size, 0)) ((IntKind.i64.wrap ((p3.length : Int) + (1 : Int))).toNat)), (64, .int .i64 x14), (70, .bool (x14 == (1 : Int)))] H (noU_all rfl) (fun fr => by kernel_rfl) ?_
            intro fr H
            refine at_nil ?_
            show AW cfg 24 g (right (right (right (left (right (left (right (right (right (right (right (bodyC cfg.P 24)))))))))))) fr h7 _
            rcases iteB_some hm with ⟨hb, hm⟩ | ⟨hb, hm⟩
            · replace H := H.know 70 hb (by kernel_rfl)
              refine aw_true (x := .tmp 70) (by kernel_rfl) H (fun fr => by kernel_rfl) ?_
              refine aw_seq (by kernel_rfl) ?_
              refine aw_draw (id := 11) (n := 12) (by kernel_rfl) [(0, []), (1, []), (2, []), (3, []), (4, []), (5, []), (6, []), (7, []), (8, []), (9, []), (10, []), (11, [])] (by kernel_rfl) ?_
              refine at_seg [(0, []), (1, []), (2, []), (3, []), (4, [])] [(0, .ptr p0), (2, .int .i64 p2), (3, .str p3), (4, .int .i64 p4), (11, .ptr (some (h4.size, 0))), (12, .slice (some (h6.size, 0)) ((IntKind.i64.wrap ((p3.length : Int) + (1 : Int))).toNat)), (76, .bool (decide (p4 < (p3.length : Int))))] H (noU_all rfl) (fun fr => by kernel_rfl) ?_
              intro fr H
              obtain ⟨x15, ho, hm⟩ := bind_some hm
              refine at_cut [(5, []), (6, []), (7, []), (8, []), (9, []), (10, []), (11, [])] (fun fr' h' => h7 = h' ∧ Has fr' 185 [(0, .ptr p0), (2, .int .i64 p2), (4, .int .i64 p4), (12, .slice (some (h6.size, 0)) ((IntKind.i64.wrap ((p3.length : Int) + (1 : Int))).toNat)), (83, .bool x15)]) ?_ ?_
              · rcases iteB_some ho with ⟨hb, hm⟩ | ⟨hb, hm⟩
                · replace H := H.know 76 hb (by kernel_rfl)
                  refine at_seg [(5, []), (6, [])] [(0, .ptr p0), (2, .int .i64 p2), (4, .int .i64 p4), (11, .ptr (some (h4.size, 0))), (12, .slice (some (h6.size, 0)) ((IntKind.i64.wrap ((p3.length : Int) + (1 : Int))).toNat)), (76, .bool true), (77, .str p3), (78, .int .i64 p4)] H (noU_all rfl) (fun fr => by kernel_rfl) ?_
                  intro fr H
                  obtain ⟨x16, hx, hm⟩ := bind_some hm
                  refine at_step (v := .int .u8 x16) (h1 := h7) [(0, .ptr p0), (2, .int .i64 p2), (4, .int .i64 p4), (11, .ptr (some (h4.size, 0))), (12, .slice (some (h6.size, 0)) ((IntKind.i64.wrap ((p3.length : Int) + (1 : Int))).toNat)), (76, .bool true), (79, .int .u8 x16)] H (fun fr => by kernel_rfl) (fun fr => .of (s_ixS (by kernel_rfl) hx)) ?_
                  intro fr t H
                  refine at_seg [(8, [])] [(0, .ptr p0), (2, .int .i64 p2), (4, .int .i64 p4), (12, .slice (some (h6.size, 0)) ((IntKind.i64.wrap ((p3.length : Int) + (1 : Int))).toNat)), (76, .bool true), (79, .int .u8 x16), (80, .ptr (some (h4.size, 6)))] H (noU_all rfl) (fun fr => by kernel_rfl) ?_
                  intro fr H
                  obtain ⟨x17, hx, hm⟩ := bind_some hm
                  refine at_step (v := .str x17) (h1 := h7) [(0, .ptr p0), (2, .int .i64 p2), (4, .int .i64 p4), (12, .slice (some (h6.size, 0)) ((IntKind.i64.wrap ((p3.length : Int) + (1 : Int))).toNat)), (76, .bool true), (79, .int .u8 x16), (81, .str x17)] H (fun fr => by kernel_rfl) (fun fr => .of (s_ld (by kernel_rfl) (ldS_eq hx))) ?_
                  intro fr t H
                  obtain ⟨x18, hx, hm⟩ := bind_some hm
                  refine at_step (v := .bool x18) (h1 := h7) [(0, .ptr p0), (2, .int .i64 p2), (4, .int .i64 p4), (12, .slice (some (h6.size, 0)) ((IntKind.i64.wrap ((p3.length : Int) + (1 : Int))).toNat)), (76, .bool true), (82, .bool x18)] H (fun fr => by kernel_rfl) (fun fr => Steps.call (by kernel_rfl) (ok_boulterref13_In hx)) ?_
                  intro fr t H
                  refine at_seg [(11, [])] [(0, .ptr p0), (2, .int .i64 p2), (4, .int .i64 p4), (12, .slice (some (h6.size, 0)) ((IntKind.i64.wrap ((p3.length : Int) + (1 : Int))).toNat)), (83, .bool x18)] H (noU_all rfl) (fun fr => by kernel_rfl) ?_
                  intro fr H
                  have e1 := Option.some.inj hm
                  subst e1
                  exact at_nil ⟨rfl, H.less _ (fun fr => by kernel_rfl)⟩
                · replace H := H.know 76 hb (by kernel_rfl)
                  refine at_seg [(5, []), (6, []), (7, []), (8, []), (9, []), (10, []), (11, [])] [(0, .ptr p0), (2, .int .i64 p2), (4, .int .i64 p4), (12, .slice (some (h6.size, 0)) ((IntKind.i64.wrap ((p3.length : Int) + (1 : Int))).toNat)), (83, .bool false)] H (noU_all rfl) (fun fr => by kernel_rfl) ?_
                  intro fr H
                  have e1 := Option.some.inj hm
                  subst e1
                  exact at_nil ⟨rfl, H.less _ (fun fr => by kernel_rfl)⟩
              · intro t fr h' hK
                obtain ⟨e, H⟩ := hK
                subst e
                refine at_nil ?_
                show AW cfg 24 g (right (left (right (right (right (left (right (left (right (right (right (right (right (bodyC cfg.P 24)))))))))))))) fr h7 _
                rcases iteB_some hm with ⟨hb, hm⟩ | ⟨hb, hm⟩
                · replace H := H.know 83 hb (by kernel_rfl)
                  refine aw_true (x := .tmp 83) (by kernel_rfl) H (fun fr => by kernel_rfl) ?_
                  refine aw_reg (id := 12) (n := 5) [(0, []), (1, []), (2, []), (3, []), (4, [])] (by kernel_rfl) (by kernel_rfl) ?_
                  refine at_seg [(0, []), (1, []), (2, [])] [(0, .ptr p0), (2, .int .i64 p2), (4, .int .i64 p4), (12, .slice (some (h6.size, 0)) ((IntKind.i64.wrap ((p3.length : Int) + (1 : Int))).toNat)), (84, .slice (some (h6.size, 0)) ((IntKind.i64.wrap ((p3.length : Int) + (1 : Int))).toNat)), (86, .int .i64 (IntKind.i64.wrap (p4 + (1 : Int))))] H (noU_all rfl) (fun fr => by kernel_rfl) ?_
                  intro fr H
                  obtain ⟨a13, hx, hm⟩ := bind_some hm
                  refine at_step (v := .ptr (some a13)) (h1 := h7) [(0, .ptr p0), (2, .int .i64 p2), (4, .int .i64 p4), (12, .slice (some (h6.size, 0)) ((IntKind.i64.wrap ((p3.length : Int) + (1 : Int))).toNat)), (87, .ptr (some (a13.1, a13.2)))] H (fun fr => by kernel_rfl) (fun fr => .of (s_ixL (s := (⟨some (h6.size, 0), (IntKind.i64.wrap ((p3.length : Int) + (1 : Int))).toNat⟩ : Sl)) (by kernel_rfl) hx)) ?_
                  intro fr t H
                  obtain ⟨h9, hx, hm⟩ := bind_some hm
                  refine at_step (v := .tuple []) (h1 := h9) [(0, .ptr p0), (2, .int .i64 p2), (4, .int .i64 p4), (12, .slice (some (h6.size, 0)) ((IntKind.i64.wrap ((p3.length : Int) + (1 : Int))).toNat))] H (fun fr => by kernel_rfl) (fun fr => .of (s_st (by kernel_rfl) rfl hx)) ?_
                  intro fr t H
                  refine at_nil ?_
                  exact Or.inl ⟨rfl, Option.some.inj hm, rfl, H.less _ (fun fr => by kernel_rfl)⟩
                · replace H := H.know 83 hb (by kernel_rfl)
                  refine aw_false (x := .tmp 83) (by kernel_rfl) H (fun fr => by kernel_rfl) ?_
                  refine aw_skip (by kernel_rfl) ?_
                  exact Or.inl ⟨rfl, Option.some.inj hm, rfl, H.less _ (fun fr => by kernel_rfl)⟩
            · replace H := H.know 70 hb (by kernel_rfl)
              refine aw_false (x := .tmp 70) (by kernel_rfl) H (fun fr => by kernel_rfl) ?_
              refine aw_seq (by kernel_rfl) ?_
              refine aw_reg (id := 13) (n := 2) [(0, []), (1, [])] (by kernel_rfl) (by kernel_rfl) ?_
              refine at_seg [(0, []), (1, [])] [(0, .ptr p0), (2, .int .i64 p2), (3, .str p3), (4, .int .i64 p4), (6, .ptr (some (h.size, 0))), (11, .ptr (some (h4.size, 0))), (12, .slice (some (h6.size, 0)) ((IntKind.i64.wrap ((p3.length : Int) + (1 : Int))).toNat)), (64, .int .i64 x14), (88, .bool (x14 == (2 : Int)))] H (noU_all rfl) (fun fr => by kernel_rfl) ?_
              intro fr H
              refine at_nil ?_
              show AW cfg 24 g (right (right (right (right (right (left (right (left (right (right (right (right (right (bodyC cfg.P 24)))))))))))))) fr h7 _
              rcases iteB_some hm with ⟨hb, hm⟩ | ⟨hb, hm⟩
              · replace H := H.know 88 hb (by kernel_rfl)
                refine aw_true (x := .tmp 88) (by kernel_rfl) H (fun fr => by kernel_rfl) ?_
                refine aw_seq (by kernel_rfl) ?_
                refine aw_reg (id := 14) (n := 8) [(0, []), (1, []), (2, []), (3, []), (4, []), (5, []), (6, []), (7, [])] (by kernel_rfl) (by kernel_rfl) ?_
                refine at_seg [(0, [])] [(0, .ptr p0), (2, .int .i64 p2), (3, .str p3), (4, .int .i64 p4), (6, .ptr (some (h.size, 0))), (11, .ptr (some (h4.size, 0))), (12, .slice (some (h6.size, 0)) ((IntKind.i64.wrap ((p3.length : Int) + (1 : Int))).toNat)), (90, .ptr p0)] H (noU_all rfl) (fun fr => by kernel_rfl) ?_
                intro fr H
                obtain ⟨x19, hx, hm⟩ := bind_some hm
                refine at_step (v := .agg x19) (h1 := h7) [(0, .ptr p0), (2, .int .i64 p2), (3, .str p3), (4, .int .i64 p4), (6, .ptr (some (h.size, 0))), (11, .ptr (some (h4.size, 0))), (12, .slice (some (h6.size, 0)) ((IntKind.i64.wrap ((p3.length : Int) + (1 : Int))).toNat)), (90, .ptr p0), (91, .agg x19)] H (fun fr => by kernel_rfl) (fun fr => .of (s_ldA (by kernel_rfl) hx)) ?_
                intro fr t H
                refine at_seg [(2, [])] [(0, .ptr p0), (2, .int .i64 p2), (3, .str p3), (4, .int .i64 p4), (6, .ptr (some (h.size, 0))), (11, .ptr (some (h4.size, 0))), (12, .slice (some (h6.size, 0)) ((IntKind.i64.wrap ((p3.length : Int) + (1 : Int))).toNat)), (90, .ptr p0), (91, .agg x19), (92, .ptr (some (h4.size, 1)))] H (noU_all rfl) (fun fr => by kernel_rfl) ?_
                intro fr H
                obtain ⟨x20, hx, hm⟩ := bind_some hm
                refine at_step (v := .int .i64 x20) (h1 := h7) [(0, .ptr p0), (2, .int .i64 p2), (3, .str p3), (4, .int .i64 p4), (6, .ptr (some (h.size, 0))), (11, .ptr (some (h4.size, 0))), (12, .slice (some (h6.size, 0)) ((IntKind.i64.wrap ((p3.length : Int) + (1 : Int))).toNat)), (90, .ptr p0), (91, .agg x19), (93, .int .i64 x20)] H (fun fr => by kernel_rfl) (fun fr => .of (s_ld (by kernel_rfl) (ldI_eq hx))) ?_
                intro fr t H
                refine at_seg [(4, []), (5, [])] [(0, .ptr p0), (2, .int .i64 p2), (3, .str p3), (4, .int .i64 p4), (6, .ptr (some (h.size, 0))), (11, .ptr (some (h4.size, 0))), (12, .slice (some (h6.size, 0)) ((IntKind.i64.wrap ((p3.length : Int) + (1 : Int))).toNat)), (90, .ptr p0), (91, .agg x19), (93, .int .i64 x20), (94, .str p3), (95, .int .i64 p4)] H (noU_all rfl) (fun fr => by kernel_rfl) ?_
                intro fr H
                obtain ⟨⟨x21, h10⟩, hx, hm⟩ := bind_some hm
                refine at_step (v := .slice x21.r x21.n) (h1 := h10) [(0, .ptr p0), (2, .int .i64 p2), (3, .str p3), (4, .int .i64 p4), (6, .ptr (some (h.size, 0))), (11, .ptr (some (h4.size, 0))), (12, .slice (some (h6.size, 0)) ((IntKind.i64.wrap ((p3.length : Int) + (1 : Int))).toNat)), (96, .slice x21.r x21.n)] H (fun fr => by kernel_rfl) (fun fr => Steps.call (by kernel_rfl) (hS.ok_boulterref18_memo_ends hx)) ?_
                intro fr t H
                refine at_seg [(7, [])] [(0, .ptr p0), (2, .int .i64 p2), (3, .str p3), (4, .int .i64 p4), (6, .ptr (some (h.size, 0))), (11, .ptr (some (h4.size, 0))), (12, .slice (some (h6.size, 0)) ((IntKind.i64.wrap ((p3.length : Int) + (1 : Int))).toNat)), (13, .slice x21.r x21.n)] H (noU_all rfl) (fun fr => by kernel_rfl) ?_
                intro fr H
                refine at_nil ?_
                show AW cfg 24 g (right (left (right (right (right (right (right (left (right (left (right (right (right (right (right (bodyC cfg.P 24)))))))))))))))) fr h10 _
                refine aw_seq (by kernel_rfl) ?_
                refine aw_reg (id := 15) (n := 2) [(0, []), (1, [])] (by kernel_rfl) (by kernel_rfl) ?_
                refine at_seg [(0, []), (1, [])] [(0, .ptr p0), (2, .int .i64 p2), (3, .str p3), (4, .int .i64 p4), (6, .ptr (some (h.size, 0))), (11, .ptr (some (h4.size, 0))), (12, .slice (some (h6.size, 0)) ((IntKind.i64.wrap ((p3.length : Int) + (1 : Int))).toNat)), (13, .slice x21.r x21.n), (14, .int .i64 p4)] H (noU_all rfl) (fun fr => by kernel_rfl) ?_
                intro fr H
                refine at_nil ?_
                show AW cfg 24 g (right (right (left (right (right (right (right (right (left (right (left (right (right (right (right (right (bodyC cfg.P 24))))))))))))))))) fr h10 _
                refine aw_block (id := 1) (by kernel_rfl) ?_
                obtain ⟨o3, ho, hm⟩ := bind_some hm
                refine aw_mono (Q' := fun e fr' h' => (e = .exit 1 ∧ h' = o3 ∧ h' = h' ∧ Has fr' 185 [(0, .ptr p0), (2, .int .i64 p2), (4, .int .i64 p4), (12, .slice (some (h6.size, 0)) ((IntKind.i64.wrap ((p3.length : Int) + (1 : Int))).toNat))]) ∨ False) ?_ ?_
                · refine aw_loop (by kernel_rfl) (fun (s : Int × AHeap) fr' h' => ∃ (x23 : Int), (x23, h') = s ∧ h' = h' ∧ Has fr' 185 [(0, .ptr p0), (2, .int .i64 p2), (3, .str p3), (4, .int .i64 p4), (6, .ptr (some (h.size, 0))), (11, .ptr (some (h4.size, 0))), (12, .slice (some (h6.size, 0)) ((IntKind.i64.wrap ((p3.length : Int) + (1 : Int))).toNat)), (13, .slice x21.r x21.n), (14, .int .i64 x23)]) ho ⟨p4, rfl, rfl, H.less _ (fun fr => by kernel_rfl)⟩ ?_
                  clear ho hm H
                  intro s q fr h11 hI hm
                  obtain ⟨x23, rfl, _, H⟩ := hI
                  unfold M_boulterref18_memo_ends_L0 at hm
                  refine aw_seq (by kernel_rfl) ?_
                  refine aw_seq (by kernel_rfl) ?_
                  refine aw_reg (id := 16) (n := 4) [(0, []), (1, []), (2, []), (3, [])] (by kernel_rfl) (by kernel_rfl) ?_
                  refine at_seg [(0, []), (1, []), (2, []), (3, [])] [(0, .ptr p0), (2, .int .i64 p2), (3, .str p3), (4, .int .i64 p4), (6, .ptr (some (h.size, 0))), (11, .ptr (some (h4.size, 0))), (12, .slice (some (h6.size, 0)) ((IntKind.i64.wrap ((p3.length : Int) + (1 : Int))).toNat)), (13, .slice x21.r x21.n), (14, .int .i64 x23), (101, .bool (decide (x23 ≤ (p3.length : Int))))] H (noU_all rfl) (fun fr => by kernel_rfl) ?_
                  intro fr H
                  refine at_nil ?_
                  show AW cfg 24 g (right (left (left (left (right (right (left (right (right (right (right (right (left (right (left (right (right (right (right (right (bodyC cfg.P 24))))))))))))))))))))) fr h11 _
                  rcases iteB_some hm with ⟨hb, hm⟩ | ⟨hb, hm⟩
                  · replace H := H.know 101 hb (by kernel_rfl)
                    refine aw_true (x := .tmp 101) (by kernel_rfl) H (fun fr => by kernel_rfl) ?_
                    refine aw_skip (by kernel_rfl) ?_
                    show AW cfg 24 g (right (left (left (right (right (left (right (right (right (right (right (left (right (left (right (right (right (right (right (bodyC cfg.P 24)))))))))))))))))))) fr h11 _
                    refine aw_seq (by kernel_rfl) ?_
                    obtain ⟨o4, ho, hm⟩ := bind_some hm
                    refine aw_mono (Q' := fun e fr' h' => (e = .normal ∧ h' = o4 ∧ h' = h' ∧ Has fr' 185 [(0, .ptr p0), (2, .int .i64 p2), (3, .str p3), (4, .int .i64 p4), (6, .ptr (some (h.size, 0))), (11, .ptr (some (h4.size, 0))), (12, .slice (some (h6.size, 0)) ((IntKind.i64.wrap ((p3.length : Int) + (1 : Int))).toNat)), (13, .slice x21.r x21.n), (14, .int .i64 x23)]) ∨ False) ?_ ?_
                    · replace hm := ho
                      clear ho
                      refine aw_block (id := 2) (by kernel_rfl) ?_
                      refine aw_seq (by kernel_rfl) ?_
                      refine aw_reg (id := 18) (n := 4) [(0, []), (1, []), (2, []), (3, [])] (by kernel_rfl) (by kernel_rfl) ?_
                      refine at_seg [(0, []), (1, [])] [(0, .ptr p0), (2, .int .i64 p2), (3, .str p3), (4, .int .i64 p4), (6, .ptr (some (h.size, 0))), (11, .ptr (some (h4.size, 0))), (12, .slice (some (h6.size, 0)) ((IntKind.i64.wrap ((p3.length : Int) + (1 : Int))).toNat)), (13, .slice x21.r x21.n), (14, .int .i64 x23), (104, .slice x21.r x21.n), (105, .int .i64 x23)] H (noU_all rfl) (fun fr => by kernel_rfl) ?_
                      intro fr H
                      obtain ⟨a14, hx, hm⟩ := bind_some hm
                      refine at_step (v := .ptr (some a14)) (h1 := h11) [(0, .ptr p0), (2, .int .i64 p2), (3, .str p3), (4, .int .i64 p4), (6, .ptr (some (h.size, 0))), (11, .ptr (some (h4.size, 0))), (12, .slice (some (h6.size, 0)) ((IntKind.i64.wrap ((p3.length : Int) + (1 : Int))).toNat)), (13, .slice x21.r x21.n), (14, .int .i64 x23), (106, .ptr (some (a14.1, a14.2)))] H (fun fr => by kernel_rfl) (fun fr => .of (s_ixL (s := x21) (by kernel_rfl) hx)) ?_
                      intro fr t H
                      obtain ⟨x24, hx, hm⟩ := bind_some hm
                      refine at_step (v := .bool x24) (h1 := h11) [(0, .ptr p0), (2, .int .i64 p2), (3, .str p3), (4, .int .i64 p4), (6, .ptr (some (h.size, 0))), (11, .ptr (some (h4.size, 0))), (12, .slice (some (h6.size, 0)) ((IntKind.i64.wrap ((p3.length : Int) + (1 : Int))).toNat)), (13, .slice x21.r x21.n), (14, .int .i64 x23), (107, .bool x24)] H (fun fr => by kernel_rfl) (fun fr => .of (s_ld (by kernel_rfl) (ldB_eq hx))) ?_
                      intro fr t H
                      refine at_nil ?_
                      show AW cfg 24 g (right (left (left (right (left (left (right (right (left (right (right (right (right (right (left (right (left (right (right (right (right (right (bodyC cfg.P 24))))))))))))))))))))))) fr h11 _
                      rcases iteB_some hm with ⟨hb, hm⟩ | ⟨hb, hm⟩
                      · replace H := H.know 107 hb (by kernel_rfl)
                        refine aw_true (x := .tmp 107) (by kernel_rfl) H (fun fr => by kernel_rfl) ?_
                        refine aw_reg (id := 19) (n := 9) [(0, []), (1, []), (2, []), (3, []), (4, []), (5, []), (6, []), (7, []), (8, [])] (by kernel_rfl) (by kernel_rfl) ?_
                        refine at_seg [(0, []), (1, [])] [(0, .ptr p0), (2, .int .i64 p2), (3, .str p3), (4, .int .i64 p4), (6, .ptr (some (h.size, 0))), (11, .ptr (some (h4.size, 0))), (12, .slice (some (h6.size, 0)) ((IntKind.i64.wrap ((p3.length : Int) + (1 : Int))).toNat)), (13, .slice x21.r x21.n), (14, .int .i64 x23), (108, .slice (some (h6.size, 0)) ((IntKind.i64.wrap ((p3.length : Int) + (1 : Int))).toNat)), (109, .ptr p0)] H (noU_all rfl) (fun fr => by kernel_rfl) ?_
                        intro fr H
                        obtain ⟨x25, hx, hm⟩ := bind_some hm
                        refine at_step (v := .agg x25) (h1 := h11) [(0, .ptr p0), (2, .int .i64 p2), (3, .str p3), (4, .int .i64 p4), (6, .ptr (some (h.size, 0))), (11, .ptr (some (h4.size, 0))), (12, .slice (some (h6.size, 0)) ((IntKind.i64.wrap ((p3.length : Int) + (1 : Int))).toNat)), (13, .slice x21.r x21.n), (14, .int .i64 x23), (108, .slice (some (h6.size, 0)) ((IntKind.i64.wrap ((p3.length : Int) + (1 : Int))).toNat)), (109, .ptr p0), (110, .agg x25)] H (fun fr => by kernel_rfl) (fun fr => .of (s_ldA (by kernel_rfl) hx)) ?_
                        intro fr t H
                        refine at_seg [(3, [])] [(0, .ptr p0), (2, .int .i64 p2), (3, .str p3), (4, .int .i64 p4), (6, .ptr (some (h.size, 0))), (11, .ptr (some (h4.size, 0))), (12, .slice (some (h6.size, 0)) ((IntKind.i64.wrap ((p3.length : Int) + (1 : Int))).toNat)), (13, .slice x21.r x21.n), (14, .int .i64 x23), (108, .slice (some (h6.size, 0)) ((IntKind.i64.wrap ((p3.length : Int) + (1 : Int))).toNat)), (109, .ptr p0), (110, .agg x25), (111, .ptr (some (h4.size, 2)))] H (noU_all rfl) (fun fr => by kernel_rfl) ?_
                        intro fr H
                        obtain ⟨x26, hx, hm⟩ := bind_some hm
                        refine at_step (v := .int .i64 x26) (h1 := h11) [(0, .ptr p0), (2, .int .i64 p2), (3, .str p3), (4, .int .i64 p4), (6, .ptr (some (h.size, 0))), (11, .ptr (some (h4.size, 0))), (12, .slice (some (h6.size, 0)) ((IntKind.i64.wrap ((p3.length : Int) + (1 : Int))).toNat)), (13, .slice x21.r x21.n), (14, .int .i64 x23), (108, .slice (some (h6.size, 0)) ((IntKind.i64.wrap ((p3.length : Int) + (1 : Int))).toNat)), (109, .ptr p0), (110, .agg x25), (112, .int .i64 x26)] H (fun fr => by kernel_rfl) (fun fr => .of (s_ld (by kernel_rfl) (ldI_eq hx))) ?_
                        intro fr t H
                        refine at_seg [(5, []), (6, [])] [(0, .ptr p0), (2, .int .i64 p2), (3, .str p3), (4, .int .i64 p4), (6, .ptr (some (h.size, 0))), (11, .ptr (some (h4.size, 0))), (12, .slice (some (h6.size, 0)) ((IntKind.i64.wrap ((p3.length : Int) + (1 : Int))).toNat)), (13, .slice x21.r x21.n), (14, .int .i64 x23), (108, .slice (some (h6.size, 0)) ((IntKind.i64.wrap ((p3.length : Int) + (1 : Int))).toNat)), (109, .ptr p0), (110, .agg x25), (112, .int .i64 x26), (113, .str p3), (114, .int .i64 x23)] H (noU_all rfl) (fun fr => by kernel_rfl) ?_
                        intro fr H
                        obtain ⟨⟨x27, h12⟩, hx, hm⟩ := bind_some hm
                        refine at_step (v := .slice x27.r x27.n) (h1 := h12) [(0, .ptr p0), (2, .int .i64 p2), (3, .str p3), (4, .int .i64 p4), (6, .ptr (some (h.size, 0))), (11, .ptr (some (h4.size, 0))), (12, .slice (some (h6.size, 0)) ((IntKind.i64.wrap ((p3.length : Int) + (1 : Int))).toNat)), (13, .slice x21.r x21.n), (14, .int .i64 x23), (108, .slice (some (h6.size, 0)) ((IntKind.i64.wrap ((p3.length : Int) + (1 : Int))).toNat)), (115, .slice x27.r x27.n)] H (fun fr => by kernel_rfl) (fun fr => Steps.call (by kernel_rfl) (hS.ok_boulterref18_memo_ends hx)) ?_
                        intro fr t H
                        obtain ⟨⟨⟨⟩, h13⟩, hx, hm⟩ := bind_some hm
                        refine at_step (v := .tuple []) (h1 := h13) [(0, .ptr p0), (2, .int .i64 p2), (3, .str p3), (4, .int .i64 p4), (6, .ptr (some (h.size, 0))), (11, .ptr (some (h4.size, 0))), (12, .slice (some (h6.size, 0)) ((IntKind.i64.wrap ((p3.length : Int) + (1 : Int))).toNat)), (13, .slice x21.r x21.n), (14, .int .i64 x23)] H (fun fr => by kernel_rfl) (fun fr => Steps.call (by kernel_rfl) (ok_boulterref18_add hx)) ?_
                        intro fr t H
                        refine at_nil ?_
                        exact Or.inl ⟨rfl, Option.some.inj hm, rfl, H.less _ (fun fr => by kernel_rfl)⟩
                      · replace H := H.know 107 hb (by kernel_rfl)
                        refine aw_false (x := .tmp 107) (by kernel_rfl) H (fun fr => by kernel_rfl) ?_
                        refine aw_skip (by kernel_rfl) ?_
                        exact Or.inl ⟨rfl, Option.some.inj hm, rfl, H.less _ (fun fr => by kernel_rfl)⟩
                    · clear ho
                      intro e fr h14 hQ
                      rcases hQ with ⟨rfl, rfl, _, H⟩ | hF
                      · skip
                        show AW cfg 24 g (right (right (left (left (right (right (left (right (right (right (right (right (left (right (left (right (right (right (right (right (bodyC cfg.P 24))))))))))))))))))))) fr h14 _
                        refine aw_reg (id := 17) (n := 3) [(0, []), (1, []), (2, [])] (by kernel_rfl) (by kernel_rfl) ?_
                        refine at_seg [(0, []), (1, []), (2, [])] [(0, .ptr p0), (2, .int .i64 p2), (3, .str p3), (4, .int .i64 p4), (6, .ptr (some (h.size, 0))), (11, .ptr (some (h4.size, 0))), (12, .slice (some (h6.size, 0)) ((IntKind.i64.wrap ((p3.length : Int) + (1 : Int))).toNat)), (13, .slice x21.r x21.n), (14, .int .i64 (IntKind.i64.wrap (x23 + (1 : Int))))] H (noU_all rfl) (fun fr => by kernel_rfl) ?_
                        intro fr H
                        refine at_nil ?_
                        exact Exists.intro (IntKind.i64.wrap (x23 + (1 : Int)), h14) (And.intro (Option.some.inj hm).symm ⟨IntKind.i64.wrap (x23 + (1 : Int)), rfl, rfl, H.less _ (fun fr => by kernel_rfl)⟩)
                      · exact hF.elim
                  · replace H := H.know 101 hb (by kernel_rfl)
                    refine aw_false (x := .tmp 101) (by kernel_rfl) H (fun fr => by kernel_rfl) ?_
                    refine aw_exit (i := 1) (by kernel_rfl) ?_
                    exact Exists.intro _ (And.intro (Option.some.inj hm).symm (fun e => Or.inl ⟨rfl, e, rfl, H.less _ (fun fr => by kernel_rfl)⟩))
                · clear ho
                  intro e fr h15 hQ
                  rcases hQ with ⟨rfl, rfl, _, H⟩ | hF
                  · skip
                    exact Or.inl ⟨rfl, Option.some.inj hm, rfl, H.less _ (fun fr => by kernel_rfl)⟩
                  · exact hF.elim
              · replace H := H.know 88 hb (by kernel_rfl)
                refine aw_false (x := .tmp 88) (by kernel_rfl) H (fun fr => by kernel_rfl) ?_
                refine aw_seq (by kernel_rfl) ?_
                refine aw_reg (id := 20) (n := 2) [(0, []), (1, [])] (by kernel_rfl) (by kernel_rfl) ?_
                refine at_seg [(0, []), (1, [])] [(0, .ptr p0), (2, .int .i64 p2), (3, .str p3), (4, .int .i64 p4), (6, .ptr (some (h.size, 0))), (11, .ptr (some (h4.size, 0))), (12, .slice (some (h6.size, 0)) ((IntKind.i64.wrap ((p3.length : Int) + (1 : Int))).toNat)), (64, .int .i64 x14), (117, .bool (x14 == (3 : Int)))] H (noU_all rfl) (fun fr => by kernel_rfl) ?_
                intro fr H
                refine at_nil ?_
                show AW cfg 24 g (right (right (right (right (right (right (right (left (right (left (right (right (right (right (right (bodyC cfg.P 24)))))))))))))))) fr h7 _
                rcases iteB_some hm with ⟨hb, hm⟩ | ⟨hb, hm⟩
                · replace H := H.know 117 hb (by kernel_rfl)
                  refine aw_true (x := .tmp 117) (by kernel_rfl) H (fun fr => by kernel_rfl) ?_
                  refine aw_seq (by kernel_rfl) ?_
                  refine aw_reg (id := 21) (n := 9) [(0, []), (1, []), (2, []), (3, []), (4, []), (5, []), (6, []), (7, []), (8, [])] (by kernel_rfl) (by kernel_rfl) ?_
                  refine at_seg [(0, []), (1, [])] [(0, .ptr p0), (2, .int .i64 p2), (3, .str p3), (4, .int .i64 p4), (6, .ptr (some (h.size, 0))), (11, .ptr (some (h4.size, 0))), (12, .slice (some (h6.size, 0)) ((IntKind.i64.wrap ((p3.length : Int) + (1 : Int))).toNat)), (119, .slice (some (h6.size, 0)) ((IntKind.i64.wrap ((p3.length : Int) + (1 : Int))).toNat)), (120, .ptr p0)] H (noU_all rfl) (fun fr => by kernel_rfl) ?_
                  intro fr H
                  obtain ⟨x28, hx, hm⟩ := bind_some hm
                  refine at_step (v := .agg x28) (h1 := h7) [(0, .ptr p0), (2, .int .i64 p2), (3, .str p3), (4, .int .i64 p4), (6, .ptr (some (h.size, 0))), (11, .ptr (some (h4.size, 0))), (12, .slice (some (h6.size, 0)) ((IntKind.i64.wrap ((p3.length : Int) + (1 : Int))).toNat)), (119, .slice (some (h6.size, 0)) ((IntKind.i64.wrap ((p3.length : Int) + (1 : Int))).toNat)), (120, .ptr p0), (121, .agg x28)] H (fun fr => by kernel_rfl) (fun fr => .of (s_ldA (by kernel_rfl) hx)) ?_
                  intro fr t H
                  refine at_seg [(3, [])] [(0, .ptr p0), (2, .int .i64 p2), (3, .str p3), (4, .int .i64 p4), (6, .ptr (some (h.size, 0))), (11, .ptr (some (h4.size, 0))), (12, .slice (some (h6.size, 0)) ((IntKind.i64.wrap ((p3.length : Int) + (1 : Int))).toNat)), (119, .slice (some (h6.size, 0)) ((IntKind.i64.wrap ((p3.length : Int) + (1 : Int))).toNat)), (120, .ptr p0), (121, .agg x28), (122, .ptr (some (h4.size, 1)))] H (noU_all rfl) (fun fr => by kernel_rfl) ?_
                  intro fr H
                  obtain ⟨x29, hx, hm⟩ := bind_some hm
                  refine at_step (v := .int .i64 x29) (h1 := h7) [(0, .ptr p0), (2, .int .i64 p2), (3, .str p3), (4, .int .i64 p4), (6, .ptr (some (h.size, 0))), (11, .ptr (some (h4.size, 0))), (12, .slice (some (h6.size, 0)) ((IntKind.i64.wrap ((p3.length : Int) + (1 : Int))).toNat)), (119, .slice (some (h6.size, 0)) ((IntKind.i64.wrap ((p3.length : Int) + (1 : Int))).toNat)), (120, .ptr p0), (121, .agg x28), (123, .int .i64 x29)] H (fun fr => by kernel_rfl) (fun fr => .of (s_ld (by kernel_rfl) (ldI_eq hx))) ?_
                  intro fr t H
                  refine at_seg [(5, []), (6, [])] [(0, .ptr p0), (2, .int .i64 p2), (3, .str p3), (4, .int .i64 p4), (6, .ptr (some (h.size, 0))), (11, .ptr (some (h4.size, 0))), (12, .slice (some (h6.size, 0)) ((IntKind.i64.wrap ((p3.length : Int) + (1 : Int))).toNat)), (119, .slice (some (h6.size, 0)) ((IntKind.i64.wrap ((p3.length : Int) + (1 : Int))).toNat)), (120, .ptr p0), (121, .agg x28), (123, .int .i64 x29), (124, .str p3), (125, .int .i64 p4)] H (noU_all rfl) (fun fr => by kernel_rfl) ?_
                  intro fr H
                  obtain ⟨⟨x30, h16⟩, hx, hm⟩ := bind_some hm
                  refine at_step (v := .slice x30.r x30.n) (h1 := h16) [(0, .ptr p0), (2, .int .i64 p2), (3, .str p3), (4, .int .i64 p4), (6, .ptr (some (h.size, 0))), (11, .ptr (some (h4.size, 0))), (12, .slice (some (h6.size, 0)) ((IntKind.i64.wrap ((p3.length : Int) + (1 : Int))).toNat)), (119, .slice (some (h6.size, 0)) ((IntKind.i64.wrap ((p3.length : Int) + (1 : Int))).toNat)), (126, .slice x30.r x30.n)] H (fun fr => by kernel_rfl) (fun fr => Steps.call (by kernel_rfl) (hS.ok_boulterref18_memo_ends hx)) ?_
                  intro fr t H
                  obtain ⟨⟨⟨⟩, h17⟩, hx, hm⟩ := bind_some hm
                  refine at_step (v := .tuple []) (h1 := h17) [(0, .ptr p0), (2, .int .i64 p2), (3, .str p3), (4, .int .i64 p4), (6, .ptr (some (h.size, 0))), (11, .ptr (some (h4.size, 0))), (12, .slice (some (h6.size, 0)) ((IntKind.i64.wrap ((p3.length : Int) + (1 : Int))).toNat))] H (fun fr => by kernel_rfl) (fun fr => Steps.call (by kernel_rfl) (ok_boulterref18_add hx)) ?_
                  intro fr t H
                  refine at_nil ?_
                  show AW cfg 24 g (right (left (right (right (right (right (right (right (right (left (right (left (right (right (right (right (right (bodyC cfg.P 24)))))))))))))))))) fr h17 _
                  refine aw_reg (id := 22) (n := 9) [(0, []), (1, []), (2, []), (3, []), (4, []), (5, []), (6, []), (7, []), (8, [])] (by kernel_rfl) (by kernel_rfl) ?_
                  refine at_seg [(0, []), (1, [])] [(0, .ptr p0), (2, .int .i64 p2), (3, .str p3), (4, .int .i64 p4), (6, .ptr (some (h.size, 0))), (11, .ptr (some (h4.size, 0))), (12, .slice (some (h6.size, 0)) ((IntKind.i64.wrap ((p3.length : Int) + (1 : Int))).toNat)), (128, .slice (some (h6.size, 0)) ((IntKind.i64.wrap ((p3.length : Int) + (1 : Int))).toNat)), (129, .ptr p0)] H (noU_all rfl) (fun fr => by kernel_rfl) ?_
                  intro fr H
                  obtain ⟨x31, hx, hm⟩ := bind_some hm
                  refine at_step (v := .agg x31) (h1 := h17) [(0, .ptr p0), (2, .int .i64 p2), (3, .str p3), (4, .int .i64 p4), (11, .ptr (some (h4.size, 0))), (12, .slice (some (h6.size, 0)) ((IntKind.i64.wrap ((p3.length : Int) + (1 : Int))).toNat)), (128, .slice (some (h6.size, 0)) ((IntKind.i64.wrap ((p3.length : Int) + (1 : Int))).toNat)), (129, .ptr p0), (130, .agg x31)] H (fun fr => by kernel_rfl) (fun fr => .of (s_ldA (by kernel_rfl) hx)) ?_
                  intro fr t H
                  refine at_seg [(3, [])] [(0, .ptr p0), (2, .int .i64 p2), (3, .str p3), (4, .int .i64 p4), (12, .slice (some (h6.size, 0)) ((IntKind.i64.wrap ((p3.length : Int) + (1 : Int))).toNat)), (128, .slice (some (h6.size, 0)) ((IntKind.i64.wrap ((p3.length : Int) + (1 : Int))).toNat)), (129, .ptr p0), (130, .agg x31), (131, .ptr (some (h4.size, 2)))] H (noU_all rfl) (fun fr => by kernel_rfl) ?_
                  intro fr H
                  obtain ⟨x32, hx, hm⟩ := bind_some hm
                  refine at_step (v := .int .i64 x32) (h1 := h17) [(0, .ptr p0), (2, .int .i64 p2), (3, .str p3), (4, .int .i64 p4), (12, .slice (some (h6.size, 0)) ((IntKind.i64.wrap ((p3.length : Int) + (1 : Int))).toNat)), (128, .slice (some (h6.size, 0)) ((IntKind.i64.wrap ((p3.length : Int) + (1 : Int))).toNat)), (129, .ptr p0), (130, .agg x31), (132, .int .i64 x32)] H (fun fr => by kernel_rfl) (fun fr => .of (s_ld (by kernel_rfl) (ldI_eq hx))) ?_
                  intro fr t H
                  refine at_seg [(5, []), (6, [])] [(0, .ptr p0), (2, .int .i64 p2), (4, .int .i64 p4), (12, .slice (some (h6.size, 0)) ((IntKind.i64.wrap ((p3.length : Int) + (1 : Int))).toNat)), (128, .slice (some (h6.size, 0)) ((IntKind.i64.wrap ((p3.length : Int) + (1 : Int))).toNat)), (129, .ptr p0), (130, .agg x31), (132, .int .i64 x32), (133, .str p3), (134, .int .i64 p4)] H (noU_all rfl) (fun fr => by kernel_rfl) ?_
                  intro fr H
                  obtain ⟨⟨x33, h18⟩, hx, hm⟩ := bind_some hm
                  refine at_step (v := .slice x33.r x33.n) (h1 := h18) [(0, .ptr p0), (2, .int .i64 p2), (4, .int .i64 p4), (12, .slice (some (h6.size, 0)) ((IntKind.i64.wrap ((p3.length : Int) + (1 : Int))).toNat)), (128, .slice (some (h6.size, 0)) ((IntKind.i64.wrap ((p3.length : Int) + (1 : Int))).toNat)), (135, .slice x33.r x33.n)] H (fun fr => by kernel_rfl) (fun fr => Steps.call (by kernel_rfl) (hS.ok_boulterref18_memo_ends hx)) ?_
                  intro fr t H
                  obtain ⟨⟨⟨⟩, h19⟩, hx, hm⟩ := bind_some hm
                  refine at_step (v := .tuple []) (h1 := h19) [(0, .ptr p0), (2, .int .i64 p2), (4, .int .i64 p4), (12, .slice (some (h6.size, 0)) ((IntKind.i64.wrap ((p3.length : Int) + (1 : Int))).toNat))] H (fun fr => by kernel_rfl) (fun fr => Steps.call (by kernel_rfl) (ok_boulterref18_add hx)) ?_
                  intro fr t H
                  refine at_nil ?_
                  exact Or.inl ⟨rfl, Option.some.inj hm, rfl, H.less _ (fun fr => by kernel_rfl)⟩
                · replace H := H.know 117 hb (by kernel_rfl)
                  refine aw_false (x := .tmp 117) (by kernel_rfl) H (fun fr => by kernel_rfl) ?_
                  refine aw_seq (by kernel_rfl) ?_
                  refine aw_reg (id := 23) (n := 2) [(0, []), (1, [])] (by kernel_rfl) (by kernel_rfl) ?_
                  refine at_seg [(0, []), (1, [])] [(0, .ptr p0), (2, .int .i64 p2), (3, .str p3), (4, .int .i64 p4), (6, .ptr (some (h.size, 0))), (11, .ptr (some (h4.size, 0))), (12, .slice (some (h6.size, 0)) ((IntKind.i64.wrap ((p3.length : Int) + (1 : Int))).toNat)), (64, .int .i64 x14), (137, .bool (x14 == (4 : Int)))] H (noU_all rfl) (fun fr => by kernel_rfl) ?_
                  intro fr H
                  refine at_nil ?_
                  show AW cfg 24 g (right (right (right (right (right (right (right (right (right (left (right (left (right (right (right (right (right (bodyC cfg.P 24)))))))))))))))))) fr h7 _
                  rcases iteB_some hm with ⟨hb, hm⟩ | ⟨hb, hm⟩
                  · replace H := H.know 137 hb (by kernel_rfl)
                    refine aw_true (x := .tmp 137) (by kernel_rfl) H (fun fr => by kernel_rfl) ?_
                    refine aw_reg (id := 24) (n := 8) [(0, []), (1, []), (2, []), (3, []), (4, []), (5, []), (6, []), (7, [])] (by kernel_rfl) (by kernel_rfl) ?_
                    refine at_seg [(0, []), (1, [])] [(0, .ptr p0), (2, .int .i64 p2), (3, .str p3), (4, .int .i64 p4), (6, .ptr (some (h.size, 0))), (11, .ptr (some (h4.size, 0))), (12, .slice (some (h6.size, 0)) ((IntKind.i64.wrap ((p3.length : Int) + (1 : Int))).toNat)), (139, .slice (some (h6.size, 0)) ((IntKind.i64.wrap ((p3.length : Int) + (1 : Int))).toNat)), (140, .ptr p0)] H (noU_all rfl) (fun fr => by kernel_rfl) ?_
                    intro fr H
                    obtain ⟨x34, hx, hm⟩ := bind_some hm
                    refine at_step (v := .agg x34) (h1 := h7) [(0, .ptr p0), (2, .int .i64 p2), (3, .str p3), (4, .int .i64 p4), (11, .ptr (some (h4.size, 0))), (12, .slice (some (h6.size, 0)) ((IntKind.i64.wrap ((p3.length : Int) + (1 : Int))).toNat)), (139, .slice (some (h6.size, 0)) ((IntKind.i64.wrap ((p3.length : Int) + (1 : Int))).toNat)), (140, .ptr p0), (141, .agg x34)] H (fun fr => by kernel_rfl) (fun fr => .of (s_ldA (by kernel_rfl) hx)) ?_
                    intro fr t H
                    obtain ⟨x35, hx, hm⟩ := bind_some hm
                    refine at_step (v := .agg x35) (h1 := h7) [(0, .ptr p0), (2, .int .i64 p2), (3, .str p3), (4, .int .i64 p4), (12, .slice (some (h6.size, 0)) ((IntKind.i64.wrap ((p3.length : Int) + (1 : Int))).toNat)), (139, .slice (some (h6.size, 0)) ((IntKind.i64.wrap ((p3.length : Int) + (1 : Int))).toNat)), (140, .ptr p0), (141, .agg x34), (142, .agg x35)] H (fun fr => by kernel_rfl) (fun fr => .of (s_ldA (by kernel_rfl) hx)) ?_
                    intro fr t H
                    refine at_seg [(4, []), (5, [])] [(0, .ptr p0), (2, .int .i64 p2), (4, .int .i64 p4), (12, .slice (some (h6.size, 0)) ((IntKind.i64.wrap ((p3.length : Int) + (1 : Int))).toNat)), (139, .slice (some (h6.size, 0)) ((IntKind.i64.wrap ((p3.length : Int) + (1 : Int))).toNat)), (140, .ptr p0), (141, .agg x34), (142, .agg x35), (143, .str p3), (144, .int .i64 p4)] H (noU_all rfl) (fun fr => by kernel_rfl) ?_
                    intro fr H
                    obtain ⟨⟨x36, h20⟩, hx, hm⟩ := bind_some hm
                    refine at_step (v := .slice x36.r x36.n) (h1 := h20) [(0, .ptr p0), (2, .int .i64 p2), (4, .int .i64 p4), (12, .slice (some (h6.size, 0)) ((IntKind.i64.wrap ((p3.length : Int) + (1 : Int))).toNat)), (139, .slice (some (h6.size, 0)) ((IntKind.i64.wrap ((p3.length : Int) + (1 : Int))).toNat)), (145, .slice x36.r x36.n)] H (fun fr => by kernel_rfl) (fun fr => Steps.call (by kernel_rfl) (hS.ok_boulterref18_memo_repeat hx)) ?_
                    intro fr t H
                    obtain ⟨⟨⟨⟩, h21⟩, hx, hm⟩ := bind_some hm
                    refine at_step (v := .tuple []) (h1 := h21) [(0, .ptr p0), (2, .int .i64 p2), (4, .int .i64 p4), (12, .slice (some (h6.size, 0)) ((IntKind.i64.wrap ((p3.length : Int) + (1 : Int))).toNat))] H (fun fr => by kernel_rfl) (fun fr => Steps.call (by kernel_rfl) (ok_boulterref18_add hx)) ?_
                    intro fr t H
                    refine at_nil ?_
                    exact Or.inl ⟨rfl, Option.some.inj hm, rfl, H.less _ (fun fr => by kernel_rfl)⟩
                  · replace H := H.know 137 hb (by kernel_rfl)
                    refine aw_false (x := .tmp 137) (by kernel_rfl) H (fun fr => by kernel_rfl) ?_
                    refine aw_seq (by kernel_rfl) ?_
                    refine aw_reg (id := 25) (n := 2) [(0, []), (1, [])] (by kernel_rfl) (by kernel_rfl) ?_
                    refine at_seg [(0, []), (1, [])] [(0, .ptr p0), (2, .int .i64 p2), (3, .str p3), (4, .int .i64 p4), (6, .ptr (some (h.size, 0))), (11, .ptr (some (h4.size, 0))), (12, .slice (some (h6.size, 0)) ((IntKind.i64.wrap ((p3.length : Int) + (1 : Int))).toNat)), (64, .int .i64 x14), (147, .bool (x14 == (5 : Int)))] H (noU_all rfl) (fun fr => by kernel_rfl) ?_
                    intro fr H
                    refine at_nil ?_
                    show AW cfg 24 g (right (right (right (right (right (right (right (right (right (right (right (left (right (left (right (right (right (right (right (bodyC cfg.P 24)))))))))))))))))))) fr h7 _
                    rcases iteB_some hm with ⟨hb, hm⟩ | ⟨hb, hm⟩
                    · replace H := H.know 147 hb (by kernel_rfl)
                      refine aw_true (x := .tmp 147) (by kernel_rfl) H (fun fr => by kernel_rfl) ?_
                      refine aw_reg (id := 26) (n := 9) [(0, []), (1, []), (2, []), (3, []), (4, []), (5, []), (6, []), (7, []), (8, [])] (by kernel_rfl) (by kernel_rfl) ?_
                      refine at_seg [(0, []), (1, [])] [(0, .ptr p0), (2, .int .i64 p2), (3, .str p3), (4, .int .i64 p4), (6, .ptr (some (h.size, 0))), (11, .ptr (some (h4.size, 0))), (12, .slice (some (h6.size, 0)) ((IntKind.i64.wrap ((p3.length : Int) + (1 : Int))).toNat)), (149, .slice (some (h6.size, 0)) ((IntKind.i64.wrap ((p3.length : Int) + (1 : Int))).toNat)), (150, .ptr p0)] H (noU_all rfl) (fun fr => by kernel_rfl) ?_
                      intro fr H
                      obtain ⟨x37, hx, hm⟩ := bind_some hm
                      refine at_step (v := .agg x37) (h1 := h7) [(0, .ptr p0), (2, .int .i64 p2), (3, .str p3), (4, .int .i64 p4), (11, .ptr (some (h4.size, 0))), (12, .slice (some (h6.size, 0)) ((IntKind.i64.wrap ((p3.length : Int) + (1 : Int))).toNat)), (149, .slice (some (h6.size, 0)) ((IntKind.i64.wrap ((p3.length : Int) + (1 : Int))).toNat)), (150, .ptr p0), (151, .agg x37)] H (fun fr => by kernel_rfl) (fun fr => .of (s_ldA (by kernel_rfl) hx)) ?_
                      intro fr t H
                      refine at_seg [(3, [])] [(0, .ptr p0), (2, .int .i64 p2), (3, .str p3), (4, .int .i64 p4), (12, .slice (some (h6.size, 0)) ((IntKind.i64.wrap ((p3.length : Int) + (1 : Int))).toNat)), (149, .slice (some (h6.size, 0)) ((IntKind.i64.wrap ((p3.length : Int) + (1 : Int))).toNat)), (150, .ptr p0), (151, .agg x37), (152, .ptr (some (h4.size, 1)))] H (noU_all rfl) (fun fr => by kernel_rfl) ?_
                      intro fr H
                      obtain ⟨x38, hx, hm⟩ := bind_some hm
                      refine at_step (v := .int .i64 x38) (h1 := h7) [(0, .ptr p0), (2, .int .i64 p2), (3, .str p3), (4, .int .i64 p4), (12, .slice (some (h6.size, 0)) ((IntKind.i64.wrap ((p3.length : Int) + (1 : Int))).toNat)), (149, .slice (some (h6.size, 0)) ((IntKind.i64.wrap ((p3.length : Int) + (1 : Int))).toNat)), (150, .ptr p0), (151, .agg x37), (153, .int .i64 x38)] H (fun fr => by kernel_rfl) (fun fr => .of (s_ld (by kernel_rfl) (ldI_eq hx))) ?_
                      intro fr t H
                      refine at_seg [(5, []), (6, [])] [(0, .ptr p0), (2, .int .i64 p2), (4, .int .i64 p4), (12, .slice (some (h6.size, 0)) ((IntKind.i64.wrap ((p3.length : Int) + (1 : Int))).toNat)), (149, .slice (some (h6.size, 0)) ((IntKind.i64.wrap ((p3.length : Int) + (1 : Int))).toNat)), (150, .ptr p0), (151, .agg x37), (153, .int .i64 x38), (154, .str p3), (155, .int .i64 p4)] H (noU_all rfl) (fun fr => by kernel_rfl) ?_
                      intro fr H
                      obtain ⟨⟨x39, h22⟩, hx, hm⟩ := bind_some hm
                      refine at_step (v := .slice x39.r x39.n) (h1 := h22) [(0, .ptr p0), (2, .int .i64 p2), (4, .int .i64 p4), (12, .slice (some (h6.size, 0)) ((IntKind.i64.wrap ((p3.length : Int) + (1 : Int))).toNat)), (149, .slice (some (h6.size, 0)) ((IntKind.i64.wrap ((p3.length : Int) + (1 : Int))).toNat)), (156, .slice x39.r x39.n)] H (fun fr => by kernel_rfl) (fun fr => Steps.call (by kernel_rfl) (hS.ok_boulterref18_memo_ends hx)) ?_
                      intro fr t H
                      obtain ⟨⟨⟨⟩, h23⟩, hx, hm⟩ := bind_some hm
                      refine at_step (v := .tuple []) (h1 := h23) [(0, .ptr p0), (2, .int .i64 p2), (4, .int .i64 p4), (12, .slice (some (h6.size, 0)) ((IntKind.i64.wrap ((p3.length : Int) + (1 : Int))).toNat))] H (fun fr => by kernel_rfl) (fun fr => Steps.call (by kernel_rfl) (ok_boulterref18_add hx)) ?_
                      intro fr t H
                      refine at_nil ?_
                      exact Or.inl ⟨rfl, Option.some.inj hm, rfl, H.less _ (fun fr => by kernel_rfl)⟩
                    · replace H := H.know 147 hb (by kernel_rfl)
                      refine aw_false (x := .tmp 147) (by kernel_rfl) H (fun fr => by kernel_rfl) ?_
                      refine aw_seq (by kernel_rfl) ?_
                      refine aw_reg (id := 27) (n := 2) [(0, []), (1, [])] (by kernel_rfl) (by kernel_rfl) ?_
                      refine at_seg [(0, []), (1, [])] [(0, .ptr p0), (2, .int .i64 p2), (3, .str p3), (4, .int .i64 p4), (12, .slice (some (h6.size, 0)) ((IntKind.i64.wrap ((p3.length : Int) + (1 : Int))).toNat)), (64, .int .i64 x14), (158, .bool (x14 == (6 : Int)))] H (noU_all rfl) (fun fr => by kernel_rfl) ?_
                      intro fr H
                      refine at_nil ?_
                      show AW cfg 24 g (right (right (right (right (right (right (right (right (right (right (right (right (right (left (right (left (right (right (right (right (right (bodyC cfg.P 24)))))))))))))))))))))) fr h7 _
                      rcases iteB_some hm with ⟨hb, hm⟩ | ⟨hb, hm⟩
                      · replace H := H.know 158 hb (by kernel_rfl)
                        refine aw_true (x := .tmp 158) (by kernel_rfl) H (fun fr => by kernel_rfl) ?_
                        refine aw_reg (id := 28) (n := 6) [(0, []), (1, []), (2, []), (3, []), (4, []), (5, [])] (by kernel_rfl) (by kernel_rfl) ?_
                        refine at_seg [(0, []), (1, []), (2, []), (3, [])] [(0, .ptr p0), (2, .int .i64 p2), (4, .int .i64 p4), (12, .slice (some (h6.size, 0)) ((IntKind.i64.wrap ((p3.length : Int) + (1 : Int))).toNat)), (160, .slice (some (h6.size, 0)) ((IntKind.i64.wrap ((p3.length : Int) + (1 : Int))).toNat)), (161, .int .i64 p4), (163, .bool (p4 == (0 : Int)))] H (noU_all rfl) (fun fr => by kernel_rfl) ?_
                        intro fr H
                        obtain ⟨a15, hx, hm⟩ := bind_some hm
                        refine at_step (v := .ptr (some a15)) (h1 := h7) [(0, .ptr p0), (2, .int .i64 p2), (4, .int .i64 p4), (12, .slice (some (h6.size, 0)) ((IntKind.i64.wrap ((p3.length : Int) + (1 : Int))).toNat)), (163, .bool (p4 == (0 : Int))), (164, .ptr (some (a15.1, a15.2)))] H (fun fr => by kernel_rfl) (fun fr => .of (s_ixL (s := (⟨some (h6.size, 0), (IntKind.i64.wrap ((p3.length : Int) + (1 : Int))).toNat⟩ : Sl)) (by kernel_rfl) hx)) ?_
                        intro fr t H
                        obtain ⟨h24, hx, hm⟩ := bind_some hm
                        refine at_step (v := .tuple []) (h1 := h24) [(0, .ptr p0), (2, .int .i64 p2), (4, .int .i64 p4), (12, .slice (some (h6.size, 0)) ((IntKind.i64.wrap ((p3.length : Int) + (1 : Int))).toNat))] H (fun fr => by kernel_rfl) (fun fr => .of (s_st (by kernel_rfl) rfl hx)) ?_
                        intro fr t H
                        refine at_nil ?_
                        exact Or.inl ⟨rfl, Option.some.inj hm, rfl, H.less _ (fun fr => by kernel_rfl)⟩
                      · replace H := H.know 158 hb (by kernel_rfl)
                        refine aw_false (x := .tmp 158) (by kernel_rfl) H (fun fr => by kernel_rfl) ?_
                        refine aw_seq (by kernel_rfl) ?_
                        refine aw_reg (id := 29) (n := 2) [(0, []), (1, [])] (by kernel_rfl) (by kernel_rfl) ?_
                        refine at_seg [(0, []), (1, [])] [(0, .ptr p0), (2, .int .i64 p2), (3, .str p3), (4, .int .i64 p4), (12, .slice (some (h6.size, 0)) ((IntKind.i64.wrap ((p3.length : Int) + (1 : Int))).toNat)), (165, .bool (x14 == (7 : Int)))] H (noU_all rfl) (fun fr => by kernel_rfl) ?_
                        intro fr H
                        refine at_nil ?_
                        show AW cfg 24 g (right (right (right (right (right (right (right (right (right (right (right (right (right (right (right (left (right (left (right (right (right (right (right (bodyC cfg.P 24)))))))))))))))))))))))) fr h7 _
                        rcases iteB_some hm with ⟨hb, hm⟩ | ⟨hb, hm⟩
                        · replace H := H.know 165 hb (by kernel_rfl)
                          refine aw_true (x := .tmp 165) (by kernel_rfl) H (fun fr => by kernel_rfl) ?_
                          refine aw_reg (id := 30) (n := 8) [(0, []), (1, []), (2, []), (3, []), (4, []), (5, []), (6, []), (7, [])] (by kernel_rfl) (by kernel_rfl) ?_
                          refine at_seg [(0, []), (1, []), (2, []), (3, []), (4, []), (5, [])] [(0, .ptr p0), (2, .int .i64 p2), (4, .int .i64 p4), (12, .slice (some (h6.size, 0)) ((IntKind.i64.wrap ((p3.length : Int) + (1 : Int))).toNat)), (167, .slice (some (h6.size, 0)) ((IntKind.i64.wrap ((p3.length : Int) + (1 : Int))).toNat)), (168, .int .i64 p4), (172, .bool (p4 == (p3.length : Int)))] H (noU_all rfl) (fun fr => by kernel_rfl) ?_
                          intro fr H
                          obtain ⟨a16, hx, hm⟩ := bind_some hm
                          refine at_step (v := .ptr (some a16)) (h1 := h7) [(0, .ptr p0), (2, .int .i64 p2), (4, .int .i64 p4), (12, .slice (some (h6.size, 0)) ((IntKind.i64.wrap ((p3.length : Int) + (1 : Int))).toNat)), (172, .bool (p4 == (p3.length : Int))), (173, .ptr (some (a16.1, a16.2)))] H (fun fr => by kernel_rfl) (fun fr => .of (s_ixL (s := (⟨some (h6.size, 0), (IntKind.i64.wrap ((p3.length : Int) + (1 : Int))).toNat⟩ : Sl)) (by kernel_rfl) hx)) ?_
                          intro fr t H
                          obtain ⟨h25, hx, hm⟩ := bind_some hm
                          refine at_step (v := .tuple []) (h1 := h25) [(0, .ptr p0), (2, .int .i64 p2), (4, .int .i64 p4), (12, .slice (some (h6.size, 0)) ((IntKind.i64.wrap ((p3.length : Int) + (1 : Int))).toNat))] H (fun fr => by kernel_rfl) (fun fr => .of (s_st (by kernel_rfl) rfl hx)) ?_
                          intro fr t H
                          refine at_nil ?_
                          exact Or.inl ⟨rfl, Option.some.inj hm, rfl, H.less _ (fun fr => by kernel_rfl)⟩
                        · replace H := H.know 165 hb (by kernel_rfl)
                          refine aw_false (x := .tmp 165) (by kernel_rfl) H (fun fr => by kernel_rfl) ?_
                          refine aw_skip (by kernel_rfl) ?_
                          exact Or.inl ⟨rfl, Option.some.inj hm, rfl, H.less _ (fun fr => by kernel_rfl)⟩
        · clear ho
          intro e fr h26 hQ
          rcases hQ with ⟨rfl, rfl, _, H⟩ | hF
          · skip
            show AW cfg 24 g (right (right (right (right (right (right (bodyC cfg.P 24))))))) fr h26 _
            refine aw_seq (by kernel_rfl) ?_
            refine aw_reg (id := 31) (n := 11) [(0, []), (1, []), (2, []), (3, []), (4, []), (5, []), (6, []), (7, []), (8, []), (9, []), (10, [])] (by kernel_rfl) (by kernel_rfl) ?_
            refine at_seg [(0, [])] [(2, .int .i64 p2), (4, .int .i64 p4), (12, .slice (some (h6.size, 0)) ((IntKind.i64.wrap ((p3.length : Int) + (1 : Int))).toNat)), (174, .ptr p0)] H (noU_all rfl) (fun fr => by kernel_rfl) ?_
            intro fr H
            obtain ⟨a17, hx, hm⟩ := bind_some hm
            refine at_step (v := .ptr (some a17)) (h1 := h26) [(2, .int .i64 p2), (4, .int .i64 p4), (12, .slice (some (h6.size, 0)) ((IntKind.i64.wrap ((p3.length : Int) + (1 : Int))).toNat)), (175, .ptr (some (a17.1, a17.2)))] H (fun fr => by kernel_rfl) (fun fr => .of (s_nc (by kernel_rfl) hx)) ?_
            intro fr t H
            refine at_seg [(2, [])] [(2, .int .i64 p2), (4, .int .i64 p4), (12, .slice (some (h6.size, 0)) ((IntKind.i64.wrap ((p3.length : Int) + (1 : Int))).toNat)), (176, .ptr (some (a17.1, a17.2 + 0)))] H (noU_all rfl) (fun fr => by kernel_rfl) ?_
            intro fr H
            obtain ⟨x40, hx, hm⟩ := bind_some hm
            refine at_step (v := .slice x40.r x40.n) (h1 := h26) [(2, .int .i64 p2), (4, .int .i64 p4), (12, .slice (some (h6.size, 0)) ((IntKind.i64.wrap ((p3.length : Int) + (1 : Int))).toNat)), (177, .slice x40.r x40.n)] H (fun fr => by kernel_rfl) (fun fr => .of (s_ld (by kernel_rfl) (ldL_eq hx))) ?_
            intro fr t H
            refine at_seg [(4, [])] [(4, .int .i64 p4), (12, .slice (some (h6.size, 0)) ((IntKind.i64.wrap ((p3.length : Int) + (1 : Int))).toNat)), (177, .slice x40.r x40.n), (178, .int .i64 p2)] H (noU_all rfl) (fun fr => by kernel_rfl) ?_
            intro fr H
            obtain ⟨a18, hx, hm⟩ := bind_some hm
            refine at_step (v := .ptr (some a18)) (h1 := h26) [(4, .int .i64 p4), (12, .slice (some (h6.size, 0)) ((IntKind.i64.wrap ((p3.length : Int) + (1 : Int))).toNat)), (179, .ptr (some (a18.1, a18.2)))] H (fun fr => by kernel_rfl) (fun fr => .of (s_ixL (s := x40) (by kernel_rfl) hx)) ?_
            intro fr t H
            obtain ⟨x41, hx, hm⟩ := bind_some hm
            refine at_step (v := .slice x41.r x41.n) (h1 := h26) [(4, .int .i64 p4), (12, .slice (some (h6.size, 0)) ((IntKind.i64.wrap ((p3.length : Int) + (1 : Int))).toNat)), (180, .slice x41.r x41.n)] H (fun fr => by kernel_rfl) (fun fr => .of (s_ld (by kernel_rfl) (ldL_eq hx))) ?_
            intro fr t H
            refine at_seg [(7, []), (8, [])] [(12, .slice (some (h6.size, 0)) ((IntKind.i64.wrap ((p3.length : Int) + (1 : Int))).toNat)), (180, .slice x41.r x41.n), (181, .int .i64 p4), (182, .slice (some (h6.size, 0)) ((IntKind.i64.wrap ((p3.length : Int) + (1 : Int))).toNat))] H (noU_all rfl) (fun fr => by kernel_rfl) ?_
            intro fr H
            obtain ⟨a19, hx, hm⟩ := bind_some hm
            refine at_step (v := .ptr (some a19)) (h1 := h26) [(12, .slice (some (h6.size, 0)) ((IntKind.i64.wrap ((p3.length : Int) + (1 : Int))).toNat)), (182, .slice (some (h6.size, 0)) ((IntKind.i64.wrap ((p3.length : Int) + (1 : Int))).toNat)), (183, .ptr (some (a19.1, a19.2)))] H (fun fr => by kernel_rfl) (fun fr => .of (s_ixL (s := x41) (by kernel_rfl) hx)) ?_
            intro fr t H
            obtain ⟨h27, hx, hm⟩ := bind_some hm
            refine at_step (v := .tuple []) (h1 := h27) [(12, .slice (some (h6.size, 0)) ((IntKind.i64.wrap ((p3.length : Int) + (1 : Int))).toNat))] H (fun fr => by kernel_rfl) (fun fr => .of (s_st (by kernel_rfl) rfl hx)) ?_
            intro fr t H
            refine at_nil ?_
            show AW cfg 24 g (right (right (right (right (right (right (right (bodyC cfg.P 24)))))))) fr h27 _
            refine aw_seq (by kernel_rfl) ?_
            refine aw_reg (id := 32) (n := 2) [(0, []), (1, [])] (by kernel_rfl) (by kernel_rfl) ?_
            refine at_seg [(0, []), (1, [])] [(10, .slice (some (h6.size, 0)) ((IntKind.i64.wrap ((p3.length : Int) + (1 : Int))).toNat))] H (noU_all rfl) (fun fr => by kernel_rfl) ?_
            intro fr H
            refine at_nil ?_
            show AW cfg 24 g (right (right (right (right (right (right (right (right (bodyC cfg.P 24))))))))) fr h27 _
            refine aw_ret (by kernel_rfl) ?_
            obtain ⟨e1, e2⟩ := inj2 hm
            subst e2
            subst e1
            exact (done_ret H (fun fr => by kernel_rfl) rfl : doneQ cfg.P _ _ _ _ fr _)
          · exact hF.elim
    · exact hF.elim
/-! ### (*boulter/boulterref18.memo).repeat -/
noncomputable def M_boulterref18_memo_repeat_L0 (S : SC_boulterref18_memo_once) (g : Gd) (h : AHeap) (p0 : Option (Nat × Nat)) (p3 : List UInt8) (h1 : AHeap) (s : Sl × Int × AHeap) : Option ((Sl × Int × AHeap) ⊕ ((Sl × AHeap))) :=
  match s with
  | (x5, x6, h5) => (ldI h5 (h1.size, 3) .i64).bind fun x7 => iteB (decide (x6 < x7)) ((ldA h5 (h.size, 0) 2).bind fun x8 => (ldI h5 (h1.size, 1) .i64).bind fun x9 => (S.M_boulterref18_memo_once g h5 p0 x8 x9 p3 x5).bind fun (x10, h6) => some (.inl (x10, IntKind.i64.wrap (x6 + (1 : Int)), h6))) (some (.inr (x5, h5)))
noncomputable def M_boulterref18_memo_repeat_L2 (g : Gd) (p3 : List UInt8) (h7 : AHeap) (x23 : Sl) (s : Bool × Int × AHeap) : Option ((Bool × Int × AHeap) ⊕ ((Bool × AHeap))) :=
  match s with
  | (x27, x28, h12) => iteB (decide (x28 ≤ (p3.length : Int))) ((ixL x23 1 x28).bind fun a2 => (ldB h12 (a2.1, a2.2)).bind fun x29 => (iteB x29 ((ixL (⟨some (h7.size, 0), (IntKind.i64.wrap ((p3.length : Int) + (1 : Int))).toNat⟩ : Sl) 1 x28).bind fun a3 => (ldB h12 (a3.1, a3.2)).bind fun x31 => some (!x31)) (some false) : Option (Bool)).bind fun x30 => (ixL x23 1 x28).bind fun a4 => (st g h12 (a4.1, a4.2) [.bool x30]).bind fun h13 => (iteB x27 (some true) ((ixL x23 1 x28).bind fun a5 => (ldB h13 (a5.1, a5.2)).bind fun x33 => some x33) : Option (Bool)).bind fun x32 => some (.inl (x32, IntKind.i64.wrap (x28 + (1 : Int)), h13))) (some (.inr (x27, h12)))
noncomputable def M_boulterref18_memo_repeat_L1 (S : SC_boulterref18_memo_once) (g : Gd) (h : AHeap) (p0 : Option (Nat × Nat)) (p3 : List UInt8) (h1 : AHeap) (h7 : AHeap) (x14 : Int) (s : Sl × Int × AHeap) : Option ((Sl × Int × AHeap) ⊕ ((AHeap) ⊕ (Sl × AHeap))) :=
  match s with
  | (x19, x20, h10) => iteB (decide (x20 < (mn x14 (IntKind.i64.wrap ((p3.length : Int) + (1 : Int)))))) ((ldA h10 (h.size, 0) 2).bind fun x21 => (ldI h10 (h1.size, 1) .i64).bind fun x22 => (S.M_boulterref18_memo_once g h10 p0 x21 x22 p3 x19).bind fun (x23, h11) => (loop (M_boulterref18_memo_repeat_L2 g p3 h7 x23) (false, (0 : Int), h11)).bind fun (x26, h14) => iteB (!x26) (some (.inr (.inr ((⟨some (h7.size, 0), (IntKind.i64.wrap ((p3.length : Int) + (1 : Int))).toNat⟩ : Sl), h14)))) ((M_boulterref18_add g h14 (⟨some (h7.size, 0), (IntKind.i64.wrap ((p3.length : Int) + (1 : Int))).toNat⟩ : Sl) x23).bind fun (_, h15) => some (.inl (x23, IntKind.i64.wrap (x20 + (1 : Int)), h15)))) (some (.inr (.inl h10)))
noncomputable def B_boulterref18_memo_repeat (S : SC_boulterref18_memo_once) (g : Gd) (h : AHeap) (p0 : Option (Nat × Nat)) (p1 : List AVal) (p2 : List AVal) (p3 : List UInt8) (p4 : Int) : Option ((Sl) × AHeap) :=
 need (p1.all AVal.one) <| (some (h.push (.cells none 2 p1))).bind fun h1 => need (p2.all AVal.one) <| (some (h1.push (.cells none 2 p2))).bind fun h2 => (mkL 1 [.bool false] (IntKind.i64.wrap ((p3.length : Int) + (1 : Int))) (IntKind.i64.wrap ((p3.length : Int) + (1 : Int)))).bind fun x1 => (some (h2.push (.cells (some 4) 2 x1))).bind fun h3 => (ixL (⟨some (h2.size, 0), (IntKind.i64.wrap ((p3.length : Int) + (1 : Int))).toNat⟩ : Sl) 1 p4).bind fun a1 => (st g h3 (a1.1, a1.2) [.bool true]).bind fun h4 => (loop (M_boulterref18_memo_repeat_L0 S g h p0 p3 h1) ((⟨some (h2.size, 0), (IntKind.i64.wrap ((p3.length : Int) + (1 : Int))).toNat⟩ : Sl), (0 : Int), h4)).bind fun (x4, h7) => (mkL 1 [.bool false] (IntKind.i64.wrap ((p3.length : Int) + (1 : Int))) (IntKind.i64.wrap ((p3.length : Int) + (1 : Int)))).bind fun x11 => (some (h7.push (.cells (some 4) 2 x11))).bind fun h8 => (M_boulterref18_add g h8 (⟨some (h7.size, 0), (IntKind.i64.wrap ((p3.length : Int) + (1 : Int))).toNat⟩ : Sl) x4).bind fun (_, h9) => (ldI h9 (h1.size, 4) .i64).bind fun x12 => (ldI h9 (h1.size, 3) .i64).bind fun x13 => ((ldI h9 (h1.size, 4) .i64).bind fun x15 => iteB (decide (x15 < (0 : Int))) (some (IntKind.i64.wrap ((p3.length : Int) + (1 : Int)))) (some (IntKind.i64.wrap (x12 - x13))) : Option ((Int))).bind fun x14 => (loop (M_boulterref18_memo_repeat_L1 S g h p0 p3 h1 h7 x14) (x4, (0 : Int), h9)).bind fun o3 => (match o3 with | .inl h16 => some ((⟨some (h7.size, 0), (IntKind.i64.wrap ((p3.length : Int) + (1 : Int))).toNat⟩ : Sl), h16) | .inr (x18, h16) => some (x18, h16))
theorem okB_boulterref18_memo_repeat {S : SC_boulterref18_memo_once} (hS : OkSC_boulterref18_memo_once S) {g : Gd} {h h' : AHeap} {p0 : Option (Nat × Nat)} {p1 : List AVal} {p2 : List AVal} {p3 : List UInt8} {p4 : Int} {r0 : Sl} (hm : B_boulterref18_memo_repeat S g h p0 p1 p2 p3 p4 = some (r0, h')) : Runs cfg g h 35 [.ptr p0, .agg p1, .agg p2, .str p3, .int .i64 p4] (.slice r0.r r0.n) h' := by
  refine runs1 (by kernel_rfl) (body_of (n := 107) (rs := [.tmp 10]) (by kernel_rfl) ?_)
  unfold B_boulterref18_memo_repeat at hm
  refine start (n := 107) [(0, .ptr p0), (1, .agg p1), (2, .agg p2), (3, .str p3), (4, .int .i64 p4)] (by kernel_rfl) (by kernel_rfl) ?_
  intro fr H
  refine aw_seq (by kernel_rfl) ?_
  refine aw_reg (id := 0) (n := 3) [(0, []), (1, []), (2, [])] (by kernel_rfl) (by kernel_rfl) ?_
  obtain ⟨hb, hm⟩ := need_some hm
  obtain ⟨h1, hx, hm⟩ := bind_some hm
  refine at_step (v := .ptr (some (h.size, 0))) (h1 := h1) [(0, .ptr p0), (2, .agg p2), (3, .str p3), (4, .int .i64 p4), (6, .ptr (some (h.size, 0)))] H (fun fr => by kernel_rfl) (fun fr => .of (s_boxG (by kernel_rfl) hb hx)) ?_
  intro fr t H
  obtain ⟨hb, hm⟩ := need_some hm
  obtain ⟨h2, hx, hm⟩ := bind_some hm
  refine at_step (v := .ptr (some (h1.size, 0))) (h1 := h2) [(0, .ptr p0), (3, .str p3), (4, .int .i64 p4), (6, .ptr (some (h.size, 0))), (7, .ptr (some (h1.size, 0)))] H (fun fr => by kernel_rfl) (fun fr => .of (s_boxG (by kernel_rfl) hb hx)) ?_
  intro fr t H
  refine at_seg [(2, [])] [(0, .ptr p0), (3, .str p3), (4, .int .i64 p4), (6, .ptr (some (h.size, 0))), (7, .ptr (some (h1.size, 0)))] H (noU_all rfl) (fun fr => by kernel_rfl) ?_
  intro fr H
  refine at_nil ?_
  show AW cfg 35 g (right (bodyC cfg.P 35)) fr h2 _
  refine aw_seq (by kernel_rfl) ?_
  refine aw_reg (id := 1) (n := 5) [(0, []), (1, []), (2, []), (3, []), (4, [])] (by kernel_rfl) (by kernel_rfl) ?_
  refine at_seg [(0, []), (1, []), (2, [])] [(0, .ptr p0), (3, .str p3), (4, .int .i64 p4), (6, .ptr (some (h.size, 0))), (7, .ptr (some (h1.size, 0))), (20, .int .i64 (IntKind.i64.wrap ((p3.length : Int) + (1 : Int))))] H (noU_all rfl) (fun fr => by kernel_rfl) ?_
  intro fr H
  obtain ⟨x1, hx, hm⟩ := bind_some hm
  obtain ⟨h3, hy, hm⟩ := bind_some hm
  refine at_step (v := .slice (some (h2.size, 0)) ((IntKind.i64.wrap ((p3.length : Int) + (1 : Int))).toNat)) (h1 := h3) [(0, .ptr p0), (3, .str p3), (4, .int .i64 p4), (6, .ptr (some (h.size, 0))), (7, .ptr (some (h1.size, 0))), (21, .slice (some (h2.size, 0)) ((IntKind.i64.wrap ((p3.length : Int) + (1 : Int))).toNat))] H (fun fr => by kernel_rfl) (fun fr => .of (s_mk' (by kernel_rfl) hx hy)) ?_
  intro fr t H
  refine at_seg [(4, [])] [(0, .ptr p0), (3, .str p3), (4, .int .i64 p4), (6, .ptr (some (h.size, 0))), (7, .ptr (some (h1.size, 0))), (11, .slice (some (h2.size, 0)) ((IntKind.i64.wrap ((p3.length : Int) + (1 : Int))).toNat))] H (noU_all rfl) (fun fr => by kernel_rfl) ?_
  intro fr H
  refine at_nil ?_
  show AW cfg 35 g (right (right (bodyC cfg.P 35))) fr h3 _
  refine aw_seq (by kernel_rfl) ?_
  refine aw_reg (id := 2) (n := 4) [(0, []), (1, []), (2, []), (3, [])] (by kernel_rfl) (by kernel_rfl) ?_
  refine at_seg [(0, []), (1, [])] [(0, .ptr p0), (3, .str p3), (6, .ptr (some (h.size, 0))), (7, .ptr (some (h1.size, 0))), (11, .slice (some (h2.size, 0)) ((IntKind.i64.wrap ((p3.length : Int) + (1 : Int))).toNat)), (22, .slice (some (h2.size, 0)) ((IntKind.i64.wrap ((p3.length : Int) + (1 : Int))).toNat)), (23, .int .i64 p4)] H (noU_all rfl) (fun fr => by kernel_rfl) ?_
  intro fr H
  obtain ⟨a1, hx, hm⟩ := bind_some hm
  refine at_step (v := .ptr (some a1)) (h1 := h3) [(0, .ptr p0), (3, .str p3), (6, .ptr (some (h.size, 0))), (7, .ptr (some (h1.size, 0))), (11, .slice (some (h2.size, 0)) ((IntKind.i64.wrap ((p3.length : Int) + (1 : Int))).toNat)), (24, .ptr (some (a1.1, a1.2)))] H (fun fr => by kernel_rfl) (fun fr => .of (s_ixL (s := (⟨some (h2.size, 0), (IntKind.i64.wrap ((p3.length : Int) + (1 : Int))).toNat⟩ : Sl)) (by kernel_rfl) hx)) ?_
  intro fr t H
  obtain ⟨h4, hx, hm⟩ := bind_some hm
  refine at_step (v := .tuple []) (h1 := h4) [(0, .ptr p0), (3, .str p3), (6, .ptr (some (h.size, 0))), (7, .ptr (some (h1.size, 0))), (11, .slice (some (h2.size, 0)) ((IntKind.i64.wrap ((p3.length : Int) + (1 : Int))).toNat))] H (fun fr => by kernel_rfl) (fun fr => .of (s_st (by kernel_rfl) rfl hx)) ?_
  intro fr t H
  refine at_nil ?_
  show AW cfg 35 g (right (right (right (bodyC cfg.P 35)))) fr h4 _
  refine aw_seq (by kernel_rfl) ?_
  refine aw_seq (by kernel_rfl) ?_
  refine aw_reg (id := 3) (n := 1) [(0, [])] (by kernel_rfl) (by kernel_rfl) ?_
  refine at_seg [(0, [])] [(0, .ptr p0), (3, .str p3), (6, .ptr (some (h.size, 0))), (7, .ptr (some (h1.size, 0))), (11, .slice (some (h2.size, 0)) ((IntKind.i64.wrap ((p3.length : Int) + (1 : Int))).toNat)), (12, .int .i64 (0 : Int))] H (noU_all rfl) (fun fr => by kernel_rfl) ?_
  intro fr H
  refine at_nil ?_
  show AW cfg 35 g (right (left (right (right (right (bodyC cfg.P 35)))))) fr h4 _
  refine aw_block (id := 0) (by kernel_rfl) ?_
  obtain ⟨o1, ho, hm⟩ := bind_some hm
  refine aw_mono (Q' := fun e fr' h' => (∃ (x4 : Sl), e = .exit 0 ∧ (x4, h') = o1 ∧ h' = h' ∧ Has fr' 107 [(0, .ptr p0), (3, .str p3), (6, .ptr (some (h.size, 0))), (7, .ptr (some (h1.size, 0))), (11, .slice x4.r x4.n)]) ∨ False) ?_ ?_
  · refine aw_loop (by kernel_rfl) (fun (s : Sl × Int × AHeap) fr' h' => ∃ (x5 : Sl) (x6 : Int), (x5, x6, h') = s ∧ h' = h' ∧ Has fr' 107 [(0, .ptr p0), (3, .str p3), (6, .ptr (some (h.size, 0))), (7, .ptr (some (h1.size, 0))), (11, .slice x5.r x5.n), (12, .int .i64 x6)]) ho ⟨(⟨some (h2.size, 0), (IntKind.i64.wrap ((p3.length : Int) + (1 : Int))).toNat⟩ : Sl), (0 : Int), rfl, rfl, H.less _ (fun fr => by kernel_rfl)⟩ ?_
    clear ho hm H
    intro s q fr h5 hI hm
    obtain ⟨x5, x6, rfl, _, H⟩ := hI
    unfold M_boulterref18_memo_repeat_L0 at hm
    refine aw_seq (by kernel_rfl) ?_
    refine aw_seq (by kernel_rfl) ?_
    refine aw_reg (id := 4) (n := 4) [(0, []), (1, []), (2, []), (3, [])] (by kernel_rfl) (by kernel_rfl) ?_
    refine at_seg [(0, []), (1, [])] [(0, .ptr p0), (3, .str p3), (6, .ptr (some (h.size, 0))), (7, .ptr (some (h1.size, 0))), (11, .slice x5.r x5.n), (12, .int .i64 x6), (25, .int .i64 x6), (26, .ptr (some (h1.size, 3)))] H (noU_all rfl) (fun fr => by kernel_rfl) ?_
    intro fr H
    obtain ⟨x7, hx, hm⟩ := bind_some hm
    refine at_step (v := .int .i64 x7) (h1 := h5) [(0, .ptr p0), (3, .str p3), (6, .ptr (some (h.size, 0))), (7, .ptr (some (h1.size, 0))), (11, .slice x5.r x5.n), (12, .int .i64 x6), (25, .int .i64 x6), (27, .int .i64 x7)] H (fun fr => by kernel_rfl) (fun fr => .of (s_ld (by kernel_rfl) (ldI_eq hx))) ?_
    intro fr t H
    refine at_seg [(3, [])] [(0, .ptr p0), (3, .str p3), (6, .ptr (some (h.size, 0))), (7, .ptr (some (h1.size, 0))), (11, .slice x5.r x5.n), (12, .int .i64 x6), (28, .bool (decide (x6 < x7)))] H (noU_all rfl) (fun fr => by kernel_rfl) ?_
    intro fr H
    refine at_nil ?_
    show AW cfg 35 g (right (left (left (left (right (left (right (right (right (bodyC cfg.P 35)))))))))) fr h5 _
    rcases iteB_some hm with ⟨hb, hm⟩ | ⟨hb, hm⟩
    · replace H := H.know 28 hb (by kernel_rfl)
      refine aw_true (x := .tmp 28) (by kernel_rfl) H (fun fr => by kernel_rfl) ?_
      refine aw_skip (by kernel_rfl) ?_
      show AW cfg 35 g (right (left (left (right (left (right (right (right (bodyC cfg.P 35))))))))) fr h5 _
      refine aw_seq (by kernel_rfl) ?_
      refine aw_block (id := 1) (by kernel_rfl) ?_
      refine aw_reg (id := 6) (n := 8) [(0, []), (1, []), (2, []), (3, []), (4, []), (5, []), (6, []), (7, [])] (by kernel_rfl) (by kernel_rfl) ?_
      refine at_seg [(0, [])] [(0, .ptr p0), (3, .str p3), (6, .ptr (some (h.size, 0))), (7, .ptr (some (h1.size, 0))), (11, .slice x5.r x5.n), (12, .int .i64 x6), (31, .ptr p0)] H (noU_all rfl) (fun fr => by kernel_rfl) ?_
      intro fr H
      obtain ⟨x8, hx, hm⟩ := bind_some hm
      refine at_step (v := .agg x8) (h1 := h5) [(0, .ptr p0), (3, .str p3), (6, .ptr (some (h.size, 0))), (7, .ptr (some (h1.size, 0))), (11, .slice x5.r x5.n), (12, .int .i64 x6), (31, .ptr p0), (32, .agg x8)] H (fun fr => by kernel_rfl) (fun fr => .of (s_ldA (by kernel_rfl) hx)) ?_
      intro fr t H
      refine at_seg [(2, [])] [(0, .ptr p0), (3, .str p3), (6, .ptr (some (h.size, 0))), (7, .ptr (some (h1.size, 0))), (11, .slice x5.r x5.n), (12, .int .i64 x6), (31, .ptr p0), (32, .agg x8), (33, .ptr (some (h1.size, 1)))] H (noU_all rfl) (fun fr => by kernel_rfl) ?_
      intro fr H
      obtain ⟨x9, hx, hm⟩ := bind_some hm
      refine at_step (v := .int .i64 x9) (h1 := h5) [(0, .ptr p0), (3, .str p3), (6, .ptr (some (h.size, 0))), (7, .ptr (some (h1.size, 0))), (11, .slice x5.r x5.n), (12, .int .i64 x6), (31, .ptr p0), (32, .agg x8), (34, .int .i64 x9)] H (fun fr => by kernel_rfl) (fun fr => .of (s_ld (by kernel_rfl) (ldI_eq hx))) ?_
      intro fr t H
      refine at_seg [(4, []), (5, [])] [(0, .ptr p0), (3, .str p3), (6, .ptr (some (h.size, 0))), (7, .ptr (some (h1.size, 0))), (12, .int .i64 x6), (31, .ptr p0), (32, .agg x8), (34, .int .i64 x9), (35, .str p3), (36, .slice x5.r x5.n)] H (noU_all rfl) (fun fr => by kernel_rfl) ?_
      intro fr H
      obtain ⟨⟨x10, h6⟩, hx, hm⟩ := bind_some hm
      refine at_step (v := .slice x10.r x10.n) (h1 := h6) [(0, .ptr p0), (3, .str p3), (6, .ptr (some (h.size, 0))), (7, .ptr (some (h1.size, 0))), (12, .int .i64 x6), (37, .slice x10.r x10.n)] H (fun fr => by kernel_rfl) (fun fr => Steps.call (by kernel_rfl) (hS.ok_boulterref18_memo_once hx)) ?_
      intro fr t H
      refine at_seg [(7, [])] [(0, .ptr p0), (3, .str p3), (6, .ptr (some (h.size, 0))), (7, .ptr (some (h1.size, 0))), (11, .slice x10.r x10.n), (12, .int .i64 x6)] H (noU_all rfl) (fun fr => by kernel_rfl) ?_
      intro fr H
      refine at_nil ?_
      show AW cfg 35 g (right (right (left (left (right (left (right (right (right (bodyC cfg.P 35)))))))))) fr h6 _
      refine aw_reg (id := 5) (n := 3) [(0, []), (1, []), (2, [])] (by kernel_rfl) (by kernel_rfl) ?_
      refine at_seg [(0, []), (1, []), (2, [])] [(0, .ptr p0), (3, .str p3), (6, .ptr (some (h.size, 0))), (7, .ptr (some (h1.size, 0))), (11, .slice x10.r x10.n), (12, .int .i64 (IntKind.i64.wrap (x6 + (1 : Int))))] H (noU_all rfl) (fun fr => by kernel_rfl) ?_
      intro fr H
      refine at_nil ?_
      exact Exists.intro (x10, IntKind.i64.wrap (x6 + (1 : Int)), h6) (And.intro (Option.some.inj hm).symm ⟨x10, IntKind.i64.wrap (x6 + (1 : Int)), rfl, rfl, H.less _ (fun fr => by kernel_rfl)⟩)
    · replace H := H.know 28 hb (by kernel_rfl)
      refine aw_false (x := .tmp 28) (by kernel_rfl) H (fun fr => by kernel_rfl) ?_
      refine aw_exit (i := 0) (by kernel_rfl) ?_
      exact Exists.intro _ (And.intro (Option.some.inj hm).symm (fun e => Or.inl ⟨x5, rfl, e, rfl, H.less _ (fun fr => by kernel_rfl)⟩))
  · clear ho
    intro e fr h7 hQ
    rcases hQ with ⟨x4, rfl, rfl, _, H⟩ | hF
    · skip
      show AW cfg 35 g (right (right (right (right (bodyC cfg.P 35))))) fr h7 _
      refine aw_seq (by kernel_rfl) ?_
      refine aw_reg (id := 7) (n := 5) [(0, []), (1, []), (2, []), (3, []), (4, [])] (by kernel_rfl) (by kernel_rfl) ?_
      refine at_seg [(0, []), (1, []), (2, [])] [(0, .ptr p0), (3, .str p3), (6, .ptr (some (h.size, 0))), (7, .ptr (some (h1.size, 0))), (11, .slice x4.r x4.n), (40, .int .i64 (IntKind.i64.wrap ((p3.length : Int) + (1 : Int))))] H (noU_all rfl) (fun fr => by kernel_rfl) ?_
      intro fr H
      obtain ⟨x11, hx, hm⟩ := bind_some hm
      obtain ⟨h8, hy, hm⟩ := bind_some hm
      refine at_step (v := .slice (some (h7.size, 0)) ((IntKind.i64.wrap ((p3.length : Int) + (1 : Int))).toNat)) (h1 := h8) [(0, .ptr p0), (3, .str p3), (6, .ptr (some (h.size, 0))), (7, .ptr (some (h1.size, 0))), (11, .slice x4.r x4.n), (41, .slice (some (h7.size, 0)) ((IntKind.i64.wrap ((p3.length : Int) + (1 : Int))).toNat))] H (fun fr => by kernel_rfl) (fun fr => .of (s_mk' (by kernel_rfl) hx hy)) ?_
      intro fr t H
      refine at_seg [(4, [])] [(0, .ptr p0), (3, .str p3), (6, .ptr (some (h.size, 0))), (7, .ptr (some (h1.size, 0))), (11, .slice x4.r x4.n), (13, .slice (some (h7.size, 0)) ((IntKind.i64.wrap ((p3.length : Int) + (1 : Int))).toNat))] H (noU_all rfl) (fun fr => by kernel_rfl) ?_
      intro fr H
      refine at_nil ?_
      show AW cfg 35 g (right (right (right (right (right (bodyC cfg.P 35)))))) fr h8 _
      refine aw_seq (by kernel_rfl) ?_
      refine aw_reg (id := 8) (n := 3) [(0, []), (1, []), (2, [])] (by kernel_rfl) (by kernel_rfl) ?_
      refine at_seg [(0, []), (1, [])] [(0, .ptr p0), (3, .str p3), (6, .ptr (some (h.size, 0))), (7, .ptr (some (h1.size, 0))), (11, .slice x4.r x4.n), (13, .slice (some (h7.size, 0)) ((IntKind.i64.wrap ((p3.length : Int) + (1 : Int))).toNat)), (42, .slice (some (h7.size, 0)) ((IntKind.i64.wrap ((p3.length : Int) + (1 : Int))).toNat)), (43, .slice x4.r x4.n)] H (noU_all rfl) (fun fr => by kernel_rfl) ?_
      intro fr H
      obtain ⟨⟨⟨⟩, h9⟩, hx, hm⟩ := bind_some hm
      refine at_step (v := .tuple []) (h1 := h9) [(0, .ptr p0), (3, .str p3), (6, .ptr (some (h.size, 0))), (7, .ptr (some (h1.size, 0))), (11, .slice x4.r x4.n), (13, .slice (some (h7.size, 0)) ((IntKind.i64.wrap ((p3.length : Int) + (1 : Int))).toNat))] H (fun fr => by kernel_rfl) (fun fr => Steps.call (by kernel_rfl) (ok_boulterref18_add hx)) ?_
      intro fr t H
      refine at_nil ?_
      show AW cfg 35 g (right (right (right (right (right (right (bodyC cfg.P 35))))))) fr h9 _
      refine aw_seq (by kernel_rfl) ?_
      refine aw_reg (id := 9) (n := 6) [(0, []), (1, []), (2, []), (3, []), (4, []), (5, [])] (by kernel_rfl) (by kernel_rfl) ?_
      refine at_seg [(0, [])] [(0, .ptr p0), (3, .str p3), (6, .ptr (some (h.size, 0))), (7, .ptr (some (h1.size, 0))), (11, .slice x4.r x4.n), (13, .slice (some (h7.size, 0)) ((IntKind.i64.wrap ((p3.length : Int) + (1 : Int))).toNat)), (45, .ptr (some (h1.size, 4)))] H (noU_all rfl) (fun fr => by kernel_rfl) ?_
      intro fr H
      obtain ⟨x12, hx, hm⟩ := bind_some hm
      refine at_step (v := .int .i64 x12) (h1 := h9) [(0, .ptr p0), (3, .str p3), (6, .ptr (some (h.size, 0))), (7, .ptr (some (h1.size, 0))), (11, .slice x4.r x4.n), (13, .slice (some (h7.size, 0)) ((IntKind.i64.wrap ((p3.length : Int) + (1 : Int))).toNat)), (46, .int .i64 x12)] H (fun fr => by kernel_rfl) (fun fr => .of (s_ld (by kernel_rfl) (ldI_eq hx))) ?_
      intro fr t H
      refine at_seg [(2, [])] [(0, .ptr p0), (3, .str p3), (6, .ptr (some (h.size, 0))), (7, .ptr (some (h1.size, 0))), (11, .slice x4.r x4.n), (13, .slice (some (h7.size, 0)) ((IntKind.i64.wrap ((p3.length : Int) + (1 : Int))).toNat)), (46, .int .i64 x12), (47, .ptr (some (h1.size, 3)))] H (noU_all rfl) (fun fr => by kernel_rfl) ?_
      intro fr H
      obtain ⟨x13, hx, hm⟩ := bind_some hm
      refine at_step (v := .int .i64 x13) (h1 := h9) [(0, .ptr p0), (3, .str p3), (6, .ptr (some (h.size, 0))), (7, .ptr (some (h1.size, 0))), (11, .slice x4.r x4.n), (13, .slice (some (h7.size, 0)) ((IntKind.i64.wrap ((p3.length : Int) + (1 : Int))).toNat)), (46, .int .i64 x12), (48, .int .i64 x13)] H (fun fr => by kernel_rfl) (fun fr => .of (s_ld (by kernel_rfl) (ldI_eq hx))) ?_
      intro fr t H
      refine at_seg [(4, []), (5, [])] [(0, .ptr p0), (3, .str p3), (6, .ptr (some (h.size, 0))), (7, .ptr (some (h1.size, 0))), (11, .slice x4.r x4.n), (13, .slice (some (h7.size, 0)) ((IntKind.i64.wrap ((p3.length : Int) + (1 : Int))).toNat)), (14, .int .i64 (IntKind.i64.wrap (x12 - x13)))] H (noU_all rfl) (fun fr => by kernel_rfl) ?_
      intro fr H
      refine at_nil ?_
      show AW cfg 35 g (right (right (right (right (right (right (right (bodyC cfg.P 35)))))))) fr h9 _
      refine aw_seq (by kernel_rfl) ?_
      obtain ⟨o2, ho, hm⟩ := bind_some hm
      refine aw_mono (Q' := fun e fr' h' => (∃ (x14 : Int), e = .normal ∧ x14 = o2 ∧ h9 = h' ∧ Has fr' 107 [(0, .ptr p0), (3, .str p3), (6, .ptr (some (h.size, 0))), (7, .ptr (some (h1.size, 0))), (11, .slice x4.r x4.n), (13, .slice (some (h7.size, 0)) ((IntKind.i64.wrap ((p3.length : Int) + (1 : Int))).toNat)), (14, .int .i64 x14)]) ∨ False) ?_ ?_
      · replace hm := ho
        clear ho
        refine aw_seq (by kernel_rfl) ?_
        refine aw_reg (id := 10) (n := 3) [(0, []), (1, []), (2, [])] (by kernel_rfl) (by kernel_rfl) ?_
        refine at_seg [(0, [])] [(0, .ptr p0), (3, .str p3), (6, .ptr (some (h.size, 0))), (7, .ptr (some (h1.size, 0))), (11, .slice x4.r x4.n), (13, .slice (some (h7.size, 0)) ((IntKind.i64.wrap ((p3.length : Int) + (1 : Int))).toNat)), (14, .int .i64 (IntKind.i64.wrap (x12 - x13))), (50, .ptr (some (h1.size, 4)))] H (noU_all rfl) (fun fr => by kernel_rfl) ?_
        intro fr H
        obtain ⟨x15, hx, hm⟩ := bind_some hm
        refine at_step (v := .int .i64 x15) (h1 := h9) [(0, .ptr p0), (3, .str p3), (6, .ptr (some (h.size, 0))), (7, .ptr (some (h1.size, 0))), (11, .slice x4.r x4.n), (13, .slice (some (h7.size, 0)) ((IntKind.i64.wrap ((p3.length : Int) + (1 : Int))).toNat)), (14, .int .i64 (IntKind.i64.wrap (x12 - x13))), (51, .int .i64 x15)] H (fun fr => by kernel_rfl) (fun fr => .of (s_ld (by kernel_rfl) (ldI_eq hx))) ?_
        intro fr t H
        refine at_seg [(2, [])] [(0, .ptr p0), (3, .str p3), (6, .ptr (some (h.size, 0))), (7, .ptr (some (h1.size, 0))), (11, .slice x4.r x4.n), (13, .slice (some (h7.size, 0)) ((IntKind.i64.wrap ((p3.length : Int) + (1 : Int))).toNat)), (14, .int .i64 (IntKind.i64.wrap (x12 - x13))), (52, .bool (decide (x15 < (0 : Int))))] H (noU_all rfl) (fun fr => by kernel_rfl) ?_
        intro fr H
        refine at_nil ?_
        show AW cfg 35 g (right (left (right (right (right (right (right (right (right (bodyC cfg.P 35)))))))))) fr h9 _
        rcases iteB_some hm with ⟨hb, hm⟩ | ⟨hb, hm⟩
        · replace H := H.know 52 hb (by kernel_rfl)
          refine aw_true (x := .tmp 52) (by kernel_rfl) H (fun fr => by kernel_rfl) ?_
          refine aw_reg (id := 11) (n := 4) [(0, []), (1, []), (2, []), (3, [])] (by kernel_rfl) (by kernel_rfl) ?_
          refine at_seg [(0, []), (1, []), (2, []), (3, [])] [(0, .ptr p0), (3, .str p3), (6, .ptr (some (h.size, 0))), (7, .ptr (some (h1.size, 0))), (11, .slice x4.r x4.n), (13, .slice (some (h7.size, 0)) ((IntKind.i64.wrap ((p3.length : Int) + (1 : Int))).toNat)), (14, .int .i64 (IntKind.i64.wrap ((p3.length : Int) + (1 : Int))))] H (noU_all rfl) (fun fr => by kernel_rfl) ?_
          intro fr H
          refine at_nil ?_
          exact Or.inl ⟨IntKind.i64.wrap ((p3.length : Int) + (1 : Int)), rfl, Option.some.inj hm, rfl, H.less _ (fun fr => by kernel_rfl)⟩
        · replace H := H.know 52 hb (by kernel_rfl)
          refine aw_false (x := .tmp 52) (by kernel_rfl) H (fun fr => by kernel_rfl) ?_
          refine aw_skip (by kernel_rfl) ?_
          exact Or.inl ⟨IntKind.i64.wrap (x12 - x13), rfl, Option.some.inj hm, rfl, H.less _ (fun fr => by kernel_rfl)⟩
      · clear ho
        intro e fr hz hQ
        rcases hQ with ⟨x14, rfl, rfl, rfl, H⟩ | hF
        · skip
          show AW cfg 35 g (right (right (right (right (right (right (right (right (bodyC cfg.P 35))))))))) fr h9 _
          refine aw_seq (by kernel_rfl) ?_
          refine aw_reg (id := 12) (n := 6) [(0, []), (1, []), (2, []), (3, []), (4, []), (5, [])] (by kernel_rfl) (by kernel_rfl) ?_
          refine at_seg [(0, []), (1, []), (2, []), (3, []), (4, []), (5, [])] [(0, .ptr p0), (3, .str p3), (6, .ptr (some (h.size, 0))), (7, .ptr (some (h1.size, 0))), (11, .slice x4.r x4.n), (13, .slice (some (h7.size, 0)) ((IntKind.i64.wrap ((p3.length : Int) + (1 : Int))).toNat)), (14, .int .i64 (mn x14 (IntKind.i64.wrap ((p3.length : Int) + (1 : Int)))))] H (noU_all rfl) (fun fr => by kernel_rfl) ?_
          intro fr H
          refine at_nil ?_
          show AW cfg 35 g (right (right (right (right (right (right (right (right (right (bodyC cfg.P 35)))))))))) fr h9 _
          refine aw_seq (by kernel_rfl) ?_
          refine aw_seq (by kernel_rfl) ?_
          refine aw_reg (id := 13) (n := 1) [(0, [])] (by kernel_rfl) (by kernel_rfl) ?_
          refine at_seg [(0, [])] [(0, .ptr p0), (3, .str p3), (6, .ptr (some (h.size, 0))), (7, .ptr (some (h1.size, 0))), (11, .slice x4.r x4.n), (13, .slice (some (h7.size, 0)) ((IntKind.i64.wrap ((p3.length : Int) + (1 : Int))).toNat)), (14, .int .i64 (mn x14 (IntKind.i64.wrap ((p3.length : Int) + (1 : Int))))), (15, .int .i64 (0 : Int))] H (noU_all rfl) (fun fr => by kernel_rfl) ?_
          intro fr H
          refine at_nil ?_
          show AW cfg 35 g (right (left (right (right (right (right (right (right (right (right (right (bodyC cfg.P 35)))))))))))) fr h9 _
          refine aw_block (id := 2) (by kernel_rfl) ?_
          obtain ⟨o3, ho, hm⟩ := bind_some hm
          refine aw_mono (Q' := fun e fr' h' => (e = .exit 2 ∧ .inl h' = o3 ∧ h' = h' ∧ Has fr' 107 [(13, .slice (some (h7.size, 0)) ((IntKind.i64.wrap ((p3.length : Int) + (1 : Int))).toNat))]) ∨ (∃ (x18 : Sl), e = .ret ∧ .inr (x18, h') = o3 ∧ h' = h' ∧ Has fr' 107 [(10, .slice x18.r x18.n)]) ∨ False) ?_ ?_
          · refine aw_loop (by kernel_rfl) (fun (s : Sl × Int × AHeap) fr' h' => ∃ (x19 : Sl) (x20 : Int), (x19, x20, h') = s ∧ h' = h' ∧ Has fr' 107 [(0, .ptr p0), (3, .str p3), (6, .ptr (some (h.size, 0))), (7, .ptr (some (h1.size, 0))), (11, .slice x19.r x19.n), (13, .slice (some (h7.size, 0)) ((IntKind.i64.wrap ((p3.length : Int) + (1 : Int))).toNat)), (14, .int .i64 (mn x14 (IntKind.i64.wrap ((p3.length : Int) + (1 : Int))))), (15, .int .i64 x20)]) ho ⟨x4, (0 : Int), rfl, rfl, H.less _ (fun fr => by kernel_rfl)⟩ ?_
            clear ho hm H
            intro s q fr h10 hI hm
            obtain ⟨x19, x20, rfl, _, H⟩ := hI
            unfold M_boulterref18_memo_repeat_L1 at hm
            refine aw_seq (by kernel_rfl) ?_
            refine aw_seq (by kernel_rfl) ?_
            refine aw_reg (id := 14) (n := 3) [(0, []), (1, []), (2, [])] (by kernel_rfl) (by kernel_rfl) ?_
            refine at_seg [(0, []), (1, []), (2, [])] [(0, .ptr p0), (3, .str p3), (6, .ptr (some (h.size, 0))), (7, .ptr (some (h1.size, 0))), (11, .slice x19.r x19.n), (13, .slice (some (h7.size, 0)) ((IntKind.i64.wrap ((p3.length : Int) + (1 : Int))).toNat)), (14, .int .i64 (mn x14 (IntKind.i64.wrap ((p3.length : Int) + (1 : Int))))), (15, .int .i64 x20), (63, .bool (decide (x20 < (mn x14 (IntKind.i64.wrap ((p3.length : Int) + (1 : Int)))))))] H (noU_all rfl) (fun fr => by kernel_rfl) ?_
            intro fr H
            refine at_nil ?_
            show AW cfg 35 g (right (left (left (left (right (left (right (right (right (right (right (right (right (right (right (bodyC cfg.P 35)))))))))))))))) fr h10 _
            rcases iteB_some hm with ⟨hb, hm⟩ | ⟨hb, hm⟩
            · replace H := H.know 63 hb (by kernel_rfl)
              refine aw_true (x := .tmp 63) (by kernel_rfl) H (fun fr => by kernel_rfl) ?_
              refine aw_skip (by kernel_rfl) ?_
              show AW cfg 35 g (right (left (left (right (left (right (right (right (right (right (right (right (right (right (bodyC cfg.P 35))))))))))))))) fr h10 _
              refine aw_seq (by kernel_rfl) ?_
              refine aw_block (id := 3) (by kernel_rfl) ?_
              refine aw_seq (by kernel_rfl) ?_
              refine aw_reg (id := 16) (n := 8) [(0, []), (1, []), (2, []), (3, []), (4, []), (5, []), (6, []), (7, [])] (by kernel_rfl) (by kernel_rfl) ?_
              refine at_seg [(0, [])] [(0, .ptr p0), (3, .str p3), (6, .ptr (some (h.size, 0))), (7, .ptr (some (h1.size, 0))), (11, .slice x19.r x19.n), (13, .slice (some (h7.size, 0)) ((IntKind.i64.wrap ((p3.length : Int) + (1 : Int))).toNat)), (14, .int .i64 (mn x14 (IntKind.i64.wrap ((p3.length : Int) + (1 : Int))))), (15, .int .i64 x20), (66, .ptr p0)] H (noU_all rfl) (fun fr => by kernel_rfl) ?_
              intro fr H
              obtain ⟨x21, hx, hm⟩ := bind_some hm
              refine at_step (v := .agg x21) (h1 := h10) [(0, .ptr p0), (3, .str p3), (6, .ptr (some (h.size, 0))), (7, .ptr (some (h1.size, 0))), (11, .slice x19.r x19.n), (13, .slice (some (h7.size, 0)) ((IntKind.i64.wrap ((p3.length : Int) + (1 : Int))).toNat)), (14, .int .i64 (mn x14 (IntKind.i64.wrap ((p3.length : Int) + (1 : Int))))), (15, .int .i64 x20), (66, .ptr p0), (67, .agg x21)] H (fun fr => by kernel_rfl) (fun fr => .of (s_ldA (by kernel_rfl) hx)) ?_
              intro fr t H
              refine at_seg [(2, [])] [(0, .ptr p0), (3, .str p3), (6, .ptr (some (h.size, 0))), (7, .ptr (some (h1.size, 0))), (11, .slice x19.r x19.n), (13, .slice (some (h7.size, 0)) ((IntKind.i64.wrap ((p3.length : Int) + (1 : Int))).toNat)), (14, .int .i64 (mn x14 (IntKind.i64.wrap ((p3.length : Int) + (1 : Int))))), (15, .int .i64 x20), (66, .ptr p0), (67, .agg x21), (68, .ptr (some (h1.size, 1)))] H (noU_all rfl) (fun fr => by kernel_rfl) ?_
              intro fr H
              obtain ⟨x22, hx, hm⟩ := bind_some hm
              refine at_step (v := .int .i64 x22) (h1 := h10) [(0, .ptr p0), (3, .str p3), (6, .ptr (some (h.size, 0))), (7, .ptr (some (h1.size, 0))), (11, .slice x19.r x19.n), (13, .slice (some (h7.size, 0)) ((IntKind.i64.wrap ((p3.length : Int) + (1 : Int))).toNat)), (14, .int .i64 (mn x14 (IntKind.i64.wrap ((p3.length : Int) + (1 : Int))))), (15, .int .i64 x20), (66, .ptr p0), (67, .agg x21), (69, .int .i64 x22)] H (fun fr => by kernel_rfl) (fun fr => .of (s_ld (by kernel_rfl) (ldI_eq hx))) ?_
              intro fr t H
              refine at_seg [(4, []), (5, [])] [(0, .ptr p0), (3, .str p3), (6, .ptr (some (h.size, 0))), (7, .ptr (some (h1.size, 0))), (13, .slice (some (h7.size, 0)) ((IntKind.i64.wrap ((p3.length : Int) + (1 : Int))).toNat)), (14, .int .i64 (mn x14 (IntKind.i64.wrap ((p3.length : Int) + (1 : Int))))), (15, .int .i64 x20), (66, .ptr p0), (67, .agg x21), (69, .int .i64 x22), (70, .str p3), (71, .slice x19.r x19.n)] H (noU_all rfl) (fun fr => by kernel_rfl) ?_
              intro fr H
              obtain ⟨⟨x23, h11⟩, hx, hm⟩ := bind_some hm
              refine at_step (v := .slice x23.r x23.n) (h1 := h11) [(0, .ptr p0), (3, .str p3), (6, .ptr (some (h.size, 0))), (7, .ptr (some (h1.size, 0))), (13, .slice (some (h7.size, 0)) ((IntKind.i64.wrap ((p3.length : Int) + (1 : Int))).toNat)), (14, .int .i64 (mn x14 (IntKind.i64.wrap ((p3.length : Int) + (1 : Int))))), (15, .int .i64 x20), (72, .slice x23.r x23.n)] H (fun fr => by kernel_rfl) (fun fr => Steps.call (by kernel_rfl) (hS.ok_boulterref18_memo_once hx)) ?_
              intro fr t H
              refine at_seg [(7, [])] [(0, .ptr p0), (3, .str p3), (6, .ptr (some (h.size, 0))), (7, .ptr (some (h1.size, 0))), (11, .slice x23.r x23.n), (13, .slice (some (h7.size, 0)) ((IntKind.i64.wrap ((p3.length : Int) + (1 : Int))).toNat)), (14, .int .i64 (mn x14 (IntKind.i64.wrap ((p3.length : Int) + (1 : Int))))), (15, .int .i64 x20)] H (noU_all rfl) (fun fr => by kernel_rfl) ?_
              intro fr H
              refine at_nil ?_
              show AW cfg 35 g (right (left (left (right (left (left (right (left (right (right (right (right (right (right (right (right (right (bodyC cfg.P 35)))))))))))))))))) fr h11 _
              refine aw_seq (by kernel_rfl) ?_
              refine aw_reg (id := 17) (n := 1) [(0, [])] (by kernel_rfl) (by kernel_rfl) ?_
              refine at_seg [(0, [])] [(0, .ptr p0), (3, .str p3), (6, .ptr (some (h.size, 0))), (7, .ptr (some (h1.size, 0))), (11, .slice x23.r x23.n), (13, .slice (some (h7.size, 0)) ((IntKind.i64.wrap ((p3.length : Int) + (1 : Int))).toNat)), (14, .int .i64 (mn x14 (IntKind.i64.wrap ((p3.length : Int) + (1 : Int))))), (15, .int .i64 x20), (16, .bool false)] H (noU_all rfl) (fun fr => by kernel_rfl) ?_
              intro fr H
              refine at_nil ?_
              show AW cfg 35 g (right (right (left (left (right (left (left (right (left (right (right (right (right (right (right (right (right (right (bodyC cfg.P 35))))))))))))))))))) fr h11 _
              refine aw_seq (by kernel_rfl) ?_
              refine aw_seq (by kernel_rfl) ?_
              refine aw_reg (id := 18) (n := 1) [(0, [])] (by kernel_rfl) (by kernel_rfl) ?_
              refine at_seg [(0, [])] [(0, .ptr p0), (3, .str p3), (6, .ptr (some (h.size, 0))), (7, .ptr (some (h1.size, 0))), (11, .slice x23.r x23.n), (13, .slice (some (h7.size, 0)) ((IntKind.i64.wrap ((p3.length : Int) + (1 : Int))).toNat)), (14, .int .i64 (mn x14 (IntKind.i64.wrap ((p3.length : Int) + (1 : Int))))), (15, .int .i64 x20), (16, .bool false), (17, .int .i64 (0 : Int))] H (noU_all rfl) (fun fr => by kernel_rfl) ?_
              intro fr H
              refine at_nil ?_
              show AW cfg 35 g (right (left (right (right (left (left (right (left (left (right (left (right (right (right (right (right (right (right (right (right (bodyC cfg.P 35))))))))))))))))))))) fr h11 _
              refine aw_block (id := 4) (by kernel_rfl) ?_
              obtain ⟨o4, ho, hm⟩ := bind_some hm
              refine aw_mono (Q' := fun e fr' h' => (∃ (x26 : Bool), e = .exit 4 ∧ (x26, h') = o4 ∧ h' = h' ∧ Has fr' 107 [(0, .ptr p0), (3, .str p3), (6, .ptr (some (h.size, 0))), (7, .ptr (some (h1.size, 0))), (11, .slice x23.r x23.n), (13, .slice (some (h7.size, 0)) ((IntKind.i64.wrap ((p3.length : Int) + (1 : Int))).toNat)), (14, .int .i64 (mn x14 (IntKind.i64.wrap ((p3.length : Int) + (1 : Int))))), (15, .int .i64 x20), (16, .bool x26)]) ∨ False) ?_ ?_
              · refine aw_loop (by kernel_rfl) (fun (s : Bool × Int × AHeap) fr' h' => ∃ (x27 : Bool) (x28 : Int), (x27, x28, h') = s ∧ h' = h' ∧ Has fr' 107 [(0, .ptr p0), (3, .str p3), (6, .ptr (some (h.size, 0))), (7, .ptr (some (h1.size, 0))), (11, .slice x23.r x23.n), (13, .slice (some (h7.size, 0)) ((IntKind.i64.wrap ((p3.length : Int) + (1 : Int))).toNat)), (14, .int .i64 (mn x14 (IntKind.i64.wrap ((p3.length : Int) + (1 : Int))))), (15, .int .i64 x20), (16, .bool x27), (17, .int .i64 x28)]) ho ⟨false, (0 : Int), rfl, rfl, H.less _ (fun fr => by kernel_rfl)⟩ ?_
                clear ho hm H
                intro s q fr h12 hI hm
                obtain ⟨x27, x28, rfl, _, H⟩ := hI
                unfold M_boulterref18_memo_repeat_L2 at hm
                refine aw_seq (by kernel_rfl) ?_
                refine aw_seq (by kernel_rfl) ?_
                refine aw_reg (id := 19) (n := 4) [(0, []), (1, []), (2, []), (3, [])] (by kernel_rfl) (by kernel_rfl) ?_
                refine at_seg [(0, []), (1, []), (2, []), (3, [])] [(0, .ptr p0), (3, .str p3), (6, .ptr (some (h.size, 0))), (7, .ptr (some (h1.size, 0))), (11, .slice x23.r x23.n), (13, .slice (some (h7.size, 0)) ((IntKind.i64.wrap ((p3.length : Int) + (1 : Int))).toNat)), (14, .int .i64 (mn x14 (IntKind.i64.wrap ((p3.length : Int) + (1 : Int))))), (15, .int .i64 x20), (16, .bool x27), (17, .int .i64 x28), (76, .bool (decide (x28 ≤ (p3.length : Int))))] H (noU_all rfl) (fun fr => by kernel_rfl) ?_
                intro fr H
                refine at_nil ?_
                show AW cfg 35 g (right (left (left (left (right (left (right (right (left (left (right (left (left (right (left (right (right (right (right (right (right (right (right (right (bodyC cfg.P 35))))))))))))))))))))))))) fr h12 _
                rcases iteB_some hm with ⟨hb, hm⟩ | ⟨hb, hm⟩
                · replace H := H.know 76 hb (by kernel_rfl)
                  refine aw_true (x := .tmp 76) (by kernel_rfl) H (fun fr => by kernel_rfl) ?_
                  refine aw_skip (by kernel_rfl) ?_
                  show AW cfg 35 g (right (left (left (right (left (right (right (left (left (right (left (left (right (left (right (right (right (right (right (right (right (right (right (bodyC cfg.P 35)))))))))))))))))))))))) fr h12 _
                  refine aw_seq (by kernel_rfl) ?_
                  refine aw_block (id := 5) (by kernel_rfl) ?_
                  refine aw_seq (by kernel_rfl) ?_
                  refine aw_reg (id := 21) (n := 15) [(0, []), (1, []), (2, []), (3, []), (4, []), (5, []), (6, []), (7, []), (8, []), (9, []), (10, []), (11, []), (12, []), (13, []), (14, [])] (by kernel_rfl) (by kernel_rfl) ?_
                  refine at_seg [(0, []), (1, []), (2, []), (3, [])] [(0, .ptr p0), (3, .str p3), (6, .ptr (some (h.size, 0))), (7, .ptr (some (h1.size, 0))), (11, .slice x23.r x23.n), (13, .slice (some (h7.size, 0)) ((IntKind.i64.wrap ((p3.length : Int) + (1 : Int))).toNat)), (14, .int .i64 (mn x14 (IntKind.i64.wrap ((p3.length : Int) + (1 : Int))))), (15, .int .i64 x20), (16, .bool x27), (17, .int .i64 x28), (79, .slice x23.r x23.n), (80, .int .i64 x28), (81, .slice x23.r x23.n), (82, .int .i64 x28)] H (noU_all rfl) (fun fr => by kernel_rfl) ?_
                  intro fr H
                  obtain ⟨a2, hx, hm⟩ := bind_some hm
                  refine at_step (v := .ptr (some a2)) (h1 := h12) [(0, .ptr p0), (3, .str p3), (6, .ptr (some (h.size, 0))), (7, .ptr (some (h1.size, 0))), (11, .slice x23.r x23.n), (13, .slice (some (h7.size, 0)) ((IntKind.i64.wrap ((p3.length : Int) + (1 : Int))).toNat)), (14, .int .i64 (mn x14 (IntKind.i64.wrap ((p3.length : Int) + (1 : Int))))), (15, .int .i64 x20), (16, .bool x27), (17, .int .i64 x28), (79, .slice x23.r x23.n), (80, .int .i64 x28), (83, .ptr (some (a2.1, a2.2)))] H (fun fr => by kernel_rfl) (fun fr => .of (s_ixL (s := x23) (by kernel_rfl) hx)) ?_
                  intro fr t H
                  obtain ⟨x29, hx, hm⟩ := bind_some hm
                  refine at_step (v := .bool x29) (h1 := h12) [(0, .ptr p0), (3, .str p3), (6, .ptr (some (h.size, 0))), (7, .ptr (some (h1.size, 0))), (11, .slice x23.r x23.n), (13, .slice (some (h7.size, 0)) ((IntKind.i64.wrap ((p3.length : Int) + (1 : Int))).toNat)), (14, .int .i64 (mn x14 (IntKind.i64.wrap ((p3.length : Int) + (1 : Int))))), (15, .int .i64 x20), (16, .bool x27), (17, .int .i64 x28), (79, .slice x23.r x23.n), (80, .int .i64 x28), (84, .bool x29)] H (fun fr => by kernel_rfl) (fun fr => .of (s_ld (by kernel_rfl) (ldB_eq hx))) ?_
                  intro fr t H
                  refine at_seg [(6, [])] [(0, .ptr p0), (3, .str p3), (6, .ptr (some (h.size, 0))), (7, .ptr (some (h1.size, 0))), (11, .slice x23.r x23.n), (13, .slice (some (h7.size, 0)) ((IntKind.i64.wrap ((p3.length : Int) + (1 : Int))).toNat)), (14, .int .i64 (mn x14 (IntKind.i64.wrap ((p3.length : Int) + (1 : Int))))), (15, .int .i64 x20), (16, .bool x27), (17, .int .i64 x28), (79, .slice x23.r x23.n), (80, .int .i64 x28), (85, .bool x29)] H (noU_all rfl) (fun fr => by kernel_rfl) ?_
                  intro fr H
                  obtain ⟨x30, ho, hm⟩ := bind_some hm
                  refine at_cut [(7, []), (8, []), (9, []), (10, []), (11, []), (12, [])] (fun fr' h' => h12 = h' ∧ Has fr' 107 [(0, .ptr p0), (3, .str p3), (6, .ptr (some (h.size, 0))), (7, .ptr (some (h1.size, 0))), (11, .slice x23.r x23.n), (13, .slice (some (h7.size, 0)) ((IntKind.i64.wrap ((p3.length : Int) + (1 : Int))).toNat)), (14, .int .i64 (mn x14 (IntKind.i64.wrap ((p3.length : Int) + (1 : Int))))), (15, .int .i64 x20), (16, .bool x27), (17, .int .i64 x28), (79, .slice x23.r x23.n), (80, .int .i64 x28), (91, .bool x30)]) ?_ ?_
                  · rcases iteB_some ho with ⟨hb, hm⟩ | ⟨hb, hm⟩
                    · replace H := H.know 85 hb (by kernel_rfl)
                      refine at_seg [(7, []), (8, [])] [(0, .ptr p0), (3, .str p3), (6, .ptr (some (h.size, 0))), (7, .ptr (some (h1.size, 0))), (11, .slice x23.r x23.n), (13, .slice (some (h7.size, 0)) ((IntKind.i64.wrap ((p3.length : Int) + (1 : Int))).toNat)), (14, .int .i64 (mn x14 (IntKind.i64.wrap ((p3.length : Int) + (1 : Int))))), (15, .int .i64 x20), (16, .bool x27), (17, .int .i64 x28), (79, .slice x23.r x23.n), (80, .int .i64 x28), (85, .bool true), (86, .slice (some (h7.size, 0)) ((IntKind.i64.wrap ((p3.length : Int) + (1 : Int))).toNat)), (87, .int .i64 x28)] H (noU_all rfl) (fun fr => by kernel_rfl) ?_
                      intro fr H
                      obtain ⟨a3, hx, hm⟩ := bind_some hm
                      refine at_step (v := .ptr (some a3)) (h1 := h12) [(0, .ptr p0), (3, .str p3), (6, .ptr (some (h.size, 0))), (7, .ptr (some (h1.size, 0))), (11, .slice x23.r x23.n), (13, .slice (some (h7.size, 0)) ((IntKind.i64.wrap ((p3.length : Int) + (1 : Int))).toNat)), (14, .int .i64 (mn x14 (IntKind.i64.wrap ((p3.length : Int) + (1 : Int))))), (15, .int .i64 x20), (16, .bool x27), (17, .int .i64 x28), (79, .slice x23.r x23.n), (80, .int .i64 x28), (85, .bool true), (88, .ptr (some (a3.1, a3.2)))] H (fun fr => by kernel_rfl) (fun fr => .of (s_ixL (s := (⟨some (h7.size, 0), (IntKind.i64.wrap ((p3.length : Int) + (1 : Int))).toNat⟩ : Sl)) (by kernel_rfl) hx)) ?_
                      intro fr t H
                      obtain ⟨x31, hx, hm⟩ := bind_some hm
                      refine at_step (v := .bool x31) (h1 := h12) [(0, .ptr p0), (3, .str p3), (6, .ptr (some (h.size, 0))), (7, .ptr (some (h1.size, 0))), (11, .slice x23.r x23.n), (13, .slice (some (h7.size, 0)) ((IntKind.i64.wrap ((p3.length : Int) + (1 : Int))).toNat)), (14, .int .i64 (mn x14 (IntKind.i64.wrap ((p3.length : Int) + (1 : Int))))), (15, .int .i64 x20), (16, .bool x27), (17, .int .i64 x28), (79, .slice x23.r x23.n), (80, .int .i64 x28), (85, .bool true), (89, .bool x31)] H (fun fr => by kernel_rfl) (fun fr => .of (s_ld (by kernel_rfl) (ldB_eq hx))) ?_
                      intro fr t H
                      refine at_seg [(11, []), (12, [])] [(0, .ptr p0), (3, .str p3), (6, .ptr (some (h.size, 0))), (7, .ptr (some (h1.size, 0))), (11, .slice x23.r x23.n), (13, .slice (some (h7.size, 0)) ((IntKind.i64.wrap ((p3.length : Int) + (1 : Int))).toNat)), (14, .int .i64 (mn x14 (IntKind.i64.wrap ((p3.length : Int) + (1 : Int))))), (15, .int .i64 x20), (16, .bool x27), (17, .int .i64 x28), (79, .slice x23.r x23.n), (80, .int .i64 x28), (91, .bool (!x31))] H (noU_all rfl) (fun fr => by kernel_rfl) ?_
                      intro fr H
                      have e1 := Option.some.inj hm
                      subst e1
                      exact at_nil ⟨rfl, H.less _ (fun fr => by kernel_rfl)⟩
                    · replace H := H.know 85 hb (by kernel_rfl)
                      refine at_seg [(7, []), (8, []), (9, []), (10, []), (11, []), (12, [])] [(0, .ptr p0), (3, .str p3), (6, .ptr (some (h.size, 0))), (7, .ptr (some (h1.size, 0))), (11, .slice x23.r x23.n), (13, .slice (some (h7.size, 0)) ((IntKind.i64.wrap ((p3.length : Int) + (1 : Int))).toNat)), (14, .int .i64 (mn x14 (IntKind.i64.wrap ((p3.length : Int) + (1 : Int))))), (15, .int .i64 x20), (16, .bool x27), (17, .int .i64 x28), (79, .slice x23.r x23.n), (80, .int .i64 x28), (91, .bool false)] H (noU_all rfl) (fun fr => by kernel_rfl) ?_
                      intro fr H
                      have e1 := Option.some.inj hm
                      subst e1
                      exact at_nil ⟨rfl, H.less _ (fun fr => by kernel_rfl)⟩
                  · intro t fr h' hK
                    obtain ⟨e, H⟩ := hK
                    subst e
                    obtain ⟨a4, hx, hm⟩ := bind_some hm
                    refine at_step (v := .ptr (some a4)) (h1 := h12) [(0, .ptr p0), (3, .str p3), (6, .ptr (some (h.size, 0))), (7, .ptr (some (h1.size, 0))), (11, .slice x23.r x23.n), (13, .slice (some (h7.size, 0)) ((IntKind.i64.wrap ((p3.length : Int) + (1 : Int))).toNat)), (14, .int .i64 (mn x14 (IntKind.i64.wrap ((p3.length : Int) + (1 : Int))))), (15, .int .i64 x20), (16, .bool x27), (17, .int .i64 x28), (91, .bool x30), (92, .ptr (some (a4.1, a4.2)))] H (fun fr => by kernel_rfl) (fun fr => .of (s_ixL (s := x23) (by kernel_rfl) hx)) ?_
                    intro fr t H
                    obtain ⟨h13, hx, hm⟩ := bind_some hm
                    refine at_step (v := .tuple []) (h1 := h13) [(0, .ptr p0), (3, .str p3), (6, .ptr (some (h.size, 0))), (7, .ptr (some (h1.size, 0))), (11, .slice x23.r x23.n), (13, .slice (some (h7.size, 0)) ((IntKind.i64.wrap ((p3.length : Int) + (1 : Int))).toNat)), (14, .int .i64 (mn x14 (IntKind.i64.wrap ((p3.length : Int) + (1 : Int))))), (15, .int .i64 x20), (16, .bool x27), (17, .int .i64 x28)] H (fun fr => by kernel_rfl) (fun fr => .of (s_st (by kernel_rfl) rfl hx)) ?_
                    intro fr t H
                    refine at_nil ?_
                    show AW cfg 35 g (right (left (left (right (left (left (right (left (right (right (left (left (right (left (left (right (left (right (right (right (right (right (right (right (right (right (bodyC cfg.P 35))))))))))))))))))))))))))) fr h13 _
                    refine aw_reg (id := 22) (n := 8) [(0, []), (1, []), (2, []), (3, []), (4, []), (5, []), (6, []), (7, [])] (by kernel_rfl) (by kernel_rfl) ?_
                    refine at_seg [(0, []), (1, [])] [(0, .ptr p0), (3, .str p3), (6, .ptr (some (h.size, 0))), (7, .ptr (some (h1.size, 0))), (11, .slice x23.r x23.n), (13, .slice (some (h7.size, 0)) ((IntKind.i64.wrap ((p3.length : Int) + (1 : Int))).toNat)), (14, .int .i64 (mn x14 (IntKind.i64.wrap ((p3.length : Int) + (1 : Int))))), (15, .int .i64 x20), (17, .int .i64 x28), (94, .bool x27)] H (noU_all rfl) (fun fr => by kernel_rfl) ?_
                    intro fr H
                    obtain ⟨x32, ho, hm⟩ := bind_some hm
                    refine at_cut [(2, []), (3, []), (4, []), (5, []), (6, [])] (fun fr' h' => h13 = h' ∧ Has fr' 107 [(0, .ptr p0), (3, .str p3), (6, .ptr (some (h.size, 0))), (7, .ptr (some (h1.size, 0))), (11, .slice x23.r x23.n), (13, .slice (some (h7.size, 0)) ((IntKind.i64.wrap ((p3.length : Int) + (1 : Int))).toNat)), (14, .int .i64 (mn x14 (IntKind.i64.wrap ((p3.length : Int) + (1 : Int))))), (15, .int .i64 x20), (17, .int .i64 x28), (99, .bool x32)]) ?_ ?_
                    · rcases iteB_some ho with ⟨hb, hm⟩ | ⟨hb, hm⟩
                      · replace H := H.know 94 hb (by kernel_rfl)
                        refine at_seg [(2, []), (3, []), (4, []), (5, []), (6, [])] [(0, .ptr p0), (3, .str p3), (6, .ptr (some (h.size, 0))), (7, .ptr (some (h1.size, 0))), (11, .slice x23.r x23.n), (13, .slice (some (h7.size, 0)) ((IntKind.i64.wrap ((p3.length : Int) + (1 : Int))).toNat)), (14, .int .i64 (mn x14 (IntKind.i64.wrap ((p3.length : Int) + (1 : Int))))), (15, .int .i64 x20), (17, .int .i64 x28), (99, .bool true)] H (noU_all rfl) (fun fr => by kernel_rfl) ?_
                        intro fr H
                        have e1 := Option.some.inj hm
                        subst e1
                        exact at_nil ⟨rfl, H.less _ (fun fr => by kernel_rfl)⟩
                      · replace H := H.know 94 hb (by kernel_rfl)
                        refine at_seg [(2, []), (3, [])] [(0, .ptr p0), (3, .str p3), (6, .ptr (some (h.size, 0))), (7, .ptr (some (h1.size, 0))), (11, .slice x23.r x23.n), (13, .slice (some (h7.size, 0)) ((IntKind.i64.wrap ((p3.length : Int) + (1 : Int))).toNat)), (14, .int .i64 (mn x14 (IntKind.i64.wrap ((p3.length : Int) + (1 : Int))))), (15, .int .i64 x20), (17, .int .i64 x28), (94, .bool false), (95, .slice x23.r x23.n), (96, .int .i64 x28)] H (noU_all rfl) (fun fr => by kernel_rfl) ?_
                        intro fr H
                        obtain ⟨a5, hx, hm⟩ := bind_some hm
                        refine at_step (v := .ptr (some a5)) (h1 := h13) [(0, .ptr p0), (3, .str p3), (6, .ptr (some (h.size, 0))), (7, .ptr (some (h1.size, 0))), (11, .slice x23.r x23.n), (13, .slice (some (h7.size, 0)) ((IntKind.i64.wrap ((p3.length : Int) + (1 : Int))).toNat)), (14, .int .i64 (mn x14 (IntKind.i64.wrap ((p3.length : Int) + (1 : Int))))), (15, .int .i64 x20), (17, .int .i64 x28), (94, .bool false), (97, .ptr (some (a5.1, a5.2)))] H (fun fr => by kernel_rfl) (fun fr => .of (s_ixL (s := x23) (by kernel_rfl) hx)) ?_
                        intro fr t H
                        obtain ⟨x33, hx, hm⟩ := bind_some hm
                        refine at_step (v := .bool x33) (h1 := h13) [(0, .ptr p0), (3, .str p3), (6, .ptr (some (h.size, 0))), (7, .ptr (some (h1.size, 0))), (11, .slice x23.r x23.n), (13, .slice (some (h7.size, 0)) ((IntKind.i64.wrap ((p3.length : Int) + (1 : Int))).toNat)), (14, .int .i64 (mn x14 (IntKind.i64.wrap ((p3.length : Int) + (1 : Int))))), (15, .int .i64 x20), (17, .int .i64 x28), (94, .bool false), (98, .bool x33)] H (fun fr => by kernel_rfl) (fun fr => .of (s_ld (by kernel_rfl) (ldB_eq hx))) ?_
                        intro fr t H
                        refine at_seg [(6, [])] [(0, .ptr p0), (3, .str p3), (6, .ptr (some (h.size, 0))), (7, .ptr (some (h1.size, 0))), (11, .slice x23.r x23.n), (13, .slice (some (h7.size, 0)) ((IntKind.i64.wrap ((p3.length : Int) + (1 : Int))).toNat)), (14, .int .i64 (mn x14 (IntKind.i64.wrap ((p3.length : Int) + (1 : Int))))), (15, .int .i64 x20), (17, .int .i64 x28), (99, .bool x33)] H (noU_all rfl) (fun fr => by kernel_rfl) ?_
                        intro fr H
                        have e1 := Option.some.inj hm
                        subst e1
                        exact at_nil ⟨rfl, H.less _ (fun fr => by kernel_rfl)⟩
                    · intro t fr h' hK
                      obtain ⟨e, H⟩ := hK
                      subst e
                      refine at_seg [(7, [])] [(0, .ptr p0), (3, .str p3), (6, .ptr (some (h.size, 0))), (7, .ptr (some (h1.size, 0))), (11, .slice x23.r x23.n), (13, .slice (some (h7.size, 0)) ((IntKind.i64.wrap ((p3.length : Int) + (1 : Int))).toNat)), (14, .int .i64 (mn x14 (IntKind.i64.wrap ((p3.length : Int) + (1 : Int))))), (15, .int .i64 x20), (16, .bool x32), (17, .int .i64 x28)] H (noU_all rfl) (fun fr => by kernel_rfl) ?_
                      intro fr H
                      refine at_nil ?_
                      show AW cfg 35 g (right (right (left (left (right (left (right (right (left (left (right (left (left (right (left (right (right (right (right (right (right (right (right (right (bodyC cfg.P 35))))))))))))))))))))))))) fr h13 _
                      refine aw_reg (id := 20) (n := 3) [(0, []), (1, []), (2, [])] (by kernel_rfl) (by kernel_rfl) ?_
                      refine at_seg [(0, []), (1, []), (2, [])] [(0, .ptr p0), (3, .str p3), (6, .ptr (some (h.size, 0))), (7, .ptr (some (h1.size, 0))), (11, .slice x23.r x23.n), (13, .slice (some (h7.size, 0)) ((IntKind.i64.wrap ((p3.length : Int) + (1 : Int))).toNat)), (14, .int .i64 (mn x14 (IntKind.i64.wrap ((p3.length : Int) + (1 : Int))))), (15, .int .i64 x20), (16, .bool x32), (17, .int .i64 (IntKind.i64.wrap (x28 + (1 : Int))))] H (noU_all rfl) (fun fr => by kernel_rfl) ?_
                      intro fr H
                      refine at_nil ?_
                      exact Exists.intro (x32, IntKind.i64.wrap (x28 + (1 : Int)), h13) (And.intro (Option.some.inj hm).symm ⟨x32, IntKind.i64.wrap (x28 + (1 : Int)), rfl, rfl, H.less _ (fun fr => by kernel_rfl)⟩)
                · replace H := H.know 76 hb (by kernel_rfl)
                  refine aw_false (x := .tmp 76) (by kernel_rfl) H (fun fr => by kernel_rfl) ?_
                  refine aw_exit (i := 4) (by kernel_rfl) ?_
                  exact Exists.intro _ (And.intro (Option.some.inj hm).symm (fun e => Or.inl ⟨x27, rfl, e, rfl, H.less _ (fun fr => by kernel_rfl)⟩))
              · clear ho
                intro e fr h14 hQ
                rcases hQ with ⟨x26, rfl, rfl, _, H⟩ | hF
                · skip
                  show AW cfg 35 g (right (right (right (left (left (right (left (left (right (left (right (right (right (right (right (right (right (right (right (bodyC cfg.P 35)))))))))))))))))))) fr h14 _
                  refine aw_seq (by kernel_rfl) ?_
                  refine aw_seq (by kernel_rfl) ?_
                  refine aw_reg (id := 23) (n := 2) [(0, []), (1, [])] (by kernel_rfl) (by kernel_rfl) ?_
                  refine at_seg [(0, []), (1, [])] [(0, .ptr p0), (3, .str p3), (6, .ptr (some (h.size, 0))), (7, .ptr (some (h1.size, 0))), (11, .slice x23.r x23.n), (13, .slice (some (h7.size, 0)) ((IntKind.i64.wrap ((p3.length : Int) + (1 : Int))).toNat)), (14, .int .i64 (mn x14 (IntKind.i64.wrap ((p3.length : Int) + (1 : Int))))), (15, .int .i64 x20), (101, .bool (!x26))] H (noU_all rfl) (fun fr => by kernel_rfl) ?_
                  intro fr H
                  refine at_nil ?_
                  show AW cfg 35 g (right (left (right (right (right (left (left (right (left (left (right (left (right (right (right (right (right (right (right (right (right (bodyC cfg.P 35)))))))))))))))))))))) fr h14 _
                  rcases iteB_some hm with ⟨hb, hm⟩ | ⟨hb, hm⟩
                  · replace H := H.know 101 hb (by kernel_rfl)
                    refine aw_true (x := .tmp 101) (by kernel_rfl) H (fun fr => by kernel_rfl) ?_
                    refine aw_seq (by kernel_rfl) ?_
                    refine aw_reg (id := 24) (n := 2) [(0, []), (1, [])] (by kernel_rfl) (by kernel_rfl) ?_
                    refine at_seg [(0, []), (1, [])] [(10, .slice (some (h7.size, 0)) ((IntKind.i64.wrap ((p3.length : Int) + (1 : Int))).toNat))] H (noU_all rfl) (fun fr => by kernel_rfl) ?_
                    intro fr H
                    refine at_nil ?_
                    show AW cfg 35 g (right (left (right (left (right (right (right (left (left (right (left (left (right (left (right (right (right (right (right (right (right (right (right (bodyC cfg.P 35)))))))))))))))))))))))) fr h14 _
                    refine aw_ret (by kernel_rfl) ?_
                    exact Exists.intro _ (And.intro (Option.some.inj hm).symm (fun e => Or.inr (Or.inl ⟨(⟨some (h7.size, 0), (IntKind.i64.wrap ((p3.length : Int) + (1 : Int))).toNat⟩ : Sl), rfl, e, rfl, H.less _ (fun fr => by kernel_rfl)⟩)))
                  · replace H := H.know 101 hb (by kernel_rfl)
                    refine aw_false (x := .tmp 101) (by kernel_rfl) H (fun fr => by kernel_rfl) ?_
                    refine aw_skip (by kernel_rfl) ?_
                    show AW cfg 35 g (right (right (right (right (left (left (right (left (left (right (left (right (right (right (right (right (right (right (right (right (bodyC cfg.P 35))))))))))))))))))))) fr h14 _
                    refine aw_reg (id := 25) (n := 3) [(0, []), (1, []), (2, [])] (by kernel_rfl) (by kernel_rfl) ?_
                    refine at_seg [(0, []), (1, [])] [(0, .ptr p0), (3, .str p3), (6, .ptr (some (h.size, 0))), (7, .ptr (some (h1.size, 0))), (11, .slice x23.r x23.n), (13, .slice (some (h7.size, 0)) ((IntKind.i64.wrap ((p3.length : Int) + (1 : Int))).toNat)), (14, .int .i64 (mn x14 (IntKind.i64.wrap ((p3.length : Int) + (1 : Int))))), (15, .int .i64 x20), (103, .slice (some (h7.size, 0)) ((IntKind.i64.wrap ((p3.length : Int) + (1 : Int))).toNat)), (104, .slice x23.r x23.n)] H (noU_all rfl) (fun fr => by kernel_rfl) ?_
                    intro fr H
                    obtain ⟨⟨⟨⟩, h15⟩, hx, hm⟩ := bind_some hm
                    refine at_step (v := .tuple []) (h1 := h15) [(0, .ptr p0), (3, .str p3), (6, .ptr (some (h.size, 0))), (7, .ptr (some (h1.size, 0))), (11, .slice x23.r x23.n), (13, .slice (some (h7.size, 0)) ((IntKind.i64.wrap ((p3.length : Int) + (1 : Int))).toNat)), (14, .int .i64 (mn x14 (IntKind.i64.wrap ((p3.length : Int) + (1 : Int))))), (15, .int .i64 x20)] H (fun fr => by kernel_rfl) (fun fr => Steps.call (by kernel_rfl) (ok_boulterref18_add hx)) ?_
                    intro fr t H
                    refine at_nil ?_
                    show AW cfg 35 g (right (right (left (left (right (left (right (right (right (right (right (right (right (right (right (bodyC cfg.P 35)))))))))))))))) fr h15 _
                    refine aw_reg (id := 15) (n := 3) [(0, []), (1, []), (2, [])] (by kernel_rfl) (by kernel_rfl) ?_
                    refine at_seg [(0, []), (1, []), (2, [])] [(0, .ptr p0), (3, .str p3), (6, .ptr (some (h.size, 0))), (7, .ptr (some (h1.size, 0))), (11, .slice x23.r x23.n), (13, .slice (some (h7.size, 0)) ((IntKind.i64.wrap ((p3.length : Int) + (1 : Int))).toNat)), (14, .int .i64 (mn x14 (IntKind.i64.wrap ((p3.length : Int) + (1 : Int))))), (15, .int .i64 (IntKind.i64.wrap (x20 + (1 : Int))))] H (noU_all rfl) (fun fr => by kernel_rfl) ?_
                    intro fr H
                    refine at_nil ?_
                    exact Exists.intro (x23, IntKind.i64.wrap (x20 + (1 : Int)), h15) (And.intro (Option.some.inj hm).symm ⟨x23, IntKind.i64.wrap (x20 + (1 : Int)), rfl, rfl, H.less _ (fun fr => by kernel_rfl)⟩)
                · exact hF.elim
            · replace H := H.know 63 hb (by kernel_rfl)
              refine aw_false (x := .tmp 63) (by kernel_rfl) H (fun fr => by kernel_rfl) ?_
              refine aw_exit (i := 2) (by kernel_rfl) ?_
              exact Exists.intro _ (And.intro (Option.some.inj hm).symm (fun e => Or.inl ⟨rfl, e, rfl, H.less _ (fun fr => by kernel_rfl)⟩))
          · clear ho
            intro e fr h16 hQ
            rcases hQ with ⟨rfl, rfl, _, H⟩ | ⟨x18, rfl, rfl, _, H⟩ | hF
            · skip
              show AW cfg 35 g (right (right (right (right (right (right (right (right (right (right (bodyC cfg.P 35))))))))))) fr h16 _
              refine aw_seq (by kernel_rfl) ?_
              refine aw_reg (id := 26) (n := 2) [(0, []), (1, [])] (by kernel_rfl) (by kernel_rfl) ?_
              refine at_seg [(0, []), (1, [])] [(10, .slice (some (h7.size, 0)) ((IntKind.i64.wrap ((p3.length : Int) + (1 : Int))).toNat))] H (noU_all rfl) (fun fr => by kernel_rfl) ?_
              intro fr H
              refine at_nil ?_
              show AW cfg 35 g (right (right (right (right (right (right (right (right (right (right (right (bodyC cfg.P 35)))))))))))) fr h16 _
              refine aw_ret (by kernel_rfl) ?_
              obtain ⟨e1, e2⟩ := inj2 hm
              subst e2
              subst e1
              exact (done_ret H (fun fr => by kernel_rfl) rfl : doneQ cfg.P _ _ _ _ fr _)
            · skip
              obtain ⟨e1, e2⟩ := inj2 hm
              subst e2
              subst e1
              exact (done_ret H (fun fr => by kernel_rfl) rfl : doneQ cfg.P _ _ _ _ fr _)
            · exact hF.elim
        · exact hF.elim
    · exact hF.elim
noncomputable def rSC_boulterref18_memo_once : Nat → SC_boulterref18_memo_once
  | 0 => ⟨fun _ _ _ _ _ _ _ => none, fun _ _ _ _ _ _ _ => none, fun _ _ _ _ _ _ _ => none⟩
  | n + 1 => ⟨B_boulterref18_memo_once (rSC_boulterref18_memo_once n), B_boulterref18_memo_ends (rSC_boulterref18_memo_once n), B_boulterref18_memo_repeat (rSC_boulterref18_memo_once n)⟩
theorem okrSC_boulterref18_memo_once : ∀ n, OkSC_boulterref18_memo_once (rSC_boulterref18_memo_once n)
  | 0 => ⟨fun hm => (by cases hm), fun hm => (by cases hm), fun hm => (by cases hm)⟩
  | n + 1 => ⟨fun hm => okB_boulterref18_memo_once (okrSC_boulterref18_memo_once n) hm, fun hm => okB_boulterref18_memo_ends (okrSC_boulterref18_memo_once n) hm, fun hm => okB_boulterref18_memo_repeat (okrSC_boulterref18_memo_once n) hm⟩
noncomputable def M_boulterref18_memo_once : Gd → AHeap → (Option (Nat × Nat)) → (List AVal) → Int → (List UInt8) → Sl → Option ((Sl) × AHeap) := (rSC_boulterref18_memo_once bigF).M_boulterref18_memo_once
theorem ok_boulterref18_memo_once {g : Gd} {h h' : AHeap} {p0 : Option (Nat × Nat)} {p1 : List AVal} {p2 : Int} {p3 : List UInt8} {p4 : Sl} {r0 : Sl} (hm : M_boulterref18_memo_once g h p0 p1 p2 p3 p4 = some (r0, h')) : Runs cfg g h 42 [.ptr p0, .agg p1, .int .i64 p2, .str p3, .slice p4.r p4.n] (.slice r0.r r0.n) h' := (okrSC_boulterref18_memo_once bigF).ok_boulterref18_memo_once hm
noncomputable def M_boulterref18_memo_ends : Gd → AHeap → (Option (Nat × Nat)) → (List AVal) → Int → (List UInt8) → Int → Option ((Sl) × AHeap) := (rSC_boulterref18_memo_once bigF).M_boulterref18_memo_ends
theorem ok_boulterref18_memo_ends {g : Gd} {h h' : AHeap} {p0 : Option (Nat × Nat)} {p1 : List AVal} {p2 : Int} {p3 : List UInt8} {p4 : Int} {r0 : Sl} (hm : M_boulterref18_memo_ends g h p0 p1 p2 p3 p4 = some (r0, h')) : Runs cfg g h 24 [.ptr p0, .agg p1, .int .i64 p2, .str p3, .int .i64 p4] (.slice r0.r r0.n) h' := (okrSC_boulterref18_memo_once bigF).ok_boulterref18_memo_ends hm
noncomputable def M_boulterref18_memo_repeat : Gd → AHeap → (Option (Nat × Nat)) → (List AVal) → (List AVal) → (List UInt8) → Int → Option ((Sl) × AHeap) := (rSC_boulterref18_memo_once bigF).M_boulterref18_memo_repeat
theorem ok_boulterref18_memo_repeat {g : Gd} {h h' : AHeap} {p0 : Option (Nat × Nat)} {p1 : List AVal} {p2 : List AVal} {p3 : List UInt8} {p4 : Int} {r0 : Sl} (hm : M_boulterref18_memo_repeat g h p0 p1 p2 p3 p4 = some (r0, h')) : Runs cfg g h 35 [.ptr p0, .agg p1, .agg p2, .str p3, .int .i64 p4] (.slice r0.r r0.n) h' := (okrSC_boulterref18_memo_once bigF).ok_boulterref18_memo_repeat hm
/-! ### boulter/boulterref18.Ends -/
noncomputable def M_boulterref18_Ends (g : Gd) (h : AHeap) (p0 : List AVal) (p1 : Int) (p2 : List UInt8) (p3 : Int) : Option ((Sl) × AHeap) :=
 need (p0.all AVal.one) <| (some (h.push (.cells none 2 p0))).bind fun h1 => (ldL h1 (h.size, 0)).bind fun x1 => (mkL 24 [.slice none 0] ((x1.n : Nat) : Int) ((x1.n : Nat) : Int)).bind fun x2 => (some (h1.push (.cells (some 79) 2 x2))).bind fun h2 => (some (h2.push (.cells none 2 [.slice none 0]))).bind fun h3 => (stG 1 g h3 (h2.size, 0) [.slice (some (h1.size, 0)) ((((x1.n : Nat) : Int)).toNat)]).bind fun h4 => (mkL 1 [.bool false] (IntKind.i64.wrap ((p2.length : Int) + (1 : Int))) (IntKind.i64.wrap ((p2.length : Int) + (1 : Int)))).bind fun x3 => (some (h4.push (.cells (some 4) 2 x3))).bind fun h5 => (ldA h5 (h.size, 0) 2).bind fun x4 => (M_boulterref18_memo_ends g h5 (some (h2.size, 0)) x4 p1 p2 p3).bind fun (x5, h6) => (cpy 1 g h6 (⟨some (h4.size, 0), (IntKind.i64.wrap ((p2.length : Int) + (1 : Int))).toNat⟩ : Sl) x5.n (.slice x5.r x5.n)).bind fun (x6, h7) => some ((⟨some (h4.size, 0), (IntKind.i64.wrap ((p2.length : Int) + (1 : Int))).toNat⟩ : Sl), h7)
theorem ok_boulterref18_Ends {g : Gd} {h h' : AHeap} {p0 : List AVal} {p1 : Int} {p2 : List UInt8} {p3 : Int} {r0 : Sl} (hm : M_boulterref18_Ends g h p0 p1 p2 p3 = some (r0, h')) : Runs cfg g h 16 [.agg p0, .int .i64 p1, .str p2, .int .i64 p3] (.slice r0.r r0.n) h' := by
  refine runs1 (by kernel_rfl) (body_of (n := 28) (rs := [.tmp 8]) (by kernel_rfl) ?_)
  unfold M_boulterref18_Ends at hm
  refine start (n := 28) [(0, .agg p0), (1, .int .i64 p1), (2, .str p2), (3, .int .i64 p3)] (by kernel_rfl) (by kernel_rfl) ?_
  intro fr H
  refine aw_seq (by kernel_rfl) ?_
  refine aw_reg (id := 0) (n := 2) [(0, []), (1, [])] (by kernel_rfl) (by kernel_rfl) ?_
  obtain ⟨hb, hm⟩ := need_some hm
  obtain ⟨h1, hx, hm⟩ := bind_some hm
  refine at_step (v := .ptr (some (h.size, 0))) (h1 := h1) [(1, .int .i64 p1), (2, .str p2), (3, .int .i64 p3), (4, .ptr (some (h.size, 0)))] H (fun fr => by kernel_rfl) (fun fr => .of (s_boxG (by kernel_rfl) hb hx)) ?_
  intro fr t H
  refine at_seg [(1, [])] [(1, .int .i64 p1), (2, .str p2), (3, .int .i64 p3), (4, .ptr (some (h.size, 0)))] H (noU_all rfl) (fun fr => by kernel_rfl) ?_
  intro fr H
  refine at_nil ?_
  show AW cfg 16 g (right (bodyC cfg.P 16)) fr h1 _
  refine aw_seq (by kernel_rfl) ?_
  refine aw_reg (id := 1) (n := 7) [(0, []), (1, []), (2, []), (3, []), (4, []), (5, []), (6, [])] (by kernel_rfl) (by kernel_rfl) ?_
  refine at_seg [(0, [])] [(1, .int .i64 p1), (2, .str p2), (3, .int .i64 p3), (4, .ptr (some (h.size, 0))), (11, .ptr (some (h.size, 0)))] H (noU_all rfl) (fun fr => by kernel_rfl) ?_
  intro fr H
  obtain ⟨x1, hx, hm⟩ := bind_some hm
  refine at_step (v := .slice x1.r x1.n) (h1 := h1) [(1, .int .i64 p1), (2, .str p2), (3, .int .i64 p3), (4, .ptr (some (h.size, 0))), (12, .slice x1.r x1.n)] H (fun fr => by kernel_rfl) (fun fr => .of (s_ld (by kernel_rfl) (ldL_eq hx))) ?_
  intro fr t H
  refine at_seg [(2, [])] [(1, .int .i64 p1), (2, .str p2), (3, .int .i64 p3), (4, .ptr (some (h.size, 0))), (13, .int .i64 ((x1.n : Nat) : Int))] H (noU_all rfl) (fun fr => by kernel_rfl) ?_
  intro fr H
  obtain ⟨x2, hx, hm⟩ := bind_some hm
  obtain ⟨h2, hy, hm⟩ := bind_some hm
  refine at_step (v := .slice (some (h1.size, 0)) ((((x1.n : Nat) : Int)).toNat)) (h1 := h2) [(1, .int .i64 p1), (2, .str p2), (3, .int .i64 p3), (4, .ptr (some (h.size, 0))), (14, .slice (some (h1.size, 0)) ((((x1.n : Nat) : Int)).toNat))] H (fun fr => by kernel_rfl) (fun fr => .of (s_mk' (by kernel_rfl) hx hy)) ?_
  intro fr t H
  refine at_seg [(4, [])] [(1, .int .i64 p1), (2, .str p2), (3, .int .i64 p3), (4, .ptr (some (h.size, 0))), (15, .agg [.slice (some (h1.size, 0)) ((((x1.n : Nat) : Int)).toNat)])] H (noU_all rfl) (fun fr => by kernel_rfl) ?_
  intro fr H
  obtain ⟨h3, hx, hm⟩ := bind_some hm
  refine at_step (v := .ptr (some (h2.size, 0))) (h1 := h3) [(1, .int .i64 p1), (2, .str p2), (3, .int .i64 p3), (4, .ptr (some (h.size, 0))), (9, .ptr (some (h2.size, 0))), (15, .agg [.slice (some (h1.size, 0)) ((((x1.n : Nat) : Int)).toNat)])] H (fun fr => by kernel_rfl) (fun fr => .of (s_n' (by kernel_rfl) hx)) ?_
  intro fr t H
  obtain ⟨h4, hx, hm⟩ := bind_some hm
  refine at_step (v := .tuple []) (h1 := h4) [(1, .int .i64 p1), (2, .str p2), (3, .int .i64 p3), (4, .ptr (some (h.size, 0))), (9, .ptr (some (h2.size, 0)))] H (fun fr => by kernel_rfl) (fun fr => .of (s_stG (by kernel_rfl) hx)) ?_
  intro fr t H
  refine at_nil ?_
  show AW cfg 16 g (right (right (bodyC cfg.P 16))) fr h4 _
  refine aw_seq (by kernel_rfl) ?_
  refine aw_reg (id := 2) (n := 5) [(0, []), (1, []), (2, []), (3, []), (4, [])] (by kernel_rfl) (by kernel_rfl) ?_
  refine at_seg [(0, []), (1, []), (2, [])] [(1, .int .i64 p1), (2, .str p2), (3, .int .i64 p3), (4, .ptr (some (h.size, 0))), (9, .ptr (some (h2.size, 0))), (18, .int .i64 (IntKind.i64.wrap ((p2.length : Int) + (1 : Int))))] H (noU_all rfl) (fun fr => by kernel_rfl) ?_
  intro fr H
  obtain ⟨x3, hx, hm⟩ := bind_some hm
  obtain ⟨h5, hy, hm⟩ := bind_some hm
  refine at_step (v := .slice (some (h4.size, 0)) ((IntKind.i64.wrap ((p2.length : Int) + (1 : Int))).toNat)) (h1 := h5) [(1, .int .i64 p1), (2, .str p2), (3, .int .i64 p3), (4, .ptr (some (h.size, 0))), (9, .ptr (some (h2.size, 0))), (19, .slice (some (h4.size, 0)) ((IntKind.i64.wrap ((p2.length : Int) + (1 : Int))).toNat))] H (fun fr => by kernel_rfl) (fun fr => .of (s_mk' (by kernel_rfl) hx hy)) ?_
  intro fr t H
  refine at_seg [(4, [])] [(1, .int .i64 p1), (2, .str p2), (3, .int .i64 p3), (4, .ptr (some (h.size, 0))), (9, .ptr (some (h2.size, 0))), (10, .slice (some (h4.size, 0)) ((IntKind.i64.wrap ((p2.length : Int) + (1 : Int))).toNat))] H (noU_all rfl) (fun fr => by kernel_rfl) ?_
  intro fr H
  refine at_nil ?_
  show AW cfg 16 g (right (right (right (bodyC cfg.P 16)))) fr h5 _
  refine aw_seq (by kernel_rfl) ?_
  refine aw_reg (id := 3) (n := 7) [(0, []), (1, []), (2, []), (3, []), (4, []), (5, []), (6, [])] (by kernel_rfl) (by kernel_rfl) ?_
  refine at_seg [(0, [])] [(1, .int .i64 p1), (2, .str p2), (3, .int .i64 p3), (4, .ptr (some (h.size, 0))), (9, .ptr (some (h2.size, 0))), (10, .slice (some (h4.size, 0)) ((IntKind.i64.wrap ((p2.length : Int) + (1 : Int))).toNat)), (20, .slice (some (h4.size, 0)) ((IntKind.i64.wrap ((p2.length : Int) + (1 : Int))).toNat))] H (noU_all rfl) (fun fr => by kernel_rfl) ?_
  intro fr H
  obtain ⟨x4, hx, hm⟩ := bind_some hm
  refine at_step (v := .agg x4) (h1 := h5) [(1, .int .i64 p1), (2, .str p2), (3, .int .i64 p3), (9, .ptr (some (h2.size, 0))), (10, .slice (some (h4.size, 0)) ((IntKind.i64.wrap ((p2.length : Int) + (1 : Int))).toNat)), (20, .slice (some (h4.size, 0)) ((IntKind.i64.wrap ((p2.length : Int) + (1 : Int))).toNat)), (21, .agg x4)] H (fun fr => by kernel_rfl) (fun fr => .of (s_ldA (by kernel_rfl) hx)) ?_
  intro fr t H
  refine at_seg [(2, []), (3, []), (4, [])] [(9, .ptr (some (h2.size, 0))), (10, .slice (some (h4.size, 0)) ((IntKind.i64.wrap ((p2.length : Int) + (1 : Int))).toNat)), (20, .slice (some (h4.size, 0)) ((IntKind.i64.wrap ((p2.length : Int) + (1 : Int))).toNat)), (21, .agg x4), (22, .int .i64 p1), (23, .str p2), (24, .int .i64 p3)] H (noU_all rfl) (fun fr => by kernel_rfl) ?_
  intro fr H
  obtain ⟨⟨x5, h6⟩, hx, hm⟩ := bind_some hm
  refine at_step (v := .slice x5.r x5.n) (h1 := h6) [(10, .slice (some (h4.size, 0)) ((IntKind.i64.wrap ((p2.length : Int) + (1 : Int))).toNat)), (20, .slice (some (h4.size, 0)) ((IntKind.i64.wrap ((p2.length : Int) + (1 : Int))).toNat)), (25, .slice x5.r x5.n)] H (fun fr => by kernel_rfl) (fun fr => Steps.call (by kernel_rfl) (ok_boulterref18_memo_ends hx)) ?_
  intro fr t H
  obtain ⟨⟨x6, h7⟩, hx, hm⟩ := bind_some hm
  refine at_step (v := .int .i64 x6) (h1 := h7) [(10, .slice (some (h4.size, 0)) ((IntKind.i64.wrap ((p2.length : Int) + (1 : Int))).toNat))] H (fun fr => by kernel_rfl) (fun fr => .of (s_cpy (d := (⟨some (h4.size, 0), (IntKind.i64.wrap ((p2.length : Int) + (1 : Int))).toNat⟩ : Sl)) (by kernel_rfl) hx)) ?_
  intro fr t H
  refine at_nil ?_
  show AW cfg 16 g (right (right (right (right (bodyC cfg.P 16))))) fr h7 _
  refine aw_seq (by kernel_rfl) ?_
  refine aw_reg (id := 4) (n := 2) [(0, []), (1, [])] (by kernel_rfl) (by kernel_rfl) ?_
  refine at_seg [(0, []), (1, [])] [(8, .slice (some (h4.size, 0)) ((IntKind.i64.wrap ((p2.length : Int) + (1 : Int))).toNat))] H (noU_all rfl) (fun fr => by kernel_rfl) ?_
  intro fr H
  refine at_nil ?_
  show AW cfg 16 g (right (right (right (right (right (bodyC cfg.P 16)))))) fr h7 _
  refine aw_ret (by kernel_rfl) ?_
  obtain ⟨e1, e2⟩ := inj2 hm
  subst e2
  subst e1
  exact (done_ret H (fun fr => by kernel_rfl) rfl : doneQ cfg.P _ _ _ _ fr _)
end Go.Abs.L
