/-
 Models of functions, and that the abstract run tells them. Written by lift2.py.
-/
import Derived.Test.YtkdlmohhklimjaaGreatDoorKCfg
namespace Go.Av.L
open Go.Av Go.Lib
set_option maxRecDepth 10000
set_option linter.unusedVariables false
set_option linter.unusedSimpArgs false
/-! ### boulter/boulterlaw24.awake -/
def M_boulterlaw24_awake : Option Bool := some true
theorem ok_boulterlaw24_awake {g : Gd} {h : AHeap} {q0 : Bool} (hm : M_boulterlaw24_awake = some q0) : Runs cfg g h 8 [] (.bool q0) h := by
 have e1 := Option.some.inj hm
 subst e1
 exact runs4E (by kernel_rfl) rfl rfl (closedF 100000 (by kernel_rfl))
/-! ### boulter/boulterref24.part -/
noncomputable def M_boulterref24_part_L0 (p0 : List UInt8) (p2 : Int) (s : Int × (List UInt8)) : Option ((Int × (List UInt8)) ⊕ ((Unit) ⊕ ((List UInt8) × Int))) :=
 match s with
 | (x1, x2) => iteB (decide (x1 < (p0.length : Int))) ((ixS p0 x1).bind fun x5 => iteB (x5 == p2) (some (.inr (.inr (x2, IntKind.i64.wrap (x1 + (1 : Int)))))) ((ixS p0 x1).bind fun x6 => iteB ((x6 == (92 : Int)) && (decide ((IntKind.i64.wrap (x1 + (1 : Int))) < (p0.length : Int)))) (((ixS p0 (IntKind.i64.wrap (x1 + (1 : Int)))).bind fun x8 => iteB (x8 == p2) ((subS p0 (some (IntKind.i64.wrap (x1 + (1 : Int)))) (some (IntKind.i64.wrap (x1 + (2 : Int))))).bind fun x9 => need (decide (x2.length + x9.length ≤ 9223372036854775807)) <| some (x2 ++ x9)) ((subS p0 (some x1) (some (IntKind.i64.wrap (x1 + (2 : Int))))).bind fun x10 => need (decide (x2.length + x10.length ≤ 9223372036854775807)) <| some (x2 ++ x10)) : Option (((List UInt8)))).bind fun x7 => some (.inl (IntKind.i64.wrap (x1 + (2 : Int)), x7))) ((subS p0 (some x1) (some (IntKind.i64.wrap (x1 + (1 : Int))))).bind fun x11 => need (decide (x2.length + x11.length ≤ 9223372036854775807)) <| some (.inl (IntKind.i64.wrap (x1 + (1 : Int)), x2 ++ x11))))) (some (.inr (.inl ())))
noncomputable def M_boulterref24_part (p0 : List UInt8) (p1 : Int) (p2 : Int) : Option ((List UInt8) × Int) :=
 (loop (M_boulterref24_part_L0 p0 p2) (p1, ([] : List UInt8))).bind fun o1 => (match o1 with | .inl _ => some (([] : List UInt8), (-1 : Int)) | .inr (x3, x4) => some (x3, x4))
theorem ok_boulterref24_part {g : Gd} {h : AHeap} {F : List Ck} {p0 : List UInt8} {p1 : Int} {p2 : Int} {q0 : List UInt8} {q1 : Int} {av : List AVal} (hm : M_boulterref24_part p0 p1 p2 = some (q0, q1)) (hc : canL (cfg.still 25) av = [.str p0, .int .i64 p1, .int .u8 p2]) (A : HH g h [] F) : ∃ v h', Runs cfg g h 25 av v h' ∧ v = .tuple [.str q0, .int .i64 q1] ∧ HH g h' [] F := by
 refine runsQ1 (n := 64) (rs := [.tmp 6, .tmp 7]) (by kernel_rfl) hc (by kernel_rfl) ?_
 clear hc
 unfold M_boulterref24_part at hm
 refine start (n := 64) [(0, .str p0), (1, .int .i64 p1), (2, .int .u8 p2)] (by kernel_rfl) (by kernel_rfl) ?_
 intro fr H
 refine aw_seq (by kernel_rfl) ?_
 refine aw_reg (id := 0) (n := 2) [(0, []), (1, [])] (by kernel_rfl) (by kernel_rfl) ?_
 refine at_seg [(0, []), (1, [])] [(0, .str p0), (1, .int .i64 p1), (2, .int .u8 p2)] H (noU_all rfl) (fun fr => by kernel_rfl) ?_
 intro fr H
 refine at_nil ?_
 show AW cfg 25 g (right (bodyC cfg.P 25)) fr h _
 refine aw_seq (by kernel_rfl) ?_
 refine aw_reg (id := 1) (n := 1) [(0, [])] (by kernel_rfl) (by kernel_rfl) ?_
 refine at_seg [(0, [])] [(0, .str p0), (1, .int .i64 p1), (2, .int .u8 p2), (8, .str ([] : List UInt8))] H (noU_all rfl) (fun fr => by kernel_rfl) ?_
 intro fr H
 refine at_nil ?_
 show AW cfg 25 g (right (right (bodyC cfg.P 25))) fr h _
 refine aw_seq (by kernel_rfl) ?_
 refine aw_block (id := 0) (by kernel_rfl) ?_
 obtain ⟨o1, ho, hm⟩ := bind_some hm
 refine aw_mono (Q' := fun e fr' h' => (e = .exit 0 ∧ .inl () = o1 ∧ Has fr' 64 [] ∧ HH g h' [] F) ∨ (∃ (x3 : List UInt8) (x4 : Int), e = .ret ∧ .inr (x3, x4) = o1 ∧ Has fr' 64 [(6, .str x3), (7, .int .i64 x4)] ∧ HH g h' [] F) ∨ False) ?_ ?_
 ·refine aw_loop (by kernel_rfl) (fun (s : Int × (List UInt8)) fr' h' => ∃ (x1 : Int) (x2 : List UInt8), (x1, x2) = s ∧ Has fr' 64 [(0, .str p0), (1, .int .i64 x1), (2, .int .u8 p2), (8, .str x2)] ∧ HH g h' [] F) ho ⟨p1, ([] : List UInt8), rfl, H.less _ (fun fr => by kernel_rfl), A⟩ ?_
  clear ho hm H A
  intro s q fr h1 hI hm
  obtain ⟨x1, x2, rfl, H, A⟩ := hI
  unfold M_boulterref24_part_L0 at hm
  refine aw_seq (by kernel_rfl) ?_
  refine aw_seq (by kernel_rfl) ?_
  refine aw_reg (id := 2) (n := 4) [(0, []), (1, []), (2, []), (3, [])] (by kernel_rfl) (by kernel_rfl) ?_
  refine at_seg [(0, []), (1, []), (2, []), (3, [])] [(0, .str p0), (1, .int .i64 x1), (2, .int .u8 p2), (8, .str x2), (12, .bool (decide (x1 < (p0.length : Int))))] H (noU_all rfl) (fun fr => by kernel_rfl) ?_
  intro fr H
  refine at_nil ?_
  show AW cfg 25 g (right (left (left (left (left (right (right (bodyC cfg.P 25)))))))) fr h1 _
  rcases iteB_some hm with ⟨hb, hm⟩ | ⟨hb, hm⟩
  ·replace H := H.know 12 hb (by kernel_rfl)
   refine aw_true (x := .tmp 12) (by kernel_rfl) H (fun fr => by kernel_rfl) ?_
   refine aw_skip (by kernel_rfl) ?_
   show AW cfg 25 g (right (left (left (left (right (right (bodyC cfg.P 25))))))) fr h1 _
   refine aw_block (id := 1) (by kernel_rfl) ?_
   refine aw_seq (by kernel_rfl) ?_
   refine aw_seq (by kernel_rfl) ?_
   refine aw_reg (id := 3) (n := 5) [(0, []), (1, []), (2, []), (3, []), (4, [])] (by kernel_rfl) (by kernel_rfl) ?_
   refine at_seg [(0, []), (1, [])] [(0, .str p0), (1, .int .i64 x1), (2, .int .u8 p2), (8, .str x2), (13, .str p0), (14, .int .i64 x1)] H (noU_all rfl) (fun fr => by kernel_rfl) ?_
   intro fr H
   obtain ⟨x5, hx, hm⟩ := bind_some hm
   refine at_step (v := .int .u8 x5) (h1 := h1) [(0, .str p0), (1, .int .i64 x1), (2, .int .u8 p2), (8, .str x2), (15, .int .u8 x5)] H (fun fr => by kernel_rfl) (fun fr => .of (s_ixS (by kernel_rfl) hx)) ?_
   intro fr t H
   refine at_seg [(3, []), (4, [])] [(0, .str p0), (1, .int .i64 x1), (2, .int .u8 p2), (8, .str x2), (17, .bool (x5 == p2))] H (noU_all rfl) (fun fr => by kernel_rfl) ?_
   intro fr H
   refine at_nil ?_
   show AW cfg 25 g (right (left (left (right (left (left (left (right (right (bodyC cfg.P 25)))))))))) fr h1 _
   rcases iteB_some hm with ⟨hb, hm⟩ | ⟨hb, hm⟩
   ·replace H := H.know 17 hb (by kernel_rfl)
    refine aw_true (x := .tmp 17) (by kernel_rfl) H (fun fr => by kernel_rfl) ?_
    refine aw_seq (by kernel_rfl) ?_
    refine aw_reg (id := 4) (n := 5) [(0, []), (1, []), (2, []), (3, []), (4, [])] (by kernel_rfl) (by kernel_rfl) ?_
    refine at_seg [(0, []), (1, []), (2, []), (3, []), (4, [])] [(6, .str x2), (7, .int .i64 (IntKind.i64.wrap (x1 + (1 : Int))))] H (noU_all rfl) (fun fr => by kernel_rfl) ?_
    intro fr H
    refine at_nil ?_
    show AW cfg 25 g (right (left (right (left (left (right (left (left (left (right (right (bodyC cfg.P 25)))))))))))) fr h1 _
    refine aw_ret (by kernel_rfl) ?_
    exact Exists.intro _ (And.intro (Option.some.inj hm).symm (fun e => Or.inr (Or.inl ⟨x2, IntKind.i64.wrap (x1 + (1 : Int)), rfl, e, H.less _ (fun fr => by kernel_rfl), A⟩)))
   ·replace H := H.know 17 hb (by kernel_rfl)
    refine aw_false (x := .tmp 17) (by kernel_rfl) H (fun fr => by kernel_rfl) ?_
    refine aw_skip (by kernel_rfl) ?_
    show AW cfg 25 g (right (left (right (left (left (left (right (right (bodyC cfg.P 25))))))))) fr h1 _
    refine aw_seq (by kernel_rfl) ?_
    refine aw_seq (by kernel_rfl) ?_
    refine aw_reg (id := 5) (n := 11) [(0, []), (1, []), (2, []), (3, []), (4, []), (5, []), (6, []), (7, []), (8, []), (9, []), (10, [])] (by kernel_rfl) (by kernel_rfl) ?_
    refine at_seg [(0, []), (1, [])] [(0, .str p0), (1, .int .i64 x1), (2, .int .u8 p2), (8, .str x2), (21, .str p0), (22, .int .i64 x1)] H (noU_all rfl) (fun fr => by kernel_rfl) ?_
    intro fr H
    obtain ⟨x6, hx, hm⟩ := bind_some hm
    refine at_step (v := .int .u8 x6) (h1 := h1) [(0, .str p0), (1, .int .i64 x1), (2, .int .u8 p2), (8, .str x2), (23, .int .u8 x6)] H (fun fr => by kernel_rfl) (fun fr => .of (s_ixS (by kernel_rfl) hx)) ?_
    intro fr t H
    refine at_seg [(3, []), (4, [])] [(0, .str p0), (1, .int .i64 x1), (2, .int .u8 p2), (8, .str x2), (25, .bool (x6 == (92 : Int)))] H (noU_all rfl) (fun fr => by kernel_rfl) ?_
    intro fr H
    refine at_cut [(5, []), (6, []), (7, []), (8, []), (9, []), (10, [])] (fun fr' h' => h1 = h' ∧ Has fr' 64 [(0, .str p0), (1, .int .i64 x1), (2, .int .u8 p2), (8, .str x2), (31, .bool ((x6 == (92 : Int)) && (decide ((IntKind.i64.wrap (x1 + (1 : Int))) < (p0.length : Int)))))]) ?_ ?_
    ·cases hb : (x6 == (92 : Int) : Bool) with
     | true =>
      replace H := H.know 25 hb (by kernel_rfl)
      refine at_seg [(5, []), (6, []), (7, []), (8, []), (9, []), (10, [])] [(0, .str p0), (1, .int .i64 x1), (2, .int .u8 p2), (8, .str x2), (31, .bool (decide ((IntKind.i64.wrap (x1 + (1 : Int))) < (p0.length : Int))))] H (noU_all rfl) (fun fr => by kernel_rfl) ?_
      intro fr H
      exact at_nil ⟨rfl, by first | exact H.less _ (fun fr => by rfl) | exact H.less _ (fun fr => by rw [hb]; rfl)⟩
     | false =>
      replace H := H.know 25 hb (by kernel_rfl)
      refine at_seg [(5, []), (6, []), (7, []), (8, []), (9, []), (10, [])] [(0, .str p0), (1, .int .i64 x1), (2, .int .u8 p2), (8, .str x2), (31, .bool false)] H (noU_all rfl) (fun fr => by kernel_rfl) ?_
      intro fr H
      exact at_nil ⟨rfl, by first | exact H.less _ (fun fr => by rfl) | exact H.less _ (fun fr => by rw [hb]; rfl)⟩
    ·intro t fr h' hK
     obtain ⟨e, H⟩ := hK
     subst e
     refine at_nil ?_
     show AW cfg 25 g (right (left (right (left (right (left (left (left (right (right (bodyC cfg.P 25))))))))))) fr h1 _
     rcases iteB_some hm with ⟨hb, hm⟩ | ⟨hb, hm⟩
     ·replace H := H.know 31 hb (by kernel_rfl)
      refine aw_true (x := .tmp 31) (by kernel_rfl) H (fun fr => by kernel_rfl) ?_
      refine aw_seq (by kernel_rfl) ?_
      obtain ⟨o2, ho, hm⟩ := bind_some hm
      refine aw_mono (Q' := fun e fr' h' => (∃ (x7 : List UInt8), e = .normal ∧ x7 = o2 ∧ Has fr' 64 [(0, .str p0), (1, .int .i64 x1), (2, .int .u8 p2), (8, .str x7)] ∧ HH g h' [] F) ∨ False) ?_ ?_
      ·replace hm := ho
       clear ho
       refine aw_seq (by kernel_rfl) ?_
       refine aw_reg (id := 6) (n := 6) [(0, []), (1, []), (2, []), (3, []), (4, []), (5, [])] (by kernel_rfl) (by kernel_rfl) ?_
       refine at_seg [(0, []), (1, []), (2, [])] [(0, .str p0), (1, .int .i64 x1), (2, .int .u8 p2), (8, .str x2), (32, .str p0), (34, .int .i64 (IntKind.i64.wrap (x1 + (1 : Int))))] H (noU_all rfl) (fun fr => by kernel_rfl) ?_
       intro fr H
       obtain ⟨x8, hx, hm⟩ := bind_some hm
       refine at_step (v := .int .u8 x8) (h1 := h1) [(0, .str p0), (1, .int .i64 x1), (2, .int .u8 p2), (8, .str x2), (35, .int .u8 x8)] H (fun fr => by kernel_rfl) (fun fr => .of (s_ixS (by kernel_rfl) hx)) ?_
       intro fr t H
       refine at_seg [(4, []), (5, [])] [(0, .str p0), (1, .int .i64 x1), (2, .int .u8 p2), (8, .str x2), (37, .bool (x8 == p2))] H (noU_all rfl) (fun fr => by kernel_rfl) ?_
       intro fr H
       refine at_nil ?_
       show AW cfg 25 g (right (left (left (right (left (right (left (right (left (left (left (right (right (bodyC cfg.P 25)))))))))))))) fr h1 _
       rcases iteB_some hm with ⟨hb, hm⟩ | ⟨hb, hm⟩
       ·replace H := H.know 37 hb (by kernel_rfl)
        refine aw_true (x := .tmp 37) (by kernel_rfl) H (fun fr => by kernel_rfl) ?_
        refine aw_reg (id := 7) (n := 9) [(0, []), (1, []), (2, []), (3, []), (4, []), (5, []), (6, []), (7, []), (8, [])] (by kernel_rfl) (by kernel_rfl) ?_
        refine at_seg [(0, []), (1, []), (2, []), (3, []), (4, []), (5, [])] [(0, .str p0), (1, .int .i64 x1), (2, .int .u8 p2), (38, .str x2), (39, .str p0), (41, .int .i64 (IntKind.i64.wrap (x1 + (1 : Int)))), (43, .int .i64 (IntKind.i64.wrap (x1 + (2 : Int))))] H (noU_all rfl) (fun fr => by kernel_rfl) ?_
        intro fr H
        obtain ⟨x9, hx, hm⟩ := bind_some hm
        refine at_step (v := .str x9) (h1 := h1) [(0, .str p0), (1, .int .i64 x1), (2, .int .u8 p2), (38, .str x2), (44, .str x9)] H (fun fr => by kernel_rfl) (fun fr => .of (s_subS (k := .i64) (k' := .i64) (lo := (some (IntKind.i64.wrap (x1 + (1 : Int))))) (hi := (some (IntKind.i64.wrap (x1 + (2 : Int))))) (by kernel_rfl) hx)) ?_
        intro fr t H
        obtain ⟨hb, hm⟩ := need_some hm
        refine at_step (v := .str (x2 ++ x9)) (h1 := h1) [(0, .str p0), (1, .int .i64 x1), (2, .int .u8 p2), (45, .str (x2 ++ x9))] H (fun fr => by kernel_rfl) (fun fr => .of (s_cat (by kernel_rfl) hb)) ?_
        intro fr t H
        refine at_seg [(8, [])] [(0, .str p0), (1, .int .i64 x1), (2, .int .u8 p2), (8, .str (x2 ++ x9))] H (noU_all rfl) (fun fr => by kernel_rfl) ?_
        intro fr H
        refine at_nil ?_
        exact Or.inl ⟨x2 ++ x9, rfl, Option.some.inj hm, H.less _ (fun fr => by kernel_rfl), A⟩
       ·replace H := H.know 37 hb (by kernel_rfl)
        refine aw_false (x := .tmp 37) (by kernel_rfl) H (fun fr => by kernel_rfl) ?_
        refine aw_reg (id := 8) (n := 8) [(0, []), (1, []), (2, []), (3, []), (4, []), (5, []), (6, []), (7, [])] (by kernel_rfl) (by kernel_rfl) ?_
        refine at_seg [(0, []), (1, []), (2, []), (3, []), (4, [])] [(0, .str p0), (1, .int .i64 x1), (2, .int .u8 p2), (46, .str x2), (47, .str p0), (48, .int .i64 x1), (50, .int .i64 (IntKind.i64.wrap (x1 + (2 : Int))))] H (noU_all rfl) (fun fr => by kernel_rfl) ?_
        intro fr H
        obtain ⟨x10, hx, hm⟩ := bind_some hm
        refine at_step (v := .str x10) (h1 := h1) [(0, .str p0), (1, .int .i64 x1), (2, .int .u8 p2), (46, .str x2), (51, .str x10)] H (fun fr => by kernel_rfl) (fun fr => .of (s_subS (k := .i64) (k' := .i64) (lo := (some x1)) (hi := (some (IntKind.i64.wrap (x1 + (2 : Int))))) (by kernel_rfl) hx)) ?_
        intro fr t H
        obtain ⟨hb, hm⟩ := need_some hm
        refine at_step (v := .str (x2 ++ x10)) (h1 := h1) [(0, .str p0), (1, .int .i64 x1), (2, .int .u8 p2), (52, .str (x2 ++ x10))] H (fun fr => by kernel_rfl) (fun fr => .of (s_cat (by kernel_rfl) hb)) ?_
        intro fr t H
        refine at_seg [(7, [])] [(0, .str p0), (1, .int .i64 x1), (2, .int .u8 p2), (8, .str (x2 ++ x10))] H (noU_all rfl) (fun fr => by kernel_rfl) ?_
        intro fr H
        refine at_nil ?_
        exact Or.inl ⟨x2 ++ x10, rfl, Option.some.inj hm, H.less _ (fun fr => by kernel_rfl), A⟩
      ·clear ho
       clear A
       intro e fr h2 hQ
       rcases hQ with ⟨x7, rfl, rfl, H, A⟩ | hF
       ·skip
        show AW cfg 25 g (right (left (right (left (right (left (right (left (left (left (right (right (bodyC cfg.P 25))))))))))))) fr h2 _
        refine aw_seq (by kernel_rfl) ?_
        refine aw_reg (id := 9) (n := 3) [(0, []), (1, []), (2, [])] (by kernel_rfl) (by kernel_rfl) ?_
        refine at_seg [(0, []), (1, []), (2, [])] [(0, .str p0), (1, .int .i64 (IntKind.i64.wrap (x1 + (2 : Int)))), (2, .int .u8 p2), (8, .str x7)] H (noU_all rfl) (fun fr => by kernel_rfl) ?_
        intro fr H
        refine at_nil ?_
        show AW cfg 25 g (right (right (left (right (left (right (left (right (left (left (left (right (right (bodyC cfg.P 25)))))))))))))) fr h2 _
        refine aw_exit (i := 1) (by kernel_rfl) ?_
        exact Exists.intro (IntKind.i64.wrap (x1 + (2 : Int)), x7) (And.intro (Option.some.inj hm).symm ⟨IntKind.i64.wrap (x1 + (2 : Int)), x7, rfl, H.less _ (fun fr => by kernel_rfl), A⟩)
       ·exact hF.elim
     ·replace H := H.know 31 hb (by kernel_rfl)
      refine aw_false (x := .tmp 31) (by kernel_rfl) H (fun fr => by kernel_rfl) ?_
      refine aw_skip (by kernel_rfl) ?_
      show AW cfg 25 g (right (right (left (right (left (left (left (right (right (bodyC cfg.P 25)))))))))) fr h1 _
      refine aw_seq (by kernel_rfl) ?_
      refine aw_reg (id := 10) (n := 8) [(0, []), (1, []), (2, []), (3, []), (4, []), (5, []), (6, []), (7, [])] (by kernel_rfl) (by kernel_rfl) ?_
      refine at_seg [(0, []), (1, []), (2, []), (3, []), (4, [])] [(0, .str p0), (1, .int .i64 x1), (2, .int .u8 p2), (55, .str x2), (56, .str p0), (57, .int .i64 x1), (59, .int .i64 (IntKind.i64.wrap (x1 + (1 : Int))))] H (noU_all rfl) (fun fr => by kernel_rfl) ?_
      intro fr H
      obtain ⟨x11, hx, hm⟩ := bind_some hm
      refine at_step (v := .str x11) (h1 := h1) [(0, .str p0), (1, .int .i64 x1), (2, .int .u8 p2), (55, .str x2), (60, .str x11)] H (fun fr => by kernel_rfl) (fun fr => .of (s_subS (k := .i64) (k' := .i64) (lo := (some x1)) (hi := (some (IntKind.i64.wrap (x1 + (1 : Int))))) (by kernel_rfl) hx)) ?_
      intro fr t H
      obtain ⟨hb, hm⟩ := need_some hm
      refine at_step (v := .str (x2 ++ x11)) (h1 := h1) [(0, .str p0), (1, .int .i64 x1), (2, .int .u8 p2), (61, .str (x2 ++ x11))] H (fun fr => by kernel_rfl) (fun fr => .of (s_cat (by kernel_rfl) hb)) ?_
      intro fr t H
      refine at_seg [(7, [])] [(0, .str p0), (1, .int .i64 x1), (2, .int .u8 p2), (8, .str (x2 ++ x11))] H (noU_all rfl) (fun fr => by kernel_rfl) ?_
      intro fr H
      refine at_nil ?_
      show AW cfg 25 g (right (right (right (left (right (left (left (left (right (right (bodyC cfg.P 25))))))))))) fr h1 _
      refine aw_reg (id := 11) (n := 3) [(0, []), (1, []), (2, [])] (by kernel_rfl) (by kernel_rfl) ?_
      refine at_seg [(0, []), (1, []), (2, [])] [(0, .str p0), (1, .int .i64 (IntKind.i64.wrap (x1 + (1 : Int)))), (2, .int .u8 p2), (8, .str (x2 ++ x11))] H (noU_all rfl) (fun fr => by kernel_rfl) ?_
      intro fr H
      refine at_nil ?_
      exact Exists.intro (IntKind.i64.wrap (x1 + (1 : Int)), x2 ++ x11) (And.intro (Option.some.inj hm).symm ⟨IntKind.i64.wrap (x1 + (1 : Int)), x2 ++ x11, rfl, H.less _ (fun fr => by kernel_rfl), A⟩)
  ·replace H := H.know 12 hb (by kernel_rfl)
   refine aw_false (x := .tmp 12) (by kernel_rfl) H (fun fr => by kernel_rfl) ?_
   refine aw_exit (i := 0) (by kernel_rfl) ?_
   exact Exists.intro _ (And.intro (Option.some.inj hm).symm (fun e => Or.inl ⟨rfl, e, H.less _ (fun fr => by kernel_rfl), A⟩))
 ·clear ho
  clear A
  intro e fr h3 hQ
  rcases hQ with ⟨rfl, rfl, H, A⟩ | ⟨x3, x4, rfl, rfl, H, A⟩ | hF
  ·skip
   show AW cfg 25 g (right (right (right (bodyC cfg.P 25)))) fr h3 _
   refine aw_seq (by kernel_rfl) ?_
   refine aw_reg (id := 12) (n := 2) [(0, []), (1, [])] (by kernel_rfl) (by kernel_rfl) ?_
   refine at_seg [(0, []), (1, [])] [(6, .str ([] : List UInt8)), (7, .int .i64 (-1 : Int))] H (noU_all rfl) (fun fr => by kernel_rfl) ?_
   intro fr H
   refine at_nil ?_
   show AW cfg 25 g (right (right (right (right (bodyC cfg.P 25))))) fr h3 _
   refine aw_ret (by kernel_rfl) ?_
   have e0 := Option.some.inj hm
   obtain ⟨y0, z0⟩ := Prod.mk.inj e0
   subst y0
   subst z0
   refine ⟨.inl rfl, .tuple [.str ([] : List UInt8), .int .i64 (-1 : Int)], resH H (fun fr => by kernel_rfl), ?_⟩
   exact ⟨rfl, A⟩
  ·skip
   have e0 := Option.some.inj hm
   obtain ⟨y0, z0⟩ := Prod.mk.inj e0
   subst y0
   subst z0
   refine ⟨.inl rfl, .tuple [.str x3, .int .i64 x4], resH H (fun fr => by kernel_rfl), ?_⟩
   exact ⟨rfl, A⟩
  ·exact hF.elim
/-! ### boulter/boulterref13.In -/
noncomputable def M_boulterref13_In_L0 (p0 : Int) (p1 : List UInt8) (s : Int) : Option ((Int) ⊕ ((Unit) ⊕ (Bool))) :=
 match s with
 | x1 => iteB (decide (x1 < (p1.length : Int))) ((ixS p1 x1).bind fun x3 => iteB (x3 == p0) (some (.inr (.inr true))) (some (.inl (IntKind.i64.wrap (x1 + (1 : Int)))))) (some (.inr (.inl ())))
noncomputable def M_boulterref13_In (p0 : Int) (p1 : List UInt8) : Option (Bool) :=
 (loop (M_boulterref13_In_L0 p0 p1) (0 : Int)).bind fun o1 => (match o1 with | .inl _ => some false | .inr x2 => some x2)
theorem ok_boulterref13_In {g : Gd} {h : AHeap} {F : List Ck} {p0 : Int} {p1 : List UInt8} {q0 : Bool} {av : List AVal} (hm : M_boulterref13_In p0 p1 = some q0) (hc : canL (cfg.still 18) av = [.int .u8 p0, .str p1]) (A : HH g h [] F) : ∃ v h', Runs cfg g h 18 av v h' ∧ v = .bool q0 ∧ HH g h' [] F := by
 refine runsQ1 (n := 17) (rs := [.tmp 4]) (by kernel_rfl) hc (by kernel_rfl) ?_
 clear hc
 unfold M_boulterref13_In at hm
 refine start (n := 17) [(0, .int .u8 p0), (1, .str p1)] (by kernel_rfl) (by kernel_rfl) ?_
 intro fr H
 refine aw_seq (by kernel_rfl) ?_
 refine aw_reg (id := 0) (n := 1) [(0, [])] (by kernel_rfl) (by kernel_rfl) ?_
 refine at_seg [(0, [])] [(0, .int .u8 p0), (1, .str p1)] H (noU_all rfl) (fun fr => by kernel_rfl) ?_
 intro fr H
 refine at_nil ?_
 show AW cfg 18 g (right (bodyC cfg.P 18)) fr h _
 refine aw_seq (by kernel_rfl) ?_
 refine aw_seq (by kernel_rfl) ?_
 refine aw_reg (id := 1) (n := 1) [(0, [])] (by kernel_rfl) (by kernel_rfl) ?_
 refine at_seg [(0, [])] [(0, .int .u8 p0), (1, .str p1), (5, .int .i64 (0 : Int))] H (noU_all rfl) (fun fr => by kernel_rfl) ?_
 intro fr H
 refine at_nil ?_
 show AW cfg 18 g (right (left (right (bodyC cfg.P 18)))) fr h _
 refine aw_block (id := 0) (by kernel_rfl) ?_
 obtain ⟨o1, ho, hm⟩ := bind_some hm
 refine aw_mono (Q' := fun e fr' h' => (e = .exit 0 ∧ .inl () = o1 ∧ Has fr' 17 [] ∧ HH g h' [] F) ∨ (∃ (x2 : Bool), e = .ret ∧ .inr x2 = o1 ∧ Has fr' 17 [(4, .bool x2)] ∧ HH g h' [] F) ∨ False) ?_ ?_
 ·refine aw_loop (by kernel_rfl) (fun (s : Int) fr' h' => ∃ (x1 : Int), x1 = s ∧ Has fr' 17 [(0, .int .u8 p0), (1, .str p1), (5, .int .i64 x1)] ∧ HH g h' [] F) ho ⟨(0 : Int), rfl, H.less _ (fun fr => by kernel_rfl), A⟩ ?_
  clear ho hm H A
  intro s q fr h1 hI hm
  obtain ⟨x1, rfl, H, A⟩ := hI
  unfold M_boulterref13_In_L0 at hm
  refine aw_seq (by kernel_rfl) ?_
  refine aw_seq (by kernel_rfl) ?_
  refine aw_reg (id := 2) (n := 4) [(0, []), (1, []), (2, []), (3, [])] (by kernel_rfl) (by kernel_rfl) ?_
  refine at_seg [(0, []), (1, []), (2, []), (3, [])] [(0, .int .u8 p0), (1, .str p1), (5, .int .i64 x1), (9, .bool (decide (x1 < (p1.length : Int))))] H (noU_all rfl) (fun fr => by kernel_rfl) ?_
  intro fr H
  refine at_nil ?_
  show AW cfg 18 g (right (left (left (left (right (left (right (bodyC cfg.P 18)))))))) fr h1 _
  rcases iteB_some hm with ⟨hb, hm⟩ | ⟨hb, hm⟩
  ·replace H := H.know 9 hb (by kernel_rfl)
   refine aw_true (x := .tmp 9) (by kernel_rfl) H (fun fr => by kernel_rfl) ?_
   refine aw_skip (by kernel_rfl) ?_
   show AW cfg 18 g (right (left (left (right (left (right (bodyC cfg.P 18))))))) fr h1 _
   refine aw_seq (by kernel_rfl) ?_
   refine aw_block (id := 1) (by kernel_rfl) ?_
   refine aw_seq (by kernel_rfl) ?_
   refine aw_reg (id := 4) (n := 5) [(0, []), (1, []), (2, []), (3, []), (4, [])] (by kernel_rfl) (by kernel_rfl) ?_
   refine at_seg [(0, []), (1, [])] [(0, .int .u8 p0), (1, .str p1), (5, .int .i64 x1), (12, .str p1), (13, .int .i64 x1)] H (noU_all rfl) (fun fr => by kernel_rfl) ?_
   intro fr H
   obtain ⟨x3, hx, hm⟩ := bind_some hm
   refine at_step (v := .int .u8 x3) (h1 := h1) [(0, .int .u8 p0), (1, .str p1), (5, .int .i64 x1), (14, .int .u8 x3)] H (fun fr => by kernel_rfl) (fun fr => .of (s_ixS (by kernel_rfl) hx)) ?_
   intro fr t H
   refine at_seg [(3, []), (4, [])] [(0, .int .u8 p0), (1, .str p1), (5, .int .i64 x1), (16, .bool (x3 == p0))] H (noU_all rfl) (fun fr => by kernel_rfl) ?_
   intro fr H
   refine at_nil ?_
   show AW cfg 18 g (right (left (left (right (left (left (right (left (right (bodyC cfg.P 18)))))))))) fr h1 _
   rcases iteB_some hm with ⟨hb, hm⟩ | ⟨hb, hm⟩
   ·replace H := H.know 16 hb (by kernel_rfl)
    refine aw_true (x := .tmp 16) (by kernel_rfl) H (fun fr => by kernel_rfl) ?_
    refine aw_seq (by kernel_rfl) ?_
    refine aw_reg (id := 5) (n := 1) [(0, [])] (by kernel_rfl) (by kernel_rfl) ?_
    refine at_seg [(0, [])] [(4, .bool true)] H (noU_all rfl) (fun fr => by kernel_rfl) ?_
    intro fr H
    refine at_nil ?_
    show AW cfg 18 g (right (left (right (left (left (right (left (left (right (left (right (bodyC cfg.P 18)))))))))))) fr h1 _
    refine aw_ret (by kernel_rfl) ?_
    exact Exists.intro _ (And.intro (Option.some.inj hm).symm (fun e => Or.inr (Or.inl ⟨true, rfl, e, H.less _ (fun fr => by kernel_rfl), A⟩)))
   ·replace H := H.know 16 hb (by kernel_rfl)
    refine aw_false (x := .tmp 16) (by kernel_rfl) H (fun fr => by kernel_rfl) ?_
    refine aw_skip (by kernel_rfl) ?_
    show AW cfg 18 g (right (right (left (left (right (left (right (bodyC cfg.P 18)))))))) fr h1 _
    refine aw_reg (id := 3) (n := 3) [(0, []), (1, []), (2, [])] (by kernel_rfl) (by kernel_rfl) ?_
    refine at_seg [(0, []), (1, []), (2, [])] [(0, .int .u8 p0), (1, .str p1), (5, .int .i64 (IntKind.i64.wrap (x1 + (1 : Int))))] H (noU_all rfl) (fun fr => by kernel_rfl) ?_
    intro fr H
    refine at_nil ?_
    exact Exists.intro (IntKind.i64.wrap (x1 + (1 : Int))) (And.intro (Option.some.inj hm).symm ⟨IntKind.i64.wrap (x1 + (1 : Int)), rfl, H.less _ (fun fr => by kernel_rfl), A⟩)
  ·replace H := H.know 9 hb (by kernel_rfl)
   refine aw_false (x := .tmp 9) (by kernel_rfl) H (fun fr => by kernel_rfl) ?_
   refine aw_exit (i := 0) (by kernel_rfl) ?_
   exact Exists.intro _ (And.intro (Option.some.inj hm).symm (fun e => Or.inl ⟨rfl, e, H.less _ (fun fr => by kernel_rfl), A⟩))
 ·clear ho
  clear A
  intro e fr h2 hQ
  rcases hQ with ⟨rfl, rfl, H, A⟩ | ⟨x2, rfl, rfl, H, A⟩ | hF
  ·skip
   show AW cfg 18 g (right (right (bodyC cfg.P 18))) fr h2 _
   refine aw_seq (by kernel_rfl) ?_
   refine aw_reg (id := 6) (n := 1) [(0, [])] (by kernel_rfl) (by kernel_rfl) ?_
   refine at_seg [(0, [])] [(4, .bool false)] H (noU_all rfl) (fun fr => by kernel_rfl) ?_
   intro fr H
   refine at_nil ?_
   show AW cfg 18 g (right (right (right (bodyC cfg.P 18)))) fr h2 _
   refine aw_ret (by kernel_rfl) ?_
   have e1 := Option.some.inj hm
   subst e1
   refine ⟨.inl rfl, .bool false, resH H (fun fr => by kernel_rfl), ?_⟩
   exact ⟨rfl, A⟩
  ·skip
   have e1 := Option.some.inj hm
   subst e1
   refine ⟨.inl rfl, .bool x2, resH H (fun fr => by kernel_rfl), ?_⟩
   exact ⟨rfl, A⟩
  ·exact hF.elim
/-! ### boulter/rewrite.begins -/
noncomputable def M_rewrite_begins (p0 : List UInt8) (p1 : Int) : Option (Bool) :=
 (iteB (decide ((IntKind.i64.wrap (p1 + (1 : Int))) < (p0.length : Int))) ((ixS p0 p1).bind fun x2 => some (x2 == (115 : Int))) (some false) : Option (Bool)).bind fun x1 => (iteB x1 ((ixS p0 (IntKind.i64.wrap (p1 + (1 : Int)))).bind fun x4 => some (x4 != (92 : Int))) (some false) : Option (Bool)).bind fun x3 => (iteB x3 ((ixS p0 (IntKind.i64.wrap (p1 + (1 : Int)))).bind fun x6 => some (x6 != (10 : Int))) (some false) : Option (Bool)).bind fun x5 => some x5
theorem ok_rewrite_begins {g : Gd} {h : AHeap} {F : List Ck} {p0 : List UInt8} {p1 : Int} {q0 : Bool} {av : List AVal} (hm : M_rewrite_begins p0 p1 = some q0) (hc : canL (cfg.still 22) av = [.str p0, .int .i64 p1]) (A : HH g h [] F) : ∃ v h', Runs cfg g h 22 av v h' ∧ v = .bool q0 ∧ HH g h' [] F := by
 refine runsQ1 (n := 30) (rs := [.tmp 4]) (by kernel_rfl) hc (by kernel_rfl) ?_
 clear hc
 unfold M_rewrite_begins at hm
 refine start (n := 30) [(0, .str p0), (1, .int .i64 p1)] (by kernel_rfl) (by kernel_rfl) ?_
 intro fr H
 refine aw_seq (by kernel_rfl) ?_
 refine aw_reg (id := 0) (n := 1) [(0, [])] (by kernel_rfl) (by kernel_rfl) ?_
 refine at_seg [(0, [])] [(0, .str p0), (1, .int .i64 p1)] H (noU_all rfl) (fun fr => by kernel_rfl) ?_
 intro fr H
 refine at_nil ?_
 show AW cfg 22 g (right (bodyC cfg.P 22)) fr h _
 refine aw_seq (by kernel_rfl) ?_
 refine aw_reg (id := 1) (n := 26) [(0, []), (1, []), (2, []), (3, []), (4, []), (5, []), (6, []), (7, []), (8, []), (9, []), (10, []), (11, []), (12, []), (13, []), (14, []), (15, []), (16, []), (17, []), (18, []), (19, []), (20, []), (21, []), (22, []), (23, []), (24, []), (25, [])] (by kernel_rfl) (by kernel_rfl) ?_
 refine at_seg [(0, []), (1, []), (2, []), (3, []), (4, []), (5, [])] [(0, .str p0), (1, .int .i64 p1), (10, .bool (decide ((IntKind.i64.wrap (p1 + (1 : Int))) < (p0.length : Int))))] H (noU_all rfl) (fun fr => by kernel_rfl) ?_
 intro fr H
 obtain ⟨x1, ho, hm⟩ := bind_some hm
 refine at_cut [(6, []), (7, []), (8, []), (9, []), (10, [])] (fun fr' h' => Has fr' 30 [(0, .str p0), (1, .int .i64 p1), (15, .bool x1)] ∧ HH g h' [] F) ?_ ?_
 ·rcases iteB_some ho with ⟨hb, hm⟩ | ⟨hb, hm⟩
  ·replace H := H.know 10 hb (by kernel_rfl)
   refine at_seg [(6, []), (7, [])] [(0, .str p0), (1, .int .i64 p1), (10, .bool true), (11, .str p0), (12, .int .i64 p1)] H (noU_all rfl) (fun fr => by kernel_rfl) ?_
   intro fr H
   obtain ⟨x2, hx, hm⟩ := bind_some hm
   refine at_step (v := .int .u8 x2) (h1 := h) [(0, .str p0), (1, .int .i64 p1), (10, .bool true), (13, .int .u8 x2)] H (fun fr => by kernel_rfl) (fun fr => .of (s_ixS (by kernel_rfl) hx)) ?_
   intro fr t H
   refine at_seg [(9, []), (10, [])] [(0, .str p0), (1, .int .i64 p1), (15, .bool (x2 == (115 : Int)))] H (noU_all rfl) (fun fr => by kernel_rfl) ?_
   intro fr H
   have e1 := Option.some.inj hm
   subst e1
   exact at_nil ⟨H.less _ (fun fr => by kernel_rfl), A⟩
  ·replace H := H.know 10 hb (by kernel_rfl)
   refine at_seg [(6, []), (7, []), (8, []), (9, []), (10, [])] [(0, .str p0), (1, .int .i64 p1), (15, .bool false)] H (noU_all rfl) (fun fr => by kernel_rfl) ?_
   intro fr H
   have e1 := Option.some.inj hm
   subst e1
   exact at_nil ⟨H.less _ (fun fr => by kernel_rfl), A⟩
 ·clear A
  intro t fr h1 hK
  obtain ⟨H, A⟩ := hK
  refine at_seg [(11, [])] [(0, .str p0), (1, .int .i64 p1), (16, .bool x1)] H (noU_all rfl) (fun fr => by kernel_rfl) ?_
  intro fr H
  obtain ⟨x3, ho, hm⟩ := bind_some hm
  refine at_cut [(12, []), (13, []), (14, []), (15, []), (16, []), (17, [])] (fun fr' h' => Has fr' 30 [(0, .str p0), (1, .int .i64 p1), (22, .bool x3)] ∧ HH g h' [] F) ?_ ?_
  ·rcases iteB_some ho with ⟨hb, hm⟩ | ⟨hb, hm⟩
   ·replace H := H.know 16 hb (by kernel_rfl)
    refine at_seg [(12, []), (13, []), (14, [])] [(0, .str p0), (1, .int .i64 p1), (16, .bool true), (17, .str p0), (19, .int .i64 (IntKind.i64.wrap (p1 + (1 : Int))))] H (noU_all rfl) (fun fr => by kernel_rfl) ?_
    intro fr H
    obtain ⟨x4, hx, hm⟩ := bind_some hm
    refine at_step (v := .int .u8 x4) (h1 := h1) [(0, .str p0), (1, .int .i64 p1), (16, .bool true), (20, .int .u8 x4)] H (fun fr => by kernel_rfl) (fun fr => .of (s_ixS (by kernel_rfl) hx)) ?_
    intro fr t H
    refine at_seg [(16, []), (17, [])] [(0, .str p0), (1, .int .i64 p1), (22, .bool (x4 != (92 : Int)))] H (noU_all rfl) (fun fr => by kernel_rfl) ?_
    intro fr H
    have e1 := Option.some.inj hm
    subst e1
    exact at_nil ⟨H.less _ (fun fr => by kernel_rfl), A⟩
   ·replace H := H.know 16 hb (by kernel_rfl)
    refine at_seg [(12, []), (13, []), (14, []), (15, []), (16, []), (17, [])] [(0, .str p0), (1, .int .i64 p1), (22, .bool false)] H (noU_all rfl) (fun fr => by kernel_rfl) ?_
    intro fr H
    have e1 := Option.some.inj hm
    subst e1
    exact at_nil ⟨H.less _ (fun fr => by kernel_rfl), A⟩
  ·clear A
   intro t fr h2 hK
   obtain ⟨H, A⟩ := hK
   refine at_seg [(18, [])] [(0, .str p0), (1, .int .i64 p1), (23, .bool x3)] H (noU_all rfl) (fun fr => by kernel_rfl) ?_
   intro fr H
   obtain ⟨x5, ho, hm⟩ := bind_some hm
   refine at_cut [(19, []), (20, []), (21, []), (22, []), (23, []), (24, [])] (fun fr' h' => Has fr' 30 [(29, .bool x5)] ∧ HH g h' [] F) ?_ ?_
   ·rcases iteB_some ho with ⟨hb, hm⟩ | ⟨hb, hm⟩
    ·replace H := H.know 23 hb (by kernel_rfl)
     refine at_seg [(19, []), (20, []), (21, [])] [(23, .bool true), (24, .str p0), (26, .int .i64 (IntKind.i64.wrap (p1 + (1 : Int))))] H (noU_all rfl) (fun fr => by kernel_rfl) ?_
     intro fr H
     obtain ⟨x6, hx, hm⟩ := bind_some hm
     refine at_step (v := .int .u8 x6) (h1 := h2) [(23, .bool true), (27, .int .u8 x6)] H (fun fr => by kernel_rfl) (fun fr => .of (s_ixS (by kernel_rfl) hx)) ?_
     intro fr t H
     refine at_seg [(23, []), (24, [])] [(29, .bool (x6 != (10 : Int)))] H (noU_all rfl) (fun fr => by kernel_rfl) ?_
     intro fr H
     have e1 := Option.some.inj hm
     subst e1
     exact at_nil ⟨H.less _ (fun fr => by kernel_rfl), A⟩
    ·replace H := H.know 23 hb (by kernel_rfl)
     refine at_seg [(19, []), (20, []), (21, []), (22, []), (23, []), (24, [])] [(29, .bool false)] H (noU_all rfl) (fun fr => by kernel_rfl) ?_
     intro fr H
     have e1 := Option.some.inj hm
     subst e1
     exact at_nil ⟨H.less _ (fun fr => by kernel_rfl), A⟩
   ·clear A
    intro t fr h3 hK
    obtain ⟨H, A⟩ := hK
    refine at_seg [(25, [])] [(4, .bool x5)] H (noU_all rfl) (fun fr => by kernel_rfl) ?_
    intro fr H
    refine at_nil ?_
    show AW cfg 22 g (right (right (bodyC cfg.P 22))) fr h3 _
    refine aw_ret (by kernel_rfl) ?_
    have e1 := Option.some.inj hm
    subst e1
    refine ⟨.inl rfl, .bool x5, resH H (fun fr => by kernel_rfl), ?_⟩
    exact ⟨rfl, A⟩
/-! ### boulter/rewrite.part -/
noncomputable def M_rewrite_part_L0 (p0 : List UInt8) (p2 : Int) (s : (List UInt8) × Int) : Option (((List UInt8) × Int) ⊕ ((Unit) ⊕ ((List UInt8) × Int × Bool))) :=
 match s with
 | (x1, x2) => iteB (decide (x2 < (p0.length : Int))) (((ixS p0 x2).bind fun x11 => iteB (x11 == p2) (some (.inr (x1, IntKind.i64.wrap (x2 + (1 : Int)), true))) ((ixS p0 x2).bind fun x12 => iteB ((x12 == (92 : Int)) && (decide ((IntKind.i64.wrap (x2 + (1 : Int))) < (p0.length : Int)))) (((ixS p0 (IntKind.i64.wrap (x2 + (1 : Int)))).bind fun x14 => iteB (x14 != p2) (need (okN 1 (x1.length + ([(92 : UInt8)] : List UInt8).length)) <| some (x1 ++ ([(92 : UInt8)] : List UInt8))) (some x1) : Option (((List UInt8)))).bind fun x13 => some (.inl (x13, IntKind.i64.wrap (x2 + (1 : Int))))) (some (.inl (x1, x2)))) : Option (((List UInt8) × Int) ⊕ ((List UInt8) × Int × Bool))).bind fun o2 => (match o2 with | .inl (x6, x7) => (ixS p0 x7).bind fun x15 => (toY x15).bind fun x16 => need (okN 1 (x6.length + ([x16] : List UInt8).length)) <| some (.inl ((x6 ++ ([x16] : List UInt8)), IntKind.i64.wrap (x7 + (1 : Int)))) | .inr (x8, x9, x10) => some (.inr (.inr (x8, x9, x10))))) (some (.inr (.inl ())))
noncomputable def M_rewrite_part (p0 : List UInt8) (p1 : Int) (p2 : Int) : Option ((List UInt8) × Int × Bool) :=
 (loop (M_rewrite_part_L0 p0 p2) (([] : List UInt8), p1)).bind fun o1 => (match o1 with | .inl _ => some (([] : List UInt8), (p0.length : Int), false) | .inr (x3, x4, x5) => some (x3, x4, x5))
theorem ok_rewrite_part {g : Gd} {h : AHeap} {F : List Ck} {p0 : List UInt8} {p1 : Int} {p2 : Int} {q0 : List UInt8} {q1 : Int} {q2 : Bool} {av : List AVal} (hm : M_rewrite_part p0 p1 p2 = some (q0, q1, q2)) (hc : canL (cfg.still 23) av = [.str p0, .int .i64 p1, .int .u8 p2]) (A : HH g h [] F) : ∃ v h', Runs cfg g h 23 av v h' ∧ v = .tuple [.str q0, .int .i64 q1, .bool q2] ∧ HH g h' [] F := by
 refine runsQ1 (n := 57) (rs := [.tmp 6, .tmp 7, .tmp 8]) (by kernel_rfl) hc (by kernel_rfl) ?_
 clear hc
 unfold M_rewrite_part at hm
 refine start (n := 57) [(0, .str p0), (1, .int .i64 p1), (2, .int .u8 p2)] (by kernel_rfl) (by kernel_rfl) ?_
 intro fr H
 refine aw_seq (by kernel_rfl) ?_
 refine aw_reg (id := 0) (n := 3) [(0, []), (1, []), (2, [])] (by kernel_rfl) (by kernel_rfl) ?_
 refine at_seg [(0, []), (1, []), (2, [])] [(0, .str p0), (1, .int .i64 p1), (2, .int .u8 p2)] H (noU_all rfl) (fun fr => by kernel_rfl) ?_
 intro fr H
 refine at_nil ?_
 show AW cfg 23 g (right (bodyC cfg.P 23)) fr h _
 refine aw_seq (by kernel_rfl) ?_
 refine aw_reg (id := 1) (n := 1) [(0, [])] (by kernel_rfl) (by kernel_rfl) ?_
 refine at_seg [(0, [])] [(0, .str p0), (1, .int .i64 p1), (2, .int .u8 p2), (9, .slice none 0)] H (noU_all rfl) (fun fr => by kernel_rfl) ?_
 intro fr H
 refine at_nil ?_
 show AW cfg 23 g (right (right (bodyC cfg.P 23))) fr h _
 refine aw_seq (by kernel_rfl) ?_
 refine aw_block (id := 0) (by kernel_rfl) ?_
 replace A : HH g h [.lst none 5 (lst eY ([] : List UInt8))] F := A.nilL 5
 obtain ⟨o1, ho, hm⟩ := bind_some hm
 refine aw_mono (Q' := fun e fr' h' => (e = .exit 0 ∧ .inl () = o1 ∧ Has fr' 57 [(0, .str p0)] ∧ HH g h' [] F) ∨ (∃ (x3 : List UInt8) (x4 : Int) (x5 : Bool), e = .ret ∧ .inr (x3, x4, x5) = o1 ∧ Has fr' 57 [(6, .str x3), (7, .int .i64 x4), (8, .bool x5)] ∧ HH g h' [] F) ∨ False) ?_ ?_
 ·refine aw_loop (by kernel_rfl) (fun (s : (List UInt8) × Int) fr' h' => ∃ (x1 : List UInt8) (x2 : Int), (x1, x2) = s ∧ ∃ (r1 : Option Nat), Has fr' 57 [(0, .str p0), (1, .int .i64 x2), (2, .int .u8 p2), (9, rowV r1 x1.length)] ∧ HH g h' [.lst r1 5 (lst eY x1)] F) ho ⟨([] : List UInt8), p1, rfl, none, H.less _ (fun fr => by kernel_rfl), A⟩ ?_
  clear ho hm H A
  intro s q fr h1 hI hm
  obtain ⟨x1, x2, rfl, r1, H, A⟩ := hI
  unfold M_rewrite_part_L0 at hm
  refine aw_seq (by kernel_rfl) ?_
  refine aw_seq (by kernel_rfl) ?_
  refine aw_reg (id := 2) (n := 4) [(0, []), (1, []), (2, []), (3, [])] (by kernel_rfl) (by kernel_rfl) ?_
  refine at_seg [(0, []), (1, []), (2, []), (3, [])] [(0, .str p0), (1, .int .i64 x2), (2, .int .u8 p2), (9, rowV r1 x1.length), (13, .bool (decide (x2 < (p0.length : Int))))] H (noU_all rfl) (fun fr => by kernel_rfl) ?_
  intro fr H
  refine at_nil ?_
  show AW cfg 23 g (right (left (left (left (left (right (right (bodyC cfg.P 23)))))))) fr h1 _
  rcases iteB_some hm with ⟨hb, hm⟩ | ⟨hb, hm⟩
  ·replace H := H.know 13 hb (by kernel_rfl)
   refine aw_true (x := .tmp 13) (by kernel_rfl) H (fun fr => by kernel_rfl) ?_
   refine aw_skip (by kernel_rfl) ?_
   show AW cfg 23 g (right (left (left (left (right (right (bodyC cfg.P 23))))))) fr h1 _
   refine aw_seq (by kernel_rfl) ?_
   refine aw_block (id := 1) (by kernel_rfl) ?_
   refine aw_seq (by kernel_rfl) ?_
   obtain ⟨o2, ho, hm⟩ := bind_some hm
   refine aw_mono (Q' := fun e fr' h' => (∃ (x6 : List UInt8) (x7 : Int), e = .normal ∧ .inl (x6, x7) = o2 ∧ ∃ (r2 : Option Nat), Has fr' 57 [(0, .str p0), (1, .int .i64 x7), (2, .int .u8 p2), (9, rowV r2 x6.length)] ∧ HH g h' [.lst r2 5 (lst eY x6)] F) ∨ (∃ (x8 : List UInt8) (x9 : Int) (x10 : Bool), e = .ret ∧ .inr (x8, x9, x10) = o2 ∧ Has fr' 57 [(6, .str x8), (7, .int .i64 x9), (8, .bool x10)] ∧ HH g h' [] F) ∨ False) ?_ ?_
   ·replace hm := ho
    clear ho
    refine aw_block (id := 2) (by kernel_rfl) ?_
    refine aw_seq (by kernel_rfl) ?_
    refine aw_reg (id := 4) (n := 6) [(0, []), (1, []), (2, []), (3, []), (4, []), (5, [])] (by kernel_rfl) (by kernel_rfl) ?_
    refine at_seg [(0, []), (1, [])] [(0, .str p0), (1, .int .i64 x2), (2, .int .u8 p2), (9, rowV r1 x1.length), (17, .str p0), (18, .int .i64 x2)] H (noU_all rfl) (fun fr => by kernel_rfl) ?_
    intro fr H
    obtain ⟨x11, hx, hm⟩ := bind_some hm
    refine at_step (v := .int .u8 x11) (h1 := h1) [(0, .str p0), (1, .int .i64 x2), (2, .int .u8 p2), (9, rowV r1 x1.length), (19, .int .u8 x11)] H (fun fr => by kernel_rfl) (fun fr => .of (s_ixS (by kernel_rfl) hx)) ?_
    intro fr t H
    refine at_seg [(3, []), (4, []), (5, [])] [(0, .str p0), (1, .int .i64 x2), (2, .int .u8 p2), (9, rowV r1 x1.length), (16, .bool (x11 == p2))] H (noU_all rfl) (fun fr => by kernel_rfl) ?_
    intro fr H
    refine at_nil ?_
    show AW cfg 23 g (right (left (left (left (left (right (left (left (left (right (right (bodyC cfg.P 23)))))))))))) fr h1 _
    rcases iteB_some hm with ⟨hb, hm⟩ | ⟨hb, hm⟩
    ·replace H := H.know 16 hb (by kernel_rfl)
     refine aw_true (x := .tmp 16) (by kernel_rfl) H (fun fr => by kernel_rfl) ?_
     refine aw_seq (by kernel_rfl) ?_
     refine aw_reg (id := 5) (n := 7) [(0, []), (1, []), (2, []), (3, []), (4, []), (5, []), (6, [])] (by kernel_rfl) (by kernel_rfl) ?_
     refine at_seg [(0, [])] [(1, .int .i64 x2), (22, rowV r1 x1.length)] H (noU_all rfl) (fun fr => by kernel_rfl) ?_
     intro fr H
     refine at_step (v := .str x1) (h1 := h1) [(1, .int .i64 x2), (23, .str x1)] H (fun fr => by kernel_rfl) (fun fr => .of (s_byO (xs := x1) A 0 rfl (by kernel_rfl))) ?_
     intro fr t H
     refine at_seg [(2, []), (3, []), (4, []), (5, []), (6, [])] [(6, .str x1), (7, .int .i64 (IntKind.i64.wrap (x2 + (1 : Int)))), (8, .bool true)] H (noU_all rfl) (fun fr => by kernel_rfl) ?_
     intro fr H
     refine at_nil ?_
     show AW cfg 23 g (right (left (right (left (left (left (left (right (left (left (left (right (right (bodyC cfg.P 23)))))))))))))) fr h1 _
     refine aw_ret (by kernel_rfl) ?_
     replace A : HH g h1 [] F := (HH.dropF A 0)
     exact Or.inr (Or.inl ⟨x1, IntKind.i64.wrap (x2 + (1 : Int)), true, rfl, Option.some.inj hm, H.less _ (fun fr => by kernel_rfl), A⟩)
    ·replace H := H.know 16 hb (by kernel_rfl)
     refine aw_false (x := .tmp 16) (by kernel_rfl) H (fun fr => by kernel_rfl) ?_
     refine aw_seq (by kernel_rfl) ?_
     refine aw_reg (id := 6) (n := 12) [(0, []), (1, []), (2, []), (3, []), (4, []), (5, []), (6, []), (7, []), (8, []), (9, []), (10, []), (11, [])] (by kernel_rfl) (by kernel_rfl) ?_
     refine at_seg [(0, []), (1, [])] [(0, .str p0), (1, .int .i64 x2), (2, .int .u8 p2), (9, rowV r1 x1.length), (27, .str p0), (28, .int .i64 x2)] H (noU_all rfl) (fun fr => by kernel_rfl) ?_
     intro fr H
     obtain ⟨x12, hx, hm⟩ := bind_some hm
     refine at_step (v := .int .u8 x12) (h1 := h1) [(0, .str p0), (1, .int .i64 x2), (2, .int .u8 p2), (9, rowV r1 x1.length), (29, .int .u8 x12)] H (fun fr => by kernel_rfl) (fun fr => .of (s_ixS (by kernel_rfl) hx)) ?_
     intro fr t H
     refine at_seg [(3, []), (4, [])] [(0, .str p0), (1, .int .i64 x2), (2, .int .u8 p2), (9, rowV r1 x1.length), (31, .bool (x12 == (92 : Int)))] H (noU_all rfl) (fun fr => by kernel_rfl) ?_
     intro fr H
     refine at_cut [(5, []), (6, []), (7, []), (8, []), (9, []), (10, [])] (fun fr' h' => h1 = h' ∧ Has fr' 57 [(0, .str p0), (1, .int .i64 x2), (2, .int .u8 p2), (9, rowV r1 x1.length), (37, .bool ((x12 == (92 : Int)) && (decide ((IntKind.i64.wrap (x2 + (1 : Int))) < (p0.length : Int)))))]) ?_ ?_
     ·cases hb : (x12 == (92 : Int) : Bool) with
      | true =>
       replace H := H.know 31 hb (by kernel_rfl)
       refine at_seg [(5, []), (6, []), (7, []), (8, []), (9, []), (10, [])] [(0, .str p0), (1, .int .i64 x2), (2, .int .u8 p2), (9, rowV r1 x1.length), (37, .bool (decide ((IntKind.i64.wrap (x2 + (1 : Int))) < (p0.length : Int))))] H (noU_all rfl) (fun fr => by kernel_rfl) ?_
       intro fr H
       exact at_nil ⟨rfl, by first | exact H.less _ (fun fr => by rfl) | exact H.less _ (fun fr => by rw [hb]; rfl)⟩
      | false =>
       replace H := H.know 31 hb (by kernel_rfl)
       refine at_seg [(5, []), (6, []), (7, []), (8, []), (9, []), (10, [])] [(0, .str p0), (1, .int .i64 x2), (2, .int .u8 p2), (9, rowV r1 x1.length), (37, .bool false)] H (noU_all rfl) (fun fr => by kernel_rfl) ?_
       intro fr H
       exact at_nil ⟨rfl, by first | exact H.less _ (fun fr => by rfl) | exact H.less _ (fun fr => by rw [hb]; rfl)⟩
     ·intro t fr h' hK
      obtain ⟨e, H⟩ := hK
      subst e
      refine at_seg [(11, [])] [(0, .str p0), (1, .int .i64 x2), (2, .int .u8 p2), (9, rowV r1 x1.length), (26, .bool ((x12 == (92 : Int)) && (decide ((IntKind.i64.wrap (x2 + (1 : Int))) < (p0.length : Int)))))] H (noU_all rfl) (fun fr => by kernel_rfl) ?_
      intro fr H
      refine at_nil ?_
      show AW cfg 23 g (right (right (right (left (left (left (left (right (left (left (left (right (right (bodyC cfg.P 23)))))))))))))) fr h1 _
      rcases iteB_some hm with ⟨hb, hm⟩ | ⟨hb, hm⟩
      ·replace H := H.know 26 hb (by kernel_rfl)
       refine aw_true (x := .tmp 26) (by kernel_rfl) H (fun fr => by kernel_rfl) ?_
       refine aw_seq (by kernel_rfl) ?_
       obtain ⟨o3, ho, hm⟩ := bind_some hm
       refine aw_mono (Q' := fun e fr' h' => (∃ (x13 : List UInt8), e = .normal ∧ x13 = o3 ∧ ∃ (r3 : Option Nat), Has fr' 57 [(0, .str p0), (1, .int .i64 x2), (2, .int .u8 p2), (9, rowV r3 x13.length)] ∧ HH g h' [.lst r3 5 (lst eY x13)] F) ∨ False) ?_ ?_
       ·replace hm := ho
        clear ho
        refine aw_seq (by kernel_rfl) ?_
        refine aw_reg (id := 7) (n := 6) [(0, []), (1, []), (2, []), (3, []), (4, []), (5, [])] (by kernel_rfl) (by kernel_rfl) ?_
        refine at_seg [(0, []), (1, []), (2, [])] [(0, .str p0), (1, .int .i64 x2), (2, .int .u8 p2), (9, rowV r1 x1.length), (38, .str p0), (40, .int .i64 (IntKind.i64.wrap (x2 + (1 : Int))))] H (noU_all rfl) (fun fr => by kernel_rfl) ?_
        intro fr H
        obtain ⟨x14, hx, hm⟩ := bind_some hm
        refine at_step (v := .int .u8 x14) (h1 := h1) [(0, .str p0), (1, .int .i64 x2), (2, .int .u8 p2), (9, rowV r1 x1.length), (41, .int .u8 x14)] H (fun fr => by kernel_rfl) (fun fr => .of (s_ixS (by kernel_rfl) hx)) ?_
        intro fr t H
        refine at_seg [(4, []), (5, [])] [(0, .str p0), (1, .int .i64 x2), (2, .int .u8 p2), (9, rowV r1 x1.length), (43, .bool (x14 != p2))] H (noU_all rfl) (fun fr => by kernel_rfl) ?_
        intro fr H
        refine at_nil ?_
        show AW cfg 23 g (right (left (left (right (right (right (left (left (left (left (right (left (left (left (right (right (bodyC cfg.P 23))))))))))))))))) fr h1 _
        rcases iteB_some hm with ⟨hb, hm⟩ | ⟨hb, hm⟩
        ·replace H := H.know 43 hb (by kernel_rfl)
         refine aw_true (x := .tmp 43) (by kernel_rfl) H (fun fr => by kernel_rfl) ?_
         refine aw_reg (id := 8) (n := 4) [(0, []), (1, []), (2, []), (3, [])] (by kernel_rfl) (by kernel_rfl) ?_
         refine at_seg [(0, [])] [(0, .str p0), (1, .int .i64 x2), (2, .int .u8 p2), (44, rowV r1 x1.length)] H (noU_all rfl) (fun fr => by kernel_rfl) ?_
         intro fr H
         obtain ⟨h2, e1⟩ : ∃ x, x = h1.push (.cells (some 5) 2 [.int .u8 (92 : Int)]) := ⟨_, rfl⟩
         replace A := (A.pushL _ _).to e1
         refine at_step (v := rowV (some h1.size) (([(92 : UInt8)] : List UInt8).length)) (h1 := h2) [(0, .str p0), (1, .int .i64 x2), (2, .int .u8 p2), (44, rowV r1 x1.length), (45, rowV (some h1.size) (([(92 : UInt8)] : List UInt8).length))] H (fun fr => by kernel_rfl) (fun fr => .of (s_n' (by kernel_rfl) (congrArg some e1.symm))) ?_
         intro fr t H
         obtain ⟨hb, hm⟩ := need_some hm
         obtain ⟨r4, h3, hx, A1⟩ := HH.appO encY (by decide) A 1 (xs := x1) (ys := ([(92 : UInt8)] : List UInt8)) rfl (row_first A 0 rfl (n := ([(92 : UInt8)] : List UInt8).length) (z := 1) rfl (by decide)) rfl rfl hb
         replace A : HH g h3 [.lst (some h1.size) 5 ([.int .u8 (92 : Int)]), .lst r4 5 (lst eY (x1 ++ ([(92 : UInt8)] : List UInt8)))] F := A1
         replace A : HH g h3 [.lst r4 5 (lst eY (x1 ++ ([(92 : UInt8)] : List UInt8)))] F := (HH.dropF (A.front 1 rfl) 1)
         refine at_step (v := rowV r4 ((x1 ++ ([(92 : UInt8)] : List UInt8)).length)) (h1 := h3) [(0, .str p0), (1, .int .i64 x2), (2, .int .u8 p2), (46, rowV r4 ((x1 ++ ([(92 : UInt8)] : List UInt8)).length))] H (fun fr => by kernel_rfl) (fun fr => .of (s_app (s := rowS r1 x1.length) (by kernel_rfl) hx)) ?_
         intro fr t H
         refine at_seg [(3, [])] [(0, .str p0), (1, .int .i64 x2), (2, .int .u8 p2), (9, rowV r4 ((x1 ++ ([(92 : UInt8)] : List UInt8)).length))] H (noU_all rfl) (fun fr => by kernel_rfl) ?_
         intro fr H
         refine at_nil ?_
         exact Or.inl ⟨(x1 ++ ([(92 : UInt8)] : List UInt8)), rfl, Option.some.inj hm, r4, H.less _ (fun fr => by kernel_rfl), A⟩
        ·replace H := H.know 43 hb (by kernel_rfl)
         refine aw_false (x := .tmp 43) (by kernel_rfl) H (fun fr => by kernel_rfl) ?_
         refine aw_skip (by kernel_rfl) ?_
         exact Or.inl ⟨x1, rfl, Option.some.inj hm, r1, H.less _ (fun fr => by kernel_rfl), A⟩
       ·clear ho
        clear A
        intro e fr h4 hQ
        rcases hQ with ⟨x13, rfl, rfl, r3, H, A⟩ | hF
        ·skip
         show AW cfg 23 g (right (left (right (right (right (left (left (left (left (right (left (left (left (right (right (bodyC cfg.P 23)))))))))))))))) fr h4 _
         refine aw_reg (id := 9) (n := 3) [(0, []), (1, []), (2, [])] (by kernel_rfl) (by kernel_rfl) ?_
         refine at_seg [(0, []), (1, []), (2, [])] [(0, .str p0), (1, .int .i64 (IntKind.i64.wrap (x2 + (1 : Int)))), (2, .int .u8 p2), (9, rowV r3 x13.length)] H (noU_all rfl) (fun fr => by kernel_rfl) ?_
         intro fr H
         refine at_nil ?_
         exact Or.inl ⟨x13, IntKind.i64.wrap (x2 + (1 : Int)), rfl, Option.some.inj hm, r3, H.less _ (fun fr => by kernel_rfl), A⟩
        ·exact hF.elim
      ·replace H := H.know 26 hb (by kernel_rfl)
       refine aw_false (x := .tmp 26) (by kernel_rfl) H (fun fr => by kernel_rfl) ?_
       refine aw_skip (by kernel_rfl) ?_
       exact Or.inl ⟨x1, x2, rfl, Option.some.inj hm, r1, H.less _ (fun fr => by kernel_rfl), A⟩
   ·clear ho
    clear A
    intro e fr h5 hQ
    rcases hQ with ⟨x6, x7, rfl, rfl, r2, H, A⟩ | ⟨x8, x9, x10, rfl, rfl, H, A⟩ | hF
    ·skip
     show AW cfg 23 g (right (left (left (right (left (left (left (right (right (bodyC cfg.P 23)))))))))) fr h5 _
     refine aw_reg (id := 10) (n := 7) [(0, []), (1, []), (2, []), (3, []), (4, []), (5, []), (6, [])] (by kernel_rfl) (by kernel_rfl) ?_
     refine at_seg [(0, []), (1, []), (2, [])] [(0, .str p0), (1, .int .i64 x7), (2, .int .u8 p2), (49, rowV r2 x6.length), (50, .str p0), (51, .int .i64 x7)] H (noU_all rfl) (fun fr => by kernel_rfl) ?_
     intro fr H
     obtain ⟨x15, hx, hm⟩ := bind_some hm
     refine at_step (v := .int .u8 x15) (h1 := h5) [(0, .str p0), (1, .int .i64 x7), (2, .int .u8 p2), (49, rowV r2 x6.length), (52, .int .u8 x15)] H (fun fr => by kernel_rfl) (fun fr => .of (s_ixS (by kernel_rfl) hx)) ?_
     intro fr t H
     obtain ⟨x16, hx, hm⟩ := bind_some hm
     have hx := toY_eq hx
     have kH := hm
     have kA := A
     have kR := H
     subst hx
     have hm := kH
     have A := kA
     have H := kR
     clear kH kA kR
     obtain ⟨h6, e2⟩ : ∃ x, x = h5.push (.cells (some 5) 2 [.int .u8 (x16.toNat : Int)]) := ⟨_, rfl⟩
     replace A := (A.pushL _ _).to e2
     refine at_step (v := rowV (some h5.size) (([x16] : List UInt8).length)) (h1 := h6) [(0, .str p0), (1, .int .i64 x7), (2, .int .u8 p2), (49, rowV r2 x6.length), (53, rowV (some h5.size) (([x16] : List UInt8).length))] H (fun fr => by kernel_rfl) (fun fr => .of (s_n' (by kernel_rfl) (congrArg some e2.symm))) ?_
     intro fr t H
     obtain ⟨hb, hm⟩ := need_some hm
     obtain ⟨r5, h7, hx, A1⟩ := HH.appO encY (by decide) A 1 (xs := x6) (ys := ([x16] : List UInt8)) rfl (row_first A 0 rfl (n := ([x16] : List UInt8).length) (z := 1) rfl (by decide)) rfl rfl hb
     replace A : HH g h7 [.lst (some h5.size) 5 ([.int .u8 (x16.toNat : Int)]), .lst r5 5 (lst eY (x6 ++ ([x16] : List UInt8)))] F := A1
     replace A : HH g h7 [.lst r5 5 (lst eY (x6 ++ ([x16] : List UInt8)))] F := (HH.dropF (A.front 1 rfl) 1)
     refine at_step (v := rowV r5 ((x6 ++ ([x16] : List UInt8)).length)) (h1 := h7) [(0, .str p0), (1, .int .i64 x7), (2, .int .u8 p2), (54, rowV r5 ((x6 ++ ([x16] : List UInt8)).length))] H (fun fr => by kernel_rfl) (fun fr => .of (s_app (s := rowS r2 x6.length) (by kernel_rfl) hx)) ?_
     intro fr t H
     refine at_seg [(6, [])] [(0, .str p0), (1, .int .i64 x7), (2, .int .u8 p2), (9, rowV r5 ((x6 ++ ([x16] : List UInt8)).length))] H (noU_all rfl) (fun fr => by kernel_rfl) ?_
     intro fr H
     refine at_nil ?_
     show AW cfg 23 g (right (right (left (left (left (right (right (bodyC cfg.P 23)))))))) fr h7 _
     refine aw_reg (id := 3) (n := 3) [(0, []), (1, []), (2, [])] (by kernel_rfl) (by kernel_rfl) ?_
     refine at_seg [(0, []), (1, []), (2, [])] [(0, .str p0), (1, .int .i64 (IntKind.i64.wrap (x7 + (1 : Int)))), (2, .int .u8 p2), (9, rowV r5 ((x6 ++ ([x16] : List UInt8)).length))] H (noU_all rfl) (fun fr => by kernel_rfl) ?_
     intro fr H
     refine at_nil ?_
     exact Exists.intro ((x6 ++ ([x16] : List UInt8)), IntKind.i64.wrap (x7 + (1 : Int))) (And.intro (Option.some.inj hm).symm ⟨(x6 ++ ([x16] : List UInt8)), IntKind.i64.wrap (x7 + (1 : Int)), rfl, r5, H.less _ (fun fr => by kernel_rfl), A⟩)
    ·skip
     exact Exists.intro _ (And.intro (Option.some.inj hm).symm (fun e => Or.inr (Or.inl ⟨x8, x9, x10, rfl, e, H.less _ (fun fr => by kernel_rfl), A⟩)))
    ·exact hF.elim
  ·replace H := H.know 13 hb (by kernel_rfl)
   refine aw_false (x := .tmp 13) (by kernel_rfl) H (fun fr => by kernel_rfl) ?_
   refine aw_exit (i := 0) (by kernel_rfl) ?_
   replace A : HH g h1 [] F := (HH.dropF A 0)
   exact Exists.intro _ (And.intro (Option.some.inj hm).symm (fun e => Or.inl ⟨rfl, e, H.less _ (fun fr => by kernel_rfl), A⟩))
 ·clear ho
  clear A
  intro e fr h8 hQ
  rcases hQ with ⟨rfl, rfl, H, A⟩ | ⟨x3, x4, x5, rfl, rfl, H, A⟩ | hF
  ·skip
   show AW cfg 23 g (right (right (right (bodyC cfg.P 23)))) fr h8 _
   refine aw_seq (by kernel_rfl) ?_
   refine aw_reg (id := 11) (n := 5) [(0, []), (1, []), (2, []), (3, []), (4, [])] (by kernel_rfl) (by kernel_rfl) ?_
   refine at_seg [(0, []), (1, []), (2, []), (3, []), (4, [])] [(6, .str ([] : List UInt8)), (7, .int .i64 (p0.length : Int)), (8, .bool false)] H (noU_all rfl) (fun fr => by kernel_rfl) ?_
   intro fr H
   refine at_nil ?_
   show AW cfg 23 g (right (right (right (right (bodyC cfg.P 23))))) fr h8 _
   refine aw_ret (by kernel_rfl) ?_
   have e0 := Option.some.inj hm
   obtain ⟨y0, z0⟩ := Prod.mk.inj e0
   obtain ⟨y1, z1⟩ := Prod.mk.inj z0
   subst y0
   subst y1
   subst z1
   refine ⟨.inl rfl, .tuple [.str ([] : List UInt8), .int .i64 (p0.length : Int), .bool false], resH H (fun fr => by kernel_rfl), ?_⟩
   exact ⟨rfl, A⟩
  ·skip
   have e0 := Option.some.inj hm
   obtain ⟨y0, z0⟩ := Prod.mk.inj e0
   obtain ⟨y1, z1⟩ := Prod.mk.inj z0
   subst y0
   subst y1
   subst z1
   refine ⟨.inl rfl, .tuple [.str x3, .int .i64 x4, .bool x5], resH H (fun fr => by kernel_rfl), ?_⟩
   exact ⟨rfl, A⟩
  ·exact hF.elim
/-! ### internal/stringslite.IndexByte -/
noncomputable def M_stringslite_IndexByte (p0 : List UInt8) (p1 : Int) : Option (Int) :=
 (X_IndexByte p0 p1).bind fun x1 => some x1
theorem ok_stringslite_IndexByte {g : Gd} {h : AHeap} {F : List Ck} {p0 : List UInt8} {p1 : Int} {q0 : Int} {av : List AVal} (hm : M_stringslite_IndexByte p0 p1 = some q0) (hc : canL (cfg.still 51) av = [.str p0, .int .u8 p1]) (A : HH g h [] F) : ∃ v h', Runs cfg g h 51 av v h' ∧ v = .int .i64 q0 ∧ HH g h' [] F := by
 refine runsQ1 (n := 8) (rs := [.tmp 4]) (by kernel_rfl) hc (by kernel_rfl) ?_
 clear hc
 unfold M_stringslite_IndexByte at hm
 refine start (n := 8) [(0, .str p0), (1, .int .u8 p1)] (by kernel_rfl) (by kernel_rfl) ?_
 intro fr H
 refine aw_seq (by kernel_rfl) ?_
 refine aw_reg (id := 0) (n := 1) [(0, [])] (by kernel_rfl) (by kernel_rfl) ?_
 refine at_seg [(0, [])] [(0, .str p0), (1, .int .u8 p1)] H (noU_all rfl) (fun fr => by kernel_rfl) ?_
 intro fr H
 refine at_nil ?_
 show AW cfg 51 g (right (bodyC cfg.P 51)) fr h _
 refine aw_seq (by kernel_rfl) ?_
 refine aw_reg (id := 1) (n := 4) [(0, []), (1, []), (2, []), (3, [])] (by kernel_rfl) (by kernel_rfl) ?_
 refine at_seg [(0, []), (1, [])] [(5, .str p0), (6, .int .u8 p1)] H (noU_all rfl) (fun fr => by kernel_rfl) ?_
 intro fr H
 obtain ⟨x1, hx, hm⟩ := bind_some hm
 refine at_step (v := .int .i64 x1) (h1 := h) [(7, .int .i64 x1)] H (fun fr => by kernel_rfl) (fun fr => Steps.call (by kernel_rfl) (runsIdx (C := cfg) (f := 102) (by kernel_rfl) (l := exts) rfl (by kernel_rfl) hx)) ?_
 intro fr t H
 refine at_seg [(3, [])] [(4, .int .i64 x1)] H (noU_all rfl) (fun fr => by kernel_rfl) ?_
 intro fr H
 refine at_nil ?_
 show AW cfg 51 g (right (right (bodyC cfg.P 51))) fr h _
 refine aw_ret (by kernel_rfl) ?_
 have e1 := Option.some.inj hm
 subst e1
 refine ⟨.inl rfl, .int .i64 x1, resH H (fun fr => by kernel_rfl), ?_⟩
 exact ⟨rfl, A⟩
/-! ### strings.IndexByte -/
noncomputable def M_strings_IndexByte (p0 : List UInt8) (p1 : Int) : Option (Int) :=
 (M_stringslite_IndexByte p0 p1).bind fun x1 => some x1
theorem ok_strings_IndexByte {g : Gd} {h : AHeap} {F : List Ck} {p0 : List UInt8} {p1 : Int} {q0 : Int} {av : List AVal} (hm : M_strings_IndexByte p0 p1 = some q0) (hc : canL (cfg.still 26) av = [.str p0, .int .u8 p1]) (A : HH g h [] F) : ∃ v h', Runs cfg g h 26 av v h' ∧ v = .int .i64 q0 ∧ HH g h' [] F := by
 refine runsQ1 (n := 8) (rs := [.tmp 4]) (by kernel_rfl) hc (by kernel_rfl) ?_
 clear hc
 unfold M_strings_IndexByte at hm
 refine start (n := 8) [(0, .str p0), (1, .int .u8 p1)] (by kernel_rfl) (by kernel_rfl) ?_
 intro fr H
 refine aw_seq (by kernel_rfl) ?_
 refine aw_reg (id := 0) (n := 1) [(0, [])] (by kernel_rfl) (by kernel_rfl) ?_
 refine at_seg [(0, [])] [(0, .str p0), (1, .int .u8 p1)] H (noU_all rfl) (fun fr => by kernel_rfl) ?_
 intro fr H
 refine at_nil ?_
 show AW cfg 26 g (right (bodyC cfg.P 26)) fr h _
 refine aw_seq (by kernel_rfl) ?_
 refine aw_reg (id := 1) (n := 4) [(0, []), (1, []), (2, []), (3, [])] (by kernel_rfl) (by kernel_rfl) ?_
 refine at_seg [(0, []), (1, [])] [(5, .str p0), (6, .int .u8 p1)] H (noU_all rfl) (fun fr => by kernel_rfl) ?_
 intro fr H
 have A1 := A.cut 0
 obtain ⟨x1, hx, hm⟩ := bind_some hm
 obtain ⟨v1, h1, hr, rfl, A1⟩ := ok_stringslite_IndexByte (av := [.str p0, .int .u8 p1]) hx (by kernel_rfl) A1
 replace A : HH g h1 [] F := A.glue0 (n := 0) A1
 refine at_step (v := .int .i64 x1) (h1 := h1) [(7, .int .i64 x1)] H (fun fr => by kernel_rfl) (fun fr => Steps.call (by kernel_rfl) hr) ?_
 intro fr t H
 refine at_seg [(3, [])] [(4, .int .i64 x1)] H (noU_all rfl) (fun fr => by kernel_rfl) ?_
 intro fr H
 refine at_nil ?_
 show AW cfg 26 g (right (right (bodyC cfg.P 26))) fr h1 _
 refine aw_ret (by kernel_rfl) ?_
 have e1 := Option.some.inj hm
 subst e1
 refine ⟨.inl rfl, .int .i64 x1, resH H (fun fr => by kernel_rfl), ?_⟩
 exact ⟨rfl, A⟩
/-! ### boulter/rewrite.List -/
noncomputable def M_rewrite_List_L1 (p0 : List UInt8) (x6 : Int) (s : Int × Int) : Option ((Int × Int) ⊕ ((Int) ⊕ (Bool))) :=
 match s with
 | (x7, x8) => iteB (decide (x8 < (2 : Int))) ((M_rewrite_part p0 x7 x6).bind fun (x11, x12, x13) => iteB (!x13) (some (.inr (.inr false))) (some (.inl (x12, IntKind.i64.wrap (x8 + (1 : Int)))))) (some (.inr (.inl x7)))
noncomputable def M_rewrite_List_L0 (p0 : List UInt8) (s : (List (List UInt8)) × Int) : Option (((List (List UInt8)) × Int) ⊕ (((List (List UInt8)) × Bool))) :=
 match s with
 | (x1, x2) => (M_rewrite_begins p0 x2).bind fun x5 => iteB (!x5) (some (.inr (([] : List (List UInt8)), false))) ((ixS p0 (IntKind.i64.wrap (x2 + (1 : Int)))).bind fun x6 => (loop (M_rewrite_List_L1 p0 x6) (IntKind.i64.wrap (x2 + (2 : Int)), (0 : Int))).bind fun o2 => (match o2 with | .inl x9 => (subS p0 (some x9) none).bind fun x14 => (M_strings_IndexByte x14 (59 : Int)).bind fun x15 => iteB (decide (x15 < (0 : Int))) ((subS p0 (some x2) none).bind fun x16 => need (okN 16 (x1.length + ([x16] : List (List UInt8)).length)) <| some (.inr ((x1 ++ ([x16] : List (List UInt8))), true))) ((subS p0 (some x2) (some (IntKind.i64.wrap (x9 + x15)))).bind fun x17 => need (okN 16 (x1.length + ([x17] : List (List UInt8)).length)) <| some (.inl ((x1 ++ ([x17] : List (List UInt8))), IntKind.i64.wrap (x9 + (IntKind.i64.wrap (x15 + (1 : Int))))))) | .inr x10 => some (.inr (([] : List (List UInt8)), x10))))
noncomputable def M_rewrite_List (p0 : List UInt8) : Option ((List (List UInt8)) × Bool) :=
 (loop (M_rewrite_List_L0 p0) (([] : List (List UInt8)), (0 : Int))).bind fun (x3, x4) => some (x3, x4)
theorem ok_rewrite_List {g : Gd} {h : AHeap} {F : List Ck} {p0 : List UInt8} {q0 : List (List UInt8)} {q1 : Bool} {av : List AVal} (hm : M_rewrite_List p0 = some (q0, q1)) (hc : canL (cfg.still 11) av = [.str p0]) (A : HH g h [] F) : ∃ v h', Runs cfg g h 11 av v h' ∧ ∃ (rq0 : Option Nat), v = .tuple [rowV rq0 q0.length, .bool q1] ∧ HH g h' [.lst rq0 9 (lst eS q0)] F := by
 refine runsQ1 (n := 59) (rs := [.tmp 2, .tmp 3]) (by kernel_rfl) hc (by kernel_rfl) ?_
 clear hc
 unfold M_rewrite_List at hm
 refine start (n := 59) [(0, .str p0)] (by kernel_rfl) (by kernel_rfl) ?_
 intro fr H
 refine aw_seq (by kernel_rfl) ?_
 refine aw_reg (id := 0) (n := 2) [(0, []), (1, [])] (by kernel_rfl) (by kernel_rfl) ?_
 refine at_seg [(0, []), (1, [])] [(0, .str p0)] H (noU_all rfl) (fun fr => by kernel_rfl) ?_
 intro fr H
 refine at_nil ?_
 show AW cfg 11 g (right (bodyC cfg.P 11)) fr h _
 refine aw_seq (by kernel_rfl) ?_
 refine aw_reg (id := 1) (n := 1) [(0, [])] (by kernel_rfl) (by kernel_rfl) ?_
 refine at_seg [(0, [])] [(0, .str p0), (4, .slice none 0)] H (noU_all rfl) (fun fr => by kernel_rfl) ?_
 intro fr H
 refine at_nil ?_
 show AW cfg 11 g (right (right (bodyC cfg.P 11))) fr h _
 refine aw_seq (by kernel_rfl) ?_
 refine aw_reg (id := 2) (n := 1) [(0, [])] (by kernel_rfl) (by kernel_rfl) ?_
 refine at_seg [(0, [])] [(0, .str p0), (4, .slice none 0), (5, .int .i64 (0 : Int))] H (noU_all rfl) (fun fr => by kernel_rfl) ?_
 intro fr H
 refine at_nil ?_
 show AW cfg 11 g (right (right (right (bodyC cfg.P 11)))) fr h _
 refine aw_block (id := 0) (by kernel_rfl) ?_
 replace A : HH g h [.lst none 9 (lst eS ([] : List (List UInt8)))] F := A.nilL 9
 obtain ⟨o1, ho, hm⟩ := bind_some hm
 refine aw_mono (Q' := fun e fr' h' => (∃ (x3 : List (List UInt8)) (x4 : Bool), e = .ret ∧ (x3, x4) = o1 ∧ ∃ (r2 : Option Nat), Has fr' 59 [(2, rowV r2 x3.length), (3, .bool x4)] ∧ HH g h' [.lst r2 9 (lst eS x3)] F) ∨ False) ?_ ?_
 ·refine aw_loop (by kernel_rfl) (fun (s : (List (List UInt8)) × Int) fr' h' => ∃ (x1 : List (List UInt8)) (x2 : Int), (x1, x2) = s ∧ ∃ (r1 : Option Nat), Has fr' 59 [(0, .str p0), (4, rowV r1 x1.length), (5, .int .i64 x2)] ∧ HH g h' [.lst r1 9 (lst eS x1)] F) ho ⟨([] : List (List UInt8)), (0 : Int), rfl, none, H.less _ (fun fr => by kernel_rfl), A⟩ ?_
  clear ho hm H A
  intro s q fr h1 hI hm
  obtain ⟨x1, x2, rfl, r1, H, A⟩ := hI
  unfold M_rewrite_List_L0 at hm
  refine aw_block (id := 1) (by kernel_rfl) ?_
  refine aw_seq (by kernel_rfl) ?_
  refine aw_seq (by kernel_rfl) ?_
  refine aw_reg (id := 3) (n := 4) [(0, []), (1, []), (2, []), (3, [])] (by kernel_rfl) (by kernel_rfl) ?_
  refine at_seg [(0, []), (1, [])] [(0, .str p0), (4, rowV r1 x1.length), (5, .int .i64 x2), (10, .str p0), (11, .int .i64 x2)] H (noU_all rfl) (fun fr => by kernel_rfl) ?_
  intro fr H
  have A1 := A.cut 0
  obtain ⟨x5, hx, hm⟩ := bind_some hm
  obtain ⟨v1, h2, hr, rfl, A1⟩ := ok_rewrite_begins (av := [.str p0, .int .i64 x2]) hx (by kernel_rfl) A1
  replace A : HH g h2 [.lst r1 9 (lst eS x1)] F := A.glue0 (n := 0) A1
  refine at_step (v := .bool x5) (h1 := h2) [(0, .str p0), (4, rowV r1 x1.length), (5, .int .i64 x2), (12, .bool x5)] H (fun fr => by kernel_rfl) (fun fr => Steps.call (by kernel_rfl) hr) ?_
  intro fr t H
  refine at_seg [(3, [])] [(0, .str p0), (4, rowV r1 x1.length), (5, .int .i64 x2), (13, .bool (!x5))] H (noU_all rfl) (fun fr => by kernel_rfl) ?_
  intro fr H
  refine at_nil ?_
  show AW cfg 11 g (right (left (left (left (left (right (right (right (bodyC cfg.P 11))))))))) fr h2 _
  rcases iteB_some hm with ⟨hb, hm⟩ | ⟨hb, hm⟩
  ·replace H := H.know 13 hb (by kernel_rfl)
   refine aw_true (x := .tmp 13) (by kernel_rfl) H (fun fr => by kernel_rfl) ?_
   refine aw_seq (by kernel_rfl) ?_
   refine aw_reg (id := 4) (n := 2) [(0, []), (1, [])] (by kernel_rfl) (by kernel_rfl) ?_
   refine at_seg [(0, []), (1, [])] [(2, .slice none 0), (3, .bool false)] H (noU_all rfl) (fun fr => by kernel_rfl) ?_
   intro fr H
   refine at_nil ?_
   show AW cfg 11 g (right (left (right (left (left (left (left (right (right (right (bodyC cfg.P 11))))))))))) fr h2 _
   refine aw_ret (by kernel_rfl) ?_
   replace A : HH g h2 [.lst none 9 (lst eS ([] : List (List UInt8))), .lst r1 9 (lst eS x1)] F := A.nilL 9
   replace A : HH g h2 [.lst none 9 (lst eS ([] : List (List UInt8)))] F := (HH.dropF (A.front 0 rfl) 1)
   exact Exists.intro _ (And.intro (Option.some.inj hm).symm (fun e => Or.inl ⟨([] : List (List UInt8)), false, rfl, e, none, H.less _ (fun fr => by kernel_rfl), A⟩))
  ·replace H := H.know 13 hb (by kernel_rfl)
   refine aw_false (x := .tmp 13) (by kernel_rfl) H (fun fr => by kernel_rfl) ?_
   refine aw_skip (by kernel_rfl) ?_
   show AW cfg 11 g (right (left (left (left (right (right (right (bodyC cfg.P 11)))))))) fr h2 _
   refine aw_seq (by kernel_rfl) ?_
   refine aw_reg (id := 5) (n := 3) [(0, []), (1, []), (2, [])] (by kernel_rfl) (by kernel_rfl) ?_
   refine at_seg [(0, []), (1, []), (2, [])] [(0, .str p0), (4, rowV r1 x1.length), (5, .int .i64 x2), (6, .int .i64 x2)] H (noU_all rfl) (fun fr => by kernel_rfl) ?_
   intro fr H
   refine at_nil ?_
   show AW cfg 11 g (right (right (left (left (left (right (right (right (bodyC cfg.P 11))))))))) fr h2 _
   refine aw_seq (by kernel_rfl) ?_
   refine aw_reg (id := 6) (n := 5) [(0, []), (1, []), (2, []), (3, []), (4, [])] (by kernel_rfl) (by kernel_rfl) ?_
   refine at_seg [(0, []), (1, []), (2, [])] [(0, .str p0), (4, rowV r1 x1.length), (5, .int .i64 x2), (6, .int .i64 x2), (15, .str p0), (17, .int .i64 (IntKind.i64.wrap (x2 + (1 : Int))))] H (noU_all rfl) (fun fr => by kernel_rfl) ?_
   intro fr H
   obtain ⟨x6, hx, hm⟩ := bind_some hm
   refine at_step (v := .int .u8 x6) (h1 := h2) [(0, .str p0), (4, rowV r1 x1.length), (5, .int .i64 x2), (6, .int .i64 x2), (18, .int .u8 x6)] H (fun fr => by kernel_rfl) (fun fr => .of (s_ixS (by kernel_rfl) hx)) ?_
   intro fr t H
   refine at_seg [(4, [])] [(0, .str p0), (4, rowV r1 x1.length), (5, .int .i64 x2), (6, .int .i64 x2), (8, .int .u8 x6)] H (noU_all rfl) (fun fr => by kernel_rfl) ?_
   intro fr H
   refine at_nil ?_
   show AW cfg 11 g (right (right (right (left (left (left (right (right (right (bodyC cfg.P 11)))))))))) fr h2 _
   refine aw_seq (by kernel_rfl) ?_
   refine aw_reg (id := 7) (n := 3) [(0, []), (1, []), (2, [])] (by kernel_rfl) (by kernel_rfl) ?_
   refine at_seg [(0, []), (1, []), (2, [])] [(0, .str p0), (4, rowV r1 x1.length), (5, .int .i64 (IntKind.i64.wrap (x2 + (2 : Int)))), (6, .int .i64 x2), (8, .int .u8 x6)] H (noU_all rfl) (fun fr => by kernel_rfl) ?_
   intro fr H
   refine at_nil ?_
   show AW cfg 11 g (right (right (right (right (left (left (left (right (right (right (bodyC cfg.P 11))))))))))) fr h2 _
   refine aw_seq (by kernel_rfl) ?_
   refine aw_seq (by kernel_rfl) ?_
   refine aw_reg (id := 8) (n := 1) [(0, [])] (by kernel_rfl) (by kernel_rfl) ?_
   refine at_seg [(0, [])] [(0, .str p0), (4, rowV r1 x1.length), (5, .int .i64 (IntKind.i64.wrap (x2 + (2 : Int)))), (6, .int .i64 x2), (8, .int .u8 x6), (21, .int .i64 (0 : Int))] H (noU_all rfl) (fun fr => by kernel_rfl) ?_
   intro fr H
   refine at_nil ?_
   show AW cfg 11 g (right (left (right (right (right (right (left (left (left (right (right (right (bodyC cfg.P 11))))))))))))) fr h2 _
   refine aw_block (id := 2) (by kernel_rfl) ?_
   obtain ⟨o2, ho, hm⟩ := bind_some hm
   refine aw_mono (Q' := fun e fr' h' => (∃ (x9 : Int), e = .exit 2 ∧ .inl x9 = o2 ∧ Has fr' 59 [(0, .str p0), (4, rowV r1 x1.length), (5, .int .i64 x9), (6, .int .i64 x2)] ∧ HH g h' [.lst r1 9 (lst eS x1)] F) ∨ (∃ (x10 : Bool), e = .ret ∧ .inr x10 = o2 ∧ Has fr' 59 [(2, .slice none 0), (3, .bool x10)] ∧ HH g h' [] F) ∨ False) ?_ ?_
   ·refine aw_loop (by kernel_rfl) (fun (s : Int × Int) fr' h' => ∃ (x7 : Int) (x8 : Int), (x7, x8) = s ∧ Has fr' 59 [(0, .str p0), (4, rowV r1 x1.length), (5, .int .i64 x7), (6, .int .i64 x2), (8, .int .u8 x6), (21, .int .i64 x8)] ∧ HH g h' [.lst r1 9 (lst eS x1)] F) ho ⟨IntKind.i64.wrap (x2 + (2 : Int)), (0 : Int), rfl, H.less _ (fun fr => by kernel_rfl), A⟩ ?_
    clear ho hm H A
    intro s q fr h3 hI hm
    obtain ⟨x7, x8, rfl, H, A⟩ := hI
    unfold M_rewrite_List_L1 at hm
    refine aw_seq (by kernel_rfl) ?_
    refine aw_reg (id := 9) (n := 1) [(0, [])] (by kernel_rfl) (by kernel_rfl) ?_
    refine at_seg [(0, [])] [(0, .str p0), (4, rowV r1 x1.length), (5, .int .i64 x7), (6, .int .i64 x2), (8, .int .u8 x6), (21, .int .i64 x8), (22, .bool (decide (x8 < (2 : Int))))] H (noU_all rfl) (fun fr => by kernel_rfl) ?_
    intro fr H
    refine at_nil ?_
    show AW cfg 11 g (right (left (left (right (left (right (right (right (right (left (left (left (right (right (right (bodyC cfg.P 11)))))))))))))))) fr h3 _
    refine aw_seq (by kernel_rfl) ?_
    rcases iteB_some hm with ⟨hb, hm⟩ | ⟨hb, hm⟩
    ·replace H := H.know 22 hb (by kernel_rfl)
     refine aw_true (x := .tmp 22) (by kernel_rfl) H (fun fr => by kernel_rfl) ?_
     refine aw_skip (by kernel_rfl) ?_
     show AW cfg 11 g (right (right (left (left (right (left (right (right (right (right (left (left (left (right (right (right (bodyC cfg.P 11))))))))))))))))) fr h3 _
     refine aw_seq (by kernel_rfl) ?_
     refine aw_block (id := 3) (by kernel_rfl) ?_
     refine aw_seq (by kernel_rfl) ?_
     refine aw_reg (id := 10) (n := 10) [(0, []), (1, []), (2, []), (3, []), (4, []), (5, []), (6, []), (7, []), (8, []), (9, [])] (by kernel_rfl) (by kernel_rfl) ?_
     refine at_seg [(0, []), (1, []), (2, [])] [(0, .str p0), (4, rowV r1 x1.length), (6, .int .i64 x2), (8, .int .u8 x6), (21, .int .i64 x8), (24, .str p0), (25, .int .i64 x7), (26, .int .u8 x6)] H (noU_all rfl) (fun fr => by kernel_rfl) ?_
     intro fr H
     have A1 := A.cut 0
     obtain ⟨⟨x11, x12, x13⟩, hx, hm⟩ := bind_some hm
     obtain ⟨v1, h4, hr, rfl, A1⟩ := ok_rewrite_part (av := [.str p0, .int .i64 x7, .int .u8 x6]) hx (by kernel_rfl) A1
     replace A : HH g h4 [.lst r1 9 (lst eS x1)] F := A.glue0 (n := 0) A1
     refine at_step (v := .tuple [.str x11, .int .i64 x12, .bool x13]) (h1 := h4) [(0, .str p0), (4, rowV r1 x1.length), (6, .int .i64 x2), (8, .int .u8 x6), (21, .int .i64 x8), (27, .tuple [.str x11, .int .i64 x12, .bool x13])] H (fun fr => by kernel_rfl) (fun fr => Steps.call (by kernel_rfl) hr) ?_
     intro fr t H
     refine at_seg [(4, []), (5, []), (6, []), (7, []), (8, []), (9, [])] [(0, .str p0), (4, rowV r1 x1.length), (5, .int .i64 x12), (6, .int .i64 x2), (7, .bool x13), (8, .int .u8 x6), (21, .int .i64 x8)] H (noU_all rfl) (fun fr => by kernel_rfl) ?_
     intro fr H
     refine at_nil ?_
     show AW cfg 11 g (right (left (left (right (right (left (left (right (left (right (right (right (right (left (left (left (right (right (right (bodyC cfg.P 11)))))))))))))))))))) fr h4 _
     refine aw_seq (by kernel_rfl) ?_
     refine aw_reg (id := 11) (n := 2) [(0, []), (1, [])] (by kernel_rfl) (by kernel_rfl) ?_
     refine at_seg [(0, []), (1, [])] [(0, .str p0), (4, rowV r1 x1.length), (5, .int .i64 x12), (6, .int .i64 x2), (8, .int .u8 x6), (21, .int .i64 x8), (32, .bool (!x13))] H (noU_all rfl) (fun fr => by kernel_rfl) ?_
     intro fr H
     refine at_nil ?_
     show AW cfg 11 g (right (right (left (left (right (right (left (left (right (left (right (right (right (right (left (left (left (right (right (right (bodyC cfg.P 11))))))))))))))))))))) fr h4 _
     rcases iteB_some hm with ⟨hb, hm⟩ | ⟨hb, hm⟩
     ·replace H := H.know 32 hb (by kernel_rfl)
      refine aw_true (x := .tmp 32) (by kernel_rfl) H (fun fr => by kernel_rfl) ?_
      refine aw_seq (by kernel_rfl) ?_
      refine aw_reg (id := 12) (n := 2) [(0, []), (1, [])] (by kernel_rfl) (by kernel_rfl) ?_
      refine at_seg [(0, []), (1, [])] [(2, .slice none 0), (3, .bool false)] H (noU_all rfl) (fun fr => by kernel_rfl) ?_
      intro fr H
      refine at_nil ?_
      show AW cfg 11 g (right (left (right (right (left (left (right (right (left (left (right (left (right (right (right (right (left (left (left (right (right (right (bodyC cfg.P 11))))))))))))))))))))))) fr h4 _
      refine aw_ret (by kernel_rfl) ?_
      replace A : HH g h4 [] F := (HH.dropF A 0)
      exact Exists.intro _ (And.intro (Option.some.inj hm).symm (fun e => Or.inr (Or.inl ⟨false, rfl, e, H.less _ (fun fr => by kernel_rfl), A⟩)))
     ·replace H := H.know 32 hb (by kernel_rfl)
      refine aw_false (x := .tmp 32) (by kernel_rfl) H (fun fr => by kernel_rfl) ?_
      refine aw_skip (by kernel_rfl) ?_
      show AW cfg 11 g (right (right (right (left (left (right (left (right (right (right (right (left (left (left (right (right (right (bodyC cfg.P 11)))))))))))))))))) fr h4 _
      refine aw_reg (id := 13) (n := 2) [(0, []), (1, [])] (by kernel_rfl) (by kernel_rfl) ?_
      refine at_seg [(0, []), (1, [])] [(0, .str p0), (4, rowV r1 x1.length), (5, .int .i64 x12), (6, .int .i64 x2), (8, .int .u8 x6), (21, .int .i64 (IntKind.i64.wrap (x8 + (1 : Int))))] H (noU_all rfl) (fun fr => by kernel_rfl) ?_
      intro fr H
      refine at_nil ?_
      exact Exists.intro (x12, IntKind.i64.wrap (x8 + (1 : Int))) (And.intro (Option.some.inj hm).symm ⟨x12, IntKind.i64.wrap (x8 + (1 : Int)), rfl, H.less _ (fun fr => by kernel_rfl), A⟩)
    ·replace H := H.know 22 hb (by kernel_rfl)
     refine aw_false (x := .tmp 22) (by kernel_rfl) H (fun fr => by kernel_rfl) ?_
     refine aw_exit (i := 2) (by kernel_rfl) ?_
     exact Exists.intro _ (And.intro (Option.some.inj hm).symm (fun e => Or.inl ⟨x7, rfl, e, H.less _ (fun fr => by kernel_rfl), A⟩))
   ·clear ho
    clear A
    intro e fr h5 hQ
    rcases hQ with ⟨x9, rfl, rfl, H, A⟩ | ⟨x10, rfl, rfl, H, A⟩ | hF
    ·skip
     show AW cfg 11 g (right (right (right (right (right (left (left (left (right (right (right (bodyC cfg.P 11)))))))))))) fr h5 _
     refine aw_seq (by kernel_rfl) ?_
     refine aw_reg (id := 14) (n := 5) [(0, []), (1, []), (2, []), (3, []), (4, [])] (by kernel_rfl) (by kernel_rfl) ?_
     refine at_seg [(0, []), (1, [])] [(0, .str p0), (4, rowV r1 x1.length), (5, .int .i64 x9), (6, .int .i64 x2), (34, .str p0), (35, .int .i64 x9)] H (noU_all rfl) (fun fr => by kernel_rfl) ?_
     intro fr H
     obtain ⟨x14, hx, hm⟩ := bind_some hm
     refine at_step (v := .str x14) (h1 := h5) [(0, .str p0), (4, rowV r1 x1.length), (5, .int .i64 x9), (6, .int .i64 x2), (36, .str x14)] H (fun fr => by kernel_rfl) (fun fr => .of (s_subS (k := .i64) (k' := .i64) (lo := (some x9)) (hi := none) (by kernel_rfl) hx)) ?_
     intro fr t H
     have A1 := A.cut 0
     obtain ⟨x15, hx, hm⟩ := bind_some hm
     obtain ⟨v1, h6, hr, rfl, A1⟩ := ok_strings_IndexByte (av := [.str x14, .int .u8 (59 : Int)]) hx (by kernel_rfl) A1
     replace A : HH g h6 [.lst r1 9 (lst eS x1)] F := A.glue0 (n := 0) A1
     refine at_step (v := .int .i64 x15) (h1 := h6) [(0, .str p0), (4, rowV r1 x1.length), (5, .int .i64 x9), (6, .int .i64 x2), (37, .int .i64 x15)] H (fun fr => by kernel_rfl) (fun fr => Steps.call (by kernel_rfl) hr) ?_
     intro fr t H
     refine at_seg [(4, [])] [(0, .str p0), (4, rowV r1 x1.length), (5, .int .i64 x9), (6, .int .i64 x2), (9, .int .i64 x15)] H (noU_all rfl) (fun fr => by kernel_rfl) ?_
     intro fr H
     refine at_nil ?_
     show AW cfg 11 g (right (right (right (right (right (right (left (left (left (right (right (right (bodyC cfg.P 11))))))))))))) fr h6 _
     refine aw_seq (by kernel_rfl) ?_
     refine aw_seq (by kernel_rfl) ?_
     refine aw_reg (id := 15) (n := 2) [(0, []), (1, [])] (by kernel_rfl) (by kernel_rfl) ?_
     refine at_seg [(0, []), (1, [])] [(0, .str p0), (4, rowV r1 x1.length), (5, .int .i64 x9), (6, .int .i64 x2), (9, .int .i64 x15), (39, .bool (decide (x15 < (0 : Int))))] H (noU_all rfl) (fun fr => by kernel_rfl) ?_
     intro fr H
     refine at_nil ?_
     show AW cfg 11 g (right (left (right (right (right (right (right (right (left (left (left (right (right (right (bodyC cfg.P 11))))))))))))))) fr h6 _
     rcases iteB_some hm with ⟨hb, hm⟩ | ⟨hb, hm⟩
     ·replace H := H.know 39 hb (by kernel_rfl)
      refine aw_true (x := .tmp 39) (by kernel_rfl) H (fun fr => by kernel_rfl) ?_
      refine aw_seq (by kernel_rfl) ?_
      refine aw_reg (id := 16) (n := 8) [(0, []), (1, []), (2, []), (3, []), (4, []), (5, []), (6, []), (7, [])] (by kernel_rfl) (by kernel_rfl) ?_
      refine at_seg [(0, []), (1, []), (2, [])] [(40, rowV r1 x1.length), (41, .str p0), (42, .int .i64 x2)] H (noU_all rfl) (fun fr => by kernel_rfl) ?_
      intro fr H
      obtain ⟨x16, hx, hm⟩ := bind_some hm
      refine at_step (v := .str x16) (h1 := h6) [(40, rowV r1 x1.length), (43, .str x16)] H (fun fr => by kernel_rfl) (fun fr => .of (s_subS (k := .i64) (k' := .i64) (lo := (some x2)) (hi := none) (by kernel_rfl) hx)) ?_
      intro fr t H
      obtain ⟨h7, e1⟩ : ∃ x, x = h6.push (.cells (some 9) 2 [.str x16]) := ⟨_, rfl⟩
      replace A := (A.pushL _ _).to e1
      refine at_step (v := rowV (some h6.size) (([x16] : List (List UInt8)).length)) (h1 := h7) [(40, rowV r1 x1.length), (44, rowV (some h6.size) (([x16] : List (List UInt8)).length))] H (fun fr => by kernel_rfl) (fun fr => .of (s_n' (by kernel_rfl) (congrArg some e1.symm))) ?_
      intro fr t H
      obtain ⟨hb, hm⟩ := need_some hm
      obtain ⟨r3, h8, hx, A1⟩ := HH.appO encS (by decide) A 1 (xs := x1) (ys := ([x16] : List (List UInt8))) rfl (row_first A 0 rfl (n := ([x16] : List (List UInt8)).length) (z := 1) rfl (by decide)) rfl rfl hb
      replace A : HH g h8 [.lst (some h6.size) 9 ([.str x16]), .lst r3 9 (lst eS (x1 ++ ([x16] : List (List UInt8))))] F := A1
      replace A : HH g h8 [.lst r3 9 (lst eS (x1 ++ ([x16] : List (List UInt8))))] F := (HH.dropF (A.front 1 rfl) 1)
      refine at_step (v := rowV r3 ((x1 ++ ([x16] : List (List UInt8))).length)) (h1 := h8) [(45, rowV r3 ((x1 ++ ([x16] : List (List UInt8))).length))] H (fun fr => by kernel_rfl) (fun fr => .of (s_app (s := rowS r1 x1.length) (by kernel_rfl) hx)) ?_
      intro fr t H
      refine at_seg [(6, []), (7, [])] [(2, rowV r3 ((x1 ++ ([x16] : List (List UInt8))).length)), (3, .bool true)] H (noU_all rfl) (fun fr => by kernel_rfl) ?_
      intro fr H
      refine at_nil ?_
      show AW cfg 11 g (right (left (right (left (right (right (right (right (right (right (left (left (left (right (right (right (bodyC cfg.P 11))))))))))))))))) fr h8 _
      refine aw_ret (by kernel_rfl) ?_
      exact Exists.intro _ (And.intro (Option.some.inj hm).symm (fun e => Or.inl ⟨(x1 ++ ([x16] : List (List UInt8))), true, rfl, e, r3, H.less _ (fun fr => by kernel_rfl), A⟩))
     ·replace H := H.know 39 hb (by kernel_rfl)
      refine aw_false (x := .tmp 39) (by kernel_rfl) H (fun fr => by kernel_rfl) ?_
      refine aw_skip (by kernel_rfl) ?_
      show AW cfg 11 g (right (right (right (right (right (right (right (left (left (left (right (right (right (bodyC cfg.P 11)))))))))))))) fr h6 _
      refine aw_seq (by kernel_rfl) ?_
      refine aw_reg (id := 17) (n := 10) [(0, []), (1, []), (2, []), (3, []), (4, []), (5, []), (6, []), (7, []), (8, []), (9, [])] (by kernel_rfl) (by kernel_rfl) ?_
      refine at_seg [(0, []), (1, []), (2, []), (3, []), (4, []), (5, [])] [(0, .str p0), (5, .int .i64 x9), (9, .int .i64 x15), (46, rowV r1 x1.length), (47, .str p0), (48, .int .i64 x2), (51, .int .i64 (IntKind.i64.wrap (x9 + x15)))] H (noU_all rfl) (fun fr => by kernel_rfl) ?_
      intro fr H
      obtain ⟨x17, hx, hm⟩ := bind_some hm
      refine at_step (v := .str x17) (h1 := h6) [(0, .str p0), (5, .int .i64 x9), (9, .int .i64 x15), (46, rowV r1 x1.length), (52, .str x17)] H (fun fr => by kernel_rfl) (fun fr => .of (s_subS (k := .i64) (k' := .i64) (lo := (some x2)) (hi := (some (IntKind.i64.wrap (x9 + x15)))) (by kernel_rfl) hx)) ?_
      intro fr t H
      obtain ⟨h9, e2⟩ : ∃ x, x = h6.push (.cells (some 9) 2 [.str x17]) := ⟨_, rfl⟩
      replace A := (A.pushL _ _).to e2
      refine at_step (v := rowV (some h6.size) (([x17] : List (List UInt8)).length)) (h1 := h9) [(0, .str p0), (5, .int .i64 x9), (9, .int .i64 x15), (46, rowV r1 x1.length), (53, rowV (some h6.size) (([x17] : List (List UInt8)).length))] H (fun fr => by kernel_rfl) (fun fr => .of (s_n' (by kernel_rfl) (congrArg some e2.symm))) ?_
      intro fr t H
      obtain ⟨hb, hm⟩ := need_some hm
      obtain ⟨r4, h10, hx, A1⟩ := HH.appO encS (by decide) A 1 (xs := x1) (ys := ([x17] : List (List UInt8))) rfl (row_first A 0 rfl (n := ([x17] : List (List UInt8)).length) (z := 1) rfl (by decide)) rfl rfl hb
      replace A : HH g h10 [.lst (some h6.size) 9 ([.str x17]), .lst r4 9 (lst eS (x1 ++ ([x17] : List (List UInt8))))] F := A1
      replace A : HH g h10 [.lst r4 9 (lst eS (x1 ++ ([x17] : List (List UInt8))))] F := (HH.dropF (A.front 1 rfl) 1)
      refine at_step (v := rowV r4 ((x1 ++ ([x17] : List (List UInt8))).length)) (h1 := h10) [(0, .str p0), (5, .int .i64 x9), (9, .int .i64 x15), (54, rowV r4 ((x1 ++ ([x17] : List (List UInt8))).length))] H (fun fr => by kernel_rfl) (fun fr => .of (s_app (s := rowS r1 x1.length) (by kernel_rfl) hx)) ?_
      intro fr t H
      refine at_seg [(9, [])] [(0, .str p0), (4, rowV r4 ((x1 ++ ([x17] : List (List UInt8))).length)), (5, .int .i64 x9), (9, .int .i64 x15)] H (noU_all rfl) (fun fr => by kernel_rfl) ?_
      intro fr H
      refine at_nil ?_
      show AW cfg 11 g (right (right (right (right (right (right (right (right (left (left (left (right (right (right (bodyC cfg.P 11))))))))))))))) fr h10 _
      refine aw_reg (id := 18) (n := 5) [(0, []), (1, []), (2, []), (3, []), (4, [])] (by kernel_rfl) (by kernel_rfl) ?_
      refine at_seg [(0, []), (1, []), (2, []), (3, []), (4, [])] [(0, .str p0), (4, rowV r4 ((x1 ++ ([x17] : List (List UInt8))).length)), (5, .int .i64 (IntKind.i64.wrap (x9 + (IntKind.i64.wrap (x15 + (1 : Int))))))] H (noU_all rfl) (fun fr => by kernel_rfl) ?_
      intro fr H
      refine at_nil ?_
      exact Exists.intro ((x1 ++ ([x17] : List (List UInt8))), IntKind.i64.wrap (x9 + (IntKind.i64.wrap (x15 + (1 : Int))))) (And.intro (Option.some.inj hm).symm ⟨(x1 ++ ([x17] : List (List UInt8))), IntKind.i64.wrap (x9 + (IntKind.i64.wrap (x15 + (1 : Int)))), rfl, r4, H.less _ (fun fr => by kernel_rfl), A⟩)
    ·skip
     replace A : HH g h5 [.lst none 9 (lst eS ([] : List (List UInt8)))] F := A.nilL 9
     exact Exists.intro _ (And.intro (Option.some.inj hm).symm (fun e => Or.inl ⟨([] : List (List UInt8)), x10, rfl, e, none, H.less _ (fun fr => by kernel_rfl), A⟩))
    ·exact hF.elim
 ·clear ho
  clear A
  intro e fr h11 hQ
  rcases hQ with ⟨x3, x4, rfl, rfl, r2, H, A⟩ | hF
  ·skip
   have e0 := Option.some.inj hm
   obtain ⟨y0, z0⟩ := Prod.mk.inj e0
   subst y0
   subst z0
   refine ⟨.inl rfl, .tuple [rowV r2 x3.length, .bool x4], resH H (fun fr => by kernel_rfl), ?_⟩
   exact ⟨r2, rfl, A⟩
  ·exact hF.elim
end Go.Av.L
