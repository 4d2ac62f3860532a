/-
 Models of functions, and that the abstract run tells them. Written by lift2.py.
-/
import Derived.Test.YtkdlmohhklimjaaGreatDoorKCfg
import Derived.Test.YtkdlmohhklimjaaGreatDoorK5
import Derived.Test.YtkdlmohhklimjaaGreatDoorK6
namespace Go.Av.L
open Go.Av Go.Lib
set_option maxRecDepth 10000
set_option linter.unusedVariables false
set_option linter.unusedSimpArgs false
variable {g : Gd} {h : AHeap} {F : List Ck} {av : List AVal}
noncomputable def M_rewrite_begins (p0 : List UInt8) (p1 : Int) : Option (Bool) :=
 (iteB (decide ((IntKind.i64.wrap (p1 + (1 : Int))) < (p0.length : Int))) ((ixS p0 p1).bind fun x2 => some (x2 == (115 : Int))) (some false) : Option (Bool)).bind fun x1 => (iteB x1 ((ixS p0 (IntKind.i64.wrap (p1 + (1 : Int)))).bind fun x4 => some (x4 != (92 : Int))) (some false) : Option (Bool)).bind fun x3 => (iteB x3 ((ixS p0 (IntKind.i64.wrap (p1 + (1 : Int)))).bind fun x6 => some (x6 != (10 : Int))) (some false) : Option (Bool)).bind fun x5 => some x5
theorem ok_rewrite_begins {p0 p1 q0} (hm : M_rewrite_begins p0 p1 = some q0) (A : HH g h [] F) (hc : canL (cfg.still 22) av = [.str p0, .int .i64 p1] := by kernel_rfl) : ∃ v h', Runs cfg g h 22 av v h' ∧ v = .bool q0 ∧ HH g h' [] F := by
 refine rq1 30 [.tmp 4] hc ?_
 clear hc
 unfold M_rewrite_begins at hm
 refine bg 30 [(0, .str p0), (1, .int .i64 p1)] fun fr H => ?_
 refine aw_sr 1 ?_
 refine at_es 1 [] 26 H (fun _ => id) fun fr H => ?_
 refine at_sl 6 [(10, .bool (decide ((IntKind.i64.wrap (p1 + (1 : Int))) < (p0.length : Int))))] H fun fr H => ?_
 obtain ⟨x1, ho, hm⟩ := bind_some hm
 refine at_cl 5 (fun fr' h' => Has fr' 30 [(0, .str p0), (1, .int .i64 p1), (15, .bool x1)] ∧ HH g h' [] F) ?_ ?_
 ·rcases iteB_some ho with ⟨hb, hm⟩ | ⟨hb, hm⟩
  ·replace H := H.kn 10 hb
   obtain ⟨x2, hx, hm⟩ := bind_some hm
   refine at_g1 2 [] 13 (.int .u8 x2) h H (fun fr => .of (s_ixS (by kernel_rfl) hx)) fun fr t H => ?_
   refine at_sl 2 [(15, .bool (x2 == (115 : Int)))] H fun fr H => ?_
   obtain rfl := injA hm
   exact at_nil ⟨H.ls, A⟩
  replace H := H.kn 10 hb
  refine at_sl 5 [(15, .bool false)] H fun fr H => ?_
  obtain rfl := injA hm
  exact at_nil ⟨H.ls, A⟩
 clear A
 intro t fr h1 hK
 obtain ⟨H, A⟩ := hK
 refine at_sl 1 [(16, .bool x1)] H fun fr H => ?_
 obtain ⟨x3, ho, hm⟩ := bind_some hm
 refine at_cl 6 (fun fr' h' => Has fr' 30 [(0, .str p0), (1, .int .i64 p1), (22, .bool x3)] ∧ HH g h' [] F) ?_ ?_
 ·rcases iteB_some ho with ⟨hb, hm⟩ | ⟨hb, hm⟩
  ·replace H := H.kn 16 hb
   obtain ⟨x4, hx, hm⟩ := bind_some hm
   refine at_g1 3 [] 20 (.int .u8 x4) h1 H (fun fr => .of (s_ixS (by kernel_rfl) hx)) fun fr t H => ?_
   refine at_sl 2 [(22, .bool (x4 != (92 : Int)))] H fun fr H => ?_
   obtain rfl := injA hm
   exact at_nil ⟨H.ls, A⟩
  replace H := H.kn 16 hb
  refine at_sl 6 [(22, .bool false)] H fun fr H => ?_
  obtain rfl := injA hm
  exact at_nil ⟨H.ls, A⟩
 clear A
 intro t fr h2 hK
 obtain ⟨H, A⟩ := hK
 refine at_sl 1 [(23, .bool x3)] H fun fr H => ?_
 obtain ⟨x5, ho, hm⟩ := bind_some hm
 refine at_cl 6 (fun fr' h' => Has fr' 30 [(29, .bool x5)] ∧ HH g h' [] F) ?_ ?_
 ·rcases iteB_some ho with ⟨hb, hm⟩ | ⟨hb, hm⟩
  ·replace H := H.kn 23 hb
   obtain ⟨x6, hx, hm⟩ := bind_some hm
   refine at_g1 3 [] 27 (.int .u8 x6) h2 H (fun fr => .of (s_ixS (by kernel_rfl) hx)) fun fr t H => ?_
   refine at_sl 2 [(29, .bool (x6 != (10 : Int)))] H fun fr H => ?_
   obtain rfl := injA hm
   exact at_nil ⟨H.ls, A⟩
  replace H := H.kn 23 hb
  refine at_sl 6 [(29, .bool false)] H fun fr H => ?_
  obtain rfl := injA hm
  exact at_nil ⟨H.ls, A⟩
 clear A
 intro t fr h3 hK
 obtain ⟨H, A⟩ := hK
 refine at_el 1 [(4, .bool x5)] H (fun _ => id) fun fr H => ?_
 refine aw_rt ?_
 obtain rfl := injA hm
 exact ⟨.inl rfl, _, rH H, rfl, A⟩
noncomputable def M_rewrite_part_L0 (p0 : List UInt8) (p2 : Int) (s : (List UInt8) × Int) : Option (((List UInt8) × Int) ⊕ ((Unit) ⊕ ((List UInt8) × Int × Bool))) :=
 match s with
 | (x1, x2) => iteB (decide (x2 < (p0.length : Int))) (((ixS p0 x2).bind fun x11 => iteB (x11 == p2) (some (.inr (x1, IntKind.i64.wrap (x2 + (1 : Int)), true))) ((ixS p0 x2).bind fun x12 => iteB ((x12 == (92 : Int)) && (decide ((IntKind.i64.wrap (x2 + (1 : Int))) < (p0.length : Int)))) (((ixS p0 (IntKind.i64.wrap (x2 + (1 : Int)))).bind fun x14 => iteB (x14 != p2) (need (okN 1 (x1.length + ([(92 : UInt8)] : List UInt8).length)) <| some (x1 ++ ([(92 : UInt8)] : List UInt8))) (some x1) : Option (((List UInt8)))).bind fun x13 => some (.inl (x13, IntKind.i64.wrap (x2 + (1 : Int))))) (some (.inl (x1, x2)))) : Option (((List UInt8) × Int) ⊕ ((List UInt8) × Int × Bool))).bind fun o2 => (match o2 with | .inl (x6, x7) => (ixS p0 x7).bind fun x15 => (toY x15).bind fun x16 => need (okN 1 (x6.length + ([x16] : List UInt8).length)) <| some (.inl ((x6 ++ ([x16] : List UInt8)), IntKind.i64.wrap (x7 + (1 : Int)))) | .inr (x8, x9, x10) => some (.inr (.inr (x8, x9, x10))))) (some (.inr (.inl ())))
noncomputable def M_rewrite_part (p0 : List UInt8) (p1 : Int) (p2 : Int) : Option ((List UInt8) × Int × Bool) :=
 (loop (M_rewrite_part_L0 p0 p2) (([] : List UInt8), p1)).bind fun o1 => (match o1 with | .inl _ => some (([] : List UInt8), (p0.length : Int), false) | .inr (x3, x4, x5) => some (x3, x4, x5))
theorem ok_rewrite_part {p0 p1 p2 q0 q1 q2} (hm : M_rewrite_part p0 p1 p2 = some (q0, q1, q2)) (A : HH g h [] F) (hc : canL (cfg.still 23) av = [.str p0, .int .i64 p1, .int .u8 p2] := by kernel_rfl) : ∃ v h', Runs cfg g h 23 av v h' ∧ v = .tuple [.str q0, .int .i64 q1, .bool q2] ∧ HH g h' [] F := by
 refine rq1 57 [.tmp 6, .tmp 7, .tmp 8] hc ?_
 clear hc
 unfold M_rewrite_part at hm
 refine bg 57 [(0, .str p0), (1, .int .i64 p1), (2, .int .u8 p2)] fun fr H => ?_
 refine aw_sr 3 ?_
 refine at_es 3 [] 1 H (fun _ => id) fun fr H => ?_
 refine at_el 1 [(9, .slice none 0)] H (fun _ => id) fun fr H => ?_
 refine aw_sq ?_
 refine aw_block (id := 0) (by kernel_rfl) ?_
 replace A : HH g h [.lst none 5 (lst eY ([] : List UInt8))] F := A.nilL 5
 obtain ⟨o1, ho, hm⟩ := bind_some hm
 refine aw_mono (Q' := fun e fr' h' => (e = .exit 0 ∧ .inl () = o1 ∧ Has fr' 57 [(0, .str p0)] ∧ HH g h' [] F) ∨ (∃ x3 x4 x5, e = .ret ∧ .inr (x3, x4, x5) = o1 ∧ Has fr' 57 [(6, .str x3), (7, .int .i64 x4), (8, .bool x5)] ∧ HH g h' [] F) ∨ False) ?_ ?_
 ·refine aw_loop (by kernel_rfl) (fun (s : (List UInt8) × Int) fr' h' => ∃ x1 x2, (x1, x2) = s ∧ ∃ r1, Has fr' 57 [(0, .str p0), (1, .int .i64 x2), (2, .int .u8 p2), (9, rowV r1 x1.length)] ∧ HH g h' [.lst r1 5 (lst eY x1)] F) ho ⟨_, _, rfl, none, H.ls, A⟩ ?_
  clear ho hm H A
  intro s q fr h1 hI hm
  obtain ⟨x1, x2, rfl, r1, H, A⟩ := hI
  unfold M_rewrite_part_L0 at hm
  refine aw_sq ?_
  refine aw_sr 4 ?_
  refine at_el 4 [(13, .bool (decide (x2 < (p0.length : Int))))] H (fun _ => id) fun fr H => ?_
  refine aw_if 13 H hm (fun hb hm H => ?_) fun hb hm H => ?_
  ·refine aw_kn id ?_
   refine aw_sq ?_
   refine aw_block (id := 1) (by kernel_rfl) ?_
   refine aw_sq ?_
   obtain ⟨o2, ho, hm⟩ := bind_some hm
   refine aw_mono (Q' := fun e fr' h' => (∃ x6 x7, e = .normal ∧ .inl (x6, x7) = o2 ∧ ∃ r2, Has fr' 57 [(0, .str p0), (1, .int .i64 x7), (2, .int .u8 p2), (9, rowV r2 x6.length)] ∧ HH g h' [.lst r2 5 (lst eY x6)] F) ∨ (∃ x8 x9 x10, e = .ret ∧ .inr (x8, x9, x10) = o2 ∧ Has fr' 57 [(6, .str x8), (7, .int .i64 x9), (8, .bool x10)] ∧ HH g h' [] F) ∨ False) ?_ ?_
   ·replace hm := ho
    clear ho
    refine aw_block (id := 2) (by kernel_rfl) ?_
    refine aw_sr 6 ?_
    obtain ⟨x11, hx, hm⟩ := bind_some hm
    refine at_g1 2 [] 19 (.int .u8 x11) h1 H (fun fr => .of (s_ixS (by kernel_rfl) hx)) fun fr t H => ?_
    refine at_el 3 [(16, .bool (x11 == p2))] H (fun _ => id) fun fr H => ?_
    refine aw_if 16 H hm (fun hb hm H => ?_) fun hb hm H => ?_
    ·refine aw_sr 7 ?_
     refine at_sl 1 [(22, rowV r1 x1.length)] H fun fr H => ?_
     refine at_l1 23 (.str x1) h1 H (fun fr => .of (s_byO (xs := x1) A 0 rfl (by kernel_rfl))) fun fr t H => ?_
     refine at_el 5 [(6, .str x1), (7, .int .i64 (IntKind.i64.wrap (x2 + (1 : Int)))), (8, .bool true)] H (fun _ => id) fun fr H => ?_
     refine aw_rt ?_
     replace A := A.d0
     exact .inr (.inl ⟨_, _, _, rfl, injA hm, H.ls, A⟩)
    refine aw_sr 12 ?_
    obtain ⟨x12, hx, hm⟩ := bind_some hm
    refine at_g1 2 [] 29 (.int .u8 x12) h1 H (fun fr => .of (s_ixS (by kernel_rfl) hx)) fun fr t H => ?_
    refine at_sl 2 [(31, .bool (x12 == (92 : Int)))] H fun fr H => ?_
    refine at_cl 6 (fun fr' h' => h1 = h' ∧ Has fr' 57 [(0, .str p0), (1, .int .i64 x2), (2, .int .u8 p2), (9, rowV r1 x1.length), (37, .bool ((x12 == (92 : Int)) && (decide ((IntKind.i64.wrap (x2 + (1 : Int))) < (p0.length : Int)))))]) ?_ ?_
    ·cases hb : (x12 == (92 : Int) : Bool) with
     | true =>
      replace H := H.kn 31 hb
      refine at_sl 6 [(37, .bool (decide ((IntKind.i64.wrap (x2 + (1 : Int))) < (p0.length : Int))))] H fun fr H => ?_
      exact at_zb H hb
     | false =>
      replace H := H.kn 31 hb
      refine at_sl 6 [(37, .bool false)] H fun fr H => ?_
      exact at_zb H hb
    intro t fr h' hK
    obtain ⟨e, H⟩ := hK
    subst e
    refine at_el 1 [(26, .bool ((x12 == (92 : Int)) && (decide ((IntKind.i64.wrap (x2 + (1 : Int))) < (p0.length : Int)))))] H (fun _ => id) fun fr H => ?_
    refine aw_if 26 H hm (fun hb hm H => ?_) fun hb hm H => ?_
    ·refine aw_sq ?_
     obtain ⟨o3, ho, hm⟩ := bind_some hm
     refine aw_mono (Q' := fun e fr' h' => (∃ x13, e = .normal ∧ x13 = o3 ∧ ∃ r3, Has fr' 57 [(0, .str p0), (1, .int .i64 x2), (2, .int .u8 p2), (9, rowV r3 x13.length)] ∧ HH g h' [.lst r3 5 (lst eY x13)] F) ∨ False) ?_ ?_
     ·replace hm := ho
      clear ho
      refine aw_sr 6 ?_
      obtain ⟨x14, hx, hm⟩ := bind_some hm
      refine at_g1 3 [] 41 (.int .u8 x14) h1 H (fun fr => .of (s_ixS (by kernel_rfl) hx)) fun fr t H => ?_
      refine at_el 2 [(43, .bool (x14 != p2))] H (fun _ => id) fun fr H => ?_
      refine aw_if 43 H hm (fun hb hm H => ?_) fun hb hm H => ?_
      ·refine aw_rg 4 ?_
       refine at_sl 1 [(44, rowV r1 x1.length)] H fun fr H => ?_
       obtain ⟨h2, e1, A⟩ := A.pL 5 [.int .u8 92]
       refine at_ln 45 (rowV (some h1.size) (([(92 : UInt8)] : List UInt8).length)) e1 H fun fr t H => ?_
       obtain ⟨hb, hm⟩ := need_some hm
       obtain ⟨r4, h3, hx, A1⟩ := HH.appO encY (by decide) A 1 (xs := x1) (ys := ([(92 : UInt8)] : List UInt8)) rfl (row_first A 0 rfl (n := ([(92 : UInt8)] : List UInt8).length) (z := 1) rfl (by decide)) rfl rfl hb
       replace A : HH g h3 [.lst (some h1.size) 5 ([.int .u8 92]), .lst r4 5 (lst eY (x1 ++ ([(92 : UInt8)] : List UInt8)))] F := A1
       replace A := A.k1 1
       refine at_l1 46 _ _ H (fun fr => .of (s_app (s := rowS r1 x1.length) (by kernel_rfl) hx)) fun fr t H => ?_
       refine at_se 1 [(0, .str p0), (1, .int .i64 x2), (2, .int .u8 p2), (9, rowV r4 ((x1 ++ ([(92 : UInt8)] : List UInt8)).length))] H fun fr H => ?_
       refine at_nil ?_
       exact .inl ⟨_, rfl, injA hm, _, H.ls, A⟩
      refine aw_sk ?_
      exact .inl ⟨_, rfl, injA hm, _, H.ls, A⟩
     clear ho
     clear A
     intro e fr h4 hQ
     rcases hQ with ⟨x13, rfl, rfl, r3, H, A⟩ | hF
     ·show AW _ _ _ _ _ _ _
      refine aw_rg 3 ?_
      refine at_se 3 [(0, .str p0), (1, .int .i64 (IntKind.i64.wrap (x2 + (1 : Int)))), (2, .int .u8 p2), (9, rowV r3 x13.length)] H fun fr H => ?_
      refine at_nil ?_
      exact .inl ⟨_, _, rfl, injA hm, _, H.ls, A⟩
     exact hF.elim
    refine aw_sk ?_
    exact .inl ⟨_, _, rfl, injA hm, _, H.ls, A⟩
   clear ho
   clear A
   intro e fr h5 hQ
   rcases hQ with ⟨x6, x7, rfl, rfl, r2, H, A⟩ | ⟨x8, x9, x10, rfl, rfl, H, A⟩ | hF
   ·show AW _ _ _ _ _ _ _
    refine aw_rg 7 ?_
    obtain ⟨x15, hx, hm⟩ := bind_some hm
    refine at_g1 3 [(49, rowV r2 x6.length)] 52 (.int .u8 x15) h5 H (fun fr => .of (s_ixS (by kernel_rfl) hx)) fun fr t H => ?_
    obtain ⟨x16, hx, hm⟩ := bind_some hm
    have hx := toY_eq hx
    have kH := hm
    have kA := A
    have kR := H
    subst hx
    have hm := kH
    have A := kA
    have H := kR
    clear kH kA kR
    obtain ⟨h6, e2, A⟩ := A.pL 5 [.int .u8 (x16.toNat : Int)]
    refine at_ln 53 (rowV (some h5.size) (([x16] : List UInt8).length)) e2 H fun fr t H => ?_
    obtain ⟨hb, hm⟩ := need_some hm
    obtain ⟨r5, h7, hx, A1⟩ := HH.appO encY (by decide) A 1 (xs := x6) (ys := ([x16] : List UInt8)) rfl (row_first A 0 rfl (n := ([x16] : List UInt8).length) (z := 1) rfl (by decide)) rfl rfl hb
    replace A : HH g h7 [.lst (some h5.size) 5 ([.int .u8 (x16.toNat : Int)]), .lst r5 5 (lst eY (x6 ++ ([x16] : List UInt8)))] F := A1
    replace A := A.k1 1
    refine at_l1 54 _ _ H (fun fr => .of (s_app (s := rowS r2 x6.length) (by kernel_rfl) hx)) fun fr t H => ?_
    refine at_se 1 [(0, .str p0), (1, .int .i64 x7), (2, .int .u8 p2), (9, rowV r5 ((x6 ++ ([x16] : List UInt8)).length))] H fun fr H => ?_
    refine at_nr 3 id ?_
    refine at_se 3 [(0, .str p0), (1, .int .i64 (IntKind.i64.wrap (x7 + (1 : Int)))), (2, .int .u8 p2), (9, rowV r5 ((x6 ++ ([x16] : List UInt8)).length))] H fun fr H => ?_
    refine at_nil ?_
    exact nx hm ⟨_, _, rfl, _, H.ls, A⟩
   ·exact nr hm fun e => Or.inr (.inl ⟨_, _, _, rfl, e, H.ls, A⟩)
   exact hF.elim
  refine aw_exit (i := 0) (by kernel_rfl) ?_
  replace A := A.d0
  exact nr hm fun e => .inl ⟨rfl, e, H.ls, A⟩
 clear ho
 clear A
 intro e fr h8 hQ
 rcases hQ with ⟨rfl, rfl, H, A⟩ | ⟨x3, x4, x5, rfl, rfl, H, A⟩ | hF
 ·show AW _ _ _ _ _ _ _
  refine aw_sr 5 ?_
  refine at_el 5 [(6, .str ([] : List UInt8)), (7, .int .i64 (p0.length : Int)), (8, .bool false)] H (fun _ => id) fun fr H => ?_
  refine aw_rt ?_
  obtain ⟨rfl, rfl, rfl⟩ := injC hm
  exact ⟨.inl rfl, _, rH H, rfl, A⟩
 ·obtain ⟨rfl, rfl, rfl⟩ := injC hm
  exact ⟨.inl rfl, _, rH H, rfl, A⟩
 exact hF.elim
noncomputable def M_rewrite_List_L1 (p0 : List UInt8) (x6 : Int) (s : Int × Int) : Option ((Int × Int) ⊕ ((Int) ⊕ (Bool))) :=
 match s with
 | (x7, x8) => iteB (decide (x8 < (2 : Int))) ((M_rewrite_part p0 x7 x6).bind fun (x11, x12, x13) => iteB (!x13) (some (.inr (.inr false))) (some (.inl (x12, IntKind.i64.wrap (x8 + (1 : Int)))))) (some (.inr (.inl x7)))
noncomputable def M_rewrite_List_L0 (p0 : List UInt8) (s : (List (List UInt8)) × Int) : Option (((List (List UInt8)) × Int) ⊕ (((List (List UInt8)) × Bool))) :=
 match s with
 | (x1, x2) => (M_rewrite_begins p0 x2).bind fun x5 => iteB (!x5) (some (.inr (([] : List (List UInt8)), false))) ((ixS p0 (IntKind.i64.wrap (x2 + (1 : Int)))).bind fun x6 => (loop (M_rewrite_List_L1 p0 x6) (IntKind.i64.wrap (x2 + (2 : Int)), (0 : Int))).bind fun o2 => (match o2 with | .inl x9 => (subS p0 (some x9) none).bind fun x14 => (M_strings_IndexByte x14 (59 : Int)).bind fun x15 => iteB (decide (x15 < (0 : Int))) ((subS p0 (some x2) none).bind fun x16 => need (okN 16 (x1.length + ([x16] : List (List UInt8)).length)) <| some (.inr ((x1 ++ ([x16] : List (List UInt8))), true))) ((subS p0 (some x2) (some (IntKind.i64.wrap (x9 + x15)))).bind fun x17 => need (okN 16 (x1.length + ([x17] : List (List UInt8)).length)) <| some (.inl ((x1 ++ ([x17] : List (List UInt8))), IntKind.i64.wrap (x9 + (IntKind.i64.wrap (x15 + (1 : Int))))))) | .inr x10 => some (.inr (([] : List (List UInt8)), x10))))
noncomputable def M_rewrite_List (p0 : List UInt8) : Option ((List (List UInt8)) × Bool) :=
 (loop (M_rewrite_List_L0 p0) (([] : List (List UInt8)), (0 : Int))).bind fun (x3, x4) => some (x3, x4)
theorem ok_rewrite_List {p0 q0 q1} (hm : M_rewrite_List p0 = some (q0, q1)) (A : HH g h [] F) (hc : canL (cfg.still 11) av = [.str p0] := by kernel_rfl) : ∃ v h', Runs cfg g h 11 av v h' ∧ ∃ (rq0 : Option Nat), v = .tuple [rowV rq0 q0.length, .bool q1] ∧ HH g h' [.lst rq0 9 (lst eS q0)] F := by
 refine rq1 59 [.tmp 2, .tmp 3] hc ?_
 clear hc
 unfold M_rewrite_List at hm
 refine bg 59 [(0, .str p0)] fun fr H => ?_
 refine aw_sr 2 ?_
 refine at_es 2 [] 1 H (fun _ => id) fun fr H => ?_
 refine at_es 1 [(4, .slice none 0)] 1 H (fun _ => id) fun fr H => ?_
 refine at_el 1 [(5, .int .i64 0)] H (fun _ => id) fun fr H => ?_
 refine aw_block (id := 0) (by kernel_rfl) ?_
 replace A : HH g h [.lst none 9 (lst eS ([] : List (List UInt8)))] F := A.nilL 9
 obtain ⟨o1, ho, hm⟩ := bind_some hm
 refine aw_mono (Q' := fun e fr' h' => (∃ x3 x4, e = .ret ∧ (x3, x4) = o1 ∧ ∃ r2, Has fr' 59 [(2, rowV r2 x3.length), (3, .bool x4)] ∧ HH g h' [.lst r2 9 (lst eS x3)] F) ∨ False) ?_ ?_
 ·refine aw_loop (by kernel_rfl) (fun (s : (List (List UInt8)) × Int) fr' h' => ∃ x1 x2, (x1, x2) = s ∧ ∃ r1, Has fr' 59 [(0, .str p0), (4, rowV r1 x1.length), (5, .int .i64 x2)] ∧ HH g h' [.lst r1 9 (lst eS x1)] F) ho ⟨_, _, rfl, none, H.ls, A⟩ ?_
  clear ho hm H A
  intro s q fr h1 hI hm
  obtain ⟨x1, x2, rfl, r1, H, A⟩ := hI
  unfold M_rewrite_List_L0 at hm
  refine aw_block (id := 1) (by kernel_rfl) ?_
  refine aw_sq ?_
  refine aw_sr 4 ?_
  obtain ⟨x5, hx, hm⟩ := bind_some hm
  obtain ⟨v1, h2, hr, rfl, A1⟩ := ok_rewrite_begins (av := [.str p0, .int .i64 x2]) hx (A.cut 0)
  replace A := A.g00 A1
  refine at_gc1 2 [] 12 hr H fun fr t H => ?_
  refine at_el 1 [(13, .bool (!x5))] H (fun _ => id) fun fr H => ?_
  refine aw_if 13 H hm (fun hb hm H => ?_) fun hb hm H => ?_
  ·refine aw_sr 2 ?_
   refine at_el 2 [(2, .slice none 0), (3, .bool false)] H (fun _ => id) fun fr H => ?_
   refine aw_rt ?_
   replace A : HH g h2 [.lst none 9 (lst eS ([] : List (List UInt8))), _] F := A.nilL 9
   replace A := A.d1
   exact nr hm fun e => .inl ⟨_, _, rfl, e, none, H.ls, A⟩
  refine aw_ks 3 id ?_
  refine at_es 3 [(6, .int .i64 x2)] 5 H (fun _ => id) fun fr H => ?_
  obtain ⟨x6, hx, hm⟩ := bind_some hm
  refine at_g1 3 [] 18 (.int .u8 x6) h2 H (fun fr => .of (s_ixS (by kernel_rfl) hx)) fun fr t H => ?_
  refine at_es 1 [(8, .int .u8 x6)] 3 H (fun _ => id) fun fr H => ?_
  refine at_se 3 [(0, .str p0), (4, rowV r1 x1.length), (5, .int .i64 (IntKind.i64.wrap (x2 + (2 : Int)))), (6, .int .i64 x2), (8, .int .u8 x6)] H fun fr H => ?_
  refine at_nl id ?_
  refine aw_sq ?_
  refine aw_sr 1 ?_
  refine at_el 1 [(21, .int .i64 0)] H (fun _ => id) fun fr H => ?_
  refine aw_block (id := 2) (by kernel_rfl) ?_
  obtain ⟨o2, ho, hm⟩ := bind_some hm
  refine aw_mono (Q' := fun e fr' h' => (∃ x9, e = .exit 2 ∧ .inl x9 = o2 ∧ Has fr' 59 [(0, .str p0), (4, rowV r1 x1.length), (5, .int .i64 x9), (6, .int .i64 x2)] ∧ HH g h' [.lst r1 9 (lst eS x1)] F) ∨ (∃ x10, e = .ret ∧ .inr x10 = o2 ∧ Has fr' 59 [(2, .slice none 0), (3, .bool x10)] ∧ HH g h' [] F) ∨ False) ?_ ?_
  ·refine aw_loop (by kernel_rfl) (fun (s : Int × Int) fr' h' => ∃ x7 x8, (x7, x8) = s ∧ Has fr' 59 [(0, .str p0), (4, rowV r1 x1.length), (5, .int .i64 x7), (6, .int .i64 x2), (8, .int .u8 x6), (21, .int .i64 x8)] ∧ HH g h' [.lst r1 9 (lst eS x1)] F) ho ⟨_, _, rfl, H.ls, A⟩ ?_
   clear ho hm H A
   intro s q fr h3 hI hm
   obtain ⟨x7, x8, rfl, H, A⟩ := hI
   unfold M_rewrite_List_L1 at hm
   refine aw_sr 1 ?_
   refine at_el 1 [(22, .bool (decide (x8 < (2 : Int))))] H (fun _ => id) fun fr H => ?_
   refine aw_sq ?_
   refine aw_if 22 H hm (fun hb hm H => ?_) fun hb hm H => ?_
   ·refine aw_kn id ?_
    refine aw_sq ?_
    refine aw_block (id := 3) (by kernel_rfl) ?_
    refine aw_sr 10 ?_
    obtain ⟨⟨x11, x12, x13⟩, hx, hm⟩ := bind_some hm
    obtain ⟨v1, h4, hr, rfl, A1⟩ := ok_rewrite_part (av := [.str p0, .int .i64 x7, .int .u8 x6]) hx (A.cut 0)
    replace A := A.g00 A1
    refine at_gc1 3 [] 27 hr H fun fr t H => ?_
    refine at_se 6 [(0, .str p0), (4, rowV r1 x1.length), (5, .int .i64 x12), (6, .int .i64 x2), (7, .bool x13), (8, .int .u8 x6), (21, .int .i64 x8)] H fun fr H => ?_
    refine at_ns 2 id ?_
    refine at_el 2 [(32, .bool (!x13))] H (fun _ => id) fun fr H => ?_
    refine aw_if 32 H hm (fun hb hm H => ?_) fun hb hm H => ?_
    ·refine aw_sr 2 ?_
     refine at_el 2 [(2, .slice none 0), (3, .bool false)] H (fun _ => id) fun fr H => ?_
     refine aw_rt ?_
     replace A := A.d0
     exact nr hm fun e => Or.inr (.inl ⟨_, rfl, e, H.ls, A⟩)
    refine aw_kr 2 id ?_
    refine at_se 2 [(0, .str p0), (4, rowV r1 x1.length), (5, .int .i64 x12), (6, .int .i64 x2), (8, .int .u8 x6), (21, .int .i64 (IntKind.i64.wrap (x8 + (1 : Int))))] H fun fr H => ?_
    refine at_nil ?_
    exact nx hm ⟨_, _, rfl, H.ls, A⟩
   refine aw_exit (i := 2) (by kernel_rfl) ?_
   exact nr hm fun e => .inl ⟨_, rfl, e, H.ls, A⟩
  clear ho
  clear A
  intro e fr h5 hQ
  rcases hQ with ⟨x9, rfl, rfl, H, A⟩ | ⟨x10, rfl, rfl, H, A⟩ | hF
  ·show AW _ _ _ _ _ _ _
   refine aw_sr 5 ?_
   obtain ⟨x14, hx, hm⟩ := bind_some hm
   refine at_g1 2 [] 36 (.str x14) h5 H (fun fr => .of (s_subS (k := .i64) (k' := .i64) (lo := (some x9)) (hi := none) (by kernel_rfl) hx)) fun fr t H => ?_
   obtain ⟨x15, hx, hm⟩ := bind_some hm
   obtain ⟨v1, h6, hr, rfl, A1⟩ := ok_strings_IndexByte (av := [.str x14, .int .u8 59]) hx (A.cut 0)
   replace A := A.g00 A1
   refine at_lc1 37 hr H fun fr t H => ?_
   refine at_el 1 [(9, .int .i64 x15)] H (fun _ => id) fun fr H => ?_
   refine aw_sq ?_
   refine aw_sr 2 ?_
   refine at_el 2 [(39, .bool (decide (x15 < (0 : Int))))] H (fun _ => id) fun fr H => ?_
   refine aw_if 39 H hm (fun hb hm H => ?_) fun hb hm H => ?_
   ·refine aw_sr 8 ?_
    obtain ⟨x16, hx, hm⟩ := bind_some hm
    refine at_g1 3 [(40, rowV r1 x1.length)] 43 (.str x16) h6 H (fun fr => .of (s_subS (k := .i64) (k' := .i64) (lo := (some x2)) (hi := none) (by kernel_rfl) hx)) fun fr t H => ?_
    obtain ⟨h7, e1, A⟩ := A.pL 9 [.str x16]
    refine at_ln 44 (rowV (some h6.size) (([x16] : List (List UInt8)).length)) e1 H fun fr t H => ?_
    obtain ⟨hb, hm⟩ := need_some hm
    obtain ⟨r3, h8, hx, A1⟩ := HH.appO encS (by decide) A 1 (xs := x1) (ys := ([x16] : List (List UInt8))) rfl (row_first A 0 rfl (n := ([x16] : List (List UInt8)).length) (z := 1) rfl (by decide)) rfl rfl hb
    replace A : HH g h8 [.lst (some h6.size) 9 ([.str x16]), .lst r3 9 (lst eS (x1 ++ ([x16] : List (List UInt8))))] F := A1
    replace A := A.k1 1
    refine at_l1 45 _ _ H (fun fr => .of (s_app (s := rowS r1 x1.length) (by kernel_rfl) hx)) fun fr t H => ?_
    refine at_el 2 [(2, rowV r3 ((x1 ++ ([x16] : List (List UInt8))).length)), (3, .bool true)] H (fun _ => id) fun fr H => ?_
    refine aw_rt ?_
    exact nr hm fun e => .inl ⟨_, _, rfl, e, _, H.ls, A⟩
   refine aw_ks 10 id ?_
   obtain ⟨x17, hx, hm⟩ := bind_some hm
   refine at_g1 6 [(46, rowV r1 x1.length)] 52 (.str x17) h6 H (fun fr => .of (s_subS (k := .i64) (k' := .i64) (lo := (some x2)) (hi := (some (IntKind.i64.wrap (x9 + x15)))) (by kernel_rfl) hx)) fun fr t H => ?_
   obtain ⟨h9, e2, A⟩ := A.pL 9 [.str x17]
   refine at_ln 53 (rowV (some h6.size) (([x17] : List (List UInt8)).length)) e2 H fun fr t H => ?_
   obtain ⟨hb, hm⟩ := need_some hm
   obtain ⟨r4, h10, hx, A1⟩ := HH.appO encS (by decide) A 1 (xs := x1) (ys := ([x17] : List (List UInt8))) rfl (row_first A 0 rfl (n := ([x17] : List (List UInt8)).length) (z := 1) rfl (by decide)) rfl rfl hb
   replace A : HH g h10 [.lst (some h6.size) 9 ([.str x17]), .lst r4 9 (lst eS (x1 ++ ([x17] : List (List UInt8))))] F := A1
   replace A := A.k1 1
   refine at_l1 54 _ _ H (fun fr => .of (s_app (s := rowS r1 x1.length) (by kernel_rfl) hx)) fun fr t H => ?_
   refine at_se 1 [(0, .str p0), (4, rowV r4 ((x1 ++ ([x17] : List (List UInt8))).length)), (5, .int .i64 x9), (9, .int .i64 x15)] H fun fr H => ?_
   refine at_nr 5 id ?_
   refine at_se 5 [(0, .str p0), (4, rowV r4 ((x1 ++ ([x17] : List (List UInt8))).length)), (5, .int .i64 (IntKind.i64.wrap (x9 + (IntKind.i64.wrap (x15 + (1 : Int))))))] H fun fr H => ?_
   refine at_nil ?_
   exact nx hm ⟨_, _, rfl, _, H.ls, A⟩
  ·replace A : HH g h5 [.lst none 9 (lst eS ([] : List (List UInt8)))] F := A.nilL 9
   exact nr hm fun e => .inl ⟨_, _, rfl, e, none, H.ls, A⟩
  exact hF.elim
 clear ho
 clear A
 intro e fr h11 hQ
 rcases hQ with ⟨x3, x4, rfl, rfl, r2, H, A⟩ | hF
 ·obtain ⟨rfl, rfl⟩ := injB hm
  exact ⟨.inl rfl, _, rH H, _, rfl, A⟩
 exact hF.elim
noncomputable def M_rewrite_Expr_flags_L1 (p1 : List UInt8) (s : Int) : Option ((Int) ⊕ ((Int))) :=
 match s with
 | x38 => (iteB (decide (x38 < (p1.length : Int))) ((ixS p1 x38).bind fun x41 => some (decide (x41 ≥ (48 : Int)))) (some false) : Option (Bool)).bind fun x40 => (iteB x40 ((ixS p1 x38).bind fun x43 => some (decide (x43 ≤ (57 : Int)))) (some false) : Option (Bool)).bind fun x42 => iteB x42 (some (.inl (IntKind.i64.wrap (x38 + (1 : Int))))) (some (.inr x38))
noncomputable def M_rewrite_Expr_flags_L0 (p1 : List UInt8) (s : (List (Int × Bool)) × Bool × Bool × Bool × Bool × Bool × Bool × Int) : Option (((List (Int × Bool)) × Bool × Bool × Bool × Bool × Bool × Bool × Int) ⊕ (((List (Int × Bool)) × Bool × Bool × Bool × Bool × Bool × Bool) ⊕ ((List (Int × Bool)) × Bool × Bool × Bool × Bool × Bool × Bool × Int))) :=
 match s with
 | (x1, x2, x3, x4, x5, x6, x7, x8) => iteB (decide (x8 < (p1.length : Int))) ((ixS p1 x8).bind fun x24 => (iteB (x24 == (103 : Int)) (some (.inl (true, x3, x4, x5, x6, x7, IntKind.i64.wrap (x8 + (1 : Int)), bOr .u8 x24 (32 : Int)))) (iteB (x24 == (105 : Int)) (some (.inl (x2, true, x4, x5, x6, x7, IntKind.i64.wrap (x8 + (1 : Int)), bOr .u8 x24 (32 : Int)))) (iteB (x24 == (120 : Int)) (some (.inl (x2, x3, true, x5, x6, x7, IntKind.i64.wrap (x8 + (1 : Int)), bOr .u8 x24 (32 : Int)))) ((iteB (x24 == (114 : Int)) (some true) (some (x24 == (82 : Int))) : Option ((Bool))).bind fun x34 => iteB x34 (some (.inl (x2, x3, x4, x24 == (114 : Int), x6, x7, IntKind.i64.wrap (x8 + (1 : Int)), bOr .u8 x24 (32 : Int)))) ((iteB (x24 == (115 : Int)) (some true) (some (x24 == (83 : Int))) : Option ((Bool))).bind fun x35 => iteB x35 (some (.inl (x2, x3, x4, x5, x24 == (115 : Int), x7, IntKind.i64.wrap (x8 + (1 : Int)), bOr .u8 x24 (32 : Int)))) ((iteB (x24 == (104 : Int)) (some true) (some (x24 == (72 : Int))) : Option ((Bool))).bind fun x36 => iteB x36 (some (.inl (x2, x3, x4, x5, x6, x24 == (104 : Int), IntKind.i64.wrap (x8 + (1 : Int)), bOr .u8 x24 (32 : Int)))) ((iteB (x24 == (49 : Int)) (some true) (iteB (x24 == (50 : Int)) (some true) (iteB (x24 == (51 : Int)) (some true) (iteB (x24 == (52 : Int)) (some true) (iteB (x24 == (53 : Int)) (some true) (iteB (x24 == (54 : Int)) (some true) (iteB (x24 == (55 : Int)) (some true) (iteB (x24 == (56 : Int)) (some true) (some (x24 == (57 : Int)))))))))) : Option ((Bool))).bind fun x37 => iteB x37 ((loop (M_rewrite_Expr_flags_L1 p1) (IntKind.i64.wrap (x8 + (1 : Int)))).bind fun x39 => iteB (decide ((IntKind.i64.wrap (x39 - x8)) > (4 : Int))) (some (.inr x8)) ((subS p1 (some x8) (some x39)).bind fun x44 => none)) (some (.inr x8)))))))) : Option ((Bool × Bool × Bool × Bool × Bool × Bool × Int × Int) ⊕ (Int))).bind fun o2 => (match o2 with | .inl (x25, x26, x27, x28, x29, x30, x31, x32) => iteB ((mfind x1 x32).getD false) (some (.inr (.inr (x1, x25, x26, x27, x28, x29, x30, x8)))) (some (.inl ((mput x1 x32 true), x25, x26, x27, x28, x29, x30, x31))) | .inr x33 => some (.inr (.inr (x1, x2, x3, x4, x5, x6, x7, x33))))) (some (.inr (.inl (x1, x2, x3, x4, x5, x6, x7))))
noncomputable def M_rewrite_Expr_flags (p0 : S_rewrite_Expr) (p1 : List UInt8) (p2 : Int) : Option (Int × S_rewrite_Expr) :=
 (loop (M_rewrite_Expr_flags_L0 p1) (([] : List (Int × Bool)), p0.Global, p0.Fold, p0.Extended, p0.Names, p0.Soft, p0.Hard, p2)).bind fun o1 => (match o1 with | .inl (x9, x10, x11, x12, x13, x14, x15) => some ((-1 : Int), (⟨p0.Re, p0.Template, x10, x11, x12, p0.Number, x13, x14, x15⟩ : S_rewrite_Expr)) | .inr (x16, x17, x18, x19, x20, x21, x22, x23) => some (x23, (⟨p0.Re, p0.Template, x17, x18, x19, p0.Number, x20, x21, x22⟩ : S_rewrite_Expr)))
theorem ok_rewrite_Expr_flags {p0 p1 p2 bp0 q0 u0} (hm : M_rewrite_Expr_flags p0 p1 p2 = some (q0, u0)) (A : HH g h [.obj bp0 (.cells none 2 (e_S_rewrite_Expr p0))] F) (hc : canL (cfg.still 24) av = [.ptr (some (bp0, 0)), .str p1, .int .i64 p2] := by kernel_rfl) : ∃ v h', Runs cfg g h 24 av v h' ∧ v = .int .i64 q0 ∧ HH g h' [.obj bp0 (.cells none 2 (e_S_rewrite_Expr u0))] F := by
 refine rq1 115 [.tmp 6] hc ?_
 clear hc
 unfold M_rewrite_Expr_flags at hm
 refine bg 115 [(0, .ptr (some (bp0, 0))), (1, .str p1), (2, .int .i64 p2)] fun fr H => ?_
 refine aw_sr 1 ?_
 refine at_es 1 [] 2 H (fun _ => id) fun fr H => ?_
 obtain ⟨h1, e1⟩ : ∃ x, x = h.push (.map 2 []) := ⟨_, rfl⟩
 replace A : HH g h1 [.obj h.size (.map 2 (encM (fun k : Int => .int .u8 k) (fun v : Bool => .bool v) ([] : List (Int × Bool)))), _] F := (A.push _).to e1
 refine at_ln 11 (.map (some h.size)) e1 H fun fr t H => ?_
 refine at_el 1 [(7, .map (some h.size))] H (fun _ => id) fun fr H => ?_
 refine aw_sq ?_
 refine aw_block (id := 0) (by kernel_rfl) ?_
 obtain ⟨o1, ho, hm⟩ := bind_some hm
 refine aw_mono (Q' := fun e fr' h' => (∃ x9 x10 x11 x12 x13 x14 x15, e = .exit 0 ∧ .inl (x9, x10, x11, x12, x13, x14, x15) = o1 ∧ Has fr' 115 [] ∧ HH g h' [.obj h.size (.map 2 (encM (fun k : Int => .int .u8 k) (fun v : Bool => .bool v) x9)), .obj bp0 (.cells none 2 [.str p0.Re, .str p0.Template, .bool x10, .bool x11, .bool x12, .int .i64 p0.Number, .bool x13, .bool x14, .bool x15])] F) ∨ (∃ x16 x17 x18 x19 x20 x21 x22 x23, e = .ret ∧ .inr (x16, x17, x18, x19, x20, x21, x22, x23) = o1 ∧ Has fr' 115 [(6, .int .i64 x23)] ∧ HH g h' [.obj h.size (.map 2 (encM (fun k : Int => .int .u8 k) (fun v : Bool => .bool v) x16)), .obj bp0 (.cells none 2 [.str p0.Re, .str p0.Template, .bool x17, .bool x18, .bool x19, .int .i64 p0.Number, .bool x20, .bool x21, .bool x22])] F) ∨ False) ?_ ?_
 ·refine aw_loop (by kernel_rfl) (fun (s : (List (Int × Bool)) × Bool × Bool × Bool × Bool × Bool × Bool × Int) fr' h' => ∃ x1 x2 x3 x4 x5 x6 x7 x8, (x1, x2, x3, x4, x5, x6, x7, x8) = s ∧ Has fr' 115 [(0, .ptr (some (bp0, 0))), (1, .str p1), (2, .int .i64 x8), (7, .map (some h.size))] ∧ HH g h' [.obj h.size (.map 2 (encM (fun k : Int => .int .u8 k) (fun v : Bool => .bool v) x1)), .obj bp0 (.cells none 2 [.str p0.Re, .str p0.Template, .bool x2, .bool x3, .bool x4, .int .i64 p0.Number, .bool x5, .bool x6, .bool x7])] F) ho ⟨_, _, _, _, _, _, _, _, rfl, H.ls, A⟩ ?_
  clear ho hm H A
  intro s q fr h2 hI hm
  obtain ⟨x1, x2, x3, x4, x5, x6, x7, x8, rfl, H, A⟩ := hI
  unfold M_rewrite_Expr_flags_L0 at hm
  refine aw_sq ?_
  refine aw_sr 4 ?_
  refine at_el 4 [(15, .bool (decide (x8 < (p1.length : Int))))] H (fun _ => id) fun fr H => ?_
  refine aw_if 15 H hm (fun hb hm H => ?_) fun hb hm H => ?_
  ·refine aw_kn id ?_
   refine aw_block (id := 1) (by kernel_rfl) ?_
   refine aw_sr 2 ?_
   refine at_es 2 [(8, .int .i64 x8)] 4 H (fun _ => id) fun fr H => ?_
   obtain ⟨x24, hx, hm⟩ := bind_some hm
   refine at_g1 2 [] 19 (.int .u8 x24) h2 H (fun fr => .of (s_ixS (by kernel_rfl) hx)) fun fr t H => ?_
   refine at_es 1 [(9, .int .u8 x24)] 3 H (fun _ => id) fun fr H => ?_
   refine at_se 3 [(0, .ptr (some (bp0, 0))), (1, .str p1), (2, .int .i64 (IntKind.i64.wrap (x8 + (1 : Int)))), (7, .map (some h.size)), (8, .int .i64 x8), (9, .int .u8 x24)] H fun fr H => ?_
   refine at_ns 3 id ?_
   refine at_el 3 [(10, .int .u8 (bOr .u8 x24 (32 : Int)))] H (fun _ => id) fun fr H => ?_
   refine aw_sq ?_
   obtain ⟨o2, ho, hm⟩ := bind_some hm
   refine aw_mono (Q' := fun e fr' h' => (∃ x25 x26 x27 x28 x29 x30 x31 x32, e = .normal ∧ .inl (x25, x26, x27, x28, x29, x30, x31, x32) = o2 ∧ Has fr' 115 [(0, .ptr (some (bp0, 0))), (1, .str p1), (2, .int .i64 x31), (7, .map (some h.size)), (8, .int .i64 x8), (10, .int .u8 x32)] ∧ HH g h' [.obj h.size (.map 2 (encM (fun k : Int => .int .u8 k) (fun v : Bool => .bool v) x1)), .obj bp0 (.cells none 2 [.str p0.Re, .str p0.Template, .bool x25, .bool x26, .bool x27, .int .i64 p0.Number, .bool x28, .bool x29, .bool x30])] F) ∨ (∃ x33, e = .ret ∧ .inr x33 = o2 ∧ Has fr' 115 [(6, .int .i64 x33)] ∧ HH g h' [.obj h.size (.map 2 (encM (fun k : Int => .int .u8 k) (fun v : Bool => .bool v) x1)), .obj bp0 (.cells none 2 [.str p0.Re, .str p0.Template, .bool x2, .bool x3, .bool x4, .int .i64 p0.Number, .bool x5, .bool x6, .bool x7])] F) ∨ False) ?_ ?_
   ·replace hm := ho
    clear ho
    refine aw_sr 1 ?_
    refine at_el 1 [(24, .int .u8 x24)] H (fun _ => id) fun fr H => ?_
    refine aw_block (id := 2) (by kernel_rfl) ?_
    refine aw_sr 2 ?_
    refine at_el 2 [(26, .bool (x24 == (103 : Int)))] H (fun _ => id) fun fr H => ?_
    refine aw_if 26 H hm (fun hb hm H => ?_) fun hb hm H => ?_
    ·refine aw_rg 4 ?_
     obtain ⟨h3, hx, A⟩ := A.s1 2 [.bool true] [_, _, _, _, _, _, _, _, _]
     refine at_gs 3 [] hx H fun fr t H => ?_
     refine at_nil ?_
     exact .inl ⟨_, _, _, _, _, _, _, _, rfl, injA hm, H.ls, A⟩
    refine aw_sr 2 ?_
    refine at_el 2 [(31, .bool (x24 == (105 : Int)))] H (fun _ => id) fun fr H => ?_
    refine aw_if 31 H hm (fun hb hm H => ?_) fun hb hm H => ?_
    ·refine aw_rg 4 ?_
     obtain ⟨h4, hx, A⟩ := A.s1 3 [.bool true] [_, _, _, _, _, _, _, _, _]
     refine at_gs 3 [] hx H fun fr t H => ?_
     refine at_nil ?_
     exact .inl ⟨_, _, _, _, _, _, _, _, rfl, injA hm, H.ls, A⟩
    refine aw_sr 2 ?_
    refine at_el 2 [(36, .bool (x24 == (120 : Int)))] H (fun _ => id) fun fr H => ?_
    refine aw_if 36 H hm (fun hb hm H => ?_) fun hb hm H => ?_
    ·refine aw_rg 4 ?_
     obtain ⟨h5, hx, A⟩ := A.s1 4 [.bool true] [_, _, _, _, _, _, _, _, _]
     refine at_gs 3 [] hx H fun fr t H => ?_
     refine at_nil ?_
     exact .inl ⟨_, _, _, _, _, _, _, _, rfl, injA hm, H.ls, A⟩
    refine aw_sq ?_
    obtain ⟨o3, ho, hm⟩ := bind_some hm
    refine aw_mono (Q' := fun e fr' h' => (∃ x34, e = .normal ∧ x34 = o3 ∧ Has fr' 115 [(0, .ptr (some (bp0, 0))), (1, .str p1), (2, .int .i64 (IntKind.i64.wrap (x8 + (1 : Int)))), (7, .map (some h.size)), (8, .int .i64 x8), (9, .int .u8 x24), (10, .int .u8 (bOr .u8 x24 (32 : Int))), (24, .int .u8 x24), (41, .bool x34)] ∧ HH g h' [.obj h.size (.map 2 (encM (fun k : Int => .int .u8 k) (fun v : Bool => .bool v) x1)), .obj bp0 (.cells none 2 [.str p0.Re, .str p0.Template, .bool x2, .bool x3, .bool x4, .int .i64 p0.Number, .bool x5, .bool x6, .bool x7])] F) ∨ False) ?_ ?_
    ·replace hm := ho
     clear ho
     refine aw_sr 2 ?_
     refine at_el 2 [(41, .bool (x24 == (114 : Int)))] H (fun _ => id) fun fr H => ?_
     refine aw_if 41 H hm (fun hb hm H => ?_) fun hb hm H => ?_
     ·refine aw_sk ?_
      exact .inl ⟨_, rfl, injA hm, H.ls, A⟩
     refine aw_rg 2 ?_
     refine at_se 2 [(0, .ptr (some (bp0, 0))), (1, .str p1), (2, .int .i64 (IntKind.i64.wrap (x8 + (1 : Int)))), (7, .map (some h.size)), (8, .int .i64 x8), (9, .int .u8 x24), (10, .int .u8 (bOr .u8 x24 (32 : Int))), (24, .int .u8 x24), (41, .bool (x24 == (82 : Int)))] H fun fr H => ?_
     refine at_nil ?_
     exact .inl ⟨_, rfl, injA hm, H.ls, A⟩
    clear ho
    clear A
    intro e fr h6 hQ
    rcases hQ with ⟨x34, rfl, rfl, H, A⟩ | hF
    ·show AW _ _ _ _ _ _ _
     refine aw_if 41 H hm (fun hb hm H => ?_) fun hb hm H => ?_
     ·refine aw_rg 6 ?_
      obtain ⟨h7, hx, A⟩ := A.s1 6 [.bool (x24 == (114 : Int))] [_, _, _, _, _, _, _, _, _]
      refine at_gs 5 [] hx H fun fr t H => ?_
      refine at_nil ?_
      exact .inl ⟨_, _, _, _, _, _, _, _, rfl, injA hm, H.ls, A⟩
     refine aw_sq ?_
     obtain ⟨o4, ho, hm⟩ := bind_some hm
     refine aw_mono (Q' := fun e fr' h' => (∃ x35, e = .normal ∧ x35 = o4 ∧ Has fr' 115 [(0, .ptr (some (bp0, 0))), (1, .str p1), (2, .int .i64 (IntKind.i64.wrap (x8 + (1 : Int)))), (7, .map (some h.size)), (8, .int .i64 x8), (9, .int .u8 x24), (10, .int .u8 (bOr .u8 x24 (32 : Int))), (24, .int .u8 x24), (49, .bool x35)] ∧ HH g h' [.obj h.size (.map 2 (encM (fun k : Int => .int .u8 k) (fun v : Bool => .bool v) x1)), .obj bp0 (.cells none 2 [.str p0.Re, .str p0.Template, .bool x2, .bool x3, .bool x4, .int .i64 p0.Number, .bool x5, .bool x6, .bool x7])] F) ∨ False) ?_ ?_
     ·replace hm := ho
      clear ho
      refine aw_sr 2 ?_
      refine at_el 2 [(49, .bool (x24 == (115 : Int)))] H (fun _ => id) fun fr H => ?_
      refine aw_if 49 H hm (fun hb hm H => ?_) fun hb hm H => ?_
      ·refine aw_sk ?_
       exact .inl ⟨_, rfl, injA hm, H.ls, A⟩
      refine aw_rg 2 ?_
      refine at_se 2 [(0, .ptr (some (bp0, 0))), (1, .str p1), (2, .int .i64 (IntKind.i64.wrap (x8 + (1 : Int)))), (7, .map (some h.size)), (8, .int .i64 x8), (9, .int .u8 x24), (10, .int .u8 (bOr .u8 x24 (32 : Int))), (24, .int .u8 x24), (49, .bool (x24 == (83 : Int)))] H fun fr H => ?_
      refine at_nil ?_
      exact .inl ⟨_, rfl, injA hm, H.ls, A⟩
     clear ho
     clear A
     intro e fr h8 hQ
     rcases hQ with ⟨x35, rfl, rfl, H, A⟩ | hF
     ·show AW _ _ _ _ _ _ _
      refine aw_if 49 H hm (fun hb hm H => ?_) fun hb hm H => ?_
      ·refine aw_rg 6 ?_
       obtain ⟨h9, hx, A⟩ := A.s1 7 [.bool (x24 == (115 : Int))] [_, _, _, _, _, _, _, _, _]
       refine at_gs 5 [] hx H fun fr t H => ?_
       refine at_nil ?_
       exact .inl ⟨_, _, _, _, _, _, _, _, rfl, injA hm, H.ls, A⟩
      refine aw_sq ?_
      obtain ⟨o5, ho, hm⟩ := bind_some hm
      refine aw_mono (Q' := fun e fr' h' => (∃ x36, e = .normal ∧ x36 = o5 ∧ Has fr' 115 [(0, .ptr (some (bp0, 0))), (1, .str p1), (2, .int .i64 (IntKind.i64.wrap (x8 + (1 : Int)))), (7, .map (some h.size)), (8, .int .i64 x8), (9, .int .u8 x24), (10, .int .u8 (bOr .u8 x24 (32 : Int))), (24, .int .u8 x24), (57, .bool x36)] ∧ HH g h' [.obj h.size (.map 2 (encM (fun k : Int => .int .u8 k) (fun v : Bool => .bool v) x1)), .obj bp0 (.cells none 2 [.str p0.Re, .str p0.Template, .bool x2, .bool x3, .bool x4, .int .i64 p0.Number, .bool x5, .bool x6, .bool x7])] F) ∨ False) ?_ ?_
      ·replace hm := ho
       clear ho
       refine aw_sr 2 ?_
       refine at_el 2 [(57, .bool (x24 == (104 : Int)))] H (fun _ => id) fun fr H => ?_
       refine aw_if 57 H hm (fun hb hm H => ?_) fun hb hm H => ?_
       ·refine aw_sk ?_
        exact .inl ⟨_, rfl, injA hm, H.ls, A⟩
       refine aw_rg 2 ?_
       refine at_se 2 [(0, .ptr (some (bp0, 0))), (1, .str p1), (2, .int .i64 (IntKind.i64.wrap (x8 + (1 : Int)))), (7, .map (some h.size)), (8, .int .i64 x8), (9, .int .u8 x24), (10, .int .u8 (bOr .u8 x24 (32 : Int))), (24, .int .u8 x24), (57, .bool (x24 == (72 : Int)))] H fun fr H => ?_
       refine at_nil ?_
       exact .inl ⟨_, rfl, injA hm, H.ls, A⟩
      clear ho
      clear A
      intro e fr h10 hQ
      rcases hQ with ⟨x36, rfl, rfl, H, A⟩ | hF
      ·show AW _ _ _ _ _ _ _
       refine aw_if 57 H hm (fun hb hm H => ?_) fun hb hm H => ?_
       ·refine aw_rg 6 ?_
        obtain ⟨h11, hx, A⟩ := A.s1 8 [.bool (x24 == (104 : Int))] [_, _, _, _, _, _, _, _, _]
        refine at_gs 5 [] hx H fun fr t H => ?_
        refine at_nil ?_
        exact .inl ⟨_, _, _, _, _, _, _, _, rfl, injA hm, H.ls, A⟩
       refine aw_sq ?_
       obtain ⟨o6, ho, hm⟩ := bind_some hm
       refine aw_mono (Q' := fun e fr' h' => (∃ x37, e = .normal ∧ x37 = o6 ∧ Has fr' 115 [(0, .ptr (some (bp0, 0))), (1, .str p1), (2, .int .i64 (IntKind.i64.wrap (x8 + (1 : Int)))), (7, .map (some h.size)), (8, .int .i64 x8), (65, .bool x37)] ∧ HH g h' [.obj h.size (.map 2 (encM (fun k : Int => .int .u8 k) (fun v : Bool => .bool v) x1)), .obj bp0 (.cells none 2 [.str p0.Re, .str p0.Template, .bool x2, .bool x3, .bool x4, .int .i64 p0.Number, .bool x5, .bool x6, .bool x7])] F) ∨ False) ?_ ?_
       ·replace hm := ho
        clear ho
        refine aw_sr 2 ?_
        refine at_el 2 [(65, .bool (x24 == (49 : Int)))] H (fun _ => id) fun fr H => ?_
        refine aw_if 65 H hm (fun hb hm H => ?_) fun hb hm H => ?_
        ·refine aw_sk ?_
         exact .inl ⟨_, rfl, injA hm, H.ls, A⟩
        refine aw_sr 2 ?_
        refine at_se 2 [(0, .ptr (some (bp0, 0))), (1, .str p1), (2, .int .i64 (IntKind.i64.wrap (x8 + (1 : Int)))), (7, .map (some h.size)), (8, .int .i64 x8), (24, .int .u8 x24), (65, .bool (x24 == (50 : Int)))] H fun fr H => ?_
        refine at_nl id ?_
        refine aw_if 65 H hm (fun hb hm H => ?_) fun hb hm H => ?_
        ·refine aw_sk ?_
         exact .inl ⟨_, rfl, injA hm, H.ls, A⟩
        refine aw_sr 2 ?_
        refine at_se 2 [(0, .ptr (some (bp0, 0))), (1, .str p1), (2, .int .i64 (IntKind.i64.wrap (x8 + (1 : Int)))), (7, .map (some h.size)), (8, .int .i64 x8), (24, .int .u8 x24), (65, .bool (x24 == (51 : Int)))] H fun fr H => ?_
        refine at_nl id ?_
        refine aw_if 65 H hm (fun hb hm H => ?_) fun hb hm H => ?_
        ·refine aw_sk ?_
         exact .inl ⟨_, rfl, injA hm, H.ls, A⟩
        refine aw_sr 2 ?_
        refine at_se 2 [(0, .ptr (some (bp0, 0))), (1, .str p1), (2, .int .i64 (IntKind.i64.wrap (x8 + (1 : Int)))), (7, .map (some h.size)), (8, .int .i64 x8), (24, .int .u8 x24), (65, .bool (x24 == (52 : Int)))] H fun fr H => ?_
        refine at_nl id ?_
        refine aw_if 65 H hm (fun hb hm H => ?_) fun hb hm H => ?_
        ·refine aw_sk ?_
         exact .inl ⟨_, rfl, injA hm, H.ls, A⟩
        refine aw_sr 2 ?_
        refine at_se 2 [(0, .ptr (some (bp0, 0))), (1, .str p1), (2, .int .i64 (IntKind.i64.wrap (x8 + (1 : Int)))), (7, .map (some h.size)), (8, .int .i64 x8), (24, .int .u8 x24), (65, .bool (x24 == (53 : Int)))] H fun fr H => ?_
        refine at_nl id ?_
        refine aw_if 65 H hm (fun hb hm H => ?_) fun hb hm H => ?_
        ·refine aw_sk ?_
         exact .inl ⟨_, rfl, injA hm, H.ls, A⟩
        refine aw_sr 2 ?_
        refine at_se 2 [(0, .ptr (some (bp0, 0))), (1, .str p1), (2, .int .i64 (IntKind.i64.wrap (x8 + (1 : Int)))), (7, .map (some h.size)), (8, .int .i64 x8), (24, .int .u8 x24), (65, .bool (x24 == (54 : Int)))] H fun fr H => ?_
        refine at_nl id ?_
        refine aw_if 65 H hm (fun hb hm H => ?_) fun hb hm H => ?_
        ·refine aw_sk ?_
         exact .inl ⟨_, rfl, injA hm, H.ls, A⟩
        refine aw_sr 2 ?_
        refine at_se 2 [(0, .ptr (some (bp0, 0))), (1, .str p1), (2, .int .i64 (IntKind.i64.wrap (x8 + (1 : Int)))), (7, .map (some h.size)), (8, .int .i64 x8), (24, .int .u8 x24), (65, .bool (x24 == (55 : Int)))] H fun fr H => ?_
        refine at_nl id ?_
        refine aw_if 65 H hm (fun hb hm H => ?_) fun hb hm H => ?_
        ·refine aw_sk ?_
         exact .inl ⟨_, rfl, injA hm, H.ls, A⟩
        refine aw_sr 2 ?_
        refine at_se 2 [(0, .ptr (some (bp0, 0))), (1, .str p1), (2, .int .i64 (IntKind.i64.wrap (x8 + (1 : Int)))), (7, .map (some h.size)), (8, .int .i64 x8), (24, .int .u8 x24), (65, .bool (x24 == (56 : Int)))] H fun fr H => ?_
        refine at_nl id ?_
        refine aw_if 65 H hm (fun hb hm H => ?_) fun hb hm H => ?_
        ·refine aw_sk ?_
         exact .inl ⟨_, rfl, injA hm, H.ls, A⟩
        refine aw_rg 2 ?_
        refine at_se 2 [(0, .ptr (some (bp0, 0))), (1, .str p1), (2, .int .i64 (IntKind.i64.wrap (x8 + (1 : Int)))), (7, .map (some h.size)), (8, .int .i64 x8), (65, .bool (x24 == (57 : Int)))] H fun fr H => ?_
        refine at_nil ?_
        exact .inl ⟨_, rfl, injA hm, H.ls, A⟩
       clear ho
       clear A
       intro e fr h12 hQ
       rcases hQ with ⟨x37, rfl, rfl, H, A⟩ | hF
       ·show AW _ _ _ _ _ _ _
        refine aw_if 65 H hm (fun hb hm H => ?_) fun hb hm H => ?_
        ·refine aw_sq ?_
         refine aw_block (id := 3) (by kernel_rfl) ?_
         obtain ⟨o7, ho, hm⟩ := bind_some hm
         refine aw_mono (Q' := fun e fr' h' => (∃ x39, e = .exit 3 ∧ x39 = o7 ∧ Has fr' 115 [(0, .ptr (some (bp0, 0))), (1, .str p1), (2, .int .i64 x39), (7, .map (some h.size)), (8, .int .i64 x8)] ∧ HH g h' [.obj h.size (.map 2 (encM (fun k : Int => .int .u8 k) (fun v : Bool => .bool v) x1)), .obj bp0 (.cells none 2 [.str p0.Re, .str p0.Template, .bool x2, .bool x3, .bool x4, .int .i64 p0.Number, .bool x5, .bool x6, .bool x7])] F) ∨ False) ?_ ?_
         ·refine aw_loop (by kernel_rfl) (fun (s : Int) fr' h' => ∃ x38, x38 = s ∧ Has fr' 115 [(0, .ptr (some (bp0, 0))), (1, .str p1), (2, .int .i64 x38), (7, .map (some h.size)), (8, .int .i64 x8)] ∧ HH g h' [.obj h.size (.map 2 (encM (fun k : Int => .int .u8 k) (fun v : Bool => .bool v) x1)), .obj bp0 (.cells none 2 [.str p0.Re, .str p0.Template, .bool x2, .bool x3, .bool x4, .int .i64 p0.Number, .bool x5, .bool x6, .bool x7])] F) ho ⟨_, rfl, H.ls, A⟩ ?_
          clear ho hm H A
          intro s q fr h13 hI hm
          obtain ⟨x38, rfl, H, A⟩ := hI
          unfold M_rewrite_Expr_flags_L1 at hm
          refine aw_sq ?_
          refine aw_sr 16 ?_
          refine at_sl 5 [(79, .bool (decide (x38 < (p1.length : Int))))] H fun fr H => ?_
          obtain ⟨x40, ho, hm⟩ := bind_some hm
          refine at_cl 5 (fun fr' h' => Has fr' 115 [(0, .ptr (some (bp0, 0))), (1, .str p1), (2, .int .i64 x38), (7, .map (some h.size)), (8, .int .i64 x8), (84, .bool x40)] ∧ HH g h' [.obj h.size (.map 2 (encM (fun k : Int => .int .u8 k) (fun v : Bool => .bool v) x1)), .obj bp0 (.cells none 2 [.str p0.Re, .str p0.Template, .bool x2, .bool x3, .bool x4, .int .i64 p0.Number, .bool x5, .bool x6, .bool x7])] F) ?_ ?_
          ·rcases iteB_some ho with ⟨hb, hm⟩ | ⟨hb, hm⟩
           ·replace H := H.kn 79 hb
            obtain ⟨x41, hx, hm⟩ := bind_some hm
            refine at_g1 2 [] 82 (.int .u8 x41) h13 H (fun fr => .of (s_ixS (by kernel_rfl) hx)) fun fr t H => ?_
            refine at_sl 2 [(84, .bool (decide (x41 ≥ (48 : Int))))] H fun fr H => ?_
            obtain rfl := injA hm
            exact at_nil ⟨H.ls, A⟩
           replace H := H.kn 79 hb
           refine at_sl 5 [(84, .bool false)] H fun fr H => ?_
           obtain rfl := injA hm
           exact at_nil ⟨H.ls, A⟩
          clear A
          intro t fr h14 hK
          obtain ⟨H, A⟩ := hK
          refine at_sl 1 [(85, .bool x40)] H fun fr H => ?_
          obtain ⟨x42, ho, hm⟩ := bind_some hm
          refine at_cl 5 (fun fr' h' => Has fr' 115 [(0, .ptr (some (bp0, 0))), (1, .str p1), (2, .int .i64 x38), (7, .map (some h.size)), (8, .int .i64 x8), (90, .bool x42)] ∧ HH g h' [.obj h.size (.map 2 (encM (fun k : Int => .int .u8 k) (fun v : Bool => .bool v) x1)), .obj bp0 (.cells none 2 [.str p0.Re, .str p0.Template, .bool x2, .bool x3, .bool x4, .int .i64 p0.Number, .bool x5, .bool x6, .bool x7])] F) ?_ ?_
          ·rcases iteB_some ho with ⟨hb, hm⟩ | ⟨hb, hm⟩
           ·replace H := H.kn 85 hb
            obtain ⟨x43, hx, hm⟩ := bind_some hm
            refine at_g1 2 [] 88 (.int .u8 x43) h14 H (fun fr => .of (s_ixS (by kernel_rfl) hx)) fun fr t H => ?_
            refine at_sl 2 [(90, .bool (decide (x43 ≤ (57 : Int))))] H fun fr H => ?_
            obtain rfl := injA hm
            exact at_nil ⟨H.ls, A⟩
           replace H := H.kn 85 hb
           refine at_sl 5 [(90, .bool false)] H fun fr H => ?_
           obtain rfl := injA hm
           exact at_nil ⟨H.ls, A⟩
          clear A
          intro t fr h15 hK
          obtain ⟨H, A⟩ := hK
          refine at_nl id ?_
          refine aw_if 90 H hm (fun hb hm H => ?_) fun hb hm H => ?_
          ·refine aw_kn id ?_
           refine aw_block (id := 4) (by kernel_rfl) ?_
           refine aw_rg 3 ?_
           refine at_se 3 [(0, .ptr (some (bp0, 0))), (1, .str p1), (2, .int .i64 (IntKind.i64.wrap (x38 + (1 : Int)))), (7, .map (some h.size)), (8, .int .i64 x8)] H fun fr H => ?_
           refine at_nil ?_
           exact nx hm ⟨_, rfl, H.ls, A⟩
          refine aw_exit (i := 3) (by kernel_rfl) ?_
          exact nr hm fun e => .inl ⟨_, rfl, e, H.ls, A⟩
         clear ho
         clear A
         intro e fr h16 hQ
         rcases hQ with ⟨x39, rfl, rfl, H, A⟩ | hF
         ·show AW _ _ _ _ _ _ _
          refine aw_sq ?_
          refine aw_sr 4 ?_
          refine at_el 4 [(96, .bool (decide ((IntKind.i64.wrap (x39 - x8)) > (4 : Int))))] H (fun _ => id) fun fr H => ?_
          refine aw_if 96 H hm (fun hb hm H => ?_) fun hb hm H => ?_
          ·refine aw_sr 2 ?_
           refine at_el 2 [(6, .int .i64 x8)] H (fun _ => id) fun fr H => ?_
           refine aw_rt ?_
           exact .inr (.inl ⟨_, rfl, injA hm, H.ls, A⟩)
          refine aw_ks 12 id ?_
          obtain ⟨x44, hx, hm⟩ := bind_some hm
          refine at_g1 4 [(99, .ptr (some (bp0, 0)))] 103 (.str x44) h16 H (fun fr => .of (s_subS (k := .i64) (k' := .i64) (lo := (some x8)) (hi := (some x39)) (by kernel_rfl) hx)) fun fr t H => ?_
          cases hm
         exact hF.elim
        refine aw_sr 2 ?_
        refine at_el 2 [(6, .int .i64 x8)] H (fun _ => id) fun fr H => ?_
        refine aw_rt ?_
        exact .inr (.inl ⟨_, rfl, injA hm, H.ls, A⟩)
       exact hF.elim
      exact hF.elim
     exact hF.elim
    exact hF.elim
   clear ho
   clear A
   intro e fr h17 hQ
   rcases hQ with ⟨x25, x26, x27, x28, x29, x30, x31, x32, rfl, rfl, H, A⟩ | ⟨x33, rfl, rfl, H, A⟩ | hF
   ·show AW _ _ _ _ _ _ _
    refine aw_sq ?_
    refine aw_sr 3 ?_
    refine at_g1 2 [] 111 (.bool ((mfind x1 x32).getD false)) h17 H (fun fr => .of (s_lkF (by kernel_rfl) (HH.mlook (kt := 5) (et := 4) (ek := fun k : Int => .int .u8 k) (ev := fun v : Bool => .bool v) (keyI (by kernel_rfl)) A 0 rfl (t := 121) (by kernel_rfl) (z := false) (by kernel_rfl) x32))) fun fr t H => ?_
    refine at_nl id ?_
    refine aw_if 111 H hm (fun hb hm H => ?_) fun hb hm H => ?_
    ·refine aw_sr 2 ?_
     refine at_el 2 [(6, .int .i64 x8)] H (fun _ => id) fun fr H => ?_
     refine aw_rt ?_
     exact nr hm fun e => Or.inr (.inl ⟨_, _, _, _, _, _, _, _, rfl, e, H.ls, A⟩)
    refine aw_kr 3 id ?_
    refine at_sl 2 [(113, .map (some h.size)), (114, .int .u8 x32)] H fun fr H => ?_
    obtain ⟨h18, hx, A1⟩ := HH.mset (kt := 5) (et := 4) (ek := fun k : Int => .int .u8 k) (ev := fun v : Bool => .bool v) (keyI (by kernel_rfl)) A 0 rfl (t := 121) (by kernel_rfl) x32 true
    replace A : HH g h18 [.obj h.size (.map 2 (encM (fun k : Int => .int .u8 k) (fun v : Bool => .bool v) (mput x1 x32 true))), _] F := A1
    refine at_l0 (.tuple []) h18 H (fun fr => .of (s_ms (by kernel_rfl) hx)) fun fr t H => ?_
    refine at_nil ?_
    exact nx hm ⟨_, _, _, _, _, _, _, _, rfl, H.ls, A⟩
   ·exact nr hm fun e => Or.inr (.inl ⟨_, _, _, _, _, _, _, _, rfl, e, H.ls, A⟩)
   exact hF.elim
  refine aw_exit (i := 0) (by kernel_rfl) ?_
  exact nr hm fun e => .inl ⟨_, _, _, _, _, _, _, rfl, e, H.ls, A⟩
 clear ho
 clear A
 intro e fr h19 hQ
 rcases hQ with ⟨x9, x10, x11, x12, x13, x14, x15, rfl, rfl, H, A⟩ | ⟨x16, x17, x18, x19, x20, x21, x22, x23, rfl, rfl, H, A⟩ | hF
 ·show AW _ _ _ _ _ _ _
  refine aw_sr 1 ?_
  refine at_el 1 [(6, .int .i64 (-1))] H (fun _ => id) fun fr H => ?_
  refine aw_rt ?_
  obtain ⟨rfl, rfl⟩ := injB hm
  refine ⟨.inl rfl, .int .i64 (-1), rH H, ?_⟩
  replace A := A.k1 1
  exact ⟨rfl, A⟩
 ·obtain ⟨rfl, rfl⟩ := injB hm
  refine ⟨.inl rfl, .int .i64 x23, rH H, ?_⟩
  replace A := A.k1 1
  exact ⟨rfl, A⟩
 exact hF.elim
noncomputable def M_rewrite_Parse (p0 : List UInt8) : Option (S_rewrite_Expr × Int × Int) :=
 (M_rewrite_begins p0 (0 : Int)).bind fun x1 => iteB (!x1) (some ((⟨([] : List UInt8), ([] : List UInt8), false, false, false, (0 : Int), false, false, false⟩ : S_rewrite_Expr), (0 : Int), (11 : Int))) ((ixS p0 (1 : Int)).bind fun x2 => (M_rewrite_part p0 (2 : Int) x2).bind fun (x3, x4, x5) => iteB (!x5) (some ((⟨([] : List UInt8), ([] : List UInt8), false, false, false, (0 : Int), false, false, false⟩ : S_rewrite_Expr), x4, (11 : Int))) ((ixS p0 (1 : Int)).bind fun x6 => (M_rewrite_part p0 x4 x6).bind fun (x7, x8, x9) => iteB (!x9) (some ((⟨([] : List UInt8), ([] : List UInt8), false, false, false, (0 : Int), false, false, false⟩ : S_rewrite_Expr), x8, (11 : Int))) ((M_rewrite_Expr_flags (⟨x3, x7, false, false, false, (1 : Int), true, true, true⟩ : S_rewrite_Expr) p0 x8).bind fun (x10, x11) => iteB (decide (x10 ≥ (0 : Int))) (some ((⟨([] : List UInt8), ([] : List UInt8), false, false, false, (0 : Int), false, false, false⟩ : S_rewrite_Expr), x10, (11 : Int))) (some (x11, (0 : Int), (0 : Int))))))
theorem ok_rewrite_Parse {p0 q0 q1 q2} (hm : M_rewrite_Parse p0 = some (q0, q1, q2)) (A : HH g h [] F) (hc : canL (cfg.still 9) av = [.str p0] := by kernel_rfl) : ∃ v h', Runs cfg g h 9 av v h' ∧ v = .tuple [.agg (e_S_rewrite_Expr q0), .int .i64 q1, .int .i64 q2] ∧ HH g h' [] F := by
 refine rq1 48 [.cell 2 24, .tmp 3, .tmp 4] hc ?_
 clear hc
 unfold M_rewrite_Parse at hm
 refine bg 48 [(0, .str p0)] fun fr H => ?_
 refine aw_sr 3 ?_
 obtain ⟨h1, e1, A⟩ := A.pu (.cells none 2 [.str ([] : List UInt8), .str ([] : List UInt8), .bool false, .bool false, .bool false, .int .i64 0, .bool false, .bool false, .bool false])
 refine at_ln 2 (.ptr (some (h.size, 0))) e1 H fun fr t H => ?_
 refine at_el 2 [] H (fun _ => id) fun fr H => ?_
 refine aw_sq ?_
 refine aw_sr 3 ?_
 obtain ⟨x1, hx, hm⟩ := bind_some hm
 obtain ⟨v1, h2, hr, rfl, A1⟩ := ok_rewrite_begins (av := [.str p0, .int .i64 0]) hx (A.cut 0)
 replace A : HH g h2 [.obj h.size (.cells none 2 [.str ([] : List UInt8), .str ([] : List UInt8), .bool false, .bool false, .bool false, .int .i64 (0 : Int), .bool false, .bool false, .bool false])] F := A.glue0 (n := 0) A1
 refine at_gc1 1 [] 12 hr H fun fr t H => ?_
 refine at_el 1 [(13, .bool (!x1))] H (fun _ => id) fun fr H => ?_
 refine aw_if 13 H hm (fun hb hm H => ?_) fun hb hm H => ?_
 ·refine aw_sr 4 ?_
  obtain ⟨h3, hx, A⟩ := A.s0 0 [.str ([] : List UInt8), .str ([] : List UInt8), .bool false, .bool false, .bool false, .int .i64 0, .bool false, .bool false, .bool false] [_, _, _, _, _, _, _, _, _]
  refine at_gS 1 [] hx H fun fr t H => ?_
  refine at_el 2 [(3, .int .i64 0), (4, .int .i64 11)] H (fun _ => id) fun fr H => ?_
  refine aw_rt ?_
  obtain ⟨rfl, rfl, rfl⟩ := injC hm
  refine ⟨.inl rfl, .tuple [.agg [.str ([] : List UInt8), .str ([] : List UInt8), .bool false, .bool false, .bool false, .int .i64 0, .bool false, .bool false, .bool false], .int .i64 0, .int .i64 11], resL_many (.cell (rT H) (load_ldA (by kernel_rfl) (by kernel_rfl) (A.la 0 0 9)) (.tmp (rT H) (.tmp (rT H) .nil))), ?_⟩
  replace A := A.d0
  exact ⟨rfl, A⟩
 refine aw_ks 3 id ?_
 obtain ⟨h4, e2, A⟩ := A.pu (.cells none 2 [.str ([] : List UInt8), .str ([] : List UInt8), .bool false, .bool false, .bool false, .int .i64 0, .bool false, .bool false, .bool false])
 refine at_gn 1 [(15, .agg [.str ([] : List UInt8), .str ([] : List UInt8), .bool false, .bool false, .bool false, .int .i64 (1 : Int), .bool true, .bool true, .bool true])] 5 (.ptr (some (h2.size, 0))) e2 H fun fr t H => ?_
 obtain ⟨h5, hx, A⟩ := A.s0 0 [.str ([] : List UInt8), .str ([] : List UInt8), .bool false, .bool false, .bool false, .int .i64 1, .bool true, .bool true, .bool true] [_, _, _, _, _, _, _, _, _]
 refine at_lS hx H fun fr t H => ?_
 refine at_ns 2 id ?_
 refine at_el 2 [(6, .int .i64 2)] H (fun _ => id) fun fr H => ?_
 refine aw_sq ?_
 refine aw_sr 5 ?_
 refine at_sl 2 [(16, .ptr (some (h2.size, 0))), (17, .ptr (some (h2.size, 1)))] H fun fr H => ?_
 obtain ⟨h6, e3⟩ : ∃ x, x = h5.push (.cells (some 63) 2 [.ptr (some (h2.size, 0)), .ptr (some (h2.size, 1))]) := ⟨_, rfl⟩
 replace A : HH g h6 [.obj h5.size (.cells (some 63) 2 [.ptr (some (h2.size, 0)), .ptr (some (h2.size, 1))]), _, _] F := (A.push _).to e3
 refine at_ln 18 (.slice (some (h5.size, 0)) 2) e3 H fun fr t H => ?_
 refine at_el 2 [(19, .int .i64 2), (20, .int .i64 0)] H (fun _ => id) fun fr H => ?_
 refine aw_block (id := 0) (by kernel_rfl) ?_
 refine aw_unroll (by kernel_rfl) ?_
 refine aw_sr 1 ?_
 refine at_el 1 [(21, .bool true)] H (fun _ => id) fun fr H => ?_
 refine aw_sq ?_
 refine aw_true (x := .tmp 21) (by kernel_rfl) H (fun fr => by kernel_rfl) ?_
 refine aw_kn id ?_
 refine aw_sq ?_
 refine aw_block (id := 1) (by kernel_rfl) ?_
 refine aw_sr 3 ?_
 refine at_gl 1 [] 23 0 0 A H fun fr t H => ?_
 refine at_es 1 [(9, .ptr (some (h2.size, 0)))] 14 H (fun _ => id) fun fr H => ?_
 obtain ⟨x2, hx, hm⟩ := bind_some hm
 refine at_g1 4 [(25, .ptr (some (h2.size, 0))), (26, .str p0), (27, .int .i64 (2 : Int))] 29 (.int .u8 x2) h6 H (fun fr => .of (s_ixS (by kernel_rfl) hx)) fun fr t H => ?_
 obtain ⟨⟨x3, x4, x5⟩, hx, hm⟩ := bind_some hm
 obtain ⟨v1, h7, hr, rfl, A1⟩ := ok_rewrite_part (av := [.str p0, .int .i64 2, .int .u8 x2]) hx (A.cut 0)
 replace A := A.g00 A1
 refine at_lc1 30 hr H fun fr t H => ?_
 obtain ⟨h8, hx, A⟩ := A.s1 0 [.str x3] [_, _, _, _, _, _, _, _, _]
 refine at_gs 5 [(32, .int .i64 x4), (33, .bool x5)] hx H fun fr t H => ?_
 refine at_se 2 [(0, .str p0), (2, .ptr (some (h.size, 0))), (5, .ptr (some (h2.size, 0))), (6, .int .i64 x4), (7, .bool x5), (18, .slice (some (h5.size, 0)) 2), (19, .int .i64 2), (20, .int .i64 0)] H fun fr H => ?_
 refine at_ns 2 id ?_
 refine at_el 2 [(36, .bool (!x5))] H (fun _ => id) fun fr H => ?_
 refine aw_if 36 H hm (fun hb hm H => ?_) fun hb hm H => ?_
 ·refine aw_sr 5 ?_
  obtain ⟨h9, hx, A⟩ := A.s2 0 [.str ([] : List UInt8), .str ([] : List UInt8), .bool false, .bool false, .bool false, .int .i64 0, .bool false, .bool false, .bool false] [_, _, _, _, _, _, _, _, _]
  refine at_gS 2 [(38, .int .i64 x4)] hx H fun fr t H => ?_
  refine at_el 2 [(3, .int .i64 x4), (4, .int .i64 11)] H (fun _ => id) fun fr H => ?_
  refine aw_rt ?_
  obtain ⟨rfl, rfl, rfl⟩ := injC hm
  refine ⟨.inl rfl, .tuple [.agg [.str ([] : List UInt8), .str ([] : List UInt8), .bool false, .bool false, .bool false, .int .i64 0, .bool false, .bool false, .bool false], .int .i64 x4, .int .i64 11], resL_many (.cell (rT H) (load_ldA (by kernel_rfl) (by kernel_rfl) (A.la 2 0 9)) (.tmp (rT H) (.tmp (rT H) .nil))), ?_⟩
  replace A := A.d0
  exact ⟨rfl, A⟩
 refine aw_kr 2 id ?_
 refine at_se 2 [(0, .str p0), (2, .ptr (some (h.size, 0))), (5, .ptr (some (h2.size, 0))), (6, .int .i64 x4), (18, .slice (some (h5.size, 0)) 2), (19, .int .i64 2), (20, .int .i64 1)] H fun fr H => ?_
 refine at_nl id ?_
 refine aw_unroll (by kernel_rfl) ?_
 refine aw_sr 1 ?_
 refine at_el 1 [(21, .bool true)] H (fun _ => id) fun fr H => ?_
 refine aw_sq ?_
 refine aw_true (x := .tmp 21) (by kernel_rfl) H (fun fr => by kernel_rfl) ?_
 refine aw_kn id ?_
 refine aw_sq ?_
 refine aw_block (id := 1) (by kernel_rfl) ?_
 refine aw_sr 3 ?_
 refine at_gl 1 [] 23 0 1 A H fun fr t H => ?_
 refine at_es 1 [(9, .ptr (some (h2.size, 1)))] 14 H (fun _ => id) fun fr H => ?_
 obtain ⟨x6, hx, hm⟩ := bind_some hm
 refine at_g1 4 [(25, .ptr (some (h2.size, 1))), (26, .str p0), (27, .int .i64 x4)] 29 (.int .u8 x6) h8 H (fun fr => .of (s_ixS (by kernel_rfl) hx)) fun fr t H => ?_
 obtain ⟨⟨x7, x8, x9⟩, hx, hm⟩ := bind_some hm
 obtain ⟨v1, h10, hr, rfl, A1⟩ := ok_rewrite_part (av := [.str p0, .int .i64 x4, .int .u8 x6]) hx (A.cut 0)
 replace A := A.g00 A1
 refine at_lc1 30 hr H fun fr t H => ?_
 obtain ⟨h11, hx, A⟩ := A.s1 1 [.str x7] [_, _, _, _, _, _, _, _, _]
 refine at_gs 5 [(32, .int .i64 x8), (33, .bool x9)] hx H fun fr t H => ?_
 refine at_se 2 [(0, .str p0), (2, .ptr (some (h.size, 0))), (5, .ptr (some (h2.size, 0))), (6, .int .i64 x8), (7, .bool x9), (18, .slice (some (h5.size, 0)) 2), (19, .int .i64 2), (20, .int .i64 1)] H fun fr H => ?_
 refine at_ns 2 id ?_
 refine at_el 2 [(36, .bool (!x9))] H (fun _ => id) fun fr H => ?_
 refine aw_if 36 H hm (fun hb hm H => ?_) fun hb hm H => ?_
 ·refine aw_sr 5 ?_
  obtain ⟨h12, hx, A⟩ := A.s2 0 [.str ([] : List UInt8), .str ([] : List UInt8), .bool false, .bool false, .bool false, .int .i64 0, .bool false, .bool false, .bool false] [_, _, _, _, _, _, _, _, _]
  refine at_gS 2 [(38, .int .i64 x8)] hx H fun fr t H => ?_
  refine at_el 2 [(3, .int .i64 x8), (4, .int .i64 11)] H (fun _ => id) fun fr H => ?_
  refine aw_rt ?_
  obtain ⟨rfl, rfl, rfl⟩ := injC hm
  refine ⟨.inl rfl, .tuple [.agg [.str ([] : List UInt8), .str ([] : List UInt8), .bool false, .bool false, .bool false, .int .i64 0, .bool false, .bool false, .bool false], .int .i64 x8, .int .i64 11], resL_many (.cell (rT H) (load_ldA (by kernel_rfl) (by kernel_rfl) (A.la 2 0 9)) (.tmp (rT H) (.tmp (rT H) .nil))), ?_⟩
  replace A := A.d0
  exact ⟨rfl, A⟩
 refine aw_kr 2 id ?_
 refine at_se 2 [(0, .str p0), (2, .ptr (some (h.size, 0))), (5, .ptr (some (h2.size, 0))), (6, .int .i64 x8), (18, .slice (some (h5.size, 0)) 2), (19, .int .i64 2), (20, .int .i64 2)] H fun fr H => ?_
 refine at_nl id ?_
 refine aw_unroll (by kernel_rfl) ?_
 refine aw_sr 1 ?_
 refine at_el 1 [(21, .bool false)] H (fun _ => id) fun fr H => ?_
 refine aw_sq ?_
 refine aw_false (x := .tmp 21) (by kernel_rfl) H (fun fr => by kernel_rfl) ?_
 refine aw_exit (i := 0) (by kernel_rfl) ?_
 show AW _ _ _ _ _ _ _
 refine aw_sq ?_
 refine aw_sr 4 ?_
 replace A := A.k3 1 0 2
 obtain ⟨⟨x10, x11⟩, hx, hm⟩ := bind_some hm
 obtain ⟨v1, h13, hr, rfl, A1⟩ := ok_rewrite_Expr_flags (av := [.ptr (some (h2.size, 0)), .str p0, .int .i64 x8]) hx (A.cut 1)
 replace A := A.g11 A1
 refine at_gc1 2 [] 42 hr H fun fr t H => ?_
 refine at_es 1 [(10, .int .i64 x10)] 2 H (fun _ => id) fun fr H => ?_
 refine at_el 2 [(44, .bool (decide (x10 ≥ (0 : Int))))] H (fun _ => id) fun fr H => ?_
 refine aw_if 44 H hm (fun hb hm H => ?_) fun hb hm H => ?_
 ·refine aw_sr 5 ?_
  obtain ⟨h14, hx, A⟩ := A.s2 0 [.str ([] : List UInt8), .str ([] : List UInt8), .bool false, .bool false, .bool false, .int .i64 0, .bool false, .bool false, .bool false] [_, _, _, _, _, _, _, _, _]
  refine at_gS 2 [(46, .int .i64 x10)] hx H fun fr t H => ?_
  refine at_el 2 [(3, .int .i64 x10), (4, .int .i64 11)] H (fun _ => id) fun fr H => ?_
  refine aw_rt ?_
  obtain ⟨rfl, rfl, rfl⟩ := injC hm
  refine ⟨.inl rfl, .tuple [.agg [.str ([] : List UInt8), .str ([] : List UInt8), .bool false, .bool false, .bool false, .int .i64 0, .bool false, .bool false, .bool false], .int .i64 x10, .int .i64 11], resL_many (.cell (rT H) (load_ldA (by kernel_rfl) (by kernel_rfl) (A.la 2 0 9)) (.tmp (rT H) (.tmp (rT H) .nil))), ?_⟩
  replace A := A.d0
  exact ⟨rfl, A⟩
 refine aw_ks 4 id ?_
 refine at_l1 47 _ _ H (fun fr => .of (s_ldA (by kernel_rfl) (A.ldA 0 rfl (o := 0) (n := 9) ⟨Nat.le_of_ble_eq_true rfl, rfl⟩))) fun fr t H => ?_
 obtain ⟨h15, hx, A⟩ := A.s2 0 [.str x11.Re, .str x11.Template, .bool x11.Global, .bool x11.Fold, .bool x11.Extended, .int .i64 x11.Number, .bool x11.Names, .bool x11.Soft, .bool x11.Hard] [_, _, _, _, _, _, _, _, _]
 refine at_lS hx H fun fr t H => ?_
 refine at_el 2 [(3, .int .i64 0), (4, .int .i64 0)] H (fun _ => id) fun fr H => ?_
 refine aw_rt ?_
 obtain ⟨rfl, rfl, rfl⟩ := injC hm
 refine ⟨.inl rfl, .tuple [.agg (e_S_rewrite_Expr x11), .int .i64 0, .int .i64 0], resL_many (.cell (rT H) (load_ldA (by kernel_rfl) (by kernel_rfl) (A.la 2 0 9)) (.tmp (rT H) (.tmp (rT H) .nil))), ?_⟩
 replace A := A.d0
 exact ⟨rfl, A⟩
noncomputable def M_scope_Parse_L0 (x1 : List (List UInt8)) (s : (List S_rewrite_Expr) × Int) : Option (((List S_rewrite_Expr) × Int) ⊕ (((List S_rewrite_Expr)) ⊕ (Int × Int))) :=
 match s with
 | (x3, x4) => iteB (decide (x4 < (x1.length : Int))) ((ixV x1 x4).bind fun x8 => (M_rewrite_Parse x8).bind fun (x9, x10, x11) => iteB (x11 != (0 : Int)) (some (.inr (.inr (x4, x11)))) (need (okN 56 (x3.length + ([x9] : List S_rewrite_Expr).length)) <| some (.inl ((x3 ++ ([x9] : List S_rewrite_Expr)), IntKind.i64.wrap (x4 + (1 : Int)))))) (some (.inr (.inl x3)))
noncomputable def M_scope_Parse (p0 : List UInt8) (p1 : Int) (p2 : Int) : Option ((Option S_scope_Rules) × Int × Int) :=
 (M_rewrite_List p0).bind fun (x1, x2) => iteB (!x2) (some (none, (0 : Int), (11 : Int))) ((loop (M_scope_Parse_L0 x1) (([] : List S_rewrite_Expr), (0 : Int))).bind fun o1 => (match o1 with | .inl x5 => (M_scope_New_sOII x5 p1 p2).bind fun (w7, x13, x14) => (match w7 with | some x12w6 => some (some x12w6, x13, x14) | none => some (none, x13, x14)) | .inr (x6, x7) => some (none, x6, x7)))
theorem ok_scope_Parse {p0 p1 p2 o0 q1 q2} (hm : M_scope_Parse p0 p1 p2 = some (o0, q1, q2)) (A : HH g h [] F) (hc : canL (cfg.still 33) av = [.str p0, .int .i64 p1, .int .i64 p2] := by kernel_rfl) : ∃ v h', Runs cfg g h 33 av v h' ∧ ((∃ (bq00 : Nat) (rq00_0 : Option Nat) (q00 : S_scope_Rules), o0 = some q00 ∧ v = .tuple [.ptr (some (bq00, 0)), .int .i64 q1, .int .i64 q2] ∧ HH g h' [.obj bq00 (.cells none 2 [rowV rq00_0 q00.l_.length, .int .i64 q00.name_]), .lst rq00_0 58 (lst (eP e_S_rewrite_Rule) q00.l_)] F) ∨ (o0 = none ∧ v = .tuple [.ptr none, .int .i64 q1, .int .i64 q2] ∧ HH g h' [] F)) := by
 refine rq1 53 [.tmp 6, .tmp 7, .tmp 8] hc ?_
 clear hc
 unfold M_scope_Parse at hm
 refine bg 53 [(0, .str p0), (1, .int .i64 p1), (2, .int .i64 p2)] fun fr H => ?_
 refine aw_sr 3 ?_
 refine at_es 3 [] 7 H (fun _ => id) fun fr H => ?_
 obtain ⟨⟨x1, x2⟩, hx, hm⟩ := bind_some hm
 obtain ⟨v1, h1, hr, rqw1, rfl, A1⟩ := ok_rewrite_List (av := [.str p0]) hx (A.cut 0)
 replace A := A.g01 A1
 refine at_gc1 1 [] 19 hr H fun fr t H => ?_
 refine at_el 5 [(9, rowV rqw1 x1.length), (10, .bool x2)] H (fun _ => id) fun fr H => ?_
 refine aw_sq ?_
 refine aw_sr 2 ?_
 refine at_el 2 [(23, .bool (!x2))] H (fun _ => id) fun fr H => ?_
 refine aw_if 23 H hm (fun hb hm H => ?_) fun hb hm H => ?_
 ·refine aw_sr 3 ?_
  refine at_el 3 [(6, .ptr none), (7, .int .i64 0), (8, .int .i64 11)] H (fun _ => id) fun fr H => ?_
  refine aw_rt ?_
  obtain ⟨rfl, rfl, rfl⟩ := injC hm
  refine ⟨.inl rfl, .tuple [.ptr none, .int .i64 0, .int .i64 11], rH H, ?_⟩
  replace A := A.d0
  exact .inr ⟨rfl, rfl, A⟩
 refine aw_ks 1 id ?_
 refine at_el 1 [(11, .slice none 0)] H (fun _ => id) fun fr H => ?_
 refine aw_sq ?_
 refine aw_sr 3 ?_
 refine at_el 3 [(24, rowV rqw1 x1.length), (25, .int .i64 (x1.length : Int)), (26, .int .i64 0)] H (fun _ => id) fun fr H => ?_
 refine aw_block (id := 0) (by kernel_rfl) ?_
 replace A : HH g h1 [.lst none 24 (lst e_S_rewrite_Expr ([] : List S_rewrite_Expr)), _] F := A.nilL 24
 obtain ⟨o1, ho, hm⟩ := bind_some hm
 refine aw_mono (Q' := fun e fr' h' => (∃ x5, e = .exit 0 ∧ .inl x5 = o1 ∧ ∃ r2, Has fr' 53 [(1, .int .i64 p1), (2, .int .i64 p2), (11, rowV r2 x5.length)] ∧ HH g h' [.lst r2 24 (lst e_S_rewrite_Expr x5)] F) ∨ (∃ x6 x7, e = .ret ∧ .inr (x6, x7) = o1 ∧ Has fr' 53 [(6, .ptr none), (7, .int .i64 x6), (8, .int .i64 x7)] ∧ HH g h' [] F) ∨ False) ?_ ?_
 ·refine aw_loop (by kernel_rfl) (fun (s : (List S_rewrite_Expr) × Int) fr' h' => ∃ x3 x4, (x3, x4) = s ∧ ∃ r1, Has fr' 53 [(1, .int .i64 p1), (2, .int .i64 p2), (11, rowV r1 x3.length), (24, rowV rqw1 x1.length), (25, .int .i64 (x1.length : Int)), (26, .int .i64 x4)] ∧ HH g h' [.lst r1 24 (lst e_S_rewrite_Expr x3), .lst rqw1 9 (lst eS x1)] F) ho ⟨_, _, rfl, none, H.ls, A⟩ ?_
  clear ho hm H A
  intro s q fr h2 hI hm
  obtain ⟨x3, x4, rfl, r1, H, A⟩ := hI
  unfold M_scope_Parse_L0 at hm
  refine aw_sr 1 ?_
  refine at_el 1 [(27, .bool (decide (x4 < (x1.length : Int))))] H (fun _ => id) fun fr H => ?_
  refine aw_sq ?_
  refine aw_if 27 H hm (fun hb hm H => ?_) fun hb hm H => ?_
  ·refine aw_kn id ?_
   refine aw_sq ?_
   refine aw_block (id := 1) (by kernel_rfl) ?_
   refine aw_sr 5 ?_
   obtain ⟨x8, hx, hm⟩ := bind_some hm
   obtain ⟨i1, er1, _, hx, hq1⟩ := HH.ixO encS (by decide) A 1 (xs := x1) rfl hx
   refine at_g1 1 [(28, .int .i64 x4)] 29 (.ptr (some (i1, x4.toNat * 1))) h2 H (fun fr => .of (s_ixL (s := rowS rqw1 x1.length) (by kernel_rfl) hx)) fun fr t H => ?_
   refine at_l1 30 _ _ H (fun fr => .of (s_ld (by kernel_rfl) (row_ld1 encS (HH.row A 1 rfl er1) hq1 (o := 0) rfl))) fun fr t H => ?_
   refine at_es 2 [(12, .int .i64 x4), (13, .str x8)] 10 H (fun _ => id) fun fr H => ?_
   obtain ⟨⟨x9, x10, x11⟩, hx, hm⟩ := bind_some hm
   obtain ⟨v1, h3, hr, rfl, A1⟩ := ok_rewrite_Parse (av := [.str x8]) hx (A.cut 0)
   replace A := A.g00 A1
   refine at_gc1 1 [] 33 hr H fun fr t H => ?_
   obtain ⟨h4, e1, A⟩ := A.pu (.cells none 2 [.str ([] : List UInt8), .str ([] : List UInt8), .bool false, .bool false, .bool false, .int .i64 0, .bool false, .bool false, .bool false])
   refine at_gn 4 [(34, .agg (e_S_rewrite_Expr x9)), (35, .int .i64 x10), (36, .int .i64 x11)] 14 (.ptr (some (h3.size, 0))) e1 H fun fr t H => ?_
   obtain ⟨h5, hx, A⟩ := A.s0 0 [.str x9.Re, .str x9.Template, .bool x9.Global, .bool x9.Fold, .bool x9.Extended, .int .i64 x9.Number, .bool x9.Names, .bool x9.Soft, .bool x9.Hard] [_, _, _, _, _, _, _, _, _]
   refine at_lS hx H fun fr t H => ?_
   refine at_el 2 [(16, .int .i64 x11)] H (fun _ => id) fun fr H => ?_
   refine aw_sq ?_
   refine aw_sr 2 ?_
   refine at_el 2 [(38, .bool (x11 != (0 : Int)))] H (fun _ => id) fun fr H => ?_
   refine aw_if 38 H hm (fun hb hm H => ?_) fun hb hm H => ?_
   ·refine aw_sr 5 ?_
    refine at_el 5 [(6, .ptr none), (7, .int .i64 x4), (8, .int .i64 x11)] H (fun _ => id) fun fr H => ?_
    refine aw_rt ?_
    replace A := A.d0
    exact nr hm fun e => Or.inr (.inl ⟨_, _, rfl, e, H.ls, A⟩)
   refine aw_kr 5 id ?_
   refine at_g1 1 [(41, rowV r1 x3.length)] 42 _ _ H (fun fr => .of (s_ldA (by kernel_rfl) (A.ldA 0 rfl (o := 0) (n := 9) ⟨Nat.le_of_ble_eq_true rfl, rfl⟩))) fun fr t H => ?_
   obtain ⟨h6, e2, A⟩ := A.pL 24 [.str x9.Re, .str x9.Template, .bool x9.Global, .bool x9.Fold, .bool x9.Extended, .int .i64 x9.Number, .bool x9.Names, .bool x9.Soft, .bool x9.Hard]
   refine at_ln 43 (rowV (some h5.size) (([x9] : List S_rewrite_Expr).length)) e2 H fun fr t H => ?_
   obtain ⟨hb, hm⟩ := need_some hm
   obtain ⟨r3, h7, hx, A1⟩ := HH.appO enc_S_rewrite_Expr (by decide) A 2 (xs := x3) (ys := ([x9] : List S_rewrite_Expr)) rfl (row_first A 0 rfl (n := ([x9] : List S_rewrite_Expr).length) (z := 9) rfl (by decide)) rfl rfl hb
   replace A : HH g h7 [.lst (some h5.size) 24 ([.str x9.Re, .str x9.Template, .bool x9.Global, .bool x9.Fold, .bool x9.Extended, .int .i64 x9.Number, .bool x9.Names, .bool x9.Soft, .bool x9.Hard]), _, .lst r3 24 (lst e_S_rewrite_Expr (x3 ++ ([x9] : List S_rewrite_Expr))), _] F := A1
   replace A := A.k3 1 2 3
   refine at_l1 44 _ _ H (fun fr => .of (s_app (s := rowS r1 x3.length) (by kernel_rfl) hx)) fun fr t H => ?_
   refine at_se 1 [(1, .int .i64 p1), (2, .int .i64 p2), (11, rowV r3 ((x3 ++ ([x9] : List S_rewrite_Expr)).length)), (24, rowV rqw1 x1.length), (25, .int .i64 (x1.length : Int)), (26, .int .i64 x4)] H fun fr H => ?_
   refine at_nr 2 id ?_
   refine at_se 2 [(1, .int .i64 p1), (2, .int .i64 p2), (11, rowV r3 ((x3 ++ ([x9] : List S_rewrite_Expr)).length)), (24, rowV rqw1 x1.length), (25, .int .i64 (x1.length : Int)), (26, .int .i64 (IntKind.i64.wrap (x4 + (1 : Int))))] H fun fr H => ?_
   refine at_nil ?_
   replace A := A.k2 1 2
   exact nx hm ⟨_, _, rfl, _, H.ls, A⟩
  refine aw_exit (i := 0) (by kernel_rfl) ?_
  replace A := A.d1
  exact nr hm fun e => .inl ⟨_, rfl, e, _, H.ls, A⟩
 clear ho
 clear A
 intro e fr h8 hQ
 rcases hQ with ⟨x5, rfl, rfl, r2, H, A⟩ | ⟨x6, x7, rfl, rfl, H, A⟩ | hF
 ·show AW _ _ _ _ _ _ _
  refine aw_sr 10 ?_
  obtain ⟨⟨w7, x13, x14⟩, hx, hm⟩ := bind_some hm
  obtain ⟨v1, h9, hr, hc⟩ := ok_scope_New_sOII (av := [rowV r2 x5.length, .int .i64 p1, .int .i64 p2]) hx (A.cut 1)
  rcases hc with ⟨bx12w6, rx12w6_0, x12w6, rfl, rfl, A1⟩ | ⟨rfl, rfl, A1⟩
  ·replace A := A.g13 A1
   refine at_gc1 3 [] 49 hr H fun fr t H => ?_
   refine at_el 6 [(6, .ptr (some (bx12w6, 0))), (7, .int .i64 x13), (8, .int .i64 x14)] H (fun _ => id) fun fr H => ?_
   refine aw_rt ?_
   obtain ⟨rfl, rfl, rfl⟩ := injC hm
   refine ⟨.inl rfl, .tuple [.ptr (some (bx12w6, 0)), .int .i64 x13, .int .i64 x14], rH H, ?_⟩
   replace A := A.d2
   exact .inl ⟨bx12w6, rx12w6_0, x12w6, rfl, rfl, A⟩
  replace A := A.g11 A1
  refine at_gc1 3 [] 49 hr H fun fr t H => ?_
  refine at_el 6 [(6, .ptr none), (7, .int .i64 x13), (8, .int .i64 x14)] H (fun _ => id) fun fr H => ?_
  refine aw_rt ?_
  obtain ⟨rfl, rfl, rfl⟩ := injC hm
  refine ⟨.inl rfl, .tuple [.ptr none, .int .i64 x13, .int .i64 x14], rH H, ?_⟩
  replace A := A.d0
  exact .inr ⟨rfl, rfl, A⟩
 ·obtain ⟨rfl, rfl, rfl⟩ := injC hm
  refine ⟨.inl rfl, .tuple [.ptr none, .int .i64 x6, .int .i64 x7], rH H, ?_⟩
  exact .inr ⟨rfl, rfl, A⟩
 exact hF.elim
noncomputable def M_boulterlaw25_awake : Option (Bool) :=
 (M_scope_Parse ([115, 47, 97, 47, 98, 47, 59, 115, 47, 98, 47, 99, 47, 82] : List UInt8) (100 : Int) (50 : Int)).bind fun (w2, x2, x3) => (match w2 with | some x1w1 => iteB ((x3 != (0 : Int)) || false) (some false) ((M_scope_Rules_Member_sPOR x1w1 (⟨([97] : List UInt8), ([97] : List UInt8), (50 : Int), (0 : Int), (0 : Int), (0 : Int), ([] : List UInt8), ([] : List UInt8), (0 : Int), (0 : Int), (⟨(0 : Int), (0 : Int)⟩ : S_api_Stamp), ([] : List S_api_Pair), ([] : List UInt8)⟩ : S_api_Member)).bind fun (x4, x5) => (iteB (((x5 == (0 : Int)) && (x4.Name == ([98] : List UInt8))) && (x4.Link == ([99] : List UInt8))) ((M_scope_Rules_Len_sPO x1w1).bind fun x7 => some (x7 == (2 : Int))) (some false) : Option (Bool)).bind fun x6 => some x6) | none => iteB ((x3 != (0 : Int)) || true) (some false) (none))
theorem ok_boulterlaw25_awake {q0} (hm : M_boulterlaw25_awake = some q0) (A : HH g h [] F) (hc : canL (cfg.still 14) av = [] := by kernel_rfl) : ∃ v h', Runs cfg g h 14 av v h' ∧ v = .bool q0 ∧ HH g h' [] F := by
 refine rq1 40 [.tmp 0] hc ?_
 clear hc
 unfold M_boulterlaw25_awake at hm
 refine bg 40 [] fun fr H => ?_
 refine aw_sr 1 ?_
 refine at_es 1 [] 8 H (fun _ => id) fun fr H => ?_
 obtain ⟨⟨w2, x2, x3⟩, hx, hm⟩ := bind_some hm
 obtain ⟨v1, h1, hr, hc⟩ := ok_scope_Parse (av := [.str ([115, 47, 97, 47, 98, 47, 59, 115, 47, 98, 47, 99, 47, 82] : List UInt8), .int .i64 100, .int .i64 50]) hx (A.cut 0)
 rcases hc with ⟨bx1w1, rx1w1_0, x1w1, rfl, rfl, A1⟩ | ⟨rfl, rfl, A1⟩
 ·replace A := A.g02 A1
  refine at_lc1 7 hr H fun fr t H => ?_
  refine at_el 7 [(1, .ptr (some (bx1w1, 0))), (3, .int .i64 x3)] H (fun _ => id) fun fr H => ?_
  refine aw_sq ?_
  refine aw_sr 6 ?_
  refine at_sl 3 [(13, .bool (x3 != (0 : Int)))] H fun fr H => ?_
  refine at_cl 3 (fun fr' h' => h1 = h' ∧ Has fr' 40 [(1, .ptr (some (bx1w1, 0))), (16, .bool ((x3 != (0 : Int)) || false))]) ?_ ?_
  ·cases hb : (x3 != (0 : Int) : Bool) with
   | true =>
    replace H := H.kn 13 hb
    refine at_sl 3 [(16, .bool true)] H fun fr H => ?_
    exact at_zb H hb
   | false =>
    replace H := H.kn 13 hb
    refine at_sl 3 [(16, .bool false)] H fun fr H => ?_
    exact at_zb H hb
  intro t fr h' hK
  obtain ⟨e, H⟩ := hK
  subst e
  refine at_nl id ?_
  refine aw_if 16 H hm (fun hb hm H => ?_) fun hb hm H => ?_
  ·refine aw_sr 1 ?_
   refine at_el 1 [(0, .bool false)] H (fun _ => id) fun fr H => ?_
   refine aw_rt ?_
   obtain rfl := injA hm
   refine ⟨.inl rfl, .bool false, rH H, ?_⟩
   replace A := A.d0
   exact ⟨rfl, A⟩
  refine aw_ks 9 id ?_
  obtain ⟨⟨x4, x5⟩, hx, hm⟩ := bind_some hm
  obtain ⟨v1, h2, hr, rfl, A1⟩ := ok_scope_Rules_Member_sPOR (av := [.ptr (some (bx1w1, 0)), .agg [.str ([97] : List UInt8), .str ([97] : List UInt8), .int .u8 50, .int .i64 0, .int .i64 0, .int .i64 0, .str ([] : List UInt8), .str ([] : List UInt8), .int .i64 0, .int .i64 0, .int .i64 0, .int .i64 0, .slice none 0, .str ([] : List UInt8)]]) hx (A.cut 2)
  replace A := A.g22 A1
  refine at_gc1 2 [] 20 hr H fun fr t H => ?_
  obtain ⟨h3, e1, A⟩ := A.pu (.cells none 2 [.str ([] : List UInt8), .str ([] : List UInt8), .int .u8 0, .int .i64 0, .int .i64 0, .int .i64 0, .str ([] : List UInt8), .str ([] : List UInt8), .int .i64 0, .int .i64 0, .int .i64 0, .int .i64 0, .slice none 0, .str ([] : List UInt8)])
  refine at_gn 3 [(21, .agg (e_S_api_Member x4)), (22, .int .i64 x5)] 4 (.ptr (some (h2.size, 0))) e1 H fun fr t H => ?_
  obtain ⟨h4, hx, A⟩ := A.s0 0 [.str x4.Name, .str x4.Link, .int .u8 x4.Kind, .int .i64 x4.Mode, .int .i64 x4.Uid, .int .i64 x4.Gid, .str x4.Uname, .str x4.Gname, .int .i64 x4.Major, .int .i64 x4.Minor, .int .i64 x4.Time.Sec, .int .i64 x4.Time.Nsec, vs e_S_api_Pair x4.Extra, .str x4.Data] [_, _, _, _, _, _, _, _, _, _, _, _, _, _]
  refine at_lS hx H fun fr t H => ?_
  refine at_es 1 [(5, .int .i64 x5)] 18 H (fun _ => id) fun fr H => ?_
  refine at_sl 3 [(25, .bool (x5 == (0 : Int)))] H fun fr H => ?_
  refine at_cl 4 (fun fr' h' => h4 = h' ∧ Has fr' 40 [(1, .ptr (some (bx1w1, 0))), (4, .ptr (some (h2.size, 0))), (29, .bool ((x5 == (0 : Int)) && (x4.Name == ([98] : List UInt8))))]) ?_ ?_
  ·cases hb : (x5 == (0 : Int) : Bool) with
   | true =>
    replace H := H.kn 25 hb
    refine at_gl 1 [] 27 0 0 A H fun fr t H => ?_
    refine at_sl 2 [(29, .bool (x4.Name == ([98] : List UInt8)))] H fun fr H => ?_
    exact at_zb H hb
   | false =>
    replace H := H.kn 25 hb
    refine at_sl 4 [(29, .bool false)] H fun fr H => ?_
    exact at_zb H hb
  intro t fr h' hK
  obtain ⟨e, H⟩ := hK
  subst e
  refine at_sl 1 [(30, .bool ((x5 == (0 : Int)) && (x4.Name == ([98] : List UInt8))))] H fun fr H => ?_
  refine at_cl 4 (fun fr' h' => h4 = h' ∧ Has fr' 40 [(1, .ptr (some (bx1w1, 0))), (34, .bool (((x5 == (0 : Int)) && (x4.Name == ([98] : List UInt8))) && (x4.Link == ([99] : List UInt8))))]) ?_ ?_
  ·cases hb : ((x5 == (0 : Int)) && (x4.Name == ([98] : List UInt8)) : Bool) with
   | true =>
    replace H := H.kn 30 hb
    refine at_gl 1 [] 32 0 1 A H fun fr t H => ?_
    refine at_sl 2 [(34, .bool (x4.Link == ([99] : List UInt8)))] H fun fr H => ?_
    exact at_zb H hb
   | false =>
    replace H := H.kn 30 hb
    refine at_sl 4 [(34, .bool false)] H fun fr H => ?_
    exact at_zb H hb
  intro t fr h' hK
  obtain ⟨e, H⟩ := hK
  subst e
  refine at_sl 1 [(35, .bool (((x5 == (0 : Int)) && (x4.Name == ([98] : List UInt8))) && (x4.Link == ([99] : List UInt8))))] H fun fr H => ?_
  obtain ⟨x6, ho, hm⟩ := bind_some hm
  refine at_cl 4 (fun fr' h' => Has fr' 40 [(39, .bool x6)] ∧ HH g h' [.obj h2.size (.cells none 2 (e_S_api_Member x4)), .obj bx1w1 (.cells none 2 [rowV rx1w1_0 x1w1.l_.length, .int .i64 x1w1.name_]), .lst rx1w1_0 58 (lst (eP e_S_rewrite_Rule) x1w1.l_)] F) ?_ ?_
  ·rcases iteB_some ho with ⟨hb, hm⟩ | ⟨hb, hm⟩
   ·replace H := H.kn 35 hb
    replace A := A.k3 1 2 0
    obtain ⟨x7, hx, hm⟩ := bind_some hm
    obtain ⟨v1, h6, hr, rfl, A1⟩ := ok_scope_Rules_Len_sPO (av := [.ptr (some (bx1w1, 0))]) hx (A.cut 2)
    replace A := A.g22 A1
    refine at_gc1 1 [] 37 hr H fun fr t H => ?_
    refine at_sl 2 [(39, .bool (x7 == (2 : Int)))] H fun fr H => ?_
    obtain rfl := injA hm
    replace A := A.k3 2 0 1
    exact at_nil ⟨H.ls, A⟩
   replace H := H.kn 35 hb
   refine at_sl 4 [(39, .bool false)] H fun fr H => ?_
   obtain rfl := injA hm
   exact at_nil ⟨H.ls, A⟩
  clear A
  intro t fr h5 hK
  obtain ⟨H, A⟩ := hK
  refine at_el 1 [(0, .bool x6)] H (fun _ => id) fun fr H => ?_
  refine aw_rt ?_
  obtain rfl := injA hm
  refine ⟨.inl rfl, .bool x6, rH H, ?_⟩
  replace A := A.d0
  exact ⟨rfl, A⟩
 replace A := A.g00 A1
 refine at_lc1 7 hr H fun fr t H => ?_
 refine at_el 7 [(1, .ptr none), (3, .int .i64 x3)] H (fun _ => id) fun fr H => ?_
 refine aw_sq ?_
 refine aw_sr 6 ?_
 refine at_sl 3 [(13, .bool (x3 != (0 : Int)))] H fun fr H => ?_
 refine at_cl 3 (fun fr' h' => h1 = h' ∧ Has fr' 40 [(1, .ptr none), (16, .bool ((x3 != (0 : Int)) || true))]) ?_ ?_
 ·cases hb : (x3 != (0 : Int) : Bool) with
  | true =>
   replace H := H.kn 13 hb
   refine at_sl 3 [(16, .bool true)] H fun fr H => ?_
   exact at_zb H hb
  | false =>
   replace H := H.kn 13 hb
   refine at_sl 3 [(16, .bool true)] H fun fr H => ?_
   exact at_zb H hb
 intro t fr h' hK
 obtain ⟨e, H⟩ := hK
 subst e
 refine at_nl id ?_
 refine aw_if 16 H hm (fun hb hm H => ?_) fun hb hm H => ?_
 ·refine aw_sr 1 ?_
  refine at_el 1 [(0, .bool false)] H (fun _ => id) fun fr H => ?_
  refine aw_rt ?_
  obtain rfl := injA hm
  exact ⟨.inl rfl, _, rH H, rfl, A⟩
 refine aw_ks 9 id ?_
 cases hm
end Go.Av.L
