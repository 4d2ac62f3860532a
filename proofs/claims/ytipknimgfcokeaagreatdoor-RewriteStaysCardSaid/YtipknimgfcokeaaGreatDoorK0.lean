/-
 Models of functions, and that the abstract run tells them. Written by lift2.py.
-/
import Derived.Test.YtipknimgfcokeaaGreatDoorKCfg
namespace Go.Av.L
open Go.Av Go.Lib
set_option maxRecDepth 10000
set_option linter.unusedVariables false
set_option linter.unusedSimpArgs false
variable {g : Gd} {h : AH} {F : List Ck} {av : List AB}
noncomputable section
def G0 (p0 : List UInt8) (p1 : Int) : Option (Bool) :=
 (Af (decide ((IntKind.i64.wrap (p1 + 1)) < (p0.length : Int))) ((Jf p0 p1).bind fun x2 => some (x2 == 115)) (some false) : Option (Bool)).bind fun x1 => (Af x1 ((Jf p0 (IntKind.i64.wrap (p1 + 1))).bind fun x4 => some (x4 != 92)) (some false) : Option (Bool)).bind fun x3 => (Af x3 ((Jf p0 (IntKind.i64.wrap (p1 + 1))).bind fun x6 => some (x6 != 10)) (some false) : Option (Bool)).bind fun x5 => some x5
theorem L2 {p0 p1 q0} (hm : G0 p0 p1 = some q0) (A : HH g h [] F) (hc : BZ (cfg.still 27) av = [.str p0, Ai p1] := by kernel_rfl) : ∃ v h', Bg cfg g h 27 av v h' ∧ v = .bool q0 ∧ HH g h' [] F := by
 refine E5 30 [.tmp 4] hc ?_
 clear hc
 unfold G0 at hm
 refine bg 30 [(0, .str p0), (1, Ai p1)] fun fr H => ?_
 refine AD 1 (Bw 1 [] 26 H fun fr H => AE 6 [(10, .bool (decide ((IntKind.i64.wrap (p1 + 1)) < (p0.length : Int))))] H fun fr H => ?_)
 obtain ⟨x1, ho, hm⟩ := bind_some hm
 refine BD 5 (fun fr' h' => Has fr' 30 [(0, .str p0), (1, Ai p1), (15, .bool x1)] ∧ HH g h' [] F) ?_ ?_
 ·rcases BJ ho with ⟨hb, hm⟩ | ⟨hb, hm⟩
  ·replace H := H.kn 10 hb
   obtain ⟨x2, hx, hm⟩ := bind_some hm
   refine BI 2 [] 13 (Ab x2) h H (fun fr => .of (EL (by kernel_rfl) hx)) fun fr t H => ?_
   refine AE 2 [(15, .bool (x2 == 115))] H fun fr H => ?_
   obtain rfl := Ah hm
   exact at_nil ⟨H.ls, A⟩
  replace H := H.kn 10 hb
  refine AE 5 [(15, .bool false)] H fun fr H => ?_
  obtain rfl := Ah hm
  exact at_nil ⟨H.ls, A⟩
 clear A
 intro t fr h1 hK
 obtain ⟨H, A⟩ := hK
 refine AE 1 [(16, .bool x1)] H fun fr H => ?_
 obtain ⟨x3, ho, hm⟩ := bind_some hm
 refine BD 6 (fun fr' h' => Has fr' 30 [(0, .str p0), (1, Ai p1), (22, .bool x3)] ∧ HH g h' [] F) ?_ ?_
 ·rcases BJ ho with ⟨hb, hm⟩ | ⟨hb, hm⟩
  ·replace H := H.kn 16 hb
   obtain ⟨x4, hx, hm⟩ := bind_some hm
   refine BI 3 [] 20 (Ab x4) h1 H (fun fr => .of (EL (by kernel_rfl) hx)) fun fr t H => ?_
   refine AE 2 [(22, .bool (x4 != 92))] H fun fr H => ?_
   obtain rfl := Ah hm
   exact at_nil ⟨H.ls, A⟩
  replace H := H.kn 16 hb
  refine AE 6 [(22, .bool false)] H fun fr H => ?_
  obtain rfl := Ah hm
  exact at_nil ⟨H.ls, A⟩
 clear A
 intro t fr h2 hK
 obtain ⟨H, A⟩ := hK
 refine AE 1 [(23, .bool x3)] H fun fr H => ?_
 obtain ⟨x5, ho, hm⟩ := bind_some hm
 refine BD 6 (fun fr' h' => Has fr' 30 [(29, .bool x5)] ∧ HH g h' [] F) ?_ ?_
 ·rcases BJ ho with ⟨hb, hm⟩ | ⟨hb, hm⟩
  ·replace H := H.kn 23 hb
   obtain ⟨x6, hx, hm⟩ := bind_some hm
   refine BI 3 [] 27 (Ab x6) h2 H (fun fr => .of (EL (by kernel_rfl) hx)) fun fr t H => ?_
   refine AE 2 [(29, .bool (x6 != 10))] H fun fr H => ?_
   obtain rfl := Ah hm
   exact at_nil ⟨H.ls, A⟩
  replace H := H.kn 23 hb
  refine AE 6 [(29, .bool false)] H fun fr H => ?_
  obtain rfl := Ah hm
  exact at_nil ⟨H.ls, A⟩
 clear A
 intro t fr h3 hK
 obtain ⟨H, A⟩ := hK
 refine AM 1 [(4, .bool x5)] H fun fr H => Ag ?_
 obtain rfl := Ah hm
 exact ⟨.inl rfl, _, rH H, rfl, A⟩
def Iu (p0 : List UInt8) (p2 : Int) (s : (List UInt8) × Int) : Option (((List UInt8) × Int) ⊕ ((Unit) ⊕ ((List UInt8) × Int × Bool))) :=
 match s with
 | (x1, x2) => Af (decide (x2 < (p0.length : Int))) (((Jf p0 x2).bind fun x11 => Af (x11 == p2) (some (.inr (x1, IntKind.i64.wrap (x2 + 1), true))) ((Jf p0 x2).bind fun x12 => Af ((x12 == 92) && (decide ((IntKind.i64.wrap (x2 + 1)) < (p0.length : Int)))) (((Jf p0 (IntKind.i64.wrap (x2 + 1))).bind fun x14 => Af (x14 != p2) (Cm (KI 1 (x1.length + ([(92 : UInt8)] : List UInt8).length)) <| some (x1 ++ ([(92 : UInt8)] : List UInt8))) (some x1) : Option (((List UInt8)))).bind fun x13 => some (.inl (x13, IntKind.i64.wrap (x2 + 1)))) (some (.inl (x1, x2)))) : Option (((List UInt8) × Int) ⊕ ((List UInt8) × Int × Bool))).bind fun o2 => (match o2 with | .inl (x6, x7) => (Jf p0 x7).bind fun x15 => (RB x15).bind fun x16 => Cm (KI 1 (x6.length + ([x16] : List UInt8).length)) <| some (.inl ((x6 ++ ([x16] : List UInt8)), IntKind.i64.wrap (x7 + 1))) | .inr (x8, x9, x10) => some (.inr (.inr (x8, x9, x10))))) (some (.inr (.inl ())))
def Ge (p0 : List UInt8) (p1 : Int) (p2 : Int) : Option ((List UInt8) × Int × Bool) :=
 (loop (Iu p0 p2) (([] : List UInt8), p1)).bind fun o1 => (match o1 with | .inl _ => some (([] : List UInt8), (p0.length : Int), false) | .inr (x3, x4, x5) => some (x3, x4, x5))
theorem J7 {p0 p1 p2 q0 q1 q2} (hm : Ge p0 p1 p2 = some (q0, q1, q2)) (A : HH g h [] F) (hc : BZ (cfg.still 28) av = [.str p0, Ai p1, Ab p2] := by kernel_rfl) : ∃ v h', Bg cfg g h 28 av v h' ∧ v = .tuple [.str q0, Ai q1, .bool q2] ∧ HH g h' [] F := by
 refine E5 57 [.tmp 6, .tmp 7, .tmp 8] hc ?_
 clear hc
 unfold Ge at hm
 refine bg 57 [(0, .str p0), (1, Ai p1), (2, Ab p2)] fun fr H => ?_
 refine AD 3 (Bw 3 [] 1 H fun fr H => AM 1 [(9, .slice none 0)] H fun fr H => AQ (Ac (id := 0) (by kernel_rfl) ?_))
 replace A : HH g h [.AO none 5 (AO eY ([] : List UInt8))] F := A.IY 5
 obtain ⟨o1, ho, hm⟩ := bind_some hm
 refine As (Q' := fun e fr' h' => (e = .exit 0 ∧ .inl () = o1 ∧ Has fr' 57 [(0, .str p0)] ∧ HH g h' [] F) ∨ (∃ x3 x4 x5, e = .ret ∧ .inr (x3, x4, x5) = o1 ∧ Has fr' 57 [(6, .str x3), (7, Ai x4), (8, .bool x5)] ∧ HH g h' [] F) ∨ False) ?_ ?_
 ·refine B2 (by kernel_rfl) (fun (s : (List UInt8) × Int) fr' h' => ∃ x1 x2, (x1, x2) = s ∧ ∃ r1, Has fr' 57 [(0, .str p0), (1, Ai x2), (2, Ab p2), (9, AG r1 x1.length)] ∧ HH g h' [.AO r1 5 (AO eY x1)] F) ho ⟨_, _, rfl, none, H.ls, A⟩ ?_
  clear ho hm H A
  intro s q fr h1 hI hm
  obtain ⟨x1, x2, rfl, r1, H, A⟩ := hI
  unfold Iu at hm
  refine AQ (AD 4 (AM 4 [(13, .bool (decide (x2 < (p0.length : Int))))] H fun fr H => AV 13 H hm (fun hb hm H => ?_) fun hb hm H => ?_))
  ·refine CE id (AQ (Ac (id := 1) (by kernel_rfl) ?_))
   refine AQ ?_
   obtain ⟨o2, ho, hm⟩ := bind_some hm
   refine As (Q' := fun e fr' h' => (∃ x6 x7, e = .normal ∧ .inl (x6, x7) = o2 ∧ ∃ r2, Has fr' 57 [(0, .str p0), (1, Ai x7), (2, Ab p2), (9, AG r2 x6.length)] ∧ HH g h' [.AO r2 5 (AO eY x6)] F) ∨ (∃ x8 x9 x10, e = .ret ∧ .inr (x8, x9, x10) = o2 ∧ Has fr' 57 [(6, .str x8), (7, Ai x9), (8, .bool x10)] ∧ HH g h' [] F) ∨ False) ?_ ?_
   ·replace hm := ho
    clear ho
    refine Ac (id := 2) (by kernel_rfl) ?_
    refine AD 6 ?_
    obtain ⟨x11, hx, hm⟩ := bind_some hm
    refine BI 2 [] 19 (Ab x11) h1 H (fun fr => .of (EL (by kernel_rfl) hx)) fun fr t H => ?_
    refine AM 3 [(16, .bool (x11 == p2))] H fun fr H => AV 16 H hm (fun hb hm H => ?_) fun hb hm H => ?_
    ·refine AD 7 (AE 1 [(22, AG r1 x1.length)] H fun fr H => Ax 23 (.str x1) h1 H (fun fr => .of (Ou (xs := x1) A 0 rfl (by kernel_rfl))) fun fr t H => ?_)
     refine AM 5 [(6, .str x1), (7, Ai (IntKind.i64.wrap (x2 + 1))), (8, .bool true)] H fun fr H => Ag ?_
     replace A := A.d0
     exact .inr (.inl ⟨_, _, _, rfl, Ah hm, H.ls, A⟩)
    refine AD 12 ?_
    obtain ⟨x12, hx, hm⟩ := bind_some hm
    refine BI 2 [] 29 (Ab x12) h1 H (fun fr => .of (EL (by kernel_rfl) hx)) fun fr t H => ?_
    refine AE 2 [(31, .bool (x12 == 92))] H fun fr H => BD 6 (fun fr' h' => h1 = h' ∧ Has fr' 57 [(0, .str p0), (1, Ai x2), (2, Ab p2), (9, AG r1 x1.length), (37, .bool ((x12 == 92) && (decide ((IntKind.i64.wrap (x2 + 1)) < (p0.length : Int)))))]) ?_ ?_
    ·cases hb : (x12 == 92 : Bool) with
     | true =>
      replace H := H.kn 31 hb
      exact AE 6 [(37, .bool (decide ((IntKind.i64.wrap (x2 + 1)) < (p0.length : Int))))] H fun fr H => Am H hb
     | false =>
      replace H := H.kn 31 hb
      exact AE 6 [(37, .bool false)] H fun fr H => Am H hb
    intro t fr h' hK
    obtain ⟨e, H⟩ := hK
    subst e
    refine AM 1 [(26, .bool ((x12 == 92) && (decide ((IntKind.i64.wrap (x2 + 1)) < (p0.length : Int)))))] H fun fr H => AV 26 H hm (fun hb hm H => ?_) fun hb hm H => ?_
    ·refine AQ ?_
     obtain ⟨o3, ho, hm⟩ := bind_some hm
     refine As (Q' := fun e fr' h' => (∃ x13, e = .normal ∧ x13 = o3 ∧ ∃ r3, Has fr' 57 [(0, .str p0), (1, Ai x2), (2, Ab p2), (9, AG r3 x13.length)] ∧ HH g h' [.AO r3 5 (AO eY x13)] F) ∨ False) ?_ ?_
     ·replace hm := ho
      clear ho
      refine AD 6 ?_
      obtain ⟨x14, hx, hm⟩ := bind_some hm
      refine BI 3 [] 41 (Ab x14) h1 H (fun fr => .of (EL (by kernel_rfl) hx)) fun fr t H => ?_
      refine AM 2 [(43, .bool (x14 != p2))] H fun fr H => AV 43 H hm (fun hb hm H => ?_) fun hb hm H => ?_
      ·refine Bd 4 (AE 1 [(44, AG r1 x1.length)] H fun fr H => ?_)
       obtain ⟨h2, e1, A⟩ := A.pL 5 [Ab 92]
       refine Bo 45 (AG (some h1.size) (([(92 : UInt8)] : List UInt8).length)) e1 H fun fr t H => ?_
       obtain ⟨hb, hm⟩ := BQ hm
       obtain ⟨r4, h3, hx, A1⟩ := HH.Hd J1 (by decide) A 1 (xs := x1) (ys := ([(92 : UInt8)] : List UInt8)) rfl (B6 A 0 rfl (n := ([(92 : UInt8)] : List UInt8).length) (z := 1) rfl (by decide)) rfl rfl hb
       replace A : HH g h3 [.AO (some h1.size) 5 ([Ab 92]), .AO r4 5 (AO eY (x1 ++ ([(92 : UInt8)] : List UInt8)))] F := A1
       replace A := A.k1 1
       refine Ax 46 _ _ H (fun fr => .of (Er (s := Cf r1 x1.length) (by kernel_rfl) hx)) fun fr t H => ?_
       refine BG 1 [(0, .str p0), (1, Ai x2), (2, Ab p2), (9, AG r4 ((x1 ++ ([(92 : UInt8)] : List UInt8)).length))] H fun fr H => at_nil ?_
       exact .inl ⟨_, rfl, Ah hm, _, H.ls, A⟩
      exact By (.inl ⟨_, rfl, Ah hm, _, H.ls, A⟩)
     clear ho
     clear A
     intro e fr h4 hQ
     rcases hQ with ⟨x13, rfl, rfl, r3, H, A⟩ | hF
     ·show AW _ _ _ _ _ _ _
      refine Bd 3 (BG 3 [(0, .str p0), (1, Ai (IntKind.i64.wrap (x2 + 1))), (2, Ab p2), (9, AG r3 x13.length)] H fun fr H => at_nil ?_)
      exact .inl ⟨_, _, rfl, Ah hm, _, H.ls, A⟩
     exact hF.elim
    exact By (.inl ⟨_, _, rfl, Ah hm, _, H.ls, A⟩)
   clear ho
   clear A
   intro e fr h5 hQ
   rcases hQ with ⟨x6, x7, rfl, rfl, r2, H, A⟩ | ⟨x8, x9, x10, rfl, rfl, H, A⟩ | hF
   ·show AW _ _ _ _ _ _ _
    refine Bd 7 ?_
    obtain ⟨x15, hx, hm⟩ := bind_some hm
    refine BI 3 [(49, AG r2 x6.length)] 52 (Ab x15) h5 H (fun fr => .of (EL (by kernel_rfl) hx)) fun fr t H => ?_
    obtain ⟨x16, hx, hm⟩ := bind_some hm
    have hx := LY hx
    have kH := hm
    have kA := A
    have kR := H
    subst hx
    have hm := kH
    have A := kA
    have H := kR
    clear kH kA kR
    obtain ⟨h6, e2, A⟩ := A.pL 5 [Ab (x16.toNat : Int)]
    refine Bo 53 (AG (some h5.size) (([x16] : List UInt8).length)) e2 H fun fr t H => ?_
    obtain ⟨hb, hm⟩ := BQ hm
    obtain ⟨r5, h7, hx, A1⟩ := HH.Hd J1 (by decide) A 1 (xs := x6) (ys := ([x16] : List UInt8)) rfl (B6 A 0 rfl (n := ([x16] : List UInt8).length) (z := 1) rfl (by decide)) rfl rfl hb
    replace A : HH g h7 [.AO (some h5.size) 5 ([Ab (x16.toNat : Int)]), .AO r5 5 (AO eY (x6 ++ ([x16] : List UInt8)))] F := A1
    replace A := A.k1 1
    refine Ax 54 _ _ H (fun fr => .of (Er (s := Cf r2 x6.length) (by kernel_rfl) hx)) fun fr t H => ?_
    refine BG 1 [(0, .str p0), (1, Ai x7), (2, Ab p2), (9, AG r5 ((x6 ++ ([x16] : List UInt8)).length))] H fun fr H => Gq 3 id (BG 3 [(0, .str p0), (1, Ai (IntKind.i64.wrap (x7 + 1))), (2, Ab p2), (9, AG r5 ((x6 ++ ([x16] : List UInt8)).length))] H fun fr H => at_nil ?_)
    exact nx hm ⟨_, _, rfl, _, H.ls, A⟩
   ·exact nr hm fun e => Or.inr (.inl ⟨_, _, _, rfl, e, H.ls, A⟩)
   exact hF.elim
  refine BO (i := 0) (by kernel_rfl) ?_
  replace A := A.d0
  exact nr hm fun e => .inl ⟨rfl, e, H.ls, A⟩
 clear ho
 clear A
 intro e fr h8 hQ
 rcases hQ with ⟨rfl, rfl, H, A⟩ | ⟨x3, x4, x5, rfl, rfl, H, A⟩ | hF
 ·show AW _ _ _ _ _ _ _
  refine AD 5 (AM 5 [(6, .str ([] : List UInt8)), (7, Ai (p0.length : Int)), (8, .bool false)] H fun fr H => Ag ?_)
  obtain ⟨rfl, rfl, rfl⟩ := DR hm
  exact ⟨.inl rfl, _, rH H, rfl, A⟩
 ·obtain ⟨rfl, rfl, rfl⟩ := DR hm
  exact ⟨.inl rfl, _, rH H, rfl, A⟩
 exact hF.elim
def Hj (x1 : List UInt8) (s : Int × Int) : Option ((Int × Int) ⊕ ((Int))) :=
 match s with
 | (x6, x7) => Af (decide (x7 < (x1.length : Int))) ((Ff x1 x7).bind fun x9 => Af (decide ((IntKind.u8.wrap ((x9.toNat : Int) - 48)) > 9)) (none) (some (.inl (IntKind.i64.wrap ((IntKind.i64.wrap (x6 * 10)) + (IntKind.i64.wrap (IntKind.u8.wrap ((x9.toNat : Int) - 48)))), IntKind.i64.wrap (x7 + 1))))) (some (.inr x6))
def Gz (p0 : List UInt8) : Option (Int) :=
 Af ((decide ((0 : Int) < (p0.length : Int))) && (decide ((p0.length : Int) < 19))) (((Jf p0 (0 : Int)).bind fun x2 => (Af (x2 == 45) (some true) ((Jf p0 (0 : Int)).bind fun x4 => some (x4 == 43)) : Option (Bool)).bind fun x3 => Af x3 ((IB p0 (some (1 : Int)) none).bind fun x5 => Af (decide ((x5.length : Int) < 1)) (none) (some x5)) (some p0) : Option (((List UInt8)))).bind fun x1 => Cm (decide (x1.length ≤ 1099511627776)) <| (loop (Hj x1) ((0 : Int), (0 : Int))).bind fun x8 => ((Jf p0 (0 : Int)).bind fun x11 => Af (x11 == 45) (some (IntKind.i64.wrap (0 - x8))) (some x8) : Option ((Int))).bind fun x10 => some x10) (none)
theorem L8 {p0 q0} (hm : Gz p0 = some q0) (A : HH g h [] F) (hc : BZ (cfg.still 68) av = [.str p0] := by kernel_rfl) : ∃ v h', Bg cfg g h 68 av v h' ∧ v = .tuple [Ai q0, .nilIface] ∧ HH g h' [] F := by
 refine E5 77 [.tmp 2, .tmp 3] hc ?_
 clear hc
 unfold Gz at hm
 refine bg 77 [(0, .str p0)] fun fr H => ?_
 refine AD 2 (Bw 2 [] 3 H fun fr H => AM 3 [(4, Ai (p0.length : Int))] H fun fr H => AQ (AD 18 (AE 13 [(21, .bool false), (22, .bool true), (25, .bool (decide ((0 : Int) < (p0.length : Int))))] H fun fr H => BD 3 (fun fr' h' => h = h' ∧ Has fr' 77 [(0, .str p0), (21, .bool false), (22, .bool true), (28, .bool ((decide ((0 : Int) < (p0.length : Int))) && (decide ((p0.length : Int) < 19))))]) ?_ ?_)))
 ·cases hb : (decide ((0 : Int) < (p0.length : Int)) : Bool) with
  | true =>
   replace H := H.kn 25 hb
   exact AE 3 [(28, .bool (decide ((p0.length : Int) < 19)))] H fun fr H => Am H hb
  | false =>
   replace H := H.kn 25 hb
   exact AE 3 [(28, .bool false)] H fun fr H => Am H hb
 intro t fr h' hK
 obtain ⟨e, H⟩ := hK
 subst e
 refine AM 2 [(30, .bool ((decide ((0 : Int) < (p0.length : Int))) && (decide ((p0.length : Int) < 19))))] H fun fr H => AV 30 H hm (fun hb hm H => ?_) fun hb hm H => ?_
 ·refine AD 2 (AM 2 [(5, .str p0)] H fun fr H => AQ ?_)
  obtain ⟨o1, ho, hm⟩ := bind_some hm
  refine As (Q' := fun e fr' h' => (∃ x1, e = .normal ∧ x1 = o1 ∧ Has fr' 77 [(0, .str x1), (5, .str p0)] ∧ HH g h' [] F) ∨ False) ?_ ?_
  ·replace hm := ho
   clear ho
   refine AD 8 ?_
   obtain ⟨x2, hx, hm⟩ := bind_some hm
   refine BI 1 [] 33 (Ab x2) h H (fun fr => .of (EL (by kernel_rfl) hx)) fun fr t H => ?_
   refine AE 2 [(35, .bool (x2 == 45))] H fun fr H => ?_
   obtain ⟨x3, ho, hm⟩ := bind_some hm
   refine BD 4 (fun fr' h' => Has fr' 77 [(0, .str p0), (5, .str p0), (39, .bool x3)] ∧ HH g h' [] F) ?_ ?_
   ·rcases BJ ho with ⟨hb, hm⟩ | ⟨hb, hm⟩
    ·replace H := H.kn 35 hb
     refine AE 4 [(39, .bool true)] H fun fr H => ?_
     obtain rfl := Ah hm
     exact at_nil ⟨H.ls, A⟩
    replace H := H.kn 35 hb
    obtain ⟨x4, hx, hm⟩ := bind_some hm
    refine BI 1 [] 37 (Ab x4) h H (fun fr => .of (EL (by kernel_rfl) hx)) fun fr t H => ?_
    refine AE 2 [(39, .bool (x4 == 43))] H fun fr H => ?_
    obtain rfl := Ah hm
    exact at_nil ⟨H.ls, A⟩
   clear A
   intro t fr h1 hK
   obtain ⟨H, A⟩ := hK
   refine BK id (AV 39 H hm (fun hb hm H => ?_) fun hb hm H => ?_)
   ·refine AD 3 ?_
    obtain ⟨x5, hx, hm⟩ := bind_some hm
    refine BI 1 [] 41 (.str x5) h1 H (fun fr => .of (Gp (k := .i64) (k' := .i64) (lo := (some (1 : Int))) (hi := none) (by kernel_rfl) hx)) fun fr t H => ?_
    refine BG 1 [(0, .str x5), (5, .str p0)] H fun fr H => CG 3 id (AM 3 [(44, .bool (decide ((x5.length : Int) < 1)))] H fun fr H => AV 44 H hm (fun hb hm H => ?_) fun hb hm H => ?_)
    ·refine AD 3 ?_
     cases hm
    exact By (.inl ⟨_, rfl, Ah hm, H.ls, A⟩)
   exact By (.inl ⟨_, rfl, Ah hm, H.ls, A⟩)
  clear ho
  clear A
  intro e fr h2 hQ
  rcases hQ with ⟨x1, rfl, rfl, H, A⟩ | hF
  ·show AW _ _ _ _ _ _ _
   refine AD 1 (AM 1 [(6, Ai 0)] H fun fr H => AQ (AD 4 (AE 1 [(46, .str x1)] H fun fr H => ?_)))
   obtain ⟨hb, hm⟩ := BQ hm
   obtain ⟨h3, e1⟩ : ∃ x, x = h2.push (.cells (some 5) 2 (x1.map fun b => Ab b.toNat)) := ⟨_, rfl⟩
   replace A : HH g h3 [.AO (some h2.size) 5 (AO eY x1)] F := by rw [← WH]; exact (A.UH _ _).to e1
   refine Ax 47 (AG (some h2.size) x1.length) h3 H (fun fr => .of (Wu (by kernel_rfl) hb (congrArg some e1.symm))) fun fr t H => ?_
   refine AM 2 [(48, Ai (x1.length : Int)), (49, Ai 0)] H fun fr H => Ac (id := 0) (by kernel_rfl) ?_
   obtain ⟨o2, ho, hm⟩ := bind_some hm
   refine As (Q' := fun e fr' h' => (∃ x8, e = .exit 0 ∧ x8 = o2 ∧ Has fr' 77 [(5, .str p0), (6, Ai x8)] ∧ HH g h' [] F) ∨ False) ?_ ?_
   ·refine B2 (by kernel_rfl) (fun (s : Int × Int) fr' h' => ∃ x6 x7, (x6, x7) = s ∧ Has fr' 77 [(5, .str p0), (6, Ai x6), (47, AG (some h2.size) x1.length), (48, Ai (x1.length : Int)), (49, Ai x7)] ∧ HH g h' [.AO (some h2.size) 5 (AO eY x1)] F) ho ⟨_, _, rfl, H.ls, A⟩ ?_
    clear ho hm H A
    intro s q fr h4 hI hm
    obtain ⟨x6, x7, rfl, H, A⟩ := hI
    unfold Hj at hm
    refine AD 1 (AM 1 [(50, .bool (decide (x7 < (x1.length : Int))))] H fun fr H => AQ (AV 50 H hm (fun hb hm H => ?_) fun hb hm H => ?_))
    ·refine CE id (AQ (Ac (id := 1) (by kernel_rfl) ?_))
     refine AD 3 ?_
     obtain ⟨x9, hx, hm⟩ := bind_some hm
     obtain ⟨i1, er1, _, hx, hq1⟩ := HH.ND J1 (by decide) A 0 (xs := x1) rfl hx
     refine Ax 51 (.ptr (some (i1, x7.toNat * 1))) h4 H (fun fr => .of (FI (s := Cf (some h2.size) x1.length) (by kernel_rfl) hx)) fun fr t H => ?_
     refine Ax 52 _ _ H (fun fr => .of (Dd (by kernel_rfl) (E7 J1 (HH.row A 0 rfl er1) hq1 (o := 0) rfl))) fun fr t H => ?_
     refine Bw 1 [(8, Ab (x9.toNat : Int))] 3 H fun fr H => BG 3 [(5, .str p0), (6, Ai x6), (8, Ab (IntKind.u8.wrap ((x9.toNat : Int) - 48))), (47, AG (some h2.size) x1.length), (48, Ai (x1.length : Int)), (49, Ai x7)] H fun fr H => BK id (AQ (AD 2 (AM 2 [(56, .bool (decide ((IntKind.u8.wrap ((x9.toNat : Int) - 48)) > 9)))] H fun fr H => AV 56 H hm (fun hb hm H => ?_) fun hb hm H => ?_)))
     ·refine AD 3 ?_
      cases hm
     refine KX 6 id (BG 6 [(5, .str p0), (6, Ai (IntKind.i64.wrap ((IntKind.i64.wrap (x6 * 10)) + (IntKind.i64.wrap (IntKind.u8.wrap ((x9.toNat : Int) - 48)))))), (47, AG (some h2.size) x1.length), (48, Ai (x1.length : Int)), (49, Ai x7)] H fun fr H => Gq 2 id (BG 2 [(5, .str p0), (6, Ai (IntKind.i64.wrap ((IntKind.i64.wrap (x6 * 10)) + (IntKind.i64.wrap (IntKind.u8.wrap ((x9.toNat : Int) - 48)))))), (47, AG (some h2.size) x1.length), (48, Ai (x1.length : Int)), (49, Ai (IntKind.i64.wrap (x7 + 1)))] H fun fr H => at_nil ?_))
     exact nx hm ⟨_, _, rfl, H.ls, A⟩
    refine BO (i := 0) (by kernel_rfl) ?_
    replace A := A.d0
    exact nr hm fun e => .inl ⟨_, rfl, e, H.ls, A⟩
   clear ho
   clear A
   intro e fr h5 hQ
   rcases hQ with ⟨x8, rfl, rfl, H, A⟩ | hF
   ·show AW _ _ _ _ _ _ _
    refine AQ ?_
    obtain ⟨o3, ho, hm⟩ := bind_some hm
    refine As (Q' := fun e fr' h' => (∃ x10, e = .normal ∧ x10 = o3 ∧ Has fr' 77 [(6, Ai x10)] ∧ HH g h' [] F) ∨ False) ?_ ?_
    ·replace hm := ho
     clear ho
     refine AD 3 ?_
     obtain ⟨x11, hx, hm⟩ := bind_some hm
     refine BI 1 [] 65 (Ab x11) h5 H (fun fr => .of (EL (by kernel_rfl) hx)) fun fr t H => ?_
     refine AM 1 [(66, .bool (x11 == 45))] H fun fr H => AV 66 H hm (fun hb hm H => ?_) fun hb hm H => ?_
     ·refine Bd 3 (BG 3 [(6, Ai (IntKind.i64.wrap (0 - x8)))] H fun fr H => at_nil ?_)
      exact .inl ⟨_, rfl, Ah hm, H.ls, A⟩
     exact By (.inl ⟨_, rfl, Ah hm, H.ls, A⟩)
    clear ho
    clear A
    intro e fr h6 hQ
    rcases hQ with ⟨x10, rfl, rfl, H, A⟩ | hF
    ·show AW _ _ _ _ _ _ _
     refine AD 3 (AM 3 [(2, Ai x10), (3, .nilIface)] H fun fr H => Ag ?_)
     obtain rfl := Ah hm
     exact ⟨.inl rfl, _, rH H, rfl, A⟩
    exact hF.elim
   exact hF.elim
  exact hF.elim
 refine Ca 7 id ?_
 cases hm
def H7 (p0 : List UInt8) : Option (Int) :=
 (Gz p0).bind fun x1 => some x1
theorem M1 {p0 q0} (hm : H7 p0 = some q0) (A : HH g h [] F) (hc : BZ (cfg.still 52) av = [.str p0] := by kernel_rfl) : ∃ v h', Bg cfg g h 52 av v h' ∧ v = .tuple [Ai q0, .nilIface] ∧ HH g h' [] F := by
 refine E5 18 [.tmp 2, .tmp 3] hc ?_
 clear hc
 unfold H7 at hm
 refine bg 18 [(0, .str p0)] fun fr H => ?_
 refine AD 2 (Bw 2 [] 7 H fun fr H => ?_)
 obtain ⟨x1, hx, hm⟩ := bind_some hm
 obtain ⟨v1, h1, hr, rfl, A1⟩ := L8 (av := [.str p0]) hx (A.cut 0)
 replace A := A.Ea A1
 refine Ap 1 [] 8 hr H fun fr t H => ?_
 refine AM 5 [(4, Ai x1), (5, .nilIface)] H fun fr H => AQ (AD 2 (AM 2 [(12, .bool false)] H fun fr H => QY (x := .tmp 12) (by kernel_rfl) H (fun fr => by kernel_rfl) ?_))
 refine Ca 3 id (AM 3 [(2, Ai x1), (3, .nilIface)] H fun fr H => Ag ?_)
 obtain rfl := Ah hm
 exact ⟨.inl rfl, _, rH H, rfl, A⟩
def GU (p1 : List UInt8) (s : Int) : Option ((Int) ⊕ ((Int))) :=
 match s with
 | x42 => (Af (decide (x42 < (p1.length : Int))) ((Jf p1 x42).bind fun x45 => some (decide (x45 ≥ 48))) (some false) : Option (Bool)).bind fun x44 => (Af x44 ((Jf p1 x42).bind fun x47 => some (decide (x47 ≤ 57))) (some false) : Option (Bool)).bind fun x46 => Af x46 (some (.inl (IntKind.i64.wrap (x42 + 1)))) (some (.inr x42))
def GQ (p1 : List UInt8) (s : (List (Int × Bool)) × Bool × Bool × Bool × Int × Bool × Bool × Bool × Int) : Option (((List (Int × Bool)) × Bool × Bool × Bool × Int × Bool × Bool × Bool × Int) ⊕ (((List (Int × Bool)) × Bool × Bool × Bool × Int × Bool × Bool × Bool) ⊕ ((List (Int × Bool)) × Bool × Bool × Bool × Int × Bool × Bool × Bool × Int))) :=
 match s with
 | (x1, x2, x3, x4, x5, x6, x7, x8, x9) => Af (decide (x9 < (p1.length : Int))) ((Jf p1 x9).bind fun x27 => (Af (x27 == 103) (some (.inl (true, x3, x4, x5, x6, x7, x8, IntKind.i64.wrap (x9 + 1), Hu .u8 x27 (32 : Int)))) (Af (x27 == 105) (some (.inl (x2, true, x4, x5, x6, x7, x8, IntKind.i64.wrap (x9 + 1), Hu .u8 x27 (32 : Int)))) (Af (x27 == 120) (some (.inl (x2, x3, true, x5, x6, x7, x8, IntKind.i64.wrap (x9 + 1), Hu .u8 x27 (32 : Int)))) ((Af (x27 == 114) (some true) (some (x27 == 82)) : Option ((Bool))).bind fun x38 => Af x38 (some (.inl (x2, x3, x4, x5, x27 == 114, x7, x8, IntKind.i64.wrap (x9 + 1), Hu .u8 x27 (32 : Int)))) ((Af (x27 == 115) (some true) (some (x27 == 83)) : Option ((Bool))).bind fun x39 => Af x39 (some (.inl (x2, x3, x4, x5, x6, x27 == 115, x8, IntKind.i64.wrap (x9 + 1), Hu .u8 x27 (32 : Int)))) ((Af (x27 == 104) (some true) (some (x27 == 72)) : Option ((Bool))).bind fun x40 => Af x40 (some (.inl (x2, x3, x4, x5, x6, x7, x27 == 104, IntKind.i64.wrap (x9 + 1), Hu .u8 x27 (32 : Int)))) ((Af (x27 == 49) (some true) (Af (x27 == 50) (some true) (Af (x27 == 51) (some true) (Af (x27 == 52) (some true) (Af (x27 == 53) (some true) (Af (x27 == 54) (some true) (Af (x27 == 55) (some true) (Af (x27 == 56) (some true) (some (x27 == 57))))))))) : Option ((Bool))).bind fun x41 => Af x41 ((loop (GU p1) (IntKind.i64.wrap (x9 + 1))).bind fun x43 => Af (decide ((IntKind.i64.wrap (x43 - x9)) > 4)) (some (.inr x9)) ((IB p1 (some x9) (some x43)).bind fun x48 => (H7 x48).bind fun x49 => some (.inl (x2, x3, x4, x49, x6, x7, x8, x43, (49 : Int))))) (some (.inr x9)))))))) : Option ((Bool × Bool × Bool × Int × Bool × Bool × Bool × Int × Int) ⊕ (Int))).bind fun o2 => (match o2 with | .inl (x28, x29, x30, x31, x32, x33, x34, x35, x36) => Af ((Dm x1 x36).getD false) (some (.inr (.inr (x1, x28, x29, x30, x31, x32, x33, x34, x9)))) (some (.inl ((CO x1 x36 true), x28, x29, x30, x31, x32, x33, x34, x35))) | .inr x37 => some (.inr (.inr (x1, x2, x3, x4, x5, x6, x7, x8, x37))))) (some (.inr (.inl (x1, x2, x3, x4, x5, x6, x7, x8))))
def Fj (p0 : Bc) (p1 : List UInt8) (p2 : Int) : Option (Int × Bc) :=
 (loop (GQ p1) (([] : List (Int × Bool)), p0.Global, p0.Fold, p0.Es, p0.Number, p0.Names, p0.QR, p0.P4, p2)).bind fun o1 => (match o1 with | .inl (x10, x11, x12, x13, x14, x15, x16, x17) => some ((-1 : Int), (⟨p0.Re, p0.CU, x11, x12, x13, x14, x15, x16, x17⟩ : Bc)) | .inr (x18, x19, x20, x21, x22, x23, x24, x25, x26) => some (x26, (⟨p0.Re, p0.CU, x19, x20, x21, x22, x23, x24, x25⟩ : Bc)))
theorem KD {p0 p1 p2 bp0 q0 u0} (hm : Fj p0 p1 p2 = some (q0, u0)) (A : HH g h [.obj bp0 (.cells none 2 (BH p0))] F) (hc : BZ (cfg.still 29) av = [.ptr (some (bp0, 0)), .str p1, Ai p2] := by kernel_rfl) : ∃ v h', Bg cfg g h 29 av v h' ∧ v = Ai q0 ∧ HH g h' [.obj bp0 (.cells none 2 (BH u0))] F := by
 refine E5 115 [.tmp 6] hc ?_
 clear hc
 unfold Fj at hm
 refine bg 115 [(0, .ptr (some (bp0, 0))), (1, .str p1), (2, Ai p2)] fun fr H => ?_
 refine AD 1 (Bw 1 [] 2 H fun fr H => ?_)
 obtain ⟨h1, e1⟩ : ∃ x, x = h.push (.map 2 []) := ⟨_, rfl⟩
 replace A : HH g h1 [.obj h.size (.map 2 (Cz (fun k : Int => Ab k) (fun v : Bool => .bool v) ([] : List (Int × Bool)))), _] F := (A.push _).to e1
 refine Bo 11 (.map (some h.size)) e1 H fun fr t H => ?_
 refine AM 1 [(7, .map (some h.size))] H fun fr H => AQ (Ac (id := 0) (by kernel_rfl) ?_)
 obtain ⟨o1, ho, hm⟩ := bind_some hm
 refine As (Q' := fun e fr' h' => (∃ x10 x11 x12 x13 x14 x15 x16 x17, e = .exit 0 ∧ .inl (x10, x11, x12, x13, x14, x15, x16, x17) = o1 ∧ Has fr' 115 [] ∧ HH g h' [.obj h.size (.map 2 (Cz (fun k : Int => Ab k) (fun v : Bool => .bool v) x10)), .obj bp0 (.cells none 2 [.str p0.Re, .str p0.CU, .bool x11, .bool x12, .bool x13, Ai x14, .bool x15, .bool x16, .bool x17])] F) ∨ (∃ x18 x19 x20 x21 x22 x23 x24 x25 x26, e = .ret ∧ .inr (x18, x19, x20, x21, x22, x23, x24, x25, x26) = o1 ∧ Has fr' 115 [(6, Ai x26)] ∧ HH g h' [.obj h.size (.map 2 (Cz (fun k : Int => Ab k) (fun v : Bool => .bool v) x18)), .obj bp0 (.cells none 2 [.str p0.Re, .str p0.CU, .bool x19, .bool x20, .bool x21, Ai x22, .bool x23, .bool x24, .bool x25])] F) ∨ False) ?_ ?_
 ·refine B2 (by kernel_rfl) (fun (s : (List (Int × Bool)) × Bool × Bool × Bool × Int × Bool × Bool × Bool × Int) fr' h' => ∃ x1 x2 x3 x4 x5 x6 x7 x8 x9, (x1, x2, x3, x4, x5, x6, x7, x8, x9) = s ∧ Has fr' 115 [(0, .ptr (some (bp0, 0))), (1, .str p1), (2, Ai x9), (7, .map (some h.size))] ∧ HH g h' [.obj h.size (.map 2 (Cz (fun k : Int => Ab k) (fun v : Bool => .bool v) x1)), .obj bp0 (.cells none 2 [.str p0.Re, .str p0.CU, .bool x2, .bool x3, .bool x4, Ai x5, .bool x6, .bool x7, .bool x8])] F) ho ⟨_, _, _, _, _, _, _, _, _, rfl, H.ls, A⟩ ?_
  clear ho hm H A
  intro s q fr h2 hI hm
  obtain ⟨x1, x2, x3, x4, x5, x6, x7, x8, x9, rfl, H, A⟩ := hI
  unfold GQ at hm
  refine AQ (AD 4 (AM 4 [(15, .bool (decide (x9 < (p1.length : Int))))] H fun fr H => AV 15 H hm (fun hb hm H => ?_) fun hb hm H => ?_))
  ·refine CE id (Ac (id := 1) (by kernel_rfl) ?_)
   refine AD 2 (Bw 2 [(8, Ai x9)] 4 H fun fr H => ?_)
   obtain ⟨x27, hx, hm⟩ := bind_some hm
   refine BI 2 [] 19 (Ab x27) h2 H (fun fr => .of (EL (by kernel_rfl) hx)) fun fr t H => ?_
   refine Bw 1 [(9, Ab x27)] 3 H fun fr H => BG 3 [(0, .ptr (some (bp0, 0))), (1, .str p1), (2, Ai (IntKind.i64.wrap (x9 + 1))), (7, .map (some h.size)), (8, Ai x9), (9, Ab x27)] H fun fr H => CG 3 id (AM 3 [(10, Ab (Hu .u8 x27 (32 : Int)))] H fun fr H => AQ ?_)
   obtain ⟨o2, ho, hm⟩ := bind_some hm
   refine As (Q' := fun e fr' h' => (∃ x28 x29 x30 x31 x32 x33 x34 x35 x36, e = .normal ∧ .inl (x28, x29, x30, x31, x32, x33, x34, x35, x36) = o2 ∧ Has fr' 115 [(0, .ptr (some (bp0, 0))), (1, .str p1), (2, Ai x35), (7, .map (some h.size)), (8, Ai x9), (10, Ab x36)] ∧ HH g h' [.obj h.size (.map 2 (Cz (fun k : Int => Ab k) (fun v : Bool => .bool v) x1)), .obj bp0 (.cells none 2 [.str p0.Re, .str p0.CU, .bool x28, .bool x29, .bool x30, Ai x31, .bool x32, .bool x33, .bool x34])] F) ∨ (∃ x37, e = .ret ∧ .inr x37 = o2 ∧ Has fr' 115 [(6, Ai x37)] ∧ HH g h' [.obj h.size (.map 2 (Cz (fun k : Int => Ab k) (fun v : Bool => .bool v) x1)), .obj bp0 (.cells none 2 [.str p0.Re, .str p0.CU, .bool x2, .bool x3, .bool x4, Ai x5, .bool x6, .bool x7, .bool x8])] F) ∨ False) ?_ ?_
   ·replace hm := ho
    clear ho
    refine AD 1 (AM 1 [(24, Ab x27)] H fun fr H => Ac (id := 2) (by kernel_rfl) ?_)
    refine AD 2 (AM 2 [(26, .bool (x27 == 103))] H fun fr H => AV 26 H hm (fun hb hm H => ?_) fun hb hm H => ?_)
    ·refine Bd 4 ?_
     obtain ⟨h3, hx, A⟩ := A.s1 2 [.bool true] [_, _, _, _, _, _, _, _, _]
     refine C1 3 [] hx H fun fr t H => ?_
     refine at_nil ?_
     exact .inl ⟨_, _, _, _, _, _, _, _, _, rfl, Ah hm, H.ls, A⟩
    refine AD 2 (AM 2 [(31, .bool (x27 == 105))] H fun fr H => AV 31 H hm (fun hb hm H => ?_) fun hb hm H => ?_)
    ·refine Bd 4 ?_
     obtain ⟨h4, hx, A⟩ := A.s1 3 [.bool true] [_, _, _, _, _, _, _, _, _]
     refine C1 3 [] hx H fun fr t H => ?_
     refine at_nil ?_
     exact .inl ⟨_, _, _, _, _, _, _, _, _, rfl, Ah hm, H.ls, A⟩
    refine AD 2 (AM 2 [(36, .bool (x27 == 120))] H fun fr H => AV 36 H hm (fun hb hm H => ?_) fun hb hm H => ?_)
    ·refine Bd 4 ?_
     obtain ⟨h5, hx, A⟩ := A.s1 4 [.bool true] [_, _, _, _, _, _, _, _, _]
     refine C1 3 [] hx H fun fr t H => ?_
     refine at_nil ?_
     exact .inl ⟨_, _, _, _, _, _, _, _, _, rfl, Ah hm, H.ls, A⟩
    refine AQ ?_
    obtain ⟨o3, ho, hm⟩ := bind_some hm
    refine As (Q' := fun e fr' h' => (∃ x38, e = .normal ∧ x38 = o3 ∧ Has fr' 115 [(0, .ptr (some (bp0, 0))), (1, .str p1), (2, Ai (IntKind.i64.wrap (x9 + 1))), (7, .map (some h.size)), (8, Ai x9), (9, Ab x27), (10, Ab (Hu .u8 x27 (32 : Int))), (24, Ab x27), (41, .bool x38)] ∧ HH g h' [.obj h.size (.map 2 (Cz (fun k : Int => Ab k) (fun v : Bool => .bool v) x1)), .obj bp0 (.cells none 2 [.str p0.Re, .str p0.CU, .bool x2, .bool x3, .bool x4, Ai x5, .bool x6, .bool x7, .bool x8])] F) ∨ False) ?_ ?_
    ·replace hm := ho
     clear ho
     refine AD 2 (AM 2 [(41, .bool (x27 == 114))] H fun fr H => AV 41 H hm (fun hb hm H => ?_) fun hb hm H => ?_)
     ·exact By (.inl ⟨_, rfl, Ah hm, H.ls, A⟩)
     refine Bd 2 (BG 2 [(0, .ptr (some (bp0, 0))), (1, .str p1), (2, Ai (IntKind.i64.wrap (x9 + 1))), (7, .map (some h.size)), (8, Ai x9), (9, Ab x27), (10, Ab (Hu .u8 x27 (32 : Int))), (24, Ab x27), (41, .bool (x27 == 82))] H fun fr H => at_nil ?_)
     exact .inl ⟨_, rfl, Ah hm, H.ls, A⟩
    clear ho
    clear A
    intro e fr h6 hQ
    rcases hQ with ⟨x38, rfl, rfl, H, A⟩ | hF
    ·show AW _ _ _ _ _ _ _
     refine AV 41 H hm (fun hb hm H => ?_) fun hb hm H => ?_
     ·refine Bd 6 ?_
      obtain ⟨h7, hx, A⟩ := A.s1 6 [.bool (x27 == 114)] [_, _, _, _, _, _, _, _, _]
      refine C1 5 [] hx H fun fr t H => ?_
      refine at_nil ?_
      exact .inl ⟨_, _, _, _, _, _, _, _, _, rfl, Ah hm, H.ls, A⟩
     refine AQ ?_
     obtain ⟨o4, ho, hm⟩ := bind_some hm
     refine As (Q' := fun e fr' h' => (∃ x39, e = .normal ∧ x39 = o4 ∧ Has fr' 115 [(0, .ptr (some (bp0, 0))), (1, .str p1), (2, Ai (IntKind.i64.wrap (x9 + 1))), (7, .map (some h.size)), (8, Ai x9), (9, Ab x27), (10, Ab (Hu .u8 x27 (32 : Int))), (24, Ab x27), (49, .bool x39)] ∧ HH g h' [.obj h.size (.map 2 (Cz (fun k : Int => Ab k) (fun v : Bool => .bool v) x1)), .obj bp0 (.cells none 2 [.str p0.Re, .str p0.CU, .bool x2, .bool x3, .bool x4, Ai x5, .bool x6, .bool x7, .bool x8])] F) ∨ False) ?_ ?_
     ·replace hm := ho
      clear ho
      refine AD 2 (AM 2 [(49, .bool (x27 == 115))] H fun fr H => AV 49 H hm (fun hb hm H => ?_) fun hb hm H => ?_)
      ·exact By (.inl ⟨_, rfl, Ah hm, H.ls, A⟩)
      refine Bd 2 (BG 2 [(0, .ptr (some (bp0, 0))), (1, .str p1), (2, Ai (IntKind.i64.wrap (x9 + 1))), (7, .map (some h.size)), (8, Ai x9), (9, Ab x27), (10, Ab (Hu .u8 x27 (32 : Int))), (24, Ab x27), (49, .bool (x27 == 83))] H fun fr H => at_nil ?_)
      exact .inl ⟨_, rfl, Ah hm, H.ls, A⟩
     clear ho
     clear A
     intro e fr h8 hQ
     rcases hQ with ⟨x39, rfl, rfl, H, A⟩ | hF
     ·show AW _ _ _ _ _ _ _
      refine AV 49 H hm (fun hb hm H => ?_) fun hb hm H => ?_
      ·refine Bd 6 ?_
       obtain ⟨h9, hx, A⟩ := A.s1 7 [.bool (x27 == 115)] [_, _, _, _, _, _, _, _, _]
       refine C1 5 [] hx H fun fr t H => ?_
       refine at_nil ?_
       exact .inl ⟨_, _, _, _, _, _, _, _, _, rfl, Ah hm, H.ls, A⟩
      refine AQ ?_
      obtain ⟨o5, ho, hm⟩ := bind_some hm
      refine As (Q' := fun e fr' h' => (∃ x40, e = .normal ∧ x40 = o5 ∧ Has fr' 115 [(0, .ptr (some (bp0, 0))), (1, .str p1), (2, Ai (IntKind.i64.wrap (x9 + 1))), (7, .map (some h.size)), (8, Ai x9), (9, Ab x27), (10, Ab (Hu .u8 x27 (32 : Int))), (24, Ab x27), (57, .bool x40)] ∧ HH g h' [.obj h.size (.map 2 (Cz (fun k : Int => Ab k) (fun v : Bool => .bool v) x1)), .obj bp0 (.cells none 2 [.str p0.Re, .str p0.CU, .bool x2, .bool x3, .bool x4, Ai x5, .bool x6, .bool x7, .bool x8])] F) ∨ False) ?_ ?_
      ·replace hm := ho
       clear ho
       refine AD 2 (AM 2 [(57, .bool (x27 == 104))] H fun fr H => AV 57 H hm (fun hb hm H => ?_) fun hb hm H => ?_)
       ·exact By (.inl ⟨_, rfl, Ah hm, H.ls, A⟩)
       refine Bd 2 (BG 2 [(0, .ptr (some (bp0, 0))), (1, .str p1), (2, Ai (IntKind.i64.wrap (x9 + 1))), (7, .map (some h.size)), (8, Ai x9), (9, Ab x27), (10, Ab (Hu .u8 x27 (32 : Int))), (24, Ab x27), (57, .bool (x27 == 72))] H fun fr H => at_nil ?_)
       exact .inl ⟨_, rfl, Ah hm, H.ls, A⟩
      clear ho
      clear A
      intro e fr h10 hQ
      rcases hQ with ⟨x40, rfl, rfl, H, A⟩ | hF
      ·show AW _ _ _ _ _ _ _
       refine AV 57 H hm (fun hb hm H => ?_) fun hb hm H => ?_
       ·refine Bd 6 ?_
        obtain ⟨h11, hx, A⟩ := A.s1 8 [.bool (x27 == 104)] [_, _, _, _, _, _, _, _, _]
        refine C1 5 [] hx H fun fr t H => ?_
        refine at_nil ?_
        exact .inl ⟨_, _, _, _, _, _, _, _, _, rfl, Ah hm, H.ls, A⟩
       refine AQ ?_
       obtain ⟨o6, ho, hm⟩ := bind_some hm
       refine As (Q' := fun e fr' h' => (∃ x41, e = .normal ∧ x41 = o6 ∧ Has fr' 115 [(0, .ptr (some (bp0, 0))), (1, .str p1), (2, Ai (IntKind.i64.wrap (x9 + 1))), (7, .map (some h.size)), (8, Ai x9), (65, .bool x41)] ∧ HH g h' [.obj h.size (.map 2 (Cz (fun k : Int => Ab k) (fun v : Bool => .bool v) x1)), .obj bp0 (.cells none 2 [.str p0.Re, .str p0.CU, .bool x2, .bool x3, .bool x4, Ai x5, .bool x6, .bool x7, .bool x8])] F) ∨ False) ?_ ?_
       ·replace hm := ho
        clear ho
        refine AD 2 (AM 2 [(65, .bool (x27 == 49))] H fun fr H => AV 65 H hm (fun hb hm H => ?_) fun hb hm H => ?_)
        ·exact By (.inl ⟨_, rfl, Ah hm, H.ls, A⟩)
        refine AD 2 (BG 2 [(0, .ptr (some (bp0, 0))), (1, .str p1), (2, Ai (IntKind.i64.wrap (x9 + 1))), (7, .map (some h.size)), (8, Ai x9), (24, Ab x27), (65, .bool (x27 == 50))] H fun fr H => BK id (AV 65 H hm (fun hb hm H => ?_) fun hb hm H => ?_))
        ·exact By (.inl ⟨_, rfl, Ah hm, H.ls, A⟩)
        refine AD 2 (BG 2 [(0, .ptr (some (bp0, 0))), (1, .str p1), (2, Ai (IntKind.i64.wrap (x9 + 1))), (7, .map (some h.size)), (8, Ai x9), (24, Ab x27), (65, .bool (x27 == 51))] H fun fr H => BK id (AV 65 H hm (fun hb hm H => ?_) fun hb hm H => ?_))
        ·exact By (.inl ⟨_, rfl, Ah hm, H.ls, A⟩)
        refine AD 2 (BG 2 [(0, .ptr (some (bp0, 0))), (1, .str p1), (2, Ai (IntKind.i64.wrap (x9 + 1))), (7, .map (some h.size)), (8, Ai x9), (24, Ab x27), (65, .bool (x27 == 52))] H fun fr H => BK id (AV 65 H hm (fun hb hm H => ?_) fun hb hm H => ?_))
        ·exact By (.inl ⟨_, rfl, Ah hm, H.ls, A⟩)
        refine AD 2 (BG 2 [(0, .ptr (some (bp0, 0))), (1, .str p1), (2, Ai (IntKind.i64.wrap (x9 + 1))), (7, .map (some h.size)), (8, Ai x9), (24, Ab x27), (65, .bool (x27 == 53))] H fun fr H => BK id (AV 65 H hm (fun hb hm H => ?_) fun hb hm H => ?_))
        ·exact By (.inl ⟨_, rfl, Ah hm, H.ls, A⟩)
        refine AD 2 (BG 2 [(0, .ptr (some (bp0, 0))), (1, .str p1), (2, Ai (IntKind.i64.wrap (x9 + 1))), (7, .map (some h.size)), (8, Ai x9), (24, Ab x27), (65, .bool (x27 == 54))] H fun fr H => BK id (AV 65 H hm (fun hb hm H => ?_) fun hb hm H => ?_))
        ·exact By (.inl ⟨_, rfl, Ah hm, H.ls, A⟩)
        refine AD 2 (BG 2 [(0, .ptr (some (bp0, 0))), (1, .str p1), (2, Ai (IntKind.i64.wrap (x9 + 1))), (7, .map (some h.size)), (8, Ai x9), (24, Ab x27), (65, .bool (x27 == 55))] H fun fr H => BK id (AV 65 H hm (fun hb hm H => ?_) fun hb hm H => ?_))
        ·exact By (.inl ⟨_, rfl, Ah hm, H.ls, A⟩)
        refine AD 2 (BG 2 [(0, .ptr (some (bp0, 0))), (1, .str p1), (2, Ai (IntKind.i64.wrap (x9 + 1))), (7, .map (some h.size)), (8, Ai x9), (24, Ab x27), (65, .bool (x27 == 56))] H fun fr H => BK id (AV 65 H hm (fun hb hm H => ?_) fun hb hm H => ?_))
        ·exact By (.inl ⟨_, rfl, Ah hm, H.ls, A⟩)
        refine Bd 2 (BG 2 [(0, .ptr (some (bp0, 0))), (1, .str p1), (2, Ai (IntKind.i64.wrap (x9 + 1))), (7, .map (some h.size)), (8, Ai x9), (65, .bool (x27 == 57))] H fun fr H => at_nil ?_)
        exact .inl ⟨_, rfl, Ah hm, H.ls, A⟩
       clear ho
       clear A
       intro e fr h12 hQ
       rcases hQ with ⟨x41, rfl, rfl, H, A⟩ | hF
       ·show AW _ _ _ _ _ _ _
        refine AV 65 H hm (fun hb hm H => ?_) fun hb hm H => ?_
        ·refine AQ (Ac (id := 3) (by kernel_rfl) ?_)
         obtain ⟨o7, ho, hm⟩ := bind_some hm
         refine As (Q' := fun e fr' h' => (∃ x43, e = .exit 3 ∧ x43 = o7 ∧ Has fr' 115 [(0, .ptr (some (bp0, 0))), (1, .str p1), (2, Ai x43), (7, .map (some h.size)), (8, Ai x9)] ∧ HH g h' [.obj h.size (.map 2 (Cz (fun k : Int => Ab k) (fun v : Bool => .bool v) x1)), .obj bp0 (.cells none 2 [.str p0.Re, .str p0.CU, .bool x2, .bool x3, .bool x4, Ai x5, .bool x6, .bool x7, .bool x8])] F) ∨ False) ?_ ?_
         ·refine B2 (by kernel_rfl) (fun (s : Int) fr' h' => ∃ x42, x42 = s ∧ Has fr' 115 [(0, .ptr (some (bp0, 0))), (1, .str p1), (2, Ai x42), (7, .map (some h.size)), (8, Ai x9)] ∧ HH g h' [.obj h.size (.map 2 (Cz (fun k : Int => Ab k) (fun v : Bool => .bool v) x1)), .obj bp0 (.cells none 2 [.str p0.Re, .str p0.CU, .bool x2, .bool x3, .bool x4, Ai x5, .bool x6, .bool x7, .bool x8])] F) ho ⟨_, rfl, H.ls, A⟩ ?_
          clear ho hm H A
          intro s q fr h13 hI hm
          obtain ⟨x42, rfl, H, A⟩ := hI
          unfold GU at hm
          refine AQ (AD 16 (AE 5 [(79, .bool (decide (x42 < (p1.length : Int))))] H fun fr H => ?_))
          obtain ⟨x44, ho, hm⟩ := bind_some hm
          refine BD 5 (fun fr' h' => Has fr' 115 [(0, .ptr (some (bp0, 0))), (1, .str p1), (2, Ai x42), (7, .map (some h.size)), (8, Ai x9), (84, .bool x44)] ∧ HH g h' [.obj h.size (.map 2 (Cz (fun k : Int => Ab k) (fun v : Bool => .bool v) x1)), .obj bp0 (.cells none 2 [.str p0.Re, .str p0.CU, .bool x2, .bool x3, .bool x4, Ai x5, .bool x6, .bool x7, .bool x8])] F) ?_ ?_
          ·rcases BJ ho with ⟨hb, hm⟩ | ⟨hb, hm⟩
           ·replace H := H.kn 79 hb
            obtain ⟨x45, hx, hm⟩ := bind_some hm
            refine BI 2 [] 82 (Ab x45) h13 H (fun fr => .of (EL (by kernel_rfl) hx)) fun fr t H => ?_
            refine AE 2 [(84, .bool (decide (x45 ≥ 48)))] H fun fr H => ?_
            obtain rfl := Ah hm
            exact at_nil ⟨H.ls, A⟩
           replace H := H.kn 79 hb
           refine AE 5 [(84, .bool false)] H fun fr H => ?_
           obtain rfl := Ah hm
           exact at_nil ⟨H.ls, A⟩
          clear A
          intro t fr h14 hK
          obtain ⟨H, A⟩ := hK
          refine AE 1 [(85, .bool x44)] H fun fr H => ?_
          obtain ⟨x46, ho, hm⟩ := bind_some hm
          refine BD 5 (fun fr' h' => Has fr' 115 [(0, .ptr (some (bp0, 0))), (1, .str p1), (2, Ai x42), (7, .map (some h.size)), (8, Ai x9), (90, .bool x46)] ∧ HH g h' [.obj h.size (.map 2 (Cz (fun k : Int => Ab k) (fun v : Bool => .bool v) x1)), .obj bp0 (.cells none 2 [.str p0.Re, .str p0.CU, .bool x2, .bool x3, .bool x4, Ai x5, .bool x6, .bool x7, .bool x8])] F) ?_ ?_
          ·rcases BJ ho with ⟨hb, hm⟩ | ⟨hb, hm⟩
           ·replace H := H.kn 85 hb
            obtain ⟨x47, hx, hm⟩ := bind_some hm
            refine BI 2 [] 88 (Ab x47) h14 H (fun fr => .of (EL (by kernel_rfl) hx)) fun fr t H => ?_
            refine AE 2 [(90, .bool (decide (x47 ≤ 57)))] H fun fr H => ?_
            obtain rfl := Ah hm
            exact at_nil ⟨H.ls, A⟩
           replace H := H.kn 85 hb
           refine AE 5 [(90, .bool false)] H fun fr H => ?_
           obtain rfl := Ah hm
           exact at_nil ⟨H.ls, A⟩
          clear A
          intro t fr h15 hK
          obtain ⟨H, A⟩ := hK
          refine BK id (AV 90 H hm (fun hb hm H => ?_) fun hb hm H => ?_)
          ·refine CE id (Ac (id := 4) (by kernel_rfl) ?_)
           refine Bd 3 (BG 3 [(0, .ptr (some (bp0, 0))), (1, .str p1), (2, Ai (IntKind.i64.wrap (x42 + 1))), (7, .map (some h.size)), (8, Ai x9)] H fun fr H => at_nil ?_)
           exact nx hm ⟨_, rfl, H.ls, A⟩
          refine BO (i := 3) (by kernel_rfl) ?_
          exact nr hm fun e => .inl ⟨_, rfl, e, H.ls, A⟩
         clear ho
         clear A
         intro e fr h16 hQ
         rcases hQ with ⟨x43, rfl, rfl, H, A⟩ | hF
         ·show AW _ _ _ _ _ _ _
          refine AQ (AD 4 (AM 4 [(96, .bool (decide ((IntKind.i64.wrap (x43 - x9)) > 4)))] H fun fr H => AV 96 H hm (fun hb hm H => ?_) fun hb hm H => ?_))
          ·refine AD 2 (AM 2 [(6, Ai x9)] H fun fr H => Ag ?_)
           exact .inr (.inl ⟨_, rfl, Ah hm, H.ls, A⟩)
          refine Ca 12 id ?_
          obtain ⟨x48, hx, hm⟩ := bind_some hm
          refine BI 4 [(99, .ptr (some (bp0, 0)))] 103 (.str x48) h16 H (fun fr => .of (Gp (k := .i64) (k' := .i64) (lo := (some x9)) (hi := (some x43)) (by kernel_rfl) hx)) fun fr t H => ?_
          obtain ⟨x49, hx, hm⟩ := bind_some hm
          obtain ⟨v1, h17, hr, rfl, A1⟩ := M1 (av := [.str x48]) hx (A.cut 0)
          replace A := A.Ea A1
          refine Be 104 hr H fun fr t H => ?_
          obtain ⟨h18, hx, A⟩ := A.s1 5 [Ai x49] [_, _, _, _, _, _, _, _, _]
          refine C1 5 [] hx H fun fr t H => ?_
          refine Gq 1 id (AE 1 [(10, Ab 49)] H fun fr H => at_nil ?_)
          exact .inl ⟨_, _, _, _, _, _, _, _, _, rfl, Ah hm, H.ls, A⟩
         exact hF.elim
        refine AD 2 (AM 2 [(6, Ai x9)] H fun fr H => Ag ?_)
        exact .inr (.inl ⟨_, rfl, Ah hm, H.ls, A⟩)
       exact hF.elim
      exact hF.elim
     exact hF.elim
    exact hF.elim
   clear ho
   clear A
   intro e fr h19 hQ
   rcases hQ with ⟨x28, x29, x30, x31, x32, x33, x34, x35, x36, rfl, rfl, H, A⟩ | ⟨x37, rfl, rfl, H, A⟩ | hF
   ·show AW _ _ _ _ _ _ _
    refine AQ (AD 3 (BI 2 [] 111 (.bool ((Dm x1 x36).getD false)) h19 H (fun fr => .of (Ws (by kernel_rfl) (HH.Tz (kt := 5) (et := 4) (ek := fun k : Int => Ab k) (ev := fun v : Bool => .bool v) (Qj (by kernel_rfl)) A 0 rfl (t := 124) (by kernel_rfl) (z := false) (by kernel_rfl) x36))) fun fr t H => ?_))
    refine BK id (AV 111 H hm (fun hb hm H => ?_) fun hb hm H => ?_)
    ·refine AD 2 (AM 2 [(6, Ai x9)] H fun fr H => Ag ?_)
     exact nr hm fun e => Or.inr (.inl ⟨_, _, _, _, _, _, _, _, _, rfl, e, H.ls, A⟩)
    refine KX 3 id (AE 2 [(113, .map (some h.size)), (114, Ab x36)] H fun fr H => ?_)
    obtain ⟨h20, hx, A1⟩ := HH.RJ (kt := 5) (et := 4) (ek := fun k : Int => Ab k) (ev := fun v : Bool => .bool v) (Qj (by kernel_rfl)) A 0 rfl (t := 124) (by kernel_rfl) x36 true
    replace A : HH g h20 [.obj h.size (.map 2 (Cz (fun k : Int => Ab k) (fun v : Bool => .bool v) (CO x1 x36 true))), _] F := A1
    refine K6 (.tuple []) h20 H (fun fr => .of (Rq (by kernel_rfl) hx)) fun fr t H => ?_
    refine at_nil ?_
    exact nx hm ⟨_, _, _, _, _, _, _, _, _, rfl, H.ls, A⟩
   ·exact nr hm fun e => Or.inr (.inl ⟨_, _, _, _, _, _, _, _, _, rfl, e, H.ls, A⟩)
   exact hF.elim
  refine BO (i := 0) (by kernel_rfl) ?_
  exact nr hm fun e => .inl ⟨_, _, _, _, _, _, _, _, rfl, e, H.ls, A⟩
 clear ho
 clear A
 intro e fr h21 hQ
 rcases hQ with ⟨x10, x11, x12, x13, x14, x15, x16, x17, rfl, rfl, H, A⟩ | ⟨x18, x19, x20, x21, x22, x23, x24, x25, x26, rfl, rfl, H, A⟩ | hF
 ·show AW _ _ _ _ _ _ _
  refine AD 1 (AM 1 [(6, Ai (-1))] H fun fr H => Ag ?_)
  obtain ⟨rfl, rfl⟩ := Ds hm
  refine ⟨.inl rfl, Ai (-1), rH H, ?_⟩
  replace A := A.k1 1
  exact ⟨rfl, A⟩
 ·obtain ⟨rfl, rfl⟩ := Ds hm
  refine ⟨.inl rfl, Ai x26, rH H, ?_⟩
  replace A := A.k1 1
  exact ⟨rfl, A⟩
 exact hF.elim
def FN (p0 : List UInt8) : Option (Bc × Int × Int) :=
 (G0 p0 (0 : Int)).bind fun x1 => Af (!x1) (some ((⟨([] : List UInt8), ([] : List UInt8), false, false, false, (0 : Int), false, false, false⟩ : Bc), (0 : Int), (11 : Int))) ((Jf p0 (1 : Int)).bind fun x2 => (Ge p0 (2 : Int) x2).bind fun (x3, x4, x5) => Af (!x5) (some ((⟨([] : List UInt8), ([] : List UInt8), false, false, false, (0 : Int), false, false, false⟩ : Bc), x4, (11 : Int))) ((Jf p0 (1 : Int)).bind fun x6 => (Ge p0 x4 x6).bind fun (x7, x8, x9) => Af (!x9) (some ((⟨([] : List UInt8), ([] : List UInt8), false, false, false, (0 : Int), false, false, false⟩ : Bc), x8, (11 : Int))) ((Fj (⟨x3, x7, false, false, false, (1 : Int), true, true, true⟩ : Bc) p0 x8).bind fun (x10, x11) => Af (decide (x10 ≥ 0)) (some ((⟨([] : List UInt8), ([] : List UInt8), false, false, false, (0 : Int), false, false, false⟩ : Bc), x10, (11 : Int))) (some (x11, (0 : Int), (0 : Int))))))
theorem G5 {p0 q0 q1 q2} (hm : FN p0 = some (q0, q1, q2)) (A : HH g h [] F) (hc : BZ (cfg.still 10) av = [.str p0] := by kernel_rfl) : ∃ v h', Bg cfg g h 10 av v h' ∧ v = .tuple [.agg (BH q0), Ai q1, Ai q2] ∧ HH g h' [] F := by
 refine E5 48 [.cell 2 24, .tmp 3, .tmp 4] hc ?_
 clear hc
 unfold FN at hm
 refine bg 48 [(0, .str p0)] fun fr H => ?_
 refine AD 3 ?_
 obtain ⟨h1, e1, A⟩ := A.pu (.cells none 2 [.str ([] : List UInt8), .str ([] : List UInt8), .bool false, .bool false, .bool false, Ai 0, .bool false, .bool false, .bool false])
 refine Bo 2 (.ptr (some (h.size, 0))) e1 H fun fr t H => ?_
 refine AM 2 [] H fun fr H => AQ (AD 3 ?_)
 obtain ⟨x1, hx, hm⟩ := bind_some hm
 obtain ⟨v1, h2, hr, rfl, A1⟩ := L2 (av := [.str p0, Ai 0]) hx (A.cut 0)
 replace A : HH g h2 [.obj h.size (.cells none 2 [.str ([] : List UInt8), .str ([] : List UInt8), .bool false, .bool false, .bool false, Ai (0 : Int), .bool false, .bool false, .bool false])] F := A.Ex (n := 0) A1
 refine Ap 1 [] 12 hr H fun fr t H => ?_
 refine AM 1 [(13, .bool (!x1))] H fun fr H => AV 13 H hm (fun hb hm H => ?_) fun hb hm H => ?_
 ·refine AD 4 ?_
  obtain ⟨h3, hx, A⟩ := A.s0 0 [.str ([] : List UInt8), .str ([] : List UInt8), .bool false, .bool false, .bool false, Ai 0, .bool false, .bool false, .bool false] [_, _, _, _, _, _, _, _, _]
  refine F7 1 [] hx H fun fr t H => ?_
  refine AM 2 [(3, Ai 0), (4, Ai 11)] H fun fr H => Ag ?_
  obtain ⟨rfl, rfl, rfl⟩ := DR hm
  refine ⟨.inl rfl, .tuple [.agg [.str ([] : List UInt8), .str ([] : List UInt8), .bool false, .bool false, .bool false, Ai 0, .bool false, .bool false, .bool false], Ai 0, Ai 11], Bm (.cell (rT H) (Bl (by kernel_rfl) (by kernel_rfl) (A.la 0 0 9)) (.tmp (rT H) (.tmp (rT H) .nil))), ?_⟩
  replace A := A.d0
  exact ⟨rfl, A⟩
 refine Ca 3 id ?_
 obtain ⟨h4, e2, A⟩ := A.pu (.cells none 2 [.str ([] : List UInt8), .str ([] : List UInt8), .bool false, .bool false, .bool false, Ai 0, .bool false, .bool false, .bool false])
 refine F8 1 [(15, .agg [.str ([] : List UInt8), .str ([] : List UInt8), .bool false, .bool false, .bool false, Ai (1 : Int), .bool true, .bool true, .bool true])] 5 (.ptr (some (h2.size, 0))) e2 H fun fr t H => ?_
 obtain ⟨h5, hx, A⟩ := A.s0 0 [.str ([] : List UInt8), .str ([] : List UInt8), .bool false, .bool false, .bool false, Ai 1, .bool true, .bool true, .bool true] [_, _, _, _, _, _, _, _, _]
 refine DN hx H fun fr t H => ?_
 refine CG 2 id (AM 2 [(6, Ai 2)] H fun fr H => AQ (AD 5 (AE 2 [(16, .ptr (some (h2.size, 0))), (17, .ptr (some (h2.size, 1)))] H fun fr H => ?_)))
 obtain ⟨h6, e3⟩ : ∃ x, x = h5.push (.cells (some 79) 2 [.ptr (some (h2.size, 0)), .ptr (some (h2.size, 1))]) := ⟨_, rfl⟩
 replace A : HH g h6 [.obj h5.size (.cells (some 79) 2 [.ptr (some (h2.size, 0)), .ptr (some (h2.size, 1))]), _, _] F := (A.push _).to e3
 refine Bo 18 (.slice (some (h5.size, 0)) 2) e3 H fun fr t H => ?_
 refine AM 2 [(19, Ai 2), (20, Ai 0)] H fun fr H => Ac (id := 0) (by kernel_rfl) ?_
 refine MO (by kernel_rfl) ?_
 refine AD 1 (AM 1 [(21, .bool true)] H fun fr H => AQ (NC (x := .tmp 21) (by kernel_rfl) H (fun fr => by kernel_rfl) ?_))
 refine CE id (AQ (Ac (id := 1) (by kernel_rfl) ?_))
 refine AD 3 (Ad 1 [] 23 0 0 A H fun fr t H => ?_)
 refine Bw 1 [(9, .ptr (some (h2.size, 0)))] 14 H fun fr H => ?_
 obtain ⟨x2, hx, hm⟩ := bind_some hm
 refine BI 4 [(25, .ptr (some (h2.size, 0))), (26, .str p0), (27, Ai (2 : Int))] 29 (Ab x2) h6 H (fun fr => .of (EL (by kernel_rfl) hx)) fun fr t H => ?_
 obtain ⟨⟨x3, x4, x5⟩, hx, hm⟩ := bind_some hm
 obtain ⟨v1, h7, hr, rfl, A1⟩ := J7 (av := [.str p0, Ai 2, Ab x2]) hx (A.cut 0)
 replace A := A.Ea A1
 refine Be 30 hr H fun fr t H => ?_
 obtain ⟨h8, hx, A⟩ := A.s1 0 [.str x3] [_, _, _, _, _, _, _, _, _]
 refine C1 5 [(32, Ai x4), (33, .bool x5)] hx H fun fr t H => ?_
 refine BG 2 [(0, .str p0), (2, .ptr (some (h.size, 0))), (5, .ptr (some (h2.size, 0))), (6, Ai x4), (7, .bool x5), (18, .slice (some (h5.size, 0)) 2), (19, Ai 2), (20, Ai 0)] H fun fr H => CG 2 id (AM 2 [(36, .bool (!x5))] H fun fr H => AV 36 H hm (fun hb hm H => ?_) fun hb hm H => ?_)
 ·refine AD 5 ?_
  obtain ⟨h9, hx, A⟩ := A.s2 0 [.str ([] : List UInt8), .str ([] : List UInt8), .bool false, .bool false, .bool false, Ai 0, .bool false, .bool false, .bool false] [_, _, _, _, _, _, _, _, _]
  refine F7 2 [(38, Ai x4)] hx H fun fr t H => ?_
  refine AM 2 [(3, Ai x4), (4, Ai 11)] H fun fr H => Ag ?_
  obtain ⟨rfl, rfl, rfl⟩ := DR hm
  refine ⟨.inl rfl, .tuple [.agg [.str ([] : List UInt8), .str ([] : List UInt8), .bool false, .bool false, .bool false, Ai 0, .bool false, .bool false, .bool false], Ai x4, Ai 11], Bm (.cell (rT H) (Bl (by kernel_rfl) (by kernel_rfl) (A.la 2 0 9)) (.tmp (rT H) (.tmp (rT H) .nil))), ?_⟩
  replace A := A.d0
  exact ⟨rfl, A⟩
 refine KX 2 id (BG 2 [(0, .str p0), (2, .ptr (some (h.size, 0))), (5, .ptr (some (h2.size, 0))), (6, Ai x4), (18, .slice (some (h5.size, 0)) 2), (19, Ai 2), (20, Ai 1)] H fun fr H => BK id (MO (by kernel_rfl) ?_))
 refine AD 1 (AM 1 [(21, .bool true)] H fun fr H => AQ (NC (x := .tmp 21) (by kernel_rfl) H (fun fr => by kernel_rfl) ?_))
 refine CE id (AQ (Ac (id := 1) (by kernel_rfl) ?_))
 refine AD 3 (Ad 1 [] 23 0 1 A H fun fr t H => ?_)
 refine Bw 1 [(9, .ptr (some (h2.size, 1)))] 14 H fun fr H => ?_
 obtain ⟨x6, hx, hm⟩ := bind_some hm
 refine BI 4 [(25, .ptr (some (h2.size, 1))), (26, .str p0), (27, Ai x4)] 29 (Ab x6) h8 H (fun fr => .of (EL (by kernel_rfl) hx)) fun fr t H => ?_
 obtain ⟨⟨x7, x8, x9⟩, hx, hm⟩ := bind_some hm
 obtain ⟨v1, h10, hr, rfl, A1⟩ := J7 (av := [.str p0, Ai x4, Ab x6]) hx (A.cut 0)
 replace A := A.Ea A1
 refine Be 30 hr H fun fr t H => ?_
 obtain ⟨h11, hx, A⟩ := A.s1 1 [.str x7] [_, _, _, _, _, _, _, _, _]
 refine C1 5 [(32, Ai x8), (33, .bool x9)] hx H fun fr t H => ?_
 refine BG 2 [(0, .str p0), (2, .ptr (some (h.size, 0))), (5, .ptr (some (h2.size, 0))), (6, Ai x8), (7, .bool x9), (18, .slice (some (h5.size, 0)) 2), (19, Ai 2), (20, Ai 1)] H fun fr H => CG 2 id (AM 2 [(36, .bool (!x9))] H fun fr H => AV 36 H hm (fun hb hm H => ?_) fun hb hm H => ?_)
 ·refine AD 5 ?_
  obtain ⟨h12, hx, A⟩ := A.s2 0 [.str ([] : List UInt8), .str ([] : List UInt8), .bool false, .bool false, .bool false, Ai 0, .bool false, .bool false, .bool false] [_, _, _, _, _, _, _, _, _]
  refine F7 2 [(38, Ai x8)] hx H fun fr t H => ?_
  refine AM 2 [(3, Ai x8), (4, Ai 11)] H fun fr H => Ag ?_
  obtain ⟨rfl, rfl, rfl⟩ := DR hm
  refine ⟨.inl rfl, .tuple [.agg [.str ([] : List UInt8), .str ([] : List UInt8), .bool false, .bool false, .bool false, Ai 0, .bool false, .bool false, .bool false], Ai x8, Ai 11], Bm (.cell (rT H) (Bl (by kernel_rfl) (by kernel_rfl) (A.la 2 0 9)) (.tmp (rT H) (.tmp (rT H) .nil))), ?_⟩
  replace A := A.d0
  exact ⟨rfl, A⟩
 refine KX 2 id (BG 2 [(0, .str p0), (2, .ptr (some (h.size, 0))), (5, .ptr (some (h2.size, 0))), (6, Ai x8), (18, .slice (some (h5.size, 0)) 2), (19, Ai 2), (20, Ai 2)] H fun fr H => BK id (MO (by kernel_rfl) ?_))
 refine AD 1 (AM 1 [(21, .bool false)] H fun fr H => AQ (QY (x := .tmp 21) (by kernel_rfl) H (fun fr => by kernel_rfl) ?_))
 refine BO (i := 0) (by kernel_rfl) ?_
 show AW _ _ _ _ _ _ _
 refine AQ (AD 4 ?_)
 replace A := A.k3 1 0 2
 obtain ⟨⟨x10, x11⟩, hx, hm⟩ := bind_some hm
 obtain ⟨v1, h13, hr, rfl, A1⟩ := KD (av := [.ptr (some (h2.size, 0)), .str p0, Ai x8]) hx (A.cut 1)
 replace A := A.g11 A1
 refine Ap 2 [] 42 hr H fun fr t H => ?_
 refine Bw 1 [(10, Ai x10)] 2 H fun fr H => AM 2 [(44, .bool (decide (x10 ≥ 0)))] H fun fr H => AV 44 H hm (fun hb hm H => ?_) fun hb hm H => ?_
 ·refine AD 5 ?_
  obtain ⟨h14, hx, A⟩ := A.s2 0 [.str ([] : List UInt8), .str ([] : List UInt8), .bool false, .bool false, .bool false, Ai 0, .bool false, .bool false, .bool false] [_, _, _, _, _, _, _, _, _]
  refine F7 2 [(46, Ai x10)] hx H fun fr t H => ?_
  refine AM 2 [(3, Ai x10), (4, Ai 11)] H fun fr H => Ag ?_
  obtain ⟨rfl, rfl, rfl⟩ := DR hm
  refine ⟨.inl rfl, .tuple [.agg [.str ([] : List UInt8), .str ([] : List UInt8), .bool false, .bool false, .bool false, Ai 0, .bool false, .bool false, .bool false], Ai x10, Ai 11], Bm (.cell (rT H) (Bl (by kernel_rfl) (by kernel_rfl) (A.la 2 0 9)) (.tmp (rT H) (.tmp (rT H) .nil))), ?_⟩
  replace A := A.d0
  exact ⟨rfl, A⟩
 refine Ca 4 id (Ax 47 _ _ H (fun fr => .of (CD (by kernel_rfl) (A.GX 0 rfl (o := 0) (n := 9) ⟨Nat.le_of_ble_eq_true rfl, rfl⟩))) fun fr t H => ?_)
 obtain ⟨h15, hx, A⟩ := A.s2 0 (BH x11) [_, _, _, _, _, _, _, _, _]
 refine DN hx H fun fr t H => ?_
 refine AM 2 [(3, Ai 0), (4, Ai 0)] H fun fr H => Ag ?_
 obtain ⟨rfl, rfl, rfl⟩ := DR hm
 refine ⟨.inl rfl, .tuple [.agg (BH x11), Ai 0, Ai 0], Bm (.cell (rT H) (Bl (by kernel_rfl) (by kernel_rfl) (A.la 2 0 9)) (.tmp (rT H) (.tmp (rT H) .nil))), ?_⟩
 replace A := A.d0
 exact ⟨rfl, A⟩
def Ci (p0 : AF) : Option (Bool) :=
 some (decide (p0.BB < 0))
theorem DO {p0 bp0 rp0_3 q0} (hm : Ci p0 = some q0) (A : HH g h [.obj bp0 (.cells none 2 (AZ p0 (AG rp0_3 p0.t_.AU.length))), .AO rp0_3 94 (AO AA p0.t_.AU)] F) (hc : BZ (cfg.still 19) av = [.ptr (some (bp0, 0))] := by kernel_rfl) : ∃ v h', Bg cfg g h 19 av v h' ∧ v = .bool q0 ∧ HH g h' [.obj bp0 (.cells none 2 (AZ p0 (AG rp0_3 p0.t_.AU.length))), .AO rp0_3 94 (AO AA p0.t_.AU)] F := by
 refine E5 8 [.tmp 2] hc ?_
 clear hc
 unfold Ci at hm
 refine bg 8 [(0, .ptr (some (bp0, 0)))] fun fr H => ?_
 refine AD 1 (Bw 1 [] 6 H fun fr H => Ad 3 [] 6 0 7 A H fun fr t H => ?_)
 refine AM 2 [(2, .bool (decide (p0.BB < 0)))] H fun fr H => Ag ?_
 obtain rfl := Ah hm
 exact ⟨.inl rfl, _, rH H, rfl, A⟩
def ED (p0 : List UInt8) (p1 : List UInt8) : Option (Bool) :=
 (Af (decide ((p0.length : Int) ≥ (p1.length : Int))) ((IB p0 none (some (p1.length : Int))).bind fun x2 => some (x2 == p1)) (some false) : Option (Bool)).bind fun x1 => some x1
theorem I4 {p0 p1 q0} (hm : ED p0 p1 = some q0) (A : HH g h [] F) (hc : BZ (cfg.still 95) av = [.str p0, .str p1] := by kernel_rfl) : ∃ v h', Bg cfg g h 95 av v h' ∧ v = .bool q0 ∧ HH g h' [] F := by
 refine E5 18 [.tmp 4] hc ?_
 clear hc
 unfold ED at hm
 refine bg 18 [(0, .str p0), (1, .str p1)] fun fr H => ?_
 refine AD 1 (Bw 1 [] 14 H fun fr H => AE 6 [(10, .bool (decide ((p0.length : Int) ≥ (p1.length : Int))))] H fun fr H => ?_)
 obtain ⟨x1, ho, hm⟩ := bind_some hm
 refine BD 7 (fun fr' h' => Has fr' 18 [(17, .bool x1)] ∧ HH g h' [] F) ?_ ?_
 ·rcases BJ ho with ⟨hb, hm⟩ | ⟨hb, hm⟩
  ·replace H := H.kn 10 hb
   obtain ⟨x2, hx, hm⟩ := bind_some hm
   refine BI 3 [] 14 (.str x2) h H (fun fr => .of (Gp (k := .i64) (k' := .i64) (lo := none) (hi := (some (p1.length : Int))) (by kernel_rfl) hx)) fun fr t H => ?_
   refine AE 3 [(17, .bool (x2 == p1))] H fun fr H => ?_
   obtain rfl := Ah hm
   exact at_nil ⟨H.ls, A⟩
  replace H := H.kn 10 hb
  refine AE 7 [(17, .bool false)] H fun fr H => ?_
  obtain rfl := Ah hm
  exact at_nil ⟨H.ls, A⟩
 clear A
 intro t fr h1 hK
 obtain ⟨H, A⟩ := hK
 refine AM 1 [(4, .bool x1)] H fun fr H => Ag ?_
 obtain rfl := Ah hm
 exact ⟨.inl rfl, _, rH H, rfl, A⟩
def Bt (p0 : List UInt8) (p1 : List UInt8) : Option (Bool) :=
 (ED p0 p1).bind fun x1 => some x1
theorem Cc {p0 p1 q0} (hm : Bt p0 p1 = some q0) (A : HH g h [] F) (hc : BZ (cfg.still 77) av = [.str p0, .str p1] := by kernel_rfl) : ∃ v h', Bg cfg g h 77 av v h' ∧ v = .bool q0 ∧ HH g h' [] F := by
 refine E5 8 [.tmp 4] hc ?_
 clear hc
 unfold Bt at hm
 refine bg 8 [(0, .str p0), (1, .str p1)] fun fr H => ?_
 refine AD 1 (Bw 1 [] 4 H fun fr H => ?_)
 obtain ⟨x1, hx, hm⟩ := bind_some hm
 obtain ⟨v1, h1, hr, rfl, A1⟩ := I4 (av := [.str p0, .str p1]) hx (A.cut 0)
 replace A := A.Ea A1
 refine Ap 2 [] 7 hr H fun fr t H => ?_
 refine AM 1 [(4, .bool x1)] H fun fr H => Ag ?_
 obtain rfl := Ah hm
 exact ⟨.inl rfl, _, rH H, rfl, A⟩
def Cb (p0 : AF) (p1 : List UInt8) : Option (Bool) :=
 (Af (!p0.AX) (Cm (decide (([92] : List UInt8).length + p1.length ≤ 9223372036854775807)) <| some (([92] : List UInt8) ++ p1)) (some p1) : Option (((List UInt8)))).bind fun x1 => (IB p0.s_ (some p0.at_) none).bind fun x2 => (Bt x2 x1).bind fun x3 => some x3
theorem Ek {p0 p1 bp0 rp0_3 q0} (hm : Cb p0 p1 = some q0) (A : HH g h [.obj bp0 (.cells none 2 (AZ p0 (AG rp0_3 p0.t_.AU.length))), .AO rp0_3 94 (AO AA p0.t_.AU)] F) (hc : BZ (cfg.still 64) av = [.ptr (some (bp0, 0)), .str p1] := by kernel_rfl) : ∃ v h', Bg cfg g h 64 av v h' ∧ v = .bool q0 ∧ HH g h' [.obj bp0 (.cells none 2 (AZ p0 (AG rp0_3 p0.t_.AU.length))), .AO rp0_3 94 (AO AA p0.t_.AU)] F := by
 refine E5 23 [.tmp 4] hc ?_
 clear hc
 unfold Cb at hm
 refine bg 23 [(0, .ptr (some (bp0, 0))), (1, .str p1)] fun fr H => ?_
 refine AD 1 (AM 1 [] H fun fr H => AQ ?_)
 obtain ⟨o1, ho, hm⟩ := bind_some hm
 refine As (Q' := fun e fr' h' => (∃ x1, e = .normal ∧ x1 = o1 ∧ Has fr' 23 [(0, .ptr (some (bp0, 0))), (1, .str x1)] ∧ HH g h' [.obj bp0 (.cells none 2 (AZ p0 (AG rp0_3 p0.t_.AU.length))), .AO rp0_3 94 (AO AA p0.t_.AU)] F) ∨ False) ?_ ?_
 ·replace hm := ho
  clear ho
  refine AD 5 (Ad 3 [] 8 0 2 A H fun fr t H => ?_)
  refine AM 1 [(9, .bool (!p0.AX))] H fun fr H => AV 9 H hm (fun hb hm H => ?_) fun hb hm H => ?_
  ·refine Bd 3 (AE 1 [(10, .str p1)] H fun fr H => ?_)
   obtain ⟨hb, hm⟩ := BQ hm
   refine Ax 11 (.str (([92] : List UInt8) ++ p1)) h H (fun fr => .of (TI (by kernel_rfl) hb)) fun fr t H => ?_
   refine BG 1 [(0, .ptr (some (bp0, 0))), (1, .str (([92] : List UInt8) ++ p1))] H fun fr H => at_nil ?_
   exact .inl ⟨_, rfl, Ah hm, H.ls, A⟩
  exact By (.inl ⟨_, rfl, Ah hm, H.ls, A⟩)
 clear ho
 clear A
 intro e fr h1 hQ
 rcases hQ with ⟨x1, rfl, rfl, H, A⟩ | hF
 ·show AW _ _ _ _ _ _ _
  refine AQ (EO 3 12 ?_)
  refine Ad 3 [] 15 0 0 A H fun fr t H => ?_
  refine Ad 3 [] 19 0 1 A H fun fr t H => ?_
  obtain ⟨x2, hx, hm⟩ := bind_some hm
  refine Ax 20 (.str x2) h1 H (fun fr => .of (Gp (k := .i64) (k' := .i64) (lo := (some p0.at_)) (hi := none) (by kernel_rfl) hx)) fun fr t H => ?_
  obtain ⟨x3, hx, hm⟩ := bind_some hm
  obtain ⟨v1, h2, hr, rfl, A1⟩ := Cc (av := [.str x2, .str x1]) hx (A.cut 0)
  replace A := A.Ea A1
  refine Ap 1 [] 22 hr H fun fr t H => ?_
  refine AM 1 [(4, .bool x3)] H fun fr H => Ag ?_
  obtain rfl := Ah hm
  exact ⟨.inl rfl, _, rH H, rfl, A⟩
 exact hF.elim
def C9 (p0 : AF) : Option (Bool) :=
 (Af (p0.at_ == (p0.s_.length : Int)) (some true) ((Cb p0 ([124] : List UInt8)).bind fun x2 => some x2) : Option (Bool)).bind fun x1 => (Af x1 (some true) ((Cb p0 ([41] : List UInt8)).bind fun x4 => some x4) : Option (Bool)).bind fun x3 => some x3
theorem Gc {p0 bp0 rp0_3 q0} (hm : C9 p0 = some q0) (A : HH g h [.obj bp0 (.cells none 2 (AZ p0 (AG rp0_3 p0.t_.AU.length))), .AO rp0_3 94 (AO AA p0.t_.AU)] F) (hc : BZ (cfg.still 59) av = [.ptr (some (bp0, 0))] := by kernel_rfl) : ∃ v h', Bg cfg g h 59 av v h' ∧ v = .bool q0 ∧ HH g h' [.obj bp0 (.cells none 2 (AZ p0 (AG rp0_3 p0.t_.AU.length))), .AO rp0_3 94 (AO AA p0.t_.AU)] F := by
 refine E5 21 [.tmp 2] hc ?_
 clear hc
 unfold C9 at hm
 refine bg 21 [(0, .ptr (some (bp0, 0)))] fun fr H => ?_
 refine AD 1 (AM 1 [] H fun fr H => AQ (EO 1 19 ?_))
 refine Ad 3 [] 6 0 1 A H fun fr t H => ?_
 refine Ad 3 [] 10 0 0 A H fun fr t H => ?_
 refine AE 3 [(13, .bool (p0.at_ == (p0.s_.length : Int)))] H fun fr H => ?_
 obtain ⟨x1, ho, hm⟩ := bind_some hm
 refine BD 3 (fun fr' h' => Has fr' 21 [(0, .ptr (some (bp0, 0))), (16, .bool x1)] ∧ HH g h' [.obj bp0 (.cells none 2 (AZ p0 (AG rp0_3 p0.t_.AU.length))), .AO rp0_3 94 (AO AA p0.t_.AU)] F) ?_ ?_
 ·rcases BJ ho with ⟨hb, hm⟩ | ⟨hb, hm⟩
  ·replace H := H.kn 13 hb
   refine AE 3 [(16, .bool true)] H fun fr H => ?_
   obtain rfl := Ah hm
   exact at_nil ⟨H.ls, A⟩
  replace H := H.kn 13 hb
  obtain ⟨x2, hx, hm⟩ := bind_some hm
  obtain ⟨v1, h2, hr, rfl, A1⟩ := Ek (av := [.ptr (some (bp0, 0)), .str ([124] : List UInt8)]) hx (A.cut 2)
  replace A := A.g22 A1
  refine Ap 1 [] 15 hr H fun fr t H => ?_
  refine AE 1 [(16, .bool x2)] H fun fr H => ?_
  obtain rfl := Ah hm
  exact at_nil ⟨H.ls, A⟩
 clear A
 intro t fr h1 hK
 obtain ⟨H, A⟩ := hK
 refine AE 1 [(17, .bool x1)] H fun fr H => ?_
 obtain ⟨x3, ho, hm⟩ := bind_some hm
 refine BD 3 (fun fr' h' => Has fr' 21 [(20, .bool x3)] ∧ HH g h' [.obj bp0 (.cells none 2 (AZ p0 (AG rp0_3 p0.t_.AU.length))), .AO rp0_3 94 (AO AA p0.t_.AU)] F) ?_ ?_
 ·rcases BJ ho with ⟨hb, hm⟩ | ⟨hb, hm⟩
  ·replace H := H.kn 17 hb
   refine AE 3 [(20, .bool true)] H fun fr H => ?_
   obtain rfl := Ah hm
   exact at_nil ⟨H.ls, A⟩
  replace H := H.kn 17 hb
  obtain ⟨x4, hx, hm⟩ := bind_some hm
  obtain ⟨v1, h4, hr, rfl, A1⟩ := Ek (av := [.ptr (some (bp0, 0)), .str ([41] : List UInt8)]) hx (A.cut 2)
  replace A := A.g22 A1
  refine Ap 1 [] 19 hr H fun fr t H => ?_
  refine AE 1 [(20, .bool x4)] H fun fr H => ?_
  obtain rfl := Ah hm
  exact at_nil ⟨H.ls, A⟩
 clear A
 intro t fr h3 hK
 obtain ⟨H, A⟩ := hK
 refine AM 1 [(2, .bool x3)] H fun fr H => Ag ?_
 obtain rfl := Ah hm
 exact ⟨.inl rfl, _, rH H, rfl, A⟩
def Eo (p0 : Ar) (p1 : Int) : Option (Ar) :=
 (Ff ([p0.w0, p0.w1, p0.w2, p0.w3] : List Int) (GZ .u8 p1 (6 : Int))).bind fun x1 => Cm (decide (0 ≤ (FF .u8 p1 (63 : Int)))) <| (Ff ([p0.w0, p0.w1, p0.w2, p0.w3] : List Int) (GZ .u8 p1 (6 : Int))).bind fun x2 => some (⟨(bif (GZ .u8 p1 (6 : Int)) == 0 then Hu .u64 x1 (Ke .u64 (1 : Int) (FF .u8 p1 (63 : Int))) else p0.w0), (bif ((GZ .u8 p1 (6 : Int)) - 1) == 0 then Hu .u64 x1 (Ke .u64 (1 : Int) (FF .u8 p1 (63 : Int))) else p0.w1), (bif (((GZ .u8 p1 (6 : Int)) - 1) - 1) == 0 then Hu .u64 x1 (Ke .u64 (1 : Int) (FF .u8 p1 (63 : Int))) else p0.w2), (bif ((((GZ .u8 p1 (6 : Int)) - 1) - 1) - 1) == 0 then Hu .u64 x1 (Ke .u64 (1 : Int) (FF .u8 p1 (63 : Int))) else p0.w3)⟩ : Ar)
theorem JM {p0 p1 bp0 u0} (hm : Eo p0 p1 = some u0) (A : HH g h [.obj bp0 (.cells none 2 (AL p0))] F) (hc : BZ (cfg.still 97) av = [.ptr (some (bp0, 0)), Ab p1] := by kernel_rfl) : ∃ v h', Bg cfg g h 97 av v h' ∧ v = .tuple [] ∧ HH g h' [.obj bp0 (.cells none 2 (AL u0))] F := by
 refine E5 16 [] hc ?_
 clear hc
 unfold Eo at hm
 refine bg 16 [(0, .ptr (some (bp0, 0))), (1, Ab p1)] fun fr H => ?_
 refine EO 0 13 ?_
 obtain ⟨x1, hq1, hm⟩ := bind_some hm
 refine BI 4 [(4, .ptr (some (bp0, 0))), (6, Ab (GZ .u8 p1 (6 : Int)))] 8 (.ptr (some (bp0, 0 + (GZ .u8 p1 (6 : Int)).toNat * 1))) h H (fun fr => .of (J4 (by kernel_rfl) (IF hq1 (bp0, 0) 1 rfl))) fun fr t H => ?_
 refine Ax 9 _ _ H (fun fr => .of (Dd (by kernel_rfl) (HH.Vb A 0 rfl 0 (fun w : Int => Au w) [p0.w0, p0.w1, p0.w2, p0.w3] rfl hq1))) fun fr t H => ?_
 refine AE 2 [(11, Ab (FF .u8 p1 (63 : Int)))] H fun fr H => ?_
 obtain ⟨hb, hm⟩ := BQ hm
 refine Ax 12 (Au (Ke .u64 (1 : Int) (FF .u8 p1 (63 : Int)))) h H (fun fr => .of (Wx (by kernel_rfl) hb)) fun fr t H => ?_
 obtain ⟨x2, hq2, hm⟩ := bind_some hm
 refine BI 2 [(13, Au (Hu .u64 x1 (Ke .u64 (1 : Int) (FF .u8 p1 (63 : Int)))))] 15 (.ptr (some (bp0, 0 + (GZ .u8 p1 (6 : Int)).toNat * 1))) h H (fun fr => .of (J4 (by kernel_rfl) (IF hq2 (bp0, 0) 1 rfl))) fun fr t H => ?_
 obtain ⟨h1, hx, A1⟩ := HH.XF A 0 rfl 0 (fun w : Int => Au w) [p0.w0, p0.w1, p0.w2, p0.w3] (Hu .u64 x1 (Ke .u64 (1 : Int) (FF .u8 p1 (63 : Int)))) (ds := [Au (bif (GZ .u8 p1 (6 : Int)) == 0 then Hu .u64 x1 (Ke .u64 (1 : Int) (FF .u8 p1 (63 : Int))) else p0.w0), Au (bif ((GZ .u8 p1 (6 : Int)) - 1) == 0 then Hu .u64 x1 (Ke .u64 (1 : Int) (FF .u8 p1 (63 : Int))) else p0.w1), Au (bif (((GZ .u8 p1 (6 : Int)) - 1) - 1) == 0 then Hu .u64 x1 (Ke .u64 (1 : Int) (FF .u8 p1 (63 : Int))) else p0.w2), Au (bif ((((GZ .u8 p1 (6 : Int)) - 1) - 1) - 1) == 0 then Hu .u64 x1 (Ke .u64 (1 : Int) (FF .u8 p1 (63 : Int))) else p0.w3)]) rfl hq2 rfl rfl
 replace A : HH g h1 [.obj bp0 (.cells none 2 [Au (bif (GZ .u8 p1 (6 : Int)) == 0 then Hu .u64 x1 (Ke .u64 (1 : Int) (FF .u8 p1 (63 : Int))) else p0.w0), Au (bif ((GZ .u8 p1 (6 : Int)) - 1) == 0 then Hu .u64 x1 (Ke .u64 (1 : Int) (FF .u8 p1 (63 : Int))) else p0.w1), Au (bif (((GZ .u8 p1 (6 : Int)) - 1) - 1) == 0 then Hu .u64 x1 (Ke .u64 (1 : Int) (FF .u8 p1 (63 : Int))) else p0.w2), Au (bif ((((GZ .u8 p1 (6 : Int)) - 1) - 1) - 1) == 0 then Hu .u64 x1 (Ke .u64 (1 : Int) (FF .u8 p1 (63 : Int))) else p0.w3)])] F := A1
 refine Kh hx H fun fr t H => ?_
 refine at_nil ?_
 obtain rfl := Ah hm
 refine ⟨.inr rfl, .tuple [], rH H, ?_⟩
 exact ⟨rfl, A⟩
def G6 (p1 : Int) (s : Int × Int × Int × Int × Int) : Option ((Int × Int × Int × Int × Int) ⊕ ((Int × Int × Int × Int))) :=
 match s with
 | (x1, x2, x3, x4, x5) => Af (decide (x5 ≤ (IntKind.i64.wrap p1))) ((Eo (⟨x1, x2, x3, x4⟩ : Ar) (IntKind.u8.wrap x5)).bind fun x10 => some (.inl (x10.w0, x10.w1, x10.w2, x10.w3, IntKind.i64.wrap (x5 + 1)))) (some (.inr (x1, x2, x3, x4)))
def B4 (p0 : Int) (p1 : Int) : Option (Ar) :=
 (loop (G6 p1) ((0 : Int), (0 : Int), (0 : Int), (0 : Int), IntKind.i64.wrap p0)).bind fun (x6, x7, x8, x9) => some (⟨x6, x7, x8, x9⟩ : Ar)
theorem CS {p0 p1 q0} (hm : B4 p0 p1 = some q0) (A : HH g h [] F) (hc : BZ (cfg.still 79) av = [Ab p0, Ab p1] := by kernel_rfl) : ∃ v h', Bg cfg g h 79 av v h' ∧ v = .agg (AL q0) ∧ HH g h' [] F := by
 refine E5 19 [.cell 4 92] hc ?_
 clear hc
 unfold B4 at hm
 refine bg 19 [(0, Ab p0), (1, Ab p1)] fun fr H => ?_
 refine AD 1 ?_
 obtain ⟨h1, e1, A⟩ := A.pu (.cells none 2 [Au 0, Au 0, Au 0, Au 0])
 refine Bo 4 (.ptr (some (h.size, 0))) e1 H fun fr t H => ?_
 refine CG 1 id ?_
 obtain ⟨h2, e2, A⟩ := A.pu (.cells none 2 [Au 0, Au 0, Au 0, Au 0])
 refine Bo 5 (.ptr (some (h1.size, 0))) e2 H fun fr t H => ?_
 refine BK id (AQ (AD 3 (AM 3 [(6, Ai (IntKind.i64.wrap p0))] H fun fr H => Ac (id := 0) (by kernel_rfl) ?_)))
 obtain ⟨o1, ho, hm⟩ := bind_some hm
 refine As (Q' := fun e fr' h' => (∃ x6 x7 x8 x9, e = .exit 0 ∧ (x6, x7, x8, x9) = o1 ∧ Has fr' 19 [(4, .ptr (some (h.size, 0))), (5, .ptr (some (h1.size, 0)))] ∧ HH g h' [.obj h1.size (.cells none 2 [Au x6, Au x7, Au x8, Au x9]), .obj h.size (.cells none 2 [Au 0, Au 0, Au 0, Au 0])] F) ∨ False) ?_ ?_
 ·refine B2 (by kernel_rfl) (fun (s : Int × Int × Int × Int × Int) fr' h' => ∃ x1 x2 x3 x4 x5, (x1, x2, x3, x4, x5) = s ∧ Has fr' 19 [(1, Ab p1), (4, .ptr (some (h.size, 0))), (5, .ptr (some (h1.size, 0))), (6, Ai x5)] ∧ HH g h' [.obj h1.size (.cells none 2 [Au x1, Au x2, Au x3, Au x4]), .obj h.size (.cells none 2 [Au 0, Au 0, Au 0, Au 0])] F) ho ⟨_, _, _, _, _, rfl, H.ls, A⟩ ?_
  clear ho hm H A
  intro s q fr h3 hI hm
  obtain ⟨x1, x2, x3, x4, x5, rfl, H, A⟩ := hI
  unfold G6 at hm
  refine AQ (AD 4 (AM 4 [(12, .bool (decide (x5 ≤ (IntKind.i64.wrap p1))))] H fun fr H => AV 12 H hm (fun hb hm H => ?_) fun hb hm H => ?_))
  ·refine CE id (AQ (Ac (id := 1) (by kernel_rfl) ?_))
   refine Bd 3 ?_
   obtain ⟨x10, hx, hm⟩ := bind_some hm
   obtain ⟨v1, h4, hr, rfl, A1⟩ := JM (av := [.ptr (some (h1.size, 0)), Ab (IntKind.u8.wrap x5)]) hx (A.cut 1)
   replace A := A.g11 A1
   refine LS 2 [] hr H fun fr t H => ?_
   refine Gq 3 id (BG 3 [(1, Ab p1), (4, .ptr (some (h.size, 0))), (5, .ptr (some (h1.size, 0))), (6, Ai (IntKind.i64.wrap (x5 + 1)))] H fun fr H => at_nil ?_)
   exact nx hm ⟨_, _, _, _, _, rfl, H.ls, A⟩
  refine BO (i := 0) (by kernel_rfl) ?_
  exact nr hm fun e => .inl ⟨_, _, _, _, rfl, e, H.ls, A⟩
 clear ho
 clear A
 intro e fr h5 hQ
 rcases hQ with ⟨x6, x7, x8, x9, rfl, rfl, H, A⟩ | hF
 ·show AW _ _ _ _ _ _ _
  refine AD 2 (Ax 18 _ _ H (fun fr => .of (CD (by kernel_rfl) (A.GX 0 rfl (o := 0) (n := 4) ⟨Nat.le_of_ble_eq_true rfl, rfl⟩))) fun fr t H => ?_)
  obtain ⟨h6, hx, A⟩ := A.s1 0 [Au x6, Au x7, Au x8, Au x9] [_, _, _, _]
  refine DN hx H fun fr t H => ?_
  refine BK id (Ag ?_)
  obtain rfl := Ah hm
  refine ⟨.inl rfl, .agg [Au x6, Au x7, Au x8, Au x9], JA (.cell (rT H) (Bl (by kernel_rfl) (by kernel_rfl) (A.la 1 0 4)) .nil), ?_⟩
  replace A := A.d0
  exact ⟨rfl, A⟩
 exact hF.elim
def Dv (p0 : Int) (p1 : Int) : Option (Bool) :=
 some ((decide (p0 ≥ 0)) && (decide (p0 < p1)))
theorem Fc {p0 p1 bp1 q0} (hm : Dv p0 p1 = some q0) (A : HH g h [.obj bp1 (.cells none 2 [Ai p1])] F) (hc : BZ (cfg.still 71) av = [Ai p0, .ptr (some (bp1, 0))] := by kernel_rfl) : ∃ v h', Bg cfg g h 71 av v h' ∧ v = .bool q0 ∧ HH g h' [.obj bp1 (.cells none 2 [Ai p1])] F := by
 refine E5 11 [.tmp 3] hc ?_
 clear hc
 unfold Dv at hm
 refine bg 11 [(0, Ai p0), (1, .ptr (some (bp1, 0)))] fun fr H => ?_
 refine AD 1 (Bw 1 [] 8 H fun fr H => AE 3 [(6, .bool (decide (p0 ≥ 0)))] H fun fr H => BD 4 (fun fr' h' => h = h' ∧ Has fr' 11 [(10, .bool ((decide (p0 ≥ 0)) && (decide (p0 < p1))))]) ?_ ?_)
 ·cases hb : (decide (p0 ≥ 0) : Bool) with
  | true =>
   replace H := H.kn 6 hb
   refine Ad 1 [(7, Ai p0)] 8 0 0 A H fun fr t H => ?_
   exact AE 2 [(10, .bool (decide (p0 < p1)))] H fun fr H => Am H hb
  | false =>
   replace H := H.kn 6 hb
   exact AE 4 [(10, .bool false)] H fun fr H => Am H hb
 intro t fr h' hK
 obtain ⟨e, H⟩ := hK
 subst e
 refine AM 1 [(3, .bool ((decide (p0 ≥ 0)) && (decide (p0 < p1))))] H fun fr H => Ag ?_
 obtain rfl := Ah hm
 exact ⟨.inl rfl, _, rH H, rfl, A⟩
def EC (p0 : List UInt8) (p1 : Int) : Option (Int) :=
 (IZ p0 p1).bind fun x1 => some x1
theorem I7 {p0 p1 q0} (hm : EC p0 p1 = some q0) (A : HH g h [] F) (hc : BZ (cfg.still 110) av = [.str p0, Ab p1] := by kernel_rfl) : ∃ v h', Bg cfg g h 110 av v h' ∧ v = Ai q0 ∧ HH g h' [] F := by
 refine E5 8 [.tmp 4] hc ?_
 clear hc
 unfold EC at hm
 refine bg 8 [(0, .str p0), (1, Ab p1)] fun fr H => ?_
 refine AD 1 (Bw 1 [] 4 H fun fr H => ?_)
 obtain ⟨x1, hx, hm⟩ := bind_some hm
 refine BI 2 [] 7 (Ai x1) h H (fun fr => Steps.call (by kernel_rfl) (U4 (C := cfg) (f := 116) (by kernel_rfl) (l := exts) rfl (by kernel_rfl) hx)) fun fr t H => ?_
 refine AM 1 [(4, Ai x1)] H fun fr H => Ag ?_
 obtain rfl := Ah hm
 exact ⟨.inl rfl, _, rH H, rfl, A⟩
end
end Go.Av.L
