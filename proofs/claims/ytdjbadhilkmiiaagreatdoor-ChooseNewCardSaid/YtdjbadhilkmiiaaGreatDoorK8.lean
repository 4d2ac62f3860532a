/-
 A part.
-/
import Derived.Test.YtdjbadhilkmiiaaGreatDoorKCfg
import Derived.Test.YtdjbadhilkmiiaaGreatDoorK6
import Derived.Test.YtdjbadhilkmiiaaGreatDoorK7
namespace Go.Av.L
open Go.Av Go.Lib
set_option maxRecDepth 10000
set_option maxHeartbeats 4000000
set_option linter.unusedVariables false
set_option linter.unusedSimpArgs false
variable {g : Gd} {h : AJ} {F : List Ck} {av : List AB}
noncomputable section
def Et (p0 : Int) (p1 : List UInt8) (s : Int) : Option ((Int) ⊕ ((Unit) ⊕ (Bool))) :=
 match s with
 | x1 => Ac (decide (x1 < (p1.length : Int))) ((KW p1 x1).bind fun x3 => Ac (x3 == p0) (some (.inr (.inr true))) (some (.inl (IntKind.i64.wrap (x1 + 1))))) (some (.inr (.inl ())))
def D7 (p0 : Int) (p1 : List UInt8) : Option (Bool) :=
 (loop (Et p0 p1) (0 : Int)).bind fun o1 => (match o1 with | .inl _ => some false | .inr x2 => some x2)
theorem IP {p0 p1 q0} (hm : D7 p0 p1 = some q0) (A : HH g h [] F) (hc : Ba (cfg.still 93) av = [Ab p0, .str p1] := by kernel_rfl) : ∃ v h', Bi cfg g h 93 av v h' ∧ v = .bool q0 ∧ HH g h' [] F := by
 refine EN 17 [.tmp 4] hc ?_
 clear hc
 unfold D7 at hm
 refine bg 17 [(0, Ab p0), (1, .str p1)] fun fr H => ?_
 refine AF 1 (AP 1 [] H fun fr H => AR (AF 1 (AP 1 [(5, Ai 0)] H fun fr H => Af (id := 0) (by kernel_rfl) ?_)))
 obtain ⟨o1, ho, hm⟩ := bind_some hm
 refine BU (Q' := fun e fr' h' => (e = .exit 0 ∧ .inl () = o1 ∧ Has fr' 17 [] ∧ HH g h' [] F) ∨ (∃ x2, e = .ret ∧ .inr x2 = o1 ∧ Has fr' 17 [(4, .bool x2)] ∧ HH g h' [] F) ∨ False) ?_ ?_
 ·refine CH (by kernel_rfl) (fun (s : Int) fr' h' => ∃ x1, x1 = s ∧ Has fr' 17 [(0, Ab p0), (1, .str p1), (5, Ai x1)] ∧ HH g h' [] F) ho ⟨_, rfl, H.ls, A⟩ ?_
  clear ho hm H A
  intro s q fr h1 hI hm
  obtain ⟨x1, rfl, H, A⟩ := hI
  unfold Et at hm
  refine AR (AF 4 (AP 4 [(9, .bool (decide (x1 < (p1.length : Int))))] H fun fr H => Ae 9 H hm (fun hb hm H => ?_) fun hb hm H => ?_))
  ·refine B0 id (AR (Af (id := 1) (by kernel_rfl) ?_))
   refine AF 5 ?_
   obtain ⟨x3, hx, hm⟩ := bind_some hm
   refine BA 2 [] 14 (Ab x3) h1 H (fun fr => .of (E5 (by kernel_rfl) hx)) fun fr t H => ?_
   refine AP 2 [(16, .bool (x3 == p0))] H fun fr H => Ae 16 H hm (fun hb hm H => ?_) fun hb hm H => ?_
   ·refine AF 1 (AP 1 [(4, .bool true)] H fun fr H => AY ?_)
    exact nr hm fun e => Or.inr (.inl ⟨_, rfl, e, H.ls, A⟩)
   refine F3 3 id (BV 3 [(0, Ab p0), (1, .str p1), (5, Ai (IntKind.i64.wrap (x1 + 1)))] H fun fr H => at_nil ?_)
   exact nx hm ⟨_, rfl, H.ls, A⟩
  refine Bz (i := 0) (by kernel_rfl) ?_
  exact nr hm fun e => .inl ⟨rfl, e, H.ls, A⟩
 clear ho
 clear A
 intro e fr h2 hQ
 rcases hQ with ⟨rfl, rfl, H, A⟩ | ⟨x2, rfl, rfl, H, A⟩ | hF
 ·show AW _ _ _ _ _ _ _
  refine AF 1 (AP 1 [(4, .bool false)] H fun fr H => AY ?_)
  obtain rfl := Ag hm
  exact ⟨.inl rfl, _, rH H, rfl, A⟩
 ·obtain rfl := Ag hm
  exact ⟨.inl rfl, _, rH H, rfl, A⟩
 exact hF.elim
def Dd (p0 : List UInt8) (p1 : List UInt8) (s : (List UInt8) × Int) : Option (((List UInt8) × Int) ⊕ (((List UInt8)))) :=
 match s with
 | (x1, x2) => Ac (decide (x2 < (p0.length : Int))) (((KW p0 x2).bind fun x5 => (D7 x5 p1).bind fun x6 => Ac (!x6) ((HX p0 (some x2) (some (IntKind.i64.wrap (x2 + 1)))).bind fun x7 => Ca (decide (x1.length + x7.length ≤ 9223372036854775807)) <| some (x1 ++ x7)) (some x1) : Option (((List UInt8)))).bind fun x4 => some (.inl (x4, IntKind.i64.wrap (x2 + 1)))) (some (.inr x1))
def Cd (p0 : List UInt8) (p1 : List UInt8) : Option ((List UInt8)) :=
 (loop (Dd p0 p1) (([] : List UInt8), (0 : Int))).bind fun x3 => some x3
theorem GZ {p0 p1 q0} (hm : Cd p0 p1 = some q0) (A : HH g h [] F) (hc : Ba (cfg.still 40) av = [.str p0, .str p1] := by kernel_rfl) : ∃ v h', Bi cfg g h 40 av v h' ∧ v = .str q0 ∧ HH g h' [] F := by
 refine EN 27 [.tmp 4] hc ?_
 clear hc
 unfold Cd at hm
 refine bg 27 [(0, .str p0), (1, .str p1)] fun fr H => ?_
 refine AF 1 (B1 1 [] 1 H fun fr H => AP 1 [(5, .str ([] : List UInt8))] H fun fr H => AR (AF 1 (AP 1 [(6, Ai 0)] H fun fr H => Af (id := 0) (by kernel_rfl) ?_)))
 obtain ⟨o1, ho, hm⟩ := bind_some hm
 refine BU (Q' := fun e fr' h' => (∃ x3, e = .exit 0 ∧ x3 = o1 ∧ Has fr' 27 [(5, .str x3)] ∧ HH g h' [] F) ∨ False) ?_ ?_
 ·refine CH (by kernel_rfl) (fun (s : (List UInt8) × Int) fr' h' => ∃ x1 x2, (x1, x2) = s ∧ Has fr' 27 [(0, .str p0), (1, .str p1), (5, .str x1), (6, Ai x2)] ∧ HH g h' [] F) ho ⟨_, _, rfl, H.ls, A⟩ ?_
  clear ho hm H A
  intro s q fr h1 hI hm
  obtain ⟨x1, x2, rfl, H, A⟩ := hI
  unfold Dd at hm
  refine AR (AF 4 (AP 4 [(10, .bool (decide (x2 < (p0.length : Int))))] H fun fr H => Ae 10 H hm (fun hb hm H => ?_) fun hb hm H => ?_))
  ·refine B0 id (AR ?_)
   obtain ⟨o2, ho, hm⟩ := bind_some hm
   refine BU (Q' := fun e fr' h' => (∃ x4, e = .normal ∧ x4 = o2 ∧ Has fr' 27 [(0, .str p0), (1, .str p1), (5, .str x4), (6, Ai x2)] ∧ HH g h' [] F) ∨ False) ?_ ?_
   ·replace hm := ho
    clear ho
    refine Af (id := 1) (by kernel_rfl) ?_
    refine AF 6 ?_
    obtain ⟨x5, hx, hm⟩ := bind_some hm
    refine BA 2 [] 15 (Ab x5) h1 H (fun fr => .of (E5 (by kernel_rfl) hx)) fun fr t H => ?_
    obtain ⟨x6, hx, hm⟩ := bind_some hm
    obtain ⟨v1, h2, hr, rfl, A1⟩ := IP (av := [Ab x5, .str p1]) hx (A.cut 0)
    replace A := A.C4 A1
    refine Ap 1 [] 17 hr H fun fr t H => ?_
    refine AP 1 [(18, .bool (!x6))] H fun fr H => Ae 18 H hm (fun hb hm H => ?_) fun hb hm H => ?_
    ·refine DQ 8 ?_
     obtain ⟨x7, hx, hm⟩ := bind_some hm
     refine BA 5 [(19, .str x1)] 24 (.str x7) h2 H (fun fr => .of (GA (k := .i64) (k' := .i64) (lo := (some x2)) (hi := (some (IntKind.i64.wrap (x2 + 1)))) (by kernel_rfl) hx)) fun fr t H => ?_
     obtain ⟨hb, hm⟩ := BE hm
     refine As 25 (.str (x1 ++ x7)) h2 H (fun fr => .of (J9 (by kernel_rfl) hb)) fun fr t H => ?_
     refine BV 1 [(0, .str p0), (1, .str p1), (5, .str (x1 ++ x7)), (6, Ai x2)] H fun fr H => at_nil ?_
     exact .inl ⟨_, rfl, Ag hm, H.ls, A⟩
    exact Fz (.inl ⟨_, rfl, Ag hm, H.ls, A⟩)
   clear ho
   clear A
   intro e fr h3 hQ
   rcases hQ with ⟨x4, rfl, rfl, H, A⟩ | hF
   ·show AW _ _ _ _ _ _ _
    refine DQ 3 (BV 3 [(0, .str p0), (1, .str p1), (5, .str x4), (6, Ai (IntKind.i64.wrap (x2 + 1)))] H fun fr H => at_nil ?_)
    exact nx hm ⟨_, _, rfl, H.ls, A⟩
   exact hF.elim
  refine Bz (i := 0) (by kernel_rfl) ?_
  exact nr hm fun e => .inl ⟨_, rfl, e, H.ls, A⟩
 clear ho
 clear A
 intro e fr h4 hQ
 rcases hQ with ⟨x3, rfl, rfl, H, A⟩ | hF
 ·show AW _ _ _ _ _ _ _
  refine AF 2 (AP 2 [(4, .str x3)] H fun fr H => AY ?_)
  obtain rfl := Ag hm
  exact ⟨.inl rfl, _, rH H, rfl, A⟩
 exact hF.elim
def D2 (p0 : List UInt8) : Option ((List UInt8) × Bool) :=
 (BJ (65 : Int) (90 : Int)).bind fun x1 => (BJ (97 : Int) (122 : Int)).bind fun x2 => (BJ (48 : Int) (57 : Int)).bind fun x3 => Ac (p0 == ([97, 108, 112, 104, 97] : List UInt8)) (Ca (decide (x1.length + x2.length ≤ 9223372036854775807)) <| some (x1 ++ x2, true)) (Ac (p0 == ([100, 105, 103, 105, 116] : List UInt8)) (some (x3, true)) (Ac (p0 == ([97, 108, 110, 117, 109] : List UInt8)) (Ca (decide (x3.length + x1.length ≤ 9223372036854775807)) <| Ca (decide ((x3 ++ x1).length + x2.length ≤ 9223372036854775807)) <| some ((x3 ++ x1) ++ x2, true)) (Ac (p0 == ([117, 112, 112, 101, 114] : List UInt8)) (some (x1, true)) (Ac (p0 == ([108, 111, 119, 101, 114] : List UInt8)) (some (x2, true)) (Ac (p0 == ([120, 100, 105, 103, 105, 116] : List UInt8)) (some (([48, 49, 50, 51, 52, 53, 54, 55, 56, 57, 65, 66, 67, 68, 69, 70, 97, 98, 99, 100, 101, 102] : List UInt8), true)) (Ac (p0 == ([98, 108, 97, 110, 107] : List UInt8)) (some (([9, 32] : List UInt8), true)) (Ac (p0 == ([115, 112, 97, 99, 101] : List UInt8)) (some (([9, 10, 11, 12, 13, 32] : List UInt8), true)) (Ac (p0 == ([99, 110, 116, 114, 108] : List UInt8)) ((BJ (0 : Int) (31 : Int)).bind fun x4 => Ca (decide (x4.length + ([127] : List UInt8).length ≤ 9223372036854775807)) <| some (x4 ++ ([127] : List UInt8), true)) (Ac (p0 == ([103, 114, 97, 112, 104] : List UInt8)) ((BJ (33 : Int) (126 : Int)).bind fun x5 => some (x5, true)) (Ac (p0 == ([112, 114, 105, 110, 116] : List UInt8)) ((BJ (32 : Int) (126 : Int)).bind fun x6 => some (x6, true)) (Ac (p0 == ([112, 117, 110, 99, 116] : List UInt8)) ((BJ (33 : Int) (126 : Int)).bind fun x7 => Ca (decide (x3.length + x1.length ≤ 9223372036854775807)) <| Ca (decide ((x3 ++ x1).length + x2.length ≤ 9223372036854775807)) <| (Cd x7 ((x3 ++ x1) ++ x2)).bind fun x8 => some (x8, true)) (some (([] : List UInt8), false)))))))))))))
theorem KE {p0 q0 q1} (hm : D2 p0 = some (q0, q1)) (A : HH g h [] F) (hc : Ba (cfg.still 37) av = [.str p0] := by kernel_rfl) : ∃ v h', Bi cfg g h 37 av v h' ∧ v = .tuple [.str q0, .bool q1] ∧ HH g h' [] F := by
 refine EN 57 [.tmp 2, .tmp 3] hc ?_
 clear hc
 unfold D2 at hm
 refine bg 57 [(0, .str p0)] fun fr H => ?_
 refine AF 2 (B1 2 [] 6 H fun fr H => ?_)
 obtain ⟨x1, hx, hm⟩ := bind_some hm
 obtain ⟨v1, h1, hr, rfl, A1⟩ := B5 (av := [Ai 65, Ai 90]) hx (A.cut 0)
 replace A := A.C4 A1
 refine A8 7 hr H fun fr t H => ?_
 obtain ⟨x2, hx, hm⟩ := bind_some hm
 obtain ⟨v1, h2, hr, rfl, A1⟩ := B5 (av := [Ai 97, Ai 122]) hx (A.cut 0)
 replace A := A.C4 A1
 refine A8 8 hr H fun fr t H => ?_
 obtain ⟨x3, hx, hm⟩ := bind_some hm
 obtain ⟨v1, h3, hr, rfl, A1⟩ := B5 (av := [Ai 48, Ai 57]) hx (A.cut 0)
 replace A := A.C4 A1
 refine A8 9 hr H fun fr t H => ?_
 refine AP 3 [(4, .str x1), (5, .str x2), (6, .str x3)] H fun fr H => AR (AF 1 (AP 1 [(10, .str p0)] H fun fr H => Af (id := 0) (by kernel_rfl) ?_))
 refine AF 2 (AP 2 [(11, .bool (p0 == ([97, 108, 112, 104, 97] : List UInt8)))] H fun fr H => Ae 11 H hm (fun hb hm H => ?_) fun hb hm H => ?_)
 ·refine AF 5 (AG 2 [(13, .str x1), (14, .str x2)] H fun fr H => ?_)
  obtain ⟨hb, hm⟩ := BE hm
  refine As 15 (.str (x1 ++ x2)) h3 H (fun fr => .of (J9 (by kernel_rfl) hb)) fun fr t H => ?_
  refine AP 2 [(2, .str (x1 ++ x2)), (3, .bool true)] H fun fr H => AY ?_
  obtain ⟨rfl, rfl⟩ := B6 hm
  exact ⟨.inl rfl, _, rH H, rfl, A⟩
 refine AF 2 (AP 2 [(16, .bool (p0 == ([100, 105, 103, 105, 116] : List UInt8)))] H fun fr H => Ae 16 H hm (fun hb hm H => ?_) fun hb hm H => ?_)
 ·refine AF 3 (AP 3 [(2, .str x3), (3, .bool true)] H fun fr H => AY ?_)
  obtain ⟨rfl, rfl⟩ := B6 hm
  exact ⟨.inl rfl, _, rH H, rfl, A⟩
 refine AF 2 (AP 2 [(19, .bool (p0 == ([97, 108, 110, 117, 109] : List UInt8)))] H fun fr H => Ae 19 H hm (fun hb hm H => ?_) fun hb hm H => ?_)
 ·refine AF 7 (AG 2 [(21, .str x3), (22, .str x1)] H fun fr H => ?_)
  obtain ⟨hb, hm⟩ := BE hm
  refine As 23 (.str (x3 ++ x1)) h3 H (fun fr => .of (J9 (by kernel_rfl) hb)) fun fr t H => ?_
  refine AG 1 [(24, .str x2)] H fun fr H => ?_
  obtain ⟨hb, hm⟩ := BE hm
  refine As 25 (.str ((x3 ++ x1) ++ x2)) h3 H (fun fr => .of (J9 (by kernel_rfl) hb)) fun fr t H => ?_
  refine AP 2 [(2, .str ((x3 ++ x1) ++ x2)), (3, .bool true)] H fun fr H => AY ?_
  obtain ⟨rfl, rfl⟩ := B6 hm
  exact ⟨.inl rfl, _, rH H, rfl, A⟩
 refine AF 2 (AP 2 [(26, .bool (p0 == ([117, 112, 112, 101, 114] : List UInt8)))] H fun fr H => Ae 26 H hm (fun hb hm H => ?_) fun hb hm H => ?_)
 ·refine AF 3 (AP 3 [(2, .str x1), (3, .bool true)] H fun fr H => AY ?_)
  obtain ⟨rfl, rfl⟩ := B6 hm
  exact ⟨.inl rfl, _, rH H, rfl, A⟩
 refine AF 2 (AP 2 [(29, .bool (p0 == ([108, 111, 119, 101, 114] : List UInt8)))] H fun fr H => Ae 29 H hm (fun hb hm H => ?_) fun hb hm H => ?_)
 ·refine AF 3 (AP 3 [(2, .str x2), (3, .bool true)] H fun fr H => AY ?_)
  obtain ⟨rfl, rfl⟩ := B6 hm
  exact ⟨.inl rfl, _, rH H, rfl, A⟩
 refine AF 2 (AP 2 [(32, .bool (p0 == ([120, 100, 105, 103, 105, 116] : List UInt8)))] H fun fr H => Ae 32 H hm (fun hb hm H => ?_) fun hb hm H => ?_)
 ·refine AF 2 (AP 2 [(2, .str ([48, 49, 50, 51, 52, 53, 54, 55, 56, 57, 65, 66, 67, 68, 69, 70, 97, 98, 99, 100, 101, 102] : List UInt8)), (3, .bool true)] H fun fr H => AY ?_)
  obtain ⟨rfl, rfl⟩ := B6 hm
  exact ⟨.inl rfl, _, rH H, rfl, A⟩
 refine AF 2 (AP 2 [(34, .bool (p0 == ([98, 108, 97, 110, 107] : List UInt8)))] H fun fr H => Ae 34 H hm (fun hb hm H => ?_) fun hb hm H => ?_)
 ·refine AF 2 (AP 2 [(2, .str ([9, 32] : List UInt8)), (3, .bool true)] H fun fr H => AY ?_)
  obtain ⟨rfl, rfl⟩ := B6 hm
  exact ⟨.inl rfl, _, rH H, rfl, A⟩
 refine AF 2 (AP 2 [(36, .bool (p0 == ([115, 112, 97, 99, 101] : List UInt8)))] H fun fr H => Ae 36 H hm (fun hb hm H => ?_) fun hb hm H => ?_)
 ·refine AF 2 (AP 2 [(2, .str ([9, 10, 11, 12, 13, 32] : List UInt8)), (3, .bool true)] H fun fr H => AY ?_)
  obtain ⟨rfl, rfl⟩ := B6 hm
  exact ⟨.inl rfl, _, rH H, rfl, A⟩
 refine AF 2 (AP 2 [(38, .bool (p0 == ([99, 110, 116, 114, 108] : List UInt8)))] H fun fr H => Ae 38 H hm (fun hb hm H => ?_) fun hb hm H => ?_)
 ·refine AF 4 ?_
  obtain ⟨x4, hx, hm⟩ := bind_some hm
  obtain ⟨v1, h4, hr, rfl, A1⟩ := B5 (av := [Ai 0, Ai 31]) hx (A.cut 0)
  replace A := A.C4 A1
  refine A8 40 hr H fun fr t H => ?_
  obtain ⟨hb, hm⟩ := BE hm
  refine As 41 (.str (x4 ++ ([127] : List UInt8))) h4 H (fun fr => .of (J9 (by kernel_rfl) hb)) fun fr t H => ?_
  refine AP 2 [(2, .str (x4 ++ ([127] : List UInt8))), (3, .bool true)] H fun fr H => AY ?_
  obtain ⟨rfl, rfl⟩ := B6 hm
  exact ⟨.inl rfl, _, rH H, rfl, A⟩
 refine AF 2 (AP 2 [(42, .bool (p0 == ([103, 114, 97, 112, 104] : List UInt8)))] H fun fr H => Ae 42 H hm (fun hb hm H => ?_) fun hb hm H => ?_)
 ·refine AF 3 ?_
  obtain ⟨x5, hx, hm⟩ := bind_some hm
  obtain ⟨v1, h5, hr, rfl, A1⟩ := B5 (av := [Ai 33, Ai 126]) hx (A.cut 0)
  replace A := A.C4 A1
  refine A8 44 hr H fun fr t H => ?_
  refine AP 2 [(2, .str x5), (3, .bool true)] H fun fr H => AY ?_
  obtain ⟨rfl, rfl⟩ := B6 hm
  exact ⟨.inl rfl, _, rH H, rfl, A⟩
 refine AF 2 (AP 2 [(45, .bool (p0 == ([112, 114, 105, 110, 116] : List UInt8)))] H fun fr H => Ae 45 H hm (fun hb hm H => ?_) fun hb hm H => ?_)
 ·refine AF 3 ?_
  obtain ⟨x6, hx, hm⟩ := bind_some hm
  obtain ⟨v1, h6, hr, rfl, A1⟩ := B5 (av := [Ai 32, Ai 126]) hx (A.cut 0)
  replace A := A.C4 A1
  refine A8 47 hr H fun fr t H => ?_
  refine AP 2 [(2, .str x6), (3, .bool true)] H fun fr H => AY ?_
  obtain ⟨rfl, rfl⟩ := B6 hm
  exact ⟨.inl rfl, _, rH H, rfl, A⟩
 refine AF 2 (AP 2 [(48, .bool (p0 == ([112, 117, 110, 99, 116] : List UInt8)))] H fun fr H => Ae 48 H hm (fun hb hm H => ?_) fun hb hm H => ?_)
 ·refine AF 9 ?_
  obtain ⟨x7, hx, hm⟩ := bind_some hm
  obtain ⟨v1, h7, hr, rfl, A1⟩ := B5 (av := [Ai 33, Ai 126]) hx (A.cut 0)
  replace A := A.C4 A1
  refine A8 50 hr H fun fr t H => ?_
  refine AG 2 [(51, .str x3), (52, .str x1)] H fun fr H => ?_
  obtain ⟨hb, hm⟩ := BE hm
  refine As 53 (.str (x3 ++ x1)) h7 H (fun fr => .of (J9 (by kernel_rfl) hb)) fun fr t H => ?_
  refine AG 1 [(54, .str x2)] H fun fr H => ?_
  obtain ⟨hb, hm⟩ := BE hm
  refine As 55 (.str ((x3 ++ x1) ++ x2)) h7 H (fun fr => .of (J9 (by kernel_rfl) hb)) fun fr t H => ?_
  obtain ⟨x8, hx, hm⟩ := bind_some hm
  obtain ⟨v1, h8, hr, rfl, A1⟩ := GZ (av := [.str x7, .str ((x3 ++ x1) ++ x2)]) hx (A.cut 0)
  replace A := A.C4 A1
  refine A8 56 hr H fun fr t H => ?_
  refine AP 2 [(2, .str x8), (3, .bool true)] H fun fr H => AY ?_
  obtain ⟨rfl, rfl⟩ := B6 hm
  exact ⟨.inl rfl, _, rH H, rfl, A⟩
 refine CN 2 id (AP 2 [(2, .str ([] : List UInt8)), (3, .bool false)] H fun fr H => AY ?_)
 obtain ⟨rfl, rfl⟩ := B6 hm
 exact ⟨.inl rfl, _, rH H, rfl, A⟩
def Dl (p0 : List UInt8) (p1 : Int) (p2 : Bool) : Option (Int × Int) :=
 (BC p0 p1 ([91, 46] : List UInt8)).bind fun x1 => Ac x1 ((Ac (decide ((IntKind.i64.wrap (p1 + 4)) < (p0.length : Int))) ((BC p0 (IntKind.i64.wrap (p1 + 3)) ([46, 93] : List UInt8)).bind fun x3 => some x3) (some false) : Option (Bool)).bind fun x2 => Ac x2 ((KW p0 (IntKind.i64.wrap (p1 + 2))).bind fun x4 => some (IntKind.i64.wrap x4, IntKind.i64.wrap (p1 + 5))) (some ((-1 : Int), p1))) (((Ac p2 ((BC p0 p1 ([92] : List UInt8)).bind fun x7 => some x7) (some false) : Option (Bool)).bind fun x6 => Ac x6 (some (IntKind.i64.wrap (p1 + 1))) (some p1) : Option ((Int))).bind fun x5 => Ac (decide (x5 ≥ (p0.length : Int))) (some ((-1 : Int), x5)) ((KW p0 x5).bind fun x8 => some (IntKind.i64.wrap x8, IntKind.i64.wrap (x5 + 1))))
theorem Hx {p0 p1 p2 q0 q1} (hm : Dl p0 p1 p2 = some (q0, q1)) (A : HH g h [] F) (hc : Ba (cfg.still 38) av = [.str p0, Ai p1, .bool p2] := by kernel_rfl) : ∃ v h', Bi cfg g h 38 av v h' ∧ v = .tuple [Ai q0, Ai q1] ∧ HH g h' [] F := by
 refine EN 49 [.tmp 6, .tmp 7] hc ?_
 clear hc
 unfold Dl at hm
 refine bg 49 [(0, .str p0), (1, Ai p1), (2, .bool p2)] fun fr H => ?_
 refine AF 2 (AP 2 [] H fun fr H => AR (AF 3 ?_))
 obtain ⟨x1, hx, hm⟩ := bind_some hm
 obtain ⟨v1, h1, hr, rfl, A1⟩ := BZ (av := [.str p0, Ai p1, .str ([91, 46] : List UInt8)]) hx (A.cut 0)
 replace A := A.C4 A1
 refine Ap 2 [] 10 hr H fun fr t H => ?_
 refine BD id (Ae 10 H hm (fun hb hm H => ?_) fun hb hm H => ?_)
 ·refine AR (AF 11 (AG 6 [(16, .bool (decide ((IntKind.i64.wrap (p1 + 4)) < (p0.length : Int))))] H fun fr H => ?_))
  obtain ⟨x2, ho, hm⟩ := bind_some hm
  refine A9 5 (fun fr' h' => Has fr' 49 [(0, .str p0), (1, Ai p1), (21, .bool x2)] ∧ HH g h' [] F) ?_ ?_
  ·rcases AZ ho with ⟨hb, hm⟩ | ⟨hb, hm⟩
   ·replace H := H.kn 16 hb
    obtain ⟨x3, hx, hm⟩ := bind_some hm
    obtain ⟨v1, h3, hr, rfl, A1⟩ := BZ (av := [.str p0, Ai (IntKind.i64.wrap (p1 + 3)), .str ([46, 93] : List UInt8)]) hx (A.cut 0)
    replace A := A.C4 A1
    refine Ap 3 [] 20 hr H fun fr t H => ?_
    refine AG 1 [(21, .bool x3)] H fun fr H => ?_
    obtain rfl := Ag hm
    exact at_nil ⟨H.ls, A⟩
   replace H := H.kn 16 hb
   refine AG 5 [(21, .bool false)] H fun fr H => ?_
   obtain rfl := Ag hm
   exact at_nil ⟨H.ls, A⟩
  clear A
  intro t fr h2 hK
  obtain ⟨H, A⟩ := hK
  refine BD id (Ae 21 H hm (fun hb hm H => ?_) fun hb hm H => ?_)
  ·refine AF 9 ?_
   obtain ⟨x4, hx, hm⟩ := bind_some hm
   refine BA 3 [] 25 (Ab x4) h2 H (fun fr => .of (E5 (by kernel_rfl) hx)) fun fr t H => ?_
   refine AP 5 [(6, Ai (IntKind.i64.wrap x4)), (7, Ai (IntKind.i64.wrap (p1 + 5)))] H fun fr H => AY ?_
   obtain ⟨rfl, rfl⟩ := B6 hm
   exact ⟨.inl rfl, _, rH H, rfl, A⟩
  refine CN 3 id (AP 3 [(6, Ai (-1)), (7, Ai p1)] H fun fr H => AY ?_)
  obtain ⟨rfl, rfl⟩ := B6 hm
  exact ⟨.inl rfl, _, rH H, rfl, A⟩
 refine B0 id (AR ?_)
 obtain ⟨o1, ho, hm⟩ := bind_some hm
 refine BU (Q' := fun e fr' h' => (∃ x5, e = .normal ∧ x5 = o1 ∧ Has fr' 49 [(0, .str p0), (1, Ai x5)] ∧ HH g h' [] F) ∨ False) ?_ ?_
 ·replace hm := ho
  clear ho
  refine AF 6 (AG 2 [(31, .bool p2)] H fun fr H => ?_)
  obtain ⟨x6, ho, hm⟩ := bind_some hm
  refine A9 4 (fun fr' h' => Has fr' 49 [(0, .str p0), (1, Ai p1), (35, .bool x6)] ∧ HH g h' [] F) ?_ ?_
  ·rcases AZ ho with ⟨hb, hm⟩ | ⟨hb, hm⟩
   ·replace H := H.kn 31 hb
    obtain ⟨x7, hx, hm⟩ := bind_some hm
    obtain ⟨v1, h5, hr, rfl, A1⟩ := BZ (av := [.str p0, Ai p1, .str ([92] : List UInt8)]) hx (A.cut 0)
    replace A := A.C4 A1
    refine Ap 2 [] 34 hr H fun fr t H => ?_
    refine AG 1 [(35, .bool x7)] H fun fr H => ?_
    obtain rfl := Ag hm
    exact at_nil ⟨H.ls, A⟩
   replace H := H.kn 31 hb
   refine AG 4 [(35, .bool false)] H fun fr H => ?_
   obtain rfl := Ag hm
   exact at_nil ⟨H.ls, A⟩
  clear A
  intro t fr h4 hK
  obtain ⟨H, A⟩ := hK
  refine BD id (Ae 35 H hm (fun hb hm H => ?_) fun hb hm H => ?_)
  ·refine DQ 3 (BV 3 [(0, .str p0), (1, Ai (IntKind.i64.wrap (p1 + 1)))] H fun fr H => at_nil ?_)
   exact .inl ⟨_, rfl, Ag hm, H.ls, A⟩
  exact Fz (.inl ⟨_, rfl, Ag hm, H.ls, A⟩)
 clear ho
 clear A
 intro e fr h6 hQ
 rcases hQ with ⟨x5, rfl, rfl, H, A⟩ | hF
 ·show AW _ _ _ _ _ _ _
  refine AR (AF 4 (AP 4 [(41, .bool (decide (x5 ≥ (p0.length : Int))))] H fun fr H => Ae 41 H hm (fun hb hm H => ?_) fun hb hm H => ?_))
  ·refine AF 3 (AP 3 [(6, Ai (-1)), (7, Ai x5)] H fun fr H => AY ?_)
   obtain ⟨rfl, rfl⟩ := B6 hm
   exact ⟨.inl rfl, _, rH H, rfl, A⟩
  refine CN 8 id ?_
  obtain ⟨x8, hx, hm⟩ := bind_some hm
  refine BA 2 [] 45 (Ab x8) h6 H (fun fr => .of (E5 (by kernel_rfl) hx)) fun fr t H => ?_
  refine AP 5 [(6, Ai (IntKind.i64.wrap x8)), (7, Ai (IntKind.i64.wrap (x5 + 1)))] H fun fr H => AY ?_
  obtain ⟨rfl, rfl⟩ := B6 hm
  exact ⟨.inl rfl, _, rH H, rfl, A⟩
 exact hF.elim
def Ez (p0 : List UInt8) (s : (List UInt8) × Int) : Option (((List UInt8) × Int) ⊕ (((List UInt8)))) :=
 match s with
 | (x1, x2) => Ac (decide (x2 < 256)) (((D7 (IntKind.u8.wrap x2) p0).bind fun x5 => Ac x5 ((TG (IntKind.u8.wrap x2)).bind fun x6 => Ca (decide (x1.length + ([x6] : List UInt8).length ≤ 9223372036854775807)) <| some (x1 ++ ([x6] : List UInt8))) (some x1) : Option (((List UInt8)))).bind fun x4 => some (.inl (x4, IntKind.i64.wrap (x2 + 1)))) (some (.inr x1))
def C8 (p0 : List UInt8) : Option ((List UInt8)) :=
 (loop (Ez p0) (([] : List UInt8), (0 : Int))).bind fun x3 => some x3
theorem Ju {p0 q0} (hm : C8 p0 = some q0) (A : HH g h [] F) (hc : Ba (cfg.still 41) av = [.str p0] := by kernel_rfl) : ∃ v h', Bi cfg g h 41 av v h' ∧ v = .str q0 ∧ HH g h' [] F := by
 refine EN 20 [.tmp 2] hc ?_
 clear hc
 unfold C8 at hm
 refine bg 20 [(0, .str p0)] fun fr H => ?_
 refine AF 1 (B1 1 [] 1 H fun fr H => AP 1 [(3, .str ([] : List UInt8))] H fun fr H => AR (AF 1 (AP 1 [(4, Ai 0)] H fun fr H => Af (id := 0) (by kernel_rfl) ?_)))
 obtain ⟨o1, ho, hm⟩ := bind_some hm
 refine BU (Q' := fun e fr' h' => (∃ x3, e = .exit 0 ∧ x3 = o1 ∧ Has fr' 20 [(3, .str x3)] ∧ HH g h' [] F) ∨ False) ?_ ?_
 ·refine CH (by kernel_rfl) (fun (s : (List UInt8) × Int) fr' h' => ∃ x1 x2, (x1, x2) = s ∧ Has fr' 20 [(0, .str p0), (3, .str x1), (4, Ai x2)] ∧ HH g h' [] F) ho ⟨_, _, rfl, H.ls, A⟩ ?_
  clear ho hm H A
  intro s q fr h1 hI hm
  obtain ⟨x1, x2, rfl, H, A⟩ := hI
  unfold Ez at hm
  refine AR (AF 2 (AP 2 [(6, .bool (decide (x2 < 256)))] H fun fr H => Ae 6 H hm (fun hb hm H => ?_) fun hb hm H => ?_))
  ·refine B0 id (AR ?_)
   obtain ⟨o2, ho, hm⟩ := bind_some hm
   refine BU (Q' := fun e fr' h' => (∃ x4, e = .normal ∧ x4 = o2 ∧ Has fr' 20 [(0, .str p0), (3, .str x4), (4, Ai x2)] ∧ HH g h' [] F) ∨ False) ?_ ?_
   ·replace hm := ho
    clear ho
    refine Af (id := 1) (by kernel_rfl) ?_
    refine AF 4 ?_
    obtain ⟨x5, hx, hm⟩ := bind_some hm
    obtain ⟨v1, h2, hr, rfl, A1⟩ := IP (av := [Ab (IntKind.u8.wrap x2), .str p0]) hx (A.cut 0)
    replace A := A.C4 A1
    refine Ap 3 [] 12 hr H fun fr t H => ?_
    refine BD id (Ae 12 H hm (fun hb hm H => ?_) fun hb hm H => ?_)
    ·refine DQ 7 (AG 3 [(13, .str x1), (15, Ab (IntKind.u8.wrap x2))] H fun fr H => ?_)
     obtain ⟨x6, hx, hm⟩ := bind_some hm
     have hx := Li hx
     rw [hx] at H
     obtain ⟨h3, e1, A⟩ := A.pL 5 [Ab (x6.toNat : Int)]
     refine BP 16 (AH (some h2.size) (([x6] : List UInt8).length)) e1 H fun fr t H => ?_
     refine As 17 (.str ([x6] : List UInt8)) h3 H (fun fr => .of (PI (xs := ([x6] : List UInt8)) A 0 rfl (by kernel_rfl))) fun fr t H => ?_
     obtain ⟨hb, hm⟩ := BE hm
     refine As 18 (.str (x1 ++ ([x6] : List UInt8))) h3 H (fun fr => .of (J9 (by kernel_rfl) hb)) fun fr t H => ?_
     refine BV 1 [(0, .str p0), (3, .str (x1 ++ ([x6] : List UInt8))), (4, Ai x2)] H fun fr H => at_nil ?_
     replace A := A.d0
     exact .inl ⟨_, rfl, Ag hm, H.ls, A⟩
    exact Fz (.inl ⟨_, rfl, Ag hm, H.ls, A⟩)
   clear ho
   clear A
   intro e fr h4 hQ
   rcases hQ with ⟨x4, rfl, rfl, H, A⟩ | hF
   ·show AW _ _ _ _ _ _ _
    refine DQ 3 (BV 3 [(0, .str p0), (3, .str x4), (4, Ai (IntKind.i64.wrap (x2 + 1)))] H fun fr H => at_nil ?_)
    exact nx hm ⟨_, _, rfl, H.ls, A⟩
   exact hF.elim
  refine Bz (i := 0) (by kernel_rfl) ?_
  exact nr hm fun e => .inl ⟨_, rfl, e, H.ls, A⟩
 clear ho
 clear A
 intro e fr h5 hQ
 rcases hQ with ⟨x3, rfl, rfl, H, A⟩ | hF
 ·show AW _ _ _ _ _ _ _
  refine AF 2 (AP 2 [(2, .str x3)] H fun fr H => AY ?_)
  obtain rfl := Ag hm
  exact ⟨.inl rfl, _, rH H, rfl, A⟩
 exact hF.elim
def Cu (p0 : List UInt8) (s : Int) : Option ((Int) ⊕ ((Int))) :=
 match s with
 | x13 => (Ac (decide (x13 < (p0.length : Int))) ((BC p0 x13 ([58, 93] : List UInt8)).bind fun x16 => some (!x16)) (some false) : Option (Bool)).bind fun x15 => Ac x15 (some (.inl (IntKind.i64.wrap (x13 + 1)))) (some (.inr x13))
def CJ (p0 : List UInt8) (p2 : Bool) (x1 : Int) (s : Int × (List UInt8)) : Option ((Int × (List UInt8)) ⊕ ((Int × (List UInt8)) ⊕ (Unit))) :=
 match s with
 | (x7, x8) => Ac (decide (x7 ≥ (p0.length : Int))) (some (.inr (.inr ()))) ((KW p0 x7).bind fun x11 => Ac ((x11 == 93) && (decide (x7 > x1))) (some (.inr (.inl (x7, x8)))) ((BC p0 x7 ([91, 58] : List UInt8)).bind fun x12 => Ac x12 ((loop (Cu p0) (IntKind.i64.wrap (x7 + 2))).bind fun x14 => Ac (decide (x14 ≥ (p0.length : Int))) (some (.inr (.inr ()))) ((HX p0 (some (IntKind.i64.wrap (x7 + 2))) (some x14)).bind fun x17 => (D2 x17).bind fun (x18, x19) => Ac (!x19) (some (.inr (.inr ()))) (Ca (decide (x8.length + x18.length ≤ 9223372036854775807)) <| some (.inl (IntKind.i64.wrap (x14 + 2), x8 ++ x18))))) ((BC p0 x7 ([91, 61] : List UInt8)).bind fun x20 => Ac x20 ((BC p0 (IntKind.i64.wrap (x7 + 3)) ([61, 93] : List UInt8)).bind fun x21 => Ac (!x21) (some (.inr (.inr ()))) ((HX p0 (some (IntKind.i64.wrap (x7 + 2))) (some (IntKind.i64.wrap (x7 + 3)))).bind fun x22 => Ca (decide (x8.length + x22.length ≤ 9223372036854775807)) <| some (.inl (IntKind.i64.wrap (x7 + 5), x8 ++ x22)))) ((Dl p0 x7 p2).bind fun (x23, x24) => Ac (decide (x23 < 0)) (some (.inr (.inr ()))) (((BC p0 x24 ([45] : List UInt8)).bind fun x27 => (Ac x27 ((BC p0 x24 ([45, 93] : List UInt8)).bind fun x29 => some (!x29)) (some false) : Option (Bool)).bind fun x28 => Ac x28 ((BC p0 (IntKind.i64.wrap (x24 + 1)) ([91, 58] : List UInt8)).bind fun x30 => (Ac x30 (some true) ((BC p0 (IntKind.i64.wrap (x24 + 1)) ([91, 61] : List UInt8)).bind fun x32 => some x32) : Option (Bool)).bind fun x31 => Ac x31 (some (.inr ())) ((Dl p0 (IntKind.i64.wrap (x24 + 1)) p2).bind fun (x33, x34) => Ac (decide (x33 < x23)) (some (.inr ())) (some (.inl (x34, x33))))) (some (.inl (x24, x23))) : Option ((Int × Int) ⊕ (Unit))).bind fun o4 => (match o4 with | .inl (x25, x26) => (BJ x23 x26).bind fun x35 => Ca (decide (x8.length + x35.length ≤ 9223372036854775807)) <| some (.inl (x25, x8 ++ x35)) | .inr _ => some (.inr (.inr ()))))))))
def DL (p0 : List UInt8) (p1 : Int) (p2 : Bool) : Option (Ce) :=
 ((BC p0 (IntKind.i64.wrap (p1 + 1)) ([94] : List UInt8)).bind fun x3 => (Ac x3 (some true) ((Ac p2 ((BC p0 (IntKind.i64.wrap (p1 + 1)) ([33] : List UInt8)).bind fun x6 => some x6) (some false) : Option (Bool)).bind fun x5 => some x5) : Option (Bool)).bind fun x4 => Ac x4 (some (IntKind.i64.wrap ((IntKind.i64.wrap (p1 + 1)) + 1), true)) (some (IntKind.i64.wrap (p1 + 1), false)) : Option ((Int × Bool))).bind fun (x1, x2) => (loop (CJ p0 p2 x1) (x1, ([] : List UInt8))).bind fun o2 => (match o2 with | .inl (x9, x10) => Ac x2 ((BJ (0 : Int) (255 : Int)).bind fun x36 => (Cd x36 x10).bind fun x37 => some (⟨x37, IntKind.i64.wrap (x9 + 1), true⟩ : Ce)) ((C8 x10).bind fun x38 => some (⟨x38, IntKind.i64.wrap (x9 + 1), true⟩ : Ce)) | .inr _ => some (⟨([] : List UInt8), (0 : Int), false⟩ : Ce))
theorem KF {p0 p1 p2 q0} (hm : DL p0 p1 p2 = some q0) (A : HH g h [] F) (hc : Ba (cfg.still 16) av = [.str p0, Ai p1, .bool p2] := by kernel_rfl) : ∃ v h', Bi cfg g h 16 av v h' ∧ v = .agg (Hi q0) ∧ HH g h' [] F := by
 refine EN 167 [.cell 6 65] hc ?_
 clear hc
 unfold DL at hm
 refine bg 167 [(0, .str p0), (1, Ai p1), (2, .bool p2)] fun fr H => ?_
 refine AF 1 ?_
 obtain ⟨h1, e1, A⟩ := A.pu (.cells none 2 [.str ([] : List UInt8), Ai 0, .bool false])
 refine BP 6 (.ptr (some (h.size, 0))) e1 H fun fr t H => ?_
 refine CI 3 id (B1 3 [(7, Ai (IntKind.i64.wrap (p1 + 1)))] 1 H fun fr H => AP 1 [(8, .bool false)] H fun fr H => AR ?_)
 obtain ⟨o1, ho, hm⟩ := bind_some hm
 refine BU (Q' := fun e fr' h' => (∃ x1 x2, e = .normal ∧ (x1, x2) = o1 ∧ Has fr' 167 [(0, .str p0), (2, .bool p2), (6, .ptr (some (h.size, 0))), (7, Ai x1), (8, .bool x2)] ∧ HH g h' [.obj h.size (.cells none 2 [.str ([] : List UInt8), Ai 0, .bool false])] F) ∨ False) ?_ ?_
 ·replace hm := ho
  clear ho
  refine AF 11 ?_
  obtain ⟨x3, hx, hm⟩ := bind_some hm
  obtain ⟨v1, h2, hr, rfl, A1⟩ := BZ (av := [.str p0, Ai (IntKind.i64.wrap (p1 + 1)), .str ([94] : List UInt8)]) hx (A.cut 0)
  replace A : HH g h2 [.obj h.size (.cells none 2 [.str ([] : List UInt8), Ai (0 : Int), .bool false])] F := A.Cp (n := 0) A1
  refine Ap 2 [] 21 hr H fun fr t H => ?_
  refine AG 1 [(22, .bool x3)] H fun fr H => ?_
  obtain ⟨x4, ho, hm⟩ := bind_some hm
  refine A9 7 (fun fr' h' => Has fr' 167 [(0, .str p0), (2, .bool p2), (6, .ptr (some (h.size, 0))), (7, Ai (IntKind.i64.wrap (p1 + 1))), (8, .bool false), (29, .bool x4)] ∧ HH g h' [.obj h.size (.cells none 2 [.str ([] : List UInt8), Ai 0, .bool false])] F) ?_ ?_
  ·rcases AZ ho with ⟨hb, hm⟩ | ⟨hb, hm⟩
   ·replace H := H.kn 22 hb
    refine AG 7 [(29, .bool true)] H fun fr H => ?_
    obtain rfl := Ag hm
    exact at_nil ⟨H.ls, A⟩
   replace H := H.kn 22 hb
   refine AG 2 [(24, .bool p2)] H fun fr H => ?_
   obtain ⟨x5, ho, hm⟩ := bind_some hm
   refine A9 4 (fun fr' h' => Has fr' 167 [(0, .str p0), (2, .bool p2), (6, .ptr (some (h.size, 0))), (7, Ai (IntKind.i64.wrap (p1 + 1))), (8, .bool false), (22, .bool false), (28, .bool x5)] ∧ HH g h' [.obj h.size (.cells none 2 [.str ([] : List UInt8), Ai 0, .bool false])] F) ?_ ?_
   ·rcases AZ ho with ⟨hb, hm⟩ | ⟨hb, hm⟩
    ·replace H := H.kn 24 hb
     obtain ⟨x6, hx, hm⟩ := bind_some hm
     obtain ⟨v1, h5, hr, rfl, A1⟩ := BZ (av := [.str p0, Ai (IntKind.i64.wrap (p1 + 1)), .str ([33] : List UInt8)]) hx (A.cut 0)
     replace A := A.C4 A1
     refine Ap 2 [] 27 hr H fun fr t H => ?_
     refine AG 1 [(28, .bool x6)] H fun fr H => ?_
     obtain rfl := Ag hm
     exact at_nil ⟨H.ls, A⟩
    replace H := H.kn 24 hb
    refine AG 4 [(28, .bool false)] H fun fr H => ?_
    obtain rfl := Ag hm
    exact at_nil ⟨H.ls, A⟩
   clear A
   intro t fr h4 hK
   obtain ⟨H, A⟩ := hK
   refine AG 1 [(29, .bool x5)] H fun fr H => ?_
   obtain rfl := Ag hm
   exact at_nil ⟨H.ls, A⟩
  clear A
  intro t fr h3 hK
  obtain ⟨H, A⟩ := hK
  refine BD id (Ae 29 H hm (fun hb hm H => ?_) fun hb hm H => ?_)
  ·refine AF 1 (BV 1 [(0, .str p0), (2, .bool p2), (6, .ptr (some (h.size, 0))), (7, Ai (IntKind.i64.wrap (p1 + 1))), (8, .bool true)] H fun fr H => F4 3 id (BV 3 [(0, .str p0), (2, .bool p2), (6, .ptr (some (h.size, 0))), (7, Ai (IntKind.i64.wrap ((IntKind.i64.wrap (p1 + 1)) + 1))), (8, .bool true)] H fun fr H => at_nil ?_))
   exact .inl ⟨_, _, rfl, Ag hm, H.ls, A⟩
  exact Fz (.inl ⟨_, _, rfl, Ag hm, H.ls, A⟩)
 clear ho
 clear A
 intro e fr h6 hQ
 rcases hQ with ⟨x1, x2, rfl, rfl, H, A⟩ | hF
 ·show AW _ _ _ _ _ _ _
  refine AF 2 (B1 2 [(9, Ai x1)] 1 H fun fr H => AP 1 [(10, .str ([] : List UInt8))] H fun fr H => AR (Af (id := 0) (by kernel_rfl) ?_))
  obtain ⟨o2, ho, hm⟩ := bind_some hm
  refine BU (Q' := fun e fr' h' => (∃ x9 x10, e = .exit 0 ∧ .inl (x9, x10) = o2 ∧ Has fr' 167 [(6, .ptr (some (h.size, 0))), (7, Ai x9), (8, .bool x2), (10, .str x10)] ∧ HH g h' [.obj h.size (.cells none 2 [.str ([] : List UInt8), Ai 0, .bool false])] F) ∨ (e = .ret ∧ .inr () = o2 ∧ Has fr' 167 [(6, .ptr (some (h.size, 0)))] ∧ HH g h' [.obj h.size (.cells none 2 [.str ([] : List UInt8), Ai 0, .bool false])] F) ∨ False) ?_ ?_
  ·refine CH (by kernel_rfl) (fun (s : Int × (List UInt8)) fr' h' => ∃ x7 x8, (x7, x8) = s ∧ Has fr' 167 [(0, .str p0), (2, .bool p2), (6, .ptr (some (h.size, 0))), (7, Ai x7), (8, .bool x2), (9, Ai x1), (10, .str x8)] ∧ HH g h' [.obj h.size (.cells none 2 [.str ([] : List UInt8), Ai 0, .bool false])] F) ho ⟨_, _, rfl, H.ls, A⟩ ?_
   clear ho hm H A
   intro s q fr h7 hI hm
   obtain ⟨x7, x8, rfl, H, A⟩ := hI
   unfold CJ at hm
   refine Af (id := 1) (by kernel_rfl) ?_
   refine AR (AF 4 (AP 4 [(36, .bool (decide (x7 ≥ (p0.length : Int))))] H fun fr H => Ae 36 H hm (fun hb hm H => ?_) fun hb hm H => ?_))
   ·refine AF 2 ?_
    obtain ⟨h8, hx, A⟩ := A.s0 0 [.str ([] : List UInt8), Ai 0, .bool false] [_, _, _]
    refine Dm 1 [] hx H fun fr t H => ?_
    refine BD id (AY ?_)
    exact nr hm fun e => Or.inr (.inl ⟨rfl, e, H.ls, A⟩)
   refine B0 id (AR (AF 9 ?_))
   obtain ⟨x11, hx, hm⟩ := bind_some hm
   refine BA 2 [] 40 (Ab x11) h7 H (fun fr => .of (E5 (by kernel_rfl) hx)) fun fr t H => ?_
   refine AG 2 [(42, .bool (x11 == 93))] H fun fr H => A9 4 (fun fr' h' => h7 = h' ∧ Has fr' 167 [(0, .str p0), (2, .bool p2), (6, .ptr (some (h.size, 0))), (7, Ai x7), (8, .bool x2), (9, Ai x1), (10, .str x8), (46, .bool ((x11 == 93) && (decide (x7 > x1))))]) ?_ ?_
   ·cases hb : (x11 == 93 : Bool) with
    | true =>
     replace H := H.kn 42 hb
     exact AG 4 [(46, .bool (decide (x7 > x1)))] H fun fr H => BK H hb
    | false =>
     replace H := H.kn 42 hb
     exact AG 4 [(46, .bool false)] H fun fr H => BK H hb
   intro t fr h' hK
   obtain ⟨e, H⟩ := hK
   subst e
   refine BD id (Ae 46 H hm (fun hb hm H => ?_) fun hb hm H => ?_)
   ·refine Bz (i := 0) (by kernel_rfl) ?_
    exact nr hm fun e => .inl ⟨_, _, rfl, e, H.ls, A⟩
   refine B0 id (AR (AF 3 ?_))
   obtain ⟨x12, hx, hm⟩ := bind_some hm
   obtain ⟨v1, h9, hr, rfl, A1⟩ := BZ (av := [.str p0, Ai x7, .str ([91, 58] : List UInt8)]) hx (A.cut 0)
   replace A := A.C4 A1
   refine Ap 2 [] 49 hr H fun fr t H => ?_
   refine BD id (Ae 49 H hm (fun hb hm H => ?_) fun hb hm H => ?_)
   ·refine AF 3 (AP 3 [(11, Ai (IntKind.i64.wrap (x7 + 2)))] H fun fr H => AR (Af (id := 2) (by kernel_rfl) ?_))
    obtain ⟨o3, ho, hm⟩ := bind_some hm
    refine BU (Q' := fun e fr' h' => (∃ x14, e = .exit 2 ∧ x14 = o3 ∧ Has fr' 167 [(0, .str p0), (2, .bool p2), (6, .ptr (some (h.size, 0))), (7, Ai x7), (8, .bool x2), (9, Ai x1), (10, .str x8), (11, Ai x14)] ∧ HH g h' [.obj h.size (.cells none 2 [.str ([] : List UInt8), Ai 0, .bool false])] F) ∨ False) ?_ ?_
    ·refine CH (by kernel_rfl) (fun (s : Int) fr' h' => ∃ x13, x13 = s ∧ Has fr' 167 [(0, .str p0), (2, .bool p2), (6, .ptr (some (h.size, 0))), (7, Ai x7), (8, .bool x2), (9, Ai x1), (10, .str x8), (11, Ai x13)] ∧ HH g h' [.obj h.size (.cells none 2 [.str ([] : List UInt8), Ai 0, .bool false])] F) ho ⟨_, rfl, H.ls, A⟩ ?_
     clear ho hm H A
     intro s q fr h10 hI hm
     obtain ⟨x13, rfl, H, A⟩ := hI
     unfold Cu at hm
     refine AR (AF 10 (AG 5 [(56, .bool (decide (x13 < (p0.length : Int))))] H fun fr H => ?_))
     obtain ⟨x15, ho, hm⟩ := bind_some hm
     refine A9 5 (fun fr' h' => Has fr' 167 [(0, .str p0), (2, .bool p2), (6, .ptr (some (h.size, 0))), (7, Ai x7), (8, .bool x2), (9, Ai x1), (10, .str x8), (11, Ai x13), (61, .bool x15)] ∧ HH g h' [.obj h.size (.cells none 2 [.str ([] : List UInt8), Ai 0, .bool false])] F) ?_ ?_
     ·rcases AZ ho with ⟨hb, hm⟩ | ⟨hb, hm⟩
      ·replace H := H.kn 56 hb
       obtain ⟨x16, hx, hm⟩ := bind_some hm
       obtain ⟨v1, h12, hr, rfl, A1⟩ := BZ (av := [.str p0, Ai x13, .str ([58, 93] : List UInt8)]) hx (A.cut 0)
       replace A := A.C4 A1
       refine Ap 2 [] 59 hr H fun fr t H => ?_
       refine AG 2 [(61, .bool (!x16))] H fun fr H => ?_
       obtain rfl := Ag hm
       exact at_nil ⟨H.ls, A⟩
      replace H := H.kn 56 hb
      refine AG 5 [(61, .bool false)] H fun fr H => ?_
      obtain rfl := Ag hm
      exact at_nil ⟨H.ls, A⟩
     clear A
     intro t fr h11 hK
     obtain ⟨H, A⟩ := hK
     refine BD id (Ae 61 H hm (fun hb hm H => ?_) fun hb hm H => ?_)
     ·refine B0 id (Af (id := 3) (by kernel_rfl) ?_)
      refine DQ 3 (BV 3 [(0, .str p0), (2, .bool p2), (6, .ptr (some (h.size, 0))), (7, Ai x7), (8, .bool x2), (9, Ai x1), (10, .str x8), (11, Ai (IntKind.i64.wrap (x13 + 1)))] H fun fr H => at_nil ?_)
      exact nx hm ⟨_, rfl, H.ls, A⟩
     refine Bz (i := 2) (by kernel_rfl) ?_
     exact nr hm fun e => .inl ⟨_, rfl, e, H.ls, A⟩
    clear ho
    clear A
    intro e fr h13 hQ
    rcases hQ with ⟨x14, rfl, rfl, H, A⟩ | hF
    ·show AW _ _ _ _ _ _ _
     refine AR (AF 4 (AP 4 [(67, .bool (decide (x14 ≥ (p0.length : Int))))] H fun fr H => Ae 67 H hm (fun hb hm H => ?_) fun hb hm H => ?_))
     ·refine AF 2 ?_
      obtain ⟨h14, hx, A⟩ := A.s0 0 [.str ([] : List UInt8), Ai 0, .bool false] [_, _, _]
      refine Dm 1 [] hx H fun fr t H => ?_
      refine BD id (AY ?_)
      exact nr hm fun e => Or.inr (.inl ⟨rfl, e, H.ls, A⟩)
     refine CN 11 id ?_
     obtain ⟨x17, hx, hm⟩ := bind_some hm
     refine BA 4 [] 74 (.str x17) h13 H (fun fr => .of (GA (k := .i64) (k' := .i64) (lo := (some (IntKind.i64.wrap (x7 + 2)))) (hi := (some x14)) (by kernel_rfl) hx)) fun fr t H => ?_
     obtain ⟨⟨x18, x19⟩, hx, hm⟩ := bind_some hm
     obtain ⟨v1, h15, hr, rfl, A1⟩ := KE (av := [.str x17]) hx (A.cut 0)
     replace A := A.C4 A1
     refine A8 75 hr H fun fr t H => ?_
     refine AP 5 [(12, .str x18), (13, .bool x19)] H fun fr H => AR (AF 2 (AP 2 [(79, .bool (!x19))] H fun fr H => Ae 79 H hm (fun hb hm H => ?_) fun hb hm H => ?_))
     ·refine AF 2 ?_
      obtain ⟨h16, hx, A⟩ := A.s0 0 [.str ([] : List UInt8), Ai 0, .bool false] [_, _, _]
      refine Dm 1 [] hx H fun fr t H => ?_
      refine BD id (AY ?_)
      exact nr hm fun e => Or.inr (.inl ⟨rfl, e, H.ls, A⟩)
     refine CN 4 id (AG 2 [(81, .str x8), (82, .str x18)] H fun fr H => ?_)
     obtain ⟨hb, hm⟩ := BE hm
     refine As 83 (.str (x8 ++ x18)) h15 H (fun fr => .of (J9 (by kernel_rfl) hb)) fun fr t H => ?_
     refine BV 1 [(0, .str p0), (2, .bool p2), (6, .ptr (some (h.size, 0))), (8, .bool x2), (9, Ai x1), (10, .str (x8 ++ x18)), (11, Ai x14)] H fun fr H => CI 3 id (AP 3 [(7, Ai (IntKind.i64.wrap (x14 + 2)))] H fun fr H => Bz (i := 1) (by kernel_rfl) ?_)
     exact nx hm ⟨_, _, rfl, H.ls, A⟩
    exact hF.elim
   refine B0 id (AR (AF 3 ?_))
   obtain ⟨x20, hx, hm⟩ := bind_some hm
   obtain ⟨v1, h17, hr, rfl, A1⟩ := BZ (av := [.str p0, Ai x7, .str ([91, 61] : List UInt8)]) hx (A.cut 0)
   replace A := A.C4 A1
   refine Ap 2 [] 88 hr H fun fr t H => ?_
   refine BD id (Ae 88 H hm (fun hb hm H => ?_) fun hb hm H => ?_)
   ·refine AR (AF 5 ?_)
    obtain ⟨x21, hx, hm⟩ := bind_some hm
    obtain ⟨v1, h18, hr, rfl, A1⟩ := BZ (av := [.str p0, Ai (IntKind.i64.wrap (x7 + 3)), .str ([61, 93] : List UInt8)]) hx (A.cut 0)
    replace A := A.C4 A1
    refine Ap 3 [] 92 hr H fun fr t H => ?_
    refine AP 1 [(93, .bool (!x21))] H fun fr H => Ae 93 H hm (fun hb hm H => ?_) fun hb hm H => ?_
    ·refine AF 2 ?_
     obtain ⟨h19, hx, A⟩ := A.s0 0 [.str ([] : List UInt8), Ai 0, .bool false] [_, _, _]
     refine Dm 1 [] hx H fun fr t H => ?_
     refine BD id (AY ?_)
     exact nr hm fun e => Or.inr (.inl ⟨rfl, e, H.ls, A⟩)
    refine CN 9 id ?_
    obtain ⟨x22, hx, hm⟩ := bind_some hm
    refine BA 6 [(95, .str x8)] 101 (.str x22) h18 H (fun fr => .of (GA (k := .i64) (k' := .i64) (lo := (some (IntKind.i64.wrap (x7 + 2)))) (hi := (some (IntKind.i64.wrap (x7 + 3)))) (by kernel_rfl) hx)) fun fr t H => ?_
    obtain ⟨hb, hm⟩ := BE hm
    refine As 102 (.str (x8 ++ x22)) h18 H (fun fr => .of (J9 (by kernel_rfl) hb)) fun fr t H => ?_
    refine BV 1 [(0, .str p0), (2, .bool p2), (6, .ptr (some (h.size, 0))), (7, Ai x7), (8, .bool x2), (9, Ai x1), (10, .str (x8 ++ x22))] H fun fr H => CI 3 id (BV 3 [(0, .str p0), (2, .bool p2), (6, .ptr (some (h.size, 0))), (7, Ai (IntKind.i64.wrap (x7 + 5))), (8, .bool x2), (9, Ai x1), (10, .str (x8 ++ x22))] H fun fr H => BD id (Bz (i := 1) (by kernel_rfl) ?_))
    exact nx hm ⟨_, _, rfl, H.ls, A⟩
   refine CN 9 id ?_
   obtain ⟨⟨x23, x24⟩, hx, hm⟩ := bind_some hm
   obtain ⟨v1, h20, hr, rfl, A1⟩ := Hx (av := [.str p0, Ai x7, .bool p2]) hx (A.cut 0)
   replace A := A.C4 A1
   refine Ap 3 [] 109 hr H fun fr t H => ?_
   refine AP 5 [(14, Ai x23), (15, Ai x24)] H fun fr H => AR (AF 2 (AP 2 [(113, .bool (decide (x23 < 0)))] H fun fr H => Ae 113 H hm (fun hb hm H => ?_) fun hb hm H => ?_))
   ·refine AF 2 ?_
    obtain ⟨h21, hx, A⟩ := A.s0 0 [.str ([] : List UInt8), Ai 0, .bool false] [_, _, _]
    refine Dm 1 [] hx H fun fr t H => ?_
    refine BD id (AY ?_)
    exact nr hm fun e => Or.inr (.inl ⟨rfl, e, H.ls, A⟩)
   refine CN 2 id (B1 2 [(16, Ai x23)] 2 H fun fr H => BV 2 [(0, .str p0), (2, .bool p2), (6, .ptr (some (h.size, 0))), (7, Ai x24), (8, .bool x2), (9, Ai x1), (10, .str x8), (14, Ai x23), (16, Ai x23)] H fun fr H => BD id (AR ?_))
   obtain ⟨o4, ho, hm⟩ := bind_some hm
   refine BU (Q' := fun e fr' h' => (∃ x25 x26, e = .normal ∧ .inl (x25, x26) = o4 ∧ Has fr' 167 [(0, .str p0), (2, .bool p2), (6, .ptr (some (h.size, 0))), (7, Ai x25), (8, .bool x2), (9, Ai x1), (10, .str x8), (14, Ai x23), (16, Ai x26)] ∧ HH g h' [.obj h.size (.cells none 2 [.str ([] : List UInt8), Ai 0, .bool false])] F) ∨ (e = .ret ∧ .inr () = o4 ∧ Has fr' 167 [(6, .ptr (some (h.size, 0)))] ∧ HH g h' [.obj h.size (.cells none 2 [.str ([] : List UInt8), Ai 0, .bool false])] F) ∨ False) ?_ ?_
   ·replace hm := ho
    clear ho
    refine AF 9 ?_
    obtain ⟨x27, hx, hm⟩ := bind_some hm
    obtain ⟨v1, h22, hr, rfl, A1⟩ := BZ (av := [.str p0, Ai x24, .str ([45] : List UInt8)]) hx (A.cut 0)
    replace A := A.C4 A1
    refine Ap 2 [] 119 hr H fun fr t H => ?_
    refine AG 1 [(120, .bool x27)] H fun fr H => ?_
    obtain ⟨x28, ho, hm⟩ := bind_some hm
    refine A9 5 (fun fr' h' => Has fr' 167 [(0, .str p0), (2, .bool p2), (6, .ptr (some (h.size, 0))), (7, Ai x24), (8, .bool x2), (9, Ai x1), (10, .str x8), (14, Ai x23), (16, Ai x23), (125, .bool x28)] ∧ HH g h' [.obj h.size (.cells none 2 [.str ([] : List UInt8), Ai 0, .bool false])] F) ?_ ?_
    ·rcases AZ ho with ⟨hb, hm⟩ | ⟨hb, hm⟩
     ·replace H := H.kn 120 hb
      obtain ⟨x29, hx, hm⟩ := bind_some hm
      obtain ⟨v1, h24, hr, rfl, A1⟩ := BZ (av := [.str p0, Ai x24, .str ([45, 93] : List UInt8)]) hx (A.cut 0)
      replace A := A.C4 A1
      refine Ap 2 [] 123 hr H fun fr t H => ?_
      refine AG 2 [(125, .bool (!x29))] H fun fr H => ?_
      obtain rfl := Ag hm
      exact at_nil ⟨H.ls, A⟩
     replace H := H.kn 120 hb
     refine AG 5 [(125, .bool false)] H fun fr H => ?_
     obtain rfl := Ag hm
     exact at_nil ⟨H.ls, A⟩
    clear A
    intro t fr h23 hK
    obtain ⟨H, A⟩ := hK
    refine BD id (Ae 125 H hm (fun hb hm H => ?_) fun hb hm H => ?_)
    ·refine AR (AF 10 ?_)
     obtain ⟨x30, hx, hm⟩ := bind_some hm
     obtain ⟨v1, h25, hr, rfl, A1⟩ := BZ (av := [.str p0, Ai (IntKind.i64.wrap (x24 + 1)), .str ([91, 58] : List UInt8)]) hx (A.cut 0)
     replace A := A.C4 A1
     refine Ap 3 [] 129 hr H fun fr t H => ?_
     refine AG 1 [(130, .bool x30)] H fun fr H => ?_
     obtain ⟨x31, ho, hm⟩ := bind_some hm
     refine A9 5 (fun fr' h' => Has fr' 167 [(0, .str p0), (2, .bool p2), (6, .ptr (some (h.size, 0))), (7, Ai x24), (8, .bool x2), (9, Ai x1), (10, .str x8), (14, Ai x23), (135, .bool x31)] ∧ HH g h' [.obj h.size (.cells none 2 [.str ([] : List UInt8), Ai 0, .bool false])] F) ?_ ?_
     ·rcases AZ ho with ⟨hb, hm⟩ | ⟨hb, hm⟩
      ·replace H := H.kn 130 hb
       refine AG 5 [(135, .bool true)] H fun fr H => ?_
       obtain rfl := Ag hm
       exact at_nil ⟨H.ls, A⟩
      replace H := H.kn 130 hb
      obtain ⟨x32, hx, hm⟩ := bind_some hm
      obtain ⟨v1, h27, hr, rfl, A1⟩ := BZ (av := [.str p0, Ai (IntKind.i64.wrap (x24 + 1)), .str ([91, 61] : List UInt8)]) hx (A.cut 0)
      replace A := A.C4 A1
      refine Ap 3 [] 134 hr H fun fr t H => ?_
      refine AG 1 [(135, .bool x32)] H fun fr H => ?_
      obtain rfl := Ag hm
      exact at_nil ⟨H.ls, A⟩
     clear A
     intro t fr h26 hK
     obtain ⟨H, A⟩ := hK
     refine BD id (Ae 135 H hm (fun hb hm H => ?_) fun hb hm H => ?_)
     ·refine AF 2 ?_
      obtain ⟨h28, hx, A⟩ := A.s0 0 [.str ([] : List UInt8), Ai 0, .bool false] [_, _, _]
      refine Dm 1 [] hx H fun fr t H => ?_
      refine BD id (AY ?_)
      exact .inr (.inl ⟨rfl, Ag hm, H.ls, A⟩)
     refine CN 10 id ?_
     obtain ⟨⟨x33, x34⟩, hx, hm⟩ := bind_some hm
     obtain ⟨v1, h29, hr, rfl, A1⟩ := Hx (av := [.str p0, Ai (IntKind.i64.wrap (x24 + 1)), .bool p2]) hx (A.cut 0)
     replace A := A.C4 A1
     refine Ap 4 [] 142 hr H fun fr t H => ?_
     refine AP 5 [(15, Ai x34), (16, Ai x33)] H fun fr H => AR (AF 3 (AP 3 [(147, .bool (decide (x33 < x23)))] H fun fr H => Ae 147 H hm (fun hb hm H => ?_) fun hb hm H => ?_))
     ·refine AF 2 ?_
      obtain ⟨h30, hx, A⟩ := A.s0 0 [.str ([] : List UInt8), Ai 0, .bool false] [_, _, _]
      refine Dm 1 [] hx H fun fr t H => ?_
      refine BD id (AY ?_)
      exact .inr (.inl ⟨rfl, Ag hm, H.ls, A⟩)
     refine F3 2 id (BV 2 [(0, .str p0), (2, .bool p2), (6, .ptr (some (h.size, 0))), (7, Ai x34), (8, .bool x2), (9, Ai x1), (10, .str x8), (14, Ai x23), (16, Ai x33)] H fun fr H => at_nil ?_)
     exact .inl ⟨_, _, rfl, Ag hm, H.ls, A⟩
    exact Fz (.inl ⟨_, _, rfl, Ag hm, H.ls, A⟩)
   clear ho
   clear A
   intro e fr h31 hQ
   rcases hQ with ⟨x25, x26, rfl, rfl, H, A⟩ | ⟨rfl, rfl, H, A⟩ | hF
   ·show AW _ _ _ _ _ _ _
    refine DQ 6 ?_
    obtain ⟨x35, hx, hm⟩ := bind_some hm
    obtain ⟨v1, h32, hr, rfl, A1⟩ := B5 (av := [Ai x23, Ai x26]) hx (A.cut 0)
    replace A := A.C4 A1
    refine Ap 3 [(150, .str x8)] 153 hr H fun fr t H => ?_
    obtain ⟨hb, hm⟩ := BE hm
    refine As 154 (.str (x8 ++ x35)) h32 H (fun fr => .of (J9 (by kernel_rfl) hb)) fun fr t H => ?_
    refine BV 1 [(0, .str p0), (2, .bool p2), (6, .ptr (some (h.size, 0))), (7, Ai x25), (8, .bool x2), (9, Ai x1), (10, .str (x8 ++ x35))] H fun fr H => at_nil ?_
    exact nx hm ⟨_, _, rfl, H.ls, A⟩
   ·exact nr hm fun e => Or.inr (.inl ⟨rfl, e, H.ls, A⟩)
   exact hF.elim
  clear ho
  clear A
  intro e fr h33 hQ
  rcases hQ with ⟨x9, x10, rfl, rfl, H, A⟩ | ⟨rfl, rfl, H, A⟩ | hF
  ·show AW _ _ _ _ _ _ _
   refine AR (AF 1 (AP 1 [(155, .bool x2)] H fun fr H => Ae 155 H hm (fun hb hm H => ?_) fun hb hm H => ?_))
   ·refine AF 7 ?_
    obtain ⟨x36, hx, hm⟩ := bind_some hm
    obtain ⟨v1, h34, hr, rfl, A1⟩ := B5 (av := [Ai 0, Ai 255]) hx (A.cut 0)
    replace A := A.C4 A1
    refine A8 156 hr H fun fr t H => ?_
    obtain ⟨x37, hx, hm⟩ := bind_some hm
    obtain ⟨v1, h35, hr, rfl, A1⟩ := GZ (av := [.str x36, .str x10]) hx (A.cut 0)
    replace A := A.C4 A1
    refine Ap 1 [] 158 hr H fun fr t H => ?_
    obtain ⟨h36, hx, A⟩ := A.s0 0 [.str x37, Ai (IntKind.i64.wrap (x9 + 1)), .bool true] [_, _, _]
    refine Dm 3 [] hx H fun fr t H => ?_
    refine BD id (AY ?_)
    obtain rfl := Ag hm
    refine ⟨.inl rfl, .agg [.str x37, Ai (IntKind.i64.wrap (x9 + 1)), .bool true], CS (.cell (rT H) (BL (by kernel_rfl) (by kernel_rfl) (A.la 0 0 3)) .nil), ?_⟩
    replace A := A.d0
    exact ⟨rfl, A⟩
   refine CN 6 id ?_
   obtain ⟨x38, hx, hm⟩ := bind_some hm
   obtain ⟨v1, h37, hr, rfl, A1⟩ := Ju (av := [.str x10]) hx (A.cut 0)
   replace A := A.C4 A1
   refine Ap 1 [] 163 hr H fun fr t H => ?_
   obtain ⟨h38, hx, A⟩ := A.s0 0 [.str x38, Ai (IntKind.i64.wrap (x9 + 1)), .bool true] [_, _, _]
   refine Dm 3 [] hx H fun fr t H => ?_
   refine BD id (AY ?_)
   obtain rfl := Ag hm
   refine ⟨.inl rfl, .agg [.str x38, Ai (IntKind.i64.wrap (x9 + 1)), .bool true], CS (.cell (rT H) (BL (by kernel_rfl) (by kernel_rfl) (A.la 0 0 3)) .nil), ?_⟩
   replace A := A.d0
   exact ⟨rfl, A⟩
  ·obtain rfl := Ag hm
   refine ⟨.inl rfl, .agg [.str ([] : List UInt8), Ai 0, .bool false], CS (.cell (rT H) (BL (by kernel_rfl) (by kernel_rfl) (A.la 0 0 3)) .nil), ?_⟩
   replace A := A.d0
   exact ⟨rfl, A⟩
  exact hF.elim
 exact hF.elim
def Ax (p0 : List UInt8) (s : (List AI) × Int) : Option (((List AI) × Int) ⊕ (((List AI)) ⊕ (Int × Int))) :=
 match s with
 | (x1, x2) => Ac (decide (x2 < (p0.length : Int))) (Ac (decide ((x1.length : Int) ≥ 1024)) (some (.inr (.inr (x2, (8 : Int))))) ((KW p0 x2).bind fun x6 => (Ac (x6 == 42) (Ca (Lw 32 (x1.length + ([(⟨(4 : Int), (0 : Int), ([] : List UInt8)⟩ : AI)] : List AI).length)) <| some (.inl ((x1 ++ ([(⟨(4 : Int), (0 : Int), ([] : List UInt8)⟩ : AI)] : List AI)), x2))) (Ac (x6 == 63) (Ca (Lw 32 (x1.length + ([(⟨(2 : Int), (0 : Int), ([] : List UInt8)⟩ : AI)] : List AI).length)) <| some (.inl ((x1 ++ ([(⟨(2 : Int), (0 : Int), ([] : List UInt8)⟩ : AI)] : List AI)), x2))) (Ac (x6 == 91) ((DL p0 x2 true).bind fun x11 => Ac (!x11.Ok) (some (.inr (x2, (11 : Int)))) (Ca (Lw 32 (x1.length + ([(⟨(3 : Int), (0 : Int), x11.S⟩ : AI)] : List AI).length)) <| some (.inl ((x1 ++ ([(⟨(3 : Int), (0 : Int), x11.S⟩ : AI)] : List AI)), IntKind.i64.wrap (x11.At - 1))))) ((Ac (x6 == 92) (Ac (decide ((IntKind.i64.wrap (x2 + 1)) ≥ (p0.length : Int))) (some (.inr (x2, (11 : Int)))) (some (.inl (IntKind.i64.wrap (x2 + 1))))) (some (.inl x2)) : Option ((Int) ⊕ (Int × Int))).bind fun o3 => (match o3 with | .inl x12 => (KW p0 x12).bind fun x15 => Ca (Lw 32 (x1.length + ([(⟨(1 : Int), x15, ([] : List UInt8)⟩ : AI)] : List AI).length)) <| some (.inl ((x1 ++ ([(⟨(1 : Int), x15, ([] : List UInt8)⟩ : AI)] : List AI)), x12)) | .inr (x13, x14) => some (.inr (x13, x14)))))) : Option (((List AI) × Int) ⊕ (Int × Int))).bind fun o2 => (match o2 with | .inl (x7, x8) => some (.inl (x7, IntKind.i64.wrap (x8 + 1))) | .inr (x9, x10) => some (.inr (.inr (x9, x10)))))) (some (.inr (.inl x1)))
def CB (p0 : List UInt8) : Option ((List AI) × Int × Int) :=
 (loop (Ax p0) (([] : List AI), (0 : Int))).bind fun o1 => (match o1 with | .inl x3 => some (x3, (0 : Int), (0 : Int)) | .inr (x4, x5) => some (([] : List AI), x4, x5))
theorem HC {p0 q0 q1 q2} (hm : CB p0 = some (q0, q1, q2)) (A : HH g h [] F) (hc : Ba (cfg.still 8) av = [.str p0] := by kernel_rfl) : ∃ v h', Bi cfg g h 8 av v h' ∧ ∃ (rq0 : Option Nat), v = .tuple [AH rq0 q0.length, Ai q1, Ai q2] ∧ HH g h' [.AK rq0 63 (AK Bg q0)] F := by
 refine EN 71 [.tmp 2, .tmp 3, .tmp 4] hc ?_
 clear hc
 unfold CB at hm
 refine bg 71 [(0, .str p0)] fun fr H => ?_
 refine AF 3 (B1 3 [] 2 H fun fr H => ?_)
 obtain ⟨h1, e1, A⟩ := A.pL 63 []
 refine BP 9 (AH (some h.size) (([] : List AI).length)) e1 H fun fr t H => ?_
 refine B1 1 [(5, AH (some h.size) (([] : List AI).length))] 1 H fun fr H => AP 1 [(6, Ai 0)] H fun fr H => AR (Af (id := 0) (by kernel_rfl) ?_)
 replace A : HH g h1 [.AK (some h.size) 63 (AK Bg ([] : List AI))] F := A
 obtain ⟨o1, ho, hm⟩ := bind_some hm
 refine BU (Q' := fun e fr' h' => (∃ x3, e = .exit 0 ∧ .inl x3 = o1 ∧ ∃ r2, Has fr' 71 [(5, AH r2 x3.length)] ∧ HH g h' [.AK r2 63 (AK Bg x3)] F) ∨ (∃ x4 x5, e = .ret ∧ .inr (x4, x5) = o1 ∧ Has fr' 71 [(2, .slice none 0), (3, Ai x4), (4, Ai x5)] ∧ HH g h' [] F) ∨ False) ?_ ?_
 ·refine CH (by kernel_rfl) (fun (s : (List AI) × Int) fr' h' => ∃ x1 x2, (x1, x2) = s ∧ ∃ r1, Has fr' 71 [(0, .str p0), (5, AH r1 x1.length), (6, Ai x2)] ∧ HH g h' [.AK r1 63 (AK Bg x1)] F) ho ⟨_, _, rfl, some h.size, H.ls, A⟩ ?_
  clear ho hm H A
  intro s q fr h2 hI hm
  obtain ⟨x1, x2, rfl, r1, H, A⟩ := hI
  unfold Ax at hm
  refine AR (AF 4 (AP 4 [(13, .bool (decide (x2 < (p0.length : Int))))] H fun fr H => Ae 13 H hm (fun hb hm H => ?_) fun hb hm H => ?_))
  ·refine B0 id (Af (id := 1) (by kernel_rfl) ?_)
   refine AR (AF 3 (AP 3 [(16, .bool (decide ((x1.length : Int) ≥ 1024)))] H fun fr H => Ae 16 H hm (fun hb hm H => ?_) fun hb hm H => ?_))
   ·refine AF 4 (AP 4 [(2, .slice none 0), (3, Ai x2), (4, Ai 8)] H fun fr H => AY ?_)
    replace A := A.d0
    exact nr hm fun e => Or.inr (.inl ⟨_, _, rfl, e, H.ls, A⟩)
   refine CN 4 id ?_
   obtain ⟨x6, hx, hm⟩ := bind_some hm
   refine BA 2 [] 20 (Ab x6) h2 H (fun fr => .of (E5 (by kernel_rfl) hx)) fun fr t H => ?_
   refine AP 1 [(7, Ab x6)] H fun fr H => AR ?_
   obtain ⟨o2, ho, hm⟩ := bind_some hm
   refine BU (Q' := fun e fr' h' => (∃ x7 x8, e = .normal ∧ .inl (x7, x8) = o2 ∧ ∃ r3, Has fr' 71 [(0, .str p0), (5, AH r3 x7.length), (6, Ai x8)] ∧ HH g h' [.AK r3 63 (AK Bg x7)] F) ∨ (∃ x9 x10, e = .ret ∧ .inr (x9, x10) = o2 ∧ Has fr' 71 [(2, .slice none 0), (3, Ai x9), (4, Ai x10)] ∧ HH g h' [] F) ∨ False) ?_ ?_
   ·replace hm := ho
    clear ho
    refine AF 2 (AP 2 [(22, .bool (x6 == 42))] H fun fr H => Ae 22 H hm (fun hb hm H => ?_) fun hb hm H => ?_)
    ·refine DQ 5 (AG 2 [(23, AH r1 x1.length), (24, .agg [Ai 4, Ab 0, .str ([] : List UInt8)])] H fun fr H => ?_)
     obtain ⟨h3, e2, A⟩ := A.pL 63 [Ai 4, Ab 0, .str ([] : List UInt8)]
     refine BP 25 (AH (some h2.size) (([(⟨(4 : Int), (0 : Int), ([] : List UInt8)⟩ : AI)] : List AI).length)) e2 H fun fr t H => ?_
     obtain ⟨hb, hm⟩ := BE hm
     obtain ⟨r4, h4, hx, A1⟩ := HH.J2 Du (by decide) A 1 (xs := x1) (ys := ([(⟨(4 : Int), (0 : Int), ([] : List UInt8)⟩ : AI)] : List AI)) rfl (Cl A 0 rfl (n := ([(⟨(4 : Int), (0 : Int), ([] : List UInt8)⟩ : AI)] : List AI).length) (z := 3) rfl (by decide)) rfl rfl hb
     replace A : HH g h4 [.AK (some h2.size) 63 ([Ai 4, Ab 0, .str ([] : List UInt8)]), .AK r4 63 (AK Bg (x1 ++ ([(⟨(4 : Int), (0 : Int), ([] : List UInt8)⟩ : AI)] : List AI)))] F := A1
     replace A := A.k1 1
     refine As 26 _ _ H (fun fr => .of (G3 (s := De r1 x1.length) (by kernel_rfl) hx)) fun fr t H => ?_
     refine BV 1 [(0, .str p0), (5, AH r4 ((x1 ++ ([(⟨(4 : Int), (0 : Int), ([] : List UInt8)⟩ : AI)] : List AI)).length)), (6, Ai x2)] H fun fr H => at_nil ?_
     exact .inl ⟨_, _, rfl, Ag hm, _, H.ls, A⟩
    refine AF 2 (AP 2 [(28, .bool (x6 == 63))] H fun fr H => Ae 28 H hm (fun hb hm H => ?_) fun hb hm H => ?_)
    ·refine DQ 5 (AG 2 [(29, AH r1 x1.length), (30, .agg [Ai 2, Ab 0, .str ([] : List UInt8)])] H fun fr H => ?_)
     obtain ⟨h5, e3, A⟩ := A.pL 63 [Ai 2, Ab 0, .str ([] : List UInt8)]
     refine BP 31 (AH (some h2.size) (([(⟨(2 : Int), (0 : Int), ([] : List UInt8)⟩ : AI)] : List AI).length)) e3 H fun fr t H => ?_
     obtain ⟨hb, hm⟩ := BE hm
     obtain ⟨r5, h6, hx, A1⟩ := HH.J2 Du (by decide) A 1 (xs := x1) (ys := ([(⟨(2 : Int), (0 : Int), ([] : List UInt8)⟩ : AI)] : List AI)) rfl (Cl A 0 rfl (n := ([(⟨(2 : Int), (0 : Int), ([] : List UInt8)⟩ : AI)] : List AI).length) (z := 3) rfl (by decide)) rfl rfl hb
     replace A : HH g h6 [.AK (some h2.size) 63 ([Ai 2, Ab 0, .str ([] : List UInt8)]), .AK r5 63 (AK Bg (x1 ++ ([(⟨(2 : Int), (0 : Int), ([] : List UInt8)⟩ : AI)] : List AI)))] F := A1
     replace A := A.k1 1
     refine As 32 _ _ H (fun fr => .of (G3 (s := De r1 x1.length) (by kernel_rfl) hx)) fun fr t H => ?_
     refine BV 1 [(0, .str p0), (5, AH r5 ((x1 ++ ([(⟨(2 : Int), (0 : Int), ([] : List UInt8)⟩ : AI)] : List AI)).length)), (6, Ai x2)] H fun fr H => at_nil ?_
     exact .inl ⟨_, _, rfl, Ag hm, _, H.ls, A⟩
    refine AF 2 (AP 2 [(34, .bool (x6 == 91))] H fun fr H => Ae 34 H hm (fun hb hm H => ?_) fun hb hm H => ?_)
    ·refine AF 5 ?_
     obtain ⟨x11, hx, hm⟩ := bind_some hm
     obtain ⟨v1, h7, hr, rfl, A1⟩ := KF (av := [.str p0, Ai x2, .bool true]) hx (A.cut 0)
     replace A := A.C4 A1
     refine Ap 2 [] 37 hr H fun fr t H => ?_
     obtain ⟨h8, e4, A⟩ := A.pu (.cells none 2 [.str ([] : List UInt8), Ai 0, .bool false])
     refine BP 8 (.ptr (some (h7.size, 0))) e4 H fun fr t H => ?_
     obtain ⟨h9, hx, A⟩ := A.s0 0 (Hi x11) [_, _, _]
     refine Cy hx H fun fr t H => ?_
     refine BD id (AR (AF 3 (Ah 1 [] 39 0 2 A H fun fr t H => ?_)))
     refine AP 1 [(40, .bool (!x11.Ok))] H fun fr H => Ae 40 H hm (fun hb hm H => ?_) fun hb hm H => ?_
     ·refine AF 4 (AP 4 [(2, .slice none 0), (3, Ai x2), (4, Ai 11)] H fun fr H => AY ?_)
      replace A := A.d0
      exact .inr (.inl ⟨_, _, rfl, Ag hm, H.ls, A⟩)
     refine CN 7 id (Ah 2 [(42, AH r1 x1.length)] 44 0 0 A H fun fr t H => ?_)
     refine AG 1 [(45, .agg [Ai 3, Ab 0, .str x11.S])] H fun fr H => ?_
     obtain ⟨h10, e5, A⟩ := A.pL 63 [Ai 3, Ab 0, .str x11.S]
     refine BP 46 (AH (some h9.size) (([(⟨(3 : Int), (0 : Int), x11.S⟩ : AI)] : List AI).length)) e5 H fun fr t H => ?_
     obtain ⟨hb, hm⟩ := BE hm
     obtain ⟨r6, h11, hx, A1⟩ := HH.J2 Du (by decide) A 2 (xs := x1) (ys := ([(⟨(3 : Int), (0 : Int), x11.S⟩ : AI)] : List AI)) rfl (Cl A 0 rfl (n := ([(⟨(3 : Int), (0 : Int), x11.S⟩ : AI)] : List AI).length) (z := 3) rfl (by decide)) rfl rfl hb
     replace A : HH g h11 [.AK (some h9.size) 63 ([Ai 3, Ab 0, .str x11.S]), _, .AK r6 63 (AK Bg (x1 ++ ([(⟨(3 : Int), (0 : Int), x11.S⟩ : AI)] : List AI)))] F := A1
     replace A := A.k2 1 2
     refine As 47 _ _ H (fun fr => .of (G3 (s := De r1 x1.length) (by kernel_rfl) hx)) fun fr t H => ?_
     refine BV 1 [(0, .str p0), (5, AH r6 ((x1 ++ ([(⟨(3 : Int), (0 : Int), x11.S⟩ : AI)] : List AI)).length)), (8, .ptr (some (h7.size, 0)))] H fun fr H => F4 4 id (Ah 1 [] 49 0 1 A H fun fr t H => ?_)
     refine AG 2 [(6, Ai (IntKind.i64.wrap (x11.At - 1)))] H fun fr H => at_nil ?_
     replace A := A.k1 1
     exact .inl ⟨_, _, rfl, Ag hm, _, H.ls, A⟩
    refine AR ?_
    obtain ⟨o3, ho, hm⟩ := bind_some hm
    refine BU (Q' := fun e fr' h' => (∃ x12, e = .normal ∧ .inl x12 = o3 ∧ Has fr' 71 [(0, .str p0), (5, AH r1 x1.length), (6, Ai x12)] ∧ HH g h' [.AK r1 63 (AK Bg x1)] F) ∨ (∃ x13 x14, e = .ret ∧ .inr (x13, x14) = o3 ∧ Has fr' 71 [(2, .slice none 0), (3, Ai x13), (4, Ai x14)] ∧ HH g h' [] F) ∨ False) ?_ ?_
    ·replace hm := ho
     clear ho
     refine AF 2 (AP 2 [(52, .bool (x6 == 92))] H fun fr H => Ae 52 H hm (fun hb hm H => ?_) fun hb hm H => ?_)
     ·refine AR (AF 5 (AP 5 [(57, .bool (decide ((IntKind.i64.wrap (x2 + 1)) ≥ (p0.length : Int))))] H fun fr H => Ae 57 H hm (fun hb hm H => ?_) fun hb hm H => ?_))
      ·refine AF 4 (AP 4 [(2, .slice none 0), (3, Ai x2), (4, Ai 11)] H fun fr H => AY ?_)
       replace A := A.d0
       exact .inr (.inl ⟨_, _, rfl, Ag hm, H.ls, A⟩)
      refine F3 3 id (BV 3 [(0, .str p0), (5, AH r1 x1.length), (6, Ai (IntKind.i64.wrap (x2 + 1)))] H fun fr H => at_nil ?_)
      exact .inl ⟨_, rfl, Ag hm, H.ls, A⟩
     exact Fz (.inl ⟨_, rfl, Ag hm, H.ls, A⟩)
    clear ho
    clear A
    intro e fr h12 hQ
    rcases hQ with ⟨x12, rfl, rfl, H, A⟩ | ⟨x13, x14, rfl, rfl, H, A⟩ | hF
    ·show AW _ _ _ _ _ _ _
     refine DQ 8 ?_
     obtain ⟨x15, hx, hm⟩ := bind_some hm
     refine BA 3 [(61, AH r1 x1.length)] 64 (Ab x15) h12 H (fun fr => .of (E5 (by kernel_rfl) hx)) fun fr t H => ?_
     refine AG 1 [(65, .agg [Ai 1, Ab x15, .str ([] : List UInt8)])] H fun fr H => ?_
     obtain ⟨h13, e6, A⟩ := A.pL 63 [Ai 1, Ab x15, .str ([] : List UInt8)]
     refine BP 66 (AH (some h12.size) (([(⟨(1 : Int), x15, ([] : List UInt8)⟩ : AI)] : List AI).length)) e6 H fun fr t H => ?_
     obtain ⟨hb, hm⟩ := BE hm
     obtain ⟨r7, h14, hx, A1⟩ := HH.J2 Du (by decide) A 1 (xs := x1) (ys := ([(⟨(1 : Int), x15, ([] : List UInt8)⟩ : AI)] : List AI)) rfl (Cl A 0 rfl (n := ([(⟨(1 : Int), x15, ([] : List UInt8)⟩ : AI)] : List AI).length) (z := 3) rfl (by decide)) rfl rfl hb
     replace A : HH g h14 [.AK (some h12.size) 63 ([Ai 1, Ab x15, .str ([] : List UInt8)]), .AK r7 63 (AK Bg (x1 ++ ([(⟨(1 : Int), x15, ([] : List UInt8)⟩ : AI)] : List AI)))] F := A1
     replace A := A.k1 1
     refine As 67 _ _ H (fun fr => .of (G3 (s := De r1 x1.length) (by kernel_rfl) hx)) fun fr t H => ?_
     refine BV 1 [(0, .str p0), (5, AH r7 ((x1 ++ ([(⟨(1 : Int), x15, ([] : List UInt8)⟩ : AI)] : List AI)).length)), (6, Ai x12)] H fun fr H => at_nil ?_
     exact .inl ⟨_, _, rfl, Ag hm, _, H.ls, A⟩
    ·exact .inr (.inl ⟨_, _, rfl, Ag hm, H.ls, A⟩)
    exact hF.elim
   clear ho
   clear A
   intro e fr h15 hQ
   rcases hQ with ⟨x7, x8, rfl, rfl, r3, H, A⟩ | ⟨x9, x10, rfl, rfl, H, A⟩ | hF
   ·show AW _ _ _ _ _ _ _
    refine DQ 3 (BV 3 [(0, .str p0), (5, AH r3 x7.length), (6, Ai (IntKind.i64.wrap (x8 + 1)))] H fun fr H => at_nil ?_)
    exact nx hm ⟨_, _, rfl, _, H.ls, A⟩
   ·exact nr hm fun e => Or.inr (.inl ⟨_, _, rfl, e, H.ls, A⟩)
   exact hF.elim
  refine Bz (i := 0) (by kernel_rfl) ?_
  exact nr hm fun e => .inl ⟨_, rfl, e, _, H.ls, A⟩
 clear ho
 clear A
 intro e fr h16 hQ
 rcases hQ with ⟨x3, rfl, rfl, r2, H, A⟩ | ⟨x4, x5, rfl, rfl, H, A⟩ | hF
 ·show AW _ _ _ _ _ _ _
  refine AF 4 (AP 4 [(2, AH r2 x3.length), (3, Ai 0), (4, Ai 0)] H fun fr H => AY ?_)
  obtain ⟨rfl, rfl, rfl⟩ := Ho hm
  exact ⟨.inl rfl, _, rH H, _, rfl, A⟩
 ·obtain ⟨rfl, rfl, rfl⟩ := Ho hm
  refine ⟨.inl rfl, .tuple [.slice none 0, Ai x4, Ai x5], rH H, ?_⟩
  replace A : HH g h16 [.AK none 63 (AK Bg ([] : List AI))] F := A.KI 63
  exact ⟨none, rfl, A⟩
 exact hF.elim
end
end Go.Av.L
