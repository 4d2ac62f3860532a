/-
 Models of functions, and that the abstract run tells them. Written by lift2.py.
-/
import Derived.Test.YthnnciphldbmeaaGreatDoorKCfg
import Derived.Test.YthnnciphldbmeaaGreatDoorK0
import Derived.Test.YthnnciphldbmeaaGreatDoorK5
import Derived.Test.YthnnciphldbmeaaGreatDoorK7
import Derived.Test.YthnnciphldbmeaaGreatDoorK8
namespace Go.Av.L
open Go.Av Go.Lib
set_option maxRecDepth 10000
set_option maxHeartbeats 4000000
set_option linter.unusedVariables false
set_option linter.unusedSimpArgs false
variable {g : Gd} {h : AM} {F : List Ck} {av : List AD}
noncomputable section
def Cg (p0 : List AK) (p1 : List AK) (s : Int) : Option ((Int) ⊕ ((Unit) ⊕ (Bool))) :=
 match s with
 | x1 => Af (decide (x1 < (p0.length : Int))) ((GP p0 x1).bind fun x3 => (GP p1 x1).bind fun x4 => (EC x3 x4).bind fun x5 => Af (!x5) (some (.inr (.inr false))) (some (.inl (IntKind.i64.wrap (x1 + 1))))) (some (.inr (.inl ())))
def DL (p0 : List AK) (p1 : List AK) : Option (Bool) :=
 Af ((p0.length : Int) != (p1.length : Int)) (some false) ((loop (Cg p0 p1) (0 : Int)).bind fun o1 => (match o1 with | .inl _ => some true | .inr x2 => some x2))
theorem Jb {p0 p1 rp0 q0} (hm : DL p0 p1 = some q0) (A : HH g h [.AL rp0 44 (AL AA p0)] F) (hc : BH (cfg.still 20) av = [AF rp0 p0.length, vs AA p1] := by kernel_rfl) : ∃ v h', BN cfg g h 20 av v h' ∧ v = .bool q0 ∧ HH g h' [.AL rp0 44 (AL AA p0)] F := by
 refine Dr 27 [.tmp 4] hc ?_
 clear hc
 unfold DL at hm
 refine bg 27 [(0, AF rp0 p0.length), (1, vs AA p1)] fun fr H => ?_
 refine AH 1 (AP 1 [] H fun fr H => AV (AH 5 (AP 5 [(10, .bool ((p0.length : Int) != (p1.length : Int)))] H fun fr H => Ak 10 H hm (fun hb hm H => ?_) fun hb hm H => ?_)))
 ·refine AH 1 (AP 1 [(4, .bool false)] H fun fr H => AY ?_)
  obtain rfl := Ag hm
  exact ⟨.inl rfl, _, rH H, rfl, A⟩
 refine Br id (AV (AH 1 (AP 1 [(5, Ai 0)] H fun fr H => Aa (id := 0) (by kernel_rfl) ?_)))
 obtain ⟨o1, ho, hm⟩ := bind_some hm
 refine BG (Q' := fun e fr' h' => (e = .exit 0 ∧ .inl () = o1 ∧ Has fr' 27 [] ∧ HH g h' [.AL rp0 44 (AL AA p0)] F) ∨ (∃ x2, e = .ret ∧ .inr x2 = o1 ∧ Has fr' 27 [(4, .bool x2)] ∧ HH g h' [.AL rp0 44 (AL AA p0)] F) ∨ False) ?_ ?_
 ·refine Bv (by kernel_rfl) (fun (s : Int) fr' h' => ∃ x1, x1 = s ∧ Has fr' 27 [(0, AF rp0 p0.length), (1, vs AA p1), (5, Ai x1)] ∧ HH g h' [.AL rp0 44 (AL AA p0)] F) ho ⟨_, rfl, H.ls, A⟩ ?_
  clear ho hm H A
  intro s q fr h1 hI hm
  obtain ⟨x1, rfl, H, A⟩ := hI
  unfold Cg at hm
  refine AV (AH 4 (AP 4 [(14, .bool (decide (x1 < (p0.length : Int))))] H fun fr H => Ak 14 H hm (fun hb hm H => ?_) fun hb hm H => ?_))
  ·refine Br id (AV (Aa (id := 1) (by kernel_rfl) ?_))
   refine AV (FF 6 10 ?_)
   obtain ⟨x3, hx, hm⟩ := bind_some hm
   obtain ⟨i1, er1, _, hx, hq1⟩ := HH.Ll BL (by decide) A 0 (xs := p0) rfl hx
   refine Ax 2 [] 19 (.ptr (some (i1, x1.toNat * 14))) h1 H (fun fr => .of (D7 (s := DP rp0 p0.length) (by kernel_rfl) hx)) fun fr t H => ?_
   refine As 20 _ _ H (fun fr => .of (B5 (by kernel_rfl) (IS BL (HH.row A 0 rfl er1) hq1 0 14 (Nat.le_of_ble_eq_true rfl)))) fun fr t H => ?_
   obtain ⟨x4, hx, hm⟩ := bind_some hm
   refine Ax 2 [] 23 (.BC (AA x4)) h1 H (fun fr => .of (Ht (e := AA) (x := x4) BL (by decide) (by kernel_rfl) hx)) fun fr t H => ?_
   refine As 24 (.agg (AA x4)) h1 H (fun fr => .of (IQ (by kernel_rfl))) fun fr t H => ?_
   obtain ⟨x5, hx, hm⟩ := bind_some hm
   obtain ⟨v1, h2, hr, rfl, A1⟩ := K8 (av := [.agg (AA x3), .agg (AA x4)]) hx (A.cut 0)
   replace A := A.E8 A1
   refine A8 25 hr H fun fr t H => ?_
   refine AP 1 [(26, .bool (!x5))] H fun fr H => Ak 26 H hm (fun hb hm H => ?_) fun hb hm H => ?_
   ·refine AH 1 (AP 1 [(4, .bool false)] H fun fr H => AY ?_)
    exact nr hm fun e => Or.inr (.inl ⟨_, rfl, e, H.ls, A⟩)
   refine Fg 3 id (Bk 3 [(0, AF rp0 p0.length), (1, vs AA p1), (5, Ai (IntKind.i64.wrap (x1 + 1)))] H fun fr H => at_nil ?_)
   exact nx hm ⟨_, rfl, H.ls, A⟩
  refine Bh (i := 0) (by kernel_rfl) ?_
  exact nr hm fun e => .inl ⟨rfl, e, H.ls, A⟩
 clear ho
 clear A
 intro e fr h3 hQ
 rcases hQ with ⟨rfl, rfl, H, A⟩ | ⟨x2, rfl, rfl, H, A⟩ | hF
 ·show AW _ _ _ _ _ _ _
  refine AH 1 (AP 1 [(4, .bool true)] H fun fr H => AY ?_)
  obtain rfl := Ag hm
  exact ⟨.inl rfl, _, rH H, rfl, A⟩
 ·obtain rfl := Ag hm
  exact ⟨.inl rfl, _, rH H, rfl, A⟩
 exact hF.elim
def EZ (p0 : List (List UInt8)) (p1 : List (List UInt8)) (s : Int) : Option ((Int) ⊕ ((Unit) ⊕ (Bool))) :=
 match s with
 | x1 => Af (decide (x1 < (p0.length : Int))) ((GP p0 x1).bind fun x3 => (GP p1 x1).bind fun x4 => Af (!(x3 == x4)) (some (.inr (.inr false))) (some (.inl (IntKind.i64.wrap (x1 + 1))))) (some (.inr (.inl ())))
def DN (p0 : List (List UInt8)) (p1 : List (List UInt8)) : Option (Bool) :=
 Af ((p0.length : Int) != (p1.length : Int)) (some false) ((loop (EZ p0 p1) (0 : Int)).bind fun o1 => (match o1 with | .inl _ => some true | .inr x2 => some x2))
theorem Jh {p0 p1 rp0 rp1 q0} (hm : DN p0 p1 = some q0) (A : HH g h [.AL rp0 9 (AL eS p0), .AL rp1 9 (AL eS p1)] F) (hc : BH (cfg.still 21) av = [AF rp0 p0.length, AF rp1 p1.length] := by kernel_rfl) : ∃ v h', BN cfg g h 21 av v h' ∧ v = .bool q0 ∧ HH g h' [.AL rp0 9 (AL eS p0), .AL rp1 9 (AL eS p1)] F := by
 refine Dr 26 [.tmp 4] hc ?_
 clear hc
 unfold DN at hm
 refine bg 26 [(0, AF rp0 p0.length), (1, AF rp1 p1.length)] fun fr H => ?_
 refine AH 1 (AP 1 [] H fun fr H => AV (AH 5 (AP 5 [(10, .bool ((p0.length : Int) != (p1.length : Int)))] H fun fr H => Ak 10 H hm (fun hb hm H => ?_) fun hb hm H => ?_)))
 ·refine AH 1 (AP 1 [(4, .bool false)] H fun fr H => AY ?_)
  obtain rfl := Ag hm
  exact ⟨.inl rfl, _, rH H, rfl, A⟩
 refine Br id (AV (AH 1 (AP 1 [(5, Ai 0)] H fun fr H => Aa (id := 0) (by kernel_rfl) ?_)))
 obtain ⟨o1, ho, hm⟩ := bind_some hm
 refine BG (Q' := fun e fr' h' => (e = .exit 0 ∧ .inl () = o1 ∧ Has fr' 26 [] ∧ HH g h' [.AL rp0 9 (AL eS p0), .AL rp1 9 (AL eS p1)] F) ∨ (∃ x2, e = .ret ∧ .inr x2 = o1 ∧ Has fr' 26 [(4, .bool x2)] ∧ HH g h' [.AL rp0 9 (AL eS p0), .AL rp1 9 (AL eS p1)] F) ∨ False) ?_ ?_
 ·refine Bv (by kernel_rfl) (fun (s : Int) fr' h' => ∃ x1, x1 = s ∧ Has fr' 26 [(0, AF rp0 p0.length), (1, AF rp1 p1.length), (5, Ai x1)] ∧ HH g h' [.AL rp0 9 (AL eS p0), .AL rp1 9 (AL eS p1)] F) ho ⟨_, rfl, H.ls, A⟩ ?_
  clear ho hm H A
  intro s q fr h1 hI hm
  obtain ⟨x1, rfl, H, A⟩ := hI
  unfold EZ at hm
  refine AV (AH 4 (AP 4 [(14, .bool (decide (x1 < (p0.length : Int))))] H fun fr H => Ak 14 H hm (fun hb hm H => ?_) fun hb hm H => ?_))
  ·refine Br id (AV (Aa (id := 1) (by kernel_rfl) ?_))
   refine AV (FF 6 9 ?_)
   obtain ⟨x3, hx, hm⟩ := bind_some hm
   obtain ⟨i1, er1, _, hx, hq1⟩ := HH.Ll encS (by decide) A 0 (xs := p0) rfl hx
   refine Ax 2 [] 19 (.ptr (some (i1, x1.toNat * 1))) h1 H (fun fr => .of (D7 (s := DP rp0 p0.length) (by kernel_rfl) hx)) fun fr t H => ?_
   refine As 20 _ _ H (fun fr => .of (DU (by kernel_rfl) (EP encS (HH.row A 0 rfl er1) hq1 (o := 0) rfl))) fun fr t H => ?_
   obtain ⟨x4, hx, hm⟩ := bind_some hm
   obtain ⟨i2, er2, _, hx, hq2⟩ := HH.Ll encS (by decide) A 1 (xs := p1) rfl hx
   refine Ax 2 [] 23 (.ptr (some (i2, x1.toNat * 1))) h1 H (fun fr => .of (D7 (s := DP rp1 p1.length) (by kernel_rfl) hx)) fun fr t H => ?_
   refine As 24 _ _ H (fun fr => .of (DU (by kernel_rfl) (EP encS (HH.row A 1 rfl er2) hq2 (o := 0) rfl))) fun fr t H => ?_
   refine AP 1 [(25, .bool (!(x3 == x4)))] H fun fr H => Ak 25 H hm (fun hb hm H => ?_) fun hb hm H => ?_
   ·refine AH 1 (AP 1 [(4, .bool false)] H fun fr H => AY ?_)
    exact nr hm fun e => Or.inr (.inl ⟨_, rfl, e, H.ls, A⟩)
   refine Fg 3 id (Bk 3 [(0, AF rp0 p0.length), (1, AF rp1 p1.length), (5, Ai (IntKind.i64.wrap (x1 + 1)))] H fun fr H => at_nil ?_)
   exact nx hm ⟨_, rfl, H.ls, A⟩
  refine Bh (i := 0) (by kernel_rfl) ?_
  exact nr hm fun e => .inl ⟨rfl, e, H.ls, A⟩
 clear ho
 clear A
 intro e fr h2 hQ
 rcases hQ with ⟨rfl, rfl, H, A⟩ | ⟨x2, rfl, rfl, H, A⟩ | hF
 ·show AW _ _ _ _ _ _ _
  refine AH 1 (AP 1 [(4, .bool true)] H fun fr H => AY ?_)
  obtain rfl := Ag hm
  exact ⟨.inl rfl, _, rH H, rfl, A⟩
 ·obtain rfl := Ag hm
  exact ⟨.inl rfl, _, rH H, rfl, A⟩
 exact hF.elim
def C2 (p0 : List AK) (s : (List (List UInt8)) × Int) : Option (((List (List UInt8)) × Int) ⊕ (((List (List UInt8))) ⊕ (Bool))) :=
 match s with
 | (x2, x3) => Af (decide (x3 < (p0.length : Int))) ((GP p0 x3).bind fun x6 => (Cw x6).bind fun x7 => (Af x7 (some true) ((Dz x6).bind fun x9 => some (x9 != 0)) : Option (Bool)).bind fun x8 => Af ((x8 || (decide ((x6.Name.length : Int) > 4096))) || (decide ((x6.Be.length : Int) > 4096))) ((DQ).bind fun x10 => some (.inr (.inr x10))) (Fh (Np 16 (x2.length + ([x6.Name] : List (List UInt8)).length)) <| some (.inl ((x2 ++ ([x6.Name] : List (List UInt8))), IntKind.i64.wrap (x3 + 1))))) (some (.inr (.inl x2)))
def DX (p0 : List AK) : Option (Bool) :=
 Af (decide ((p0.length : Int) > 8)) ((DQ).bind fun x1 => some x1) ((loop (C2 p0) (([] : List (List UInt8)), (0 : Int))).bind fun o1 => (match o1 with | .inl x4 => (Fa).bind fun _ => (Fp (⟨([] : List AS), ([] : List AS), ([] : List Az), false, false, (0 : Int), false, (⟨(0 : Int), (0 : Int)⟩ : Ar), (0 : Int), (0 : Int), (4096 : Int), (65536 : Int), (4096 : Int)⟩ : Bq) p0).bind fun (x12, x13, x14) => (DL x12 p0).bind fun x15 => (Af ((x15 && (x13 == 0)) && (x14 == 0)) ((Ev x12).bind fun x17 => (DN x17 x4).bind fun x18 => some x18) (some false) : Option (Bool)).bind fun x16 => (Af x16 ((DQ).bind fun x20 => some x20) (some false) : Option (Bool)).bind fun x19 => some x19 | .inr x5 => some x5))
theorem IU {p0 q0} (hm : DX p0 = some q0) (A : HH g h [] F) (hc : BH (cfg.still 5) av = [vs AA p0] := by kernel_rfl) : ∃ v h', BN cfg g h 5 av v h' ∧ v = .bool q0 ∧ HH g h' [] F := by
 refine Dr 72 [.tmp 2] hc ?_
 clear hc
 unfold DX at hm
 refine bg 72 [(0, vs AA p0)] fun fr H => ?_
 refine AH 1 (AP 1 [] H fun fr H => AV (AH 3 (AP 3 [(11, .bool (decide ((p0.length : Int) > 8)))] H fun fr H => Ak 11 H hm (fun hb hm H => ?_) fun hb hm H => ?_)))
 ·refine AH 2 ?_
  obtain ⟨x1, hx, hm⟩ := bind_some hm
  obtain ⟨v1, h1, hr, rfl, A1⟩ := Fv (av := []) hx (A.cut 0)
  replace A := A.E8 A1
  refine A8 12 hr H fun fr t H => ?_
  refine AP 1 [(2, .bool x1)] H fun fr H => AY ?_
  obtain rfl := Ag hm
  exact ⟨.inl rfl, _, rH H, rfl, A⟩
 refine Cc 1 id (AP 1 [(3, .slice none 0)] H fun fr H => AV (AH 3 (AP 3 [(13, vs AA p0), (14, Ai (p0.length : Int)), (15, Ai 0)] H fun fr H => Aa (id := 0) (by kernel_rfl) ?_)))
 replace A : HH g h [.AL none 9 (AL eS ([] : List (List UInt8)))] F := A.I5 9
 obtain ⟨o1, ho, hm⟩ := bind_some hm
 refine BG (Q' := fun e fr' h' => (∃ x4, e = .exit 0 ∧ .inl x4 = o1 ∧ ∃ r2, Has fr' 72 [(0, vs AA p0), (3, AF r2 x4.length)] ∧ HH g h' [.AL r2 9 (AL eS x4)] F) ∨ (∃ x5, e = .ret ∧ .inr x5 = o1 ∧ Has fr' 72 [(2, .bool x5)] ∧ HH g h' [] F) ∨ False) ?_ ?_
 ·refine Bv (by kernel_rfl) (fun (s : (List (List UInt8)) × Int) fr' h' => ∃ x2 x3, (x2, x3) = s ∧ ∃ r1, Has fr' 72 [(0, vs AA p0), (3, AF r1 x2.length), (13, vs AA p0), (14, Ai (p0.length : Int)), (15, Ai x3)] ∧ HH g h' [.AL r1 9 (AL eS x2)] F) ho ⟨_, _, rfl, none, H.ls, A⟩ ?_
  clear ho hm H A
  intro s q fr h2 hI hm
  obtain ⟨x2, x3, rfl, r1, H, A⟩ := hI
  unfold C2 at hm
  refine AH 1 (AP 1 [(16, .bool (decide (x3 < (p0.length : Int))))] H fun fr H => AV (Ak 16 H hm (fun hb hm H => ?_) fun hb hm H => ?_))
  ·refine Br id (AV (Aa (id := 1) (by kernel_rfl) ?_))
   refine AH 4 ?_
   obtain ⟨x6, hx, hm⟩ := bind_some hm
   refine As 17 (.BC (AA x6)) h2 H (fun fr => .of (Ht (e := AA) (x := x6) BL (by decide) (by kernel_rfl) hx)) fun fr t H => ?_
   refine As 18 (.agg (AA x6)) h2 H (fun fr => .of (IQ (by kernel_rfl))) fun fr t H => ?_
   obtain ⟨h3, e1, A⟩ := A.pu (.cells none 2 [.str ([] : List UInt8), .str ([] : List UInt8), Ab 0, Ai 0, Ai 0, Ai 0, .str ([] : List UInt8), .str ([] : List UInt8), Ai 0, Ai 0, Ai 0, Ai 0, .slice none 0, .str ([] : List UInt8)])
   refine A7 5 (.ptr (some (h2.size, 0))) e1 H fun fr t H => ?_
   obtain ⟨h4, hx, A⟩ := A.s0 0 (AA x6) [_, _, _, _, _, _, _, _, _, _, _, _, _, _]
   refine FX hx H fun fr t H => ?_
   refine BF id (AV (AH 19 (As 19 _ _ H (fun fr => .of (B5 (by kernel_rfl) (A.GQ 0 rfl (o := 0) (n := 14) ⟨Nat.le_of_ble_eq_true rfl, rfl⟩))) fun fr t H => ?_)))
   obtain ⟨x7, hx, hm⟩ := bind_some hm
   obtain ⟨v1, h5, hr, rfl, A1⟩ := LI (av := [.agg (AA x6)]) hx (A.cut 0)
   replace A := A.E8 A1
   refine A8 20 hr H fun fr t H => ?_
   refine AG 1 [(21, .bool x7)] H fun fr H => ?_
   obtain ⟨x8, ho, hm⟩ := bind_some hm
   refine Aq 4 (fun fr' h' => Has fr' 72 [(0, vs AA p0), (3, AF r1 x2.length), (5, .ptr (some (h2.size, 0))), (13, vs AA p0), (14, Ai (p0.length : Int)), (15, Ai x3), (25, .bool x8)] ∧ HH g h' [.obj h2.size (.cells none 2 (AA x6)), .AL r1 9 (AL eS x2)] F) ?_ ?_
   ·rcases Ac ho with ⟨hb, hm⟩ | ⟨hb, hm⟩
    ·replace H := H.kn 21 hb
     refine AG 4 [(25, .bool true)] H fun fr H => ?_
     obtain rfl := Ag hm
     exact at_nil ⟨H.ls, A⟩
    replace H := H.kn 21 hb
    refine As 22 _ _ H (fun fr => .of (B5 (by kernel_rfl) (A.GQ 0 rfl (o := 0) (n := 14) ⟨Nat.le_of_ble_eq_true rfl, rfl⟩))) fun fr t H => ?_
    obtain ⟨x9, hx, hm⟩ := bind_some hm
    obtain ⟨v1, h7, hr, rfl, A1⟩ := Ko (av := [.agg (AA x6)]) hx (A.cut 0)
    replace A := A.E8 A1
    refine A8 23 hr H fun fr t H => ?_
    refine AG 2 [(25, .bool (x9 != 0))] H fun fr H => ?_
    obtain rfl := Ag hm
    exact at_nil ⟨H.ls, A⟩
   clear A
   intro t fr h6 hK
   obtain ⟨H, A⟩ := hK
   refine AG 1 [(26, .bool x8)] H fun fr H => Aq 5 (fun fr' h' => h6 = h' ∧ Has fr' 72 [(0, vs AA p0), (3, AF r1 x2.length), (5, .ptr (some (h2.size, 0))), (13, vs AA p0), (14, Ai (p0.length : Int)), (15, Ai x3), (31, .bool (x8 || (decide ((x6.Name.length : Int) > 4096))))]) ?_ ?_
   ·cases hb : (x8 : Bool) with
    | true =>
     replace H := H.kn 26 hb
     exact AG 5 [(31, .bool true)] H fun fr H => Ap H hb
    | false =>
     replace H := H.kn 26 hb
     refine AZ 1 [] 28 0 0 A H fun fr t H => ?_
     exact AG 3 [(31, .bool (decide ((x6.Name.length : Int) > 4096)))] H fun fr H => Ap H hb
   intro t fr h' hK
   obtain ⟨e, H⟩ := hK
   subst e
   refine AG 1 [(32, .bool (x8 || (decide ((x6.Name.length : Int) > 4096))))] H fun fr H => Aq 5 (fun fr' h' => h6 = h' ∧ Has fr' 72 [(0, vs AA p0), (3, AF r1 x2.length), (5, .ptr (some (h2.size, 0))), (13, vs AA p0), (14, Ai (p0.length : Int)), (15, Ai x3), (37, .bool ((x8 || (decide ((x6.Name.length : Int) > 4096))) || (decide ((x6.Be.length : Int) > 4096))))]) ?_ ?_
   ·cases hb : (x8 || (decide ((x6.Name.length : Int) > 4096)) : Bool) with
    | true =>
     replace H := H.kn 32 hb
     exact AG 5 [(37, .bool true)] H fun fr H => Ap H hb
    | false =>
     replace H := H.kn 32 hb
     refine AZ 1 [] 34 0 1 A H fun fr t H => ?_
     exact AG 3 [(37, .bool (decide ((x6.Be.length : Int) > 4096)))] H fun fr H => Ap H hb
   intro t fr h' hK
   obtain ⟨e, H⟩ := hK
   subst e
   refine BF id (Ak 37 H hm (fun hb hm H => ?_) fun hb hm H => ?_)
   ·refine AH 2 ?_
    obtain ⟨x10, hx, hm⟩ := bind_some hm
    obtain ⟨v1, h8, hr, rfl, A1⟩ := Fv (av := []) hx (A.cut 0)
    replace A := A.E8 A1
    refine A8 38 hr H fun fr t H => ?_
    refine AP 1 [(2, .bool x10)] H fun fr H => AY ?_
    replace A := A.d0
    exact nr hm fun e => Or.inr (.inl ⟨_, rfl, e, H.ls, A⟩)
   refine Fg 6 id (AZ 2 [(39, AF r1 x2.length)] 41 0 0 A H fun fr t H => ?_)
   obtain ⟨h9, e2, A⟩ := A.pL 9 [.str x6.Name]
   refine A7 42 (AF (some h6.size) (([x6.Name] : List (List UInt8)).length)) e2 H fun fr t H => ?_
   obtain ⟨hb, hm⟩ := BQ hm
   obtain ⟨r3, h10, hx, A1⟩ := HH.Lo encS (by decide) A 2 (xs := x2) (ys := ([x6.Name] : List (List UInt8))) rfl (DM A 0 rfl (n := ([x6.Name] : List (List UInt8)).length) (z := 1) rfl (by decide)) rfl rfl hb
   replace A : HH g h10 [.AL (some h6.size) 9 ([.str x6.Name]), _, .AL r3 9 (AL eS (x2 ++ ([x6.Name] : List (List UInt8))))] F := A1
   replace A := A.k2 1 2
   refine As 43 _ _ H (fun fr => .of (IE (s := DP r1 x2.length) (by kernel_rfl) hx)) fun fr t H => ?_
   refine Bk 1 [(0, vs AA p0), (3, AF r3 ((x2 ++ ([x6.Name] : List (List UInt8))).length)), (13, vs AA p0), (14, Ai (p0.length : Int)), (15, Ai x3)] H fun fr H => Ij 2 id (Bk 2 [(0, vs AA p0), (3, AF r3 ((x2 ++ ([x6.Name] : List (List UInt8))).length)), (13, vs AA p0), (14, Ai (p0.length : Int)), (15, Ai (IntKind.i64.wrap (x3 + 1)))] H fun fr H => at_nil ?_)
   replace A := A.k1 1
   exact nx hm ⟨_, _, rfl, _, H.ls, A⟩
  refine Bh (i := 0) (by kernel_rfl) ?_
  exact nr hm fun e => .inl ⟨_, rfl, e, _, H.ls, A⟩
 clear ho
 clear A
 intro e fr h11 hQ
 rcases hQ with ⟨x4, rfl, rfl, r2, H, A⟩ | ⟨x5, rfl, rfl, H, A⟩ | hF
 ·show AW _ _ _ _ _ _ _
  refine AH 10 ?_
  obtain ⟨⟨⟩, hx, hm⟩ := bind_some hm
  obtain ⟨v1, h12, hr, rfl, A1⟩ := I8 (av := []) hx (A.cut 0)
  replace A := A.E8 A1
  refine A8 46 hr H fun fr t H => ?_
  obtain ⟨⟨x12, x13, x14⟩, hx, hm⟩ := bind_some hm
  obtain ⟨v1, h13, hr, rqw6, rfl, A1⟩ := M7 (av := [.agg [.slice none 0, .slice none 0, .slice none 0, .bool false, .bool false, Ai 0, .bool false, Ai 0, Ai 0, Ai 0, Ai 0, Ai 4096, Ai 65536, Ai 4096], vs AA p0]) hx (A.cut 0)
  replace A := A.XN A1
  refine BD 1 [] 48 hr H fun fr t H => ?_
  refine Bn 7 [(6, AF rqw6 x12.length), (7, Ai x13), (8, Ai x14)] 21 H fun fr H => ?_
  obtain ⟨x15, hx, hm⟩ := bind_some hm
  obtain ⟨v1, h14, hr, rfl, A1⟩ := Jb (av := [AF rqw6 x12.length, vs AA p0]) hx (A.cut 1)
  replace A := A.g11 A1
  refine BD 2 [] 54 hr H fun fr t H => ?_
  refine AG 1 [(55, .bool x15)] H fun fr H => Aq 3 (fun fr' h' => h14 = h' ∧ Has fr' 72 [(3, AF r2 x4.length), (6, AF rqw6 x12.length), (8, Ai x14), (58, .bool (x15 && (x13 == 0)))]) ?_ ?_
  ·cases hb : (x15 : Bool) with
   | true =>
    replace H := H.kn 55 hb
    exact AG 3 [(58, .bool (x13 == 0))] H fun fr H => Ap H hb
   | false =>
    replace H := H.kn 55 hb
    exact AG 3 [(58, .bool false)] H fun fr H => Ap H hb
  intro t fr h' hK
  obtain ⟨e, H⟩ := hK
  subst e
  refine AG 1 [(59, .bool (x15 && (x13 == 0)))] H fun fr H => Aq 3 (fun fr' h' => h14 = h' ∧ Has fr' 72 [(3, AF r2 x4.length), (6, AF rqw6 x12.length), (62, .bool ((x15 && (x13 == 0)) && (x14 == 0)))]) ?_ ?_
  ·cases hb : (x15 && (x13 == 0) : Bool) with
   | true =>
    replace H := H.kn 59 hb
    exact AG 3 [(62, .bool (x14 == 0))] H fun fr H => Ap H hb
   | false =>
    replace H := H.kn 59 hb
    exact AG 3 [(62, .bool false)] H fun fr H => Ap H hb
  intro t fr h' hK
  obtain ⟨e, H⟩ := hK
  subst e
  refine AG 1 [(63, .bool ((x15 && (x13 == 0)) && (x14 == 0)))] H fun fr H => ?_
  obtain ⟨x16, ho, hm⟩ := bind_some hm
  refine Aq 5 (fun fr' h' => Has fr' 72 [(68, .bool x16)] ∧ HH g h' [] F) ?_ ?_
  ·rcases Ac ho with ⟨hb, hm⟩ | ⟨hb, hm⟩
   ·replace H := H.kn 63 hb
    obtain ⟨x17, hx, hm⟩ := bind_some hm
    obtain ⟨v1, h16, hr, rqw10, rfl, A1⟩ := MG (av := [AF rqw6 x12.length]) hx (A.cut 1)
    replace A := A.g12 A1
    refine BD 1 [] 65 hr H fun fr t H => ?_
    replace A := A.k3 0 2 1
    obtain ⟨x18, hx, hm⟩ := bind_some hm
    obtain ⟨v1, h17, hr, rfl, A1⟩ := Jh (av := [AF rqw10 x17.length, AF r2 x4.length]) hx (A.cut 2)
    replace A := A.g22 A1
    refine BD 1 [] 67 hr H fun fr t H => ?_
    refine AG 1 [(68, .bool x18)] H fun fr H => ?_
    obtain rfl := Ag hm
    replace A := A.d0
    exact at_nil ⟨H.ls, A⟩
   replace H := H.kn 63 hb
   refine AG 5 [(68, .bool false)] H fun fr H => ?_
   obtain rfl := Ag hm
   replace A := A.d0
   exact at_nil ⟨H.ls, A⟩
  clear A
  intro t fr h15 hK
  obtain ⟨H, A⟩ := hK
  refine AG 1 [(69, .bool x16)] H fun fr H => ?_
  obtain ⟨x19, ho, hm⟩ := bind_some hm
  refine Aq 2 (fun fr' h' => Has fr' 72 [(71, .bool x19)] ∧ HH g h' [] F) ?_ ?_
  ·rcases Ac ho with ⟨hb, hm⟩ | ⟨hb, hm⟩
   ·replace H := H.kn 69 hb
    obtain ⟨x20, hx, hm⟩ := bind_some hm
    obtain ⟨v1, h19, hr, rfl, A1⟩ := Fv (av := []) hx (A.cut 0)
    replace A := A.E8 A1
    refine A8 70 hr H fun fr t H => ?_
    refine AG 1 [(71, .bool x20)] H fun fr H => ?_
    obtain rfl := Ag hm
    exact at_nil ⟨H.ls, A⟩
   replace H := H.kn 69 hb
   refine AG 2 [(71, .bool false)] H fun fr H => ?_
   obtain rfl := Ag hm
   exact at_nil ⟨H.ls, A⟩
  clear A
  intro t fr h18 hK
  obtain ⟨H, A⟩ := hK
  refine AP 1 [(2, .bool x19)] H fun fr H => AY ?_
  obtain rfl := Ag hm
  exact ⟨.inl rfl, _, rH H, rfl, A⟩
 ·obtain rfl := Ag hm
  exact ⟨.inl rfl, _, rH H, rfl, A⟩
 exact hF.elim
end
end Go.Av.L
