/-
 Models of functions, and that the abstract run tells them. Written by lift2.py.
-/
import Derived.Test.YthnnciphldbmeaaGreatDoorKCfg
import Derived.Test.YthnnciphldbmeaaGreatDoorK4
import Derived.Test.YthnnciphldbmeaaGreatDoorK5
import Derived.Test.YthnnciphldbmeaaGreatDoorK7
namespace Go.Av.L
open Go.Av Go.Lib
set_option maxRecDepth 10000
set_option maxHeartbeats 4000000
set_option linter.unusedVariables false
set_option linter.unusedSimpArgs false
variable {g : Gd} {h : AH} {F : List Ck} {av : List AA}
noncomputable section
def DL (p0 : List AN) (s : (List (List UInt8)) × Int) : Option (((List (List UInt8)) × Int) ⊕ (((List (List UInt8))))) :=
 match s with
 | (x1, x2) => Aa (decide (x2 < (p0.length : Int))) (((Fc p0 x2).bind fun x5 => (Fc p0 x2).bind fun x6 => (Fc p0 x2).bind fun x7 => (EP x5.Name x6.Kind x7.Data).bind fun (x8, x9) => Aa x9 ((DN x8).bind fun x10 => (DH x1 x10).bind fun x11 => some x11) (some x1) : Option (((List (List UInt8))))).bind fun x4 => some (.inl (x4, IntKind.i64.wrap (x2 + 1)))) (some (.inr x1))
def Dy (p0 : List AN) : Option ((List (List UInt8))) :=
 (loop (DL p0) (([] : List (List UInt8)), (0 : Int))).bind fun x3 => some x3
theorem Lf {p0 q0} (hm : Dy p0 = some q0) (A : HH g h [] F) (hc : BF (cfg.still 24) av = [vs AD p0] := by kernel_rfl) : ∃ v h', BL cfg g h 24 av v h' ∧ ∃ (rq0 : Option Nat), v = AF rq0 q0.length ∧ HH g h' [.AI rq0 9 (AI eS q0)] F := by
 refine Dr 39 [.tmp 2] hc ?_
 clear hc
 unfold Dy at hm
 refine bg 39 [(0, vs AD p0)] fun fr H => ?_
 refine AG 1 (Bc 1 [] 2 H fun fr H => ?_)
 obtain ⟨h1, e1, A⟩ := A.pL 9 []
 refine BB 7 (AF (some h.size) (([] : List (List UInt8)).length)) e1 H fun fr t H => ?_
 refine AO 1 [(3, AF (some h.size) (([] : List (List UInt8)).length))] H fun fr H => AQ (AG 1 (AO 1 [(4, Ai 0)] H fun fr H => AV (id := 0) (by kernel_rfl) ?_))
 replace A : HH g h1 [.AI (some h.size) 9 (AI eS ([] : List (List UInt8)))] F := A
 obtain ⟨o1, ho, hm⟩ := bind_some hm
 refine Ax (Q' := fun e fr' h' => (∃ x3, e = .exit 0 ∧ x3 = o1 ∧ ∃ r2, Has fr' 39 [(3, AF r2 x3.length)] ∧ HH g h' [.AI r2 9 (AI eS x3)] F) ∨ False) ?_ ?_
 ·refine Bh (by kernel_rfl) (fun (s : (List (List UInt8)) × Int) fr' h' => ∃ x1 x2, (x1, x2) = s ∧ ∃ r1, Has fr' 39 [(0, vs AD p0), (3, AF r1 x1.length), (4, Ai x2)] ∧ HH g h' [.AI r1 9 (AI eS x1)] F) ho ⟨_, _, rfl, some h.size, H.ls, A⟩ ?_
  clear ho hm H A
  intro s q fr h2 hI hm
  obtain ⟨x1, x2, rfl, r1, H, A⟩ := hI
  unfold DL at hm
  refine AQ (AG 4 (AO 4 [(11, .bool (decide (x2 < (p0.length : Int))))] H fun fr H => Ad 11 H hm (fun hb hm H => ?_) fun hb hm H => ?_))
  ·refine Bf id (AQ ?_)
   obtain ⟨o2, ho, hm⟩ := bind_some hm
   refine Ax (Q' := fun e fr' h' => (∃ x4, e = .normal ∧ x4 = o2 ∧ ∃ r3, Has fr' 39 [(0, vs AD p0), (3, AF r3 x4.length), (4, Ai x2)] ∧ HH g h' [.AI r3 9 (AI eS x4)] F) ∨ False) ?_ ?_
   ·replace hm := ho
    clear ho
    refine AV (id := 1) (by kernel_rfl) ?_
    refine AQ (Ep 5 21 ?_)
    obtain ⟨x5, hx, hm⟩ := bind_some hm
    refine Ap 2 [] 17 (.A8 (AD x5)) h2 H (fun fr => .of (GC (e := AD) (x := x5) Bg (by decide) (by kernel_rfl) hx)) fun fr t H => ?_
    refine Ap 1 [] 19 (.str x5.Name) h2 H (fun fr => .of (G0 (by kernel_rfl))) fun fr t H => ?_
    obtain ⟨x6, hx, hm⟩ := bind_some hm
    refine Ap 2 [] 22 (.A8 (AD x6)) h2 H (fun fr => .of (GC (e := AD) (x := x6) Bg (by decide) (by kernel_rfl) hx)) fun fr t H => ?_
    refine Ap 1 [] 24 (Ab x6.Kind) h2 H (fun fr => .of (G0 (by kernel_rfl))) fun fr t H => ?_
    obtain ⟨x7, hx, hm⟩ := bind_some hm
    refine Ap 2 [] 27 (.A8 (AD x7)) h2 H (fun fr => .of (GC (e := AD) (x := x7) Bg (by decide) (by kernel_rfl) hx)) fun fr t H => ?_
    refine Ap 1 [] 29 (.str x7.Data) h2 H (fun fr => .of (G0 (by kernel_rfl))) fun fr t H => ?_
    obtain ⟨⟨x8, x9⟩, hx, hm⟩ := bind_some hm
    obtain ⟨v1, h3, hr, rfl, A1⟩ := Ly (av := [.str x5.Name, Ab x6.Kind, .str x7.Data]) hx (A.cut 0)
    replace A := A.EX A1
    refine BA 30 hr H fun fr t H => ?_
    refine Bc 5 [(5, vs eS x8), (6, .bool x9)] 1 H fun fr H => AO 1 [(33, .bool x9)] H fun fr H => Ad 33 H hm (fun hb hm H => ?_) fun hb hm H => ?_
    ·refine Cy 5 ?_
     obtain ⟨x10, hx, hm⟩ := bind_some hm
     obtain ⟨v1, h4, hr, rfl, A1⟩ := Hn (av := [vs eS x8]) hx (A.cut 0)
     replace A := A.EX A1
     refine A0 2 [(34, AF r1 x1.length)] 36 hr H fun fr t H => ?_
     obtain ⟨x11, hx, hm⟩ := bind_some hm
     obtain ⟨v1, h5, hr, rqw4, rfl, A1⟩ := KA (av := [AF r1 x1.length, .str x10]) hx (A.cut 1)
     replace A := A.g12 A1
     refine BA 37 hr H fun fr t H => ?_
     refine BV 1 [(0, vs AD p0), (3, AF rqw4 x11.length), (4, Ai x2)] H fun fr H => at_nil ?_
     replace A := A.d1
     exact .inl ⟨_, rfl, AY hm, rqw4, H.ls, A⟩
    exact FL (.inl ⟨_, rfl, AY hm, _, H.ls, A⟩)
   clear ho
   clear A
   intro e fr h6 hQ
   rcases hQ with ⟨x4, rfl, rfl, r3, H, A⟩ | hF
   ·show AW _ _ _ _ _ _ _
    refine Cy 3 (BV 3 [(0, vs AD p0), (3, AF r3 x4.length), (4, Ai (IntKind.i64.wrap (x2 + 1)))] H fun fr H => at_nil ?_)
    exact nx hm ⟨_, _, rfl, _, H.ls, A⟩
   exact hF.elim
  refine BU (i := 0) (by kernel_rfl) ?_
  exact nr hm fun e => .inl ⟨_, rfl, e, _, H.ls, A⟩
 clear ho
 clear A
 intro e fr h7 hQ
 rcases hQ with ⟨x3, rfl, rfl, r2, H, A⟩ | hF
 ·show AW _ _ _ _ _ _ _
  refine AG 2 (AO 2 [(2, AF r2 x3.length)] H fun fr H => AU ?_)
  obtain rfl := AY hm
  exact ⟨.inl rfl, _, rH H, _, rfl, A⟩
 exact hF.elim
def EO (p0 : List (List UInt8)) (p1 : List (List UInt8)) (s : Int) : Option ((Int) ⊕ ((Unit) ⊕ (Bool))) :=
 match s with
 | x1 => Aa (decide (x1 < (p0.length : Int))) ((Fc p0 x1).bind fun x3 => (Fc p1 x1).bind fun x4 => Aa (!(x3 == x4)) (some (.inr (.inr false))) (some (.inl (IntKind.i64.wrap (x1 + 1))))) (some (.inr (.inl ())))
def C0 (p0 : List (List UInt8)) (p1 : List (List UInt8)) : Option (Bool) :=
 Aa ((p0.length : Int) != (p1.length : Int)) (some false) ((loop (EO p0 p1) (0 : Int)).bind fun o1 => (match o1 with | .inl _ => some true | .inr x2 => some x2))
theorem Jp {p0 p1 rp0 rp1 q0} (hm : C0 p0 p1 = some q0) (A : HH g h [.AI rp0 9 (AI eS p0), .AI rp1 9 (AI eS p1)] F) (hc : BF (cfg.still 21) av = [AF rp0 p0.length, AF rp1 p1.length] := by kernel_rfl) : ∃ v h', BL cfg g h 21 av v h' ∧ v = .bool q0 ∧ HH g h' [.AI rp0 9 (AI eS p0), .AI rp1 9 (AI eS p1)] F := by
 refine Dr 26 [.tmp 4] hc ?_
 clear hc
 unfold C0 at hm
 refine bg 26 [(0, AF rp0 p0.length), (1, AF rp1 p1.length)] fun fr H => ?_
 refine AG 1 (AO 1 [] H fun fr H => AQ (AG 5 (AO 5 [(10, .bool ((p0.length : Int) != (p1.length : Int)))] H fun fr H => Ad 10 H hm (fun hb hm H => ?_) fun hb hm H => ?_)))
 ·refine AG 1 (AO 1 [(4, .bool false)] H fun fr H => AU ?_)
  obtain rfl := AY hm
  exact ⟨.inl rfl, _, rH H, rfl, A⟩
 refine Bf id (AQ (AG 1 (AO 1 [(5, Ai 0)] H fun fr H => AV (id := 0) (by kernel_rfl) ?_)))
 obtain ⟨o1, ho, hm⟩ := bind_some hm
 refine Ax (Q' := fun e fr' h' => (e = .exit 0 ∧ .inl () = o1 ∧ Has fr' 26 [] ∧ HH g h' [.AI rp0 9 (AI eS p0), .AI rp1 9 (AI eS p1)] F) ∨ (∃ x2, e = .ret ∧ .inr x2 = o1 ∧ Has fr' 26 [(4, .bool x2)] ∧ HH g h' [.AI rp0 9 (AI eS p0), .AI rp1 9 (AI eS p1)] F) ∨ False) ?_ ?_
 ·refine Bh (by kernel_rfl) (fun (s : Int) fr' h' => ∃ x1, x1 = s ∧ Has fr' 26 [(0, AF rp0 p0.length), (1, AF rp1 p1.length), (5, Ai x1)] ∧ HH g h' [.AI rp0 9 (AI eS p0), .AI rp1 9 (AI eS p1)] F) ho ⟨_, rfl, H.ls, A⟩ ?_
  clear ho hm H A
  intro s q fr h1 hI hm
  obtain ⟨x1, rfl, H, A⟩ := hI
  unfold EO at hm
  refine AQ (AG 4 (AO 4 [(14, .bool (decide (x1 < (p0.length : Int))))] H fun fr H => Ad 14 H hm (fun hb hm H => ?_) fun hb hm H => ?_))
  ·refine Bf id (AQ (AV (id := 1) (by kernel_rfl) ?_))
   refine AQ (Ep 6 9 ?_)
   obtain ⟨x3, hx, hm⟩ := bind_some hm
   obtain ⟨i1, er1, _, hx, hq1⟩ := HH.Kn encS (by decide) A 0 (xs := p0) rfl hx
   refine Ap 2 [] 19 (.ptr (some (i1, x1.toNat * 1))) h1 H (fun fr => .of (Dc (s := Cs rp0 p0.length) (by kernel_rfl) hx)) fun fr t H => ?_
   refine Aq 20 _ _ H (fun fr => .of (Da (by kernel_rfl) (DD encS (HH.row A 0 rfl er1) hq1 (o := 0) rfl))) fun fr t H => ?_
   obtain ⟨x4, hx, hm⟩ := bind_some hm
   obtain ⟨i2, er2, _, hx, hq2⟩ := HH.Kn encS (by decide) A 1 (xs := p1) rfl hx
   refine Ap 2 [] 23 (.ptr (some (i2, x1.toNat * 1))) h1 H (fun fr => .of (Dc (s := Cs rp1 p1.length) (by kernel_rfl) hx)) fun fr t H => ?_
   refine Aq 24 _ _ H (fun fr => .of (Da (by kernel_rfl) (DD encS (HH.row A 1 rfl er2) hq2 (o := 0) rfl))) fun fr t H => ?_
   refine AO 1 [(25, .bool (!(x3 == x4)))] H fun fr H => Ad 25 H hm (fun hb hm H => ?_) fun hb hm H => ?_
   ·refine AG 1 (AO 1 [(4, .bool false)] H fun fr H => AU ?_)
    exact nr hm fun e => Or.inr (.inl ⟨_, rfl, e, H.ls, A⟩)
   refine Fh 3 id (BV 3 [(0, AF rp0 p0.length), (1, AF rp1 p1.length), (5, Ai (IntKind.i64.wrap (x1 + 1)))] H fun fr H => at_nil ?_)
   exact nx hm ⟨_, rfl, H.ls, A⟩
  refine BU (i := 0) (by kernel_rfl) ?_
  exact nr hm fun e => .inl ⟨rfl, e, H.ls, A⟩
 clear ho
 clear A
 intro e fr h2 hQ
 rcases hQ with ⟨rfl, rfl, H, A⟩ | ⟨x2, rfl, rfl, H, A⟩ | hF
 ·show AW _ _ _ _ _ _ _
  refine AG 1 (AO 1 [(4, .bool true)] H fun fr H => AU ?_)
  obtain rfl := AY hm
  exact ⟨.inl rfl, _, rH H, rfl, A⟩
 ·obtain rfl := AY hm
  exact ⟨.inl rfl, _, rH H, rfl, A⟩
 exact hF.elim
def B9 (x1 : List (List UInt8)) (x2 : List (List UInt8)) (s : Int) : Option ((Int) ⊕ ((Unit) ⊕ (Bool))) :=
 match s with
 | x3 => Aa (decide (x3 < (x2.length : Int))) ((Fc x1 x3).bind fun x5 => (Fc x2 x3).bind fun x6 => Aa (!(x5 == x6)) (some (.inr (.inr false))) (some (.inl (IntKind.i64.wrap (x3 + 1))))) (some (.inr (.inl ())))
def C5 (p0 : List UInt8) (p1 : List UInt8) : Option (Bool) :=
 (Bp p0).bind fun x1 => (Bp p1).bind fun x2 => Aa (decide ((x1.length : Int) ≤ (x2.length : Int))) (some false) ((loop (B9 x1 x2) (0 : Int)).bind fun o1 => (match o1 with | .inl _ => some true | .inr x4 => some x4))
theorem Kj {p0 p1 q0} (hm : C5 p0 p1 = some q0) (A : HH g h [] F) (hc : BF (cfg.still 59) av = [.str p0, .str p1] := by kernel_rfl) : ∃ v h', BL cfg g h 59 av v h' ∧ v = .bool q0 ∧ HH g h' [] F := by
 refine Dr 32 [.tmp 4] hc ?_
 clear hc
 unfold C5 at hm
 refine bg 32 [(0, .str p0), (1, .str p1)] fun fr H => ?_
 refine AG 1 (Bc 1 [] 6 H fun fr H => ?_)
 obtain ⟨x1, hx, hm⟩ := bind_some hm
 obtain ⟨v1, h1, hr, rfl, A1⟩ := Ct (av := [.str p0]) hx (A.cut 0)
 replace A := A.EX A1
 refine A0 1 [] 9 hr H fun fr t H => ?_
 obtain ⟨x2, hx, hm⟩ := bind_some hm
 obtain ⟨v1, h2, hr, rfl, A1⟩ := Ct (av := [.str p1]) hx (A.cut 0)
 replace A := A.EX A1
 refine A0 1 [] 11 hr H fun fr t H => ?_
 refine AO 2 [(5, vs eS x1), (6, vs eS x2)] H fun fr H => AQ (AG 5 (AO 5 [(16, .bool (decide ((x1.length : Int) ≤ (x2.length : Int))))] H fun fr H => Ad 16 H hm (fun hb hm H => ?_) fun hb hm H => ?_))
 ·refine AG 1 (AO 1 [(4, .bool false)] H fun fr H => AU ?_)
  obtain rfl := AY hm
  exact ⟨.inl rfl, _, rH H, rfl, A⟩
 refine Bf id (AQ (AG 1 (AO 1 [(7, Ai 0)] H fun fr H => AV (id := 0) (by kernel_rfl) ?_)))
 obtain ⟨o1, ho, hm⟩ := bind_some hm
 refine Ax (Q' := fun e fr' h' => (e = .exit 0 ∧ .inl () = o1 ∧ Has fr' 32 [] ∧ HH g h' [] F) ∨ (∃ x4, e = .ret ∧ .inr x4 = o1 ∧ Has fr' 32 [(4, .bool x4)] ∧ HH g h' [] F) ∨ False) ?_ ?_
 ·refine Bh (by kernel_rfl) (fun (s : Int) fr' h' => ∃ x3, x3 = s ∧ Has fr' 32 [(5, vs eS x1), (6, vs eS x2), (7, Ai x3)] ∧ HH g h' [] F) ho ⟨_, rfl, H.ls, A⟩ ?_
  clear ho hm H A
  intro s q fr h3 hI hm
  obtain ⟨x3, rfl, H, A⟩ := hI
  unfold B9 at hm
  refine AQ (AG 4 (AO 4 [(20, .bool (decide (x3 < (x2.length : Int))))] H fun fr H => Ad 20 H hm (fun hb hm H => ?_) fun hb hm H => ?_))
  ·refine Bf id (AQ (AV (id := 1) (by kernel_rfl) ?_))
   refine AQ (Ep 7 9 ?_)
   obtain ⟨x5, hx, hm⟩ := bind_some hm
   refine Ap 2 [] 25 (.A8 [.str x5]) h3 H (fun fr => .of (GC (e := eS) (x := x5) encS (by decide) (by kernel_rfl) hx)) fun fr t H => ?_
   refine Aq 26 (.str x5) h3 H (fun fr => .of (G0 (by kernel_rfl))) fun fr t H => ?_
   obtain ⟨x6, hx, hm⟩ := bind_some hm
   refine Ap 2 [] 29 (.A8 [.str x6]) h3 H (fun fr => .of (GC (e := eS) (x := x6) encS (by decide) (by kernel_rfl) hx)) fun fr t H => ?_
   refine Aq 30 (.str x6) h3 H (fun fr => .of (G0 (by kernel_rfl))) fun fr t H => ?_
   refine AO 1 [(31, .bool (!(x5 == x6)))] H fun fr H => Ad 31 H hm (fun hb hm H => ?_) fun hb hm H => ?_
   ·refine AG 1 (AO 1 [(4, .bool false)] H fun fr H => AU ?_)
    exact nr hm fun e => Or.inr (.inl ⟨_, rfl, e, H.ls, A⟩)
   refine Fh 3 id (BV 3 [(5, vs eS x1), (6, vs eS x2), (7, Ai (IntKind.i64.wrap (x3 + 1)))] H fun fr H => at_nil ?_)
   exact nx hm ⟨_, rfl, H.ls, A⟩
  refine BU (i := 0) (by kernel_rfl) ?_
  exact nr hm fun e => .inl ⟨rfl, e, H.ls, A⟩
 clear ho
 clear A
 intro e fr h4 hQ
 rcases hQ with ⟨rfl, rfl, H, A⟩ | ⟨x4, rfl, rfl, H, A⟩ | hF
 ·show AW _ _ _ _ _ _ _
  refine AG 1 (AO 1 [(4, .bool true)] H fun fr H => AU ?_)
  obtain rfl := AY hm
  exact ⟨.inl rfl, _, rH H, rfl, A⟩
 ·obtain rfl := AY hm
  exact ⟨.inl rfl, _, rH H, rfl, A⟩
 exact hF.elim
def HC (p0 : List (List UInt8)) (p1 : List (List UInt8)) (s : Int) : Option ((Int) ⊕ ((Unit) ⊕ (Bool))) :=
 match s with
 | x1 => Aa (decide (x1 < (p0.length : Int))) ((Fc p0 x1).bind fun x3 => (Fc p1 x1).bind fun x4 => Aa (!(x3 == x4)) (some (.inr (.inr false))) (some (.inl (IntKind.i64.wrap (x1 + 1))))) (some (.inr (.inl ())))
def Et (p0 : List (List UInt8)) (p1 : List (List UInt8)) : Option (Bool) :=
 Aa ((p0.length : Int) != (p1.length : Int)) (some false) ((loop (HC p0 p1) (0 : Int)).bind fun o1 => (match o1 with | .inl _ => some true | .inr x2 => some x2))
theorem K1 {p0 p1 q0} (hm : Et p0 p1 = some q0) (A : HH g h [] F) (hc : BF (cfg.still 21) av = [vs eS p0, vs eS p1] := by kernel_rfl) : ∃ v h', BL cfg g h 21 av v h' ∧ v = .bool q0 ∧ HH g h' [] F := by
 refine Dr 26 [.tmp 4] hc ?_
 clear hc
 unfold Et at hm
 refine bg 26 [(0, vs eS p0), (1, vs eS p1)] fun fr H => ?_
 refine AG 1 (AO 1 [] H fun fr H => AQ (AG 5 (AO 5 [(10, .bool ((p0.length : Int) != (p1.length : Int)))] H fun fr H => Ad 10 H hm (fun hb hm H => ?_) fun hb hm H => ?_)))
 ·refine AG 1 (AO 1 [(4, .bool false)] H fun fr H => AU ?_)
  obtain rfl := AY hm
  exact ⟨.inl rfl, _, rH H, rfl, A⟩
 refine Bf id (AQ (AG 1 (AO 1 [(5, Ai 0)] H fun fr H => AV (id := 0) (by kernel_rfl) ?_)))
 obtain ⟨o1, ho, hm⟩ := bind_some hm
 refine Ax (Q' := fun e fr' h' => (e = .exit 0 ∧ .inl () = o1 ∧ Has fr' 26 [] ∧ HH g h' [] F) ∨ (∃ x2, e = .ret ∧ .inr x2 = o1 ∧ Has fr' 26 [(4, .bool x2)] ∧ HH g h' [] F) ∨ False) ?_ ?_
 ·refine Bh (by kernel_rfl) (fun (s : Int) fr' h' => ∃ x1, x1 = s ∧ Has fr' 26 [(0, vs eS p0), (1, vs eS p1), (5, Ai x1)] ∧ HH g h' [] F) ho ⟨_, rfl, H.ls, A⟩ ?_
  clear ho hm H A
  intro s q fr h1 hI hm
  obtain ⟨x1, rfl, H, A⟩ := hI
  unfold HC at hm
  refine AQ (AG 4 (AO 4 [(14, .bool (decide (x1 < (p0.length : Int))))] H fun fr H => Ad 14 H hm (fun hb hm H => ?_) fun hb hm H => ?_))
  ·refine Bf id (AQ (AV (id := 1) (by kernel_rfl) ?_))
   refine AQ (Ep 6 9 ?_)
   obtain ⟨x3, hx, hm⟩ := bind_some hm
   refine Ap 2 [] 19 (.A8 [.str x3]) h1 H (fun fr => .of (GC (e := eS) (x := x3) encS (by decide) (by kernel_rfl) hx)) fun fr t H => ?_
   refine Aq 20 (.str x3) h1 H (fun fr => .of (G0 (by kernel_rfl))) fun fr t H => ?_
   obtain ⟨x4, hx, hm⟩ := bind_some hm
   refine Ap 2 [] 23 (.A8 [.str x4]) h1 H (fun fr => .of (GC (e := eS) (x := x4) encS (by decide) (by kernel_rfl) hx)) fun fr t H => ?_
   refine Aq 24 (.str x4) h1 H (fun fr => .of (G0 (by kernel_rfl))) fun fr t H => ?_
   refine AO 1 [(25, .bool (!(x3 == x4)))] H fun fr H => Ad 25 H hm (fun hb hm H => ?_) fun hb hm H => ?_
   ·refine AG 1 (AO 1 [(4, .bool false)] H fun fr H => AU ?_)
    exact nr hm fun e => Or.inr (.inl ⟨_, rfl, e, H.ls, A⟩)
   refine Fh 3 id (BV 3 [(0, vs eS p0), (1, vs eS p1), (5, Ai (IntKind.i64.wrap (x1 + 1)))] H fun fr H => at_nil ?_)
   exact nx hm ⟨_, rfl, H.ls, A⟩
  refine BU (i := 0) (by kernel_rfl) ?_
  exact nr hm fun e => .inl ⟨rfl, e, H.ls, A⟩
 clear ho
 clear A
 intro e fr h2 hQ
 rcases hQ with ⟨rfl, rfl, H, A⟩ | ⟨x2, rfl, rfl, H, A⟩ | hF
 ·show AW _ _ _ _ _ _ _
  refine AG 1 (AO 1 [(4, .bool true)] H fun fr H => AU ?_)
  obtain rfl := AY hm
  exact ⟨.inl rfl, _, rH H, rfl, A⟩
 ·obtain rfl := AY hm
  exact ⟨.inl rfl, _, rH H, rfl, A⟩
 exact hF.elim
def Bu (p0 : List (List UInt8)) (p1 : List UInt8) (p2 : Int) (x1 : List (List UInt8)) (x2 : Bool) (s : Int) : Option ((Int) ⊕ ((Unit) ⊕ (Bool))) :=
 match s with
 | x4 => Aa (decide (x4 < (p0.length : Int))) ((Fc p0 x4).bind fun x6 => (Bp x6).bind fun x7 => ((Fc p0 x4).bind fun x9 => (C5 p1 x9).bind fun x10 => Aa x10 (Aa (((decide (p2 > 1)) || (!x2)) || ((x1.length : Int) != (IntKind.i64.wrap ((x7.length : Int) + 1)))) (some (.inr true)) (some (.inl ()))) (some (.inl ())) : Option ((Unit) ⊕ (Bool))).bind fun o2 => (match o2 with | .inl _ => (Aa ((p2 == 3) && (decide ((x1.length : Int) > 0))) ((Et x1 x7).bind fun x12 => some x12) (some false) : Option (Bool)).bind fun x11 => Aa x11 (some (.inr (.inr true))) (some (.inl (IntKind.i64.wrap (x4 + 1)))) | .inr x8 => some (.inr (.inr x8)))) (some (.inr (.inl ())))
def CE (p0 : List (List UInt8)) (p1 : List UInt8) (p2 : Int) : Option (Bool) :=
 Aa ((decide (p2 < 1)) || (decide (p2 > 3))) (some false) ((Bp p1).bind fun x1 => (Aa (decide ((x1.length : Int) > 0)) ((Fc x1 (IntKind.i64.wrap ((x1.length : Int) - 1))).bind fun x3 => some (x3 == ([67, 65, 67, 72, 69, 68, 73, 82, 46, 84, 65, 71] : List UInt8))) (some false) : Option (Bool)).bind fun x2 => (loop (Bu p0 p1 p2 x1 x2) (0 : Int)).bind fun o1 => (match o1 with | .inl _ => some false | .inr x5 => some x5))
theorem Je {p0 p1 p2 rp0 q0} (hm : CE p0 p1 p2 = some q0) (A : HH g h [.AI rp0 9 (AI eS p0)] F) (hc : BF (cfg.still 27) av = [AF rp0 p0.length, .str p1, Ai p2] := by kernel_rfl) : ∃ v h', BL cfg g h 27 av v h' ∧ v = .bool q0 ∧ HH g h' [.AI rp0 9 (AI eS p0)] F := by
 refine Dr 74 [.tmp 6] hc ?_
 clear hc
 unfold CE at hm
 refine bg 74 [(0, AF rp0 p0.length), (1, .str p1), (2, Ai p2)] fun fr H => ?_
 refine AG 1 (AO 1 [] H fun fr H => AQ (AG 6 (AK 3 [(13, .bool (decide (p2 < 1)))] H fun fr H => A9 3 (fun fr' h' => h = h' ∧ Has fr' 74 [(0, AF rp0 p0.length), (1, .str p1), (2, Ai p2), (16, .bool ((decide (p2 < 1)) || (decide (p2 > 3))))]) ?_ ?_)))
 ·cases hb : (decide (p2 < 1) : Bool) with
  | true =>
   replace H := H.kn 13 hb
   exact AK 3 [(16, .bool true)] H fun fr H => BH H hb
  | false =>
   replace H := H.kn 13 hb
   exact AK 3 [(16, .bool (decide (p2 > 3)))] H fun fr H => BH H hb
 intro t fr h' hK
 obtain ⟨e, H⟩ := hK
 subst e
 refine BJ id (Ad 16 H hm (fun hb hm H => ?_) fun hb hm H => ?_)
 ·refine AG 1 (AO 1 [(6, .bool false)] H fun fr H => AU ?_)
  obtain rfl := AY hm
  exact ⟨.inl rfl, _, rH H, rfl, A⟩
 refine Ce 3 id ?_
 obtain ⟨x1, hx, hm⟩ := bind_some hm
 obtain ⟨v1, h1, hr, rfl, A1⟩ := Ct (av := [.str p1]) hx (A.cut 0)
 replace A := A.EX A1
 refine A0 1 [] 18 hr H fun fr t H => ?_
 refine Bc 1 [(7, vs eS x1)] 13 H fun fr H => AK 4 [(22, .bool (decide ((x1.length : Int) > 0)))] H fun fr H => ?_
 obtain ⟨x2, ho, hm⟩ := bind_some hm
 refine A9 8 (fun fr' h' => Has fr' 74 [(0, AF rp0 p0.length), (1, .str p1), (2, Ai p2), (7, vs eS x1), (30, .bool x2)] ∧ HH g h' [.AI rp0 9 (AI eS p0)] F) ?_ ?_
 ·rcases AX ho with ⟨hb, hm⟩ | ⟨hb, hm⟩
  ·replace H := H.kn 22 hb
   obtain ⟨x3, hx, hm⟩ := bind_some hm
   refine Ap 4 [] 27 (.A8 [.str x3]) h1 H (fun fr => .of (GC (e := eS) (x := x3) encS (by decide) (by kernel_rfl) hx)) fun fr t H => ?_
   refine Aq 28 (.str x3) h1 H (fun fr => .of (G0 (by kernel_rfl))) fun fr t H => ?_
   refine AK 2 [(30, .bool (x3 == ([67, 65, 67, 72, 69, 68, 73, 82, 46, 84, 65, 71] : List UInt8)))] H fun fr H => ?_
   obtain rfl := AY hm
   exact at_nil ⟨H.ls, A⟩
  replace H := H.kn 22 hb
  refine AK 8 [(30, .bool false)] H fun fr H => ?_
  obtain rfl := AY hm
  exact at_nil ⟨H.ls, A⟩
 clear A
 intro t fr h2 hK
 obtain ⟨H, A⟩ := hK
 refine AO 1 [(8, .bool x2)] H fun fr H => AQ (AG 1 (AO 1 [(9, Ai 0)] H fun fr H => AV (id := 0) (by kernel_rfl) ?_))
 obtain ⟨o1, ho, hm⟩ := bind_some hm
 refine Ax (Q' := fun e fr' h' => (e = .exit 0 ∧ .inl () = o1 ∧ Has fr' 74 [] ∧ HH g h' [.AI rp0 9 (AI eS p0)] F) ∨ (∃ x5, e = .ret ∧ .inr x5 = o1 ∧ Has fr' 74 [(6, .bool x5)] ∧ HH g h' [.AI rp0 9 (AI eS p0)] F) ∨ False) ?_ ?_
 ·refine Bh (by kernel_rfl) (fun (s : Int) fr' h' => ∃ x4, x4 = s ∧ Has fr' 74 [(0, AF rp0 p0.length), (1, .str p1), (2, Ai p2), (7, vs eS x1), (8, .bool x2), (9, Ai x4)] ∧ HH g h' [.AI rp0 9 (AI eS p0)] F) ho ⟨_, rfl, H.ls, A⟩ ?_
  clear ho hm H A
  intro s q fr h3 hI hm
  obtain ⟨x4, rfl, H, A⟩ := hI
  unfold Bu at hm
  refine AQ (AG 4 (AO 4 [(34, .bool (decide (x4 < (p0.length : Int))))] H fun fr H => Ad 34 H hm (fun hb hm H => ?_) fun hb hm H => ?_))
  ·refine Bf id (AQ (AV (id := 1) (by kernel_rfl) ?_))
   refine AG 6 ?_
   obtain ⟨x6, hx, hm⟩ := bind_some hm
   obtain ⟨i1, er1, _, hx, hq1⟩ := HH.Kn encS (by decide) A 0 (xs := p0) rfl hx
   refine Ap 2 [] 39 (.ptr (some (i1, x4.toNat * 1))) h3 H (fun fr => .of (Dc (s := Cs rp0 p0.length) (by kernel_rfl) hx)) fun fr t H => ?_
   refine Aq 40 _ _ H (fun fr => .of (Da (by kernel_rfl) (DD encS (HH.row A 0 rfl er1) hq1 (o := 0) rfl))) fun fr t H => ?_
   obtain ⟨x7, hx, hm⟩ := bind_some hm
   obtain ⟨v1, h4, hr, rfl, A1⟩ := Ct (av := [.str x6]) hx (A.cut 0)
   replace A := A.EX A1
   refine BA 41 hr H fun fr t H => ?_
   refine AO 1 [(10, vs eS x7)] H fun fr H => AQ ?_
   obtain ⟨o2, ho, hm⟩ := bind_some hm
   refine Ax (Q' := fun e fr' h' => (e = .normal ∧ .inl () = o2 ∧ Has fr' 74 [(0, AF rp0 p0.length), (1, .str p1), (2, Ai p2), (7, vs eS x1), (8, .bool x2), (9, Ai x4), (10, vs eS x7)] ∧ HH g h' [.AI rp0 9 (AI eS p0)] F) ∨ (∃ x8, e = .ret ∧ .inr x8 = o2 ∧ Has fr' 74 [(6, .bool x8)] ∧ HH g h' [.AI rp0 9 (AI eS p0)] F) ∨ False) ?_ ?_
   ·replace hm := ho
    clear ho
    refine AG 6 ?_
    obtain ⟨x9, hx, hm⟩ := bind_some hm
    obtain ⟨i2, er2, _, hx, hq2⟩ := HH.Kn encS (by decide) A 0 (xs := p0) rfl hx
    refine Ap 3 [(42, .str p1)] 45 (.ptr (some (i2, x4.toNat * 1))) h4 H (fun fr => .of (Dc (s := Cs rp0 p0.length) (by kernel_rfl) hx)) fun fr t H => ?_
    refine Aq 46 _ _ H (fun fr => .of (Da (by kernel_rfl) (DD encS (HH.row A 0 rfl er2) hq2 (o := 0) rfl))) fun fr t H => ?_
    obtain ⟨x10, hx, hm⟩ := bind_some hm
    obtain ⟨v1, h5, hr, rfl, A1⟩ := Kj (av := [.str p1, .str x9]) hx (A.cut 0)
    replace A := A.EX A1
    refine BA 47 hr H fun fr t H => ?_
    refine BJ id (Ad 47 H hm (fun hb hm H => ?_) fun hb hm H => ?_)
    ·refine AG 14 (AK 3 [(50, .bool (decide (p2 > 1)))] H fun fr H => A9 3 (fun fr' h' => h5 = h' ∧ Has fr' 74 [(0, AF rp0 p0.length), (1, .str p1), (2, Ai p2), (7, vs eS x1), (8, .bool x2), (9, Ai x4), (10, vs eS x7), (53, .bool ((decide (p2 > 1)) || (!x2)))]) ?_ ?_)
     ·cases hb : (decide (p2 > 1) : Bool) with
      | true =>
       replace H := H.kn 50 hb
       exact AK 3 [(53, .bool true)] H fun fr H => BH H hb
      | false =>
       replace H := H.kn 50 hb
       exact AK 3 [(53, .bool (!x2))] H fun fr H => BH H hb
     intro t fr h' hK
     obtain ⟨e, H⟩ := hK
     subst e
     refine AK 1 [(54, .bool ((decide (p2 > 1)) || (!x2)))] H fun fr H => A9 7 (fun fr' h' => h5 = h' ∧ Has fr' 74 [(0, AF rp0 p0.length), (1, .str p1), (2, Ai p2), (7, vs eS x1), (8, .bool x2), (9, Ai x4), (10, vs eS x7), (61, .bool (((decide (p2 > 1)) || (!x2)) || ((x1.length : Int) != (IntKind.i64.wrap ((x7.length : Int) + 1)))))]) ?_ ?_
     ·cases hb : ((decide (p2 > 1)) || (!x2) : Bool) with
      | true =>
       replace H := H.kn 54 hb
       exact AK 7 [(61, .bool true)] H fun fr H => BH H hb
      | false =>
       replace H := H.kn 54 hb
       exact AK 7 [(61, .bool ((x1.length : Int) != (IntKind.i64.wrap ((x7.length : Int) + 1))))] H fun fr H => BH H hb
     intro t fr h' hK
     obtain ⟨e, H⟩ := hK
     subst e
     refine BJ id (Ad 61 H hm (fun hb hm H => ?_) fun hb hm H => ?_)
     ·refine AG 1 (AO 1 [(6, .bool true)] H fun fr H => AU ?_)
      exact .inr (.inl ⟨_, rfl, AY hm, H.ls, A⟩)
     exact FL (.inl ⟨rfl, AY hm, H.ls, A⟩)
    exact FL (.inl ⟨rfl, AY hm, H.ls, A⟩)
   clear ho
   clear A
   intro e fr h6 hQ
   rcases hQ with ⟨rfl, rfl, H, A⟩ | ⟨x8, rfl, rfl, H, A⟩ | hF
   ·show AW _ _ _ _ _ _ _
    refine AG 12 (AK 3 [(64, .bool (p2 == 3))] H fun fr H => A9 4 (fun fr' h' => h6 = h' ∧ Has fr' 74 [(0, AF rp0 p0.length), (1, .str p1), (2, Ai p2), (7, vs eS x1), (8, .bool x2), (9, Ai x4), (10, vs eS x7), (68, .bool ((p2 == 3) && (decide ((x1.length : Int) > 0))))]) ?_ ?_)
    ·cases hb : (p2 == 3 : Bool) with
     | true =>
      replace H := H.kn 64 hb
      exact AK 4 [(68, .bool (decide ((x1.length : Int) > 0)))] H fun fr H => BH H hb
     | false =>
      replace H := H.kn 64 hb
      exact AK 4 [(68, .bool false)] H fun fr H => BH H hb
    intro t fr h' hK
    obtain ⟨e, H⟩ := hK
    subst e
    refine AK 1 [(69, .bool ((p2 == 3) && (decide ((x1.length : Int) > 0))))] H fun fr H => ?_
    obtain ⟨x11, ho, hm⟩ := bind_some hm
    refine A9 4 (fun fr' h' => Has fr' 74 [(0, AF rp0 p0.length), (1, .str p1), (2, Ai p2), (7, vs eS x1), (8, .bool x2), (9, Ai x4), (73, .bool x11)] ∧ HH g h' [.AI rp0 9 (AI eS p0)] F) ?_ ?_
    ·rcases AX ho with ⟨hb, hm⟩ | ⟨hb, hm⟩
     ·replace H := H.kn 69 hb
      obtain ⟨x12, hx, hm⟩ := bind_some hm
      obtain ⟨v1, h8, hr, rfl, A1⟩ := K1 (av := [vs eS x1, vs eS x7]) hx (A.cut 0)
      replace A := A.EX A1
      refine A0 2 [] 72 hr H fun fr t H => ?_
      refine AK 1 [(73, .bool x12)] H fun fr H => ?_
      obtain rfl := AY hm
      exact at_nil ⟨H.ls, A⟩
     replace H := H.kn 69 hb
     refine AK 4 [(73, .bool false)] H fun fr H => ?_
     obtain rfl := AY hm
     exact at_nil ⟨H.ls, A⟩
    clear A
    intro t fr h7 hK
    obtain ⟨H, A⟩ := hK
    refine BJ id (Ad 73 H hm (fun hb hm H => ?_) fun hb hm H => ?_)
    ·refine AG 1 (AO 1 [(6, .bool true)] H fun fr H => AU ?_)
     exact nr hm fun e => Or.inr (.inl ⟨_, rfl, e, H.ls, A⟩)
    refine Fh 3 id (BV 3 [(0, AF rp0 p0.length), (1, .str p1), (2, Ai p2), (7, vs eS x1), (8, .bool x2), (9, Ai (IntKind.i64.wrap (x4 + 1)))] H fun fr H => at_nil ?_)
    exact nx hm ⟨_, rfl, H.ls, A⟩
   ·exact nr hm fun e => Or.inr (.inl ⟨_, rfl, e, H.ls, A⟩)
   exact hF.elim
  refine BU (i := 0) (by kernel_rfl) ?_
  exact nr hm fun e => .inl ⟨rfl, e, H.ls, A⟩
 clear ho
 clear A
 intro e fr h9 hQ
 rcases hQ with ⟨rfl, rfl, H, A⟩ | ⟨x5, rfl, rfl, H, A⟩ | hF
 ·show AW _ _ _ _ _ _ _
  refine AG 1 (AO 1 [(6, .bool false)] H fun fr H => AU ?_)
  obtain rfl := AY hm
  exact ⟨.inl rfl, _, rH H, rfl, A⟩
 ·obtain rfl := AY hm
  exact ⟨.inl rfl, _, rH H, rfl, A⟩
 exact hF.elim
def CI (p0 : List AN) (s : Int) : Option ((Int) ⊕ ((Unit) ⊕ (Bool))) :=
 match s with
 | x2 => Aa (decide (x2 < (p0.length : Int))) ((Fc p0 x2).bind fun x4 => (Cl x4).bind fun x5 => Aa x5 ((C8).bind fun x6 => some (.inr (.inr x6))) (some (.inl (IntKind.i64.wrap (x2 + 1))))) (some (.inr (.inl ())))
def DJ (p0 : List AN) (p1 : List UInt8) (p2 : Int) : Option (Bool) :=
 Aa ((decide ((p0.length : Int) > 10)) || (decide ((p1.length : Int) > 200))) ((C8).bind fun x1 => some x1) ((loop (CI p0) (0 : Int)).bind fun o1 => (match o1 with | .inl _ => (F5 p0).bind fun x7w4 => (Dy p0).bind fun x8 => (DT x7w4).bind fun x9 => (C0 x9 x8).bind fun x10 => (Aa x10 ((CF x7w4 p1 p2).bind fun x12 => (CE x8 p1 p2).bind fun x13 => some (x12 == x13)) (some false) : Option (Bool)).bind fun x11 => (Aa x11 ((C8).bind fun x15 => some x15) (some false) : Option (Bool)).bind fun x14 => some x14 | .inr x3 => some x3))
theorem IS {p0 p1 p2 q0} (hm : DJ p0 p1 p2 = some q0) (A : HH g h [] F) (hc : BF (cfg.still 6) av = [vs AD p0, .str p1, Ai p2] := by kernel_rfl) : ∃ v h', BL cfg g h 6 av v h' ∧ v = .bool q0 ∧ HH g h' [] F := by
 refine Dr 56 [.tmp 6] hc ?_
 clear hc
 unfold DJ at hm
 refine bg 56 [(0, vs AD p0), (1, .str p1), (2, Ai p2)] fun fr H => ?_
 refine AG 1 (AO 1 [] H fun fr H => AQ (AG 8 (AK 4 [(14, .bool (decide ((p0.length : Int) > 10)))] H fun fr H => A9 4 (fun fr' h' => h = h' ∧ Has fr' 56 [(0, vs AD p0), (1, .str p1), (2, Ai p2), (18, .bool ((decide ((p0.length : Int) > 10)) || (decide ((p1.length : Int) > 200))))]) ?_ ?_)))
 ·cases hb : (decide ((p0.length : Int) > 10) : Bool) with
  | true =>
   replace H := H.kn 14 hb
   exact AK 4 [(18, .bool true)] H fun fr H => BH H hb
  | false =>
   replace H := H.kn 14 hb
   exact AK 4 [(18, .bool (decide ((p1.length : Int) > 200)))] H fun fr H => BH H hb
 intro t fr h' hK
 obtain ⟨e, H⟩ := hK
 subst e
 refine BJ id (Ad 18 H hm (fun hb hm H => ?_) fun hb hm H => ?_)
 ·refine AG 2 ?_
  obtain ⟨x1, hx, hm⟩ := bind_some hm
  obtain ⟨v1, h1, hr, rfl, A1⟩ := Fe (av := []) hx (A.cut 0)
  replace A := A.EX A1
  refine BA 19 hr H fun fr t H => ?_
  refine AO 1 [(6, .bool x1)] H fun fr H => AU ?_
  obtain rfl := AY hm
  exact ⟨.inl rfl, _, rH H, rfl, A⟩
 refine Bf id (AQ (AG 3 (AO 3 [(20, vs AD p0), (21, Ai (p0.length : Int)), (22, Ai 0)] H fun fr H => AV (id := 0) (by kernel_rfl) ?_)))
 obtain ⟨o1, ho, hm⟩ := bind_some hm
 refine Ax (Q' := fun e fr' h' => (e = .exit 0 ∧ .inl () = o1 ∧ Has fr' 56 [(0, vs AD p0), (1, .str p1), (2, Ai p2)] ∧ HH g h' [] F) ∨ (∃ x3, e = .ret ∧ .inr x3 = o1 ∧ Has fr' 56 [(6, .bool x3)] ∧ HH g h' [] F) ∨ False) ?_ ?_
 ·refine Bh (by kernel_rfl) (fun (s : Int) fr' h' => ∃ x2, x2 = s ∧ Has fr' 56 [(0, vs AD p0), (1, .str p1), (2, Ai p2), (20, vs AD p0), (21, Ai (p0.length : Int)), (22, Ai x2)] ∧ HH g h' [] F) ho ⟨_, rfl, H.ls, A⟩ ?_
  clear ho hm H A
  intro s q fr h2 hI hm
  obtain ⟨x2, rfl, H, A⟩ := hI
  unfold CI at hm
  refine AG 1 (AO 1 [(23, .bool (decide (x2 < (p0.length : Int))))] H fun fr H => AQ (Ad 23 H hm (fun hb hm H => ?_) fun hb hm H => ?_))
  ·refine Bf id (AQ (AV (id := 1) (by kernel_rfl) ?_))
   refine AG 4 ?_
   obtain ⟨x4, hx, hm⟩ := bind_some hm
   refine Aq 24 (.A8 (AD x4)) h2 H (fun fr => .of (GC (e := AD) (x := x4) Bg (by decide) (by kernel_rfl) hx)) fun fr t H => ?_
   refine Aq 25 (.agg (AD x4)) h2 H (fun fr => .of (G0 (by kernel_rfl))) fun fr t H => ?_
   obtain ⟨h3, e1, A⟩ := A.pu (.cells none 2 [.str ([] : List UInt8), .str ([] : List UInt8), Ab 0, Ai 0, Ai 0, Ai 0, .str ([] : List UInt8), .str ([] : List UInt8), Ai 0, Ai 0, Ai 0, Ai 0, .slice none 0, .str ([] : List UInt8)])
   refine BB 8 (.ptr (some (h2.size, 0))) e1 H fun fr t H => ?_
   obtain ⟨h4, hx, A⟩ := A.s0 0 (AD x4) [_, _, _, _, _, _, _, _, _, _, _, _, _, _]
   refine F4 hx H fun fr t H => ?_
   refine CX 2 id (Aq 26 _ _ H (fun fr => .of (CG (by kernel_rfl) (A.HG 0 rfl (o := 0) (n := 14) ⟨Nat.le_of_ble_eq_true rfl, rfl⟩))) fun fr t H => ?_)
   obtain ⟨x5, hx, hm⟩ := bind_some hm
   obtain ⟨v1, h5, hr, rfl, A1⟩ := Kr (av := [.agg (AD x4)]) hx (A.cut 0)
   replace A := A.EX A1
   refine BA 27 hr H fun fr t H => ?_
   refine BJ id (Ad 27 H hm (fun hb hm H => ?_) fun hb hm H => ?_)
   ·refine AG 2 ?_
    obtain ⟨x6, hx, hm⟩ := bind_some hm
    obtain ⟨v1, h6, hr, rfl, A1⟩ := Fe (av := []) hx (A.cut 0)
    replace A := A.EX A1
    refine BA 28 hr H fun fr t H => ?_
    refine AO 1 [(6, .bool x6)] H fun fr H => AU ?_
    replace A := A.d0
    exact nr hm fun e => Or.inr (.inl ⟨_, rfl, e, H.ls, A⟩)
   refine Fh 2 id (BV 2 [(0, vs AD p0), (1, .str p1), (2, Ai p2), (20, vs AD p0), (21, Ai (p0.length : Int)), (22, Ai (IntKind.i64.wrap (x2 + 1)))] H fun fr H => at_nil ?_)
   replace A := A.d0
   exact nx hm ⟨_, rfl, H.ls, A⟩
  refine BU (i := 0) (by kernel_rfl) ?_
  exact nr hm fun e => .inl ⟨rfl, e, H.ls, A⟩
 clear ho
 clear A
 intro e fr h7 hQ
 rcases hQ with ⟨rfl, rfl, H, A⟩ | ⟨x3, rfl, rfl, H, A⟩ | hF
 ·show AW _ _ _ _ _ _ _
  refine AG 3 ?_
  obtain ⟨x7w4, hx, hm⟩ := bind_some hm
  obtain ⟨v1, h8, hr, bx7w4, bx7w4_0, rfl, A1⟩ := N8 (av := [vs AD p0]) hx (A.cut 0)
  replace A := A.YE A1
  refine A0 1 [] 31 hr H fun fr t H => ?_
  refine Bc 1 [(9, .ptr (some (bx7w4, 0)))] 3 H fun fr H => ?_
  obtain ⟨x8, hx, hm⟩ := bind_some hm
  obtain ⟨v1, h9, hr, rqw5, rfl, A1⟩ := Lf (av := [vs AD p0]) hx (A.cut 0)
  replace A := A.YL A1
  refine A0 1 [] 33 hr H fun fr t H => ?_
  refine Bc 1 [(10, AF rqw5 x8.length)] 23 H fun fr H => ?_
  replace A := A.k3 1 2 0
  obtain ⟨x9, hx, hm⟩ := bind_some hm
  obtain ⟨v1, h10, hr, rqw6, rfl, A1⟩ := KP (av := [.ptr (some (bx7w4, 0))]) hx (A.cut 2)
  replace A := A.g23 A1
  refine A0 4 [(36, .bool true)] 38 hr H fun fr t H => ?_
  replace A := A.k4 0 3 1 2
  obtain ⟨x10, hx, hm⟩ := bind_some hm
  obtain ⟨v1, h11, hr, rfl, A1⟩ := Jp (av := [AF rqw6 x9.length, AF rqw5 x8.length]) hx (A.cut 2)
  replace A := A.g22 A1
  refine A0 1 [] 40 hr H fun fr t H => ?_
  refine AK 2 [(42, .bool x10)] H fun fr H => ?_
  obtain ⟨x11, ho, hm⟩ := bind_some hm
  refine A9 10 (fun fr' h' => Has fr' 56 [(52, .bool x11)] ∧ HH g h' [.obj bx7w4 (.cells none 2 [.map (some bx7w4_0)]), .obj bx7w4_0 (.map 2 (BS (fun k : List UInt8 => .str k) (fun v : Bool => .bool v) x7w4.Cf))] F) ?_ ?_
  ·rcases AX ho with ⟨hb, hm⟩ | ⟨hb, hm⟩
   ·replace H := H.kn 42 hb
    replace A := A.k4 2 3 0 1
    obtain ⟨x12, hx, hm⟩ := bind_some hm
    obtain ⟨v1, h13, hr, rfl, A1⟩ := HO (av := [.ptr (some (bx7w4, 0)), .str p1, Ai p2]) hx (A.cut 2)
    replace A := A.g22 A1
    refine A0 3 [] 46 hr H fun fr t H => ?_
    replace A := A.k4 3 0 1 2
    obtain ⟨x13, hx, hm⟩ := bind_some hm
    obtain ⟨v1, h14, hr, rfl, A1⟩ := Je (av := [AF rqw5 x8.length, .str p1, Ai p2]) hx (A.cut 1)
    replace A := A.g11 A1
    refine A0 3 [] 50 hr H fun fr t H => ?_
    refine AK 2 [(52, .bool (x12 == x13))] H fun fr H => ?_
    obtain rfl := AY hm
    replace A := A.k2 1 2
    exact at_nil ⟨H.ls, A⟩
   replace H := H.kn 42 hb
   refine AK 10 [(52, .bool false)] H fun fr H => ?_
   obtain rfl := AY hm
   replace A := A.k2 2 3
   exact at_nil ⟨H.ls, A⟩
  clear A
  intro t fr h12 hK
  obtain ⟨H, A⟩ := hK
  refine AK 1 [(53, .bool x11)] H fun fr H => ?_
  obtain ⟨x14, ho, hm⟩ := bind_some hm
  refine A9 2 (fun fr' h' => Has fr' 56 [(55, .bool x14)] ∧ HH g h' [.obj bx7w4 (.cells none 2 [.map (some bx7w4_0)]), .obj bx7w4_0 (.map 2 (BS (fun k : List UInt8 => .str k) (fun v : Bool => .bool v) x7w4.Cf))] F) ?_ ?_
  ·rcases AX ho with ⟨hb, hm⟩ | ⟨hb, hm⟩
   ·replace H := H.kn 53 hb
    obtain ⟨x15, hx, hm⟩ := bind_some hm
    obtain ⟨v1, h16, hr, rfl, A1⟩ := Fe (av := []) hx (A.cut 0)
    replace A := A.EX A1
    refine BA 54 hr H fun fr t H => ?_
    refine AK 1 [(55, .bool x15)] H fun fr H => ?_
    obtain rfl := AY hm
    exact at_nil ⟨H.ls, A⟩
   replace H := H.kn 53 hb
   refine AK 2 [(55, .bool false)] H fun fr H => ?_
   obtain rfl := AY hm
   exact at_nil ⟨H.ls, A⟩
  clear A
  intro t fr h15 hK
  obtain ⟨H, A⟩ := hK
  refine AO 1 [(6, .bool x14)] H fun fr H => AU ?_
  obtain rfl := AY hm
  refine ⟨.inl rfl, .bool x14, rH H, ?_⟩
  replace A := A.d0
  exact ⟨rfl, A⟩
 ·obtain rfl := AY hm
  exact ⟨.inl rfl, _, rH H, rfl, A⟩
 exact hF.elim
end
end Go.Av.L
