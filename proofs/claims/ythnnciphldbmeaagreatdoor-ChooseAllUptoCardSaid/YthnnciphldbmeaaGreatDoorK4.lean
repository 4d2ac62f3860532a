/-
 Models of functions, and that the abstract run tells them. Written by lift2.py.
-/
import Derived.Test.YthnnciphldbmeaaGreatDoorKCfg
import Derived.Test.YthnnciphldbmeaaGreatDoorK2
import Derived.Test.YthnnciphldbmeaaGreatDoorK3
namespace Go.Av.L
open Go.Av Go.Lib
set_option maxRecDepth 10000
set_option maxHeartbeats 4000000
set_option linter.unusedVariables false
set_option linter.unusedSimpArgs false
variable {g : Gd} {h : AH} {F : List Ck} {av : List AA}
noncomputable section
def Fv (x1 : List UInt8) (v1 : Int) (x5 : List Int) (s : Int) : Option ((Int) ⊕ ((Unit) ⊕ (Bool))) :=
 match s with
 | x6 => Ae (decide (x6 < (x5.length : Int))) ((HR x5 x6).bind fun x8 => (Ae ((IntKind.i64.wrap (v1 + x8)) == (x1.length : Int)) (some true) ((Nb x1 (IntKind.i64.wrap (v1 + x8))).bind fun x10 => some (x10 == 47)) : Option (Bool)).bind fun x9 => Ae x9 (some (.inr (.inr true))) (some (.inl (IntKind.i64.wrap (x6 + 1))))) (some (.inr (.inl ())))
def EO (p0 : Ag) (x1 : List UInt8) (s : Unit) (v1 : Int) : Option ((Unit) ⊕ ((Bool))) :=
 match s with
 | _ => (LP x1 (some v1) none).bind fun x4 => (GF p0.t_ x4).bind fun x5 => (loop (Fv x1 v1 x5) (0 : Int)).bind fun o1 => (match o1 with | .inl _ => some (.inl ()) | .inr x7 => some (.inr x7))
def FJ (p0 : Ag) (p1 : List UInt8) : Option (Bool) :=
 (IV p1).bind fun x1 => (Eo p0 x1).bind fun (x2_10, x2_11) => (DQ (EO p0 x1) (.inl ()) x2_10 x2_11).bind fun y1 => (match y1 with | .inl _ => some false | .inr x3 => some x3)
theorem JY {p0 p1 q0} (hm : FJ p0 p1 = some q0) (A : HH g h [] F) (hc : BI (cfg.still 138) av = [.A7 (AB p0), .str p1] := by kernel_rfl) : ∃ v h', BL cfg g h 138 av v h' ∧ v = .bool q0 ∧ HH g h' [] F := by
 refine D5 42 [.cell 4 4] hc ?_
 clear hc
 unfold FJ at hm
 refine bg 42 [(0, .A7 (AB p0)), (1, .str p1)] fun fr H => ?_
 refine AG 3 ?_
 obtain ⟨h1, e1, A⟩ := A.pu (.cells none 2 [.A7 (AB p0)])
 refine BC 2 (.ptr (some (h.size, 0))) e1 H fun fr t H => ?_
 obtain ⟨h2, e2, A⟩ := A.pu (.cells none 2 [.str p1])
 refine BC 3 (.ptr (some (h1.size, 0))) e2 H fun fr t H => ?_
 obtain ⟨h3, e3, A⟩ := A.pu (.cells none 2 [.bool false])
 refine BC 4 (.ptr (some (h2.size, 0))) e3 H fun fr t H => ?_
 refine Cj 3 id (Eu 9 1 0 A H fun fr t H => ?_)
 obtain ⟨x1, hx, hm⟩ := bind_some hm
 obtain ⟨v1, h4, hr, rfl, A1⟩ := NN (av := [.str p1]) hx (A.cut 0)
 replace A : HH g h4 [.obj h2.size (.cells none 2 [.bool false]), .obj h1.size (.cells none 2 [.str p1]), .obj h.size (.cells none 2 [.A7 (AB p0)])] F := A.CL (n := 0) A1
 refine Ay 10 hr H fun fr t H => ?_
 obtain ⟨h5, hx, A⟩ := A.s1 0 [.str x1] [_]
 refine Jo hx H fun fr t H => ?_
 refine BB id (AQ (AG 3 (Eu 11 2 0 A H fun fr t H => ?_)))
 refine Eu 12 1 0 A H fun fr t H => ?_
 obtain ⟨⟨x2_10, x2_11⟩, hx, hm⟩ := bind_some hm
 obtain ⟨v1, h6, hr, bqw2_10, bqw2_11, rfl, A1⟩ := It (av := [.A7 (AB p0), .str x1]) hx (A.cut 0)
 replace A := A.XM A1
 refine Ay 13 hr H fun fr t H => ?_
 refine BB id (AX (id := 0) (by kernel_rfl) ?_)
 obtain ⟨y1, ho, hm⟩ := bind_some hm
 refine Qf (C := cfg) (x := .tmp 13) (ps := [14]) (f' := 263) (first := []) (cap := [.ptr (some (bqw2_10, 0)), .ptr (some (bqw2_11, 0))]) (Lu := [.obj bqw2_10 (.cells none 2 [.A7 (AB x2_10)]), .obj bqw2_11 (.cells none 2 [.str x2_11])]) (Lc := [.obj h2.size (.cells none 2 [.bool false]), .obj h1.size (.cells none 2 [.str x1]), .obj h.size (.cells none 2 [.A7 (AB p0)])]) (F := F) (ex := fun x => [Ai x]) (Y := EO p0 x1) (PL := fun s Lc => () = s ∧ Lc = [.obj h2.size (.cells none 2 [.bool false]), .obj h1.size (.cells none 2 [.str x1]), .obj h.size (.cells none 2 [.A7 (AB p0)])]) (PR := fun r Lc => (∃ (x3 : Bool), x3 = r ∧ Lc = [.obj h2.size (.cells none 2 [.bool x3]), .obj h1.size (.cells none 2 [.str x1]), .obj h.size (.cells none 2 [.A7 (AB p0)])]) ∨ False) (pe := fun _ => .ret) (s := ()) (y := y1) (PU := fun L => L = [.obj bqw2_10 (.cells none 2 [.A7 (AB x2_10)]), .obj bqw2_11 (.cells none 2 [.str x2_11])]) (by kernel_rfl) H (fun fr => by kernel_rfl) (by kernel_rfl) (fun _ => rfl) (by kernel_rfl) A ⟨rfl, rfl⟩ ?_ ?_ ?_ ?_ ?_
 ·refine Ny H (kn := fun v1 => [(2, .ptr (some (h.size, 0))), (3, .ptr (some (h1.size, 0))), (4, .ptr (some (h2.size, 0))), (14, Ai v1)]) (fun v1 fr => by kernel_rfl) ?_
  clear ho hm A H
  intro g h7 F s v1 o Lc fr H hP hm A
  obtain ⟨rfl, rfl⟩ := hP
  unfold EO at hm
  show AW _ _ _ _ _ _ _
  refine EW 1 (Bi 1 [(2, .ptr (some (h.size, 0))), (3, .ptr (some (h1.size, 0))), (4, .ptr (some (h2.size, 0))), (5, Ai v1)] H fun fr H => at_nil ?_)
  refine ⟨rfl, _, A, ?_⟩
  clear A
  intro h8 F A
  show AW _ _ _ _ _ _ _
  refine AX (id := 1) (by kernel_rfl) ?_
  refine AQ (EZ 4 10 ?_)
  refine Eu 15 2 0 A H fun fr t H => ?_
  refine As 2 [] 18 (.A7 (Cl 256 (AA.int .u8) p0.t_.BO ++ [Ai p0.t_.Aq, vs (eI .i32) p0.t_.BN, vs eB p0.t_.A8])) h8 H (fun fr => .of (IQ (by kernel_rfl))) fun fr t H => ?_
  refine Eu 19 1 0 A H fun fr t H => ?_
  obtain ⟨x4, hx, hm⟩ := bind_some hm
  refine As 1 [] 21 (.str x4) h8 H (fun fr => .of (JN (k := .i64) (k' := .i64) (lo := (some v1)) (hi := none) (by kernel_rfl) hx)) fun fr t H => ?_
  obtain ⟨x5, hx, hm⟩ := bind_some hm
  obtain ⟨v1, h9, hr, rqw3, rfl, A1⟩ := Kp (av := [.A7 (Cl 256 (AA.int .u8) p0.t_.BO ++ [Ai p0.t_.Aq, vs (eI .i32) p0.t_.BN, vs eB p0.t_.A8]), .str x4]) hx (A.cut 0)
  replace A : HH g h9 [.AL rqw3 3 (AL (eI .i64) x5), .obj h2.size (.cells none 2 [.bool false]), .obj h1.size (.cells none 2 [.str x1]), .obj h.size (.cells none 2 [.A7 (AB p0)])] F := A.CL (n := 0) A1
  refine Ay 22 hr H fun fr t H => ?_
  refine AN 2 [(23, Ai (x5.length : Int)), (24, Ai 0)] H fun fr H => AX (id := 2) (by kernel_rfl) ?_
  obtain ⟨o1, ho, hm⟩ := bind_some hm
  refine BM (Q' := fun e fr' h' => (e = .exit 2 ∧ .inl () = o1 ∧ Has fr' 42 [] ∧ HH g h' [.obj h2.size (.cells none 2 [.bool false]), .obj h1.size (.cells none 2 [.str x1]), .obj h.size (.cells none 2 [.A7 (AB p0)])] F) ∨ (∃ x7, e = .ret ∧ .inr x7 = o1 ∧ Has fr' 42 [(4, .ptr (some (h2.size, 0)))] ∧ HH g h' [.obj h2.size (.cells none 2 [.bool x7]), .obj h1.size (.cells none 2 [.str x1]), .obj h.size (.cells none 2 [.A7 (AB p0)])] F) ∨ False) ?_ ?_
  ·refine B8 (by kernel_rfl) (fun (s : Int) fr' h' => ∃ x6, x6 = s ∧ Has fr' 42 [(3, .ptr (some (h1.size, 0))), (4, .ptr (some (h2.size, 0))), (5, Ai v1), (22, AI rqw3 x5.length), (23, Ai (x5.length : Int)), (24, Ai x6)] ∧ HH g h' [.AL rqw3 3 (AL (eI .i64) x5), .obj h2.size (.cells none 2 [.bool false]), .obj h1.size (.cells none 2 [.str x1]), .obj h.size (.cells none 2 [.A7 (AB p0)])] F) ho ⟨_, rfl, H.ls, A⟩ ?_
   clear ho hm H A
   intro s q fr h10 hI hm
   obtain ⟨x6, rfl, H, A⟩ := hI
   unfold Fv at hm
   refine AG 1 (AN 1 [(25, .bool (decide (x6 < (x5.length : Int))))] H fun fr H => AQ (Ak 25 H hm (fun hb hm H => ?_) fun hb hm H => ?_))
   ·refine Be id (AQ (AX (id := 3) (by kernel_rfl) ?_))
    refine AG 3 ?_
    obtain ⟨x8, hx, hm⟩ := bind_some hm
    obtain ⟨i1, er1, _, hx, hq1⟩ := HH.NP (encI .i64) (by decide) A 0 (xs := x5) rfl hx
    refine Az 26 (.ptr (some (i1, x6.toNat * 1))) h10 H (fun fr => .of (Fa (s := D2 rqw3 x5.length) (by kernel_rfl) hx)) fun fr t H => ?_
    refine Az 27 _ _ H (fun fr => .of (Dj (by kernel_rfl) (FU (encI .i64) (HH.row A 0 rfl er1) hq1 (o := 0) rfl))) fun fr t H => ?_
    refine BT 1 [(7, Ai x8)] 4 H fun fr H => BT 4 [(8, Ai (IntKind.i64.wrap (v1 + x8)))] 10 H fun fr H => AR 1 [(31, Ai (IntKind.i64.wrap (v1 + x8)))] 32 2 0 A H fun fr t H => ?_
    refine AF 3 [(35, .bool ((IntKind.i64.wrap (v1 + x8)) == (x1.length : Int)))] H fun fr H => ?_
    obtain ⟨x9, ho, hm⟩ := bind_some hm
    refine An 5 (fun fr' h' => Has fr' 42 [(3, .ptr (some (h1.size, 0))), (4, .ptr (some (h2.size, 0))), (5, Ai v1), (22, AI rqw3 x5.length), (23, Ai (x5.length : Int)), (24, Ai x6), (40, .bool x9)] ∧ HH g h' [.AL rqw3 3 (AL (eI .i64) x5), .obj h2.size (.cells none 2 [.bool false]), .obj h1.size (.cells none 2 [.str x1]), .obj h.size (.cells none 2 [.A7 (AB p0)])] F) ?_ ?_
    ·rcases AU ho with ⟨hb, hm⟩ | ⟨hb, hm⟩
     ·replace H := H.kn 35 hb
      refine AF 5 [(40, .bool true)] H fun fr H => ?_
      obtain rfl := Aa hm
      exact at_nil ⟨H.ls, A⟩
     replace H := H.kn 35 hb
     refine Eu 36 2 0 A H fun fr t H => ?_
     obtain ⟨x10, hx, hm⟩ := bind_some hm
     refine As 1 [] 38 (Ab x10) h10 H (fun fr => .of (G4 (by kernel_rfl) hx)) fun fr t H => ?_
     refine AF 2 [(40, .bool (x10 == 47))] H fun fr H => ?_
     obtain rfl := Aa hm
     exact at_nil ⟨H.ls, A⟩
    clear A
    intro t fr h11 hK
    obtain ⟨H, A⟩ := hK
    refine BB id (Ak 40 H hm (fun hb hm H => ?_) fun hb hm H => ?_)
    ·refine AG 1 ?_
     obtain ⟨h12, hx, A⟩ := A.s1 0 [.bool true] [_]
     refine Jo hx H fun fr t H => ?_
     refine BB id (AS ?_)
     replace A := A.k3 1 2 3
     exact nr hm fun e => Or.inr (.inl ⟨_, rfl, e, H.ls, A⟩)
    refine FH 2 id (Bi 2 [(3, .ptr (some (h1.size, 0))), (4, .ptr (some (h2.size, 0))), (5, Ai v1), (22, AI rqw3 x5.length), (23, Ai (x5.length : Int)), (24, Ai (IntKind.i64.wrap (x6 + 1)))] H fun fr H => at_nil ?_)
    exact nx hm ⟨_, rfl, H.ls, A⟩
   refine Bn (i := 2) (by kernel_rfl) ?_
   replace A := A.k3 1 2 3
   exact nr hm fun e => .inl ⟨rfl, e, H.ls, A⟩
  clear ho
  clear A
  intro e fr h13 hQ
  rcases hQ with ⟨rfl, rfl, H, A⟩ | ⟨x7, rfl, rfl, H, A⟩ | hF
  ·have e1 := Option.some.inj hm
   subst e1
   exact ⟨rfl, _, ⟨rfl, rfl⟩, A⟩
  ·have e1 := Option.some.inj hm
   subst e1
   exact ⟨rfl, _, Or.inl ⟨x7, rfl, rfl⟩, A⟩
  exact hF.elim
 ·intro h1 l F1 R hYR B A
  obtain ⟨v1, h2, hr, _, F2, B, A⟩ := Gz (av := [.Mi l, .ptr (some (bqw2_10, 0)), .ptr (some (bqw2_11, 0))]) ho (by kernel_rfl) hYR B A
  exact ⟨v1, h2, F2, _, hr, B, rfl, A⟩
 ·clear ho A
  intro s2 h14 Lc Lu ey hP hU A
  subst ey
  obtain ⟨rfl, rfl⟩ := hP
  subst hU
  replace A : HH g h14 [.obj bqw2_10 (.cells none 2 [.A7 (AB x2_10)]), .obj bqw2_11 (.cells none 2 [.str x2_11]), .obj h2.size (.cells none 2 [.bool false]), .obj h1.size (.cells none 2 [.str x1]), .obj h.size (.cells none 2 [.A7 (AB p0)])] F := A
  show AW _ _ _ _ _ _ _
  refine AG 1 ?_
  obtain ⟨h15, hx, A⟩ := A.s2 0 [.bool false] [_]
  refine Sm (v := .tuple []) (h1 := h15) [(4, .ptr (some (h2.size, 0)))] H (fun fr => by kernel_rfl) (fun fr => .of (RG (by kernel_rfl) rfl hx)) ?_
  intro fr t H
  refine BB id (AS ?_)
  obtain rfl := Aa hm
  refine ⟨.inl rfl, .bool false, DJ (.cell (rT H) (St (by kernel_rfl) (A.l1 2 0)) .nil), ?_⟩
  replace A := A.d0
  exact ⟨rfl, A⟩
 ·clear ho A
  intro r2 h14 Lc Lu e ey he hP hU A
  subst ey
  subst hU
  rcases hP with ⟨x3, rfl, rfl⟩ | hF
  ·obtain rfl := QV he
   replace A : HH g h14 [.obj bqw2_10 (.cells none 2 [.A7 (AB x2_10)]), .obj bqw2_11 (.cells none 2 [.str x2_11]), .obj h2.size (.cells none 2 [.bool x3]), .obj h1.size (.cells none 2 [.str x1]), .obj h.size (.cells none 2 [.A7 (AB p0)])] F := A
   obtain rfl := Aa hm
   refine ⟨.inl rfl, .bool x3, DJ (.cell (rT H) (St (by kernel_rfl) (A.l1 2 0)) .nil), ?_⟩
   replace A := A.d0
   exact ⟨rfl, A⟩
  exact hF.elim
 exact fun _ => ⟨.ret, rfl⟩
def EE (p0 : List Ag) (p1 : List UInt8) (s : Int) : Option ((Int) ⊕ ((Unit) ⊕ (Int × Bool))) :=
 match s with
 | x1 => Ae (decide (x1 < (p0.length : Int))) ((HR p0 x1).bind fun x4 => (FJ x4 p1).bind fun x5 => Ae x5 (some (.inr (.inr (x1, true)))) (some (.inl (IntKind.i64.wrap (x1 + 1))))) (some (.inr (.inl ())))
def Dz (p0 : List Ag) (p1 : List UInt8) : Option (Int × Bool) :=
 (loop (EE p0 p1) (0 : Int)).bind fun o1 => (match o1 with | .inl _ => some ((0 : Int), false) | .inr (x2, x3) => some (x2, x3))
theorem Hc {p0 p1 rp0 q0 q1} (hm : Dz p0 p1 = some (q0, q1)) (A : HH g h [.AL rp0 136 (AL (eP AB) p0)] F) (hc : BI (cfg.still 76) av = [AI rp0 p0.length, .str p1] := by kernel_rfl) : ∃ v h', BL cfg g h 76 av v h' ∧ v = .tuple [Ai q0, .bool q1] ∧ HH g h' [.AL rp0 136 (AL (eP AB) p0)] F := by
 refine D5 20 [.tmp 4, .tmp 5] hc ?_
 clear hc
 unfold Dz at hm
 refine bg 20 [(0, AI rp0 p0.length), (1, .str p1)] fun fr H => ?_
 refine AG 2 (AN 2 [] H fun fr H => AQ (AG 3 (AN 3 [(8, AI rp0 p0.length), (9, Ai (p0.length : Int)), (10, Ai 0)] H fun fr H => AX (id := 0) (by kernel_rfl) ?_)))
 obtain ⟨o1, ho, hm⟩ := bind_some hm
 refine BM (Q' := fun e fr' h' => (e = .exit 0 ∧ .inl () = o1 ∧ Has fr' 20 [] ∧ HH g h' [.AL rp0 136 (AL (eP AB) p0)] F) ∨ (∃ x2 x3, e = .ret ∧ .inr (x2, x3) = o1 ∧ Has fr' 20 [(4, Ai x2), (5, .bool x3)] ∧ HH g h' [.AL rp0 136 (AL (eP AB) p0)] F) ∨ False) ?_ ?_
 ·refine B8 (by kernel_rfl) (fun (s : Int) fr' h' => ∃ x1, x1 = s ∧ Has fr' 20 [(1, .str p1), (8, AI rp0 p0.length), (9, Ai (p0.length : Int)), (10, Ai x1)] ∧ HH g h' [.AL rp0 136 (AL (eP AB) p0)] F) ho ⟨_, rfl, H.ls, A⟩ ?_
  clear ho hm H A
  intro s q fr h1 hI hm
  obtain ⟨x1, rfl, H, A⟩ := hI
  unfold EE at hm
  refine AG 1 (AN 1 [(11, .bool (decide (x1 < (p0.length : Int))))] H fun fr H => AQ (Ak 11 H hm (fun hb hm H => ?_) fun hb hm H => ?_))
  ·refine Be id (AQ (AX (id := 1) (by kernel_rfl) ?_))
   refine AG 5 ?_
   obtain ⟨x4, hx, hm⟩ := bind_some hm
   obtain ⟨i1, er1, _, hx, hq1⟩ := HH.NP (P8 _) (by decide) A 0 (xs := p0) rfl hx
   refine As 1 [(12, Ai x1)] 13 (.ptr (some (i1, x1.toNat * 1))) h1 H (fun fr => .of (Fa (s := D2 rp0 p0.length) (by kernel_rfl) hx)) fun fr t H => ?_
   refine Az 14 _ _ H (fun fr => .of (Dj (by kernel_rfl) (FU (P8 _) (HH.row A 0 rfl er1) hq1 (o := 0) rfl))) fun fr t H => ?_
   refine BT 2 [(6, Ai x1), (7, .A7 (AB x4))] 3 H fun fr H => ?_
   obtain ⟨x5, hx, hm⟩ := bind_some hm
   obtain ⟨v1, h2, hr, rfl, A1⟩ := JY (av := [.A7 (AB x4), .str p1]) hx (A.cut 0)
   replace A := A.EV A1
   refine BH 2 [] 17 hr H fun fr t H => ?_
   refine BB id (Ak 17 H hm (fun hb hm H => ?_) fun hb hm H => ?_)
   ·refine AG 3 (AN 3 [(4, Ai x1), (5, .bool true)] H fun fr H => AS ?_)
    exact nr hm fun e => Or.inr (.inl ⟨_, _, rfl, e, H.ls, A⟩)
   refine FH 2 id (Bi 2 [(1, .str p1), (8, AI rp0 p0.length), (9, Ai (p0.length : Int)), (10, Ai (IntKind.i64.wrap (x1 + 1)))] H fun fr H => at_nil ?_)
   exact nx hm ⟨_, rfl, H.ls, A⟩
  refine Bn (i := 0) (by kernel_rfl) ?_
  exact nr hm fun e => .inl ⟨rfl, e, H.ls, A⟩
 clear ho
 clear A
 intro e fr h3 hQ
 rcases hQ with ⟨rfl, rfl, H, A⟩ | ⟨x2, x3, rfl, rfl, H, A⟩ | hF
 ·show AW _ _ _ _ _ _ _
  refine AG 2 (AN 2 [(4, Ai 0), (5, .bool false)] H fun fr H => AS ?_)
  obtain ⟨rfl, rfl⟩ := DG hm
  exact ⟨.inl rfl, _, rH H, rfl, A⟩
 ·obtain ⟨rfl, rfl⟩ := DG hm
  exact ⟨.inl rfl, _, rH H, rfl, A⟩
 exact hF.elim
def Bu {SY RY : Type} (Y : SY → (List UInt8) → Option (SY ⊕ RY)) (s : (List UInt8) × (SY ⊕ RY)) : Option (((List UInt8) × (SY ⊕ RY)) ⊕ (((List UInt8) × (SY ⊕ RY)) ⊕ ((List UInt8) × (SY ⊕ RY)))) :=
 match s with
 | (x1, y1) => Fl (decide (x1.length ≤ 4294967280)) <| Ae (decide ((Lib.index x1 ([47] : List UInt8)) < 0)) (some (.inr (.inl (x1, y1)))) ((LP x1 none (some (IntKind.i64.wrap ((Lib.index x1 ([47] : List UInt8)) + 0)))).bind fun x4 => (TS Y y1 x4).bind fun (x5, y4) => Ae (!x5) (some (.inr (.inr (x1, y4)))) ((LP x1 (some (IntKind.i64.wrap ((Lib.index x1 ([47] : List UInt8)) + 1))) none).bind fun x6 => some (.inl (x6, y4))))
def Cy {SY RY : Type} (Y : SY → (List UInt8) → Option (SY ⊕ RY)) (y : SY ⊕ RY) (p2 : List UInt8) : Option ((List UInt8) × (SY ⊕ RY)) :=
 (loop (Bu Y) (p2, y)).bind fun o1 => (match o1 with | .inl (x2, y2) => (TS Y y2 x2).bind fun (x7, y5) => some (x2, y5) | .inr (x3, y3) => some (x3, y3))
theorem Hf {SY RY : Type} {R : SY ⊕ RY → List Ck → Prop} {Y : SY → (List UInt8) → Option (SY ⊕ RY)} {y : SY ⊕ RY} {p2 l bp1 bp2 bp3 u1} {yq : SY ⊕ RY} (hm : Cy Y y p2 = some (u1, yq)) (hc : BI (cfg.still 227) av = [.Mi l, .ptr (some (bp1, 0)), .ptr (some (bp2, 0)), .ptr (some (bp3, 0))]) (hYR : YR cfg g l (fun x => [.str x]) Y R) (B : R y F) (A : HH g h [.obj bp1 (.cells none 2 [.str ([47] : List UInt8)]), .obj bp2 (.cells none 2 [.str p2]), .obj bp3 (.cells none 2 [Ai (0 : Int)])] F) : ∃ v h', BL cfg g h 227 av v h' ∧ v = .tuple [] ∧ ∃ F, R yq F ∧ HH g h' [.obj bp1 (.cells none 2 [.str ([47] : List UInt8)]), .obj bp2 (.cells none 2 [.str u1]), .obj bp3 (.cells none 2 [Ai (0 : Int)])] F := by
 refine D5 52 [] hc ?_
 clear hc
 unfold Cy at hm
 refine bg 52 [(0, .Mi l), (1, .ptr (some (bp1, 0))), (2, .ptr (some (bp2, 0))), (3, .ptr (some (bp3, 0)))] fun fr H => ?_
 refine AQ (AG 3 (Eu 9 0 0 A H fun fr t H => ?_))
 refine AN 2 [(11, .bool false)] H fun fr H => Kw (x := .tmp 11) (by kernel_rfl) H (fun fr => by kernel_rfl) ?_
 refine Be id (AQ (AX (id := 2) (by kernel_rfl) ?_))
 obtain ⟨o1, ho, hm⟩ := bind_some hm
 refine BM (Q' := fun e fr' h' => (∃ x2, ∃ (y2 : SY ⊕ RY), e = .exit 2 ∧ .inl (x2, y2) = o1 ∧ Has fr' 52 [(0, .Mi l), (2, .ptr (some (bp2, 0)))] ∧ ∃ F, R y2 F ∧ HH g h' [.obj bp1 (.cells none 2 [.str ([47] : List UInt8)]), .obj bp2 (.cells none 2 [.str x2]), .obj bp3 (.cells none 2 [Ai 0])] F) ∨ (∃ x3, ∃ (y3 : SY ⊕ RY), e = .ret ∧ .inr (x3, y3) = o1 ∧ Has fr' 52 [] ∧ ∃ F, R y3 F ∧ HH g h' [.obj bp1 (.cells none 2 [.str ([47] : List UInt8)]), .obj bp2 (.cells none 2 [.str x3]), .obj bp3 (.cells none 2 [Ai 0])] F) ∨ False) ?_ ?_
 ·refine B8 (by kernel_rfl) (fun (s : (List UInt8) × (SY ⊕ RY)) fr' h' => ∃ x1, ∃ (y1 : SY ⊕ RY), (x1, y1) = s ∧ Has fr' 52 [(0, .Mi l), (1, .ptr (some (bp1, 0))), (2, .ptr (some (bp2, 0))), (3, .ptr (some (bp3, 0)))] ∧ ∃ F, R y1 F ∧ HH g h' [.obj bp1 (.cells none 2 [.str ([47] : List UInt8)]), .obj bp2 (.cells none 2 [.str x1]), .obj bp3 (.cells none 2 [Ai 0])] F) ho ⟨p2, y, rfl, H.ls, ⟨F, B, A⟩⟩ ?_
  clear ho hm H A
  intro s q fr h1 hI hm
  obtain ⟨x1, y1, rfl, H, ⟨F, B, A⟩⟩ := hI
  unfold Bu at hm
  refine AX (id := 3) (by kernel_rfl) ?_
  refine AG 4 (Eu 29 1 0 A H fun fr t H => ?_)
  refine Eu 30 0 0 A H fun fr t H => ?_
  obtain ⟨hb, hm⟩ := BZ hm
  refine Az 31 (Ai (Lib.index x1 ([47] : List UInt8))) h1 H (fun fr => Steps.call (by kernel_rfl) (TK (C := cfg) (f := 228) (a := 0) (by kernel_rfl) (l := exts) rfl (by kernel_rfl) hb)) fun fr t H => ?_
  refine AN 1 [(7, Ai (Lib.index x1 ([47] : List UInt8)))] H fun fr H => AQ (AG 2 (AN 2 [(33, .bool (decide ((Lib.index x1 ([47] : List UInt8)) < 0)))] H fun fr H => Ak 33 H hm (fun hb hm H => ?_) fun hb hm H => ?_))
  ·refine Bn (i := 2) (by kernel_rfl) ?_
   exact nr hm fun e => .inl ⟨x1, y1, rfl, e, H.ls, ⟨F, B, A⟩⟩
  refine Cm 6 id (Eu 34 1 0 A H fun fr t H => ?_)
  refine AR 1 [(35, Ai (Lib.index x1 ([47] : List UInt8)))] 36 2 0 A H fun fr t H => ?_
  obtain ⟨x4, hx, hm⟩ := bind_some hm
  refine As 1 [] 38 (.str x4) h1 H (fun fr => .of (JN (k := .i64) (k' := .i64) (lo := none) (hi := (some (IntKind.i64.wrap ((Lib.index x1 ([47] : List UInt8)) + 0)))) (by kernel_rfl) hx)) fun fr t H => ?_
  refine AN 1 [(8, .str x4)] H fun fr H => AQ (AG 4 ?_)
  obtain ⟨⟨x5, y4⟩, hx, hm⟩ := bind_some hm
  obtain ⟨h2, F, hr, B, A⟩ := hYR.TS (pr := []) .nil A B hx
  refine As 2 [] 41 (.bool x5) h2 H (fun fr => Steps.round (by kernel_rfl) hr) fun fr t H => ?_
  refine AN 1 [(42, .bool (!x5))] H fun fr H => Ak 42 H hm (fun hb hm H => ?_) fun hb hm H => ?_
  ·refine AS ?_
   exact nr hm fun e => Or.inr (.inl ⟨x1, y4, rfl, e, H.ls, ⟨F, B, A⟩⟩)
  refine FH 7 id (Eu 43 1 0 A H fun fr t H => ?_)
  refine AR 1 [(44, Ai (Lib.index x1 ([47] : List UInt8)))] 45 0 0 A H fun fr t H => ?_
  obtain ⟨x6, hx, hm⟩ := bind_some hm
  refine As 2 [] 48 (.str x6) h2 H (fun fr => .of (JN (k := .i64) (k' := .i64) (lo := (some (IntKind.i64.wrap ((Lib.index x1 ([47] : List UInt8)) + 1)))) (hi := none) (by kernel_rfl) hx)) fun fr t H => ?_
  obtain ⟨h3, hx, A1⟩ := A.st 1 rfl (o := 0) (new := [.str x6]) (ds := [.str x6]) (Nat.le_of_ble_eq_true rfl) rfl rfl
  replace A : HH g h3 [.obj bp1 (.cells none 2 [.str ([47] : List UInt8)]), .obj bp2 (.cells none 2 [.str x6]), .obj bp3 (.cells none 2 [Ai 0])] F := A1
  refine Jo hx H fun fr t H => ?_
  refine at_nil ?_
  exact nx hm ⟨x6, y4, rfl, H.ls, ⟨F, B, A⟩⟩
 clear ho
 clear A
 intro e fr h4 hQ
 rcases hQ with ⟨x2, y2, rfl, rfl, H, ⟨F, B, A⟩⟩ | ⟨x3, y3, rfl, rfl, H, ⟨F, B, A⟩⟩ | hF
 ·show AW _ _ _ _ _ _ _
  refine EW 3 (AR 1 [(49, .Mi l)] 50 1 0 A H fun fr t H => ?_)
  obtain ⟨⟨x7, y5⟩, hx, hm⟩ := bind_some hm
  obtain ⟨h5, F, hr, B, A⟩ := hYR.TS (pr := []) .nil A B hx
  refine LR (.bool x7) h5 H (fun fr => Steps.round (by kernel_rfl) hr) fun fr t H => ?_
  refine at_nil ?_
  obtain ⟨rfl, rfl⟩ := DG hm
  refine ⟨.inr rfl, .tuple [], rH H, ?_⟩
  exact ⟨rfl, ⟨F, B, A⟩⟩
 ·obtain ⟨rfl, rfl⟩ := DG hm
  exact ⟨.inl rfl, _, rH H, rfl, ⟨F, B, A⟩⟩
 exact hF.elim
def DZ (s : (List (List UInt8))) (v1 : (List UInt8)) : Option (((List (List UInt8))) ⊕ (Unit)) :=
 match s with
 | x2 => Ae (!(v1 == ([] : List UInt8))) (Fl (OU 16 (x2.length + ([v1] : List (List UInt8)).length)) <| some (.inl (x2 ++ ([v1] : List (List UInt8))))) (some (.inl x2))
def Et (p0 : List UInt8) : Option ((List (List UInt8))) :=
 (EF p0).bind fun x1_11 => (Cy (DZ) (.inl ([] : List (List UInt8))) x1_11).bind fun (x3, y1) => (match y1 with | .inl x2 => some x2 | .inr _ => none)
theorem Ic {p0 q0} (hm : Et p0 = some q0) (A : HH g h [] F) (hc : BI (cfg.still 56) av = [.str p0] := by kernel_rfl) : ∃ v h', BL cfg g h 56 av v h' ∧ v = vs eS q0 ∧ HH g h' [] F := by
 refine Vz 15 [.tmp 2] hc ?_
 clear hc
 unfold Et at hm
 refine bg 15 [(0, .str p0)] fun fr H => ?_
 refine AG 1 (BT 1 [] 1 H fun fr H => ?_)
 obtain ⟨h1, e1, A⟩ := A.pu (.cells none 2 [.slice none 0])
 refine BC 3 (.ptr (some (h.size, 0))) e1 H fun fr t H => ?_
 refine BB id (AQ (AG 2 ?_))
 obtain ⟨x1_11, hx, hm⟩ := bind_some hm
 obtain ⟨v1, h2, hr, bqw1_10, bqw1_11, bqw1_12, rfl, A1⟩ := Jg (av := [.str p0, .str ([47] : List UInt8)]) hx (A.cut 0)
 replace A : HH g h2 [.obj bqw1_10 (.cells none 2 [.str ([47] : List UInt8)]), .obj bqw1_11 (.cells none 2 [.str x1_11]), .obj bqw1_12 (.cells none 2 [Ai (0 : Int)]), .obj h.size (.cells none 2 [.slice none 0])] F := A.CL (n := 0) A1
 refine BH 1 [] 6 hr H fun fr t H => ?_
 refine BB id (AX (id := 0) (by kernel_rfl) ?_)
 replace A : HH g h2 [.AL none 9 (AL eS ([] : List (List UInt8))), _, _, _, _] F := A.MV 9
 replace A : HH g h2 [_, _, _, _, .obj h.size (.cells none 2 [AI none (([] : List (List UInt8)).length)])] F := (((((A.front 4 rfl).front 1 rfl).front 4 rfl).front 4 rfl).front 4 rfl)
 obtain ⟨⟨x3, y1⟩, ho, hm⟩ := bind_some hm
 refine Qf (C := cfg) (x := .tmp 6) (ps := [7]) (f' := 227) (first := []) (cap := [.ptr (some (bqw1_10, 0)), .ptr (some (bqw1_11, 0)), .ptr (some (bqw1_12, 0))]) (Lu := [.obj bqw1_10 (.cells none 2 [.str ([47] : List UInt8)]), .obj bqw1_11 (.cells none 2 [.str x1_11]), .obj bqw1_12 (.cells none 2 [Ai 0])]) (Lc := [.AL none 9 (AL eS ([] : List (List UInt8))), .obj h.size (.cells none 2 [AI none (([] : List (List UInt8)).length)])]) (F := F) (ex := fun x => [.str x]) (Y := DZ) (PL := fun s Lc => ∃ (x2 : List (List UInt8)), x2 = s ∧ ∃ (r1 : Option Nat), Lc = [.AL r1 9 (AL eS x2), .obj h.size (.cells none 2 [AI r1 x2.length])]) (PR := fun r Lc => False) (pe := fun _ => .ret) (s := ([] : List (List UInt8))) (y := y1) (PU := fun L => L = [.obj bqw1_10 (.cells none 2 [.str ([47] : List UInt8)]), .obj bqw1_11 (.cells none 2 [.str x3]), .obj bqw1_12 (.cells none 2 [Ai 0])]) (by kernel_rfl) H (fun fr => by kernel_rfl) (by kernel_rfl) (fun _ => rfl) (by kernel_rfl) A ⟨([] : List (List UInt8)), rfl, none, rfl⟩ ?_ ?_ ?_ ?_ ?_
 ·refine Ny H (kn := fun v1 => [(3, .ptr (some (h.size, 0))), (7, .str v1)]) (fun v1 fr => by kernel_rfl) ?_
  clear ho hm A H
  intro g h3 F s v1 o Lc fr H hP hm A
  obtain ⟨x2, rfl, r1, rfl⟩ := hP
  unfold DZ at hm
  show AW _ _ _ _ _ _ _
  refine EW 1 (Bi 1 [(3, .ptr (some (h.size, 0))), (4, .str v1)] H fun fr H => at_nil ?_)
  refine ⟨rfl, _, A, ?_⟩
  clear A
  intro h4 F A
  show AW _ _ _ _ _ _ _
  refine AX (id := 1) (by kernel_rfl) ?_
  refine AG 2 (AN 2 [(9, .bool (!(v1 == ([] : List UInt8))))] H fun fr H => Ak 9 H hm (fun hb hm H => ?_) fun hb hm H => ?_)
  ·refine EW 5 (Eu 10 1 0 A H fun fr t H => ?_)
   refine AF 1 [(11, .str v1)] H fun fr H => ?_
   obtain ⟨h5, e2, A⟩ := A.pL 9 [.str v1]
   refine BC 12 (AI (some h4.size) (([v1] : List (List UInt8)).length)) e2 H fun fr t H => ?_
   obtain ⟨hb, hm⟩ := BZ hm
   obtain ⟨r2, h6, hx, A1⟩ := HH.NQ encS (by decide) A 1 (xs := x2) (ys := ([v1] : List (List UInt8))) rfl (EI A 0 rfl (n := ([v1] : List (List UInt8)).length) (z := 1) rfl (by decide)) rfl rfl hb
   replace A : HH g h6 [.AL (some h4.size) 9 ([.str v1]), .AL r2 9 (AL eS (x2 ++ ([v1] : List (List UInt8)))), .obj h.size (.cells none 2 [AI r1 x2.length])] F := A1
   replace A := A.k2 1 2
   refine Az 13 _ _ H (fun fr => .of (KF (s := D2 r1 x2.length) (by kernel_rfl) hx)) fun fr t H => ?_
   obtain ⟨h7, hx, A1⟩ := A.st 1 rfl (o := 0) (new := [AI r2 ((x2 ++ ([v1] : List (List UInt8))).length)]) (ds := [AI r2 ((x2 ++ ([v1] : List (List UInt8))).length)]) (Nat.le_of_ble_eq_true rfl) rfl rfl
   replace A : HH g h7 [_, .obj h.size (.cells none 2 [AI r2 ((x2 ++ ([v1] : List (List UInt8))).length)])] F := A1
   refine Jo hx H fun fr t H => ?_
   refine at_nil ?_
   have e1 := Option.some.inj hm
   subst e1
   exact ⟨rfl, _, ⟨(x2 ++ ([v1] : List (List UInt8))), rfl, r2, rfl⟩, A⟩
  refine IG ?_
  have e1 := Option.some.inj hm
  subst e1
  exact ⟨rfl, _, ⟨x2, rfl, r1, rfl⟩, A⟩
 ·intro h1 l F1 R hYR B A
  obtain ⟨v1, h2, hr, _, F2, B, A⟩ := Hf (av := [.Mi l, .ptr (some (bqw1_10, 0)), .ptr (some (bqw1_11, 0)), .ptr (some (bqw1_12, 0))]) ho (by kernel_rfl) hYR B A
  exact ⟨v1, h2, F2, _, hr, B, rfl, A⟩
 ·clear ho A
  intro s2 h8 Lc Lu ey hP hU A
  subst ey
  obtain ⟨x2, rfl, r1, rfl⟩ := hP
  subst hU
  replace A : HH g h8 [.obj bqw1_10 (.cells none 2 [.str ([47] : List UInt8)]), .obj bqw1_11 (.cells none 2 [.str x3]), .obj bqw1_12 (.cells none 2 [Ai 0]), .AL r1 9 (AL eS x2), .obj h.size (.cells none 2 [AI r1 x2.length])] F := A
  show AW _ _ _ _ _ _ _
  refine AG 2 (Sm (v := AI r1 x2.length) (h1 := h8) [(14, AI r1 x2.length)] H (fun fr => by kernel_rfl) (fun fr => .of (Dj (by kernel_rfl) (A.l1 4 0))) ?_)
  intro fr t H
  refine AN 1 [(2, AI r1 x2.length)] H fun fr H => AS ?_
  obtain rfl := Aa hm
  refine ⟨.inl rfl, AI r1 x2.length, rH H, ?_⟩
  obtain ⟨h9, hz0, A1⟩ := (A.front 3 rfl).WV (n := x2.length) (z := 1) (encS.Ju _) (by decide)
  replace A : HH g h9 [_, _, _, _] F := A1
  refine ⟨vs eS x2, h9, by first | rfl | (simp only [Hw, H6, Hs, Hv, Hz, H2, Hu, Hx, Ht, H4, Hr, F9, Fs, Fz, Fw, Fu, F7, F5, Option.map_some, hz0] <;> rfl), ?_⟩
  replace A := A.d0
  exact ⟨rfl, A⟩
 ·clear ho A
  intro r2 h8 Lc Lu e ey he hP hU A
  subst ey
  subst hU
  exact False.elim hP
 exact fun _ => ⟨.ret, rfl⟩
def Iy : Option ((List (List UInt8))) :=
 some ([([46, 97, 114, 99, 104, 45, 105, 100, 115] : List UInt8), ([46, 98, 122, 114] : List UInt8), ([46, 98, 122, 114, 105, 103, 110, 111, 114, 101] : List UInt8), ([46, 98, 122, 114, 116, 97, 103, 115] : List UInt8), ([46, 99, 118, 115, 105, 103, 110, 111, 114, 101] : List UInt8), ([46, 103, 105, 116] : List UInt8), ([46, 103, 105, 116, 97, 116, 116, 114, 105, 98, 117, 116, 101, 115] : List UInt8), ([46, 103, 105, 116, 105, 103, 110, 111, 114, 101] : List UInt8), ([46, 103, 105, 116, 109, 111, 100, 117, 108, 101, 115] : List UInt8), ([46, 104, 103] : List UInt8), ([46, 104, 103, 105, 103, 110, 111, 114, 101] : List UInt8), ([46, 104, 103, 116, 97, 103, 115] : List UInt8), ([46, 115, 118, 110] : List UInt8), ([61, 82, 69, 76, 69, 65, 83, 69, 45, 73, 68] : List UInt8), ([61, 109, 101, 116, 97, 45, 117, 112, 100, 97, 116, 101] : List UInt8), ([61, 117, 112, 100, 97, 116, 101] : List UInt8), ([67, 86, 83] : List UInt8), ([82, 67, 83] : List UInt8), ([83, 67, 67, 83] : List UInt8), ([95, 100, 97, 114, 99, 115] : List UInt8), ([123, 97, 114, 99, 104, 125] : List UInt8)] : List (List UInt8))
theorem QN {q0} (hm : Iy = some q0) (A : HH g h [] F) (hc : BI (cfg.still 203) av = [] := by kernel_rfl) : ∃ v h', BL cfg g h 203 av v h' ∧ ∃ (rq0 : Option Nat), v = AI rq0 q0.length ∧ HH g h' [.AL rq0 9 (AL eS q0)] F := by
 refine D5 2 [.tmp 0] hc ?_
 clear hc
 unfold Iy at hm
 refine bg 2 [] fun fr H => ?_
 refine AG 1 (BT 1 [] 2 H fun fr H => ?_)
 obtain ⟨h1, e1, A⟩ := A.pL 9 [.str ([46, 97, 114, 99, 104, 45, 105, 100, 115] : List UInt8), .str ([46, 98, 122, 114] : List UInt8), .str ([46, 98, 122, 114, 105, 103, 110, 111, 114, 101] : List UInt8), .str ([46, 98, 122, 114, 116, 97, 103, 115] : List UInt8), .str ([46, 99, 118, 115, 105, 103, 110, 111, 114, 101] : List UInt8), .str ([46, 103, 105, 116] : List UInt8), .str ([46, 103, 105, 116, 97, 116, 116, 114, 105, 98, 117, 116, 101, 115] : List UInt8), .str ([46, 103, 105, 116, 105, 103, 110, 111, 114, 101] : List UInt8), .str ([46, 103, 105, 116, 109, 111, 100, 117, 108, 101, 115] : List UInt8), .str ([46, 104, 103] : List UInt8), .str ([46, 104, 103, 105, 103, 110, 111, 114, 101] : List UInt8), .str ([46, 104, 103, 116, 97, 103, 115] : List UInt8), .str ([46, 115, 118, 110] : List UInt8), .str ([61, 82, 69, 76, 69, 65, 83, 69, 45, 73, 68] : List UInt8), .str ([61, 109, 101, 116, 97, 45, 117, 112, 100, 97, 116, 101] : List UInt8), .str ([61, 117, 112, 100, 97, 116, 101] : List UInt8), .str ([67, 86, 83] : List UInt8), .str ([82, 67, 83] : List UInt8), .str ([83, 67, 67, 83] : List UInt8), .str ([95, 100, 97, 114, 99, 115] : List UInt8), .str ([123, 97, 114, 99, 104, 125] : List UInt8)]
 refine BC 1 (AI (some h.size) (([([46, 97, 114, 99, 104, 45, 105, 100, 115] : List UInt8), ([46, 98, 122, 114] : List UInt8), ([46, 98, 122, 114, 105, 103, 110, 111, 114, 101] : List UInt8), ([46, 98, 122, 114, 116, 97, 103, 115] : List UInt8), ([46, 99, 118, 115, 105, 103, 110, 111, 114, 101] : List UInt8), ([46, 103, 105, 116] : List UInt8), ([46, 103, 105, 116, 97, 116, 116, 114, 105, 98, 117, 116, 101, 115] : List UInt8), ([46, 103, 105, 116, 105, 103, 110, 111, 114, 101] : List UInt8), ([46, 103, 105, 116, 109, 111, 100, 117, 108, 101, 115] : List UInt8), ([46, 104, 103] : List UInt8), ([46, 104, 103, 105, 103, 110, 111, 114, 101] : List UInt8), ([46, 104, 103, 116, 97, 103, 115] : List UInt8), ([46, 115, 118, 110] : List UInt8), ([61, 82, 69, 76, 69, 65, 83, 69, 45, 73, 68] : List UInt8), ([61, 109, 101, 116, 97, 45, 117, 112, 100, 97, 116, 101] : List UInt8), ([61, 117, 112, 100, 97, 116, 101] : List UInt8), ([67, 86, 83] : List UInt8), ([82, 67, 83] : List UInt8), ([83, 67, 67, 83] : List UInt8), ([95, 100, 97, 114, 99, 115] : List UInt8), ([123, 97, 114, 99, 104, 125] : List UInt8)] : List (List UInt8)).length)) e1 H fun fr t H => ?_
 refine AN 1 [(0, AI (some h.size) (([([46, 97, 114, 99, 104, 45, 105, 100, 115] : List UInt8), ([46, 98, 122, 114] : List UInt8), ([46, 98, 122, 114, 105, 103, 110, 111, 114, 101] : List UInt8), ([46, 98, 122, 114, 116, 97, 103, 115] : List UInt8), ([46, 99, 118, 115, 105, 103, 110, 111, 114, 101] : List UInt8), ([46, 103, 105, 116] : List UInt8), ([46, 103, 105, 116, 97, 116, 116, 114, 105, 98, 117, 116, 101, 115] : List UInt8), ([46, 103, 105, 116, 105, 103, 110, 111, 114, 101] : List UInt8), ([46, 103, 105, 116, 109, 111, 100, 117, 108, 101, 115] : List UInt8), ([46, 104, 103] : List UInt8), ([46, 104, 103, 105, 103, 110, 111, 114, 101] : List UInt8), ([46, 104, 103, 116, 97, 103, 115] : List UInt8), ([46, 115, 118, 110] : List UInt8), ([61, 82, 69, 76, 69, 65, 83, 69, 45, 73, 68] : List UInt8), ([61, 109, 101, 116, 97, 45, 117, 112, 100, 97, 116, 101] : List UInt8), ([61, 117, 112, 100, 97, 116, 101] : List UInt8), ([67, 86, 83] : List UInt8), ([82, 67, 83] : List UInt8), ([83, 67, 67, 83] : List UInt8), ([95, 100, 97, 114, 99, 115] : List UInt8), ([123, 97, 114, 99, 104, 125] : List UInt8)] : List (List UInt8)).length))] H fun fr H => AS ?_
 obtain rfl := Aa hm
 refine ⟨.inl rfl, AI (some h.size) (([([46, 97, 114, 99, 104, 45, 105, 100, 115] : List UInt8), ([46, 98, 122, 114] : List UInt8), ([46, 98, 122, 114, 105, 103, 110, 111, 114, 101] : List UInt8), ([46, 98, 122, 114, 116, 97, 103, 115] : List UInt8), ([46, 99, 118, 115, 105, 103, 110, 111, 114, 101] : List UInt8), ([46, 103, 105, 116] : List UInt8), ([46, 103, 105, 116, 97, 116, 116, 114, 105, 98, 117, 116, 101, 115] : List UInt8), ([46, 103, 105, 116, 105, 103, 110, 111, 114, 101] : List UInt8), ([46, 103, 105, 116, 109, 111, 100, 117, 108, 101, 115] : List UInt8), ([46, 104, 103] : List UInt8), ([46, 104, 103, 105, 103, 110, 111, 114, 101] : List UInt8), ([46, 104, 103, 116, 97, 103, 115] : List UInt8), ([46, 115, 118, 110] : List UInt8), ([61, 82, 69, 76, 69, 65, 83, 69, 45, 73, 68] : List UInt8), ([61, 109, 101, 116, 97, 45, 117, 112, 100, 97, 116, 101] : List UInt8), ([61, 117, 112, 100, 97, 116, 101] : List UInt8), ([67, 86, 83] : List UInt8), ([82, 67, 83] : List UInt8), ([83, 67, 67, 83] : List UInt8), ([95, 100, 97, 114, 99, 115] : List UInt8), ([123, 97, 114, 99, 104, 125] : List UInt8)] : List (List UInt8)).length), rH H, ?_⟩
 replace A : HH g h1 [.AL (some h.size) 9 (AL eS ([([46, 97, 114, 99, 104, 45, 105, 100, 115] : List UInt8), ([46, 98, 122, 114] : List UInt8), ([46, 98, 122, 114, 105, 103, 110, 111, 114, 101] : List UInt8), ([46, 98, 122, 114, 116, 97, 103, 115] : List UInt8), ([46, 99, 118, 115, 105, 103, 110, 111, 114, 101] : List UInt8), ([46, 103, 105, 116] : List UInt8), ([46, 103, 105, 116, 97, 116, 116, 114, 105, 98, 117, 116, 101, 115] : List UInt8), ([46, 103, 105, 116, 105, 103, 110, 111, 114, 101] : List UInt8), ([46, 103, 105, 116, 109, 111, 100, 117, 108, 101, 115] : List UInt8), ([46, 104, 103] : List UInt8), ([46, 104, 103, 105, 103, 110, 111, 114, 101] : List UInt8), ([46, 104, 103, 116, 97, 103, 115] : List UInt8), ([46, 115, 118, 110] : List UInt8), ([61, 82, 69, 76, 69, 65, 83, 69, 45, 73, 68] : List UInt8), ([61, 109, 101, 116, 97, 45, 117, 112, 100, 97, 116, 101] : List UInt8), ([61, 117, 112, 100, 97, 116, 101] : List UInt8), ([67, 86, 83] : List UInt8), ([82, 67, 83] : List UInt8), ([83, 67, 67, 83] : List UInt8), ([95, 100, 97, 114, 99, 115] : List UInt8), ([123, 97, 114, 99, 104, 125] : List UInt8)] : List (List UInt8)))] F := A
 exact ⟨some h.size, rfl, A⟩
def Ej (p0 : List UInt8) (p1 : List UInt8) : Option (Bool) :=
 (EM p0).bind fun x1 => (Ae x1 ((EM p1).bind fun x3 => some (!x3)) (some false) : Option (Bool)).bind fun x2 => some (x2 || (Op.bytesLess p0 p1))
theorem Lp {p0 p1 q0} (hm : Ej p0 p1 = some q0) (A : HH g h [] F) (hc : BI (cfg.still 222) av = [.str p0, .str p1] := by kernel_rfl) : ∃ v h', BL cfg g h 222 av v h' ∧ v = .bool q0 ∧ HH g h' [] F := by
 refine D5 17 [.tmp 4] hc ?_
 clear hc
 unfold Ej at hm
 refine bg 17 [(0, .str p0), (1, .str p1)] fun fr H => ?_
 refine AG 1 (BT 1 [] 13 H fun fr H => ?_)
 obtain ⟨x1, hx, hm⟩ := bind_some hm
 obtain ⟨v1, h1, hr, rfl, A1⟩ := IE (av := [.str p0]) hx (A.cut 0)
 replace A := A.EV A1
 refine BH 1 [] 6 hr H fun fr t H => ?_
 refine AF 1 [(7, .bool x1)] H fun fr H => ?_
 obtain ⟨x2, ho, hm⟩ := bind_some hm
 refine An 4 (fun fr' h' => Has fr' 17 [(0, .str p0), (1, .str p1), (11, .bool x2)] ∧ HH g h' [] F) ?_ ?_
 ·rcases AU ho with ⟨hb, hm⟩ | ⟨hb, hm⟩
  ·replace H := H.kn 7 hb
   obtain ⟨x3, hx, hm⟩ := bind_some hm
   obtain ⟨v1, h3, hr, rfl, A1⟩ := IE (av := [.str p1]) hx (A.cut 0)
   replace A := A.EV A1
   refine BH 1 [] 9 hr H fun fr t H => ?_
   refine AF 2 [(11, .bool (!x3))] H fun fr H => ?_
   obtain rfl := Aa hm
   exact at_nil ⟨H.ls, A⟩
  replace H := H.kn 7 hb
  refine AF 4 [(11, .bool false)] H fun fr H => ?_
  obtain rfl := Aa hm
  exact at_nil ⟨H.ls, A⟩
 clear A
 intro t fr h2 hK
 obtain ⟨H, A⟩ := hK
 refine AF 1 [(12, .bool x2)] H fun fr H => An 4 (fun fr' h' => h2 = h' ∧ Has fr' 17 [(16, .bool (x2 || (Op.bytesLess p0 p1)))]) ?_ ?_
 ·cases hb : (x2 : Bool) with
  | true =>
   replace H := H.kn 12 hb
   exact AF 4 [(16, .bool true)] H fun fr H => AY H hb
  | false =>
   replace H := H.kn 12 hb
   exact AF 4 [(16, .bool (Op.bytesLess p0 p1))] H fun fr H => AY H hb
 intro t fr h' hK
 obtain ⟨e, H⟩ := hK
 subst e
 refine AN 1 [(4, .bool (x2 || (Op.bytesLess p0 p1)))] H fun fr H => AS ?_
 obtain rfl := Aa hm
 exact ⟨.inl rfl, _, rH H, rfl, A⟩
def BA (p0 : List (List UInt8)) (p1 : List UInt8) (s : Int × Int) : Option ((Int × Int) ⊕ ((Int))) :=
 match s with
 | (x1, x2) => Ae (decide (x1 < x2)) ((HR p0 (IntKind.i64.wrap (B7 .u64 (IntKind.u64.wrap (IntKind.i64.wrap (x1 + x2))) (1 : Int)))).bind fun x4 => (Ej x4 p1).bind fun x5 => Ae x5 (some (.inl (IntKind.i64.wrap ((IntKind.i64.wrap (B7 .u64 (IntKind.u64.wrap (IntKind.i64.wrap (x1 + x2))) (1 : Int))) + 1), x2))) (some (.inl (x1, IntKind.i64.wrap (B7 .u64 (IntKind.u64.wrap (IntKind.i64.wrap (x1 + x2))) (1 : Int)))))) (some (.inr x1))
def Bj (p0 : List (List UInt8)) (p1 : List UInt8) : Option (Int × Bool) :=
 (loop (BA p0 p1) ((0 : Int), (p0.length : Int))).bind fun x3 => (Ae (decide (x3 < (p0.length : Int))) ((HR p0 x3).bind fun x7 => (Ae (x7 == p1) (some true) ((HR p0 x3).bind fun x9 => (DS x9).bind fun x10 => (Ae x10 ((DS p1).bind fun x12 => some x12) (some false) : Option (Bool)).bind fun x11 => some x11) : Option (Bool)).bind fun x8 => some x8) (some false) : Option (Bool)).bind fun x6 => some (x3, x6)
theorem Fg {p0 p1 rp0 q0 q1} (hm : Bj p0 p1 = some (q0, q1)) (A : HH g h [.AL rp0 9 (AL eS p0)] F) (hc : BI (cfg.still 202) av = [AI rp0 p0.length, .str p1] := by kernel_rfl) : ∃ v h', BL cfg g h 202 av v h' ∧ v = .tuple [Ai q0, .bool q1] ∧ HH g h' [.AL rp0 9 (AL eS p0)] F := by
 refine D5 54 [.tmp 4, .tmp 5] hc ?_
 clear hc
 unfold Bj at hm
 refine bg 54 [(0, AI rp0 p0.length), (1, .str p1)] fun fr H => ?_
 refine AG 2 (BT 2 [] 3 H fun fr H => BT 3 [(6, Ai (p0.length : Int))] 3 H fun fr H => AN 3 [(7, Ai 0), (8, Ai (p0.length : Int))] H fun fr H => AQ (AX (id := 0) (by kernel_rfl) ?_))
 obtain ⟨o1, ho, hm⟩ := bind_some hm
 refine BM (Q' := fun e fr' h' => (∃ x3, e = .exit 0 ∧ x3 = o1 ∧ Has fr' 54 [(0, AI rp0 p0.length), (1, .str p1), (6, Ai (p0.length : Int)), (7, Ai x3)] ∧ HH g h' [.AL rp0 9 (AL eS p0)] F) ∨ False) ?_ ?_
 ·refine B8 (by kernel_rfl) (fun (s : Int × Int) fr' h' => ∃ x1 x2, (x1, x2) = s ∧ Has fr' 54 [(0, AI rp0 p0.length), (1, .str p1), (6, Ai (p0.length : Int)), (7, Ai x1), (8, Ai x2)] ∧ HH g h' [.AL rp0 9 (AL eS p0)] F) ho ⟨_, _, rfl, H.ls, A⟩ ?_
  clear ho hm H A
  intro s q fr h1 hI hm
  obtain ⟨x1, x2, rfl, H, A⟩ := hI
  unfold BA at hm
  refine AQ (AG 3 (AN 3 [(15, .bool (decide (x1 < x2)))] H fun fr H => Ak 15 H hm (fun hb hm H => ?_) fun hb hm H => ?_))
  ·refine Be id (AX (id := 1) (by kernel_rfl) ?_)
   refine AG 7 (BT 7 [(9, Ai (IntKind.i64.wrap (B7 .u64 (IntKind.u64.wrap (IntKind.i64.wrap (x1 + x2))) (1 : Int))))] 6 H fun fr H => ?_)
   obtain ⟨x4, hx, hm⟩ := bind_some hm
   obtain ⟨i1, er1, _, hx, hq1⟩ := HH.NP encS (by decide) A 0 (xs := p0) rfl hx
   refine As 2 [] 24 (.ptr (some (i1, (IntKind.i64.wrap (B7 .u64 (IntKind.u64.wrap (IntKind.i64.wrap (x1 + x2))) (1 : Int))).toNat * 1))) h1 H (fun fr => .of (Fa (s := D2 rp0 p0.length) (by kernel_rfl) hx)) fun fr t H => ?_
   refine Az 25 _ _ H (fun fr => .of (Dj (by kernel_rfl) (FU encS (HH.row A 0 rfl er1) hq1 (o := 0) rfl))) fun fr t H => ?_
   obtain ⟨x5, hx, hm⟩ := bind_some hm
   obtain ⟨v1, h2, hr, rfl, A1⟩ := Lp (av := [.str x4, .str p1]) hx (A.cut 0)
   replace A := A.EV A1
   refine BH 1 [] 27 hr H fun fr t H => ?_
   refine BB id (Ak 27 H hm (fun hb hm H => ?_) fun hb hm H => ?_)
   ·refine EW 3 (Bi 3 [(0, AI rp0 p0.length), (1, .str p1), (6, Ai (p0.length : Int)), (7, Ai (IntKind.i64.wrap ((IntKind.i64.wrap (B7 .u64 (IntKind.u64.wrap (IntKind.i64.wrap (x1 + x2))) (1 : Int))) + 1))), (8, Ai x2)] H fun fr H => at_nil ?_)
    exact nx hm ⟨_, _, rfl, H.ls, A⟩
   refine EW 2 (Bi 2 [(0, AI rp0 p0.length), (1, .str p1), (6, Ai (p0.length : Int)), (7, Ai x1), (8, Ai (IntKind.i64.wrap (B7 .u64 (IntKind.u64.wrap (IntKind.i64.wrap (x1 + x2))) (1 : Int))))] H fun fr H => at_nil ?_)
   exact nx hm ⟨_, _, rfl, H.ls, A⟩
  refine Bn (i := 0) (by kernel_rfl) ?_
  exact nr hm fun e => .inl ⟨_, rfl, e, H.ls, A⟩
 clear ho
 clear A
 intro e fr h3 hQ
 rcases hQ with ⟨x3, rfl, rfl, H, A⟩ | hF
 ·show AW _ _ _ _ _ _ _
  refine AG 25 (AF 5 [(31, Ai x3), (35, .bool (decide (x3 < (p0.length : Int))))] H fun fr H => ?_)
  obtain ⟨x6, ho, hm⟩ := bind_some hm
  refine An 18 (fun fr' h' => Has fr' 54 [(31, Ai x3), (53, .bool x6)] ∧ HH g h' [.AL rp0 9 (AL eS p0)] F) ?_ ?_
  ·rcases AU ho with ⟨hb, hm⟩ | ⟨hb, hm⟩
   ·replace H := H.kn 35 hb
    obtain ⟨x7, hx, hm⟩ := bind_some hm
    obtain ⟨i2, er2, _, hx, hq2⟩ := HH.NP encS (by decide) A 0 (xs := p0) rfl hx
    refine As 2 [] 38 (.ptr (some (i2, x3.toNat * 1))) h3 H (fun fr => .of (Fa (s := D2 rp0 p0.length) (by kernel_rfl) hx)) fun fr t H => ?_
    refine Az 39 _ _ H (fun fr => .of (Dj (by kernel_rfl) (FU encS (HH.row A 0 rfl er2) hq2 (o := 0) rfl))) fun fr t H => ?_
    refine AF 3 [(42, .bool (x7 == p1))] H fun fr H => ?_
    obtain ⟨x8, ho, hm⟩ := bind_some hm
    refine An 10 (fun fr' h' => Has fr' 54 [(31, Ai x3), (35, .bool true), (52, .bool x8)] ∧ HH g h' [.AL rp0 9 (AL eS p0)] F) ?_ ?_
    ·rcases AU ho with ⟨hb, hm⟩ | ⟨hb, hm⟩
     ·replace H := H.kn 42 hb
      refine AF 10 [(52, .bool true)] H fun fr H => ?_
      obtain rfl := Aa hm
      exact at_nil ⟨H.ls, A⟩
     replace H := H.kn 42 hb
     obtain ⟨x9, hx, hm⟩ := bind_some hm
     obtain ⟨i3, er3, _, hx, hq3⟩ := HH.NP encS (by decide) A 0 (xs := p0) rfl hx
     refine As 2 [] 45 (.ptr (some (i3, x3.toNat * 1))) h3 H (fun fr => .of (Fa (s := D2 rp0 p0.length) (by kernel_rfl) hx)) fun fr t H => ?_
     refine Az 46 _ _ H (fun fr => .of (Dj (by kernel_rfl) (FU encS (HH.row A 0 rfl er3) hq3 (o := 0) rfl))) fun fr t H => ?_
     obtain ⟨x10, hx, hm⟩ := bind_some hm
     obtain ⟨v1, h6, hr, rfl, A1⟩ := G1 (av := [.str x9]) hx (A.cut 0)
     replace A := A.EV A1
     refine Ay 47 hr H fun fr t H => ?_
     refine AF 1 [(48, .bool x10)] H fun fr H => ?_
     obtain ⟨x11, ho, hm⟩ := bind_some hm
     refine An 3 (fun fr' h' => Has fr' 54 [(31, Ai x3), (35, .bool true), (42, .bool false), (51, .bool x11)] ∧ HH g h' [.AL rp0 9 (AL eS p0)] F) ?_ ?_
     ·rcases AU ho with ⟨hb, hm⟩ | ⟨hb, hm⟩
      ·replace H := H.kn 48 hb
       obtain ⟨x12, hx, hm⟩ := bind_some hm
       obtain ⟨v1, h8, hr, rfl, A1⟩ := G1 (av := [.str p1]) hx (A.cut 0)
       replace A := A.EV A1
       refine BH 1 [] 50 hr H fun fr t H => ?_
       refine AF 1 [(51, .bool x12)] H fun fr H => ?_
       obtain rfl := Aa hm
       exact at_nil ⟨H.ls, A⟩
      replace H := H.kn 48 hb
      refine AF 3 [(51, .bool false)] H fun fr H => ?_
      obtain rfl := Aa hm
      exact at_nil ⟨H.ls, A⟩
     clear A
     intro t fr h7 hK
     obtain ⟨H, A⟩ := hK
     refine AF 1 [(52, .bool x11)] H fun fr H => ?_
     obtain rfl := Aa hm
     exact at_nil ⟨H.ls, A⟩
    clear A
    intro t fr h5 hK
    obtain ⟨H, A⟩ := hK
    refine AF 1 [(53, .bool x8)] H fun fr H => ?_
    obtain rfl := Aa hm
    exact at_nil ⟨H.ls, A⟩
   replace H := H.kn 35 hb
   refine AF 18 [(53, .bool false)] H fun fr H => ?_
   obtain rfl := Aa hm
   exact at_nil ⟨H.ls, A⟩
  clear A
  intro t fr h4 hK
  obtain ⟨H, A⟩ := hK
  refine AN 2 [(4, Ai x3), (5, .bool x6)] H fun fr H => AS ?_
  obtain ⟨rfl, rfl⟩ := DG hm
  exact ⟨.inl rfl, _, rH H, rfl, A⟩
 exact hF.elim
def Hl (p0 : List UInt8) : Option (Bool) :=
 (Iy).bind fun x1 => (Bj x1 p0).bind fun (x2, x3) => some x3
theorem Pr {p0 q0} (hm : Hl p0 = some q0) (A : HH g h [] F) (hc : BI (cfg.still 139) av = [.str p0] := by kernel_rfl) : ∃ v h', BL cfg g h 139 av v h' ∧ v = .bool q0 ∧ HH g h' [] F := by
 refine D5 12 [.tmp 2] hc ?_
 clear hc
 unfold Hl at hm
 refine bg 12 [(0, .str p0)] fun fr H => ?_
 refine AG 1 (BT 1 [] 8 H fun fr H => ?_)
 obtain ⟨x1, hx, hm⟩ := bind_some hm
 obtain ⟨v1, h1, hr, rqw1, rfl, A1⟩ := QN (av := []) hx (A.cut 0)
 replace A := A.XJ A1
 refine Ay 6 hr H fun fr t H => ?_
 obtain ⟨⟨x2, x3⟩, hx, hm⟩ := bind_some hm
 obtain ⟨v1, h2, hr, rfl, A1⟩ := Fg (av := [AI rqw1 x1.length, .str p0]) hx (A.cut 1)
 replace A := A.g11 A1
 refine BH 1 [] 8 hr H fun fr t H => ?_
 refine BT 5 [(4, .bool x3)] 2 H fun fr H => AN 2 [(2, .bool x3)] H fun fr H => AS ?_
 obtain rfl := Aa hm
 refine ⟨.inl rfl, .bool x3, rH H, ?_⟩
 replace A := A.d0
 exact ⟨rfl, A⟩
def FK (x1 : List (List UInt8)) (s : Int) : Option ((Int) ⊕ ((Unit) ⊕ ((List UInt8) × Bool))) :=
 match s with
 | x2 => Ae (decide (x2 < (x1.length : Int))) ((HR x1 x2).bind fun x5 => (Hl x5).bind fun x6 => Ae x6 (some (.inr (.inr (x5, true)))) (some (.inl (IntKind.i64.wrap (x2 + 1))))) (some (.inr (.inl ())))
def Hj (p0 : List UInt8) : Option ((List UInt8) × Bool) :=
 (Et p0).bind fun x1 => (loop (FK x1) (0 : Int)).bind fun o1 => (match o1 with | .inl _ => some (([] : List UInt8), false) | .inr (x3, x4) => some (x3, x4))
theorem QF {p0 q0 q1} (hm : Hj p0 = some (q0, q1)) (A : HH g h [] F) (hc : BI (cfg.still 77) av = [.str p0] := by kernel_rfl) : ∃ v h', BL cfg g h 77 av v h' ∧ v = .tuple [.str q0, .bool q1] ∧ HH g h' [] F := by
 refine D5 17 [.tmp 2, .tmp 3] hc ?_
 clear hc
 unfold Hj at hm
 refine bg 17 [(0, .str p0)] fun fr H => ?_
 refine AG 2 (AN 2 [] H fun fr H => AQ (AG 4 ?_))
 obtain ⟨x1, hx, hm⟩ := bind_some hm
 obtain ⟨v1, h1, hr, rfl, A1⟩ := Ic (av := [.str p0]) hx (A.cut 0)
 replace A := A.EV A1
 refine BH 1 [] 7 hr H fun fr t H => ?_
 refine AN 2 [(8, Ai (x1.length : Int)), (9, Ai 0)] H fun fr H => AX (id := 0) (by kernel_rfl) ?_
 obtain ⟨o1, ho, hm⟩ := bind_some hm
 refine BM (Q' := fun e fr' h' => (e = .exit 0 ∧ .inl () = o1 ∧ Has fr' 17 [] ∧ HH g h' [] F) ∨ (∃ x3 x4, e = .ret ∧ .inr (x3, x4) = o1 ∧ Has fr' 17 [(2, .str x3), (3, .bool x4)] ∧ HH g h' [] F) ∨ False) ?_ ?_
 ·refine B8 (by kernel_rfl) (fun (s : Int) fr' h' => ∃ x2, x2 = s ∧ Has fr' 17 [(7, vs eS x1), (8, Ai (x1.length : Int)), (9, Ai x2)] ∧ HH g h' [] F) ho ⟨_, rfl, H.ls, A⟩ ?_
  clear ho hm H A
  intro s q fr h2 hI hm
  obtain ⟨x2, rfl, H, A⟩ := hI
  unfold FK at hm
  refine AG 1 (AN 1 [(10, .bool (decide (x2 < (x1.length : Int))))] H fun fr H => AQ (Ak 10 H hm (fun hb hm H => ?_) fun hb hm H => ?_))
  ·refine Be id (AQ (AX (id := 1) (by kernel_rfl) ?_))
   refine AG 3 ?_
   obtain ⟨x5, hx, hm⟩ := bind_some hm
   refine Az 11 (.A7 [.str x5]) h2 H (fun fr => .of (I3 (e := eS) (x := x5) encS (by decide) (by kernel_rfl) hx)) fun fr t H => ?_
   refine Az 12 (.str x5) h2 H (fun fr => .of (IQ (by kernel_rfl))) fun fr t H => ?_
   refine BT 1 [(5, .str x5)] 2 H fun fr H => ?_
   obtain ⟨x6, hx, hm⟩ := bind_some hm
   obtain ⟨v1, h3, hr, rfl, A1⟩ := Pr (av := [.str x5]) hx (A.cut 0)
   replace A := A.EV A1
   refine BH 1 [] 14 hr H fun fr t H => ?_
   refine BB id (Ak 14 H hm (fun hb hm H => ?_) fun hb hm H => ?_)
   ·refine AG 3 (AN 3 [(2, .str x5), (3, .bool true)] H fun fr H => AS ?_)
    exact nr hm fun e => Or.inr (.inl ⟨_, _, rfl, e, H.ls, A⟩)
   refine FH 2 id (Bi 2 [(7, vs eS x1), (8, Ai (x1.length : Int)), (9, Ai (IntKind.i64.wrap (x2 + 1)))] H fun fr H => at_nil ?_)
   exact nx hm ⟨_, rfl, H.ls, A⟩
  refine Bn (i := 0) (by kernel_rfl) ?_
  exact nr hm fun e => .inl ⟨rfl, e, H.ls, A⟩
 clear ho
 clear A
 intro e fr h4 hQ
 rcases hQ with ⟨rfl, rfl, H, A⟩ | ⟨x3, x4, rfl, rfl, H, A⟩ | hF
 ·show AW _ _ _ _ _ _ _
  refine AG 2 (AN 2 [(2, .str ([] : List UInt8)), (3, .bool false)] H fun fr H => AS ?_)
  obtain ⟨rfl, rfl⟩ := DG hm
  exact ⟨.inl rfl, _, rH H, rfl, A⟩
 ·obtain ⟨rfl, rfl⟩ := DG hm
  exact ⟨.inl rfl, _, rH H, rfl, A⟩
 exact hF.elim
def Eg (p0 : List UInt8) (p1 : Int) (s : Int) : Option ((Int) ⊕ ((Unit) ⊕ (Int))) :=
 match s with
 | x1 => Ae (decide (x1 ≥ 0)) ((Nb p0 x1).bind fun x3 => Ae (x3 == p1) (some (.inr (.inr x1))) (some (.inl (IntKind.i64.wrap (x1 - 1))))) (some (.inr (.inl ())))
def Dg (p0 : List UInt8) (p1 : Int) : Option (Int) :=
 (loop (Eg p0 p1) (IntKind.i64.wrap ((p0.length : Int) - 1))).bind fun o1 => (match o1 with | .inl _ => some (-1 : Int) | .inr x2 => some x2)
theorem HQ {p0 p1 q0} (hm : Dg p0 p1 = some q0) (A : HH g h [] F) (hc : BI (cfg.still 215) av = [.str p0, Ab p1] := by kernel_rfl) : ∃ v h', BL cfg g h 215 av v h' ∧ v = Ai q0 ∧ HH g h' [] F := by
 refine D5 19 [.tmp 4] hc ?_
 clear hc
 unfold Dg at hm
 refine bg 19 [(0, .str p0), (1, Ab p1)] fun fr H => ?_
 refine AG 1 (AN 1 [] H fun fr H => AQ (AG 4 (AN 4 [(5, Ai (IntKind.i64.wrap ((p0.length : Int) - 1)))] H fun fr H => AX (id := 0) (by kernel_rfl) ?_)))
 obtain ⟨o1, ho, hm⟩ := bind_some hm
 refine BM (Q' := fun e fr' h' => (e = .exit 0 ∧ .inl () = o1 ∧ Has fr' 19 [] ∧ HH g h' [] F) ∨ (∃ x2, e = .ret ∧ .inr x2 = o1 ∧ Has fr' 19 [(4, Ai x2)] ∧ HH g h' [] F) ∨ False) ?_ ?_
 ·refine B8 (by kernel_rfl) (fun (s : Int) fr' h' => ∃ x1, x1 = s ∧ Has fr' 19 [(0, .str p0), (1, Ab p1), (5, Ai x1)] ∧ HH g h' [] F) ho ⟨_, rfl, H.ls, A⟩ ?_
  clear ho hm H A
  intro s q fr h1 hI hm
  obtain ⟨x1, rfl, H, A⟩ := hI
  unfold Eg at hm
  refine AQ (AG 2 (AN 2 [(10, .bool (decide (x1 ≥ 0)))] H fun fr H => Ak 10 H hm (fun hb hm H => ?_) fun hb hm H => ?_))
  ·refine Be id (AQ (AX (id := 1) (by kernel_rfl) ?_))
   refine AG 5 ?_
   obtain ⟨x3, hx, hm⟩ := bind_some hm
   refine As 2 [] 15 (Ab x3) h1 H (fun fr => .of (G4 (by kernel_rfl) hx)) fun fr t H => ?_
   refine AN 2 [(17, .bool (x3 == p1))] H fun fr H => Ak 17 H hm (fun hb hm H => ?_) fun hb hm H => ?_
   ·refine AG 2 (AN 2 [(4, Ai x1)] H fun fr H => AS ?_)
    exact nr hm fun e => Or.inr (.inl ⟨_, rfl, e, H.ls, A⟩)
   refine FH 3 id (Bi 3 [(0, .str p0), (1, Ab p1), (5, Ai (IntKind.i64.wrap (x1 - 1)))] H fun fr H => at_nil ?_)
   exact nx hm ⟨_, rfl, H.ls, A⟩
  refine Bn (i := 0) (by kernel_rfl) ?_
  exact nr hm fun e => .inl ⟨rfl, e, H.ls, A⟩
 clear ho
 clear A
 intro e fr h2 hQ
 rcases hQ with ⟨rfl, rfl, H, A⟩ | ⟨x2, rfl, rfl, H, A⟩ | hF
 ·show AW _ _ _ _ _ _ _
  refine AG 1 (AN 1 [(4, Ai (-1))] H fun fr H => AS ?_)
  obtain rfl := Aa hm
  exact ⟨.inl rfl, _, rH H, rfl, A⟩
 ·obtain rfl := Aa hm
  exact ⟨.inl rfl, _, rH H, rfl, A⟩
 exact hF.elim
def FF (p0 : List UInt8) (p1 : Int) : Option (Int) :=
 (Dg p0 p1).bind fun x1 => some x1
theorem JX {p0 p1 q0} (hm : FF p0 p1 = some q0) (A : HH g h [] F) (hc : BI (cfg.still 152) av = [.str p0, Ab p1] := by kernel_rfl) : ∃ v h', BL cfg g h 152 av v h' ∧ v = Ai q0 ∧ HH g h' [] F := by
 refine D5 8 [.tmp 4] hc ?_
 clear hc
 unfold FF at hm
 refine bg 8 [(0, .str p0), (1, Ab p1)] fun fr H => ?_
 refine AG 1 (BT 1 [] 4 H fun fr H => ?_)
 obtain ⟨x1, hx, hm⟩ := bind_some hm
 obtain ⟨v1, h1, hr, rfl, A1⟩ := HQ (av := [.str p0, Ab p1]) hx (A.cut 0)
 replace A := A.EV A1
 refine BH 2 [] 7 hr H fun fr t H => ?_
 refine AN 1 [(4, Ai x1)] H fun fr H => AS ?_
 obtain rfl := Aa hm
 exact ⟨.inl rfl, _, rH H, rfl, A⟩
def Jw (p0 : List UInt8) : Option ((List UInt8)) :=
 (Dp p0).bind fun x1 => (FF x1 (47 : Int)).bind fun x2 => (LP x1 (some (IntKind.i64.wrap (x2 + 1))) none).bind fun x3 => some x3
theorem Oj {p0 q0} (hm : Jw p0 = some q0) (A : HH g h [] F) (hc : BI (cfg.still 90) av = [.str p0] := by kernel_rfl) : ∃ v h', BL cfg g h 90 av v h' ∧ v = .str q0 ∧ HH g h' [] F := by
 refine D5 10 [.tmp 2] hc ?_
 clear hc
 unfold Jw at hm
 refine bg 10 [(0, .str p0)] fun fr H => ?_
 refine AG 1 (BT 1 [] 3 H fun fr H => ?_)
 obtain ⟨x1, hx, hm⟩ := bind_some hm
 obtain ⟨v1, h1, hr, rfl, A1⟩ := GJ (av := [.str p0, .str ([47] : List UInt8)]) hx (A.cut 0)
 replace A := A.EV A1
 refine BH 1 [] 4 hr H fun fr t H => ?_
 refine Bi 1 [(0, .str x1)] H fun fr H => Cj 6 id ?_
 obtain ⟨x2, hx, hm⟩ := bind_some hm
 obtain ⟨v1, h2, hr, rfl, A1⟩ := JX (av := [.str x1, Ab 47]) hx (A.cut 0)
 replace A := A.EV A1
 refine BH 2 [(5, .str x1)] 7 hr H fun fr t H => ?_
 obtain ⟨x3, hx, hm⟩ := bind_some hm
 refine As 1 [] 9 (.str x3) h2 H (fun fr => .of (JN (k := .i64) (k' := .i64) (lo := (some (IntKind.i64.wrap (x2 + 1)))) (hi := none) (by kernel_rfl) hx)) fun fr t H => ?_
 refine AN 1 [(2, .str x3)] H fun fr H => AS ?_
 obtain rfl := Aa hm
 exact ⟨.inl rfl, _, rH H, rfl, A⟩
def E9 (p0 : List UInt8) (p1 : List UInt8) : Option (Bool) :=
 (Ae (decide ((p0.length : Int) ≥ (p1.length : Int))) ((LP p0 none (some (p1.length : Int))).bind fun x2 => some (x2 == p1)) (some false) : Option (Bool)).bind fun x1 => some x1
theorem Ja {p0 p1 q0} (hm : E9 p0 p1 = some q0) (A : HH g h [] F) (hc : BI (cfg.still 153) av = [.str p0, .str p1] := by kernel_rfl) : ∃ v h', BL cfg g h 153 av v h' ∧ v = .bool q0 ∧ HH g h' [] F := by
 refine D5 18 [.tmp 4] hc ?_
 clear hc
 unfold E9 at hm
 refine bg 18 [(0, .str p0), (1, .str p1)] fun fr H => ?_
 refine AG 1 (BT 1 [] 14 H fun fr H => AF 6 [(10, .bool (decide ((p0.length : Int) ≥ (p1.length : Int))))] H fun fr H => ?_)
 obtain ⟨x1, ho, hm⟩ := bind_some hm
 refine An 7 (fun fr' h' => Has fr' 18 [(17, .bool x1)] ∧ HH g h' [] F) ?_ ?_
 ·rcases AU ho with ⟨hb, hm⟩ | ⟨hb, hm⟩
  ·replace H := H.kn 10 hb
   obtain ⟨x2, hx, hm⟩ := bind_some hm
   refine As 3 [] 14 (.str x2) h H (fun fr => .of (JN (k := .i64) (k' := .i64) (lo := none) (hi := (some (p1.length : Int))) (by kernel_rfl) hx)) fun fr t H => ?_
   refine AF 3 [(17, .bool (x2 == p1))] H fun fr H => ?_
   obtain rfl := Aa hm
   exact at_nil ⟨H.ls, A⟩
  replace H := H.kn 10 hb
  refine AF 7 [(17, .bool false)] H fun fr H => ?_
  obtain rfl := Aa hm
  exact at_nil ⟨H.ls, A⟩
 clear A
 intro t fr h1 hK
 obtain ⟨H, A⟩ := hK
 refine AN 1 [(4, .bool x1)] H fun fr H => AS ?_
 obtain rfl := Aa hm
 exact ⟨.inl rfl, _, rH H, rfl, A⟩
def E3 (p0 : List UInt8) (p1 : List UInt8) : Option (Bool) :=
 (E9 p0 p1).bind fun x1 => some x1
theorem Hb {p0 p1 q0} (hm : E3 p0 p1 = some q0) (A : HH g h [] F) (hc : BI (cfg.still 91) av = [.str p0, .str p1] := by kernel_rfl) : ∃ v h', BL cfg g h 91 av v h' ∧ v = .bool q0 ∧ HH g h' [] F := by
 refine D5 8 [.tmp 4] hc ?_
 clear hc
 unfold E3 at hm
 refine bg 8 [(0, .str p0), (1, .str p1)] fun fr H => ?_
 refine AG 1 (BT 1 [] 4 H fun fr H => ?_)
 obtain ⟨x1, hx, hm⟩ := bind_some hm
 obtain ⟨v1, h1, hr, rfl, A1⟩ := Ja (av := [.str p0, .str p1]) hx (A.cut 0)
 replace A := A.EV A1
 refine BH 2 [] 7 hr H fun fr t H => ?_
 refine AN 1 [(4, .bool x1)] H fun fr H => AS ?_
 obtain rfl := Aa hm
 exact ⟨.inl rfl, _, rH H, rfl, A⟩
def FC (p0 : List UInt8) (p1 : List UInt8) : Option (Bool) :=
 (Ae (decide ((p0.length : Int) ≥ (p1.length : Int))) ((LP p0 (some (IntKind.i64.wrap ((p0.length : Int) - (p1.length : Int)))) none).bind fun x2 => some (x2 == p1)) (some false) : Option (Bool)).bind fun x1 => some x1
theorem JR {p0 p1 q0} (hm : FC p0 p1 = some q0) (A : HH g h [] F) (hc : BI (cfg.still 204) av = [.str p0, .str p1] := by kernel_rfl) : ∃ v h', BL cfg g h 204 av v h' ∧ v = .bool q0 ∧ HH g h' [] F := by
 refine D5 21 [.tmp 4] hc ?_
 clear hc
 unfold FC at hm
 refine bg 21 [(0, .str p0), (1, .str p1)] fun fr H => ?_
 refine AG 1 (BT 1 [] 17 H fun fr H => AF 6 [(10, .bool (decide ((p0.length : Int) ≥ (p1.length : Int))))] H fun fr H => ?_)
 obtain ⟨x1, ho, hm⟩ := bind_some hm
 refine An 10 (fun fr' h' => Has fr' 21 [(20, .bool x1)] ∧ HH g h' [] F) ?_ ?_
 ·rcases AU ho with ⟨hb, hm⟩ | ⟨hb, hm⟩
  ·replace H := H.kn 10 hb
   obtain ⟨x2, hx, hm⟩ := bind_some hm
   refine As 6 [] 17 (.str x2) h H (fun fr => .of (JN (k := .i64) (k' := .i64) (lo := (some (IntKind.i64.wrap ((p0.length : Int) - (p1.length : Int))))) (hi := none) (by kernel_rfl) hx)) fun fr t H => ?_
   refine AF 3 [(20, .bool (x2 == p1))] H fun fr H => ?_
   obtain rfl := Aa hm
   exact at_nil ⟨H.ls, A⟩
  replace H := H.kn 10 hb
  refine AF 10 [(20, .bool false)] H fun fr H => ?_
  obtain rfl := Aa hm
  exact at_nil ⟨H.ls, A⟩
 clear A
 intro t fr h1 hK
 obtain ⟨H, A⟩ := hK
 refine AN 1 [(4, .bool x1)] H fun fr H => AS ?_
 obtain rfl := Aa hm
 exact ⟨.inl rfl, _, rH H, rfl, A⟩
def E6 (p0 : List UInt8) (p1 : List UInt8) : Option (Bool) :=
 (FC p0 p1).bind fun x1 => some x1
theorem He {p0 p1 q0} (hm : E6 p0 p1 = some q0) (A : HH g h [] F) (hc : BI (cfg.still 140) av = [.str p0, .str p1] := by kernel_rfl) : ∃ v h', BL cfg g h 140 av v h' ∧ v = .bool q0 ∧ HH g h' [] F := by
 refine D5 8 [.tmp 4] hc ?_
 clear hc
 unfold E6 at hm
 refine bg 8 [(0, .str p0), (1, .str p1)] fun fr H => ?_
 refine AG 1 (BT 1 [] 4 H fun fr H => ?_)
 obtain ⟨x1, hx, hm⟩ := bind_some hm
 obtain ⟨v1, h1, hr, rfl, A1⟩ := JR (av := [.str p0, .str p1]) hx (A.cut 0)
 replace A := A.EV A1
 refine BH 2 [] 7 hr H fun fr t H => ?_
 refine AN 1 [(4, .bool x1)] H fun fr H => AS ?_
 obtain rfl := Aa hm
 exact ⟨.inl rfl, _, rH H, rfl, A⟩
def Jx (p0 : List UInt8) : Option (Bool) :=
 (Jw p0).bind fun x1 => (E3 x1 ([46, 35] : List UInt8)).bind fun x2 => (Ae x2 (some true) ((E6 x1 ([126] : List UInt8)).bind fun x4 => some x4) : Option (Bool)).bind fun x3 => Ae x3 (some true) ((Ae (decide ((x1.length : Int) > 1)) ((E3 x1 ([35] : List UInt8)).bind fun x6 => some x6) (some false) : Option (Bool)).bind fun x5 => (Ae x5 ((E6 x1 ([35] : List UInt8)).bind fun x8 => some x8) (some false) : Option (Bool)).bind fun x7 => some x7)
theorem Ox {p0 q0} (hm : Jx p0 = some q0) (A : HH g h [] F) (hc : BI (cfg.still 78) av = [.str p0] := by kernel_rfl) : ∃ v h', BL cfg g h 78 av v h' ∧ v = .bool q0 ∧ HH g h' [] F := by
 refine D5 23 [.tmp 2] hc ?_
 clear hc
 unfold Jx at hm
 refine bg 23 [(0, .str p0)] fun fr H => ?_
 refine AG 1 (BT 1 [] 3 H fun fr H => ?_)
 obtain ⟨x1, hx, hm⟩ := bind_some hm
 obtain ⟨v1, h1, hr, rfl, A1⟩ := Oj (av := [.str p0]) hx (A.cut 0)
 replace A := A.EV A1
 refine BH 1 [] 5 hr H fun fr t H => ?_
 refine AN 1 [(3, .str x1)] H fun fr H => AQ (AG 6 ?_)
 obtain ⟨x2, hx, hm⟩ := bind_some hm
 obtain ⟨v1, h2, hr, rfl, A1⟩ := Hb (av := [.str x1, .str ([46, 35] : List UInt8)]) hx (A.cut 0)
 replace A := A.EV A1
 refine BH 1 [] 7 hr H fun fr t H => ?_
 refine AF 1 [(8, .bool x2)] H fun fr H => ?_
 obtain ⟨x3, ho, hm⟩ := bind_some hm
 refine An 3 (fun fr' h' => Has fr' 23 [(3, .str x1), (11, .bool x3)] ∧ HH g h' [] F) ?_ ?_
 ·rcases AU ho with ⟨hb, hm⟩ | ⟨hb, hm⟩
  ·replace H := H.kn 8 hb
   refine AF 3 [(11, .bool true)] H fun fr H => ?_
   obtain rfl := Aa hm
   exact at_nil ⟨H.ls, A⟩
  replace H := H.kn 8 hb
  obtain ⟨x4, hx, hm⟩ := bind_some hm
  obtain ⟨v1, h4, hr, rfl, A1⟩ := He (av := [.str x1, .str ([126] : List UInt8)]) hx (A.cut 0)
  replace A := A.EV A1
  refine BH 1 [] 10 hr H fun fr t H => ?_
  refine AF 1 [(11, .bool x4)] H fun fr H => ?_
  obtain rfl := Aa hm
  exact at_nil ⟨H.ls, A⟩
 clear A
 intro t fr h3 hK
 obtain ⟨H, A⟩ := hK
 refine BB id (Ak 11 H hm (fun hb hm H => ?_) fun hb hm H => ?_)
 ·refine AG 1 (AN 1 [(2, .bool true)] H fun fr H => AS ?_)
  obtain rfl := Aa hm
  exact ⟨.inl rfl, _, rH H, rfl, A⟩
 refine Cm 12 id (AF 4 [(15, .bool (decide ((x1.length : Int) > 1)))] H fun fr H => ?_)
 obtain ⟨x5, ho, hm⟩ := bind_some hm
 refine An 3 (fun fr' h' => Has fr' 23 [(3, .str x1), (18, .bool x5)] ∧ HH g h' [] F) ?_ ?_
 ·rcases AU ho with ⟨hb, hm⟩ | ⟨hb, hm⟩
  ·replace H := H.kn 15 hb
   obtain ⟨x6, hx, hm⟩ := bind_some hm
   obtain ⟨v1, h6, hr, rfl, A1⟩ := Hb (av := [.str x1, .str ([35] : List UInt8)]) hx (A.cut 0)
   replace A := A.EV A1
   refine BH 1 [] 17 hr H fun fr t H => ?_
   refine AF 1 [(18, .bool x6)] H fun fr H => ?_
   obtain rfl := Aa hm
   exact at_nil ⟨H.ls, A⟩
  replace H := H.kn 15 hb
  refine AF 3 [(18, .bool false)] H fun fr H => ?_
  obtain rfl := Aa hm
  exact at_nil ⟨H.ls, A⟩
 clear A
 intro t fr h5 hK
 obtain ⟨H, A⟩ := hK
 refine AF 1 [(19, .bool x5)] H fun fr H => ?_
 obtain ⟨x7, ho, hm⟩ := bind_some hm
 refine An 3 (fun fr' h' => Has fr' 23 [(22, .bool x7)] ∧ HH g h' [] F) ?_ ?_
 ·rcases AU ho with ⟨hb, hm⟩ | ⟨hb, hm⟩
  ·replace H := H.kn 19 hb
   obtain ⟨x8, hx, hm⟩ := bind_some hm
   obtain ⟨v1, h8, hr, rfl, A1⟩ := He (av := [.str x1, .str ([35] : List UInt8)]) hx (A.cut 0)
   replace A := A.EV A1
   refine BH 1 [] 21 hr H fun fr t H => ?_
   refine AF 1 [(22, .bool x8)] H fun fr H => ?_
   obtain rfl := Aa hm
   exact at_nil ⟨H.ls, A⟩
  replace H := H.kn 19 hb
  refine AF 3 [(22, .bool false)] H fun fr H => ?_
  obtain rfl := Aa hm
  exact at_nil ⟨H.ls, A⟩
 clear A
 intro t fr h7 hK
 obtain ⟨H, A⟩ := hK
 refine AN 1 [(2, .bool x7)] H fun fr H => AS ?_
 obtain rfl := Aa hm
 exact ⟨.inl rfl, _, rH H, rfl, A⟩
def B5 (p0 : Bg) (p1 : AV) : Option (Int) :=
 (Dz p0.Ac p1.Name).bind fun (x1, x2) => Ae x2 (some (1 : Int)) ((Hj p1.Name).bind fun (x3, x4) => Ae (x4 && p0.c_.Ho) (some (2 : Int)) ((Ae p0.c_.BP ((Jx p1.Name).bind fun x6 => some x6) (some false) : Option (Bool)).bind fun x5 => Ae x5 (some (3 : Int)) (some (0 : Int))))
theorem FL {p0 p1 bp0 rp0_14 rp0_15 bp0_16 rp0_16_0 bp0_17 q0} (hm : B5 p0 p1 = some q0) (A : HH g h [.obj bp0 (.cells none 2 [vs AE p0.c_.Ah, vs AE p0.c_.Aj, vs AJ p0.c_.Bl, .bool p0.c_.Ho, .bool p0.c_.BP, Ai p0.c_.Bm, .bool p0.c_.CC, Ai p0.c_.BD.DF, Ai p0.c_.BD.Bp, Ai p0.c_.HG, Ai p0.c_.B3, Ai p0.c_.Name, Ai p0.c_.Head, Ai p0.c_.Bd, AI rp0_14 p0.AZ.length, AI rp0_15 p0.Ac.length, .ptr (some (bp0_16, 0)), .ptr (some (bp0_17, 0))]), .AL rp0_14 136 (AL (eP AB) p0.AZ), .AL rp0_15 136 (AL (eP AB) p0.Ac), .obj bp0_16 (.cells none 2 [AI rp0_16_0 p0.Ad.l_.length, Ai p0.Ad.Ba]), .AL rp0_16_0 142 (AL (eP AK) p0.Ad.l_), .obj bp0_17 (.cells none 2 ([Ai p0.Ap.n_, Ai p0.Ap.Aq] ++ (Cl 257 (AA.int .i64) p0.Ap.BJ ++ [])))] F) (hc : BI (cfg.still 40) av = [.ptr (some (bp0, 0)), .agg (AD p1)] := by kernel_rfl) : ∃ v h', BL cfg g h 40 av v h' ∧ v = Ai q0 ∧ HH g h' [.obj bp0 (.cells none 2 [vs AE p0.c_.Ah, vs AE p0.c_.Aj, vs AJ p0.c_.Bl, .bool p0.c_.Ho, .bool p0.c_.BP, Ai p0.c_.Bm, .bool p0.c_.CC, Ai p0.c_.BD.DF, Ai p0.c_.BD.Bp, Ai p0.c_.HG, Ai p0.c_.B3, Ai p0.c_.Name, Ai p0.c_.Head, Ai p0.c_.Bd, AI rp0_14 p0.AZ.length, AI rp0_15 p0.Ac.length, .ptr (some (bp0_16, 0)), .ptr (some (bp0_17, 0))]), .AL rp0_14 136 (AL (eP AB) p0.AZ), .AL rp0_15 136 (AL (eP AB) p0.Ac), .obj bp0_16 (.cells none 2 [AI rp0_16_0 p0.Ad.l_.length, Ai p0.Ad.Ba]), .AL rp0_16_0 142 (AL (eP AK) p0.Ad.l_), .obj bp0_17 (.cells none 2 ([Ai p0.Ap.n_, Ai p0.Ap.Aq] ++ (Cl 257 (AA.int .i64) p0.Ap.BJ ++ [])))] F := by
 refine D5 44 [.tmp 4] hc ?_
 clear hc
 unfold B5 at hm
 refine bg 44 [(0, .ptr (some (bp0, 0))), (1, .agg (AD p1))] fun fr H => ?_
 refine AG 2 ?_
 obtain ⟨h1, e1, A⟩ := A.pu (.cells none 2 (AD p1))
 refine BC 3 (.ptr (some (h.size, 0))) e1 H fun fr t H => ?_
 refine AN 1 [] H fun fr H => AQ (AQ (EZ 1 12 ?_))
 refine AR 3 [] 13 1 15 A H fun fr t H => ?_
 refine AR 1 [] 15 0 0 A H fun fr t H => ?_
 replace A : HH g h1 [_, .obj h.size (.cells none 2 (AD p1)), _, _, _, _, _] F := (A.front 3 rfl)
 obtain ⟨⟨x1, x2⟩, hx, hm⟩ := bind_some hm
 obtain ⟨v1, h2, hr, rfl, A1⟩ := Hc (av := [AI rp0_15 p0.Ac.length, .str p1.Name]) hx (A.cut 1)
 replace A := A.g11 A1
 refine Ay 16 hr H fun fr t H => ?_
 refine BT 5 [(6, .bool x2)] 1 H fun fr H => AN 1 [(19, .bool x2)] H fun fr H => Ak 19 H hm (fun hb hm H => ?_) fun hb hm H => ?_
 ·refine AG 1 (AN 1 [(4, Ai 1)] H fun fr H => AS ?_)
  obtain rfl := Aa hm
  refine ⟨.inl rfl, Ai 1, rH H, ?_⟩
  replace A := A.k6 2 3 0 4 5 6
  exact ⟨rfl, A⟩
 refine Be id (AQ (AG 8 (AR 1 [] 22 1 0 A H fun fr t H => ?_)))
 obtain ⟨⟨x3, x4⟩, hx, hm⟩ := bind_some hm
 obtain ⟨v1, h3, hr, rfl, A1⟩ := QF (av := [.str p1.Name]) hx (A.cut 0)
 replace A := A.EV A1
 refine Ay 23 hr H fun fr t H => ?_
 refine BT 5 [(8, .bool x4)] 8 H fun fr H => AF 2 [(27, .bool x4)] H fun fr H => An 6 (fun fr' h' => h3 = h' ∧ Has fr' 44 [(0, .ptr (some (bp0, 0))), (3, .ptr (some (h.size, 0))), (33, .bool (x4 && p0.c_.Ho))]) ?_ ?_
 ·cases hb : (x4 : Bool) with
  | true =>
   replace H := H.kn 27 hb
   refine AR 4 [] 32 2 3 A H fun fr t H => ?_
   exact AF 1 [(33, .bool p0.c_.Ho)] H fun fr H => AY H hb
  | false =>
   replace H := H.kn 27 hb
   exact AF 6 [(33, .bool false)] H fun fr H => AY H hb
 intro t fr h' hK
 obtain ⟨e, H⟩ := hK
 subst e
 refine BB id (Ak 33 H hm (fun hb hm H => ?_) fun hb hm H => ?_)
 ·refine AG 1 (AN 1 [(4, Ai 2)] H fun fr H => AS ?_)
  obtain rfl := Aa hm
  refine ⟨.inl rfl, Ai 2, rH H, ?_⟩
  replace A := A.k6 2 3 0 4 5 6
  exact ⟨rfl, A⟩
 refine Be id (AQ (AG 10 (AR 4 [] 38 2 4 A H fun fr t H => ?_)))
 refine AF 1 [(39, .bool p0.c_.BP)] H fun fr H => ?_
 obtain ⟨x5, ho, hm⟩ := bind_some hm
 refine An 4 (fun fr' h' => Has fr' 44 [(43, .bool x5)] ∧ HH g h' [.AL rp0_15 136 (AL (eP AB) p0.Ac), .obj h.size (.cells none 2 (AD p1)), .obj bp0 (.cells none 2 [vs AE p0.c_.Ah, vs AE p0.c_.Aj, vs AJ p0.c_.Bl, .bool p0.c_.Ho, .bool p0.c_.BP, Ai p0.c_.Bm, .bool p0.c_.CC, Ai p0.c_.BD.DF, Ai p0.c_.BD.Bp, Ai p0.c_.HG, Ai p0.c_.B3, Ai p0.c_.Name, Ai p0.c_.Head, Ai p0.c_.Bd, AI rp0_14 p0.AZ.length, AI rp0_15 p0.Ac.length, .ptr (some (bp0_16, 0)), .ptr (some (bp0_17, 0))]), .AL rp0_14 136 (AL (eP AB) p0.AZ), .obj bp0_16 (.cells none 2 [AI rp0_16_0 p0.Ad.l_.length, Ai p0.Ad.Ba]), .AL rp0_16_0 142 (AL (eP AK) p0.Ad.l_), .obj bp0_17 (.cells none 2 ([Ai p0.Ap.n_, Ai p0.Ap.Aq] ++ (Cl 257 (AA.int .i64) p0.Ap.BJ ++ [])))] F) ?_ ?_
 ·rcases AU ho with ⟨hb, hm⟩ | ⟨hb, hm⟩
  ·replace H := H.kn 39 hb
   refine AR 1 [] 41 1 0 A H fun fr t H => ?_
   obtain ⟨x6, hx, hm⟩ := bind_some hm
   obtain ⟨v1, h5, hr, rfl, A1⟩ := Ox (av := [.str p1.Name]) hx (A.cut 0)
   replace A := A.EV A1
   refine Ay 42 hr H fun fr t H => ?_
   refine AF 1 [(43, .bool x6)] H fun fr H => ?_
   obtain rfl := Aa hm
   exact at_nil ⟨H.ls, A⟩
  replace H := H.kn 39 hb
  refine AF 4 [(43, .bool false)] H fun fr H => ?_
  obtain rfl := Aa hm
  exact at_nil ⟨H.ls, A⟩
 clear A
 intro t fr h4 hK
 obtain ⟨H, A⟩ := hK
 refine BB id (Ak 43 H hm (fun hb hm H => ?_) fun hb hm H => ?_)
 ·refine AG 1 (AN 1 [(4, Ai 3)] H fun fr H => AS ?_)
  obtain rfl := Aa hm
  refine ⟨.inl rfl, Ai 3, rH H, ?_⟩
  replace A := A.k6 2 3 0 4 5 6
  exact ⟨rfl, A⟩
 refine Cm 1 id (AN 1 [(4, Ai 0)] H fun fr H => AS ?_)
 obtain rfl := Aa hm
 refine ⟨.inl rfl, Ai 0, rH H, ?_⟩
 replace A := A.k6 2 3 0 4 5 6
 exact ⟨rfl, A⟩
def DI (p0 : AV) (p2_0 : Bg) : Option (Int) :=
 some (0 : Int)
theorem Gp {p0 p2_0 bp1 bp2 bp2_0 rp2_0_14 rp2_0_15 bp2_0_16 rp2_0_16_0 bp2_0_17 q0} (hm : DI p0 p2_0 = some q0) (A : HH g h [.obj bp1 (.cells none 2 [.ptr none]), .obj bp2 (.cells none 2 [.ptr (some (bp2_0, 0))]), .obj bp2_0 (.cells none 2 [vs AE p2_0.c_.Ah, vs AE p2_0.c_.Aj, vs AJ p2_0.c_.Bl, .bool p2_0.c_.Ho, .bool p2_0.c_.BP, Ai p2_0.c_.Bm, .bool p2_0.c_.CC, Ai p2_0.c_.BD.DF, Ai p2_0.c_.BD.Bp, Ai p2_0.c_.HG, Ai p2_0.c_.B3, Ai p2_0.c_.Name, Ai p2_0.c_.Head, Ai p2_0.c_.Bd, AI rp2_0_14 p2_0.AZ.length, AI rp2_0_15 p2_0.Ac.length, .ptr (some (bp2_0_16, 0)), .ptr (some (bp2_0_17, 0))]), .AL rp2_0_14 136 (AL (eP AB) p2_0.AZ), .AL rp2_0_15 136 (AL (eP AB) p2_0.Ac), .obj bp2_0_16 (.cells none 2 [AI rp2_0_16_0 p2_0.Ad.l_.length, Ai p2_0.Ad.Ba]), .AL rp2_0_16_0 142 (AL (eP AK) p2_0.Ad.l_), .obj bp2_0_17 (.cells none 2 ([Ai p2_0.Ap.n_, Ai p2_0.Ap.Aq] ++ (Cl 257 (AA.int .i64) p2_0.Ap.BJ ++ [])))] F) (hc : BI (cfg.still 39) av = [.agg (AD p0), .ptr (some (bp1, 0)), .ptr (some (bp2, 0))] := by kernel_rfl) : ∃ v h', BL cfg g h 39 av v h' ∧ v = Ai q0 ∧ HH g h' [.obj bp1 (.cells none 2 [.ptr none]), .obj bp2 (.cells none 2 [.ptr (some (bp2_0, 0))]), .obj bp2_0 (.cells none 2 [vs AE p2_0.c_.Ah, vs AE p2_0.c_.Aj, vs AJ p2_0.c_.Bl, .bool p2_0.c_.Ho, .bool p2_0.c_.BP, Ai p2_0.c_.Bm, .bool p2_0.c_.CC, Ai p2_0.c_.BD.DF, Ai p2_0.c_.BD.Bp, Ai p2_0.c_.HG, Ai p2_0.c_.B3, Ai p2_0.c_.Name, Ai p2_0.c_.Head, Ai p2_0.c_.Bd, AI rp2_0_14 p2_0.AZ.length, AI rp2_0_15 p2_0.Ac.length, .ptr (some (bp2_0_16, 0)), .ptr (some (bp2_0_17, 0))]), .AL rp2_0_14 136 (AL (eP AB) p2_0.AZ), .AL rp2_0_15 136 (AL (eP AB) p2_0.Ac), .obj bp2_0_16 (.cells none 2 [AI rp2_0_16_0 p2_0.Ad.l_.length, Ai p2_0.Ad.Ba]), .AL rp2_0_16_0 142 (AL (eP AK) p2_0.Ad.l_), .obj bp2_0_17 (.cells none 2 ([Ai p2_0.Ap.n_, Ai p2_0.Ap.Aq] ++ (Cl 257 (AA.int .i64) p2_0.Ap.BJ ++ [])))] F := by
 refine D5 18 [.tmp 4] hc ?_
 clear hc
 unfold DI at hm
 refine bg 18 [(0, .agg (AD p0)), (1, .ptr (some (bp1, 0))), (2, .ptr (some (bp2, 0)))] fun fr H => ?_
 refine AG 2 ?_
 obtain ⟨h1, e1, A⟩ := A.pu (.cells none 2 (AD p0))
 refine BC 3 (.ptr (some (h.size, 0))) e1 H fun fr t H => ?_
 refine AN 1 [] H fun fr H => AQ (AQ (EZ 1 13 ?_))
 refine Eu 5 1 0 A H fun fr t H => ?_
 refine AN 12 [(17, .bool false)] H fun fr H => Kw (x := .tmp 17) (by kernel_rfl) H (fun fr => by kernel_rfl) ?_
 refine Cm 1 id (AN 1 [(4, Ai 0)] H fun fr H => AS ?_)
 obtain rfl := Aa hm
 refine ⟨.inl rfl, Ai 0, rH H, ?_⟩
 replace A := A.k8 1 2 3 4 5 6 7 8
 exact ⟨rfl, A⟩
def Ko (p0 : Aw) (p1 : Aw) : Option (Int) :=
 (SZ cfg.P 23 [Ai p0.DF, Ai p0.Bp] [Ai p1.DF, Ai p1.Bp]).bind fun x1 => Ae x1 (some (0 : Int)) (Ae ((decide (p0.DF < p1.DF)) || ((p0.DF == p1.DF) && (decide (p0.Bp < p1.Bp)))) (some (-1 : Int)) (some (1 : Int)))
theorem QB {p0 p1 q0} (hm : Ko p0 p1 = some q0) (A : HH g h [] F) (hc : BI (cfg.still 141) av = [.agg [Ai p0.DF, Ai p0.Bp], .agg [Ai p1.DF, Ai p1.Bp]] := by kernel_rfl) : ∃ v h', BL cfg g h 141 av v h' ∧ v = Ai q0 ∧ HH g h' [] F := by
 refine D5 27 [.tmp 4] hc ?_
 clear hc
 unfold Ko at hm
 refine bg 27 [(0, .agg [Ai p0.DF, Ai p0.Bp]), (1, .agg [Ai p1.DF, Ai p1.Bp])] fun fr H => ?_
 refine AG 3 ?_
 obtain ⟨h1, e1, A⟩ := A.pu (.cells none 2 [Ai p0.DF, Ai p0.Bp])
 refine BC 2 (.ptr (some (h.size, 0))) e1 H fun fr t H => ?_
 obtain ⟨h2, e2, A⟩ := A.pu (.cells none 2 [Ai p1.DF, Ai p1.Bp])
 refine BC 3 (.ptr (some (h1.size, 0))) e2 H fun fr t H => ?_
 refine AN 1 [] H fun fr H => AQ (AG 3 (Az 5 _ _ H (fun fr => .of (Bs (by kernel_rfl) (A.GA 1 rfl (o := 0) (n := 2) ⟨Nat.le_of_ble_eq_true rfl, rfl⟩))) fun fr t H => ?_))
 refine Az 6 _ _ H (fun fr => .of (Bs (by kernel_rfl) (A.GA 0 rfl (o := 0) (n := 2) ⟨Nat.le_of_ble_eq_true rfl, rfl⟩))) fun fr t H => ?_
 obtain ⟨x1, hx, hm⟩ := bind_some hm
 refine Az 7 (.bool x1) h2 H (fun fr => .of (Ve (by kernel_rfl) hx)) fun fr t H => ?_
 refine BB id (Ak 7 H hm (fun hb hm H => ?_) fun hb hm H => ?_)
 ·refine AG 1 (AN 1 [(4, Ai 0)] H fun fr H => AS ?_)
  obtain rfl := Aa hm
  refine ⟨.inl rfl, Ai 0, rH H, ?_⟩
  replace A := A.d0
  exact ⟨rfl, A⟩
 refine Be id (AQ (AG 19 (AR 1 [] 9 1 0 A H fun fr t H => ?_)))
 refine AR 1 [] 11 0 0 A H fun fr t H => ?_
 refine AF 2 [(13, .bool (decide (p0.DF < p1.DF)))] H fun fr H => An 13 (fun fr' h' => h2 = h' ∧ Has fr' 27 [(26, .bool ((decide (p0.DF < p1.DF)) || ((p0.DF == p1.DF) && (decide (p0.Bp < p1.Bp)))))]) ?_ ?_
 ·cases hb : (decide (p0.DF < p1.DF) : Bool) with
  | true =>
   replace H := H.kn 13 hb
   exact AF 13 [(26, .bool true)] H fun fr H => AY H hb
  | false =>
   replace H := H.kn 13 hb
   refine AR 1 [] 15 1 0 A H fun fr t H => ?_
   refine AR 1 [] 17 0 0 A H fun fr t H => ?_
   refine AF 2 [(19, .bool (p0.DF == p1.DF))] H fun fr H => An 6 (fun fr' h' => h2 = h' ∧ Has fr' 27 [(13, .bool false), (25, .bool ((p0.DF == p1.DF) && (decide (p0.Bp < p1.Bp))))]) ?_ ?_
   ·cases hb : (p0.DF == p1.DF : Bool) with
    | true =>
     replace H := H.kn 19 hb
     refine AR 1 [] 21 1 1 A H fun fr t H => ?_
     refine AR 1 [] 23 0 1 A H fun fr t H => ?_
     exact AF 2 [(25, .bool (decide (p0.Bp < p1.Bp)))] H fun fr H => AY H hb
    | false =>
     replace H := H.kn 19 hb
     exact AF 6 [(25, .bool false)] H fun fr H => AY H hb
   intro t fr h' hK
   obtain ⟨e, H⟩ := hK
   subst e
   exact AF 1 [(26, .bool ((p0.DF == p1.DF) && (decide (p0.Bp < p1.Bp))))] H fun fr H => AY H hb
 intro t fr h' hK
 obtain ⟨e, H⟩ := hK
 subst e
 refine BB id (Ak 26 H hm (fun hb hm H => ?_) fun hb hm H => ?_)
 ·refine AG 1 (AN 1 [(4, Ai (-1))] H fun fr H => AS ?_)
  obtain rfl := Aa hm
  refine ⟨.inl rfl, Ai (-1), rH H, ?_⟩
  replace A := A.d0
  exact ⟨rfl, A⟩
 refine Cm 1 id (AN 1 [(4, Ai 1)] H fun fr H => AS ?_)
 obtain rfl := Aa hm
 refine ⟨.inl rfl, Ai 1, rH H, ?_⟩
 replace A := A.d0
 exact ⟨rfl, A⟩
def Jy (p0 : Aw) (p1 : Aw) : Option (Bool) :=
 (Ko p0 p1).bind fun x1 => some (decide (x1 ≥ 0))
theorem Oc {p0 p1 q0} (hm : Jy p0 p1 = some q0) (A : HH g h [] F) (hc : BI (cfg.still 79) av = [.agg [Ai p0.DF, Ai p0.Bp], .agg [Ai p1.DF, Ai p1.Bp]] := by kernel_rfl) : ∃ v h', BL cfg g h 79 av v h' ∧ v = .bool q0 ∧ HH g h' [] F := by
 refine D5 9 [.tmp 4] hc ?_
 clear hc
 unfold Jy at hm
 refine bg 9 [(0, .agg [Ai p0.DF, Ai p0.Bp]), (1, .agg [Ai p1.DF, Ai p1.Bp])] fun fr H => ?_
 refine AG 3 ?_
 obtain ⟨h1, e1, A⟩ := A.pu (.cells none 2 [Ai p0.DF, Ai p0.Bp])
 refine BC 2 (.ptr (some (h.size, 0))) e1 H fun fr t H => ?_
 obtain ⟨h2, e2, A⟩ := A.pu (.cells none 2 [Ai p1.DF, Ai p1.Bp])
 refine BC 3 (.ptr (some (h1.size, 0))) e2 H fun fr t H => ?_
 refine BT 1 [] 5 H fun fr H => Az 5 _ _ H (fun fr => .of (Bs (by kernel_rfl) (A.GA 1 rfl (o := 0) (n := 2) ⟨Nat.le_of_ble_eq_true rfl, rfl⟩))) fun fr t H => ?_
 refine Az 6 _ _ H (fun fr => .of (Bs (by kernel_rfl) (A.GA 0 rfl (o := 0) (n := 2) ⟨Nat.le_of_ble_eq_true rfl, rfl⟩))) fun fr t H => ?_
 obtain ⟨x1, hx, hm⟩ := bind_some hm
 obtain ⟨v1, h3, hr, rfl, A1⟩ := QB (av := [.agg [Ai p0.DF, Ai p0.Bp], .agg [Ai p1.DF, Ai p1.Bp]]) hx (A.cut 0)
 replace A : HH g h3 [.obj h1.size (.cells none 2 [Ai p1.DF, Ai p1.Bp]), .obj h.size (.cells none 2 [Ai p0.DF, Ai p0.Bp])] F := A.CL (n := 0) A1
 refine Ay 7 hr H fun fr t H => ?_
 refine AN 2 [(4, .bool (decide (x1 ≥ 0)))] H fun fr H => AS ?_
 obtain rfl := Aa hm
 refine ⟨.inl rfl, .bool (decide (x1 ≥ 0)), rH H, ?_⟩
 replace A := A.d0
 exact ⟨rfl, A⟩
def Fk (p0 : CF) (p1 : Int) : Option (Bool) :=
 some ((decide (p1 ≥ 0)) && (decide (p1 < p0.Aq)))
theorem Lt {p0 p1 bp0 q0} (hm : Fk p0 p1 = some q0) (A : HH g h [.obj bp0 (.cells none 2 ([Ai p0.n_, Ai p0.Aq] ++ (Cl 257 (AA.int .i64) p0.BJ ++ [])))] F) (hc : BI (cfg.still 142) av = [.ptr (some (bp0, 0)), Ai p1] := by kernel_rfl) : ∃ v h', BL cfg g h 142 av v h' ∧ v = .bool q0 ∧ HH g h' [.obj bp0 (.cells none 2 ([Ai p0.n_, Ai p0.Aq] ++ (Cl 257 (AA.int .i64) p0.BJ ++ [])))] F := by
 refine D5 15 [.tmp 4] hc ?_
 clear hc
 unfold Fk at hm
 refine bg 15 [(0, .ptr (some (bp0, 0))), (1, Ai p1)] fun fr H => ?_
 refine AG 1 (BT 1 [] 11 H fun fr H => AF 3 [(7, .bool (decide (p1 ≥ 0)))] H fun fr H => An 7 (fun fr' h' => h = h' ∧ Has fr' 15 [(14, .bool ((decide (p1 ≥ 0)) && (decide (p1 < p0.Aq))))]) ?_ ?_)
 ·cases hb : (decide (p1 ≥ 0) : Bool) with
  | true =>
   replace H := H.kn 7 hb
   refine As 4 [(8, Ai p1)] 12 (Ai p0.Aq) h H (fun fr => .of (Dj (by kernel_rfl) (A.NX 0 rfl (o := 1) (by kernel_rfl)))) fun fr t H => ?_
   exact AF 2 [(14, .bool (decide (p1 < p0.Aq)))] H fun fr H => AY H hb
  | false =>
   replace H := H.kn 7 hb
   exact AF 7 [(14, .bool false)] H fun fr H => AY H hb
 intro t fr h' hK
 obtain ⟨e, H⟩ := hK
 subst e
 refine AN 1 [(4, .bool ((decide (p1 ≥ 0)) && (decide (p1 < p0.Aq))))] H fun fr H => AS ?_
 obtain rfl := Aa hm
 exact ⟨.inl rfl, _, rH H, rfl, A⟩
end
end Go.Av.L
