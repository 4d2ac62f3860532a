/-
 A part.
-/
import Derived.Test.YtdbkpibbjnhmgaaDoorKCfg
import Derived.Test.YtdbkpibbjnhmgaaDoorK0
import Derived.Test.YtdbkpibbjnhmgaaDoorK1
namespace Go.Av.L
open Go.Av Go.Lib
set_option maxRecDepth 10000
set_option linter.unusedVariables false
set_option linter.unusedSimpArgs false
variable {g : Gd} {h : AB} {F : List Ck} {av : List AA}
noncomputable section
def CO (x6 : List (List UInt8)) (s : (List AD) × Int) : Option (((List AD) × Int) ⊕ (((List AD)))) :=
 match s with
 | (x7, x8) => BG (decide (x8 < (x6.length : Int))) ((IY x6 none (some x8)).bind fun x10 => (BS x7 x10 (-1 : Int)).bind fun x11 => some (.inl (x11, IntKind.i64.wrap (x8 + 1)))) (some (.inr x7))
def CN (p0 : List AN) (s : (List AD) × Int) : Option (((List AD) × Int) ⊕ (((List AD)))) :=
 match s with
 | (x1, x2) => BG (decide (x2 < (p0.length : Int))) (((F5 p0 x2).bind fun x5 => (CR x5.Name).bind fun x6 => (loop (CO x6) (x1, (1 : Int))).bind fun x9 => BG (decide ((x6.length : Int) > 0)) ((BS x9 x6 x2).bind fun x12 => some x12) (some x9) : Option (((List AD)))).bind fun x4 => some (.inl (x4, IntKind.i64.wrap (x2 + 1)))) (some (.inr x1))
def CF (p0 : List AN) : Option ((List AD)) :=
 (loop (CN p0) (([] : List AD), (0 : Int))).bind fun x3 => some x3
theorem Gw {p0 q0} (hm : CF p0 = some q0) (A : HH g h [] F) (hc : Bq (cfg.still 9) av = [vs AE p0] := by kernel_rfl) : ∃ v h', B5 cfg g h 9 av v h' ∧ ∃ (rq0 : Option Nat), v = AK rq0 q0.length ∧ HH g h' [.AL rq0 35 (AL AF q0)] F := by
 refine Hv 39 [.tmp 2] hc ?_
 clear hc
 unfold CF at hm
 refine bg 39 [(0, vs AE p0)] fun fr H => ?_
 refine AJ 1 (DY 1 [] 2 H fun fr H => ?_)
 obtain ⟨h1, e1, A⟩ := A.pL 35 []
 refine Cl 7 (AK (some h.size) (([] : List AD).length)) e1 H fun fr t H => ?_
 refine AV 1 [(3, AK (some h.size) (([] : List AD).length))] H fun fr H => AX (AJ 1 (AV 1 [(4, Ai 0)] H fun fr H => AO (id := 0) (by kernel_rfl) ?_))
 replace A : HH g h1 [.AL (some h.size) 35 (AL AF ([] : List AD))] F := A
 obtain ⟨o1, ho, hm⟩ := bind_some hm
 refine Ak (Q' := fun e fr' h' => (∃ x3, e = .exit 0 ∧ x3 = o1 ∧ ∃ r2, Has fr' 39 [(3, AK r2 x3.length)] ∧ HH g h' [.AL r2 35 (AL AF x3)] F) ∨ False) ?_ ?_
 ·refine CB (by kernel_rfl) (fun (s : (List AD) × Int) fr' h' => ∃ x1 x2, (x1, x2) = s ∧ ∃ r1, Has fr' 39 [(0, vs AE p0), (3, AK r1 x1.length), (4, Ai x2)] ∧ HH g h' [.AL r1 35 (AL AF x1)] F) ho ⟨_, _, rfl, some h.size, H.ls, A⟩ ?_
  clear ho hm H A
  intro s q fr h2 hI hm
  obtain ⟨x1, x2, rfl, r1, H, A⟩ := hI
  unfold CN at hm
  refine AX (AJ 4 (AV 4 [(11, .bool (decide (x2 < (p0.length : Int))))] H fun fr H => BF 11 H hm (fun hb hm H => ?_) fun hb hm H => ?_))
  ·refine Cy id (AX ?_)
   obtain ⟨o2, ho, hm⟩ := bind_some hm
   refine Ak (Q' := fun e fr' h' => (∃ x4, e = .normal ∧ x4 = o2 ∧ ∃ r3, Has fr' 39 [(0, vs AE p0), (3, AK r3 x4.length), (4, Ai x2)] ∧ HH g h' [.AL r3 35 (AL AF x4)] F) ∨ False) ?_ ?_
   ·replace hm := ho
    clear ho
    refine AO (id := 1) (by kernel_rfl) ?_
    refine AJ 7 ?_
    obtain ⟨x5, hx, hm⟩ := bind_some hm
    refine BE 2 [] 16 (.Cp (AE x5)) h2 H (fun fr => .of (HG (e := AE) (x := x5) Cd (by decide) (by kernel_rfl) hx)) fun fr t H => ?_
    refine BE 1 [] 18 (.str x5.Name) h2 H (fun fr => .of (Kq (by kernel_rfl))) fun fr t H => ?_
    obtain ⟨x6, hx, hm⟩ := bind_some hm
    obtain ⟨v1, h3, hr, rfl, A1⟩ := Hg (av := [.str x5.Name]) hx (A.cut 0)
    replace A := A.R7 A1
    refine Co 19 hr H fun fr t H => ?_
    refine AV 1 [(5, vs eS x6)] H fun fr H => AX (AJ 1 (AV 1 [(6, Ai 1)] H fun fr H => AO (id := 2) (by kernel_rfl) ?_))
    obtain ⟨o3, ho, hm⟩ := bind_some hm
    refine Ak (Q' := fun e fr' h' => (∃ x9, e = .exit 2 ∧ x9 = o3 ∧ ∃ r5, Has fr' 39 [(0, vs AE p0), (3, AK r5 x9.length), (4, Ai x2), (5, vs eS x6)] ∧ HH g h' [.AL r5 35 (AL AF x9)] F) ∨ False) ?_ ?_
    ·refine CB (by kernel_rfl) (fun (s : (List AD) × Int) fr' h' => ∃ x7 x8, (x7, x8) = s ∧ ∃ r4, Has fr' 39 [(0, vs AE p0), (3, AK r4 x7.length), (4, Ai x2), (5, vs eS x6), (6, Ai x8)] ∧ HH g h' [.AL r4 35 (AL AF x7)] F) ho ⟨_, _, rfl, _, H.ls, A⟩ ?_
     clear ho hm H A
     intro s q fr h4 hI hm
     obtain ⟨x7, x8, rfl, r4, H, A⟩ := hI
     unfold CO at hm
     refine AX (AJ 4 (AV 4 [(23, .bool (decide (x8 < (x6.length : Int))))] H fun fr H => BF 23 H hm (fun hb hm H => ?_) fun hb hm H => ?_))
     ·refine Cy id (AX (AO (id := 3) (by kernel_rfl) ?_))
      refine CA 6 ?_
      obtain ⟨x10, hx, hm⟩ := bind_some hm
      refine BE 3 [(26, AK r4 x7.length)] 29 (vs eS x10) h4 H (fun fr => .of (UG (e := eS) encS (k := .i64) (k' := .i64) (lo := none) (hi := (some x8)) (by kernel_rfl) hx)) fun fr t H => ?_
      obtain ⟨x11, hx, hm⟩ := bind_some hm
      obtain ⟨v1, h5, hr, rqw2, rfl, A1⟩ := Dj (av := [AK r4 x7.length, vs eS x10, Ai (-1)]) hx (A.cut 1)
      replace A := A.g12 A1
      refine Co 30 hr H fun fr t H => ?_
      refine Br 1 [(0, vs AE p0), (3, AK rqw2 x11.length), (4, Ai x2), (5, vs eS x6), (6, Ai x8)] H fun fr H => JF 3 id (Br 3 [(0, vs AE p0), (3, AK rqw2 x11.length), (4, Ai x2), (5, vs eS x6), (6, Ai (IntKind.i64.wrap (x8 + 1)))] H fun fr H => at_nil ?_)
      replace A := A.d1
      exact nx hm ⟨_, _, rfl, rqw2, H.ls, A⟩
     refine Bt (i := 2) (by kernel_rfl) ?_
     exact nr hm fun e => .inl ⟨_, rfl, e, _, H.ls, A⟩
    clear ho
    clear A
    intro e fr h6 hQ
    rcases hQ with ⟨x9, rfl, rfl, r5, H, A⟩ | hF
    ·show AW _ _ _ _ _ _ _
     refine AJ 3 (AV 3 [(33, .bool (decide ((x6.length : Int) > 0)))] H fun fr H => BF 33 H hm (fun hb hm H => ?_) fun hb hm H => ?_)
     ·refine CA 5 ?_
      obtain ⟨x12, hx, hm⟩ := bind_some hm
      obtain ⟨v1, h7, hr, rqw3, rfl, A1⟩ := Dj (av := [AK r5 x9.length, vs eS x6, Ai x2]) hx (A.cut 1)
      replace A := A.g12 A1
      refine Cx 3 [] 37 hr H fun fr t H => ?_
      refine Br 1 [(0, vs AE p0), (3, AK rqw3 x12.length), (4, Ai x2)] H fun fr H => at_nil ?_
      replace A := A.d1
      exact .inl ⟨_, rfl, A7 hm, rqw3, H.ls, A⟩
     exact ER (.inl ⟨_, rfl, A7 hm, _, H.ls, A⟩)
    exact hF.elim
   clear ho
   clear A
   intro e fr h8 hQ
   rcases hQ with ⟨x4, rfl, rfl, r3, H, A⟩ | hF
   ·show AW _ _ _ _ _ _ _
    refine CA 3 (Br 3 [(0, vs AE p0), (3, AK r3 x4.length), (4, Ai (IntKind.i64.wrap (x2 + 1)))] H fun fr H => at_nil ?_)
    exact nx hm ⟨_, _, rfl, _, H.ls, A⟩
   exact hF.elim
  refine Bt (i := 0) (by kernel_rfl) ?_
  exact nr hm fun e => .inl ⟨_, rfl, e, _, H.ls, A⟩
 clear ho
 clear A
 intro e fr h9 hQ
 rcases hQ with ⟨x3, rfl, rfl, r2, H, A⟩ | hF
 ·show AW _ _ _ _ _ _ _
  refine AJ 2 (AV 2 [(2, AK r2 x3.length)] H fun fr H => BW ?_)
  obtain rfl := A7 hm
  exact ⟨.inl rfl, _, rH H, _, rfl, A⟩
 exact hF.elim
def Ao {SY RY : Type} (Y : SY → ((List UInt8) × Int) → Option (SY ⊕ RY)) (ar : List AG) (s : (SY ⊕ RY)) (v1 : (List UInt8) × Nat) : Option (((SY ⊕ RY)) ⊕ (((SY ⊕ RY)))) :=
 match s with
 | y2 => (ar[v1.2]?).bind fun x2 => (M7 Y y2 (v1.1, x2.at_)).bind fun (x3, y4) => BG (!x3) (some (.inr y4)) (some (.inl y4))
def BU {SY RY : Type} (Y : SY → ((List UInt8) × Int) → Option (SY ⊕ RY)) (y : SY ⊕ RY) (p1_0 : A9) (ar : List AG) : Option ((SY ⊕ RY)) :=
 (B3 p1_0 ar).bind fun _ => (Ar (Ao Y ar) (.inl y) p1_0 ar).bind fun y1 => (match y1 with | .inl y2 => some y2 | .inr y3 => some y3)
theorem E9 {SY RY : Type} {R : SY ⊕ RY → List Ck → Prop} {I} {Y : SY → ((List UInt8) × Int) → Option (SY ⊕ RY)} {y : SY ⊕ RY} {p1_0 ar l bp1 bp1_0} {yq : SY ⊕ RY} (hm : BU Y y p1_0 ar = some yq) (hc : Bq (cfg.still 25) av = [.FZ l, .ptr (some (bp1, 0))]) (hYR : YR cfg g l (fun x => [.str x.1, Ai x.2]) Y R) (B : R y F) (hF : ∀ y F, R y F → EM BT I ar ∈ F) (A : HH g h [.obj bp1 (.cells none 2 [.ptr (some (bp1_0, 0))]), .obj bp1_0 (.cells none 2 [.ptr (some (BM I p1_0.Bv, 0)), Ai p1_0.n_])] F) : ∃ v h', B5 cfg g h 25 av v h' ∧ v = .tuple [] ∧ ∃ F, R yq F ∧ HH g h' [.obj bp1 (.cells none 2 [.ptr (some (bp1_0, 0))]), .obj bp1_0 (.cells none 2 [.ptr (some (BM I p1_0.Bv, 0)), Ai p1_0.n_])] F := by
 refine Hv 17 [] hc ?_
 clear hc
 unfold BU at hm
 refine bg 17 [(0, .FZ l), (1, .ptr (some (bp1, 0)))] fun fr H => ?_
 refine AJ 1 ?_
 obtain ⟨h1, e1, A⟩ := A.pu (.cells none 2 [.FZ l])
 refine Cl 2 (.ptr (some (h.size, 0))) e1 H fun fr t H => ?_
 refine Hw 2 id (EF 5 1 0 A H fun fr t H => ?_)
 replace A : HH g h1 [_, .obj h.size (.cells none 2 [.FZ l]), _] F := (A.front 2 rfl)
 have A1 := A.cut 1
 obtain ⟨⟨⟩, hx, hm⟩ := bind_some hm
 obtain ⟨v1, h2, hr, bqw1_10, rfl, A1⟩ := EI (av := [.ptr (some (bp1_0, 0))]) hx (by kernel_rfl) (List.mem_append_right _ (hF _ _ B)) A1
 replace A := A.g12 A1
 refine Co 6 hr H fun fr t H => ?_
 refine DQ id (AO (id := 0) (by kernel_rfl) ?_)
 obtain ⟨y1, ho, hm⟩ := bind_some hm
 refine JU (C := cfg) (x := .tmp 6) (ps := [7, 8]) (f' := 38) (first := []) (cap := [.ptr (some (bqw1_10, 0))]) (Lu := [.obj bqw1_10 (.cells none 2 [.ptr (some (bp1_0, 0))]), .obj bp1_0 (.cells none 2 [.ptr (some (BM I p1_0.Bv, 0)), Ai p1_0.n_])]) (Lc := [.obj h.size (.cells none 2 [.FZ l]), .obj bp1 (.cells none 2 [.ptr (some (bp1_0, 0))])]) (F := F) (ex := fun x => [.str x.1, .ptr (some (BM I x.2, 0))]) (Y := Ao Y ar) (PL := fun s Lc => ∃ (y2 : SY ⊕ RY), y2 = s ∧ Lc = [.obj h.size (.cells none 2 [.FZ l]), .obj bp1 (.cells none 2 [.ptr (some (bp1_0, 0))])]) (PR := fun r Lc => (∃ (y3 : SY ⊕ RY), y3 = r ∧ Lc = [.obj h.size (.cells none 2 [.FZ l]), .obj bp1 (.cells none 2 [.ptr (some (bp1_0, 0))])]) ∨ False) (pe := fun _ => .ret) (s := y) (y := y1) (PU := fun L => L = [.obj bqw1_10 (.cells none 2 [.ptr (some (bp1_0, 0))]), .obj bp1_0 (.cells none 2 [.ptr (some (BM I p1_0.Bv, 0)), Ai p1_0.n_])]) (St := (WJ cfg l (fun x => [.str x.1, Ai x.2]) Y (EM BT I ar))) (Q0 := R) (tl := fun s => s) (tr := fun r => r) (by kernel_rfl) H (fun fr => by kernel_rfl) (by kernel_rfl) (fun _ => rfl) (by kernel_rfl) A ⟨y, rfl, rfl⟩ UO ⟨hYR, hF⟩ B ?_ ?_ ?_ ?_ ?_
 ·refine Hc H (kn := fun v1 => [(2, .ptr (some (h.size, 0))), (7, .str v1.1), (8, .ptr (some (BM I v1.2, 0)))]) (fun v1 fr => by kernel_rfl) ?_
  clear ho hm A H
  intro g h3 F s v1 o Lc fr H hP hm A
  obtain ⟨y2, rfl, rfl⟩ := hP
  unfold Ao at hm
  show AW _ _ _ _ _ _ _
  refine AJ 1 (Br 1 [(2, .ptr (some (h.size, 0))), (3, .str v1.1), (8, .ptr (some (BM I v1.2, 0)))] H fun fr H => JF 1 id (BV 1 [(4, .ptr (some (BM I v1.2, 0)))] H fun fr H => at_nil ?_))
  refine ⟨rfl, _, A, ?_⟩
  clear A
  intro h4 F R hS hR A
  obtain ⟨hYR, hF⟩ := hS
  have B : R y2 F := hR
  show AW _ _ _ _ _ _ _
  refine AO (id := 1) (by kernel_rfl) ?_
  refine AX (NC 4 8 ?_)
  refine EF 9 0 0 A H fun fr t H => ?_
  obtain ⟨x2, hq1, hm⟩ := bind_some hm
  refine BE 4 [(10, .str v1.1)] 14 _ _ H (fun fr => .of (ES (by kernel_rfl) (Ip (N := BT) (I := I) (A.okF (hF _ _ B)) hq1 (o := 0) (v := Ai x2.at_) rfl))) fun fr t H => ?_
  obtain ⟨⟨x3, y4⟩, hx, hm⟩ := bind_some hm
  obtain ⟨h5, F, hr, B, A⟩ := hYR.M7 (pr := []) .nil A B hx
  refine BO 15 (.bool x3) h5 H (fun fr => Steps.round (by kernel_rfl) hr) fun fr t H => ?_
  refine AV 1 [(16, .bool (!x3))] H fun fr H => BF 16 H hm (fun hb hm H => ?_) fun hb hm H => ?_
  ·refine BW ?_
   have e1 := Option.some.inj hm
   subst e1
   exact ⟨rfl, _, _, Or.inl ⟨y4, rfl, rfl⟩, B, A⟩
  refine ER ?_
  have e1 := Option.some.inj hm
  subst e1
  exact ⟨rfl, _, _, ⟨y4, rfl, rfl⟩, B, A⟩
 ·intro h1 l1 F1 R1 hYR1 hck B1 A1
  obtain ⟨v1, h2, hr, _, F2, B2, A2⟩ := C7 (av := [.FZ l1, .ptr (some (bqw1_10, 0))]) ho (by kernel_rfl) hYR1 B1 (hck _ hF) A1
  exact ⟨v1, h2, F2, _, hr, B2, rfl, A2⟩
 ·clear ho A
  intro s2 h6 Lc Lu F ey hP hQ hU A
  subst ey
  obtain ⟨y2, rfl, rfl⟩ := hP
  subst hU
  have B : R y2 F := hQ
  replace A : HH g h6 [.obj bqw1_10 (.cells none 2 [.ptr (some (bp1_0, 0))]), .obj bp1_0 (.cells none 2 [.ptr (some (BM I p1_0.Bv, 0)), Ai p1_0.n_]), .obj h.size (.cells none 2 [.FZ l]), .obj bp1 (.cells none 2 [.ptr (some (bp1_0, 0))])] F := A
  obtain rfl := A7 hm
  refine ⟨.inr rfl, .tuple [], rH H, ?_⟩
  replace A := A.k2 3 1
  exact ⟨rfl, ⟨F, B, A⟩⟩
 ·clear ho A
  intro r2 h6 Lc Lu F e ey he hP hQ hU A
  subst ey
  subst hU
  rcases hP with ⟨y3, rfl, rfl⟩ | hF0
  ·obtain rfl := Ib he
   have B : R y3 F := hQ
   replace A : HH g h6 [.obj bqw1_10 (.cells none 2 [.ptr (some (bp1_0, 0))]), .obj bp1_0 (.cells none 2 [.ptr (some (BM I p1_0.Bv, 0)), Ai p1_0.n_]), .obj h.size (.cells none 2 [.FZ l]), .obj bp1 (.cells none 2 [.ptr (some (bp1_0, 0))])] F := A
   obtain rfl := A7 hm
   refine ⟨.inl rfl, .tuple [], rH H, ?_⟩
   replace A := A.k2 3 1
   exact ⟨rfl, ⟨F, B, A⟩⟩
  exact hF0.elim
 exact fun _ => ⟨.ret, rfl⟩
def Ae (p1 : Int) (x4 : List AD) (s : Int) (v1 : (List UInt8) × Int) : Option ((Int) ⊕ ((Int) ⊕ (Int))) :=
 match s with
 | x8 => (BG (decide (x8 ≥ (x4.length : Int))) (some true) ((F5 x4 x8).bind fun x12 => (CP x12.L).bind fun x13 => some (!(v1.1 == x13))) : Option (Bool)).bind fun x11 => BG x11 (some (.inr (.inr x8))) (BG ((IntKind.i64.wrap (x8 + 1)) == (IntKind.i64.wrap p1)) (some (.inr (.inl (IntKind.i64.wrap (x8 + 1))))) (some (.inl (IntKind.i64.wrap (x8 + 1)))))
def Bx (p0 : List AN) (p1 : Int) : Option (Bool) :=
 (Bz p0).bind fun x1 => BG x1 ((CK).bind fun x2 => some x2) ((DX p0).bind fun (x3w3, ar) => (CF p0).bind fun x4 => ((Cv x3w3 ar).bind fun _ => (BU (Ae p1 x4) (.inl (0 : Int)) x3w3 ar).bind fun y1 => (match y1 with | .inl x8 => some (.inl x8) | .inr (.inl x9) => some (.inl x9) | .inr (.inr x10) => some (.inr x10)) : Option ((Int) ⊕ (Int))).bind fun o1 => (match o1 with | .inl x5 => (BG (decide (p1 > 0)) (some (mn (x4.length : Int) (IntKind.i64.wrap p1))) (some (x4.length : Int)) : Option ((Int))).bind fun x14 => (BG (x5 == x14) ((CK).bind fun x16 => some x16) (some false) : Option (Bool)).bind fun x15 => some x15 | .inr x6 => some false))
theorem E0 {p0 p1 q0} (hm : Bx p0 p1 = some q0) (A : HH g h [] F) (hc : Bq (cfg.still 3) av = [vs AE p0, Ab p1] := by kernel_rfl) : ∃ v h', B5 cfg g h 3 av v h' ∧ v = .bool q0 ∧ HH g h' [] F := by
 refine Hv 57 [.cell 4 4] hc ?_
 clear hc
 unfold Bx at hm
 refine bg 57 [(0, vs AE p0), (1, Ab p1)] fun fr H => ?_
 have hback : ∀ {h' : AB} {L : List Ck}, HH g h' L F → HH g h' L F := fun a => a
 refine AJ 2 ?_
 obtain ⟨h1, e1, A⟩ := A.pu (.cells none 2 [Ab p1])
 refine Cl 3 (.ptr (some (h.size, 0))) e1 H fun fr t H => ?_
 obtain ⟨h2, e2, A⟩ := A.pu (.cells none 2 [.bool false])
 refine Cl 4 (.ptr (some (h1.size, 0))) e2 H fun fr t H => ?_
 refine DQ id (AX (AJ 2 ?_))
 obtain ⟨x1, hx, hm⟩ := bind_some hm
 obtain ⟨v1, h3, hr, rfl, A1⟩ := Hf (av := [vs AE p0]) hx (A.cut 0)
 replace A : HH g h3 [.obj h1.size (.cells none 2 [.bool false]), .obj h.size (.cells none 2 [Ab p1])] F := A.Gp (n := 0) A1
 refine Cx 1 [] 11 hr H fun fr t H => ?_
 refine DQ id (BF 11 H hm (fun hb hm H => ?_) fun hb hm H => ?_)
 ·refine AJ 2 ?_
  obtain ⟨x2, hx, hm⟩ := bind_some hm
  obtain ⟨v1, h4, hr, rfl, A1⟩ := EP (av := []) hx (A.cut 0)
  replace A := A.R7 A1
  refine Co 12 hr H fun fr t H => ?_
  obtain ⟨h5, hx, A⟩ := A.s0 0 [.bool x2] [_]
  refine H3 hx H fun fr t H => ?_
  refine DQ id (BW ?_)
  obtain rfl := A7 hm
  refine ⟨.inl rfl, .bool x2, K3 (.cell (rT H) (MT (by kernel_rfl) (A.l1 0 0)) .nil), ?_⟩
  replace A := A.d0
  exact ⟨rfl, (hback A)⟩
 refine PB 3 id ?_
 obtain ⟨⟨x3w3, ar⟩, hx, hm⟩ := bind_some hm
 obtain ⟨v1, h6, hr, bx3w3, I, rfl, A1⟩ := KB (av := [vs AE p0]) hx (A.cut 0)
 replace A := A.Uy A1
 obtain ⟨F, A, hF, hback⟩ := A.WM 1 hback rfl
 replace A : HH g h6 [.obj bx3w3 (.cells none 2 [.ptr (some (BM I x3w3.Bv, 0)), Ai x3w3.n_]), .obj h1.size (.cells none 2 [.bool false]), .obj h.size (.cells none 2 [Ab p1])] F := A
 refine Cx 1 [] 14 hr H fun fr t H => ?_
 refine AV 1 [(5, .ptr (some (bx3w3, 0)))] H fun fr H => AX (AJ 2 (AV 2 [(16, .bool false)] H fun fr H => Ii (x := .tmp 16) (by kernel_rfl) H (fun fr => by kernel_rfl) ?_))
 refine PB 4 id ?_
 obtain ⟨x4, hx, hm⟩ := bind_some hm
 obtain ⟨v1, h7, hr, rqw4, rfl, A1⟩ := Gw (av := [vs AE p0]) hx (A.cut 0)
 replace A := A.VH A1
 refine Cx 1 [] 18 hr H fun fr t H => ?_
 obtain ⟨h8, e3, A⟩ := A.pu (.cells none 2 [.slice none 0])
 refine Cl 6 (.ptr (some (h7.size, 0))) e3 H fun fr t H => ?_
 obtain ⟨h9, hx, A⟩ := A.s0 0 [AK rqw4 x4.length] [_]
 refine H3 hx H fun fr t H => ?_
 refine Hw 2 id ?_
 obtain ⟨h10, e4, A⟩ := A.pu (.cells none 2 [Ai 0])
 refine Cl 7 (.ptr (some (h9.size, 0))) e4 H fun fr t H => ?_
 obtain ⟨h11, hx, A⟩ := A.s0 0 [Ai 0] [_]
 refine H3 hx H fun fr t H => ?_
 refine DQ id (AX ?_)
 obtain ⟨o1, ho, hm⟩ := bind_some hm
 refine Ak (Q' := fun e fr' h' => (∃ x5, e = .normal ∧ .inl x5 = o1 ∧ Has fr' 57 [(3, .ptr (some (h.size, 0))), (4, .ptr (some (h1.size, 0))), (6, .ptr (some (h7.size, 0))), (7, .ptr (some (h9.size, 0)))] ∧ HH g h' [.obj h9.size (.cells none 2 [Ai x5]), .obj h7.size (.cells none 2 [AK rqw4 x4.length]), .AL rqw4 35 (AL AF x4), .obj bx3w3 (.cells none 2 [.ptr (some (BM I x3w3.Bv, 0)), Ai x3w3.n_]), .obj h1.size (.cells none 2 [.bool false]), .obj h.size (.cells none 2 [Ab p1])] F) ∨ (∃ x6, e = .ret ∧ .inr x6 = o1 ∧ Has fr' 57 [(4, .ptr (some (h1.size, 0)))] ∧ HH g h' [.obj h9.size (.cells none 2 [Ai x6]), .obj h7.size (.cells none 2 [AK rqw4 x4.length]), .AL rqw4 35 (AL AF x4), .obj bx3w3 (.cells none 2 [.ptr (some (BM I x3w3.Bv, 0)), Ai x3w3.n_]), .obj h1.size (.cells none 2 [.bool false]), .obj h.size (.cells none 2 [Ab p1])] F) ∨ False) ?_ ?_
 ·replace hm := ho
  clear ho
  refine AJ 2 ?_
  replace A := A.k6 3 0 1 2 4 5
  have A1 := A.cut 1
  obtain ⟨⟨⟩, hx, hm⟩ := bind_some hm
  obtain ⟨v1, h12, hr, bqw5_10, rfl, A1⟩ := HM (av := [.ptr (some (bx3w3, 0))]) hx (by kernel_rfl) (List.mem_append_right _ hF) A1
  replace A := A.g12 A1
  refine Cx 1 [] 20 hr H fun fr t H => ?_
  refine DQ id (AO (id := 0) (by kernel_rfl) ?_)
  obtain ⟨y1, ho, hm⟩ := bind_some hm
  refine JU (C := cfg) (x := .tmp 20) (ps := [21, 22]) (f' := 25) (first := []) (cap := [.ptr (some (bqw5_10, 0))]) (Lu := [.obj bqw5_10 (.cells none 2 [.ptr (some (bx3w3, 0))]), .obj bx3w3 (.cells none 2 [.ptr (some (BM I x3w3.Bv, 0)), Ai x3w3.n_])]) (Lc := [.obj h9.size (.cells none 2 [Ai 0]), .obj h7.size (.cells none 2 [AK rqw4 x4.length]), .AL rqw4 35 (AL AF x4), .obj h1.size (.cells none 2 [.bool false]), .obj h.size (.cells none 2 [Ab p1])]) (F := F) (ex := fun x => [.str x.1, Ai x.2]) (Y := Ae p1 x4) (PL := fun s Lc => ∃ (x8 : Int), x8 = s ∧ Lc = [.obj h9.size (.cells none 2 [Ai x8]), .obj h7.size (.cells none 2 [AK rqw4 x4.length]), .AL rqw4 35 (AL AF x4), .obj h1.size (.cells none 2 [.bool false]), .obj h.size (.cells none 2 [Ab p1])]) (PR := fun r Lc => (∃ (x9 : Int), .inl x9 = r ∧ Lc = [.obj h9.size (.cells none 2 [Ai x9]), .obj h7.size (.cells none 2 [AK rqw4 x4.length]), .AL rqw4 35 (AL AF x4), .obj h1.size (.cells none 2 [.bool false]), .obj h.size (.cells none 2 [Ab p1])]) ∨ (∃ (x10 : Int), .inr x10 = r ∧ Lc = [.obj h9.size (.cells none 2 [Ai x10]), .obj h7.size (.cells none 2 [AK rqw4 x4.length]), .AL rqw4 35 (AL AF x4), .obj h1.size (.cells none 2 [.bool false]), .obj h.size (.cells none 2 [Ab p1])]) ∨ False) (pe := fun r => match r with | .inl _ => .exit 0 | .inr _ => .ret) (s := (0 : Int)) (y := y1) (PU := fun L => L = [.obj bqw5_10 (.cells none 2 [.ptr (some (bx3w3, 0))]), .obj bx3w3 (.cells none 2 [.ptr (some (BM I x3w3.Bv, 0)), Ai x3w3.n_])]) (St := (Vy (EM BT I ar))) (Q0 := (fun (_ : Unit) F' => F' = F)) (tl := fun _ => ()) (tr := fun _ => ()) (by kernel_rfl) H (fun fr => by kernel_rfl) (by kernel_rfl) (fun _ => rfl) (by kernel_rfl) A ⟨(0 : Int), rfl, rfl⟩ (RG _) (fun _ F8 e => by rw [show F8 = F from e]; exact hF) rfl ?_ ?_ ?_ ?_ ?_
  ·refine Hc H (kn := fun v1 => [(3, .ptr (some (h.size, 0))), (4, .ptr (some (h1.size, 0))), (6, .ptr (some (h7.size, 0))), (7, .ptr (some (h9.size, 0))), (21, .str v1.1), (22, Ai v1.2)]) (fun v1 fr => by kernel_rfl) ?_
   clear ho hm A H
   intro g h13 F s v1 o Lc fr H hP hm A
   obtain ⟨x8, rfl, rfl⟩ := hP
   unfold Ae at hm
   show AW _ _ _ _ _ _ _
   refine CA 1 (Br 1 [(3, .ptr (some (h.size, 0))), (4, .ptr (some (h1.size, 0))), (6, .ptr (some (h7.size, 0))), (7, .ptr (some (h9.size, 0))), (8, .str v1.1)] H fun fr H => at_nil ?_)
   refine ⟨rfl, _, A, ?_⟩
   clear A
   intro h14 F R hS hR A
   have hF := hS _ _ hR
   show AW _ _ _ _ _ _ _
   refine AO (id := 1) (by kernel_rfl) ?_
   refine AX (AJ 14 (EF 23 0 0 A H fun fr t H => ?_))
   refine EF 24 1 0 A H fun fr t H => ?_
   refine BV 3 [(27, .bool (decide (x8 ≥ (x4.length : Int))))] H fun fr H => ?_
   obtain ⟨x11, ho, hm⟩ := bind_some hm
   refine Jt 9 (fun fr' h' => Has fr' 57 [(3, .ptr (some (h.size, 0))), (4, .ptr (some (h1.size, 0))), (6, .ptr (some (h7.size, 0))), (7, .ptr (some (h9.size, 0))), (36, .bool x11)] ∧ HH g h' [.obj h9.size (.cells none 2 [Ai x8]), .obj h7.size (.cells none 2 [AK rqw4 x4.length]), .AL rqw4 35 (AL AF x4), .obj h1.size (.cells none 2 [.bool false]), .obj h.size (.cells none 2 [Ab p1])] F) ?_ ?_
   ·rcases Ea ho with ⟨hb, hm⟩ | ⟨hb, hm⟩
    ·replace H := H.kn 27 hb
     refine BV 9 [(36, .bool true)] H fun fr H => ?_
     obtain rfl := A7 hm
     exact at_nil ⟨H.ls, A⟩
    replace H := H.kn 27 hb
    refine EL 1 [(28, .str v1.1)] 29 1 0 A H fun fr t H => ?_
    refine EF 30 0 0 A H fun fr t H => ?_
    obtain ⟨x12, hx, hm⟩ := bind_some hm
    obtain ⟨i1, er1, _, hx, hq1⟩ := HH.N7 BL (by decide) A 2 (xs := x4) rfl hx
    refine BO 31 (.ptr (some (i1, x8.toNat * 2))) h14 H (fun fr => .of (Ey (s := DD rqw4 x4.length) (by kernel_rfl) hx)) fun fr t H => ?_
    refine BE 1 [] 33 _ _ H (fun fr => .of (ES (by kernel_rfl) (Ds BL (HH.row A 2 rfl er1) hq1 (o := 0) rfl))) fun fr t H => ?_
    obtain ⟨x13, hx, hm⟩ := bind_some hm
    obtain ⟨v1, h16, hr, rfl, A1⟩ := G5 (av := [vs eS x12.L]) hx (A.cut 0)
    replace A : HH g h16 [.obj h9.size (.cells none 2 [Ai x8]), .obj h7.size (.cells none 2 [AK rqw4 x4.length]), .AL rqw4 35 (AL AF x4), .obj h1.size (.cells none 2 [.bool false]), .obj h.size (.cells none 2 [Ab p1])] F := A.Gp (n := 0) A1
    refine Co 34 hr H fun fr t H => ?_
    refine BV 2 [(36, .bool (!(v1.1 == x13)))] H fun fr H => ?_
    obtain rfl := A7 hm
    exact at_nil ⟨H.ls, A⟩
   clear A
   intro t fr h15 hK
   obtain ⟨H, A⟩ := hK
   refine DQ id (BF 36 H hm (fun hb hm H => ?_) fun hb hm H => ?_)
   ·refine AJ 1 ?_
    obtain ⟨h17, hx, A⟩ := A.s3 0 [.bool false] [_]
    refine H3 hx H fun fr t H => ?_
    refine DQ id (BW ?_)
    have e1 := Option.some.inj hm
    subst e1
    exact ⟨rfl, _, _, Or.inr (Or.inl ⟨x8, rfl, rfl⟩), hR, A⟩
   refine PB 3 id (EF 37 0 0 A H fun fr t H => ?_)
   obtain ⟨h18, hx, A⟩ := A.s0 0 [Ai (IntKind.i64.wrap (x8 + 1))] [_]
   refine Pr 1 [] hx H fun fr t H => ?_
   refine Hw 4 id (EF 39 0 0 A H fun fr t H => ?_)
   refine EF 40 4 0 A H fun fr t H => ?_
   refine AV 2 [(42, .bool ((IntKind.i64.wrap (x8 + 1)) == (IntKind.i64.wrap p1)))] H fun fr H => BF 42 H hm (fun hb hm H => ?_) fun hb hm H => ?_
   ·refine Bt (i := 0) (by kernel_rfl) ?_
    have e1 := Option.some.inj hm
    subst e1
    exact ⟨rfl, _, _, Or.inl ⟨IntKind.i64.wrap (x8 + 1), rfl, rfl⟩, hR, A⟩
   refine ER ?_
   have e1 := Option.some.inj hm
   subst e1
   exact ⟨rfl, _, _, ⟨IntKind.i64.wrap (x8 + 1), rfl, rfl⟩, hR, A⟩
  ·intro h1 l1 F1 R1 hYR1 hck B1 A1
   obtain ⟨v1, h2, hr, _, F2, B2, A2⟩ := E9 (av := [.FZ l1, .ptr (some (bqw5_10, 0))]) ho (by kernel_rfl) hYR1 B1 (hck _ (fun _ F8 e => by rw [show F8 = F from e]; exact hF)) A1
   exact ⟨v1, h2, F2, _, hr, B2, rfl, A2⟩
  ·clear ho A
   intro s2 h19 Lc Lu F9 ey hP hQ hU A
   subst ey
   obtain ⟨x8, rfl, rfl⟩ := hP
   subst hU
   rw [show F9 = F from hQ] at A
   replace A : HH g h19 [.obj bqw5_10 (.cells none 2 [.ptr (some (bx3w3, 0))]), .obj bx3w3 (.cells none 2 [.ptr (some (BM I x3w3.Bv, 0)), Ai x3w3.n_]), .obj h9.size (.cells none 2 [Ai x8]), .obj h7.size (.cells none 2 [AK rqw4 x4.length]), .AL rqw4 35 (AL AF x4), .obj h1.size (.cells none 2 [.bool false]), .obj h.size (.cells none 2 [Ab p1])] F := A
   replace A := A.k6 2 3 4 1 5 6
   exact .inl ⟨_, rfl, A7 hm, H.ls, A⟩
  ·clear ho A
   intro r2 h19 Lc Lu F9 e ey he hP hQ hU A
   subst ey
   subst hU
   rw [show F9 = F from hQ] at A
   rcases hP with ⟨x9, rfl, rfl⟩ | ⟨x10, rfl, rfl⟩ | hF0
   ·obtain rfl := LX he
    replace A : HH g h19 [.obj bqw5_10 (.cells none 2 [.ptr (some (bx3w3, 0))]), .obj bx3w3 (.cells none 2 [.ptr (some (BM I x3w3.Bv, 0)), Ai x3w3.n_]), .obj h9.size (.cells none 2 [Ai x9]), .obj h7.size (.cells none 2 [AK rqw4 x4.length]), .AL rqw4 35 (AL AF x4), .obj h1.size (.cells none 2 [.bool false]), .obj h.size (.cells none 2 [Ab p1])] F := A
    replace A := A.k6 2 3 4 1 5 6
    exact .inl ⟨_, rfl, A7 hm, H.ls, A⟩
   ·obtain rfl := Ib he
    replace A : HH g h19 [.obj bqw5_10 (.cells none 2 [.ptr (some (bx3w3, 0))]), .obj bx3w3 (.cells none 2 [.ptr (some (BM I x3w3.Bv, 0)), Ai x3w3.n_]), .obj h9.size (.cells none 2 [Ai x10]), .obj h7.size (.cells none 2 [AK rqw4 x4.length]), .AL rqw4 35 (AL AF x4), .obj h1.size (.cells none 2 [.bool false]), .obj h.size (.cells none 2 [Ab p1])] F := A
    replace A := A.k6 2 3 4 1 5 6
    exact .inr (.inl ⟨_, rfl, A7 hm, H.ls, A⟩)
   exact hF0.elim
  intro r2
  rcases r2 with _ | _
  ·exact ⟨.exit 0, rfl⟩
  exact ⟨.ret, rfl⟩
 clear ho
 clear A
 intro e fr h20 hQ
 rcases hQ with ⟨x5, rfl, rfl, H, A⟩ | ⟨x6, rfl, rfl, H, A⟩ | hF
 ·show AW _ _ _ _ _ _ _
  refine AJ 3 (EF 43 1 0 A H fun fr t H => ?_)
  refine AV 2 [(9, Ai (x4.length : Int))] H fun fr H => AX ?_
  obtain ⟨o2, ho, hm⟩ := bind_some hm
  refine Ak (Q' := fun e fr' h' => (∃ x14, e = .normal ∧ x14 = o2 ∧ Has fr' 57 [(4, .ptr (some (h1.size, 0))), (7, .ptr (some (h9.size, 0))), (9, Ai x14)] ∧ HH g h' [.obj h9.size (.cells none 2 [Ai x5]), .obj h7.size (.cells none 2 [AK rqw4 x4.length]), .AL rqw4 35 (AL AF x4), .obj bx3w3 (.cells none 2 [.ptr (some (BM I x3w3.Bv, 0)), Ai x3w3.n_]), .obj h1.size (.cells none 2 [.bool false]), .obj h.size (.cells none 2 [Ab p1])] F) ∨ False) ?_ ?_
  ·replace hm := ho
   clear ho
   refine AJ 2 (EF 45 5 0 A H fun fr t H => ?_)
   refine AV 1 [(46, .bool (decide (p1 > 0)))] H fun fr H => BF 46 H hm (fun hb hm H => ?_) fun hb hm H => ?_
   ·refine CA 5 (EL 1 [(47, Ai (x4.length : Int))] 48 5 0 A H fun fr t H => ?_)
    refine Br 3 [(4, .ptr (some (h1.size, 0))), (7, .ptr (some (h9.size, 0))), (9, Ai (mn (x4.length : Int) (IntKind.i64.wrap p1)))] H fun fr H => at_nil ?_
    exact .inl ⟨_, rfl, A7 hm, H.ls, A⟩
   exact ER (.inl ⟨_, rfl, A7 hm, H.ls, A⟩)
  clear ho
  clear A
  intro e fr h21 hQ
  rcases hQ with ⟨x14, rfl, rfl, H, A⟩ | hF
  ·show AW _ _ _ _ _ _ _
   refine AJ 7 (EF 51 0 0 A H fun fr t H => ?_)
   refine BV 3 [(54, .bool (x5 == x14))] H fun fr H => ?_
   obtain ⟨x15, ho, hm⟩ := bind_some hm
   refine Jt 2 (fun fr' h' => Has fr' 57 [(4, .ptr (some (h1.size, 0))), (56, .bool x15)] ∧ HH g h' [.obj h9.size (.cells none 2 [Ai x5]), .obj h7.size (.cells none 2 [AK rqw4 x4.length]), .AL rqw4 35 (AL AF x4), .obj bx3w3 (.cells none 2 [.ptr (some (BM I x3w3.Bv, 0)), Ai x3w3.n_]), .obj h1.size (.cells none 2 [.bool false]), .obj h.size (.cells none 2 [Ab p1])] F) ?_ ?_
   ·rcases Ea ho with ⟨hb, hm⟩ | ⟨hb, hm⟩
    ·replace H := H.kn 54 hb
     obtain ⟨x16, hx, hm⟩ := bind_some hm
     obtain ⟨v1, h23, hr, rfl, A1⟩ := EP (av := []) hx (A.cut 0)
     replace A := A.R7 A1
     refine Co 55 hr H fun fr t H => ?_
     refine BV 1 [(56, .bool x16)] H fun fr H => ?_
     obtain rfl := A7 hm
     exact at_nil ⟨H.ls, A⟩
    replace H := H.kn 54 hb
    refine BV 2 [(56, .bool false)] H fun fr H => ?_
    obtain rfl := A7 hm
    exact at_nil ⟨H.ls, A⟩
   clear A
   intro t fr h22 hK
   obtain ⟨H, A⟩ := hK
   obtain ⟨h24, hx, A⟩ := A.s4 0 [.bool x15] [_]
   refine H3 hx H fun fr t H => ?_
   refine DQ id (BW ?_)
   obtain rfl := A7 hm
   refine ⟨.inl rfl, .bool x15, K3 (.cell (rT H) (MT (by kernel_rfl) (A.l1 4 0)) .nil), ?_⟩
   replace A := A.d0
   exact ⟨rfl, (hback A)⟩
  exact hF.elim
 ·obtain rfl := A7 hm
  refine ⟨.inl rfl, .bool false, K3 (.cell (rT H) (MT (by kernel_rfl) (A.l1 4 0)) .nil), ?_⟩
  replace A := A.d0
  exact ⟨rfl, (hback A)⟩
 exact hF.elim
end
end Go.Av.L
