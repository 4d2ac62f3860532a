/-
 A part.
-/
import Derived.Test.YtdbkpibbjnhmgaaDoorKCfg
import Derived.Test.YtdbkpibbjnhmgaaDoorK0
import Derived.Test.YtdbkpibbjnhmgaaDoorK1
namespace Go.Av.L
open Go.Av Go.Lib
set_option maxRecDepth 10000
set_option linter.unusedVariables false
set_option linter.unusedSimpArgs false
variable {g : Gd} {h : AB} {F : List Ck} {av : List AA}
noncomputable section
def Cg (x6 : List (List UInt8)) (s : (List AD) × Int) : Option (((List AD) × Int) ⊕ (((List AD)))) :=
 match s with
 | (x7, x8) => BM (decide (x8 < (x6.length : Int))) ((Jg x6 none (some x8)).bind fun x10 => (Bi x7 x10 (-1 : Int)).bind fun x11 => some (.inl (x11, IntKind.i64.wrap (x8 + 1)))) (some (.inr x7))
def Cd (p0 : List AO) (s : (List AD) × Int) : Option (((List AD) × Int) ⊕ (((List AD)))) :=
 match s with
 | (x1, x2) => BM (decide (x2 < (p0.length : Int))) (((Fv p0 x2).bind fun x5 => (Cn x5.Name).bind fun x6 => (loop (Cg x6) (x1, (1 : Int))).bind fun x9 => BM (decide ((x6.length : Int) > 0)) ((Bi x9 x6 x2).bind fun x12 => some x12) (some x9) : Option (((List AD)))).bind fun x4 => some (.inl (x4, IntKind.i64.wrap (x2 + 1)))) (some (.inr x1))
def Cb (p0 : List AO) : Option ((List AD)) :=
 (loop (Cd p0) (([] : List AD), (0 : Int))).bind fun x3 => some x3
theorem HM {p0 q0} (hm : Cb p0 = some q0) (A : HH g h [] F) (hc : B3 (cfg.still 9) av = [vs AE p0] := by kernel_rfl) : ∃ v h', CC cfg g h 9 av v h' ∧ ∃ (rq0 : Option Nat), v = AJ rq0 q0.length ∧ HH g h' [.AL rq0 35 (AL AF q0)] F := by
 refine HO 39 [.tmp 2] hc ?_
 clear hc
 unfold Cb at hm
 refine bg 39 [(0, vs AE p0)] fun fr H => ?_
 refine AH 1 (DP 1 [] 2 H fun fr H => ?_)
 obtain ⟨h1, e1, A⟩ := A.pL 35 []
 refine Cw 7 (AJ (some h.size) (([] : List AD).length)) e1 H fun fr t H => ?_
 refine AQ 1 [(3, AJ (some h.size) (([] : List AD).length))] H fun fr H => AS (AH 1 (AQ 1 [(4, Ai 0)] H fun fr H => AM (id := 0) (by kernel_rfl) ?_))
 replace A : HH g h1 [.AL (some h.size) 35 (AL AF ([] : List AD))] F := A
 obtain ⟨o1, ho, hm⟩ := bind_some hm
 refine Al (Q' := fun e fr' h' => (∃ x3, e = .exit 0 ∧ x3 = o1 ∧ ∃ r2, Has fr' 39 [(3, AJ r2 x3.length)] ∧ HH g h' [.AL r2 35 (AL AF x3)] F) ∨ False) ?_ ?_
 ·refine CA (by kernel_rfl) (fun (s : (List AD) × Int) fr' h' => ∃ x1 x2, (x1, x2) = s ∧ ∃ r1, Has fr' 39 [(0, vs AE p0), (3, AJ r1 x1.length), (4, Ai x2)] ∧ HH g h' [.AL r1 35 (AL AF x1)] F) ho ⟨_, _, rfl, some h.size, H.ls, A⟩ ?_
  clear ho hm H A
  intro s q fr h2 hI hm
  obtain ⟨x1, x2, rfl, r1, H, A⟩ := hI
  unfold Cd at hm
  refine AS (AH 4 (AQ 4 [(11, .bool (decide (x2 < (p0.length : Int))))] H fun fr H => BK 11 H hm (fun hb hm H => ?_) fun hb hm H => ?_))
  ·refine C8 id (AS ?_)
   obtain ⟨o2, ho, hm⟩ := bind_some hm
   refine Al (Q' := fun e fr' h' => (∃ x4, e = .normal ∧ x4 = o2 ∧ ∃ r3, Has fr' 39 [(0, vs AE p0), (3, AJ r3 x4.length), (4, Ai x2)] ∧ HH g h' [.AL r3 35 (AL AF x4)] F) ∨ False) ?_ ?_
   ·replace hm := ho
    clear ho
    refine AM (id := 1) (by kernel_rfl) ?_
    refine AH 7 ?_
    obtain ⟨x5, hx, hm⟩ := bind_some hm
    refine BE 2 [] 16 (.DF (AE x5)) h2 H (fun fr => .of (Hi (e := AE) (x := x5) Cy (by decide) (by kernel_rfl) hx)) fun fr t H => ?_
    refine BE 1 [] 18 (.str x5.Name) h2 H (fun fr => .of (Lg (by kernel_rfl))) fun fr t H => ?_
    obtain ⟨x6, hx, hm⟩ := bind_some hm
    obtain ⟨v1, h3, hr, rfl, A1⟩ := IL (av := [.str x5.Name]) hx (A.cut 0)
    replace A := A.Ri A1
    refine Cc 19 hr H fun fr t H => ?_
    refine AQ 1 [(5, vs eS x6)] H fun fr H => AS (AH 1 (AQ 1 [(6, Ai 1)] H fun fr H => AM (id := 2) (by kernel_rfl) ?_))
    obtain ⟨o3, ho, hm⟩ := bind_some hm
    refine Al (Q' := fun e fr' h' => (∃ x9, e = .exit 2 ∧ x9 = o3 ∧ ∃ r5, Has fr' 39 [(0, vs AE p0), (3, AJ r5 x9.length), (4, Ai x2), (5, vs eS x6)] ∧ HH g h' [.AL r5 35 (AL AF x9)] F) ∨ False) ?_ ?_
    ·refine CA (by kernel_rfl) (fun (s : (List AD) × Int) fr' h' => ∃ x7 x8, (x7, x8) = s ∧ ∃ r4, Has fr' 39 [(0, vs AE p0), (3, AJ r4 x7.length), (4, Ai x2), (5, vs eS x6), (6, Ai x8)] ∧ HH g h' [.AL r4 35 (AL AF x7)] F) ho ⟨_, _, rfl, _, H.ls, A⟩ ?_
     clear ho hm H A
     intro s q fr h4 hI hm
     obtain ⟨x7, x8, rfl, r4, H, A⟩ := hI
     unfold Cg at hm
     refine AS (AH 4 (AQ 4 [(23, .bool (decide (x8 < (x6.length : Int))))] H fun fr H => BK 23 H hm (fun hb hm H => ?_) fun hb hm H => ?_))
     ·refine C8 id (AS (AM (id := 3) (by kernel_rfl) ?_))
      refine CQ 6 ?_
      obtain ⟨x10, hx, hm⟩ := bind_some hm
      refine BE 3 [(26, AJ r4 x7.length)] 29 (vs eS x10) h4 H (fun fr => .of (Vi (e := eS) encS (k := .i64) (k' := .i64) (lo := none) (hi := (some x8)) (by kernel_rfl) hx)) fun fr t H => ?_
      obtain ⟨x11, hx, hm⟩ := bind_some hm
      obtain ⟨v1, h5, hr, rqw2, rfl, A1⟩ := D8 (av := [AJ r4 x7.length, vs eS x10, Ai (-1)]) hx (A.cut 1)
      replace A := A.g12 A1
      refine Cc 30 hr H fun fr t H => ?_
      refine Bk 1 [(0, vs AE p0), (3, AJ rqw2 x11.length), (4, Ai x2), (5, vs eS x6), (6, Ai x8)] H fun fr H => IG 3 id (Bk 3 [(0, vs AE p0), (3, AJ rqw2 x11.length), (4, Ai x2), (5, vs eS x6), (6, Ai (IntKind.i64.wrap (x8 + 1)))] H fun fr H => at_nil ?_)
      replace A := A.d1
      exact nx hm ⟨_, _, rfl, rqw2, H.ls, A⟩
     refine B0 (i := 2) (by kernel_rfl) ?_
     exact nr hm fun e => .inl ⟨_, rfl, e, _, H.ls, A⟩
    clear ho
    clear A
    intro e fr h6 hQ
    rcases hQ with ⟨x9, rfl, rfl, r5, H, A⟩ | hF
    ·show AW _ _ _ _ _ _ _
     refine AH 3 (AQ 3 [(33, .bool (decide ((x6.length : Int) > 0)))] H fun fr H => BK 33 H hm (fun hb hm H => ?_) fun hb hm H => ?_)
     ·refine CQ 5 ?_
      obtain ⟨x12, hx, hm⟩ := bind_some hm
      obtain ⟨v1, h7, hr, rqw3, rfl, A1⟩ := D8 (av := [AJ r5 x9.length, vs eS x6, Ai x2]) hx (A.cut 1)
      replace A := A.g12 A1
      refine CP 3 [] 37 hr H fun fr t H => ?_
      refine Bk 1 [(0, vs AE p0), (3, AJ rqw3 x12.length), (4, Ai x2)] H fun fr H => at_nil ?_
      replace A := A.d1
      exact .inl ⟨_, rfl, Aq hm, rqw3, H.ls, A⟩
     exact Ea (.inl ⟨_, rfl, Aq hm, _, H.ls, A⟩)
    exact hF.elim
   clear ho
   clear A
   intro e fr h8 hQ
   rcases hQ with ⟨x4, rfl, rfl, r3, H, A⟩ | hF
   ·show AW _ _ _ _ _ _ _
    refine CQ 3 (Bk 3 [(0, vs AE p0), (3, AJ r3 x4.length), (4, Ai (IntKind.i64.wrap (x2 + 1)))] H fun fr H => at_nil ?_)
    exact nx hm ⟨_, _, rfl, _, H.ls, A⟩
   exact hF.elim
  refine B0 (i := 0) (by kernel_rfl) ?_
  exact nr hm fun e => .inl ⟨_, rfl, e, _, H.ls, A⟩
 clear ho
 clear A
 intro e fr h9 hQ
 rcases hQ with ⟨x3, rfl, rfl, r2, H, A⟩ | hF
 ·show AW _ _ _ _ _ _ _
  refine AH 2 (AQ 2 [(2, AJ r2 x3.length)] H fun fr H => BV ?_)
  obtain rfl := Aq hm
  exact ⟨.inl rfl, _, rH H, _, rfl, A⟩
 exact hF.elim
def BB {SY RY : Type} (Y : SY → ((List UInt8) × Int) → Option (SY ⊕ RY)) (ar : List AG) (s : (SY ⊕ RY)) (v1 : (List UInt8) × Nat) : Option (((SY ⊕ RY)) ⊕ (((SY ⊕ RY)))) :=
 match s with
 | y2 => (ar[v1.2]?).bind fun x2 => (N1 Y y2 (v1.1, x2.at_)).bind fun (x3, y4) => BM (!x3) (some (.inr y4)) (some (.inl y4))
def Bj {SY RY : Type} (Y : SY → ((List UInt8) × Int) → Option (SY ⊕ RY)) (y : SY ⊕ RY) (p1_0 : AV) (ar : List AG) : Option ((SY ⊕ RY)) :=
 (By p1_0 ar).bind fun _ => (BG (BB Y ar) (.inl y) p1_0 ar).bind fun y1 => (match y1 with | .inl y2 => some y2 | .inr y3 => some y3)
theorem FN {SY RY : Type} {R : SY ⊕ RY → List Ck → Prop} {I} {Y : SY → ((List UInt8) × Int) → Option (SY ⊕ RY)} {y : SY ⊕ RY} {p1_0 ar l bp1 bp1_0} {yq : SY ⊕ RY} (hm : Bj Y y p1_0 ar = some yq) (hc : B3 (cfg.still 25) av = [.Fw l, .ptr (some (bp1, 0))]) (hYR : YR cfg g l (fun x => [.str x.1, Ai x.2]) Y R) (B : R y F) (hF : ∀ y F, R y F → EH BF I ar ∈ F) (A : HH g h [.obj bp1 (.cells none 2 [.ptr (some (bp1_0, 0))]), .obj bp1_0 (.cells none 2 [.ptr (some (A8 I p1_0.Au, 0)), Ai p1_0.n_])] F) : ∃ v h', CC cfg g h 25 av v h' ∧ v = .tuple [] ∧ ∃ F, R yq F ∧ HH g h' [.obj bp1 (.cells none 2 [.ptr (some (bp1_0, 0))]), .obj bp1_0 (.cells none 2 [.ptr (some (A8 I p1_0.Au, 0)), Ai p1_0.n_])] F := by
 refine HO 17 [] hc ?_
 clear hc
 unfold Bj at hm
 refine bg 17 [(0, .Fw l), (1, .ptr (some (bp1, 0)))] fun fr H => ?_
 refine AH 1 ?_
 obtain ⟨h1, e1, A⟩ := A.pu (.cells none 2 [.Fw l])
 refine Cw 2 (.ptr (some (h.size, 0))) e1 H fun fr t H => ?_
 refine F5 2 id (Fi 5 1 0 A H fun fr t H => ?_)
 replace A : HH g h1 [_, .obj h.size (.cells none 2 [.Fw l]), _] F := (A.front 2 rfl)
 have A1 := A.cut 1
 obtain ⟨⟨⟩, hx, hm⟩ := bind_some hm
 obtain ⟨v1, h2, hr, bqw1_10, rfl, A1⟩ := Ef (av := [.ptr (some (bp1_0, 0))]) hx (by kernel_rfl) (List.mem_append_right _ (hF _ _ B)) A1
 replace A := A.g12 A1
 refine Cc 6 hr H fun fr t H => ?_
 refine Dg id (AM (id := 0) (by kernel_rfl) ?_)
 obtain ⟨y1, ho, hm⟩ := bind_some hm
 refine KI (C := cfg) (x := .tmp 6) (ps := [7, 8]) (f' := 38) (first := []) (cap := [.ptr (some (bqw1_10, 0))]) (Lu := [.obj bqw1_10 (.cells none 2 [.ptr (some (bp1_0, 0))]), .obj bp1_0 (.cells none 2 [.ptr (some (A8 I p1_0.Au, 0)), Ai p1_0.n_])]) (Lc := [.obj h.size (.cells none 2 [.Fw l]), .obj bp1 (.cells none 2 [.ptr (some (bp1_0, 0))])]) (F := F) (ex := fun x => [.str x.1, .ptr (some (A8 I x.2, 0))]) (Y := BB Y ar) (PL := fun s Lc => ∃ (y2 : SY ⊕ RY), y2 = s ∧ Lc = [.obj h.size (.cells none 2 [.Fw l]), .obj bp1 (.cells none 2 [.ptr (some (bp1_0, 0))])]) (PR := fun r Lc => (∃ (y3 : SY ⊕ RY), y3 = r ∧ Lc = [.obj h.size (.cells none 2 [.Fw l]), .obj bp1 (.cells none 2 [.ptr (some (bp1_0, 0))])]) ∨ False) (pe := fun _ => .ret) (s := y) (y := y1) (PU := fun L => L = [.obj bqw1_10 (.cells none 2 [.ptr (some (bp1_0, 0))]), .obj bp1_0 (.cells none 2 [.ptr (some (A8 I p1_0.Au, 0)), Ai p1_0.n_])]) (St := (Xu cfg l (fun x => [.str x.1, Ai x.2]) Y (EH BF I ar))) (Q0 := R) (tl := fun s => s) (tr := fun r => r) (by kernel_rfl) H (fun fr => by kernel_rfl) (by kernel_rfl) (fun _ => rfl) (by kernel_rfl) A ⟨y, rfl, rfl⟩ VX ⟨hYR, hF⟩ B ?_ ?_ ?_ ?_ ?_
 ·refine Hh H (kn := fun v1 => [(2, .ptr (some (h.size, 0))), (7, .str v1.1), (8, .ptr (some (A8 I v1.2, 0)))]) (fun v1 fr => by kernel_rfl) ?_
  clear ho hm A H
  intro g h3 F s v1 o Lc fr H hP hm A
  obtain ⟨y2, rfl, rfl⟩ := hP
  unfold BB at hm
  show AW _ _ _ _ _ _ _
  refine AH 1 (Bk 1 [(2, .ptr (some (h.size, 0))), (3, .str v1.1), (8, .ptr (some (A8 I v1.2, 0)))] H fun fr H => IG 1 id (Ax 1 [(4, .ptr (some (A8 I v1.2, 0)))] H fun fr H => at_nil ?_))
  refine ⟨rfl, _, A, ?_⟩
  clear A
  intro h4 F R hS hR A
  obtain ⟨hYR, hF⟩ := hS
  have B : R y2 F := hR
  show AW _ _ _ _ _ _ _
  refine AM (id := 1) (by kernel_rfl) ?_
  refine AS (Ox 4 8 ?_)
  refine Fi 9 0 0 A H fun fr t H => ?_
  obtain ⟨x2, hq1, hm⟩ := bind_some hm
  refine BE 4 [(10, .str v1.1)] 14 _ _ H (fun fr => .of (Dk (by kernel_rfl) (Hn (N := BF) (I := I) (A.okF (hF _ _ B)) hq1 (o := 0) (v := Ai x2.at_) rfl))) fun fr t H => ?_
  obtain ⟨⟨x3, y4⟩, hx, hm⟩ := bind_some hm
  obtain ⟨h5, F, hr, B, A⟩ := hYR.N1 (pr := []) .nil A B hx
  refine Az 15 (.bool x3) h5 H (fun fr => Steps.round (by kernel_rfl) hr) fun fr t H => ?_
  refine AQ 1 [(16, .bool (!x3))] H fun fr H => BK 16 H hm (fun hb hm H => ?_) fun hb hm H => ?_
  ·refine BV ?_
   have e1 := Option.some.inj hm
   subst e1
   exact ⟨rfl, _, _, Or.inl ⟨y4, rfl, rfl⟩, B, A⟩
  refine Ea ?_
  have e1 := Option.some.inj hm
  subst e1
  exact ⟨rfl, _, _, ⟨y4, rfl, rfl⟩, B, A⟩
 ·intro h1 l1 F1 R1 hYR1 hck B1 A1
  obtain ⟨v1, h2, hr, _, F2, B2, A2⟩ := DR (av := [.Fw l1, .ptr (some (bqw1_10, 0))]) ho (by kernel_rfl) hYR1 B1 (hck _ hF) A1
  exact ⟨v1, h2, F2, _, hr, B2, rfl, A2⟩
 ·clear ho A
  intro s2 h6 Lc Lu F ey hP hQ hU A
  subst ey
  obtain ⟨y2, rfl, rfl⟩ := hP
  subst hU
  have B : R y2 F := hQ
  replace A : HH g h6 [.obj bqw1_10 (.cells none 2 [.ptr (some (bp1_0, 0))]), .obj bp1_0 (.cells none 2 [.ptr (some (A8 I p1_0.Au, 0)), Ai p1_0.n_]), .obj h.size (.cells none 2 [.Fw l]), .obj bp1 (.cells none 2 [.ptr (some (bp1_0, 0))])] F := A
  obtain rfl := Aq hm
  refine ⟨.inr rfl, .tuple [], rH H, ?_⟩
  replace A := A.k2 3 1
  exact ⟨rfl, ⟨F, B, A⟩⟩
 ·clear ho A
  intro r2 h6 Lc Lu F e ey he hP hQ hU A
  subst ey
  subst hU
  rcases hP with ⟨y3, rfl, rfl⟩ | hF0
  ·obtain rfl := Jp he
   have B : R y3 F := hQ
   replace A : HH g h6 [.obj bqw1_10 (.cells none 2 [.ptr (some (bp1_0, 0))]), .obj bp1_0 (.cells none 2 [.ptr (some (A8 I p1_0.Au, 0)), Ai p1_0.n_]), .obj h.size (.cells none 2 [.Fw l]), .obj bp1 (.cells none 2 [.ptr (some (bp1_0, 0))])] F := A
   obtain rfl := Aq hm
   refine ⟨.inl rfl, .tuple [], rH H, ?_⟩
   replace A := A.k2 3 1
   exact ⟨rfl, ⟨F, B, A⟩⟩
  exact hF0.elim
 exact fun _ => ⟨.ret, rfl⟩
def BA (ar : List AG) (x1 : List (List UInt8)) (s : Nat × Int) : Option ((Nat × Int) ⊕ ((Nat) ⊕ (Unit))) :=
 match s with
 | (x2, x3) => BM (decide (x3 < (x1.length : Int))) ((Fv x1 x3).bind fun x5 => (ar[x2]?).bind fun x6 => Ks (CY x6.AP x5) (fun x7 => some (.inl (x7, IntKind.i64.wrap (x3 + 1)))) (some (.inr (.inr ())))) (some (.inr (.inl x2)))
def B7 (p0 : AV) (p1 : List UInt8) (ar : List AG) : Option ((Option Nat)) :=
 (C0 p1).bind fun x1 => (loop (BA ar x1) (p0.Au, (0 : Int))).bind fun o1 => (match o1 with | .inl x4 => some (some x4) | .inr _ => some none)
theorem HN {I p0 p1 ar bp0 o0} (hm : B7 p0 p1 ar = some o0) (hc : B3 (cfg.still 27) av = [.ptr (some (bp0, 0)), .str p1]) (hF : EH BF I ar ∈ F) (A : HH g h [.obj bp0 (.cells none 2 [.ptr (some (A8 I p0.Au, 0)), Ai p0.n_])] F) : ∃ v h', CC cfg g h 27 av v h' ∧ ((∃ (q0 : Nat), o0 = some q0 ∧ v = .ptr (some (A8 I q0, 0)) ∧ HH g h' [.obj bp0 (.cells none 2 [.ptr (some (A8 I p0.Au, 0)), Ai p0.n_])] F) ∨ (o0 = none ∧ v = .ptr none ∧ HH g h' [.obj bp0 (.cells none 2 [.ptr (some (A8 I p0.Au, 0)), Ai p0.n_])] F)) := by
 refine HO 29 [.tmp 4] hc ?_
 clear hc
 unfold B7 at hm
 refine bg 29 [(0, .ptr (some (bp0, 0))), (1, .str p1)] fun fr H => ?_
 refine AH 1 (DP 1 [] 5 H fun fr H => DV 3 [] 11 0 0 A H fun fr t H => ?_)
 refine AQ 1 [(5, .ptr (some (A8 I p0.Au, 0)))] H fun fr H => AS (AH 4 ?_)
 obtain ⟨x1, hx, hm⟩ := bind_some hm
 obtain ⟨v1, h1, hr, rqw1, rfl, A1⟩ := FF (av := [.str p1]) hx (A.cut 0)
 replace A := A.V3 A1
 refine CP 1 [] 13 hr H fun fr t H => ?_
 refine AQ 2 [(14, Ai (x1.length : Int)), (15, Ai 0)] H fun fr H => AM (id := 0) (by kernel_rfl) ?_
 obtain ⟨o1, ho, hm⟩ := bind_some hm
 refine Al (Q' := fun e fr' h' => (∃ x4, e = .exit 0 ∧ .inl x4 = o1 ∧ Has fr' 29 [(5, .ptr (some (A8 I x4, 0)))] ∧ HH g h' [.obj bp0 (.cells none 2 [.ptr (some (A8 I p0.Au, 0)), Ai p0.n_])] F) ∨ (e = .ret ∧ .inr () = o1 ∧ Has fr' 29 [(4, .ptr none)] ∧ HH g h' [.obj bp0 (.cells none 2 [.ptr (some (A8 I p0.Au, 0)), Ai p0.n_])] F) ∨ False) ?_ ?_
 ·refine CA (by kernel_rfl) (fun (s : Nat × Int) fr' h' => ∃ x2 x3, (x2, x3) = s ∧ Has fr' 29 [(5, .ptr (some (A8 I x2, 0))), (13, AJ rqw1 x1.length), (14, Ai (x1.length : Int)), (15, Ai x3)] ∧ HH g h' [.AL rqw1 9 (AL eS x1), .obj bp0 (.cells none 2 [.ptr (some (A8 I p0.Au, 0)), Ai p0.n_])] F) ho ⟨_, _, rfl, H.ls, A⟩ ?_
  clear ho hm H A
  intro s q fr h2 hI hm
  obtain ⟨x2, x3, rfl, H, A⟩ := hI
  unfold BA at hm
  refine AH 1 (AQ 1 [(16, .bool (decide (x3 < (x1.length : Int))))] H fun fr H => AS (BK 16 H hm (fun hb hm H => ?_) fun hb hm H => ?_))
  ·refine C8 id (AS (AM (id := 1) (by kernel_rfl) ?_))
   refine AH 3 ?_
   obtain ⟨x5, hx, hm⟩ := bind_some hm
   obtain ⟨i1, er1, _, hx, hq1⟩ := HH.MV encS (by decide) A 0 (xs := x1) rfl hx
   refine Az 17 (.ptr (some (i1, x3.toNat * 1))) h2 H (fun fr => .of (EG (s := DC rqw1 x1.length) (by kernel_rfl) hx)) fun fr t H => ?_
   refine Az 18 _ _ H (fun fr => .of (Dk (by kernel_rfl) (DU encS (HH.row A 0 rfl er1) hq1 (o := 0) rfl))) fun fr t H => ?_
   refine DP 1 [(7, .str x5)] 7 H fun fr H => ?_
   obtain ⟨x6, hq2, hm⟩ := bind_some hm
   refine BE 3 [] 22 _ _ H (fun fr => .of (Dk (by kernel_rfl) (Hn (N := BF) (I := I) (A.okF hF) hq2 (o := 2) (v := .map (some (Cz I x2))) rfl))) fun fr t H => ?_
   rcases Gg hm with ⟨x7, hq3, hm⟩ | ⟨hq3, hm⟩
   ·refine BE 1 [] 24 (.ptr (some (A8 I x7, 0))) h2 H (fun fr => .of (Io (by kernel_rfl) (IA (N := BF) (I := I) (A.okF hF) hq2 (kt := 9) (et := 52) (by kernel_rfl) (t := 56) (by kernel_rfl) (zv := .ptr none) (by kernel_rfl) (s := x5) (v := x7) hq3))) fun fr t H => ?_
    refine Bk 1 [(5, .ptr (some (A8 I x7, 0))), (13, AJ rqw1 x1.length), (14, Ai (x1.length : Int)), (15, Ai x3)] H fun fr H => F5 2 id (AQ 2 [(26, .bool false)] H fun fr H => Ga (x := .tmp 26) (by kernel_rfl) H (fun fr => by kernel_rfl) ?_)
    refine Ik 2 id (Bk 2 [(5, .ptr (some (A8 I x7, 0))), (13, AJ rqw1 x1.length), (14, Ai (x1.length : Int)), (15, Ai (IntKind.i64.wrap (x3 + 1)))] H fun fr H => at_nil ?_)
    exact nx hm ⟨_, _, rfl, H.ls, A⟩
   refine BE 1 [] 24 (.ptr none) h2 H (fun fr => .of (Io (by kernel_rfl) (Hl (N := BF) (I := I) (A.okF hF) hq2 (kt := 9) (et := 52) (by kernel_rfl) (t := 56) (by kernel_rfl) (zv := .ptr none) (by kernel_rfl) (s := x5) hq3))) fun fr t H => ?_
   refine Bk 1 [(5, .ptr none), (13, AJ rqw1 x1.length), (14, Ai (x1.length : Int)), (15, Ai x3)] H fun fr H => F5 2 id (AQ 2 [(26, .bool true)] H fun fr H => K4 (x := .tmp 26) (by kernel_rfl) H (fun fr => by kernel_rfl) ?_)
   refine AH 1 (AQ 1 [(4, .ptr none)] H fun fr H => BV ?_)
   replace A := A.k1 1
   exact nr hm fun e => Or.inr (.inl ⟨rfl, e, H.ls, A⟩)
  refine B0 (i := 0) (by kernel_rfl) ?_
  replace A := A.k1 1
  exact nr hm fun e => .inl ⟨_, rfl, e, H.ls, A⟩
 clear ho
 clear A
 intro e fr h3 hQ
 rcases hQ with ⟨x4, rfl, rfl, H, A⟩ | ⟨rfl, rfl, H, A⟩ | hF
 ·show AW _ _ _ _ _ _ _
  refine AH 2 (AQ 2 [(4, .ptr (some (A8 I x4, 0)))] H fun fr H => BV ?_)
  obtain rfl := Aq hm
  refine ⟨.inl rfl, .ptr (some (A8 I x4, 0)), rH H, ?_⟩
  exact .inl ⟨x4, rfl, rfl, A⟩
 ·obtain rfl := Aq hm
  refine ⟨.inl rfl, .ptr none, rH H, ?_⟩
  exact .inr ⟨rfl, rfl, A⟩
 exact hF.elim
def As (x3 : List UInt8) (x4 : AG) (s : (List (List UInt8)) × Int) : Option (((List (List UInt8)) × Int) ⊕ (((List (List UInt8))))) :=
 match s with
 | (x5, x6) => BM (decide (x6 < ((Bb (x4.AP.map Prod.fst)).length : Int))) ((Fv (Bb (x4.AP.map Prod.fst)) x6).bind fun x8 => Dm (decide (x3.length + x8.length ≤ 9223372036854775807)) <| Dm (QY 16 (x5.length + ([x3 ++ x8] : List (List UInt8)).length)) <| some (.inl ((x5 ++ ([x3 ++ x8] : List (List UInt8))), IntKind.i64.wrap (x6 + 1)))) (some (.inr x5))
def BZ (p0 : AV) (p1 : List UInt8) (ar : List AG) : Option ((List (List UInt8))) :=
 (B7 p0 p1 ar).bind fun w2 => (match w2 with | some x1 => (DH p1).bind fun x2 => (BM (!(x2 == ([] : List UInt8))) (Dm (decide (x2.length + ([47] : List UInt8).length ≤ 9223372036854775807)) <| some (x2 ++ ([47] : List UInt8))) (some x2) : Option (((List UInt8)))).bind fun x3 => (ar[x1]?).bind fun x4 => Dm (Hu (x4.AP.map Prod.fst)) <| (loop (As x3 x4) (([] : List (List UInt8)), (0 : Int))).bind fun x7 => some x7 | none => some ([] : List (List UInt8)))
theorem Fz {I p0 p1 ar bp0 q0} (hm : BZ p0 p1 ar = some q0) (hc : B3 (cfg.still 12) av = [.ptr (some (bp0, 0)), .str p1]) (hF : EH BF I ar ∈ F) (A : HH g h [.obj bp0 (.cells none 2 [.ptr (some (A8 I p0.Au, 0)), Ai p0.n_])] F) : ∃ v h', CC cfg g h 12 av v h' ∧ ∃ (rq0 : Option Nat), v = AJ rq0 q0.length ∧ HH g h' [.AL rq0 9 (AL eS q0), .obj bp0 (.cells none 2 [.ptr (some (A8 I p0.Au, 0)), Ai p0.n_])] F := by
 refine HO 40 [.tmp 4] hc ?_
 clear hc
 unfold BZ at hm
 refine bg 40 [(0, .ptr (some (bp0, 0))), (1, .str p1)] fun fr H => ?_
 refine AH 1 (DP 1 [] 4 H fun fr H => ?_)
 have A1 := A.cut 1
 obtain ⟨w2, hx, hm⟩ := bind_some hm
 obtain ⟨v1, h1, hr, hc⟩ := HN (av := [.ptr (some (bp0, 0)), .str p1]) hx (by kernel_rfl) (List.mem_append_right _ hF) A1
 rcases hc with ⟨x1, rfl, rfl, A1⟩ | ⟨rfl, rfl, A1⟩
 ·replace A := A.g11 A1
  refine CP 2 [] 12 hr H fun fr t H => ?_
  refine AQ 1 [(5, .ptr (some (A8 I x1, 0)))] H fun fr H => AS (AH 2 (AQ 2 [(14, .bool false)] H fun fr H => Ga (x := .tmp 14) (by kernel_rfl) H (fun fr => by kernel_rfl) ?_))
  refine Q9 3 id ?_
  obtain ⟨x2, hx, hm⟩ := bind_some hm
  obtain ⟨v1, h2, hr, rfl, A1⟩ := HY (av := [.str p1]) hx (A.cut 0)
  replace A := A.Ri A1
  refine CP 1 [] 16 hr H fun fr t H => ?_
  refine AQ 1 [(6, .str x2)] H fun fr H => AS ?_
  obtain ⟨o1, ho, hm⟩ := bind_some hm
  refine Al (Q' := fun e fr' h' => (∃ x3, e = .normal ∧ x3 = o1 ∧ Has fr' 40 [(5, .ptr (some (A8 I x1, 0))), (6, .str x3)] ∧ HH g h' [.obj bp0 (.cells none 2 [.ptr (some (A8 I p0.Au, 0)), Ai p0.n_])] F) ∨ False) ?_ ?_
  ·replace hm := ho
   clear ho
   refine AH 2 (AQ 2 [(18, .bool (!(x2 == ([] : List UInt8))))] H fun fr H => BK 18 H hm (fun hb hm H => ?_) fun hb hm H => ?_)
   ·refine CQ 3 (Ax 1 [(19, .str x2)] H fun fr H => ?_)
    obtain ⟨hb, hm⟩ := Ag hm
    refine Az 20 (.str (x2 ++ ([47] : List UInt8))) h2 H (fun fr => .of (L7 (by kernel_rfl) hb)) fun fr t H => ?_
    refine Bk 1 [(5, .ptr (some (A8 I x1, 0))), (6, .str (x2 ++ ([47] : List UInt8)))] H fun fr H => at_nil ?_
    exact .inl ⟨_, rfl, Aq hm, H.ls, A⟩
   exact Ea (.inl ⟨_, rfl, Aq hm, H.ls, A⟩)
  clear ho
  clear A
  intro e fr h3 hQ
  rcases hQ with ⟨x3, rfl, rfl, H, A⟩ | hF
  ·show AW _ _ _ _ _ _ _
   refine AH 1 (AQ 1 [(7, .slice none 0)] H fun fr H => AS (AH 8 ?_))
   obtain ⟨x4, hq1, hm⟩ := bind_some hm
   refine BE 3 [] 24 _ _ H (fun fr => .of (Dk (by kernel_rfl) (Hn (N := BF) (I := I) (A.okF hF) hq1 (o := 2) (v := .map (some (Cz I x1))) rfl))) fun fr t H => ?_
   obtain ⟨h4, e1, A⟩ := A.pu (.cells none 2 [.map (some (Cz I x1))])
   have hr : ∀ g, CC cfg g h3 30 [.map (some (Cz I x1))] (.func (.func 44) [] [.ptr (some (h3.size, 0))]) h4 := fun g => by rw [e1]; exact ⟨2, by kernel_rfl⟩
   refine Az 25 _ _ H (fun fr => Steps.call (by kernel_rfl) (hr _)) fun fr t H => ?_
   have A1 := A.cut 1
   obtain ⟨hb, hm⟩ := Ag hm
   obtain ⟨r1, h5, hr, A1⟩ := QS (C := cfg) (f := 29) (it := 44) (t := 9) (N := BF) (I := I) A1 (A.okF hF) hq1 (by kernel_rfl) (l := exts) rfl (by kernel_rfl) 0 rfl hb
   replace A := A.g12 A1
   refine Cc 26 hr H fun fr t H => ?_
   refine AQ 2 [(27, Ai ((Bb (x4.AP.map Prod.fst)).length : Int)), (28, Ai 0)] H fun fr H => AM (id := 0) (by kernel_rfl) ?_
   replace A : HH g h5 [.AL none 9 (AL eS ([] : List (List UInt8))), _, _, _] F := A.PX 9
   obtain ⟨o2, ho, hm⟩ := bind_some hm
   refine Al (Q' := fun e fr' h' => (∃ x7, e = .exit 0 ∧ x7 = o2 ∧ ∃ r3, Has fr' 40 [(7, AJ r3 x7.length)] ∧ HH g h' [.AL r3 9 (AL eS x7), .obj h3.size (.cells none 2 [.map (some (Cz I x1))]), .obj bp0 (.cells none 2 [.ptr (some (A8 I p0.Au, 0)), Ai p0.n_])] F) ∨ False) ?_ ?_
   ·refine CA (by kernel_rfl) (fun (s : (List (List UInt8)) × Int) fr' h' => ∃ x5 x6, (x5, x6) = s ∧ ∃ r2, Has fr' 40 [(6, .str x3), (7, AJ r2 x5.length), (26, AJ r1 ((Bb (x4.AP.map Prod.fst)).length)), (27, Ai ((Bb (x4.AP.map Prod.fst)).length : Int)), (28, Ai x6)] ∧ HH g h' [.AL r2 9 (AL eS x5), .AL r1 9 (AL eS (Bb (x4.AP.map Prod.fst))), .obj h3.size (.cells none 2 [.map (some (Cz I x1))]), .obj bp0 (.cells none 2 [.ptr (some (A8 I p0.Au, 0)), Ai p0.n_])] F) ho ⟨_, _, rfl, none, H.ls, A⟩ ?_
    clear ho hm H A
    intro s q fr h6 hI hm
    obtain ⟨x5, x6, rfl, r2, H, A⟩ := hI
    unfold As at hm
    refine AH 1 (AQ 1 [(29, .bool (decide (x6 < ((Bb (x4.AP.map Prod.fst)).length : Int))))] H fun fr H => AS (BK 29 H hm (fun hb hm H => ?_) fun hb hm H => ?_))
    ·refine C8 id (AS (AM (id := 1) (by kernel_rfl) ?_))
     refine AH 3 ?_
     obtain ⟨x8, hx, hm⟩ := bind_some hm
     obtain ⟨i1, er1, _, hx, hq2⟩ := HH.MV encS (by decide) A 1 (xs := (Bb (x4.AP.map Prod.fst))) rfl hx
     refine Az 30 (.ptr (some (i1, x6.toNat * 1))) h6 H (fun fr => .of (EG (s := DC r1 ((Bb (x4.AP.map Prod.fst)).length)) (by kernel_rfl) hx)) fun fr t H => ?_
     refine Az 31 _ _ H (fun fr => .of (Dk (by kernel_rfl) (DU encS (HH.row A 1 rfl er1) hq2 (o := 0) rfl))) fun fr t H => ?_
     refine TA 1 [(9, .str x8)] 7 H fun fr H => Ax 3 [(32, AJ r2 x5.length), (33, .str x3), (34, .str x8)] H fun fr H => ?_
     obtain ⟨hb, hm⟩ := Ag hm
     refine Az 35 (.str (x3 ++ x8)) h6 H (fun fr => .of (L7 (by kernel_rfl) hb)) fun fr t H => ?_
     obtain ⟨h7, e2, A⟩ := A.pL 9 [.str (x3 ++ x8)]
     refine Cw 36 (AJ (some h6.size) (([x3 ++ x8] : List (List UInt8)).length)) e2 H fun fr t H => ?_
     obtain ⟨hb, hm⟩ := Ag hm
     obtain ⟨r4, h8, hx, A1⟩ := HH.NF encS (by decide) A 1 (xs := x5) (ys := ([x3 ++ x8] : List (List UInt8))) rfl (Dd A 0 rfl (n := ([x3 ++ x8] : List (List UInt8)).length) (z := 1) rfl (by decide)) rfl rfl hb
     replace A : HH g h8 [.AL (some h6.size) 9 ([.str (x3 ++ x8)]), .AL r4 9 (AL eS (x5 ++ ([x3 ++ x8] : List (List UInt8)))), _, _, _] F := A1
     replace A := A.k4 1 2 3 4
     refine Az 37 _ _ H (fun fr => .of (Jo (s := DC r2 x5.length) (by kernel_rfl) hx)) fun fr t H => ?_
     refine Bk 1 [(6, .str x3), (7, AJ r4 ((x5 ++ ([x3 ++ x8] : List (List UInt8))).length)), (26, AJ r1 ((Bb (x4.AP.map Prod.fst)).length)), (27, Ai ((Bb (x4.AP.map Prod.fst)).length : Int)), (28, Ai x6)] H fun fr H => IG 2 id (Bk 2 [(6, .str x3), (7, AJ r4 ((x5 ++ ([x3 ++ x8] : List (List UInt8))).length)), (26, AJ r1 ((Bb (x4.AP.map Prod.fst)).length)), (27, Ai ((Bb (x4.AP.map Prod.fst)).length : Int)), (28, Ai (IntKind.i64.wrap (x6 + 1)))] H fun fr H => at_nil ?_)
     exact nx hm ⟨_, _, rfl, _, H.ls, A⟩
    refine B0 (i := 0) (by kernel_rfl) ?_
    replace A := A.k3 0 2 3
    exact nr hm fun e => .inl ⟨_, rfl, e, _, H.ls, A⟩
   clear ho
   clear A
   intro e fr h9 hQ
   rcases hQ with ⟨x7, rfl, rfl, r3, H, A⟩ | hF
   ·show AW _ _ _ _ _ _ _
    refine AH 2 (AQ 2 [(4, AJ r3 x7.length)] H fun fr H => BV ?_)
    obtain rfl := Aq hm
    refine ⟨.inl rfl, AJ r3 x7.length, rH H, ?_⟩
    replace A := A.k2 0 2
    exact ⟨r3, rfl, A⟩
   exact hF.elim
  exact hF.elim
 replace A := A.g11 A1
 refine CP 2 [] 12 hr H fun fr t H => ?_
 refine AQ 1 [(5, .ptr none)] H fun fr H => AS (AH 2 (AQ 2 [(14, .bool true)] H fun fr H => K4 (x := .tmp 14) (by kernel_rfl) H (fun fr => by kernel_rfl) ?_))
 refine AH 1 (AQ 1 [(4, .slice none 0)] H fun fr H => BV ?_)
 obtain rfl := Aq hm
 refine ⟨.inl rfl, .slice none 0, rH H, ?_⟩
 replace A : HH g h1 [.AL none 9 (AL eS ([] : List (List UInt8))), _] F := A.PX 9
 exact ⟨none, rfl, A⟩
def CL (p0 : AV) (ar : List AG) : Option (Int) :=
 (Jc BF.kd ar Rr p0.Au).bind fun x1 => some x1
theorem Gr {I p0 ar bp0 q0} (hm : CL p0 ar = some q0) (hc : B3 (cfg.still 14) av = [.ptr (some (bp0, 0))]) (hF : EH BF I ar ∈ F) (A : HH g h [.obj bp0 (.cells none 2 [.ptr (some (A8 I p0.Au, 0)), Ai p0.n_])] F) : ∃ v h', CC cfg g h 14 av v h' ∧ v = Ai q0 ∧ HH g h' [.obj bp0 (.cells none 2 [.ptr (some (A8 I p0.Au, 0)), Ai p0.n_])] F := by
 refine HO 8 [.tmp 2] hc ?_
 clear hc
 unfold CL at hm
 refine bg 8 [(0, .ptr (some (bp0, 0)))] fun fr H => ?_
 refine AH 1 (DP 1 [] 6 H fun fr H => DV 3 [] 6 0 0 A H fun fr t H => ?_)
 obtain ⟨x1, hx, hm⟩ := bind_some hm
 refine Az 7 (Ai x1) h H (fun fr => Steps.call (by kernel_rfl) (TH (C := cfg) (f := 31) (N := BF) (I := I) (by kernel_rfl) (l := exts) rfl (by kernel_rfl) (A.okF hF) (fun _ => ⟨_, _, rfl⟩) hx)) fun fr t H => ?_
 refine AQ 1 [(2, Ai x1)] H fun fr H => BV ?_
 obtain rfl := Aq hm
 exact ⟨.inl rfl, _, rH H, rfl, A⟩
def Ak (x4 : List AD) (s : Int) (v1 : (List UInt8) × Int) : Option ((Int) ⊕ ((Int))) :=
 match s with
 | x6 => (BM (decide (x6 ≥ (x4.length : Int))) (some true) ((Fv x4 x6).bind fun x9 => (Bo x9.L).bind fun x10 => some (!(v1.1 == x10))) : Option (Bool)).bind fun x8 => (BM x8 (some true) ((Fv x4 x6).bind fun x12 => some (v1.2 != x12.At)) : Option (Bool)).bind fun x11 => BM x11 (some (.inr x6)) (some (.inl (IntKind.i64.wrap (x6 + 1))))
def Ac (x3w3 : AV) (ar : List AG) (x4 : List AD) (s : (List (List UInt8)) × Int × Int) : Option (((List (List UInt8)) × Int × Int) ⊕ (((List (List UInt8)) × Int) ⊕ (Unit))) :=
 match s with
 | (x13, x14, x15) => BM (decide (x15 < (x4.length : Int))) (((Fv x4 x15).bind fun x20 => BM (decide (x20.At < 0)) ((Bo x20.L).bind fun x21 => Dm (QY 16 (x13.length + ([x21] : List (List UInt8)).length)) <| (Bo x20.L).bind fun x22 => (BZ x3w3 x22 ar).bind fun x23 => BM ((x23.length : Int) == 0) (some (.inr ())) (some (.inl ((x13 ++ ([x21] : List (List UInt8))), mx x14 (x20.L.length : Int))))) (some (.inl (x13, mx x14 (x20.L.length : Int)))) : Option (((List (List UInt8)) × Int) ⊕ (Unit))).bind fun o2 => (match o2 with | .inl (x18, x19) => some (.inl (x18, x19, IntKind.i64.wrap (x15 + 1))) | .inr _ => some (.inr (.inr ())))) (some (.inr (.inl (x13, x14))))
def CE (p0 : List AO) : Option (Bool) :=
 (CG p0).bind fun x1 => BM x1 ((CV).bind fun x2 => some x2) ((Ds p0).bind fun (x3w3, ar) => (Cb p0).bind fun x4 => (DJ x3w3 ar).bind fun _ => (Bj (Ak x4) (.inl (0 : Int)) x3w3 ar).bind fun y1 => (match y1 with | .inl x6 => (loop (Ac x3w3 ar x4) (([] : List (List UInt8)), (0 : Int), (0 : Int))).bind fun o1 => (match o1 with | .inl (x16, x17) => (BM (x6 == (x4.length : Int)) ((Cm x3w3 ar).bind fun x25 => some (x25 == x6)) (some false) : Option (Bool)).bind fun x24 => (BM x24 ((CL x3w3 ar).bind fun x27 => some (x27 == x17)) (some false) : Option (Bool)).bind fun x26 => (BM x26 ((Bh x3w3 ar).bind fun x29 => (B6 x29 x16).bind fun x30 => some x30) (some false) : Option (Bool)).bind fun x28 => (BM x28 ((CV).bind fun x32 => some x32) (some false) : Option (Bool)).bind fun x31 => some x31 | .inr _ => some false) | .inr x7 => some false))
theorem FO {p0 q0} (hm : CE p0 = some q0) (A : HH g h [] F) (hc : B3 (cfg.still 4) av = [vs AE p0] := by kernel_rfl) : ∃ v h', CC cfg g h 4 av v h' ∧ v = .bool q0 ∧ HH g h' [] F := by
 refine HO 103 [.cell 2 4] hc ?_
 clear hc
 unfold CE at hm
 refine bg 103 [(0, vs AE p0)] fun fr H => ?_
 have hback : ∀ {h' : AB} {L : List Ck}, HH g h' L F → HH g h' L F := fun a => a
 refine AH 1 ?_
 obtain ⟨h1, e1, A⟩ := A.pu (.cells none 2 [.bool false])
 refine Cw 2 (.ptr (some (h.size, 0))) e1 H fun fr t H => ?_
 refine Dg id (AS (AH 2 ?_))
 obtain ⟨x1, hx, hm⟩ := bind_some hm
 obtain ⟨v1, h2, hr, rfl, A1⟩ := IB (av := [vs AE p0]) hx (A.cut 0)
 replace A : HH g h2 [.obj h.size (.cells none 2 [.bool false])] F := A.HI (n := 0) A1
 refine CP 1 [] 13 hr H fun fr t H => ?_
 refine Dg id (BK 13 H hm (fun hb hm H => ?_) fun hb hm H => ?_)
 ·refine AH 2 ?_
  obtain ⟨x2, hx, hm⟩ := bind_some hm
  obtain ⟨v1, h3, hr, rfl, A1⟩ := Ej (av := []) hx (A.cut 0)
  replace A := A.Ri A1
  refine Cc 14 hr H fun fr t H => ?_
  obtain ⟨h4, hx, A⟩ := A.s0 0 [.bool x2] [_]
  refine IJ hx H fun fr t H => ?_
  refine Dg id (BV ?_)
  obtain rfl := Aq hm
  refine ⟨.inl rfl, .bool x2, Jl (.cell (rT H) (K6 (by kernel_rfl) (A.l1 0 0)) .nil), ?_⟩
  replace A := A.d0
  exact ⟨rfl, (hback A)⟩
 refine Q9 3 id ?_
 obtain ⟨⟨x3w3, ar⟩, hx, hm⟩ := bind_some hm
 obtain ⟨v1, h5, hr, bx3w3, I, rfl, A1⟩ := Kp (av := [vs AE p0]) hx (A.cut 0)
 replace A := A.Wh A1
 obtain ⟨F, A, hF, hback⟩ := A.Xw 1 hback rfl
 replace A : HH g h5 [.obj bx3w3 (.cells none 2 [.ptr (some (A8 I x3w3.Au, 0)), Ai x3w3.n_]), .obj h.size (.cells none 2 [.bool false])] F := A
 refine CP 1 [] 16 hr H fun fr t H => ?_
 refine AQ 1 [(3, .ptr (some (bx3w3, 0)))] H fun fr H => AS (AH 2 (AQ 2 [(18, .bool false)] H fun fr H => Ga (x := .tmp 18) (by kernel_rfl) H (fun fr => by kernel_rfl) ?_))
 refine Q9 4 id ?_
 obtain ⟨x4, hx, hm⟩ := bind_some hm
 obtain ⟨v1, h6, hr, rqw4, rfl, A1⟩ := HM (av := [vs AE p0]) hx (A.cut 0)
 replace A := A.V3 A1
 refine CP 1 [] 20 hr H fun fr t H => ?_
 obtain ⟨h7, e2, A⟩ := A.pu (.cells none 2 [.slice none 0])
 refine Cw 4 (.ptr (some (h6.size, 0))) e2 H fun fr t H => ?_
 obtain ⟨h8, hx, A⟩ := A.s0 0 [AJ rqw4 x4.length] [_]
 refine IJ hx H fun fr t H => ?_
 refine F5 3 id ?_
 obtain ⟨h9, e3, A⟩ := A.pu (.cells none 2 [Ai 0])
 refine Cw 5 (.ptr (some (h8.size, 0))) e3 H fun fr t H => ?_
 obtain ⟨h10, hx, A⟩ := A.s0 0 [Ai 0] [_]
 refine IJ hx H fun fr t H => ?_
 refine DP 1 [(6, Ai 0)] 1 H fun fr H => AQ 1 [(7, .slice none 0)] H fun fr H => AS (AH 2 ?_)
 replace A := A.k5 3 0 1 2 4
 have A1 := A.cut 1
 obtain ⟨⟨⟩, hx, hm⟩ := bind_some hm
 obtain ⟨v1, h11, hr, bqw5_10, rfl, A1⟩ := HW (av := [.ptr (some (bx3w3, 0))]) hx (by kernel_rfl) (List.mem_append_right _ hF) A1
 replace A := A.g12 A1
 refine CP 1 [] 22 hr H fun fr t H => ?_
 refine Dg id (AM (id := 0) (by kernel_rfl) ?_)
 obtain ⟨y1, ho, hm⟩ := bind_some hm
 refine KI (C := cfg) (x := .tmp 22) (ps := [23, 24]) (f' := 25) (first := []) (cap := [.ptr (some (bqw5_10, 0))]) (Lu := [.obj bqw5_10 (.cells none 2 [.ptr (some (bx3w3, 0))]), .obj bx3w3 (.cells none 2 [.ptr (some (A8 I x3w3.Au, 0)), Ai x3w3.n_])]) (Lc := [.obj h8.size (.cells none 2 [Ai 0]), .obj h6.size (.cells none 2 [AJ rqw4 x4.length]), .AL rqw4 35 (AL AF x4), .obj h.size (.cells none 2 [.bool false])]) (F := F) (ex := fun x => [.str x.1, Ai x.2]) (Y := Ak x4) (PL := fun s Lc => ∃ (x6 : Int), x6 = s ∧ Lc = [.obj h8.size (.cells none 2 [Ai x6]), .obj h6.size (.cells none 2 [AJ rqw4 x4.length]), .AL rqw4 35 (AL AF x4), .obj h.size (.cells none 2 [.bool false])]) (PR := fun r Lc => (∃ (x7 : Int), x7 = r ∧ Lc = [.obj h8.size (.cells none 2 [Ai x7]), .obj h6.size (.cells none 2 [AJ rqw4 x4.length]), .AL rqw4 35 (AL AF x4), .obj h.size (.cells none 2 [.bool false])]) ∨ False) (pe := fun _ => .ret) (s := (0 : Int)) (y := y1) (PU := fun L => L = [.obj bqw5_10 (.cells none 2 [.ptr (some (bx3w3, 0))]), .obj bx3w3 (.cells none 2 [.ptr (some (A8 I x3w3.Au, 0)), Ai x3w3.n_])]) (St := (XU (EH BF I ar))) (Q0 := (fun (_ : Unit) F' => F' = F)) (tl := fun _ => ()) (tr := fun _ => ()) (by kernel_rfl) H (fun fr => by kernel_rfl) (by kernel_rfl) (fun _ => rfl) (by kernel_rfl) A ⟨(0 : Int), rfl, rfl⟩ (SR _) (fun _ F8 e => by rw [show F8 = F from e]; exact hF) rfl ?_ ?_ ?_ ?_ ?_
 ·refine Hh H (kn := fun v1 => [(2, .ptr (some (h.size, 0))), (4, .ptr (some (h6.size, 0))), (5, .ptr (some (h8.size, 0))), (23, .str v1.1), (24, Ai v1.2)]) (fun v1 fr => by kernel_rfl) ?_
  clear ho hm A H
  intro g h12 F s v1 o Lc fr H hP hm A
  obtain ⟨x6, rfl, rfl⟩ := hP
  unfold Ak at hm
  show AW _ _ _ _ _ _ _
  refine AH 1 (Bk 1 [(2, .ptr (some (h.size, 0))), (4, .ptr (some (h6.size, 0))), (5, .ptr (some (h8.size, 0))), (8, .str v1.1), (24, Ai v1.2)] H fun fr H => IG 1 id (Ax 1 [(9, Ai v1.2)] H fun fr H => at_nil ?_))
  refine ⟨rfl, _, A, ?_⟩
  clear A
  intro h13 F R hS hR A
  have hF := hS _ _ hR
  show AW _ _ _ _ _ _ _
  refine AM (id := 1) (by kernel_rfl) ?_
  refine AS (AH 23 (Fi 25 0 0 A H fun fr t H => ?_))
  refine Fi 26 1 0 A H fun fr t H => ?_
  refine Ax 3 [(29, .bool (decide (x6 ≥ (x4.length : Int))))] H fun fr H => ?_
  obtain ⟨x8, ho, hm⟩ := bind_some hm
  refine HJ 9 (fun fr' h' => Has fr' 103 [(2, .ptr (some (h.size, 0))), (4, .ptr (some (h6.size, 0))), (5, .ptr (some (h8.size, 0))), (9, Ai v1.2), (38, .bool x8)] ∧ HH g h' [.obj h8.size (.cells none 2 [Ai x6]), .obj h6.size (.cells none 2 [AJ rqw4 x4.length]), .AL rqw4 35 (AL AF x4), .obj h.size (.cells none 2 [.bool false])] F) ?_ ?_
  ·rcases DL ho with ⟨hb, hm⟩ | ⟨hb, hm⟩
   ·replace H := H.kn 29 hb
    refine Ax 9 [(38, .bool true)] H fun fr H => ?_
    obtain rfl := Aq hm
    exact at_nil ⟨H.ls, A⟩
   replace H := H.kn 29 hb
   refine DV 1 [(30, .str v1.1)] 31 1 0 A H fun fr t H => ?_
   refine Fi 32 0 0 A H fun fr t H => ?_
   obtain ⟨x9, hx, hm⟩ := bind_some hm
   obtain ⟨i1, er1, _, hx, hq1⟩ := HH.MV Ad (by decide) A 2 (xs := x4) rfl hx
   refine Az 33 (.ptr (some (i1, x6.toNat * 2))) h13 H (fun fr => .of (EG (s := DC rqw4 x4.length) (by kernel_rfl) hx)) fun fr t H => ?_
   refine BE 1 [] 35 _ _ H (fun fr => .of (Dk (by kernel_rfl) (DU Ad (HH.row A 2 rfl er1) hq1 (o := 0) rfl))) fun fr t H => ?_
   obtain ⟨x10, hx, hm⟩ := bind_some hm
   obtain ⟨v1, h15, hr, rfl, A1⟩ := Dv (av := [vs eS x9.L]) hx (A.cut 0)
   replace A : HH g h15 [.obj h8.size (.cells none 2 [Ai x6]), .obj h6.size (.cells none 2 [AJ rqw4 x4.length]), .AL rqw4 35 (AL AF x4), .obj h.size (.cells none 2 [.bool false])] F := A.HI (n := 0) A1
   refine Cc 36 hr H fun fr t H => ?_
   refine Ax 2 [(38, .bool (!(v1.1 == x10)))] H fun fr H => ?_
   obtain rfl := Aq hm
   exact at_nil ⟨H.ls, A⟩
  clear A
  intro t fr h14 hK
  obtain ⟨H, A⟩ := hK
  refine Ax 1 [(39, .bool x8)] H fun fr H => ?_
  obtain ⟨x11, ho, hm⟩ := bind_some hm
  refine HJ 8 (fun fr' h' => Has fr' 103 [(2, .ptr (some (h.size, 0))), (5, .ptr (some (h8.size, 0))), (47, .bool x11)] ∧ HH g h' [.obj h8.size (.cells none 2 [Ai x6]), .obj h6.size (.cells none 2 [AJ rqw4 x4.length]), .AL rqw4 35 (AL AF x4), .obj h.size (.cells none 2 [.bool false])] F) ?_ ?_
  ·rcases DL ho with ⟨hb, hm⟩ | ⟨hb, hm⟩
   ·replace H := H.kn 39 hb
    refine Ax 8 [(47, .bool true)] H fun fr H => ?_
    obtain rfl := Aq hm
    exact at_nil ⟨H.ls, A⟩
   replace H := H.kn 39 hb
   refine DV 1 [(40, Ai v1.2)] 41 1 0 A H fun fr t H => ?_
   refine Fi 42 0 0 A H fun fr t H => ?_
   obtain ⟨x12, hx, hm⟩ := bind_some hm
   obtain ⟨i2, er2, _, hx, hq2⟩ := HH.MV Ad (by decide) A 2 (xs := x4) rfl hx
   refine Az 43 (.ptr (some (i2, x6.toNat * 2))) h14 H (fun fr => .of (EG (s := DC rqw4 x4.length) (by kernel_rfl) hx)) fun fr t H => ?_
   refine BE 1 [] 45 _ _ H (fun fr => .of (Dk (by kernel_rfl) (DU Ad (HH.row A 2 rfl er2) hq2 (o := 1) rfl))) fun fr t H => ?_
   refine Ax 2 [(47, .bool (v1.2 != x12.At))] H fun fr H => ?_
   obtain rfl := Aq hm
   exact at_nil ⟨H.ls, A⟩
  clear A
  intro t fr h16 hK
  obtain ⟨H, A⟩ := hK
  refine Dg id (BK 47 H hm (fun hb hm H => ?_) fun hb hm H => ?_)
  ·refine AH 1 ?_
   obtain ⟨h17, hx, A⟩ := A.s3 0 [.bool false] [_]
   refine IJ hx H fun fr t H => ?_
   refine Dg id (BV ?_)
   have e1 := Option.some.inj hm
   subst e1
   exact ⟨rfl, _, _, Or.inl ⟨x6, rfl, rfl⟩, hR, A⟩
  refine Ik 3 id (Fi 48 0 0 A H fun fr t H => ?_)
  obtain ⟨h18, hx, A⟩ := A.s0 0 [Ai (IntKind.i64.wrap (x6 + 1))] [_]
  refine QI 1 [] hx H fun fr t H => ?_
  refine at_nil ?_
  have e1 := Option.some.inj hm
  subst e1
  exact ⟨rfl, _, _, ⟨IntKind.i64.wrap (x6 + 1), rfl, rfl⟩, hR, A⟩
 ·intro h1 l1 F1 R1 hYR1 hck B1 A1
  obtain ⟨v1, h2, hr, _, F2, B2, A2⟩ := FN (av := [.Fw l1, .ptr (some (bqw5_10, 0))]) ho (by kernel_rfl) hYR1 B1 (hck _ (fun _ F8 e => by rw [show F8 = F from e]; exact hF)) A1
  exact ⟨v1, h2, F2, _, hr, B2, rfl, A2⟩
 ·clear ho A
  intro s2 h19 Lc Lu F9 ey hP hQ hU A
  subst ey
  obtain ⟨x6, rfl, rfl⟩ := hP
  subst hU
  rw [show F9 = F from hQ] at A
  replace A : HH g h19 [.obj bqw5_10 (.cells none 2 [.ptr (some (bx3w3, 0))]), .obj bx3w3 (.cells none 2 [.ptr (some (A8 I x3w3.Au, 0)), Ai x3w3.n_]), .obj h8.size (.cells none 2 [Ai x6]), .obj h6.size (.cells none 2 [AJ rqw4 x4.length]), .AL rqw4 35 (AL AF x4), .obj h.size (.cells none 2 [.bool false])] F := A
  show AW _ _ _ _ _ _ _
  refine AS (AH 3 (NV (v := AJ rqw4 x4.length) (h1 := h19) [(2, .ptr (some (h.size, 0))), (3, .ptr (some (bx3w3, 0))), (4, .ptr (some (h6.size, 0))), (5, .ptr (some (h8.size, 0))), (6, Ai 0), (7, .slice none 0), (50, AJ rqw4 x4.length)] H (fun fr => by kernel_rfl) (fun fr => .of (Dk (by kernel_rfl) (A.l1 3 0))) ?_))
  intro fr t H
  refine AQ 2 [(51, Ai (x4.length : Int)), (52, Ai 0)] H fun fr H => AM (id := 2) (by kernel_rfl) ?_
  replace A : HH g h19 [.AL none 9 (AL eS ([] : List (List UInt8))), _, _, _, _, _, _] F := A.PX 9
  obtain ⟨o1, ho, hm⟩ := bind_some hm
  refine Al (Q' := fun e fr' h' => (∃ x16 x17, e = .exit 2 ∧ .inl (x16, x17) = o1 ∧ ∃ r2, Has fr' 103 [(2, .ptr (some (h.size, 0))), (3, .ptr (some (bx3w3, 0))), (4, .ptr (some (h6.size, 0))), (5, .ptr (some (h8.size, 0))), (6, Ai x17), (7, AJ r2 x16.length)] ∧ HH g h' [.AL r2 9 (AL eS x16), .obj bqw5_10 (.cells none 2 [.ptr (some (bx3w3, 0))]), .obj bx3w3 (.cells none 2 [.ptr (some (A8 I x3w3.Au, 0)), Ai x3w3.n_]), .obj h8.size (.cells none 2 [Ai x6]), .obj h6.size (.cells none 2 [AJ rqw4 x4.length]), .AL rqw4 35 (AL AF x4), .obj h.size (.cells none 2 [.bool false])] F) ∨ (e = .ret ∧ .inr () = o1 ∧ Has fr' 103 [(2, .ptr (some (h.size, 0)))] ∧ HH g h' [.obj bqw5_10 (.cells none 2 [.ptr (some (bx3w3, 0))]), .obj bx3w3 (.cells none 2 [.ptr (some (A8 I x3w3.Au, 0)), Ai x3w3.n_]), .obj h8.size (.cells none 2 [Ai x6]), .obj h6.size (.cells none 2 [AJ rqw4 x4.length]), .AL rqw4 35 (AL AF x4), .obj h.size (.cells none 2 [.bool false])] F) ∨ False) ?_ ?_
  ·refine CA (by kernel_rfl) (fun (s : (List (List UInt8)) × Int × Int) fr' h' => ∃ x13 x14 x15, (x13, x14, x15) = s ∧ ∃ r1, Has fr' 103 [(2, .ptr (some (h.size, 0))), (3, .ptr (some (bx3w3, 0))), (4, .ptr (some (h6.size, 0))), (5, .ptr (some (h8.size, 0))), (6, Ai x14), (7, AJ r1 x13.length), (50, AJ rqw4 x4.length), (51, Ai (x4.length : Int)), (52, Ai x15)] ∧ HH g h' [.AL r1 9 (AL eS x13), .obj bqw5_10 (.cells none 2 [.ptr (some (bx3w3, 0))]), .obj bx3w3 (.cells none 2 [.ptr (some (A8 I x3w3.Au, 0)), Ai x3w3.n_]), .obj h8.size (.cells none 2 [Ai x6]), .obj h6.size (.cells none 2 [AJ rqw4 x4.length]), .AL rqw4 35 (AL AF x4), .obj h.size (.cells none 2 [.bool false])] F) ho ⟨_, _, _, rfl, none, H.ls, A⟩ ?_
   clear ho hm H A
   intro s q fr h20 hI hm
   obtain ⟨x13, x14, x15, rfl, r1, H, A⟩ := hI
   unfold Ac at hm
   refine AH 1 (AQ 1 [(53, .bool (decide (x15 < (x4.length : Int))))] H fun fr H => AS (BK 53 H hm (fun hb hm H => ?_) fun hb hm H => ?_))
   ·refine C8 id (AS ?_)
    obtain ⟨o2, ho, hm⟩ := bind_some hm
    refine Al (Q' := fun e fr' h' => (∃ x18 x19, e = .normal ∧ .inl (x18, x19) = o2 ∧ ∃ r3, Has fr' 103 [(2, .ptr (some (h.size, 0))), (3, .ptr (some (bx3w3, 0))), (4, .ptr (some (h6.size, 0))), (5, .ptr (some (h8.size, 0))), (6, Ai x19), (7, AJ r3 x18.length), (50, AJ rqw4 x4.length), (51, Ai (x4.length : Int)), (52, Ai x15)] ∧ HH g h' [.AL r3 9 (AL eS x18), .obj bqw5_10 (.cells none 2 [.ptr (some (bx3w3, 0))]), .obj bx3w3 (.cells none 2 [.ptr (some (A8 I x3w3.Au, 0)), Ai x3w3.n_]), .obj h8.size (.cells none 2 [Ai x6]), .obj h6.size (.cells none 2 [AJ rqw4 x4.length]), .AL rqw4 35 (AL AF x4), .obj h.size (.cells none 2 [.bool false])] F) ∨ (e = .ret ∧ .inr () = o2 ∧ Has fr' 103 [(2, .ptr (some (h.size, 0)))] ∧ HH g h' [.obj bqw5_10 (.cells none 2 [.ptr (some (bx3w3, 0))]), .obj bx3w3 (.cells none 2 [.ptr (some (A8 I x3w3.Au, 0)), Ai x3w3.n_]), .obj h8.size (.cells none 2 [Ai x6]), .obj h6.size (.cells none 2 [AJ rqw4 x4.length]), .AL rqw4 35 (AL AF x4), .obj h.size (.cells none 2 [.bool false])] F) ∨ False) ?_ ?_
    ·replace hm := ho
     clear ho
     refine AM (id := 3) (by kernel_rfl) ?_
     refine AH 4 ?_
     obtain ⟨x20, hx, hm⟩ := bind_some hm
     obtain ⟨i3, er3, _, hx, hq3⟩ := HH.MV Ad (by decide) A 5 (xs := x4) rfl hx
     refine Az 54 (.ptr (some (i3, x15.toNat * 2))) h20 H (fun fr => .of (EG (s := DC rqw4 x4.length) (by kernel_rfl) hx)) fun fr t H => ?_
     refine Az 55 _ _ H (fun fr => .of (QW (by kernel_rfl) (K8 Ad (HH.row A 5 rfl er3) hq3 0 2 (Nat.le_of_ble_eq_true rfl)))) fun fr t H => ?_
     obtain ⟨h21, e4, A⟩ := A.pu (.cells none 2 [.slice none 0, Ai 0])
     refine Cw 11 (.ptr (some (h20.size, 0))) e4 H fun fr t H => ?_
     obtain ⟨h22, hx, A⟩ := A.s0 0 [vs eS x20.L, Ai x20.At] [_, _]
     refine Sb hx H fun fr t H => ?_
     refine F5 6 id (DV 2 [(56, Ai x14)] 58 0 0 A H fun fr t H => ?_)
     refine Bk 3 [(2, .ptr (some (h.size, 0))), (3, .ptr (some (bx3w3, 0))), (4, .ptr (some (h6.size, 0))), (5, .ptr (some (h8.size, 0))), (6, Ai (mx x14 (x20.L.length : Int))), (7, AJ r1 x13.length), (11, .ptr (some (h20.size, 0))), (50, AJ rqw4 x4.length), (51, Ai (x4.length : Int)), (52, Ai x15)] H fun fr H => F5 3 id (DV 1 [] 62 0 1 A H fun fr t H => ?_)
     refine AQ 1 [(63, .bool (decide (x20.At < 0)))] H fun fr H => BK 63 H hm (fun hb hm H => ?_) fun hb hm H => ?_
     ·refine AH 7 (DV 2 [(64, AJ r1 x13.length)] 66 0 0 A H fun fr t H => ?_)
      obtain ⟨x21, hx, hm⟩ := bind_some hm
      obtain ⟨v1, h23, hr, rfl, A1⟩ := Dv (av := [vs eS x20.L]) hx (A.cut 0)
      replace A := A.Ri A1
      refine Cc 67 hr H fun fr t H => ?_
      obtain ⟨h24, e5, A⟩ := A.pL 9 [.str x21]
      refine Cw 68 (AJ (some h23.size) (([x21] : List (List UInt8)).length)) e5 H fun fr t H => ?_
      obtain ⟨hb, hm⟩ := Ag hm
      obtain ⟨r4, h25, hx, A1⟩ := HH.NF encS (by decide) A 2 (xs := x13) (ys := ([x21] : List (List UInt8))) rfl (Dd A 0 rfl (n := ([x21] : List (List UInt8)).length) (z := 1) rfl (by decide)) rfl rfl hb
      replace A : HH g h25 [.AL (some h23.size) 9 ([.str x21]), _, .AL r4 9 (AL eS (x13 ++ ([x21] : List (List UInt8)))), _, _, _, _, _, _] F := A1
      replace A := A.k8 1 2 3 4 5 6 7 8
      refine Az 69 _ _ H (fun fr => .of (Jo (s := DC r1 x13.length) (by kernel_rfl) hx)) fun fr t H => ?_
      refine Bk 1 [(2, .ptr (some (h.size, 0))), (3, .ptr (some (bx3w3, 0))), (4, .ptr (some (h6.size, 0))), (5, .ptr (some (h8.size, 0))), (6, Ai (mx x14 (x20.L.length : Int))), (7, AJ r4 ((x13 ++ ([x21] : List (List UInt8))).length)), (11, .ptr (some (h20.size, 0))), (50, AJ rqw4 x4.length), (51, Ai (x4.length : Int)), (52, Ai x15)] H fun fr H => F5 7 id (DV 2 [(70, .ptr (some (bx3w3, 0)))] 72 0 0 A H fun fr t H => ?_)
      obtain ⟨x22, hx, hm⟩ := bind_some hm
      obtain ⟨v1, h26, hr, rfl, A1⟩ := Dv (av := [vs eS x20.L]) hx (A.cut 0)
      replace A := A.Ri A1
      refine Cc 73 hr H fun fr t H => ?_
      replace A := A.k8 3 0 1 2 4 5 6 7
      have A1 := A.cut 1
      obtain ⟨x23, hx, hm⟩ := bind_some hm
      obtain ⟨v1, h27, hr, rqw9, rfl, A1⟩ := Fz (av := [.ptr (some (bx3w3, 0)), .str x22]) hx (by kernel_rfl) (List.mem_append_right _ hF) A1
      replace A := A.g12 A1
      refine Cc 74 hr H fun fr t H => ?_
      refine AQ 2 [(76, .bool ((x23.length : Int) == 0))] H fun fr H => BK 76 H hm (fun hb hm H => ?_) fun hb hm H => ?_
      ·refine AH 1 ?_
       obtain ⟨h28, hx, A⟩ := A.s8 0 [.bool false] [_]
       refine IJ hx H fun fr t H => ?_
       refine Dg id (BV ?_)
       replace A := A.k6 4 1 5 6 7 8
       exact .inr (.inl ⟨rfl, Aq hm, H.ls, A⟩)
      refine Ea ?_
      replace A := A.k7 3 4 1 5 6 7 8
      exact .inl ⟨_, _, rfl, Aq hm, _, H.ls, A⟩
     refine Ea ?_
     replace A := A.k7 1 2 3 4 5 6 7
     exact .inl ⟨_, _, rfl, Aq hm, _, H.ls, A⟩
    clear ho
    clear A
    intro e fr h29 hQ
    rcases hQ with ⟨x18, x19, rfl, rfl, r3, H, A⟩ | ⟨rfl, rfl, H, A⟩ | hF
    ·show AW _ _ _ _ _ _ _
     refine CQ 2 (Bk 2 [(2, .ptr (some (h.size, 0))), (3, .ptr (some (bx3w3, 0))), (4, .ptr (some (h6.size, 0))), (5, .ptr (some (h8.size, 0))), (6, Ai x19), (7, AJ r3 x18.length), (50, AJ rqw4 x4.length), (51, Ai (x4.length : Int)), (52, Ai (IntKind.i64.wrap (x15 + 1)))] H fun fr H => at_nil ?_)
     exact nx hm ⟨_, _, _, rfl, _, H.ls, A⟩
    ·exact nr hm fun e => Or.inr (.inl ⟨rfl, e, H.ls, A⟩)
    exact hF.elim
   refine B0 (i := 2) (by kernel_rfl) ?_
   exact nr hm fun e => .inl ⟨_, _, rfl, e, _, H.ls, A⟩
  clear ho
  clear A
  intro e fr h30 hQ
  rcases hQ with ⟨x16, x17, rfl, rfl, r2, H, A⟩ | ⟨rfl, rfl, H, A⟩ | hF
  ·show AW _ _ _ _ _ _ _
   refine AS (TC 24 26 [(0, []), (1, []), (2, []), (3, []), (4, []), (5, []), (7, []), (6, [7]), (8, []), (9, []), (10, []), (11, []), (12, []), (13, []), (14, []), (15, []), (16, []), (17, []), (18, []), (19, []), (20, []), (21, []), (22, []), (23, []), (24, []), (25, [])] ?_)
   refine M3 78 (Ai x6) h30 [(0, h8.size)] (g.Bg) H (fun fr => .of (Dk (by kernel_rfl) (A.l1 3 0))) (fun fr H => ?_)
   refine M3 79 (AJ rqw4 x4.length) h30 [(1, h6.size), (0, h8.size)] (g.Bg) H (fun fr => .of (Dk (by kernel_rfl) (A.l1 4 0))) (fun fr H => ?_)
   refine Ax 3 [(82, .bool (x6 == (x4.length : Int)))] H fun fr H => ?_
   obtain ⟨x24, ho, hm⟩ := bind_some hm
   refine HJ 5 (fun fr' h' => Has fr' 103 [(2, .ptr (some (h.size, 0))), (3, .ptr (some (bx3w3, 0))), (6, Ai x17), (7, AJ r2 x16.length), (87, .bool x24)] ∧ HH g h' [.AL r2 9 (AL eS x16), .obj bqw5_10 (.cells none 2 [.ptr (some (bx3w3, 0))]), .obj bx3w3 (.cells none 2 [.ptr (some (A8 I x3w3.Au, 0)), Ai x3w3.n_]), .obj h8.size (.cells none 2 [Ai x6]), .obj h6.size (.cells none 2 [AJ rqw4 x4.length]), .AL rqw4 35 (AL AF x4), .obj h.size (.cells none 2 [.bool false])] F) ?_ ?_
   ·rcases DL ho with ⟨hb, hm⟩ | ⟨hb, hm⟩
    ·replace H := H.kn 82 hb
     refine Ax 1 [(83, .ptr (some (bx3w3, 0)))] H fun fr H => M3 85 (Ai x6) h30 [(7, h8.size), (1, h6.size), (0, h8.size)] (g.Bg) H (fun fr => .of (Dk (by kernel_rfl) (A.l1 3 0))) (fun fr H => ?_)
     replace A := A.k7 2 0 1 3 4 5 6
     have A1 := A.SA 1 (pr := [h8.size]) (.cons 2 rfl (by simp [Ck.ids]) .nil)
     obtain ⟨x25, hx, hm⟩ := bind_some hm
     obtain ⟨v1, h32, hr, rfl, A1⟩ := Ew (av := [.ptr (some (bx3w3, 0))]) hx (by kernel_rfl) (List.mem_append_right _ hF) A1
     replace A := A.YB A1
     refine M3 84 (Ai x25) h32 [(7, h8.size), (1, h6.size), (0, h8.size)] (h8.size :: g.Bg) H (fun fr => Steps.call (by kernel_rfl) hr) (fun fr H => ?_)
     refine Ax 2 [(87, .bool (x25 == x6))] H fun fr H => ?_
     obtain rfl := Aq hm
     replace A := A.k7 1 2 0 3 4 5 6
     exact at_nil ⟨H.ls, A⟩
    replace H := H.kn 82 hb
    refine Ax 2 [(83, .tuple []), (85, .tuple [])] H fun fr H => UB [(2, .ptr (some (h.size, 0))), (3, .ptr (some (bx3w3, 0))), (6, Ai x17), (7, AJ r2 x16.length), (82, .bool false), (84, .tuple []), (85, .tuple [])] H (fun fr => by kernel_rfl) ?_
    intro fr H
    refine Ax 2 [(87, .bool false)] H fun fr H => ?_
    obtain rfl := Aq hm
    exact at_nil ⟨H.ls, A⟩
   clear A
   intro t fr h31 hK
   obtain ⟨H, A⟩ := hK
   refine Ax 1 [(88, .bool x24)] H fun fr H => ?_
   obtain ⟨x26, ho, hm⟩ := bind_some hm
   refine HJ 5 (fun fr' h' => Has fr' 103 [(2, .ptr (some (h.size, 0))), (3, .ptr (some (bx3w3, 0))), (7, AJ r2 x16.length), (93, .bool x26)] ∧ HH g h' [.AL r2 9 (AL eS x16), .obj bqw5_10 (.cells none 2 [.ptr (some (bx3w3, 0))]), .obj bx3w3 (.cells none 2 [.ptr (some (A8 I x3w3.Au, 0)), Ai x3w3.n_]), .obj h8.size (.cells none 2 [Ai x6]), .obj h6.size (.cells none 2 [AJ rqw4 x4.length]), .AL rqw4 35 (AL AF x4), .obj h.size (.cells none 2 [.bool false])] F) ?_ ?_
   ·rcases DL ho with ⟨hb, hm⟩ | ⟨hb, hm⟩
    ·replace H := H.kn 88 hb
     replace A := A.k7 2 0 1 3 4 5 6
     have A1 := A.cut 1
     obtain ⟨x27, hx, hm⟩ := bind_some hm
     obtain ⟨v1, h34, hr, rfl, A1⟩ := Gr (av := [.ptr (some (bx3w3, 0))]) hx (by kernel_rfl) (List.mem_append_right _ hF) A1
     replace A := A.g11 A1
     refine CP 1 [] 90 hr H fun fr t H => ?_
     refine Ax 3 [(93, .bool (x27 == x17))] H fun fr H => ?_
     obtain rfl := Aq hm
     replace A := A.k7 1 2 0 3 4 5 6
     exact at_nil ⟨H.ls, A⟩
    replace H := H.kn 88 hb
    refine Ax 5 [(93, .bool false)] H fun fr H => ?_
    obtain rfl := Aq hm
    exact at_nil ⟨H.ls, A⟩
   clear A
   intro t fr h33 hK
   obtain ⟨H, A⟩ := hK
   refine Ax 1 [(94, .bool x26)] H fun fr H => ?_
   obtain ⟨x28, ho, hm⟩ := bind_some hm
   refine HJ 5 (fun fr' h' => Has fr' 103 [(2, .ptr (some (h.size, 0))), (99, .bool x28)] ∧ HH g h' [.obj bqw5_10 (.cells none 2 [.ptr (some (bx3w3, 0))]), .obj bx3w3 (.cells none 2 [.ptr (some (A8 I x3w3.Au, 0)), Ai x3w3.n_]), .obj h8.size (.cells none 2 [Ai x6]), .obj h6.size (.cells none 2 [AJ rqw4 x4.length]), .AL rqw4 35 (AL AF x4), .obj h.size (.cells none 2 [.bool false])] F) ?_ ?_
   ·rcases DL ho with ⟨hb, hm⟩ | ⟨hb, hm⟩
    ·replace H := H.kn 94 hb
     replace A := A.k7 2 0 1 3 4 5 6
     have A1 := A.cut 1
     obtain ⟨x29, hx, hm⟩ := bind_some hm
     obtain ⟨v1, h36, hr, rqw12, rfl, A1⟩ := D9 (av := [.ptr (some (bx3w3, 0))]) hx (by kernel_rfl) (List.mem_append_right _ hF) A1
     replace A := A.g12 A1
     refine CP 1 [] 96 hr H fun fr t H => ?_
     replace A := A.k8 0 2 1 3 4 5 6 7
     obtain ⟨x30, hx, hm⟩ := bind_some hm
     obtain ⟨v1, h37, hr, rfl, A1⟩ := D4 (av := [AJ rqw12 x29.length, AJ r2 x16.length]) hx (A.cut 2)
     replace A := A.g22 A1
     refine CP 1 [] 98 hr H fun fr t H => ?_
     refine Ax 1 [(99, .bool x30)] H fun fr H => ?_
     obtain rfl := Aq hm
     replace A := A.k6 3 2 4 5 6 7
     exact at_nil ⟨H.ls, A⟩
    replace H := H.kn 94 hb
    refine Ax 5 [(99, .bool false)] H fun fr H => ?_
    obtain rfl := Aq hm
    replace A := A.k6 1 2 3 4 5 6
    exact at_nil ⟨H.ls, A⟩
   clear A
   intro t fr h35 hK
   obtain ⟨H, A⟩ := hK
   refine Ax 1 [(100, .bool x28)] H fun fr H => ?_
   obtain ⟨x31, ho, hm⟩ := bind_some hm
   refine HJ 2 (fun fr' h' => Has fr' 103 [(2, .ptr (some (h.size, 0))), (102, .bool x31)] ∧ HH g h' [.obj bqw5_10 (.cells none 2 [.ptr (some (bx3w3, 0))]), .obj bx3w3 (.cells none 2 [.ptr (some (A8 I x3w3.Au, 0)), Ai x3w3.n_]), .obj h8.size (.cells none 2 [Ai x6]), .obj h6.size (.cells none 2 [AJ rqw4 x4.length]), .AL rqw4 35 (AL AF x4), .obj h.size (.cells none 2 [.bool false])] F) ?_ ?_
   ·rcases DL ho with ⟨hb, hm⟩ | ⟨hb, hm⟩
    ·replace H := H.kn 100 hb
     obtain ⟨x32, hx, hm⟩ := bind_some hm
     obtain ⟨v1, h39, hr, rfl, A1⟩ := Ej (av := []) hx (A.cut 0)
     replace A := A.Ri A1
     refine Cc 101 hr H fun fr t H => ?_
     refine Ax 1 [(102, .bool x32)] H fun fr H => ?_
     obtain rfl := Aq hm
     exact at_nil ⟨H.ls, A⟩
    replace H := H.kn 100 hb
    refine Ax 2 [(102, .bool false)] H fun fr H => ?_
    obtain rfl := Aq hm
    exact at_nil ⟨H.ls, A⟩
   clear A
   intro t fr h38 hK
   obtain ⟨H, A⟩ := hK
   obtain ⟨h40, hx, A⟩ := A.s5 0 [.bool x31] [_]
   refine IJ hx H fun fr t H => ?_
   refine Dg id (BV ?_)
   obtain rfl := Aq hm
   refine ⟨.inl rfl, .bool x31, Jl (.cell (rT H) (K6 (by kernel_rfl) (A.l1 5 0)) .nil), ?_⟩
   replace A := A.d0
   exact ⟨rfl, (hback A)⟩
  ·obtain rfl := Aq hm
   refine ⟨.inl rfl, .bool false, Jl (.cell (rT H) (K6 (by kernel_rfl) (A.l1 5 0)) .nil), ?_⟩
   replace A := A.d0
   exact ⟨rfl, (hback A)⟩
  exact hF.elim
 ·clear ho A
  intro r2 h19 Lc Lu F9 e ey he hP hQ hU A
  subst ey
  subst hU
  rw [show F9 = F from hQ] at A
  rcases hP with ⟨x7, rfl, rfl⟩ | hF0
  ·obtain rfl := Jp he
   replace A : HH g h19 [.obj bqw5_10 (.cells none 2 [.ptr (some (bx3w3, 0))]), .obj bx3w3 (.cells none 2 [.ptr (some (A8 I x3w3.Au, 0)), Ai x3w3.n_]), .obj h8.size (.cells none 2 [Ai x7]), .obj h6.size (.cells none 2 [AJ rqw4 x4.length]), .AL rqw4 35 (AL AF x4), .obj h.size (.cells none 2 [.bool false])] F := A
   obtain rfl := Aq hm
   refine ⟨.inl rfl, .bool false, Jl (.cell (rT H) (K6 (by kernel_rfl) (A.l1 5 0)) .nil), ?_⟩
   replace A := A.d0
   exact ⟨rfl, (hback A)⟩
  exact hF0.elim
 exact fun _ => ⟨.ret, rfl⟩
end
end Go.Av.L
