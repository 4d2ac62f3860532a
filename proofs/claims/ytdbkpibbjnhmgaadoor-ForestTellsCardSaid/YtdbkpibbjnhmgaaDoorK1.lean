/-
 A part.
-/
import Derived.Test.YtdbkpibbjnhmgaaDoorKCfg
import Derived.Test.YtdbkpibbjnhmgaaDoorK0
namespace Go.Av.L
open Go.Av Go.Lib
set_option maxRecDepth 10000
set_option linter.unusedVariables false
set_option linter.unusedSimpArgs false
variable {g : Gd} {h : AB} {F : List Ck} {av : List AA}
noncomputable section
structure Bn where
 Ah : {SY RY : Type} → Nat → (List UInt8) → (SY → ((List UInt8) × Nat) → Option (SY ⊕ RY)) → (SY ⊕ RY) → (List AG) → Option (Bool × (SY ⊕ RY))
structure Dh (S : Bn) : Prop where
 CK : ∀ {g : Gd} {h : AB} {F : List Ck} {SY RY : Type} {R : SY ⊕ RY → List Ck → Prop} {I : HR} {p0 : Nat} {p1 : List UInt8} {Y : SY → ((List UInt8) × Nat) → Option (SY ⊕ RY)} {y : SY ⊕ RY} {ar : List AG} {l : Nat} {q0 : Bool} {yq : SY ⊕ RY} {av : List AA} (hm : S.Ah p0 p1 Y y ar = some (q0, yq)) (hc : B3 (cfg.still 34) av = [.ptr (some (A8 I p0, 0)), .str p1, .Fw l]) (hYR : YR cfg g l (fun x => [.str x.1, .ptr (some (A8 I x.2, 0))]) Y R) (B : R y F) (hF : ∀ y F, R y F → EH BF I ar ∈ F) (A : HH g h [] F), ∃ v h', CC cfg g h 34 av v h' ∧ v = .bool q0 ∧ ∃ F, R yq F ∧ HH g h' [] F
def Af {SY RY : Type} (S : Bn) (p0 : Nat) (p1 : List UInt8) (Y : SY → ((List UInt8) × Nat) → Option (SY ⊕ RY)) (ar : List AG) (x1 : AG) (s : Int × (SY ⊕ RY)) : Option ((Int × (SY ⊕ RY)) ⊕ (((SY ⊕ RY)) ⊕ (Bool × (SY ⊕ RY)))) :=
 match s with
 | (x2, y1) => BM (decide (x2 < ((Bb (x1.AP.map Prod.fst)).length : Int))) ((Fv (Bb (x1.AP.map Prod.fst)) x2).bind fun x4 => Dm (decide (p1.length + x4.length ≤ 9223372036854775807)) <| (ar[p0]?).bind fun x5 => Ks (CY x5.AP x4) (fun x6 => (N1 Y y1 (p1 ++ x4, x6)).bind fun (x7, y4) => (BM (!x7) (some (true, y4)) ((ar[p0]?).bind fun x9 => Ks (CY x9.AP x4) (fun x10 => Dm (decide ((p1 ++ x4).length + ([47] : List UInt8).length ≤ 9223372036854775807)) <| (S.Ah x10 ((p1 ++ x4) ++ ([47] : List UInt8)) Y y4 ar).bind fun (x11, y6) => some (!x11, y6)) (Dm (decide ((p1 ++ x4).length + ([47] : List UInt8).length ≤ 9223372036854775807)) <| none)) : Option (Bool × (SY ⊕ RY))).bind fun (x8, y5) => BM x8 (some (.inr (.inr (false, y5)))) (some (.inl (IntKind.i64.wrap (x2 + 1), y5)))) (none)) (some (.inr (.inl y1)))
def Bz {SY RY : Type} (S : Bn) (p0 : Nat) (p1 : List UInt8) (Y : SY → ((List UInt8) × Nat) → Option (SY ⊕ RY)) (y : SY ⊕ RY) (ar : List AG) : Option (Bool × (SY ⊕ RY)) :=
 (ar[p0]?).bind fun x1 => Dm (Hu (x1.AP.map Prod.fst)) <| (loop (Af S p0 p1 Y ar x1) ((0 : Int), y)).bind fun o1 => (match o1 with | .inl y2 => some (true, y2) | .inr (x3, y3) => some (x3, y3))
theorem Fj {S : Bn} (hS : Dh S) {SY RY : Type} {R : SY ⊕ RY → List Ck → Prop} {I p0 p1} {Y : SY → ((List UInt8) × Nat) → Option (SY ⊕ RY)} {y : SY ⊕ RY} {ar l q0} {yq : SY ⊕ RY} (hm : Bz S p0 p1 Y y ar = some (q0, yq)) (hc : B3 (cfg.still 34) av = [.ptr (some (A8 I p0, 0)), .str p1, .Fw l]) (hYR : YR cfg g l (fun x => [.str x.1, .ptr (some (A8 I x.2, 0))]) Y R) (B : R y F) (hF : ∀ y F, R y F → EH BF I ar ∈ F) (A : HH g h [] F) : ∃ v h', CC cfg g h 34 av v h' ∧ v = .bool q0 ∧ ∃ F, R yq F ∧ HH g h' [] F := by
 refine HO 48 [.tmp 6] hc ?_
 clear hc
 unfold Bz at hm
 refine bg 48 [(0, .ptr (some (A8 I p0, 0))), (1, .str p1), (2, .Fw l)] fun fr H => ?_
 refine AH 1 (AQ 1 [] H fun fr H => AS (AH 8 ?_))
 obtain ⟨x1, hq1, hm⟩ := bind_some hm
 refine BE 3 [] 13 _ _ H (fun fr => .of (Dk (by kernel_rfl) (Hn (N := BF) (I := I) (A.okF (hF _ _ B)) hq1 (o := 2) (v := .map (some (Cz I p0))) rfl))) fun fr t H => ?_
 obtain ⟨h1, e1, A⟩ := A.pu (.cells none 2 [.map (some (Cz I p0))])
 have hr : ∀ g, CC cfg g h 30 [.map (some (Cz I p0))] (.func (.func 44) [] [.ptr (some (h.size, 0))]) h1 := fun g => by rw [e1]; exact ⟨2, by kernel_rfl⟩
 refine Az 14 _ _ H (fun fr => Steps.call (by kernel_rfl) (hr _)) fun fr t H => ?_
 have A1 := A.cut 1
 obtain ⟨hb, hm⟩ := Ag hm
 obtain ⟨r1, h2, hr, A1⟩ := QS (C := cfg) (f := 29) (it := 44) (t := 9) (N := BF) (I := I) A1 (A.okF (hF _ _ B)) hq1 (by kernel_rfl) (l := exts) rfl (by kernel_rfl) 0 rfl hb
 replace A := A.g12 A1
 refine Cc 15 hr H fun fr t H => ?_
 refine AQ 2 [(16, Ai ((Bb (x1.AP.map Prod.fst)).length : Int)), (17, Ai 0)] H fun fr H => AM (id := 0) (by kernel_rfl) ?_
 obtain ⟨o1, ho, hm⟩ := bind_some hm
 refine Al (Q' := fun e fr' h' => (∃ (y2 : SY ⊕ RY), e = .exit 0 ∧ .inl y2 = o1 ∧ Has fr' 48 [] ∧ ∃ F, R y2 F ∧ HH g h' [.obj h.size (.cells none 2 [.map (some (Cz I p0))])] F) ∨ (∃ x3, ∃ (y3 : SY ⊕ RY), e = .ret ∧ .inr (x3, y3) = o1 ∧ Has fr' 48 [(6, .bool x3)] ∧ ∃ F, R y3 F ∧ HH g h' [.obj h.size (.cells none 2 [.map (some (Cz I p0))])] F) ∨ False) ?_ ?_
 ·refine CA (by kernel_rfl) (fun (s : Int × (SY ⊕ RY)) fr' h' => ∃ x2, ∃ (y1 : SY ⊕ RY), (x2, y1) = s ∧ Has fr' 48 [(0, .ptr (some (A8 I p0, 0))), (1, .str p1), (2, .Fw l), (15, AJ r1 ((Bb (x1.AP.map Prod.fst)).length)), (16, Ai ((Bb (x1.AP.map Prod.fst)).length : Int)), (17, Ai x2)] ∧ ∃ F, R y1 F ∧ HH g h' [.AL r1 9 (AL eS (Bb (x1.AP.map Prod.fst))), .obj h.size (.cells none 2 [.map (some (Cz I p0))])] F) ho ⟨(0 : Int), y, rfl, H.ls, ⟨F, B, A⟩⟩ ?_
  clear ho hm H A
  intro s q fr h3 hI hm
  obtain ⟨x2, y1, rfl, H, ⟨F, B, A⟩⟩ := hI
  unfold Af at hm
  refine AH 1 (AQ 1 [(18, .bool (decide (x2 < ((Bb (x1.AP.map Prod.fst)).length : Int))))] H fun fr H => AS (BK 18 H hm (fun hb hm H => ?_) fun hb hm H => ?_))
  ·refine C8 id (AS (AM (id := 1) (by kernel_rfl) ?_))
   refine AH 3 ?_
   obtain ⟨x4, hx, hm⟩ := bind_some hm
   obtain ⟨i1, er1, _, hx, hq2⟩ := HH.MV encS (by decide) A 0 (xs := (Bb (x1.AP.map Prod.fst))) rfl hx
   refine Az 19 (.ptr (some (i1, x2.toNat * 1))) h3 H (fun fr => .of (EG (s := DC r1 ((Bb (x1.AP.map Prod.fst)).length)) (by kernel_rfl) hx)) fun fr t H => ?_
   refine Az 20 _ _ H (fun fr => .of (Dk (by kernel_rfl) (DU encS (HH.row A 0 rfl er1) hq2 (o := 0) rfl))) fun fr t H => ?_
   refine DP 1 [(8, .str x4)] 4 H fun fr H => Ax 2 [(21, .str p1), (22, .str x4)] H fun fr H => ?_
   obtain ⟨hb, hm⟩ := Ag hm
   refine Az 23 (.str (p1 ++ x4)) h3 H (fun fr => .of (L7 (by kernel_rfl) hb)) fun fr t H => ?_
   refine DP 1 [(9, .str (p1 ++ x4))] 23 H fun fr H => ?_
   obtain ⟨x5, hq3, hm⟩ := bind_some hm
   refine BE 5 [(24, .Fw l), (25, .str (p1 ++ x4))] 29 _ _ H (fun fr => .of (Dk (by kernel_rfl) (Hn (N := BF) (I := I) (A.okF (hF _ _ B)) hq3 (o := 2) (v := .map (some (Cz I p0))) rfl))) fun fr t H => ?_
   rcases Gg hm with ⟨x6, hq4, hm⟩ | ⟨hq4, hm⟩
   ·refine BE 1 [] 31 (.ptr (some (A8 I x6, 0))) h3 H (fun fr => .of (Io (by kernel_rfl) (IA (N := BF) (I := I) (A.okF (hF _ _ B)) hq3 (kt := 9) (et := 52) (by kernel_rfl) (t := 56) (by kernel_rfl) (zv := .ptr none) (by kernel_rfl) (s := x4) (v := x6) hq4))) fun fr t H => ?_
    obtain ⟨⟨x7, y4⟩, hx, hm⟩ := bind_some hm
    obtain ⟨h4, F, hr, B, A⟩ := hYR.N1 (pr := []) .nil A B hx
    refine Az 32 (.bool x7) h4 H (fun fr => Steps.round (by kernel_rfl) hr) fun fr t H => ?_
    refine Ax 2 [(34, .bool (!x7))] H fun fr H => ?_
    obtain ⟨⟨x8, y5⟩, ho, hm⟩ := bind_some hm
    refine HJ 12 (fun fr' h' => Has fr' 48 [(0, .ptr (some (A8 I p0, 0))), (1, .str p1), (2, .Fw l), (15, AJ r1 ((Bb (x1.AP.map Prod.fst)).length)), (16, Ai ((Bb (x1.AP.map Prod.fst)).length : Int)), (17, Ai x2), (46, .bool x8)] ∧ ∃ F, R y5 F ∧ HH g h' [.AL r1 9 (AL eS (Bb (x1.AP.map Prod.fst))), .obj h.size (.cells none 2 [.map (some (Cz I p0))])] F) ?_ ?_
    ·rcases DL ho with ⟨hb, hm⟩ | ⟨hb, hm⟩
     ·replace H := H.kn 34 hb
      refine Ax 12 [(46, .bool true)] H fun fr H => ?_
      obtain ⟨rfl, rfl⟩ := OJ hm
      exact at_nil ⟨H.ls, ⟨F, B, A⟩⟩
     replace H := H.kn 34 hb
     obtain ⟨x9, hq5, hm⟩ := bind_some hm
     refine BE 3 [] 38 _ _ H (fun fr => .of (Dk (by kernel_rfl) (Hn (N := BF) (I := I) (A.okF (hF _ _ B)) hq5 (o := 2) (v := .map (some (Cz I p0))) rfl))) fun fr t H => ?_
     rcases Gg hm with ⟨x10, hq6, hm⟩ | ⟨hq6, hm⟩
     ·refine BE 1 [] 40 (.ptr (some (A8 I x10, 0))) h4 H (fun fr => .of (Io (by kernel_rfl) (IA (N := BF) (I := I) (A.okF (hF _ _ B)) hq5 (kt := 9) (et := 52) (by kernel_rfl) (t := 56) (by kernel_rfl) (zv := .ptr none) (by kernel_rfl) (s := x4) (v := x10) hq6))) fun fr t H => ?_
      refine Ax 1 [(41, .str (p1 ++ x4))] H fun fr H => ?_
      obtain ⟨hb, hm⟩ := Ag hm
      refine Az 42 (.str ((p1 ++ x4) ++ ([47] : List UInt8))) h4 H (fun fr => .of (L7 (by kernel_rfl) hb)) fun fr t H => ?_
      have A1 := A.cut 0
      obtain ⟨⟨x11, y6⟩, hx, hm⟩ := bind_some hm
      obtain ⟨hYR1, B1, hF1⟩ := HH.WK A 0 hYR B hF
      obtain ⟨v1, h6, hr, rfl, F1, B1, A1⟩ := hS.CK (av := [.ptr (some (A8 I x10, 0)), .str ((p1 ++ x4) ++ ([47] : List UInt8)), .Fw l]) hx (by kernel_rfl) hYR1 B1 hF1 A1
      obtain ⟨F, eF, B⟩ := B1
      subst eF
      replace A : HH g h6 [.AL r1 9 (AL eS (Bb (x1.AP.map Prod.fst))), .obj h.size (.cells none 2 [.map (some (Cz I p0))])] F := A.Uz (n := 0) A1 --T2
      refine CP 1 [] 44 hr H fun fr t H => ?_
      refine Ax 2 [(46, .bool (!x11))] H fun fr H => ?_
      obtain ⟨rfl, rfl⟩ := OJ hm
      exact at_nil ⟨H.ls, ⟨F, B, A⟩⟩
     refine BE 1 [] 40 (.ptr none) h4 H (fun fr => .of (Io (by kernel_rfl) (Hl (N := BF) (I := I) (A.okF (hF _ _ B)) hq5 (kt := 9) (et := 52) (by kernel_rfl) (t := 56) (by kernel_rfl) (zv := .ptr none) (by kernel_rfl) (s := x4) hq6))) fun fr t H => ?_
     refine Ax 1 [(41, .str (p1 ++ x4))] H fun fr H => ?_
     obtain ⟨hb, hm⟩ := Ag hm
     refine Az 42 (.str ((p1 ++ x4) ++ ([47] : List UInt8))) h4 H (fun fr => .of (L7 (by kernel_rfl) hb)) fun fr t H => ?_
     cases hm
    clear A
    intro t fr h5 hK
    obtain ⟨H, ⟨F, B, A⟩⟩ := hK
    refine Dg id (BK 46 H hm (fun hb hm H => ?_) fun hb hm H => ?_)
    ·refine AH 1 (AQ 1 [(6, .bool false)] H fun fr H => BV ?_)
     replace A := A.k1 1
     exact nr hm fun e => Or.inr (.inl ⟨false, y5, rfl, e, H.ls, ⟨F, B, A⟩⟩)
    refine Ik 2 id (Bk 2 [(0, .ptr (some (A8 I p0, 0))), (1, .str p1), (2, .Fw l), (15, AJ r1 ((Bb (x1.AP.map Prod.fst)).length)), (16, Ai ((Bb (x1.AP.map Prod.fst)).length : Int)), (17, Ai (IntKind.i64.wrap (x2 + 1)))] H fun fr H => at_nil ?_)
    exact nx hm ⟨IntKind.i64.wrap (x2 + 1), y5, rfl, H.ls, ⟨F, B, A⟩⟩
   refine BE 1 [] 31 (.ptr none) h3 H (fun fr => .of (Io (by kernel_rfl) (Hl (N := BF) (I := I) (A.okF (hF _ _ B)) hq3 (kt := 9) (et := 52) (by kernel_rfl) (t := 56) (by kernel_rfl) (zv := .ptr none) (by kernel_rfl) (s := x4) hq4))) fun fr t H => ?_
   cases hm
  refine B0 (i := 0) (by kernel_rfl) ?_
  replace A := A.k1 1
  exact nr hm fun e => .inl ⟨y1, rfl, e, H.ls, ⟨F, B, A⟩⟩
 clear ho
 clear A
 intro e fr h7 hQ
 rcases hQ with ⟨y2, rfl, rfl, H, ⟨F, B, A⟩⟩ | ⟨x3, y3, rfl, rfl, H, ⟨F, B, A⟩⟩ | hF
 ·show AW _ _ _ _ _ _ _
  refine AH 1 (AQ 1 [(6, .bool true)] H fun fr H => BV ?_)
  obtain ⟨rfl, rfl⟩ := OJ hm
  refine ⟨.inl rfl, .bool true, rH H, ?_⟩
  replace A := A.d0
  exact ⟨rfl, ⟨F, B, A⟩⟩
 ·obtain ⟨rfl, rfl⟩ := OJ hm
  refine ⟨.inl rfl, .bool x3, rH H, ?_⟩
  replace A := A.d0
  exact ⟨rfl, ⟨F, B, A⟩⟩
 exact hF.elim
def Ay : Nat → Bn
 | 0 => ⟨fun _ _ _ _ _ => none⟩
 | n + 1 => ⟨Bz (Ay n)⟩
theorem DX  : ∀ n, Dh (Ay n)
 | 0 => ⟨fun hm => (by cases hm)⟩
 | n + 1 => ⟨fun hm hc hYR B hF A => Fj (DX n) hm hc hYR B hF A⟩
def Ah : {SY RY : Type} → Nat → (List UInt8) → (SY → ((List UInt8) × Nat) → Option (SY ⊕ RY)) → (SY ⊕ RY) → (List AG) → Option (Bool × (SY ⊕ RY)) := (Ay KR).Ah
theorem CK {SY RY : Type} {R : SY ⊕ RY → List Ck → Prop} {I p0 p1} {Y : SY → ((List UInt8) × Nat) → Option (SY ⊕ RY)} {y : SY ⊕ RY} {ar l q0} {yq : SY ⊕ RY} (hm : Ah p0 p1 Y y ar = some (q0, yq)) (hc : B3 (cfg.still 34) av = [.ptr (some (A8 I p0, 0)), .str p1, .Fw l]) (hYR : YR cfg g l (fun x => [.str x.1, .ptr (some (A8 I x.2, 0))]) Y R) (B : R y F) (hF : ∀ y F, R y F → EH BF I ar ∈ F) (A : HH g h [] F) : ∃ v h', CC cfg g h 34 av v h' ∧ v = .bool q0 ∧ ∃ F, R yq F ∧ HH g h' [] F := (DX KR).CK hm hc hYR B hF A
def BG {SY RY : Type} (Y : SY → ((List UInt8) × Nat) → Option (SY ⊕ RY)) (y : SY ⊕ RY) (p1_0 : AV) (ar : List AG) : Option ((SY ⊕ RY)) :=
 (Ah p1_0.Au ([] : List UInt8) Y y ar).bind fun (x1, y1) => some y1
theorem DR {SY RY : Type} {R : SY ⊕ RY → List Ck → Prop} {I} {Y : SY → ((List UInt8) × Nat) → Option (SY ⊕ RY)} {y : SY ⊕ RY} {p1_0 ar l bp1 bp1_0} {yq : SY ⊕ RY} (hm : BG Y y p1_0 ar = some yq) (hc : B3 (cfg.still 38) av = [.Fw l, .ptr (some (bp1, 0))]) (hYR : YR cfg g l (fun x => [.str x.1, .ptr (some (A8 I x.2, 0))]) Y R) (B : R y F) (hF : ∀ y F, R y F → EH BF I ar ∈ F) (A : HH g h [.obj bp1 (.cells none 2 [.ptr (some (bp1_0, 0))]), .obj bp1_0 (.cells none 2 [.ptr (some (A8 I p1_0.Au, 0)), Ai p1_0.n_])] F) : ∃ v h', CC cfg g h 38 av v h' ∧ v = .tuple [] ∧ ∃ F, R yq F ∧ HH g h' [.obj bp1 (.cells none 2 [.ptr (some (bp1_0, 0))]), .obj bp1_0 (.cells none 2 [.ptr (some (A8 I p1_0.Au, 0)), Ai p1_0.n_])] F := by
 refine HO 9 [] hc ?_
 clear hc
 unfold BG at hm
 refine bg 9 [(0, .Fw l), (1, .ptr (some (bp1, 0)))] fun fr H => ?_
 refine CQ 6 (Fi 3 0 0 A H fun fr t H => ?_)
 refine DV 2 [] 6 1 0 A H fun fr t H => ?_
 have A1 := A.cut 0
 obtain ⟨⟨x1, y1⟩, hx, hm⟩ := bind_some hm
 obtain ⟨hYR1, B1, hF1⟩ := HH.WK A 0 hYR B hF
 obtain ⟨v1, h1, hr, rfl, F1, B1, A1⟩ := CK (av := [.ptr (some (A8 I p1_0.Au, 0)), .str ([] : List UInt8), .Fw l]) hx (by kernel_rfl) hYR1 B1 hF1 A1
 obtain ⟨F, eF, B⟩ := B1
 subst eF
 replace A : HH g h1 [_, _] F := A.Uz (n := 0) A1 --T2
 refine Vd 1 [] hr H fun fr t H => ?_
 refine at_nil ?_
 obtain rfl := Aq hm
 refine ⟨.inr rfl, .tuple [], rH H, ?_⟩
 exact ⟨rfl, ⟨F, B, A⟩⟩
def Aj (ar : List AG) (s : (List (List UInt8))) (v1 : (List UInt8) × Nat) : Option (((List (List UInt8))) ⊕ (Unit)) :=
 match s with
 | x2 => (ar[v1.2]?).bind fun x3 => BM (x3.at_ == (-1)) (Dm (QY 16 (x2.length + ([v1.1] : List (List UInt8)).length)) <| some (.inl (x2 ++ ([v1.1] : List (List UInt8))))) (some (.inl x2))
def Bh (p0 : AV) (ar : List AG) : Option ((List (List UInt8))) :=
 (By p0 ar).bind fun _ => (BG (Aj ar) (.inl ([] : List (List UInt8))) p0 ar).bind fun y1 => (match y1 with | .inl x2 => some x2 | .inr _ => none)
theorem D9 {I p0 ar bp0 q0} (hm : Bh p0 ar = some q0) (hc : B3 (cfg.still 16) av = [.ptr (some (bp0, 0))]) (hF : EH BF I ar ∈ F) (A : HH g h [.obj bp0 (.cells none 2 [.ptr (some (A8 I p0.Au, 0)), Ai p0.n_])] F) : ∃ v h', CC cfg g h 16 av v h' ∧ ∃ (rq0 : Option Nat), v = AJ rq0 q0.length ∧ HH g h' [.AL rq0 9 (AL eS q0), .obj bp0 (.cells none 2 [.ptr (some (A8 I p0.Au, 0)), Ai p0.n_])] F := by
 refine HO 20 [.tmp 2] hc ?_
 clear hc
 unfold Bh at hm
 refine bg 20 [(0, .ptr (some (bp0, 0)))] fun fr H => ?_
 refine AH 1 (DP 1 [] 1 H fun fr H => ?_)
 obtain ⟨h1, e1, A⟩ := A.pu (.cells none 2 [.slice none 0])
 refine Cw 3 (.ptr (some (h.size, 0))) e1 H fun fr t H => ?_
 refine Dg id (AS (AH 2 ?_))
 replace A : HH g h1 [_, .obj h.size (.cells none 2 [.slice none 0])] F := (A.front 1 rfl)
 have A1 := A.cut 1
 obtain ⟨⟨⟩, hx, hm⟩ := bind_some hm
 obtain ⟨v1, h2, hr, bqw1_10, rfl, A1⟩ := Ef (av := [.ptr (some (bp0, 0))]) hx (by kernel_rfl) (List.mem_append_right _ hF) A1
 replace A := A.g12 A1
 refine CP 1 [] 7 hr H fun fr t H => ?_
 refine Dg id (AM (id := 0) (by kernel_rfl) ?_)
 replace A : HH g h2 [.AL none 9 (AL eS ([] : List (List UInt8))), _, _, _] F := A.PX 9
 replace A : HH g h2 [_, _, _, .obj h.size (.cells none 2 [AJ none (([] : List (List UInt8)).length)])] F := ((((A.front 3 rfl).front 1 rfl).front 3 rfl).front 3 rfl)
 obtain ⟨y1, ho, hm⟩ := bind_some hm
 refine KI (C := cfg) (x := .tmp 7) (ps := [8, 9]) (f' := 38) (first := []) (cap := [.ptr (some (bqw1_10, 0))]) (Lu := [.obj bqw1_10 (.cells none 2 [.ptr (some (bp0, 0))]), .obj bp0 (.cells none 2 [.ptr (some (A8 I p0.Au, 0)), Ai p0.n_])]) (Lc := [.AL none 9 (AL eS ([] : List (List UInt8))), .obj h.size (.cells none 2 [AJ none (([] : List (List UInt8)).length)])]) (F := F) (ex := fun x => [.str x.1, .ptr (some (A8 I x.2, 0))]) (Y := Aj ar) (PL := fun s Lc => ∃ (x2 : List (List UInt8)), x2 = s ∧ ∃ (r1 : Option Nat), Lc = [.AL r1 9 (AL eS x2), .obj h.size (.cells none 2 [AJ r1 x2.length])]) (PR := fun r Lc => False) (pe := fun _ => .ret) (s := ([] : List (List UInt8))) (y := y1) (PU := fun L => L = [.obj bqw1_10 (.cells none 2 [.ptr (some (bp0, 0))]), .obj bp0 (.cells none 2 [.ptr (some (A8 I p0.Au, 0)), Ai p0.n_])]) (St := (XU (EH BF I ar))) (Q0 := (fun (_ : Unit) F' => F' = F)) (tl := fun _ => ()) (tr := fun _ => ()) (by kernel_rfl) H (fun fr => by kernel_rfl) (by kernel_rfl) (fun _ => rfl) (by kernel_rfl) A ⟨([] : List (List UInt8)), rfl, none, rfl⟩ (SR _) (fun _ F8 e => by rw [show F8 = F from e]; exact hF) rfl ?_ ?_ ?_ ?_ ?_
 ·refine Hh H (kn := fun v1 => [(3, .ptr (some (h.size, 0))), (8, .str v1.1), (9, .ptr (some (A8 I v1.2, 0)))]) (fun v1 fr => by kernel_rfl) ?_
  clear ho hm A H
  intro g h3 F s v1 o Lc fr H hP hm A
  obtain ⟨x2, rfl, r1, rfl⟩ := hP
  unfold Aj at hm
  show AW _ _ _ _ _ _ _
  refine AH 1 (Bk 1 [(3, .ptr (some (h.size, 0))), (4, .str v1.1), (9, .ptr (some (A8 I v1.2, 0)))] H fun fr H => IG 1 id (Ax 1 [(5, .ptr (some (A8 I v1.2, 0)))] H fun fr H => at_nil ?_))
  refine ⟨rfl, _, A, ?_⟩
  clear A
  intro h4 F R hS hR A
  have hF := hS _ _ hR
  show AW _ _ _ _ _ _ _
  refine AM (id := 1) (by kernel_rfl) ?_
  refine AH 5 ?_
  obtain ⟨x3, hq1, hm⟩ := bind_some hm
  refine BE 3 [] 13 _ _ H (fun fr => .of (Dk (by kernel_rfl) (Hn (N := BF) (I := I) (A.okF hF) hq1 (o := 0) (v := Ai x3.at_) rfl))) fun fr t H => ?_
  refine AQ 1 [(14, .bool (x3.at_ == (-1)))] H fun fr H => BK 14 H hm (fun hb hm H => ?_) fun hb hm H => ?_
  ·refine CQ 5 (Fi 15 1 0 A H fun fr t H => ?_)
   refine Ax 1 [(16, .str v1.1)] H fun fr H => ?_
   obtain ⟨h5, e2, A⟩ := A.pL 9 [.str v1.1]
   refine Cw 17 (AJ (some h4.size) (([v1.1] : List (List UInt8)).length)) e2 H fun fr t H => ?_
   obtain ⟨hb, hm⟩ := Ag hm
   obtain ⟨r2, h6, hx, A1⟩ := HH.NF encS (by decide) A 1 (xs := x2) (ys := ([v1.1] : List (List UInt8))) rfl (Dd A 0 rfl (n := ([v1.1] : List (List UInt8)).length) (z := 1) rfl (by decide)) rfl rfl hb
   replace A : HH g h6 [.AL (some h4.size) 9 ([.str v1.1]), .AL r2 9 (AL eS (x2 ++ ([v1.1] : List (List UInt8)))), .obj h.size (.cells none 2 [AJ r1 x2.length])] F := A1
   replace A := A.k2 1 2
   refine Az 18 _ _ H (fun fr => .of (Jo (s := DC r1 x2.length) (by kernel_rfl) hx)) fun fr t H => ?_
   obtain ⟨h7, hx, A1⟩ := A.st 1 rfl (o := 0) (new := [AJ r2 ((x2 ++ ([v1.1] : List (List UInt8))).length)]) (ds := [AJ r2 ((x2 ++ ([v1.1] : List (List UInt8))).length)]) (Nat.le_of_ble_eq_true rfl) rfl rfl
   replace A : HH g h7 [_, .obj h.size (.cells none 2 [AJ r2 ((x2 ++ ([v1.1] : List (List UInt8))).length)])] F := A1
   refine IJ hx H fun fr t H => ?_
   refine at_nil ?_
   have e1 := Option.some.inj hm
   subst e1
   exact ⟨rfl, _, _, ⟨(x2 ++ ([v1.1] : List (List UInt8))), rfl, r2, rfl⟩, hR, A⟩
  refine Ea ?_
  have e1 := Option.some.inj hm
  subst e1
  exact ⟨rfl, _, _, ⟨x2, rfl, r1, rfl⟩, hR, A⟩
 ·intro h1 l1 F1 R1 hYR1 hck B1 A1
  obtain ⟨v1, h2, hr, _, F2, B2, A2⟩ := DR (av := [.Fw l1, .ptr (some (bqw1_10, 0))]) ho (by kernel_rfl) hYR1 B1 (hck _ (fun _ F8 e => by rw [show F8 = F from e]; exact hF)) A1
  exact ⟨v1, h2, F2, _, hr, B2, rfl, A2⟩
 ·clear ho A
  intro s2 h8 Lc Lu F9 ey hP hQ hU A
  subst ey
  obtain ⟨x2, rfl, r1, rfl⟩ := hP
  subst hU
  rw [show F9 = F from hQ] at A
  replace A : HH g h8 [.obj bqw1_10 (.cells none 2 [.ptr (some (bp0, 0))]), .obj bp0 (.cells none 2 [.ptr (some (A8 I p0.Au, 0)), Ai p0.n_]), .AL r1 9 (AL eS x2), .obj h.size (.cells none 2 [AJ r1 x2.length])] F := A
  show AW _ _ _ _ _ _ _
  refine AH 2 (NV (v := AJ r1 x2.length) (h1 := h8) [(19, AJ r1 x2.length)] H (fun fr => by kernel_rfl) (fun fr => .of (Dk (by kernel_rfl) (A.l1 3 0))) ?_)
  intro fr t H
  refine AQ 1 [(2, AJ r1 x2.length)] H fun fr H => BV ?_
  obtain rfl := Aq hm
  refine ⟨.inl rfl, AJ r1 x2.length, rH H, ?_⟩
  replace A := A.k2 2 1
  exact ⟨r1, rfl, A⟩
 ·clear ho A
  intro r2 h8 Lc Lu F9 e ey he hP hQ hU A
  subst ey
  subst hU
  rw [show F9 = F from hQ] at A
  exact False.elim hP
 exact fun _ => ⟨.ret, rfl⟩
def CV : Option (Bool) :=
 (Eb ([(⟨([97, 47, 98] : List UInt8), ([] : List UInt8), (0 : Int), (0 : Int), (0 : Int), (0 : Int), ([] : List UInt8), ([] : List UInt8), (0 : Int), (0 : Int), (⟨(0 : Int), (0 : Int)⟩ : BH), ([] : List BN), ([] : List UInt8)⟩ : AO), (⟨([99] : List UInt8), ([] : List UInt8), (0 : Int), (0 : Int), (0 : Int), (0 : Int), ([] : List UInt8), ([] : List UInt8), (0 : Int), (0 : Int), (⟨(0 : Int), (0 : Int)⟩ : BH), ([] : List BN), ([] : List UInt8)⟩ : AO)] : List AO)).bind fun (x1w1, ar) => (Cm x1w1 ar).bind fun x2 => (BM (x2 == 3) ((Bh x1w1 ar).bind fun x4 => (B6 x4 ([([97] : List UInt8)] : List (List UInt8))).bind fun x5 => some x5) (some false) : Option (Bool)).bind fun x3 => some x3
theorem Ej {q0} (hm : CV = some q0) (A : HH g h [] F) (hc : B3 (cfg.still 7) av = [] := by kernel_rfl) : ∃ v h', CC cfg g h 7 av v h' ∧ v = .bool q0 ∧ HH g h' [] F := by
 refine HO 19 [.tmp 0] hc ?_
 clear hc
 unfold CV at hm
 refine bg 19 [] fun fr H => ?_
 have hback : ∀ {h' : AB} {L : List Ck}, HH g h' L F → HH g h' L F := fun a => a
 refine AH 1 (DP 1 [] 5 H fun fr H => Ax 2 [(2, .agg [.str ([97, 47, 98] : List UInt8), .str ([] : List UInt8), Ab 0, Ai 0, Ai 0, Ai 0, .str ([] : List UInt8), .str ([] : List UInt8), Ai 0, Ai 0, Ai 0, Ai 0, .slice none 0, .str ([] : List UInt8)]), (3, .agg [.str ([99] : List UInt8), .str ([] : List UInt8), Ab 0, Ai 0, Ai 0, Ai 0, .str ([] : List UInt8), .str ([] : List UInt8), Ai 0, Ai 0, Ai 0, Ai 0, .slice none 0, .str ([] : List UInt8)])] H fun fr H => ?_)
 obtain ⟨h1, e1, A⟩ := A.pL 51 [.str ([97, 47, 98] : List UInt8), .str ([] : List UInt8), Ab 0, Ai 0, Ai 0, Ai 0, .str ([] : List UInt8), .str ([] : List UInt8), Ai 0, Ai 0, Ai 0, Ai 0, vs EV ([] : List BN), .str ([] : List UInt8), .str ([99] : List UInt8), .str ([] : List UInt8), Ab 0, Ai 0, Ai 0, Ai 0, .str ([] : List UInt8), .str ([] : List UInt8), Ai 0, Ai 0, Ai 0, Ai 0, vs EV ([] : List BN), .str ([] : List UInt8)]
 refine Cw 4 (AJ (some h.size) (([(⟨([97, 47, 98] : List UInt8), ([] : List UInt8), (0 : Int), (0 : Int), (0 : Int), (0 : Int), ([] : List UInt8), ([] : List UInt8), (0 : Int), (0 : Int), (⟨(0 : Int), (0 : Int)⟩ : BH), ([] : List BN), ([] : List UInt8)⟩ : AO), (⟨([99] : List UInt8), ([] : List UInt8), (0 : Int), (0 : Int), (0 : Int), (0 : Int), ([] : List UInt8), ([] : List UInt8), (0 : Int), (0 : Int), (⟨(0 : Int), (0 : Int)⟩ : BH), ([] : List BN), ([] : List UInt8)⟩ : AO)] : List AO).length)) e1 H fun fr t H => ?_
 replace A : HH g h1 [.AL (some h.size) 51 (AL AE ([(⟨([97, 47, 98] : List UInt8), ([] : List UInt8), (0 : Int), (0 : Int), (0 : Int), (0 : Int), ([] : List UInt8), ([] : List UInt8), (0 : Int), (0 : Int), (⟨(0 : Int), (0 : Int)⟩ : BH), ([] : List BN), ([] : List UInt8)⟩ : AO), (⟨([99] : List UInt8), ([] : List UInt8), (0 : Int), (0 : Int), (0 : Int), (0 : Int), ([] : List UInt8), ([] : List UInt8), (0 : Int), (0 : Int), (⟨(0 : Int), (0 : Int)⟩ : BH), ([] : List BN), ([] : List UInt8)⟩ : AO)] : List AO))] F := A
 obtain ⟨⟨x1w1, ar⟩, hx, hm⟩ := bind_some hm
 obtain ⟨v1, h2, hr, bx1w1, I, rfl, A1⟩ := JG (av := [AJ (some h.size) (([(⟨([97, 47, 98] : List UInt8), ([] : List UInt8), (0 : Int), (0 : Int), (0 : Int), (0 : Int), ([] : List UInt8), ([] : List UInt8), (0 : Int), (0 : Int), (⟨(0 : Int), (0 : Int)⟩ : BH), ([] : List BN), ([] : List UInt8)⟩ : AO), (⟨([99] : List UInt8), ([] : List UInt8), (0 : Int), (0 : Int), (0 : Int), (0 : Int), ([] : List UInt8), ([] : List UInt8), (0 : Int), (0 : Int), (⟨(0 : Int), (0 : Int)⟩ : BH), ([] : List BN), ([] : List UInt8)⟩ : AO)] : List AO).length)]) hx (A.cut 1)
 replace A : HH g h2 [.obj bx1w1 (.cells none 2 [.ptr (some (A8 I x1w1.Au, 0)), Ai x1w1.n_]), EH BF I ar, .AL (some h.size) 51 (AL AE ([(⟨([97, 47, 98] : List UInt8), ([] : List UInt8), (0 : Int), (0 : Int), (0 : Int), (0 : Int), ([] : List UInt8), ([] : List UInt8), (0 : Int), (0 : Int), (⟨(0 : Int), (0 : Int)⟩ : BH), ([] : List BN), ([] : List UInt8)⟩ : AO), (⟨([99] : List UInt8), ([] : List UInt8), (0 : Int), (0 : Int), (0 : Int), (0 : Int), ([] : List UInt8), ([] : List UInt8), (0 : Int), (0 : Int), (⟨(0 : Int), (0 : Int)⟩ : BH), ([] : List BN), ([] : List UInt8)⟩ : AO)] : List AO))] F := A.HI (n := 1) A1
 obtain ⟨F, A, hF, hback⟩ := A.Xw 1 hback rfl
 replace A : HH g h2 [.obj bx1w1 (.cells none 2 [.ptr (some (A8 I x1w1.Au, 0)), Ai x1w1.n_]), .AL (some h.size) 51 (AL AE ([(⟨([97, 47, 98] : List UInt8), ([] : List UInt8), (0 : Int), (0 : Int), (0 : Int), (0 : Int), ([] : List UInt8), ([] : List UInt8), (0 : Int), (0 : Int), (⟨(0 : Int), (0 : Int)⟩ : BH), ([] : List BN), ([] : List UInt8)⟩ : AO), (⟨([99] : List UInt8), ([] : List UInt8), (0 : Int), (0 : Int), (0 : Int), (0 : Int), ([] : List UInt8), ([] : List UInt8), (0 : Int), (0 : Int), (⟨(0 : Int), (0 : Int)⟩ : BH), ([] : List BN), ([] : List UInt8)⟩ : AO)] : List AO))] F := A
 refine Cc 5 hr H fun fr t H => ?_
 refine DP 1 [(1, .ptr (some (bx1w1, 0)))] 14 H fun fr H => ?_
 have A1 := A.cut 1
 obtain ⟨x2, hx, hm⟩ := bind_some hm
 obtain ⟨v1, h3, hr, rfl, A1⟩ := Ew (av := [.ptr (some (bx1w1, 0))]) hx (by kernel_rfl) (List.mem_append_right _ hF) A1
 replace A := A.g11 A1
 refine CP 4 [(8, .bool true)] 10 hr H fun fr t H => ?_
 refine Ax 3 [(13, .bool (x2 == 3))] H fun fr H => ?_
 obtain ⟨x3, ho, hm⟩ := bind_some hm
 refine HJ 5 (fun fr' h' => Has fr' 19 [(18, .bool x3)] ∧ HH g h' [.obj bx1w1 (.cells none 2 [.ptr (some (A8 I x1w1.Au, 0)), Ai x1w1.n_])] F) ?_ ?_
 ·rcases DL ho with ⟨hb, hm⟩ | ⟨hb, hm⟩
  ·replace H := H.kn 13 hb
   have A1 := A.cut 1
   obtain ⟨x4, hx, hm⟩ := bind_some hm
   obtain ⟨v1, h5, hr, rqw3, rfl, A1⟩ := D9 (av := [.ptr (some (bx1w1, 0))]) hx (by kernel_rfl) (List.mem_append_right _ hF) A1
   replace A := A.g12 A1
   refine CP 1 [] 15 hr H fun fr t H => ?_
   obtain ⟨h6, e2, A⟩ := A.pL 9 [.str ([97] : List UInt8)]
   refine Cw 16 (AJ (some h5.size) (([([97] : List UInt8)] : List (List UInt8)).length)) e2 H fun fr t H => ?_
   replace A : HH g h6 [.AL (some h5.size) 9 (AL eS ([([97] : List UInt8)] : List (List UInt8))), _, _, _] F := A
   replace A := A.k4 1 0 2 3
   obtain ⟨x5, hx, hm⟩ := bind_some hm
   obtain ⟨v1, h7, hr, rfl, A1⟩ := D4 (av := [AJ rqw3 x4.length, AJ (some h5.size) (([([97] : List UInt8)] : List (List UInt8)).length)]) hx (A.cut 2)
   replace A := A.g22 A1
   refine Cc 17 hr H fun fr t H => ?_
   refine Ax 1 [(18, .bool x5)] H fun fr H => ?_
   obtain rfl := Aq hm
   replace A := A.k1 2
   exact at_nil ⟨H.ls, A⟩
  replace H := H.kn 13 hb
  refine Ax 5 [(18, .bool false)] H fun fr H => ?_
  obtain rfl := Aq hm
  replace A := A.d1
  exact at_nil ⟨H.ls, A⟩
 clear A
 intro t fr h4 hK
 obtain ⟨H, A⟩ := hK
 refine AQ 1 [(0, .bool x3)] H fun fr H => BV ?_
 obtain rfl := Aq hm
 refine ⟨.inl rfl, .bool x3, rH H, ?_⟩
 replace A := A.d0
 exact ⟨rfl, (hback A)⟩
def DG (x10 : List (List UInt8)) (s : Int × (List AG) × Nat × Int) : Option ((Int × (List AG) × Nat × Int) ⊕ ((Int × (List AG) × Nat))) :=
 match s with
 | (x11, x12, x13, x14) => BM (decide (x14 < (x10.length : Int))) ((Fv x10 x14).bind fun x18 => (x12[x13]?).bind fun x19 => Ks (CY x19.AP x18) (fun x20 => (some x20 : Option ((Nat))).bind fun x21 => some (.inl (x11, x12, x21, IntKind.i64.wrap (x14 + 1)))) (((CW).bind fun x25w3 => Dm (x25w3.AP.isEmpty) <| Dm (decide (x13 < x12.length)) <| Dm (decide ((0 : Nat) < x12.length)) <| ((x12 ++ [x25w3])[x13]?).bind fun x26 => Dm (decide (x12.length < (x12 ++ [x25w3]).length)) <| some (IntKind.i64.wrap (x11 + 1), ((x12 ++ [x25w3]).set x13 (⟨x26.at_, x26.Dp, D7 x26.AP x18 x12.length⟩ : AG)), x12.length) : Option ((Int × (List AG) × Nat))).bind fun (x22, x23, x24) => some (.inl (x22, x23, x24, IntKind.i64.wrap (x14 + 1))))) (some (.inr (x11, x12, x13)))
def Dj (p0 : List AO) (s : Int × (List AG) × Int) : Option ((Int × (List AG) × Int) ⊕ ((Int × (List AG)))) :=
 match s with
 | (x2, x3, x4) => BM (decide (x4 < (p0.length : Int))) (((Fv p0 x4).bind fun x9 => (C0 x9.Name).bind fun x10 => (loop (DG x10) (x2, x3, (0 : Nat), (0 : Int))).bind fun (x15, x16, x17) => (x16[x17]?).bind fun x27 => (x16[(0 : Nat)]?).bind fun x28 => BM (!Nat.beq x17 (0 : Nat)) ((x16[x17]?).bind fun x29 => ((x16.set x17 (⟨x4, x29.Dp, x29.AP⟩ : AG))[x17]?).bind fun x30 => some (x15, ((x16.set x17 (⟨x4, x29.Dp, x29.AP⟩ : AG)).set x17 (⟨x30.at_, (x9.Data.length : Int), x30.AP⟩ : AG)))) (some (x15, x16)) : Option ((Int × (List AG)))).bind fun (x7, x8) => some (.inl (x7, x8, IntKind.i64.wrap (x4 + 1)))) (some (.inr (x2, x3)))
def Ds (p0 : List AO) : Option (AV × (List AG)) :=
 (CW).bind fun x1w1 => Dm (x1w1.AP.isEmpty) <| (loop (Dj p0) ((0 : Int), [x1w1], (0 : Int))).bind fun (x5, x6) => some ((⟨(0 : Nat), x5⟩ : AV), x6)
theorem Kp {p0 q00 arq} (hm : Ds p0 = some (q00, arq)) (A : HH g h [] F) (hc : B3 (cfg.still 8) av = [vs AE p0] := by kernel_rfl) : ∃ v h', CC cfg g h 8 av v h' ∧ ∃ (bq00 : Nat) (Iq : HR), v = .ptr (some (bq00, 0)) ∧ HH g h' [.obj bq00 (.cells none 2 [.ptr (some (A8 Iq q00.Au, 0)), Ai q00.n_]), EH BF Iq arq] F := by
 refine HO 74 [.tmp 2] hc ?_
 clear hc
 unfold Ds at hm
 refine bg 74 [(0, vs AE p0)] fun fr H => ?_
 refine AH 1 (DP 1 [] 4 H fun fr H => ?_)
 obtain ⟨x1w1, hx, hm⟩ := bind_some hm
 obtain ⟨v1, h1, hr, bx1w1, bx1w1_2, rfl, A1⟩ := EB (I := ([] : HR)) (av := []) hx (A.cut 0)
 replace A := A.Wh A1
 refine Cc 10 hr H fun fr t H => ?_
 obtain ⟨hb, hm⟩ := Ag hm
 replace A : HH g h1 [EH BF [(bx1w1, bx1w1_2)] [x1w1]] F := HH.Uh (N := BF) (I := ([] : HR)) (id := bx1w1) (mid := bx1w1_2) (x := x1w1) A (List.isEmpty_iff.1 hb)
 obtain ⟨h2, e1, A⟩ := A.pu (.cells none 2 [.ptr (some (A8 [(bx1w1, bx1w1_2)] (0 : Nat), 0)), Ai 0])
 refine TD 1 [] 12 (.ptr (some (h1.size, 0))) e1 H fun fr t H => ?_
 refine AQ 1 [(3, .ptr (some (h1.size, 0)))] H fun fr H => AS (AH 3 (AQ 3 [(13, vs AE p0), (14, Ai (p0.length : Int)), (15, Ai 0)] H fun fr H => AM (id := 0) (by kernel_rfl) ?_))
 obtain ⟨o1, ho, hm⟩ := bind_some hm
 refine Al (Q' := fun e fr' h' => (∃ x5 x6, e = .exit 0 ∧ (x5, x6) = o1 ∧ ∃ (I2 : HR), Has fr' 74 [(3, .ptr (some (h1.size, 0)))] ∧ HH g h' [.obj h1.size (.cells none 2 [.ptr (some (A8 I2 (0 : Nat), 0)), Ai x5]), EH BF I2 x6] F) ∨ False) ?_ ?_
 ·refine CA (by kernel_rfl) (fun (s : Int × (List AG) × Int) fr' h' => ∃ x2 x3 x4, (x2, x3, x4) = s ∧ ∃ (I1 : HR), Has fr' 74 [(3, .ptr (some (h1.size, 0))), (13, vs AE p0), (14, Ai (p0.length : Int)), (15, Ai x4)] ∧ HH g h' [.obj h1.size (.cells none 2 [.ptr (some (A8 I1 (0 : Nat), 0)), Ai x2]), EH BF I1 x3] F) ho ⟨_, _, _, rfl, [(bx1w1, bx1w1_2)], H.ls, A⟩ ?_
  clear ho hm H A
  intro s q fr h3 hI hm
  obtain ⟨x2, x3, x4, rfl, I1, H, A⟩ := hI
  unfold Dj at hm
  refine AH 1 (AQ 1 [(16, .bool (decide (x4 < (p0.length : Int))))] H fun fr H => AS (BK 16 H hm (fun hb hm H => ?_) fun hb hm H => ?_))
  ·refine C8 id (AS ?_)
   obtain ⟨o2, ho, hm⟩ := bind_some hm
   refine Al (Q' := fun e fr' h' => (∃ x7 x8, e = .normal ∧ (x7, x8) = o2 ∧ ∃ (I3 : HR), Has fr' 74 [(3, .ptr (some (h1.size, 0))), (13, vs AE p0), (14, Ai (p0.length : Int)), (15, Ai x4)] ∧ HH g h' [.obj h1.size (.cells none 2 [.ptr (some (A8 I3 (0 : Nat), 0)), Ai x7]), EH BF I3 x8] F) ∨ False) ?_ ?_
   ·replace hm := ho
    clear ho
    refine AM (id := 1) (by kernel_rfl) ?_
    refine AH 6 ?_
    obtain ⟨x9, hx, hm⟩ := bind_some hm
    refine BE 1 [(17, Ai x4)] 18 (.DF (AE x9)) h3 H (fun fr => .of (Hi (e := AE) (x := x9) Cy (by decide) (by kernel_rfl) hx)) fun fr t H => ?_
    refine Az 19 (.agg (AE x9)) h3 H (fun fr => .of (Lg (by kernel_rfl))) fun fr t H => ?_
    obtain ⟨h4, e2, A⟩ := A.pu (.cells none 2 XC)
    refine Cw 5 (.ptr (some (h3.size, 0))) e2 H fun fr t H => ?_
    obtain ⟨h5, hx, A⟩ := A.s0 0 (AE x9) [_, _, _, _, _, _, _, _, _, _, _, _, _, _]
    refine Ue 1 [(4, Ai x4)] hx H fun fr t H => ?_
    refine F5 5 id (DV 3 [] 23 1 0 A H fun fr t H => ?_)
    refine AQ 1 [(6, .ptr (some (A8 I1 (0 : Nat), 0)))] H fun fr H => AS (AH 5 (DV 1 [] 25 0 0 A H fun fr t H => ?_))
    obtain ⟨x10, hx, hm⟩ := bind_some hm
    obtain ⟨v1, h6, hr, rqw2, rfl, A1⟩ := FF (av := [.str x9.Name]) hx (A.cut 0)
    replace A := A.V3 A1
    refine Cc 26 hr H fun fr t H => ?_
    refine AQ 2 [(27, Ai (x10.length : Int)), (28, Ai 0)] H fun fr H => AM (id := 2) (by kernel_rfl) ?_
    obtain ⟨o3, ho, hm⟩ := bind_some hm
    refine Al (Q' := fun e fr' h' => (∃ x15 x16 x17, e = .exit 2 ∧ (x15, x16, x17) = o3 ∧ ∃ (I5 : HR), Has fr' 74 [(3, .ptr (some (h1.size, 0))), (4, Ai x4), (5, .ptr (some (h3.size, 0))), (6, .ptr (some (A8 I5 x17, 0))), (13, vs AE p0), (14, Ai (p0.length : Int)), (15, Ai x4)] ∧ HH g h' [.obj h3.size (.cells none 2 (AE x9)), .obj h1.size (.cells none 2 [.ptr (some (A8 I5 (0 : Nat), 0)), Ai x15]), EH BF I5 x16] F) ∨ False) ?_ ?_
    ·refine CA (by kernel_rfl) (fun (s : Int × (List AG) × Nat × Int) fr' h' => ∃ x11 x12 x13 x14, (x11, x12, x13, x14) = s ∧ ∃ (I4 : HR), Has fr' 74 [(3, .ptr (some (h1.size, 0))), (4, Ai x4), (5, .ptr (some (h3.size, 0))), (6, .ptr (some (A8 I4 x13, 0))), (13, vs AE p0), (14, Ai (p0.length : Int)), (15, Ai x4), (26, AJ rqw2 x10.length), (27, Ai (x10.length : Int)), (28, Ai x14)] ∧ HH g h' [.AL rqw2 9 (AL eS x10), .obj h3.size (.cells none 2 (AE x9)), .obj h1.size (.cells none 2 [.ptr (some (A8 I4 (0 : Nat), 0)), Ai x11]), EH BF I4 x12] F) ho ⟨_, _, _, _, rfl, I1, H.ls, A⟩ ?_
     clear ho hm H A
     intro s q fr h7 hI hm
     obtain ⟨x11, x12, x13, x14, rfl, I4, H, A⟩ := hI
     unfold DG at hm
     refine AH 1 (AQ 1 [(29, .bool (decide (x14 < (x10.length : Int))))] H fun fr H => AS (BK 29 H hm (fun hb hm H => ?_) fun hb hm H => ?_))
     ·refine C8 id (AS (AM (id := 3) (by kernel_rfl) ?_))
      refine AH 3 ?_
      obtain ⟨x18, hx, hm⟩ := bind_some hm
      obtain ⟨i1, er1, _, hx, hq1⟩ := HH.MV encS (by decide) A 0 (xs := x10) rfl hx
      refine Az 30 (.ptr (some (i1, x14.toNat * 1))) h7 H (fun fr => .of (EG (s := DC rqw2 x10.length) (by kernel_rfl) hx)) fun fr t H => ?_
      refine Az 31 _ _ H (fun fr => .of (Dk (by kernel_rfl) (DU encS (HH.row A 0 rfl er1) hq1 (o := 0) rfl))) fun fr t H => ?_
      refine DP 1 [(8, .str x18)] 7 H fun fr H => ?_
      obtain ⟨x19, hq2, hm⟩ := bind_some hm
      refine BE 3 [] 35 _ _ H (fun fr => .of (Dk (by kernel_rfl) (Hn (N := BF) (I := I4) (A.mem (k := 3) rfl) hq2 (o := 2) (v := .map (some (Cz I4 x13))) rfl))) fun fr t H => ?_
      rcases Gg hm with ⟨x20, hq3, hm⟩ | ⟨hq3, hm⟩
      ·refine BE 1 [] 37 (.ptr (some (A8 I4 x20, 0))) h7 H (fun fr => .of (Io (by kernel_rfl) (IA (N := BF) (I := I4) (A.mem (k := 3) rfl) hq2 (kt := 9) (et := 52) (by kernel_rfl) (t := 56) (by kernel_rfl) (zv := .ptr none) (by kernel_rfl) (s := x18) (v := x20) hq3))) fun fr t H => ?_
       refine AQ 1 [(9, .ptr (some (A8 I4 x20, 0)))] H fun fr H => AS ?_
       obtain ⟨o4, ho, hm⟩ := bind_some hm
       refine Al (Q' := fun e fr' h' => (∃ x21, e = .normal ∧ x21 = o4 ∧ Has fr' 74 [(3, .ptr (some (h1.size, 0))), (4, Ai x4), (5, .ptr (some (h3.size, 0))), (9, .ptr (some (A8 I4 x21, 0))), (13, vs AE p0), (14, Ai (p0.length : Int)), (15, Ai x4), (26, AJ rqw2 x10.length), (27, Ai (x10.length : Int)), (28, Ai x14)] ∧ HH g h' [.AL rqw2 9 (AL eS x10), .obj h3.size (.cells none 2 (AE x9)), .obj h1.size (.cells none 2 [.ptr (some (A8 I4 (0 : Nat), 0)), Ai x11]), EH BF I4 x12] F) ∨ False) ?_ ?_
       ·replace hm := ho
        clear ho
        refine AH 2 (AQ 2 [(39, .bool false)] H fun fr H => Ga (x := .tmp 39) (by kernel_rfl) H (fun fr => by kernel_rfl) ?_)
        exact Ea (.inl ⟨_, rfl, Aq hm, H.ls, A⟩)
       clear ho
       clear A
       intro e fr h8 hQ
       rcases hQ with ⟨x21, rfl, rfl, H, A⟩ | hF
       ·show AW _ _ _ _ _ _ _
        refine CQ 2 (TA 2 [(6, .ptr (some (A8 I4 x21, 0)))] 2 H fun fr H => Bk 2 [(3, .ptr (some (h1.size, 0))), (4, Ai x4), (5, .ptr (some (h3.size, 0))), (6, .ptr (some (A8 I4 x21, 0))), (13, vs AE p0), (14, Ai (p0.length : Int)), (15, Ai x4), (26, AJ rqw2 x10.length), (27, Ai (x10.length : Int)), (28, Ai (IntKind.i64.wrap (x14 + 1)))] H fun fr H => at_nil ?_)
        exact nx hm ⟨_, _, _, _, rfl, I4, H.ls, A⟩
       exact hF.elim
      refine BE 1 [] 37 (.ptr none) h7 H (fun fr => .of (Io (by kernel_rfl) (Hl (N := BF) (I := I4) (A.mem (k := 3) rfl) hq2 (kt := 9) (et := 52) (by kernel_rfl) (t := 56) (by kernel_rfl) (zv := .ptr none) (by kernel_rfl) (s := x18) hq3))) fun fr t H => ?_
      refine AQ 1 [(9, .ptr none)] H fun fr H => AS ?_
      obtain ⟨o5, ho, hm⟩ := bind_some hm
      refine Al (Q' := fun e fr' h' => (∃ x22 x23 x24, e = .normal ∧ (x22, x23, x24) = o5 ∧ ∃ (I6 : HR), Has fr' 74 [(3, .ptr (some (h1.size, 0))), (4, Ai x4), (5, .ptr (some (h3.size, 0))), (9, .ptr (some (A8 I6 x24, 0))), (13, vs AE p0), (14, Ai (p0.length : Int)), (15, Ai x4), (26, AJ rqw2 x10.length), (27, Ai (x10.length : Int)), (28, Ai x14)] ∧ HH g h' [.AL rqw2 9 (AL eS x10), .obj h3.size (.cells none 2 (AE x9)), .obj h1.size (.cells none 2 [.ptr (some (A8 I6 (0 : Nat), 0)), Ai x22]), EH BF I6 x23] F) ∨ False) ?_ ?_
      ·replace hm := ho
       clear ho
       refine AH 2 (AQ 2 [(39, .bool true)] H fun fr H => K4 (x := .tmp 39) (by kernel_rfl) H (fun fr => by kernel_rfl) ?_)
       refine AH 2 ?_
       obtain ⟨x25w3, hx, hm⟩ := bind_some hm
       obtain ⟨v1, h9, hr, bx25w3, bx25w3_2, rfl, A1⟩ := EB (I := I4) (av := []) hx (A.cut 0)
       replace A := A.Wh A1
       refine Cc 40 hr H fun fr t H => ?_
       obtain ⟨hb, hm⟩ := Ag hm
       have hI := (A.mem (k := 5) rfl : (EH BF I4 x12).ok h9).1.1
       have en : bx25w3 = A8 (I4 ++ [(bx25w3, bx25w3_2)]) x12.length := (Qy (p := (bx25w3, bx25w3_2)) hI).symm
       try rw [en] at H
       obtain ⟨hb0, hm⟩ := Ag hm
       have e0 : A8 I4 x13 = A8 (I4 ++ [(bx25w3, bx25w3_2)]) x13 := (Jn (by rw [hI]; exact of_decide_eq_true hb0)).symm
       try rw [e0] at H
       try rw [e0] at A
       obtain ⟨hb1, hm⟩ := Ag hm
       have e1 : A8 I4 (0 : Nat) = A8 (I4 ++ [(bx25w3, bx25w3_2)]) (0 : Nat) := (Jn (by rw [hI]; exact of_decide_eq_true hb1)).symm
       try rw [e1] at H
       try rw [e1] at A
       replace A : HH g h9 [_, _, .obj h1.size (.cells none 2 [.ptr (some (A8 (I4 ++ [(bx25w3, bx25w3_2)]) (0 : Nat), 0)), Ai x11]), EH BF (I4 ++ [(bx25w3, bx25w3_2)]) (x12 ++ [x25w3])] F := HH.UW (N := BF) (I := I4) (A := x12) (id := bx25w3) (mid := bx25w3_2) (x := x25w3) A 3 rfl (List.isEmpty_iff.1 hb)
       refine Bk 1 [(3, .ptr (some (h1.size, 0))), (4, Ai x4), (5, .ptr (some (h3.size, 0))), (6, .ptr (some (A8 (I4 ++ [(bx25w3, bx25w3_2)]) x13, 0))), (8, .str x18), (9, .ptr (some (A8 (I4 ++ [(bx25w3, bx25w3_2)]) x12.length, 0))), (13, vs AE p0), (14, Ai (p0.length : Int)), (15, Ai x4), (26, AJ rqw2 x10.length), (27, Ai (x10.length : Int)), (28, Ai x14)] H fun fr H => F5 7 id ?_
       obtain ⟨x26, hq4, hm⟩ := bind_some hm
       refine BE 3 [] 44 _ _ H (fun fr => .of (Dk (by kernel_rfl) (Hn (N := BF) (I := (I4 ++ [(bx25w3, bx25w3_2)])) (A.mem (k := 3) rfl) hq4 (o := 2) (v := .map (some (Cz (I4 ++ [(bx25w3, bx25w3_2)]) x13))) rfl))) fun fr t H => ?_
       refine Ax 2 [(45, .str x18), (46, .ptr (some (A8 (I4 ++ [(bx25w3, bx25w3_2)]) x12.length, 0)))] H fun fr H => ?_
       obtain ⟨hb, hm⟩ := Ag hm
       obtain ⟨h10, hx, A1⟩ := HH.R0 (N := BF) (I := (I4 ++ [(bx25w3, bx25w3_2)])) (P := cfg.P) A 3 rfl hq4 (t := 56) (kt := 9) (et := 52) (y := (⟨x26.at_, x26.Dp, D7 x26.AP x18 x12.length⟩ : AG)) (by kernel_rfl) (by kernel_rfl) x18 x12.length (of_decide_eq_true hb) rfl rfl
       replace A : HH g h10 [_, _, _, EH BF (I4 ++ [(bx25w3, bx25w3_2)]) ((x12 ++ [x25w3]).set x13 (⟨x26.at_, x26.Dp, D7 x26.AP x18 x12.length⟩ : AG))] F := A1
       refine L0 (.tuple []) h10 H (fun fr => .of (WN (by kernel_rfl) hx)) fun fr t H => ?_
       refine IG 8 id (DV 3 [(47, .ptr (some (h1.size, 0)))] 50 2 1 A H fun fr t H => ?_)
       obtain ⟨h11, hx, A1⟩ := A.st 2 rfl (o := 1) (new := [Ai (IntKind.i64.wrap (x11 + 1))]) (ds := [.ptr (some (A8 (I4 ++ [(bx25w3, bx25w3_2)]) (0 : Nat), 0)), Ai (IntKind.i64.wrap (x11 + 1))]) (Nat.le_of_ble_eq_true rfl) rfl rfl
       replace A : HH g h11 [_, _, .obj h1.size (.cells none 2 [.ptr (some (A8 (I4 ++ [(bx25w3, bx25w3_2)]) (0 : Nat), 0)), Ai (IntKind.i64.wrap (x11 + 1))]), _] F := A1
       refine QI 3 [] hx H fun fr t H => ?_
       refine at_nil ?_
       exact .inl ⟨_, _, _, rfl, Aq hm, (I4 ++ [(bx25w3, bx25w3_2)]), H.ls, A⟩
      clear ho
      clear A
      intro e fr h12 hQ
      rcases hQ with ⟨x22, x23, x24, rfl, rfl, I6, H, A⟩ | hF
      ·show AW _ _ _ _ _ _ _
       refine CQ 2 (TA 2 [(6, .ptr (some (A8 I6 x24, 0)))] 2 H fun fr H => Bk 2 [(3, .ptr (some (h1.size, 0))), (4, Ai x4), (5, .ptr (some (h3.size, 0))), (6, .ptr (some (A8 I6 x24, 0))), (13, vs AE p0), (14, Ai (p0.length : Int)), (15, Ai x4), (26, AJ rqw2 x10.length), (27, Ai (x10.length : Int)), (28, Ai (IntKind.i64.wrap (x14 + 1)))] H fun fr H => at_nil ?_)
       exact nx hm ⟨_, _, _, _, rfl, I6, H.ls, A⟩
      exact hF.elim
     refine B0 (i := 2) (by kernel_rfl) ?_
     replace A := A.k3 1 2 3
     exact nr hm fun e => .inl ⟨_, _, _, rfl, e, I4, H.ls, A⟩
    clear ho
    clear A
    intro e fr h13 hQ
    rcases hQ with ⟨x15, x16, x17, rfl, rfl, I5, H, A⟩ | hF
    ·show AW _ _ _ _ _ _ _
     refine AH 6 (DV 4 [(56, .ptr (some (A8 I5 x17, 0)))] 60 1 0 A H fun fr t H => ?_)
     obtain ⟨x27, hq5, hm⟩ := bind_some hm
     obtain ⟨x28, hq6, hm⟩ := bind_some hm
     refine Az 61 (.bool (!Nat.beq x17 (0 : Nat))) h13 H (fun fr => .of (Un (t := 52) (by kernel_rfl) (Ul (N := BF) (I := I5) (A.mem (k := 2) rfl) hq5 hq6 Qv (t := 52) (e := 58) (by kernel_rfl) (z := 2) (by kernel_rfl)))) fun fr t H => ?_
     refine Dg id (BK 61 H hm (fun hb hm H => ?_) fun hb hm H => ?_)
     ·refine TC 17 12 [(0, []), (1, []), (2, []), (3, []), (4, []), (5, []), (6, []), (7, []), (8, [4]), (9, []), (10, []), (11, [])] ?_
      refine Ax 4 [(62, .ptr (some (A8 I5 x17, 0))), (63, .ptr (some (A8 I5 x17, 0))), (64, Ai x4), (65, .ptr (some (h3.size, 13)))] H fun fr H => M3 66 (.str x9.Data) h13 [(4, h3.size)] (g.Bg) H (fun fr => .of (Dk (by kernel_rfl) (A.l1 0 13))) (fun fr H => ?_)
      refine Ax 3 [(67, Ai (x9.Data.length : Int)), (69, .ptr (some (A8 I5 x17, 0)))] H fun fr H => ?_
      obtain ⟨x29, hq7, hm⟩ := bind_some hm
      replace A := A.k3 2 0 1
      have A1 := A.SA 1 (pr := [h3.size]) (.cons 0 rfl (by simp [Ck.ids]) .nil)
      obtain ⟨h14, hx, A1⟩ := HH.UA (N := BF) (I := I5) A1 0 rfl hq7 (y := (⟨x4, x29.Dp, x29.AP⟩ : AG)) 0 (Ai x4) rfl rfl (Nat.le_of_ble_eq_true rfl) rfl
      replace A : HH g h14 [EH BF I5 (x16.set x17 (⟨x4, x29.Dp, x29.AP⟩ : AG)), _, _] F := A.SD (n := 1) A1
      refine Qq (.tuple []) h14 [(4, h3.size)] (h3.size :: g.Bg) H (fun fr => .of (Rg (by kernel_rfl) rfl hx)) (fun fr H => ?_)
      refine Ax 2 [(71, .ptr (some (A8 I5 x17, 1)))] H fun fr H => ?_
      obtain ⟨x30, hq8, hm⟩ := bind_some hm
      obtain ⟨h15, hx, A1⟩ := HH.UA (N := BF) (I := I5) A 0 rfl hq8 (y := (⟨x30.at_, (x9.Data.length : Int), x30.AP⟩ : AG)) 1 (Ai (x9.Data.length : Int)) rfl rfl (Nat.le_of_ble_eq_true rfl) rfl
      replace A : HH g h15 [EH BF I5 ((x16.set x17 (⟨x4, x29.Dp, x29.AP⟩ : AG)).set x17 (⟨x30.at_, (x9.Data.length : Int), x30.AP⟩ : AG)), _, _] F := A1
      refine Qq (.tuple []) h15 [(4, h3.size)] (g.Bg) H (fun fr => .of (Rg (by kernel_rfl) rfl hx)) (fun fr H => ?_)
      refine at_nil ?_
      replace A := A.k2 2 0
      exact .inl ⟨_, _, rfl, Aq hm, I5, H.ls, A⟩
     refine Ea ?_
     replace A := A.k2 1 2
     exact .inl ⟨_, _, rfl, Aq hm, I5, H.ls, A⟩
    exact hF.elim
   clear ho
   clear A
   intro e fr h16 hQ
   rcases hQ with ⟨x7, x8, rfl, rfl, I3, H, A⟩ | hF
   ·show AW _ _ _ _ _ _ _
    refine CQ 2 (Bk 2 [(3, .ptr (some (h1.size, 0))), (13, vs AE p0), (14, Ai (p0.length : Int)), (15, Ai (IntKind.i64.wrap (x4 + 1)))] H fun fr H => at_nil ?_)
    exact nx hm ⟨_, _, _, rfl, I3, H.ls, A⟩
   exact hF.elim
  refine B0 (i := 0) (by kernel_rfl) ?_
  exact nr hm fun e => .inl ⟨_, _, rfl, e, I1, H.ls, A⟩
 clear ho
 clear A
 intro e fr h17 hQ
 rcases hQ with ⟨x5, x6, rfl, rfl, I2, H, A⟩ | hF
 ·show AW _ _ _ _ _ _ _
  refine AH 2 (AQ 2 [(2, .ptr (some (h1.size, 0)))] H fun fr H => BV ?_)
  obtain ⟨rfl, rfl⟩ := OJ hm
  exact ⟨.inl rfl, _, rH H, _, _, rfl, A⟩
 exact hF.elim
def BR (p0 : List UInt8) (s : Int) : Option ((Int) ⊕ ((Int))) :=
 match s with
 | x4 => (BM (decide (x4 < (p0.length : Int))) ((Vx p0 x4).bind fun x7 => some (x7 != 47)) (some false) : Option (Bool)).bind fun x6 => BM x6 (some (.inl (IntKind.i64.wrap (x4 + 1)))) (some (.inr x4))
def BT (p0 : List UInt8) (s : (List (List UInt8)) × Int) : Option (((List (List UInt8)) × Int) ⊕ (((List (List UInt8))))) :=
 match s with
 | (x1, x2) => BM (decide (x2 < (p0.length : Int))) ((loop (BR p0) x2).bind fun x5 => (BM (decide (x5 > x2)) ((L1 p0 (some x2) (some x5)).bind fun x9 => Dm (QY 16 (x1.length + ([x9] : List (List UInt8)).length)) <| some (x1 ++ ([x9] : List (List UInt8)))) (some x1) : Option (((List (List UInt8))))).bind fun x8 => some (.inl (x8, IntKind.i64.wrap (x5 + 1)))) (some (.inr x1))
def CX (p0 : List UInt8) : Option ((List (List UInt8))) :=
 (loop (BT p0) (([] : List (List UInt8)), (0 : Int))).bind fun x3 => some x3
theorem HL {p0 q0} (hm : CX p0 = some q0) (A : HH g h [] F) (hc : B3 (cfg.still 32) av = [.str p0] := by kernel_rfl) : ∃ v h', CC cfg g h 32 av v h' ∧ ∃ (rq0 : Option Nat), v = AJ rq0 q0.length ∧ HH g h' [.AL rq0 9 (AL eS q0)] F := by
 refine HO 37 [.tmp 2] hc ?_
 clear hc
 unfold CX at hm
 refine bg 37 [(0, .str p0)] fun fr H => ?_
 refine AH 1 (DP 1 [] 2 H fun fr H => ?_)
 obtain ⟨h1, e1, A⟩ := A.pL 9 []
 refine Cw 6 (AJ (some h.size) (([] : List (List UInt8)).length)) e1 H fun fr t H => ?_
 refine DP 1 [(3, AJ (some h.size) (([] : List (List UInt8)).length))] 1 H fun fr H => AQ 1 [(4, Ai 0)] H fun fr H => AS (AM (id := 0) (by kernel_rfl) ?_)
 replace A : HH g h1 [.AL (some h.size) 9 (AL eS ([] : List (List UInt8)))] F := A
 obtain ⟨o1, ho, hm⟩ := bind_some hm
 refine Al (Q' := fun e fr' h' => (∃ x3, e = .exit 0 ∧ x3 = o1 ∧ ∃ r2, Has fr' 37 [(3, AJ r2 x3.length)] ∧ HH g h' [.AL r2 9 (AL eS x3)] F) ∨ False) ?_ ?_
 ·refine CA (by kernel_rfl) (fun (s : (List (List UInt8)) × Int) fr' h' => ∃ x1 x2, (x1, x2) = s ∧ ∃ r1, Has fr' 37 [(0, .str p0), (3, AJ r1 x1.length), (4, Ai x2)] ∧ HH g h' [.AL r1 9 (AL eS x1)] F) ho ⟨_, _, rfl, some h.size, H.ls, A⟩ ?_
  clear ho hm H A
  intro s q fr h2 hI hm
  obtain ⟨x1, x2, rfl, r1, H, A⟩ := hI
  unfold BT at hm
  refine AS (AH 4 (AQ 4 [(10, .bool (decide (x2 < (p0.length : Int))))] H fun fr H => BK 10 H hm (fun hb hm H => ?_) fun hb hm H => ?_))
  ·refine C8 id (AM (id := 1) (by kernel_rfl) ?_)
   refine AH 2 (AQ 2 [(5, Ai x2)] H fun fr H => AS (AM (id := 2) (by kernel_rfl) ?_))
   obtain ⟨o2, ho, hm⟩ := bind_some hm
   refine Al (Q' := fun e fr' h' => (∃ x5, e = .exit 2 ∧ x5 = o2 ∧ Has fr' 37 [(0, .str p0), (3, AJ r1 x1.length), (4, Ai x2), (5, Ai x5)] ∧ HH g h' [.AL r1 9 (AL eS x1)] F) ∨ False) ?_ ?_
   ·refine CA (by kernel_rfl) (fun (s : Int) fr' h' => ∃ x4, x4 = s ∧ Has fr' 37 [(0, .str p0), (3, AJ r1 x1.length), (4, Ai x2), (5, Ai x4)] ∧ HH g h' [.AL r1 9 (AL eS x1)] F) ho ⟨_, rfl, H.ls, A⟩ ?_
    clear ho hm H A
    intro s q fr h3 hI hm
    obtain ⟨x4, rfl, H, A⟩ := hI
    unfold BR at hm
    refine AS (AH 10 (Ax 5 [(16, .bool (decide (x4 < (p0.length : Int))))] H fun fr H => ?_))
    obtain ⟨x6, ho, hm⟩ := bind_some hm
    refine HJ 5 (fun fr' h' => Has fr' 37 [(0, .str p0), (3, AJ r1 x1.length), (4, Ai x2), (5, Ai x4), (21, .bool x6)] ∧ HH g h' [.AL r1 9 (AL eS x1)] F) ?_ ?_
    ·rcases DL ho with ⟨hb, hm⟩ | ⟨hb, hm⟩
     ·replace H := H.kn 16 hb
      obtain ⟨x7, hx, hm⟩ := bind_some hm
      refine BE 2 [] 19 (Ab x7) h3 H (fun fr => .of (Wn (by kernel_rfl) hx)) fun fr t H => ?_
      refine Ax 2 [(21, .bool (x7 != 47))] H fun fr H => ?_
      obtain rfl := Aq hm
      exact at_nil ⟨H.ls, A⟩
     replace H := H.kn 16 hb
     refine Ax 5 [(21, .bool false)] H fun fr H => ?_
     obtain rfl := Aq hm
     exact at_nil ⟨H.ls, A⟩
    clear A
    intro t fr h4 hK
    obtain ⟨H, A⟩ := hK
    refine Dg id (BK 21 H hm (fun hb hm H => ?_) fun hb hm H => ?_)
    ·refine C8 id (AM (id := 3) (by kernel_rfl) ?_)
     refine CQ 3 (Bk 3 [(0, .str p0), (3, AJ r1 x1.length), (4, Ai x2), (5, Ai (IntKind.i64.wrap (x4 + 1)))] H fun fr H => at_nil ?_)
     exact nx hm ⟨_, rfl, H.ls, A⟩
    refine B0 (i := 2) (by kernel_rfl) ?_
    exact nr hm fun e => .inl ⟨_, rfl, e, H.ls, A⟩
   clear ho
   clear A
   intro e fr h5 hQ
   rcases hQ with ⟨x5, rfl, rfl, H, A⟩ | hF
   ·show AW _ _ _ _ _ _ _
    refine AS ?_
    obtain ⟨o3, ho, hm⟩ := bind_some hm
    refine Al (Q' := fun e fr' h' => (∃ x8, e = .normal ∧ x8 = o3 ∧ ∃ r3, Has fr' 37 [(0, .str p0), (3, AJ r3 x8.length), (5, Ai x5)] ∧ HH g h' [.AL r3 9 (AL eS x8)] F) ∨ False) ?_ ?_
    ·replace hm := ho
     clear ho
     refine AH 3 (AQ 3 [(26, .bool (decide (x5 > x2)))] H fun fr H => BK 26 H hm (fun hb hm H => ?_) fun hb hm H => ?_)
     ·refine CQ 8 ?_
      obtain ⟨x9, hx, hm⟩ := bind_some hm
      refine BE 4 [(27, AJ r1 x1.length)] 31 (.str x9) h5 H (fun fr => .of (P4 (k := .i64) (k' := .i64) (lo := (some x2)) (hi := (some x5)) (by kernel_rfl) hx)) fun fr t H => ?_
      obtain ⟨h6, e2, A⟩ := A.pL 9 [.str x9]
      refine Cw 32 (AJ (some h5.size) (([x9] : List (List UInt8)).length)) e2 H fun fr t H => ?_
      obtain ⟨hb, hm⟩ := Ag hm
      obtain ⟨r4, h7, hx, A1⟩ := HH.NF encS (by decide) A 1 (xs := x1) (ys := ([x9] : List (List UInt8))) rfl (Dd A 0 rfl (n := ([x9] : List (List UInt8)).length) (z := 1) rfl (by decide)) rfl rfl hb
      replace A : HH g h7 [.AL (some h5.size) 9 ([.str x9]), .AL r4 9 (AL eS (x1 ++ ([x9] : List (List UInt8))))] F := A1
      replace A := A.k1 1
      refine Az 33 _ _ H (fun fr => .of (Jo (s := DC r1 x1.length) (by kernel_rfl) hx)) fun fr t H => ?_
      refine Bk 1 [(0, .str p0), (3, AJ r4 ((x1 ++ ([x9] : List (List UInt8))).length)), (5, Ai x5)] H fun fr H => at_nil ?_
      exact .inl ⟨_, rfl, Aq hm, _, H.ls, A⟩
     exact Ea (.inl ⟨_, rfl, Aq hm, _, H.ls, A⟩)
    clear ho
    clear A
    intro e fr h8 hQ
    rcases hQ with ⟨x8, rfl, rfl, r3, H, A⟩ | hF
    ·show AW _ _ _ _ _ _ _
     refine CQ 3 (Ax 3 [(4, Ai (IntKind.i64.wrap (x5 + 1)))] H fun fr H => at_nil ?_)
     exact nx hm ⟨_, _, rfl, _, H.ls, A⟩
    exact hF.elim
   exact hF.elim
  refine B0 (i := 0) (by kernel_rfl) ?_
  exact nr hm fun e => .inl ⟨_, rfl, e, _, H.ls, A⟩
 clear ho
 clear A
 intro e fr h9 hQ
 rcases hQ with ⟨x3, rfl, rfl, r2, H, A⟩ | hF
 ·show AW _ _ _ _ _ _ _
  refine AH 2 (AQ 2 [(2, AJ r2 x3.length)] H fun fr H => BV ?_)
  obtain rfl := Aq hm
  exact ⟨.inl rfl, _, rH H, _, rfl, A⟩
 exact hF.elim
def Cu (x1 : List (List UInt8)) (s : (List (List UInt8)) × Int) : Option (((List (List UInt8)) × Int) ⊕ (((List (List UInt8))))) :=
 match s with
 | (x2, x3) => BM (decide (x3 < (x1.length : Int))) (((Fv x1 x3).bind fun x6 => BM (!(x6 == ([46] : List UInt8))) ((Fv x1 x3).bind fun x7 => Dm (QY 16 (x2.length + ([x7] : List (List UInt8)).length)) <| some (x2 ++ ([x7] : List (List UInt8)))) (some x2) : Option (((List (List UInt8))))).bind fun x5 => some (.inl (x5, IntKind.i64.wrap (x3 + 1)))) (some (.inr x2))
def Cn (p0 : List UInt8) : Option ((List (List UInt8))) :=
 (CX p0).bind fun x1 => (loop (Cu x1) (([] : List (List UInt8)), (0 : Int))).bind fun x4 => some x4
theorem IL {p0 q0} (hm : Cn p0 = some q0) (A : HH g h [] F) (hc : B3 (cfg.still 17) av = [.str p0] := by kernel_rfl) : ∃ v h', CC cfg g h 17 av v h' ∧ v = vs eS q0 ∧ HH g h' [] F := by
 refine X7 28 [.tmp 2] hc ?_
 clear hc
 unfold Cn at hm
 refine bg 28 [(0, .str p0)] fun fr H => ?_
 refine AH 1 (DP 1 [] 2 H fun fr H => ?_)
 obtain ⟨h1, e1, A⟩ := A.pL 9 []
 refine Cw 6 (AJ (some h.size) (([] : List (List UInt8)).length)) e1 H fun fr t H => ?_
 refine DP 1 [(3, AJ (some h.size) (([] : List (List UInt8)).length))] 3 H fun fr H => ?_
 obtain ⟨x1, hx, hm⟩ := bind_some hm
 obtain ⟨v1, h2, hr, rqw1, rfl, A1⟩ := HL (av := [.str p0]) hx (A.cut 0)
 replace A : HH g h2 [.AL rqw1 9 (AL eS x1), .AL (some h.size) 9 ([])] F := A.HI (n := 0) A1
 refine CP 1 [] 8 hr H fun fr t H => ?_
 refine AQ 1 [(4, AJ rqw1 x1.length)] H fun fr H => AS (AH 1 (AQ 1 [(5, Ai 0)] H fun fr H => AM (id := 0) (by kernel_rfl) ?_))
 replace A : HH g h2 [_, .AL (some h.size) 9 (AL eS ([] : List (List UInt8)))] F := A
 obtain ⟨o1, ho, hm⟩ := bind_some hm
 refine Al (Q' := fun e fr' h' => (∃ x4, e = .exit 0 ∧ x4 = o1 ∧ ∃ r2, Has fr' 28 [(3, AJ r2 x4.length)] ∧ HH g h' [.AL r2 9 (AL eS x4)] F) ∨ False) ?_ ?_
 ·refine CA (by kernel_rfl) (fun (s : (List (List UInt8)) × Int) fr' h' => ∃ x2 x3, (x2, x3) = s ∧ ∃ r1, Has fr' 28 [(3, AJ r1 x2.length), (4, AJ rqw1 x1.length), (5, Ai x3)] ∧ HH g h' [.AL rqw1 9 (AL eS x1), .AL r1 9 (AL eS x2)] F) ho ⟨_, _, rfl, some h.size, H.ls, A⟩ ?_
  clear ho hm H A
  intro s q fr h3 hI hm
  obtain ⟨x2, x3, rfl, r1, H, A⟩ := hI
  unfold Cu at hm
  refine AS (AH 4 (AQ 4 [(12, .bool (decide (x3 < (x1.length : Int))))] H fun fr H => BK 12 H hm (fun hb hm H => ?_) fun hb hm H => ?_))
  ·refine C8 id (AS ?_)
   obtain ⟨o2, ho, hm⟩ := bind_some hm
   refine Al (Q' := fun e fr' h' => (∃ x5, e = .normal ∧ x5 = o2 ∧ ∃ r3, Has fr' 28 [(3, AJ r3 x5.length), (4, AJ rqw1 x1.length), (5, Ai x3)] ∧ HH g h' [.AL rqw1 9 (AL eS x1), .AL r3 9 (AL eS x5)] F) ∨ False) ?_ ?_
   ·replace hm := ho
    clear ho
    refine AM (id := 1) (by kernel_rfl) ?_
    refine AH 5 ?_
    obtain ⟨x6, hx, hm⟩ := bind_some hm
    obtain ⟨i1, er1, _, hx, hq1⟩ := HH.MV encS (by decide) A 0 (xs := x1) rfl hx
    refine BE 2 [] 17 (.ptr (some (i1, x3.toNat * 1))) h3 H (fun fr => .of (EG (s := DC rqw1 x1.length) (by kernel_rfl) hx)) fun fr t H => ?_
    refine Az 18 _ _ H (fun fr => .of (Dk (by kernel_rfl) (DU encS (HH.row A 0 rfl er1) hq1 (o := 0) rfl))) fun fr t H => ?_
    refine AQ 1 [(19, .bool (!(x6 == ([46] : List UInt8))))] H fun fr H => BK 19 H hm (fun hb hm H => ?_) fun hb hm H => ?_
    ·refine CQ 8 ?_
     obtain ⟨x7, hx, hm⟩ := bind_some hm
     obtain ⟨i2, er2, _, hx, hq2⟩ := HH.MV encS (by decide) A 0 (xs := x1) rfl hx
     refine BE 3 [(20, AJ r1 x2.length)] 23 (.ptr (some (i2, x3.toNat * 1))) h3 H (fun fr => .of (EG (s := DC rqw1 x1.length) (by kernel_rfl) hx)) fun fr t H => ?_
     refine Az 24 _ _ H (fun fr => .of (Dk (by kernel_rfl) (DU encS (HH.row A 0 rfl er2) hq2 (o := 0) rfl))) fun fr t H => ?_
     obtain ⟨h4, e2, A⟩ := A.pL 9 [.str x7]
     refine Cw 25 (AJ (some h3.size) (([x7] : List (List UInt8)).length)) e2 H fun fr t H => ?_
     obtain ⟨hb, hm⟩ := Ag hm
     obtain ⟨r4, h5, hx, A1⟩ := HH.NF encS (by decide) A 2 (xs := x2) (ys := ([x7] : List (List UInt8))) rfl (Dd A 0 rfl (n := ([x7] : List (List UInt8)).length) (z := 1) rfl (by decide)) rfl rfl hb
     replace A : HH g h5 [.AL (some h3.size) 9 ([.str x7]), _, .AL r4 9 (AL eS (x2 ++ ([x7] : List (List UInt8))))] F := A1
     replace A := A.k2 1 2
     refine Az 26 _ _ H (fun fr => .of (Jo (s := DC r1 x2.length) (by kernel_rfl) hx)) fun fr t H => ?_
     refine Bk 1 [(3, AJ r4 ((x2 ++ ([x7] : List (List UInt8))).length)), (4, AJ rqw1 x1.length), (5, Ai x3)] H fun fr H => at_nil ?_
     exact .inl ⟨_, rfl, Aq hm, _, H.ls, A⟩
    exact Ea (.inl ⟨_, rfl, Aq hm, _, H.ls, A⟩)
   clear ho
   clear A
   intro e fr h6 hQ
   rcases hQ with ⟨x5, rfl, rfl, r3, H, A⟩ | hF
   ·show AW _ _ _ _ _ _ _
    refine CQ 3 (Bk 3 [(3, AJ r3 x5.length), (4, AJ rqw1 x1.length), (5, Ai (IntKind.i64.wrap (x3 + 1)))] H fun fr H => at_nil ?_)
    exact nx hm ⟨_, _, rfl, _, H.ls, A⟩
   exact hF.elim
  refine B0 (i := 0) (by kernel_rfl) ?_
  replace A := A.k1 1
  exact nr hm fun e => .inl ⟨_, rfl, e, _, H.ls, A⟩
 clear ho
 clear A
 intro e fr h7 hQ
 rcases hQ with ⟨x4, rfl, rfl, r2, H, A⟩ | hF
 ·show AW _ _ _ _ _ _ _
  refine AH 2 (AQ 2 [(2, AJ r2 x4.length)] H fun fr H => BV ?_)
  obtain rfl := Aq hm
  refine ⟨.inl rfl, AJ r2 x4.length, rH H, ?_⟩
  obtain ⟨h8, hz0, A1⟩ := (A.front 0 rfl).X6 (n := x4.length) (z := 1) (encS.Kv _) (by decide)
  replace A : HH g h8 [] F := A1
  refine ⟨vs eS x4, h8, by first | rfl | (simp only [Xe, XW, XR, XM, XV, XJ, Xh, Xg, XZ, XB, XP, XA, XQ, XL, Xk, XO, Xc, Xi, Option.map_some, hz0] <;> rfl), ?_⟩
  exact ⟨rfl, A⟩
 exact hF.elim
def Ct (p0 : List (List UInt8)) (p1 : List (List UInt8)) (s : Int) : Option ((Int) ⊕ ((Unit) ⊕ (Bool))) :=
 match s with
 | x1 => BM ((decide (x1 < (p0.length : Int))) && (decide (x1 < (p1.length : Int)))) ((Fv p0 x1).bind fun x3 => (Fv p1 x1).bind fun x4 => BM (!(x3 == x4)) ((Fv p0 x1).bind fun x5 => (Fv p1 x1).bind fun x6 => some (.inr (.inr (Op.bytesLess x5 x6)))) (some (.inl (IntKind.i64.wrap (x1 + 1))))) (some (.inr (.inl ())))
def CI (p0 : List (List UInt8)) (p1 : List (List UInt8)) : Option (Bool) :=
 (loop (Ct p0 p1) (0 : Int)).bind fun o1 => (match o1 with | .inl _ => some (decide ((p0.length : Int) < (p1.length : Int))) | .inr x2 => some x2)
theorem Hk {p0 p1 q0} (hm : CI p0 p1 = some q0) (A : HH g h [] F) (hc : B3 (cfg.still 37) av = [vs eS p0, vs eS p1] := by kernel_rfl) : ∃ v h', CC cfg g h 37 av v h' ∧ v = .bool q0 ∧ HH g h' [] F := by
 refine HO 41 [.tmp 4] hc ?_
 clear hc
 unfold CI at hm
 refine bg 41 [(0, vs eS p0), (1, vs eS p1)] fun fr H => ?_
 refine AH 1 (AQ 1 [] H fun fr H => AS (AH 1 (AQ 1 [(5, Ai 0)] H fun fr H => AM (id := 0) (by kernel_rfl) ?_)))
 obtain ⟨o1, ho, hm⟩ := bind_some hm
 refine Al (Q' := fun e fr' h' => (e = .exit 0 ∧ .inl () = o1 ∧ Has fr' 41 [(0, vs eS p0), (1, vs eS p1)] ∧ HH g h' [] F) ∨ (∃ x2, e = .ret ∧ .inr x2 = o1 ∧ Has fr' 41 [(4, .bool x2)] ∧ HH g h' [] F) ∨ False) ?_ ?_
 ·refine CA (by kernel_rfl) (fun (s : Int) fr' h' => ∃ x1, x1 = s ∧ Has fr' 41 [(0, vs eS p0), (1, vs eS p1), (5, Ai x1)] ∧ HH g h' [] F) ho ⟨_, rfl, H.ls, A⟩ ?_
  clear ho hm H A
  intro s q fr h1 hI hm
  obtain ⟨x1, rfl, H, A⟩ := hI
  unfold Ct at hm
  refine AS (AH 10 (Ax 5 [(10, .bool (decide (x1 < (p0.length : Int))))] H fun fr H => HJ 5 (fun fr' h' => h1 = h' ∧ Has fr' 41 [(0, vs eS p0), (1, vs eS p1), (5, Ai x1), (15, .bool ((decide (x1 < (p0.length : Int))) && (decide (x1 < (p1.length : Int)))))]) ?_ ?_))
  ·cases hb : (decide (x1 < (p0.length : Int)) : Bool) with
   | true =>
    replace H := H.kn 10 hb
    exact Ax 5 [(15, .bool (decide (x1 < (p1.length : Int))))] H fun fr H => Qn H hb
   | false =>
    replace H := H.kn 10 hb
    exact Ax 5 [(15, .bool false)] H fun fr H => Qn H hb
  intro t fr h' hK
  obtain ⟨e, H⟩ := hK
  subst e
  refine Dg id (BK 15 H hm (fun hb hm H => ?_) fun hb hm H => ?_)
  ·refine C8 id (AS (AM (id := 1) (by kernel_rfl) ?_))
   refine AS (Ox 4 9 ?_)
   obtain ⟨x3, hx, hm⟩ := bind_some hm
   refine BE 2 [] 20 (.DF [.str x3]) h1 H (fun fr => .of (Hi (e := eS) (x := x3) encS (by decide) (by kernel_rfl) hx)) fun fr t H => ?_
   refine Az 21 (.str x3) h1 H (fun fr => .of (Lg (by kernel_rfl))) fun fr t H => ?_
   obtain ⟨x4, hx, hm⟩ := bind_some hm
   refine BE 2 [] 24 (.DF [.str x4]) h1 H (fun fr => .of (Hi (e := eS) (x := x4) encS (by decide) (by kernel_rfl) hx)) fun fr t H => ?_
   refine Az 25 (.str x4) h1 H (fun fr => .of (Lg (by kernel_rfl))) fun fr t H => ?_
   refine AQ 1 [(26, .bool (!(x3 == x4)))] H fun fr H => BK 26 H hm (fun hb hm H => ?_) fun hb hm H => ?_
   ·refine AS (Ox 5 10 ?_)
    obtain ⟨x5, hx, hm⟩ := bind_some hm
    refine BE 2 [] 29 (.DF [.str x5]) h1 H (fun fr => .of (Hi (e := eS) (x := x5) encS (by decide) (by kernel_rfl) hx)) fun fr t H => ?_
    refine Az 30 (.str x5) h1 H (fun fr => .of (Lg (by kernel_rfl))) fun fr t H => ?_
    obtain ⟨x6, hx, hm⟩ := bind_some hm
    refine BE 2 [] 33 (.DF [.str x6]) h1 H (fun fr => .of (Hi (e := eS) (x := x6) encS (by decide) (by kernel_rfl) hx)) fun fr t H => ?_
    refine Az 34 (.str x6) h1 H (fun fr => .of (Lg (by kernel_rfl))) fun fr t H => ?_
    refine AQ 2 [(4, .bool (Op.bytesLess x5 x6))] H fun fr H => BV ?_
    exact nr hm fun e => Or.inr (.inl ⟨_, rfl, e, H.ls, A⟩)
   refine Ik 3 id (Bk 3 [(0, vs eS p0), (1, vs eS p1), (5, Ai (IntKind.i64.wrap (x1 + 1)))] H fun fr H => at_nil ?_)
   exact nx hm ⟨_, rfl, H.ls, A⟩
  refine B0 (i := 0) (by kernel_rfl) ?_
  exact nr hm fun e => .inl ⟨rfl, e, H.ls, A⟩
 clear ho
 clear A
 intro e fr h2 hQ
 rcases hQ with ⟨rfl, rfl, H, A⟩ | ⟨x2, rfl, rfl, H, A⟩ | hF
 ·show AW _ _ _ _ _ _ _
  refine AH 6 (AQ 6 [(4, .bool (decide ((p0.length : Int) < (p1.length : Int))))] H fun fr H => BV ?_)
  obtain rfl := Aq hm
  exact ⟨.inl rfl, _, rH H, rfl, A⟩
 ·obtain rfl := Aq hm
  exact ⟨.inl rfl, _, rH H, rfl, A⟩
 exact hF.elim
def CD (p0 : List AD) (p1 : List (List UInt8)) (p2 : Int) (s : (List AD) × Bool × Int) : Option (((List AD) × Bool × Int) ⊕ (((List AD) × Bool))) :=
 match s with
 | (x1, x2, x3) => BM (decide (x3 < (p0.length : Int))) ((Fv p0 x3).bind fun x6 => ((Cl x6.L p1).bind fun x10 => BM x10 ((BM (decide (p2 ≥ 0)) (some p2) (some x6.At) : Option ((Int))).bind fun x11 => some (x11, x1, true)) ((BM (!x2) ((CI p1 x6.L).bind fun x13 => some x13) (some false) : Option (Bool)).bind fun x12 => BM x12 (Dm (QY 32 (x1.length + ([(⟨p1, p2⟩ : AD)] : List AD).length)) <| some (x6.At, (x1 ++ ([(⟨p1, p2⟩ : AD)] : List AD)), true)) (some (x6.At, x1, x2))) : Option ((Int × (List AD) × Bool))).bind fun (x7, x8, x9) => Dm (QY 32 (x8.length + ([(⟨x6.L, x7⟩ : AD)] : List AD).length)) <| some (.inl ((x8 ++ ([(⟨x6.L, x7⟩ : AD)] : List AD)), x9, IntKind.i64.wrap (x3 + 1)))) (some (.inr (x1, x2)))
def Bi (p0 : List AD) (p1 : List (List UInt8)) (p2 : Int) : Option ((List AD)) :=
 (loop (CD p0 p1 p2) (([] : List AD), false, (0 : Int))).bind fun (x4, x5) => (BM (!x5) (Dm (QY 32 (x4.length + ([(⟨p1, p2⟩ : AD)] : List AD).length)) <| some (x4 ++ ([(⟨p1, p2⟩ : AD)] : List AD))) (some x4) : Option (((List AD)))).bind fun x14 => some x14
theorem D8 {p0 p1 p2 rp0 q0} (hm : Bi p0 p1 p2 = some q0) (A : HH g h [.AL rp0 35 (AL AF p0)] F) (hc : B3 (cfg.still 24) av = [AJ rp0 p0.length, vs eS p1, Ai p2] := by kernel_rfl) : ∃ v h', CC cfg g h 24 av v h' ∧ ∃ (rq0 : Option Nat), v = AJ rq0 q0.length ∧ HH g h' [.AL rq0 35 (AL AF q0), .AL rp0 35 (AL AF p0)] F := by
 refine HO 57 [.tmp 6] hc ?_
 clear hc
 unfold Bi at hm
 refine bg 57 [(0, AJ rp0 p0.length), (1, vs eS p1), (2, Ai p2)] fun fr H => ?_
 refine AH 1 (DP 1 [] 2 H fun fr H => ?_)
 obtain ⟨h1, e1, A⟩ := A.pL 35 []
 refine Cw 11 (AJ (some h.size) (([] : List AD).length)) e1 H fun fr t H => ?_
 refine DP 1 [(7, AJ (some h.size) (([] : List AD).length))] 1 H fun fr H => AQ 1 [(8, .bool false)] H fun fr H => AS (AH 1 (AQ 1 [(9, Ai 0)] H fun fr H => AM (id := 0) (by kernel_rfl) ?_))
 replace A : HH g h1 [.AL (some h.size) 35 (AL AF ([] : List AD)), _] F := A
 obtain ⟨o1, ho, hm⟩ := bind_some hm
 refine Al (Q' := fun e fr' h' => (∃ x4 x5, e = .exit 0 ∧ (x4, x5) = o1 ∧ ∃ r2, Has fr' 57 [(1, vs eS p1), (2, Ai p2), (7, AJ r2 x4.length), (8, .bool x5)] ∧ HH g h' [.AL r2 35 (AL AF x4), .AL rp0 35 (AL AF p0)] F) ∨ False) ?_ ?_
 ·refine CA (by kernel_rfl) (fun (s : (List AD) × Bool × Int) fr' h' => ∃ x1 x2 x3, (x1, x2, x3) = s ∧ ∃ r1, Has fr' 57 [(0, AJ rp0 p0.length), (1, vs eS p1), (2, Ai p2), (7, AJ r1 x1.length), (8, .bool x2), (9, Ai x3)] ∧ HH g h' [.AL r1 35 (AL AF x1), .AL rp0 35 (AL AF p0)] F) ho ⟨_, _, _, rfl, some h.size, H.ls, A⟩ ?_
  clear ho hm H A
  intro s q fr h2 hI hm
  obtain ⟨x1, x2, x3, rfl, r1, H, A⟩ := hI
  unfold CD at hm
  refine AS (AH 4 (AQ 4 [(15, .bool (decide (x3 < (p0.length : Int))))] H fun fr H => BK 15 H hm (fun hb hm H => ?_) fun hb hm H => ?_))
  ·refine C8 id (AS (AM (id := 1) (by kernel_rfl) ?_))
   refine AH 6 ?_
   obtain ⟨x6, hx, hm⟩ := bind_some hm
   obtain ⟨i1, er1, _, hx, hq1⟩ := HH.MV Ad (by decide) A 1 (xs := p0) rfl hx
   refine BE 2 [] 20 (.ptr (some (i1, x3.toNat * 2))) h2 H (fun fr => .of (EG (s := DC rp0 p0.length) (by kernel_rfl) hx)) fun fr t H => ?_
   refine Az 21 _ _ H (fun fr => .of (QW (by kernel_rfl) (K8 Ad (HH.row A 1 rfl er1) hq1 0 2 (Nat.le_of_ble_eq_true rfl)))) fun fr t H => ?_
   obtain ⟨h3, e2, A⟩ := A.pu (.cells none 2 [.slice none 0, Ai 0])
   refine Cw 10 (.ptr (some (h2.size, 0))) e2 H fun fr t H => ?_
   obtain ⟨h4, hx, A⟩ := A.s0 0 [vs eS x6.L, Ai x6.At] [_, _]
   refine Sb hx H fun fr t H => ?_
   refine Dg id (AS ?_)
   obtain ⟨o2, ho, hm⟩ := bind_some hm
   refine Al (Q' := fun e fr' h' => (∃ x7 x8 x9, e = .normal ∧ (x7, x8, x9) = o2 ∧ ∃ r3, Has fr' 57 [(0, AJ rp0 p0.length), (1, vs eS p1), (2, Ai p2), (7, AJ r3 x8.length), (8, .bool x9), (9, Ai x3), (10, .ptr (some (h2.size, 0)))] ∧ HH g h' [.obj h2.size (.cells none 2 [vs eS x6.L, Ai x7]), .AL r3 35 (AL AF x8), .AL rp0 35 (AL AF p0)] F) ∨ False) ?_ ?_
   ·replace hm := ho
    clear ho
    refine AH 4 (DV 1 [] 23 0 0 A H fun fr t H => ?_)
    obtain ⟨x10, hx, hm⟩ := bind_some hm
    obtain ⟨v1, h5, hr, rfl, A1⟩ := Hf (av := [vs eS x6.L, vs eS p1]) hx (A.cut 0)
    replace A := A.Ri A1
    refine CP 1 [] 25 hr H fun fr t H => ?_
    refine Dg id (BK 25 H hm (fun hb hm H => ?_) fun hb hm H => ?_)
    ·refine AS ?_
     obtain ⟨o3, ho, hm⟩ := bind_some hm
     refine Al (Q' := fun e fr' h' => (∃ x11, e = .normal ∧ x11 = o3 ∧ Has fr' 57 [(0, AJ rp0 p0.length), (1, vs eS p1), (2, Ai p2), (7, AJ r1 x1.length), (9, Ai x3), (10, .ptr (some (h2.size, 0)))] ∧ HH g h' [.obj h2.size (.cells none 2 [vs eS x6.L, Ai x11]), .AL r1 35 (AL AF x1), .AL rp0 35 (AL AF p0)] F) ∨ False) ?_ ?_
     ·replace hm := ho
      clear ho
      refine AH 2 (AQ 2 [(27, .bool (decide (p2 ≥ 0)))] H fun fr H => BK 27 H hm (fun hb hm H => ?_) fun hb hm H => ?_)
      ·refine CQ 3 ?_
       obtain ⟨h6, hx, A⟩ := A.s0 1 [Ai p2] [_, _]
       refine QI 2 [] hx H fun fr t H => ?_
       refine at_nil ?_
       exact .inl ⟨_, rfl, Aq hm, H.ls, A⟩
      exact Ea (.inl ⟨_, rfl, Aq hm, H.ls, A⟩)
     clear ho
     clear A
     intro e fr h7 hQ
     rcases hQ with ⟨x11, rfl, rfl, H, A⟩ | hF
     ·show AW _ _ _ _ _ _ _
      refine CQ 1 (Ax 1 [(8, .bool true)] H fun fr H => at_nil ?_)
      exact .inl ⟨_, _, _, rfl, Aq hm, _, H.ls, A⟩
     exact hF.elim
    refine AH 8 (Ax 3 [(32, .bool (!x2))] H fun fr H => ?_)
    obtain ⟨x12, ho, hm⟩ := bind_some hm
    refine HJ 5 (fun fr' h' => Has fr' 57 [(0, AJ rp0 p0.length), (1, vs eS p1), (2, Ai p2), (7, AJ r1 x1.length), (8, .bool x2), (9, Ai x3), (10, .ptr (some (h2.size, 0))), (37, .bool x12)] ∧ HH g h' [.obj h2.size (.cells none 2 [vs eS x6.L, Ai x6.At]), .AL r1 35 (AL AF x1), .AL rp0 35 (AL AF p0)] F) ?_ ?_
    ·rcases DL ho with ⟨hb, hm⟩ | ⟨hb, hm⟩
     ·replace H := H.kn 32 hb
      refine DV 2 [(33, vs eS p1)] 35 0 0 A H fun fr t H => ?_
      obtain ⟨x13, hx, hm⟩ := bind_some hm
      obtain ⟨v1, h9, hr, rfl, A1⟩ := Hk (av := [vs eS p1, vs eS x6.L]) hx (A.cut 0)
      replace A := A.Ri A1
      refine Cc 36 hr H fun fr t H => ?_
      refine Ax 1 [(37, .bool x13)] H fun fr H => ?_
      obtain rfl := Aq hm
      exact at_nil ⟨H.ls, A⟩
     replace H := H.kn 32 hb
     refine Ax 5 [(37, .bool false)] H fun fr H => ?_
     obtain rfl := Aq hm
     exact at_nil ⟨H.ls, A⟩
    clear A
    intro t fr h8 hK
    obtain ⟨H, A⟩ := hK
    refine Dg id (BK 37 H hm (fun hb hm H => ?_) fun hb hm H => ?_)
    ·refine AH 7 (Ax 4 [(38, AJ r1 x1.length), (41, .agg [vs eS p1, Ai p2])] H fun fr H => ?_)
     obtain ⟨h10, e3, A⟩ := A.pL 35 [vs eS p1, Ai p2]
     refine Cw 42 (AJ (some h8.size) (([(⟨p1, p2⟩ : AD)] : List AD).length)) e3 H fun fr t H => ?_
     obtain ⟨hb, hm⟩ := Ag hm
     obtain ⟨r4, h11, hx, A1⟩ := HH.NF Ad (by decide) A 2 (xs := x1) (ys := ([(⟨p1, p2⟩ : AD)] : List AD)) rfl (Dd A 0 rfl (n := ([(⟨p1, p2⟩ : AD)] : List AD).length) (z := 2) rfl (by decide)) rfl rfl hb
     replace A : HH g h11 [.AL (some h8.size) 35 ([vs eS p1, Ai p2]), _, .AL r4 35 (AL AF (x1 ++ ([(⟨p1, p2⟩ : AD)] : List AD))), _] F := A1
     replace A := A.k3 1 2 3
     refine Az 43 _ _ H (fun fr => .of (Jo (s := DC r1 x1.length) (by kernel_rfl) hx)) fun fr t H => ?_
     refine Bk 1 [(0, AJ rp0 p0.length), (1, vs eS p1), (2, Ai p2), (7, AJ r4 ((x1 ++ ([(⟨p1, p2⟩ : AD)] : List AD)).length)), (9, Ai x3), (10, .ptr (some (h2.size, 0)))] H fun fr H => IG 1 id (Ax 1 [(8, .bool true)] H fun fr H => at_nil ?_)
     exact .inl ⟨_, _, _, rfl, Aq hm, _, H.ls, A⟩
    exact Ea (.inl ⟨_, _, _, rfl, Aq hm, _, H.ls, A⟩)
   clear ho
   clear A
   intro e fr h12 hQ
   rcases hQ with ⟨x7, x8, x9, rfl, rfl, r3, H, A⟩ | hF
   ·show AW _ _ _ _ _ _ _
    refine CQ 5 (BE 1 [(44, AJ r3 x8.length)] 45 _ _ H (fun fr => .of (QW (by kernel_rfl) (A.UJ 0 rfl (o := 0) (n := 2) ⟨Nat.le_of_ble_eq_true rfl, rfl⟩))) fun fr t H => ?_)
    obtain ⟨h13, e4, A⟩ := A.pL 35 [vs eS x6.L, Ai x7]
    refine Cw 46 (AJ (some h12.size) (([(⟨x6.L, x7⟩ : AD)] : List AD).length)) e4 H fun fr t H => ?_
    obtain ⟨hb, hm⟩ := Ag hm
    obtain ⟨r5, h14, hx, A1⟩ := HH.NF Ad (by decide) A 2 (xs := x8) (ys := ([(⟨x6.L, x7⟩ : AD)] : List AD)) rfl (Dd A 0 rfl (n := ([(⟨x6.L, x7⟩ : AD)] : List AD).length) (z := 2) rfl (by decide)) rfl rfl hb
    replace A : HH g h14 [.AL (some h12.size) 35 ([vs eS x6.L, Ai x7]), _, .AL r5 35 (AL AF (x8 ++ ([(⟨x6.L, x7⟩ : AD)] : List AD))), _] F := A1
    replace A := A.k3 1 2 3
    refine Az 47 _ _ H (fun fr => .of (Jo (s := DC r3 x8.length) (by kernel_rfl) hx)) fun fr t H => ?_
    refine Bk 1 [(0, AJ rp0 p0.length), (1, vs eS p1), (2, Ai p2), (7, AJ r5 ((x8 ++ ([(⟨x6.L, x7⟩ : AD)] : List AD)).length)), (8, .bool x9), (9, Ai x3)] H fun fr H => IG 3 id (Bk 3 [(0, AJ rp0 p0.length), (1, vs eS p1), (2, Ai p2), (7, AJ r5 ((x8 ++ ([(⟨x6.L, x7⟩ : AD)] : List AD)).length)), (8, .bool x9), (9, Ai (IntKind.i64.wrap (x3 + 1)))] H fun fr H => at_nil ?_)
    replace A := A.k2 1 2
    exact nx hm ⟨_, _, _, rfl, _, H.ls, A⟩
   exact hF.elim
  refine B0 (i := 0) (by kernel_rfl) ?_
  exact nr hm fun e => .inl ⟨_, _, rfl, e, _, H.ls, A⟩
 clear ho
 clear A
 intro e fr h15 hQ
 rcases hQ with ⟨x4, x5, rfl, rfl, r2, H, A⟩ | hF
 ·show AW _ _ _ _ _ _ _
  refine AS ?_
  obtain ⟨o4, ho, hm⟩ := bind_some hm
  refine Al (Q' := fun e fr' h' => (∃ x14, e = .normal ∧ x14 = o4 ∧ ∃ r6, Has fr' 57 [(7, AJ r6 x14.length)] ∧ HH g h' [.AL r6 35 (AL AF x14), .AL rp0 35 (AL AF p0)] F) ∨ False) ?_ ?_
  ·replace hm := ho
   clear ho
   refine AH 2 (AQ 2 [(49, .bool (!x5))] H fun fr H => BK 49 H hm (fun hb hm H => ?_) fun hb hm H => ?_)
   ·refine CQ 7 (Ax 4 [(50, AJ r2 x4.length), (53, .agg [vs eS p1, Ai p2])] H fun fr H => ?_)
    obtain ⟨h16, e5, A⟩ := A.pL 35 [vs eS p1, Ai p2]
    refine Cw 54 (AJ (some h15.size) (([(⟨p1, p2⟩ : AD)] : List AD).length)) e5 H fun fr t H => ?_
    obtain ⟨hb, hm⟩ := Ag hm
    obtain ⟨r7, h17, hx, A1⟩ := HH.NF Ad (by decide) A 1 (xs := x4) (ys := ([(⟨p1, p2⟩ : AD)] : List AD)) rfl (Dd A 0 rfl (n := ([(⟨p1, p2⟩ : AD)] : List AD).length) (z := 2) rfl (by decide)) rfl rfl hb
    replace A : HH g h17 [.AL (some h15.size) 35 ([vs eS p1, Ai p2]), .AL r7 35 (AL AF (x4 ++ ([(⟨p1, p2⟩ : AD)] : List AD))), _] F := A1
    replace A := A.k2 1 2
    refine Az 55 _ _ H (fun fr => .of (Jo (s := DC r2 x4.length) (by kernel_rfl) hx)) fun fr t H => ?_
    refine Bk 1 [(7, AJ r7 ((x4 ++ ([(⟨p1, p2⟩ : AD)] : List AD)).length))] H fun fr H => at_nil ?_
    exact .inl ⟨_, rfl, Aq hm, _, H.ls, A⟩
   exact Ea (.inl ⟨_, rfl, Aq hm, _, H.ls, A⟩)
  clear ho
  clear A
  intro e fr h18 hQ
  rcases hQ with ⟨x14, rfl, rfl, r6, H, A⟩ | hF
  ·show AW _ _ _ _ _ _ _
   refine AH 2 (AQ 2 [(6, AJ r6 x14.length)] H fun fr H => BV ?_)
   obtain rfl := Aq hm
   exact ⟨.inl rfl, _, rH H, _, rfl, A⟩
  exact hF.elim
 exact hF.elim
def Cs (p0 : List (List UInt8)) (s : (List UInt8) × Int) : Option (((List UInt8) × Int) ⊕ (((List UInt8)))) :=
 match s with
 | (x1, x2) => BM (decide (x2 < (p0.length : Int))) (((Fv p0 x2).bind fun x5 => BM (x5 == ([] : List UInt8)) (some x1) ((BM (!(x1 == ([] : List UInt8))) (Dm (decide (x1.length + ([47] : List UInt8).length ≤ 9223372036854775807)) <| some (x1 ++ ([47] : List UInt8))) (some x1) : Option (((List UInt8)))).bind fun x6 => (Fv p0 x2).bind fun x7 => Dm (decide (x6.length + x7.length ≤ 9223372036854775807)) <| some (x6 ++ x7)) : Option (((List UInt8)))).bind fun x4 => some (.inl (x4, IntKind.i64.wrap (x2 + 1)))) (some (.inr x1))
def Bo (p0 : List (List UInt8)) : Option ((List UInt8)) :=
 (loop (Cs p0) (([] : List UInt8), (0 : Int))).bind fun x3 => some x3
theorem Dv {p0 q0} (hm : Bo p0 = some q0) (A : HH g h [] F) (hc : B3 (cfg.still 11) av = [vs eS p0] := by kernel_rfl) : ∃ v h', CC cfg g h 11 av v h' ∧ v = .str q0 ∧ HH g h' [] F := by
 refine HO 27 [.tmp 2] hc ?_
 clear hc
 unfold Bo at hm
 refine bg 27 [(0, vs eS p0)] fun fr H => ?_
 refine AH 1 (DP 1 [] 1 H fun fr H => AQ 1 [(3, .str ([] : List UInt8))] H fun fr H => AS (AH 1 (AQ 1 [(4, Ai 0)] H fun fr H => AM (id := 0) (by kernel_rfl) ?_)))
 obtain ⟨o1, ho, hm⟩ := bind_some hm
 refine Al (Q' := fun e fr' h' => (∃ x3, e = .exit 0 ∧ x3 = o1 ∧ Has fr' 27 [(3, .str x3)] ∧ HH g h' [] F) ∨ False) ?_ ?_
 ·refine CA (by kernel_rfl) (fun (s : (List UInt8) × Int) fr' h' => ∃ x1 x2, (x1, x2) = s ∧ Has fr' 27 [(0, vs eS p0), (3, .str x1), (4, Ai x2)] ∧ HH g h' [] F) ho ⟨_, _, rfl, H.ls, A⟩ ?_
  clear ho hm H A
  intro s q fr h1 hI hm
  obtain ⟨x1, x2, rfl, H, A⟩ := hI
  unfold Cs at hm
  refine AS (AH 4 (AQ 4 [(8, .bool (decide (x2 < (p0.length : Int))))] H fun fr H => BK 8 H hm (fun hb hm H => ?_) fun hb hm H => ?_))
  ·refine C8 id (AS ?_)
   obtain ⟨o2, ho, hm⟩ := bind_some hm
   refine Al (Q' := fun e fr' h' => (∃ x4, e = .normal ∧ x4 = o2 ∧ Has fr' 27 [(0, vs eS p0), (3, .str x4), (4, Ai x2)] ∧ HH g h' [] F) ∨ False) ?_ ?_
   ·replace hm := ho
    clear ho
    refine AM (id := 1) (by kernel_rfl) ?_
    refine AS (AH 5 ?_)
    obtain ⟨x5, hx, hm⟩ := bind_some hm
    refine BE 2 [] 13 (.DF [.str x5]) h1 H (fun fr => .of (Hi (e := eS) (x := x5) encS (by decide) (by kernel_rfl) hx)) fun fr t H => ?_
    refine Az 14 (.str x5) h1 H (fun fr => .of (Lg (by kernel_rfl))) fun fr t H => ?_
    refine AQ 1 [(15, .bool (x5 == ([] : List UInt8)))] H fun fr H => BK 15 H hm (fun hb hm H => ?_) fun hb hm H => ?_
    ·refine B0 (i := 1) (by kernel_rfl) ?_
     exact .inl ⟨_, rfl, Aq hm, H.ls, A⟩
    refine C8 id (AS ?_)
    obtain ⟨o3, ho, hm⟩ := bind_some hm
    refine Al (Q' := fun e fr' h' => (∃ x6, e = .normal ∧ x6 = o3 ∧ Has fr' 27 [(0, vs eS p0), (3, .str x6), (4, Ai x2)] ∧ HH g h' [] F) ∨ False) ?_ ?_
    ·replace hm := ho
     clear ho
     refine AH 2 (AQ 2 [(17, .bool (!(x1 == ([] : List UInt8))))] H fun fr H => BK 17 H hm (fun hb hm H => ?_) fun hb hm H => ?_)
     ·refine CQ 3 (Ax 1 [(18, .str x1)] H fun fr H => ?_)
      obtain ⟨hb, hm⟩ := Ag hm
      refine Az 19 (.str (x1 ++ ([47] : List UInt8))) h1 H (fun fr => .of (L7 (by kernel_rfl) hb)) fun fr t H => ?_
      refine Bk 1 [(0, vs eS p0), (3, .str (x1 ++ ([47] : List UInt8))), (4, Ai x2)] H fun fr H => at_nil ?_
      exact .inl ⟨_, rfl, Aq hm, H.ls, A⟩
     exact Ea (.inl ⟨_, rfl, Aq hm, H.ls, A⟩)
    clear ho
    clear A
    intro e fr h2 hQ
    rcases hQ with ⟨x6, rfl, rfl, H, A⟩ | hF
    ·show AW _ _ _ _ _ _ _
     refine CQ 7 ?_
     obtain ⟨x7, hx, hm⟩ := bind_some hm
     refine BE 3 [(20, .str x6)] 23 (.DF [.str x7]) h2 H (fun fr => .of (Hi (e := eS) (x := x7) encS (by decide) (by kernel_rfl) hx)) fun fr t H => ?_
     refine Az 24 (.str x7) h2 H (fun fr => .of (Lg (by kernel_rfl))) fun fr t H => ?_
     obtain ⟨hb, hm⟩ := Ag hm
     refine Az 25 (.str (x6 ++ x7)) h2 H (fun fr => .of (L7 (by kernel_rfl) hb)) fun fr t H => ?_
     refine Bk 1 [(0, vs eS p0), (3, .str (x6 ++ x7)), (4, Ai x2)] H fun fr H => at_nil ?_
     exact .inl ⟨_, rfl, Aq hm, H.ls, A⟩
    exact hF.elim
   clear ho
   clear A
   intro e fr h3 hQ
   rcases hQ with ⟨x4, rfl, rfl, H, A⟩ | hF
   ·show AW _ _ _ _ _ _ _
    refine CQ 3 (Bk 3 [(0, vs eS p0), (3, .str x4), (4, Ai (IntKind.i64.wrap (x2 + 1)))] H fun fr H => at_nil ?_)
    exact nx hm ⟨_, _, rfl, H.ls, A⟩
   exact hF.elim
  refine B0 (i := 0) (by kernel_rfl) ?_
  exact nr hm fun e => .inl ⟨_, rfl, e, H.ls, A⟩
 clear ho
 clear A
 intro e fr h4 hQ
 rcases hQ with ⟨x3, rfl, rfl, H, A⟩ | hF
 ·show AW _ _ _ _ _ _ _
  refine AH 2 (AQ 2 [(2, .str x3)] H fun fr H => BV ?_)
  obtain rfl := Aq hm
  exact ⟨.inl rfl, _, rH H, rfl, A⟩
 exact hF.elim
end
end Go.Av.L
