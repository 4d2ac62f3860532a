/-
 A part.
-/
import Derived.Test.YtdbkpibbjnhmgaaDoorKCfg
import Derived.Test.YtdbkpibbjnhmgaaDoorK0
namespace Go.Av.L
open Go.Av Go.Lib
set_option maxRecDepth 10000
set_option linter.unusedVariables false
set_option linter.unusedSimpArgs false
variable {g : Gd} {h : AB} {F : List Ck} {av : List AA}
noncomputable section
structure Br where
 Be : {SY RY : Type} → Nat → (List UInt8) → (SY → ((List UInt8) × Nat) → Option (SY ⊕ RY)) → (SY ⊕ RY) → (List AF) → Option (Bool × (SY ⊕ RY))
structure Dt (S : Br) : Prop where
 CN : ∀ {g : Gd} {h : AB} {F : List Ck} {SY RY : Type} {R : SY ⊕ RY → List Ck → Prop} {I : IF} {p0 : Nat} {p1 : List UInt8} {Y : SY → ((List UInt8) × Nat) → Option (SY ⊕ RY)} {y : SY ⊕ RY} {ar : List AF} {l : Nat} {q0 : Bool} {yq : SY ⊕ RY} {av : List AA} (hm : S.Be p0 p1 Y y ar = some (q0, yq)) (hc : Bp (cfg.still 34) av = [.ptr (some (BA I p0, 0)), .str p1, .IZ l]) (hYR : YR cfg g l (fun x => [.str x.1, .ptr (some (BA I x.2, 0))]) Y R) (B : R y F) (hF : ∀ y F, R y F → EW BC I ar ∈ F) (A : HH g h [] F), ∃ v h', Bz cfg g h 34 av v h' ∧ v = .bool q0 ∧ ∃ F, R yq F ∧ HH g h' [] F
def Ds {SY RY : Type} (S : Br) (p0 : Nat) (p1 : List UInt8) (Y : SY → ((List UInt8) × Nat) → Option (SY ⊕ RY)) (ar : List AF) (x1 : AF) (s : Int × (SY ⊕ RY)) : Option ((Int × (SY ⊕ RY)) ⊕ (((SY ⊕ RY)) ⊕ (Bool × (SY ⊕ RY)))) :=
 match s with
 | (x2, y1) => Ax (decide (x2 < ((Az (x1.AP.map Prod.fst)).length : Int))) ((Em (Az (x1.AP.map Prod.fst)) x2).bind fun x4 => DW (decide (p1.length + x4.length ≤ 9223372036854775807)) <| (ar[p0]?).bind fun x5 => Kq (Cb x5.AP x4) (fun x6 => (Sy Y y1 (p1 ++ x4, x6)).bind fun (x7, y4) => (Ax (!x7) (some (true, y4)) ((ar[p0]?).bind fun x9 => Kq (Cb x9.AP x4) (fun x10 => DW (decide ((p1 ++ x4).length + ([47] : List UInt8).length ≤ 9223372036854775807)) <| (S.Be x10 ((p1 ++ x4) ++ ([47] : List UInt8)) Y y4 ar).bind fun (x11, y6) => some (!x11, y6)) (DW (decide ((p1 ++ x4).length + ([47] : List UInt8).length ≤ 9223372036854775807)) <| none)) : Option (Bool × (SY ⊕ RY))).bind fun (x8, y5) => Ax x8 (some (.inr (.inr (false, y5)))) (some (.inl (IntKind.i64.wrap (x2 + 1), y5)))) (none)) (some (.inr (.inl y1)))
def DI {SY RY : Type} (S : Br) (p0 : Nat) (p1 : List UInt8) (Y : SY → ((List UInt8) × Nat) → Option (SY ⊕ RY)) (y : SY ⊕ RY) (ar : List AF) : Option (Bool × (SY ⊕ RY)) :=
 (ar[p0]?).bind fun x1 => DW (HJ (x1.AP.map Prod.fst)) <| (loop (Ds S p0 p1 Y ar x1) ((0 : Int), y)).bind fun o1 => (match o1 with | .inl y2 => some (true, y2) | .inr (x3, y3) => some (x3, y3))
theorem F3 {S : Br} (hS : Dt S) {SY RY : Type} {R : SY ⊕ RY → List Ck → Prop} {I p0 p1} {Y : SY → ((List UInt8) × Nat) → Option (SY ⊕ RY)} {y : SY ⊕ RY} {ar l q0} {yq : SY ⊕ RY} (hm : DI S p0 p1 Y y ar = some (q0, yq)) (hc : Bp (cfg.still 34) av = [.ptr (some (BA I p0, 0)), .str p1, .IZ l]) (hYR : YR cfg g l (fun x => [.str x.1, .ptr (some (BA I x.2, 0))]) Y R) (B : R y F) (hF : ∀ y F, R y F → EW BC I ar ∈ F) (A : HH g h [] F) : ∃ v h', Bz cfg g h 34 av v h' ∧ v = .bool q0 ∧ ∃ F, R yq F ∧ HH g h' [] F := by
 refine G7 48 [.tmp 6] hc ?_
 clear hc
 unfold DI at hm
 refine bg 48 [(0, .ptr (some (BA I p0, 0))), (1, .str p1), (2, .IZ l)] fun fr H => ?_
 refine AH 1 (AN 1 [] H fun fr H => AR (AH 8 ?_))
 obtain ⟨x1, hq1, hm⟩ := bind_some hm
 refine Ad 3 [] 13 _ _ H (fun fr => .of (DN (by kernel_rfl) (FZ (N := BC) (I := I) (A.okF (hF _ _ B)) hq1 (o := 2) (v := .map (some (CO I p0))) rfl))) fun fr t H => ?_
 obtain ⟨h1, e1, A⟩ := A.pu (.cells none 2 [.map (some (CO I p0))])
 have hr : ∀ g, Bz cfg g h 30 [.map (some (CO I p0))] (.func (.func 44) [] [.ptr (some (h.size, 0))]) h1 := fun g => by rw [e1]; exact ⟨2, by kernel_rfl⟩
 refine Am 14 _ _ H (fun fr => Steps.call (by kernel_rfl) (hr _)) fun fr t H => ?_
 have A1 := A.cut 1
 obtain ⟨hb, hm⟩ := Ac hm
 obtain ⟨r1, h2, hr, A1⟩ := NK (C := cfg) (f := 29) (it := 44) (t := 9) (N := BC) (I := I) A1 (A.okF (hF _ _ B)) hq1 (by kernel_rfl) (l := exts) rfl (by kernel_rfl) 0 rfl hb
 replace A := A.g12 A1
 refine Co 15 hr H fun fr t H => ?_
 refine AN 2 [(16, Ai ((Az (x1.AP.map Prod.fst)).length : Int)), (17, Ai 0)] H fun fr H => AO (id := 0) (by kernel_rfl) ?_
 obtain ⟨o1, ho, hm⟩ := bind_some hm
 refine Af (Q' := fun e fr' h' => (∃ (y2 : SY ⊕ RY), e = .exit 0 ∧ .inl y2 = o1 ∧ Has fr' 48 [] ∧ ∃ F, R y2 F ∧ HH g h' [.obj h.size (.cells none 2 [.map (some (CO I p0))])] F) ∨ (∃ x3, ∃ (y3 : SY ⊕ RY), e = .ret ∧ .inr (x3, y3) = o1 ∧ Has fr' 48 [(6, .bool x3)] ∧ ∃ F, R y3 F ∧ HH g h' [.obj h.size (.cells none 2 [.map (some (CO I p0))])] F) ∨ False) ?_ ?_
 ·refine Bn (by kernel_rfl) (fun (s : Int × (SY ⊕ RY)) fr' h' => ∃ x2, ∃ (y1 : SY ⊕ RY), (x2, y1) = s ∧ Has fr' 48 [(0, .ptr (some (BA I p0, 0))), (1, .str p1), (2, .IZ l), (15, AJ r1 ((Az (x1.AP.map Prod.fst)).length)), (16, Ai ((Az (x1.AP.map Prod.fst)).length : Int)), (17, Ai x2)] ∧ ∃ F, R y1 F ∧ HH g h' [.AL r1 9 (AL eS (Az (x1.AP.map Prod.fst))), .obj h.size (.cells none 2 [.map (some (CO I p0))])] F) ho ⟨(0 : Int), y, rfl, H.ls, ⟨F, B, A⟩⟩ ?_
  clear ho hm H A
  intro s q fr h3 hI hm
  obtain ⟨x2, y1, rfl, H, ⟨F, B, A⟩⟩ := hI
  unfold Ds at hm
  refine AH 1 (AN 1 [(18, .bool (decide (x2 < ((Az (x1.AP.map Prod.fst)).length : Int))))] H fun fr H => AR (Aw 18 H hm (fun hb hm H => ?_) fun hb hm H => ?_))
  ·refine CZ id (AR (AO (id := 1) (by kernel_rfl) ?_))
   refine AH 3 ?_
   obtain ⟨x4, hx, hm⟩ := bind_some hm
   obtain ⟨i1, er1, _, hx, hq2⟩ := HH.Kr encS (by decide) A 0 (xs := (Az (x1.AP.map Prod.fst))) rfl hx
   refine Am 19 (.ptr (some (i1, x2.toNat * 1))) h3 H (fun fr => .of (Db (s := Cq r1 ((Az (x1.AP.map Prod.fst)).length)) (by kernel_rfl) hx)) fun fr t H => ?_
   refine Am 20 _ _ H (fun fr => .of (DN (by kernel_rfl) (Cm encS (HH.row A 0 rfl er1) hq2 (o := 0) rfl))) fun fr t H => ?_
   refine DC 1 [(8, .str x4)] 4 H fun fr H => Al 2 [(21, .str p1), (22, .str x4)] H fun fr H => ?_
   obtain ⟨hb, hm⟩ := Ac hm
   refine Am 23 (.str (p1 ++ x4)) h3 H (fun fr => .of (Ii (by kernel_rfl) hb)) fun fr t H => ?_
   refine DC 1 [(9, .str (p1 ++ x4))] 23 H fun fr H => ?_
   obtain ⟨x5, hq3, hm⟩ := bind_some hm
   refine Ad 5 [(24, .IZ l), (25, .str (p1 ++ x4))] 29 _ _ H (fun fr => .of (DN (by kernel_rfl) (FZ (N := BC) (I := I) (A.okF (hF _ _ B)) hq3 (o := 2) (v := .map (some (CO I p0))) rfl))) fun fr t H => ?_
   rcases Et hm with ⟨x6, hq4, hm⟩ | ⟨hq4, hm⟩
   ·refine Ad 1 [] 31 (.ptr (some (BA I x6, 0))) h3 H (fun fr => .of (GY (by kernel_rfl) (Fz (N := BC) (I := I) (A.okF (hF _ _ B)) hq3 (kt := 9) (et := 52) (by kernel_rfl) (t := 56) (by kernel_rfl) (zv := .ptr none) (by kernel_rfl) (s := x4) (v := x6) hq4))) fun fr t H => ?_
    obtain ⟨⟨x7, y4⟩, hx, hm⟩ := bind_some hm
    obtain ⟨h4, F, hr, B, A⟩ := hYR.Sy (pr := []) .nil A B hx
    refine Am 32 (.bool x7) h4 H (fun fr => Steps.round (by kernel_rfl) hr) fun fr t H => ?_
    refine Al 2 [(34, .bool (!x7))] H fun fr H => ?_
    obtain ⟨⟨x8, y5⟩, ho, hm⟩ := bind_some hm
    refine Gf 12 (fun fr' h' => Has fr' 48 [(0, .ptr (some (BA I p0, 0))), (1, .str p1), (2, .IZ l), (15, AJ r1 ((Az (x1.AP.map Prod.fst)).length)), (16, Ai ((Az (x1.AP.map Prod.fst)).length : Int)), (17, Ai x2), (46, .bool x8)] ∧ ∃ F, R y5 F ∧ HH g h' [.AL r1 9 (AL eS (Az (x1.AP.map Prod.fst))), .obj h.size (.cells none 2 [.map (some (CO I p0))])] F) ?_ ?_
    ·rcases DU ho with ⟨hb, hm⟩ | ⟨hb, hm⟩
     ·replace H := H.kn 34 hb
      refine Al 12 [(46, .bool true)] H fun fr H => ?_
      obtain ⟨rfl, rfl⟩ := Ie hm
      exact at_nil ⟨H.ls, ⟨F, B, A⟩⟩
     replace H := H.kn 34 hb
     obtain ⟨x9, hq5, hm⟩ := bind_some hm
     refine Ad 3 [] 38 _ _ H (fun fr => .of (DN (by kernel_rfl) (FZ (N := BC) (I := I) (A.okF (hF _ _ B)) hq5 (o := 2) (v := .map (some (CO I p0))) rfl))) fun fr t H => ?_
     rcases Et hm with ⟨x10, hq6, hm⟩ | ⟨hq6, hm⟩
     ·refine Ad 1 [] 40 (.ptr (some (BA I x10, 0))) h4 H (fun fr => .of (GY (by kernel_rfl) (Fz (N := BC) (I := I) (A.okF (hF _ _ B)) hq5 (kt := 9) (et := 52) (by kernel_rfl) (t := 56) (by kernel_rfl) (zv := .ptr none) (by kernel_rfl) (s := x4) (v := x10) hq6))) fun fr t H => ?_
      refine Al 1 [(41, .str (p1 ++ x4))] H fun fr H => ?_
      obtain ⟨hb, hm⟩ := Ac hm
      refine Am 42 (.str ((p1 ++ x4) ++ ([47] : List UInt8))) h4 H (fun fr => .of (Ii (by kernel_rfl) hb)) fun fr t H => ?_
      have A1 := A.cut 0
      obtain ⟨⟨x11, y6⟩, hx, hm⟩ := bind_some hm
      obtain ⟨hYR1, B1, hF1⟩ := HH.Vq A 0 hYR B hF
      obtain ⟨v1, h6, hr, rfl, F1, B1, A1⟩ := hS.CN (av := [.ptr (some (BA I x10, 0)), .str ((p1 ++ x4) ++ ([47] : List UInt8)), .IZ l]) hx (by kernel_rfl) hYR1 B1 hF1 A1
      obtain ⟨F, eF, B⟩ := B1
      subst eF
      replace A : HH g h6 [.AL r1 9 (AL eS (Az (x1.AP.map Prod.fst))), .obj h.size (.cells none 2 [.map (some (CO I p0))])] F := A.UR (n := 0) A1 --T2
      refine Bg 1 [] 44 hr H fun fr t H => ?_
      refine Al 2 [(46, .bool (!x11))] H fun fr H => ?_
      obtain ⟨rfl, rfl⟩ := Ie hm
      exact at_nil ⟨H.ls, ⟨F, B, A⟩⟩
     refine Ad 1 [] 40 (.ptr none) h4 H (fun fr => .of (GY (by kernel_rfl) (GJ (N := BC) (I := I) (A.okF (hF _ _ B)) hq5 (kt := 9) (et := 52) (by kernel_rfl) (t := 56) (by kernel_rfl) (zv := .ptr none) (by kernel_rfl) (s := x4) hq6))) fun fr t H => ?_
     refine Al 1 [(41, .str (p1 ++ x4))] H fun fr H => ?_
     obtain ⟨hb, hm⟩ := Ac hm
     refine Am 42 (.str ((p1 ++ x4) ++ ([47] : List UInt8))) h4 H (fun fr => .of (Ii (by kernel_rfl) hb)) fun fr t H => ?_
     cases hm
    clear A
    intro t fr h5 hK
    obtain ⟨H, ⟨F, B, A⟩⟩ := hK
    refine ET id (Aw 46 H hm (fun hb hm H => ?_) fun hb hm H => ?_)
    ·refine AH 1 (AN 1 [(6, .bool false)] H fun fr H => BB ?_)
     replace A := A.k1 1
     exact nr hm fun e => Or.inr (.inl ⟨false, y5, rfl, e, H.ls, ⟨F, B, A⟩⟩)
    refine IK 2 id (Bf 2 [(0, .ptr (some (BA I p0, 0))), (1, .str p1), (2, .IZ l), (15, AJ r1 ((Az (x1.AP.map Prod.fst)).length)), (16, Ai ((Az (x1.AP.map Prod.fst)).length : Int)), (17, Ai (IntKind.i64.wrap (x2 + 1)))] H fun fr H => at_nil ?_)
    exact nx hm ⟨IntKind.i64.wrap (x2 + 1), y5, rfl, H.ls, ⟨F, B, A⟩⟩
   refine Ad 1 [] 31 (.ptr none) h3 H (fun fr => .of (GY (by kernel_rfl) (GJ (N := BC) (I := I) (A.okF (hF _ _ B)) hq3 (kt := 9) (et := 52) (by kernel_rfl) (t := 56) (by kernel_rfl) (zv := .ptr none) (by kernel_rfl) (s := x4) hq4))) fun fr t H => ?_
   cases hm
  refine Bi (i := 0) (by kernel_rfl) ?_
  replace A := A.k1 1
  exact nr hm fun e => .inl ⟨y1, rfl, e, H.ls, ⟨F, B, A⟩⟩
 clear ho
 clear A
 intro e fr h7 hQ
 rcases hQ with ⟨y2, rfl, rfl, H, ⟨F, B, A⟩⟩ | ⟨x3, y3, rfl, rfl, H, ⟨F, B, A⟩⟩ | hF
 ·show AW _ _ _ _ _ _ _
  refine AH 1 (AN 1 [(6, .bool true)] H fun fr H => BB ?_)
  obtain ⟨rfl, rfl⟩ := Ie hm
  refine ⟨.inl rfl, .bool true, rH H, ?_⟩
  replace A := A.d0
  exact ⟨rfl, ⟨F, B, A⟩⟩
 ·obtain ⟨rfl, rfl⟩ := Ie hm
  refine ⟨.inl rfl, .bool x3, rH H, ?_⟩
  replace A := A.d0
  exact ⟨rfl, ⟨F, B, A⟩⟩
 exact hF.elim
def C6 : Nat → Br
 | 0 => ⟨fun _ _ _ _ _ => none⟩
 | n + 1 => ⟨DI (C6 n)⟩
theorem Dh  : ∀ n, Dt (C6 n)
 | 0 => ⟨fun hm => (by cases hm)⟩
 | n + 1 => ⟨fun hm hc hYR B hF A => F3 (Dh n) hm hc hYR B hF A⟩
def Be : {SY RY : Type} → Nat → (List UInt8) → (SY → ((List UInt8) × Nat) → Option (SY ⊕ RY)) → (SY ⊕ RY) → (List AF) → Option (Bool × (SY ⊕ RY)) := (C6 Fb).Be
theorem CN {SY RY : Type} {R : SY ⊕ RY → List Ck → Prop} {I p0 p1} {Y : SY → ((List UInt8) × Nat) → Option (SY ⊕ RY)} {y : SY ⊕ RY} {ar l q0} {yq : SY ⊕ RY} (hm : Be p0 p1 Y y ar = some (q0, yq)) (hc : Bp (cfg.still 34) av = [.ptr (some (BA I p0, 0)), .str p1, .IZ l]) (hYR : YR cfg g l (fun x => [.str x.1, .ptr (some (BA I x.2, 0))]) Y R) (B : R y F) (hF : ∀ y F, R y F → EW BC I ar ∈ F) (A : HH g h [] F) : ∃ v h', Bz cfg g h 34 av v h' ∧ v = .bool q0 ∧ ∃ F, R yq F ∧ HH g h' [] F := (Dh Fb).CN hm hc hYR B hF A
def Cp {SY RY : Type} (Y : SY → ((List UInt8) × Nat) → Option (SY ⊕ RY)) (y : SY ⊕ RY) (p1_0 : Aj) (ar : List AF) : Option ((SY ⊕ RY)) :=
 (Be p1_0.Bb ([] : List UInt8) Y y ar).bind fun (x1, y1) => some y1
theorem FI {SY RY : Type} {R : SY ⊕ RY → List Ck → Prop} {I} {Y : SY → ((List UInt8) × Nat) → Option (SY ⊕ RY)} {y : SY ⊕ RY} {p1_0 ar l bp1 bp1_0} {yq : SY ⊕ RY} (hm : Cp Y y p1_0 ar = some yq) (hc : Bp (cfg.still 38) av = [.IZ l, .ptr (some (bp1, 0))]) (hYR : YR cfg g l (fun x => [.str x.1, .ptr (some (BA I x.2, 0))]) Y R) (B : R y F) (hF : ∀ y F, R y F → EW BC I ar ∈ F) (A : HH g h [.obj bp1 (.cells none 2 [.ptr (some (bp1_0, 0))]), .obj bp1_0 (.cells none 2 [.ptr (some (BA I p1_0.Bb, 0)), Ai p1_0.n_])] F) : ∃ v h', Bz cfg g h 38 av v h' ∧ v = .tuple [] ∧ ∃ F, R yq F ∧ HH g h' [.obj bp1 (.cells none 2 [.ptr (some (bp1_0, 0))]), .obj bp1_0 (.cells none 2 [.ptr (some (BA I p1_0.Bb, 0)), Ai p1_0.n_])] F := by
 refine G7 9 [] hc ?_
 clear hc
 unfold Cp at hm
 refine bg 9 [(0, .IZ l), (1, .ptr (some (bp1, 0)))] fun fr H => ?_
 refine B7 6 (Ip 3 0 0 A H fun fr t H => ?_)
 refine EA 2 [] 6 1 0 A H fun fr t H => ?_
 have A1 := A.cut 0
 obtain ⟨⟨x1, y1⟩, hx, hm⟩ := bind_some hm
 obtain ⟨hYR1, B1, hF1⟩ := HH.Vq A 0 hYR B hF
 obtain ⟨v1, h1, hr, rfl, F1, B1, A1⟩ := CN (av := [.ptr (some (BA I p1_0.Bb, 0)), .str ([] : List UInt8), .IZ l]) hx (by kernel_rfl) hYR1 B1 hF1 A1
 obtain ⟨F, eF, B⟩ := B1
 subst eF
 replace A : HH g h1 [_, _] F := A.UR (n := 0) A1 --T2
 refine SJ 1 [] hr H fun fr t H => ?_
 refine at_nil ?_
 obtain rfl := Ao hm
 refine ⟨.inr rfl, .tuple [], rH H, ?_⟩
 exact ⟨rfl, ⟨F, B, A⟩⟩
def C4 (ar : List AF) (s : (List (List UInt8))) (v1 : (List UInt8) × Nat) : Option (((List (List UInt8))) ⊕ (Unit)) :=
 match s with
 | x2 => (ar[v1.2]?).bind fun x3 => Ax (x3.at_ == (-1)) (DW (QX 16 (x2.length + ([v1.1] : List (List UInt8)).length)) <| some (.inl (x2 ++ ([v1.1] : List (List UInt8))))) (some (.inl x2))
def DV (p0 : Aj) (ar : List AF) : Option ((List (List UInt8))) :=
 (Dr p0 ar).bind fun _ => (Cp (C4 ar) (.inl ([] : List (List UInt8))) p0 ar).bind fun y1 => (match y1 with | .inl x2 => some x2 | .inr _ => none)
theorem Gn {I p0 ar bp0 q0} (hm : DV p0 ar = some q0) (hc : Bp (cfg.still 16) av = [.ptr (some (bp0, 0))]) (hF : EW BC I ar ∈ F) (A : HH g h [.obj bp0 (.cells none 2 [.ptr (some (BA I p0.Bb, 0)), Ai p0.n_])] F) : ∃ v h', Bz cfg g h 16 av v h' ∧ ∃ (rq0 : Option Nat), v = AJ rq0 q0.length ∧ HH g h' [.AL rq0 9 (AL eS q0), .obj bp0 (.cells none 2 [.ptr (some (BA I p0.Bb, 0)), Ai p0.n_])] F := by
 refine G7 20 [.tmp 2] hc ?_
 clear hc
 unfold DV at hm
 refine bg 20 [(0, .ptr (some (bp0, 0)))] fun fr H => ?_
 refine AH 1 (DC 1 [] 1 H fun fr H => ?_)
 obtain ⟨h1, e1, A⟩ := A.pu (.cells none 2 [.slice none 0])
 refine DE 3 (.ptr (some (h.size, 0))) e1 H fun fr t H => ?_
 refine ET id (AR (AH 2 ?_))
 replace A : HH g h1 [_, .obj h.size (.cells none 2 [.slice none 0])] F := (A.front 1 rfl)
 have A1 := A.cut 1
 obtain ⟨⟨⟩, hx, hm⟩ := bind_some hm
 obtain ⟨v1, h2, hr, bqw1_10, rfl, A1⟩ := HC (av := [.ptr (some (bp0, 0))]) hx (by kernel_rfl) (List.mem_append_right _ hF) A1
 replace A := A.g12 A1
 refine Bg 1 [] 7 hr H fun fr t H => ?_
 refine ET id (AO (id := 0) (by kernel_rfl) ?_)
 replace A : HH g h2 [.AL none 9 (AL eS ([] : List (List UInt8))), _, _, _] F := A.Qq 9
 replace A : HH g h2 [_, _, _, .obj h.size (.cells none 2 [AJ none (([] : List (List UInt8)).length)])] F := ((((A.front 3 rfl).front 1 rfl).front 3 rfl).front 3 rfl)
 obtain ⟨y1, ho, hm⟩ := bind_some hm
 refine RM (C := cfg) (x := .tmp 7) (ps := [8, 9]) (f' := 38) (first := []) (cap := [.ptr (some (bqw1_10, 0))]) (Lu := [.obj bqw1_10 (.cells none 2 [.ptr (some (bp0, 0))]), .obj bp0 (.cells none 2 [.ptr (some (BA I p0.Bb, 0)), Ai p0.n_])]) (Lc := [.AL none 9 (AL eS ([] : List (List UInt8))), .obj h.size (.cells none 2 [AJ none (([] : List (List UInt8)).length)])]) (F := F) (ex := fun x => [.str x.1, .ptr (some (BA I x.2, 0))]) (Y := C4 ar) (PL := fun s Lc => ∃ (x2 : List (List UInt8)), x2 = s ∧ ∃ (r1 : Option Nat), Lc = [.AL r1 9 (AL eS x2), .obj h.size (.cells none 2 [AJ r1 x2.length])]) (PR := fun r Lc => False) (pe := fun _ => .ret) (s := ([] : List (List UInt8))) (y := y1) (PU := fun L => L = [.obj bqw1_10 (.cells none 2 [.ptr (some (bp0, 0))]), .obj bp0 (.cells none 2 [.ptr (some (BA I p0.Bb, 0)), Ai p0.n_])]) (St := (Wz (EW BC I ar))) (Q0 := (fun (_ : Unit) F' => F' = F)) (tl := fun _ => ()) (tr := fun _ => ()) (by kernel_rfl) H (fun fr => by kernel_rfl) (by kernel_rfl) (fun _ => rfl) (by kernel_rfl) A ⟨([] : List (List UInt8)), rfl, none, rfl⟩ (Uu _) (fun _ F8 e => by rw [show F8 = F from e]; exact hF) rfl ?_ ?_ ?_ ?_ ?_
 ·refine OG H (kn := fun v1 => [(3, .ptr (some (h.size, 0))), (8, .str v1.1), (9, .ptr (some (BA I v1.2, 0)))]) (fun v1 fr => by kernel_rfl) ?_
  clear ho hm A H
  intro g h3 F s v1 o Lc fr H hP hm A
  obtain ⟨x2, rfl, r1, rfl⟩ := hP
  unfold C4 at hm
  show AW _ _ _ _ _ _ _
  refine AH 1 (Bf 1 [(3, .ptr (some (h.size, 0))), (4, .str v1.1), (9, .ptr (some (BA I v1.2, 0)))] H fun fr H => Ju 1 id (Al 1 [(5, .ptr (some (BA I v1.2, 0)))] H fun fr H => at_nil ?_))
  refine ⟨rfl, _, A, ?_⟩
  clear A
  intro h4 F R hS hR A
  have hF := hS _ _ hR
  show AW _ _ _ _ _ _ _
  refine AO (id := 1) (by kernel_rfl) ?_
  refine AH 5 ?_
  obtain ⟨x3, hq1, hm⟩ := bind_some hm
  refine Ad 3 [] 13 _ _ H (fun fr => .of (DN (by kernel_rfl) (FZ (N := BC) (I := I) (A.okF hF) hq1 (o := 0) (v := Ai x3.at_) rfl))) fun fr t H => ?_
  refine AN 1 [(14, .bool (x3.at_ == (-1)))] H fun fr H => Aw 14 H hm (fun hb hm H => ?_) fun hb hm H => ?_
  ·refine B7 5 (Ip 15 1 0 A H fun fr t H => ?_)
   refine Al 1 [(16, .str v1.1)] H fun fr H => ?_
   obtain ⟨h5, e2, A⟩ := A.pL 9 [.str v1.1]
   refine DE 17 (AJ (some h4.size) (([v1.1] : List (List UInt8)).length)) e2 H fun fr t H => ?_
   obtain ⟨hb, hm⟩ := Ac hm
   obtain ⟨r2, h6, hx, A1⟩ := HH.NR encS (by decide) A 1 (xs := x2) (ys := ([v1.1] : List (List UInt8))) rfl (Di A 0 rfl (n := ([v1.1] : List (List UInt8)).length) (z := 1) rfl (by decide)) rfl rfl hb
   replace A : HH g h6 [.AL (some h4.size) 9 ([.str v1.1]), .AL r2 9 (AL eS (x2 ++ ([v1.1] : List (List UInt8)))), .obj h.size (.cells none 2 [AJ r1 x2.length])] F := A1
   replace A := A.k2 1 2
   refine Am 18 _ _ H (fun fr => .of (JS (s := Cq r1 x2.length) (by kernel_rfl) hx)) fun fr t H => ?_
   obtain ⟨h7, hx, A1⟩ := A.st 1 rfl (o := 0) (new := [AJ r2 ((x2 ++ ([v1.1] : List (List UInt8))).length)]) (ds := [AJ r2 ((x2 ++ ([v1.1] : List (List UInt8))).length)]) (Nat.le_of_ble_eq_true rfl) rfl rfl
   replace A : HH g h7 [_, .obj h.size (.cells none 2 [AJ r2 ((x2 ++ ([v1.1] : List (List UInt8))).length)])] F := A1
   refine MM hx H fun fr t H => ?_
   refine at_nil ?_
   have e1 := Option.some.inj hm
   subst e1
   exact ⟨rfl, _, _, ⟨(x2 ++ ([v1.1] : List (List UInt8))), rfl, r2, rfl⟩, hR, A⟩
  refine Ej ?_
  have e1 := Option.some.inj hm
  subst e1
  exact ⟨rfl, _, _, ⟨x2, rfl, r1, rfl⟩, hR, A⟩
 ·intro h1 l1 F1 R1 hYR1 hck B1 A1
  obtain ⟨v1, h2, hr, _, F2, B2, A2⟩ := FI (av := [.IZ l1, .ptr (some (bqw1_10, 0))]) ho (by kernel_rfl) hYR1 B1 (hck _ (fun _ F8 e => by rw [show F8 = F from e]; exact hF)) A1
  exact ⟨v1, h2, F2, _, hr, B2, rfl, A2⟩
 ·clear ho A
  intro s2 h8 Lc Lu F9 ey hP hQ hU A
  subst ey
  obtain ⟨x2, rfl, r1, rfl⟩ := hP
  subst hU
  rw [show F9 = F from hQ] at A
  replace A : HH g h8 [.obj bqw1_10 (.cells none 2 [.ptr (some (bp0, 0))]), .obj bp0 (.cells none 2 [.ptr (some (BA I p0.Bb, 0)), Ai p0.n_]), .AL r1 9 (AL eS x2), .obj h.size (.cells none 2 [AJ r1 x2.length])] F := A
  show AW _ _ _ _ _ _ _
  refine AH 2 (P2 (v := AJ r1 x2.length) (h1 := h8) [(19, AJ r1 x2.length)] H (fun fr => by kernel_rfl) (fun fr => .of (DN (by kernel_rfl) (A.l1 3 0))) ?_)
  intro fr t H
  refine AN 1 [(2, AJ r1 x2.length)] H fun fr H => BB ?_
  obtain rfl := Ao hm
  refine ⟨.inl rfl, AJ r1 x2.length, rH H, ?_⟩
  replace A := A.k2 2 1
  exact ⟨r1, rfl, A⟩
 ·clear ho A
  intro r2 h8 Lc Lu F9 e ey he hP hQ hU A
  subst ey
  subst hU
  rw [show F9 = F from hQ] at A
  exact False.elim hP
 exact fun _ => ⟨.ret, rfl⟩
def Cg : Option (Bool) :=
 (EZ ([(⟨([97, 47, 98] : List UInt8), ([] : List UInt8), (0 : Int), (0 : Int), (0 : Int), (0 : Int), ([] : List UInt8), ([] : List UInt8), (0 : Int), (0 : Int), (⟨(0 : Int), (0 : Int)⟩ : BI), ([] : List BK), ([] : List UInt8)⟩ : AS), (⟨([99] : List UInt8), ([] : List UInt8), (0 : Int), (0 : Int), (0 : Int), (0 : Int), ([] : List UInt8), ([] : List UInt8), (0 : Int), (0 : Int), (⟨(0 : Int), (0 : Int)⟩ : BI), ([] : List BK), ([] : List UInt8)⟩ : AS)] : List AS)).bind fun (x1w1, ar) => (D8 x1w1 ar).bind fun x2 => (Ax (x2 == 3) ((DV x1w1 ar).bind fun x4 => (CA x4 ([([97] : List UInt8)] : List (List UInt8))).bind fun x5 => some x5) (some false) : Option (Bool)).bind fun x3 => some x3
theorem Eo {q0} (hm : Cg = some q0) (A : HH g h [] F) (hc : Bp (cfg.still 7) av = [] := by kernel_rfl) : ∃ v h', Bz cfg g h 7 av v h' ∧ v = .bool q0 ∧ HH g h' [] F := by
 refine G7 19 [.tmp 0] hc ?_
 clear hc
 unfold Cg at hm
 refine bg 19 [] fun fr H => ?_
 have hback : ∀ {h' : AB} {L : List Ck}, HH g h' L F → HH g h' L F := fun a => a
 refine AH 1 (DC 1 [] 5 H fun fr H => Al 2 [(2, .agg [.str ([97, 47, 98] : List UInt8), .str ([] : List UInt8), Ab 0, Ai 0, Ai 0, Ai 0, .str ([] : List UInt8), .str ([] : List UInt8), Ai 0, Ai 0, Ai 0, Ai 0, .slice none 0, .str ([] : List UInt8)]), (3, .agg [.str ([99] : List UInt8), .str ([] : List UInt8), Ab 0, Ai 0, Ai 0, Ai 0, .str ([] : List UInt8), .str ([] : List UInt8), Ai 0, Ai 0, Ai 0, Ai 0, .slice none 0, .str ([] : List UInt8)])] H fun fr H => ?_)
 obtain ⟨h1, e1, A⟩ := A.pL 51 [.str ([97, 47, 98] : List UInt8), .str ([] : List UInt8), Ab 0, Ai 0, Ai 0, Ai 0, .str ([] : List UInt8), .str ([] : List UInt8), Ai 0, Ai 0, Ai 0, Ai 0, vs Eh ([] : List BK), .str ([] : List UInt8), .str ([99] : List UInt8), .str ([] : List UInt8), Ab 0, Ai 0, Ai 0, Ai 0, .str ([] : List UInt8), .str ([] : List UInt8), Ai 0, Ai 0, Ai 0, Ai 0, vs Eh ([] : List BK), .str ([] : List UInt8)]
 refine DE 4 (AJ (some h.size) (([(⟨([97, 47, 98] : List UInt8), ([] : List UInt8), (0 : Int), (0 : Int), (0 : Int), (0 : Int), ([] : List UInt8), ([] : List UInt8), (0 : Int), (0 : Int), (⟨(0 : Int), (0 : Int)⟩ : BI), ([] : List BK), ([] : List UInt8)⟩ : AS), (⟨([99] : List UInt8), ([] : List UInt8), (0 : Int), (0 : Int), (0 : Int), (0 : Int), ([] : List UInt8), ([] : List UInt8), (0 : Int), (0 : Int), (⟨(0 : Int), (0 : Int)⟩ : BI), ([] : List BK), ([] : List UInt8)⟩ : AS)] : List AS).length)) e1 H fun fr t H => ?_
 replace A : HH g h1 [.AL (some h.size) 51 (AL AE ([(⟨([97, 47, 98] : List UInt8), ([] : List UInt8), (0 : Int), (0 : Int), (0 : Int), (0 : Int), ([] : List UInt8), ([] : List UInt8), (0 : Int), (0 : Int), (⟨(0 : Int), (0 : Int)⟩ : BI), ([] : List BK), ([] : List UInt8)⟩ : AS), (⟨([99] : List UInt8), ([] : List UInt8), (0 : Int), (0 : Int), (0 : Int), (0 : Int), ([] : List UInt8), ([] : List UInt8), (0 : Int), (0 : Int), (⟨(0 : Int), (0 : Int)⟩ : BI), ([] : List BK), ([] : List UInt8)⟩ : AS)] : List AS))] F := A
 obtain ⟨⟨x1w1, ar⟩, hx, hm⟩ := bind_some hm
 obtain ⟨v1, h2, hr, bx1w1, I, rfl, A1⟩ := JE (av := [AJ (some h.size) (([(⟨([97, 47, 98] : List UInt8), ([] : List UInt8), (0 : Int), (0 : Int), (0 : Int), (0 : Int), ([] : List UInt8), ([] : List UInt8), (0 : Int), (0 : Int), (⟨(0 : Int), (0 : Int)⟩ : BI), ([] : List BK), ([] : List UInt8)⟩ : AS), (⟨([99] : List UInt8), ([] : List UInt8), (0 : Int), (0 : Int), (0 : Int), (0 : Int), ([] : List UInt8), ([] : List UInt8), (0 : Int), (0 : Int), (⟨(0 : Int), (0 : Int)⟩ : BI), ([] : List BK), ([] : List UInt8)⟩ : AS)] : List AS).length)]) hx (A.cut 1)
 replace A : HH g h2 [.obj bx1w1 (.cells none 2 [.ptr (some (BA I x1w1.Bb, 0)), Ai x1w1.n_]), EW BC I ar, .AL (some h.size) 51 (AL AE ([(⟨([97, 47, 98] : List UInt8), ([] : List UInt8), (0 : Int), (0 : Int), (0 : Int), (0 : Int), ([] : List UInt8), ([] : List UInt8), (0 : Int), (0 : Int), (⟨(0 : Int), (0 : Int)⟩ : BI), ([] : List BK), ([] : List UInt8)⟩ : AS), (⟨([99] : List UInt8), ([] : List UInt8), (0 : Int), (0 : Int), (0 : Int), (0 : Int), ([] : List UInt8), ([] : List UInt8), (0 : Int), (0 : Int), (⟨(0 : Int), (0 : Int)⟩ : BI), ([] : List BK), ([] : List UInt8)⟩ : AS)] : List AS))] F := A.Il (n := 1) A1
 obtain ⟨F, A, hF, hback⟩ := A.Wt 1 hback rfl
 replace A : HH g h2 [.obj bx1w1 (.cells none 2 [.ptr (some (BA I x1w1.Bb, 0)), Ai x1w1.n_]), .AL (some h.size) 51 (AL AE ([(⟨([97, 47, 98] : List UInt8), ([] : List UInt8), (0 : Int), (0 : Int), (0 : Int), (0 : Int), ([] : List UInt8), ([] : List UInt8), (0 : Int), (0 : Int), (⟨(0 : Int), (0 : Int)⟩ : BI), ([] : List BK), ([] : List UInt8)⟩ : AS), (⟨([99] : List UInt8), ([] : List UInt8), (0 : Int), (0 : Int), (0 : Int), (0 : Int), ([] : List UInt8), ([] : List UInt8), (0 : Int), (0 : Int), (⟨(0 : Int), (0 : Int)⟩ : BI), ([] : List BK), ([] : List UInt8)⟩ : AS)] : List AS))] F := A
 refine Co 5 hr H fun fr t H => ?_
 refine DC 1 [(1, .ptr (some (bx1w1, 0)))] 14 H fun fr H => ?_
 have A1 := A.cut 1
 obtain ⟨x2, hx, hm⟩ := bind_some hm
 obtain ⟨v1, h3, hr, rfl, A1⟩ := H2 (av := [.ptr (some (bx1w1, 0))]) hx (by kernel_rfl) (List.mem_append_right _ hF) A1
 replace A := A.g11 A1
 refine Bg 4 [(8, .bool true)] 10 hr H fun fr t H => ?_
 refine Al 3 [(13, .bool (x2 == 3))] H fun fr H => ?_
 obtain ⟨x3, ho, hm⟩ := bind_some hm
 refine Gf 5 (fun fr' h' => Has fr' 19 [(18, .bool x3)] ∧ HH g h' [.obj bx1w1 (.cells none 2 [.ptr (some (BA I x1w1.Bb, 0)), Ai x1w1.n_])] F) ?_ ?_
 ·rcases DU ho with ⟨hb, hm⟩ | ⟨hb, hm⟩
  ·replace H := H.kn 13 hb
   have A1 := A.cut 1
   obtain ⟨x4, hx, hm⟩ := bind_some hm
   obtain ⟨v1, h5, hr, rqw3, rfl, A1⟩ := Gn (av := [.ptr (some (bx1w1, 0))]) hx (by kernel_rfl) (List.mem_append_right _ hF) A1
   replace A := A.g12 A1
   refine Bg 1 [] 15 hr H fun fr t H => ?_
   obtain ⟨h6, e2, A⟩ := A.pL 9 [.str ([97] : List UInt8)]
   refine DE 16 (AJ (some h5.size) (([([97] : List UInt8)] : List (List UInt8)).length)) e2 H fun fr t H => ?_
   replace A : HH g h6 [.AL (some h5.size) 9 (AL eS ([([97] : List UInt8)] : List (List UInt8))), _, _, _] F := A
   replace A := A.k4 1 0 2 3
   obtain ⟨x5, hx, hm⟩ := bind_some hm
   obtain ⟨v1, h7, hr, rfl, A1⟩ := ED (av := [AJ rqw3 x4.length, AJ (some h5.size) (([([97] : List UInt8)] : List (List UInt8)).length)]) hx (A.cut 2)
   replace A := A.g22 A1
   refine Co 17 hr H fun fr t H => ?_
   refine Al 1 [(18, .bool x5)] H fun fr H => ?_
   obtain rfl := Ao hm
   replace A := A.k1 2
   exact at_nil ⟨H.ls, A⟩
  replace H := H.kn 13 hb
  refine Al 5 [(18, .bool false)] H fun fr H => ?_
  obtain rfl := Ao hm
  replace A := A.d1
  exact at_nil ⟨H.ls, A⟩
 clear A
 intro t fr h4 hK
 obtain ⟨H, A⟩ := hK
 refine AN 1 [(0, .bool x3)] H fun fr H => BB ?_
 obtain rfl := Ao hm
 refine ⟨.inl rfl, .bool x3, rH H, ?_⟩
 replace A := A.d0
 exact ⟨rfl, (hback A)⟩
def DH (x10 : List (List UInt8)) (s : Int × (List AF) × Nat × Int) : Option ((Int × (List AF) × Nat × Int) ⊕ ((Int × (List AF) × Nat))) :=
 match s with
 | (x11, x12, x13, x14) => Ax (decide (x14 < (x10.length : Int))) ((Em x10 x14).bind fun x18 => (x12[x13]?).bind fun x19 => Kq (Cb x19.AP x18) (fun x20 => (some x20 : Option ((Nat))).bind fun x21 => some (.inl (x11, x12, x21, IntKind.i64.wrap (x14 + 1)))) (((Cc).bind fun x25w3 => DW (x25w3.AP.isEmpty) <| DW (decide (x13 < x12.length)) <| DW (decide ((0 : Nat) < x12.length)) <| ((x12 ++ [x25w3])[x13]?).bind fun x26 => DW (decide (x12.length < (x12 ++ [x25w3]).length)) <| some (IntKind.i64.wrap (x11 + 1), ((x12 ++ [x25w3]).set x13 (⟨x26.at_, x26.CW, EF x26.AP x18 x12.length⟩ : AF)), x12.length) : Option ((Int × (List AF) × Nat))).bind fun (x22, x23, x24) => some (.inl (x22, x23, x24, IntKind.i64.wrap (x14 + 1))))) (some (.inr (x11, x12, x13)))
def Du (p0 : List AS) (s : Int × (List AF) × Int) : Option ((Int × (List AF) × Int) ⊕ ((Int × (List AF)))) :=
 match s with
 | (x2, x3, x4) => Ax (decide (x4 < (p0.length : Int))) (((Em p0 x4).bind fun x9 => (C7 x9.Name).bind fun x10 => (loop (DH x10) (x2, x3, (0 : Nat), (0 : Int))).bind fun (x15, x16, x17) => (x16[x17]?).bind fun x27 => (x16[(0 : Nat)]?).bind fun x28 => Ax (!Nat.beq x17 (0 : Nat)) ((x16[x17]?).bind fun x29 => ((x16.set x17 (⟨x4, x29.CW, x29.AP⟩ : AF))[x17]?).bind fun x30 => some (x15, ((x16.set x17 (⟨x4, x29.CW, x29.AP⟩ : AF)).set x17 (⟨x30.at_, (x9.Data.length : Int), x30.AP⟩ : AF)))) (some (x15, x16)) : Option ((Int × (List AF)))).bind fun (x7, x8) => some (.inl (x7, x8, IntKind.i64.wrap (x4 + 1)))) (some (.inr (x2, x3)))
def D2 (p0 : List AS) : Option (Aj × (List AF)) :=
 (Cc).bind fun x1w1 => DW (x1w1.AP.isEmpty) <| (loop (Du p0) ((0 : Int), [x1w1], (0 : Int))).bind fun (x5, x6) => some ((⟨(0 : Nat), x5⟩ : Aj), x6)
theorem Kp {p0 q00 arq} (hm : D2 p0 = some (q00, arq)) (A : HH g h [] F) (hc : Bp (cfg.still 8) av = [vs AE p0] := by kernel_rfl) : ∃ v h', Bz cfg g h 8 av v h' ∧ ∃ (bq00 : Nat) (Iq : IF), v = .ptr (some (bq00, 0)) ∧ HH g h' [.obj bq00 (.cells none 2 [.ptr (some (BA Iq q00.Bb, 0)), Ai q00.n_]), EW BC Iq arq] F := by
 refine G7 74 [.tmp 2] hc ?_
 clear hc
 unfold D2 at hm
 refine bg 74 [(0, vs AE p0)] fun fr H => ?_
 refine AH 1 (DC 1 [] 4 H fun fr H => ?_)
 obtain ⟨x1w1, hx, hm⟩ := bind_some hm
 obtain ⟨v1, h1, hr, bx1w1, bx1w1_2, rfl, A1⟩ := EH (I := ([] : IF)) (av := []) hx (A.cut 0)
 replace A := A.Vf A1
 refine Co 10 hr H fun fr t H => ?_
 obtain ⟨hb, hm⟩ := Ac hm
 replace A : HH g h1 [EW BC [(bx1w1, bx1w1_2)] [x1w1]] F := HH.T3 (N := BC) (I := ([] : IF)) (id := bx1w1) (mid := bx1w1_2) (x := x1w1) A (List.isEmpty_iff.1 hb)
 obtain ⟨h2, e1, A⟩ := A.pu (.cells none 2 [.ptr (some (BA [(bx1w1, bx1w1_2)] (0 : Nat), 0)), Ai 0])
 refine Rg 1 [] 12 (.ptr (some (h1.size, 0))) e1 H fun fr t H => ?_
 refine AN 1 [(3, .ptr (some (h1.size, 0)))] H fun fr H => AR (AH 3 (AN 3 [(13, vs AE p0), (14, Ai (p0.length : Int)), (15, Ai 0)] H fun fr H => AO (id := 0) (by kernel_rfl) ?_))
 obtain ⟨o1, ho, hm⟩ := bind_some hm
 refine Af (Q' := fun e fr' h' => (∃ x5 x6, e = .exit 0 ∧ (x5, x6) = o1 ∧ ∃ (I2 : IF), Has fr' 74 [(3, .ptr (some (h1.size, 0)))] ∧ HH g h' [.obj h1.size (.cells none 2 [.ptr (some (BA I2 (0 : Nat), 0)), Ai x5]), EW BC I2 x6] F) ∨ False) ?_ ?_
 ·refine Bn (by kernel_rfl) (fun (s : Int × (List AF) × Int) fr' h' => ∃ x2 x3 x4, (x2, x3, x4) = s ∧ ∃ (I1 : IF), Has fr' 74 [(3, .ptr (some (h1.size, 0))), (13, vs AE p0), (14, Ai (p0.length : Int)), (15, Ai x4)] ∧ HH g h' [.obj h1.size (.cells none 2 [.ptr (some (BA I1 (0 : Nat), 0)), Ai x2]), EW BC I1 x3] F) ho ⟨_, _, _, rfl, [(bx1w1, bx1w1_2)], H.ls, A⟩ ?_
  clear ho hm H A
  intro s q fr h3 hI hm
  obtain ⟨x2, x3, x4, rfl, I1, H, A⟩ := hI
  unfold Du at hm
  refine AH 1 (AN 1 [(16, .bool (decide (x4 < (p0.length : Int))))] H fun fr H => AR (Aw 16 H hm (fun hb hm H => ?_) fun hb hm H => ?_))
  ·refine CZ id (AR ?_)
   obtain ⟨o2, ho, hm⟩ := bind_some hm
   refine Af (Q' := fun e fr' h' => (∃ x7 x8, e = .normal ∧ (x7, x8) = o2 ∧ ∃ (I3 : IF), Has fr' 74 [(3, .ptr (some (h1.size, 0))), (13, vs AE p0), (14, Ai (p0.length : Int)), (15, Ai x4)] ∧ HH g h' [.obj h1.size (.cells none 2 [.ptr (some (BA I3 (0 : Nat), 0)), Ai x7]), EW BC I3 x8] F) ∨ False) ?_ ?_
   ·replace hm := ho
    clear ho
    refine AO (id := 1) (by kernel_rfl) ?_
    refine AH 6 ?_
    obtain ⟨x9, hx, hm⟩ := bind_some hm
    refine Ad 1 [(17, Ai x4)] 18 (.C3 (AE x9)) h3 H (fun fr => .of (GZ (e := AE) (x := x9) CU (by decide) (by kernel_rfl) hx)) fun fr t H => ?_
    refine Am 19 (.agg (AE x9)) h3 H (fun fr => .of (Jt (by kernel_rfl))) fun fr t H => ?_
    obtain ⟨h4, e2, A⟩ := A.pu (.cells none 2 WG)
    refine DE 5 (.ptr (some (h3.size, 0))) e2 H fun fr t H => ?_
    obtain ⟨h5, hx, A⟩ := A.s0 0 (AE x9) [_, _, _, _, _, _, _, _, _, _, _, _, _, _]
    refine T6 1 [(4, Ai x4)] hx H fun fr t H => ?_
    refine G5 5 id (EA 3 [] 23 1 0 A H fun fr t H => ?_)
    refine AN 1 [(6, .ptr (some (BA I1 (0 : Nat), 0)))] H fun fr H => AR (AH 5 (EA 1 [] 25 0 0 A H fun fr t H => ?_))
    obtain ⟨x10, hx, hm⟩ := bind_some hm
    obtain ⟨v1, h6, hr, rqw2, rfl, A1⟩ := FP (av := [.str x9.Name]) hx (A.cut 0)
    replace A := A.VF A1
    refine Co 26 hr H fun fr t H => ?_
    refine AN 2 [(27, Ai (x10.length : Int)), (28, Ai 0)] H fun fr H => AO (id := 2) (by kernel_rfl) ?_
    obtain ⟨o3, ho, hm⟩ := bind_some hm
    refine Af (Q' := fun e fr' h' => (∃ x15 x16 x17, e = .exit 2 ∧ (x15, x16, x17) = o3 ∧ ∃ (I5 : IF), Has fr' 74 [(3, .ptr (some (h1.size, 0))), (4, Ai x4), (5, .ptr (some (h3.size, 0))), (6, .ptr (some (BA I5 x17, 0))), (13, vs AE p0), (14, Ai (p0.length : Int)), (15, Ai x4)] ∧ HH g h' [.obj h3.size (.cells none 2 (AE x9)), .obj h1.size (.cells none 2 [.ptr (some (BA I5 (0 : Nat), 0)), Ai x15]), EW BC I5 x16] F) ∨ False) ?_ ?_
    ·refine Bn (by kernel_rfl) (fun (s : Int × (List AF) × Nat × Int) fr' h' => ∃ x11 x12 x13 x14, (x11, x12, x13, x14) = s ∧ ∃ (I4 : IF), Has fr' 74 [(3, .ptr (some (h1.size, 0))), (4, Ai x4), (5, .ptr (some (h3.size, 0))), (6, .ptr (some (BA I4 x13, 0))), (13, vs AE p0), (14, Ai (p0.length : Int)), (15, Ai x4), (26, AJ rqw2 x10.length), (27, Ai (x10.length : Int)), (28, Ai x14)] ∧ HH g h' [.AL rqw2 9 (AL eS x10), .obj h3.size (.cells none 2 (AE x9)), .obj h1.size (.cells none 2 [.ptr (some (BA I4 (0 : Nat), 0)), Ai x11]), EW BC I4 x12] F) ho ⟨_, _, _, _, rfl, I1, H.ls, A⟩ ?_
     clear ho hm H A
     intro s q fr h7 hI hm
     obtain ⟨x11, x12, x13, x14, rfl, I4, H, A⟩ := hI
     unfold DH at hm
     refine AH 1 (AN 1 [(29, .bool (decide (x14 < (x10.length : Int))))] H fun fr H => AR (Aw 29 H hm (fun hb hm H => ?_) fun hb hm H => ?_))
     ·refine CZ id (AR (AO (id := 3) (by kernel_rfl) ?_))
      refine AH 3 ?_
      obtain ⟨x18, hx, hm⟩ := bind_some hm
      obtain ⟨i1, er1, _, hx, hq1⟩ := HH.Kr encS (by decide) A 0 (xs := x10) rfl hx
      refine Am 30 (.ptr (some (i1, x14.toNat * 1))) h7 H (fun fr => .of (Db (s := Cq rqw2 x10.length) (by kernel_rfl) hx)) fun fr t H => ?_
      refine Am 31 _ _ H (fun fr => .of (DN (by kernel_rfl) (Cm encS (HH.row A 0 rfl er1) hq1 (o := 0) rfl))) fun fr t H => ?_
      refine DC 1 [(8, .str x18)] 7 H fun fr H => ?_
      obtain ⟨x19, hq2, hm⟩ := bind_some hm
      refine Ad 3 [] 35 _ _ H (fun fr => .of (DN (by kernel_rfl) (FZ (N := BC) (I := I4) (A.mem (k := 3) rfl) hq2 (o := 2) (v := .map (some (CO I4 x13))) rfl))) fun fr t H => ?_
      rcases Et hm with ⟨x20, hq3, hm⟩ | ⟨hq3, hm⟩
      ·refine Ad 1 [] 37 (.ptr (some (BA I4 x20, 0))) h7 H (fun fr => .of (GY (by kernel_rfl) (Fz (N := BC) (I := I4) (A.mem (k := 3) rfl) hq2 (kt := 9) (et := 52) (by kernel_rfl) (t := 56) (by kernel_rfl) (zv := .ptr none) (by kernel_rfl) (s := x18) (v := x20) hq3))) fun fr t H => ?_
       refine AN 1 [(9, .ptr (some (BA I4 x20, 0)))] H fun fr H => AR ?_
       obtain ⟨o4, ho, hm⟩ := bind_some hm
       refine Af (Q' := fun e fr' h' => (∃ x21, e = .normal ∧ x21 = o4 ∧ Has fr' 74 [(3, .ptr (some (h1.size, 0))), (4, Ai x4), (5, .ptr (some (h3.size, 0))), (9, .ptr (some (BA I4 x21, 0))), (13, vs AE p0), (14, Ai (p0.length : Int)), (15, Ai x4), (26, AJ rqw2 x10.length), (27, Ai (x10.length : Int)), (28, Ai x14)] ∧ HH g h' [.AL rqw2 9 (AL eS x10), .obj h3.size (.cells none 2 (AE x9)), .obj h1.size (.cells none 2 [.ptr (some (BA I4 (0 : Nat), 0)), Ai x11]), EW BC I4 x12] F) ∨ False) ?_ ?_
       ·replace hm := ho
        clear ho
        refine AH 2 (AN 2 [(39, .bool false)] H fun fr H => F4 (x := .tmp 39) (by kernel_rfl) H (fun fr => by kernel_rfl) ?_)
        exact Ej (.inl ⟨_, rfl, Ao hm, H.ls, A⟩)
       clear ho
       clear A
       intro e fr h8 hQ
       rcases hQ with ⟨x21, rfl, rfl, H, A⟩ | hF
       ·show AW _ _ _ _ _ _ _
        refine B7 2 (Sr 2 [(6, .ptr (some (BA I4 x21, 0)))] 2 H fun fr H => Bf 2 [(3, .ptr (some (h1.size, 0))), (4, Ai x4), (5, .ptr (some (h3.size, 0))), (6, .ptr (some (BA I4 x21, 0))), (13, vs AE p0), (14, Ai (p0.length : Int)), (15, Ai x4), (26, AJ rqw2 x10.length), (27, Ai (x10.length : Int)), (28, Ai (IntKind.i64.wrap (x14 + 1)))] H fun fr H => at_nil ?_)
        exact nx hm ⟨_, _, _, _, rfl, I4, H.ls, A⟩
       exact hF.elim
      refine Ad 1 [] 37 (.ptr none) h7 H (fun fr => .of (GY (by kernel_rfl) (GJ (N := BC) (I := I4) (A.mem (k := 3) rfl) hq2 (kt := 9) (et := 52) (by kernel_rfl) (t := 56) (by kernel_rfl) (zv := .ptr none) (by kernel_rfl) (s := x18) hq3))) fun fr t H => ?_
      refine AN 1 [(9, .ptr none)] H fun fr H => AR ?_
      obtain ⟨o5, ho, hm⟩ := bind_some hm
      refine Af (Q' := fun e fr' h' => (∃ x22 x23 x24, e = .normal ∧ (x22, x23, x24) = o5 ∧ ∃ (I6 : IF), Has fr' 74 [(3, .ptr (some (h1.size, 0))), (4, Ai x4), (5, .ptr (some (h3.size, 0))), (9, .ptr (some (BA I6 x24, 0))), (13, vs AE p0), (14, Ai (p0.length : Int)), (15, Ai x4), (26, AJ rqw2 x10.length), (27, Ai (x10.length : Int)), (28, Ai x14)] ∧ HH g h' [.AL rqw2 9 (AL eS x10), .obj h3.size (.cells none 2 (AE x9)), .obj h1.size (.cells none 2 [.ptr (some (BA I6 (0 : Nat), 0)), Ai x22]), EW BC I6 x23] F) ∨ False) ?_ ?_
      ·replace hm := ho
       clear ho
       refine AH 2 (AN 2 [(39, .bool true)] H fun fr H => Ia (x := .tmp 39) (by kernel_rfl) H (fun fr => by kernel_rfl) ?_)
       refine AH 2 ?_
       obtain ⟨x25w3, hx, hm⟩ := bind_some hm
       obtain ⟨v1, h9, hr, bx25w3, bx25w3_2, rfl, A1⟩ := EH (I := I4) (av := []) hx (A.cut 0)
       replace A := A.Vf A1
       refine Co 40 hr H fun fr t H => ?_
       obtain ⟨hb, hm⟩ := Ac hm
       have hI := (A.mem (k := 5) rfl : (EW BC I4 x12).ok h9).1.1
       have en : bx25w3 = BA (I4 ++ [(bx25w3, bx25w3_2)]) x12.length := (QI (p := (bx25w3, bx25w3_2)) hI).symm
       try rw [en] at H
       obtain ⟨hb0, hm⟩ := Ac hm
       have e0 : BA I4 x13 = BA (I4 ++ [(bx25w3, bx25w3_2)]) x13 := (Jk (by rw [hI]; exact of_decide_eq_true hb0)).symm
       try rw [e0] at H
       try rw [e0] at A
       obtain ⟨hb1, hm⟩ := Ac hm
       have e1 : BA I4 (0 : Nat) = BA (I4 ++ [(bx25w3, bx25w3_2)]) (0 : Nat) := (Jk (by rw [hI]; exact of_decide_eq_true hb1)).symm
       try rw [e1] at H
       try rw [e1] at A
       replace A : HH g h9 [_, _, .obj h1.size (.cells none 2 [.ptr (some (BA (I4 ++ [(bx25w3, bx25w3_2)]) (0 : Nat), 0)), Ai x11]), EW BC (I4 ++ [(bx25w3, bx25w3_2)]) (x12 ++ [x25w3])] F := HH.UJ (N := BC) (I := I4) (A := x12) (id := bx25w3) (mid := bx25w3_2) (x := x25w3) A 3 rfl (List.isEmpty_iff.1 hb)
       refine Bf 1 [(3, .ptr (some (h1.size, 0))), (4, Ai x4), (5, .ptr (some (h3.size, 0))), (6, .ptr (some (BA (I4 ++ [(bx25w3, bx25w3_2)]) x13, 0))), (8, .str x18), (9, .ptr (some (BA (I4 ++ [(bx25w3, bx25w3_2)]) x12.length, 0))), (13, vs AE p0), (14, Ai (p0.length : Int)), (15, Ai x4), (26, AJ rqw2 x10.length), (27, Ai (x10.length : Int)), (28, Ai x14)] H fun fr H => G5 7 id ?_
       obtain ⟨x26, hq4, hm⟩ := bind_some hm
       refine Ad 3 [] 44 _ _ H (fun fr => .of (DN (by kernel_rfl) (FZ (N := BC) (I := (I4 ++ [(bx25w3, bx25w3_2)])) (A.mem (k := 3) rfl) hq4 (o := 2) (v := .map (some (CO (I4 ++ [(bx25w3, bx25w3_2)]) x13))) rfl))) fun fr t H => ?_
       refine Al 2 [(45, .str x18), (46, .ptr (some (BA (I4 ++ [(bx25w3, bx25w3_2)]) x12.length, 0)))] H fun fr H => ?_
       obtain ⟨hb, hm⟩ := Ac hm
       obtain ⟨h10, hx, A1⟩ := HH.Su (N := BC) (I := (I4 ++ [(bx25w3, bx25w3_2)])) (P := cfg.P) A 3 rfl hq4 (t := 56) (kt := 9) (et := 52) (y := (⟨x26.at_, x26.CW, EF x26.AP x18 x12.length⟩ : AF)) (by kernel_rfl) (by kernel_rfl) x18 x12.length (of_decide_eq_true hb) rfl rfl
       replace A : HH g h10 [_, _, _, EW BC (I4 ++ [(bx25w3, bx25w3_2)]) ((x12 ++ [x25w3]).set x13 (⟨x26.at_, x26.CW, EF x26.AP x18 x12.length⟩ : AF))] F := A1
       refine Lm (.tuple []) h10 H (fun fr => .of (Vx (by kernel_rfl) hx)) fun fr t H => ?_
       refine Ju 8 id (EA 3 [(47, .ptr (some (h1.size, 0)))] 50 2 1 A H fun fr t H => ?_)
       obtain ⟨h11, hx, A1⟩ := A.st 2 rfl (o := 1) (new := [Ai (IntKind.i64.wrap (x11 + 1))]) (ds := [.ptr (some (BA (I4 ++ [(bx25w3, bx25w3_2)]) (0 : Nat), 0)), Ai (IntKind.i64.wrap (x11 + 1))]) (Nat.le_of_ble_eq_true rfl) rfl rfl
       replace A : HH g h11 [_, _, .obj h1.size (.cells none 2 [.ptr (some (BA (I4 ++ [(bx25w3, bx25w3_2)]) (0 : Nat), 0)), Ai (IntKind.i64.wrap (x11 + 1))]), _] F := A1
       refine QQ 3 [] hx H fun fr t H => ?_
       refine at_nil ?_
       exact .inl ⟨_, _, _, rfl, Ao hm, (I4 ++ [(bx25w3, bx25w3_2)]), H.ls, A⟩
      clear ho
      clear A
      intro e fr h12 hQ
      rcases hQ with ⟨x22, x23, x24, rfl, rfl, I6, H, A⟩ | hF
      ·show AW _ _ _ _ _ _ _
       refine B7 2 (Sr 2 [(6, .ptr (some (BA I6 x24, 0)))] 2 H fun fr H => Bf 2 [(3, .ptr (some (h1.size, 0))), (4, Ai x4), (5, .ptr (some (h3.size, 0))), (6, .ptr (some (BA I6 x24, 0))), (13, vs AE p0), (14, Ai (p0.length : Int)), (15, Ai x4), (26, AJ rqw2 x10.length), (27, Ai (x10.length : Int)), (28, Ai (IntKind.i64.wrap (x14 + 1)))] H fun fr H => at_nil ?_)
       exact nx hm ⟨_, _, _, _, rfl, I6, H.ls, A⟩
      exact hF.elim
     refine Bi (i := 2) (by kernel_rfl) ?_
     replace A := A.k3 1 2 3
     exact nr hm fun e => .inl ⟨_, _, _, rfl, e, I4, H.ls, A⟩
    clear ho
    clear A
    intro e fr h13 hQ
    rcases hQ with ⟨x15, x16, x17, rfl, rfl, I5, H, A⟩ | hF
    ·show AW _ _ _ _ _ _ _
     refine AH 6 (EA 4 [(56, .ptr (some (BA I5 x17, 0)))] 60 1 0 A H fun fr t H => ?_)
     obtain ⟨x27, hq5, hm⟩ := bind_some hm
     obtain ⟨x28, hq6, hm⟩ := bind_some hm
     refine Am 61 (.bool (!Nat.beq x17 (0 : Nat))) h13 H (fun fr => .of (UL (t := 52) (by kernel_rfl) (SX (N := BC) (I := I5) (A.mem (k := 2) rfl) hq5 hq6 Nw (t := 52) (e := 58) (by kernel_rfl) (z := 2) (by kernel_rfl)))) fun fr t H => ?_
     refine ET id (Aw 61 H hm (fun hb hm H => ?_) fun hb hm H => ?_)
     ·refine T7 17 12 [(0, []), (1, []), (2, []), (3, []), (4, []), (5, []), (6, []), (7, []), (8, [4]), (9, []), (10, []), (11, [])] ?_
      refine Al 4 [(62, .ptr (some (BA I5 x17, 0))), (63, .ptr (some (BA I5 x17, 0))), (64, Ai x4), (65, .ptr (some (h3.size, 13)))] H fun fr H => UX 66 (.str x9.Data) h13 [(4, h3.size)] (g.Bs) H (fun fr => .of (DN (by kernel_rfl) (A.l1 0 13))) (fun fr H => ?_)
      refine Al 3 [(67, Ai (x9.Data.length : Int)), (69, .ptr (some (BA I5 x17, 0)))] H fun fr H => ?_
      obtain ⟨x29, hq7, hm⟩ := bind_some hm
      replace A := A.k3 2 0 1
      have A1 := A.UP 1 (pr := [h3.size]) (.cons 0 rfl (by simp [Ck.ids]) .nil)
      obtain ⟨h14, hx, A1⟩ := HH.Td (N := BC) (I := I5) A1 0 rfl hq7 (y := (⟨x4, x29.CW, x29.AP⟩ : AF)) 0 (Ai x4) rfl rfl (Nat.le_of_ble_eq_true rfl) rfl
      replace A : HH g h14 [EW BC I5 (x16.set x17 (⟨x4, x29.CW, x29.AP⟩ : AF)), _, _] F := A.UD (n := 1) A1
      refine QL (.tuple []) h14 [(4, h3.size)] (h3.size :: g.Bs) H (fun fr => .of (Q3 (by kernel_rfl) rfl hx)) (fun fr H => ?_)
      refine Al 2 [(71, .ptr (some (BA I5 x17, 1)))] H fun fr H => ?_
      obtain ⟨x30, hq8, hm⟩ := bind_some hm
      obtain ⟨h15, hx, A1⟩ := HH.Td (N := BC) (I := I5) A 0 rfl hq8 (y := (⟨x30.at_, (x9.Data.length : Int), x30.AP⟩ : AF)) 1 (Ai (x9.Data.length : Int)) rfl rfl (Nat.le_of_ble_eq_true rfl) rfl
      replace A : HH g h15 [EW BC I5 ((x16.set x17 (⟨x4, x29.CW, x29.AP⟩ : AF)).set x17 (⟨x30.at_, (x9.Data.length : Int), x30.AP⟩ : AF)), _, _] F := A1
      refine QL (.tuple []) h15 [(4, h3.size)] (g.Bs) H (fun fr => .of (Q3 (by kernel_rfl) rfl hx)) (fun fr H => ?_)
      refine at_nil ?_
      replace A := A.k2 2 0
      exact .inl ⟨_, _, rfl, Ao hm, I5, H.ls, A⟩
     refine Ej ?_
     replace A := A.k2 1 2
     exact .inl ⟨_, _, rfl, Ao hm, I5, H.ls, A⟩
    exact hF.elim
   clear ho
   clear A
   intro e fr h16 hQ
   rcases hQ with ⟨x7, x8, rfl, rfl, I3, H, A⟩ | hF
   ·show AW _ _ _ _ _ _ _
    refine B7 2 (Bf 2 [(3, .ptr (some (h1.size, 0))), (13, vs AE p0), (14, Ai (p0.length : Int)), (15, Ai (IntKind.i64.wrap (x4 + 1)))] H fun fr H => at_nil ?_)
    exact nx hm ⟨_, _, _, rfl, I3, H.ls, A⟩
   exact hF.elim
  refine Bi (i := 0) (by kernel_rfl) ?_
  exact nr hm fun e => .inl ⟨_, _, rfl, e, I1, H.ls, A⟩
 clear ho
 clear A
 intro e fr h17 hQ
 rcases hQ with ⟨x5, x6, rfl, rfl, I2, H, A⟩ | hF
 ·show AW _ _ _ _ _ _ _
  refine AH 2 (AN 2 [(2, .ptr (some (h1.size, 0)))] H fun fr H => BB ?_)
  obtain ⟨rfl, rfl⟩ := Ie hm
  exact ⟨.inl rfl, _, rH H, _, _, rfl, A⟩
 exact hF.elim
def BR (p0 : List UInt8) (s : Int) : Option ((Int) ⊕ ((Int))) :=
 match s with
 | x4 => (Ax (decide (x4 < (p0.length : Int))) ((VG p0 x4).bind fun x7 => some (x7 != 47)) (some false) : Option (Bool)).bind fun x6 => Ax x6 (some (.inl (IntKind.i64.wrap (x4 + 1)))) (some (.inr x4))
def BU (p0 : List UInt8) (s : (List (List UInt8)) × Int) : Option (((List (List UInt8)) × Int) ⊕ (((List (List UInt8))))) :=
 match s with
 | (x1, x2) => Ax (decide (x2 < (p0.length : Int))) ((loop (BR p0) x2).bind fun x5 => (Ax (decide (x5 > x2)) ((LF p0 (some x2) (some x5)).bind fun x9 => DW (QX 16 (x1.length + ([x9] : List (List UInt8)).length)) <| some (x1 ++ ([x9] : List (List UInt8)))) (some x1) : Option (((List (List UInt8))))).bind fun x8 => some (.inl (x8, IntKind.i64.wrap (x5 + 1)))) (some (.inr x1))
def Ce (p0 : List UInt8) : Option ((List (List UInt8))) :=
 (loop (BU p0) (([] : List (List UInt8)), (0 : Int))).bind fun x3 => some x3
theorem He {p0 q0} (hm : Ce p0 = some q0) (A : HH g h [] F) (hc : Bp (cfg.still 32) av = [.str p0] := by kernel_rfl) : ∃ v h', Bz cfg g h 32 av v h' ∧ ∃ (rq0 : Option Nat), v = AJ rq0 q0.length ∧ HH g h' [.AL rq0 9 (AL eS q0)] F := by
 refine G7 37 [.tmp 2] hc ?_
 clear hc
 unfold Ce at hm
 refine bg 37 [(0, .str p0)] fun fr H => ?_
 refine AH 1 (DC 1 [] 2 H fun fr H => ?_)
 obtain ⟨h1, e1, A⟩ := A.pL 9 []
 refine DE 6 (AJ (some h.size) (([] : List (List UInt8)).length)) e1 H fun fr t H => ?_
 refine DC 1 [(3, AJ (some h.size) (([] : List (List UInt8)).length))] 1 H fun fr H => AN 1 [(4, Ai 0)] H fun fr H => AR (AO (id := 0) (by kernel_rfl) ?_)
 replace A : HH g h1 [.AL (some h.size) 9 (AL eS ([] : List (List UInt8)))] F := A
 obtain ⟨o1, ho, hm⟩ := bind_some hm
 refine Af (Q' := fun e fr' h' => (∃ x3, e = .exit 0 ∧ x3 = o1 ∧ ∃ r2, Has fr' 37 [(3, AJ r2 x3.length)] ∧ HH g h' [.AL r2 9 (AL eS x3)] F) ∨ False) ?_ ?_
 ·refine Bn (by kernel_rfl) (fun (s : (List (List UInt8)) × Int) fr' h' => ∃ x1 x2, (x1, x2) = s ∧ ∃ r1, Has fr' 37 [(0, .str p0), (3, AJ r1 x1.length), (4, Ai x2)] ∧ HH g h' [.AL r1 9 (AL eS x1)] F) ho ⟨_, _, rfl, some h.size, H.ls, A⟩ ?_
  clear ho hm H A
  intro s q fr h2 hI hm
  obtain ⟨x1, x2, rfl, r1, H, A⟩ := hI
  unfold BU at hm
  refine AR (AH 4 (AN 4 [(10, .bool (decide (x2 < (p0.length : Int))))] H fun fr H => Aw 10 H hm (fun hb hm H => ?_) fun hb hm H => ?_))
  ·refine CZ id (AO (id := 1) (by kernel_rfl) ?_)
   refine AH 2 (AN 2 [(5, Ai x2)] H fun fr H => AR (AO (id := 2) (by kernel_rfl) ?_))
   obtain ⟨o2, ho, hm⟩ := bind_some hm
   refine Af (Q' := fun e fr' h' => (∃ x5, e = .exit 2 ∧ x5 = o2 ∧ Has fr' 37 [(0, .str p0), (3, AJ r1 x1.length), (4, Ai x2), (5, Ai x5)] ∧ HH g h' [.AL r1 9 (AL eS x1)] F) ∨ False) ?_ ?_
   ·refine Bn (by kernel_rfl) (fun (s : Int) fr' h' => ∃ x4, x4 = s ∧ Has fr' 37 [(0, .str p0), (3, AJ r1 x1.length), (4, Ai x2), (5, Ai x4)] ∧ HH g h' [.AL r1 9 (AL eS x1)] F) ho ⟨_, rfl, H.ls, A⟩ ?_
    clear ho hm H A
    intro s q fr h3 hI hm
    obtain ⟨x4, rfl, H, A⟩ := hI
    unfold BR at hm
    refine AR (AH 10 (Al 5 [(16, .bool (decide (x4 < (p0.length : Int))))] H fun fr H => ?_))
    obtain ⟨x6, ho, hm⟩ := bind_some hm
    refine Gf 5 (fun fr' h' => Has fr' 37 [(0, .str p0), (3, AJ r1 x1.length), (4, Ai x2), (5, Ai x4), (21, .bool x6)] ∧ HH g h' [.AL r1 9 (AL eS x1)] F) ?_ ?_
    ·rcases DU ho with ⟨hb, hm⟩ | ⟨hb, hm⟩
     ·replace H := H.kn 16 hb
      obtain ⟨x7, hx, hm⟩ := bind_some hm
      refine Ad 2 [] 19 (Ab x7) h3 H (fun fr => .of (VV (by kernel_rfl) hx)) fun fr t H => ?_
      refine Al 2 [(21, .bool (x7 != 47))] H fun fr H => ?_
      obtain rfl := Ao hm
      exact at_nil ⟨H.ls, A⟩
     replace H := H.kn 16 hb
     refine Al 5 [(21, .bool false)] H fun fr H => ?_
     obtain rfl := Ao hm
     exact at_nil ⟨H.ls, A⟩
    clear A
    intro t fr h4 hK
    obtain ⟨H, A⟩ := hK
    refine ET id (Aw 21 H hm (fun hb hm H => ?_) fun hb hm H => ?_)
    ·refine CZ id (AO (id := 3) (by kernel_rfl) ?_)
     refine B7 3 (Bf 3 [(0, .str p0), (3, AJ r1 x1.length), (4, Ai x2), (5, Ai (IntKind.i64.wrap (x4 + 1)))] H fun fr H => at_nil ?_)
     exact nx hm ⟨_, rfl, H.ls, A⟩
    refine Bi (i := 2) (by kernel_rfl) ?_
    exact nr hm fun e => .inl ⟨_, rfl, e, H.ls, A⟩
   clear ho
   clear A
   intro e fr h5 hQ
   rcases hQ with ⟨x5, rfl, rfl, H, A⟩ | hF
   ·show AW _ _ _ _ _ _ _
    refine AR ?_
    obtain ⟨o3, ho, hm⟩ := bind_some hm
    refine Af (Q' := fun e fr' h' => (∃ x8, e = .normal ∧ x8 = o3 ∧ ∃ r3, Has fr' 37 [(0, .str p0), (3, AJ r3 x8.length), (5, Ai x5)] ∧ HH g h' [.AL r3 9 (AL eS x8)] F) ∨ False) ?_ ?_
    ·replace hm := ho
     clear ho
     refine AH 3 (AN 3 [(26, .bool (decide (x5 > x2)))] H fun fr H => Aw 26 H hm (fun hb hm H => ?_) fun hb hm H => ?_)
     ·refine B7 8 ?_
      obtain ⟨x9, hx, hm⟩ := bind_some hm
      refine Ad 4 [(27, AJ r1 x1.length)] 31 (.str x9) h5 H (fun fr => .of (O2 (k := .i64) (k' := .i64) (lo := (some x2)) (hi := (some x5)) (by kernel_rfl) hx)) fun fr t H => ?_
      obtain ⟨h6, e2, A⟩ := A.pL 9 [.str x9]
      refine DE 32 (AJ (some h5.size) (([x9] : List (List UInt8)).length)) e2 H fun fr t H => ?_
      obtain ⟨hb, hm⟩ := Ac hm
      obtain ⟨r4, h7, hx, A1⟩ := HH.NR encS (by decide) A 1 (xs := x1) (ys := ([x9] : List (List UInt8))) rfl (Di A 0 rfl (n := ([x9] : List (List UInt8)).length) (z := 1) rfl (by decide)) rfl rfl hb
      replace A : HH g h7 [.AL (some h5.size) 9 ([.str x9]), .AL r4 9 (AL eS (x1 ++ ([x9] : List (List UInt8))))] F := A1
      replace A := A.k1 1
      refine Am 33 _ _ H (fun fr => .of (JS (s := Cq r1 x1.length) (by kernel_rfl) hx)) fun fr t H => ?_
      refine Bf 1 [(0, .str p0), (3, AJ r4 ((x1 ++ ([x9] : List (List UInt8))).length)), (5, Ai x5)] H fun fr H => at_nil ?_
      exact .inl ⟨_, rfl, Ao hm, _, H.ls, A⟩
     exact Ej (.inl ⟨_, rfl, Ao hm, _, H.ls, A⟩)
    clear ho
    clear A
    intro e fr h8 hQ
    rcases hQ with ⟨x8, rfl, rfl, r3, H, A⟩ | hF
    ·show AW _ _ _ _ _ _ _
     refine B7 3 (Al 3 [(4, Ai (IntKind.i64.wrap (x5 + 1)))] H fun fr H => at_nil ?_)
     exact nx hm ⟨_, _, rfl, _, H.ls, A⟩
    exact hF.elim
   exact hF.elim
  refine Bi (i := 0) (by kernel_rfl) ?_
  exact nr hm fun e => .inl ⟨_, rfl, e, _, H.ls, A⟩
 clear ho
 clear A
 intro e fr h9 hQ
 rcases hQ with ⟨x3, rfl, rfl, r2, H, A⟩ | hF
 ·show AW _ _ _ _ _ _ _
  refine AH 2 (AN 2 [(2, AJ r2 x3.length)] H fun fr H => BB ?_)
  obtain rfl := Ao hm
  exact ⟨.inl rfl, _, rH H, _, rfl, A⟩
 exact hF.elim
def C1 (x1 : List (List UInt8)) (s : (List (List UInt8)) × Int) : Option (((List (List UInt8)) × Int) ⊕ (((List (List UInt8))))) :=
 match s with
 | (x2, x3) => Ax (decide (x3 < (x1.length : Int))) (((Em x1 x3).bind fun x6 => Ax (!(x6 == ([46] : List UInt8))) ((Em x1 x3).bind fun x7 => DW (QX 16 (x2.length + ([x7] : List (List UInt8)).length)) <| some (x2 ++ ([x7] : List (List UInt8)))) (some x2) : Option (((List (List UInt8))))).bind fun x5 => some (.inl (x5, IntKind.i64.wrap (x3 + 1)))) (some (.inr x2))
def CK (p0 : List UInt8) : Option ((List (List UInt8))) :=
 (Ce p0).bind fun x1 => (loop (C1 x1) (([] : List (List UInt8)), (0 : Int))).bind fun x4 => some x4
theorem E8 {p0 q0} (hm : CK p0 = some q0) (A : HH g h [] F) (hc : Bp (cfg.still 17) av = [.str p0] := by kernel_rfl) : ∃ v h', Bz cfg g h 17 av v h' ∧ v = vs eS q0 ∧ HH g h' [] F := by
 refine W9 28 [.tmp 2] hc ?_
 clear hc
 unfold CK at hm
 refine bg 28 [(0, .str p0)] fun fr H => ?_
 refine AH 1 (DC 1 [] 2 H fun fr H => ?_)
 obtain ⟨h1, e1, A⟩ := A.pL 9 []
 refine DE 6 (AJ (some h.size) (([] : List (List UInt8)).length)) e1 H fun fr t H => ?_
 refine DC 1 [(3, AJ (some h.size) (([] : List (List UInt8)).length))] 3 H fun fr H => ?_
 obtain ⟨x1, hx, hm⟩ := bind_some hm
 obtain ⟨v1, h2, hr, rqw1, rfl, A1⟩ := He (av := [.str p0]) hx (A.cut 0)
 replace A : HH g h2 [.AL rqw1 9 (AL eS x1), .AL (some h.size) 9 ([])] F := A.Il (n := 0) A1
 refine Bg 1 [] 8 hr H fun fr t H => ?_
 refine AN 1 [(4, AJ rqw1 x1.length)] H fun fr H => AR (AH 1 (AN 1 [(5, Ai 0)] H fun fr H => AO (id := 0) (by kernel_rfl) ?_))
 replace A : HH g h2 [_, .AL (some h.size) 9 (AL eS ([] : List (List UInt8)))] F := A
 obtain ⟨o1, ho, hm⟩ := bind_some hm
 refine Af (Q' := fun e fr' h' => (∃ x4, e = .exit 0 ∧ x4 = o1 ∧ ∃ r2, Has fr' 28 [(3, AJ r2 x4.length)] ∧ HH g h' [.AL r2 9 (AL eS x4)] F) ∨ False) ?_ ?_
 ·refine Bn (by kernel_rfl) (fun (s : (List (List UInt8)) × Int) fr' h' => ∃ x2 x3, (x2, x3) = s ∧ ∃ r1, Has fr' 28 [(3, AJ r1 x2.length), (4, AJ rqw1 x1.length), (5, Ai x3)] ∧ HH g h' [.AL rqw1 9 (AL eS x1), .AL r1 9 (AL eS x2)] F) ho ⟨_, _, rfl, some h.size, H.ls, A⟩ ?_
  clear ho hm H A
  intro s q fr h3 hI hm
  obtain ⟨x2, x3, rfl, r1, H, A⟩ := hI
  unfold C1 at hm
  refine AR (AH 4 (AN 4 [(12, .bool (decide (x3 < (x1.length : Int))))] H fun fr H => Aw 12 H hm (fun hb hm H => ?_) fun hb hm H => ?_))
  ·refine CZ id (AR ?_)
   obtain ⟨o2, ho, hm⟩ := bind_some hm
   refine Af (Q' := fun e fr' h' => (∃ x5, e = .normal ∧ x5 = o2 ∧ ∃ r3, Has fr' 28 [(3, AJ r3 x5.length), (4, AJ rqw1 x1.length), (5, Ai x3)] ∧ HH g h' [.AL rqw1 9 (AL eS x1), .AL r3 9 (AL eS x5)] F) ∨ False) ?_ ?_
   ·replace hm := ho
    clear ho
    refine AO (id := 1) (by kernel_rfl) ?_
    refine AH 5 ?_
    obtain ⟨x6, hx, hm⟩ := bind_some hm
    obtain ⟨i1, er1, _, hx, hq1⟩ := HH.Kr encS (by decide) A 0 (xs := x1) rfl hx
    refine Ad 2 [] 17 (.ptr (some (i1, x3.toNat * 1))) h3 H (fun fr => .of (Db (s := Cq rqw1 x1.length) (by kernel_rfl) hx)) fun fr t H => ?_
    refine Am 18 _ _ H (fun fr => .of (DN (by kernel_rfl) (Cm encS (HH.row A 0 rfl er1) hq1 (o := 0) rfl))) fun fr t H => ?_
    refine AN 1 [(19, .bool (!(x6 == ([46] : List UInt8))))] H fun fr H => Aw 19 H hm (fun hb hm H => ?_) fun hb hm H => ?_
    ·refine B7 8 ?_
     obtain ⟨x7, hx, hm⟩ := bind_some hm
     obtain ⟨i2, er2, _, hx, hq2⟩ := HH.Kr encS (by decide) A 0 (xs := x1) rfl hx
     refine Ad 3 [(20, AJ r1 x2.length)] 23 (.ptr (some (i2, x3.toNat * 1))) h3 H (fun fr => .of (Db (s := Cq rqw1 x1.length) (by kernel_rfl) hx)) fun fr t H => ?_
     refine Am 24 _ _ H (fun fr => .of (DN (by kernel_rfl) (Cm encS (HH.row A 0 rfl er2) hq2 (o := 0) rfl))) fun fr t H => ?_
     obtain ⟨h4, e2, A⟩ := A.pL 9 [.str x7]
     refine DE 25 (AJ (some h3.size) (([x7] : List (List UInt8)).length)) e2 H fun fr t H => ?_
     obtain ⟨hb, hm⟩ := Ac hm
     obtain ⟨r4, h5, hx, A1⟩ := HH.NR encS (by decide) A 2 (xs := x2) (ys := ([x7] : List (List UInt8))) rfl (Di A 0 rfl (n := ([x7] : List (List UInt8)).length) (z := 1) rfl (by decide)) rfl rfl hb
     replace A : HH g h5 [.AL (some h3.size) 9 ([.str x7]), _, .AL r4 9 (AL eS (x2 ++ ([x7] : List (List UInt8))))] F := A1
     replace A := A.k2 1 2
     refine Am 26 _ _ H (fun fr => .of (JS (s := Cq r1 x2.length) (by kernel_rfl) hx)) fun fr t H => ?_
     refine Bf 1 [(3, AJ r4 ((x2 ++ ([x7] : List (List UInt8))).length)), (4, AJ rqw1 x1.length), (5, Ai x3)] H fun fr H => at_nil ?_
     exact .inl ⟨_, rfl, Ao hm, _, H.ls, A⟩
    exact Ej (.inl ⟨_, rfl, Ao hm, _, H.ls, A⟩)
   clear ho
   clear A
   intro e fr h6 hQ
   rcases hQ with ⟨x5, rfl, rfl, r3, H, A⟩ | hF
   ·show AW _ _ _ _ _ _ _
    refine B7 3 (Bf 3 [(3, AJ r3 x5.length), (4, AJ rqw1 x1.length), (5, Ai (IntKind.i64.wrap (x3 + 1)))] H fun fr H => at_nil ?_)
    exact nx hm ⟨_, _, rfl, _, H.ls, A⟩
   exact hF.elim
  refine Bi (i := 0) (by kernel_rfl) ?_
  replace A := A.k1 1
  exact nr hm fun e => .inl ⟨_, rfl, e, _, H.ls, A⟩
 clear ho
 clear A
 intro e fr h7 hQ
 rcases hQ with ⟨x4, rfl, rfl, r2, H, A⟩ | hF
 ·show AW _ _ _ _ _ _ _
  refine AH 2 (AN 2 [(2, AJ r2 x4.length)] H fun fr H => BB ?_)
  obtain rfl := Ao hm
  refine ⟨.inl rfl, AJ r2 x4.length, rH H, ?_⟩
  obtain ⟨h8, hz0, A1⟩ := (A.front 0 rfl).XC (n := x4.length) (z := 1) (encS.Km _) (by decide)
  replace A : HH g h8 [] F := A1
  refine ⟨vs eS x4, h8, by first | rfl | (simp only [Wi, WD, WQ, WJ, WY, WH, WM, Wf, WK, Wa, WE, WZ, Wj, Wg, Wl, WV, Wb, WX, Option.map_some, hz0] <;> rfl), ?_⟩
  exact ⟨rfl, A⟩
 exact hF.elim
def C0 (p0 : List (List UInt8)) (p1 : List (List UInt8)) (s : Int) : Option ((Int) ⊕ ((Unit) ⊕ (Bool))) :=
 match s with
 | x1 => Ax ((decide (x1 < (p0.length : Int))) && (decide (x1 < (p1.length : Int)))) ((Em p0 x1).bind fun x3 => (Em p1 x1).bind fun x4 => Ax (!(x3 == x4)) ((Em p0 x1).bind fun x5 => (Em p1 x1).bind fun x6 => some (.inr (.inr (Op.bytesLess x5 x6)))) (some (.inl (IntKind.i64.wrap (x1 + 1))))) (some (.inr (.inl ())))
def CJ (p0 : List (List UInt8)) (p1 : List (List UInt8)) : Option (Bool) :=
 (loop (C0 p0 p1) (0 : Int)).bind fun o1 => (match o1 with | .inl _ => some (decide ((p0.length : Int) < (p1.length : Int))) | .inr x2 => some x2)
theorem IG {p0 p1 q0} (hm : CJ p0 p1 = some q0) (A : HH g h [] F) (hc : Bp (cfg.still 37) av = [vs eS p0, vs eS p1] := by kernel_rfl) : ∃ v h', Bz cfg g h 37 av v h' ∧ v = .bool q0 ∧ HH g h' [] F := by
 refine G7 41 [.tmp 4] hc ?_
 clear hc
 unfold CJ at hm
 refine bg 41 [(0, vs eS p0), (1, vs eS p1)] fun fr H => ?_
 refine AH 1 (AN 1 [] H fun fr H => AR (AH 1 (AN 1 [(5, Ai 0)] H fun fr H => AO (id := 0) (by kernel_rfl) ?_)))
 obtain ⟨o1, ho, hm⟩ := bind_some hm
 refine Af (Q' := fun e fr' h' => (e = .exit 0 ∧ .inl () = o1 ∧ Has fr' 41 [(0, vs eS p0), (1, vs eS p1)] ∧ HH g h' [] F) ∨ (∃ x2, e = .ret ∧ .inr x2 = o1 ∧ Has fr' 41 [(4, .bool x2)] ∧ HH g h' [] F) ∨ False) ?_ ?_
 ·refine Bn (by kernel_rfl) (fun (s : Int) fr' h' => ∃ x1, x1 = s ∧ Has fr' 41 [(0, vs eS p0), (1, vs eS p1), (5, Ai x1)] ∧ HH g h' [] F) ho ⟨_, rfl, H.ls, A⟩ ?_
  clear ho hm H A
  intro s q fr h1 hI hm
  obtain ⟨x1, rfl, H, A⟩ := hI
  unfold C0 at hm
  refine AR (AH 10 (Al 5 [(10, .bool (decide (x1 < (p0.length : Int))))] H fun fr H => Gf 5 (fun fr' h' => h1 = h' ∧ Has fr' 41 [(0, vs eS p0), (1, vs eS p1), (5, Ai x1), (15, .bool ((decide (x1 < (p0.length : Int))) && (decide (x1 < (p1.length : Int)))))]) ?_ ?_))
  ·cases hb : (decide (x1 < (p0.length : Int)) : Bool) with
   | true =>
    replace H := H.kn 10 hb
    exact Al 5 [(15, .bool (decide (x1 < (p1.length : Int))))] H fun fr H => Ki H hb
   | false =>
    replace H := H.kn 10 hb
    exact Al 5 [(15, .bool false)] H fun fr H => Ki H hb
  intro t fr h' hK
  obtain ⟨e, H⟩ := hK
  subst e
  refine ET id (Aw 15 H hm (fun hb hm H => ?_) fun hb hm H => ?_)
  ·refine CZ id (AR (AO (id := 1) (by kernel_rfl) ?_))
   refine AR (MO 4 9 ?_)
   obtain ⟨x3, hx, hm⟩ := bind_some hm
   refine Ad 2 [] 20 (.C3 [.str x3]) h1 H (fun fr => .of (GZ (e := eS) (x := x3) encS (by decide) (by kernel_rfl) hx)) fun fr t H => ?_
   refine Am 21 (.str x3) h1 H (fun fr => .of (Jt (by kernel_rfl))) fun fr t H => ?_
   obtain ⟨x4, hx, hm⟩ := bind_some hm
   refine Ad 2 [] 24 (.C3 [.str x4]) h1 H (fun fr => .of (GZ (e := eS) (x := x4) encS (by decide) (by kernel_rfl) hx)) fun fr t H => ?_
   refine Am 25 (.str x4) h1 H (fun fr => .of (Jt (by kernel_rfl))) fun fr t H => ?_
   refine AN 1 [(26, .bool (!(x3 == x4)))] H fun fr H => Aw 26 H hm (fun hb hm H => ?_) fun hb hm H => ?_
   ·refine AR (MO 5 10 ?_)
    obtain ⟨x5, hx, hm⟩ := bind_some hm
    refine Ad 2 [] 29 (.C3 [.str x5]) h1 H (fun fr => .of (GZ (e := eS) (x := x5) encS (by decide) (by kernel_rfl) hx)) fun fr t H => ?_
    refine Am 30 (.str x5) h1 H (fun fr => .of (Jt (by kernel_rfl))) fun fr t H => ?_
    obtain ⟨x6, hx, hm⟩ := bind_some hm
    refine Ad 2 [] 33 (.C3 [.str x6]) h1 H (fun fr => .of (GZ (e := eS) (x := x6) encS (by decide) (by kernel_rfl) hx)) fun fr t H => ?_
    refine Am 34 (.str x6) h1 H (fun fr => .of (Jt (by kernel_rfl))) fun fr t H => ?_
    refine AN 2 [(4, .bool (Op.bytesLess x5 x6))] H fun fr H => BB ?_
    exact nr hm fun e => Or.inr (.inl ⟨_, rfl, e, H.ls, A⟩)
   refine IK 3 id (Bf 3 [(0, vs eS p0), (1, vs eS p1), (5, Ai (IntKind.i64.wrap (x1 + 1)))] H fun fr H => at_nil ?_)
   exact nx hm ⟨_, rfl, H.ls, A⟩
  refine Bi (i := 0) (by kernel_rfl) ?_
  exact nr hm fun e => .inl ⟨rfl, e, H.ls, A⟩
 clear ho
 clear A
 intro e fr h2 hQ
 rcases hQ with ⟨rfl, rfl, H, A⟩ | ⟨x2, rfl, rfl, H, A⟩ | hF
 ·show AW _ _ _ _ _ _ _
  refine AH 6 (AN 6 [(4, .bool (decide ((p0.length : Int) < (p1.length : Int))))] H fun fr H => BB ?_)
  obtain rfl := Ao hm
  exact ⟨.inl rfl, _, rH H, rfl, A⟩
 ·obtain rfl := Ao hm
  exact ⟨.inl rfl, _, rH H, rfl, A⟩
 exact hF.elim
def CG (p0 : List AD) (p1 : List (List UInt8)) (p2 : Int) (s : (List AD) × Bool × Int) : Option (((List AD) × Bool × Int) ⊕ (((List AD) × Bool))) :=
 match s with
 | (x1, x2, x3) => Ax (decide (x3 < (p0.length : Int))) ((Em p0 x3).bind fun x6 => ((CL x6.L p1).bind fun x10 => Ax x10 ((Ax (decide (p2 ≥ 0)) (some p2) (some x6.At) : Option ((Int))).bind fun x11 => some (x11, x1, true)) ((Ax (!x2) ((CJ p1 x6.L).bind fun x13 => some x13) (some false) : Option (Bool)).bind fun x12 => Ax x12 (DW (QX 32 (x1.length + ([(⟨p1, p2⟩ : AD)] : List AD).length)) <| some (x6.At, (x1 ++ ([(⟨p1, p2⟩ : AD)] : List AD)), true)) (some (x6.At, x1, x2))) : Option ((Int × (List AD) × Bool))).bind fun (x7, x8, x9) => DW (QX 32 (x8.length + ([(⟨x6.L, x7⟩ : AD)] : List AD).length)) <| some (.inl ((x8 ++ ([(⟨x6.L, x7⟩ : AD)] : List AD)), x9, IntKind.i64.wrap (x3 + 1)))) (some (.inr (x1, x2)))
def Bl (p0 : List AD) (p1 : List (List UInt8)) (p2 : Int) : Option ((List AD)) :=
 (loop (CG p0 p1 p2) (([] : List AD), false, (0 : Int))).bind fun (x4, x5) => (Ax (!x5) (DW (QX 32 (x4.length + ([(⟨p1, p2⟩ : AD)] : List AD).length)) <| some (x4 ++ ([(⟨p1, p2⟩ : AD)] : List AD))) (some x4) : Option (((List AD)))).bind fun x14 => some x14
theorem EC {p0 p1 p2 rp0 q0} (hm : Bl p0 p1 p2 = some q0) (A : HH g h [.AL rp0 35 (AL AG p0)] F) (hc : Bp (cfg.still 24) av = [AJ rp0 p0.length, vs eS p1, Ai p2] := by kernel_rfl) : ∃ v h', Bz cfg g h 24 av v h' ∧ ∃ (rq0 : Option Nat), v = AJ rq0 q0.length ∧ HH g h' [.AL rq0 35 (AL AG q0), .AL rp0 35 (AL AG p0)] F := by
 refine G7 57 [.tmp 6] hc ?_
 clear hc
 unfold Bl at hm
 refine bg 57 [(0, AJ rp0 p0.length), (1, vs eS p1), (2, Ai p2)] fun fr H => ?_
 refine AH 1 (DC 1 [] 2 H fun fr H => ?_)
 obtain ⟨h1, e1, A⟩ := A.pL 35 []
 refine DE 11 (AJ (some h.size) (([] : List AD).length)) e1 H fun fr t H => ?_
 refine DC 1 [(7, AJ (some h.size) (([] : List AD).length))] 1 H fun fr H => AN 1 [(8, .bool false)] H fun fr H => AR (AH 1 (AN 1 [(9, Ai 0)] H fun fr H => AO (id := 0) (by kernel_rfl) ?_))
 replace A : HH g h1 [.AL (some h.size) 35 (AL AG ([] : List AD)), _] F := A
 obtain ⟨o1, ho, hm⟩ := bind_some hm
 refine Af (Q' := fun e fr' h' => (∃ x4 x5, e = .exit 0 ∧ (x4, x5) = o1 ∧ ∃ r2, Has fr' 57 [(1, vs eS p1), (2, Ai p2), (7, AJ r2 x4.length), (8, .bool x5)] ∧ HH g h' [.AL r2 35 (AL AG x4), .AL rp0 35 (AL AG p0)] F) ∨ False) ?_ ?_
 ·refine Bn (by kernel_rfl) (fun (s : (List AD) × Bool × Int) fr' h' => ∃ x1 x2 x3, (x1, x2, x3) = s ∧ ∃ r1, Has fr' 57 [(0, AJ rp0 p0.length), (1, vs eS p1), (2, Ai p2), (7, AJ r1 x1.length), (8, .bool x2), (9, Ai x3)] ∧ HH g h' [.AL r1 35 (AL AG x1), .AL rp0 35 (AL AG p0)] F) ho ⟨_, _, _, rfl, some h.size, H.ls, A⟩ ?_
  clear ho hm H A
  intro s q fr h2 hI hm
  obtain ⟨x1, x2, x3, rfl, r1, H, A⟩ := hI
  unfold CG at hm
  refine AR (AH 4 (AN 4 [(15, .bool (decide (x3 < (p0.length : Int))))] H fun fr H => Aw 15 H hm (fun hb hm H => ?_) fun hb hm H => ?_))
  ·refine CZ id (AR (AO (id := 1) (by kernel_rfl) ?_))
   refine AH 6 ?_
   obtain ⟨x6, hx, hm⟩ := bind_some hm
   obtain ⟨i1, er1, _, hx, hq1⟩ := HH.Kr AM (by decide) A 1 (xs := p0) rfl hx
   refine Ad 2 [] 20 (.ptr (some (i1, x3.toNat * 2))) h2 H (fun fr => .of (Db (s := Cq rp0 p0.length) (by kernel_rfl) hx)) fun fr t H => ?_
   refine Am 21 _ _ H (fun fr => .of (Qf (by kernel_rfl) (Ky AM (HH.row A 1 rfl er1) hq1 0 2 (Nat.le_of_ble_eq_true rfl)))) fun fr t H => ?_
   obtain ⟨h3, e2, A⟩ := A.pu (.cells none 2 [.slice none 0, Ai 0])
   refine DE 10 (.ptr (some (h2.size, 0))) e2 H fun fr t H => ?_
   obtain ⟨h4, hx, A⟩ := A.s0 0 [vs eS x6.L, Ai x6.At] [_, _]
   refine SF hx H fun fr t H => ?_
   refine ET id (AR ?_)
   obtain ⟨o2, ho, hm⟩ := bind_some hm
   refine Af (Q' := fun e fr' h' => (∃ x7 x8 x9, e = .normal ∧ (x7, x8, x9) = o2 ∧ ∃ r3, Has fr' 57 [(0, AJ rp0 p0.length), (1, vs eS p1), (2, Ai p2), (7, AJ r3 x8.length), (8, .bool x9), (9, Ai x3), (10, .ptr (some (h2.size, 0)))] ∧ HH g h' [.obj h2.size (.cells none 2 [vs eS x6.L, Ai x7]), .AL r3 35 (AL AG x8), .AL rp0 35 (AL AG p0)] F) ∨ False) ?_ ?_
   ·replace hm := ho
    clear ho
    refine AH 4 (EA 1 [] 23 0 0 A H fun fr t H => ?_)
    obtain ⟨x10, hx, hm⟩ := bind_some hm
    obtain ⟨v1, h5, hr, rfl, A1⟩ := FE (av := [vs eS x6.L, vs eS p1]) hx (A.cut 0)
    replace A := A.Oi A1
    refine Bg 1 [] 25 hr H fun fr t H => ?_
    refine ET id (Aw 25 H hm (fun hb hm H => ?_) fun hb hm H => ?_)
    ·refine AR ?_
     obtain ⟨o3, ho, hm⟩ := bind_some hm
     refine Af (Q' := fun e fr' h' => (∃ x11, e = .normal ∧ x11 = o3 ∧ Has fr' 57 [(0, AJ rp0 p0.length), (1, vs eS p1), (2, Ai p2), (7, AJ r1 x1.length), (9, Ai x3), (10, .ptr (some (h2.size, 0)))] ∧ HH g h' [.obj h2.size (.cells none 2 [vs eS x6.L, Ai x11]), .AL r1 35 (AL AG x1), .AL rp0 35 (AL AG p0)] F) ∨ False) ?_ ?_
     ·replace hm := ho
      clear ho
      refine AH 2 (AN 2 [(27, .bool (decide (p2 ≥ 0)))] H fun fr H => Aw 27 H hm (fun hb hm H => ?_) fun hb hm H => ?_)
      ·refine B7 3 ?_
       obtain ⟨h6, hx, A⟩ := A.s0 1 [Ai p2] [_, _]
       refine QQ 2 [] hx H fun fr t H => ?_
       refine at_nil ?_
       exact .inl ⟨_, rfl, Ao hm, H.ls, A⟩
      exact Ej (.inl ⟨_, rfl, Ao hm, H.ls, A⟩)
     clear ho
     clear A
     intro e fr h7 hQ
     rcases hQ with ⟨x11, rfl, rfl, H, A⟩ | hF
     ·show AW _ _ _ _ _ _ _
      refine B7 1 (Al 1 [(8, .bool true)] H fun fr H => at_nil ?_)
      exact .inl ⟨_, _, _, rfl, Ao hm, _, H.ls, A⟩
     exact hF.elim
    refine AH 8 (Al 3 [(32, .bool (!x2))] H fun fr H => ?_)
    obtain ⟨x12, ho, hm⟩ := bind_some hm
    refine Gf 5 (fun fr' h' => Has fr' 57 [(0, AJ rp0 p0.length), (1, vs eS p1), (2, Ai p2), (7, AJ r1 x1.length), (8, .bool x2), (9, Ai x3), (10, .ptr (some (h2.size, 0))), (37, .bool x12)] ∧ HH g h' [.obj h2.size (.cells none 2 [vs eS x6.L, Ai x6.At]), .AL r1 35 (AL AG x1), .AL rp0 35 (AL AG p0)] F) ?_ ?_
    ·rcases DU ho with ⟨hb, hm⟩ | ⟨hb, hm⟩
     ·replace H := H.kn 32 hb
      refine EA 2 [(33, vs eS p1)] 35 0 0 A H fun fr t H => ?_
      obtain ⟨x13, hx, hm⟩ := bind_some hm
      obtain ⟨v1, h9, hr, rfl, A1⟩ := IG (av := [vs eS p1, vs eS x6.L]) hx (A.cut 0)
      replace A := A.Oi A1
      refine Co 36 hr H fun fr t H => ?_
      refine Al 1 [(37, .bool x13)] H fun fr H => ?_
      obtain rfl := Ao hm
      exact at_nil ⟨H.ls, A⟩
     replace H := H.kn 32 hb
     refine Al 5 [(37, .bool false)] H fun fr H => ?_
     obtain rfl := Ao hm
     exact at_nil ⟨H.ls, A⟩
    clear A
    intro t fr h8 hK
    obtain ⟨H, A⟩ := hK
    refine ET id (Aw 37 H hm (fun hb hm H => ?_) fun hb hm H => ?_)
    ·refine AH 7 (Al 4 [(38, AJ r1 x1.length), (41, .agg [vs eS p1, Ai p2])] H fun fr H => ?_)
     obtain ⟨h10, e3, A⟩ := A.pL 35 [vs eS p1, Ai p2]
     refine DE 42 (AJ (some h8.size) (([(⟨p1, p2⟩ : AD)] : List AD).length)) e3 H fun fr t H => ?_
     obtain ⟨hb, hm⟩ := Ac hm
     obtain ⟨r4, h11, hx, A1⟩ := HH.NR AM (by decide) A 2 (xs := x1) (ys := ([(⟨p1, p2⟩ : AD)] : List AD)) rfl (Di A 0 rfl (n := ([(⟨p1, p2⟩ : AD)] : List AD).length) (z := 2) rfl (by decide)) rfl rfl hb
     replace A : HH g h11 [.AL (some h8.size) 35 ([vs eS p1, Ai p2]), _, .AL r4 35 (AL AG (x1 ++ ([(⟨p1, p2⟩ : AD)] : List AD))), _] F := A1
     replace A := A.k3 1 2 3
     refine Am 43 _ _ H (fun fr => .of (JS (s := Cq r1 x1.length) (by kernel_rfl) hx)) fun fr t H => ?_
     refine Bf 1 [(0, AJ rp0 p0.length), (1, vs eS p1), (2, Ai p2), (7, AJ r4 ((x1 ++ ([(⟨p1, p2⟩ : AD)] : List AD)).length)), (9, Ai x3), (10, .ptr (some (h2.size, 0)))] H fun fr H => Ju 1 id (Al 1 [(8, .bool true)] H fun fr H => at_nil ?_)
     exact .inl ⟨_, _, _, rfl, Ao hm, _, H.ls, A⟩
    exact Ej (.inl ⟨_, _, _, rfl, Ao hm, _, H.ls, A⟩)
   clear ho
   clear A
   intro e fr h12 hQ
   rcases hQ with ⟨x7, x8, x9, rfl, rfl, r3, H, A⟩ | hF
   ·show AW _ _ _ _ _ _ _
    refine B7 5 (Ad 1 [(44, AJ r3 x8.length)] 45 _ _ H (fun fr => .of (Qf (by kernel_rfl) (A.S5 0 rfl (o := 0) (n := 2) ⟨Nat.le_of_ble_eq_true rfl, rfl⟩))) fun fr t H => ?_)
    obtain ⟨h13, e4, A⟩ := A.pL 35 [vs eS x6.L, Ai x7]
    refine DE 46 (AJ (some h12.size) (([(⟨x6.L, x7⟩ : AD)] : List AD).length)) e4 H fun fr t H => ?_
    obtain ⟨hb, hm⟩ := Ac hm
    obtain ⟨r5, h14, hx, A1⟩ := HH.NR AM (by decide) A 2 (xs := x8) (ys := ([(⟨x6.L, x7⟩ : AD)] : List AD)) rfl (Di A 0 rfl (n := ([(⟨x6.L, x7⟩ : AD)] : List AD).length) (z := 2) rfl (by decide)) rfl rfl hb
    replace A : HH g h14 [.AL (some h12.size) 35 ([vs eS x6.L, Ai x7]), _, .AL r5 35 (AL AG (x8 ++ ([(⟨x6.L, x7⟩ : AD)] : List AD))), _] F := A1
    replace A := A.k3 1 2 3
    refine Am 47 _ _ H (fun fr => .of (JS (s := Cq r3 x8.length) (by kernel_rfl) hx)) fun fr t H => ?_
    refine Bf 1 [(0, AJ rp0 p0.length), (1, vs eS p1), (2, Ai p2), (7, AJ r5 ((x8 ++ ([(⟨x6.L, x7⟩ : AD)] : List AD)).length)), (8, .bool x9), (9, Ai x3)] H fun fr H => Ju 3 id (Bf 3 [(0, AJ rp0 p0.length), (1, vs eS p1), (2, Ai p2), (7, AJ r5 ((x8 ++ ([(⟨x6.L, x7⟩ : AD)] : List AD)).length)), (8, .bool x9), (9, Ai (IntKind.i64.wrap (x3 + 1)))] H fun fr H => at_nil ?_)
    replace A := A.k2 1 2
    exact nx hm ⟨_, _, _, rfl, _, H.ls, A⟩
   exact hF.elim
  refine Bi (i := 0) (by kernel_rfl) ?_
  exact nr hm fun e => .inl ⟨_, _, rfl, e, _, H.ls, A⟩
 clear ho
 clear A
 intro e fr h15 hQ
 rcases hQ with ⟨x4, x5, rfl, rfl, r2, H, A⟩ | hF
 ·show AW _ _ _ _ _ _ _
  refine AR ?_
  obtain ⟨o4, ho, hm⟩ := bind_some hm
  refine Af (Q' := fun e fr' h' => (∃ x14, e = .normal ∧ x14 = o4 ∧ ∃ r6, Has fr' 57 [(7, AJ r6 x14.length)] ∧ HH g h' [.AL r6 35 (AL AG x14), .AL rp0 35 (AL AG p0)] F) ∨ False) ?_ ?_
  ·replace hm := ho
   clear ho
   refine AH 2 (AN 2 [(49, .bool (!x5))] H fun fr H => Aw 49 H hm (fun hb hm H => ?_) fun hb hm H => ?_)
   ·refine B7 7 (Al 4 [(50, AJ r2 x4.length), (53, .agg [vs eS p1, Ai p2])] H fun fr H => ?_)
    obtain ⟨h16, e5, A⟩ := A.pL 35 [vs eS p1, Ai p2]
    refine DE 54 (AJ (some h15.size) (([(⟨p1, p2⟩ : AD)] : List AD).length)) e5 H fun fr t H => ?_
    obtain ⟨hb, hm⟩ := Ac hm
    obtain ⟨r7, h17, hx, A1⟩ := HH.NR AM (by decide) A 1 (xs := x4) (ys := ([(⟨p1, p2⟩ : AD)] : List AD)) rfl (Di A 0 rfl (n := ([(⟨p1, p2⟩ : AD)] : List AD).length) (z := 2) rfl (by decide)) rfl rfl hb
    replace A : HH g h17 [.AL (some h15.size) 35 ([vs eS p1, Ai p2]), .AL r7 35 (AL AG (x4 ++ ([(⟨p1, p2⟩ : AD)] : List AD))), _] F := A1
    replace A := A.k2 1 2
    refine Am 55 _ _ H (fun fr => .of (JS (s := Cq r2 x4.length) (by kernel_rfl) hx)) fun fr t H => ?_
    refine Bf 1 [(7, AJ r7 ((x4 ++ ([(⟨p1, p2⟩ : AD)] : List AD)).length))] H fun fr H => at_nil ?_
    exact .inl ⟨_, rfl, Ao hm, _, H.ls, A⟩
   exact Ej (.inl ⟨_, rfl, Ao hm, _, H.ls, A⟩)
  clear ho
  clear A
  intro e fr h18 hQ
  rcases hQ with ⟨x14, rfl, rfl, r6, H, A⟩ | hF
  ·show AW _ _ _ _ _ _ _
   refine AH 2 (AN 2 [(6, AJ r6 x14.length)] H fun fr H => BB ?_)
   obtain rfl := Ao hm
   exact ⟨.inl rfl, _, rH H, _, rfl, A⟩
  exact hF.elim
 exact hF.elim
def BS (p0 : List (List UInt8)) (p1 : List (List UInt8)) (s : Int) : Option ((Int) ⊕ ((Unit) ⊕ (Bool))) :=
 match s with
 | x1 => Ax (decide (x1 < (p1.length : Int))) ((Em p0 x1).bind fun x3 => (Em p1 x1).bind fun x4 => Ax (!(x3 == x4)) (some (.inr (.inr false))) (some (.inl (IntKind.i64.wrap (x1 + 1))))) (some (.inr (.inl ())))
def BW (p0 : List (List UInt8)) (p1 : List (List UInt8)) : Option (Bool) :=
 Ax (decide ((p0.length : Int) < (p1.length : Int))) (some false) ((loop (BS p0 p1) (0 : Int)).bind fun o1 => (match o1 with | .inl _ => some true | .inr x2 => some x2))
theorem Es {p0 p1 q0} (hm : BW p0 p1 = some q0) (A : HH g h [] F) (hc : Bp (cfg.still 33) av = [vs eS p0, vs eS p1] := by kernel_rfl) : ∃ v h', Bz cfg g h 33 av v h' ∧ v = .bool q0 ∧ HH g h' [] F := by
 refine G7 26 [.tmp 4] hc ?_
 clear hc
 unfold BW at hm
 refine bg 26 [(0, vs eS p0), (1, vs eS p1)] fun fr H => ?_
 refine AH 1 (AN 1 [] H fun fr H => AR (AH 5 (AN 5 [(10, .bool (decide ((p0.length : Int) < (p1.length : Int))))] H fun fr H => Aw 10 H hm (fun hb hm H => ?_) fun hb hm H => ?_)))
 ·refine AH 1 (AN 1 [(4, .bool false)] H fun fr H => BB ?_)
  obtain rfl := Ao hm
  exact ⟨.inl rfl, _, rH H, rfl, A⟩
 refine CZ id (AR (AH 1 (AN 1 [(5, Ai 0)] H fun fr H => AO (id := 0) (by kernel_rfl) ?_)))
 obtain ⟨o1, ho, hm⟩ := bind_some hm
 refine Af (Q' := fun e fr' h' => (e = .exit 0 ∧ .inl () = o1 ∧ Has fr' 26 [] ∧ HH g h' [] F) ∨ (∃ x2, e = .ret ∧ .inr x2 = o1 ∧ Has fr' 26 [(4, .bool x2)] ∧ HH g h' [] F) ∨ False) ?_ ?_
 ·refine Bn (by kernel_rfl) (fun (s : Int) fr' h' => ∃ x1, x1 = s ∧ Has fr' 26 [(0, vs eS p0), (1, vs eS p1), (5, Ai x1)] ∧ HH g h' [] F) ho ⟨_, rfl, H.ls, A⟩ ?_
  clear ho hm H A
  intro s q fr h1 hI hm
  obtain ⟨x1, rfl, H, A⟩ := hI
  unfold BS at hm
  refine AR (AH 4 (AN 4 [(14, .bool (decide (x1 < (p1.length : Int))))] H fun fr H => Aw 14 H hm (fun hb hm H => ?_) fun hb hm H => ?_))
  ·refine CZ id (AR (AO (id := 1) (by kernel_rfl) ?_))
   refine AR (MO 6 9 ?_)
   obtain ⟨x3, hx, hm⟩ := bind_some hm
   refine Ad 2 [] 19 (.C3 [.str x3]) h1 H (fun fr => .of (GZ (e := eS) (x := x3) encS (by decide) (by kernel_rfl) hx)) fun fr t H => ?_
   refine Am 20 (.str x3) h1 H (fun fr => .of (Jt (by kernel_rfl))) fun fr t H => ?_
   obtain ⟨x4, hx, hm⟩ := bind_some hm
   refine Ad 2 [] 23 (.C3 [.str x4]) h1 H (fun fr => .of (GZ (e := eS) (x := x4) encS (by decide) (by kernel_rfl) hx)) fun fr t H => ?_
   refine Am 24 (.str x4) h1 H (fun fr => .of (Jt (by kernel_rfl))) fun fr t H => ?_
   refine AN 1 [(25, .bool (!(x3 == x4)))] H fun fr H => Aw 25 H hm (fun hb hm H => ?_) fun hb hm H => ?_
   ·refine AH 1 (AN 1 [(4, .bool false)] H fun fr H => BB ?_)
    exact nr hm fun e => Or.inr (.inl ⟨_, rfl, e, H.ls, A⟩)
   refine IK 3 id (Bf 3 [(0, vs eS p0), (1, vs eS p1), (5, Ai (IntKind.i64.wrap (x1 + 1)))] H fun fr H => at_nil ?_)
   exact nx hm ⟨_, rfl, H.ls, A⟩
  refine Bi (i := 0) (by kernel_rfl) ?_
  exact nr hm fun e => .inl ⟨rfl, e, H.ls, A⟩
 clear ho
 clear A
 intro e fr h2 hQ
 rcases hQ with ⟨rfl, rfl, H, A⟩ | ⟨x2, rfl, rfl, H, A⟩ | hF
 ·show AW _ _ _ _ _ _ _
  refine AH 1 (AN 1 [(4, .bool true)] H fun fr H => BB ?_)
  obtain rfl := Ao hm
  exact ⟨.inl rfl, _, rH H, rfl, A⟩
 ·obtain rfl := Ao hm
  exact ⟨.inl rfl, _, rH H, rfl, A⟩
 exact hF.elim
end
end Go.Av.L
