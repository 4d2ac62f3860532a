/-
 A part.
-/
import Derived.Test.YtdbkpibbjnhmgaaDoorKCfg
namespace Go.Av.L
open Go.Av Go.Lib
set_option maxRecDepth 10000
set_option linter.unusedVariables false
set_option linter.unusedSimpArgs false
variable {g : Gd} {h : AB} {F : List Ck} {av : List AA}
noncomputable section
def BJ (p0 : List AO) (s : Int) : Option ((Int) ⊕ ((Unit) ⊕ (Bool))) :=
 match s with
 | x1 => BM (decide (x1 < (p0.length : Int))) ((Fv p0 x1).bind fun x3 => BM ((decide ((x3.Name.length : Int) > 100)) || (decide ((x3.Data.length : Int) > 2000))) (some (.inr (.inr true))) (some (.inl (IntKind.i64.wrap (x1 + 1))))) (some (.inr (.inl ())))
def CG (p0 : List AO) : Option (Bool) :=
 BM (decide ((p0.length : Int) > 12)) (some true) ((loop (BJ p0) (0 : Int)).bind fun o1 => (match o1 with | .inl _ => some false | .inr x2 => some x2))
theorem IB {p0 q0} (hm : CG p0 = some q0) (A : HH g h [] F) (hc : B3 (cfg.still 6) av = [vs AE p0] := by kernel_rfl) : ∃ v h', CC cfg g h 6 av v h' ∧ v = .bool q0 ∧ HH g h' [] F := by
 refine HO 25 [.tmp 2] hc ?_
 clear hc
 unfold CG at hm
 refine bg 25 [(0, vs AE p0)] fun fr H => ?_
 refine AH 1 (AQ 1 [] H fun fr H => AS (AH 3 (AQ 3 [(7, .bool (decide ((p0.length : Int) > 12)))] H fun fr H => BK 7 H hm (fun hb hm H => ?_) fun hb hm H => ?_)))
 ·refine AH 1 (AQ 1 [(2, .bool true)] H fun fr H => BV ?_)
  obtain rfl := Aq hm
  exact ⟨.inl rfl, _, rH H, rfl, A⟩
 refine C8 id (AS (AH 3 (AQ 3 [(8, vs AE p0), (9, Ai (p0.length : Int)), (10, Ai 0)] H fun fr H => AM (id := 0) (by kernel_rfl) ?_)))
 obtain ⟨o1, ho, hm⟩ := bind_some hm
 refine Al (Q' := fun e fr' h' => (e = .exit 0 ∧ .inl () = o1 ∧ Has fr' 25 [] ∧ HH g h' [] F) ∨ (∃ x2, e = .ret ∧ .inr x2 = o1 ∧ Has fr' 25 [(2, .bool x2)] ∧ HH g h' [] F) ∨ False) ?_ ?_
 ·refine CA (by kernel_rfl) (fun (s : Int) fr' h' => ∃ x1, x1 = s ∧ Has fr' 25 [(8, vs AE p0), (9, Ai (p0.length : Int)), (10, Ai x1)] ∧ HH g h' [] F) ho ⟨_, rfl, H.ls, A⟩ ?_
  clear ho hm H A
  intro s q fr h1 hI hm
  obtain ⟨x1, rfl, H, A⟩ := hI
  unfold BJ at hm
  refine AH 1 (AQ 1 [(11, .bool (decide (x1 < (p0.length : Int))))] H fun fr H => AS (BK 11 H hm (fun hb hm H => ?_) fun hb hm H => ?_))
  ·refine C8 id (AS (AM (id := 1) (by kernel_rfl) ?_))
   refine AH 4 ?_
   obtain ⟨x3, hx, hm⟩ := bind_some hm
   refine Az 12 (.DF (AE x3)) h1 H (fun fr => .of (Hi (e := AE) (x := x3) Cy (by decide) (by kernel_rfl) hx)) fun fr t H => ?_
   refine Az 13 (.agg (AE x3)) h1 H (fun fr => .of (Lg (by kernel_rfl))) fun fr t H => ?_
   obtain ⟨h2, e1, A⟩ := A.pu (.cells none 2 XC)
   refine Cw 4 (.ptr (some (h1.size, 0))) e1 H fun fr t H => ?_
   obtain ⟨h3, hx, A⟩ := A.s0 0 (AE x3) [_, _, _, _, _, _, _, _, _, _, _, _, _, _]
   refine Sb hx H fun fr t H => ?_
   refine F5 10 id (DV 1 [] 15 0 0 A H fun fr t H => ?_)
   refine Ax 3 [(18, .bool (decide ((x3.Name.length : Int) > 100)))] H fun fr H => HJ 5 (fun fr' h' => h3 = h' ∧ Has fr' 25 [(8, vs AE p0), (9, Ai (p0.length : Int)), (10, Ai x1), (23, .bool ((decide ((x3.Name.length : Int) > 100)) || (decide ((x3.Data.length : Int) > 2000))))]) ?_ ?_
   ·cases hb : (decide ((x3.Name.length : Int) > 100) : Bool) with
    | true =>
     replace H := H.kn 18 hb
     exact Ax 5 [(23, .bool true)] H fun fr H => Qn H hb
    | false =>
     replace H := H.kn 18 hb
     refine DV 1 [] 20 0 13 A H fun fr t H => ?_
     exact Ax 3 [(23, .bool (decide ((x3.Data.length : Int) > 2000)))] H fun fr H => Qn H hb
   intro t fr h' hK
   obtain ⟨e, H⟩ := hK
   subst e
   refine Dg id (BK 23 H hm (fun hb hm H => ?_) fun hb hm H => ?_)
   ·refine AH 1 (AQ 1 [(2, .bool true)] H fun fr H => BV ?_)
    replace A := A.d0
    exact nr hm fun e => Or.inr (.inl ⟨_, rfl, e, H.ls, A⟩)
   refine Ik 2 id (Bk 2 [(8, vs AE p0), (9, Ai (p0.length : Int)), (10, Ai (IntKind.i64.wrap (x1 + 1)))] H fun fr H => at_nil ?_)
   replace A := A.d0
   exact nx hm ⟨_, rfl, H.ls, A⟩
  refine B0 (i := 0) (by kernel_rfl) ?_
  exact nr hm fun e => .inl ⟨rfl, e, H.ls, A⟩
 clear ho
 clear A
 intro e fr h4 hQ
 rcases hQ with ⟨rfl, rfl, H, A⟩ | ⟨x2, rfl, rfl, H, A⟩ | hF
 ·show AW _ _ _ _ _ _ _
  refine AH 1 (AQ 1 [(2, .bool false)] H fun fr H => BV ?_)
  obtain rfl := Aq hm
  exact ⟨.inl rfl, _, rH H, rfl, A⟩
 ·obtain rfl := Aq hm
  exact ⟨.inl rfl, _, rH H, rfl, A⟩
 exact hF.elim
def CW : Option (AG) :=
 some (⟨(-1 : Int), (0 : Int), ([] : List ((List UInt8) × Nat))⟩ : AG)
theorem EB {I q00} (hm : CW = some q00) (A : HH g h [] F) (hc : B3 (cfg.still 22) av = [] := by kernel_rfl) : ∃ v h', CC cfg g h 22 av v h' ∧ ∃ (bq00 : Nat) (bq00_2 : Nat), v = .ptr (some (bq00, 0)) ∧ HH g h' [.obj bq00 (.cells none 2 [Ai q00.at_, Ai q00.Dp, .map (some bq00_2)]), .obj bq00_2 (.map 2 (Ei (fun k : List UInt8 => .str k) (fun v : Nat => .ptr (some (A8 I v, 0))) q00.AP))] F := by
 refine HO 4 [.tmp 0] hc ?_
 clear hc
 unfold CW at hm
 refine bg 4 [] fun fr H => ?_
 refine AH 1 (DP 1 [] 4 H fun fr H => ?_)
 obtain ⟨h1, e1⟩ : ∃ x, x = h.push (.map 2 []) := ⟨_, rfl⟩
 replace A : HH g h1 [.obj h.size (.map 2 (Ei (fun k : List UInt8 => .str k) (fun v : Nat => .ptr (some (A8 I v, 0))) ([] : List ((List UInt8) × Nat))))] F := (A.push _).to e1
 refine Cw 1 (.map (some h.size)) e1 H fun fr t H => ?_
 obtain ⟨h2, e2, A⟩ := A.pu (.cells none 2 [Ai (-1), Ai 0, .map (some h.size)])
 refine TD 1 [] 3 (.ptr (some (h1.size, 0))) e2 H fun fr t H => ?_
 refine AQ 1 [(0, .ptr (some (h1.size, 0)))] H fun fr H => BV ?_
 obtain rfl := Aq hm
 exact ⟨.inl rfl, _, rH H, _, _, rfl, A⟩
def Ce (p0 : List UInt8) : Option ((List UInt8)) :=
 some p0
theorem GQ {p0 q0_11} (hm : Ce p0 = some q0_11) (A : HH g h [] F) (hc : B3 (cfg.still 53) av = [.str p0, .str ([47] : List UInt8), Ai (0 : Int)] := by kernel_rfl) : ∃ v h', CC cfg g h 53 av v h' ∧ ∃ (bq0_10 : Nat) (bq0_11 : Nat) (bq0_12 : Nat), v = .func (.func 68) [] [.ptr (some (bq0_10, 0)), .ptr (some (bq0_11, 0)), .ptr (some (bq0_12, 0))] ∧ HH g h' [.obj bq0_10 (.cells none 2 [.str ([47] : List UInt8)]), .obj bq0_11 (.cells none 2 [.str q0_11]), .obj bq0_12 (.cells none 2 [Ai (0 : Int)])] F := by
 refine HO 8 [.tmp 6] hc ?_
 clear hc
 unfold Ce at hm
 refine bg 8 [(0, .str p0), (1, .str ([47] : List UInt8)), (2, Ai (0 : Int))] fun fr H => ?_
 refine AH 4 ?_
 obtain ⟨h1, e1, A⟩ := A.pu (.cells none 2 [.str p0])
 refine Cw 3 (.ptr (some (h.size, 0))) e1 H fun fr t H => ?_
 obtain ⟨h2, e2, A⟩ := A.pu (.cells none 2 [.str ([47] : List UInt8)])
 refine Cw 4 (.ptr (some (h1.size, 0))) e2 H fun fr t H => ?_
 obtain ⟨h3, e3, A⟩ := A.pu (.cells none 2 [Ai 0])
 refine Cw 5 (.ptr (some (h2.size, 0))) e3 H fun fr t H => ?_
 refine DP 1 [] 2 H fun fr H => AQ 2 [(6, .func (.func 68) [] [.ptr (some (h1.size, 0)), .ptr (some (h.size, 0)), .ptr (some (h2.size, 0))])] H fun fr H => BV ?_
 obtain rfl := Aq hm
 refine ⟨.inl rfl, .func (.func 68) [] [.ptr (some (h1.size, 0)), .ptr (some (h.size, 0)), .ptr (some (h2.size, 0))], rH H, ?_⟩
 replace A : HH g h3 [.obj h1.size (.cells none 2 [.str ([47] : List UInt8)]), .obj h.size (.cells none 2 [.str p0]), .obj h2.size (.cells none 2 [Ai 0])] F := (((A.front 0 rfl).front 2 rfl).front 2 rfl)
 exact ⟨h1.size, h.size, h2.size, rfl, A⟩
def Cr (p0 : List UInt8) : Option ((List UInt8)) :=
 (Ce p0).bind fun x1_11 => some x1_11
theorem GY {p0 q0_11} (hm : Cr p0 = some q0_11) (A : HH g h [] F) (hc : B3 (cfg.still 45) av = [.str p0, .str ([47] : List UInt8)] := by kernel_rfl) : ∃ v h', CC cfg g h 45 av v h' ∧ ∃ (bq0_10 : Nat) (bq0_11 : Nat) (bq0_12 : Nat), v = .func (.func 68) [] [.ptr (some (bq0_10, 0)), .ptr (some (bq0_11, 0)), .ptr (some (bq0_12, 0))] ∧ HH g h' [.obj bq0_10 (.cells none 2 [.str ([47] : List UInt8)]), .obj bq0_11 (.cells none 2 [.str q0_11]), .obj bq0_12 (.cells none 2 [Ai (0 : Int)])] F := by
 refine HO 8 [.tmp 4] hc ?_
 clear hc
 unfold Cr at hm
 refine bg 8 [(0, .str p0), (1, .str ([47] : List UInt8))] fun fr H => ?_
 refine AH 1 (DP 1 [] 4 H fun fr H => ?_)
 obtain ⟨x1_11, hx, hm⟩ := bind_some hm
 obtain ⟨v1, h1, hr, bqw1_10, bqw1_11, bqw1_12, rfl, A1⟩ := GQ (av := [.str p0, .str ([47] : List UInt8), Ai 0]) hx (A.cut 0)
 replace A := A.X1 A1
 refine CP 2 [] 7 hr H fun fr t H => ?_
 refine AQ 1 [(4, .func (.func 68) [] [.ptr (some (bqw1_10, 0)), .ptr (some (bqw1_11, 0)), .ptr (some (bqw1_12, 0))])] H fun fr H => BV ?_
 obtain rfl := Aq hm
 exact ⟨.inl rfl, _, rH H, _, _, _, rfl, A⟩
def Ap {SY RY : Type} (Y : SY → (List UInt8) → Option (SY ⊕ RY)) (s : (List UInt8) × (SY ⊕ RY)) : Option (((List UInt8) × (SY ⊕ RY)) ⊕ (((List UInt8) × (SY ⊕ RY)) ⊕ ((List UInt8) × (SY ⊕ RY)))) :=
 match s with
 | (x1, y1) => Dm (decide (x1.length ≤ 4294967280)) <| BM (decide ((Lib.index x1 ([47] : List UInt8)) < 0)) (some (.inr (.inl (x1, y1)))) ((L1 x1 none (some (IntKind.i64.wrap ((Lib.index x1 ([47] : List UInt8)) + 0)))).bind fun x4 => (N1 Y y1 x4).bind fun (x5, y4) => BM (!x5) (some (.inr (.inr (x1, y4)))) ((L1 x1 (some (IntKind.i64.wrap ((Lib.index x1 ([47] : List UInt8)) + 1))) none).bind fun x6 => some (.inl (x6, y4))))
def B4 {SY RY : Type} (Y : SY → (List UInt8) → Option (SY ⊕ RY)) (y : SY ⊕ RY) (p2 : List UInt8) : Option ((List UInt8) × (SY ⊕ RY)) :=
 (loop (Ap Y) (p2, y)).bind fun o1 => (match o1 with | .inl (x2, y2) => (N1 Y y2 x2).bind fun (x7, y5) => some (x2, y5) | .inr (x3, y3) => some (x3, y3))
theorem E0 {SY RY : Type} {R : SY ⊕ RY → List Ck → Prop} {Y : SY → (List UInt8) → Option (SY ⊕ RY)} {y : SY ⊕ RY} {p2 l bp1 bp2 bp3 u1} {yq : SY ⊕ RY} (hm : B4 Y y p2 = some (u1, yq)) (hc : B3 (cfg.still 68) av = [.Fw l, .ptr (some (bp1, 0)), .ptr (some (bp2, 0)), .ptr (some (bp3, 0))]) (hYR : YR cfg g l (fun x => [.str x]) Y R) (B : R y F) (A : HH g h [.obj bp1 (.cells none 2 [.str ([47] : List UInt8)]), .obj bp2 (.cells none 2 [.str p2]), .obj bp3 (.cells none 2 [Ai (0 : Int)])] F) : ∃ v h', CC cfg g h 68 av v h' ∧ v = .tuple [] ∧ ∃ F, R yq F ∧ HH g h' [.obj bp1 (.cells none 2 [.str ([47] : List UInt8)]), .obj bp2 (.cells none 2 [.str u1]), .obj bp3 (.cells none 2 [Ai (0 : Int)])] F := by
 refine HO 52 [] hc ?_
 clear hc
 unfold B4 at hm
 refine bg 52 [(0, .Fw l), (1, .ptr (some (bp1, 0))), (2, .ptr (some (bp2, 0))), (3, .ptr (some (bp3, 0)))] fun fr H => ?_
 refine AS (AH 3 (Fi 9 0 0 A H fun fr t H => ?_))
 refine AQ 2 [(11, .bool false)] H fun fr H => Ga (x := .tmp 11) (by kernel_rfl) H (fun fr => by kernel_rfl) ?_
 refine C8 id (AS (AM (id := 2) (by kernel_rfl) ?_))
 obtain ⟨o1, ho, hm⟩ := bind_some hm
 refine Al (Q' := fun e fr' h' => (∃ x2, ∃ (y2 : SY ⊕ RY), e = .exit 2 ∧ .inl (x2, y2) = o1 ∧ Has fr' 52 [(0, .Fw l), (2, .ptr (some (bp2, 0)))] ∧ ∃ F, R y2 F ∧ HH g h' [.obj bp1 (.cells none 2 [.str ([47] : List UInt8)]), .obj bp2 (.cells none 2 [.str x2]), .obj bp3 (.cells none 2 [Ai 0])] F) ∨ (∃ x3, ∃ (y3 : SY ⊕ RY), e = .ret ∧ .inr (x3, y3) = o1 ∧ Has fr' 52 [] ∧ ∃ F, R y3 F ∧ HH g h' [.obj bp1 (.cells none 2 [.str ([47] : List UInt8)]), .obj bp2 (.cells none 2 [.str x3]), .obj bp3 (.cells none 2 [Ai 0])] F) ∨ False) ?_ ?_
 ·refine CA (by kernel_rfl) (fun (s : (List UInt8) × (SY ⊕ RY)) fr' h' => ∃ x1, ∃ (y1 : SY ⊕ RY), (x1, y1) = s ∧ Has fr' 52 [(0, .Fw l), (1, .ptr (some (bp1, 0))), (2, .ptr (some (bp2, 0))), (3, .ptr (some (bp3, 0)))] ∧ ∃ F, R y1 F ∧ HH g h' [.obj bp1 (.cells none 2 [.str ([47] : List UInt8)]), .obj bp2 (.cells none 2 [.str x1]), .obj bp3 (.cells none 2 [Ai 0])] F) ho ⟨p2, y, rfl, H.ls, ⟨F, B, A⟩⟩ ?_
  clear ho hm H A
  intro s q fr h1 hI hm
  obtain ⟨x1, y1, rfl, H, ⟨F, B, A⟩⟩ := hI
  unfold Ap at hm
  refine AM (id := 3) (by kernel_rfl) ?_
  refine AH 4 (Fi 29 1 0 A H fun fr t H => ?_)
  refine Fi 30 0 0 A H fun fr t H => ?_
  obtain ⟨hb, hm⟩ := Ag hm
  refine Az 31 (Ai (Lib.index x1 ([47] : List UInt8))) h1 H (fun fr => Steps.call (by kernel_rfl) (RT (C := cfg) (f := 70) (a := 2) (by kernel_rfl) (l := exts) rfl (by kernel_rfl) hb)) fun fr t H => ?_
  refine AQ 1 [(7, Ai (Lib.index x1 ([47] : List UInt8)))] H fun fr H => AS (AH 2 (AQ 2 [(33, .bool (decide ((Lib.index x1 ([47] : List UInt8)) < 0)))] H fun fr H => BK 33 H hm (fun hb hm H => ?_) fun hb hm H => ?_))
  ·refine B0 (i := 2) (by kernel_rfl) ?_
   exact nr hm fun e => .inl ⟨x1, y1, rfl, e, H.ls, ⟨F, B, A⟩⟩
  refine Q9 6 id (Fi 34 1 0 A H fun fr t H => ?_)
  refine DV 1 [(35, Ai (Lib.index x1 ([47] : List UInt8)))] 36 2 0 A H fun fr t H => ?_
  obtain ⟨x4, hx, hm⟩ := bind_some hm
  refine BE 1 [] 38 (.str x4) h1 H (fun fr => .of (P4 (k := .i64) (k' := .i64) (lo := none) (hi := (some (IntKind.i64.wrap ((Lib.index x1 ([47] : List UInt8)) + 0)))) (by kernel_rfl) hx)) fun fr t H => ?_
  refine AQ 1 [(8, .str x4)] H fun fr H => AS (AH 4 ?_)
  obtain ⟨⟨x5, y4⟩, hx, hm⟩ := bind_some hm
  obtain ⟨h2, F, hr, B, A⟩ := hYR.N1 (pr := []) .nil A B hx
  refine BE 2 [] 41 (.bool x5) h2 H (fun fr => Steps.round (by kernel_rfl) hr) fun fr t H => ?_
  refine AQ 1 [(42, .bool (!x5))] H fun fr H => BK 42 H hm (fun hb hm H => ?_) fun hb hm H => ?_
  ·refine BV ?_
   exact nr hm fun e => Or.inr (.inl ⟨x1, y4, rfl, e, H.ls, ⟨F, B, A⟩⟩)
  refine Ik 7 id (Fi 43 1 0 A H fun fr t H => ?_)
  refine DV 1 [(44, Ai (Lib.index x1 ([47] : List UInt8)))] 45 0 0 A H fun fr t H => ?_
  obtain ⟨x6, hx, hm⟩ := bind_some hm
  refine BE 2 [] 48 (.str x6) h2 H (fun fr => .of (P4 (k := .i64) (k' := .i64) (lo := (some (IntKind.i64.wrap ((Lib.index x1 ([47] : List UInt8)) + 1)))) (hi := none) (by kernel_rfl) hx)) fun fr t H => ?_
  obtain ⟨h3, hx, A1⟩ := A.st 1 rfl (o := 0) (new := [.str x6]) (ds := [.str x6]) (Nat.le_of_ble_eq_true rfl) rfl rfl
  replace A : HH g h3 [.obj bp1 (.cells none 2 [.str ([47] : List UInt8)]), .obj bp2 (.cells none 2 [.str x6]), .obj bp3 (.cells none 2 [Ai 0])] F := A1
  refine IJ hx H fun fr t H => ?_
  refine at_nil ?_
  exact nx hm ⟨x6, y4, rfl, H.ls, ⟨F, B, A⟩⟩
 clear ho
 clear A
 intro e fr h4 hQ
 rcases hQ with ⟨x2, y2, rfl, rfl, H, ⟨F, B, A⟩⟩ | ⟨x3, y3, rfl, rfl, H, ⟨F, B, A⟩⟩ | hF
 ·show AW _ _ _ _ _ _ _
  refine CQ 3 (DV 1 [(49, .Fw l)] 50 1 0 A H fun fr t H => ?_)
  obtain ⟨⟨x7, y5⟩, hx, hm⟩ := bind_some hm
  obtain ⟨h5, F, hr, B, A⟩ := hYR.N1 (pr := []) .nil A B hx
  refine L0 (.bool x7) h5 H (fun fr => Steps.round (by kernel_rfl) hr) fun fr t H => ?_
  refine at_nil ?_
  obtain ⟨rfl, rfl⟩ := OJ hm
  refine ⟨.inr rfl, .tuple [], rH H, ?_⟩
  exact ⟨rfl, ⟨F, B, A⟩⟩
 ·obtain ⟨rfl, rfl⟩ := OJ hm
  exact ⟨.inl rfl, _, rH H, rfl, ⟨F, B, A⟩⟩
 exact hF.elim
def CN (s : (List (List UInt8))) (v1 : (List UInt8)) : Option (((List (List UInt8))) ⊕ (Unit)) :=
 match s with
 | x2 => BM (!(v1 == ([] : List UInt8))) (Dm (QY 16 (x2.length + ([v1] : List (List UInt8)).length)) <| some (.inl (x2 ++ ([v1] : List (List UInt8))))) (some (.inl x2))
def Db (p0 : List UInt8) : Option ((List (List UInt8))) :=
 (Cr p0).bind fun x1_11 => (B4 (CN) (.inl ([] : List (List UInt8))) x1_11).bind fun (x3, y1) => (match y1 with | .inl x2 => some x2 | .inr _ => none)
theorem He {p0 q0} (hm : Db p0 = some q0) (A : HH g h [] F) (hc : B3 (cfg.still 36) av = [.str p0] := by kernel_rfl) : ∃ v h', CC cfg g h 36 av v h' ∧ ∃ (rq0 : Option Nat), v = AJ rq0 q0.length ∧ HH g h' [.AL rq0 9 (AL eS q0)] F := by
 refine HO 15 [.tmp 2] hc ?_
 clear hc
 unfold Db at hm
 refine bg 15 [(0, .str p0)] fun fr H => ?_
 refine AH 1 (DP 1 [] 1 H fun fr H => ?_)
 obtain ⟨h1, e1, A⟩ := A.pu (.cells none 2 [.slice none 0])
 refine Cw 3 (.ptr (some (h.size, 0))) e1 H fun fr t H => ?_
 refine Dg id (AS (AH 2 ?_))
 obtain ⟨x1_11, hx, hm⟩ := bind_some hm
 obtain ⟨v1, h2, hr, bqw1_10, bqw1_11, bqw1_12, rfl, A1⟩ := GY (av := [.str p0, .str ([47] : List UInt8)]) hx (A.cut 0)
 replace A : HH g h2 [.obj bqw1_10 (.cells none 2 [.str ([47] : List UInt8)]), .obj bqw1_11 (.cells none 2 [.str x1_11]), .obj bqw1_12 (.cells none 2 [Ai (0 : Int)]), .obj h.size (.cells none 2 [.slice none 0])] F := A.HI (n := 0) A1
 refine CP 1 [] 6 hr H fun fr t H => ?_
 refine Dg id (AM (id := 0) (by kernel_rfl) ?_)
 replace A : HH g h2 [.AL none 9 (AL eS ([] : List (List UInt8))), _, _, _, _] F := A.PX 9
 replace A : HH g h2 [_, _, _, _, .obj h.size (.cells none 2 [AJ none (([] : List (List UInt8)).length)])] F := (((((A.front 4 rfl).front 1 rfl).front 4 rfl).front 4 rfl).front 4 rfl)
 obtain ⟨⟨x3, y1⟩, ho, hm⟩ := bind_some hm
 refine SZ (C := cfg) (x := .tmp 6) (ps := [7]) (f' := 68) (first := []) (cap := [.ptr (some (bqw1_10, 0)), .ptr (some (bqw1_11, 0)), .ptr (some (bqw1_12, 0))]) (Lu := [.obj bqw1_10 (.cells none 2 [.str ([47] : List UInt8)]), .obj bqw1_11 (.cells none 2 [.str x1_11]), .obj bqw1_12 (.cells none 2 [Ai 0])]) (Lc := [.AL none 9 (AL eS ([] : List (List UInt8))), .obj h.size (.cells none 2 [AJ none (([] : List (List UInt8)).length)])]) (F := F) (ex := fun x => [.str x]) (Y := CN) (PL := fun s Lc => ∃ (x2 : List (List UInt8)), x2 = s ∧ ∃ (r1 : Option Nat), Lc = [.AL r1 9 (AL eS x2), .obj h.size (.cells none 2 [AJ r1 x2.length])]) (PR := fun r Lc => False) (pe := fun _ => .ret) (s := ([] : List (List UInt8))) (y := y1) (PU := fun L => L = [.obj bqw1_10 (.cells none 2 [.str ([47] : List UInt8)]), .obj bqw1_11 (.cells none 2 [.str x3]), .obj bqw1_12 (.cells none 2 [Ai 0])]) (by kernel_rfl) H (fun fr => by kernel_rfl) (by kernel_rfl) (fun _ => rfl) (by kernel_rfl) A ⟨([] : List (List UInt8)), rfl, none, rfl⟩ ?_ ?_ ?_ ?_ ?_
 ·refine Pw H (kn := fun v1 => [(3, .ptr (some (h.size, 0))), (7, .str v1)]) (fun v1 fr => by kernel_rfl) ?_
  clear ho hm A H
  intro g h3 F s v1 o Lc fr H hP hm A
  obtain ⟨x2, rfl, r1, rfl⟩ := hP
  unfold CN at hm
  show AW _ _ _ _ _ _ _
  refine CQ 1 (Bk 1 [(3, .ptr (some (h.size, 0))), (4, .str v1)] H fun fr H => at_nil ?_)
  refine ⟨rfl, _, A, ?_⟩
  clear A
  intro h4 F A
  show AW _ _ _ _ _ _ _
  refine AM (id := 1) (by kernel_rfl) ?_
  refine AH 2 (AQ 2 [(9, .bool (!(v1 == ([] : List UInt8))))] H fun fr H => BK 9 H hm (fun hb hm H => ?_) fun hb hm H => ?_)
  ·refine CQ 5 (Fi 10 1 0 A H fun fr t H => ?_)
   refine Ax 1 [(11, .str v1)] H fun fr H => ?_
   obtain ⟨h5, e2, A⟩ := A.pL 9 [.str v1]
   refine Cw 12 (AJ (some h4.size) (([v1] : List (List UInt8)).length)) e2 H fun fr t H => ?_
   obtain ⟨hb, hm⟩ := Ag hm
   obtain ⟨r2, h6, hx, A1⟩ := HH.NF encS (by decide) A 1 (xs := x2) (ys := ([v1] : List (List UInt8))) rfl (Dd A 0 rfl (n := ([v1] : List (List UInt8)).length) (z := 1) rfl (by decide)) rfl rfl hb
   replace A : HH g h6 [.AL (some h4.size) 9 ([.str v1]), .AL r2 9 (AL eS (x2 ++ ([v1] : List (List UInt8)))), .obj h.size (.cells none 2 [AJ r1 x2.length])] F := A1
   replace A := A.k2 1 2
   refine Az 13 _ _ H (fun fr => .of (Jo (s := DC r1 x2.length) (by kernel_rfl) hx)) fun fr t H => ?_
   obtain ⟨h7, hx, A1⟩ := A.st 1 rfl (o := 0) (new := [AJ r2 ((x2 ++ ([v1] : List (List UInt8))).length)]) (ds := [AJ r2 ((x2 ++ ([v1] : List (List UInt8))).length)]) (Nat.le_of_ble_eq_true rfl) rfl rfl
   replace A : HH g h7 [_, .obj h.size (.cells none 2 [AJ r2 ((x2 ++ ([v1] : List (List UInt8))).length)])] F := A1
   refine IJ hx H fun fr t H => ?_
   refine at_nil ?_
   have e1 := Option.some.inj hm
   subst e1
   exact ⟨rfl, _, ⟨(x2 ++ ([v1] : List (List UInt8))), rfl, r2, rfl⟩, A⟩
  refine Ea ?_
  have e1 := Option.some.inj hm
  subst e1
  exact ⟨rfl, _, ⟨x2, rfl, r1, rfl⟩, A⟩
 ·intro h1 l F1 R hYR B A
  obtain ⟨v1, h2, hr, _, F2, B, A⟩ := E0 (av := [.Fw l, .ptr (some (bqw1_10, 0)), .ptr (some (bqw1_11, 0)), .ptr (some (bqw1_12, 0))]) ho (by kernel_rfl) hYR B A
  exact ⟨v1, h2, F2, _, hr, B, rfl, A⟩
 ·clear ho A
  intro s2 h8 Lc Lu ey hP hU A
  subst ey
  obtain ⟨x2, rfl, r1, rfl⟩ := hP
  subst hU
  replace A : HH g h8 [.obj bqw1_10 (.cells none 2 [.str ([47] : List UInt8)]), .obj bqw1_11 (.cells none 2 [.str x3]), .obj bqw1_12 (.cells none 2 [Ai 0]), .AL r1 9 (AL eS x2), .obj h.size (.cells none 2 [AJ r1 x2.length])] F := A
  show AW _ _ _ _ _ _ _
  refine AH 2 (NV (v := AJ r1 x2.length) (h1 := h8) [(14, AJ r1 x2.length)] H (fun fr => by kernel_rfl) (fun fr => .of (Dk (by kernel_rfl) (A.l1 4 0))) ?_)
  intro fr t H
  refine AQ 1 [(2, AJ r1 x2.length)] H fun fr H => BV ?_
  obtain rfl := Aq hm
  refine ⟨.inl rfl, AJ r1 x2.length, rH H, ?_⟩
  replace A := A.k1 3
  exact ⟨r1, rfl, A⟩
 ·clear ho A
  intro r2 h8 Lc Lu e ey he hP hU A
  subst ey
  subst hU
  exact False.elim hP
 exact fun _ => ⟨.ret, rfl⟩
def EA (p0 : List UInt8) : Option (Bool) :=
 some (p0 == ([46] : List UInt8))
theorem Gb {p0 q0} (hm : EA p0 = some q0) (A : HH g h [] F) (hc : B3 (cfg.still 41) av = [.str p0] := by kernel_rfl) : ∃ v h', CC cfg g h 41 av v h' ∧ v = .bool q0 ∧ HH g h' [] F := by
 refine HO 5 [.tmp 2] hc ?_
 clear hc
 unfold EA at hm
 refine bg 5 [(0, .str p0)] fun fr H => ?_
 refine AH 1 (DP 1 [] 3 H fun fr H => AQ 3 [(2, .bool (p0 == ([46] : List UInt8)))] H fun fr H => BV ?_)
 obtain rfl := Aq hm
 exact ⟨.inl rfl, _, rH H, rfl, A⟩
def Be (p0 : List (List UInt8)) (s : Int) : Option ((Int) ⊕ ((Unit) ⊕ (Int))) :=
 match s with
 | x1 => BM (decide (x1 < (p0.length : Int))) ((Fv p0 x1).bind fun x3 => (EA x3).bind fun x4 => BM x4 (some (.inr (.inr x1))) (some (.inl (IntKind.i64.wrap (x1 + 1))))) (some (.inr (.inl ())))
def BQ (p0 : List (List UInt8)) : Option (Int) :=
 (loop (Be p0) (0 : Int)).bind fun o1 => (match o1 with | .inl _ => some (-1 : Int) | .inr x2 => some x2)
theorem Dz {p0 rp0 q0} (hm : BQ p0 = some q0) (A : HH g h [.AL rp0 9 (AL eS p0)] F) (hc : B3 (cfg.still 49) av = [AJ rp0 p0.length, .func (.func 41) [] []] := by kernel_rfl) : ∃ v h', CC cfg g h 49 av v h' ∧ v = Ai q0 ∧ HH g h' [.AL rp0 9 (AL eS p0)] F := by
 refine HO 19 [.tmp 4] hc ?_
 clear hc
 unfold BQ at hm
 refine bg 19 [(0, AJ rp0 p0.length), (1, .func (.func 41) [] [])] fun fr H => ?_
 refine AH 1 (AQ 1 [] H fun fr H => AS (AH 3 (AQ 3 [(7, Ai (p0.length : Int)), (8, Ai 0)] H fun fr H => AM (id := 0) (by kernel_rfl) ?_)))
 obtain ⟨o1, ho, hm⟩ := bind_some hm
 refine Al (Q' := fun e fr' h' => (e = .exit 0 ∧ .inl () = o1 ∧ Has fr' 19 [] ∧ HH g h' [.AL rp0 9 (AL eS p0)] F) ∨ (∃ x2, e = .ret ∧ .inr x2 = o1 ∧ Has fr' 19 [(4, Ai x2)] ∧ HH g h' [.AL rp0 9 (AL eS p0)] F) ∨ False) ?_ ?_
 ·refine CA (by kernel_rfl) (fun (s : Int) fr' h' => ∃ x1, x1 = s ∧ Has fr' 19 [(0, AJ rp0 p0.length), (1, .func (.func 41) [] []), (7, Ai (p0.length : Int)), (8, Ai x1)] ∧ HH g h' [.AL rp0 9 (AL eS p0)] F) ho ⟨_, rfl, H.ls, A⟩ ?_
  clear ho hm H A
  intro s q fr h1 hI hm
  obtain ⟨x1, rfl, H, A⟩ := hI
  unfold Be at hm
  refine AH 1 (AQ 1 [(9, .bool (decide (x1 < (p0.length : Int))))] H fun fr H => AS (BK 9 H hm (fun hb hm H => ?_) fun hb hm H => ?_))
  ·refine C8 id (AS (AM (id := 1) (by kernel_rfl) ?_))
   refine AH 2 (DP 2 [(5, Ai x1)] 6 H fun fr H => ?_)
   obtain ⟨x3, hx, hm⟩ := bind_some hm
   obtain ⟨i1, er1, _, hx, hq1⟩ := HH.MV encS (by decide) A 0 (xs := p0) rfl hx
   refine BE 3 [(11, .func (.func 41) [] [])] 14 (.ptr (some (i1, x1.toNat * 1))) h1 H (fun fr => .of (EG (s := DC rp0 p0.length) (by kernel_rfl) hx)) fun fr t H => ?_
   refine Az 15 _ _ H (fun fr => .of (Dk (by kernel_rfl) (DU encS (HH.row A 0 rfl er1) hq1 (o := 0) rfl))) fun fr t H => ?_
   obtain ⟨x4, hx, hm⟩ := bind_some hm
   obtain ⟨v1, h2, hr, rfl, A1⟩ := Gb (av := [.str x3]) hx (A.cut 0)
   replace A := A.Ri A1
   refine Cc 16 hr H fun fr t H => ?_
   refine Dg id (BK 16 H hm (fun hb hm H => ?_) fun hb hm H => ?_)
   ·refine AH 2 (AQ 2 [(4, Ai x1)] H fun fr H => BV ?_)
    exact nr hm fun e => Or.inr (.inl ⟨_, rfl, e, H.ls, A⟩)
   refine Ik 2 id (Bk 2 [(0, AJ rp0 p0.length), (1, .func (.func 41) [] []), (7, Ai (p0.length : Int)), (8, Ai (IntKind.i64.wrap (x1 + 1)))] H fun fr H => at_nil ?_)
   exact nx hm ⟨_, rfl, H.ls, A⟩
  refine B0 (i := 0) (by kernel_rfl) ?_
  exact nr hm fun e => .inl ⟨rfl, e, H.ls, A⟩
 clear ho
 clear A
 intro e fr h3 hQ
 rcases hQ with ⟨rfl, rfl, H, A⟩ | ⟨x2, rfl, rfl, H, A⟩ | hF
 ·show AW _ _ _ _ _ _ _
  refine AH 1 (AQ 1 [(4, Ai (-1))] H fun fr H => BV ?_)
  obtain rfl := Aq hm
  exact ⟨.inl rfl, _, rH H, rfl, A⟩
 ·obtain rfl := Aq hm
  exact ⟨.inl rfl, _, rH H, rfl, A⟩
 exact hF.elim
def Bc (s : (List (List UInt8)) × Int × Int) : Option (((List (List UInt8)) × Int × Int) ⊕ (((List (List UInt8)) × Int))) :=
 match s with
 | (x2, x3, x4) => BM (decide (x4 < (x2.length : Int))) (((Fv x2 x4).bind fun x9 => (EA x9).bind fun x10 => BM (!x10) ((Fv x2 x3).bind fun x11 => some ((x2.set x3.toNat x9), IntKind.i64.wrap (x3 + 1))) (some (x2, x3)) : Option (((List (List UInt8)) × Int))).bind fun (x7, x8) => some (.inl (x7, x8, IntKind.i64.wrap (x4 + 1)))) (some (.inr (x2, x3)))
def BP (p0 : List (List UInt8)) : Option ((List (List UInt8))) :=
 (BQ p0).bind fun x1 => BM (x1 == (-1)) (some p0) ((loop (Bc) (p0, x1, IntKind.i64.wrap (x1 + 1))).bind fun (x5, x6) => (U1 x5.length x6).bind fun o3 => (Jg (FT x5 o3) none (some x6)).bind fun x12 => some x12)
theorem Du {p0 rp0 u0} (hm : BP p0 = some u0) (A : HH g h [.AL rp0 9 (AL eS p0)] F) (hc : B3 (cfg.still 40) av = [AJ rp0 p0.length, .func (.func 41) [] []] := by kernel_rfl) : ∃ v h', CC cfg g h 40 av v h' ∧ ∃ (r'0 : Option Nat) (tl'0 : List (List UInt8)), v = AJ r'0 u0.length ∧ HH g h' [.AL r'0 9 (AL eS (u0 ++ tl'0))] F := by
 refine HO 42 [.tmp 4] hc ?_
 clear hc
 unfold BP at hm
 refine bg 42 [(0, AJ rp0 p0.length), (1, .func (.func 41) [] [])] fun fr H => ?_
 refine AH 1 (DP 1 [] 4 H fun fr H => ?_)
 obtain ⟨x1, hx, hm⟩ := bind_some hm
 obtain ⟨v1, h1, hr, rfl, A1⟩ := Dz (av := [AJ rp0 p0.length, .func (.func 41) [] []]) hx (A.cut 1)
 replace A := A.g11 A1
 refine CP 2 [] 10 hr H fun fr t H => ?_
 refine AQ 1 [(5, Ai x1)] H fun fr H => AS (AH 2 (AQ 2 [(12, .bool (x1 == (-1)))] H fun fr H => BK 12 H hm (fun hb hm H => ?_) fun hb hm H => ?_))
 ·refine AH 2 (AQ 2 [(4, AJ rp0 p0.length)] H fun fr H => BV ?_)
  obtain rfl := Aq hm
  refine ⟨.inl rfl, AJ rp0 p0.length, rH H, ?_⟩
  replace A : HH g h1 [.AL rp0 9 (AL eS (p0 ++ []))] F := A.W1 0 rfl
  exact ⟨rp0, [], rfl, A⟩
 refine C8 id (AS (AH 3 (AQ 3 [(6, Ai (IntKind.i64.wrap (x1 + 1)))] H fun fr H => AM (id := 0) (by kernel_rfl) ?_)))
 obtain ⟨o1, ho, hm⟩ := bind_some hm
 refine Al (Q' := fun e fr' h' => (∃ x5 x6, e = .exit 0 ∧ (x5, x6) = o1 ∧ ∃ (hl2 : x5.length = p0.length), Has fr' 42 [(0, AJ rp0 x5.length), (5, Ai x6)] ∧ HH g h' [.AL rp0 9 (AL eS x5)] F) ∨ False) ?_ ?_
 ·refine CA (by kernel_rfl) (fun (s : (List (List UInt8)) × Int × Int) fr' h' => ∃ x2 x3 x4, (x2, x3, x4) = s ∧ ∃ (hl1 : x2.length = p0.length), Has fr' 42 [(0, AJ rp0 x2.length), (1, .func (.func 41) [] []), (5, Ai x3), (6, Ai x4)] ∧ HH g h' [.AL rp0 9 (AL eS x2)] F) ho ⟨_, _, _, rfl, rfl, H.ls, A⟩ ?_
  clear ho hm H A
  intro s q fr h2 hI hm
  obtain ⟨x2, x3, x4, rfl, hl1, H, A⟩ := hI
  unfold Bc at hm
  refine AS (AH 4 (AQ 4 [(19, .bool (decide (x4 < (x2.length : Int))))] H fun fr H => BK 19 H hm (fun hb hm H => ?_) fun hb hm H => ?_))
  ·refine C8 id (AS ?_)
   obtain ⟨o2, ho, hm⟩ := bind_some hm
   refine Al (Q' := fun e fr' h' => (∃ x7 x8, e = .normal ∧ (x7, x8) = o2 ∧ ∃ (hl3 : x7.length = p0.length), Has fr' 42 [(0, AJ rp0 x7.length), (1, .func (.func 41) [] []), (5, Ai x8), (6, Ai x4)] ∧ HH g h' [.AL rp0 9 (AL eS x7)] F) ∨ False) ?_ ?_
   ·replace hm := ho
    clear ho
    refine AM (id := 1) (by kernel_rfl) ?_
    refine AH 5 ?_
    obtain ⟨x9, hx, hm⟩ := bind_some hm
    obtain ⟨i1, er1, _, hx, hq1⟩ := HH.MV encS (by decide) A 0 (xs := x2) rfl hx
    refine BE 2 [] 24 (.ptr (some (i1, x4.toNat * 1))) h2 H (fun fr => .of (EG (s := DC rp0 x2.length) (by kernel_rfl) hx)) fun fr t H => ?_
    refine Az 25 _ _ H (fun fr => .of (Dk (by kernel_rfl) (DU encS (HH.row A 0 rfl er1) hq1 (o := 0) rfl))) fun fr t H => ?_
    refine DP 1 [(7, .str x9)] 4 H fun fr H => ?_
    obtain ⟨x10, hx, hm⟩ := bind_some hm
    obtain ⟨v1, h3, hr, rfl, A1⟩ := Gb (av := [.str x9]) hx (A.cut 0)
    replace A := A.Ri A1
    refine CP 2 [] 28 hr H fun fr t H => ?_
    refine AQ 1 [(29, .bool (!x10))] H fun fr H => BK 29 H hm (fun hb hm H => ?_) fun hb hm H => ?_
    ·refine AH 5 ?_
     obtain ⟨x11, hx, hm⟩ := bind_some hm
     obtain ⟨i2, er2, _, hx, hq2⟩ := HH.MV encS (by decide) A 0 (xs := x2) rfl hx
     refine BE 3 [(32, .str x9)] 33 (.ptr (some (i2, x3.toNat * 1))) h3 H (fun fr => .of (EG (s := DC rp0 x2.length) (by kernel_rfl) hx)) fun fr t H => ?_
     obtain ⟨h4, hx, A1⟩ := HH.Xy encS A 0 rfl er2 hq2 (y := x9) (o := 0) (new := [.str x9]) rfl rfl (Nat.le_of_ble_eq_true rfl)
     have hl4 : (x2.set x3.toNat x9).length = p0.length := List.length_set.trans hl1
     have el : AJ rp0 x2.length = AJ rp0 (x2.set x3.toNat x9).length := congrArg _ List.length_set.symm
     try rw [el] at H
     try rw [el] at A1
     replace A : HH g h4 [.AL rp0 9 (AL eS (x2.set x3.toNat x9))] F := A1
     refine IJ hx H fun fr t H => ?_
     refine IG 3 id (Bk 3 [(0, AJ rp0 ((x2.set x3.toNat x9).length)), (1, .func (.func 41) [] []), (5, Ai (IntKind.i64.wrap (x3 + 1))), (6, Ai x4)] H fun fr H => at_nil ?_)
     exact .inl ⟨_, _, rfl, Aq hm, hl4, H.ls, A⟩
    exact Ea (.inl ⟨_, _, rfl, Aq hm, hl1, H.ls, A⟩)
   clear ho
   clear A
   intro e fr h5 hQ
   rcases hQ with ⟨x7, x8, rfl, rfl, hl3, H, A⟩ | hF
   ·show AW _ _ _ _ _ _ _
    refine CQ 3 (Bk 3 [(0, AJ rp0 x7.length), (1, .func (.func 41) [] []), (5, Ai x8), (6, Ai (IntKind.i64.wrap (x4 + 1)))] H fun fr H => at_nil ?_)
    exact nx hm ⟨_, _, _, rfl, hl3, H.ls, A⟩
   exact hF.elim
  refine B0 (i := 0) (by kernel_rfl) ?_
  exact nr hm fun e => .inl ⟨_, _, rfl, e, hl1, H.ls, A⟩
 clear ho
 clear A
 intro e fr h6 hQ
 rcases hQ with ⟨x5, x6, rfl, rfl, hl2, H, A⟩ | hF
 ·show AW _ _ _ _ _ _ _
  refine AH 4 ?_
  obtain ⟨o3, hv1, hm⟩ := bind_some hm
  refine BE 2 [] 38 (.slice (rp0.map fun i => (i, o3)) (x5.length - o3)) h6 H (fun fr => .of (Sg (s := DC rp0 x5.length) (t := ⟨rp0.map fun i => (i, o3), x5.length - o3⟩) (k := .i64) (k' := .i64) (lo := some x6) (hi := none) (by kernel_rfl) (HH.Xo A 0 rfl hv1 (by kernel_rfl)))) fun fr t H => ?_
  obtain ⟨h7, hc, A1⟩ := HH.Xn (P := cfg.P) A 0 rfl (o := o3) (Iw hv1).2.2 (ts := #[33]) (tt := 33) (e := 9) rfl (by kernel_rfl) (by kernel_rfl)
  have hl5 : (FT x5 o3).length = p0.length := (Ey (Iw hv1).2.2).trans hl2
  have el : AJ rp0 x5.length = AJ rp0 (FT x5 o3).length := congrArg _ (Ey (Iw hv1).2.2).symm
  try rw [el] at H
  replace A : HH g h7 [.AL rp0 9 (AL eS (FT x5 o3))] F := A1
  refine L0 (.tuple []) h7 H (fun fr => .of (Uu (by kernel_rfl) hc)) fun fr t H => ?_
  refine F5 4 id ?_
  obtain ⟨x12, hx, hm⟩ := bind_some hm
  replace A : HH g h7 [.AL rp0 9 (AL eS ((FT x5 o3) ++ []))] F := A.W1 0 rfl
  have Aw1 := A
  obtain ⟨tl1, A1⟩ := HH.WD A 0 (xs := (FT x5 o3)) (tl := []) rfl hx
  replace A : HH g h7 [.AL rp0 9 (AL eS (x12 ++ tl1))] F := A1
  refine BE 2 [] 41 (AJ rp0 x12.length) h7 H (fun fr => .of (TG encS (by decide) Aw1 0 (xs := (FT x5 o3)) (tl := []) (k' := .i64) rfl (by kernel_rfl) (by kernel_rfl) hx)) fun fr t H => ?_
  refine AQ 1 [(4, AJ rp0 x12.length)] H fun fr H => BV ?_
  obtain rfl := Aq hm
  exact ⟨.inl rfl, _, rH H, _, _, rfl, A⟩
 exact hF.elim
def ER (p0 : List UInt8) : Option (Bool) :=
 some (p0 == ([] : List UInt8))
theorem HF {p0 q0} (hm : ER p0 = some q0) (A : HH g h [] F) (hc : B3 (cfg.still 48) av = [.str p0] := by kernel_rfl) : ∃ v h', CC cfg g h 48 av v h' ∧ v = .bool q0 ∧ HH g h' [] F := by
 refine HO 5 [.tmp 2] hc ?_
 clear hc
 unfold ER at hm
 refine bg 5 [(0, .str p0)] fun fr H => ?_
 refine AH 1 (DP 1 [] 3 H fun fr H => AQ 3 [(2, .bool (p0 == ([] : List UInt8)))] H fun fr H => BV ?_)
 obtain rfl := Aq hm
 exact ⟨.inl rfl, _, rH H, rfl, A⟩
def BX (p0 : List (List UInt8)) (s : Int) : Option ((Int) ⊕ ((Unit) ⊕ (Int))) :=
 match s with
 | x1 => BM (decide (x1 < (p0.length : Int))) ((Fv p0 x1).bind fun x3 => (ER x3).bind fun x4 => BM x4 (some (.inr (.inr x1))) (some (.inl (IntKind.i64.wrap (x1 + 1))))) (some (.inr (.inl ())))
def BI (p0 : List (List UInt8)) : Option (Int) :=
 (loop (BX p0) (0 : Int)).bind fun o1 => (match o1 with | .inl _ => some (-1 : Int) | .inr x2 => some x2)
theorem Dn {p0 rp0 q0} (hm : BI p0 = some q0) (A : HH g h [.AL rp0 9 (AL eS p0)] F) (hc : B3 (cfg.still 49) av = [AJ rp0 p0.length, .func (.func 48) [] []] := by kernel_rfl) : ∃ v h', CC cfg g h 49 av v h' ∧ v = Ai q0 ∧ HH g h' [.AL rp0 9 (AL eS p0)] F := by
 refine HO 19 [.tmp 4] hc ?_
 clear hc
 unfold BI at hm
 refine bg 19 [(0, AJ rp0 p0.length), (1, .func (.func 48) [] [])] fun fr H => ?_
 refine AH 1 (AQ 1 [] H fun fr H => AS (AH 3 (AQ 3 [(7, Ai (p0.length : Int)), (8, Ai 0)] H fun fr H => AM (id := 0) (by kernel_rfl) ?_)))
 obtain ⟨o1, ho, hm⟩ := bind_some hm
 refine Al (Q' := fun e fr' h' => (e = .exit 0 ∧ .inl () = o1 ∧ Has fr' 19 [] ∧ HH g h' [.AL rp0 9 (AL eS p0)] F) ∨ (∃ x2, e = .ret ∧ .inr x2 = o1 ∧ Has fr' 19 [(4, Ai x2)] ∧ HH g h' [.AL rp0 9 (AL eS p0)] F) ∨ False) ?_ ?_
 ·refine CA (by kernel_rfl) (fun (s : Int) fr' h' => ∃ x1, x1 = s ∧ Has fr' 19 [(0, AJ rp0 p0.length), (1, .func (.func 48) [] []), (7, Ai (p0.length : Int)), (8, Ai x1)] ∧ HH g h' [.AL rp0 9 (AL eS p0)] F) ho ⟨_, rfl, H.ls, A⟩ ?_
  clear ho hm H A
  intro s q fr h1 hI hm
  obtain ⟨x1, rfl, H, A⟩ := hI
  unfold BX at hm
  refine AH 1 (AQ 1 [(9, .bool (decide (x1 < (p0.length : Int))))] H fun fr H => AS (BK 9 H hm (fun hb hm H => ?_) fun hb hm H => ?_))
  ·refine C8 id (AS (AM (id := 1) (by kernel_rfl) ?_))
   refine AH 2 (DP 2 [(5, Ai x1)] 6 H fun fr H => ?_)
   obtain ⟨x3, hx, hm⟩ := bind_some hm
   obtain ⟨i1, er1, _, hx, hq1⟩ := HH.MV encS (by decide) A 0 (xs := p0) rfl hx
   refine BE 3 [(11, .func (.func 48) [] [])] 14 (.ptr (some (i1, x1.toNat * 1))) h1 H (fun fr => .of (EG (s := DC rp0 p0.length) (by kernel_rfl) hx)) fun fr t H => ?_
   refine Az 15 _ _ H (fun fr => .of (Dk (by kernel_rfl) (DU encS (HH.row A 0 rfl er1) hq1 (o := 0) rfl))) fun fr t H => ?_
   obtain ⟨x4, hx, hm⟩ := bind_some hm
   obtain ⟨v1, h2, hr, rfl, A1⟩ := HF (av := [.str x3]) hx (A.cut 0)
   replace A := A.Ri A1
   refine Cc 16 hr H fun fr t H => ?_
   refine Dg id (BK 16 H hm (fun hb hm H => ?_) fun hb hm H => ?_)
   ·refine AH 2 (AQ 2 [(4, Ai x1)] H fun fr H => BV ?_)
    exact nr hm fun e => Or.inr (.inl ⟨_, rfl, e, H.ls, A⟩)
   refine Ik 2 id (Bk 2 [(0, AJ rp0 p0.length), (1, .func (.func 48) [] []), (7, Ai (p0.length : Int)), (8, Ai (IntKind.i64.wrap (x1 + 1)))] H fun fr H => at_nil ?_)
   exact nx hm ⟨_, rfl, H.ls, A⟩
  refine B0 (i := 0) (by kernel_rfl) ?_
  exact nr hm fun e => .inl ⟨rfl, e, H.ls, A⟩
 clear ho
 clear A
 intro e fr h3 hQ
 rcases hQ with ⟨rfl, rfl, H, A⟩ | ⟨x2, rfl, rfl, H, A⟩ | hF
 ·show AW _ _ _ _ _ _ _
  refine AH 1 (AQ 1 [(4, Ai (-1))] H fun fr H => BV ?_)
  obtain rfl := Aq hm
  exact ⟨.inl rfl, _, rH H, rfl, A⟩
 ·obtain rfl := Aq hm
  exact ⟨.inl rfl, _, rH H, rfl, A⟩
 exact hF.elim
def BW (s : (List (List UInt8)) × Int × Int) : Option (((List (List UInt8)) × Int × Int) ⊕ (((List (List UInt8)) × Int))) :=
 match s with
 | (x2, x3, x4) => BM (decide (x4 < (x2.length : Int))) (((Fv x2 x4).bind fun x9 => (ER x9).bind fun x10 => BM (!x10) ((Fv x2 x3).bind fun x11 => some ((x2.set x3.toNat x9), IntKind.i64.wrap (x3 + 1))) (some (x2, x3)) : Option (((List (List UInt8)) × Int))).bind fun (x7, x8) => some (.inl (x7, x8, IntKind.i64.wrap (x4 + 1)))) (some (.inr (x2, x3)))
def BC (p0 : List (List UInt8)) : Option ((List (List UInt8))) :=
 (BI p0).bind fun x1 => BM (x1 == (-1)) (some p0) ((loop (BW) (p0, x1, IntKind.i64.wrap (x1 + 1))).bind fun (x5, x6) => (U1 x5.length x6).bind fun o3 => (Jg (FT x5 o3) none (some x6)).bind fun x12 => some x12)
theorem Df {p0 rp0 u0} (hm : BC p0 = some u0) (A : HH g h [.AL rp0 9 (AL eS p0)] F) (hc : B3 (cfg.still 40) av = [AJ rp0 p0.length, .func (.func 48) [] []] := by kernel_rfl) : ∃ v h', CC cfg g h 40 av v h' ∧ ∃ (r'0 : Option Nat) (tl'0 : List (List UInt8)), v = AJ r'0 u0.length ∧ HH g h' [.AL r'0 9 (AL eS (u0 ++ tl'0))] F := by
 refine HO 42 [.tmp 4] hc ?_
 clear hc
 unfold BC at hm
 refine bg 42 [(0, AJ rp0 p0.length), (1, .func (.func 48) [] [])] fun fr H => ?_
 refine AH 1 (DP 1 [] 4 H fun fr H => ?_)
 obtain ⟨x1, hx, hm⟩ := bind_some hm
 obtain ⟨v1, h1, hr, rfl, A1⟩ := Dn (av := [AJ rp0 p0.length, .func (.func 48) [] []]) hx (A.cut 1)
 replace A := A.g11 A1
 refine CP 2 [] 10 hr H fun fr t H => ?_
 refine AQ 1 [(5, Ai x1)] H fun fr H => AS (AH 2 (AQ 2 [(12, .bool (x1 == (-1)))] H fun fr H => BK 12 H hm (fun hb hm H => ?_) fun hb hm H => ?_))
 ·refine AH 2 (AQ 2 [(4, AJ rp0 p0.length)] H fun fr H => BV ?_)
  obtain rfl := Aq hm
  refine ⟨.inl rfl, AJ rp0 p0.length, rH H, ?_⟩
  replace A : HH g h1 [.AL rp0 9 (AL eS (p0 ++ []))] F := A.W1 0 rfl
  exact ⟨rp0, [], rfl, A⟩
 refine C8 id (AS (AH 3 (AQ 3 [(6, Ai (IntKind.i64.wrap (x1 + 1)))] H fun fr H => AM (id := 0) (by kernel_rfl) ?_)))
 obtain ⟨o1, ho, hm⟩ := bind_some hm
 refine Al (Q' := fun e fr' h' => (∃ x5 x6, e = .exit 0 ∧ (x5, x6) = o1 ∧ ∃ (hl2 : x5.length = p0.length), Has fr' 42 [(0, AJ rp0 x5.length), (5, Ai x6)] ∧ HH g h' [.AL rp0 9 (AL eS x5)] F) ∨ False) ?_ ?_
 ·refine CA (by kernel_rfl) (fun (s : (List (List UInt8)) × Int × Int) fr' h' => ∃ x2 x3 x4, (x2, x3, x4) = s ∧ ∃ (hl1 : x2.length = p0.length), Has fr' 42 [(0, AJ rp0 x2.length), (1, .func (.func 48) [] []), (5, Ai x3), (6, Ai x4)] ∧ HH g h' [.AL rp0 9 (AL eS x2)] F) ho ⟨_, _, _, rfl, rfl, H.ls, A⟩ ?_
  clear ho hm H A
  intro s q fr h2 hI hm
  obtain ⟨x2, x3, x4, rfl, hl1, H, A⟩ := hI
  unfold BW at hm
  refine AS (AH 4 (AQ 4 [(19, .bool (decide (x4 < (x2.length : Int))))] H fun fr H => BK 19 H hm (fun hb hm H => ?_) fun hb hm H => ?_))
  ·refine C8 id (AS ?_)
   obtain ⟨o2, ho, hm⟩ := bind_some hm
   refine Al (Q' := fun e fr' h' => (∃ x7 x8, e = .normal ∧ (x7, x8) = o2 ∧ ∃ (hl3 : x7.length = p0.length), Has fr' 42 [(0, AJ rp0 x7.length), (1, .func (.func 48) [] []), (5, Ai x8), (6, Ai x4)] ∧ HH g h' [.AL rp0 9 (AL eS x7)] F) ∨ False) ?_ ?_
   ·replace hm := ho
    clear ho
    refine AM (id := 1) (by kernel_rfl) ?_
    refine AH 5 ?_
    obtain ⟨x9, hx, hm⟩ := bind_some hm
    obtain ⟨i1, er1, _, hx, hq1⟩ := HH.MV encS (by decide) A 0 (xs := x2) rfl hx
    refine BE 2 [] 24 (.ptr (some (i1, x4.toNat * 1))) h2 H (fun fr => .of (EG (s := DC rp0 x2.length) (by kernel_rfl) hx)) fun fr t H => ?_
    refine Az 25 _ _ H (fun fr => .of (Dk (by kernel_rfl) (DU encS (HH.row A 0 rfl er1) hq1 (o := 0) rfl))) fun fr t H => ?_
    refine DP 1 [(7, .str x9)] 4 H fun fr H => ?_
    obtain ⟨x10, hx, hm⟩ := bind_some hm
    obtain ⟨v1, h3, hr, rfl, A1⟩ := HF (av := [.str x9]) hx (A.cut 0)
    replace A := A.Ri A1
    refine CP 2 [] 28 hr H fun fr t H => ?_
    refine AQ 1 [(29, .bool (!x10))] H fun fr H => BK 29 H hm (fun hb hm H => ?_) fun hb hm H => ?_
    ·refine AH 5 ?_
     obtain ⟨x11, hx, hm⟩ := bind_some hm
     obtain ⟨i2, er2, _, hx, hq2⟩ := HH.MV encS (by decide) A 0 (xs := x2) rfl hx
     refine BE 3 [(32, .str x9)] 33 (.ptr (some (i2, x3.toNat * 1))) h3 H (fun fr => .of (EG (s := DC rp0 x2.length) (by kernel_rfl) hx)) fun fr t H => ?_
     obtain ⟨h4, hx, A1⟩ := HH.Xy encS A 0 rfl er2 hq2 (y := x9) (o := 0) (new := [.str x9]) rfl rfl (Nat.le_of_ble_eq_true rfl)
     have hl4 : (x2.set x3.toNat x9).length = p0.length := List.length_set.trans hl1
     have el : AJ rp0 x2.length = AJ rp0 (x2.set x3.toNat x9).length := congrArg _ List.length_set.symm
     try rw [el] at H
     try rw [el] at A1
     replace A : HH g h4 [.AL rp0 9 (AL eS (x2.set x3.toNat x9))] F := A1
     refine IJ hx H fun fr t H => ?_
     refine IG 3 id (Bk 3 [(0, AJ rp0 ((x2.set x3.toNat x9).length)), (1, .func (.func 48) [] []), (5, Ai (IntKind.i64.wrap (x3 + 1))), (6, Ai x4)] H fun fr H => at_nil ?_)
     exact .inl ⟨_, _, rfl, Aq hm, hl4, H.ls, A⟩
    exact Ea (.inl ⟨_, _, rfl, Aq hm, hl1, H.ls, A⟩)
   clear ho
   clear A
   intro e fr h5 hQ
   rcases hQ with ⟨x7, x8, rfl, rfl, hl3, H, A⟩ | hF
   ·show AW _ _ _ _ _ _ _
    refine CQ 3 (Bk 3 [(0, AJ rp0 x7.length), (1, .func (.func 48) [] []), (5, Ai x8), (6, Ai (IntKind.i64.wrap (x4 + 1)))] H fun fr H => at_nil ?_)
    exact nx hm ⟨_, _, _, rfl, hl3, H.ls, A⟩
   exact hF.elim
  refine B0 (i := 0) (by kernel_rfl) ?_
  exact nr hm fun e => .inl ⟨_, _, rfl, e, hl1, H.ls, A⟩
 clear ho
 clear A
 intro e fr h6 hQ
 rcases hQ with ⟨x5, x6, rfl, rfl, hl2, H, A⟩ | hF
 ·show AW _ _ _ _ _ _ _
  refine AH 4 ?_
  obtain ⟨o3, hv1, hm⟩ := bind_some hm
  refine BE 2 [] 38 (.slice (rp0.map fun i => (i, o3)) (x5.length - o3)) h6 H (fun fr => .of (Sg (s := DC rp0 x5.length) (t := ⟨rp0.map fun i => (i, o3), x5.length - o3⟩) (k := .i64) (k' := .i64) (lo := some x6) (hi := none) (by kernel_rfl) (HH.Xo A 0 rfl hv1 (by kernel_rfl)))) fun fr t H => ?_
  obtain ⟨h7, hc, A1⟩ := HH.Xn (P := cfg.P) A 0 rfl (o := o3) (Iw hv1).2.2 (ts := #[33]) (tt := 33) (e := 9) rfl (by kernel_rfl) (by kernel_rfl)
  have hl5 : (FT x5 o3).length = p0.length := (Ey (Iw hv1).2.2).trans hl2
  have el : AJ rp0 x5.length = AJ rp0 (FT x5 o3).length := congrArg _ (Ey (Iw hv1).2.2).symm
  try rw [el] at H
  replace A : HH g h7 [.AL rp0 9 (AL eS (FT x5 o3))] F := A1
  refine L0 (.tuple []) h7 H (fun fr => .of (Uu (by kernel_rfl) hc)) fun fr t H => ?_
  refine F5 4 id ?_
  obtain ⟨x12, hx, hm⟩ := bind_some hm
  replace A : HH g h7 [.AL rp0 9 (AL eS ((FT x5 o3) ++ []))] F := A.W1 0 rfl
  have Aw1 := A
  obtain ⟨tl1, A1⟩ := HH.WD A 0 (xs := (FT x5 o3)) (tl := []) rfl hx
  replace A : HH g h7 [.AL rp0 9 (AL eS (x12 ++ tl1))] F := A1
  refine BE 2 [] 41 (AJ rp0 x12.length) h7 H (fun fr => .of (TG encS (by decide) Aw1 0 (xs := (FT x5 o3)) (tl := []) (k' := .i64) rfl (by kernel_rfl) (by kernel_rfl) hx)) fun fr t H => ?_
  refine AQ 1 [(4, AJ rp0 x12.length)] H fun fr H => BV ?_
  obtain rfl := Aq hm
  exact ⟨.inl rfl, _, rH H, _, _, rfl, A⟩
 exact hF.elim
def Dw (p0 : List (List UInt8)) : Option ((List UInt8)) :=
 Dm (QY 16 p0.length) <| (BC p0).bind fun x2 => Dm (Lt x2 ([47] : List UInt8)) <| some (Lib.join x2 ([47] : List UInt8))
theorem Je {p0 rp0 tlp0 q0} (hm : Dw p0 = some q0) (A : HH g h [.AL rp0 9 (AL eS (p0 ++ tlp0))] F) (hc : B3 (cfg.still 39) av = [AJ rp0 p0.length] := by kernel_rfl) : ∃ v h', CC cfg g h 39 av v h' ∧ v = .str q0 ∧ HH g h' [.AL rp0 9 (AL eS (p0 ++ tlp0))] F := by
 refine HO 7 [.tmp 2] hc ?_
 clear hc
 unfold Dw at hm
 refine bg 7 [(0, AJ rp0 p0.length)] fun fr H => ?_
 refine AH 1 (DP 1 [] 5 H fun fr H => ?_)
 have A1 := A.cut 1
 obtain ⟨hb, hm⟩ := Ag hm
 obtain ⟨r1, h1, hr, A1⟩ := HH.clone (C := cfg) (f := 47) (a := 0) (t := 9) (xs := p0) encS (by decide) A1 (by kernel_rfl) (l := exts) rfl (by kernel_rfl) (by kernel_rfl) rfl (HH.SU encS A1 0 (xs := p0) (tl := tlp0) rfl (by decide)) (encS.B3 _) hb
 replace A := A.g12 A1
 refine CP 1 [] 4 hr H fun fr t H => ?_
 obtain ⟨x2, hx, hm⟩ := bind_some hm
 obtain ⟨v1, h2, hr, r2, tl1, rfl, A1⟩ := Df (av := [AJ r1 p0.length, .func (.func 48) [] []]) hx (A.cut 1)
 replace A := A.g11 A1
 refine Cc 5 hr H fun fr t H => ?_
 obtain ⟨hb, hm⟩ := Ag hm
 refine Az 6 (.str (Lib.join x2 ([47] : List UInt8))) h2 H (fun fr => Steps.call (by kernel_rfl) (Sk (C := cfg) (f := 46) (xs := x2) (by kernel_rfl) (l := exts) rfl (by kernel_rfl) rfl (HH.SU encS A 0 (xs := x2) (tl := tl1) rfl (by decide)) hb)) fun fr t H => ?_
 refine AQ 1 [(2, .str (Lib.join x2 ([47] : List UInt8)))] H fun fr H => BV ?_
 obtain rfl := Aq hm
 refine ⟨.inl rfl, .str (Lib.join x2 ([47] : List UInt8)), rH H, ?_⟩
 replace A := A.k1 1
 exact ⟨rfl, A⟩
def DH (p0 : List UInt8) : Option ((List UInt8)) :=
 (Db p0).bind fun x1 => (BP x1).bind fun x3 => (Dw x3).bind fun x4 => some x4
theorem HY {p0 q0} (hm : DH p0 = some q0) (A : HH g h [] F) (hc : B3 (cfg.still 28) av = [.str p0] := by kernel_rfl) : ∃ v h', CC cfg g h 28 av v h' ∧ v = .str q0 ∧ HH g h' [] F := by
 refine HO 7 [.tmp 2] hc ?_
 clear hc
 unfold DH at hm
 refine bg 7 [(0, .str p0)] fun fr H => ?_
 refine AH 1 (DP 1 [] 5 H fun fr H => ?_)
 obtain ⟨x1, hx, hm⟩ := bind_some hm
 obtain ⟨v1, h1, hr, rqw1, rfl, A1⟩ := He (av := [.str p0]) hx (A.cut 0)
 replace A := A.V3 A1
 refine CP 1 [] 4 hr H fun fr t H => ?_
 obtain ⟨x3, hx, hm⟩ := bind_some hm
 obtain ⟨v1, h2, hr, r1, tl1, rfl, A1⟩ := Du (av := [AJ rqw1 x1.length, .func (.func 41) [] []]) hx (A.cut 1)
 replace A := A.g11 A1
 refine Cc 5 hr H fun fr t H => ?_
 obtain ⟨x4, hx, hm⟩ := bind_some hm
 obtain ⟨v1, h3, hr, rfl, A1⟩ := Je (av := [AJ r1 x3.length]) hx (A.cut 1)
 replace A := A.g11 A1
 refine Cc 6 hr H fun fr t H => ?_
 refine AQ 1 [(2, .str x4)] H fun fr H => BV ?_
 obtain rfl := Aq hm
 refine ⟨.inl rfl, .str x4, rH H, ?_⟩
 replace A := A.d0
 exact ⟨rfl, A⟩
def C0 (p0 : List UInt8) : Option ((List (List UInt8))) :=
 (DH p0).bind fun x1 => (Db x1).bind fun x2 => some x2
theorem FF {p0 q0} (hm : C0 p0 = some q0) (A : HH g h [] F) (hc : B3 (cfg.still 23) av = [.str p0] := by kernel_rfl) : ∃ v h', CC cfg g h 23 av v h' ∧ ∃ (rq0 : Option Nat), v = AJ rq0 q0.length ∧ HH g h' [.AL rq0 9 (AL eS q0)] F := by
 refine HO 6 [.tmp 2] hc ?_
 clear hc
 unfold C0 at hm
 refine bg 6 [(0, .str p0)] fun fr H => ?_
 refine AH 1 (DP 1 [] 4 H fun fr H => ?_)
 obtain ⟨x1, hx, hm⟩ := bind_some hm
 obtain ⟨v1, h1, hr, rfl, A1⟩ := HY (av := [.str p0]) hx (A.cut 0)
 replace A := A.Ri A1
 refine CP 1 [] 4 hr H fun fr t H => ?_
 obtain ⟨x2, hx, hm⟩ := bind_some hm
 obtain ⟨v1, h2, hr, rqw2, rfl, A1⟩ := He (av := [.str x1]) hx (A.cut 0)
 replace A := A.V3 A1
 refine Cc 5 hr H fun fr t H => ?_
 refine AQ 1 [(2, AJ rqw2 x2.length)] H fun fr H => BV ?_
 obtain rfl := Aq hm
 exact ⟨.inl rfl, _, rH H, _, rfl, A⟩
def E3 (x10 : List (List UInt8)) (s : Int × (List AG) × Nat × Int) : Option ((Int × (List AG) × Nat × Int) ⊕ ((Int × (List AG) × Nat))) :=
 match s with
 | (x11, x12, x13, x14) => BM (decide (x14 < (x10.length : Int))) ((Fv x10 x14).bind fun x18 => (x12[x13]?).bind fun x19 => Ks (CY x19.AP x18) (fun x20 => (some x20 : Option ((Nat))).bind fun x21 => some (.inl (x11, x12, x21, IntKind.i64.wrap (x14 + 1)))) (((CW).bind fun x25w3 => Dm (x25w3.AP.isEmpty) <| Dm (decide (x13 < x12.length)) <| Dm (decide ((0 : Nat) < x12.length)) <| ((x12 ++ [x25w3])[x13]?).bind fun x26 => Dm (decide (x12.length < (x12 ++ [x25w3]).length)) <| some (IntKind.i64.wrap (x11 + 1), ((x12 ++ [x25w3]).set x13 (⟨x26.at_, x26.Dp, D7 x26.AP x18 x12.length⟩ : AG)), x12.length) : Option ((Int × (List AG) × Nat))).bind fun (x22, x23, x24) => some (.inl (x22, x23, x24, IntKind.i64.wrap (x14 + 1))))) (some (.inr (x11, x12, x13)))
def Ez (p0 : List AO) (s : Int × (List AG) × Int) : Option ((Int × (List AG) × Int) ⊕ ((Int × (List AG)))) :=
 match s with
 | (x2, x3, x4) => BM (decide (x4 < (p0.length : Int))) (((Fv p0 x4).bind fun x9 => (C0 x9.Name).bind fun x10 => (loop (E3 x10) (x2, x3, (0 : Nat), (0 : Int))).bind fun (x15, x16, x17) => (x16[x17]?).bind fun x27 => (x16[(0 : Nat)]?).bind fun x28 => BM (!Nat.beq x17 (0 : Nat)) ((x16[x17]?).bind fun x29 => ((x16.set x17 (⟨x4, x29.Dp, x29.AP⟩ : AG))[x17]?).bind fun x30 => some (x15, ((x16.set x17 (⟨x4, x29.Dp, x29.AP⟩ : AG)).set x17 (⟨x30.at_, (x9.Data.length : Int), x30.AP⟩ : AG)))) (some (x15, x16)) : Option ((Int × (List AG)))).bind fun (x7, x8) => some (.inl (x7, x8, IntKind.i64.wrap (x4 + 1)))) (some (.inr (x2, x3)))
def Eb (p0 : List AO) : Option (AV × (List AG)) :=
 (CW).bind fun x1w1 => Dm (x1w1.AP.isEmpty) <| (loop (Ez p0) ((0 : Int), [x1w1], (0 : Int))).bind fun (x5, x6) => some ((⟨(0 : Nat), x5⟩ : AV), x6)
theorem JG {p0 rp0 q00 arq} (hm : Eb p0 = some (q00, arq)) (A : HH g h [.AL rp0 51 (AL AE p0)] F) (hc : B3 (cfg.still 8) av = [AJ rp0 p0.length] := by kernel_rfl) : ∃ v h', CC cfg g h 8 av v h' ∧ ∃ (bq00 : Nat) (Iq : HR), v = .ptr (some (bq00, 0)) ∧ HH g h' [.obj bq00 (.cells none 2 [.ptr (some (A8 Iq q00.Au, 0)), Ai q00.n_]), EH BF Iq arq, .AL rp0 51 (AL AE p0)] F := by
 refine HO 74 [.tmp 2] hc ?_
 clear hc
 unfold Eb at hm
 refine bg 74 [(0, AJ rp0 p0.length)] fun fr H => ?_
 refine AH 1 (DP 1 [] 4 H fun fr H => ?_)
 obtain ⟨x1w1, hx, hm⟩ := bind_some hm
 obtain ⟨v1, h1, hr, bx1w1, bx1w1_2, rfl, A1⟩ := EB (I := ([] : HR)) (av := []) hx (A.cut 0)
 replace A := A.Wh A1
 refine Cc 10 hr H fun fr t H => ?_
 obtain ⟨hb, hm⟩ := Ag hm
 replace A : HH g h1 [EH BF [(bx1w1, bx1w1_2)] [x1w1], _] F := HH.Uh (N := BF) (I := ([] : HR)) (id := bx1w1) (mid := bx1w1_2) (x := x1w1) A (List.isEmpty_iff.1 hb)
 obtain ⟨h2, e1, A⟩ := A.pu (.cells none 2 [.ptr (some (A8 [(bx1w1, bx1w1_2)] (0 : Nat), 0)), Ai 0])
 refine TD 1 [] 12 (.ptr (some (h1.size, 0))) e1 H fun fr t H => ?_
 refine AQ 1 [(3, .ptr (some (h1.size, 0)))] H fun fr H => AS (AH 3 (AQ 3 [(13, AJ rp0 p0.length), (14, Ai (p0.length : Int)), (15, Ai 0)] H fun fr H => AM (id := 0) (by kernel_rfl) ?_))
 obtain ⟨o1, ho, hm⟩ := bind_some hm
 refine Al (Q' := fun e fr' h' => (∃ x5 x6, e = .exit 0 ∧ (x5, x6) = o1 ∧ ∃ (I2 : HR), Has fr' 74 [(3, .ptr (some (h1.size, 0)))] ∧ HH g h' [.obj h1.size (.cells none 2 [.ptr (some (A8 I2 (0 : Nat), 0)), Ai x5]), EH BF I2 x6, .AL rp0 51 (AL AE p0)] F) ∨ False) ?_ ?_
 ·refine CA (by kernel_rfl) (fun (s : Int × (List AG) × Int) fr' h' => ∃ x2 x3 x4, (x2, x3, x4) = s ∧ ∃ (I1 : HR), Has fr' 74 [(3, .ptr (some (h1.size, 0))), (13, AJ rp0 p0.length), (14, Ai (p0.length : Int)), (15, Ai x4)] ∧ HH g h' [.obj h1.size (.cells none 2 [.ptr (some (A8 I1 (0 : Nat), 0)), Ai x2]), EH BF I1 x3, .AL rp0 51 (AL AE p0)] F) ho ⟨_, _, _, rfl, [(bx1w1, bx1w1_2)], H.ls, A⟩ ?_
  clear ho hm H A
  intro s q fr h3 hI hm
  obtain ⟨x2, x3, x4, rfl, I1, H, A⟩ := hI
  unfold Ez at hm
  refine AH 1 (AQ 1 [(16, .bool (decide (x4 < (p0.length : Int))))] H fun fr H => AS (BK 16 H hm (fun hb hm H => ?_) fun hb hm H => ?_))
  ·refine C8 id (AS ?_)
   obtain ⟨o2, ho, hm⟩ := bind_some hm
   refine Al (Q' := fun e fr' h' => (∃ x7 x8, e = .normal ∧ (x7, x8) = o2 ∧ ∃ (I3 : HR), Has fr' 74 [(3, .ptr (some (h1.size, 0))), (13, AJ rp0 p0.length), (14, Ai (p0.length : Int)), (15, Ai x4)] ∧ HH g h' [.obj h1.size (.cells none 2 [.ptr (some (A8 I3 (0 : Nat), 0)), Ai x7]), EH BF I3 x8, .AL rp0 51 (AL AE p0)] F) ∨ False) ?_ ?_
   ·replace hm := ho
    clear ho
    refine AM (id := 1) (by kernel_rfl) ?_
    refine AH 6 ?_
    obtain ⟨x9, hx, hm⟩ := bind_some hm
    obtain ⟨i1, er1, _, hx, hq1⟩ := HH.MV Cy (by decide) A 2 (xs := p0) rfl hx
    refine BE 1 [(17, Ai x4)] 18 (.ptr (some (i1, x4.toNat * 14))) h3 H (fun fr => .of (EG (s := DC rp0 p0.length) (by kernel_rfl) hx)) fun fr t H => ?_
    refine Az 19 _ _ H (fun fr => .of (QW (by kernel_rfl) (K8 Cy (HH.row A 2 rfl er1) hq1 0 14 (Nat.le_of_ble_eq_true rfl)))) fun fr t H => ?_
    obtain ⟨h4, e2, A⟩ := A.pu (.cells none 2 XC)
    refine Cw 5 (.ptr (some (h3.size, 0))) e2 H fun fr t H => ?_
    obtain ⟨h5, hx, A⟩ := A.s0 0 (AE x9) [_, _, _, _, _, _, _, _, _, _, _, _, _, _]
    refine Ue 1 [(4, Ai x4)] hx H fun fr t H => ?_
    refine F5 5 id (DV 3 [] 23 1 0 A H fun fr t H => ?_)
    refine AQ 1 [(6, .ptr (some (A8 I1 (0 : Nat), 0)))] H fun fr H => AS (AH 5 (DV 1 [] 25 0 0 A H fun fr t H => ?_))
    obtain ⟨x10, hx, hm⟩ := bind_some hm
    obtain ⟨v1, h6, hr, rqw2, rfl, A1⟩ := FF (av := [.str x9.Name]) hx (A.cut 0)
    replace A := A.V3 A1
    refine Cc 26 hr H fun fr t H => ?_
    refine AQ 2 [(27, Ai (x10.length : Int)), (28, Ai 0)] H fun fr H => AM (id := 2) (by kernel_rfl) ?_
    obtain ⟨o3, ho, hm⟩ := bind_some hm
    refine Al (Q' := fun e fr' h' => (∃ x15 x16 x17, e = .exit 2 ∧ (x15, x16, x17) = o3 ∧ ∃ (I5 : HR), Has fr' 74 [(3, .ptr (some (h1.size, 0))), (4, Ai x4), (5, .ptr (some (h3.size, 0))), (6, .ptr (some (A8 I5 x17, 0))), (13, AJ rp0 p0.length), (14, Ai (p0.length : Int)), (15, Ai x4)] ∧ HH g h' [.obj h3.size (.cells none 2 (AE x9)), .obj h1.size (.cells none 2 [.ptr (some (A8 I5 (0 : Nat), 0)), Ai x15]), EH BF I5 x16, .AL rp0 51 (AL AE p0)] F) ∨ False) ?_ ?_
    ·refine CA (by kernel_rfl) (fun (s : Int × (List AG) × Nat × Int) fr' h' => ∃ x11 x12 x13 x14, (x11, x12, x13, x14) = s ∧ ∃ (I4 : HR), Has fr' 74 [(3, .ptr (some (h1.size, 0))), (4, Ai x4), (5, .ptr (some (h3.size, 0))), (6, .ptr (some (A8 I4 x13, 0))), (13, AJ rp0 p0.length), (14, Ai (p0.length : Int)), (15, Ai x4), (26, AJ rqw2 x10.length), (27, Ai (x10.length : Int)), (28, Ai x14)] ∧ HH g h' [.AL rqw2 9 (AL eS x10), .obj h3.size (.cells none 2 (AE x9)), .obj h1.size (.cells none 2 [.ptr (some (A8 I4 (0 : Nat), 0)), Ai x11]), EH BF I4 x12, .AL rp0 51 (AL AE p0)] F) ho ⟨_, _, _, _, rfl, I1, H.ls, A⟩ ?_
     clear ho hm H A
     intro s q fr h7 hI hm
     obtain ⟨x11, x12, x13, x14, rfl, I4, H, A⟩ := hI
     unfold E3 at hm
     refine AH 1 (AQ 1 [(29, .bool (decide (x14 < (x10.length : Int))))] H fun fr H => AS (BK 29 H hm (fun hb hm H => ?_) fun hb hm H => ?_))
     ·refine C8 id (AS (AM (id := 3) (by kernel_rfl) ?_))
      refine AH 3 ?_
      obtain ⟨x18, hx, hm⟩ := bind_some hm
      obtain ⟨i2, er2, _, hx, hq2⟩ := HH.MV encS (by decide) A 0 (xs := x10) rfl hx
      refine Az 30 (.ptr (some (i2, x14.toNat * 1))) h7 H (fun fr => .of (EG (s := DC rqw2 x10.length) (by kernel_rfl) hx)) fun fr t H => ?_
      refine Az 31 _ _ H (fun fr => .of (Dk (by kernel_rfl) (DU encS (HH.row A 0 rfl er2) hq2 (o := 0) rfl))) fun fr t H => ?_
      refine DP 1 [(8, .str x18)] 7 H fun fr H => ?_
      obtain ⟨x19, hq3, hm⟩ := bind_some hm
      refine BE 3 [] 35 _ _ H (fun fr => .of (Dk (by kernel_rfl) (Hn (N := BF) (I := I4) (A.mem (k := 3) rfl) hq3 (o := 2) (v := .map (some (Cz I4 x13))) rfl))) fun fr t H => ?_
      rcases Gg hm with ⟨x20, hq4, hm⟩ | ⟨hq4, hm⟩
      ·refine BE 1 [] 37 (.ptr (some (A8 I4 x20, 0))) h7 H (fun fr => .of (Io (by kernel_rfl) (IA (N := BF) (I := I4) (A.mem (k := 3) rfl) hq3 (kt := 9) (et := 52) (by kernel_rfl) (t := 56) (by kernel_rfl) (zv := .ptr none) (by kernel_rfl) (s := x18) (v := x20) hq4))) fun fr t H => ?_
       refine AQ 1 [(9, .ptr (some (A8 I4 x20, 0)))] H fun fr H => AS ?_
       obtain ⟨o4, ho, hm⟩ := bind_some hm
       refine Al (Q' := fun e fr' h' => (∃ x21, e = .normal ∧ x21 = o4 ∧ Has fr' 74 [(3, .ptr (some (h1.size, 0))), (4, Ai x4), (5, .ptr (some (h3.size, 0))), (9, .ptr (some (A8 I4 x21, 0))), (13, AJ rp0 p0.length), (14, Ai (p0.length : Int)), (15, Ai x4), (26, AJ rqw2 x10.length), (27, Ai (x10.length : Int)), (28, Ai x14)] ∧ HH g h' [.AL rqw2 9 (AL eS x10), .obj h3.size (.cells none 2 (AE x9)), .obj h1.size (.cells none 2 [.ptr (some (A8 I4 (0 : Nat), 0)), Ai x11]), EH BF I4 x12, .AL rp0 51 (AL AE p0)] F) ∨ False) ?_ ?_
       ·replace hm := ho
        clear ho
        refine AH 2 (AQ 2 [(39, .bool false)] H fun fr H => Ga (x := .tmp 39) (by kernel_rfl) H (fun fr => by kernel_rfl) ?_)
        exact Ea (.inl ⟨_, rfl, Aq hm, H.ls, A⟩)
       clear ho
       clear A
       intro e fr h8 hQ
       rcases hQ with ⟨x21, rfl, rfl, H, A⟩ | hF
       ·show AW _ _ _ _ _ _ _
        refine CQ 2 (TA 2 [(6, .ptr (some (A8 I4 x21, 0)))] 2 H fun fr H => Bk 2 [(3, .ptr (some (h1.size, 0))), (4, Ai x4), (5, .ptr (some (h3.size, 0))), (6, .ptr (some (A8 I4 x21, 0))), (13, AJ rp0 p0.length), (14, Ai (p0.length : Int)), (15, Ai x4), (26, AJ rqw2 x10.length), (27, Ai (x10.length : Int)), (28, Ai (IntKind.i64.wrap (x14 + 1)))] H fun fr H => at_nil ?_)
        exact nx hm ⟨_, _, _, _, rfl, I4, H.ls, A⟩
       exact hF.elim
      refine BE 1 [] 37 (.ptr none) h7 H (fun fr => .of (Io (by kernel_rfl) (Hl (N := BF) (I := I4) (A.mem (k := 3) rfl) hq3 (kt := 9) (et := 52) (by kernel_rfl) (t := 56) (by kernel_rfl) (zv := .ptr none) (by kernel_rfl) (s := x18) hq4))) fun fr t H => ?_
      refine AQ 1 [(9, .ptr none)] H fun fr H => AS ?_
      obtain ⟨o5, ho, hm⟩ := bind_some hm
      refine Al (Q' := fun e fr' h' => (∃ x22 x23 x24, e = .normal ∧ (x22, x23, x24) = o5 ∧ ∃ (I6 : HR), Has fr' 74 [(3, .ptr (some (h1.size, 0))), (4, Ai x4), (5, .ptr (some (h3.size, 0))), (9, .ptr (some (A8 I6 x24, 0))), (13, AJ rp0 p0.length), (14, Ai (p0.length : Int)), (15, Ai x4), (26, AJ rqw2 x10.length), (27, Ai (x10.length : Int)), (28, Ai x14)] ∧ HH g h' [.AL rqw2 9 (AL eS x10), .obj h3.size (.cells none 2 (AE x9)), .obj h1.size (.cells none 2 [.ptr (some (A8 I6 (0 : Nat), 0)), Ai x22]), EH BF I6 x23, .AL rp0 51 (AL AE p0)] F) ∨ False) ?_ ?_
      ·replace hm := ho
       clear ho
       refine AH 2 (AQ 2 [(39, .bool true)] H fun fr H => K4 (x := .tmp 39) (by kernel_rfl) H (fun fr => by kernel_rfl) ?_)
       refine AH 2 ?_
       obtain ⟨x25w3, hx, hm⟩ := bind_some hm
       obtain ⟨v1, h9, hr, bx25w3, bx25w3_2, rfl, A1⟩ := EB (I := I4) (av := []) hx (A.cut 0)
       replace A := A.Wh A1
       refine Cc 40 hr H fun fr t H => ?_
       obtain ⟨hb, hm⟩ := Ag hm
       have hI := (A.mem (k := 5) rfl : (EH BF I4 x12).ok h9).1.1
       have en : bx25w3 = A8 (I4 ++ [(bx25w3, bx25w3_2)]) x12.length := (Qy (p := (bx25w3, bx25w3_2)) hI).symm
       try rw [en] at H
       obtain ⟨hb0, hm⟩ := Ag hm
       have e0 : A8 I4 x13 = A8 (I4 ++ [(bx25w3, bx25w3_2)]) x13 := (Jn (by rw [hI]; exact of_decide_eq_true hb0)).symm
       try rw [e0] at H
       try rw [e0] at A
       obtain ⟨hb1, hm⟩ := Ag hm
       have e1 : A8 I4 (0 : Nat) = A8 (I4 ++ [(bx25w3, bx25w3_2)]) (0 : Nat) := (Jn (by rw [hI]; exact of_decide_eq_true hb1)).symm
       try rw [e1] at H
       try rw [e1] at A
       replace A : HH g h9 [_, _, .obj h1.size (.cells none 2 [.ptr (some (A8 (I4 ++ [(bx25w3, bx25w3_2)]) (0 : Nat), 0)), Ai x11]), EH BF (I4 ++ [(bx25w3, bx25w3_2)]) (x12 ++ [x25w3]), _] F := HH.UW (N := BF) (I := I4) (A := x12) (id := bx25w3) (mid := bx25w3_2) (x := x25w3) A 3 rfl (List.isEmpty_iff.1 hb)
       refine Bk 1 [(3, .ptr (some (h1.size, 0))), (4, Ai x4), (5, .ptr (some (h3.size, 0))), (6, .ptr (some (A8 (I4 ++ [(bx25w3, bx25w3_2)]) x13, 0))), (8, .str x18), (9, .ptr (some (A8 (I4 ++ [(bx25w3, bx25w3_2)]) x12.length, 0))), (13, AJ rp0 p0.length), (14, Ai (p0.length : Int)), (15, Ai x4), (26, AJ rqw2 x10.length), (27, Ai (x10.length : Int)), (28, Ai x14)] H fun fr H => F5 7 id ?_
       obtain ⟨x26, hq5, hm⟩ := bind_some hm
       refine BE 3 [] 44 _ _ H (fun fr => .of (Dk (by kernel_rfl) (Hn (N := BF) (I := (I4 ++ [(bx25w3, bx25w3_2)])) (A.mem (k := 3) rfl) hq5 (o := 2) (v := .map (some (Cz (I4 ++ [(bx25w3, bx25w3_2)]) x13))) rfl))) fun fr t H => ?_
       refine Ax 2 [(45, .str x18), (46, .ptr (some (A8 (I4 ++ [(bx25w3, bx25w3_2)]) x12.length, 0)))] H fun fr H => ?_
       obtain ⟨hb, hm⟩ := Ag hm
       obtain ⟨h10, hx, A1⟩ := HH.R0 (N := BF) (I := (I4 ++ [(bx25w3, bx25w3_2)])) (P := cfg.P) A 3 rfl hq5 (t := 56) (kt := 9) (et := 52) (y := (⟨x26.at_, x26.Dp, D7 x26.AP x18 x12.length⟩ : AG)) (by kernel_rfl) (by kernel_rfl) x18 x12.length (of_decide_eq_true hb) rfl rfl
       replace A : HH g h10 [_, _, _, EH BF (I4 ++ [(bx25w3, bx25w3_2)]) ((x12 ++ [x25w3]).set x13 (⟨x26.at_, x26.Dp, D7 x26.AP x18 x12.length⟩ : AG)), _] F := A1
       refine L0 (.tuple []) h10 H (fun fr => .of (WN (by kernel_rfl) hx)) fun fr t H => ?_
       refine IG 8 id (DV 3 [(47, .ptr (some (h1.size, 0)))] 50 2 1 A H fun fr t H => ?_)
       obtain ⟨h11, hx, A1⟩ := A.st 2 rfl (o := 1) (new := [Ai (IntKind.i64.wrap (x11 + 1))]) (ds := [.ptr (some (A8 (I4 ++ [(bx25w3, bx25w3_2)]) (0 : Nat), 0)), Ai (IntKind.i64.wrap (x11 + 1))]) (Nat.le_of_ble_eq_true rfl) rfl rfl
       replace A : HH g h11 [_, _, .obj h1.size (.cells none 2 [.ptr (some (A8 (I4 ++ [(bx25w3, bx25w3_2)]) (0 : Nat), 0)), Ai (IntKind.i64.wrap (x11 + 1))]), _, _] F := A1
       refine QI 3 [] hx H fun fr t H => ?_
       refine at_nil ?_
       exact .inl ⟨_, _, _, rfl, Aq hm, (I4 ++ [(bx25w3, bx25w3_2)]), H.ls, A⟩
      clear ho
      clear A
      intro e fr h12 hQ
      rcases hQ with ⟨x22, x23, x24, rfl, rfl, I6, H, A⟩ | hF
      ·show AW _ _ _ _ _ _ _
       refine CQ 2 (TA 2 [(6, .ptr (some (A8 I6 x24, 0)))] 2 H fun fr H => Bk 2 [(3, .ptr (some (h1.size, 0))), (4, Ai x4), (5, .ptr (some (h3.size, 0))), (6, .ptr (some (A8 I6 x24, 0))), (13, AJ rp0 p0.length), (14, Ai (p0.length : Int)), (15, Ai x4), (26, AJ rqw2 x10.length), (27, Ai (x10.length : Int)), (28, Ai (IntKind.i64.wrap (x14 + 1)))] H fun fr H => at_nil ?_)
       exact nx hm ⟨_, _, _, _, rfl, I6, H.ls, A⟩
      exact hF.elim
     refine B0 (i := 2) (by kernel_rfl) ?_
     replace A := A.k4 1 2 3 4
     exact nr hm fun e => .inl ⟨_, _, _, rfl, e, I4, H.ls, A⟩
    clear ho
    clear A
    intro e fr h13 hQ
    rcases hQ with ⟨x15, x16, x17, rfl, rfl, I5, H, A⟩ | hF
    ·show AW _ _ _ _ _ _ _
     refine AH 6 (DV 4 [(56, .ptr (some (A8 I5 x17, 0)))] 60 1 0 A H fun fr t H => ?_)
     obtain ⟨x27, hq6, hm⟩ := bind_some hm
     obtain ⟨x28, hq7, hm⟩ := bind_some hm
     refine Az 61 (.bool (!Nat.beq x17 (0 : Nat))) h13 H (fun fr => .of (Un (t := 52) (by kernel_rfl) (Ul (N := BF) (I := I5) (A.mem (k := 2) rfl) hq6 hq7 Qv (t := 52) (e := 58) (by kernel_rfl) (z := 2) (by kernel_rfl)))) fun fr t H => ?_
     refine Dg id (BK 61 H hm (fun hb hm H => ?_) fun hb hm H => ?_)
     ·refine TC 17 12 [(0, []), (1, []), (2, []), (3, []), (4, []), (5, []), (6, []), (7, []), (8, [4]), (9, []), (10, []), (11, [])] ?_
      refine Ax 4 [(62, .ptr (some (A8 I5 x17, 0))), (63, .ptr (some (A8 I5 x17, 0))), (64, Ai x4), (65, .ptr (some (h3.size, 13)))] H fun fr H => M3 66 (.str x9.Data) h13 [(4, h3.size)] (g.Bg) H (fun fr => .of (Dk (by kernel_rfl) (A.l1 0 13))) (fun fr H => ?_)
      refine Ax 3 [(67, Ai (x9.Data.length : Int)), (69, .ptr (some (A8 I5 x17, 0)))] H fun fr H => ?_
      obtain ⟨x29, hq8, hm⟩ := bind_some hm
      replace A := A.k4 2 0 1 3
      have A1 := A.SA 1 (pr := [h3.size]) (.cons 0 rfl (by simp [Ck.ids]) .nil)
      obtain ⟨h14, hx, A1⟩ := HH.UA (N := BF) (I := I5) A1 0 rfl hq8 (y := (⟨x4, x29.Dp, x29.AP⟩ : AG)) 0 (Ai x4) rfl rfl (Nat.le_of_ble_eq_true rfl) rfl
      replace A : HH g h14 [EH BF I5 (x16.set x17 (⟨x4, x29.Dp, x29.AP⟩ : AG)), _, _, _] F := A.SD (n := 1) A1
      refine Qq (.tuple []) h14 [(4, h3.size)] (h3.size :: g.Bg) H (fun fr => .of (Rg (by kernel_rfl) rfl hx)) (fun fr H => ?_)
      refine Ax 2 [(71, .ptr (some (A8 I5 x17, 1)))] H fun fr H => ?_
      obtain ⟨x30, hq9, hm⟩ := bind_some hm
      obtain ⟨h15, hx, A1⟩ := HH.UA (N := BF) (I := I5) A 0 rfl hq9 (y := (⟨x30.at_, (x9.Data.length : Int), x30.AP⟩ : AG)) 1 (Ai (x9.Data.length : Int)) rfl rfl (Nat.le_of_ble_eq_true rfl) rfl
      replace A : HH g h15 [EH BF I5 ((x16.set x17 (⟨x4, x29.Dp, x29.AP⟩ : AG)).set x17 (⟨x30.at_, (x9.Data.length : Int), x30.AP⟩ : AG)), _, _, _] F := A1
      refine Qq (.tuple []) h15 [(4, h3.size)] (g.Bg) H (fun fr => .of (Rg (by kernel_rfl) rfl hx)) (fun fr H => ?_)
      refine at_nil ?_
      replace A := A.k3 2 0 3
      exact .inl ⟨_, _, rfl, Aq hm, I5, H.ls, A⟩
     refine Ea ?_
     replace A := A.k3 1 2 3
     exact .inl ⟨_, _, rfl, Aq hm, I5, H.ls, A⟩
    exact hF.elim
   clear ho
   clear A
   intro e fr h16 hQ
   rcases hQ with ⟨x7, x8, rfl, rfl, I3, H, A⟩ | hF
   ·show AW _ _ _ _ _ _ _
    refine CQ 2 (Bk 2 [(3, .ptr (some (h1.size, 0))), (13, AJ rp0 p0.length), (14, Ai (p0.length : Int)), (15, Ai (IntKind.i64.wrap (x4 + 1)))] H fun fr H => at_nil ?_)
    exact nx hm ⟨_, _, _, rfl, I3, H.ls, A⟩
   exact hF.elim
  refine B0 (i := 0) (by kernel_rfl) ?_
  exact nr hm fun e => .inl ⟨_, _, rfl, e, I1, H.ls, A⟩
 clear ho
 clear A
 intro e fr h17 hQ
 rcases hQ with ⟨x5, x6, rfl, rfl, I2, H, A⟩ | hF
 ·show AW _ _ _ _ _ _ _
  refine AH 2 (AQ 2 [(2, .ptr (some (h1.size, 0)))] H fun fr H => BV ?_)
  obtain ⟨rfl, rfl⟩ := OJ hm
  exact ⟨.inl rfl, _, rH H, _, _, rfl, A⟩
 exact hF.elim
def Cm (p0 : AV) (ar : List AG) : Option (Int) :=
 some p0.n_
theorem Ew {I p0 ar bp0 q0} (hm : Cm p0 ar = some q0) (hc : B3 (cfg.still 13) av = [.ptr (some (bp0, 0))]) (hF : EH BF I ar ∈ F) (A : HH g h [.obj bp0 (.cells none 2 [.ptr (some (A8 I p0.Au, 0)), Ai p0.n_])] F) : ∃ v h', CC cfg g h 13 av v h' ∧ v = Ai q0 ∧ HH g h' [.obj bp0 (.cells none 2 [.ptr (some (A8 I p0.Au, 0)), Ai p0.n_])] F := by
 refine HO 7 [.tmp 2] hc ?_
 clear hc
 unfold Cm at hm
 refine bg 7 [(0, .ptr (some (bp0, 0)))] fun fr H => ?_
 refine AH 1 (DP 1 [] 5 H fun fr H => DV 3 [] 6 0 1 A H fun fr t H => ?_)
 refine AQ 1 [(2, Ai p0.n_)] H fun fr H => BV ?_
 obtain rfl := Aq hm
 exact ⟨.inl rfl, _, rH H, rfl, A⟩
def By (p0 : AV) (ar : List AG) : Option (Unit) :=
 some ()
theorem Ef {I p0 ar bp0} (hm : By p0 ar = some ()) (hc : B3 (cfg.still 26) av = [.ptr (some (bp0, 0))]) (hF : EH BF I ar ∈ F) (A : HH g h [.obj bp0 (.cells none 2 [.ptr (some (A8 I p0.Au, 0)), Ai p0.n_])] F) : ∃ v h', CC cfg g h 26 av v h' ∧ ∃ (bq0_10 : Nat), v = .func (.func 38) [] [.ptr (some (bq0_10, 0))] ∧ HH g h' [.obj bq0_10 (.cells none 2 [.ptr (some (bp0, 0))]), .obj bp0 (.cells none 2 [.ptr (some (A8 I p0.Au, 0)), Ai p0.n_])] F := by
 refine HO 4 [.tmp 2] hc ?_
 clear hc
 unfold By at hm
 refine bg 4 [(0, .ptr (some (bp0, 0)))] fun fr H => ?_
 refine AH 2 ?_
 obtain ⟨h1, e1, A⟩ := A.pu (.cells none 2 [.ptr (some (bp0, 0))])
 refine Cw 1 (.ptr (some (h.size, 0))) e1 H fun fr t H => ?_
 refine DP 1 [] 2 H fun fr H => AQ 2 [(2, .func (.func 38) [] [.ptr (some (h.size, 0))])] H fun fr H => BV ?_
 exact ⟨.inl rfl, _, rH H, _, rfl, A⟩
def Dq (p0 : List (List UInt8)) (p1 : List (List UInt8)) (s : Int) : Option ((Int) ⊕ ((Unit) ⊕ (Bool))) :=
 match s with
 | x1 => BM (decide (x1 < (p0.length : Int))) ((Fv p0 x1).bind fun x3 => (Fv p1 x1).bind fun x4 => BM (!(x3 == x4)) (some (.inr (.inr false))) (some (.inl (IntKind.i64.wrap (x1 + 1))))) (some (.inr (.inl ())))
def B6 (p0 : List (List UInt8)) (p1 : List (List UInt8)) : Option (Bool) :=
 BM ((p0.length : Int) != (p1.length : Int)) (some false) ((loop (Dq p0 p1) (0 : Int)).bind fun o1 => (match o1 with | .inl _ => some true | .inr x2 => some x2))
theorem D4 {p0 p1 rp0 rp1 q0} (hm : B6 p0 p1 = some q0) (A : HH g h [.AL rp0 9 (AL eS p0), .AL rp1 9 (AL eS p1)] F) (hc : B3 (cfg.still 15) av = [AJ rp0 p0.length, AJ rp1 p1.length] := by kernel_rfl) : ∃ v h', CC cfg g h 15 av v h' ∧ v = .bool q0 ∧ HH g h' [.AL rp0 9 (AL eS p0), .AL rp1 9 (AL eS p1)] F := by
 refine HO 26 [.tmp 4] hc ?_
 clear hc
 unfold B6 at hm
 refine bg 26 [(0, AJ rp0 p0.length), (1, AJ rp1 p1.length)] fun fr H => ?_
 refine AH 1 (AQ 1 [] H fun fr H => AS (AH 5 (AQ 5 [(10, .bool ((p0.length : Int) != (p1.length : Int)))] H fun fr H => BK 10 H hm (fun hb hm H => ?_) fun hb hm H => ?_)))
 ·refine AH 1 (AQ 1 [(4, .bool false)] H fun fr H => BV ?_)
  obtain rfl := Aq hm
  exact ⟨.inl rfl, _, rH H, rfl, A⟩
 refine C8 id (AS (AH 1 (AQ 1 [(5, Ai 0)] H fun fr H => AM (id := 0) (by kernel_rfl) ?_)))
 obtain ⟨o1, ho, hm⟩ := bind_some hm
 refine Al (Q' := fun e fr' h' => (e = .exit 0 ∧ .inl () = o1 ∧ Has fr' 26 [] ∧ HH g h' [.AL rp0 9 (AL eS p0), .AL rp1 9 (AL eS p1)] F) ∨ (∃ x2, e = .ret ∧ .inr x2 = o1 ∧ Has fr' 26 [(4, .bool x2)] ∧ HH g h' [.AL rp0 9 (AL eS p0), .AL rp1 9 (AL eS p1)] F) ∨ False) ?_ ?_
 ·refine CA (by kernel_rfl) (fun (s : Int) fr' h' => ∃ x1, x1 = s ∧ Has fr' 26 [(0, AJ rp0 p0.length), (1, AJ rp1 p1.length), (5, Ai x1)] ∧ HH g h' [.AL rp0 9 (AL eS p0), .AL rp1 9 (AL eS p1)] F) ho ⟨_, rfl, H.ls, A⟩ ?_
  clear ho hm H A
  intro s q fr h1 hI hm
  obtain ⟨x1, rfl, H, A⟩ := hI
  unfold Dq at hm
  refine AS (AH 4 (AQ 4 [(14, .bool (decide (x1 < (p0.length : Int))))] H fun fr H => BK 14 H hm (fun hb hm H => ?_) fun hb hm H => ?_))
  ·refine C8 id (AS (AM (id := 1) (by kernel_rfl) ?_))
   refine AS (Ox 6 9 ?_)
   obtain ⟨x3, hx, hm⟩ := bind_some hm
   obtain ⟨i1, er1, _, hx, hq1⟩ := HH.MV encS (by decide) A 0 (xs := p0) rfl hx
   refine BE 2 [] 19 (.ptr (some (i1, x1.toNat * 1))) h1 H (fun fr => .of (EG (s := DC rp0 p0.length) (by kernel_rfl) hx)) fun fr t H => ?_
   refine Az 20 _ _ H (fun fr => .of (Dk (by kernel_rfl) (DU encS (HH.row A 0 rfl er1) hq1 (o := 0) rfl))) fun fr t H => ?_
   obtain ⟨x4, hx, hm⟩ := bind_some hm
   obtain ⟨i2, er2, _, hx, hq2⟩ := HH.MV encS (by decide) A 1 (xs := p1) rfl hx
   refine BE 2 [] 23 (.ptr (some (i2, x1.toNat * 1))) h1 H (fun fr => .of (EG (s := DC rp1 p1.length) (by kernel_rfl) hx)) fun fr t H => ?_
   refine Az 24 _ _ H (fun fr => .of (Dk (by kernel_rfl) (DU encS (HH.row A 1 rfl er2) hq2 (o := 0) rfl))) fun fr t H => ?_
   refine AQ 1 [(25, .bool (!(x3 == x4)))] H fun fr H => BK 25 H hm (fun hb hm H => ?_) fun hb hm H => ?_
   ·refine AH 1 (AQ 1 [(4, .bool false)] H fun fr H => BV ?_)
    exact nr hm fun e => Or.inr (.inl ⟨_, rfl, e, H.ls, A⟩)
   refine Ik 3 id (Bk 3 [(0, AJ rp0 p0.length), (1, AJ rp1 p1.length), (5, Ai (IntKind.i64.wrap (x1 + 1)))] H fun fr H => at_nil ?_)
   exact nx hm ⟨_, rfl, H.ls, A⟩
  refine B0 (i := 0) (by kernel_rfl) ?_
  exact nr hm fun e => .inl ⟨rfl, e, H.ls, A⟩
 clear ho
 clear A
 intro e fr h2 hQ
 rcases hQ with ⟨rfl, rfl, H, A⟩ | ⟨x2, rfl, rfl, H, A⟩ | hF
 ·show AW _ _ _ _ _ _ _
  refine AH 1 (AQ 1 [(4, .bool true)] H fun fr H => BV ?_)
  obtain rfl := Aq hm
  exact ⟨.inl rfl, _, rH H, rfl, A⟩
 ·obtain rfl := Aq hm
  exact ⟨.inl rfl, _, rH H, rfl, A⟩
 exact hF.elim
def EW (p0 : List (List UInt8)) (p1 : List (List UInt8)) (s : Int) : Option ((Int) ⊕ ((Unit) ⊕ (Bool))) :=
 match s with
 | x1 => BM (decide (x1 < (p0.length : Int))) ((Fv p0 x1).bind fun x3 => (Fv p1 x1).bind fun x4 => BM (!(x3 == x4)) (some (.inr (.inr false))) (some (.inl (IntKind.i64.wrap (x1 + 1))))) (some (.inr (.inl ())))
def Cl (p0 : List (List UInt8)) (p1 : List (List UInt8)) : Option (Bool) :=
 BM ((p0.length : Int) != (p1.length : Int)) (some false) ((loop (EW p0 p1) (0 : Int)).bind fun o1 => (match o1 with | .inl _ => some true | .inr x2 => some x2))
theorem Hf {p0 p1 q0} (hm : Cl p0 p1 = some q0) (A : HH g h [] F) (hc : B3 (cfg.still 15) av = [vs eS p0, vs eS p1] := by kernel_rfl) : ∃ v h', CC cfg g h 15 av v h' ∧ v = .bool q0 ∧ HH g h' [] F := by
 refine HO 26 [.tmp 4] hc ?_
 clear hc
 unfold Cl at hm
 refine bg 26 [(0, vs eS p0), (1, vs eS p1)] fun fr H => ?_
 refine AH 1 (AQ 1 [] H fun fr H => AS (AH 5 (AQ 5 [(10, .bool ((p0.length : Int) != (p1.length : Int)))] H fun fr H => BK 10 H hm (fun hb hm H => ?_) fun hb hm H => ?_)))
 ·refine AH 1 (AQ 1 [(4, .bool false)] H fun fr H => BV ?_)
  obtain rfl := Aq hm
  exact ⟨.inl rfl, _, rH H, rfl, A⟩
 refine C8 id (AS (AH 1 (AQ 1 [(5, Ai 0)] H fun fr H => AM (id := 0) (by kernel_rfl) ?_)))
 obtain ⟨o1, ho, hm⟩ := bind_some hm
 refine Al (Q' := fun e fr' h' => (e = .exit 0 ∧ .inl () = o1 ∧ Has fr' 26 [] ∧ HH g h' [] F) ∨ (∃ x2, e = .ret ∧ .inr x2 = o1 ∧ Has fr' 26 [(4, .bool x2)] ∧ HH g h' [] F) ∨ False) ?_ ?_
 ·refine CA (by kernel_rfl) (fun (s : Int) fr' h' => ∃ x1, x1 = s ∧ Has fr' 26 [(0, vs eS p0), (1, vs eS p1), (5, Ai x1)] ∧ HH g h' [] F) ho ⟨_, rfl, H.ls, A⟩ ?_
  clear ho hm H A
  intro s q fr h1 hI hm
  obtain ⟨x1, rfl, H, A⟩ := hI
  unfold EW at hm
  refine AS (AH 4 (AQ 4 [(14, .bool (decide (x1 < (p0.length : Int))))] H fun fr H => BK 14 H hm (fun hb hm H => ?_) fun hb hm H => ?_))
  ·refine C8 id (AS (AM (id := 1) (by kernel_rfl) ?_))
   refine AS (Ox 6 9 ?_)
   obtain ⟨x3, hx, hm⟩ := bind_some hm
   refine BE 2 [] 19 (.DF [.str x3]) h1 H (fun fr => .of (Hi (e := eS) (x := x3) encS (by decide) (by kernel_rfl) hx)) fun fr t H => ?_
   refine Az 20 (.str x3) h1 H (fun fr => .of (Lg (by kernel_rfl))) fun fr t H => ?_
   obtain ⟨x4, hx, hm⟩ := bind_some hm
   refine BE 2 [] 23 (.DF [.str x4]) h1 H (fun fr => .of (Hi (e := eS) (x := x4) encS (by decide) (by kernel_rfl) hx)) fun fr t H => ?_
   refine Az 24 (.str x4) h1 H (fun fr => .of (Lg (by kernel_rfl))) fun fr t H => ?_
   refine AQ 1 [(25, .bool (!(x3 == x4)))] H fun fr H => BK 25 H hm (fun hb hm H => ?_) fun hb hm H => ?_
   ·refine AH 1 (AQ 1 [(4, .bool false)] H fun fr H => BV ?_)
    exact nr hm fun e => Or.inr (.inl ⟨_, rfl, e, H.ls, A⟩)
   refine Ik 3 id (Bk 3 [(0, vs eS p0), (1, vs eS p1), (5, Ai (IntKind.i64.wrap (x1 + 1)))] H fun fr H => at_nil ?_)
   exact nx hm ⟨_, rfl, H.ls, A⟩
  refine B0 (i := 0) (by kernel_rfl) ?_
  exact nr hm fun e => .inl ⟨rfl, e, H.ls, A⟩
 clear ho
 clear A
 intro e fr h2 hQ
 rcases hQ with ⟨rfl, rfl, H, A⟩ | ⟨x2, rfl, rfl, H, A⟩ | hF
 ·show AW _ _ _ _ _ _ _
  refine AH 1 (AQ 1 [(4, .bool true)] H fun fr H => BV ?_)
  obtain rfl := Aq hm
  exact ⟨.inl rfl, _, rH H, rfl, A⟩
 ·obtain rfl := Aq hm
  exact ⟨.inl rfl, _, rH H, rfl, A⟩
 exact hF.elim
def DJ (p0 : AV) (ar : List AG) : Option (Unit) :=
 some ()
theorem HW {I p0 ar bp0} (hm : DJ p0 ar = some ()) (hc : B3 (cfg.still 10) av = [.ptr (some (bp0, 0))]) (hF : EH BF I ar ∈ F) (A : HH g h [.obj bp0 (.cells none 2 [.ptr (some (A8 I p0.Au, 0)), Ai p0.n_])] F) : ∃ v h', CC cfg g h 10 av v h' ∧ ∃ (bq0_10 : Nat), v = .func (.func 25) [] [.ptr (some (bq0_10, 0))] ∧ HH g h' [.obj bq0_10 (.cells none 2 [.ptr (some (bp0, 0))]), .obj bp0 (.cells none 2 [.ptr (some (A8 I p0.Au, 0)), Ai p0.n_])] F := by
 refine HO 4 [.tmp 2] hc ?_
 clear hc
 unfold DJ at hm
 refine bg 4 [(0, .ptr (some (bp0, 0)))] fun fr H => ?_
 refine AH 2 ?_
 obtain ⟨h1, e1, A⟩ := A.pu (.cells none 2 [.ptr (some (bp0, 0))])
 refine Cw 1 (.ptr (some (h.size, 0))) e1 H fun fr t H => ?_
 refine DP 1 [] 2 H fun fr H => AQ 2 [(2, .func (.func 25) [] [.ptr (some (h.size, 0))])] H fun fr H => BV ?_
 exact ⟨.inl rfl, _, rH H, _, rfl, A⟩
end
end Go.Av.L
