/-
 A part.
-/
import Derived.Test.YtlljeoogceblmaaGreatDoorKCfg
import Derived.Test.YtlljeoogceblmaaGreatDoorK0
namespace Go.Av.L
open Go.Av Go.Lib
set_option maxRecDepth 10000
set_option linter.unusedVariables false
set_option linter.unusedSimpArgs false
variable {g : Gd} {h : AD} {F : List Ck} {av : List AA}
noncomputable section
def Bp (p0 : AJ) : Option ((List (Int × Int))) :=
 some (Bb (Bb (Bb (Bb (Bb (Bb (Bb ([] : List (Int × Int)) (1 : Int) p0.Mode) (2 : Int) p0.BP) (3 : Int) p0.BQ) (4 : Int) p0.BU) (5 : Int) p0.Time) (9 : Int) p0.Aa) (10 : Int) p0.Ag)
theorem IK {p0 q0} (hm : Bp p0 = some q0) (A : HH g h [] F) (hc : BG (cfg.still 73) av = [.agg (AF p0)] := by kernel_rfl) : ∃ v h', BH cfg g h 73 av v h' ∧ ∃ (bq0 : Nat), v = .map (some bq0) ∧ HH g h' [.obj bq0 (.map 2 (DQ (fun k : Int => Ai k) (fun v : Int => Ai v) q0))] F := by
 refine ES 19 [.tmp 2] hc ?_
 clear hc
 unfold Bp at hm
 refine bg 19 [(0, .agg (AF p0))] fun fr H => ?_
 refine AG 2 ?_
 obtain ⟨h1, e1, A⟩ := A.pu (.cells none 2 (AF p0))
 refine BK 1 (.ptr (some (h.size, 0))) e1 H fun fr t H => ?_
 refine Bg 1 [] 24 H fun fr H => ?_
 obtain ⟨h2, e2⟩ : ∃ x, x = h1.push (.map 2 []) := ⟨_, rfl⟩
 replace A : HH g h2 [.obj h1.size (.map 2 (DQ (fun k : Int => Ai k) (fun v : Int => Ai v) ([] : List (Int × Int)))), .obj h.size (.cells none 2 (AF p0))] F := (A.push _).to e2
 refine BK 3 (.map (some h1.size)) e2 H fun fr t H => ?_
 refine AV 1 [] 5 1 3 A H fun fr t H => ?_
 obtain ⟨h3, hx, A1⟩ := HH.MU (kt := 3) (et := 3) (ek := fun k : Int => Ai k) (ev := fun v : Int => Ai v) (M9 (by kernel_rfl)) A 0 rfl (t := 129) (by kernel_rfl) (1 : Int) p0.Mode
 replace A : HH g h3 [.obj h1.size (.map 2 (DQ (fun k : Int => Ai k) (fun v : Int => Ai v) (Bb ([] : List (Int × Int)) (1 : Int) p0.Mode))), _] F := A1
 refine Fv (.tuple []) h3 H (fun fr => .of (Lx (by kernel_rfl) hx)) fun fr t H => ?_
 refine AV 1 [] 7 1 4 A H fun fr t H => ?_
 obtain ⟨h4, hx, A1⟩ := HH.MU (kt := 3) (et := 3) (ek := fun k : Int => Ai k) (ev := fun v : Int => Ai v) (M9 (by kernel_rfl)) A 0 rfl (t := 129) (by kernel_rfl) (2 : Int) p0.BP
 replace A : HH g h4 [.obj h1.size (.map 2 (DQ (fun k : Int => Ai k) (fun v : Int => Ai v) (Bb (Bb ([] : List (Int × Int)) (1 : Int) p0.Mode) (2 : Int) p0.BP))), _] F := A1
 refine Fv (.tuple []) h4 H (fun fr => .of (Lx (by kernel_rfl) hx)) fun fr t H => ?_
 refine AV 1 [] 9 1 5 A H fun fr t H => ?_
 obtain ⟨h5, hx, A1⟩ := HH.MU (kt := 3) (et := 3) (ek := fun k : Int => Ai k) (ev := fun v : Int => Ai v) (M9 (by kernel_rfl)) A 0 rfl (t := 129) (by kernel_rfl) (3 : Int) p0.BQ
 replace A : HH g h5 [.obj h1.size (.map 2 (DQ (fun k : Int => Ai k) (fun v : Int => Ai v) (Bb (Bb (Bb ([] : List (Int × Int)) (1 : Int) p0.Mode) (2 : Int) p0.BP) (3 : Int) p0.BQ))), _] F := A1
 refine Fv (.tuple []) h5 H (fun fr => .of (Lx (by kernel_rfl) hx)) fun fr t H => ?_
 refine AV 1 [] 11 1 6 A H fun fr t H => ?_
 obtain ⟨h6, hx, A1⟩ := HH.MU (kt := 3) (et := 3) (ek := fun k : Int => Ai k) (ev := fun v : Int => Ai v) (M9 (by kernel_rfl)) A 0 rfl (t := 129) (by kernel_rfl) (4 : Int) p0.BU
 replace A : HH g h6 [.obj h1.size (.map 2 (DQ (fun k : Int => Ai k) (fun v : Int => Ai v) (Bb (Bb (Bb (Bb ([] : List (Int × Int)) (1 : Int) p0.Mode) (2 : Int) p0.BP) (3 : Int) p0.BQ) (4 : Int) p0.BU))), _] F := A1
 refine Fv (.tuple []) h6 H (fun fr => .of (Lx (by kernel_rfl) hx)) fun fr t H => ?_
 refine AV 1 [] 13 1 7 A H fun fr t H => ?_
 obtain ⟨h7, hx, A1⟩ := HH.MU (kt := 3) (et := 3) (ek := fun k : Int => Ai k) (ev := fun v : Int => Ai v) (M9 (by kernel_rfl)) A 0 rfl (t := 129) (by kernel_rfl) (5 : Int) p0.Time
 replace A : HH g h7 [.obj h1.size (.map 2 (DQ (fun k : Int => Ai k) (fun v : Int => Ai v) (Bb (Bb (Bb (Bb (Bb ([] : List (Int × Int)) (1 : Int) p0.Mode) (2 : Int) p0.BP) (3 : Int) p0.BQ) (4 : Int) p0.BU) (5 : Int) p0.Time))), _] F := A1
 refine Fv (.tuple []) h7 H (fun fr => .of (Lx (by kernel_rfl) hx)) fun fr t H => ?_
 refine AV 1 [] 15 1 10 A H fun fr t H => ?_
 obtain ⟨h8, hx, A1⟩ := HH.MU (kt := 3) (et := 3) (ek := fun k : Int => Ai k) (ev := fun v : Int => Ai v) (M9 (by kernel_rfl)) A 0 rfl (t := 129) (by kernel_rfl) (9 : Int) p0.Aa
 replace A : HH g h8 [.obj h1.size (.map 2 (DQ (fun k : Int => Ai k) (fun v : Int => Ai v) (Bb (Bb (Bb (Bb (Bb (Bb ([] : List (Int × Int)) (1 : Int) p0.Mode) (2 : Int) p0.BP) (3 : Int) p0.BQ) (4 : Int) p0.BU) (5 : Int) p0.Time) (9 : Int) p0.Aa))), _] F := A1
 refine Fv (.tuple []) h8 H (fun fr => .of (Lx (by kernel_rfl) hx)) fun fr t H => ?_
 refine AV 1 [] 17 1 11 A H fun fr t H => ?_
 obtain ⟨h9, hx, A1⟩ := HH.MU (kt := 3) (et := 3) (ek := fun k : Int => Ai k) (ev := fun v : Int => Ai v) (M9 (by kernel_rfl)) A 0 rfl (t := 129) (by kernel_rfl) (10 : Int) p0.Ag
 replace A : HH g h9 [.obj h1.size (.map 2 (DQ (fun k : Int => Ai k) (fun v : Int => Ai v) (Bb (Bb (Bb (Bb (Bb (Bb (Bb ([] : List (Int × Int)) (1 : Int) p0.Mode) (2 : Int) p0.BP) (3 : Int) p0.BQ) (4 : Int) p0.BU) (5 : Int) p0.Time) (9 : Int) p0.Aa) (10 : Int) p0.Ag))), _] F := A1
 refine Fv (.tuple []) h9 H (fun fr => .of (Lx (by kernel_rfl) hx)) fun fr t H => ?_
 refine AK 2 [(2, .map (some h1.size))] H fun fr H => AS ?_
 obtain rfl := An hm
 refine ⟨.inl rfl, .map (some h1.size), rH H, ?_⟩
 replace A := A.d1
 exact ⟨h1.size, rfl, A⟩
def D2 (s : (List UInt8) × Int × Int) : Option (((List UInt8) × Int × Int) ⊕ (((List UInt8)))) :=
 match s with
 | (x3, x4, x5) => Ad (decide (x5 ≥ 0)) ((IG x3 x5).bind fun x7 => (XJ (IntKind.u8.wrap (IntKind.i64.wrap ((48 : Int) + (Wr .i64 x4 (7 : Int)))))).bind fun x8 => some (.inl ((x3.set x5.toNat x8), Vb .i64 x4 (3 : Int), IntKind.i64.wrap (x5 - 1)))) (some (.inr x3))
def CD (p0 : Int) (p1 : Int) : Option ((List UInt8) × Bool) :=
 (FV p1).bind fun x1 => (Ad ((!x1) || (decide (p0 < 0))) (some true) (D3 (decide (0 ≤ (IntKind.i64.wrap ((3 : Int) * (IntKind.i64.wrap (p1 - 1)))))) <| some (decide (p0 ≥ (HB .i64 (1 : Int) (IntKind.i64.wrap ((3 : Int) * (IntKind.i64.wrap (p1 - 1)))))))) : Option (Bool)).bind fun x2 => Ad x2 (some (([] : List UInt8), false)) (D3 (Z5 1 p1) <| (loop (D2) ((List.replicate p1.toNat (0 : UInt8)), p0, IntKind.i64.wrap (p1 - 2))).bind fun x6 => some (x6, true))
theorem HW {p0 p1 q0 q1} (hm : CD p0 p1 = some (q0, q1)) (A : HH g h [] F) (hc : BG (cfg.still 74) av = [Ai p0, Ai p1] := by kernel_rfl) : ∃ v h', BH cfg g h 74 av v h' ∧ v = .tuple [.str q0, .bool q1] ∧ HH g h' [] F := by
 refine ES 42 [.tmp 4, .tmp 5] hc ?_
 clear hc
 unfold CD at hm
 refine bg 42 [(0, Ai p0), (1, Ai p1)] fun fr H => ?_
 refine AG 2 (AK 2 [] H fun fr H => AP (AG 15 ?_))
 obtain ⟨x1, hx, hm⟩ := bind_some hm
 obtain ⟨v1, h1, hr, rfl, A1⟩ := Lp (av := [Ai p1]) hx (A.cut 0)
 replace A := A.DN A1
 refine A6 1 [] 9 hr H fun fr t H => ?_
 refine AM 2 [(11, .bool (!x1))] H fun fr H => A5 3 (fun fr' h' => h1 = h' ∧ Has fr' 42 [(0, Ai p0), (1, Ai p1), (14, .bool ((!x1) || (decide (p0 < 0))))]) ?_ ?_
 ·cases hb : (!x1 : Bool) with
  | true =>
   replace H := H.kn 11 hb
   exact AM 3 [(14, .bool true)] H fun fr H => Ao H hb
  | false =>
   replace H := H.kn 11 hb
   exact AM 3 [(14, .bool (decide (p0 < 0)))] H fun fr H => Ao H hb
 intro t fr h' hK
 obtain ⟨e, H⟩ := hK
 subst e
 refine AM 1 [(15, .bool ((!x1) || (decide (p0 < 0))))] H fun fr H => ?_
 obtain ⟨x2, ho, hm⟩ := bind_some hm
 refine A5 7 (fun fr' h' => Has fr' 42 [(0, Ai p0), (1, Ai p1), (22, .bool x2)] ∧ HH g h' [] F) ?_ ?_
 ·rcases Ax ho with ⟨hb, hm⟩ | ⟨hb, hm⟩
  ·replace H := H.kn 15 hb
   refine AM 7 [(22, .bool true)] H fun fr H => ?_
   obtain rfl := An hm
   exact at_nil ⟨H.ls, A⟩
  replace H := H.kn 15 hb
  refine AM 4 [(16, Ai p0), (19, Ai (IntKind.i64.wrap ((3 : Int) * (IntKind.i64.wrap (p1 - 1)))))] H fun fr H => ?_
  obtain ⟨hb, hm⟩ := A4 hm
  refine Ae 20 (Ai (HB .i64 (1 : Int) (IntKind.i64.wrap ((3 : Int) * (IntKind.i64.wrap (p1 - 1)))))) h1 H (fun fr => .of (Zx (by kernel_rfl) hb)) fun fr t H => ?_
  refine AM 2 [(22, .bool (decide (p0 ≥ (HB .i64 (1 : Int) (IntKind.i64.wrap ((3 : Int) * (IntKind.i64.wrap (p1 - 1))))))))] H fun fr H => ?_
  obtain rfl := An hm
  exact at_nil ⟨H.ls, A⟩
 clear A
 intro t fr h2 hK
 obtain ⟨H, A⟩ := hK
 refine BI id (AZ 22 H hm (fun hb hm H => ?_) fun hb hm H => ?_)
 ·refine AG 2 (AK 2 [(4, .str ([] : List UInt8)), (5, .bool false)] H fun fr H => AS ?_)
  obtain ⟨rfl, rfl⟩ := BD hm
  exact ⟨.inl rfl, _, rH H, rfl, A⟩
 refine Br 3 id ?_
 obtain ⟨hb, hm⟩ := A4 hm
 obtain ⟨h3, e1, A⟩ := A.pL 5 (Ak eY (List.replicate p1.toNat (0 : UInt8)))
 refine BC 1 [] 24 (Af (some h2.size) (List.replicate p1.toNat (0 : UInt8)).length) h3 H (fun fr => .of (Xs (e := eY) O1 (x := (0 : UInt8)) (by kernel_rfl) hb (congrArg some e1.symm))) fun fr t H => ?_
 refine AK 1 [(6, Af (some h2.size) ((List.replicate p1.toNat (0 : UInt8)).length))] H fun fr H => AP (AG 3 (AK 3 [(7, Ai (IntKind.i64.wrap (p1 - 2)))] H fun fr H => AY (id := 0) (by kernel_rfl) ?_))
 obtain ⟨o1, ho, hm⟩ := bind_some hm
 refine BJ (Q' := fun e fr' h' => (∃ x6, e = .exit 0 ∧ x6 = o1 ∧ ∃ (hl2 : x6.length = (List.replicate p1.toNat (0 : UInt8)).length), Has fr' 42 [(6, Af (some h2.size) x6.length)] ∧ HH g h' [.Ak (some h2.size) 5 (Ak eY x6)] F) ∨ False) ?_ ?_
 ·refine Ce (by kernel_rfl) (fun (s : (List UInt8) × Int × Int) fr' h' => ∃ x3 x4 x5, (x3, x4, x5) = s ∧ ∃ (hl1 : x3.length = (List.replicate p1.toNat (0 : UInt8)).length), Has fr' 42 [(0, Ai x4), (6, Af (some h2.size) x3.length), (7, Ai x5)] ∧ HH g h' [.Ak (some h2.size) 5 (Ak eY x3)] F) ho ⟨_, _, _, rfl, rfl, H.ls, A⟩ ?_
  clear ho hm H A
  intro s q fr h4 hI hm
  obtain ⟨x3, x4, x5, rfl, hl1, H, A⟩ := hI
  unfold D2 at hm
  refine AP (AG 2 (AK 2 [(28, .bool (decide (x5 ≥ 0)))] H fun fr H => AZ 28 H hm (fun hb hm H => ?_) fun hb hm H => ?_))
  ·refine CI id (AP (AY (id := 1) (by kernel_rfl) ?_))
   refine AG 8 ?_
   obtain ⟨x7, hx, hm⟩ := bind_some hm
   obtain ⟨i1, er1, _, hx, hq1⟩ := HH.XQ O1 (by decide) A 0 (xs := x3) rfl hx
   refine BC 6 [(36, Ab (IntKind.u8.wrap (IntKind.i64.wrap ((48 : Int) + (Wr .i64 x4 (7 : Int))))))] 37 (.ptr (some (i1, x5.toNat * 1))) h4 H (fun fr => .of (LP (s := EF (some h2.size) x3.length) (by kernel_rfl) hx)) fun fr t H => ?_
   obtain ⟨x8, hx, hm⟩ := bind_some hm
   have hx := WO hx
   rw [hx] at H
   obtain ⟨h5, hx, A1⟩ := HH.aZ O1 A 0 rfl er1 hq1 (y := x8) (o := 0) (new := [Ab (x8.toNat : Int)]) rfl rfl (Nat.le_of_ble_eq_true rfl)
   have hl3 : (x3.set x5.toNat x8).length = (List.replicate p1.toNat (0 : UInt8)).length := List.length_set.trans hl1
   have el : Af (some h2.size) x3.length = Af (some h2.size) (x3.set x5.toNat x8).length := congrArg _ List.length_set.symm
   try rw [el] at H
   try rw [el] at A1
   replace A : HH g h5 [.Ak (some h2.size) 5 (Ak eY (x3.set x5.toNat x8))] F := A1
   refine JB hx H fun fr t H => ?_
   refine Ep 3 id (Bd 3 [(0, Ai (Vb .i64 x4 (3 : Int))), (6, Af (some h2.size) ((x3.set x5.toNat x8).length)), (7, Ai x5)] H fun fr H => Ep 3 id (Bd 3 [(0, Ai (Vb .i64 x4 (3 : Int))), (6, Af (some h2.size) ((x3.set x5.toNat x8).length)), (7, Ai (IntKind.i64.wrap (x5 - 1)))] H fun fr H => at_nil ?_))
   exact nx hm ⟨_, _, _, rfl, hl3, H.ls, A⟩
  refine Bf (i := 0) (by kernel_rfl) ?_
  exact nr hm fun e => .inl ⟨_, rfl, e, hl1, H.ls, A⟩
 clear ho
 clear A
 intro e fr h6 hQ
 rcases hQ with ⟨x6, rfl, rfl, hl2, H, A⟩ | hF
 ·show AW _ _ _ _ _ _ _
  refine AG 4 (AM 1 [(40, Af (some h2.size) x6.length)] H fun fr H => Ae 41 (.str x6) h6 H (fun fr => .of (Xt (xs := x6) A 0 rfl (by kernel_rfl))) fun fr t H => ?_)
  refine AK 2 [(4, .str x6), (5, .bool true)] H fun fr H => AS ?_
  obtain ⟨rfl, rfl⟩ := BD hm
  refine ⟨.inl rfl, .tuple [.str x6, .bool true], rH H, ?_⟩
  replace A := A.d0
  exact ⟨rfl, A⟩
 exact hF.elim
def CQ (p0 : AJ) (s : Int) : Option ((Int) ⊕ ((Unit) ⊕ (Int))) :=
 match s with
 | x1 => Ad (decide (x1 < (([p0.Name, p0.AU, p0.AN, p0.AO] : List (List UInt8)).length : Int))) ((IG ([p0.Name, p0.AU, p0.AN, p0.AO] : List (List UInt8)) x1).bind fun x3 => (Au x3 (0 : Int)).bind fun x4 => Ad (decide (x4 ≥ 0)) (some (.inr (.inr (2 : Int)))) (some (.inl (IntKind.i64.wrap (x1 + 1))))) (some (.inr (.inl ())))
def Co (pp : Int × (List UInt8)) (s : Bool) : Option ((Bool) ⊕ (Unit)) :=
 match s with
 | z1 => (Ad z1 ((CY).bind fun x8 => (IG ([x8.w0, x8.w1, x8.w2, x8.w3, x8.w4, x8.w5, x8.w6, x8.w7, x8.w8, x8.w9, x8.Tb, x8.TM] : List Aj) pp.1).bind fun x9 => some (decide ((pp.2.length : Int) ≤ x9.Dq))) (some false) : Option (Bool)).bind fun x7 => some (.inl x7)
def Cm (pp : Int × Int) (s : Unit) : Option ((Unit) ⊕ (Int)) :=
 match s with
 | _ => (CY).bind fun x11 => (IG ([x11.w0, x11.w1, x11.w2, x11.w3, x11.w4, x11.w5, x11.w6, x11.w7, x11.w8, x11.w9, x11.Tb, x11.TM] : List Aj) pp.1).bind fun x12 => (CD pp.2 x12.Dq).bind fun (x13, x14) => Ad (!x14) (some (.inr (6 : Int))) (some (.inl ()))
def SJ (k : Int) : Int := if k = 0 ∨ k = 6 then 100 else if k = 11 then 155 else 32
theorem ZC {k : Nat} (hk : k ≤ 11) : HB .i64 (1 : Int) ((3 * k : Nat) : Int) = 8 ^ k := by
 have : k = 0 ∨ k = 1 ∨ k = 2 ∨ k = 3 ∨ k = 4 ∨ k = 5 ∨ k = 6 ∨ k = 7 ∨ k = 8 ∨ k = 9 ∨ k = 10 ∨ k = 11 := by omega
 rcases this with rfl | rfl | rfl | rfl | rfl | rfl | rfl | rfl | rfl | rfl | rfl | rfl <;> rfl
def Gz : Nat → Nat → List UInt8
 | _, 0 => []
 | v, k + 1 => Gz (v / 8) k ++ [UInt8.ofNat (48 + v % 8)]
theorem D7 : ∀ (k v : Nat), (Gz v k).length = k
 | 0, v => rfl
 | k + 1, v => by simp [Gz, D7 k (v / 8)]
theorem Yz (v : Nat) (hv : v < 9223372036854775808) : Wr .i64 (v : Int) 7 = ((v % 8 : Nat) : Int) := by
 unfold Wr
 have e1 : (BitVec.ofInt 64 (v : Int)).toNat = v := by rw [BitVec.toNat_ofInt]; omega
 show IntKind.i64.wrap ((BitVec.ofInt 64 (v : Int) &&& BitVec.ofInt 64 7).toNat : Int) = _
 rw [BitVec.toNat_and, e1, show (BitVec.ofInt 64 7).toNat = 2 ^ 3 - 1 from rfl, Nat.and_two_pow_sub_one_eq_mod, JK (by omega) (by omega)]
theorem Yp (v : Nat) : Vb .i64 (v : Int) 3 = ((v / 8 : Nat) : Int) := by
 unfold Vb
 rw [show (2 : Int) ^ (min (3 : Int).toNat IntKind.i64.bits) = 8 from rfl, Int.fdiv_eq_ediv_of_nonneg _ (by omega)]
 omega
theorem TY : ∀ (k v : Nat) (t : List UInt8), v < 9223372036854775808 → k ≤ 1000 → loop D2 (List.replicate k 0 ++ t, (v : Int), (k : Int) - 1) = some (Gz v k ++ t)
 | 0, v, t, hv, hk => by
  refine E5 ?_
  rw [D2]
  rfl
 | k + 1, v, t, hv, hk => by
  have e : ((k + 1 : Nat) : Int) - 1 = (k : Int) := by omega
  rw [e]
  refine (Eo (s' := (List.replicate k 0 ++ (UInt8.ofNat (48 + v % 8) :: t), ((v / 8 : Nat) : Int), (k : Int) - 1)) ?_).trans ?_
  ·rw [D2, decide_eq_true (by omega), Ah, Gv (by simp; omega), Option.bind_some, Yz v hv, JK (x := 48 + ((v % 8 : Nat) : Int)) (by omega) (by omega), aS (by omega) (by omega)]
   have et : XJ (48 + ((v % 8 : Nat) : Int)) = some (UInt8.ofNat (48 + v % 8)) := by
    unfold XJ
    rw [if_pos (by omega)]
    congr 2
   rw [et, Option.bind_some, Yp, JK (by omega) (by omega), Int.toNat_natCast]
   congr 3
   rw [List.replicate_succ', List.append_assoc, List.set_append_right _ _ (by simp)]
   simp
  ·rw [TY k (v / 8) _ (by omega) (by omega), Gz, List.append_assoc]
   rfl
def BZ (v : Nat) (n : Nat) : List UInt8 := Gz v (n - 1) ++ [0]
theorem Cb {v n : Nat} (h : 1 ≤ n) : (BZ v n).length = n := by simp [BZ, D7]; omega
theorem Xi {k : Nat} (hk : k ≤ 11) : (8 : Int) ^ k ≤ 8589934592 := by
 have : k = 0 ∨ k = 1 ∨ k = 2 ∨ k = 3 ∨ k = 4 ∨ k = 5 ∨ k = 6 ∨ k = 7 ∨ k = 8 ∨ k = 9 ∨ k = 10 ∨ k = 11 := by omega
 rcases this with rfl | rfl | rfl | rfl | rfl | rfl | rfl | rfl | rfl | rfl | rfl | rfl <;> decide
theorem Jw (v : Int) {k : Nat} (hk : 1 ≤ k) (hk2 : k ≤ 11) :
  CD v ((k + 1 : Nat) : Int) = some (if 0 ≤ v ∧ v < 8 ^ k then (BZ v.toNat (k + 1), true) else ([], false)) := by
 unfold CD FV
 rw [Option.bind_some, decide_eq_true (p := ((k + 1 : Nat) : Int) ≥ 2) (by omega), decide_eq_true (p := ((k + 1 : Nat) : Int) ≤ 12) (by omega), Bool.and_self, Bool.not_true, Bool.false_or, EH]
 by_cases h0 : v < 0
 ·rw [if_pos h0, Option.bind_some, Ah, if_neg (by omega)]
 ·have e1 : ((k + 1 : Nat) : Int) - 1 = (k : Int) := by omega
  rw [if_neg h0, e1, JK (x := (k : Int)) (by omega) (by omega), show (3 : Int) * (k : Int) = ((3 * k : Nat) : Int) by omega, JK (x := ((3 * k : Nat) : Int)) (by omega) (by omega), ZC hk2, decide_eq_true (p := (0 : Int) ≤ ((3 * k : Nat) : Int)) (by omega), BO, Option.bind_some, EH]
  by_cases h3 : v ≥ 8 ^ k
  ·rw [if_pos h3, if_neg (by omega)]
  ·have hp := Xi hk2
   obtain ⟨m, rfl⟩ := Int.eq_ofNat_of_zero_le (show 0 ≤ v by omega)
   have hk3 : ((k + 1 : Nat) : Int) - 2 = (k : Int) - 1 := by omega
   rw [if_neg h3, if_pos (by omega), show Z5 1 ((k + 1 : Nat) : Int) = true from decide_eq_true (by omega), BO, hk3, JK (by omega) (by omega), Int.toNat_natCast, List.replicate_succ', TY k m [0] (by omega) (by omega), Option.bind_some]
   rfl
theorem HR {a : Int × List UInt8} (h : a.1 = 0 ∨ a.1 = 11 ∨ a.1 = 6 ∨ a.1 = 7 ∨ a.1 = 8) (z : Bool) :
  Co a z = some (.inl (z && decide ((a.2.length : Int) ≤ SJ a.1))) := by
 obtain ⟨k, s⟩ := a
 dsimp only at h
 rcases h with rfl | rfl | rfl | rfl | rfl <;> cases z <;> rfl
theorem Qq {p0 : AJ} {l : List (Int × List UInt8)} {b : Bool} (hx : BT p0 = some (l, b)) : ∃ p q, Cy p0.Name = some (p, q, b) ∧ l = [(0, q), (11, p), (6, p0.AU), (7, p0.AN), (8, p0.AO)] := by
 unfold BT at hx
 obtain ⟨⟨p, q, r⟩, h1, h2⟩ := bind_some hx
 dsimp only at h2
 have := Option.some.inj h2
 obtain ⟨e1, e2⟩ := Prod.mk.inj this
 subst e2
 exact ⟨p, q, h1, e1.symm⟩
theorem GJ {p0 : AJ} {l : List (Int × List UInt8)} {b : Bool} (hx : BT p0 = some (l, b)) : ∀ a ∈ l, a.1 = 0 ∨ a.1 = 11 ∨ a.1 = 6 ∨ a.1 = 7 ∨ a.1 = 8 := by
 obtain ⟨p, q, _, rfl⟩ := Qq hx
 intro a ha
 simp only [List.mem_cons, List.not_mem_nil, or_false] at ha
 rcases ha with rfl | rfl | rfl | rfl | rfl <;> simp
theorem PH {p0 : AJ} {l : List (Int × Int)} (hx : Bp p0 = some l) : l = [(1, p0.Mode), (2, p0.BP), (3, p0.BQ), (4, p0.BU), (5, p0.Time), (9, p0.Aa), (10, p0.Ag)] := (Option.some.inj hx).symm
theorem J3 {p0 : AJ} {l : List (Int × Int)} (hx : Bp p0 = some l) : ∀ a ∈ l, a.1 = 1 ∨ a.1 = 2 ∨ a.1 = 3 ∨ a.1 = 4 ∨ a.1 = 5 ∨ a.1 = 9 ∨ a.1 = 10 := by
 rw [PH hx]
 intro a ha
 simp only [List.mem_cons, List.not_mem_nil, or_false] at ha
 rcases ha with rfl | rfl | rfl | rfl | rfl | rfl | rfl <;> simp
theorem Gr {p0 : AJ} {l : List (Int × List UInt8)} {b : Bool} (hx : BT p0 = some (l, b)) : ∀ l', l'.Perm l → BV Co l' b = BV Co l b := by
 have hk := GJ hx
 refine fun l' hl' => Ks (fun _ => True) (fun _ _ _ _ _ _ => trivial) (fun a ha c hc s _ => ?_) l' hl' b trivial
 unfold SX
 rw [HR (hk a ha), HR (hk c hc)]
 dsimp only
 rw [HR (hk c hc), HR (hk a ha), Bool.and_right_comm]
theorem MC : ∀ (l : List (Int × List UInt8)) (z : Bool), (∀ a ∈ l, a.1 = 0 ∨ a.1 = 11 ∨ a.1 = 6 ∨ a.1 = 7 ∨ a.1 = 8) → BV Co l z = some (.inl (z && l.all fun a => decide ((a.2.length : Int) ≤ SJ a.1)))
 | [], z, _ => by simp [BV]
 | a :: l, z, h => by
  rw [BV, HR (h a (by simp))]
  dsimp only
  rw [MC l _ fun c hc => h c (by simp [hc]), List.all_cons, Bool.and_assoc]
def Ii (a : Int × Int) : Bool := decide (0 ≤ a.2 ∧ a.2 < (if a.1 = 4 ∨ a.1 = 5 then 8589934592 else 2097152))
theorem G5 {a : Int × Int} (h : a.1 = 1 ∨ a.1 = 2 ∨ a.1 = 3 ∨ a.1 = 4 ∨ a.1 = 5 ∨ a.1 = 9 ∨ a.1 = 10) : Cm a () = some (if Ii a then .inl () else .inr 6) := by
 obtain ⟨k, v⟩ := a
 dsimp only at h
 have e8 := Jw v (k := 7) (by omega) (by omega)
 have e12 := Jw v (k := 11) (by omega) (by omega)
 have p8 : (8 : Int) ^ 7 = 2097152 := rfl
 have p12 : (8 : Int) ^ 11 = 8589934592 := rfl
 rw [p8] at e8
 rw [p12] at e12
 have g8 : (CD v 8).bind (fun (x : List UInt8 × Bool) => match x with | (x13, x14) => Ad (!x14) (some (.inr (6 : Int))) (some (.inl ()))) = some (if decide (0 ≤ v ∧ v < 2097152) then (.inl () : Unit ⊕ Int) else .inr 6) := by
  rw [show (8 : Int) = ((7 + 1 : Nat) : Int) from rfl, e8, Option.bind_some]
  by_cases hv : 0 ≤ v ∧ v < 2097152
  ·simp [hv]
  ·simp only [if_neg hv, decide_eq_false hv]; rfl
 have g12 : (CD v 12).bind (fun (x : List UInt8 × Bool) => match x with | (x13, x14) => Ad (!x14) (some (.inr (6 : Int))) (some (.inl ()))) = some (if decide (0 ≤ v ∧ v < 8589934592) then (.inl () : Unit ⊕ Int) else .inr 6) := by
  rw [show (12 : Int) = ((11 + 1 : Nat) : Int) from rfl, e12, Option.bind_some]
  by_cases hv : 0 ≤ v ∧ v < 8589934592
  ·simp [hv]
  ·simp only [if_neg hv, decide_eq_false hv]; rfl
 rcases h with rfl | rfl | rfl | rfl | rfl | rfl | rfl
 ·exact g8
 ·exact g8
 ·exact g8
 ·exact g12
 ·exact g12
 ·exact g8
 ·exact g8
theorem Gn {p0 : AJ} {l : List (Int × Int)} (hx : Bp p0 = some l) : ∀ l', l'.Perm l → BV Cm l' () = BV Cm l () := by
 have hk := J3 hx
 refine fun l' hl' => Ks (fun _ => True) (fun _ _ _ _ _ _ => trivial) (fun a ha c hc s _ => ?_) l' hl' () trivial
 unfold SX
 rw [G5 (hk a ha), G5 (hk c hc)]
 cases h1 : Ii a <;> cases h2 : Ii c <;> simp [G5 (hk a ha), G5 (hk c hc), h1, h2]
def A9 (p0 : AJ) : Option (Int) :=
 (loop (CQ p0) (0 : Int)).bind fun o1 => (match o1 with | .inl _ => (BT p0).bind fun (x5, x6) => (BV (Co) x5 x6).bind fun o => (match o with | .inl z2 => Ad (!z2) (some (12 : Int)) ((Bp p0).bind fun x10 => (BV (Cm) x10 ()).bind fun o => (match o with | .inl _ => some (0 : Int) | .inr y1 => some y1)) | .inr _ => none) | .inr x2 => some x2)
theorem CS {p0 q0} (hm : A9 p0 = some q0) (A : HH g h [] F) (hc : BG (cfg.still 70) av = [.agg (AF p0)] := by kernel_rfl) : ∃ v h', BH cfg g h 70 av v h' ∧ v = Ai q0 ∧ HH g h' [] F := by
 refine Tv (n := 74) (rs := [.tmp 2]) (by kernel_rfl) hc (by kernel_rfl) ?_
 clear hc
 unfold A9 at hm
 refine WL (n := 74) [(0, .agg (AF p0))] (by kernel_rfl) (by kernel_rfl) ?_
 intro fr H
 refine FA ?_
 refine IE ?_
 refine CX 2 ?_
 obtain ⟨h1, e1, A⟩ := A.pu (.cells none 2 (AF p0))
 refine BK 1 (.ptr (some (h.size, 0))) e1 H fun fr t H => ?_
 refine AM 1 [] H fun fr H => at_nil ?_
 show PV cfg 70 g (right (EX cfg.P 70)) fr h1 _
 refine FA ?_
 refine IE ?_
 refine AG 11 (AV 1 [] 14 0 0 A H fun fr t H => ?_)
 refine AV 1 [] 16 0 1 A H fun fr t H => ?_
 refine AV 1 [] 18 0 8 A H fun fr t H => ?_
 refine AV 1 [] 20 0 9 A H fun fr t H => ?_
 obtain ⟨h2, e2, A⟩ := A.pL 9 [.str p0.Name, .str p0.AU, .str p0.AN, .str p0.AO]
 refine BK 21 (Af (some h1.size) (([p0.Name, p0.AU, p0.AN, p0.AO] : List (List UInt8)).length)) e2 H fun fr t H => ?_
 refine AK 2 [(22, Ai (([p0.Name, p0.AU, p0.AN, p0.AO] : List (List UInt8)).length : Int)), (23, Ai 0)] H fun fr H => AY (id := 0) (by kernel_rfl) ?_
 replace A : HH g h2 [.Ak (some h1.size) 9 (Ak eS ([p0.Name, p0.AU, p0.AN, p0.AO] : List (List UInt8))), .obj h.size (.cells none 2 (AF p0))] F := A
 obtain ⟨o1, ho, hm⟩ := bind_some hm
 refine BJ (Q' := fun e fr' h' => (e = .exit 0 ∧ .inl () = o1 ∧ Has fr' 74 [(1, .ptr (some (h.size, 0)))] ∧ HH g h' [.obj h.size (.cells none 2 (AF p0))] F) ∨ (∃ x2, e = .ret ∧ .inr x2 = o1 ∧ Has fr' 74 [(2, Ai x2)] ∧ HH g h' [.obj h.size (.cells none 2 (AF p0))] F) ∨ False) ?_ ?_
 ·refine Ce (by kernel_rfl) (fun (s : Int) fr' h' => ∃ x1, x1 = s ∧ Has fr' 74 [(1, .ptr (some (h.size, 0))), (21, Af (some h1.size) (([p0.Name, p0.AU, p0.AN, p0.AO] : List (List UInt8)).length)), (22, Ai (([p0.Name, p0.AU, p0.AN, p0.AO] : List (List UInt8)).length : Int)), (23, Ai x1)] ∧ HH g h' [.Ak (some h1.size) 9 (Ak eS ([p0.Name, p0.AU, p0.AN, p0.AO] : List (List UInt8))), .obj h.size (.cells none 2 (AF p0))] F) ho ⟨_, rfl, H.ls, A⟩ ?_
  clear ho hm H A
  intro s q fr h3 hI hm
  obtain ⟨x1, rfl, H, A⟩ := hI
  unfold CQ at hm
  refine AG 1 (AK 1 [(24, .bool (decide (x1 < (([p0.Name, p0.AU, p0.AN, p0.AO] : List (List UInt8)).length : Int))))] H fun fr H => AP (AZ 24 H hm (fun hb hm H => ?_) fun hb hm H => ?_))
  ·refine CI id (AP (AY (id := 1) (by kernel_rfl) ?_))
   refine AG 3 ?_
   obtain ⟨x3, hx, hm⟩ := bind_some hm
   obtain ⟨i1, er1, _, hx, hq1⟩ := HH.XQ encS (by decide) A 0 (xs := ([p0.Name, p0.AU, p0.AN, p0.AO] : List (List UInt8))) rfl hx
   refine Ae 25 (.ptr (some (i1, x1.toNat * 1))) h3 H (fun fr => .of (LP (s := EF (some h1.size) (([p0.Name, p0.AU, p0.AN, p0.AO] : List (List UInt8)).length)) (by kernel_rfl) hx)) fun fr t H => ?_
   refine Ae 26 _ _ H (fun fr => .of (O0 (by kernel_rfl) (NL encS (HH.row A 0 rfl er1) hq1 (o := 0) rfl))) fun fr t H => ?_
   refine Bg 1 [(4, .str x3)] 3 H fun fr H => ?_
   obtain ⟨x4, hx, hm⟩ := bind_some hm
   obtain ⟨v1, h4, hr, rfl, A1⟩ := Bo (av := [.str x3, Ab 0]) hx (A.cut 0)
   replace A := A.DN A1
   refine A6 1 [] 28 hr H fun fr t H => ?_
   refine AK 1 [(29, .bool (decide (x4 ≥ 0)))] H fun fr H => AZ 29 H hm (fun hb hm H => ?_) fun hb hm H => ?_
   ·refine AG 1 (AK 1 [(2, Ai 2)] H fun fr H => AS ?_)
    replace A := A.k1 1
    exact nr hm fun e => Or.inr (.inl ⟨_, rfl, e, H.ls, A⟩)
   refine DI 2 id (Bd 2 [(1, .ptr (some (h.size, 0))), (21, Af (some h1.size) (([p0.Name, p0.AU, p0.AN, p0.AO] : List (List UInt8)).length)), (22, Ai (([p0.Name, p0.AU, p0.AN, p0.AO] : List (List UInt8)).length : Int)), (23, Ai (IntKind.i64.wrap (x1 + 1)))] H fun fr H => at_nil ?_)
   exact nx hm ⟨_, rfl, H.ls, A⟩
  refine Bf (i := 0) (by kernel_rfl) ?_
  replace A := A.k1 1
  exact nr hm fun e => .inl ⟨rfl, e, H.ls, A⟩
 clear ho
 clear A
 intro e fr h5 hQ
 rcases hQ with ⟨rfl, rfl, H, A⟩ | ⟨x2, rfl, rfl, H, A⟩ | hF
 ·show PV cfg 70 g (right (right (EX cfg.P 70))) fr h5 _
  refine FA ?_
  refine IE ?_
  refine CX 7 (Ae 32 _ _ H (fun fr => .of (BM (by kernel_rfl) (A.Eh 0 rfl (o := 0) (n := 13) ⟨Nat.le_of_ble_eq_true rfl, rfl⟩))) fun fr t H => ?_)
  obtain ⟨⟨x5, x6⟩, hx, hm⟩ := bind_some hm
  obtain ⟨v1, h6, hr, bqw2, rfl, A1⟩ := JE (av := [.agg (AF p0)]) hx (A.cut 0)
  replace A := A.Yc A1
  refine Aw 33 hr H fun fr t H => ?_
  refine AM 5 [(5, .map (some bqw2)), (6, .bool x6)] H fun fr H => at_nil ?_
  show PV cfg 70 g (right (right (right (EX cfg.P 70)))) fr h6 _
  refine FA ?_
  refine NK 1 [37, 1, 6] [] none ?_
  refine AM 1 [(36, .map (some bqw2))] H fun fr H => at_nil ?_
  obtain ⟨o2, ho, hm⟩ := bind_some hm
  refine Qx (step := Co) (l := x5) (s0 := x6) (x0 := o2) (enc := fun p => ((fun k : Int => Ai k) p.1, (fun v : List UInt8 => .str v) p.2)) (V := (fun (z1 : Bool) => [(1, .ptr (some (h.size, 0))), (6, .bool z1)])) (Y := (fun (s : Unit) => [])) 0 37 38 40 4 122 3 9 (.tmp 36) A H ho (by first | exact Gr | (apply Gr <;> assumption)) rfl (fun fr => by kernel_rfl) (fun fr => by kernel_rfl) (fun _ => rfl) (fun _ => rfl) (fun s => by exact (I1.cons (A.YI 1 rfl _) (I1.cons rfl I1.nil))) (fun s => by exact I1.nil) ?_ ?_ ?_
  ·clear ho hm H A
   intro pp hpp s x hm fr h7 it g F A H
   obtain ⟨z1, hzz⟩ : ∃ z, z = s := ⟨_, rfl⟩
   subst hzz
   unfold Co at hm
   replace H := H.less [(1, .ptr (some (h.size, 0))), (6, .bool z1), (37, it), (40, .tuple [Ai pp.1, .str pp.2])] (fun fr => by kernel_rfl)
   refine Y3 4 [(7, Ai pp.1), (8, .str pp.2)] 11 H fun fr H => AM 2 [(44, .bool z1)] H fun fr H => ?_
   obtain ⟨x7, ho, hm⟩ := bind_some hm
   refine A5 8 (fun fr' h' => Has fr' 74 [(1, .ptr (some (h.size, 0))), (37, it), (52, .bool x7)] ∧ HH g h' [] F) ?_ ?_
   ·rcases Ax ho with ⟨hb, hm⟩ | ⟨hb, hm⟩
    ·replace H := H.kn 44 hb
     obtain ⟨x8, hx, hm⟩ := bind_some hm
     obtain ⟨v1, h9, hr, rfl, A1⟩ := DO (av := []) hx (A.cut 0)
     replace A := A.DN A1
     refine A6 2 [(46, Ai (pp.2.length : Int))] 47 hr H fun fr t H => ?_
     obtain ⟨x9, hq2, hm⟩ := bind_some hm
     refine BC 1 [] 49 (.agg [Ai x9.from_, Ai x9.Dq]) h9 H (fun fr => .of (KO (e := Cp) (x := x9) Cn [x8.w0, x8.w1, x8.w2, x8.w3, x8.w4, x8.w5, x8.w6, x8.w7, x8.w8, x8.w9, x8.Tb, x8.TM] (by kernel_rfl) rfl rfl hq2)) fun fr t H => ?_
     refine AM 3 [(52, .bool (decide ((pp.2.length : Int) ≤ x9.Dq)))] H fun fr H => ?_
     obtain rfl := An hm
     exact at_nil ⟨H.ls, A⟩
    replace H := H.kn 44 hb
    refine AM 8 [(52, .bool false)] H fun fr H => ?_
    obtain rfl := An hm
    exact at_nil ⟨H.ls, A⟩
   clear A
   intro t fr h8 hK
   obtain ⟨H, A⟩ := hK
   refine AM 1 [(6, .bool x7)] H fun fr H => at_nil ?_
   exact .inl ⟨.inl rfl, _, (Option.some.inj hm).symm, H.ls⟩
  ·intro s hs fr h10 A H
   subst hs
   obtain ⟨z2, hzz⟩ : ∃ z, z = s := ⟨_, rfl⟩
   subst hzz
   replace H := H.less [(1, .ptr (some (h.size, 0))), (6, .bool z2)] (fun fr => by kernel_rfl)
   show PV cfg 70 g (right (right (right (right (EX cfg.P 70))))) fr h10 _
   refine FA ?_
   refine IE ?_
   refine AG 2 (AK 2 [(54, .bool (!z2))] H fun fr H => AZ 54 H hm (fun hb hm H => ?_) fun hb hm H => ?_)
   ·refine AG 1 (AK 1 [(2, Ai 12)] H fun fr H => AS ?_)
    obtain rfl := An hm
    refine ⟨.inl rfl, Ai 12, rH H, ?_⟩
    replace A := A.d0
    exact ⟨rfl, A⟩
   refine D5 ?_
   show PV cfg 70 g (right (right (right (right (right (EX cfg.P 70)))))) fr h10 _
   refine FA ?_
   refine NK 2 [57] [2] none ?_
   refine Ae 55 _ _ H (fun fr => .of (BM (by kernel_rfl) (A.Eh 0 rfl (o := 0) (n := 13) ⟨Nat.le_of_ble_eq_true rfl, rfl⟩))) fun fr t H => ?_
   obtain ⟨x10, hx, hm⟩ := bind_some hm
   obtain ⟨v1, h11, hr, bqw5, rfl, A1⟩ := IK (av := [.agg (AF p0)]) hx (A.cut 0)
   replace A := A.Yc A1
   refine Aw 56 hr H fun fr t H => ?_
   refine at_nil ?_
   obtain ⟨o3, ho, hm⟩ := bind_some hm
   refine Qx (step := Cm) (l := x10) (s0 := ()) (x0 := o3) (enc := fun p => ((fun k : Int => Ai k) p.1, (fun v : Int => Ai v) p.2)) (V := (fun (s : Unit) => [])) (Y := (fun (y1 : Int) => [(2, Ai y1)])) 0 57 58 60 4 129 3 3 (.tmp 56) A H ho (by first | exact Gn | (apply Gn <;> assumption)) rfl (fun fr => by kernel_rfl) (fun fr => by kernel_rfl) (fun _ => rfl) (fun _ => rfl) (fun s => by exact I1.nil) (fun s => by exact (I1.cons rfl I1.nil)) ?_ ?_ ?_
   ·clear ho hm H A
    intro pp hpp s x hm fr h12 it g F A H
    unfold Cm at hm
    replace H := H.less [(57, it), (60, .tuple [Ai pp.1, Ai pp.2])] (fun fr => by kernel_rfl)
    refine Bg 4 [(9, Ai pp.1), (10, Ai pp.2)] 11 H fun fr H => ?_
    obtain ⟨x11, hx, hm⟩ := bind_some hm
    obtain ⟨v1, h13, hr, rfl, A1⟩ := DO (av := []) hx (A.cut 0)
    replace A := A.DN A1
    refine A6 1 [(64, Ai pp.2)] 65 hr H fun fr t H => ?_
    obtain ⟨x12, hq3, hm⟩ := bind_some hm
    refine BC 1 [] 67 (.agg [Ai x12.from_, Ai x12.Dq]) h13 H (fun fr => .of (KO (e := Cp) (x := x12) Cn [x11.w0, x11.w1, x11.w2, x11.w3, x11.w4, x11.w5, x11.w6, x11.w7, x11.w8, x11.w9, x11.Tb, x11.TM] (by kernel_rfl) rfl rfl hq3)) fun fr t H => ?_
    obtain ⟨⟨x13, x14⟩, hx, hm⟩ := bind_some hm
    obtain ⟨v1, h14, hr, rfl, A1⟩ := HW (av := [Ai pp.2, Ai x12.Dq]) hx (A.cut 0)
    replace A := A.DN A1
    refine A6 1 [] 69 hr H fun fr t H => ?_
    refine Bg 5 [(12, .bool x14)] 2 H fun fr H => AK 2 [(73, .bool (!x14))] H fun fr H => AZ 73 H hm (fun hb hm H => ?_) fun hb hm H => ?_
    ·refine AG 1 (AK 1 [(2, Ai 6)] H fun fr H => AS ?_)
     exact .inr ⟨rfl, _, (Option.some.inj hm).symm, H.ls⟩
    exact D5 (.inl ⟨.inl rfl, _, (Option.some.inj hm).symm, H.ls⟩)
   ·intro s hs fr h15 A H
    subst hs
    replace H := H.less [] (fun fr => by kernel_rfl)
    show PV cfg 70 g (right (right (right (right (right (right (EX cfg.P 70))))))) fr h15 _
    refine IE ?_
    refine AG 1 (AK 1 [(2, Ai 0)] H fun fr H => AS ?_)
    obtain rfl := An hm
    refine ⟨.inl rfl, Ai 0, rH H, ?_⟩
    replace A := A.d0
    exact ⟨rfl, A⟩
   intro s hs fr h16 A H
   subst hs
   obtain ⟨y1, hzz⟩ : ∃ z, z = s := ⟨_, rfl⟩
   subst hzz
   replace H := H.less [(2, Ai y1)] (fun fr => by kernel_rfl)
   obtain rfl := An hm
   refine ⟨.inl rfl, Ai y1, rH H, ?_⟩
   replace A := A.d0
   exact ⟨rfl, A⟩
  intro s hs fr hr A H
  subst hs
  cases hm
 ·obtain rfl := An hm
  refine ⟨.inl rfl, Ai x2, rH H, ?_⟩
  replace A := A.d0
  exact ⟨rfl, A⟩
 exact hF.elim
def CM (p0 : List UInt8) (p1 : List UInt8) (p2_10 : AL) (p3 : AJ) (p4 : List AB) : Option (AJ × (List AB)) :=
 (FC p3 p2_10).bind fun x1 => (A9 x1).bind fun x2 => Ad (x2 == 0) (some (x1, p4)) (D3 (R4 32 (p4.length + ([(⟨p0, p1⟩ : AB)] : List AB).length)) <| some (p3, (p4 ++ ([(⟨p0, p1⟩ : AB)] : List AB))))
theorem Hx {p0 p1 p2_10 p3 p4 bp2_10 bp3 bp4 rp4_0 u1 u3} (hm : CM p0 p1 p2_10 p3 p4 = some (u1, u3)) (A : HH g h [.obj bp2_10 (.cells none 2 (AI p2_10)), .obj bp3 (.cells none 2 (AF p3)), .obj bp4 (.cells none 2 [Af rp4_0 p4.length]), .Ak rp4_0 117 (Ak AE p4)] F) (hc : BG (cfg.still 120) av = [.str p0, .str p1, .func (.func 122) [] [.ptr (some (bp2_10, 0))], .ptr (some (bp3, 0)), .ptr (some (bp4, 0))] := by kernel_rfl) : ∃ v h', BH cfg g h 120 av v h' ∧ ∃ (r'3 : Option Nat), v = .tuple [] ∧ HH g h' [.obj bp2_10 (.cells none 2 (AI p2_10)), .obj bp3 (.cells none 2 (AF u1)), .obj bp4 (.cells none 2 [Af r'3 u3.length]), .Ak r'3 117 (Ak AE u3)] F := by
 refine ES 22 [] hc ?_
 clear hc
 unfold CM at hm
 refine bg 22 [(0, .str p0), (1, .str p1), (2, .func (.func 122) [] [.ptr (some (bp2_10, 0))]), (3, .ptr (some (bp3, 0))), (4, .ptr (some (bp4, 0)))] fun fr H => ?_
 refine AG 3 (Ae 9 _ _ H (fun fr => .of (BM (by kernel_rfl) (A.Eh 1 rfl (o := 0) (n := 13) ⟨Nat.le_of_ble_eq_true rfl, rfl⟩))) fun fr t H => ?_)
 obtain ⟨h1, e1, A⟩ := A.pu (.cells none 2 [.str ([] : List UInt8), .str ([] : List UInt8), Ab 0, Ai 0, Ai 0, Ai 0, Ai 0, Ai 0, .str ([] : List UInt8), .str ([] : List UInt8), Ai 0, Ai 0, Ai 0])
 refine BK 8 (.ptr (some (h.size, 0))) e1 H fun fr t H => ?_
 obtain ⟨h2, hx, A⟩ := A.s0 0 (AF p3) [_, _, _, _, _, _, _, _, _, _, _, _, _]
 refine Ch hx H fun fr t H => ?_
 refine BI id (AP (AG 2 ?_))
 obtain ⟨x1, hx, hm⟩ := bind_some hm
 obtain ⟨v1, h3, hr, rfl, A1⟩ := KQ (av := [.ptr (some (h.size, 0)), .ptr (some (bp2_10, 0))]) hx (A.cut 2)
 replace A := A.g22 A1
 refine Ef 1 [] hr H fun fr t H => ?_
 refine CJ 3 id (Ae 12 _ _ H (fun fr => .of (BM (by kernel_rfl) (A.Eh 0 rfl (o := 0) (n := 13) ⟨Nat.le_of_ble_eq_true rfl, rfl⟩))) fun fr t H => ?_)
 obtain ⟨x2, hx, hm⟩ := bind_some hm
 obtain ⟨v1, h4, hr, rfl, A1⟩ := CS (av := [.agg (AF x1)]) hx (A.cut 0)
 replace A := A.DN A1
 refine Aw 13 hr H fun fr t H => ?_
 refine AK 1 [(14, .bool (x2 == 0))] H fun fr H => AZ 14 H hm (fun hb hm H => ?_) fun hb hm H => ?_
 ·refine AG 2 (Ae 15 _ _ H (fun fr => .of (BM (by kernel_rfl) (A.Eh 0 rfl (o := 0) (n := 13) ⟨Nat.le_of_ble_eq_true rfl, rfl⟩))) fun fr t H => ?_)
  obtain ⟨h5, hx, A⟩ := A.s2 0 (AF x1) [_, _, _, _, _, _, _, _, _, _, _, _, _]
  refine Ch hx H fun fr t H => ?_
  refine BI id (AS ?_)
  obtain ⟨rfl, rfl⟩ := BD hm
  refine ⟨.inl rfl, .tuple [], rH H, ?_⟩
  replace A := A.k4 1 2 3 4
  exact ⟨rp4_0, rfl, A⟩
 refine DI 7 id (Mi 16 3 0 A H fun fr t H => ?_)
 refine AM 3 [(19, .agg [.str p0, .str p1])] H fun fr H => ?_
 obtain ⟨h6, e2, A⟩ := A.pL 117 [.str p0, .str p1]
 refine BK 20 (Af (some h4.size) (([(⟨p0, p1⟩ : AB)] : List AB).length)) e2 H fun fr t H => ?_
 obtain ⟨hb, hm⟩ := A4 hm
 obtain ⟨r1, h7, hx, A1⟩ := HH.N7 Am (by decide) A 5 (xs := p4) (ys := ([(⟨p0, p1⟩ : AB)] : List AB)) rfl (Dy A 0 rfl (n := ([(⟨p0, p1⟩ : AB)] : List AB).length) (z := 2) rfl (by decide)) rfl rfl hb
 replace A : HH g h7 [.Ak (some h4.size) 117 ([.str p0, .str p1]), _, _, _, _, .Ak r1 117 (Ak AE (p4 ++ ([(⟨p0, p1⟩ : AB)] : List AB)))] F := A1
 replace A := A.k5 1 2 3 4 5
 refine Ae 21 _ _ H (fun fr => .of (IT (s := EF rp4_0 p4.length) (by kernel_rfl) hx)) fun fr t H => ?_
 obtain ⟨h8, hx, A1⟩ := A.st 3 rfl (o := 0) (new := [Af r1 ((p4 ++ ([(⟨p0, p1⟩ : AB)] : List AB)).length)]) (ds := [Af r1 ((p4 ++ ([(⟨p0, p1⟩ : AB)] : List AB)).length)]) (Nat.le_of_ble_eq_true rfl) rfl rfl
 replace A : HH g h8 [_, _, _, .obj bp4 (.cells none 2 [Af r1 ((p4 ++ ([(⟨p0, p1⟩ : AB)] : List AB)).length)]), _] F := A1
 refine JB hx H fun fr t H => ?_
 refine at_nil ?_
 obtain ⟨rfl, rfl⟩ := BD hm
 refine ⟨.inr rfl, .tuple [], rH H, ?_⟩
 replace A := A.k4 1 2 3 4
 exact ⟨r1, rfl, A⟩
def B0 (p0 : List UInt8) (p1 : List UInt8) (p2_10 : AL) (p3 : AJ) (p4 : List AB) : Option (AJ × (List AB)) :=
 (FH p3 p2_10).bind fun x1 => (A9 x1).bind fun x2 => Ad (x2 == 0) (some (x1, p4)) (D3 (R4 32 (p4.length + ([(⟨p0, p1⟩ : AB)] : List AB).length)) <| some (p3, (p4 ++ ([(⟨p0, p1⟩ : AB)] : List AB))))
theorem HE {p0 p1 p2_10 p3 p4 bp2_10 bp3 bp4 rp4_0 u1 u3} (hm : B0 p0 p1 p2_10 p3 p4 = some (u1, u3)) (A : HH g h [.obj bp2_10 (.cells none 2 (AI p2_10)), .obj bp3 (.cells none 2 (AF p3)), .obj bp4 (.cells none 2 [Af rp4_0 p4.length]), .Ak rp4_0 117 (Ak AE p4)] F) (hc : BG (cfg.still 120) av = [.str p0, .str p1, .func (.func 123) [] [.ptr (some (bp2_10, 0))], .ptr (some (bp3, 0)), .ptr (some (bp4, 0))] := by kernel_rfl) : ∃ v h', BH cfg g h 120 av v h' ∧ ∃ (r'3 : Option Nat), v = .tuple [] ∧ HH g h' [.obj bp2_10 (.cells none 2 (AI p2_10)), .obj bp3 (.cells none 2 (AF u1)), .obj bp4 (.cells none 2 [Af r'3 u3.length]), .Ak r'3 117 (Ak AE u3)] F := by
 refine ES 22 [] hc ?_
 clear hc
 unfold B0 at hm
 refine bg 22 [(0, .str p0), (1, .str p1), (2, .func (.func 123) [] [.ptr (some (bp2_10, 0))]), (3, .ptr (some (bp3, 0))), (4, .ptr (some (bp4, 0)))] fun fr H => ?_
 refine AG 3 (Ae 9 _ _ H (fun fr => .of (BM (by kernel_rfl) (A.Eh 1 rfl (o := 0) (n := 13) ⟨Nat.le_of_ble_eq_true rfl, rfl⟩))) fun fr t H => ?_)
 obtain ⟨h1, e1, A⟩ := A.pu (.cells none 2 [.str ([] : List UInt8), .str ([] : List UInt8), Ab 0, Ai 0, Ai 0, Ai 0, Ai 0, Ai 0, .str ([] : List UInt8), .str ([] : List UInt8), Ai 0, Ai 0, Ai 0])
 refine BK 8 (.ptr (some (h.size, 0))) e1 H fun fr t H => ?_
 obtain ⟨h2, hx, A⟩ := A.s0 0 (AF p3) [_, _, _, _, _, _, _, _, _, _, _, _, _]
 refine Ch hx H fun fr t H => ?_
 refine BI id (AP (AG 2 ?_))
 obtain ⟨x1, hx, hm⟩ := bind_some hm
 obtain ⟨v1, h3, hr, rfl, A1⟩ := KR (av := [.ptr (some (h.size, 0)), .ptr (some (bp2_10, 0))]) hx (A.cut 2)
 replace A := A.g22 A1
 refine Ef 1 [] hr H fun fr t H => ?_
 refine CJ 3 id (Ae 12 _ _ H (fun fr => .of (BM (by kernel_rfl) (A.Eh 0 rfl (o := 0) (n := 13) ⟨Nat.le_of_ble_eq_true rfl, rfl⟩))) fun fr t H => ?_)
 obtain ⟨x2, hx, hm⟩ := bind_some hm
 obtain ⟨v1, h4, hr, rfl, A1⟩ := CS (av := [.agg (AF x1)]) hx (A.cut 0)
 replace A := A.DN A1
 refine Aw 13 hr H fun fr t H => ?_
 refine AK 1 [(14, .bool (x2 == 0))] H fun fr H => AZ 14 H hm (fun hb hm H => ?_) fun hb hm H => ?_
 ·refine AG 2 (Ae 15 _ _ H (fun fr => .of (BM (by kernel_rfl) (A.Eh 0 rfl (o := 0) (n := 13) ⟨Nat.le_of_ble_eq_true rfl, rfl⟩))) fun fr t H => ?_)
  obtain ⟨h5, hx, A⟩ := A.s2 0 (AF x1) [_, _, _, _, _, _, _, _, _, _, _, _, _]
  refine Ch hx H fun fr t H => ?_
  refine BI id (AS ?_)
  obtain ⟨rfl, rfl⟩ := BD hm
  refine ⟨.inl rfl, .tuple [], rH H, ?_⟩
  replace A := A.k4 1 2 3 4
  exact ⟨rp4_0, rfl, A⟩
 refine DI 7 id (Mi 16 3 0 A H fun fr t H => ?_)
 refine AM 3 [(19, .agg [.str p0, .str p1])] H fun fr H => ?_
 obtain ⟨h6, e2, A⟩ := A.pL 117 [.str p0, .str p1]
 refine BK 20 (Af (some h4.size) (([(⟨p0, p1⟩ : AB)] : List AB).length)) e2 H fun fr t H => ?_
 obtain ⟨hb, hm⟩ := A4 hm
 obtain ⟨r1, h7, hx, A1⟩ := HH.N7 Am (by decide) A 5 (xs := p4) (ys := ([(⟨p0, p1⟩ : AB)] : List AB)) rfl (Dy A 0 rfl (n := ([(⟨p0, p1⟩ : AB)] : List AB).length) (z := 2) rfl (by decide)) rfl rfl hb
 replace A : HH g h7 [.Ak (some h4.size) 117 ([.str p0, .str p1]), _, _, _, _, .Ak r1 117 (Ak AE (p4 ++ ([(⟨p0, p1⟩ : AB)] : List AB)))] F := A1
 replace A := A.k5 1 2 3 4 5
 refine Ae 21 _ _ H (fun fr => .of (IT (s := EF rp4_0 p4.length) (by kernel_rfl) hx)) fun fr t H => ?_
 obtain ⟨h8, hx, A1⟩ := A.st 3 rfl (o := 0) (new := [Af r1 ((p4 ++ ([(⟨p0, p1⟩ : AB)] : List AB)).length)]) (ds := [Af r1 ((p4 ++ ([(⟨p0, p1⟩ : AB)] : List AB)).length)]) (Nat.le_of_ble_eq_true rfl) rfl rfl
 replace A : HH g h8 [_, _, _, .obj bp4 (.cells none 2 [Af r1 ((p4 ++ ([(⟨p0, p1⟩ : AB)] : List AB)).length)]), _] F := A1
 refine JB hx H fun fr t H => ?_
 refine at_nil ?_
 obtain ⟨rfl, rfl⟩ := BD hm
 refine ⟨.inr rfl, .tuple [], rH H, ?_⟩
 replace A := A.k4 1 2 3 4
 exact ⟨r1, rfl, A⟩
def FG (p0 : AJ) (p1 : AL) : Option (AJ) :=
 some (⟨p0.Name, p1.AU, p0.Kind, p0.Mode, p0.BP, p0.BQ, p0.BU, p0.Time, p0.AN, p0.AO, p0.Aa, p0.Ag, p0.Form⟩ : AJ)
theorem KW {p0 p1 bp0 bp1 u0} (hm : FG p0 p1 = some u0) (A : HH g h [.obj bp0 (.cells none 2 (AF p0)), .obj bp1 (.cells none 2 (AI p1))] F) (hc : BG (cfg.still 124) av = [.ptr (some (bp0, 0)), .ptr (some (bp1, 0))] := by kernel_rfl) : ∃ v h', BH cfg g h 124 av v h' ∧ v = .tuple [] ∧ HH g h' [.obj bp0 (.cells none 2 (AF u0)), .obj bp1 (.cells none 2 (AI p1))] F := by
 refine ES 8 [] hc ?_
 clear hc
 unfold FG at hm
 refine bg 8 [(0, .ptr (some (bp0, 0))), (1, .ptr (some (bp1, 0)))] fun fr H => ?_
 refine CX 6 (AV 2 [(3, .ptr (some (bp0, 0)))] 5 1 1 A H fun fr t H => ?_)
 obtain ⟨h1, hx, A⟩ := A.s0 1 [.str p1.AU] [_, _, _, _, _, _, _, _, _, _, _, _, _]
 refine CF 2 [] hx H fun fr t H => ?_
 refine at_nil ?_
 obtain rfl := An hm
 refine ⟨.inr rfl, .tuple [], rH H, ?_⟩
 exact ⟨rfl, A⟩
def B3 (p0 : List UInt8) (p1 : List UInt8) (p2_10 : AL) (p3 : AJ) (p4 : List AB) : Option (AJ × (List AB)) :=
 (FG p3 p2_10).bind fun x1 => (A9 x1).bind fun x2 => Ad (x2 == 0) (some (x1, p4)) (D3 (R4 32 (p4.length + ([(⟨p0, p1⟩ : AB)] : List AB).length)) <| some (p3, (p4 ++ ([(⟨p0, p1⟩ : AB)] : List AB))))
theorem HV {p0 p1 p2_10 p3 p4 bp2_10 bp3 bp4 rp4_0 u1 u3} (hm : B3 p0 p1 p2_10 p3 p4 = some (u1, u3)) (A : HH g h [.obj bp2_10 (.cells none 2 (AI p2_10)), .obj bp3 (.cells none 2 (AF p3)), .obj bp4 (.cells none 2 [Af rp4_0 p4.length]), .Ak rp4_0 117 (Ak AE p4)] F) (hc : BG (cfg.still 120) av = [.str p0, .str p1, .func (.func 124) [] [.ptr (some (bp2_10, 0))], .ptr (some (bp3, 0)), .ptr (some (bp4, 0))] := by kernel_rfl) : ∃ v h', BH cfg g h 120 av v h' ∧ ∃ (r'3 : Option Nat), v = .tuple [] ∧ HH g h' [.obj bp2_10 (.cells none 2 (AI p2_10)), .obj bp3 (.cells none 2 (AF u1)), .obj bp4 (.cells none 2 [Af r'3 u3.length]), .Ak r'3 117 (Ak AE u3)] F := by
 refine ES 22 [] hc ?_
 clear hc
 unfold B3 at hm
 refine bg 22 [(0, .str p0), (1, .str p1), (2, .func (.func 124) [] [.ptr (some (bp2_10, 0))]), (3, .ptr (some (bp3, 0))), (4, .ptr (some (bp4, 0)))] fun fr H => ?_
 refine AG 3 (Ae 9 _ _ H (fun fr => .of (BM (by kernel_rfl) (A.Eh 1 rfl (o := 0) (n := 13) ⟨Nat.le_of_ble_eq_true rfl, rfl⟩))) fun fr t H => ?_)
 obtain ⟨h1, e1, A⟩ := A.pu (.cells none 2 [.str ([] : List UInt8), .str ([] : List UInt8), Ab 0, Ai 0, Ai 0, Ai 0, Ai 0, Ai 0, .str ([] : List UInt8), .str ([] : List UInt8), Ai 0, Ai 0, Ai 0])
 refine BK 8 (.ptr (some (h.size, 0))) e1 H fun fr t H => ?_
 obtain ⟨h2, hx, A⟩ := A.s0 0 (AF p3) [_, _, _, _, _, _, _, _, _, _, _, _, _]
 refine Ch hx H fun fr t H => ?_
 refine BI id (AP (AG 2 ?_))
 obtain ⟨x1, hx, hm⟩ := bind_some hm
 obtain ⟨v1, h3, hr, rfl, A1⟩ := KW (av := [.ptr (some (h.size, 0)), .ptr (some (bp2_10, 0))]) hx (A.cut 2)
 replace A := A.g22 A1
 refine Ef 1 [] hr H fun fr t H => ?_
 refine CJ 3 id (Ae 12 _ _ H (fun fr => .of (BM (by kernel_rfl) (A.Eh 0 rfl (o := 0) (n := 13) ⟨Nat.le_of_ble_eq_true rfl, rfl⟩))) fun fr t H => ?_)
 obtain ⟨x2, hx, hm⟩ := bind_some hm
 obtain ⟨v1, h4, hr, rfl, A1⟩ := CS (av := [.agg (AF x1)]) hx (A.cut 0)
 replace A := A.DN A1
 refine Aw 13 hr H fun fr t H => ?_
 refine AK 1 [(14, .bool (x2 == 0))] H fun fr H => AZ 14 H hm (fun hb hm H => ?_) fun hb hm H => ?_
 ·refine AG 2 (Ae 15 _ _ H (fun fr => .of (BM (by kernel_rfl) (A.Eh 0 rfl (o := 0) (n := 13) ⟨Nat.le_of_ble_eq_true rfl, rfl⟩))) fun fr t H => ?_)
  obtain ⟨h5, hx, A⟩ := A.s2 0 (AF x1) [_, _, _, _, _, _, _, _, _, _, _, _, _]
  refine Ch hx H fun fr t H => ?_
  refine BI id (AS ?_)
  obtain ⟨rfl, rfl⟩ := BD hm
  refine ⟨.inl rfl, .tuple [], rH H, ?_⟩
  replace A := A.k4 1 2 3 4
  exact ⟨rp4_0, rfl, A⟩
 refine DI 7 id (Mi 16 3 0 A H fun fr t H => ?_)
 refine AM 3 [(19, .agg [.str p0, .str p1])] H fun fr H => ?_
 obtain ⟨h6, e2, A⟩ := A.pL 117 [.str p0, .str p1]
 refine BK 20 (Af (some h4.size) (([(⟨p0, p1⟩ : AB)] : List AB).length)) e2 H fun fr t H => ?_
 obtain ⟨hb, hm⟩ := A4 hm
 obtain ⟨r1, h7, hx, A1⟩ := HH.N7 Am (by decide) A 5 (xs := p4) (ys := ([(⟨p0, p1⟩ : AB)] : List AB)) rfl (Dy A 0 rfl (n := ([(⟨p0, p1⟩ : AB)] : List AB).length) (z := 2) rfl (by decide)) rfl rfl hb
 replace A : HH g h7 [.Ak (some h4.size) 117 ([.str p0, .str p1]), _, _, _, _, .Ak r1 117 (Ak AE (p4 ++ ([(⟨p0, p1⟩ : AB)] : List AB)))] F := A1
 replace A := A.k5 1 2 3 4 5
 refine Ae 21 _ _ H (fun fr => .of (IT (s := EF rp4_0 p4.length) (by kernel_rfl) hx)) fun fr t H => ?_
 obtain ⟨h8, hx, A1⟩ := A.st 3 rfl (o := 0) (new := [Af r1 ((p4 ++ ([(⟨p0, p1⟩ : AB)] : List AB)).length)]) (ds := [Af r1 ((p4 ++ ([(⟨p0, p1⟩ : AB)] : List AB)).length)]) (Nat.le_of_ble_eq_true rfl) rfl rfl
 replace A : HH g h8 [_, _, _, .obj bp4 (.cells none 2 [Af r1 ((p4 ++ ([(⟨p0, p1⟩ : AB)] : List AB)).length)]), _] F := A1
 refine JB hx H fun fr t H => ?_
 refine at_nil ?_
 obtain ⟨rfl, rfl⟩ := BD hm
 refine ⟨.inr rfl, .tuple [], rH H, ?_⟩
 replace A := A.k4 1 2 3 4
 exact ⟨r1, rfl, A⟩
def Cr (p0 : Ac) : Option (Ac) :=
 Ad (p0.BA == 0) (some (⟨IntKind.i64.wrap (0 - p0.B6), (0 : Int)⟩ : Ac)) (some (⟨IntKind.i64.wrap ((IntKind.i64.wrap (0 - p0.B6)) - 1), IntKind.i64.wrap ((1000000000 : Int) - p0.BA)⟩ : Ac))
theorem Kj {p0 q0} (hm : Cr p0 = some q0) (A : HH g h [] F) (hc : BG (cfg.still 176) av = [.agg [Ai p0.B6, Ai p0.BA]] := by kernel_rfl) : ∃ v h', BH cfg g h 176 av v h' ∧ v = .agg [Ai q0.B6, Ai q0.BA] ∧ HH g h' [] F := by
 refine ES 18 [.cell 2 23] hc ?_
 clear hc
 unfold Cr at hm
 refine bg 18 [(0, .agg [Ai p0.B6, Ai p0.BA])] fun fr H => ?_
 refine AG 2 ?_
 obtain ⟨h1, e1, A⟩ := A.pu (.cells none 2 [Ai p0.B6, Ai p0.BA])
 refine BK 1 (.ptr (some (h.size, 0))) e1 H fun fr t H => ?_
 obtain ⟨h2, e2, A⟩ := A.pu (.cells none 2 [Ai 0, Ai 0])
 refine BK 2 (.ptr (some (h1.size, 0))) e2 H fun fr t H => ?_
 refine BI id (AP (AG 3 (AV 1 [] 4 1 1 A H fun fr t H => ?_)))
 refine AK 1 [(5, .bool (p0.BA == 0))] H fun fr H => AZ 5 H hm (fun hb hm H => ?_) fun hb hm H => ?_
 ·refine AG 5 (AV 1 [] 7 1 0 A H fun fr t H => ?_)
  obtain ⟨h3, hx, A1⟩ := A.st 0 rfl (o := 0) (new := [Ai (IntKind.i64.wrap (0 - p0.B6)), Ai 0]) (ds := [Ai (IntKind.i64.wrap (0 - p0.B6)), Ai 0]) (Nat.le_of_ble_eq_true rfl) rfl rfl
  replace A : HH g h3 [.obj h1.size (.cells none 2 [Ai (IntKind.i64.wrap (0 - p0.B6)), Ai 0]), .obj h.size (.cells none 2 [Ai p0.B6, Ai p0.BA])] F := A1
  refine Es 2 [] hx H fun fr t H => ?_
  refine BI id (AS ?_)
  obtain rfl := An hm
  refine ⟨.inl rfl, .agg [Ai (IntKind.i64.wrap (0 - p0.B6)), Ai 0], LQ (.cell (rT H) (CL (by kernel_rfl) (by kernel_rfl) (A.la 0 0 2)) .nil), ?_⟩
  replace A := A.d0
  exact ⟨rfl, A⟩
 refine Br 9 id (AV 1 [] 11 1 0 A H fun fr t H => ?_)
 refine AV 3 [(13, Ai (IntKind.i64.wrap ((IntKind.i64.wrap (0 - p0.B6)) - 1)))] 15 1 1 A H fun fr t H => ?_
 obtain ⟨h4, hx, A1⟩ := A.st 0 rfl (o := 0) (new := [Ai (IntKind.i64.wrap ((IntKind.i64.wrap (0 - p0.B6)) - 1)), Ai (IntKind.i64.wrap ((1000000000 : Int) - p0.BA))]) (ds := [Ai (IntKind.i64.wrap ((IntKind.i64.wrap (0 - p0.B6)) - 1)), Ai (IntKind.i64.wrap ((1000000000 : Int) - p0.BA))]) (Nat.le_of_ble_eq_true rfl) rfl rfl
 replace A : HH g h4 [.obj h1.size (.cells none 2 [Ai (IntKind.i64.wrap ((IntKind.i64.wrap (0 - p0.B6)) - 1)), Ai (IntKind.i64.wrap ((1000000000 : Int) - p0.BA))]), .obj h.size (.cells none 2 [Ai p0.B6, Ai p0.BA])] F := A1
 refine Es 2 [] hx H fun fr t H => ?_
 refine BI id (AS ?_)
 obtain rfl := An hm
 refine ⟨.inl rfl, .agg [Ai (IntKind.i64.wrap ((IntKind.i64.wrap (0 - p0.B6)) - 1)), Ai (IntKind.i64.wrap ((1000000000 : Int) - p0.BA))], LQ (.cell (rT H) (CL (by kernel_rfl) (by kernel_rfl) (A.la 0 0 2)) .nil), ?_⟩
 replace A := A.d0
 exact ⟨rfl, A⟩
def DS (p1 : Int) (s : (List UInt8)) : Option (((List UInt8)) ⊕ (((List UInt8)))) :=
 match s with
 | x1 => (Ad (decide ((x1.length : Int) > 0)) ((LN x1 (IntKind.i64.wrap ((x1.length : Int) - 1))).bind fun x4 => some (x4 == p1)) (some false) : Option (Bool)).bind fun x3 => Ad x3 ((FF x1 none (some (IntKind.i64.wrap ((x1.length : Int) - 1)))).bind fun x5 => some (.inl x5)) (some (.inr x1))
def C1 (p0 : List UInt8) (p1 : Int) : Option ((List UInt8)) :=
 (loop (DS p1) p0).bind fun x2 => some x2
theorem Hz {p0 p1 q0} (hm : C1 p0 p1 = some q0) (A : HH g h [] F) (hc : BG (cfg.still 215) av = [.str p0, Ab p1] := by kernel_rfl) : ∃ v h', BH cfg g h 215 av v h' ∧ v = .str q0 ∧ HH g h' [] F := by
 refine ES 23 [.tmp 4] hc ?_
 clear hc
 unfold C1 at hm
 refine bg 23 [(0, .str p0), (1, Ab p1)] fun fr H => ?_
 refine AG 1 (AK 1 [] H fun fr H => AP (AY (id := 0) (by kernel_rfl) ?_))
 obtain ⟨o1, ho, hm⟩ := bind_some hm
 refine BJ (Q' := fun e fr' h' => (∃ x2, e = .exit 0 ∧ x2 = o1 ∧ Has fr' 23 [(0, .str x2)] ∧ HH g h' [] F) ∨ False) ?_ ?_
 ·refine Ce (by kernel_rfl) (fun (s : (List UInt8)) fr' h' => ∃ x1, x1 = s ∧ Has fr' 23 [(0, .str x1), (1, Ab p1)] ∧ HH g h' [] F) ho ⟨_, rfl, H.ls, A⟩ ?_
  clear ho hm H A
  intro s q fr h1 hI hm
  obtain ⟨x1, rfl, H, A⟩ := hI
  unfold DS at hm
  refine AP (AG 12 (AM 4 [(8, .bool (decide ((x1.length : Int) > 0)))] H fun fr H => ?_))
  obtain ⟨x3, ho, hm⟩ := bind_some hm
  refine A5 8 (fun fr' h' => Has fr' 23 [(0, .str x1), (1, Ab p1), (16, .bool x3)] ∧ HH g h' [] F) ?_ ?_
  ·rcases Ax ho with ⟨hb, hm⟩ | ⟨hb, hm⟩
   ·replace H := H.kn 8 hb
    obtain ⟨x4, hx, hm⟩ := bind_some hm
    refine BC 4 [] 13 (Ab x4) h1 H (fun fr => .of (EW (by kernel_rfl) hx)) fun fr t H => ?_
    refine AM 3 [(16, .bool (x4 == p1))] H fun fr H => ?_
    obtain rfl := An hm
    exact at_nil ⟨H.ls, A⟩
   replace H := H.kn 8 hb
   refine AM 8 [(16, .bool false)] H fun fr H => ?_
   obtain rfl := An hm
   exact at_nil ⟨H.ls, A⟩
  clear A
  intro t fr h2 hK
  obtain ⟨H, A⟩ := hK
  refine BI id (AZ 16 H hm (fun hb hm H => ?_) fun hb hm H => ?_)
  ·refine CI id (AY (id := 1) (by kernel_rfl) ?_)
   refine CX 6 ?_
   obtain ⟨x5, hx, hm⟩ := bind_some hm
   refine BC 4 [] 21 (.str x5) h2 H (fun fr => .of (Fe (k := .i64) (k' := .i64) (lo := none) (hi := (some (IntKind.i64.wrap ((x1.length : Int) - 1)))) (by kernel_rfl) hx)) fun fr t H => ?_
   refine Bd 1 [(0, .str x5), (1, Ab p1)] H fun fr H => at_nil ?_
   exact nx hm ⟨_, rfl, H.ls, A⟩
  refine Bf (i := 0) (by kernel_rfl) ?_
  exact nr hm fun e => .inl ⟨_, rfl, e, H.ls, A⟩
 clear ho
 clear A
 intro e fr h3 hQ
 rcases hQ with ⟨x2, rfl, rfl, H, A⟩ | hF
 ·show AW _ _ _ _ _ _ _
  refine AG 2 (AK 2 [(4, .str x2)] H fun fr H => AS ?_)
  obtain rfl := An hm
  exact ⟨.inl rfl, _, rH H, rfl, A⟩
 exact hF.elim
def CO (p0 : List UInt8) : Option ((List UInt8)) :=
 Ad ((p0 == ([] : List UInt8)) || (([48] : List UInt8) == ([] : List UInt8))) (some p0) ((C1 p0 (48 : Int)).bind fun x1 => some x1)
theorem H7 {p0 q0} (hm : CO p0 = some q0) (A : HH g h [] F) (hc : BG (cfg.still 177) av = [.str p0, .str ([48] : List UInt8)] := by kernel_rfl) : ∃ v h', BH cfg g h 177 av v h' ∧ v = .str q0 ∧ HH g h' [] F := by
 refine ES 37 [.tmp 4] hc ?_
 clear hc
 unfold CO at hm
 refine bg 37 [(0, .str p0), (1, .str ([48] : List UInt8))] fun fr H => ?_
 refine AG 1 (AK 1 [] H fun fr H => AP (AG 6 (AM 3 [(9, .bool (p0 == ([] : List UInt8)))] H fun fr H => A5 3 (fun fr' h' => h = h' ∧ Has fr' 37 [(0, .str p0), (1, .str ([48] : List UInt8)), (12, .bool ((p0 == ([] : List UInt8)) || (([48] : List UInt8) == ([] : List UInt8))))]) ?_ ?_)))
 ·cases hb : (p0 == ([] : List UInt8) : Bool) with
  | true =>
   replace H := H.kn 9 hb
   exact AM 3 [(12, .bool true)] H fun fr H => Ao H hb
  | false =>
   replace H := H.kn 9 hb
   exact AM 3 [(12, .bool (([48] : List UInt8) == ([] : List UInt8)))] H fun fr H => Ao H hb
 intro t fr h' hK
 obtain ⟨e, H⟩ := hK
 subst e
 refine BI id (AZ 12 H hm (fun hb hm H => ?_) fun hb hm H => ?_)
 ·refine AG 2 (AK 2 [(4, .str p0)] H fun fr H => AS ?_)
  obtain rfl := An hm
  exact ⟨.inl rfl, _, rH H, rfl, A⟩
 refine CI id (AP (AG 8 (AK 8 [(21, .bool true)] H fun fr H => Cf (x := .tmp 21) (by kernel_rfl) H (fun fr => by kernel_rfl) ?_)))
 refine AG 5 ?_
 obtain ⟨x1, hx, hm⟩ := bind_some hm
 obtain ⟨v1, h1, hr, rfl, A1⟩ := Hz (av := [.str p0, Ab 48]) hx (A.cut 0)
 replace A := A.DN A1
 refine A6 3 [] 25 hr H fun fr t H => ?_
 refine AK 1 [(4, .str x1)] H fun fr H => AS ?_
 obtain rfl := An hm
 exact ⟨.inl rfl, _, rH H, rfl, A⟩
def ED (p0 : Ac) : Option ((List UInt8) × Int) :=
 (Ct p0).bind fun x1 => Ad (!x1) (some (([] : List UInt8), (1 : Int))) ((Ad (decide (p0.B6 < 0)) ((Cr p0).bind fun x5 => some (x5.B6, x5.BA, ([45] : List UInt8))) (some (p0.B6, p0.BA, ([] : List UInt8))) : Option ((Int × Int × (List UInt8)))).bind fun (x2, x3, x4) => D3 (decide (-9223372036854775808 ≤ x2 ∧ x2 ≤ 9223372036854775807)) <| D3 (decide (x4.length + (Lib.itoa x2).length ≤ 9223372036854775807)) <| Ad (x3 == 0) (some (x4 ++ (Lib.itoa x2), (0 : Int))) (D3 (decide (-9223372036854775808 ≤ IntKind.i64.wrap ((1000000000 : Int) + x3) ∧ IntKind.i64.wrap ((1000000000 : Int) + x3) ≤ 9223372036854775807)) <| (FF (Lib.itoa (IntKind.i64.wrap ((1000000000 : Int) + x3))) (some (1 : Int)) none).bind fun x6 => D3 (decide ((x4 ++ (Lib.itoa x2)).length + ([46] : List UInt8).length ≤ 9223372036854775807)) <| (CO x6).bind fun x7 => D3 (decide (((x4 ++ (Lib.itoa x2)) ++ ([46] : List UInt8)).length + x7.length ≤ 9223372036854775807)) <| some (((x4 ++ (Lib.itoa x2)) ++ ([46] : List UInt8)) ++ x7, (0 : Int))))
theorem Oj {p0 q0 q1} (hm : ED p0 = some (q0, q1)) (A : HH g h [] F) (hc : BG (cfg.still 125) av = [.agg [Ai p0.B6, Ai p0.BA]] := by kernel_rfl) : ∃ v h', BH cfg g h 125 av v h' ∧ v = .tuple [.str q0, Ai q1] ∧ HH g h' [] F := by
 refine ES 34 [.tmp 2, .tmp 3] hc ?_
 clear hc
 unfold ED at hm
 refine bg 34 [(0, .agg [Ai p0.B6, Ai p0.BA])] fun fr H => ?_
 refine AG 3 ?_
 obtain ⟨h1, e1, A⟩ := A.pu (.cells none 2 [Ai p0.B6, Ai p0.BA])
 refine BK 1 (.ptr (some (h.size, 0))) e1 H fun fr t H => ?_
 refine AK 2 [] H fun fr H => AP (AG 3 (Ae 7 _ _ H (fun fr => .of (BM (by kernel_rfl) (A.Eh 0 rfl (o := 0) (n := 2) ⟨Nat.le_of_ble_eq_true rfl, rfl⟩))) fun fr t H => ?_))
 obtain ⟨x1, hx, hm⟩ := bind_some hm
 obtain ⟨v1, h2, hr, rfl, A1⟩ := HG (av := [.agg [Ai p0.B6, Ai p0.BA]]) hx (A.cut 0)
 replace A : HH g h2 [.obj h.size (.cells none 2 [Ai p0.B6, Ai p0.BA])] F := A.Fp (n := 0) A1
 refine Aw 8 hr H fun fr t H => ?_
 refine AK 1 [(9, .bool (!x1))] H fun fr H => AZ 9 H hm (fun hb hm H => ?_) fun hb hm H => ?_
 ·refine AG 2 (AK 2 [(2, .str ([] : List UInt8)), (3, Ai 1)] H fun fr H => AS ?_)
  obtain ⟨rfl, rfl⟩ := BD hm
  refine ⟨.inl rfl, .tuple [.str ([] : List UInt8), Ai 1], rH H, ?_⟩
  replace A := A.d0
  exact ⟨rfl, A⟩
 refine Br 1 id (AK 1 [(4, .str ([] : List UInt8))] H fun fr H => AP ?_)
 obtain ⟨o1, ho, hm⟩ := bind_some hm
 refine BJ (Q' := fun e fr' h' => (∃ x2 x3 x4, e = .normal ∧ (x2, x3, x4) = o1 ∧ Has fr' 34 [(1, .ptr (some (h.size, 0))), (4, .str x4)] ∧ HH g h' [.obj h.size (.cells none 2 [Ai x2, Ai x3])] F) ∨ False) ?_ ?_
 ·replace hm := ho
  clear ho
  refine AG 3 (AV 1 [] 11 0 0 A H fun fr t H => ?_)
  refine AK 1 [(12, .bool (decide (p0.B6 < 0)))] H fun fr H => AZ 12 H hm (fun hb hm H => ?_) fun hb hm H => ?_
  ·refine CX 4 (Ae 13 _ _ H (fun fr => .of (BM (by kernel_rfl) (A.Eh 0 rfl (o := 0) (n := 2) ⟨Nat.le_of_ble_eq_true rfl, rfl⟩))) fun fr t H => ?_)
   obtain ⟨x5, hx, hm⟩ := bind_some hm
   obtain ⟨v1, h3, hr, rfl, A1⟩ := Kj (av := [.agg [Ai p0.B6, Ai p0.BA]]) hx (A.cut 0)
   replace A := A.DN A1
   refine Aw 14 hr H fun fr t H => ?_
   refine Bd 1 [(1, .ptr (some (h.size, 0))), (4, .str ([45] : List UInt8)), (14, .agg [Ai x5.B6, Ai x5.BA])] H fun fr H => ?_
   obtain ⟨h4, hx, A⟩ := A.s0 0 [Ai x5.B6, Ai x5.BA] [_, _]
   refine Ch hx H fun fr t H => ?_
   refine at_nil ?_
   exact .inl ⟨_, _, _, rfl, An hm, H.ls, A⟩
  exact D5 (.inl ⟨_, _, _, rfl, An hm, H.ls, A⟩)
 clear ho
 clear A
 intro e fr h5 hQ
 rcases hQ with ⟨x2, x3, x4, rfl, rfl, H, A⟩ | hF
 ·show AW _ _ _ _ _ _ _
  refine AG 6 (AV 2 [(15, .str x4)] 17 0 0 A H fun fr t H => ?_)
  obtain ⟨hb, hm⟩ := A4 hm
  refine Ae 18 (.str (Lib.itoa x2)) h5 H (fun fr => Steps.call (by kernel_rfl) (J7 (C := cfg) (f := 121) (by kernel_rfl) (l := exts) rfl (by kernel_rfl) hb)) fun fr t H => ?_
  obtain ⟨hb, hm⟩ := A4 hm
  refine Ae 19 (.str (x4 ++ (Lib.itoa x2))) h5 H (fun fr => .of (Lq (by kernel_rfl) hb)) fun fr t H => ?_
  refine AK 1 [(5, .str (x4 ++ (Lib.itoa x2)))] H fun fr H => AP (AG 3 (AV 1 [] 21 0 1 A H fun fr t H => ?_))
  refine AK 1 [(22, .bool (x3 == 0))] H fun fr H => AZ 22 H hm (fun hb hm H => ?_) fun hb hm H => ?_
  ·refine AG 3 (AK 3 [(2, .str (x4 ++ (Lib.itoa x2))), (3, Ai 0)] H fun fr H => AS ?_)
   obtain ⟨rfl, rfl⟩ := BD hm
   refine ⟨.inl rfl, .tuple [.str (x4 ++ (Lib.itoa x2)), Ai 0], rH H, ?_⟩
   replace A := A.d0
   exact ⟨rfl, A⟩
  refine Br 6 id (AV 1 [] 25 0 1 A H fun fr t H => ?_)
  obtain ⟨hb, hm⟩ := A4 hm
  refine BC 1 [] 27 (.str (Lib.itoa (IntKind.i64.wrap ((1000000000 : Int) + x3)))) h5 H (fun fr => Steps.call (by kernel_rfl) (J7 (C := cfg) (f := 121) (by kernel_rfl) (l := exts) rfl (by kernel_rfl) hb)) fun fr t H => ?_
  obtain ⟨x6, hx, hm⟩ := bind_some hm
  refine Ae 28 (.str x6) h5 H (fun fr => .of (Fe (k := .i64) (k' := .i64) (lo := (some (1 : Int))) (hi := none) (by kernel_rfl) hx)) fun fr t H => ?_
  refine Bg 1 [(6, .str x6)] 7 H fun fr H => AM 1 [(29, .str (x4 ++ (Lib.itoa x2)))] H fun fr H => ?_
  obtain ⟨hb, hm⟩ := A4 hm
  refine Ae 30 (.str ((x4 ++ (Lib.itoa x2)) ++ ([46] : List UInt8))) h5 H (fun fr => .of (Lq (by kernel_rfl) hb)) fun fr t H => ?_
  obtain ⟨x7, hx, hm⟩ := bind_some hm
  obtain ⟨v1, h6, hr, rfl, A1⟩ := H7 (av := [.str x6, .str ([48] : List UInt8)]) hx (A.cut 0)
  replace A := A.DN A1
  refine A6 1 [] 32 hr H fun fr t H => ?_
  obtain ⟨hb, hm⟩ := A4 hm
  refine Ae 33 (.str (((x4 ++ (Lib.itoa x2)) ++ ([46] : List UInt8)) ++ x7)) h6 H (fun fr => .of (Lq (by kernel_rfl) hb)) fun fr t H => ?_
  refine AK 2 [(2, .str (((x4 ++ (Lib.itoa x2)) ++ ([46] : List UInt8)) ++ x7)), (3, Ai 0)] H fun fr H => AS ?_
  obtain ⟨rfl, rfl⟩ := BD hm
  refine ⟨.inl rfl, .tuple [.str (((x4 ++ (Lib.itoa x2)) ++ ([46] : List UInt8)) ++ x7), Ai 0], rH H, ?_⟩
  replace A := A.d0
  exact ⟨rfl, A⟩
 exact hF.elim
def DY (p0 : AJ) (p1 : AL) : Option (AJ) :=
 Ad (p1.Time.BA != 0) (some (⟨p0.Name, p0.AU, p0.Kind, p0.Mode, p0.BP, p0.BQ, p0.BU, (-1 : Int), p0.AN, p0.AO, p0.Aa, p0.Ag, p0.Form⟩ : AJ)) (some (⟨p0.Name, p0.AU, p0.Kind, p0.Mode, p0.BP, p0.BQ, p0.BU, p1.Time.B6, p0.AN, p0.AO, p0.Aa, p0.Ag, p0.Form⟩ : AJ))
theorem KT {p0 p1 bp0 bp1 u0} (hm : DY p0 p1 = some u0) (A : HH g h [.obj bp0 (.cells none 2 (AF p0)), .obj bp1 (.cells none 2 (AI p1))] F) (hc : BG (cfg.still 126) av = [.ptr (some (bp0, 0)), .ptr (some (bp1, 0))] := by kernel_rfl) : ∃ v h', BH cfg g h 126 av v h' ∧ v = .tuple [] ∧ HH g h' [.obj bp0 (.cells none 2 (AF u0)), .obj bp1 (.cells none 2 (AI p1))] F := by
 refine ES 16 [] hc ?_
 clear hc
 unfold DY at hm
 refine bg 16 [(0, .ptr (some (bp0, 0))), (1, .ptr (some (bp1, 0)))] fun fr H => ?_
 refine AG 7 (AV 3 [(3, .ptr (some (bp0, 0)))] 6 1 10 A H fun fr t H => ?_)
 obtain ⟨h1, hx, A⟩ := A.s0 7 [Ai p1.Time.B6] [_, _, _, _, _, _, _, _, _, _, _, _, _]
 refine CF 2 [] hx H fun fr t H => ?_
 refine CJ 4 id (AV 2 [] 11 1 11 A H fun fr t H => ?_)
 refine AK 1 [(12, .bool (p1.Time.BA != 0))] H fun fr H => AZ 12 H hm (fun hb hm H => ?_) fun hb hm H => ?_
 ·refine CX 4 ?_
  obtain ⟨h2, hx, A⟩ := A.s0 7 [Ai (-1)] [_, _, _, _, _, _, _, _, _, _, _, _, _]
  refine CF 3 [] hx H fun fr t H => ?_
  refine at_nil ?_
  obtain rfl := An hm
  refine ⟨.inr rfl, .tuple [], rH H, ?_⟩
  exact ⟨rfl, A⟩
 refine D5 ?_
 obtain rfl := An hm
 refine ⟨.inr rfl, .tuple [], rH H, ?_⟩
 exact ⟨rfl, A⟩
def BW (p0 : List UInt8) (p1 : List UInt8) (p2_10 : AL) (p3 : AJ) (p4 : List AB) : Option (AJ × (List AB)) :=
 (DY p3 p2_10).bind fun x1 => (A9 x1).bind fun x2 => Ad (x2 == 0) (some (x1, p4)) (D3 (R4 32 (p4.length + ([(⟨p0, p1⟩ : AB)] : List AB).length)) <| some (p3, (p4 ++ ([(⟨p0, p1⟩ : AB)] : List AB))))
theorem G6 {p0 p1 p2_10 p3 p4 bp2_10 bp3 bp4 rp4_0 u1 u3} (hm : BW p0 p1 p2_10 p3 p4 = some (u1, u3)) (A : HH g h [.obj bp2_10 (.cells none 2 (AI p2_10)), .obj bp3 (.cells none 2 (AF p3)), .obj bp4 (.cells none 2 [Af rp4_0 p4.length]), .Ak rp4_0 117 (Ak AE p4)] F) (hc : BG (cfg.still 120) av = [.str p0, .str p1, .func (.func 126) [] [.ptr (some (bp2_10, 0))], .ptr (some (bp3, 0)), .ptr (some (bp4, 0))] := by kernel_rfl) : ∃ v h', BH cfg g h 120 av v h' ∧ ∃ (r'3 : Option Nat), v = .tuple [] ∧ HH g h' [.obj bp2_10 (.cells none 2 (AI p2_10)), .obj bp3 (.cells none 2 (AF u1)), .obj bp4 (.cells none 2 [Af r'3 u3.length]), .Ak r'3 117 (Ak AE u3)] F := by
 refine ES 22 [] hc ?_
 clear hc
 unfold BW at hm
 refine bg 22 [(0, .str p0), (1, .str p1), (2, .func (.func 126) [] [.ptr (some (bp2_10, 0))]), (3, .ptr (some (bp3, 0))), (4, .ptr (some (bp4, 0)))] fun fr H => ?_
 refine AG 3 (Ae 9 _ _ H (fun fr => .of (BM (by kernel_rfl) (A.Eh 1 rfl (o := 0) (n := 13) ⟨Nat.le_of_ble_eq_true rfl, rfl⟩))) fun fr t H => ?_)
 obtain ⟨h1, e1, A⟩ := A.pu (.cells none 2 [.str ([] : List UInt8), .str ([] : List UInt8), Ab 0, Ai 0, Ai 0, Ai 0, Ai 0, Ai 0, .str ([] : List UInt8), .str ([] : List UInt8), Ai 0, Ai 0, Ai 0])
 refine BK 8 (.ptr (some (h.size, 0))) e1 H fun fr t H => ?_
 obtain ⟨h2, hx, A⟩ := A.s0 0 (AF p3) [_, _, _, _, _, _, _, _, _, _, _, _, _]
 refine Ch hx H fun fr t H => ?_
 refine BI id (AP (AG 2 ?_))
 obtain ⟨x1, hx, hm⟩ := bind_some hm
 obtain ⟨v1, h3, hr, rfl, A1⟩ := KT (av := [.ptr (some (h.size, 0)), .ptr (some (bp2_10, 0))]) hx (A.cut 2)
 replace A := A.g22 A1
 refine Ef 1 [] hr H fun fr t H => ?_
 refine CJ 3 id (Ae 12 _ _ H (fun fr => .of (BM (by kernel_rfl) (A.Eh 0 rfl (o := 0) (n := 13) ⟨Nat.le_of_ble_eq_true rfl, rfl⟩))) fun fr t H => ?_)
 obtain ⟨x2, hx, hm⟩ := bind_some hm
 obtain ⟨v1, h4, hr, rfl, A1⟩ := CS (av := [.agg (AF x1)]) hx (A.cut 0)
 replace A := A.DN A1
 refine Aw 13 hr H fun fr t H => ?_
 refine AK 1 [(14, .bool (x2 == 0))] H fun fr H => AZ 14 H hm (fun hb hm H => ?_) fun hb hm H => ?_
 ·refine AG 2 (Ae 15 _ _ H (fun fr => .of (BM (by kernel_rfl) (A.Eh 0 rfl (o := 0) (n := 13) ⟨Nat.le_of_ble_eq_true rfl, rfl⟩))) fun fr t H => ?_)
  obtain ⟨h5, hx, A⟩ := A.s2 0 (AF x1) [_, _, _, _, _, _, _, _, _, _, _, _, _]
  refine Ch hx H fun fr t H => ?_
  refine BI id (AS ?_)
  obtain ⟨rfl, rfl⟩ := BD hm
  refine ⟨.inl rfl, .tuple [], rH H, ?_⟩
  replace A := A.k4 1 2 3 4
  exact ⟨rp4_0, rfl, A⟩
 refine DI 7 id (Mi 16 3 0 A H fun fr t H => ?_)
 refine AM 3 [(19, .agg [.str p0, .str p1])] H fun fr H => ?_
 obtain ⟨h6, e2, A⟩ := A.pL 117 [.str p0, .str p1]
 refine BK 20 (Af (some h4.size) (([(⟨p0, p1⟩ : AB)] : List AB).length)) e2 H fun fr t H => ?_
 obtain ⟨hb, hm⟩ := A4 hm
 obtain ⟨r1, h7, hx, A1⟩ := HH.N7 Am (by decide) A 5 (xs := p4) (ys := ([(⟨p0, p1⟩ : AB)] : List AB)) rfl (Dy A 0 rfl (n := ([(⟨p0, p1⟩ : AB)] : List AB).length) (z := 2) rfl (by decide)) rfl rfl hb
 replace A : HH g h7 [.Ak (some h4.size) 117 ([.str p0, .str p1]), _, _, _, _, .Ak r1 117 (Ak AE (p4 ++ ([(⟨p0, p1⟩ : AB)] : List AB)))] F := A1
 replace A := A.k5 1 2 3 4 5
 refine Ae 21 _ _ H (fun fr => .of (IT (s := EF rp4_0 p4.length) (by kernel_rfl) hx)) fun fr t H => ?_
 obtain ⟨h8, hx, A1⟩ := A.st 3 rfl (o := 0) (new := [Af r1 ((p4 ++ ([(⟨p0, p1⟩ : AB)] : List AB)).length)]) (ds := [Af r1 ((p4 ++ ([(⟨p0, p1⟩ : AB)] : List AB)).length)]) (Nat.le_of_ble_eq_true rfl) rfl rfl
 replace A : HH g h8 [_, _, _, .obj bp4 (.cells none 2 [Af r1 ((p4 ++ ([(⟨p0, p1⟩ : AB)] : List AB)).length)]), _] F := A1
 refine JB hx H fun fr t H => ?_
 refine at_nil ?_
 obtain ⟨rfl, rfl⟩ := BD hm
 refine ⟨.inr rfl, .tuple [], rH H, ?_⟩
 replace A := A.k4 1 2 3 4
 exact ⟨r1, rfl, A⟩
def FL (p0 : AJ) (p1 : AL) : Option (AJ) :=
 some (⟨p1.Name, p0.AU, p0.Kind, p0.Mode, p0.BP, p0.BQ, p0.BU, p0.Time, p0.AN, p0.AO, p0.Aa, p0.Ag, p0.Form⟩ : AJ)
theorem KP {p0 p1 bp0 bp1 u0} (hm : FL p0 p1 = some u0) (A : HH g h [.obj bp0 (.cells none 2 (AF p0)), .obj bp1 (.cells none 2 (AI p1))] F) (hc : BG (cfg.still 127) av = [.ptr (some (bp0, 0)), .ptr (some (bp1, 0))] := by kernel_rfl) : ∃ v h', BH cfg g h 127 av v h' ∧ v = .tuple [] ∧ HH g h' [.obj bp0 (.cells none 2 (AF u0)), .obj bp1 (.cells none 2 (AI p1))] F := by
 refine ES 8 [] hc ?_
 clear hc
 unfold FL at hm
 refine bg 8 [(0, .ptr (some (bp0, 0))), (1, .ptr (some (bp1, 0)))] fun fr H => ?_
 refine CX 6 (AV 2 [(3, .ptr (some (bp0, 0)))] 5 1 0 A H fun fr t H => ?_)
 obtain ⟨h1, hx, A⟩ := A.s0 0 [.str p1.Name] [_, _, _, _, _, _, _, _, _, _, _, _, _]
 refine CF 2 [] hx H fun fr t H => ?_
 refine at_nil ?_
 obtain rfl := An hm
 refine ⟨.inr rfl, .tuple [], rH H, ?_⟩
 exact ⟨rfl, A⟩
def Bz (p0 : List UInt8) (p1 : List UInt8) (p2_10 : AL) (p3 : AJ) (p4 : List AB) : Option (AJ × (List AB)) :=
 (FL p3 p2_10).bind fun x1 => (A9 x1).bind fun x2 => Ad (x2 == 0) (some (x1, p4)) (D3 (R4 32 (p4.length + ([(⟨p0, p1⟩ : AB)] : List AB).length)) <| some (p3, (p4 ++ ([(⟨p0, p1⟩ : AB)] : List AB))))
theorem G9 {p0 p1 p2_10 p3 p4 bp2_10 bp3 bp4 rp4_0 u1 u3} (hm : Bz p0 p1 p2_10 p3 p4 = some (u1, u3)) (A : HH g h [.obj bp2_10 (.cells none 2 (AI p2_10)), .obj bp3 (.cells none 2 (AF p3)), .obj bp4 (.cells none 2 [Af rp4_0 p4.length]), .Ak rp4_0 117 (Ak AE p4)] F) (hc : BG (cfg.still 120) av = [.str p0, .str p1, .func (.func 127) [] [.ptr (some (bp2_10, 0))], .ptr (some (bp3, 0)), .ptr (some (bp4, 0))] := by kernel_rfl) : ∃ v h', BH cfg g h 120 av v h' ∧ ∃ (r'3 : Option Nat), v = .tuple [] ∧ HH g h' [.obj bp2_10 (.cells none 2 (AI p2_10)), .obj bp3 (.cells none 2 (AF u1)), .obj bp4 (.cells none 2 [Af r'3 u3.length]), .Ak r'3 117 (Ak AE u3)] F := by
 refine ES 22 [] hc ?_
 clear hc
 unfold Bz at hm
 refine bg 22 [(0, .str p0), (1, .str p1), (2, .func (.func 127) [] [.ptr (some (bp2_10, 0))]), (3, .ptr (some (bp3, 0))), (4, .ptr (some (bp4, 0)))] fun fr H => ?_
 refine AG 3 (Ae 9 _ _ H (fun fr => .of (BM (by kernel_rfl) (A.Eh 1 rfl (o := 0) (n := 13) ⟨Nat.le_of_ble_eq_true rfl, rfl⟩))) fun fr t H => ?_)
 obtain ⟨h1, e1, A⟩ := A.pu (.cells none 2 [.str ([] : List UInt8), .str ([] : List UInt8), Ab 0, Ai 0, Ai 0, Ai 0, Ai 0, Ai 0, .str ([] : List UInt8), .str ([] : List UInt8), Ai 0, Ai 0, Ai 0])
 refine BK 8 (.ptr (some (h.size, 0))) e1 H fun fr t H => ?_
 obtain ⟨h2, hx, A⟩ := A.s0 0 (AF p3) [_, _, _, _, _, _, _, _, _, _, _, _, _]
 refine Ch hx H fun fr t H => ?_
 refine BI id (AP (AG 2 ?_))
 obtain ⟨x1, hx, hm⟩ := bind_some hm
 obtain ⟨v1, h3, hr, rfl, A1⟩ := KP (av := [.ptr (some (h.size, 0)), .ptr (some (bp2_10, 0))]) hx (A.cut 2)
 replace A := A.g22 A1
 refine Ef 1 [] hr H fun fr t H => ?_
 refine CJ 3 id (Ae 12 _ _ H (fun fr => .of (BM (by kernel_rfl) (A.Eh 0 rfl (o := 0) (n := 13) ⟨Nat.le_of_ble_eq_true rfl, rfl⟩))) fun fr t H => ?_)
 obtain ⟨x2, hx, hm⟩ := bind_some hm
 obtain ⟨v1, h4, hr, rfl, A1⟩ := CS (av := [.agg (AF x1)]) hx (A.cut 0)
 replace A := A.DN A1
 refine Aw 13 hr H fun fr t H => ?_
 refine AK 1 [(14, .bool (x2 == 0))] H fun fr H => AZ 14 H hm (fun hb hm H => ?_) fun hb hm H => ?_
 ·refine AG 2 (Ae 15 _ _ H (fun fr => .of (BM (by kernel_rfl) (A.Eh 0 rfl (o := 0) (n := 13) ⟨Nat.le_of_ble_eq_true rfl, rfl⟩))) fun fr t H => ?_)
  obtain ⟨h5, hx, A⟩ := A.s2 0 (AF x1) [_, _, _, _, _, _, _, _, _, _, _, _, _]
  refine Ch hx H fun fr t H => ?_
  refine BI id (AS ?_)
  obtain ⟨rfl, rfl⟩ := BD hm
  refine ⟨.inl rfl, .tuple [], rH H, ?_⟩
  replace A := A.k4 1 2 3 4
  exact ⟨rp4_0, rfl, A⟩
 refine DI 7 id (Mi 16 3 0 A H fun fr t H => ?_)
 refine AM 3 [(19, .agg [.str p0, .str p1])] H fun fr H => ?_
 obtain ⟨h6, e2, A⟩ := A.pL 117 [.str p0, .str p1]
 refine BK 20 (Af (some h4.size) (([(⟨p0, p1⟩ : AB)] : List AB).length)) e2 H fun fr t H => ?_
 obtain ⟨hb, hm⟩ := A4 hm
 obtain ⟨r1, h7, hx, A1⟩ := HH.N7 Am (by decide) A 5 (xs := p4) (ys := ([(⟨p0, p1⟩ : AB)] : List AB)) rfl (Dy A 0 rfl (n := ([(⟨p0, p1⟩ : AB)] : List AB).length) (z := 2) rfl (by decide)) rfl rfl hb
 replace A : HH g h7 [.Ak (some h4.size) 117 ([.str p0, .str p1]), _, _, _, _, .Ak r1 117 (Ak AE (p4 ++ ([(⟨p0, p1⟩ : AB)] : List AB)))] F := A1
 replace A := A.k5 1 2 3 4 5
 refine Ae 21 _ _ H (fun fr => .of (IT (s := EF rp4_0 p4.length) (by kernel_rfl) hx)) fun fr t H => ?_
 obtain ⟨h8, hx, A1⟩ := A.st 3 rfl (o := 0) (new := [Af r1 ((p4 ++ ([(⟨p0, p1⟩ : AB)] : List AB)).length)]) (ds := [Af r1 ((p4 ++ ([(⟨p0, p1⟩ : AB)] : List AB)).length)]) (Nat.le_of_ble_eq_true rfl) rfl rfl
 replace A : HH g h8 [_, _, _, .obj bp4 (.cells none 2 [Af r1 ((p4 ++ ([(⟨p0, p1⟩ : AB)] : List AB)).length)]), _] F := A1
 refine JB hx H fun fr t H => ?_
 refine at_nil ?_
 obtain ⟨rfl, rfl⟩ := BD hm
 refine ⟨.inr rfl, .tuple [], rH H, ?_⟩
 replace A := A.k4 1 2 3 4
 exact ⟨r1, rfl, A⟩
def FE (p0 : AJ) (p1 : Int) : Option (AJ) :=
 some (⟨p0.Name, p0.AU, p0.Kind, p0.Mode, p0.BP, p0.BQ, p1, p0.Time, p0.AN, p0.AO, p0.Aa, p0.Ag, p0.Form⟩ : AJ)
theorem KY {p0 p1 bp0 bp1 u0} (hm : FE p0 p1 = some u0) (A : HH g h [.obj bp0 (.cells none 2 (AF p0)), .obj bp1 (.cells none 2 [Ai p1])] F) (hc : BG (cfg.still 128) av = [.ptr (some (bp0, 0)), .ptr (some (bp1, 0))] := by kernel_rfl) : ∃ v h', BH cfg g h 128 av v h' ∧ v = .tuple [] ∧ HH g h' [.obj bp0 (.cells none 2 (AF u0)), .obj bp1 (.cells none 2 [Ai p1])] F := by
 refine ES 7 [] hc ?_
 clear hc
 unfold FE at hm
 refine bg 7 [(0, .ptr (some (bp0, 0))), (1, .ptr (some (bp1, 0)))] fun fr H => ?_
 refine CX 5 (AV 1 [(3, .ptr (some (bp0, 0)))] 4 1 0 A H fun fr t H => ?_)
 obtain ⟨h1, hx, A⟩ := A.s0 6 [Ai p1] [_, _, _, _, _, _, _, _, _, _, _, _, _]
 refine CF 2 [] hx H fun fr t H => ?_
 refine at_nil ?_
 obtain rfl := An hm
 refine ⟨.inr rfl, .tuple [], rH H, ?_⟩
 exact ⟨rfl, A⟩
end
end Go.Av.L
