/-
 A part.
-/
import Derived.Test.YtlljeoogceblmaaGreatDoorKCfg
import Derived.Test.YtlljeoogceblmaaGreatDoorK0
namespace Go.Av.L
open Go.Av Go.Lib
open IntKind (i64)
set_option maxRecDepth 10000
set_option linter.unusedVariables false
set_option linter.unusedSimpArgs false
variable {g : Gd} {h : AF} {F : List Ck} {av : List AB}
noncomputable section
def Cy (p0 : AL) (s : Int) : Option ((Int) ⊕ ((Unit) ⊕ (Int))) :=
 match s with
 | x1 => Ao (decide (x1 < (([p0.Name, p0.A9, p0.Ah, p0.Aj] : List (List UInt8)).length : Int))) ((Ii ([p0.Name, p0.A9, p0.Ah, p0.Aj] : List (List UInt8)) x1).bind fun x3 => (Ch x3 (0 : Int)).bind fun x4 => Ao (decide (x4 ≥ 0)) (some (.inr (.inr (2 : Int)))) (some (.inl (i64.wrap (x1 + 1))))) (some (.inr (.inl ())))
def DL (pp : Int × (List UInt8)) (s : Bool) : Option ((Bool) ⊕ (Unit)) :=
 match s with
 | z1 => (Ao z1 ((DF).bind fun x8 => (Ii ([x8.w0, x8.w1, x8.w2, x8.w3, x8.w4, x8.w5, x8.w6, x8.w7, x8.w8, x8.w9, x8.SR, x8.Sj] : List Ay) pp.1).bind fun x9 => some (decide ((pp.2.length : Int) ≤ x9.Ar))) (some false) : Option (Bool)).bind fun x7 => some (.inl x7)
def Dl (pp : Int × Int) (s : Unit) : Option ((Unit) ⊕ (Int)) :=
 match s with
 | _ => (DF).bind fun x11 => (Ii ([x11.w0, x11.w1, x11.w2, x11.w3, x11.w4, x11.w5, x11.w6, x11.w7, x11.w8, x11.w9, x11.SR, x11.Sj] : List Ay) pp.1).bind fun x12 => (Cp pp.2 x12.Ar).bind fun (x13, x14) => Ao (!x14) (some (.inr (6 : Int))) (some (.inl ()))
def XG (k : Int) : Int := if k = 0 ∨ k = 6 then 100 else if k = 11 then 155 else 32
theorem XB {k : Nat} (hk : k ≤ 11) : OI .i64 (1 : Int) ((3 * k : Nat) : Int) = 8 ^ k := by
 have : k = 0 ∨ k = 1 ∨ k = 2 ∨ k = 3 ∨ k = 4 ∨ k = 5 ∨ k = 6 ∨ k = 7 ∨ k = 8 ∨ k = 9 ∨ k = 10 ∨ k = 11 := by omega
 rcases this with rfl | rfl | rfl | rfl | rfl | rfl | rfl | rfl | rfl | rfl | rfl | rfl <;> rfl
def TF : Nat → Nat → List UInt8
 | _, 0 => []
 | v, k + 1 => TF (v / 8) k ++ [UInt8.ofNat (48 + v % 8)]
theorem Md : ∀ (k v : Nat), (TF v k).length = k
 | 0, v => rfl
 | k + 1, v => by simp [TF, Md k (v / 8)]
theorem W4 (v : Nat) (T : v < 9223372036854775808) : VT .i64 (v : Int) 7 = ((v % 8 : Nat) : Int) := by
 unfold VT
 have e1 : (BitVec.ofInt 64 (v : Int)).toNat = v := by rw [BitVec.toNat_ofInt]; omega
 show i64.wrap ((BitVec.ofInt 64 (v : Int) &&& BitVec.ofInt 64 7).toNat : Int) = _
 rw [BitVec.toNat_and, e1, show (BitVec.ofInt 64 7).toNat = 2 ^ 3 - 1 from rfl, Nat.and_two_pow_sub_one_eq_mod, RC (by omega) (by omega)]
theorem WX (v : Nat) : UC .i64 (v : Int) 3 = ((v / 8 : Nat) : Int) := by
 unfold UC
 rw [show (2 : Int) ^ (min (3 : Int).toNat i64.bits) = 8 from rfl, Int.fdiv_eq_ediv_of_nonneg _ (by omega)]
 omega
theorem SV : ∀ (k v : Nat) (t : List UInt8), v < 9223372036854775808 → k ≤ 1000 → loop EM (List.replicate k 0 ++ t, (v : Int), (k : Int) - 1) = some (TF v k ++ t)
 | 0, v, t, T, hk => by
  refine De ?_
  rw [EM]
  rfl
 | k + 1, v, t, T, hk => by
  have e : ((k + 1 : Nat) : Int) - 1 = (k : Int) := by omega
  rw [e]
  refine (B9 (s' := (List.replicate k 0 ++ (UInt8.ofNat (48 + v % 8) :: t), ((v / 8 : Nat) : Int), (k : Int) - 1)) ?_).trans ?_
  ·rw [EM, decide_eq_true (by omega), Bw, V2 (by simp; omega), Option.bind_some, W4 v T, RC (x := 48 + ((v % 8 : Nat) : Int)) (by omega) (by omega), Zm (by omega) (by omega)]
   have et : XX (48 + ((v % 8 : Nat) : Int)) = some (UInt8.ofNat (48 + v % 8)) := by
    unfold XX
    rw [if_pos (by omega)]
    congr 2
   rw [et, Option.bind_some, WX, RC (by omega) (by omega), Int.toNat_natCast]
   congr 3
   rw [List.replicate_succ', List.append_assoc, List.set_append_right _ _ (by simp)]
   simp
  ·rw [SV k (v / 8) _ (by omega) (by omega), TF, List.append_assoc]
   rfl
def Vf (v : Nat) (n : Nat) : List UInt8 := TF v (n - 1) ++ [0]
theorem Qe {v n : Nat} (h : 1 ≤ n) : (Vf v n).length = n := by simp [Vf, Md]; omega
theorem VN {k : Nat} (hk : k ≤ 11) : (8 : Int) ^ k ≤ 8589934592 := by
 have : k = 0 ∨ k = 1 ∨ k = 2 ∨ k = 3 ∨ k = 4 ∨ k = 5 ∨ k = 6 ∨ k = 7 ∨ k = 8 ∨ k = 9 ∨ k = 10 ∨ k = 11 := by omega
 rcases this with rfl | rfl | rfl | rfl | rfl | rfl | rfl | rfl | rfl | rfl | rfl | rfl <;> decide
theorem Lq (v : Int) {k : Nat} (hk : 1 ≤ k) (hk2 : k ≤ 11) :
  Cp v ((k + 1 : Nat) : Int) = some (if 0 ≤ v ∧ v < 8 ^ k then (Vf v.toNat (k + 1), true) else ([], false)) := by
 unfold Cp Gk
 rw [Option.bind_some, decide_eq_true (p := ((k + 1 : Nat) : Int) ≥ 2) (by omega), decide_eq_true (p := ((k + 1 : Nat) : Int) ≤ 12) (by omega), Bool.and_self, Bool.not_true, Bool.false_or, N8]
 by_cases h0 : v < 0
 ·rw [if_pos h0, Option.bind_some, Bw, if_neg (by omega)]
 ·have e1 : ((k + 1 : Nat) : Int) - 1 = (k : Int) := by omega
  rw [if_neg h0, e1, RC (x := (k : Int)) (by omega) (by omega), show (3 : Int) * (k : Int) = ((3 * k : Nat) : Int) by omega, RC (x := ((3 * k : Nat) : Int)) (by omega) (by omega), XB hk2, decide_eq_true (p := (0 : Int) ≤ ((3 * k : Nat) : Int)) (by omega), Ov, Option.bind_some, N8]
  by_cases I : v ≥ 8 ^ k
  ·rw [if_pos I, if_neg (by omega)]
  ·have hp := VN hk2
   obtain ⟨m, rfl⟩ := Int.eq_ofNat_of_zero_le (show 0 ≤ v by omega)
   have hk3 : ((k + 1 : Nat) : Int) - 2 = (k : Int) - 1 := by omega
   rw [if_neg I, if_pos (by omega), show TH 1 ((k + 1 : Nat) : Int) = true from decide_eq_true (by omega), Ov, hk3, RC (by omega) (by omega), Int.toNat_natCast, List.replicate_succ', SV k m [0] (by omega) (by omega), Option.bind_some]
   rfl
theorem Hi {a : Int × List UInt8} (h : a.1 = 0 ∨ a.1 = 11 ∨ a.1 = 6 ∨ a.1 = 7 ∨ a.1 = 8) (z : Bool) :
  DL a z = some (.inl (z && decide ((a.2.length : Int) ≤ XG a.1))) := by
 obtain ⟨k, s⟩ := a
 dsimp only at h
 rcases h with rfl | rfl | rfl | rfl | rfl <;> cases z <;> rfl
theorem Q1 {p0 : AL} {l : List (Int × List UInt8)} {b : Bool} (X : CV p0 = some (l, b)) : ∃ p q, H6 p0.Name = some (p, q, b) ∧ l = [(0, q), (11, p), (6, p0.A9), (7, p0.Ah), (8, p0.Aj)] := by
 unfold CV at X
 obtain ⟨⟨p, q, r⟩, h1, h2⟩ := bind_some X
 dsimp only at h2
 have := Option.some.inj h2
 obtain ⟨e1, e2⟩ := Prod.mk.inj this
 subst e2
 exact ⟨p, q, h1, e1.symm⟩
theorem Hl {p0 : AL} {l : List (Int × List UInt8)} {b : Bool} (X : CV p0 = some (l, b)) : ∀ a ∈ l, a.1 = 0 ∨ a.1 = 11 ∨ a.1 = 6 ∨ a.1 = 7 ∨ a.1 = 8 := by
 obtain ⟨p, q, _, rfl⟩ := Q1 X
 intro a U
 simp only [List.mem_cons, List.not_mem_nil, or_false] at U
 rcases U with rfl | rfl | rfl | rfl | rfl <;> simp
theorem O8 {p0 : AL} {l : List (Int × Int)} (X : DD p0 = some l) : l = [(1, p0.Mode), (2, p0.Cz), (3, p0.Ct), (4, p0.Bg), (5, p0.Time), (9, p0.Au), (10, p0.As)] := (Option.some.inj X).symm
theorem Mb {p0 : AL} {l : List (Int × Int)} (X : DD p0 = some l) : ∀ a ∈ l, a.1 = 1 ∨ a.1 = 2 ∨ a.1 = 3 ∨ a.1 = 4 ∨ a.1 = 5 ∨ a.1 = 9 ∨ a.1 = 10 := by
 rw [O8 X]
 intro a U
 simp only [List.mem_cons, List.not_mem_nil, or_false] at U
 rcases U with rfl | rfl | rfl | rfl | rfl | rfl | rfl <;> simp
theorem Gw {p0 : AL} {l : List (Int × List UInt8)} {b : Bool} (X : CV p0 = some (l, b)) : ∀ l', l'.Perm l → CZ DL l' b = CZ DL l b := by
 have hk := Hl X
 refine fun l' hl' => K5 (fun _ => True) (fun _ _ _ _ _ _ => trivial) (fun a U c hc s _ => ?_) l' hl' b trivial
 unfold RQ
 rw [Hi (hk a U), Hi (hk c hc)]
 dsimp only
 rw [Hi (hk c hc), Hi (hk a U), Bool.and_right_comm]
theorem PA : ∀ (l : List (Int × List UInt8)) (z : Bool), (∀ a ∈ l, a.1 = 0 ∨ a.1 = 11 ∨ a.1 = 6 ∨ a.1 = 7 ∨ a.1 = 8) → CZ DL l z = some (.inl (z && l.all fun a => decide ((a.2.length : Int) ≤ XG a.1)))
 | [], z, _ => by simp [CZ]
 | a :: l, z, h => by
  rw [CZ, Hi (h a (by simp))]
  dsimp only
  rw [PA l _ fun c hc => h c (by simp [hc]), List.all_cons, Bool.and_assoc]
def Sy (a : Int × Int) : Bool := decide (0 ≤ a.2 ∧ a.2 < (if a.1 = 4 ∨ a.1 = 5 then 8589934592 else 2097152))
theorem I6 {a : Int × Int} (h : a.1 = 1 ∨ a.1 = 2 ∨ a.1 = 3 ∨ a.1 = 4 ∨ a.1 = 5 ∨ a.1 = 9 ∨ a.1 = 10) : Dl a () = some (if Sy a then .inl () else .inr 6) := by
 obtain ⟨k, v⟩ := a
 dsimp only at h
 have e8 := Lq v (k := 7) (by omega) (by omega)
 have e12 := Lq v (k := 11) (by omega) (by omega)
 have p8 : (8 : Int) ^ 7 = 2097152 := rfl
 have p12 : (8 : Int) ^ 11 = 8589934592 := rfl
 rw [p8] at e8
 rw [p12] at e12
 have g8 : (Cp v 8).bind (fun (x : List UInt8 × Bool) => match x with | (x13, x14) => Ao (!x14) (some (.inr (6 : Int))) (some (.inl ()))) = some (if decide (0 ≤ v ∧ v < 2097152) then (.inl () : Unit ⊕ Int) else .inr 6) := by
  rw [show (8 : Int) = ((7 + 1 : Nat) : Int) from rfl, e8, Option.bind_some]
  by_cases T : 0 ≤ v ∧ v < 2097152
  ·simp [T]
  ·simp only [if_neg T, decide_eq_false T]; rfl
 have g12 : (Cp v 12).bind (fun (x : List UInt8 × Bool) => match x with | (x13, x14) => Ao (!x14) (some (.inr (6 : Int))) (some (.inl ()))) = some (if decide (0 ≤ v ∧ v < 8589934592) then (.inl () : Unit ⊕ Int) else .inr 6) := by
  rw [show (12 : Int) = ((11 + 1 : Nat) : Int) from rfl, e12, Option.bind_some]
  by_cases T : 0 ≤ v ∧ v < 8589934592
  ·simp [T]
  ·simp only [if_neg T, decide_eq_false T]; rfl
 rcases h with rfl | rfl | rfl | rfl | rfl | rfl | rfl
 ·exact g8
 ·exact g8
 ·exact g8
 ·exact g12
 ·exact g12
 ·exact g8
 ·exact g8
theorem Gz {p0 : AL} {l : List (Int × Int)} (X : DD p0 = some l) : ∀ l', l'.Perm l → CZ Dl l' () = CZ Dl l () := by
 have hk := Mb X
 refine fun l' hl' => K5 (fun _ => True) (fun _ _ _ _ _ _ => trivial) (fun a U c hc s _ => ?_) l' hl' () trivial
 unfold RQ
 rw [I6 (hk a U), I6 (hk c hc)]
 cases h1 : Sy a <;> cases h2 : Sy c <;> simp [I6 (hk a U), I6 (hk c hc), h1, h2]
def B7 (p0 : AL) : Option (Int) :=
 (loop (Cy p0) (0 : Int)).bind fun o1 => (match o1 with | .inl _ => (CV p0).bind fun (x5, x6) => (CZ (DL) x5 x6).bind fun o => (match o with | .inl z2 => Ao (!z2) (some (12 : Int)) ((DD p0).bind fun x10 => (CZ (Dl) x10 ()).bind fun o => (match o with | .inl _ => some (0 : Int) | .inr y1 => some y1)) | .inr _ => none) | .inr x2 => some x2)
theorem C5 {p0 q0} (M : B7 p0 = some q0) (A : HH g h [] F) (hc : BP (cfg.still 70) av = [.agg (AK p0)] := by kernel_rfl) : ∃ v Q, BZ cfg g h 70 av v Q ∧ v = Ai q0 ∧ HH g Q [] F := by
 refine Sd (n := 74) (rs := [.tmp 2]) (by kernel_rfl) hc (by kernel_rfl) ?_
 clear hc
 unfold B7 at M
 refine TW (n := 74) [(0, .agg (AK p0))] (by kernel_rfl) (by kernel_rfl) ?_
 intro D H
 refine FK ?_
 refine IT ?_
 refine CE 2 ?_
 obtain ⟨h1, e1, A⟩ := A.pu (.cells none 2 (AK p0))
 refine BU 1 (.ptr (some (h.size, 0))) e1 H fun D t H => ?_
 refine AO 1 [] H fun D H => at_nil ?_
 show Og cfg 70 g (right (DS cfg.P 70)) D h1 _
 refine FK ?_
 refine IT ?_
 refine AH 11 (AX 1 [] 14 0 0 A H fun D t H => ?_)
 refine AX 1 [] 16 0 1 A H fun D t H => ?_
 refine AX 1 [] 18 0 8 A H fun D t H => ?_
 refine AX 1 [] 20 0 9 A H fun D t H => ?_
 obtain ⟨h2, e2, A⟩ := A.pL 9 [.str p0.Name, .str p0.A9, .str p0.Ah, .str p0.Aj]
 refine BU 21 (AP (some h1.size) (([p0.Name, p0.A9, p0.Ah, p0.Aj] : List (List UInt8)).length)) e2 H fun D t H => ?_
 refine AN 2 [(22, Ai (([p0.Name, p0.A9, p0.Ah, p0.Aj] : List (List UInt8)).length : Int)), (23, Ai 0)] H fun D H => Aa (id := 0) (by kernel_rfl) ?_
 replace A : HH g h2 [.AQ (some h1.size) 9 (AQ eS ([p0.Name, p0.A9, p0.Ah, p0.Aj] : List (List UInt8))), .obj h.size (.cells none 2 (AK p0))] F := A
 obtain ⟨o1, O, M⟩ := bind_some M
 refine Bb (Q' := fun e N Q => (e = .exit 0 ∧ .inl () = o1 ∧ Has N 74 [(1, .ptr (some (h.size, 0)))] ∧ HH g Q [.obj h.size (.cells none 2 (AK p0))] F) ∨ (∃ x2, e = .ret ∧ .inr x2 = o1 ∧ Has N 74 [(2, Ai x2)] ∧ HH g Q [.obj h.size (.cells none 2 (AK p0))] F) ∨ False) ?_ ?_
 ·refine C2 (by kernel_rfl) (fun (s : Int) N Q => ∃ x1, x1 = s ∧ Has N 74 [(1, .ptr (some (h.size, 0))), (21, AP (some h1.size) (([p0.Name, p0.A9, p0.Ah, p0.Aj] : List (List UInt8)).length)), (22, Ai (([p0.Name, p0.A9, p0.Ah, p0.Aj] : List (List UInt8)).length : Int)), (23, Ai x1)] ∧ HH g Q [.AQ (some h1.size) 9 (AQ eS ([p0.Name, p0.A9, p0.Ah, p0.Aj] : List (List UInt8))), .obj h.size (.cells none 2 (AK p0))] F) O ⟨_, rfl, H.ls, A⟩ ?_
  clear O M H A
  intro s q D I hI M
  obtain ⟨x1, rfl, H, A⟩ := hI
  unfold Cy at M
  refine AH 1 (AN 1 [(24, .bool (decide (x1 < (([p0.Name, p0.A9, p0.Ah, p0.Aj] : List (List UInt8)).length : Int))))] H fun D H => AS (Ac 24 H M (fun B M H => ?_) fun B M H => ?_))
  ·refine CT id (AS (Aa (id := 1) (by kernel_rfl) ?_))
   refine AH 3 ?_
   obtain ⟨x3, X, M⟩ := bind_some M
   obtain ⟨i1, er1, _, X, hq1⟩ := HH.Ra encS (by decide) A 0 (xs := ([p0.Name, p0.A9, p0.Ah, p0.Aj] : List (List UInt8))) rfl X
   refine Ae 25 (.ptr (some (i1, x1.toNat * 1))) I H (fun D => .of (G1 (s := CF (some h1.size) (([p0.Name, p0.A9, p0.Ah, p0.Aj] : List (List UInt8)).length)) (by kernel_rfl) X)) fun D t H => ?_
   refine Ae 26 _ _ H (fun D => .of (Ib (by kernel_rfl) (Lb encS (HH.row A 0 rfl er1) hq1 (o := 0) rfl))) fun D t H => ?_
   refine B5 1 [(4, .str x3)] 3 H fun D H => ?_
   obtain ⟨x4, X, M⟩ := bind_some M
   obtain ⟨v1, G, R, rfl, E⟩ := Er (av := [.str x3, Ab 0]) X (A.cut 0)
   replace A := A.Dx E
   refine BC 1 [] 28 R H fun D t H => ?_
   refine AN 1 [(29, .bool (decide (x4 ≥ 0)))] H fun D H => Ac 29 H M (fun B M H => ?_) fun B M H => ?_
   ·refine AH 1 (AN 1 [(2, Ai 2)] H fun D H => AZ ?_)
    replace A := A.k1 1
    exact nr M fun e => Or.inr (.inl ⟨_, rfl, e, H.ls, A⟩)
   refine EX 2 id (Bv 2 [(1, .ptr (some (h.size, 0))), (21, AP (some h1.size) (([p0.Name, p0.A9, p0.Ah, p0.Aj] : List (List UInt8)).length)), (22, Ai (([p0.Name, p0.A9, p0.Ah, p0.Aj] : List (List UInt8)).length : Int)), (23, Ai (i64.wrap (x1 + 1)))] H fun D H => at_nil ?_)
   exact nx M ⟨_, rfl, H.ls, A⟩
  refine Bp (i := 0) (by kernel_rfl) ?_
  replace A := A.k1 1
  exact nr M fun e => .inl ⟨rfl, e, H.ls, A⟩
 clear O
 clear A
 intro e D Z hQ
 rcases hQ with ⟨rfl, rfl, H, A⟩ | ⟨x2, rfl, rfl, H, A⟩ | hF
 ·show Og cfg 70 g (right (right (DS cfg.P 70))) D Z _
  refine FK ?_
  refine IT ?_
  refine CE 7 (Ae 32 _ _ H (fun D => .of (BX (by kernel_rfl) (A.Ef 0 rfl (o := 0) (n := 13) ⟨Nat.le_of_ble_eq_true rfl, rfl⟩))) fun D t H => ?_)
  obtain ⟨⟨x5, x6⟩, X, M⟩ := bind_some M
  obtain ⟨v1, W, R, bqw2, rfl, E⟩ := Ja (av := [.agg (AK p0)]) X (A.cut 0)
  replace A := A.VA E
  refine BM 33 R H fun D t H => ?_
  refine AO 5 [(5, .map (some bqw2)), (6, .bool x6)] H fun D H => at_nil ?_
  show Og cfg 70 g (right (right (right (DS cfg.P 70)))) D W _
  refine FK ?_
  refine M7 1 [37, 1, 6] [] none ?_
  refine AO 1 [(36, .map (some bqw2))] H fun D H => at_nil ?_
  obtain ⟨o2, O, M⟩ := bind_some M
  refine QI (step := DL) (l := x5) (s0 := x6) (x0 := o2) (enc := fun p => ((fun k : Int => Ai k) p.1, (fun v : List UInt8 => .str v) p.2)) (V := (fun (z1 : Bool) => [(1, .ptr (some (h.size, 0))), (6, .bool z1)])) (Y := (fun (s : Unit) => [])) 0 37 38 40 4 122 3 9 (.tmp 36) A H O (by first | exact Gw | (apply Gw <;> assumption)) rfl (fun D => by kernel_rfl) (fun D => by kernel_rfl) (fun _ => rfl) (fun _ => rfl) (fun s => by exact (I5.cons (A.XF 1 rfl _) (I5.cons rfl I5.nil))) (fun s => by exact I5.nil) ?_ ?_ ?_
  ·clear O M H A
   intro pp hpp s x M D K it g F A H
   obtain ⟨z1, S⟩ : ∃ z, z = s := ⟨_, rfl⟩
   subst S
   unfold DL at M
   replace H := H.less [(1, .ptr (some (h.size, 0))), (6, .bool z1), (37, it), (40, .tuple [Ai pp.1, .str pp.2])] (fun D => by kernel_rfl)
   refine RW 4 [(7, Ai pp.1), (8, .str pp.2)] 11 H fun D H => AO 2 [(44, .bool z1)] H fun D H => ?_
   obtain ⟨x7, O, M⟩ := bind_some M
   refine Bi 8 (fun N Q => Has N 74 [(1, .ptr (some (h.size, 0))), (37, it), (52, .bool x7)] ∧ HH g Q [] F) ?_ ?_
   ·rcases BT O with ⟨B, M⟩ | ⟨B, M⟩
    ·replace H := H.kn 44 B
     obtain ⟨x8, X, M⟩ := bind_some M
     obtain ⟨v1, h9, R, rfl, E⟩ := Dk (av := []) X (A.cut 0)
     replace A := A.Dx E
     refine BC 2 [(46, Ai (pp.2.length : Int))] 47 R H fun D t H => ?_
     obtain ⟨x9, hq2, M⟩ := bind_some M
     refine B0 1 [] 49 (.agg [Ai x9.from_, Ai x9.Ar]) h9 H (fun D => .of (KW (e := DQ) (x := x9) DO [x8.w0, x8.w1, x8.w2, x8.w3, x8.w4, x8.w5, x8.w6, x8.w7, x8.w8, x8.w9, x8.SR, x8.Sj] (by kernel_rfl) rfl rfl hq2)) fun D t H => ?_
     refine AO 3 [(52, .bool (decide ((pp.2.length : Int) ≤ x9.Ar)))] H fun D H => ?_
     obtain rfl := BB M
     exact at_nil ⟨H.ls, A⟩
    replace H := H.kn 44 B
    refine AO 8 [(52, .bool false)] H fun D H => ?_
    obtain rfl := BB M
    exact at_nil ⟨H.ls, A⟩
   clear A
   intro t D J hK
   obtain ⟨H, A⟩ := hK
   refine AO 1 [(6, .bool x7)] H fun D H => at_nil ?_
   exact .inl ⟨.inl rfl, _, (Option.some.inj M).symm, H.ls⟩
  ·intro s hs D h10 A H
   subst hs
   obtain ⟨z2, S⟩ : ∃ z, z = s := ⟨_, rfl⟩
   subst S
   replace H := H.less [(1, .ptr (some (h.size, 0))), (6, .bool z2)] (fun D => by kernel_rfl)
   show Og cfg 70 g (right (right (right (right (DS cfg.P 70))))) D h10 _
   refine FK ?_
   refine IT ?_
   refine AH 2 (AN 2 [(54, .bool (!z2))] H fun D H => Ac 54 H M (fun B M H => ?_) fun B M H => ?_)
   ·refine AH 1 (AN 1 [(2, Ai 12)] H fun D H => AZ ?_)
    obtain rfl := BB M
    refine ⟨.inl rfl, Ai 12, rH H, ?_⟩
    replace A := A.d0
    exact ⟨rfl, A⟩
   refine EJ ?_
   show Og cfg 70 g (right (right (right (right (right (DS cfg.P 70)))))) D h10 _
   refine FK ?_
   refine M7 2 [57] [2] none ?_
   refine Ae 55 _ _ H (fun D => .of (BX (by kernel_rfl) (A.Ef 0 rfl (o := 0) (n := 13) ⟨Nat.le_of_ble_eq_true rfl, rfl⟩))) fun D t H => ?_
   obtain ⟨x10, X, M⟩ := bind_some M
   obtain ⟨v1, h11, R, bqw5, rfl, E⟩ := Is (av := [.agg (AK p0)]) X (A.cut 0)
   replace A := A.VA E
   refine BM 56 R H fun D t H => ?_
   refine at_nil ?_
   obtain ⟨o3, O, M⟩ := bind_some M
   refine QI (step := Dl) (l := x10) (s0 := ()) (x0 := o3) (enc := fun p => ((fun k : Int => Ai k) p.1, (fun v : Int => Ai v) p.2)) (V := (fun (s : Unit) => [])) (Y := (fun (y1 : Int) => [(2, Ai y1)])) 0 57 58 60 4 129 3 3 (.tmp 56) A H O (by first | exact Gz | (apply Gz <;> assumption)) rfl (fun D => by kernel_rfl) (fun D => by kernel_rfl) (fun _ => rfl) (fun _ => rfl) (fun s => by exact I5.nil) (fun s => by exact (I5.cons rfl I5.nil)) ?_ ?_ ?_
   ·clear O M H A
    intro pp hpp s x M D h12 it g F A H
    unfold Dl at M
    replace H := H.less [(57, it), (60, .tuple [Ai pp.1, Ai pp.2])] (fun D => by kernel_rfl)
    refine B5 4 [(9, Ai pp.1), (10, Ai pp.2)] 11 H fun D H => ?_
    obtain ⟨x11, X, M⟩ := bind_some M
    obtain ⟨v1, h13, R, rfl, E⟩ := Dk (av := []) X (A.cut 0)
    replace A := A.Dx E
    refine BC 1 [(64, Ai pp.2)] 65 R H fun D t H => ?_
    obtain ⟨x12, hq3, M⟩ := bind_some M
    refine B0 1 [] 67 (.agg [Ai x12.from_, Ai x12.Ar]) h13 H (fun D => .of (KW (e := DQ) (x := x12) DO [x11.w0, x11.w1, x11.w2, x11.w3, x11.w4, x11.w5, x11.w6, x11.w7, x11.w8, x11.w9, x11.SR, x11.Sj] (by kernel_rfl) rfl rfl hq3)) fun D t H => ?_
    obtain ⟨⟨x13, x14⟩, X, M⟩ := bind_some M
    obtain ⟨v1, h14, R, rfl, E⟩ := HK (av := [Ai pp.2, Ai x12.Ar]) X (A.cut 0)
    replace A := A.Dx E
    refine BC 1 [] 69 R H fun D t H => ?_
    refine B5 5 [(12, .bool x14)] 2 H fun D H => AN 2 [(73, .bool (!x14))] H fun D H => Ac 73 H M (fun B M H => ?_) fun B M H => ?_
    ·refine AH 1 (AN 1 [(2, Ai 6)] H fun D H => AZ ?_)
     exact .inr ⟨rfl, _, (Option.some.inj M).symm, H.ls⟩
    exact EJ (.inl ⟨.inl rfl, _, (Option.some.inj M).symm, H.ls⟩)
   ·intro s hs D h15 A H
    subst hs
    replace H := H.less [] (fun D => by kernel_rfl)
    show Og cfg 70 g (right (right (right (right (right (right (DS cfg.P 70))))))) D h15 _
    refine IT ?_
    refine AH 1 (AN 1 [(2, Ai 0)] H fun D H => AZ ?_)
    obtain rfl := BB M
    refine ⟨.inl rfl, Ai 0, rH H, ?_⟩
    replace A := A.d0
    exact ⟨rfl, A⟩
   intro s hs D h16 A H
   subst hs
   obtain ⟨y1, S⟩ : ∃ z, z = s := ⟨_, rfl⟩
   subst S
   replace H := H.less [(2, Ai y1)] (fun D => by kernel_rfl)
   obtain rfl := BB M
   refine ⟨.inl rfl, Ai y1, rH H, ?_⟩
   replace A := A.d0
   exact ⟨rfl, A⟩
  intro s hs D R A H
  subst hs
  cases M
 ·obtain rfl := BB M
  refine ⟨.inl rfl, Ai x2, rH H, ?_⟩
  replace A := A.d0
  exact ⟨rfl, A⟩
 exact hF.elim
def ES (p0 : List UInt8) (p1 : List UInt8) (p2_10 : AG) (p3 : AL) (p4 : List AA) : Option (AL × (List AA)) :=
 (FY p3 p2_10).bind fun x1 => (B7 x1).bind fun x2 => Ao (x2 == 0) (some (x1, p4)) (Cl (Hs 32 (p4.length + ([(⟨p0, p1⟩ : AA)] : List AA).length)) <| some (p3, (p4 ++ ([(⟨p0, p1⟩ : AA)] : List AA))))
theorem IM {p0 p1 p2_10 p3 p4 bp2_10 bp3 bp4 rp4_0 u1 u3} (M : ES p0 p1 p2_10 p3 p4 = some (u1, u3)) (A : HH g h [.obj bp2_10 (.cells none 2 (AE p2_10)), .obj bp3 (.cells none 2 (AK p3)), .obj bp4 (.cells none 2 [AP rp4_0 p4.length]), .AQ rp4_0 117 (AQ AJ p4)] F) (hc : BP (cfg.still 120) av = [.str p0, .str p1, .func (.func 122) [] [.ptr (some (bp2_10, 0))], .ptr (some (bp3, 0)), .ptr (some (bp4, 0))] := by kernel_rfl) : ∃ v Q, BZ cfg g h 120 av v Q ∧ ∃ (r'3 : Option Nat), v = .tuple [] ∧ HH g Q [.obj bp2_10 (.cells none 2 (AE p2_10)), .obj bp3 (.cells none 2 (AK u1)), .obj bp4 (.cells none 2 [AP r'3 u3.length]), .AQ r'3 117 (AQ AJ u3)] F := by
 refine EE 22 [] hc ?_
 clear hc
 unfold ES at M
 refine bg 22 [(0, .str p0), (1, .str p1), (2, .func (.func 122) [] [.ptr (some (bp2_10, 0))]), (3, .ptr (some (bp3, 0))), (4, .ptr (some (bp4, 0)))] fun D H => ?_
 refine AH 3 (Ae 9 _ _ H (fun D => .of (BX (by kernel_rfl) (A.Ef 1 rfl (o := 0) (n := 13) ⟨Nat.le_of_ble_eq_true rfl, rfl⟩))) fun D t H => ?_)
 obtain ⟨h1, e1, A⟩ := A.pu (.cells none 2 [.str ([] : UV), .str ([] : UV), Ab 0, Ai 0, Ai 0, Ai 0, Ai 0, Ai 0, .str ([] : UV), .str ([] : UV), Ai 0, Ai 0, Ai 0])
 refine BU 8 (.ptr (some (h.size, 0))) e1 H fun D t H => ?_
 obtain ⟨h2, X, A⟩ := A.s0 0 (AK p3) [_, _, _, _, _, _, _, _, _, _, _, _, _]
 refine C9 X H fun D t H => ?_
 refine Bq id (AS (AH 2 ?_))
 obtain ⟨x1, X, M⟩ := bind_some M
 obtain ⟨v1, I, R, rfl, E⟩ := Kg (av := [.ptr (some (h.size, 0)), .ptr (some (bp2_10, 0))]) X (A.cut 2)
 replace A := A.g22 E
 refine El 1 [] R H fun D t H => ?_
 refine Bs 3 id (Ae 12 _ _ H (fun D => .of (BX (by kernel_rfl) (A.Ef 0 rfl (o := 0) (n := 13) ⟨Nat.le_of_ble_eq_true rfl, rfl⟩))) fun D t H => ?_)
 obtain ⟨x2, X, M⟩ := bind_some M
 obtain ⟨v1, G, R, rfl, E⟩ := C5 (av := [.agg (AK x1)]) X (A.cut 0)
 replace A := A.Dx E
 refine BM 13 R H fun D t H => ?_
 refine AN 1 [(14, .bool (x2 == 0))] H fun D H => Ac 14 H M (fun B M H => ?_) fun B M H => ?_
 ·refine AH 2 (Ae 15 _ _ H (fun D => .of (BX (by kernel_rfl) (A.Ef 0 rfl (o := 0) (n := 13) ⟨Nat.le_of_ble_eq_true rfl, rfl⟩))) fun D t H => ?_)
  obtain ⟨Z, X, A⟩ := A.s2 0 (AK x1) [_, _, _, _, _, _, _, _, _, _, _, _, _]
  refine C9 X H fun D t H => ?_
  refine Bq id (AZ ?_)
  obtain ⟨rfl, rfl⟩ := B4 M
  refine ⟨.inl rfl, .tuple [], rH H, ?_⟩
  replace A := A.k4 1 2 3 4
  exact ⟨rp4_0, rfl, A⟩
 refine EX 7 id (Mg 16 3 0 A H fun D t H => ?_)
 refine AO 3 [(19, .agg [.str p0, .str p1])] H fun D H => ?_
 obtain ⟨W, e2, A⟩ := A.pL 117 [.str p0, .str p1]
 refine BU 20 (AP (some G.size) (([(⟨p0, p1⟩ : AA)] : List AA).length)) e2 H fun D t H => ?_
 obtain ⟨B, M⟩ := Aq M
 obtain ⟨r1, K, X, E⟩ := HH.FN BJ (by decide) A 5 (xs := p4) (ys := ([(⟨p0, p1⟩ : AA)] : List AA)) rfl (C0 A 0 rfl (n := ([(⟨p0, p1⟩ : AA)] : List AA).length) (z := 2) rfl (by decide)) rfl rfl B
 replace A : HH g K [.AQ (some G.size) 117 ([.str p0, .str p1]), _, _, _, _, .AQ r1 117 (AQ AJ (p4 ++ ([(⟨p0, p1⟩ : AA)] : List AA)))] F := E
 replace A := A.k5 1 2 3 4 5
 refine Ae 21 _ _ H (fun D => .of (DU (s := CF rp4_0 p4.length) (by kernel_rfl) X)) fun D t H => ?_
 obtain ⟨J, X, E⟩ := A.st 3 rfl (o := 0) (new := [AP r1 ((p4 ++ ([(⟨p0, p1⟩ : AA)] : List AA)).length)]) (ds := [AP r1 ((p4 ++ ([(⟨p0, p1⟩ : AA)] : List AA)).length)]) (Nat.le_of_ble_eq_true rfl) rfl rfl
 replace A : HH g J [_, _, _, .obj bp4 (.cells none 2 [AP r1 ((p4 ++ ([(⟨p0, p1⟩ : AA)] : List AA)).length)]), _] F := E
 refine JX X H fun D t H => ?_
 refine at_nil ?_
 obtain ⟨rfl, rfl⟩ := B4 M
 refine ⟨.inr rfl, .tuple [], rH H, ?_⟩
 replace A := A.k4 1 2 3 4
 exact ⟨r1, rfl, A⟩
def D5 (p0 : List UInt8) (p1 : List UInt8) (p2_10 : AG) (p3 : AL) (p4 : List AA) : Option (AL × (List AA)) :=
 (Fa p3 p2_10).bind fun x1 => (B7 x1).bind fun x2 => Ao (x2 == 0) (some (x1, p4)) (Cl (Hs 32 (p4.length + ([(⟨p0, p1⟩ : AA)] : List AA).length)) <| some (p3, (p4 ++ ([(⟨p0, p1⟩ : AA)] : List AA))))
theorem Hj {p0 p1 p2_10 p3 p4 bp2_10 bp3 bp4 rp4_0 u1 u3} (M : D5 p0 p1 p2_10 p3 p4 = some (u1, u3)) (A : HH g h [.obj bp2_10 (.cells none 2 (AE p2_10)), .obj bp3 (.cells none 2 (AK p3)), .obj bp4 (.cells none 2 [AP rp4_0 p4.length]), .AQ rp4_0 117 (AQ AJ p4)] F) (hc : BP (cfg.still 120) av = [.str p0, .str p1, .func (.func 123) [] [.ptr (some (bp2_10, 0))], .ptr (some (bp3, 0)), .ptr (some (bp4, 0))] := by kernel_rfl) : ∃ v Q, BZ cfg g h 120 av v Q ∧ ∃ (r'3 : Option Nat), v = .tuple [] ∧ HH g Q [.obj bp2_10 (.cells none 2 (AE p2_10)), .obj bp3 (.cells none 2 (AK u1)), .obj bp4 (.cells none 2 [AP r'3 u3.length]), .AQ r'3 117 (AQ AJ u3)] F := by
 refine EE 22 [] hc ?_
 clear hc
 unfold D5 at M
 refine bg 22 [(0, .str p0), (1, .str p1), (2, .func (.func 123) [] [.ptr (some (bp2_10, 0))]), (3, .ptr (some (bp3, 0))), (4, .ptr (some (bp4, 0)))] fun D H => ?_
 refine AH 3 (Ae 9 _ _ H (fun D => .of (BX (by kernel_rfl) (A.Ef 1 rfl (o := 0) (n := 13) ⟨Nat.le_of_ble_eq_true rfl, rfl⟩))) fun D t H => ?_)
 obtain ⟨h1, e1, A⟩ := A.pu (.cells none 2 [.str ([] : UV), .str ([] : UV), Ab 0, Ai 0, Ai 0, Ai 0, Ai 0, Ai 0, .str ([] : UV), .str ([] : UV), Ai 0, Ai 0, Ai 0])
 refine BU 8 (.ptr (some (h.size, 0))) e1 H fun D t H => ?_
 obtain ⟨h2, X, A⟩ := A.s0 0 (AK p3) [_, _, _, _, _, _, _, _, _, _, _, _, _]
 refine C9 X H fun D t H => ?_
 refine Bq id (AS (AH 2 ?_))
 obtain ⟨x1, X, M⟩ := bind_some M
 obtain ⟨v1, I, R, rfl, E⟩ := Kh (av := [.ptr (some (h.size, 0)), .ptr (some (bp2_10, 0))]) X (A.cut 2)
 replace A := A.g22 E
 refine El 1 [] R H fun D t H => ?_
 refine Bs 3 id (Ae 12 _ _ H (fun D => .of (BX (by kernel_rfl) (A.Ef 0 rfl (o := 0) (n := 13) ⟨Nat.le_of_ble_eq_true rfl, rfl⟩))) fun D t H => ?_)
 obtain ⟨x2, X, M⟩ := bind_some M
 obtain ⟨v1, G, R, rfl, E⟩ := C5 (av := [.agg (AK x1)]) X (A.cut 0)
 replace A := A.Dx E
 refine BM 13 R H fun D t H => ?_
 refine AN 1 [(14, .bool (x2 == 0))] H fun D H => Ac 14 H M (fun B M H => ?_) fun B M H => ?_
 ·refine AH 2 (Ae 15 _ _ H (fun D => .of (BX (by kernel_rfl) (A.Ef 0 rfl (o := 0) (n := 13) ⟨Nat.le_of_ble_eq_true rfl, rfl⟩))) fun D t H => ?_)
  obtain ⟨Z, X, A⟩ := A.s2 0 (AK x1) [_, _, _, _, _, _, _, _, _, _, _, _, _]
  refine C9 X H fun D t H => ?_
  refine Bq id (AZ ?_)
  obtain ⟨rfl, rfl⟩ := B4 M
  refine ⟨.inl rfl, .tuple [], rH H, ?_⟩
  replace A := A.k4 1 2 3 4
  exact ⟨rp4_0, rfl, A⟩
 refine EX 7 id (Mg 16 3 0 A H fun D t H => ?_)
 refine AO 3 [(19, .agg [.str p0, .str p1])] H fun D H => ?_
 obtain ⟨W, e2, A⟩ := A.pL 117 [.str p0, .str p1]
 refine BU 20 (AP (some G.size) (([(⟨p0, p1⟩ : AA)] : List AA).length)) e2 H fun D t H => ?_
 obtain ⟨B, M⟩ := Aq M
 obtain ⟨r1, K, X, E⟩ := HH.FN BJ (by decide) A 5 (xs := p4) (ys := ([(⟨p0, p1⟩ : AA)] : List AA)) rfl (C0 A 0 rfl (n := ([(⟨p0, p1⟩ : AA)] : List AA).length) (z := 2) rfl (by decide)) rfl rfl B
 replace A : HH g K [.AQ (some G.size) 117 ([.str p0, .str p1]), _, _, _, _, .AQ r1 117 (AQ AJ (p4 ++ ([(⟨p0, p1⟩ : AA)] : List AA)))] F := E
 replace A := A.k5 1 2 3 4 5
 refine Ae 21 _ _ H (fun D => .of (DU (s := CF rp4_0 p4.length) (by kernel_rfl) X)) fun D t H => ?_
 obtain ⟨J, X, E⟩ := A.st 3 rfl (o := 0) (new := [AP r1 ((p4 ++ ([(⟨p0, p1⟩ : AA)] : List AA)).length)]) (ds := [AP r1 ((p4 ++ ([(⟨p0, p1⟩ : AA)] : List AA)).length)]) (Nat.le_of_ble_eq_true rfl) rfl rfl
 replace A : HH g J [_, _, _, .obj bp4 (.cells none 2 [AP r1 ((p4 ++ ([(⟨p0, p1⟩ : AA)] : List AA)).length)]), _] F := E
 refine JX X H fun D t H => ?_
 refine at_nil ?_
 obtain ⟨rfl, rfl⟩ := B4 M
 refine ⟨.inr rfl, .tuple [], rH H, ?_⟩
 replace A := A.k4 1 2 3 4
 exact ⟨r1, rfl, A⟩
def FX (p0 : AL) (p1 : AG) : Option (AL) :=
 some (⟨p0.Name, p1.A9, p0.Kind, p0.Mode, p0.Cz, p0.Ct, p0.Bg, p0.Time, p0.Ah, p0.Aj, p0.Au, p0.As, p0.Form⟩ : AL)
theorem Ke {p0 p1 bp0 bp1 u0} (M : FX p0 p1 = some u0) (A : HH g h [.obj bp0 (.cells none 2 (AK p0)), .obj bp1 (.cells none 2 (AE p1))] F) (hc : BP (cfg.still 124) av = [.ptr (some (bp0, 0)), .ptr (some (bp1, 0))] := by kernel_rfl) : ∃ v Q, BZ cfg g h 124 av v Q ∧ v = .tuple [] ∧ HH g Q [.obj bp0 (.cells none 2 (AK u0)), .obj bp1 (.cells none 2 (AE p1))] F := by
 refine EE 8 [] hc ?_
 clear hc
 unfold FX at M
 refine bg 8 [(0, .ptr (some (bp0, 0))), (1, .ptr (some (bp1, 0)))] fun D H => ?_
 refine CE 6 (AX 2 [(3, .ptr (some (bp0, 0)))] 5 1 1 A H fun D t H => ?_)
 obtain ⟨h1, X, A⟩ := A.s0 1 [.str p1.A9] [_, _, _, _, _, _, _, _, _, _, _, _, _]
 refine Bu 2 [] X H fun D t H => ?_
 refine at_nil ?_
 obtain rfl := BB M
 refine ⟨.inr rfl, .tuple [], rH H, ?_⟩
 exact ⟨rfl, A⟩
def Dy (p0 : List UInt8) (p1 : List UInt8) (p2_10 : AG) (p3 : AL) (p4 : List AA) : Option (AL × (List AA)) :=
 (FX p3 p2_10).bind fun x1 => (B7 x1).bind fun x2 => Ao (x2 == 0) (some (x1, p4)) (Cl (Hs 32 (p4.length + ([(⟨p0, p1⟩ : AA)] : List AA).length)) <| some (p3, (p4 ++ ([(⟨p0, p1⟩ : AA)] : List AA))))
theorem HV {p0 p1 p2_10 p3 p4 bp2_10 bp3 bp4 rp4_0 u1 u3} (M : Dy p0 p1 p2_10 p3 p4 = some (u1, u3)) (A : HH g h [.obj bp2_10 (.cells none 2 (AE p2_10)), .obj bp3 (.cells none 2 (AK p3)), .obj bp4 (.cells none 2 [AP rp4_0 p4.length]), .AQ rp4_0 117 (AQ AJ p4)] F) (hc : BP (cfg.still 120) av = [.str p0, .str p1, .func (.func 124) [] [.ptr (some (bp2_10, 0))], .ptr (some (bp3, 0)), .ptr (some (bp4, 0))] := by kernel_rfl) : ∃ v Q, BZ cfg g h 120 av v Q ∧ ∃ (r'3 : Option Nat), v = .tuple [] ∧ HH g Q [.obj bp2_10 (.cells none 2 (AE p2_10)), .obj bp3 (.cells none 2 (AK u1)), .obj bp4 (.cells none 2 [AP r'3 u3.length]), .AQ r'3 117 (AQ AJ u3)] F := by
 refine EE 22 [] hc ?_
 clear hc
 unfold Dy at M
 refine bg 22 [(0, .str p0), (1, .str p1), (2, .func (.func 124) [] [.ptr (some (bp2_10, 0))]), (3, .ptr (some (bp3, 0))), (4, .ptr (some (bp4, 0)))] fun D H => ?_
 refine AH 3 (Ae 9 _ _ H (fun D => .of (BX (by kernel_rfl) (A.Ef 1 rfl (o := 0) (n := 13) ⟨Nat.le_of_ble_eq_true rfl, rfl⟩))) fun D t H => ?_)
 obtain ⟨h1, e1, A⟩ := A.pu (.cells none 2 [.str ([] : UV), .str ([] : UV), Ab 0, Ai 0, Ai 0, Ai 0, Ai 0, Ai 0, .str ([] : UV), .str ([] : UV), Ai 0, Ai 0, Ai 0])
 refine BU 8 (.ptr (some (h.size, 0))) e1 H fun D t H => ?_
 obtain ⟨h2, X, A⟩ := A.s0 0 (AK p3) [_, _, _, _, _, _, _, _, _, _, _, _, _]
 refine C9 X H fun D t H => ?_
 refine Bq id (AS (AH 2 ?_))
 obtain ⟨x1, X, M⟩ := bind_some M
 obtain ⟨v1, I, R, rfl, E⟩ := Ke (av := [.ptr (some (h.size, 0)), .ptr (some (bp2_10, 0))]) X (A.cut 2)
 replace A := A.g22 E
 refine El 1 [] R H fun D t H => ?_
 refine Bs 3 id (Ae 12 _ _ H (fun D => .of (BX (by kernel_rfl) (A.Ef 0 rfl (o := 0) (n := 13) ⟨Nat.le_of_ble_eq_true rfl, rfl⟩))) fun D t H => ?_)
 obtain ⟨x2, X, M⟩ := bind_some M
 obtain ⟨v1, G, R, rfl, E⟩ := C5 (av := [.agg (AK x1)]) X (A.cut 0)
 replace A := A.Dx E
 refine BM 13 R H fun D t H => ?_
 refine AN 1 [(14, .bool (x2 == 0))] H fun D H => Ac 14 H M (fun B M H => ?_) fun B M H => ?_
 ·refine AH 2 (Ae 15 _ _ H (fun D => .of (BX (by kernel_rfl) (A.Ef 0 rfl (o := 0) (n := 13) ⟨Nat.le_of_ble_eq_true rfl, rfl⟩))) fun D t H => ?_)
  obtain ⟨Z, X, A⟩ := A.s2 0 (AK x1) [_, _, _, _, _, _, _, _, _, _, _, _, _]
  refine C9 X H fun D t H => ?_
  refine Bq id (AZ ?_)
  obtain ⟨rfl, rfl⟩ := B4 M
  refine ⟨.inl rfl, .tuple [], rH H, ?_⟩
  replace A := A.k4 1 2 3 4
  exact ⟨rp4_0, rfl, A⟩
 refine EX 7 id (Mg 16 3 0 A H fun D t H => ?_)
 refine AO 3 [(19, .agg [.str p0, .str p1])] H fun D H => ?_
 obtain ⟨W, e2, A⟩ := A.pL 117 [.str p0, .str p1]
 refine BU 20 (AP (some G.size) (([(⟨p0, p1⟩ : AA)] : List AA).length)) e2 H fun D t H => ?_
 obtain ⟨B, M⟩ := Aq M
 obtain ⟨r1, K, X, E⟩ := HH.FN BJ (by decide) A 5 (xs := p4) (ys := ([(⟨p0, p1⟩ : AA)] : List AA)) rfl (C0 A 0 rfl (n := ([(⟨p0, p1⟩ : AA)] : List AA).length) (z := 2) rfl (by decide)) rfl rfl B
 replace A : HH g K [.AQ (some G.size) 117 ([.str p0, .str p1]), _, _, _, _, .AQ r1 117 (AQ AJ (p4 ++ ([(⟨p0, p1⟩ : AA)] : List AA)))] F := E
 replace A := A.k5 1 2 3 4 5
 refine Ae 21 _ _ H (fun D => .of (DU (s := CF rp4_0 p4.length) (by kernel_rfl) X)) fun D t H => ?_
 obtain ⟨J, X, E⟩ := A.st 3 rfl (o := 0) (new := [AP r1 ((p4 ++ ([(⟨p0, p1⟩ : AA)] : List AA)).length)]) (ds := [AP r1 ((p4 ++ ([(⟨p0, p1⟩ : AA)] : List AA)).length)]) (Nat.le_of_ble_eq_true rfl) rfl rfl
 replace A : HH g J [_, _, _, .obj bp4 (.cells none 2 [AP r1 ((p4 ++ ([(⟨p0, p1⟩ : AA)] : List AA)).length)]), _] F := E
 refine JX X H fun D t H => ?_
 refine at_nil ?_
 obtain ⟨rfl, rfl⟩ := B4 M
 refine ⟨.inr rfl, .tuple [], rH H, ?_⟩
 replace A := A.k4 1 2 3 4
 exact ⟨r1, rfl, A⟩
def I9 (p0 : Ad) : Option ((List UInt8) × Int) :=
 (GO p0).bind fun x1 => Ao (!x1) (some (([] : UV), (1 : Int))) ((Ao (decide (p0.F8 < 0)) (none) (some ([] : UV)) : Option (((List UInt8)))).bind fun x2 => Cl (decide (-9223372036854775808 ≤ p0.F8 ∧ p0.F8 ≤ 9223372036854775807)) <| Cl (decide (x2.length + (Lib.itoa p0.F8).length ≤ 9223372036854775807)) <| Ao (p0.EY == 0) (some (x2 ++ (Lib.itoa p0.F8), (0 : Int))) (Cl (decide (-9223372036854775808 ≤ i64.wrap ((1000000000 : Int) + p0.EY) ∧ i64.wrap ((1000000000 : Int) + p0.EY) ≤ 9223372036854775807)) <| (IX (Lib.itoa (i64.wrap ((1000000000 : Int) + p0.EY))) (some (1 : Int)) none).bind fun x3 => Cl (decide ((x2 ++ (Lib.itoa p0.F8)).length + ([46] : UV).length ≤ 9223372036854775807)) <| none))
theorem Oa {p0 q0 q1} (M : I9 p0 = some (q0, q1)) (A : HH g h [] F) (hc : BP (cfg.still 125) av = [.agg [Ai p0.F8, Ai p0.EY]] := by kernel_rfl) : ∃ v Q, BZ cfg g h 125 av v Q ∧ v = .tuple [.str q0, Ai q1] ∧ HH g Q [] F := by
 refine EE 34 [.tmp 2, .tmp 3] hc ?_
 clear hc
 unfold I9 at M
 refine bg 34 [(0, .agg [Ai p0.F8, Ai p0.EY])] fun D H => ?_
 refine AH 3 ?_
 obtain ⟨h1, e1, A⟩ := A.pu (.cells none 2 [Ai p0.F8, Ai p0.EY])
 refine BU 1 (.ptr (some (h.size, 0))) e1 H fun D t H => ?_
 refine AN 2 [] H fun D H => AS (AH 3 (Ae 7 _ _ H (fun D => .of (BX (by kernel_rfl) (A.Ef 0 rfl (o := 0) (n := 2) ⟨Nat.le_of_ble_eq_true rfl, rfl⟩))) fun D t H => ?_))
 obtain ⟨x1, X, M⟩ := bind_some M
 obtain ⟨v1, h2, R, rfl, E⟩ := KA (av := [.agg [Ai p0.F8, Ai p0.EY]]) X (A.cut 0)
 replace A : HH g h2 [.obj h.size (.cells none 2 [Ai p0.F8, Ai p0.EY])] F := A.Eg (n := 0) E
 refine BM 8 R H fun D t H => ?_
 refine AN 1 [(9, .bool (!x1))] H fun D H => Ac 9 H M (fun B M H => ?_) fun B M H => ?_
 ·refine AH 2 (AN 2 [(2, .str ([] : UV)), (3, Ai 1)] H fun D H => AZ ?_)
  obtain ⟨rfl, rfl⟩ := B4 M
  refine ⟨.inl rfl, .tuple [.str ([] : UV), Ai 1], rH H, ?_⟩
  replace A := A.d0
  exact ⟨rfl, A⟩
 refine B3 1 id (AN 1 [(4, .str ([] : UV))] H fun D H => AS ?_)
 obtain ⟨o1, O, M⟩ := bind_some M
 refine Bb (Q' := fun e N Q => (∃ x2, e = .normal ∧ x2 = o1 ∧ Has N 34 [(1, .ptr (some (h.size, 0))), (4, .str x2)] ∧ HH g Q [.obj h.size (.cells none 2 [Ai p0.F8, Ai p0.EY])] F) ∨ False) ?_ ?_
 ·replace M := O
  clear O
  refine AH 3 (AX 1 [] 11 0 0 A H fun D t H => ?_)
  refine AN 1 [(12, .bool (decide (p0.F8 < 0)))] H fun D H => Ac 12 H M (fun B M H => ?_) fun B M H => ?_
  ·refine CE 4 (Ae 13 _ _ H (fun D => .of (BX (by kernel_rfl) (A.Ef 0 rfl (o := 0) (n := 2) ⟨Nat.le_of_ble_eq_true rfl, rfl⟩))) fun D t H => ?_)
   cases M
  exact EJ (.inl ⟨_, rfl, BB M, H.ls, A⟩)
 clear O
 clear A
 intro e D I hQ
 rcases hQ with ⟨x2, rfl, rfl, H, A⟩ | hF
 ·show AW _ _ _ _ _ _ _
  refine AH 6 (AX 2 [(15, .str x2)] 17 0 0 A H fun D t H => ?_)
  obtain ⟨B, M⟩ := Aq M
  refine Ae 18 (.str (Lib.itoa p0.F8)) I H (fun D => Steps.call (by kernel_rfl) (J7 (C := cfg) (f := 121) (by kernel_rfl) (l := exts) rfl (by kernel_rfl) B)) fun D t H => ?_
  obtain ⟨B, M⟩ := Aq M
  refine Ae 19 (.str (x2 ++ (Lib.itoa p0.F8))) I H (fun D => .of (Mp (by kernel_rfl) B)) fun D t H => ?_
  refine AN 1 [(5, .str (x2 ++ (Lib.itoa p0.F8)))] H fun D H => AS (AH 3 (AX 1 [] 21 0 1 A H fun D t H => ?_))
  refine AN 1 [(22, .bool (p0.EY == 0))] H fun D H => Ac 22 H M (fun B M H => ?_) fun B M H => ?_
  ·refine AH 3 (AN 3 [(2, .str (x2 ++ (Lib.itoa p0.F8))), (3, Ai 0)] H fun D H => AZ ?_)
   obtain ⟨rfl, rfl⟩ := B4 M
   refine ⟨.inl rfl, .tuple [.str (x2 ++ (Lib.itoa p0.F8)), Ai 0], rH H, ?_⟩
   replace A := A.d0
   exact ⟨rfl, A⟩
  refine B3 6 id (AX 1 [] 25 0 1 A H fun D t H => ?_)
  obtain ⟨B, M⟩ := Aq M
  refine B0 1 [] 27 (.str (Lib.itoa (i64.wrap ((1000000000 : Int) + p0.EY)))) I H (fun D => Steps.call (by kernel_rfl) (J7 (C := cfg) (f := 121) (by kernel_rfl) (l := exts) rfl (by kernel_rfl) B)) fun D t H => ?_
  obtain ⟨x3, X, M⟩ := bind_some M
  refine Ae 28 (.str x3) I H (fun D => .of (HW (k := .i64) (k' := .i64) (lo := (some (1 : Int))) (hi := none) (by kernel_rfl) X)) fun D t H => ?_
  refine B5 1 [(6, .str x3)] 7 H fun D H => AO 1 [(29, .str (x2 ++ (Lib.itoa p0.F8)))] H fun D H => ?_
  obtain ⟨B, M⟩ := Aq M
  refine Ae 30 (.str ((x2 ++ (Lib.itoa p0.F8)) ++ ([46] : UV))) I H (fun D => .of (Mp (by kernel_rfl) B)) fun D t H => ?_
  cases M
 exact hF.elim
def FM (p0 : AL) (p1 : AG) : Option (AL) :=
 Ao (p1.Time.EY != 0) (some (⟨p0.Name, p0.A9, p0.Kind, p0.Mode, p0.Cz, p0.Ct, p0.Bg, (-1 : Int), p0.Ah, p0.Aj, p0.Au, p0.As, p0.Form⟩ : AL)) (some (⟨p0.Name, p0.A9, p0.Kind, p0.Mode, p0.Cz, p0.Ct, p0.Bg, p1.Time.F8, p0.Ah, p0.Aj, p0.Au, p0.As, p0.Form⟩ : AL))
theorem Ki {p0 p1 bp0 bp1 u0} (M : FM p0 p1 = some u0) (A : HH g h [.obj bp0 (.cells none 2 (AK p0)), .obj bp1 (.cells none 2 (AE p1))] F) (hc : BP (cfg.still 126) av = [.ptr (some (bp0, 0)), .ptr (some (bp1, 0))] := by kernel_rfl) : ∃ v Q, BZ cfg g h 126 av v Q ∧ v = .tuple [] ∧ HH g Q [.obj bp0 (.cells none 2 (AK u0)), .obj bp1 (.cells none 2 (AE p1))] F := by
 refine EE 16 [] hc ?_
 clear hc
 unfold FM at M
 refine bg 16 [(0, .ptr (some (bp0, 0))), (1, .ptr (some (bp1, 0)))] fun D H => ?_
 refine AH 7 (AX 3 [(3, .ptr (some (bp0, 0)))] 6 1 10 A H fun D t H => ?_)
 obtain ⟨h1, X, A⟩ := A.s0 7 [Ai p1.Time.F8] [_, _, _, _, _, _, _, _, _, _, _, _, _]
 refine Bu 2 [] X H fun D t H => ?_
 refine Bs 4 id (AX 2 [] 11 1 11 A H fun D t H => ?_)
 refine AN 1 [(12, .bool (p1.Time.EY != 0))] H fun D H => Ac 12 H M (fun B M H => ?_) fun B M H => ?_
 ·refine CE 4 ?_
  obtain ⟨h2, X, A⟩ := A.s0 7 [Ai (-1)] [_, _, _, _, _, _, _, _, _, _, _, _, _]
  refine Bu 3 [] X H fun D t H => ?_
  refine at_nil ?_
  obtain rfl := BB M
  refine ⟨.inr rfl, .tuple [], rH H, ?_⟩
  exact ⟨rfl, A⟩
 refine EJ ?_
 obtain rfl := BB M
 refine ⟨.inr rfl, .tuple [], rH H, ?_⟩
 exact ⟨rfl, A⟩
def Dz (p0 : List UInt8) (p1 : List UInt8) (p2_10 : AG) (p3 : AL) (p4 : List AA) : Option (AL × (List AA)) :=
 (FM p3 p2_10).bind fun x1 => (B7 x1).bind fun x2 => Ao (x2 == 0) (some (x1, p4)) (Cl (Hs 32 (p4.length + ([(⟨p0, p1⟩ : AA)] : List AA).length)) <| some (p3, (p4 ++ ([(⟨p0, p1⟩ : AA)] : List AA))))
theorem Hc {p0 p1 p2_10 p3 p4 bp2_10 bp3 bp4 rp4_0 u1 u3} (M : Dz p0 p1 p2_10 p3 p4 = some (u1, u3)) (A : HH g h [.obj bp2_10 (.cells none 2 (AE p2_10)), .obj bp3 (.cells none 2 (AK p3)), .obj bp4 (.cells none 2 [AP rp4_0 p4.length]), .AQ rp4_0 117 (AQ AJ p4)] F) (hc : BP (cfg.still 120) av = [.str p0, .str p1, .func (.func 126) [] [.ptr (some (bp2_10, 0))], .ptr (some (bp3, 0)), .ptr (some (bp4, 0))] := by kernel_rfl) : ∃ v Q, BZ cfg g h 120 av v Q ∧ ∃ (r'3 : Option Nat), v = .tuple [] ∧ HH g Q [.obj bp2_10 (.cells none 2 (AE p2_10)), .obj bp3 (.cells none 2 (AK u1)), .obj bp4 (.cells none 2 [AP r'3 u3.length]), .AQ r'3 117 (AQ AJ u3)] F := by
 refine EE 22 [] hc ?_
 clear hc
 unfold Dz at M
 refine bg 22 [(0, .str p0), (1, .str p1), (2, .func (.func 126) [] [.ptr (some (bp2_10, 0))]), (3, .ptr (some (bp3, 0))), (4, .ptr (some (bp4, 0)))] fun D H => ?_
 refine AH 3 (Ae 9 _ _ H (fun D => .of (BX (by kernel_rfl) (A.Ef 1 rfl (o := 0) (n := 13) ⟨Nat.le_of_ble_eq_true rfl, rfl⟩))) fun D t H => ?_)
 obtain ⟨h1, e1, A⟩ := A.pu (.cells none 2 [.str ([] : UV), .str ([] : UV), Ab 0, Ai 0, Ai 0, Ai 0, Ai 0, Ai 0, .str ([] : UV), .str ([] : UV), Ai 0, Ai 0, Ai 0])
 refine BU 8 (.ptr (some (h.size, 0))) e1 H fun D t H => ?_
 obtain ⟨h2, X, A⟩ := A.s0 0 (AK p3) [_, _, _, _, _, _, _, _, _, _, _, _, _]
 refine C9 X H fun D t H => ?_
 refine Bq id (AS (AH 2 ?_))
 obtain ⟨x1, X, M⟩ := bind_some M
 obtain ⟨v1, I, R, rfl, E⟩ := Ki (av := [.ptr (some (h.size, 0)), .ptr (some (bp2_10, 0))]) X (A.cut 2)
 replace A := A.g22 E
 refine El 1 [] R H fun D t H => ?_
 refine Bs 3 id (Ae 12 _ _ H (fun D => .of (BX (by kernel_rfl) (A.Ef 0 rfl (o := 0) (n := 13) ⟨Nat.le_of_ble_eq_true rfl, rfl⟩))) fun D t H => ?_)
 obtain ⟨x2, X, M⟩ := bind_some M
 obtain ⟨v1, G, R, rfl, E⟩ := C5 (av := [.agg (AK x1)]) X (A.cut 0)
 replace A := A.Dx E
 refine BM 13 R H fun D t H => ?_
 refine AN 1 [(14, .bool (x2 == 0))] H fun D H => Ac 14 H M (fun B M H => ?_) fun B M H => ?_
 ·refine AH 2 (Ae 15 _ _ H (fun D => .of (BX (by kernel_rfl) (A.Ef 0 rfl (o := 0) (n := 13) ⟨Nat.le_of_ble_eq_true rfl, rfl⟩))) fun D t H => ?_)
  obtain ⟨Z, X, A⟩ := A.s2 0 (AK x1) [_, _, _, _, _, _, _, _, _, _, _, _, _]
  refine C9 X H fun D t H => ?_
  refine Bq id (AZ ?_)
  obtain ⟨rfl, rfl⟩ := B4 M
  refine ⟨.inl rfl, .tuple [], rH H, ?_⟩
  replace A := A.k4 1 2 3 4
  exact ⟨rp4_0, rfl, A⟩
 refine EX 7 id (Mg 16 3 0 A H fun D t H => ?_)
 refine AO 3 [(19, .agg [.str p0, .str p1])] H fun D H => ?_
 obtain ⟨W, e2, A⟩ := A.pL 117 [.str p0, .str p1]
 refine BU 20 (AP (some G.size) (([(⟨p0, p1⟩ : AA)] : List AA).length)) e2 H fun D t H => ?_
 obtain ⟨B, M⟩ := Aq M
 obtain ⟨r1, K, X, E⟩ := HH.FN BJ (by decide) A 5 (xs := p4) (ys := ([(⟨p0, p1⟩ : AA)] : List AA)) rfl (C0 A 0 rfl (n := ([(⟨p0, p1⟩ : AA)] : List AA).length) (z := 2) rfl (by decide)) rfl rfl B
 replace A : HH g K [.AQ (some G.size) 117 ([.str p0, .str p1]), _, _, _, _, .AQ r1 117 (AQ AJ (p4 ++ ([(⟨p0, p1⟩ : AA)] : List AA)))] F := E
 replace A := A.k5 1 2 3 4 5
 refine Ae 21 _ _ H (fun D => .of (DU (s := CF rp4_0 p4.length) (by kernel_rfl) X)) fun D t H => ?_
 obtain ⟨J, X, E⟩ := A.st 3 rfl (o := 0) (new := [AP r1 ((p4 ++ ([(⟨p0, p1⟩ : AA)] : List AA)).length)]) (ds := [AP r1 ((p4 ++ ([(⟨p0, p1⟩ : AA)] : List AA)).length)]) (Nat.le_of_ble_eq_true rfl) rfl rfl
 replace A : HH g J [_, _, _, .obj bp4 (.cells none 2 [AP r1 ((p4 ++ ([(⟨p0, p1⟩ : AA)] : List AA)).length)]), _] F := E
 refine JX X H fun D t H => ?_
 refine at_nil ?_
 obtain ⟨rfl, rfl⟩ := B4 M
 refine ⟨.inr rfl, .tuple [], rH H, ?_⟩
 replace A := A.k4 1 2 3 4
 exact ⟨r1, rfl, A⟩
def FP (p0 : AL) (p1 : AG) : Option (AL) :=
 some (⟨p1.Name, p0.A9, p0.Kind, p0.Mode, p0.Cz, p0.Ct, p0.Bg, p0.Time, p0.Ah, p0.Aj, p0.Au, p0.As, p0.Form⟩ : AL)
theorem Kj {p0 p1 bp0 bp1 u0} (M : FP p0 p1 = some u0) (A : HH g h [.obj bp0 (.cells none 2 (AK p0)), .obj bp1 (.cells none 2 (AE p1))] F) (hc : BP (cfg.still 127) av = [.ptr (some (bp0, 0)), .ptr (some (bp1, 0))] := by kernel_rfl) : ∃ v Q, BZ cfg g h 127 av v Q ∧ v = .tuple [] ∧ HH g Q [.obj bp0 (.cells none 2 (AK u0)), .obj bp1 (.cells none 2 (AE p1))] F := by
 refine EE 8 [] hc ?_
 clear hc
 unfold FP at M
 refine bg 8 [(0, .ptr (some (bp0, 0))), (1, .ptr (some (bp1, 0)))] fun D H => ?_
 refine CE 6 (AX 2 [(3, .ptr (some (bp0, 0)))] 5 1 0 A H fun D t H => ?_)
 obtain ⟨h1, X, A⟩ := A.s0 0 [.str p1.Name] [_, _, _, _, _, _, _, _, _, _, _, _, _]
 refine Bu 2 [] X H fun D t H => ?_
 refine at_nil ?_
 obtain rfl := BB M
 refine ⟨.inr rfl, .tuple [], rH H, ?_⟩
 exact ⟨rfl, A⟩
def D4 (p0 : List UInt8) (p1 : List UInt8) (p2_10 : AG) (p3 : AL) (p4 : List AA) : Option (AL × (List AA)) :=
 (FP p3 p2_10).bind fun x1 => (B7 x1).bind fun x2 => Ao (x2 == 0) (some (x1, p4)) (Cl (Hs 32 (p4.length + ([(⟨p0, p1⟩ : AA)] : List AA).length)) <| some (p3, (p4 ++ ([(⟨p0, p1⟩ : AA)] : List AA))))
theorem HP {p0 p1 p2_10 p3 p4 bp2_10 bp3 bp4 rp4_0 u1 u3} (M : D4 p0 p1 p2_10 p3 p4 = some (u1, u3)) (A : HH g h [.obj bp2_10 (.cells none 2 (AE p2_10)), .obj bp3 (.cells none 2 (AK p3)), .obj bp4 (.cells none 2 [AP rp4_0 p4.length]), .AQ rp4_0 117 (AQ AJ p4)] F) (hc : BP (cfg.still 120) av = [.str p0, .str p1, .func (.func 127) [] [.ptr (some (bp2_10, 0))], .ptr (some (bp3, 0)), .ptr (some (bp4, 0))] := by kernel_rfl) : ∃ v Q, BZ cfg g h 120 av v Q ∧ ∃ (r'3 : Option Nat), v = .tuple [] ∧ HH g Q [.obj bp2_10 (.cells none 2 (AE p2_10)), .obj bp3 (.cells none 2 (AK u1)), .obj bp4 (.cells none 2 [AP r'3 u3.length]), .AQ r'3 117 (AQ AJ u3)] F := by
 refine EE 22 [] hc ?_
 clear hc
 unfold D4 at M
 refine bg 22 [(0, .str p0), (1, .str p1), (2, .func (.func 127) [] [.ptr (some (bp2_10, 0))]), (3, .ptr (some (bp3, 0))), (4, .ptr (some (bp4, 0)))] fun D H => ?_
 refine AH 3 (Ae 9 _ _ H (fun D => .of (BX (by kernel_rfl) (A.Ef 1 rfl (o := 0) (n := 13) ⟨Nat.le_of_ble_eq_true rfl, rfl⟩))) fun D t H => ?_)
 obtain ⟨h1, e1, A⟩ := A.pu (.cells none 2 [.str ([] : UV), .str ([] : UV), Ab 0, Ai 0, Ai 0, Ai 0, Ai 0, Ai 0, .str ([] : UV), .str ([] : UV), Ai 0, Ai 0, Ai 0])
 refine BU 8 (.ptr (some (h.size, 0))) e1 H fun D t H => ?_
 obtain ⟨h2, X, A⟩ := A.s0 0 (AK p3) [_, _, _, _, _, _, _, _, _, _, _, _, _]
 refine C9 X H fun D t H => ?_
 refine Bq id (AS (AH 2 ?_))
 obtain ⟨x1, X, M⟩ := bind_some M
 obtain ⟨v1, I, R, rfl, E⟩ := Kj (av := [.ptr (some (h.size, 0)), .ptr (some (bp2_10, 0))]) X (A.cut 2)
 replace A := A.g22 E
 refine El 1 [] R H fun D t H => ?_
 refine Bs 3 id (Ae 12 _ _ H (fun D => .of (BX (by kernel_rfl) (A.Ef 0 rfl (o := 0) (n := 13) ⟨Nat.le_of_ble_eq_true rfl, rfl⟩))) fun D t H => ?_)
 obtain ⟨x2, X, M⟩ := bind_some M
 obtain ⟨v1, G, R, rfl, E⟩ := C5 (av := [.agg (AK x1)]) X (A.cut 0)
 replace A := A.Dx E
 refine BM 13 R H fun D t H => ?_
 refine AN 1 [(14, .bool (x2 == 0))] H fun D H => Ac 14 H M (fun B M H => ?_) fun B M H => ?_
 ·refine AH 2 (Ae 15 _ _ H (fun D => .of (BX (by kernel_rfl) (A.Ef 0 rfl (o := 0) (n := 13) ⟨Nat.le_of_ble_eq_true rfl, rfl⟩))) fun D t H => ?_)
  obtain ⟨Z, X, A⟩ := A.s2 0 (AK x1) [_, _, _, _, _, _, _, _, _, _, _, _, _]
  refine C9 X H fun D t H => ?_
  refine Bq id (AZ ?_)
  obtain ⟨rfl, rfl⟩ := B4 M
  refine ⟨.inl rfl, .tuple [], rH H, ?_⟩
  replace A := A.k4 1 2 3 4
  exact ⟨rp4_0, rfl, A⟩
 refine EX 7 id (Mg 16 3 0 A H fun D t H => ?_)
 refine AO 3 [(19, .agg [.str p0, .str p1])] H fun D H => ?_
 obtain ⟨W, e2, A⟩ := A.pL 117 [.str p0, .str p1]
 refine BU 20 (AP (some G.size) (([(⟨p0, p1⟩ : AA)] : List AA).length)) e2 H fun D t H => ?_
 obtain ⟨B, M⟩ := Aq M
 obtain ⟨r1, K, X, E⟩ := HH.FN BJ (by decide) A 5 (xs := p4) (ys := ([(⟨p0, p1⟩ : AA)] : List AA)) rfl (C0 A 0 rfl (n := ([(⟨p0, p1⟩ : AA)] : List AA).length) (z := 2) rfl (by decide)) rfl rfl B
 replace A : HH g K [.AQ (some G.size) 117 ([.str p0, .str p1]), _, _, _, _, .AQ r1 117 (AQ AJ (p4 ++ ([(⟨p0, p1⟩ : AA)] : List AA)))] F := E
 replace A := A.k5 1 2 3 4 5
 refine Ae 21 _ _ H (fun D => .of (DU (s := CF rp4_0 p4.length) (by kernel_rfl) X)) fun D t H => ?_
 obtain ⟨J, X, E⟩ := A.st 3 rfl (o := 0) (new := [AP r1 ((p4 ++ ([(⟨p0, p1⟩ : AA)] : List AA)).length)]) (ds := [AP r1 ((p4 ++ ([(⟨p0, p1⟩ : AA)] : List AA)).length)]) (Nat.le_of_ble_eq_true rfl) rfl rfl
 replace A : HH g J [_, _, _, .obj bp4 (.cells none 2 [AP r1 ((p4 ++ ([(⟨p0, p1⟩ : AA)] : List AA)).length)]), _] F := E
 refine JX X H fun D t H => ?_
 refine at_nil ?_
 obtain ⟨rfl, rfl⟩ := B4 M
 refine ⟨.inr rfl, .tuple [], rH H, ?_⟩
 replace A := A.k4 1 2 3 4
 exact ⟨r1, rfl, A⟩
def FQ (p0 : AL) (p1 : Int) : Option (AL) :=
 some (⟨p0.Name, p0.A9, p0.Kind, p0.Mode, p0.Cz, p0.Ct, p1, p0.Time, p0.Ah, p0.Aj, p0.Au, p0.As, p0.Form⟩ : AL)
theorem Kn {p0 p1 bp0 bp1 u0} (M : FQ p0 p1 = some u0) (A : HH g h [.obj bp0 (.cells none 2 (AK p0)), .obj bp1 (.cells none 2 [Ai p1])] F) (hc : BP (cfg.still 128) av = [.ptr (some (bp0, 0)), .ptr (some (bp1, 0))] := by kernel_rfl) : ∃ v Q, BZ cfg g h 128 av v Q ∧ v = .tuple [] ∧ HH g Q [.obj bp0 (.cells none 2 (AK u0)), .obj bp1 (.cells none 2 [Ai p1])] F := by
 refine EE 7 [] hc ?_
 clear hc
 unfold FQ at M
 refine bg 7 [(0, .ptr (some (bp0, 0))), (1, .ptr (some (bp1, 0)))] fun D H => ?_
 refine CE 5 (AX 1 [(3, .ptr (some (bp0, 0)))] 4 1 0 A H fun D t H => ?_)
 obtain ⟨h1, X, A⟩ := A.s0 6 [Ai p1] [_, _, _, _, _, _, _, _, _, _, _, _, _]
 refine Bu 2 [] X H fun D t H => ?_
 refine at_nil ?_
 obtain rfl := BB M
 refine ⟨.inr rfl, .tuple [], rH H, ?_⟩
 exact ⟨rfl, A⟩
def D8 (p0 : List UInt8) (p1 : List UInt8) (p2_10 : Int) (p3 : AL) (p4 : List AA) : Option (AL × (List AA)) :=
 (FQ p3 p2_10).bind fun x1 => (B7 x1).bind fun x2 => Ao (x2 == 0) (some (x1, p4)) (Cl (Hs 32 (p4.length + ([(⟨p0, p1⟩ : AA)] : List AA).length)) <| some (p3, (p4 ++ ([(⟨p0, p1⟩ : AA)] : List AA))))
theorem HO {p0 p1 p2_10 p3 p4 bp2_10 bp3 bp4 rp4_0 u1 u3} (M : D8 p0 p1 p2_10 p3 p4 = some (u1, u3)) (A : HH g h [.obj bp2_10 (.cells none 2 [Ai p2_10]), .obj bp3 (.cells none 2 (AK p3)), .obj bp4 (.cells none 2 [AP rp4_0 p4.length]), .AQ rp4_0 117 (AQ AJ p4)] F) (hc : BP (cfg.still 120) av = [.str p0, .str p1, .func (.func 128) [] [.ptr (some (bp2_10, 0))], .ptr (some (bp3, 0)), .ptr (some (bp4, 0))] := by kernel_rfl) : ∃ v Q, BZ cfg g h 120 av v Q ∧ ∃ (r'3 : Option Nat), v = .tuple [] ∧ HH g Q [.obj bp2_10 (.cells none 2 [Ai p2_10]), .obj bp3 (.cells none 2 (AK u1)), .obj bp4 (.cells none 2 [AP r'3 u3.length]), .AQ r'3 117 (AQ AJ u3)] F := by
 refine EE 22 [] hc ?_
 clear hc
 unfold D8 at M
 refine bg 22 [(0, .str p0), (1, .str p1), (2, .func (.func 128) [] [.ptr (some (bp2_10, 0))]), (3, .ptr (some (bp3, 0))), (4, .ptr (some (bp4, 0)))] fun D H => ?_
 refine AH 3 (Ae 9 _ _ H (fun D => .of (BX (by kernel_rfl) (A.Ef 1 rfl (o := 0) (n := 13) ⟨Nat.le_of_ble_eq_true rfl, rfl⟩))) fun D t H => ?_)
 obtain ⟨h1, e1, A⟩ := A.pu (.cells none 2 [.str ([] : UV), .str ([] : UV), Ab 0, Ai 0, Ai 0, Ai 0, Ai 0, Ai 0, .str ([] : UV), .str ([] : UV), Ai 0, Ai 0, Ai 0])
 refine BU 8 (.ptr (some (h.size, 0))) e1 H fun D t H => ?_
 obtain ⟨h2, X, A⟩ := A.s0 0 (AK p3) [_, _, _, _, _, _, _, _, _, _, _, _, _]
 refine C9 X H fun D t H => ?_
 refine Bq id (AS (AH 2 ?_))
 obtain ⟨x1, X, M⟩ := bind_some M
 obtain ⟨v1, I, R, rfl, E⟩ := Kn (av := [.ptr (some (h.size, 0)), .ptr (some (bp2_10, 0))]) X (A.cut 2)
 replace A := A.g22 E
 refine El 1 [] R H fun D t H => ?_
 refine Bs 3 id (Ae 12 _ _ H (fun D => .of (BX (by kernel_rfl) (A.Ef 0 rfl (o := 0) (n := 13) ⟨Nat.le_of_ble_eq_true rfl, rfl⟩))) fun D t H => ?_)
 obtain ⟨x2, X, M⟩ := bind_some M
 obtain ⟨v1, G, R, rfl, E⟩ := C5 (av := [.agg (AK x1)]) X (A.cut 0)
 replace A := A.Dx E
 refine BM 13 R H fun D t H => ?_
 refine AN 1 [(14, .bool (x2 == 0))] H fun D H => Ac 14 H M (fun B M H => ?_) fun B M H => ?_
 ·refine AH 2 (Ae 15 _ _ H (fun D => .of (BX (by kernel_rfl) (A.Ef 0 rfl (o := 0) (n := 13) ⟨Nat.le_of_ble_eq_true rfl, rfl⟩))) fun D t H => ?_)
  obtain ⟨Z, X, A⟩ := A.s2 0 (AK x1) [_, _, _, _, _, _, _, _, _, _, _, _, _]
  refine C9 X H fun D t H => ?_
  refine Bq id (AZ ?_)
  obtain ⟨rfl, rfl⟩ := B4 M
  refine ⟨.inl rfl, .tuple [], rH H, ?_⟩
  replace A := A.k4 1 2 3 4
  exact ⟨rp4_0, rfl, A⟩
 refine EX 7 id (Mg 16 3 0 A H fun D t H => ?_)
 refine AO 3 [(19, .agg [.str p0, .str p1])] H fun D H => ?_
 obtain ⟨W, e2, A⟩ := A.pL 117 [.str p0, .str p1]
 refine BU 20 (AP (some G.size) (([(⟨p0, p1⟩ : AA)] : List AA).length)) e2 H fun D t H => ?_
 obtain ⟨B, M⟩ := Aq M
 obtain ⟨r1, K, X, E⟩ := HH.FN BJ (by decide) A 5 (xs := p4) (ys := ([(⟨p0, p1⟩ : AA)] : List AA)) rfl (C0 A 0 rfl (n := ([(⟨p0, p1⟩ : AA)] : List AA).length) (z := 2) rfl (by decide)) rfl rfl B
 replace A : HH g K [.AQ (some G.size) 117 ([.str p0, .str p1]), _, _, _, _, .AQ r1 117 (AQ AJ (p4 ++ ([(⟨p0, p1⟩ : AA)] : List AA)))] F := E
 replace A := A.k5 1 2 3 4 5
 refine Ae 21 _ _ H (fun D => .of (DU (s := CF rp4_0 p4.length) (by kernel_rfl) X)) fun D t H => ?_
 obtain ⟨J, X, E⟩ := A.st 3 rfl (o := 0) (new := [AP r1 ((p4 ++ ([(⟨p0, p1⟩ : AA)] : List AA)).length)]) (ds := [AP r1 ((p4 ++ ([(⟨p0, p1⟩ : AA)] : List AA)).length)]) (Nat.le_of_ble_eq_true rfl) rfl rfl
 replace A : HH g J [_, _, _, .obj bp4 (.cells none 2 [AP r1 ((p4 ++ ([(⟨p0, p1⟩ : AA)] : List AA)).length)]), _] F := E
 refine JX X H fun D t H => ?_
 refine at_nil ?_
 obtain ⟨rfl, rfl⟩ := B4 M
 refine ⟨.inr rfl, .tuple [], rH H, ?_⟩
 replace A := A.k4 1 2 3 4
 exact ⟨r1, rfl, A⟩
def FZ (p0 : AL) (p1 : AG) : Option (AL) :=
 some (⟨p0.Name, p0.A9, p0.Kind, p0.Mode, p1.Cz, p0.Ct, p0.Bg, p0.Time, p0.Ah, p0.Aj, p0.Au, p0.As, p0.Form⟩ : AL)
theorem Kb {p0 p1 bp0 bp1 u0} (M : FZ p0 p1 = some u0) (A : HH g h [.obj bp0 (.cells none 2 (AK p0)), .obj bp1 (.cells none 2 (AE p1))] F) (hc : BP (cfg.still 129) av = [.ptr (some (bp0, 0)), .ptr (some (bp1, 0))] := by kernel_rfl) : ∃ v Q, BZ cfg g h 129 av v Q ∧ v = .tuple [] ∧ HH g Q [.obj bp0 (.cells none 2 (AK u0)), .obj bp1 (.cells none 2 (AE p1))] F := by
 refine EE 8 [] hc ?_
 clear hc
 unfold FZ at M
 refine bg 8 [(0, .ptr (some (bp0, 0))), (1, .ptr (some (bp1, 0)))] fun D H => ?_
 refine CE 6 (AX 2 [(3, .ptr (some (bp0, 0)))] 5 1 4 A H fun D t H => ?_)
 obtain ⟨h1, X, A⟩ := A.s0 4 [Ai p1.Cz] [_, _, _, _, _, _, _, _, _, _, _, _, _]
 refine Bu 2 [] X H fun D t H => ?_
 refine at_nil ?_
 obtain rfl := BB M
 refine ⟨.inr rfl, .tuple [], rH H, ?_⟩
 exact ⟨rfl, A⟩
def D6 (p0 : List UInt8) (p1 : List UInt8) (p2_10 : AG) (p3 : AL) (p4 : List AA) : Option (AL × (List AA)) :=
 (FZ p3 p2_10).bind fun x1 => (B7 x1).bind fun x2 => Ao (x2 == 0) (some (x1, p4)) (Cl (Hs 32 (p4.length + ([(⟨p0, p1⟩ : AA)] : List AA).length)) <| some (p3, (p4 ++ ([(⟨p0, p1⟩ : AA)] : List AA))))
theorem He {p0 p1 p2_10 p3 p4 bp2_10 bp3 bp4 rp4_0 u1 u3} (M : D6 p0 p1 p2_10 p3 p4 = some (u1, u3)) (A : HH g h [.obj bp2_10 (.cells none 2 (AE p2_10)), .obj bp3 (.cells none 2 (AK p3)), .obj bp4 (.cells none 2 [AP rp4_0 p4.length]), .AQ rp4_0 117 (AQ AJ p4)] F) (hc : BP (cfg.still 120) av = [.str p0, .str p1, .func (.func 129) [] [.ptr (some (bp2_10, 0))], .ptr (some (bp3, 0)), .ptr (some (bp4, 0))] := by kernel_rfl) : ∃ v Q, BZ cfg g h 120 av v Q ∧ ∃ (r'3 : Option Nat), v = .tuple [] ∧ HH g Q [.obj bp2_10 (.cells none 2 (AE p2_10)), .obj bp3 (.cells none 2 (AK u1)), .obj bp4 (.cells none 2 [AP r'3 u3.length]), .AQ r'3 117 (AQ AJ u3)] F := by
 refine EE 22 [] hc ?_
 clear hc
 unfold D6 at M
 refine bg 22 [(0, .str p0), (1, .str p1), (2, .func (.func 129) [] [.ptr (some (bp2_10, 0))]), (3, .ptr (some (bp3, 0))), (4, .ptr (some (bp4, 0)))] fun D H => ?_
 refine AH 3 (Ae 9 _ _ H (fun D => .of (BX (by kernel_rfl) (A.Ef 1 rfl (o := 0) (n := 13) ⟨Nat.le_of_ble_eq_true rfl, rfl⟩))) fun D t H => ?_)
 obtain ⟨h1, e1, A⟩ := A.pu (.cells none 2 [.str ([] : UV), .str ([] : UV), Ab 0, Ai 0, Ai 0, Ai 0, Ai 0, Ai 0, .str ([] : UV), .str ([] : UV), Ai 0, Ai 0, Ai 0])
 refine BU 8 (.ptr (some (h.size, 0))) e1 H fun D t H => ?_
 obtain ⟨h2, X, A⟩ := A.s0 0 (AK p3) [_, _, _, _, _, _, _, _, _, _, _, _, _]
 refine C9 X H fun D t H => ?_
 refine Bq id (AS (AH 2 ?_))
 obtain ⟨x1, X, M⟩ := bind_some M
 obtain ⟨v1, I, R, rfl, E⟩ := Kb (av := [.ptr (some (h.size, 0)), .ptr (some (bp2_10, 0))]) X (A.cut 2)
 replace A := A.g22 E
 refine El 1 [] R H fun D t H => ?_
 refine Bs 3 id (Ae 12 _ _ H (fun D => .of (BX (by kernel_rfl) (A.Ef 0 rfl (o := 0) (n := 13) ⟨Nat.le_of_ble_eq_true rfl, rfl⟩))) fun D t H => ?_)
 obtain ⟨x2, X, M⟩ := bind_some M
 obtain ⟨v1, G, R, rfl, E⟩ := C5 (av := [.agg (AK x1)]) X (A.cut 0)
 replace A := A.Dx E
 refine BM 13 R H fun D t H => ?_
 refine AN 1 [(14, .bool (x2 == 0))] H fun D H => Ac 14 H M (fun B M H => ?_) fun B M H => ?_
 ·refine AH 2 (Ae 15 _ _ H (fun D => .of (BX (by kernel_rfl) (A.Ef 0 rfl (o := 0) (n := 13) ⟨Nat.le_of_ble_eq_true rfl, rfl⟩))) fun D t H => ?_)
  obtain ⟨Z, X, A⟩ := A.s2 0 (AK x1) [_, _, _, _, _, _, _, _, _, _, _, _, _]
  refine C9 X H fun D t H => ?_
  refine Bq id (AZ ?_)
  obtain ⟨rfl, rfl⟩ := B4 M
  refine ⟨.inl rfl, .tuple [], rH H, ?_⟩
  replace A := A.k4 1 2 3 4
  exact ⟨rp4_0, rfl, A⟩
 refine EX 7 id (Mg 16 3 0 A H fun D t H => ?_)
 refine AO 3 [(19, .agg [.str p0, .str p1])] H fun D H => ?_
 obtain ⟨W, e2, A⟩ := A.pL 117 [.str p0, .str p1]
 refine BU 20 (AP (some G.size) (([(⟨p0, p1⟩ : AA)] : List AA).length)) e2 H fun D t H => ?_
 obtain ⟨B, M⟩ := Aq M
 obtain ⟨r1, K, X, E⟩ := HH.FN BJ (by decide) A 5 (xs := p4) (ys := ([(⟨p0, p1⟩ : AA)] : List AA)) rfl (C0 A 0 rfl (n := ([(⟨p0, p1⟩ : AA)] : List AA).length) (z := 2) rfl (by decide)) rfl rfl B
 replace A : HH g K [.AQ (some G.size) 117 ([.str p0, .str p1]), _, _, _, _, .AQ r1 117 (AQ AJ (p4 ++ ([(⟨p0, p1⟩ : AA)] : List AA)))] F := E
 replace A := A.k5 1 2 3 4 5
 refine Ae 21 _ _ H (fun D => .of (DU (s := CF rp4_0 p4.length) (by kernel_rfl) X)) fun D t H => ?_
 obtain ⟨J, X, E⟩ := A.st 3 rfl (o := 0) (new := [AP r1 ((p4 ++ ([(⟨p0, p1⟩ : AA)] : List AA)).length)]) (ds := [AP r1 ((p4 ++ ([(⟨p0, p1⟩ : AA)] : List AA)).length)]) (Nat.le_of_ble_eq_true rfl) rfl rfl
 replace A : HH g J [_, _, _, .obj bp4 (.cells none 2 [AP r1 ((p4 ++ ([(⟨p0, p1⟩ : AA)] : List AA)).length)]), _] F := E
 refine JX X H fun D t H => ?_
 refine at_nil ?_
 obtain ⟨rfl, rfl⟩ := B4 M
 refine ⟨.inr rfl, .tuple [], rH H, ?_⟩
 replace A := A.k4 1 2 3 4
 exact ⟨r1, rfl, A⟩
def FV (p0 : AL) (p1 : AG) : Option (AL) :=
 some (⟨p0.Name, p0.A9, p0.Kind, p0.Mode, p0.Cz, p0.Ct, p0.Bg, p0.Time, p1.Ah, p0.Aj, p0.Au, p0.As, p0.Form⟩ : AL)
theorem Kc {p0 p1 bp0 bp1 u0} (M : FV p0 p1 = some u0) (A : HH g h [.obj bp0 (.cells none 2 (AK p0)), .obj bp1 (.cells none 2 (AE p1))] F) (hc : BP (cfg.still 130) av = [.ptr (some (bp0, 0)), .ptr (some (bp1, 0))] := by kernel_rfl) : ∃ v Q, BZ cfg g h 130 av v Q ∧ v = .tuple [] ∧ HH g Q [.obj bp0 (.cells none 2 (AK u0)), .obj bp1 (.cells none 2 (AE p1))] F := by
 refine EE 8 [] hc ?_
 clear hc
 unfold FV at M
 refine bg 8 [(0, .ptr (some (bp0, 0))), (1, .ptr (some (bp1, 0)))] fun D H => ?_
 refine CE 6 (AX 2 [(3, .ptr (some (bp0, 0)))] 5 1 6 A H fun D t H => ?_)
 obtain ⟨h1, X, A⟩ := A.s0 8 [.str p1.Ah] [_, _, _, _, _, _, _, _, _, _, _, _, _]
 refine Bu 2 [] X H fun D t H => ?_
 refine at_nil ?_
 obtain rfl := BB M
 refine ⟨.inr rfl, .tuple [], rH H, ?_⟩
 exact ⟨rfl, A⟩
def D7 (p0 : List UInt8) (p1 : List UInt8) (p2_10 : AG) (p3 : AL) (p4 : List AA) : Option (AL × (List AA)) :=
 (FV p3 p2_10).bind fun x1 => (B7 x1).bind fun x2 => Ao (x2 == 0) (some (x1, p4)) (Cl (Hs 32 (p4.length + ([(⟨p0, p1⟩ : AA)] : List AA).length)) <| some (p3, (p4 ++ ([(⟨p0, p1⟩ : AA)] : List AA))))
theorem HI {p0 p1 p2_10 p3 p4 bp2_10 bp3 bp4 rp4_0 u1 u3} (M : D7 p0 p1 p2_10 p3 p4 = some (u1, u3)) (A : HH g h [.obj bp2_10 (.cells none 2 (AE p2_10)), .obj bp3 (.cells none 2 (AK p3)), .obj bp4 (.cells none 2 [AP rp4_0 p4.length]), .AQ rp4_0 117 (AQ AJ p4)] F) (hc : BP (cfg.still 120) av = [.str p0, .str p1, .func (.func 130) [] [.ptr (some (bp2_10, 0))], .ptr (some (bp3, 0)), .ptr (some (bp4, 0))] := by kernel_rfl) : ∃ v Q, BZ cfg g h 120 av v Q ∧ ∃ (r'3 : Option Nat), v = .tuple [] ∧ HH g Q [.obj bp2_10 (.cells none 2 (AE p2_10)), .obj bp3 (.cells none 2 (AK u1)), .obj bp4 (.cells none 2 [AP r'3 u3.length]), .AQ r'3 117 (AQ AJ u3)] F := by
 refine EE 22 [] hc ?_
 clear hc
 unfold D7 at M
 refine bg 22 [(0, .str p0), (1, .str p1), (2, .func (.func 130) [] [.ptr (some (bp2_10, 0))]), (3, .ptr (some (bp3, 0))), (4, .ptr (some (bp4, 0)))] fun D H => ?_
 refine AH 3 (Ae 9 _ _ H (fun D => .of (BX (by kernel_rfl) (A.Ef 1 rfl (o := 0) (n := 13) ⟨Nat.le_of_ble_eq_true rfl, rfl⟩))) fun D t H => ?_)
 obtain ⟨h1, e1, A⟩ := A.pu (.cells none 2 [.str ([] : UV), .str ([] : UV), Ab 0, Ai 0, Ai 0, Ai 0, Ai 0, Ai 0, .str ([] : UV), .str ([] : UV), Ai 0, Ai 0, Ai 0])
 refine BU 8 (.ptr (some (h.size, 0))) e1 H fun D t H => ?_
 obtain ⟨h2, X, A⟩ := A.s0 0 (AK p3) [_, _, _, _, _, _, _, _, _, _, _, _, _]
 refine C9 X H fun D t H => ?_
 refine Bq id (AS (AH 2 ?_))
 obtain ⟨x1, X, M⟩ := bind_some M
 obtain ⟨v1, I, R, rfl, E⟩ := Kc (av := [.ptr (some (h.size, 0)), .ptr (some (bp2_10, 0))]) X (A.cut 2)
 replace A := A.g22 E
 refine El 1 [] R H fun D t H => ?_
 refine Bs 3 id (Ae 12 _ _ H (fun D => .of (BX (by kernel_rfl) (A.Ef 0 rfl (o := 0) (n := 13) ⟨Nat.le_of_ble_eq_true rfl, rfl⟩))) fun D t H => ?_)
 obtain ⟨x2, X, M⟩ := bind_some M
 obtain ⟨v1, G, R, rfl, E⟩ := C5 (av := [.agg (AK x1)]) X (A.cut 0)
 replace A := A.Dx E
 refine BM 13 R H fun D t H => ?_
 refine AN 1 [(14, .bool (x2 == 0))] H fun D H => Ac 14 H M (fun B M H => ?_) fun B M H => ?_
 ·refine AH 2 (Ae 15 _ _ H (fun D => .of (BX (by kernel_rfl) (A.Ef 0 rfl (o := 0) (n := 13) ⟨Nat.le_of_ble_eq_true rfl, rfl⟩))) fun D t H => ?_)
  obtain ⟨Z, X, A⟩ := A.s2 0 (AK x1) [_, _, _, _, _, _, _, _, _, _, _, _, _]
  refine C9 X H fun D t H => ?_
  refine Bq id (AZ ?_)
  obtain ⟨rfl, rfl⟩ := B4 M
  refine ⟨.inl rfl, .tuple [], rH H, ?_⟩
  replace A := A.k4 1 2 3 4
  exact ⟨rp4_0, rfl, A⟩
 refine EX 7 id (Mg 16 3 0 A H fun D t H => ?_)
 refine AO 3 [(19, .agg [.str p0, .str p1])] H fun D H => ?_
 obtain ⟨W, e2, A⟩ := A.pL 117 [.str p0, .str p1]
 refine BU 20 (AP (some G.size) (([(⟨p0, p1⟩ : AA)] : List AA).length)) e2 H fun D t H => ?_
 obtain ⟨B, M⟩ := Aq M
 obtain ⟨r1, K, X, E⟩ := HH.FN BJ (by decide) A 5 (xs := p4) (ys := ([(⟨p0, p1⟩ : AA)] : List AA)) rfl (C0 A 0 rfl (n := ([(⟨p0, p1⟩ : AA)] : List AA).length) (z := 2) rfl (by decide)) rfl rfl B
 replace A : HH g K [.AQ (some G.size) 117 ([.str p0, .str p1]), _, _, _, _, .AQ r1 117 (AQ AJ (p4 ++ ([(⟨p0, p1⟩ : AA)] : List AA)))] F := E
 replace A := A.k5 1 2 3 4 5
 refine Ae 21 _ _ H (fun D => .of (DU (s := CF rp4_0 p4.length) (by kernel_rfl) X)) fun D t H => ?_
 obtain ⟨J, X, E⟩ := A.st 3 rfl (o := 0) (new := [AP r1 ((p4 ++ ([(⟨p0, p1⟩ : AA)] : List AA)).length)]) (ds := [AP r1 ((p4 ++ ([(⟨p0, p1⟩ : AA)] : List AA)).length)]) (Nat.le_of_ble_eq_true rfl) rfl rfl
 replace A : HH g J [_, _, _, .obj bp4 (.cells none 2 [AP r1 ((p4 ++ ([(⟨p0, p1⟩ : AA)] : List AA)).length)]), _] F := E
 refine JX X H fun D t H => ?_
 refine at_nil ?_
 obtain ⟨rfl, rfl⟩ := B4 M
 refine ⟨.inr rfl, .tuple [], rH H, ?_⟩
 replace A := A.k4 1 2 3 4
 exact ⟨r1, rfl, A⟩
def Gi (p0 : Int) : Option (Int) :=
 some (Int.tmod (i64.wrap ((512 : Int) - (Int.tmod p0 (512 : Int)))) (512 : Int))
theorem JQ {p0 q0} (M : Gi p0 = some q0) (A : HH g h [] F) (hc : BP (cfg.still 114) av = [Ai p0] := by kernel_rfl) : ∃ v Q, BZ cfg g h 114 av v Q ∧ v = Ai q0 ∧ HH g Q [] F := by
 refine EE 7 [.tmp 2] hc ?_
 clear hc
 unfold Gi at M
 refine bg 7 [(0, Ai p0)] fun D H => ?_
 refine AH 1 (B5 1 [] 5 H fun D H => AN 5 [(2, Ai (Int.tmod (i64.wrap ((512 : Int) - (Int.tmod p0 (512 : Int)))) (512 : Int)))] H fun D H => AZ ?_)
 obtain rfl := BB M
 exact ⟨.inl rfl, _, rH H, rfl, A⟩
def LA : Option ((List UInt8)) :=
 Cl (SK ([0] : UV) (1024 : Int)) <| some (Lib.repeatL ([0] : UV) (1024 : Int).toNat)
theorem Qx {q0} (M : LA = some q0) (A : HH g h [] F) (hc : BP (cfg.still 58) av = [] := by kernel_rfl) : ∃ v Q, BZ cfg g h 58 av v Q ∧ v = .str q0 ∧ HH g Q [] F := by
 refine EE 2 [.tmp 0] hc ?_
 clear hc
 unfold LA at M
 refine bg 2 [] fun D H => ?_
 refine AH 1 (B5 1 [] 2 H fun D H => ?_)
 obtain ⟨B, M⟩ := Aq M
 refine Ae 1 (.str (Lib.repeatL ([0] : UV) (1024 : Int).toNat)) h H (fun D => Steps.call (by kernel_rfl) (SL (C := cfg) (f := 115) (by kernel_rfl) (l := exts) rfl (by kernel_rfl) B)) fun D t H => ?_
 refine AN 1 [(0, .str (Lib.repeatL ([0] : UV) (1024 : Int).toNat))] H fun D H => AZ ?_
 obtain rfl := BB M
 exact ⟨.inl rfl, _, rH H, rfl, A⟩
end
end Go.Av.L
