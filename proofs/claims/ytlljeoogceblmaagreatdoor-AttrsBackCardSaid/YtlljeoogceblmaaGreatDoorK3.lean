/-
 A part.
-/
import Derived.Test.YtlljeoogceblmaaGreatDoorKCfg
import Derived.Test.YtlljeoogceblmaaGreatDoorK0
import Derived.Test.YtlljeoogceblmaaGreatDoorK1
import Derived.Test.YtlljeoogceblmaaGreatDoorK2
namespace Go.Av.L
open Go.Av Go.Lib
set_option maxRecDepth 10000
set_option linter.unusedVariables false
set_option linter.unusedSimpArgs false
variable {g : Gd} {h : AD} {F : List Ck} {av : List AA}
noncomputable section
def B5 (pp : Int × (List UInt8)) (s : (List UInt8)) : Option (((List UInt8)) ⊕ (Empty)) :=
 match s with
 | z1 => (CY).bind fun x4 => (IG ([x4.w0, x4.w1, x4.w2, x4.w3, x4.w4, x4.w5, x4.w6, x4.w7, x4.w8, x4.w9, x4.Tb, x4.TM] : List Aj) pp.1).bind fun x5 => (Ut z1 x5.from_).bind fun o2 => some (.inl (putAt z1 o2 pp.2))
def C6 (pp : Int × Int) (s : (List UInt8)) : Option (((List UInt8)) ⊕ (Empty)) :=
 match s with
 | z3 => (CY).bind fun x7 => (IG ([x7.w0, x7.w1, x7.w2, x7.w3, x7.w4, x7.w5, x7.w6, x7.w7, x7.w8, x7.w9, x7.Tb, x7.TM] : List Aj) pp.1).bind fun x8 => (CD pp.2 x8.Dq).bind fun (x9, x10) => (CY).bind fun x11 => (IG ([x11.w0, x11.w1, x11.w2, x11.w3, x11.w4, x11.w5, x11.w6, x11.w7, x11.w8, x11.w9, x11.Tb, x11.TM] : List Aj) pp.1).bind fun x12 => (Ut z3 x12.from_).bind fun o4 => some (.inl (putAt z3 o4 x9))
theorem KK {z s : List UInt8} {o : Nat} (h : o + s.length ≤ z.length) (n : Nat) : (putAt z o s)[n]? = if o ≤ n ∧ n < o + s.length then s[n - o]? else z[n]? := by
 unfold putAt
 rw [List.take_of_length_le (l := s) (by omega)]
 have ht : (z.take o).length = o := by rw [List.length_take]; omega
 by_cases h1 : n < o
 ·rw [List.getElem?_append_left (by omega), List.getElem?_take_of_lt h1, if_neg (by omega)]
 ·rw [List.getElem?_append_right (by omega), ht]
  by_cases h2 : n < o + s.length
  ·rw [List.getElem?_append_left (by omega), if_pos (by omega)]
  ·rw [List.getElem?_append_right (by omega), List.getElem?_drop, if_neg (by omega)]
   congr 1
   omega
theorem SC {z s t : List UInt8} {i j : Nat} (h1 : i + s.length ≤ z.length) (h2 : j + t.length ≤ z.length) (hd : i + s.length ≤ j ∨ j + t.length ≤ i) : putAt (putAt z i s) j t = putAt (putAt z j t) i s := by
 have l1 := CG (xs := z) (s := s) (o := i) (by omega)
 have l2 := CG (xs := z) (s := t) (o := j) (by omega)
 refine List.ext_getElem? fun n => ?_
 rw [KK (by omega), KK (by omega), KK (by omega), KK (by omega)]
 by_cases a : i ≤ n ∧ n < i + s.length
 ·have c : ¬ (j ≤ n ∧ n < j + t.length) := by omega
  simp only [if_pos a, if_neg c]
 ·by_cases c : j ≤ n ∧ n < j + t.length
  ·simp only [if_neg a, if_pos c]
  ·simp only [if_neg a, if_neg c]
theorem Rw {κ : Type} {step : κ → List UInt8 → Option (List UInt8 ⊕ Empty)} {l : List κ} (F : κ → Nat) (T : κ → List UInt8) (hs : ∀ a ∈ l, ∀ z : List UInt8, z.length = 512 → step a z = some (.inl (putAt z (F a) (T a))))
  (hb : ∀ a ∈ l, F a + (T a).length ≤ 512) (hd : ∀ a ∈ l, ∀ b ∈ l, a = b ∨ F a + (T a).length ≤ F b ∨ F b + (T b).length ≤ F a) : ∀ l', l'.Perm l → ∀ z : List UInt8, z.length = 512 → BV step l' z = BV step l z := by
 refine Ks (fun z : List UInt8 => z.length = 512) (fun a ha z z' hz e => ?_) fun a ha b hb' z hz => ?_
 ·rw [hs a ha z hz] at e
  have := Sum.inl.inj (Option.some.inj e)
  rw [← this, CG (by have := hb a ha; omega)]
  exact hz
 ·have n1 : (putAt z (F a) (T a)).length = 512 := by rw [CG (by have := hb a ha; omega)]; exact hz
  have n2 : (putAt z (F b) (T b)).length = 512 := by rw [CG (by have := hb b hb'; omega)]; exact hz
  unfold SX
  rw [hs a ha z hz, hs b hb' z hz]
  dsimp only
  rw [hs b hb' _ n1, hs a ha _ n2]
  rcases hd a ha b hb' with rfl | h
  ·rfl
  ·rw [SC (by have := hb a ha; omega) (by have := hb b hb'; omega) h]
def Uq (k : Int) : Nat := if k = 0 then 0 else if k = 11 then 345 else if k = 6 then 157 else if k = 7 then 265 else 297
theorem PJ {z : List UInt8} (hz : z.length = 512) {o : Nat} (ho : o ≤ 512) : Ut z (o : Int) = some o := by
 unfold Ut
 rw [if_pos ⟨by omega, by omega⟩, Int.toNat_natCast]
theorem Ea {a : Int × List UInt8} (h : a.1 = 0 ∨ a.1 = 11 ∨ a.1 = 6 ∨ a.1 = 7 ∨ a.1 = 8) {z : List UInt8} (hz : z.length = 512) : B5 a z = some (.inl (putAt z (Uq a.1) a.2)) := by
 obtain ⟨k, s⟩ := a
 dsimp only at h
 have g : ∀ o : Nat, o ≤ 512 → (Ut z (o : Int)).bind (fun o2 => some (.inl (putAt z o2 s))) = some (.inl (putAt z o s) : List UInt8 ⊕ Empty) := fun o ho => by rw [PJ hz ho]; rfl
 rcases h with rfl | rfl | rfl | rfl | rfl
 ·exact g 0 (by omega)
 ·exact g 345 (by omega)
 ·exact g 157 (by omega)
 ·exact g 265 (by omega)
 ·exact g 297 (by omega)
theorem zero_eq (s : List UInt8) : Au s 0 = some (idxOf s 0) := by
 unfold Au Bi FP
 rfl
def Dr (s : List UInt8) : Bool := decide (0 ≤ idxOf s 0)
theorem N4 (p0 : AJ) : loop (CQ p0) 0 = some (if Dr p0.Name || (Dr p0.AU || (Dr p0.AN || Dr p0.AO)) then .inr 2 else .inl ()) := by
 have st : ∀ (k : Nat) (s : List UInt8), [p0.Name, p0.AU, p0.AN, p0.AO][k]? = some s → CQ p0 (k : Int) = some (if Dr s then .inr (.inr 2) else .inl ((k + 1 : Nat) : Int)) := by
  intro k s hs
  have hk : k < 4 := by have := (List.getElem?_eq_some_iff.1 hs).1; simpa using this
  rw [CQ, decide_eq_true (by simp; omega), Ah, Pw hs, Option.bind_some, zero_eq, Option.bind_some, EH, JK (by omega) (by omega)]
  unfold Dr
  by_cases h : 0 ≤ idxOf s 0
  ·rw [if_pos h, decide_eq_true h, if_pos rfl]
  ·rw [if_neg h, decide_eq_false h, if_neg (by simp)]
   rfl
 have en : CQ p0 ((4 : Nat) : Int) = some (.inr (.inl ())) := by rw [CQ]; rfl
 have s0 := st 0 _ rfl
 have s1 := st 1 _ rfl
 have s2 := st 2 _ rfl
 have s3 := st 3 _ rfl
 show loop (CQ p0) ((0 : Nat) : Int) = _
 cases h0 : Dr p0.Name with
 | true => rw [h0] at s0; rw [E5 (by rw [s0]; rfl)]; rfl
 | false =>
  rw [h0] at s0
  rw [Eo (s' := ((0 + 1 : Nat) : Int)) (by rw [s0]; rfl)]
  cases h1 : Dr p0.AU with
  | true => rw [h1] at s1; rw [E5 (r := .inr 2) (by rw [s1]; rfl)]; rfl
  | false =>
   rw [h1] at s1
   rw [Eo (s' := ((1 + 1 : Nat) : Int)) (by rw [s1]; rfl)]
   cases h2 : Dr p0.AN with
   | true => rw [h2] at s2; rw [E5 (r := .inr 2) (by rw [s2]; rfl)]; rfl
   | false =>
    rw [h2] at s2
    rw [Eo (s' := ((2 + 1 : Nat) : Int)) (by rw [s2]; rfl)]
    cases h3 : Dr p0.AO with
    | true => rw [h3] at s3; rw [E5 (r := .inr 2) (by rw [s3]; rfl)]; rfl
    | false =>
     rw [h3] at s3
     rw [Eo (s' := ((3 + 1 : Nat) : Int)) (by rw [s3]; rfl), E5 en]
     rfl
theorem Ny {p0 : AJ} {l : List (Int × List UInt8)} {b : Bool} {x1 : Int} (h1 : A9 p0 = some x1) (h2 : (x1 != (0 : Int)) = false) (hx : BT p0 = some (l, b)) : b = true ∧ ∀ a ∈ l, (a.2.length : Int) ≤ SJ a.1 := by
 have h0 : x1 = 0 := by simpa using h2
 subst h0
 unfold A9 at h1
 obtain ⟨o1, ho, h1⟩ := bind_some h1
 cases o1 with
 | inr x2 =>
  exfalso
  rw [N4] at ho
  have e := Option.some.inj ho
  dsimp only at h1
  have e2 := Option.some.inj h1
  subst e2
  split at e
  ·cases e
  ·cases e
 | inl u =>
  dsimp only at h1
  rw [hx, Option.bind_some] at h1
  dsimp only at h1
  rw [MC l b (GJ hx), Option.bind_some] at h1
  dsimp only at h1
  cases hz : (b && l.all fun a => decide ((a.2.length : Int) ≤ SJ a.1)) with
  | false => rw [hz] at h1; simp at h1
  | true =>
   rw [Bool.and_eq_true, List.all_eq_true] at hz
   exact ⟨hz.1, fun a ha => by simpa using hz.2 a ha⟩
theorem GW {p0 : AJ} {l : List (Int × List UInt8)} {b : Bool} {x1 : Int} (h1 : A9 p0 = some x1) (h2 : (x1 != (0 : Int)) = false) (hx : BT p0 = some (l, b)) :
  ∀ l', l'.Perm l → BV B5 l' (List.replicate (512 : Int).toNat (0 : UInt8)) = BV B5 l (List.replicate (512 : Int).toNat (0 : UInt8)) := by
 obtain ⟨_, hl⟩ := Ny h1 h2 hx
 have hk := GJ hx
 obtain ⟨p, q, _, rfl⟩ := Qq hx
 have n1 := hl (0, q) (by simp)
 have n2 := hl (11, p) (by simp)
 have n3 := hl (6, p0.AU) (by simp)
 have n4 := hl (7, p0.AN) (by simp)
 have n5 := hl (8, p0.AO) (by simp)
 simp only [SJ] at n1 n2 n3 n4 n5
 refine fun l' hl' => Rw (fun a => Uq a.1) (fun a => a.2) (fun a ha z hz => Ea (hk a ha) hz) (fun a ha => ?_) (fun a ha c hc => ?_) l' hl' _ (by rw [List.length_replicate]; rfl)
 ·simp only [List.mem_cons, List.not_mem_nil, or_false] at ha
  rcases ha with rfl | rfl | rfl | rfl | rfl <;> simp [Uq] at * <;> omega
 ·simp only [List.mem_cons, List.not_mem_nil, or_false] at ha hc
  rcases ha with rfl | rfl | rfl | rfl | rfl <;> rcases hc with rfl | rfl | rfl | rfl | rfl <;> first | exact .inl rfl | (simp [Uq] at * <;> omega)
theorem N3 : ∀ (l : List (Int × List UInt8)) (z z' : List UInt8), (∀ a ∈ l, a.1 = 0 ∨ a.1 = 11 ∨ a.1 = 6 ∨ a.1 = 7 ∨ a.1 = 8) → z.length = 512 → (∀ a ∈ l, Uq a.1 + a.2.length ≤ 512) → BV B5 l z = some (.inl z') → z'.length = 512
 | [], z, z', _, hz, _, e => by
  simp only [BV, Option.some.injEq, Sum.inl.injEq] at e
  rw [← e]; exact hz
 | a :: l, z, z', hk, hz, hb, e => by
  rw [BV, Ea (hk a (by simp)) hz] at e
  dsimp only at e
  exact N3 l _ z' (fun c hc => hk c (by simp [hc])) (by rw [CG (by have := hb a (by simp); omega)]; exact hz) (fun c hc => hb c (by simp [hc])) e
theorem Qw {l : List (Int × List UInt8)} (hk : ∀ a ∈ l, a.1 = 0 ∨ a.1 = 11 ∨ a.1 = 6 ∨ a.1 = 7 ∨ a.1 = 8) (hl : ∀ a ∈ l, (a.2.length : Int) ≤ SJ a.1) : ∀ a ∈ l, Uq a.1 + a.2.length ≤ 512 := by
 intro a ha
 have h1 := hl a ha
 obtain ⟨k, s⟩ := a
 have h2 := hk _ ha
 dsimp only at h1 h2 ⊢
 rcases h2 with rfl | rfl | rfl | rfl | rfl <;> simp [SJ] at h1 <;> simp [Uq] <;> omega
def VV (k : Int) : Nat := if k = 1 then 100 else if k = 2 then 108 else if k = 3 then 116 else if k = 4 then 124 else if k = 5 then 136 else if k = 9 then 329 else 337
def Ol (a : Int × Int) : List UInt8 := if Ii a then BZ a.2.toNat (if a.1 = 4 ∨ a.1 = 5 then 12 else 8) else []
theorem JS (a : Int × Int) : (Ol a).length ≤ if a.1 = 4 ∨ a.1 = 5 then 12 else 8 := by
 unfold Ol
 split
 ·rw [Cb (by split <;> omega)]; exact Nat.le_refl _
 ·simp
theorem D6 {a : Int × Int} (h : a.1 = 1 ∨ a.1 = 2 ∨ a.1 = 3 ∨ a.1 = 4 ∨ a.1 = 5 ∨ a.1 = 9 ∨ a.1 = 10) {z : List UInt8} (hz : z.length = 512) : C6 a z = some (.inl (putAt z (VV a.1) (Ol a))) := by
 obtain ⟨k, v⟩ := a
 dsimp only at h
 have e8 := Jw v (k := 7) (by omega) (by omega)
 have e12 := Jw v (k := 11) (by omega) (by omega)
 have p8 : (8 : Int) ^ 7 = 2097152 := rfl
 have p12 : (8 : Int) ^ 11 = 8589934592 := rfl
 rw [p8] at e8
 rw [p12] at e12
 have g8 : ∀ k : Int, ¬ (k = 4 ∨ k = 5) → ∀ o : Nat, o ≤ 512 → (CD v 8).bind (fun (x : List UInt8 × Bool) => match x with | (x9, x10) => (Ut z (o : Int)).bind fun o4 => some (.inl (putAt z o4 x9))) = some (.inl (putAt z o (Ol (k, v))) : List UInt8 ⊕ Empty) := fun k hk o ho => by
  rw [show (8 : Int) = ((7 + 1 : Nat) : Int) from rfl, e8, Option.bind_some]
  unfold Ol Ii
  dsimp only
  rw [if_neg hk, if_neg hk]
  by_cases hv : 0 ≤ v ∧ v < 2097152
  ·simp only [if_pos hv, decide_eq_true hv, if_true, PJ hz ho, Option.bind_some]
  ·simp only [if_neg hv, decide_eq_false hv, Bool.false_eq_true, if_false, PJ hz ho, Option.bind_some]
 have g12 : ∀ k : Int, (k = 4 ∨ k = 5) → ∀ o : Nat, o ≤ 512 → (CD v 12).bind (fun (x : List UInt8 × Bool) => match x with | (x9, x10) => (Ut z (o : Int)).bind fun o4 => some (.inl (putAt z o4 x9))) = some (.inl (putAt z o (Ol (k, v))) : List UInt8 ⊕ Empty) := fun k hk o ho => by
  rw [show (12 : Int) = ((11 + 1 : Nat) : Int) from rfl, e12, Option.bind_some]
  unfold Ol Ii
  dsimp only
  rw [if_pos hk, if_pos hk]
  by_cases hv : 0 ≤ v ∧ v < 8589934592
  ·simp only [if_pos hv, decide_eq_true hv, if_true, PJ hz ho, Option.bind_some]
  ·simp only [if_neg hv, decide_eq_false hv, Bool.false_eq_true, if_false, PJ hz ho, Option.bind_some]
 rcases h with rfl | rfl | rfl | rfl | rfl | rfl | rfl
 ·exact g8 1 (by omega) 100 (by omega)
 ·exact g8 2 (by omega) 108 (by omega)
 ·exact g8 3 (by omega) 116 (by omega)
 ·exact g12 4 (by omega) 124 (by omega)
 ·exact g12 5 (by omega) 136 (by omega)
 ·exact g8 9 (by omega) 329 (by omega)
 ·exact g8 10 (by omega) 337 (by omega)
theorem Gc {p0 : AJ} {l : List (Int × List UInt8)} {m : List (Int × Int)} {b : Bool} {x1 : Int} {z : List UInt8} (h1 : A9 p0 = some x1) (h2 : (x1 != (0 : Int)) = false) (hx : BT p0 = some (l, b))
  (h3 : BV B5 l (List.replicate (512 : Int).toNat (0 : UInt8)) = some (.inl z)) (hv : Bp p0 = some m) : ∀ l', l'.Perm m → BV C6 l' z = BV C6 m z := by
 obtain ⟨_, hl⟩ := Ny h1 h2 hx
 have hz := N3 l _ z (GJ hx) (by rw [List.length_replicate]; rfl) (Qw (GJ hx) hl) h3
 have hk := J3 hv
 refine fun l' hl' => Rw (fun a => VV a.1) Ol (fun a ha z hz => D6 (hk a ha) hz) (fun a ha => ?_) (fun a ha c hc => ?_) l' hl' _ hz
 ·have := JS a
  obtain ⟨k, v⟩ := a
  have h := hk _ ha
  dsimp only at h this ⊢
  rcases h with rfl | rfl | rfl | rfl | rfl | rfl | rfl <;> simp at this <;> simp [VV] <;> omega
 ·rw [PH hv] at ha hc
  have n1 := JS a
  have n2 := JS c
  simp only [List.mem_cons, List.not_mem_nil, or_false] at ha hc
  rcases ha with rfl | rfl | rfl | rfl | rfl | rfl | rfl <;> rcases hc with rfl | rfl | rfl | rfl | rfl | rfl | rfl <;> first | exact .inl rfl | (simp at n1 n2; simp [VV]; omega)
def Dw (p0 : AJ) : Option ((List UInt8) × Int) :=
 (A9 p0).bind fun x1 => Ad (x1 != 0) (some (([] : List UInt8), x1)) (D3 (Z5 1 (512 : Int)) <| (BT p0).bind fun (x2, x3) => (BV (B5) x2 (List.replicate (512 : Int).toNat (0 : UInt8))).bind fun o => (match o with | .inl z2 => (Bp p0).bind fun x6 => (BV (C6) x6 z2).bind fun o => (match o with | .inl z4 => ((IG z4 (156 : Int)).bind fun x14 => (XJ p0.Kind).bind fun x15 => Ad (p0.Kind == 0) ((IG (z4.set (156 : Int).toNat x15) (156 : Int)).bind fun x16 => some ((z4.set (156 : Int).toNat x15).set (156 : Int).toNat (48 : UInt8))) (some (z4.set (156 : Int).toNat x15)) : Option (((List UInt8)))).bind fun x13 => (Ut x13 (257 : Int)).bind fun o6 => (EU (putAt x13 o6 ([117, 115, 116, 97, 114, 0, 48, 48] : List UInt8))).bind fun (x17, x18) => some (x17, x18) | .inr y => y.elim) | .inr y => y.elim))
theorem M4 {p0 q0 q1} (hm : Dw p0 = some (q0, q1)) (A : HH g h [] F) (hc : BG (cfg.still 28) av = [.agg (AF p0)] := by kernel_rfl) : ∃ v h', BH cfg g h 28 av v h' ∧ v = .tuple [.str q0, Ai q1] ∧ HH g h' [] F := by
 refine Tv (n := 82) (rs := [.tmp 2, .tmp 3]) (by kernel_rfl) hc (by kernel_rfl) ?_
 clear hc
 unfold Dw at hm
 refine WL (n := 82) [(0, .agg (AF p0))] (by kernel_rfl) (by kernel_rfl) ?_
 intro fr H
 refine FA ?_
 refine IE ?_
 refine CX 3 ?_
 obtain ⟨h1, e1, A⟩ := A.pu (.cells none 2 (AF p0))
 refine BK 1 (.ptr (some (h.size, 0))) e1 H fun fr t H => ?_
 refine AM 2 [] H fun fr H => at_nil ?_
 show PV cfg 28 g (right (EX cfg.P 28)) fr h1 _
 refine FA ?_
 refine IE ?_
 refine AG 3 (Ae 14 _ _ H (fun fr => .of (BM (by kernel_rfl) (A.Eh 0 rfl (o := 0) (n := 13) ⟨Nat.le_of_ble_eq_true rfl, rfl⟩))) fun fr t H => ?_)
 obtain ⟨x1, hx, hm⟩ := bind_some hm
 obtain ⟨v1, h2, hr, rfl, A1⟩ := CS (av := [.agg (AF p0)]) hx (A.cut 0)
 replace A : HH g h2 [.obj h.size (.cells none 2 (AF p0))] F := A.Fp (n := 0) A1
 refine Aw 15 hr H fun fr t H => ?_
 refine Bg 1 [(4, Ai x1)] 2 H fun fr H => AK 2 [(17, .bool (x1 != 0))] H fun fr H => AZ 17 H hm (fun hb hm H => ?_) fun hb hm H => ?_
 ·refine AG 3 (AK 3 [(2, .str ([] : List UInt8)), (3, Ai x1)] H fun fr H => AS ?_)
  obtain ⟨rfl, rfl⟩ := BD hm
  refine ⟨.inl rfl, .tuple [.str ([] : List UInt8), Ai x1], rH H, ?_⟩
  replace A := A.d0
  exact ⟨rfl, A⟩
 refine D5 ?_
 show PV cfg 28 g (right (right (EX cfg.P 28))) fr h2 _
 refine FA ?_
 refine IE ?_
 refine CX 2 ?_
 obtain ⟨hb, hm⟩ := A4 hm
 obtain ⟨h3, e2, A⟩ := A.pL 5 (Ak eY (List.replicate (512 : Int).toNat (0 : UInt8)))
 refine Ae 19 (Af (some h2.size) (List.replicate (512 : Int).toNat (0 : UInt8)).length) h3 H (fun fr => .of (Xs (e := eY) O1 (x := (0 : UInt8)) (by kernel_rfl) hb (congrArg some e2.symm))) fun fr t H => ?_
 refine AM 1 [(5, Af (some h2.size) ((List.replicate (512 : Int).toNat (0 : UInt8)).length))] H fun fr H => at_nil ?_
 show PV cfg 28 g (right (right (right (EX cfg.P 28)))) fr h3 _
 refine FA ?_
 refine IE ?_
 refine CX 7 (Ae 21 _ _ H (fun fr => .of (BM (by kernel_rfl) (A.Eh 1 rfl (o := 0) (n := 13) ⟨Nat.le_of_ble_eq_true rfl, rfl⟩))) fun fr t H => ?_)
 obtain ⟨⟨x2, x3⟩, hx, hm⟩ := bind_some hm
 obtain ⟨v1, h4, hr, bqw2, rfl, A1⟩ := JE (av := [.agg (AF p0)]) hx (A.cut 0)
 replace A : HH g h4 [.obj bqw2 (.map 2 (DQ (fun k : Int => Ai k) (fun v : List UInt8 => .str v) x2)), .Ak (some h2.size) 5 (Ak eY (List.replicate (512 : Int).toNat (0 : UInt8))), _] F := A.Fp (n := 0) A1
 refine Aw 22 hr H fun fr t H => ?_
 refine AM 5 [(6, .map (some bqw2))] H fun fr H => at_nil ?_
 show PV cfg 28 g (right (right (right (right (EX cfg.P 28))))) fr h4 _
 refine FA ?_
 refine NK 1 [26, 5, 1] [] (some 5) ?_
 refine AM 1 [(25, .map (some bqw2))] H fun fr H => at_nil ?_
 obtain ⟨o1, ho, hm⟩ := bind_some hm
 refine RT (step := B5) (l := x2) (s0 := (List.replicate (512 : Int).toNat (0 : UInt8))) (x0 := o1) (enc := fun p => ((fun k : Int => Ai k) p.1, (fun v : List UInt8 => .str v) p.2)) (V := (fun (z1 : (List UInt8)) => [(1, .ptr (some (h.size, 0)))])) (row := (fun (z1 : (List UInt8)) => z1)) 0 1 h2.size 26 27 29 5 4 122 3 9 (.tmp 25) A H ho (by first | exact GW | (apply GW <;> assumption)) rfl rfl (by decide) (fun fr => by kernel_rfl) (fun fr => by kernel_rfl) (fun _ => rfl) (fun s => by exact (I1.cons (A.YI 2 rfl _) I1.nil)) ?_ ?_
 ·clear ho hm H A
  intro pp hpp s x hm fr h5 it g F A H
  obtain ⟨z1, hzz⟩ : ∃ z, z = s := ⟨_, rfl⟩
  subst hzz
  unfold B5 at hm
  replace H := H.less [(1, .ptr (some (h.size, 0))), (5, Af (some h2.size) z1.length), (26, it), (29, .tuple [Ai pp.1, .str pp.2])] (fun fr => by kernel_rfl)
  refine Y3 4 [(8, Ai pp.1), (9, .str pp.2)] 8 H fun fr H => ?_
  obtain ⟨x4, hx, hm⟩ := bind_some hm
  obtain ⟨v1, h6, hr, rfl, A1⟩ := DO (av := []) hx (A.cut 0)
  replace A := A.DN A1
  refine A6 1 [(32, Af (some h2.size) z1.length)] 33 hr H fun fr t H => ?_
  obtain ⟨x5, hq1, hm⟩ := bind_some hm
  refine BC 1 [] 35 (.agg [Ai x5.from_, Ai x5.Dq]) h6 H (fun fr => .of (KO (e := Cp) (x := x5) Cn [x4.w0, x4.w1, x4.w2, x4.w3, x4.w4, x4.w5, x4.w6, x4.w7, x4.w8, x4.w9, x4.Tb, x4.TM] (by kernel_rfl) rfl rfl hq1)) fun fr t H => ?_
  obtain ⟨o2, hv1, hm⟩ := bind_some hm
  refine BC 1 [] 37 (.slice (some (h2.size, o2)) (z1.length - o2)) h6 H (fun fr => .of (TA (s := EF (some h2.size) z1.length) (t := ⟨some (h2.size, o2), z1.length - o2⟩) (k := .i64) (k' := .i64) (lo := some x5.from_) (hi := none) (by kernel_rfl) (HH.vw A 0 rfl hv1 (by kernel_rfl)))) fun fr t H => ?_
  refine AM 1 [(38, .str pp.2)] H fun fr H => ?_
  obtain ⟨h7, hc, A1⟩ := HH.Y7 A 0 rfl hv1 pp.2
  have hl1 : (putAt z1 o2 pp.2).length = z1.length := CG (Jx hv1).2.2
  have el : Af (some h2.size) z1.length = Af (some h2.size) (putAt z1 o2 pp.2).length := congrArg _ (CG (Jx hv1).2.2).symm
  try rw [el] at H
  replace A : HH g h7 [.Ak (some h2.size) 5 (Ak eY (putAt z1 o2 pp.2))] F := A1
  refine Fv (Ai ((min pp.2.length (z1.length - o2) : Nat) : Int)) h7 H (fun fr => .of (U5 (d := ⟨some (h2.size, o2), z1.length - o2⟩) (by kernel_rfl) hc)) fun fr t H => ?_
  refine at_nil ?_
  have el : Af (some h2.size) z1.length = Af (some h2.size) (putAt z1 o2 pp.2).length := congrArg _ (hl1).symm
  try rw [el] at H
  exact ⟨.inl rfl, _, (Option.some.inj hm).symm, H.ls, A⟩
 intro s hs fr h8 A H
 subst hs
 obtain ⟨z2, hzz⟩ : ∃ z, z = s := ⟨_, rfl⟩
 subst hzz
 replace H := H.less [(1, .ptr (some (h.size, 0))), (5, Af (some h2.size) z2.length)] (fun fr => by kernel_rfl)
 show PV cfg 28 g (right (right (right (right (right (EX cfg.P 28)))))) fr h8 _
 refine FA ?_
 refine NK 2 [42, 5, 1] [] (some 5) ?_
 refine Ae 40 _ _ H (fun fr => .of (BM (by kernel_rfl) (A.Eh 1 rfl (o := 0) (n := 13) ⟨Nat.le_of_ble_eq_true rfl, rfl⟩))) fun fr t H => ?_
 obtain ⟨x6, hx, hm⟩ := bind_some hm
 obtain ⟨v1, h9, hr, bqw5, rfl, A1⟩ := IK (av := [.agg (AF p0)]) hx (A.cut 0)
 replace A := A.Yc A1
 refine Aw 41 hr H fun fr t H => ?_
 refine at_nil ?_
 obtain ⟨o3, ho, hm⟩ := bind_some hm
 refine RT (step := C6) (l := x6) (s0 := z2) (x0 := o3) (enc := fun p => ((fun k : Int => Ai k) p.1, (fun v : Int => Ai v) p.2)) (V := (fun (z3 : (List UInt8)) => [(1, .ptr (some (h.size, 0)))])) (row := (fun (z3 : (List UInt8)) => z3)) 0 1 h2.size 42 43 45 5 4 129 3 3 (.tmp 41) A H ho (by first | exact Gc | (apply Gc <;> assumption)) rfl rfl (by decide) (fun fr => by kernel_rfl) (fun fr => by kernel_rfl) (fun _ => rfl) (fun s => by exact (I1.cons (A.YI 2 rfl _) I1.nil)) ?_ ?_
 ·clear ho hm H A
  intro pp hpp s x hm fr h10 it g F A H
  obtain ⟨z3, hzz⟩ : ∃ z, z = s := ⟨_, rfl⟩
  subst hzz
  unfold C6 at hm
  replace H := H.less [(1, .ptr (some (h.size, 0))), (5, Af (some h2.size) z3.length), (42, it), (45, .tuple [Ai pp.1, Ai pp.2])] (fun fr => by kernel_rfl)
  refine Bg 4 [(10, Ai pp.1), (11, Ai pp.2)] 11 H fun fr H => ?_
  obtain ⟨x7, hx, hm⟩ := bind_some hm
  obtain ⟨v1, h11, hr, rfl, A1⟩ := DO (av := []) hx (A.cut 0)
  replace A := A.DN A1
  refine A6 1 [(49, Ai pp.2)] 50 hr H fun fr t H => ?_
  obtain ⟨x8, hq2, hm⟩ := bind_some hm
  refine BC 1 [] 52 (.agg [Ai x8.from_, Ai x8.Dq]) h11 H (fun fr => .of (KO (e := Cp) (x := x8) Cn [x7.w0, x7.w1, x7.w2, x7.w3, x7.w4, x7.w5, x7.w6, x7.w7, x7.w8, x7.w9, x7.Tb, x7.TM] (by kernel_rfl) rfl rfl hq2)) fun fr t H => ?_
  obtain ⟨⟨x9, x10⟩, hx, hm⟩ := bind_some hm
  obtain ⟨v1, h12, hr, rfl, A1⟩ := HW (av := [Ai pp.2, Ai x8.Dq]) hx (A.cut 0)
  replace A := A.DN A1
  refine A6 1 [] 54 hr H fun fr t H => ?_
  refine Y3 5 [(12, .str x9)] 8 H fun fr H => ?_
  obtain ⟨x11, hx, hm⟩ := bind_some hm
  obtain ⟨v1, h13, hr, rfl, A1⟩ := DO (av := []) hx (A.cut 0)
  replace A := A.DN A1
  refine A6 1 [(57, Af (some h2.size) z3.length)] 58 hr H fun fr t H => ?_
  obtain ⟨x12, hq3, hm⟩ := bind_some hm
  refine BC 1 [] 60 (.agg [Ai x12.from_, Ai x12.Dq]) h13 H (fun fr => .of (KO (e := Cp) (x := x12) Cn [x11.w0, x11.w1, x11.w2, x11.w3, x11.w4, x11.w5, x11.w6, x11.w7, x11.w8, x11.w9, x11.Tb, x11.TM] (by kernel_rfl) rfl rfl hq3)) fun fr t H => ?_
  obtain ⟨o4, hv2, hm⟩ := bind_some hm
  refine BC 1 [] 62 (.slice (some (h2.size, o4)) (z3.length - o4)) h13 H (fun fr => .of (TA (s := EF (some h2.size) z3.length) (t := ⟨some (h2.size, o4), z3.length - o4⟩) (k := .i64) (k' := .i64) (lo := some x12.from_) (hi := none) (by kernel_rfl) (HH.vw A 0 rfl hv2 (by kernel_rfl)))) fun fr t H => ?_
  refine AM 1 [(63, .str x9)] H fun fr H => ?_
  obtain ⟨h14, hc, A1⟩ := HH.Y7 A 0 rfl hv2 x9
  have hl2 : (putAt z3 o4 x9).length = z3.length := CG (Jx hv2).2.2
  have el : Af (some h2.size) z3.length = Af (some h2.size) (putAt z3 o4 x9).length := congrArg _ (CG (Jx hv2).2.2).symm
  try rw [el] at H
  replace A : HH g h14 [.Ak (some h2.size) 5 (Ak eY (putAt z3 o4 x9))] F := A1
  refine Fv (Ai ((min x9.length (z3.length - o4) : Nat) : Int)) h14 H (fun fr => .of (U5 (d := ⟨some (h2.size, o4), z3.length - o4⟩) (by kernel_rfl) hc)) fun fr t H => ?_
  refine at_nil ?_
  have el : Af (some h2.size) z3.length = Af (some h2.size) (putAt z3 o4 x9).length := congrArg _ (hl2).symm
  try rw [el] at H
  exact ⟨.inl rfl, _, (Option.some.inj hm).symm, H.ls, A⟩
 intro s hs fr h15 A H
 subst hs
 obtain ⟨z4, hzz⟩ : ∃ z, z = s := ⟨_, rfl⟩
 subst hzz
 replace H := H.less [(1, .ptr (some (h.size, 0))), (5, Af (some h2.size) z4.length)] (fun fr => by kernel_rfl)
 show PV cfg 28 g (right (right (right (right (right (right (EX cfg.P 28))))))) fr h15 _
 refine IE ?_
 refine AP ?_
 obtain ⟨o5, ho, hm⟩ := bind_some hm
 refine BJ (Q' := fun e fr' h' => (∃ x13, e = .normal ∧ x13 = o5 ∧ ∃ (hl3 : x13.length = z4.length), Has fr' 82 [(5, Af (some h2.size) x13.length)] ∧ HH g h' [.Ak (some h2.size) 5 (Ak eY x13), .obj h.size (.cells none 2 (AF p0))] F) ∨ False) ?_ ?_
 ·replace hm := ho
  clear ho
  refine AG 5 (AV 2 [(65, Af (some h2.size) z4.length)] 67 1 2 A H fun fr t H => ?_)
  obtain ⟨x14, hx, hm⟩ := bind_some hm
  obtain ⟨i1, er1, _, hx, hq4⟩ := HH.XQ O1 (by decide) A 0 (xs := z4) rfl hx
  refine Ae 68 (.ptr (some (i1, (156 : Int).toNat * 1))) h15 H (fun fr => .of (LP (s := EF (some h2.size) z4.length) (by kernel_rfl) hx)) fun fr t H => ?_
  obtain ⟨x15, hx, hm⟩ := bind_some hm
  have hx := WO hx
  rw [hx] at H
  obtain ⟨h16, hx, A1⟩ := HH.aZ O1 A 0 rfl er1 hq4 (y := x15) (o := 0) (new := [Ab (x15.toNat : Int)]) rfl rfl (Nat.le_of_ble_eq_true rfl)
  have hl4 : (z4.set (156 : Int).toNat x15).length = z4.length := List.length_set
  have el : Af (some h2.size) z4.length = Af (some h2.size) (z4.set (156 : Int).toNat x15).length := congrArg _ List.length_set.symm
  try rw [el] at H
  try rw [el] at A1
  replace A : HH g h16 [.Ak (some h2.size) 5 (Ak eY (z4.set (156 : Int).toNat x15)), _] F := A1
  refine JB hx H fun fr t H => ?_
  refine CJ 3 id (AV 1 [] 70 1 2 A H fun fr t H => ?_)
  refine AK 1 [(71, .bool (p0.Kind == 0))] H fun fr H => AZ 71 H hm (fun hb hm H => ?_) fun hb hm H => ?_
  ·refine CX 3 ?_
   obtain ⟨x16, hx, hm⟩ := bind_some hm
   obtain ⟨i2, er2, _, hx, hq5⟩ := HH.XQ O1 (by decide) A 0 (xs := (z4.set (156 : Int).toNat x15)) rfl hx
   refine BC 1 [] 73 (.ptr (some (i2, (156 : Int).toNat * 1))) h16 H (fun fr => .of (LP (s := EF (some h2.size) ((z4.set (156 : Int).toNat x15).length)) (by kernel_rfl) hx)) fun fr t H => ?_
   obtain ⟨h17, hx, A1⟩ := HH.aZ O1 A 0 rfl er2 hq5 (y := (48 : UInt8)) (o := 0) (new := [Ab 48]) rfl rfl (Nat.le_of_ble_eq_true rfl)
   have hl5 : ((z4.set (156 : Int).toNat x15).set (156 : Int).toNat (48 : UInt8)).length = z4.length := List.length_set.trans hl4
   have el : Af (some h2.size) (z4.set (156 : Int).toNat x15).length = Af (some h2.size) ((z4.set (156 : Int).toNat x15).set (156 : Int).toNat (48 : UInt8)).length := congrArg _ List.length_set.symm
   try rw [el] at H
   try rw [el] at A1
   replace A : HH g h17 [.Ak (some h2.size) 5 (Ak eY ((z4.set (156 : Int).toNat x15).set (156 : Int).toNat (48 : UInt8))), _] F := A1
   refine JB hx H fun fr t H => ?_
   refine at_nil ?_
   exact .inl ⟨_, rfl, An hm, hl5, H.ls, A⟩
  exact D5 (.inl ⟨_, rfl, An hm, hl4, H.ls, A⟩)
 clear ho
 clear A
 intro e fr h18 hQ
 rcases hQ with ⟨x13, rfl, rfl, hl3, H, A⟩ | hF
 ·show AW _ _ _ _ _ _ _
  refine AG 3 ?_
  obtain ⟨o6, hv3, hm⟩ := bind_some hm
  refine BC 1 [] 75 (.slice (some (h2.size, o6)) (x13.length - o6)) h18 H (fun fr => .of (TA (s := EF (some h2.size) x13.length) (t := ⟨some (h2.size, o6), x13.length - o6⟩) (k := .i64) (k' := .i64) (lo := some (257 : Int)) (hi := none) (by kernel_rfl) (HH.vw A 0 rfl hv3 (by kernel_rfl)))) fun fr t H => ?_
  obtain ⟨h19, hc, A1⟩ := HH.Y7 A 0 rfl hv3 ([117, 115, 116, 97, 114, 0, 48, 48] : List UInt8)
  have hl6 : (putAt x13 o6 ([117, 115, 116, 97, 114, 0, 48, 48] : List UInt8)).length = z4.length := (CG (Jx hv3).2.2).trans hl3
  have el : Af (some h2.size) x13.length = Af (some h2.size) (putAt x13 o6 ([117, 115, 116, 97, 114, 0, 48, 48] : List UInt8)).length := congrArg _ (CG (Jx hv3).2.2).symm
  try rw [el] at H
  replace A : HH g h19 [.Ak (some h2.size) 5 (Ak eY (putAt x13 o6 ([117, 115, 116, 97, 114, 0, 48, 48] : List UInt8))), _] F := A1
  refine Fv (Ai ((min ([117, 115, 116, 97, 114, 0, 48, 48] : List UInt8).length (x13.length - o6) : Nat) : Int)) h19 H (fun fr => .of (U5 (d := ⟨some (h2.size, o6), x13.length - o6⟩) (by kernel_rfl) hc)) fun fr t H => ?_
  refine CJ 7 id (AM 1 [(77, Af (some h2.size) ((putAt x13 o6 ([117, 115, 116, 97, 114, 0, 48, 48] : List UInt8)).length))] H fun fr H => Ae 78 (.str (putAt x13 o6 ([117, 115, 116, 97, 114, 0, 48, 48] : List UInt8))) h19 H (fun fr => .of (Xt (xs := putAt x13 o6 ([117, 115, 116, 97, 114, 0, 48, 48] : List UInt8)) A 0 rfl (by kernel_rfl))) fun fr t H => ?_)
  obtain ⟨⟨x17, x18⟩, hx, hm⟩ := bind_some hm
  obtain ⟨v1, h20, hr, rfl, A1⟩ := P5 (av := [.str (putAt x13 o6 ([117, 115, 116, 97, 114, 0, 48, 48] : List UInt8))]) hx (A.cut 0)
  replace A := A.DN A1
  refine Aw 79 hr H fun fr t H => ?_
  refine AK 4 [(2, .str x17), (3, Ai x18)] H fun fr H => AS ?_
  obtain ⟨rfl, rfl⟩ := BD hm
  refine ⟨.inl rfl, .tuple [.str x17, Ai x18], rH H, ?_⟩
  replace A := A.d0
  exact ⟨rfl, A⟩
 exact hF.elim
def BF (p0 : List UInt8) : Option (Int × Int) :=
 (FV (p0.length : Int)).bind fun x1 => Ad (!x1) (some ((0 : Int), (1 : Int))) ((LN p0 (0 : Int)).bind fun x2 => (Ad (x2 == 128) (some true) ((LN p0 (0 : Int)).bind fun x4 => some (x4 == 255)) : Option (Bool)).bind fun x3 => Ad x3 ((Ig p0).bind fun (x5, x6) => some (x5, x6)) ((Fj p0).bind fun (x7, x8) => some (x7, x8)))
theorem Bc {p0 q0 q1} (hm : BF p0 = some (q0, q1)) (A : HH g h [] F) (hc : BG (cfg.still 138) av = [.str p0] := by kernel_rfl) : ∃ v h', BH cfg g h 138 av v h' ∧ v = .tuple [Ai q0, Ai q1] ∧ HH g h' [] F := by
 refine ES 26 [.tmp 2, .tmp 3] hc ?_
 clear hc
 unfold BF at hm
 refine bg 26 [(0, .str p0)] fun fr H => ?_
 refine AG 2 (AK 2 [] H fun fr H => AP (AY (id := 0) (by kernel_rfl) ?_))
 refine AG 5 ?_
 obtain ⟨x1, hx, hm⟩ := bind_some hm
 obtain ⟨v1, h1, hr, rfl, A1⟩ := Lp (av := [Ai (p0.length : Int)]) hx (A.cut 0)
 replace A := A.DN A1
 refine A6 2 [] 7 hr H fun fr t H => ?_
 refine AK 2 [(4, .bool (!x1))] H fun fr H => AZ 4 H hm (fun hb hm H => ?_) fun hb hm H => ?_
 ·refine AG 2 (AK 2 [(2, Ai 0), (3, Ai 1)] H fun fr H => AS ?_)
  obtain ⟨rfl, rfl⟩ := BD hm
  exact ⟨.inl rfl, _, rH H, rfl, A⟩
 refine AG 9 ?_
 obtain ⟨x2, hx, hm⟩ := bind_some hm
 refine BC 1 [] 11 (Ab x2) h1 H (fun fr => .of (EW (by kernel_rfl) hx)) fun fr t H => ?_
 refine AM 2 [(13, .bool (x2 == 128))] H fun fr H => ?_
 obtain ⟨x3, ho, hm⟩ := bind_some hm
 refine A5 4 (fun fr' h' => Has fr' 26 [(0, .str p0), (17, .bool x3)] ∧ HH g h' [] F) ?_ ?_
 ·rcases Ax ho with ⟨hb, hm⟩ | ⟨hb, hm⟩
  ·replace H := H.kn 13 hb
   refine AM 4 [(17, .bool true)] H fun fr H => ?_
   obtain rfl := An hm
   exact at_nil ⟨H.ls, A⟩
  replace H := H.kn 13 hb
  obtain ⟨x4, hx, hm⟩ := bind_some hm
  refine BC 1 [] 15 (Ab x4) h1 H (fun fr => .of (EW (by kernel_rfl) hx)) fun fr t H => ?_
  refine AM 2 [(17, .bool (x4 == 255))] H fun fr H => ?_
  obtain rfl := An hm
  exact at_nil ⟨H.ls, A⟩
 clear A
 intro t fr h2 hK
 obtain ⟨H, A⟩ := hK
 refine AK 1 [(9, .bool x3)] H fun fr H => AZ 9 H hm (fun hb hm H => ?_) fun hb hm H => ?_
 ·refine AG 6 ?_
  obtain ⟨⟨x5, x6⟩, hx, hm⟩ := bind_some hm
  obtain ⟨v1, h3, hr, rfl, A1⟩ := Of (av := [.str p0]) hx (A.cut 0)
  replace A := A.DN A1
  refine A6 1 [] 19 hr H fun fr t H => ?_
  refine AK 4 [(2, Ai x5), (3, Ai x6)] H fun fr H => AS ?_
  obtain ⟨rfl, rfl⟩ := BD hm
  exact ⟨.inl rfl, _, rH H, rfl, A⟩
 refine Br 6 id ?_
 obtain ⟨⟨x7, x8⟩, hx, hm⟩ := bind_some hm
 obtain ⟨v1, h4, hr, rfl, A1⟩ := Mz (av := [.str p0]) hx (A.cut 0)
 replace A := A.DN A1
 refine A6 1 [] 23 hr H fun fr t H => ?_
 refine AK 4 [(2, Ai x7), (3, Ai x8)] H fun fr H => AS ?_
 obtain ⟨rfl, rfl⟩ := BD hm
 exact ⟨.inl rfl, _, rH H, rfl, A⟩
def E9 (x4 : Int) (x6 : Sk) (s : Int) : Option ((Int) ⊕ ((Unit) ⊕ (Bool))) :=
 match s with
 | x7 => Ad (decide (x7 < 2)) ((IG ([x6.w0, x6.w1] : List Int) x7).bind fun x9 => Ad (x4 == x9) (some (.inr (.inr true))) (some (.inl (IntKind.i64.wrap (x7 + 1))))) (some (.inr (.inl ())))
def Fl (p0 : List UInt8) : Option (Bool) :=
 (Ad ((p0.length : Int) != 512) (some true) ((LN p0 (148 : Int)).bind fun x2 => some (decide (x2 ≥ 128))) : Option (Bool)).bind fun x1 => Ad x1 (some false) ((FF p0 (some (148 : Int)) (some (156 : Int))).bind fun x3 => (BF x3).bind fun (x4, x5) => Ad (x5 != 0) (some false) ((Eg p0).bind fun x6 => (loop (E9 x4 x6) (0 : Int)).bind fun o1 => (match o1 with | .inl _ => some false | .inr x8 => some x8)))
theorem Om {p0 q0} (hm : Fl p0 = some q0) (A : HH g h [] F) (hc : BG (cfg.still 76) av = [.str p0] := by kernel_rfl) : ∃ v h', BH cfg g h 76 av v h' ∧ v = .bool q0 ∧ HH g h' [] F := by
 refine ES 32 [.tmp 2] hc ?_
 clear hc
 unfold Fl at hm
 refine bg 32 [(0, .str p0)] fun fr H => ?_
 refine AG 1 (AK 1 [] H fun fr H => AP (AG 8 (AM 4 [(10, .bool ((p0.length : Int) != 512))] H fun fr H => ?_)))
 obtain ⟨x1, ho, hm⟩ := bind_some hm
 refine A5 4 (fun fr' h' => Has fr' 32 [(0, .str p0), (14, .bool x1)] ∧ HH g h' [] F) ?_ ?_
 ·rcases Ax ho with ⟨hb, hm⟩ | ⟨hb, hm⟩
  ·replace H := H.kn 10 hb
   refine AM 4 [(14, .bool true)] H fun fr H => ?_
   obtain rfl := An hm
   exact at_nil ⟨H.ls, A⟩
  replace H := H.kn 10 hb
  obtain ⟨x2, hx, hm⟩ := bind_some hm
  refine BC 1 [] 12 (Ab x2) h H (fun fr => .of (EW (by kernel_rfl) hx)) fun fr t H => ?_
  refine AM 2 [(14, .bool (decide (x2 ≥ 128)))] H fun fr H => ?_
  obtain rfl := An hm
  exact at_nil ⟨H.ls, A⟩
 clear A
 intro t fr h1 hK
 obtain ⟨H, A⟩ := hK
 refine BI id (AZ 14 H hm (fun hb hm H => ?_) fun hb hm H => ?_)
 ·refine AG 1 (AK 1 [(2, .bool false)] H fun fr H => AS ?_)
  obtain rfl := An hm
  exact ⟨.inl rfl, _, rH H, rfl, A⟩
 refine Br 8 id ?_
 obtain ⟨x3, hx, hm⟩ := bind_some hm
 refine BC 1 [] 17 (.str x3) h1 H (fun fr => .of (Fe (k := .i64) (k' := .i64) (lo := (some (148 : Int))) (hi := (some (156 : Int))) (by kernel_rfl) hx)) fun fr t H => ?_
 obtain ⟨⟨x4, x5⟩, hx, hm⟩ := bind_some hm
 obtain ⟨v1, h2, hr, rfl, A1⟩ := Bc (av := [.str x3]) hx (A.cut 0)
 replace A := A.DN A1
 refine Aw 18 hr H fun fr t H => ?_
 refine AK 5 [(3, Ai x4), (4, Ai x5)] H fun fr H => AP (AG 2 (AK 2 [(22, .bool (x5 != 0))] H fun fr H => AZ 22 H hm (fun hb hm H => ?_) fun hb hm H => ?_))
 ·refine AG 1 (AK 1 [(2, .bool false)] H fun fr H => AS ?_)
  obtain rfl := An hm
  exact ⟨.inl rfl, _, rH H, rfl, A⟩
 refine CI id (AP (AG 3 ?_))
 obtain ⟨x6, hx, hm⟩ := bind_some hm
 obtain ⟨v1, h3, hr, rfl, A1⟩ := Lb (av := [.str p0]) hx (A.cut 0)
 replace A := A.DN A1
 refine A6 1 [] 24 hr H fun fr t H => ?_
 refine AK 1 [(25, Ai 0)] H fun fr H => AY (id := 0) (by kernel_rfl) ?_
 obtain ⟨o1, ho, hm⟩ := bind_some hm
 refine BJ (Q' := fun e fr' h' => (e = .exit 0 ∧ .inl () = o1 ∧ Has fr' 32 [] ∧ HH g h' [] F) ∨ (∃ x8, e = .ret ∧ .inr x8 = o1 ∧ Has fr' 32 [(2, .bool x8)] ∧ HH g h' [] F) ∨ False) ?_ ?_
 ·refine Ce (by kernel_rfl) (fun (s : Int) fr' h' => ∃ x7, x7 = s ∧ Has fr' 32 [(3, Ai x4), (24, .agg [Ai x6.w0, Ai x6.w1]), (25, Ai x7)] ∧ HH g h' [] F) ho ⟨_, rfl, H.ls, A⟩ ?_
  clear ho hm H A
  intro s q fr h4 hI hm
  obtain ⟨x7, rfl, H, A⟩ := hI
  unfold E9 at hm
  refine AG 1 (AK 1 [(26, .bool (decide (x7 < 2)))] H fun fr H => AP (AZ 26 H hm (fun hb hm H => ?_) fun hb hm H => ?_))
  ·refine CI id (AP (AY (id := 1) (by kernel_rfl) ?_))
   refine AG 2 ?_
   obtain ⟨x9, hq1, hm⟩ := bind_some hm
   refine Ae 27 (Ai x9) h4 H (fun fr => .of (Sx (fun w : Int => Ai w) [x6.w0, x6.w1] (by kernel_rfl) rfl rfl hq1)) fun fr t H => ?_
   refine Bg 1 [(6, Ai x9)] 3 H fun fr H => AK 3 [(30, .bool (x4 == x9))] H fun fr H => AZ 30 H hm (fun hb hm H => ?_) fun hb hm H => ?_
   ·refine AG 1 (AK 1 [(2, .bool true)] H fun fr H => AS ?_)
    exact nr hm fun e => Or.inr (.inl ⟨_, rfl, e, H.ls, A⟩)
   refine DI 2 id (Bd 2 [(3, Ai x4), (24, .agg [Ai x6.w0, Ai x6.w1]), (25, Ai (IntKind.i64.wrap (x7 + 1)))] H fun fr H => at_nil ?_)
   exact nx hm ⟨_, rfl, H.ls, A⟩
  refine Bf (i := 0) (by kernel_rfl) ?_
  exact nr hm fun e => .inl ⟨rfl, e, H.ls, A⟩
 clear ho
 clear A
 intro e fr h5 hQ
 rcases hQ with ⟨rfl, rfl, H, A⟩ | ⟨x8, rfl, rfl, H, A⟩ | hF
 ·show AW _ _ _ _ _ _ _
  refine AG 1 (AK 1 [(2, .bool false)] H fun fr H => AS ?_)
  obtain rfl := An hm
  exact ⟨.inl rfl, _, rH H, rfl, A⟩
 ·obtain rfl := An hm
  exact ⟨.inl rfl, _, rH H, rfl, A⟩
 exact hF.elim
def Al (p0 : List UInt8) (p1 : Int) : Option ((List UInt8)) :=
 (CY).bind fun x1 => (IG ([x1.w0, x1.w1, x1.w2, x1.w3, x1.w4, x1.w5, x1.w6, x1.w7, x1.w8, x1.w9, x1.Tb, x1.TM] : List Aj) p1).bind fun x2 => (FF p0 (some x2.from_) (some (IntKind.i64.wrap (x2.from_ + x2.Dq)))).bind fun x3 => some x3
theorem A7 {p0 p1 q0} (hm : Al p0 p1 = some q0) (A : HH g h [] F) (hc : BG (cfg.still 79) av = [.str p0, Ai p1] := by kernel_rfl) : ∃ v h', BH cfg g h 79 av v h' ∧ v = .str q0 ∧ HH g h' [] F := by
 refine ES 18 [.tmp 4] hc ?_
 clear hc
 unfold Al at hm
 refine bg 18 [(0, .str p0), (1, Ai p1)] fun fr H => ?_
 refine AG 1 (Bg 1 [] 5 H fun fr H => ?_)
 obtain ⟨x1, hx, hm⟩ := bind_some hm
 obtain ⟨v1, h1, hr, rfl, A1⟩ := DO (av := []) hx (A.cut 0)
 replace A := A.DN A1
 refine Aw 6 hr H fun fr t H => ?_
 obtain ⟨x2, hq1, hm⟩ := bind_some hm
 refine BC 1 [] 8 (.agg [Ai x2.from_, Ai x2.Dq]) h1 H (fun fr => .of (KO (e := Cp) (x := x2) Cn [x1.w0, x1.w1, x1.w2, x1.w3, x1.w4, x1.w5, x1.w6, x1.w7, x1.w8, x1.w9, x1.Tb, x1.TM] (by kernel_rfl) rfl rfl hq1)) fun fr t H => ?_
 obtain ⟨h2, e1, A⟩ := A.pu (.cells none 2 [Ai 0, Ai 0])
 refine BK 5 (.ptr (some (h1.size, 0))) e1 H fun fr t H => ?_
 obtain ⟨h3, hx, A⟩ := A.s0 0 [Ai x2.from_, Ai x2.Dq] [_, _]
 refine Ch hx H fun fr t H => ?_
 refine CJ 10 id (AV 2 [(9, .str p0)] 11 0 0 A H fun fr t H => ?_)
 refine AV 1 [] 13 0 0 A H fun fr t H => ?_
 refine AV 1 [] 15 0 1 A H fun fr t H => ?_
 obtain ⟨x3, hx, hm⟩ := bind_some hm
 refine BC 1 [] 17 (.str x3) h3 H (fun fr => .of (Fe (k := .i64) (k' := .i64) (lo := (some x2.from_)) (hi := (some (IntKind.i64.wrap (x2.from_ + x2.Dq)))) (by kernel_rfl) hx)) fun fr t H => ?_
 refine AK 1 [(4, .str x3)] H fun fr H => AS ?_
 obtain rfl := An hm
 refine ⟨.inl rfl, .str x3, rH H, ?_⟩
 replace A := A.d0
 exact ⟨rfl, A⟩
def Ca (p0 : List UInt8) : Option ((List UInt8)) :=
 D3 (decide (p0.length ≤ 4294967280)) <| some ((Lib.cut p0 ([0] : List UInt8)).1)
theorem Dk {p0 q0} (hm : Ca p0 = some q0) (A : HH g h [] F) (hc : BG (cfg.still 78) av = [.str p0] := by kernel_rfl) : ∃ v h', BH cfg g h 78 av v h' ∧ v = .str q0 ∧ HH g h' [] F := by
 refine ES 13 [.tmp 2] hc ?_
 clear hc
 unfold Ca at hm
 refine bg 13 [(0, .str p0)] fun fr H => ?_
 refine AG 1 (Bg 1 [] 9 H fun fr H => ?_)
 obtain ⟨hb, hm⟩ := A4 hm
 refine BC 1 [] 8 (.tuple [.str ((Lib.cut p0 ([0] : List UInt8)).1), .str ((Lib.cut p0 ([0] : List UInt8)).2.1), .bool ((Lib.cut p0 ([0] : List UInt8)).2.2)]) h H (fun fr => Steps.call (by kernel_rfl) (Tu (C := cfg) (f := 139) (a := 0) (by kernel_rfl) (l := exts) rfl (by kernel_rfl) hb)) fun fr t H => ?_
 refine Bg 7 [(3, .str ((Lib.cut p0 ([0] : List UInt8)).1))] 2 H fun fr H => AK 2 [(2, .str ((Lib.cut p0 ([0] : List UInt8)).1))] H fun fr H => AS ?_
 obtain rfl := An hm
 exact ⟨.inl rfl, _, rH H, rfl, A⟩
def C9 (p0 : List UInt8) (p2_0 : AJ) : Option (Int × AJ) :=
 (Al p0 (1 : Int)).bind fun x1 => (BF x1).bind fun (x2, x3) => Ad (x3 != 0) (some (x3, p2_0)) (Ad ((decide (x2 < 0)) || false) (some ((6 : Int), p2_0)) ((Al p0 (2 : Int)).bind fun x4 => (BF x4).bind fun (x5, x6) => Ad (x6 != 0) (some (x6, (⟨p2_0.Name, p2_0.AU, p2_0.Kind, x2, p2_0.BP, p2_0.BQ, p2_0.BU, p2_0.Time, p2_0.AN, p2_0.AO, p2_0.Aa, p2_0.Ag, p2_0.Form⟩ : AJ))) (Ad ((decide (x5 < 0)) || false) (some ((6 : Int), (⟨p2_0.Name, p2_0.AU, p2_0.Kind, x2, p2_0.BP, p2_0.BQ, p2_0.BU, p2_0.Time, p2_0.AN, p2_0.AO, p2_0.Aa, p2_0.Ag, p2_0.Form⟩ : AJ))) ((Al p0 (3 : Int)).bind fun x7 => (BF x7).bind fun (x8, x9) => Ad (x9 != 0) (some (x9, (⟨p2_0.Name, p2_0.AU, p2_0.Kind, x2, x5, p2_0.BQ, p2_0.BU, p2_0.Time, p2_0.AN, p2_0.AO, p2_0.Aa, p2_0.Ag, p2_0.Form⟩ : AJ))) (Ad ((decide (x8 < 0)) || false) (some ((6 : Int), (⟨p2_0.Name, p2_0.AU, p2_0.Kind, x2, x5, p2_0.BQ, p2_0.BU, p2_0.Time, p2_0.AN, p2_0.AO, p2_0.Aa, p2_0.Ag, p2_0.Form⟩ : AJ))) ((Al p0 (4 : Int)).bind fun x10 => (BF x10).bind fun (x11, x12) => Ad (x12 != 0) (some (x12, (⟨p2_0.Name, p2_0.AU, p2_0.Kind, x2, x5, x8, p2_0.BU, p2_0.Time, p2_0.AN, p2_0.AO, p2_0.Aa, p2_0.Ag, p2_0.Form⟩ : AJ))) (Ad ((decide (x11 < 0)) || false) (some ((6 : Int), (⟨p2_0.Name, p2_0.AU, p2_0.Kind, x2, x5, x8, p2_0.BU, p2_0.Time, p2_0.AN, p2_0.AO, p2_0.Aa, p2_0.Ag, p2_0.Form⟩ : AJ))) ((Al p0 (5 : Int)).bind fun x13 => (BF x13).bind fun (x14, x15) => Ad (x15 != 0) (some (x15, (⟨p2_0.Name, p2_0.AU, p2_0.Kind, x2, x5, x8, x11, p2_0.Time, p2_0.AN, p2_0.AO, p2_0.Aa, p2_0.Ag, p2_0.Form⟩ : AJ))) (Ad ((decide (x14 < 0)) && false) (some ((6 : Int), (⟨p2_0.Name, p2_0.AU, p2_0.Kind, x2, x5, x8, x11, p2_0.Time, p2_0.AN, p2_0.AO, p2_0.Aa, p2_0.Ag, p2_0.Form⟩ : AJ))) ((Al p0 (9 : Int)).bind fun x16 => (BF x16).bind fun (x17, x18) => Ad (x18 != 0) (some (x18, (⟨p2_0.Name, p2_0.AU, p2_0.Kind, x2, x5, x8, x11, x14, p2_0.AN, p2_0.AO, p2_0.Aa, p2_0.Ag, p2_0.Form⟩ : AJ))) (Ad ((decide (x17 < 0)) || false) (some ((6 : Int), (⟨p2_0.Name, p2_0.AU, p2_0.Kind, x2, x5, x8, x11, x14, p2_0.AN, p2_0.AO, p2_0.Aa, p2_0.Ag, p2_0.Form⟩ : AJ))) ((Al p0 (10 : Int)).bind fun x19 => (BF x19).bind fun (x20, x21) => Ad (x21 != 0) (some (x21, (⟨p2_0.Name, p2_0.AU, p2_0.Kind, x2, x5, x8, x11, x14, p2_0.AN, p2_0.AO, x17, p2_0.Ag, p2_0.Form⟩ : AJ))) (Ad ((decide (x20 < 0)) || false) (some ((6 : Int), (⟨p2_0.Name, p2_0.AU, p2_0.Kind, x2, x5, x8, x11, x14, p2_0.AN, p2_0.AO, x17, p2_0.Ag, p2_0.Form⟩ : AJ))) (some ((0 : Int), (⟨p2_0.Name, p2_0.AU, p2_0.Kind, x2, x5, x8, x11, x14, p2_0.AN, p2_0.AO, x17, x20, p2_0.Form⟩ : AJ))))))))))))))))
theorem Hy {p0 p2_0 bp1 bp2 bp2_0 q0 u2} (hm : C9 p0 p2_0 = some (q0, u2)) (A : HH g h [.obj bp1 (.cells (some 3) 2 [Ai (1 : Int), Ai (2 : Int), Ai (3 : Int), Ai (4 : Int), Ai (5 : Int), Ai (9 : Int), Ai (10 : Int)]), .obj bp2 (.cells (some 135) 2 [.ptr (some (bp2_0, 3)), .ptr (some (bp2_0, 4)), .ptr (some (bp2_0, 5)), .ptr (some (bp2_0, 6)), .ptr (some (bp2_0, 7)), .ptr (some (bp2_0, 10)), .ptr (some (bp2_0, 11))]), .obj bp2_0 (.cells none 2 (AF p2_0))] F) (hc : BG (cfg.still 80) av = [.str p0, .slice (some (bp1, 0)) 7, .slice (some (bp2, 0)) 7] := by kernel_rfl) : ∃ v h', BH cfg g h 80 av v h' ∧ v = Ai q0 ∧ HH g h' [.obj bp1 (.cells (some 3) 2 [Ai (1 : Int), Ai (2 : Int), Ai (3 : Int), Ai (4 : Int), Ai (5 : Int), Ai (9 : Int), Ai (10 : Int)]), .obj bp2 (.cells (some 135) 2 [.ptr (some (bp2_0, 3)), .ptr (some (bp2_0, 4)), .ptr (some (bp2_0, 5)), .ptr (some (bp2_0, 6)), .ptr (some (bp2_0, 7)), .ptr (some (bp2_0, 10)), .ptr (some (bp2_0, 11))]), .obj bp2_0 (.cells none 2 (AF u2))] F := by
 refine ES 43 [.tmp 6] hc ?_
 clear hc
 unfold C9 at hm
 refine bg 43 [(0, .str p0), (1, .slice (some (bp1, 0)) 7), (2, .slice (some (bp2, 0)) 7)] fun fr H => ?_
 refine AG 1 (AK 1 [] H fun fr H => AP (AG 3 (AK 3 [(11, .slice (some (bp1, 0)) 7), (12, Ai 7), (13, Ai 0)] H fun fr H => AY (id := 0) (by kernel_rfl) ?_)))
 refine C4 (by kernel_rfl) ?_
 refine AG 1 (AK 1 [(14, .bool true)] H fun fr H => AP (Cf (x := .tmp 14) (by kernel_rfl) H (fun fr => by kernel_rfl) ?_))
 refine CI id (AP (AY (id := 1) (by kernel_rfl) ?_))
 refine AG 5 (AV 2 [(15, Ai (0 : Int))] 17 0 0 A H fun fr t H => ?_)
 refine Bg 2 [(7, Ai 0), (8, Ai 1)] 9 H fun fr H => ?_
 obtain ⟨x1, hx, hm⟩ := bind_some hm
 obtain ⟨v1, h1, hr, rfl, A1⟩ := A7 (av := [.str p0, Ai 1]) hx (A.cut 0)
 replace A := A.DN A1
 refine A6 2 [] 21 hr H fun fr t H => ?_
 obtain ⟨⟨x2, x3⟩, hx, hm⟩ := bind_some hm
 obtain ⟨v1, h2, hr, rfl, A1⟩ := Bc (av := [.str x1]) hx (A.cut 0)
 replace A := A.DN A1
 refine Aw 22 hr H fun fr t H => ?_
 refine AK 5 [(9, Ai x2), (10, Ai x3)] H fun fr H => AP (AY (id := 2) (by kernel_rfl) ?_)
 refine AG 3 (AK 3 [(25, .bool (x3 != 0))] H fun fr H => AZ 25 H hm (fun hb hm H => ?_) fun hb hm H => ?_)
 ·refine AG 2 (AK 2 [(6, Ai x3)] H fun fr H => AS ?_)
  obtain ⟨rfl, rfl⟩ := BD hm
  exact ⟨.inl rfl, _, rH H, rfl, A⟩
 refine AG 7 (AM 3 [(32, .bool (decide (x2 < 0)))] H fun fr H => A5 3 (fun fr' h' => h2 = h' ∧ Has fr' 43 [(0, .str p0), (2, .slice (some (bp2, 0)) 7), (7, Ai 0), (9, Ai x2), (11, .slice (some (bp1, 0)) 7), (12, Ai 7), (13, Ai 0), (35, .bool ((decide (x2 < 0)) || false))]) ?_ ?_)
 ·cases hb : (decide (x2 < 0) : Bool) with
  | true =>
   replace H := H.kn 32 hb
   exact AM 3 [(35, .bool true)] H fun fr H => Ao H hb
  | false =>
   replace H := H.kn 32 hb
   exact AM 3 [(35, .bool false)] H fun fr H => Ao H hb
 intro t fr h' hK
 obtain ⟨e, H⟩ := hK
 subst e
 refine AK 1 [(29, .bool ((decide (x2 < 0)) || false))] H fun fr H => AZ 29 H hm (fun hb hm H => ?_) fun hb hm H => ?_
 ·refine AG 1 (AK 1 [(6, Ai 6)] H fun fr H => AS ?_)
  obtain ⟨rfl, rfl⟩ := BD hm
  exact ⟨.inl rfl, _, rH H, rfl, A⟩
 refine DI 7 id (AV 3 [] 39 1 0 A H fun fr t H => ?_)
 obtain ⟨h3, hx, A⟩ := A.s2 3 [Ai x2] [_, _, _, _, _, _, _, _, _, _, _, _, _]
 refine CF 2 [] hx H fun fr t H => ?_
 refine Ep 2 id (Bd 2 [(0, .str p0), (2, .slice (some (bp2, 0)) 7), (11, .slice (some (bp1, 0)) 7), (12, Ai 7), (13, Ai 1)] H fun fr H => BI id (C4 (by kernel_rfl) ?_))
 refine AG 1 (AK 1 [(14, .bool true)] H fun fr H => AP (Cf (x := .tmp 14) (by kernel_rfl) H (fun fr => by kernel_rfl) ?_))
 refine CI id (AP (AY (id := 1) (by kernel_rfl) ?_))
 refine AG 5 (AV 2 [(15, Ai (1 : Int))] 17 0 1 A H fun fr t H => ?_)
 refine Bg 2 [(7, Ai 1), (8, Ai 2)] 9 H fun fr H => ?_
 obtain ⟨x4, hx, hm⟩ := bind_some hm
 obtain ⟨v1, h4, hr, rfl, A1⟩ := A7 (av := [.str p0, Ai 2]) hx (A.cut 0)
 replace A := A.DN A1
 refine A6 2 [] 21 hr H fun fr t H => ?_
 obtain ⟨⟨x5, x6⟩, hx, hm⟩ := bind_some hm
 obtain ⟨v1, h5, hr, rfl, A1⟩ := Bc (av := [.str x4]) hx (A.cut 0)
 replace A := A.DN A1
 refine Aw 22 hr H fun fr t H => ?_
 refine AK 5 [(9, Ai x5), (10, Ai x6)] H fun fr H => AP (AY (id := 2) (by kernel_rfl) ?_)
 refine AG 3 (AK 3 [(25, .bool (x6 != 0))] H fun fr H => AZ 25 H hm (fun hb hm H => ?_) fun hb hm H => ?_)
 ·refine AG 2 (AK 2 [(6, Ai x6)] H fun fr H => AS ?_)
  obtain ⟨rfl, rfl⟩ := BD hm
  exact ⟨.inl rfl, _, rH H, rfl, A⟩
 refine AG 7 (AM 3 [(32, .bool (decide (x5 < 0)))] H fun fr H => A5 3 (fun fr' h' => h5 = h' ∧ Has fr' 43 [(0, .str p0), (2, .slice (some (bp2, 0)) 7), (7, Ai 1), (9, Ai x5), (11, .slice (some (bp1, 0)) 7), (12, Ai 7), (13, Ai 1), (35, .bool ((decide (x5 < 0)) || false))]) ?_ ?_)
 ·cases hb : (decide (x5 < 0) : Bool) with
  | true =>
   replace H := H.kn 32 hb
   exact AM 3 [(35, .bool true)] H fun fr H => Ao H hb
  | false =>
   replace H := H.kn 32 hb
   exact AM 3 [(35, .bool false)] H fun fr H => Ao H hb
 intro t fr h' hK
 obtain ⟨e, H⟩ := hK
 subst e
 refine AK 1 [(29, .bool ((decide (x5 < 0)) || false))] H fun fr H => AZ 29 H hm (fun hb hm H => ?_) fun hb hm H => ?_
 ·refine AG 1 (AK 1 [(6, Ai 6)] H fun fr H => AS ?_)
  obtain ⟨rfl, rfl⟩ := BD hm
  exact ⟨.inl rfl, _, rH H, rfl, A⟩
 refine DI 7 id (AV 3 [] 39 1 1 A H fun fr t H => ?_)
 obtain ⟨h6, hx, A⟩ := A.s2 4 [Ai x5] [_, _, _, _, _, _, _, _, _, _, _, _, _]
 refine CF 2 [] hx H fun fr t H => ?_
 refine Ep 2 id (Bd 2 [(0, .str p0), (2, .slice (some (bp2, 0)) 7), (11, .slice (some (bp1, 0)) 7), (12, Ai 7), (13, Ai 2)] H fun fr H => BI id (C4 (by kernel_rfl) ?_))
 refine AG 1 (AK 1 [(14, .bool true)] H fun fr H => AP (Cf (x := .tmp 14) (by kernel_rfl) H (fun fr => by kernel_rfl) ?_))
 refine CI id (AP (AY (id := 1) (by kernel_rfl) ?_))
 refine AG 5 (AV 2 [(15, Ai (2 : Int))] 17 0 2 A H fun fr t H => ?_)
 refine Bg 2 [(7, Ai 2), (8, Ai 3)] 9 H fun fr H => ?_
 obtain ⟨x7, hx, hm⟩ := bind_some hm
 obtain ⟨v1, h7, hr, rfl, A1⟩ := A7 (av := [.str p0, Ai 3]) hx (A.cut 0)
 replace A := A.DN A1
 refine A6 2 [] 21 hr H fun fr t H => ?_
 obtain ⟨⟨x8, x9⟩, hx, hm⟩ := bind_some hm
 obtain ⟨v1, h8, hr, rfl, A1⟩ := Bc (av := [.str x7]) hx (A.cut 0)
 replace A := A.DN A1
 refine Aw 22 hr H fun fr t H => ?_
 refine AK 5 [(9, Ai x8), (10, Ai x9)] H fun fr H => AP (AY (id := 2) (by kernel_rfl) ?_)
 refine AG 3 (AK 3 [(25, .bool (x9 != 0))] H fun fr H => AZ 25 H hm (fun hb hm H => ?_) fun hb hm H => ?_)
 ·refine AG 2 (AK 2 [(6, Ai x9)] H fun fr H => AS ?_)
  obtain ⟨rfl, rfl⟩ := BD hm
  exact ⟨.inl rfl, _, rH H, rfl, A⟩
 refine AG 7 (AM 3 [(32, .bool (decide (x8 < 0)))] H fun fr H => A5 3 (fun fr' h' => h8 = h' ∧ Has fr' 43 [(0, .str p0), (2, .slice (some (bp2, 0)) 7), (7, Ai 2), (9, Ai x8), (11, .slice (some (bp1, 0)) 7), (12, Ai 7), (13, Ai 2), (35, .bool ((decide (x8 < 0)) || false))]) ?_ ?_)
 ·cases hb : (decide (x8 < 0) : Bool) with
  | true =>
   replace H := H.kn 32 hb
   exact AM 3 [(35, .bool true)] H fun fr H => Ao H hb
  | false =>
   replace H := H.kn 32 hb
   exact AM 3 [(35, .bool false)] H fun fr H => Ao H hb
 intro t fr h' hK
 obtain ⟨e, H⟩ := hK
 subst e
 refine AK 1 [(29, .bool ((decide (x8 < 0)) || false))] H fun fr H => AZ 29 H hm (fun hb hm H => ?_) fun hb hm H => ?_
 ·refine AG 1 (AK 1 [(6, Ai 6)] H fun fr H => AS ?_)
  obtain ⟨rfl, rfl⟩ := BD hm
  exact ⟨.inl rfl, _, rH H, rfl, A⟩
 refine DI 7 id (AV 3 [] 39 1 2 A H fun fr t H => ?_)
 obtain ⟨h9, hx, A⟩ := A.s2 5 [Ai x8] [_, _, _, _, _, _, _, _, _, _, _, _, _]
 refine CF 2 [] hx H fun fr t H => ?_
 refine Ep 2 id (Bd 2 [(0, .str p0), (2, .slice (some (bp2, 0)) 7), (11, .slice (some (bp1, 0)) 7), (12, Ai 7), (13, Ai 3)] H fun fr H => BI id (C4 (by kernel_rfl) ?_))
 refine AG 1 (AK 1 [(14, .bool true)] H fun fr H => AP (Cf (x := .tmp 14) (by kernel_rfl) H (fun fr => by kernel_rfl) ?_))
 refine CI id (AP (AY (id := 1) (by kernel_rfl) ?_))
 refine AG 5 (AV 2 [(15, Ai (3 : Int))] 17 0 3 A H fun fr t H => ?_)
 refine Bg 2 [(7, Ai 3), (8, Ai 4)] 9 H fun fr H => ?_
 obtain ⟨x10, hx, hm⟩ := bind_some hm
 obtain ⟨v1, h10, hr, rfl, A1⟩ := A7 (av := [.str p0, Ai 4]) hx (A.cut 0)
 replace A := A.DN A1
 refine A6 2 [] 21 hr H fun fr t H => ?_
 obtain ⟨⟨x11, x12⟩, hx, hm⟩ := bind_some hm
 obtain ⟨v1, h11, hr, rfl, A1⟩ := Bc (av := [.str x10]) hx (A.cut 0)
 replace A := A.DN A1
 refine Aw 22 hr H fun fr t H => ?_
 refine AK 5 [(9, Ai x11), (10, Ai x12)] H fun fr H => AP (AY (id := 2) (by kernel_rfl) ?_)
 refine AG 3 (AK 3 [(25, .bool (x12 != 0))] H fun fr H => AZ 25 H hm (fun hb hm H => ?_) fun hb hm H => ?_)
 ·refine AG 2 (AK 2 [(6, Ai x12)] H fun fr H => AS ?_)
  obtain ⟨rfl, rfl⟩ := BD hm
  exact ⟨.inl rfl, _, rH H, rfl, A⟩
 refine AG 7 (AM 3 [(32, .bool (decide (x11 < 0)))] H fun fr H => A5 3 (fun fr' h' => h11 = h' ∧ Has fr' 43 [(0, .str p0), (2, .slice (some (bp2, 0)) 7), (7, Ai 3), (9, Ai x11), (11, .slice (some (bp1, 0)) 7), (12, Ai 7), (13, Ai 3), (35, .bool ((decide (x11 < 0)) || false))]) ?_ ?_)
 ·cases hb : (decide (x11 < 0) : Bool) with
  | true =>
   replace H := H.kn 32 hb
   exact AM 3 [(35, .bool true)] H fun fr H => Ao H hb
  | false =>
   replace H := H.kn 32 hb
   exact AM 3 [(35, .bool false)] H fun fr H => Ao H hb
 intro t fr h' hK
 obtain ⟨e, H⟩ := hK
 subst e
 refine AK 1 [(29, .bool ((decide (x11 < 0)) || false))] H fun fr H => AZ 29 H hm (fun hb hm H => ?_) fun hb hm H => ?_
 ·refine AG 1 (AK 1 [(6, Ai 6)] H fun fr H => AS ?_)
  obtain ⟨rfl, rfl⟩ := BD hm
  exact ⟨.inl rfl, _, rH H, rfl, A⟩
 refine DI 7 id (AV 3 [] 39 1 3 A H fun fr t H => ?_)
 obtain ⟨h12, hx, A⟩ := A.s2 6 [Ai x11] [_, _, _, _, _, _, _, _, _, _, _, _, _]
 refine CF 2 [] hx H fun fr t H => ?_
 refine Ep 2 id (Bd 2 [(0, .str p0), (2, .slice (some (bp2, 0)) 7), (11, .slice (some (bp1, 0)) 7), (12, Ai 7), (13, Ai 4)] H fun fr H => BI id (C4 (by kernel_rfl) ?_))
 refine AG 1 (AK 1 [(14, .bool true)] H fun fr H => AP (Cf (x := .tmp 14) (by kernel_rfl) H (fun fr => by kernel_rfl) ?_))
 refine CI id (AP (AY (id := 1) (by kernel_rfl) ?_))
 refine AG 5 (AV 2 [(15, Ai (4 : Int))] 17 0 4 A H fun fr t H => ?_)
 refine Bg 2 [(7, Ai 4), (8, Ai 5)] 9 H fun fr H => ?_
 obtain ⟨x13, hx, hm⟩ := bind_some hm
 obtain ⟨v1, h13, hr, rfl, A1⟩ := A7 (av := [.str p0, Ai 5]) hx (A.cut 0)
 replace A := A.DN A1
 refine A6 2 [] 21 hr H fun fr t H => ?_
 obtain ⟨⟨x14, x15⟩, hx, hm⟩ := bind_some hm
 obtain ⟨v1, h14, hr, rfl, A1⟩ := Bc (av := [.str x13]) hx (A.cut 0)
 replace A := A.DN A1
 refine Aw 22 hr H fun fr t H => ?_
 refine AK 5 [(9, Ai x14), (10, Ai x15)] H fun fr H => AP (AY (id := 2) (by kernel_rfl) ?_)
 refine AG 3 (AK 3 [(25, .bool (x15 != 0))] H fun fr H => AZ 25 H hm (fun hb hm H => ?_) fun hb hm H => ?_)
 ·refine AG 2 (AK 2 [(6, Ai x15)] H fun fr H => AS ?_)
  obtain ⟨rfl, rfl⟩ := BD hm
  exact ⟨.inl rfl, _, rH H, rfl, A⟩
 refine AG 7 (AM 3 [(32, .bool (decide (x14 < 0)))] H fun fr H => A5 3 (fun fr' h' => h14 = h' ∧ Has fr' 43 [(0, .str p0), (2, .slice (some (bp2, 0)) 7), (7, Ai 4), (9, Ai x14), (11, .slice (some (bp1, 0)) 7), (12, Ai 7), (13, Ai 4), (35, .bool ((decide (x14 < 0)) && false))]) ?_ ?_)
 ·cases hb : (decide (x14 < 0) : Bool) with
  | true =>
   replace H := H.kn 32 hb
   exact AM 3 [(35, .bool false)] H fun fr H => Ao H hb
  | false =>
   replace H := H.kn 32 hb
   exact AM 3 [(35, .bool false)] H fun fr H => Ao H hb
 intro t fr h' hK
 obtain ⟨e, H⟩ := hK
 subst e
 refine AK 1 [(29, .bool ((decide (x14 < 0)) && false))] H fun fr H => AZ 29 H hm (fun hb hm H => ?_) fun hb hm H => ?_
 ·refine AG 1 (AK 1 [(6, Ai 6)] H fun fr H => AS ?_)
  obtain ⟨rfl, rfl⟩ := BD hm
  exact ⟨.inl rfl, _, rH H, rfl, A⟩
 refine DI 7 id (AV 3 [] 39 1 4 A H fun fr t H => ?_)
 obtain ⟨h15, hx, A⟩ := A.s2 7 [Ai x14] [_, _, _, _, _, _, _, _, _, _, _, _, _]
 refine CF 2 [] hx H fun fr t H => ?_
 refine Ep 2 id (Bd 2 [(0, .str p0), (2, .slice (some (bp2, 0)) 7), (11, .slice (some (bp1, 0)) 7), (12, Ai 7), (13, Ai 5)] H fun fr H => BI id (C4 (by kernel_rfl) ?_))
 refine AG 1 (AK 1 [(14, .bool true)] H fun fr H => AP (Cf (x := .tmp 14) (by kernel_rfl) H (fun fr => by kernel_rfl) ?_))
 refine CI id (AP (AY (id := 1) (by kernel_rfl) ?_))
 refine AG 5 (AV 2 [(15, Ai (5 : Int))] 17 0 5 A H fun fr t H => ?_)
 refine Bg 2 [(7, Ai 5), (8, Ai 9)] 9 H fun fr H => ?_
 obtain ⟨x16, hx, hm⟩ := bind_some hm
 obtain ⟨v1, h16, hr, rfl, A1⟩ := A7 (av := [.str p0, Ai 9]) hx (A.cut 0)
 replace A := A.DN A1
 refine A6 2 [] 21 hr H fun fr t H => ?_
 obtain ⟨⟨x17, x18⟩, hx, hm⟩ := bind_some hm
 obtain ⟨v1, h17, hr, rfl, A1⟩ := Bc (av := [.str x16]) hx (A.cut 0)
 replace A := A.DN A1
 refine Aw 22 hr H fun fr t H => ?_
 refine AK 5 [(9, Ai x17), (10, Ai x18)] H fun fr H => AP (AY (id := 2) (by kernel_rfl) ?_)
 refine AG 3 (AK 3 [(25, .bool (x18 != 0))] H fun fr H => AZ 25 H hm (fun hb hm H => ?_) fun hb hm H => ?_)
 ·refine AG 2 (AK 2 [(6, Ai x18)] H fun fr H => AS ?_)
  obtain ⟨rfl, rfl⟩ := BD hm
  exact ⟨.inl rfl, _, rH H, rfl, A⟩
 refine AG 7 (AM 3 [(32, .bool (decide (x17 < 0)))] H fun fr H => A5 3 (fun fr' h' => h17 = h' ∧ Has fr' 43 [(0, .str p0), (2, .slice (some (bp2, 0)) 7), (7, Ai 5), (9, Ai x17), (11, .slice (some (bp1, 0)) 7), (12, Ai 7), (13, Ai 5), (35, .bool ((decide (x17 < 0)) || false))]) ?_ ?_)
 ·cases hb : (decide (x17 < 0) : Bool) with
  | true =>
   replace H := H.kn 32 hb
   exact AM 3 [(35, .bool true)] H fun fr H => Ao H hb
  | false =>
   replace H := H.kn 32 hb
   exact AM 3 [(35, .bool false)] H fun fr H => Ao H hb
 intro t fr h' hK
 obtain ⟨e, H⟩ := hK
 subst e
 refine AK 1 [(29, .bool ((decide (x17 < 0)) || false))] H fun fr H => AZ 29 H hm (fun hb hm H => ?_) fun hb hm H => ?_
 ·refine AG 1 (AK 1 [(6, Ai 6)] H fun fr H => AS ?_)
  obtain ⟨rfl, rfl⟩ := BD hm
  exact ⟨.inl rfl, _, rH H, rfl, A⟩
 refine DI 7 id (AV 3 [] 39 1 5 A H fun fr t H => ?_)
 obtain ⟨h18, hx, A⟩ := A.s2 10 [Ai x17] [_, _, _, _, _, _, _, _, _, _, _, _, _]
 refine CF 2 [] hx H fun fr t H => ?_
 refine Ep 2 id (Bd 2 [(0, .str p0), (2, .slice (some (bp2, 0)) 7), (11, .slice (some (bp1, 0)) 7), (12, Ai 7), (13, Ai 6)] H fun fr H => BI id (C4 (by kernel_rfl) ?_))
 refine AG 1 (AK 1 [(14, .bool true)] H fun fr H => AP (Cf (x := .tmp 14) (by kernel_rfl) H (fun fr => by kernel_rfl) ?_))
 refine CI id (AP (AY (id := 1) (by kernel_rfl) ?_))
 refine AG 5 (AV 2 [(15, Ai (6 : Int))] 17 0 6 A H fun fr t H => ?_)
 refine Bg 2 [(7, Ai 6), (8, Ai 10)] 9 H fun fr H => ?_
 obtain ⟨x19, hx, hm⟩ := bind_some hm
 obtain ⟨v1, h19, hr, rfl, A1⟩ := A7 (av := [.str p0, Ai 10]) hx (A.cut 0)
 replace A := A.DN A1
 refine A6 2 [] 21 hr H fun fr t H => ?_
 obtain ⟨⟨x20, x21⟩, hx, hm⟩ := bind_some hm
 obtain ⟨v1, h20, hr, rfl, A1⟩ := Bc (av := [.str x19]) hx (A.cut 0)
 replace A := A.DN A1
 refine Aw 22 hr H fun fr t H => ?_
 refine AK 5 [(9, Ai x20), (10, Ai x21)] H fun fr H => AP (AY (id := 2) (by kernel_rfl) ?_)
 refine AG 3 (AK 3 [(25, .bool (x21 != 0))] H fun fr H => AZ 25 H hm (fun hb hm H => ?_) fun hb hm H => ?_)
 ·refine AG 2 (AK 2 [(6, Ai x21)] H fun fr H => AS ?_)
  obtain ⟨rfl, rfl⟩ := BD hm
  exact ⟨.inl rfl, _, rH H, rfl, A⟩
 refine AG 7 (AM 3 [(32, .bool (decide (x20 < 0)))] H fun fr H => A5 3 (fun fr' h' => h20 = h' ∧ Has fr' 43 [(0, .str p0), (2, .slice (some (bp2, 0)) 7), (7, Ai 6), (9, Ai x20), (11, .slice (some (bp1, 0)) 7), (12, Ai 7), (13, Ai 6), (35, .bool ((decide (x20 < 0)) || false))]) ?_ ?_)
 ·cases hb : (decide (x20 < 0) : Bool) with
  | true =>
   replace H := H.kn 32 hb
   exact AM 3 [(35, .bool true)] H fun fr H => Ao H hb
  | false =>
   replace H := H.kn 32 hb
   exact AM 3 [(35, .bool false)] H fun fr H => Ao H hb
 intro t fr h' hK
 obtain ⟨e, H⟩ := hK
 subst e
 refine AK 1 [(29, .bool ((decide (x20 < 0)) || false))] H fun fr H => AZ 29 H hm (fun hb hm H => ?_) fun hb hm H => ?_
 ·refine AG 1 (AK 1 [(6, Ai 6)] H fun fr H => AS ?_)
  obtain ⟨rfl, rfl⟩ := BD hm
  exact ⟨.inl rfl, _, rH H, rfl, A⟩
 refine DI 7 id (AV 3 [] 39 1 6 A H fun fr t H => ?_)
 obtain ⟨h21, hx, A⟩ := A.s2 11 [Ai x20] [_, _, _, _, _, _, _, _, _, _, _, _, _]
 refine CF 2 [] hx H fun fr t H => ?_
 refine Ep 2 id (Bd 2 [(0, .str p0), (2, .slice (some (bp2, 0)) 7), (11, .slice (some (bp1, 0)) 7), (12, Ai 7), (13, Ai 7)] H fun fr H => BI id (C4 (by kernel_rfl) ?_))
 refine AG 1 (AK 1 [(14, .bool false)] H fun fr H => AP (E8 (x := .tmp 14) (by kernel_rfl) H (fun fr => by kernel_rfl) ?_))
 refine Bf (i := 0) (by kernel_rfl) ?_
 show AW _ _ _ _ _ _ _
 refine AG 1 (AK 1 [(6, Ai 0)] H fun fr H => AS ?_)
 obtain ⟨rfl, rfl⟩ := BD hm
 exact ⟨.inl rfl, _, rH H, rfl, A⟩
def FT (p0 : List UInt8) (p1 : List UInt8) : Option ((List UInt8)) :=
 Ad (p0 == ([] : List UInt8)) (some p1) (D3 (decide (p0.length + ([47] : List UInt8).length ≤ 9223372036854775807)) <| D3 (decide ((p0 ++ ([47] : List UInt8)).length + p1.length ≤ 9223372036854775807)) <| some ((p0 ++ ([47] : List UInt8)) ++ p1))
theorem LI {p0 p1 q0} (hm : FT p0 p1 = some q0) (A : HH g h [] F) (hc : BG (cfg.still 81) av = [.str p0, .str p1] := by kernel_rfl) : ∃ v h', BH cfg g h 81 av v h' ∧ v = .str q0 ∧ HH g h' [] F := by
 refine ES 12 [.tmp 4] hc ?_
 clear hc
 unfold FT at hm
 refine bg 12 [(0, .str p0), (1, .str p1)] fun fr H => ?_
 refine AG 1 (AK 1 [] H fun fr H => AP (AG 2 (AK 2 [(6, .bool (p0 == ([] : List UInt8)))] H fun fr H => AZ 6 H hm (fun hb hm H => ?_) fun hb hm H => ?_)))
 ·refine AG 2 (AK 2 [(4, .str p1)] H fun fr H => AS ?_)
  obtain rfl := An hm
  exact ⟨.inl rfl, _, rH H, rfl, A⟩
 refine Br 5 id (AM 1 [(8, .str p0)] H fun fr H => ?_)
 obtain ⟨hb, hm⟩ := A4 hm
 refine Ae 9 (.str (p0 ++ ([47] : List UInt8))) h H (fun fr => .of (Lq (by kernel_rfl) hb)) fun fr t H => ?_
 refine AM 1 [(10, .str p1)] H fun fr H => ?_
 obtain ⟨hb, hm⟩ := A4 hm
 refine Ae 11 (.str ((p0 ++ ([47] : List UInt8)) ++ p1)) h H (fun fr => .of (Lq (by kernel_rfl) hb)) fun fr t H => ?_
 refine AK 1 [(4, .str ((p0 ++ ([47] : List UInt8)) ++ p1))] H fun fr H => AS ?_
 obtain rfl := An hm
 exact ⟨.inl rfl, _, rH H, rfl, A⟩
def Cj (x4 : List AB) (s : (List ((List UInt8) × (List UInt8))) × Int) : Option (((List ((List UInt8) × (List UInt8))) × Int) ⊕ (((List ((List UInt8) × (List UInt8)))))) :=
 match s with
 | (x5, x6) => Ad (decide (x6 < (x4.length : Int))) ((IG x4 x6).bind fun x8 => some (.inl ((Bb x5 x8.Key x8.Value), IntKind.i64.wrap (x6 + 1)))) (some (.inr x5))
def DP (p0 : List AB) (p1 : List AB) (s : (List ((List UInt8) × (List UInt8))) × Int) : Option (((List ((List UInt8) × (List UInt8))) × Int) ⊕ (((List ((List UInt8) × (List UInt8)))))) :=
 match s with
 | (x1, x2) => Ad (decide (x2 < 2)) ((IG ([p0, p1] : List (List AB)) x2).bind fun x4 => (loop (Cj x4) (x1, (0 : Int))).bind fun x7 => some (.inl (x7, IntKind.i64.wrap (x2 + 1)))) (some (.inr x1))
def Ei (x3 : List ((List UInt8) × (List UInt8))) (s : (List AB) × Int) : Option (((List AB) × Int) ⊕ (((List AB)))) :=
 match s with
 | (x9, x10) => Ad (decide (x10 < ((Dv (x3.map Prod.fst)).length : Int))) (((IG (Dv (x3.map Prod.fst)) x10).bind fun x13 => Ad (!(((C3 x3 x13).getD ([] : List UInt8)) == ([] : List UInt8))) (D3 (R4 32 (x9.length + ([(⟨x13, ((C3 x3 x13).getD ([] : List UInt8))⟩ : AB)] : List AB).length)) <| some (x9 ++ ([(⟨x13, ((C3 x3 x13).getD ([] : List UInt8))⟩ : AB)] : List AB))) (some x9) : Option (((List AB)))).bind fun x12 => some (.inl (x12, IntKind.i64.wrap (x10 + 1)))) (some (.inr x9))
def E3 (p0 : List AB) (p1 : List AB) : Option ((List AB)) :=
 (loop (DP p0 p1) (([] : List ((List UInt8) × (List UInt8))), (0 : Int))).bind fun x3 => D3 (MN (x3.map Prod.fst)) <| (loop (Ei x3) (([] : List AB), (0 : Int))).bind fun x11 => some x11
theorem Ob {p0 p1 q0} (hm : E3 p0 p1 = some q0) {h0} (A : HH g h [] F) (hc : JT (Ji g) av h0 = some ([vs AE p0, vs AE p1], h) := by kernel_rfl) : ∃ v h', BH cfg g h0 31 av v h' ∧ ∃ (rq0 : Option Nat), v = Af rq0 q0.length ∧ HH g h' [.Ak rq0 117 (Ak AE q0)] F := by
 refine XD (n := 55) (rs := [.tmp 4]) (by kernel_rfl) hc (by kernel_rfl) ?_
 clear hc
 unfold E3 at hm
 refine bg 55 [(0, vs AE p0), (1, vs AE p1)] fun fr H => ?_
 refine AG 1 (Bg 1 [] 2 H fun fr H => ?_)
 obtain ⟨h1, e1⟩ : ∃ x, x = h.push (.map 2 []) := ⟨_, rfl⟩
 replace A : HH g h1 [.obj h.size (.map 2 (DQ (fun k : List UInt8 => .str k) (fun v : List UInt8 => .str v) ([] : List ((List UInt8) × (List UInt8)))))] F := (A.push _).to e1
 refine BK 13 (.map (some h.size)) e1 H fun fr t H => ?_
 refine AK 1 [(5, .map (some h.size))] H fun fr H => AP (AG 4 (AK 4 [(16, .agg [vs AE p0, vs AE p1]), (17, Ai 0)] H fun fr H => AY (id := 0) (by kernel_rfl) ?_))
 obtain ⟨o1, ho, hm⟩ := bind_some hm
 refine BJ (Q' := fun e fr' h' => (∃ x3, e = .exit 0 ∧ x3 = o1 ∧ Has fr' 55 [(5, .map (some h.size))] ∧ HH g h' [.obj h.size (.map 2 (DQ (fun k : List UInt8 => .str k) (fun v : List UInt8 => .str v) x3))] F) ∨ False) ?_ ?_
 ·refine Ce (by kernel_rfl) (fun (s : (List ((List UInt8) × (List UInt8))) × Int) fr' h' => ∃ x1 x2, (x1, x2) = s ∧ Has fr' 55 [(5, .map (some h.size)), (16, .agg [vs AE p0, vs AE p1]), (17, Ai x2)] ∧ HH g h' [.obj h.size (.map 2 (DQ (fun k : List UInt8 => .str k) (fun v : List UInt8 => .str v) x1))] F) ho ⟨_, _, rfl, H.ls, A⟩ ?_
  clear ho hm H A
  intro s q fr h2 hI hm
  obtain ⟨x1, x2, rfl, H, A⟩ := hI
  unfold DP at hm
  refine AG 1 (AK 1 [(18, .bool (decide (x2 < 2)))] H fun fr H => AP (AZ 18 H hm (fun hb hm H => ?_) fun hb hm H => ?_))
  ·refine CI id (AP (AY (id := 1) (by kernel_rfl) ?_))
   refine AG 2 ?_
   obtain ⟨x4, hq1, hm⟩ := bind_some hm
   refine Ae 19 (vs AE x4) h2 H (fun fr => .of (Sx (fun w : List AB => vs AE w) [p0, p1] (by kernel_rfl) rfl rfl hq1)) fun fr t H => ?_
   refine Bg 1 [(7, vs AE x4)] 3 H fun fr H => AK 3 [(20, vs AE x4), (21, Ai (x4.length : Int)), (22, Ai 0)] H fun fr H => AY (id := 2) (by kernel_rfl) ?_
   obtain ⟨o2, ho, hm⟩ := bind_some hm
   refine BJ (Q' := fun e fr' h' => (∃ x7, e = .exit 2 ∧ x7 = o2 ∧ Has fr' 55 [(5, .map (some h.size)), (16, .agg [vs AE p0, vs AE p1]), (17, Ai x2)] ∧ HH g h' [.obj h.size (.map 2 (DQ (fun k : List UInt8 => .str k) (fun v : List UInt8 => .str v) x7))] F) ∨ False) ?_ ?_
   ·refine Ce (by kernel_rfl) (fun (s : (List ((List UInt8) × (List UInt8))) × Int) fr' h' => ∃ x5 x6, (x5, x6) = s ∧ Has fr' 55 [(5, .map (some h.size)), (16, .agg [vs AE p0, vs AE p1]), (17, Ai x2), (20, vs AE x4), (21, Ai (x4.length : Int)), (22, Ai x6)] ∧ HH g h' [.obj h.size (.map 2 (DQ (fun k : List UInt8 => .str k) (fun v : List UInt8 => .str v) x5))] F) ho ⟨_, _, rfl, H.ls, A⟩ ?_
    clear ho hm H A
    intro s q fr h3 hI hm
    obtain ⟨x5, x6, rfl, H, A⟩ := hI
    unfold Cj at hm
    refine AG 1 (AK 1 [(23, .bool (decide (x6 < (x4.length : Int))))] H fun fr H => AP (AZ 23 H hm (fun hb hm H => ?_) fun hb hm H => ?_))
    ·refine CI id (AP (AY (id := 3) (by kernel_rfl) ?_))
     refine AG 4 ?_
     obtain ⟨x8, hx, hm⟩ := bind_some hm
     refine Ae 24 (.AR [.str x8.Key, .str x8.Value]) h3 H (fun fr => .of (OC (e := AE) (x := x8) Am (by decide) (by kernel_rfl) hx)) fun fr t H => ?_
     refine Ae 25 (.agg [.str x8.Key, .str x8.Value]) h3 H (fun fr => .of (Kz (by kernel_rfl))) fun fr t H => ?_
     obtain ⟨h4, e2, A⟩ := A.pu (.cells none 2 [.str ([] : List UInt8), .str ([] : List UInt8)])
     refine BK 9 (.ptr (some (h3.size, 0))) e2 H fun fr t H => ?_
     obtain ⟨h5, hx, A⟩ := A.s0 0 [.str x8.Key, .str x8.Value] [_, _]
     refine Ch hx H fun fr t H => ?_
     refine Ep 6 id (AV 2 [(26, .map (some h.size))] 28 0 0 A H fun fr t H => ?_)
     refine AV 1 [] 30 0 1 A H fun fr t H => ?_
     obtain ⟨h6, hx, A1⟩ := HH.MU (kt := 9) (et := 9) (ek := fun k : List UInt8 => .str k) (ev := fun v : List UInt8 => .str v) (YF (by kernel_rfl)) A 1 rfl (t := 146) (by kernel_rfl) x8.Key x8.Value
     replace A : HH g h6 [_, .obj h.size (.map 2 (DQ (fun k : List UInt8 => .str k) (fun v : List UInt8 => .str v) (Bb x5 x8.Key x8.Value)))] F := A1
     refine Fv (.tuple []) h6 H (fun fr => .of (Lx (by kernel_rfl) hx)) fun fr t H => ?_
     refine Ep 2 id (Bd 2 [(5, .map (some h.size)), (16, .agg [vs AE p0, vs AE p1]), (17, Ai x2), (20, vs AE x4), (21, Ai (x4.length : Int)), (22, Ai (IntKind.i64.wrap (x6 + 1)))] H fun fr H => at_nil ?_)
     replace A := A.k1 1
     exact nx hm ⟨_, _, rfl, H.ls, A⟩
    refine Bf (i := 2) (by kernel_rfl) ?_
    exact nr hm fun e => .inl ⟨_, rfl, e, H.ls, A⟩
   clear ho
   clear A
   intro e fr h7 hQ
   rcases hQ with ⟨x7, rfl, rfl, H, A⟩ | hF
   ·show AW _ _ _ _ _ _ _
    refine CX 2 (Bd 2 [(5, .map (some h.size)), (16, .agg [vs AE p0, vs AE p1]), (17, Ai (IntKind.i64.wrap (x2 + 1)))] H fun fr H => at_nil ?_)
    exact nx hm ⟨_, _, rfl, H.ls, A⟩
   exact hF.elim
  refine Bf (i := 0) (by kernel_rfl) ?_
  exact nr hm fun e => .inl ⟨_, rfl, e, H.ls, A⟩
 clear ho
 clear A
 intro e fr h8 hQ
 rcases hQ with ⟨x3, rfl, rfl, H, A⟩ | hF
 ·show AW _ _ _ _ _ _ _
  refine AG 1 (AK 1 [(10, .slice none 0)] H fun fr H => AP (AG 5 ?_))
  obtain ⟨h9, e3, A⟩ := A.pu (.cells none 2 [.map (some h.size)])
  have hr : ∀ g, BH cfg g h8 84 [.map (some h.size)] (.func (.func 146) [] [.ptr (some (h8.size, 0))]) h9 := fun g => by rw [e3]; exact ⟨2, by kernel_rfl⟩
  refine BC 1 [] 34 _ _ H (fun fr => Steps.call (by kernel_rfl) (hr _)) fun fr t H => ?_
  have A1 := A.cut 2
  obtain ⟨hb, hm⟩ := A4 hm
  obtain ⟨r1, h10, hr, A1⟩ := HH.sorted (C := cfg) (f := 83) (it := 146) (t := 9) (ev := fun v : List UInt8 => .str v) (m := x3) A1 (by kernel_rfl) (l := exts) rfl (by kernel_rfl) 0 1 rfl rfl hb
  replace A := A.g23 A1
  refine Aw 35 hr H fun fr t H => ?_
  refine AK 2 [(36, Ai ((Dv (x3.map Prod.fst)).length : Int)), (37, Ai 0)] H fun fr H => AY (id := 4) (by kernel_rfl) ?_
  replace A : HH g h10 [.Ak none 117 (Ak AE ([] : List AB)), _, _, _] F := A.T9 117
  obtain ⟨o3, ho, hm⟩ := bind_some hm
  refine BJ (Q' := fun e fr' h' => (∃ x11, e = .exit 4 ∧ x11 = o3 ∧ ∃ r3, Has fr' 55 [(10, Af r3 x11.length)] ∧ HH g h' [.Ak r3 117 (Ak AE x11), .obj h8.size (.cells none 2 [.map (some h.size)]), .obj h.size (.map 2 (DQ (fun k : List UInt8 => .str k) (fun v : List UInt8 => .str v) x3))] F) ∨ False) ?_ ?_
  ·refine Ce (by kernel_rfl) (fun (s : (List AB) × Int) fr' h' => ∃ x9 x10, (x9, x10) = s ∧ ∃ r2, Has fr' 55 [(5, .map (some h.size)), (10, Af r2 x9.length), (35, Af r1 ((Dv (x3.map Prod.fst)).length)), (36, Ai ((Dv (x3.map Prod.fst)).length : Int)), (37, Ai x10)] ∧ HH g h' [.Ak r2 117 (Ak AE x9), .Ak r1 9 (Ak eS (Dv (x3.map Prod.fst))), .obj h8.size (.cells none 2 [.map (some h.size)]), .obj h.size (.map 2 (DQ (fun k : List UInt8 => .str k) (fun v : List UInt8 => .str v) x3))] F) ho ⟨_, _, rfl, none, H.ls, A⟩ ?_
   clear ho hm H A
   intro s q fr h11 hI hm
   obtain ⟨x9, x10, rfl, r2, H, A⟩ := hI
   unfold Ei at hm
   refine AG 1 (AK 1 [(38, .bool (decide (x10 < ((Dv (x3.map Prod.fst)).length : Int))))] H fun fr H => AP (AZ 38 H hm (fun hb hm H => ?_) fun hb hm H => ?_))
   ·refine CI id (AP ?_)
    obtain ⟨o4, ho, hm⟩ := bind_some hm
    refine BJ (Q' := fun e fr' h' => (∃ x12, e = .normal ∧ x12 = o4 ∧ ∃ r4, Has fr' 55 [(5, .map (some h.size)), (10, Af r4 x12.length), (35, Af r1 ((Dv (x3.map Prod.fst)).length)), (36, Ai ((Dv (x3.map Prod.fst)).length : Int)), (37, Ai x10)] ∧ HH g h' [.Ak r4 117 (Ak AE x12), .Ak r1 9 (Ak eS (Dv (x3.map Prod.fst))), .obj h8.size (.cells none 2 [.map (some h.size)]), .obj h.size (.map 2 (DQ (fun k : List UInt8 => .str k) (fun v : List UInt8 => .str v) x3))] F) ∨ False) ?_ ?_
    ·replace hm := ho
     clear ho
     refine AY (id := 5) (by kernel_rfl) ?_
     refine AG 3 ?_
     obtain ⟨x13, hx, hm⟩ := bind_some hm
     obtain ⟨i1, er1, _, hx, hq2⟩ := HH.XQ encS (by decide) A 1 (xs := (Dv (x3.map Prod.fst))) rfl hx
     refine Ae 39 (.ptr (some (i1, x10.toNat * 1))) h11 H (fun fr => .of (LP (s := EF r1 ((Dv (x3.map Prod.fst)).length)) (by kernel_rfl) hx)) fun fr t H => ?_
     refine Ae 40 _ _ H (fun fr => .of (O0 (by kernel_rfl) (NL encS (HH.row A 1 rfl er1) hq2 (o := 0) rfl))) fun fr t H => ?_
     refine Bg 1 [(12, .str x13)] 4 H fun fr H => BC 2 [] 43 (.str ((C3 x3 x13).getD ([] : List UInt8))) h11 H (fun fr => .of (Xj (by kernel_rfl) (HH.X5 (kt := 9) (et := 9) (ek := fun k : List UInt8 => .str k) (ev := fun v : List UInt8 => .str v) (YF (by kernel_rfl)) A 3 rfl (t := 146) (by kernel_rfl) (z := ([] : List UInt8)) (by kernel_rfl) x13))) fun fr t H => ?_
     refine AK 1 [(44, .bool (!(((C3 x3 x13).getD ([] : List UInt8)) == ([] : List UInt8))))] H fun fr H => AZ 44 H hm (fun hb hm H => ?_) fun hb hm H => ?_
     ·refine CX 9 (BC 4 [(45, Af r2 x9.length), (46, .str x13)] 49 (.str ((C3 x3 x13).getD ([] : List UInt8))) h11 H (fun fr => .of (Xj (by kernel_rfl) (HH.X5 (kt := 9) (et := 9) (ek := fun k : List UInt8 => .str k) (ev := fun v : List UInt8 => .str v) (YF (by kernel_rfl)) A 3 rfl (t := 146) (by kernel_rfl) (z := ([] : List UInt8)) (by kernel_rfl) x13))) fun fr t H => ?_)
      refine AM 1 [(50, .agg [.str x13, .str ((C3 x3 x13).getD ([] : List UInt8))])] H fun fr H => ?_
      obtain ⟨h12, e4, A⟩ := A.pL 117 [.str x13, .str ((C3 x3 x13).getD ([] : List UInt8))]
      refine BK 51 (Af (some h11.size) (([(⟨x13, ((C3 x3 x13).getD ([] : List UInt8))⟩ : AB)] : List AB).length)) e4 H fun fr t H => ?_
      obtain ⟨hb, hm⟩ := A4 hm
      obtain ⟨r5, h13, hx, A1⟩ := HH.N7 Am (by decide) A 1 (xs := x9) (ys := ([(⟨x13, ((C3 x3 x13).getD ([] : List UInt8))⟩ : AB)] : List AB)) rfl (Dy A 0 rfl (n := ([(⟨x13, ((C3 x3 x13).getD ([] : List UInt8))⟩ : AB)] : List AB).length) (z := 2) rfl (by decide)) rfl rfl hb
      replace A : HH g h13 [.Ak (some h11.size) 117 ([.str x13, .str ((C3 x3 x13).getD ([] : List UInt8))]), .Ak r5 117 (Ak AE (x9 ++ ([(⟨x13, ((C3 x3 x13).getD ([] : List UInt8))⟩ : AB)] : List AB))), _, _, _] F := A1
      replace A := A.k4 1 2 3 4
      refine Ae 52 _ _ H (fun fr => .of (IT (s := EF r2 x9.length) (by kernel_rfl) hx)) fun fr t H => ?_
      refine Bd 1 [(5, .map (some h.size)), (10, Af r5 ((x9 ++ ([(⟨x13, ((C3 x3 x13).getD ([] : List UInt8))⟩ : AB)] : List AB)).length)), (35, Af r1 ((Dv (x3.map Prod.fst)).length)), (36, Ai ((Dv (x3.map Prod.fst)).length : Int)), (37, Ai x10)] H fun fr H => at_nil ?_
      exact .inl ⟨_, rfl, An hm, _, H.ls, A⟩
     exact D5 (.inl ⟨_, rfl, An hm, _, H.ls, A⟩)
    clear ho
    clear A
    intro e fr h14 hQ
    rcases hQ with ⟨x12, rfl, rfl, r4, H, A⟩ | hF
    ·show AW _ _ _ _ _ _ _
     refine CX 2 (Bd 2 [(5, .map (some h.size)), (10, Af r4 x12.length), (35, Af r1 ((Dv (x3.map Prod.fst)).length)), (36, Ai ((Dv (x3.map Prod.fst)).length : Int)), (37, Ai (IntKind.i64.wrap (x10 + 1)))] H fun fr H => at_nil ?_)
     exact nx hm ⟨_, _, rfl, _, H.ls, A⟩
    exact hF.elim
   refine Bf (i := 4) (by kernel_rfl) ?_
   replace A := A.k3 0 2 3
   exact nr hm fun e => .inl ⟨_, rfl, e, _, H.ls, A⟩
  clear ho
  clear A
  intro e fr h15 hQ
  rcases hQ with ⟨x11, rfl, rfl, r3, H, A⟩ | hF
  ·show AW _ _ _ _ _ _ _
   refine AG 2 (AK 2 [(4, Af r3 x11.length)] H fun fr H => AS ?_)
   obtain rfl := An hm
   refine ⟨.inl rfl, Af r3 x11.length, rH H, ?_⟩
   replace A := A.d1
   exact ⟨r3, rfl, A⟩
  exact hF.elim
 exact hF.elim
def DK (p0 : List UInt8) (p1_0 : AL) : Option (Int × AL) :=
 (Au p0 (0 : Int)).bind fun x1 => Ad (decide (x1 ≥ 0)) (some ((2 : Int), p1_0)) (some ((0 : Int), (⟨p1_0.Name, p1_0.AU, p1_0.Kind, p1_0.Mode, p1_0.BP, p1_0.BQ, p1_0.AN, p0, p1_0.Aa, p1_0.Ag, p1_0.Time, p1_0.Extra, p1_0.Data⟩ : AL)))
theorem IL {p0 p1_0 bp1_0 rp1_0_12 q0 u0} (hm : DK p0 p1_0 = some (q0, u0)) (A : HH g h [.obj bp1_0 (.cells none 2 (Ar p1_0 (Af rp1_0_12 p1_0.Extra.length))), .Ak rp1_0_12 117 (Ak AE p1_0.Extra)] F) (hc : BG (cfg.still 195) av = [.str p0, .AR [.ptr (some (bp1_0, 7))]] := by kernel_rfl) : ∃ v h', BH cfg g h 195 av v h' ∧ v = Ai q0 ∧ HH g h' [.obj bp1_0 (.cells none 2 (Ar u0 (Af rp1_0_12 p1_0.Extra.length))), .Ak rp1_0_12 117 (Ak AE p1_0.Extra)] F := by
 refine ES 10 [.tmp 3] hc ?_
 clear hc
 unfold DK at hm
 refine bg 10 [(0, .str p0), (1, .AR [.ptr (some (bp1_0, 7))])] fun fr H => ?_
 refine AG 1 (AK 1 [] H fun fr H => AP (AG 3 ?_))
 obtain ⟨x1, hx, hm⟩ := bind_some hm
 obtain ⟨v1, h1, hr, rfl, A1⟩ := Bo (av := [.str p0, Ab 0]) hx (A.cut 0)
 replace A := A.DN A1
 refine A6 1 [] 5 hr H fun fr t H => ?_
 refine AK 1 [(6, .bool (decide (x1 ≥ 0)))] H fun fr H => AZ 6 H hm (fun hb hm H => ?_) fun hb hm H => ?_
 ·refine AG 1 (AK 1 [(3, Ai 2)] H fun fr H => AS ?_)
  obtain ⟨rfl, rfl⟩ := BD hm
  exact ⟨.inl rfl, _, rH H, rfl, A⟩
 refine Br 4 id (Ae 7 (.ptr (some (bp1_0, 7))) h1 H (fun fr => .of (Kz (by kernel_rfl))) fun fr t H => ?_)
 obtain ⟨h2, hx, A⟩ := A.s0 7 [.str p0] [_, _, _, _, _, _, _, _, _, _, _, _, _, _]
 refine CF 2 [] hx H fun fr t H => ?_
 refine CJ 1 id (AK 1 [(3, Ai 0)] H fun fr H => AS ?_)
 obtain ⟨rfl, rfl⟩ := BD hm
 exact ⟨.inl rfl, _, rH H, rfl, A⟩
end
end Go.Av.L
