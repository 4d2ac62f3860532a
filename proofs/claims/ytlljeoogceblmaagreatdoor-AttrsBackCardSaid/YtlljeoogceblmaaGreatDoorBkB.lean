/-
 A part.
-/
import Derived.Test.YtlljeoogceblmaaGreatDoorBkN
namespace Go.Av.L
open Go.Av Go.Lib
set_option linter.unusedVariables false
set_option linter.unusedSimpArgs false
set_option maxRecDepth 10000
theorem NG {ρ : Type} {step : Int → Option (Int ⊕ (Unit ⊕ ρ))} {n : Nat} {c : Nat → Bool} {e : ρ} (hend : step (n : Int) = some (.inr (.inl ()))) (hs : ∀ i : Nat, i < n → step (i : Int) = some (if c i = true then .inl ((i + 1 : Nat) : Int) else .inr (.inr e))) :
  loop step 0 = some (if (List.range n).all c = true then .inl () else .inr e) := by
 have key : ∀ (k i : Nat), i + k = n → (∀ j, j < i → c j = true) → loop step (i : Int) = some (if (List.range n).all c = true then .inl () else .inr e) := by
  intro k
  induction k with
  | zero =>
   intro i hi hc
   obtain rfl : i = n := by omega
   rw [E5 hend, if_pos (by rw [List.all_eq_true]; exact fun j hj => hc j (List.mem_range.1 hj))]
  | succ k ih =>
   intro i hi hc
   have h1 := hs i (by omega)
   by_cases hci : c i = true
   ·rw [if_pos hci] at h1
    rw [Eo h1]
    refine ih (i + 1) (by omega) fun j hj => ?_
    by_cases e : j = i
    ·rw [e]; exact hci
    ·exact hc j (by omega)
   ·rw [if_neg hci] at h1
    rw [E5 h1, if_neg]
    intro ha
    rw [List.all_eq_true] at ha
    exact hci (ha i (List.mem_range.2 (by omega)))
 exact key n 0 (by omega) fun j hj => by omega
theorem UR {α : Type} (a b : Bool) (x y : Option α) : Ad a x (Ad b x y) = Ad (a || b) x y := by cases a <;> rfl
theorem XV (s : List UInt8) (c : UInt8) : Au s (c.toNat : Int) = some (idxOf s c) := by
 unfold Au Bi FP
 have := c.toNat_lt
 rw [if_pos (by omega)]
 simp
def Um : Pr := ⟨[], []⟩
def Fm (k : Gh) : Bool := k == ([103, 105, 100] : List UInt8) || (k == ([117, 105, 100] : List UInt8) || (k == ([115, 105, 122, 101] : List UInt8) || (k == ([103, 110, 97, 109, 101] : List UInt8) || (k == ([117, 110, 97, 109, 101] : List UInt8) || (k == ([112, 97, 116, 104] : List UInt8) || (k == ([108, 105, 110, 107, 112, 97, 116, 104] : List UInt8) || k == ([109, 116, 105, 109, 101] : List UInt8)))))))
def cX (l : List Pr) (i : Nat) : Bool := !(Fm (l.getD i Um).Key || (((l.getD i Um).Key == [] || (l.getD i Um).Value == []) || (decide (idxOf (l.getD i Um).Key 61 ≥ 0) || (decide (0 < i) && !(Op.bytesLess (l.getD (i - 1) Um).Key (l.getD i Um).Key)))))
theorem getD_at {l : List Pr} {i : Nat} (h : i < l.length) : l.getD i Um = l[i] := by rw [List.getD_eq_getElem?_getD, List.getElem?_eq_getElem h]; rfl
theorem Sd {l : List Pr} {i : Nat} (hi : i < l.length) (hl : l.length ≤ 1000000) : DR l (i : Int) = some (if cX l i = true then .inl ((i + 1 : Nat) : Int) else .inr (.inr false)) := by
 unfold DR
 dsimp only
 rw [decide_eq_true (by omega), Ah, Gv hi, Option.bind_some]
 simp only [UR]
 rw [show (61 : Int) = ((61 : UInt8).toNat : Int) from rfl, XV, Option.bind_some, HM (by omega)]
 have hp : (Ad (decide ((i : Int) > 0)) ((IG l (IntKind.i64.wrap ((i : Int) - 1))).bind fun x8 => some (!(Op.bytesLess x8.Key l[i].Key))) (some false) : Option Bool) = some (decide (0 < i) && !(Op.bytesLess (l.getD (i - 1) Um).Key l[i].Key)) := by
  by_cases h0 : 0 < i
  ·rw [decide_eq_true (show (i : Int) > 0 by omega), Ah, JK (by omega) (by omega), show (i : Int) - 1 = ((i - 1 : Nat) : Int) by omega, Gv (by omega), Option.bind_some, getD_at (show i - 1 < l.length by omega), decide_eq_true h0, Bool.true_and]
  ·rw [decide_eq_false (show ¬ (i : Int) > 0 by omega), AQ, decide_eq_false h0, Bool.false_and]
 rw [hp, Option.bind_some]
 have hk : cX l i = !(Fm l[i].Key || ((l[i].Key == [] || l[i].Value == []) || (decide (idxOf l[i].Key 61 ≥ 0) || (decide (0 < i) && !(Op.bytesLess (l.getD (i - 1) Um).Key l[i].Key))))) := by unfold cX; rw [getD_at hi]
 rw [hk]
 generalize (decide (0 < i) && !(Op.bytesLess (l.getD (i - 1) Um).Key l[i].Key)) = e3
 generalize decide (idxOf l[i].Key 61 ≥ 0) = e2
 generalize (l[i].Key == ([] : List UInt8) || l[i].Value == ([] : List UInt8)) = e1
 unfold Fm
 generalize (l[i].Key == ([103, 105, 100] : List UInt8)) = k1
 generalize (l[i].Key == ([117, 105, 100] : List UInt8)) = k2
 generalize (l[i].Key == ([115, 105, 122, 101] : List UInt8)) = k3
 generalize (l[i].Key == ([103, 110, 97, 109, 101] : List UInt8)) = k4
 generalize (l[i].Key == ([117, 110, 97, 109, 101] : List UInt8)) = k5
 generalize (l[i].Key == ([112, 97, 116, 104] : List UInt8)) = k6
 generalize (l[i].Key == ([108, 105, 110, 107, 112, 97, 116, 104] : List UInt8)) = k7
 generalize (l[i].Key == ([109, 116, 105, 109, 101] : List UInt8)) = k8
 generalize (k1 || (k2 || (k3 || (k4 || (k5 || (k6 || (k7 || k8))))))) = e0
 cases e0 <;> cases e1 <;> cases e2 <;> cases e3 <;> rfl
def Ub (l : List Pr) : Bool := (List.range l.length).all (cX l)
theorem Vm (l : List Pr) (hl : l.length ≤ 1000000) : E0 l = some (Ub l) := by
 unfold E0 Ub
 have hend : DR l (l.length : Int) = some (.inr (.inl ())) := by
  unfold DR
  dsimp only
  rw [decide_eq_false (by omega), AQ]
 rw [NG hend fun i hi => Sd hi hl, Option.bind_some]
 by_cases h : (List.range l.length).all (cX l) = true
 ·rw [if_pos h, h]
 ·rw [if_neg h]
  have : (List.range l.length).all (cX l) = false := by simpa using h
  rw [this]
theorem MO (most : Int) (l : List Int) (hl : l.length ≤ 1000) : CK most l = some (l.all fun v => decide (0 ≤ v ∧ v < most)) := by
 unfold CK
 have hend : CB most l (l.length : Int) = some (.inr (.inl ())) := by
  unfold CB
  dsimp only
  rw [decide_eq_false (by omega), AQ]
 have hst : ∀ i : Nat, i < l.length → CB most l (i : Int) = some (if decide (0 ≤ l.getD i 0 ∧ l.getD i 0 < most) = true then .inl ((i + 1 : Nat) : Int) else .inr (.inr false)) := by
  intro i hi
  unfold CB
  dsimp only
  rw [decide_eq_true (by omega), Ah, Gv hi, Option.bind_some, HM (by omega), List.getD_eq_getElem?_getD, List.getElem?_eq_getElem hi, Option.getD_some]
  by_cases h : 0 ≤ l[i] ∧ l[i] < most
  ·rw [if_pos (decide_eq_true h), show (decide (l[i] < 0) || decide (l[i] ≥ most)) = false from by rw [Bool.or_eq_false_iff]; exact ⟨decide_eq_false (by omega), decide_eq_false (by omega)⟩, AQ]
  ·rw [if_neg (by simpa using h), show (decide (l[i] < 0) || decide (l[i] ≥ most)) = true from by rw [Bool.or_eq_true, decide_eq_true_eq, decide_eq_true_eq]; omega, Ah]
 rw [NG hend hst, Option.bind_some]
 have e : (List.range l.length).all (fun i => decide (0 ≤ l.getD i 0 ∧ l.getD i 0 < most)) = l.all fun v => decide (0 ≤ v ∧ v < most) := by
  rw [Bool.eq_iff_iff, List.all_eq_true, List.all_eq_true]
  constructor
  ·intro h v hv
   obtain ⟨i, hi, rfl⟩ := List.getElem_of_mem hv
   have := h i (List.mem_range.2 hi)
   rwa [List.getD_eq_getElem?_getD, List.getElem?_eq_getElem hi] at this
  ·intro h i hi
   have hi := List.mem_range.1 hi
   have := h _ (List.getElem_mem hi)
   rwa [List.getD_eq_getElem?_getD, List.getElem?_eq_getElem hi]
 rw [show (List.range l.length).all (fun i => decide (0 ≤ l.getD i 0 ∧ l.getD i 0 < most)) = _ from e]
 by_cases h : (l.all fun v => decide (0 ≤ v ∧ v < most)) = true
 ·rw [if_pos h, h]
 ·rw [if_neg h]
  have : (l.all fun v => decide (0 ≤ v ∧ v < most)) = false := by simpa using h
  rw [this]
def OT (t : Ac) : Bool := ((decide (t.B6 ≥ (-9007199254740991)) && decide (t.B6 ≤ 9007199254740991)) && decide (t.BA ≥ 0)) && decide (t.BA < 1000000000)
theorem SY (t : Ac) : OT t = true ↔ N1 t := by
 unfold OT N1
 simp only [Bool.and_eq_true, decide_eq_true_eq]
 omega
def Wb (m : AL) : Bool := (decide (0 ≤ m.BP ∧ m.BP < 9007199254740992) && decide (0 ≤ m.BQ ∧ m.BQ < 9007199254740992)) && ((decide (0 ≤ m.Mode ∧ m.Mode < 2097152) && (decide (0 ≤ m.Aa ∧ m.Aa < 2097152) && decide (0 ≤ m.Ag ∧ m.Ag < 2097152))) && OT m.Time)
def Xh (m : AL) : Bool := Dr m.Name || (Dr m.AU || (Dr m.AN || Dr m.AO))
def I6 (m : AL) : Int := if Xh m = true then 2 else if (m.Name == [] || !Ub m.Extra) = true then 2 else if Wb m = true then 0 else 6
theorem UJ (m : AL) : loop (GC m) 0 = some (if Xh m = true then .inr 2 else .inl ()) := N4 ⟨m.Name, m.AU, 0, 0, 0, 0, 0, 0, m.AN, m.AO, 0, 0, 0⟩
theorem WT (m : AL) (hl : m.Extra.length ≤ 1000000) : Ey m = some (I6 m) := by
 unfold Ey I6
 rw [UJ, Option.bind_some]
 by_cases hn : Xh m = true
 ·rw [if_pos hn, if_pos hn]
 ·rw [if_neg hn, if_neg hn]
  dsimp only
  rw [Vm _ hl, MO _ _ (by simp), MO _ _ (by simp)]
  unfold Wb Ct
  rw [show (((decide (m.Time.B6 ≥ (-9007199254740991)) && decide (m.Time.B6 ≤ 9007199254740991)) && decide (m.Time.BA ≥ 0)) && decide (m.Time.BA < 1000000000)) = OT m.Time from rfl]
  simp only [Option.bind_some, List.all_cons, List.all_nil, Bool.and_true]
  generalize (decide (0 ≤ m.BP ∧ m.BP < 9007199254740992) && decide (0 ≤ m.BQ ∧ m.BQ < 9007199254740992)) = b1
  generalize (decide (0 ≤ m.Mode ∧ m.Mode < 2097152) && (decide (0 ≤ m.Aa ∧ m.Aa < 2097152) && decide (0 ≤ m.Ag ∧ m.Ag < 2097152))) = b2
  generalize OT m.Time = b3
  generalize Ub m.Extra = b4
  generalize (m.Name == ([] : List UInt8)) = b5
  cases b5 <;> cases b4 <;> cases b1 <;> cases b2 <;> cases b3 <;> rfl
def Ja (m : AL) (n : Int) : Int := if I6 m = 0 then (if 0 ≤ n ∧ n < 9007199254740992 then 0 else 6) else I6 m
theorem OP (m : AL) (n : Int) (hl : m.Extra.length ≤ 1000000) : EL m n = some (Ja m n) := by
 unfold EL Ja
 rw [WT m hl, Option.bind_some]
 by_cases h : I6 m = 0
 ·rw [if_pos h, h, show ((0 : Int) != 0) = false from rfl, AQ, MO _ _ (by simp), Option.bind_some]
  simp only [List.all_cons, List.all_nil, Bool.and_true]
  by_cases hn : 0 ≤ n ∧ n < 9007199254740992
  ·rw [decide_eq_true hn, if_pos hn]; rfl
  ·rw [decide_eq_false hn, if_neg hn]; rfl
 ·rw [if_neg h, bne_iff_ne.2 h, Ah]
def Xw (l : List Pr) : Prop := PZ l ∧ ∀ p ∈ l, Fm p.Key = false ∧ p.Key ≠ [] ∧ p.Value ≠ [] ∧ (61 : UInt8) ∉ p.Key
theorem Tz : ∀ {l : List Pr}, (∀ i, (h : i + 1 < l.length) → l[i].Key < l[i + 1].Key) → PZ l
 | [], _ => .nil
 | a :: l, h => by
  refine List.pairwise_cons.2 ⟨fun b hb => ?_, Tz fun i hi => h (i + 1) (by simpa using hi)⟩
  obtain ⟨j, hj, rfl⟩ := List.getElem_of_mem hb
  induction j with
  | zero => exact h 0 (by simpa using hj)
  | succ j ih => exact List.lt_trans (ih (by omega) (List.getElem_mem _)) (h (j + 1) (by simpa using hj))
theorem UB {l : List Pr} (h : Ub l = true) : Xw l := by
 unfold Ub at h
 rw [List.all_eq_true] at h
 have at_ : ∀ i (hi : i < l.length), Fm l[i].Key = false ∧ l[i].Key ≠ [] ∧ l[i].Value ≠ [] ∧ (61 : UInt8) ∉ l[i].Key ∧ (0 < i → Op.bytesLess (l.getD (i - 1) Um).Key l[i].Key = true) := by
  intro i hi
  have hc := h i (List.mem_range.2 hi)
  unfold cX at hc
  rw [getD_at hi] at hc
  simp only [Bool.not_eq_true', Bool.or_eq_false_iff, beq_eq_false_iff_ne, decide_eq_false_iff_not, Bool.and_eq_false_iff, Bool.not_eq_false'] at hc
  obtain ⟨h1, ⟨h2, h3⟩, h4, h5⟩ := hc
  refine ⟨h1, h2, h3, fun hm => h4 ((MS _ _).2 hm), fun hp => ?_⟩
  rcases h5 with h5 | h5
  ·exact absurd hp h5
  ·exact h5
 refine ⟨Tz fun i hi => ?_, fun p hp => ?_⟩
 ·have := (at_ (i + 1) hi).2.2.2.2 (by omega)
  rw [Nat.add_sub_cancel, getD_at (show i < l.length by omega), Go.Proofs.bytesLess_eq] at this
  simpa using this
 ·obtain ⟨i, hi, rfl⟩ := List.getElem_of_mem hp
  obtain ⟨h1, h2, h3, h4, _⟩ := at_ i hi
  exact ⟨h1, h2, h3, h4⟩
structure H6 (m : AL) : Prop where
 nN : Dr m.Name = false
 nL : Dr m.AU = false
 nU : Dr m.AN = false
 nG : Dr m.AO = false
 ne : m.Name ≠ []
 ex : Xw m.Extra
 ui : 0 ≤ m.BP ∧ m.BP < 9007199254740992
 gi : 0 ≤ m.BQ ∧ m.BQ < 9007199254740992
 mo : 0 ≤ m.Mode ∧ m.Mode < 2097152
 ma : 0 ≤ m.Aa ∧ m.Aa < 2097152
 mi : 0 ≤ m.Ag ∧ m.Ag < 2097152
 ti : N1 m.Time
theorem UC {m : AL} (h : I6 m = 0) : H6 m := by
 unfold I6 at h
 split at h
 ·cases h
 split at h
 ·cases h
 split at h
 rotate_left
 ·cases h
 rename_i h1 h2 h3
 unfold Xh at h1
 simp only [Bool.not_eq_true, Bool.or_eq_false_iff, beq_eq_false_iff_ne, Bool.not_eq_false'] at h1 h2
 unfold Wb at h3
 simp only [Bool.and_eq_true, decide_eq_true_eq, SY] at h3
 obtain ⟨n1, n2, n3, n4⟩ := h1
 obtain ⟨⟨g1, g2⟩, ⟨g3, g4, g5⟩, g6⟩ := h3
 exact ⟨n1, n2, n3, n4, h2.1, UB h2.2, g1, g2, g3, g4, g5, g6⟩
structure Hd (h : AJ) : Prop where
 nN : Dr h.Name = false
 nL : Dr h.AU = false
 nU : Dr h.AN = false
 nG : Dr h.AO = false
 pt : ∃ p q, Hl h.Name (p, q, true)
 lk : h.AU.length ≤ 100
 un : h.AN.length ≤ 32
 gn : h.AO.length ≤ 32
 mo : 0 ≤ h.Mode ∧ h.Mode < 2097152
 ui : 0 ≤ h.BP ∧ h.BP < 2097152
 gi : 0 ≤ h.BQ ∧ h.BQ < 2097152
 si : 0 ≤ h.BU ∧ h.BU < 8589934592
 ti : 0 ≤ h.Time ∧ h.Time < 8589934592
 ma : 0 ≤ h.Aa ∧ h.Aa < 2097152
 mi : 0 ≤ h.Ag ∧ h.Ag < 2097152
theorem Oc (h : AJ) : (Qa h).all Ii = true ↔ (0 ≤ h.Mode ∧ h.Mode < 2097152) ∧ (0 ≤ h.BP ∧ h.BP < 2097152) ∧ (0 ≤ h.BQ ∧ h.BQ < 2097152) ∧ (0 ≤ h.BU ∧ h.BU < 8589934592) ∧ (0 ≤ h.Time ∧ h.Time < 8589934592) ∧ (0 ≤ h.Aa ∧ h.Aa < 2097152) ∧ (0 ≤ h.Ag ∧ h.Ag < 2097152) := by
 unfold Qa Ii
 simp
theorem Ve (h : AJ) (hn : h.Name.length ≤ 1000000) : ∃ e, A9 h = some e ∧ (e = 0 ↔ Hd h) := by
 obtain ⟨⟨p, q, b⟩, ep, hq⟩ := Qk h.Name hn
 refine ⟨LR h b, Tp ep hq, fun h0 => ?_, fun F => ?_⟩
 ·unfold LR at h0
  split at h0
  ·cases h0
  split at h0
  rotate_left
  ·cases h0
  split at h0
  rotate_left
  ·cases h0
  rename_i h1 h2 h3
  unfold R1 at h1
  simp only [Bool.not_eq_true, Bool.or_eq_false_iff] at h1
  unfold Qb at h2
  simp only [Bool.and_eq_true, decide_eq_true_eq] at h2
  rw [Oc] at h3
  obtain ⟨rfl, t1, t2, t3⟩ := h2
  obtain ⟨n1, n2, n3, n4⟩ := h1
  obtain ⟨g1, g2, g3, g4, g5, g6, g7⟩ := h3
  exact ⟨n1, n2, n3, n4, ⟨p, q, hq⟩, t1, t2, t3, g1, g2, g3, g4, g5, g6, g7⟩
 ·obtain ⟨p', q', hq'⟩ := F.pt
  have e := hq.uniq hq'
  cases e
  unfold LR
  rw [if_neg (by unfold R1; rw [F.nN, F.nL, F.nU, F.nG]; simp), if_pos (by unfold Qb; simp only [Bool.true_and, Bool.and_eq_true, decide_eq_true_eq]; exact ⟨F.lk, F.un, F.gn⟩),
   if_pos ((Oc h).2 ⟨F.mo, F.ui, F.gi, F.si, F.ti, F.ma, F.mi⟩)]
theorem Hd.fit {h : AJ} (F : Hd h) (hn : h.Name.length ≤ 1000000) (hk : 0 ≤ h.Kind ∧ h.Kind ≤ 255) : ∃ p q, Fit h p q := by
 obtain ⟨⟨p, q, b⟩, ep, hq⟩ := Qk h.Name hn
 obtain ⟨p', q', hq'⟩ := F.pt
 have e := hq.uniq hq'
 cases e
 exact ⟨p, q, ep, hq, by unfold R1; rw [F.nN, F.nL, F.nU, F.nG]; rfl, ⟨F.lk, F.un, F.gn⟩, (Oc h).2 ⟨F.mo, F.ui, F.gi, F.si, F.ti, F.ma, F.mi⟩, hk⟩
theorem Hs {h w : AJ} {c : Prop} [Decidable c] (hc : Hd w ↔ c) (hn : w.Name.length ≤ 1000000) {k v : List UInt8} {l : List Pr} (hl : l.length ≤ 100) :
  ((A9 w).bind fun x2 => Ad (x2 == 0) (some (w, l)) (D3 (R4 32 (l.length + ([(⟨k, v⟩ : AB)] : List AB).length)) <| some (h, (l ++ ([(⟨k, v⟩ : AB)] : List AB))))) = some (if c then w else h, l ++ if c then [] else [⟨k, v⟩]) := by
 obtain ⟨e, he, hF⟩ := Ve w hn
 rw [he, Option.bind_some, Li]
 by_cases h0 : c
 ·rw [if_pos (hF.2 (hc.2 h0)), if_pos h0, if_pos h0, List.append_nil]
 ·rw [if_neg (fun h => h0 (hc.1 (hF.1 h))), if_neg h0, if_neg h0, QE (by simp; omega) (by simp; omega), BO]
end Go.Av.L
