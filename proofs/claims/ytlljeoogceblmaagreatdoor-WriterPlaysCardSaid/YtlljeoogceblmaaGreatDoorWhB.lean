/-
 A part.
-/
import Derived.Test.YtlljeoogceblmaaGreatDoorWhA
import Derived.Test.YtlljeoogceblmaaGreatDoorBkC
namespace Go.Av.L
open Go.Av Go.Lib
set_option linter.unusedVariables false
set_option linter.unusedSimpArgs false
set_option maxRecDepth 10000
theorem Pc {s : List UInt8} (h : s.length ≤ 100) (hz : De s = false) : A3 s 100 = some (pd s 100) := Kp (n := 100) h (by omega) hz
theorem Ri {s : List UInt8} (h : s.length ≤ 32) (hz : De s = false) : A3 s 32 = some (pd s 32) := Kp (n := 32) h (by omega) hz
theorem UN {s : List UInt8} (h : s.length ≤ 155) (hz : De s = false) : A3 s 155 = some (pd s 155) := Kp (n := 155) h (by omega) hz
theorem Wp : A3 ([] : List UInt8) 12 = some (List.replicate 12 0) := Kp (n := 12) (s := []) (by simp) (by omega) rfl
theorem Pz {h : AN} {p q : List UInt8} (F : Fit h p q) (hn : h.Name.length ≤ 1000000) : Cd h = some (MB h p q).flatten := by
 obtain ⟨l1, l2⟩ := F.pq.len
 have hz := F.ae
 unfold Ry at hz
 simp only [Bool.or_eq_false_iff] at hz
 obtain ⟨z1, z2, z3, z4⟩ := hz
 obtain ⟨zp, zq⟩ := U6 F.pq z1
 obtain ⟨n1, n2, n3, n4, n5, n6, n7⟩ := (MI h).1 F.n
 obtain ⟨r, er, hr⟩ := Rg h.Name hn
 obtain rfl := hr.uniq F.pq
 have hk := F.k
 have ek : (Af (h.Kind == 0) (some ([48] : List UInt8)) (some ([UInt8.ofNat h.Kind.toNat] : List UInt8)) : Option (List UInt8)) = some [Ji h.Kind] := by
  rw [N8]
  unfold Ji
  split
  ·rfl
  ·rfl
 have ty : Wf h.Kind = some (UInt8.ofNat h.Kind.toNat) := by
  have := T9 (n := h.Kind.toNat) (by omega)
  rwa [Int.toNat_of_nonneg hk.1] at this
 have d1 : (pd q 100).length = 100 := C9 l2
 have d2 : (pd h.Ax 100).length = 100 := C9 F.t.1
 have d3 : (pd h.Aj 32).length = 32 := C9 F.t.2.1
 have d4 : (pd h.Al 32).length = 32 := C9 F.t.2.2
 have d5 : (pd p 155).length = 155 := C9 l1
 have o8 : ∀ v, (Bb v 8).length = 8 := fun v => CY (by omega)
 have o12 : ∀ v, (Bb v 12).length = 12 := fun v => CY (by omega)
 unfold Cd
 rw [er, Option.bind_some]
 dsimp only
 rw [ty, Option.bind_some, ek, Option.bind_some, Pc l2 zq, Option.bind_some, MF n1, Option.bind_some, MF n2, MF n3, RO n4, RO n5, Pc F.t.1 z2, Ri F.t.2.1 z3, Ri F.t.2.2 z4, MF n6, MF n7, UN l1 zp, Wp]
 simp only [Option.bind_some, List.length_append, List.length_cons, List.length_nil, List.length_replicate, d1, d2, d3, d4, d5, o8, o12, Ad, Nat.reduceAdd, Nat.reduceLeDiff, decide_true]
 have e : ((((((((((((((pd q 100 ++ Bb h.Mode.toNat 8) ++ Bb h.Bm.toNat 8) ++ Bb h.B3.toNat 8) ++ Bb h.DE.toNat 12) ++ Bb h.Time.toNat 12) ++ ([32, 32, 32, 32, 32, 32, 32, 32] : List UInt8)) ++ [Ji h.Kind]) ++ pd h.Ax 100) ++ ([117, 115, 116, 97, 114, 0, 48, 48] : List UInt8)) ++ pd h.Aj 32) ++ pd h.Al 32) ++ Bb h.Ap.toNat 8) ++ Bb h.Ay.toNat 8) ++ pd p 155) ++ List.replicate 12 0 = AH h q ++ (List.replicate 8 32 ++ ZH h p) := by
  unfold AH ZH Ps
  simp only [List.flatten_cons, List.flatten_nil, List.append_assoc, List.append_nil]
  rfl
 rw [e, Vu F.lens.1 (by simp) F.lens.2, Option.bind_some]
 unfold MB
 rw [Lh]
 rfl
theorem OJ (p : Pr) (hl : p.Key.length ≤ 1000000) : Bt p = some (!((p.Key == []) || decide (idxOf p.Key 61 ≥ 0))) := by
 have hs : ∀ i : Nat, i < p.Key.length → Bp p (i : Int) = some (if (!(p.Key.getD i 0 == 61)) = true then .inl ((i + 1 : Nat) : Int) else .inr (.inr false)) := fun i hi => by
  unfold Bp
  dsimp only
  rw [decide_eq_true (by omega), AU, JU hi, Option.bind_some, show (61 : Int) = ((61 : Nat) : Int) from rfl, MQ (by omega), show p.Key.getD i 0 = p.Key[i] from by rw [List.getD_eq_getElem?_getD, List.getElem?_eq_getElem hi]; rfl, FY (by omega)]
  show Af (p.Key[i] == 61) _ _ = _
  cases p.Key[i] == 61 <;> rfl
 have hend : Bp p (p.Key.length : Int) = some (.inr (.inl ())) := by
  unfold Bp
  dsimp only
  rw [decide_eq_false (by omega), AL]
 unfold Bt
 rw [Kl hend hs, Option.bind_some]
 have hm := Ku p.Key 61
 by_cases h : (61 : UInt8) ∈ p.Key
 ·rw [if_neg, decide_eq_true (hm.2 h), Bool.or_true]
  ·rfl
  ·intro ha
   rw [List.all_eq_true] at ha
   obtain ⟨i, hi, e⟩ := List.getElem_of_mem h
   have := ha i (List.mem_range.2 hi)
   rw [List.getD_eq_getElem?_getD, List.getElem?_eq_getElem hi, e] at this
   exact absurd this (by decide)
 ·rw [if_pos, decide_eq_false (show ¬ idxOf p.Key 61 ≥ 0 from fun h' => h (hm.1 h')), Bool.or_false]
  rw [List.all_eq_true]
  intro i hi
  have hi' := List.mem_range.1 hi
  rw [List.getD_eq_getElem?_getD, List.getElem?_eq_getElem hi', Option.getD_some, Bool.not_eq_true', beq_eq_false_iff_ne]
  exact fun e => h (e ▸ List.getElem_mem hi')
theorem UM (k : LI) : DR k = some (EP k) := by
 unfold DR EP
 congr 1
 ac_rfl
theorem R9 {m : AS} {i : Nat} (hi : i < m.Extra.length) (hl : m.Extra.length ≤ 1000000) (hk : ∀ p ∈ m.Extra, p.Key.length ≤ 1000000) : Bq m (i : Int) = some (if cX m.Extra i = true then .inl ((i + 1 : Nat) : Int) else .inr (.inr 2)) := by
 unfold Bq
 dsimp only
 rw [decide_eq_true (by omega), AU, FI hi, Option.bind_some, OJ _ (hk _ (List.getElem_mem hi)), Option.bind_some, UM, Option.bind_some, FY (by omega)]
 have hp : (Af (decide ((i : Int) > 0)) ((HJ m.Extra (IntKind.i64.wrap ((i : Int) - 1))).bind fun x14 => some (!(Op.bytesLess x14.Key m.Extra[i].Key))) (some false) : Option Bool) = some (decide (0 < i) && !(Op.bytesLess (m.Extra.getD (i - 1) SC).Key m.Extra[i].Key)) := by
  by_cases h0 : 0 < i
  ·rw [decide_eq_true (show (i : Int) > 0 by omega), AU, GA (by omega) (by omega), show (i : Int) - 1 = ((i - 1 : Nat) : Int) by omega, FI (by omega), Option.bind_some, getD_at (show i - 1 < m.Extra.length by omega), decide_eq_true h0, Bool.true_and]
  ·rw [decide_eq_false (show ¬ (i : Int) > 0 by omega), AL, decide_eq_false h0, Bool.false_and]
 rw [hp, Option.bind_some]
 have hk : cX m.Extra i = !(EP m.Extra[i].Key || ((m.Extra[i].Key == [] || m.Extra[i].Value == []) || (decide (idxOf m.Extra[i].Key 61 ≥ 0) || (decide (0 < i) && !(Op.bytesLess (m.Extra.getD (i - 1) SC).Key m.Extra[i].Key))))) := by unfold cX; rw [getD_at hi]
 rw [hk]
 generalize EP m.Extra[i].Key = b1
 generalize (m.Extra[i].Key == []) = b2
 generalize (m.Extra[i].Value == []) = b3
 generalize decide (idxOf m.Extra[i].Key 61 ≥ 0) = b4
 generalize (decide (0 < i) && !(Op.bytesLess (m.Extra.getD (i - 1) SC).Key m.Extra[i].Key)) = b5
 cases b1 <;> cases b2 <;> cases b3 <;> cases b4 <;> cases b5 <;> rfl
theorem UF (m : AS) (hl : m.Extra.length ≤ 1000000) (hk : ∀ p ∈ m.Extra, p.Key.length ≤ 1000000) (hn : m.Name.length ≤ 1000000 ∧ m.Ax.length ≤ 1000000 ∧ m.Aj.length ≤ 1000000 ∧ m.Al.length ≤ 1000000) : DG m = some (HE m) := by
 obtain ⟨h1, h2, h3, h4⟩ := hn
 obtain ⟨r1, e1, b1⟩ := KF m.Name h1
 obtain ⟨r2, e2, b2⟩ := KF m.Ax h2
 obtain ⟨r3, e3, b3⟩ := KF m.Aj h3
 obtain ⟨r4, e4, b4⟩ := KF m.Al h4
 have hx : loop (Bq m) 0 = some (if RY m.Extra = true then .inl () else .inr 2) := by
  refine Kl (n := m.Extra.length) ?_ fun i hi => R9 hi hl hk
  unfold Bq
  dsimp only
  rw [decide_eq_false (by omega), AL]
 have hnum : ((((((((((decide (m.Bm < 0)) || (decide (m.Bm > 9007199254740991))) || (decide (m.B3 < 0))) || (decide (m.B3 > 9007199254740991))) || (decide (m.Mode < 0))) || (decide (m.Mode ≥ 2097152))) || (decide (m.Ap < 0))) || (decide (m.Ap ≥ 2097152))) || (decide (m.Ay < 0))) || (decide (m.Ay ≥ 2097152)) || !((((decide (m.Time.Ci ≥ (-9007199254740991))) && (decide (m.Time.Ci ≤ 9007199254740991))) && (decide (m.Time.BQ ≥ 0))) && (decide (m.Time.BQ ≤ 999999999)))) = !PI m := by
  unfold PI Mz
  rw [Bool.eq_iff_iff]
  simp only [Bool.or_eq_true, Bool.not_eq_true', Bool.and_eq_false_iff, decide_eq_true_eq, decide_eq_false_iff_not]
  omega
 unfold DG
 rw [e1, Option.bind_some, b1, e2, Option.bind_some, b2, e3, Option.bind_some, b3, e4, Option.bind_some, b4, hx, Option.bind_some]
 unfold EI
 rw [Option.bind_some]
 unfold HE VS
 simp only [Bool.not_not]
 generalize De m.Name = c1
 generalize De m.Ax = c2
 generalize De m.Aj = c3
 generalize De m.Al = c4
 generalize (m.Name == []) = c5
 generalize RY m.Extra = c6
 have hlast : ∀ (a b : Bool), (Af a (some true) (some b) : Option Bool) = some (a || b) := fun a b => by cases a <;> rfl
 cases c6 with
 | false => cases c1 <;> cases c2 <;> cases c3 <;> cases c4 <;> cases c5 <;> rfl
 | true =>
  rw [if_pos rfl]
  dsimp only
  have hc := (hlast _ _).trans (congrArg some hnum)
  rw [hc, Option.bind_some]
  generalize PI m = c7
  cases c1 <;> cases c2 <;> cases c3 <;> cases c4 <;> cases c5 <;> cases c7 <;> rfl
end Go.Av.L
