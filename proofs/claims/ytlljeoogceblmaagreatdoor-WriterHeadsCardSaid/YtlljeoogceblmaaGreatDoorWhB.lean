/-
 A part.
-/
import Derived.Test.YtlljeoogceblmaaGreatDoorWhA
import Derived.Test.YtlljeoogceblmaaGreatDoorBkC
namespace Go.Av.L
open Go.Av Go.Lib
set_option linter.unusedVariables false
set_option linter.unusedSimpArgs false
set_option maxRecDepth 10000
theorem Pk {s : List UInt8} (h : s.length ≤ 100) (hz : DZ s = false) : A3 s 100 = some (pd s 100) := Kq (n := 100) h (by omega) hz
theorem Rn {s : List UInt8} (h : s.length ≤ 32) (hz : DZ s = false) : A3 s 32 = some (pd s 32) := Kq (n := 32) h (by omega) hz
theorem Ue {s : List UInt8} (h : s.length ≤ 155) (hz : DZ s = false) : A3 s 155 = some (pd s 155) := Kq (n := 155) h (by omega) hz
theorem VG : A3 ([] : List UInt8) 12 = some (List.replicate 12 0) := Kq (n := 12) (s := []) (by simp) (by omega) rfl
theorem P5 {h : AK} {p q : List UInt8} (F : Fit h p q) (hn : h.Name.length ≤ 1000000) : Cf h = some (Gb h p q).flatten := by
 obtain ⟨l1, l2⟩ := F.pq.len
 have hz := F.bB
 unfold Q4 at hz
 simp only [Bool.or_eq_false_iff] at hz
 obtain ⟨z1, z2, z3, z4⟩ := hz
 obtain ⟨zp, zq⟩ := WN F.pq z1
 obtain ⟨n1, n2, n3, n4, n5, n6, n7⟩ := (Ke h).1 F.n
 obtain ⟨r, er, hr⟩ := RS h.Name hn
 obtain rfl := hr.uniq F.pq
 have hk := F.k
 have ek : (Aa (h.Kind == 0) (some ([48] : List UInt8)) (some ([UInt8.ofNat h.Kind.toNat] : List UInt8)) : Option (List UInt8)) = some [Jj h.Kind] := by
  rw [N7]
  unfold Jj
  split
  ·rfl
  ·rfl
 have ty : Wp h.Kind = some (UInt8.ofNat h.Kind.toNat) := by
  have := Tz (n := h.Kind.toNat) (by omega)
  rwa [Int.toNat_of_nonneg hk.1] at this
 have d1 : (pd q 100).length = 100 := DC l2
 have d2 : (pd h.Az 100).length = 100 := DC F.t.1
 have d3 : (pd h.Ah 32).length = 32 := DC F.t.2.1
 have d4 : (pd h.Aj 32).length = 32 := DC F.t.2.2
 have d5 : (pd p 155).length = 155 := DC l1
 have o8 : ∀ v, (Ba v 8).length = 8 := fun v => CP (by omega)
 have o12 : ∀ v, (Ba v 12).length = 12 := fun v => CP (by omega)
 unfold Cf
 rw [er, Option.bind_some]
 dsimp only
 rw [ty, Option.bind_some, ek, Option.bind_some, Pk l2 zq, Option.bind_some, MO n1, Option.bind_some, MO n2, MO n3, Q7 n4, Q7 n5, Pk F.t.1 z2, Rn F.t.2.1 z3, Rn F.t.2.2 z4, MO n6, MO n7, Ue l1 zp, VG]
 simp only [Option.bind_some, List.length_append, List.length_cons, List.length_nil, List.length_replicate, d1, d2, d3, d4, d5, o8, o12, Af, Nat.reduceAdd, Nat.reduceLeDiff, decide_true]
 have e : ((((((((((((((pd q 100 ++ Ba h.Mode.toNat 8) ++ Ba h.Br.toNat 8) ++ Ba h.CH.toNat 8) ++ Ba h.Eu.toNat 12) ++ Ba h.Time.toNat 12) ++ ([32, 32, 32, 32, 32, 32, 32, 32] : List UInt8)) ++ [Jj h.Kind]) ++ pd h.Az 100) ++ ([117, 115, 116, 97, 114, 0, 48, 48] : List UInt8)) ++ pd h.Ah 32) ++ pd h.Aj 32) ++ Ba h.An.toNat 8) ++ Ba h.A2.toNat 8) ++ pd p 155) ++ List.replicate 12 0 = AH h q ++ (List.replicate 8 32 ++ ZH h p) := by
  unfold AH ZH Pc
  simp only [List.flatten_cons, List.flatten_nil, List.append_assoc, List.append_nil]
  rfl
 rw [e, VQ F.lens.1 (by simp) F.lens.2, Option.bind_some]
 unfold Gb
 rw [Jb]
 rfl
theorem N0 (p : Pr) (hl : p.Key.length ≤ 1000000) : Bz p = some (!((p.Key == []) || decide (idxOf p.Key 61 ≥ 0))) := by
 have hs : ∀ i : Nat, i < p.Key.length → Bv p (i : Int) = some (if (!(p.Key.getD i 0 == 61)) = true then .inl ((i + 1 : Nat) : Int) else .inr (.inr false)) := fun i hi => by
  unfold Bv
  dsimp only
  rw [decide_eq_true (by omega), AU, JW hi, Option.bind_some, show (61 : Int) = ((61 : Nat) : Int) from rfl, L0 (by omega), show p.Key.getD i 0 = p.Key[i] from by rw [List.getD_eq_getElem?_getD, List.getElem?_eq_getElem hi]; rfl, Fe (by omega)]
  show Aa (p.Key[i] == 61) _ _ = _
  cases p.Key[i] == 61 <;> rfl
 have hend : Bv p (p.Key.length : Int) = some (.inr (.inl ())) := by
  unfold Bv
  dsimp only
  rw [decide_eq_false (by omega), AM]
 unfold Bz
 rw [Lt hend hs, Option.bind_some]
 have hm := Kw p.Key 61
 by_cases h : (61 : UInt8) ∈ p.Key
 ·rw [if_neg, decide_eq_true (hm.2 h), Bool.or_true]
  ·rfl
  ·intro ha
   rw [List.all_eq_true] at ha
   obtain ⟨i, hi, e⟩ := List.getElem_of_mem h
   have := ha i (List.mem_range.2 hi)
   rw [List.getD_eq_getElem?_getD, List.getElem?_eq_getElem hi, e] at this
   exact absurd this (by decide)
 ·rw [if_pos, decide_eq_false (show ¬ idxOf p.Key 61 ≥ 0 from fun h' => h (hm.1 h')), Bool.or_false]
  rw [List.all_eq_true]
  intro i hi
  have hi' := List.mem_range.1 hi
  rw [List.getD_eq_getElem?_getD, List.getElem?_eq_getElem hi', Option.getD_some, Bool.not_eq_true', beq_eq_false_iff_ne]
  exact fun e => h (e ▸ List.getElem_mem hi')
theorem Uh (k : LM) : DJ k = some (EL k) := by
 unfold DJ EL
 congr 1
 ac_rfl
theorem SI {m : AR} {i : Nat} (hi : i < m.Extra.length) (hl : m.Extra.length ≤ 1000000) (hk : ∀ p ∈ m.Extra, p.Key.length ≤ 1000000) : Bu m (i : Int) = some (if cX m.Extra i = true then .inl ((i + 1 : Nat) : Int) else .inr (.inr 2)) := by
 unfold Bu
 dsimp only
 rw [decide_eq_true (by omega), AU, Ff hi, Option.bind_some, N0 _ (hk _ (List.getElem_mem hi)), Option.bind_some, Uh, Option.bind_some, Fe (by omega)]
 have hp : (Aa (decide ((i : Int) > 0)) ((Hj m.Extra (IntKind.i64.wrap ((i : Int) - 1))).bind fun x14 => some (!(Op.bytesLess x14.Key m.Extra[i].Key))) (some false) : Option Bool) = some (decide (0 < i) && !(Op.bytesLess (m.Extra.getD (i - 1) SK).Key m.Extra[i].Key)) := by
  by_cases h0 : 0 < i
  ·rw [decide_eq_true (show (i : Int) > 0 by omega), AU, Fk (by omega) (by omega), show (i : Int) - 1 = ((i - 1 : Nat) : Int) by omega, Ff (by omega), Option.bind_some, getD_at (show i - 1 < m.Extra.length by omega), decide_eq_true h0, Bool.true_and]
  ·rw [decide_eq_false (show ¬ (i : Int) > 0 by omega), AM, decide_eq_false h0, Bool.false_and]
 rw [hp, Option.bind_some]
 have hk : cX m.Extra i = !(EL m.Extra[i].Key || ((m.Extra[i].Key == [] || m.Extra[i].Value == []) || (decide (idxOf m.Extra[i].Key 61 ≥ 0) || (decide (0 < i) && !(Op.bytesLess (m.Extra.getD (i - 1) SK).Key m.Extra[i].Key))))) := by unfold cX; rw [getD_at hi]
 rw [hk]
 generalize EL m.Extra[i].Key = b1
 generalize (m.Extra[i].Key == []) = b2
 generalize (m.Extra[i].Value == []) = b3
 generalize decide (idxOf m.Extra[i].Key 61 ≥ 0) = b4
 generalize (decide (0 < i) && !(Op.bytesLess (m.Extra.getD (i - 1) SK).Key m.Extra[i].Key)) = b5
 cases b1 <;> cases b2 <;> cases b3 <;> cases b4 <;> cases b5 <;> rfl
theorem UY (m : AR) (hl : m.Extra.length ≤ 1000000) (hk : ∀ p ∈ m.Extra, p.Key.length ≤ 1000000) (hn : m.Name.length ≤ 1000000 ∧ m.Az.length ≤ 1000000 ∧ m.Ah.length ≤ 1000000 ∧ m.Aj.length ≤ 1000000) : DQ m = some (HG m) := by
 obtain ⟨h1, h2, h3, h4⟩ := hn
 obtain ⟨r1, e1, b1⟩ := KF m.Name h1
 obtain ⟨r2, e2, b2⟩ := KF m.Az h2
 obtain ⟨r3, e3, b3⟩ := KF m.Ah h3
 obtain ⟨r4, e4, b4⟩ := KF m.Aj h4
 have hx : loop (Bu m) 0 = some (if R7 m.Extra = true then .inl () else .inr 2) := by
  refine Lt (n := m.Extra.length) ?_ fun i hi => SI hi hl hk
  unfold Bu
  dsimp only
  rw [decide_eq_false (by omega), AM]
 have hnum : ((((((((((decide (m.Br < 0)) || (decide (m.Br > 9007199254740991))) || (decide (m.CH < 0))) || (decide (m.CH > 9007199254740991))) || (decide (m.Mode < 0))) || (decide (m.Mode ≥ 2097152))) || (decide (m.An < 0))) || (decide (m.An ≥ 2097152))) || (decide (m.A2 < 0))) || (decide (m.A2 ≥ 2097152)) || !((((decide (m.Time.Cn ≥ (-9007199254740991))) && (decide (m.Time.Cn ≤ 9007199254740991))) && (decide (m.Time.BV ≥ 0))) && (decide (m.Time.BV ≤ 999999999)))) = !Pf m := by
  unfold Pf M5
  rw [Bool.eq_iff_iff]
  simp only [Bool.or_eq_true, Bool.not_eq_true', Bool.and_eq_false_iff, decide_eq_true_eq, decide_eq_false_iff_not]
  omega
 unfold DQ
 rw [e1, Option.bind_some, b1, e2, Option.bind_some, b2, e3, Option.bind_some, b3, e4, Option.bind_some, b4, hx, Option.bind_some]
 unfold EG
 rw [Option.bind_some]
 unfold HG WY
 simp only [Bool.not_not]
 generalize DZ m.Name = c1
 generalize DZ m.Az = c2
 generalize DZ m.Ah = c3
 generalize DZ m.Aj = c4
 generalize (m.Name == []) = c5
 generalize R7 m.Extra = c6
 have hlast : ∀ (a b : Bool), (Aa a (some true) (some b) : Option Bool) = some (a || b) := fun a b => by cases a <;> rfl
 cases c6 with
 | false => cases c1 <;> cases c2 <;> cases c3 <;> cases c4 <;> cases c5 <;> rfl
 | true =>
  rw [if_pos rfl]
  dsimp only
  have hc := (hlast _ _).trans (congrArg some hnum)
  rw [hc, Option.bind_some]
  generalize Pf m = c7
  cases c1 <;> cases c2 <;> cases c3 <;> cases c4 <;> cases c5 <;> cases c7 <;> rfl
end Go.Av.L
