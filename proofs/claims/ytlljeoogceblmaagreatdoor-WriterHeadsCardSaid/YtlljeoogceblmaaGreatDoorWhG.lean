/-
 A part.
-/
import Derived.Test.YtlljeoogceblmaaGreatDoorWhE
namespace Go.Av.L
open Go.Av Go.Lib
set_option linter.unusedVariables false
set_option linter.unusedSimpArgs false
set_option maxRecDepth 10000
structure UB (m : Mem) : Prop where
 x : m.Extra.length ≤ 12
 e : ∀ p ∈ m.Extra, p.Key.length ≤ 300 ∧ p.Value.length ≤ 300
 n : m.Name.length ≤ 600
 l : m.Az.length ≤ 600
 u : m.Ah.length ≤ 100
 g : m.Aj.length ≤ 100
theorem XN (m : Mem) : W (Cz m) fun b => b = false → UB m := by
 by_cases hm12 : m.Extra.length > 12
 ·unfold Cz Df
  rw [decide_eq_true (show (m.Extra.length : Int) > 12 by omega), AU, Option.bind_some]
  exact W.ret fun h => by simp at h
 have hm : m.Extra.length ≤ 1000000 := by omega
 have hs : ∀ i : Nat, i < m.Extra.length → B8 m.Extra (i : Int) = some (if (!(decide ((m.Extra.getD i SK).Key.length > 300) || decide ((m.Extra.getD i SK).Value.length > 300))) = true then .inl ((i + 1 : Nat) : Int) else .inr (.inr true)) := fun i hi => by
  unfold B8
  dsimp only
  rw [decide_eq_true (by omega), AU, Ff hi, Option.bind_some, Option.bind_some, Xs, Option.bind_some, Fe (by omega), getD_at hi, show decide ((m.Extra[i].Key.length : Int) > 300) = decide (m.Extra[i].Key.length > 300) from by rw [decide_eq_decide]; omega, show decide ((m.Extra[i].Value.length : Int) > 300) = decide (m.Extra[i].Value.length > 300) from by rw [decide_eq_decide]; omega]
  cases (decide (m.Extra[i].Key.length > 300) || decide (m.Extra[i].Value.length > 300)) <;> rfl
 have hend : B8 m.Extra (m.Extra.length : Int) = some (.inr (.inl ())) := by
  unfold B8
  dsimp only
  rw [decide_eq_false (by omega), AM]
 unfold Cz Df
 rw [Lt hend hs, Option.bind_some]
 refine W.bind (W.mono (Q := fun b => b = false → m.Extra.length ≤ 12 ∧ ∀ p ∈ m.Extra, p.Key.length ≤ 300 ∧ p.Value.length ≤ 300) ?_ fun b hb => W.ret fun h => ?_)
 ·refine W.VP (fun _ => W.ret fun h => by cases h) fun hl => ?_
  split
  ·rename_i hx
   split at hx
   ·rename_i ha
    refine W.ret fun _ => ⟨by omega, fun p hp => ?_⟩
    rw [List.all_eq_true] at ha
    obtain ⟨i, hi, rfl⟩ := List.getElem_of_mem hp
    have := ha i (List.mem_range.2 hi)
    rw [getD_at hi] at this
    simp only [Bool.not_eq_true', Bool.or_eq_false_iff, decide_eq_false_iff_not] at this
    omega
   ·cases hx
  ·rename_i b hx
   split at hx
   ·cases hx
   ·refine W.ret fun h => ?_
    injection hx with hx
    rw [← hx] at h; cases h
 ·simp only [Bool.or_eq_false_iff, decide_eq_false_iff_not] at h
  obtain ⟨⟨⟨⟨⟨h1, h2⟩, h3⟩, h4⟩, h5⟩, h6⟩ := h
  obtain ⟨b1, b2⟩ := hb h1
  exact ⟨b1, b2, by omega, by omega, by omega, by omega⟩
theorem Wx {n : Int} (h : 0 ≤ n) (h2 : n ≤ 9007199254740991) : (Lib.itoa n).length ≤ 16 := (WX h h2).2
theorem Xb {m : Mem} {n : Int} {ts : LM} (R : Km m) (B : UB m) (hn : 0 ≤ n ∧ n ≤ 1099511627776) (ht : ts.length ≤ 60) : (lW m n ts).length ≤ 20 ∧ ∀ p ∈ lW m n ts, NT p := by
 obtain ⟨k1, k2, k3⟩ := QK m n ts
 have hp := Qk m n ts
 have b1 := B.x; have b3 := B.n; have b4 := B.l; have b5 := B.u; have b6 := B.g
 have ui := R.ui; have gi := R.gi
 refine ⟨by rw [hp.length_eq, List.length_append]; omega, fun p hpm => ?_⟩
 have hkk : ∀ k ∈ K8, k ≠ [] ∧ (61 : UInt8) ∉ k ∧ k.length ≤ 8 := by decide
 have key : ∀ (k v : LM), k ∈ K8 → v.length ≤ 600 → NT ⟨k, v⟩ := fun k v hk hv => by
  obtain ⟨a1, a2, a3⟩ := hkk k hk
  exact ⟨a1, a2, by unfold bare; dsimp only; omega⟩
 rcases List.mem_append.1 (hp.mem_iff.1 hpm) with h | h
 ·have d1 := Wx gi.1 (by omega)
  have d2 := Wx hn.1 (by omega)
  have d3 := Wx ui.1 (by omega)
  rcases WU.1 h with ⟨_, rfl⟩ | ⟨_, rfl⟩ | ⟨_, rfl⟩ | ⟨_, rfl⟩ | ⟨_, rfl⟩ | ⟨_, rfl⟩ | ⟨_, rfl⟩ | ⟨_, rfl⟩
  ·exact key _ _ (by decide) (by omega)
  ·exact key _ _ (by decide) (by omega)
  ·exact key _ _ (by decide) (by omega)
  ·exact key _ _ (by decide) (by omega)
  ·exact key _ _ (by decide) (by omega)
  ·exact key _ _ (by decide) (by omega)
  ·exact key _ _ (by decide) (by omega)
  ·exact key _ _ (by decide) (by omega)
 ·obtain ⟨h1, h2, h3, h4⟩ := R.ex.2 p h
  have := B.e p h
  exact ⟨h2, h4, by unfold bare; omega⟩
def KU (n : Nat) : AK := ⟨([80, 97, 120, 72, 101, 97, 100, 101, 114, 115] : List UInt8), ([] : List UInt8), (120 : Int), (420 : Int), (0 : Int), (0 : Int), (n : Int), (0 : Int), ([] : List UInt8), ([] : List UInt8), (0 : Int), (0 : Int), (0 : Int)⟩
theorem Xn {n : Nat} (h : n < 8589934592) : ∃ p q, Fit (KU n) p q :=
 Hc.fit ⟨by kernel_rfl, by kernel_rfl, by kernel_rfl, by kernel_rfl, ⟨_, _, .inl ⟨by simp [KU], rfl⟩⟩, by simp [KU], by simp [KU], by simp [KU], by simp [KU], by simp [KU], by simp [KU], by simp [KU]; omega, by simp [KU], by simp [KU], by simp [KU]⟩ (by simp [KU]) (by simp [KU])
def Z5 (s : List UInt8) : Prop := ∃ h p q, Fit h p q ∧ s = (Gb h p q).flatten
theorem WH {h : AK} {p q : List UInt8} (F : Fit h p q) : Z5 (Gb h p q).flatten := ⟨h, p, q, F, rfl⟩
theorem Z5.len {s : List UInt8} (h : Z5 s) : s.length = 512 := by
 obtain ⟨h, p, q, F, rfl⟩ := h
 exact F.shape.flat
def Good (s : List UInt8) : Prop := (∃ a b, s = a ++ b ∧ Z5 a) ∧ (∃ c d, s = c ++ d ∧ Z5 d) ∧ s.length ≤ 1000000
def km (m : Mem) (k : Int) : Mem := ⟨m.Name, m.Az, k, m.Mode, m.Br, m.CH, m.Ah, m.Aj, m.An, m.A2, m.Time, m.Extra, m.Data⟩
theorem Wn {m : Mem} {n : Int} (B : UB m) : W (Ef m n) fun r => Dh m n = some r ∧ (r.2 = 0 → Good r.1 ∧ 0 ≤ n ∧ n ≤ 1099511627776) := by
 have b1 := B.x; have b3 := B.n; have b4 := B.l; have b5 := B.u; have b6 := B.g
 unfold Ef Dh
 obtain ⟨k, hk⟩ : ∃ k : Int, (Aa (m.Kind == 0) (some (48 : Int)) (some m.Kind) : Option ((Int))) = some k := by
  cases m.Kind == 0
  ·exact ⟨_, rfl⟩
  ·exact ⟨_, rfl⟩
 rw [hk, Option.bind_some, Option.bind_some]
 have B' : UB (km m k) := ⟨B.x, B.e, B.n, B.l, B.u, B.g⟩
 rw [show (⟨m.Name, m.Az, k, m.Mode, m.Br, m.CH, m.Ah, m.Aj, m.An, m.A2, m.Time, m.Extra, m.Data⟩ : AR) = km m k from rfl]
 have hkk : (km m k).Kind = k := rfl
 generalize km m k = m' at *
 have b1 := B'.x; have b3 := B'.n; have b4 := B'.l; have b5 := B'.u; have b6 := B'.g
 have hright := Rk m' (by omega)
 have hrright := UY m' (by omega) (fun p hp => by have := B'.e p hp; omega) ⟨by omega, by omega, by omega, by omega⟩
 unfold GO
 rw [hright, Option.bind_some, hrright, Option.bind_some]
 by_cases hr : HG m' = 0
 rotate_left
 ·rw [show (HG m' != 0) = true from bne_iff_ne.2 hr, AU, AU, Option.bind_some, show (HG m' != 0) = true from bne_iff_ne.2 hr, AU]
  exact W.ret ⟨rfl, fun h => absurd h hr⟩
 rw [hr, show ((0 : Int) != 0) = false from rfl, AM, AM, hkk]
 by_cases hkb : (decide (k < 48) || decide (k > 55)) = true
 ·rw [hkb, AU, AU, Option.bind_some, show ((5 : Int) != 0) = true from rfl, AU]
  exact W.ret ⟨rfl, fun h => by cases h⟩
 rw [Bool.not_eq_true] at hkb
 rw [hkb, AM, AM]
 have hsz : ((Aa ((decide (n < 0)) || (decide (n > 1099511627776))) (some true) ((Aa (n != 0) ((E5 k).bind fun x4 => some (!x4)) (some false) : Option (Bool)).bind fun x3 => some x3) : Option (Bool)).bind fun x2 => Aa x2 (some (6 : Int)) (some (0 : Int))) = some (if (((decide (n < 0)) || (decide (n > 1099511627776))) || (((n != 0) && (k != 48)) && (k != 55))) = true then 6 else 0) := by
  unfold E5
  rw [Option.bind_some, show (k != 48) = !(k == 48) from rfl, show (k != 55) = !(k == 55) from rfl]
  cases (decide (n < 0) || decide (n > 1099511627776)) <;> cases (n != 0) <;> cases (k == 48) <;> cases (k == 55) <;> rfl
 rw [hsz, Option.bind_some]
 by_cases hszb : (((decide (n < 0)) || (decide (n > 1099511627776))) || (((n != 0) && (k != 48)) && (k != 55))) = true
 ·rw [if_pos hszb, hszb, show ((6 : Int) != 0) = true from rfl, AU, AU]
  exact W.ret ⟨rfl, fun h => by cases h⟩
 rw [if_neg hszb, show ((((decide (n < 0)) || (decide (n > 1099511627776))) || (((n != 0) && (k != 48)) && (k != 55)))) = false from Bool.not_eq_true _ ▸ hszb, show ((0 : Int) != 0) = false from rfl, AM, AM]
 have hn : 0 ≤ n ∧ n ≤ 1099511627776 := by
  rw [Bool.not_eq_true] at hszb
  simp only [Bool.or_eq_false_iff, decide_eq_false_iff_not] at hszb
  omega
 have hk2 : 48 ≤ k ∧ k ≤ 55 := by
  simp only [Bool.or_eq_false_iff, decide_eq_false_iff_not] at hkb
  omega
 have R := U4 hr
 obtain ⟨ts, t1, t2, t3, t4⟩ := Vo R.ti
 have hce : Om m' n = 0 := by unfold Om; rw [if_pos hr, if_pos ⟨hn.1, by omega⟩]
 obtain ⟨e1, e2⟩ := head_eq hce R (by omega) (by omega) ⟨hn.1, by omega⟩ t1
 obtain ⟨_, FP⟩ := Tv (n := n) R (by omega) ⟨hn.1, by omega⟩ t1
 have e3 := Vv (n := n) R (by omega) b1 ⟨hn.1, by omega⟩ t2
 obtain ⟨c1, c2⟩ := Xb (n := n) (ts := ts) R B' hn t4
 have hlen := Hb c2
 have e4 := V4 c1 c2
 have e5 := Uo c1 c2
 have hnm : (hB m' n).Name.length ≤ 1000000 := by
  show (if c5 m' then m'.Name else []).length ≤ _
  split
  ·omega
  ·simp
 obtain ⟨p, q, F⟩ := FP.fit hnm (by show 0 ≤ m'.Kind ∧ m'.Kind ≤ 255; omega)
 have g1 := Rv F
 have g2 := P5 F hnm
 have hbl := WH F
 have hbl5 := hbl.len
 rw [e2, Option.bind_some, e3, Option.bind_some]
 dsimp only
 unfold Et
 rw [e4, Option.bind_some, e5, Option.bind_some, e1]
 simp only [Option.bind_some]
 rw [g1, g2]
 simp only [Option.bind_some]
 generalize Ge (lW m' n ts) = rs at *
 generalize (Gb (hB m' n) p q).flatten = blk at *
 rw [show ((0 : Int) != 0) = false from rfl, Bool.false_or, AM]
 by_cases h0 : rs = []
 ·subst h0
  rw [show (([] : List UInt8) == ([] : List UInt8)) = true from rfl, AU, Bool.not_true, AM, Option.bind_some, Option.bind_some]
  dsimp only
  rw [show ((0 : Int) != 0) = false from rfl, AM, join_eq (by simp) (by omega), Option.bind_some, decide_eq_true (by simp; omega), Af]
  exact W.ret ⟨rfl, fun _ => ⟨⟨⟨blk, [], by simp, hbl⟩, ⟨[], blk, rfl, hbl⟩, by show blk.length ≤ _; omega⟩, hn⟩⟩
 ·obtain ⟨pp, pq, PF⟩ := Xn (n := rs.length) (by omega)
  have g3 := Rv PF
  have g4 := P5 PF (by simp [KU])
  have hpb := WH PF
  have hpb5 := hpb.len
  have hpl := Vx rs
  rw [show (rs == []) = false from beq_eq_false_iff_ne.2 h0, AM, Bool.not_false, AU]
  rw [show (⟨([80, 97, 120, 72, 101, 97, 100, 101, 114, 115] : List UInt8), ([] : List UInt8), (120 : Int), (420 : Int), (0 : Int), (0 : Int), (rs.length : Int), (0 : Int), ([] : List UInt8), ([] : List UInt8), (0 : Int), (0 : Int), (0 : Int)⟩ : AK) = KU rs.length from rfl, g3, g4, Option.bind_some, Option.bind_some]
  dsimp only
  rw [Yq (by omega), X1 (by omega), Option.bind_some, Option.bind_some]
  generalize (Gb (KU rs.length) pp pq).flatten = pb at *
  rw [join_eq (by omega) (by omega), Option.bind_some, Option.bind_some]
  dsimp only
  rw [show ((0 : Int) != 0) = false from rfl, AM, join_eq (by rw [List.length_append]; omega) (by omega), Option.bind_some, decide_eq_true (by omega), Af, Option.bind_some, decide_eq_true (by rw [List.length_append]; omega), Af]
  exact W.ret ⟨rfl, fun _ => ⟨⟨⟨pb, O0 rs ++ blk, by rw [List.append_assoc], hpb⟩, ⟨_, blk, rfl, hbl⟩, by rw [List.length_append, List.length_append]; omega⟩, hn⟩⟩
end Go.Av.L
