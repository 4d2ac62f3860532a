/-
 A part.
-/
import Derived.Test.YtlljeoogceblmaaGreatDoorWhC
namespace Go.Av.L
open Go.Av Go.Lib
set_option linter.unusedVariables false
set_option linter.unusedSimpArgs false
set_option maxRecDepth 10000
theorem Zx {a b : LM} : Op.bytesLess a b = true ↔ a < b := by rw [Go.Proofs.bytesLess_eq]; simp
def ZS (p x : Pr) : Bool := Op.bytesLess p.Key x.Key || p.Key == x.Key
theorem VK (p x : Pr) : ZS p x = decide (p.Key ≤ x.Key) := by
 unfold ZS
 rw [Bool.eq_iff_iff, Bool.or_eq_true, Zx, beq_iff_eq, decide_eq_true_eq]
 constructor
 ·rintro (h | h)
  ·exact List.le_of_lt h
  ·rw [h]; exact List.le_refl _
 ·intro h
  exact List.le_iff_lt_or_eq.1 h
def other (p : Pr) (l : List Pr) : List Pr := l.filter fun x => !(x.Key == p.Key)
def Jt (p : Pr) : List Pr → List Pr
 | [] => [p]
 | x :: l => if ZS p x = true then p :: other p (x :: l) else x :: Jt p l
theorem PM {p q : Pr} {l : List Pr} : q ∈ other p l ↔ q ∈ l ∧ q.Key ≠ p.Key := by
 unfold other; rw [List.mem_filter]; simp
theorem Th (p : Pr) : ∀ {l : List Pr}, XD l → XD (Jt p l) ∧ (∀ q, q ∈ Jt p l ↔ q = p ∨ (q ∈ l ∧ q.Key ≠ p.Key)) ∧ (Jt p l).length ≤ l.length + 1
 | [], _ => ⟨List.pairwise_singleton _ _, by simp [Jt], by simp [Jt]⟩
 | x :: l, h => by
  obtain ⟨h1, h2⟩ := List.pairwise_cons.1 h
  obtain ⟨i1, i2, i3⟩ := Th p h2
  unfold Jt
  rw [VK]
  by_cases hx : p.Key ≤ x.Key
  ·rw [if_pos (decide_eq_true hx)]
   refine ⟨List.pairwise_cons.2 ⟨fun q hq => ?_, h.filter _⟩, fun q => by rw [List.mem_cons, PM], ?_⟩
   ·obtain ⟨hq1, hq2⟩ := PM.1 hq
    have hle : p.Key ≤ q.Key := by
     rcases List.mem_cons.1 hq1 with rfl | hq1
     ·exact hx
     ·exact List.le_trans hx (List.le_of_lt (h1 q hq1))
    rcases List.le_iff_lt_or_eq.1 hle with h3 | h3
    ·exact h3
    ·exact absurd h3.symm hq2
   ·have := List.length_filter_le (fun y : Pr => !(y.Key == p.Key)) (x :: l)
    simp only [List.length_cons, other] at this ⊢
    omega
  ·rw [if_neg (by simpa using hx)]
   have hlt : x.Key < p.Key := List.not_le.1 hx
   refine ⟨List.pairwise_cons.2 ⟨fun q hq => ?_, i1⟩, fun q => ?_, by simp only [List.length_cons]; omega⟩
   ·rcases (i2 q).1 hq with rfl | ⟨hq1, _⟩
    ·exact hlt
    ·exact h1 q hq1
   ·rw [List.mem_cons, i2, List.mem_cons]
    constructor
    ·rintro (rfl | rfl | ⟨h3, h4⟩)
     ·exact .inr ⟨.inl rfl, fun e => by rw [e] at hlt; exact List.lt_irrefl _ hlt⟩
     ·exact .inl rfl
     ·exact .inr ⟨.inr h3, h4⟩
    ·rintro (rfl | ⟨rfl | h3, h4⟩)
     ·exact .inr (.inl rfl)
     ·exact .inl rfl
     ·exact .inr (.inr ⟨h3, h4⟩)
def T0 (p : Pr) (d : Bool) (l : List Pr) : List Pr := bif d then other p l else Jt p l
theorem OQ (p x : Pr) (l : List Pr) : other p (x :: l) = (if x.Key = p.Key then [] else [x]) ++ other p l := by
 unfold other
 rw [List.filter_cons]
 by_cases h : x.Key = p.Key
 ·rw [if_pos h, if_neg (by simp [h])]; rfl
 ·rw [if_neg h, if_pos (by simp [h])]; rfl
theorem put_eq (l : List Pr) (p : Pr) (hl : l.length ≤ 100) : Ay l p = some (Jt p l) := by
 refine W.eq ?_
 unfold Ay
 refine W.bind (W.mono (W.list (l := l) (fun (x : List Pr × Bool) (i : Nat) => (x.1, x.2, (i : Int))) (fun x i => x.1 ++ T0 p x.2 (l.drop i) = Jt p l ∧ x.1.length ≤ i + x.2.toNat) ?_ ?_ ([], false) ⟨rfl, by simp⟩ (Q := fun r => r.1 ++ T0 p r.2 [] = Jt p l ∧ r.1.length ≤ l.length + 1)) ?_)
 ·rintro ⟨x, d⟩ ⟨hx, hxl⟩
  unfold C5
  refine W.VP (fun h => by omega) fun _ => W.ret ?_
  rw [List.drop_length] at hx
  have : d.toNat ≤ 1 := by cases d <;> decide
  exact ⟨hx, by simp only at hxl ⊢; omega⟩
 ·rintro ⟨x, d⟩ i hi ⟨hx, hxl⟩
  have hxl : x.length ≤ i + d.toNat := hxl
  unfold C5
  refine W.VP (fun _ => ?_) fun h => by omega
  try simp only []
  rw [Ff hi]
  simp only [Option.bind_some]
  rw [drop_cons hi] at hx
  have hput : ∀ (y : List Pr) (d' : Bool), y.length ≤ i + d'.toNat → y ++ ((if l[i].Key = p.Key then [] else [l[i]]) ++ T0 p d' (l.drop (i + 1))) = Jt p l →
    W ((Aa (!(l[i].Key == p.Key)) (BS (Ov 32 (y.length + ([l[i]] : List AA).length)) <| some ((y ++ ([l[i]] : List AA)), d')) (some (y, d')) : Option (List Pr × Bool))) fun r => r.1 ++ T0 p r.2 (l.drop (i + 1)) = Jt p l ∧ r.1.length ≤ i + 1 + r.2.toNat := by
   intro y d' hy he
   have : d'.toNat ≤ 1 := by cases d' <;> decide
   refine W.ite (fun h => ?_) fun h => W.ret ?_
   ·have h0 : l[i].Key ≠ p.Key := by simpa using h
    rw [if_neg h0, ← List.append_assoc] at he
    exact W.BS (IB (by simp; omega) (by simp; omega)) (W.ret ⟨he, by simp; omega⟩)
   ·have h0 : l[i].Key = p.Key := by simpa using h
    rw [if_pos h0, List.nil_append] at he
    exact ⟨he, by simp only; omega⟩
  cases d with
  | true =>
   rw [Bool.not_true, AM, Option.bind_some, AM, Option.bind_some]
   refine W.bind (W.mono (hput x true hxl ?_) ?_)
   ·rw [← hx]
    show _ = x ++ other p _
    rw [OQ]
    rfl
   ·rintro ⟨y, d'⟩ hy
    exact W.ret ⟨(y, d'), by rw [Fe (by omega)], hy⟩
  | false =>
   rw [Bool.not_false, AU, Option.bind_some]
   have hle : (Op.bytesLess p.Key l[i].Key || p.Key == l[i].Key) = ZS p l[i] := rfl
   rw [hle]
   have hx' : x ++ (if ZS p l[i] = true then p :: other p (l[i] :: l.drop (i + 1)) else l[i] :: Jt p (l.drop (i + 1))) = Jt p l := hx
   cases hlp : ZS p l[i] with
   | true =>
    rw [if_pos hlp] at hx'
    rw [AU]
    have hx0 : x.length ≤ i := by simpa using hxl
    refine W.bind (W.bind (W.BS (IB (by simp; omega) (by simp; omega)) (W.ret ?_)))
    refine W.mono (hput (x ++ [p]) true (by simp; omega) ?_) ?_
    ·rw [← hx', OQ, List.append_assoc]
     rfl
    ·rintro ⟨y, d'⟩ hy
     exact W.ret ⟨(y, d'), by rw [Fe (by omega)], hy⟩
   | false =>
    rw [hlp, if_neg (by decide)] at hx'
    rw [AM, Option.bind_some]
    have hne : l[i].Key ≠ p.Key := by
     intro e
     rw [VK, e] at hlp
     have := of_decide_eq_false hlp
     exact this (List.le_refl _)
    refine W.bind (W.mono (hput x false hxl ?_) ?_)
    ·rw [if_neg hne, ← hx']
     rfl
    ·rintro ⟨y, d'⟩ hy
     exact W.ret ⟨(y, d'), by rw [Fe (by omega)], hy⟩
 ·rintro ⟨x, d⟩ ⟨hx, hxl⟩
  have hxl : x.length ≤ l.length + 1 := hxl
  cases d with
  | true =>
   have hx : x ++ [] = Jt p l := hx
   rw [List.append_nil] at hx
   simp only [Bool.not_true, AM, Option.bind_some]
   exact W.ret hx
  | false =>
   have hx : x ++ [p] = Jt p l := hx
   simp only [Bool.not_false, AU]
   exact W.bind (W.BS (IB (by simp; omega) (by simp; omega)) (W.ret (W.ret hx)))
noncomputable def pw (c : Prop) [Decidable c] (x : Pr) (l : List Pr) : List Pr := if c then l else Jt x l
structure St (l : List Pr) (ks : List LM) (n : Nat) : Prop where
 s : XD l
 k : ∀ q ∈ l, q.Key ∈ ks ∨ EL q.Key = false
 n : l.length ≤ n
theorem NH {l : List Pr} {ks : List LM} {n : Nat} {x : Pr} {c : Prop} [Decidable c] (h : St l ks n) (h1 : x.Key ∉ ks) (h2 : EL x.Key = true) : St (pw c x l) (x.Key :: ks) (n + 1) ∧ ∀ q, q ∈ pw c x l ↔ (¬ c ∧ q = x) ∨ q ∈ l := by
 obtain ⟨p1, p2, p3⟩ := Th x h.s
 have hn := h.n
 have hne : ∀ q ∈ l, q.Key ≠ x.Key := fun q hq e => by
  rcases h.k q hq with h' | h'
  ·exact h1 (e ▸ h')
  ·rw [e, h2] at h'; cases h'
 unfold pw
 by_cases hc : c
 ·rw [if_pos hc]
  exact ⟨⟨h.s, fun q hq => (h.k q hq).imp (List.mem_cons_of_mem _) id, by omega⟩, fun q => ⟨.inr, fun h' => h'.resolve_left fun h'' => h''.1 hc⟩⟩
 ·rw [if_neg hc]
  refine ⟨⟨p1, fun q hq => ?_, by omega⟩, fun q => ?_⟩
  ·rcases (p2 q).1 hq with rfl | ⟨h', _⟩
   ·exact .inl (List.mem_cons_self ..)
   ·exact (h.k q h').imp (List.mem_cons_of_mem _) id
  ·rw [p2]
   constructor
   ·rintro (h' | ⟨h', _⟩)
    ·exact .inl ⟨hc, h'⟩
    ·exact .inr h'
   ·rintro (⟨_, h'⟩ | h')
    ·exact .inl h'
    ·exact .inr ⟨h', hne q h'⟩
theorem IZ {α : Type} {l : List Pr} {k v : LM} {c : Prop} [Decidable c] {a b : α} (hl : l.length ≤ 100) :
  (Aa (decide c) (some (a, l)) ((Ay l (⟨k, v⟩ : AA)).bind fun x => some (b, x)) : Option (α × List Pr)) = some (if c then a else b, pw c ⟨k, v⟩ l) := by
 unfold pw
 by_cases h : c
 ·rw [decide_eq_true h, AU, if_pos h, if_pos h]
 ·rw [decide_eq_false h, AM, put_eq _ _ hl, if_neg h, if_neg h]; rfl
theorem YB {m : Mem} {n : Int} {ts : LM} {l : List Pr} {p : Prop} (h : ∀ q, q ∈ l ↔ q ∈ lB m n ts ∨ q ∈ m.Extra) (R : Km m) (hs : XD l) : l = lW m n ts :=
 Td hs (Yl R n ts) fun q => by rw [h q, (Qk m n ts).mem_iff, List.mem_append]
theorem Vv {m : Mem} {n : Int} {ts : LM} (R : Km m) (hm : m.Name.length ≤ 1000000) (hx : m.Extra.length ≤ 12) (hn : 0 ≤ n ∧ n < 9007199254740992) (ht : CI m.Time.Cn m.Time.BV = some ts) : Dc m n = some (hB m n, lW m n ts) := by
 have gi := R.gi
 have ui := R.ui
 obtain ⟨⟨p, q, b⟩, ep, hq⟩ := Nn m.Name hm
 obtain ⟨r, er, hr⟩ := RS m.Name hm
 obtain rfl := hr.uniq hq
 have hb : RI m.Name = b := by unfold RI; rw [ep]; rfl
 have S0 : St ([] ++ m.Extra) [] 12 := ⟨R.ex.1, fun q hq => .inr (R.ex.2 q hq).1, hx⟩
 have ec5 : b = decide (c5 m) := by unfold c5; rw [hb]; cases b <;> rfl
 have ec7 : decide (m.Br < 2097152) = decide (c7 m) := by rw [decide_eq_decide]; unfold c7; omega
 have ec1 : decide (m.CH < 2097152) = decide (c1 m) := by rw [decide_eq_decide]; unfold c1; omega
 have ec6 : decide (n < 8589934592) = decide (c6 n) := by rw [decide_eq_decide]; unfold c6; omega
 have ec3 : decide ((m.Az.length : Int) ≤ 100) = decide (c3 m) := by rw [decide_eq_decide]; unfold c3; omega
 have ec8 : decide ((m.Ah.length : Int) ≤ 32) = decide (c8 m) := by rw [decide_eq_decide]; unfold c8; omega
 have ec2 : decide ((m.Aj.length : Int) ≤ 32) = decide (c2 m) := by rw [decide_eq_decide]; unfold c2; omega
 have ec4 : (((m.Time.BV == 0) && (decide (m.Time.Cn ≥ 0))) && (decide (m.Time.Cn < 8589934592))) = decide (c4 m) := by
  rw [Bool.eq_iff_iff]
  simp only [Bool.and_eq_true, beq_iff_eq, decide_eq_true_eq]
  unfold c4
  exact ⟨fun h => ⟨h.1.1, h.1.2, h.2⟩, fun h => ⟨⟨h.1, h.2.1⟩, h.2.2⟩⟩
 obtain ⟨S1, m1⟩ := NH (x := ⟨GW, m.Name⟩) (c := c5 m) S0 (by simp) (show EL GW = true by decide)
 obtain ⟨S2, m2⟩ := NH (x := ⟨GV, m.Az⟩) (c := c3 m) S1 (by simp [GW, GV]) (show EL GV = true by decide)
 obtain ⟨S3, m3⟩ := NH (x := ⟨Fv, m.Ah⟩) (c := c8 m) S2 (by simp [GW, GV, Fv]) (show EL Fv = true by decide)
 obtain ⟨S4, m4⟩ := NH (x := ⟨FV, m.Aj⟩) (c := c2 m) S3 (by simp [GW, GV, Fv, FV]) (show EL FV = true by decide)
 obtain ⟨S5, m5⟩ := NH (x := ⟨Lq, Lib.itoa m.Br⟩) (c := c7 m) S4 (by simp [GW, GV, Fv, FV, Lq]) (show EL Lq = true by decide)
 obtain ⟨S6, m6⟩ := NH (x := ⟨Ls, Lib.itoa m.CH⟩) (c := c1 m) S5 (by simp [GW, GV, Fv, FV, Lq, Ls]) (show EL Ls = true by decide)
 obtain ⟨S7, m7⟩ := NH (x := ⟨I1, Lib.itoa n⟩) (c := c6 n) S6 (by simp [GW, GV, Fv, FV, Lq, Ls, I1]) (show EL I1 = true by decide)
 obtain ⟨S8, m8⟩ := NH (x := ⟨Jk, ts⟩) (c := c4 m) S7 (by simp [GW, GV, Fv, FV, Lq, Ls, I1, Jk]) (show EL Jk = true by decide)
 have n1 := S1.n; have n2 := S2.n; have n3 := S3.n; have n4 := S4.n; have n5 := S5.n; have n6 := S6.n; have n7 := S7.n
 unfold Dc
 rw [IB (by simp; omega) (by simp; omega), Af, er, Option.bind_some]
 dsimp only
 rw [ec5, Nq ui.1 (by omega), Nq gi.1 (by omega), Nq hn.1 (by omega), ← Hf ui.1, ← Hf gi.1, ← Hf hn.1, ht]
 simp only [Option.bind_some]
 rw [show ([108, 105, 110, 107, 112, 97, 116, 104] : List UInt8) = GV from rfl, show ([112, 97, 116, 104] : List UInt8) = GW from rfl, IZ (by simpa using Nat.le_trans hx (by omega)), Option.bind_some]
 dsimp only
 rw [ec3, IZ (by omega), Option.bind_some]
 dsimp only
 rw [ec8, show ([117, 110, 97, 109, 101] : List UInt8) = Fv from rfl, IZ (by omega), Option.bind_some]
 dsimp only
 rw [ec2, show ([103, 110, 97, 109, 101] : List UInt8) = FV from rfl, IZ (by omega), Option.bind_some]
 dsimp only
 rw [ec7, show ([117, 105, 100] : List UInt8) = Lq from rfl, IZ (by omega), Option.bind_some]
 dsimp only
 rw [ec1, show ([103, 105, 100] : List UInt8) = Ls from rfl, IZ (by omega), Option.bind_some]
 dsimp only
 rw [ec6, show ([115, 105, 122, 101] : List UInt8) = I1 from rfl, IZ (by omega), Option.bind_some]
 dsimp only
 rw [ec4, show ([109, 116, 105, 109, 101] : List UInt8) = Jk from rfl, IZ (by omega), Option.bind_some]
 dsimp only
 have hl : pw (c4 m) ⟨Jk, ts⟩ (pw (c6 n) ⟨I1, Lib.itoa n⟩ (pw (c1 m) ⟨Ls, Lib.itoa m.CH⟩ (pw (c7 m) ⟨Lq, Lib.itoa m.Br⟩ (pw (c2 m) ⟨FV, m.Aj⟩ (pw (c8 m) ⟨Fv, m.Ah⟩ (pw (c3 m) ⟨GV, m.Az⟩ (pw (c5 m) ⟨GW, m.Name⟩ ([] ++ m.Extra)))))))) = lW m n ts := by
  refine YB (p := True) (fun q => ?_) R S8.s
  rw [m8, m7, m6, m5, m4, m3, m2, m1, WU, List.nil_append]
  simp only [or_assoc, or_comm, or_left_comm]
 rw [hl]
 rfl
end Go.Av.L
