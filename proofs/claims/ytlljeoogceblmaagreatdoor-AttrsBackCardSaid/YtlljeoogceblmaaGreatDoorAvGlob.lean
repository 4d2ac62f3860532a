/-
  Several texts in one.
-/
import Derived.Test.YtlljeoogceblmaaGreatDoorBkD
import Derived.Test.YtlljeoogceblmaaGreatDoorAvIn
import Derived.Test.YtlljeoogceblmaaGreatDoorAvMore
import Derived.Lib.LaidTab
/-
 A part.
-/
section
namespace Go.Av.L
open Go.Av Go.Lib
set_option linter.unusedVariables false
set_option linter.unusedSimpArgs false
set_option maxRecDepth 100000
theorem Qi : CP = some true := by kernel_rfl
def Td (p : Pr) : Bool := decide ((p.Key.length : Int) > 300) || decide ((p.Value.length : Int) > 300)
theorem Xg (l : List Pr) (hl : l.length ≤ 1000000) : ∃ b, B4 l = some b ∧ (b = false → l.length ≤ 12 ∧ ∀ p ∈ l, p.Key.length ≤ 300 ∧ p.Value.length ≤ 300) := by
 unfold B4
 rw [EH]
 by_cases h : (l.length : Int) > 12
 ·rw [if_pos h]; exact ⟨true, rfl, fun h => by cases h⟩
 ·rw [if_neg h]
  have hend : Bw l (l.length : Int) = some (.inr (.inl ())) := by
   unfold Bw
   dsimp only
   rw [decide_eq_false (by omega), AQ]
  have hst : ∀ i : Nat, i < l.length → Bw l (i : Int) = some (if (!Td (l.getD i Um)) = true then .inl ((i + 1 : Nat) : Int) else .inr (.inr true)) := by
   intro i hi
   unfold Bw Td
   dsimp only
   rw [decide_eq_true (by omega), Ah, Gv hi, Option.bind_some, Option.bind_some, HM (by omega), getD_at hi]
   cases decide ((l[i].Key.length : Int) > 300) <;> cases decide ((l[i].Value.length : Int) > 300) <;> rfl
  rw [NG hend hst, Option.bind_some]
  by_cases ha : ((List.range l.length).all fun i => !Td (l.getD i Um)) = true
  ·rw [if_pos ha]
   refine ⟨false, rfl, fun _ => ⟨by omega, fun p hp => ?_⟩⟩
   obtain ⟨i, hi, rfl⟩ := List.getElem_of_mem hp
   rw [List.all_eq_true] at ha
   have := ha i (List.mem_range.2 hi)
   rw [getD_at hi] at this
   unfold Td at this
   simp only [Bool.not_eq_true', Bool.or_eq_false_iff, decide_eq_false_iff_not] at this
   omega
  ·rw [if_neg ha]; exact ⟨true, rfl, fun h => by cases h⟩
structure Y6 (m : Mem) : Prop where
 nm : m.Name.length ≤ 600
 lk : m.AU.length ≤ 600
 un : m.AN.length ≤ 100
 gn : m.AO.length ≤ 100
 ex : m.Extra.length ≤ 12
 kv : ∀ p ∈ m.Extra, p.Key.length ≤ 300 ∧ p.Value.length ≤ 300
 da : m.Data.length ≤ 2000
theorem Vv (m : Mem) : ∃ b, DG m = some b ∧ (b = false → Y6 m) := by
 unfold DG
 by_cases hb : m.Extra.length ≤ 1000000
 ·obtain ⟨b, e, h⟩ := Xg m.Extra hb
  rw [e, Option.bind_some]
  refine ⟨_, rfl, fun hf => ?_⟩
  simp only [Bool.or_eq_false_iff, decide_eq_false_iff_not] at hf
  obtain ⟨⟨⟨⟨⟨h1, h2⟩, h3⟩, h4⟩, h5⟩, h6⟩ := hf
  obtain ⟨g1, g2⟩ := h h1
  exact ⟨by omega, by omega, by omega, by omega, g1, g2, by omega⟩
 ·have e : B4 m.Extra = some true := by
   unfold B4
   rw [EH, if_pos (by omega)]
  rw [e, Option.bind_some]
  exact ⟨_, rfl, fun hf => by simp at hf⟩
theorem Qv (l : List Pr) (hl : l.length ≤ 1000000) : DH l l = some true := by
 unfold DH
 rw [show ((l.length : Int) != (l.length : Int)) = false from by simp, AQ]
 have hend : Bv l l (l.length : Int) = some (.inr (.inl ())) := by
  unfold Bv
  dsimp only
  rw [decide_eq_false (by omega), AQ]
 have hst : ∀ i : Nat, i < l.length → Bv l l (i : Int) = some (if (true : Bool) = true then .inl ((i + 1 : Nat) : Int) else .inr (.inr false)) := by
  intro i hi
  unfold Bv
  dsimp only
  rw [decide_eq_true (by omega), Ah, Gv hi, Option.bind_some, Option.bind_some, show Wf cfg.P _ [.str l[i].Key, .str l[i].Value] [.str l[i].Key, .str l[i].Value] = some true from RU (by kernel_rfl) (by kernel_rfl), Option.bind_some, HM (by omega)]
  rfl
 rw [NG (c := fun _ => true) hend hst, Option.bind_some, if_pos (by simp)]
theorem Rt (m : Mem) (hl : m.Extra.length ≤ 1000000) : DD m m = some true := by
 unfold DD
 simp only [beq_self_eq_true, Bool.and_self, Ah]
 rw [show Wf cfg.P _ [AA.int .i64 m.Time.B6, AA.int .i64 m.Time.BA] [AA.int .i64 m.Time.B6, AA.int .i64 m.Time.BA] = some true from RU (by kernel_rfl) (by kernel_rfl), Option.bind_some, Option.bind_some, Ah, Qv m.Extra hl]
 rfl
theorem N2 : ∀ (n : Nat) {l : List Pr}, l.length = n → PZ l → ∀ q : Pr, Md l q.Key = some q.Value ↔ q ∈ l
 | 0, l, h, _, q => by
  obtain rfl : l = [] := List.eq_nil_of_length_eq_zero h
  simp [Md, mapOf, C3]
 | n + 1, l, h, hs, q => by
  obtain ⟨L, p, rfl⟩ : ∃ L p, l = L ++ [p] := by
   have hn : n < l.length := by omega
   refine ⟨l.take n, l[n], ?_⟩
   rw [← FQ (List.getElem?_eq_getElem hn), List.take_of_length_le (by omega)]
  obtain ⟨h1, _, h3⟩ := List.pairwise_append.1 hs
  have ih := N2 n (l := L) (by rw [List.length_append, List.length_singleton] at h; omega) h1 q
  rw [SF]
  by_cases hk : q.Key = p.Key
  ·rw [if_pos hk]
   constructor
   ·intro e
    have : q = p := by
     obtain ⟨a, b⟩ := q
     obtain ⟨c, d⟩ := p
     dsimp only at hk e
     rw [hk, ← Option.some.inj e]
    rw [this]; simp
   ·intro hm
    rcases List.mem_append.1 hm with hm | hm
    ·have := h3 q hm p (by simp)
     rw [hk] at this
     exact absurd this (List.lt_irrefl _)
    ·rw [List.mem_singleton.1 hm]
  ·rw [if_neg hk, ih]
   constructor
   ·intro hm; simp [hm]
   ·intro hm
    rcases List.mem_append.1 hm with hm | hm
    ·exact hm
    ·exact absurd (by rw [List.mem_singleton.1 hm]) hk
theorem Uf {l : List Pr} (hs : PZ l) (q : Pr) : Md l q.Key = some q.Value ↔ q ∈ l := N2 _ rfl hs q
theorem GG {m : Mem} {n : Int} {ts : Gh} {p : Pr} : p ∈ lW m n ts ↔ p ∈ lB m n ts ∨ p ∈ m.Extra := by
 rw [(QG m n ts).mem_iff, List.mem_append]
theorem YU (m : Mem) (n : Int) (ts : Gh) : (lW m n ts).length ≤ 8 + m.Extra.length := by
 rw [(QG m n ts).length_eq, List.length_append]
 have := (LW m n ts).2.1
 omega
theorem Kv {s : Gh} (h : 1 ≤ s.length) : s ≠ [] := fun e => by rw [e] at h; simp at h
theorem YB {m : Mem} {n : Int} {ts : Gh} (R : H6 m) (hn : 0 ≤ n ∧ n < 9007199254740992) (ht : 1 ≤ ts.length) : ∀ p ∈ lW m n ts, p.Value ≠ [] := by
 intro p hp
 rcases GG.1 hp with hp | hp
 ·have gi := R.gi
  have ui := R.ui
  rw [EC] at hp
  rcases hp with ⟨h, rfl⟩ | ⟨h, rfl⟩ | ⟨h, rfl⟩ | ⟨h, rfl⟩ | ⟨h, rfl⟩ | ⟨h, rfl⟩ | ⟨h, rfl⟩ | ⟨h, rfl⟩
  ·exact Kv (OM (by omega) (by omega)).1
  ·exact Kv (by unfold c2 at h; dsimp only; omega)
  ·exact Kv (by unfold c3 at h; dsimp only; omega)
  ·exact Kv ht
  ·exact R.ne
  ·exact Kv (OM (by omega) (by omega)).1
  ·exact Kv (OM (by omega) (by omega)).1
  ·exact Kv (by unfold c8 at h; dsimp only; omega)
 ·exact (R.ex.2 p hp).2.2.1
theorem NH {s : Gh} (h : Dr s = false) : Rc s = false := by
 have := LK h
 unfold Rc
 simpa using this
theorem WN {k : Gh} (h : Fm k = false) : k ≠ JJ ∧ k ≠ JN ∧ k ≠ F9 ∧ k ≠ EO ∧ k ≠ Eu ∧ k ≠ Fz ∧ k ≠ Fu ∧ k ≠ Fy := by
 refine ⟨?_, ?_, ?_, ?_, ?_, ?_, ?_, ?_⟩ <;> (rintro rfl; exact absurd h (by decide))
theorem ZJ {m : Mem} {n : Int} {ts : Gh} (R : H6 m) (hn : 0 ≤ n ∧ n < 9007199254740992) (ht : CC ts = some (m.Time, 0)) : ∀ p ∈ lW m n ts, XF p := by
 intro p hp
 have gi := R.gi
 have ui := R.ui
 have key : (∃ k ∈ K8, p.Key = k) → (p.Key = JJ ∨ p.Key = JN ∨ p.Key = F9 → (GU p.Value).2 = 0) → (p.Key = EO ∨ p.Key = Eu ∨ p.Key = Fz ∨ p.Key = Fu → Rc p.Value = false) → (p.Key = Fy → ∃ t, CC p.Value = some (t, 0)) → XF p := fun _ a b c => ⟨a, b, c⟩
 rcases GG.1 hp with hp | hp
 ·rw [EC] at hp
  rcases hp with ⟨h, rfl⟩ | ⟨h, rfl⟩ | ⟨h, rfl⟩ | ⟨h, rfl⟩ | ⟨h, rfl⟩ | ⟨h, rfl⟩ | ⟨h, rfl⟩ | ⟨h, rfl⟩
  ·exact ⟨fun _ => by dsimp only; rw [Ia (by omega) (by omega)], fun h => absurd h (by dsimp only; decide), fun h => absurd h (by dsimp only; decide)⟩
  ·exact ⟨fun h => absurd h (by dsimp only; decide), fun _ => NH R.nG, fun h => absurd h (by dsimp only; decide)⟩
  ·exact ⟨fun h => absurd h (by dsimp only; decide), fun _ => NH R.nL, fun h => absurd h (by dsimp only; decide)⟩
  ·exact ⟨fun h => absurd h (by dsimp only; decide), fun h => absurd h (by dsimp only; decide), fun _ => ⟨_, ht⟩⟩
  ·exact ⟨fun h => absurd h (by dsimp only; decide), fun _ => NH R.nN, fun h => absurd h (by dsimp only; decide)⟩
  ·exact ⟨fun _ => by dsimp only; rw [Ia (by omega) (by omega)], fun h => absurd h (by dsimp only; decide), fun h => absurd h (by dsimp only; decide)⟩
  ·exact ⟨fun _ => by dsimp only; rw [Ia (by omega) (by omega)], fun h => absurd h (by dsimp only; decide), fun h => absurd h (by dsimp only; decide)⟩
  ·exact ⟨fun h => absurd h (by dsimp only; decide), fun _ => NH R.nU, fun h => absurd h (by dsimp only; decide)⟩
 ·obtain ⟨k1, k2, k3, k4, k5, k6, k7, k8⟩ := WN (R.ex.2 p hp).1
  exact ⟨fun h => by rcases h with h | h | h <;> contradiction, fun h => by rcases h with h | h | h | h <;> contradiction, fun h => absurd h k8⟩
theorem Mv {m : Mem} {n : Int} {ts : Gh} {K : Gh} (R : H6 m) (hK : Fm K = true) (hn : ∀ p ∈ lB m n ts, p.Key ≠ K) : ∀ p ∈ lW m n ts, p.Key ≠ K := by
 intro p hp e
 rcases GG.1 hp with h | h
 ·exact hn p h e
 ·have := (R.ex.2 p h).1
  rw [e, hK] at this
  cases this
theorem UP {m : Mem} {n : Int} {ts : Gh} (R : H6 m) : (lW m n ts).filter (fun p => !Fm p.Key) = m.Extra := by
 refine Ps ((SS R n ts).sublist List.filter_sublist) R.ex.1 fun q => ?_
 rw [List.mem_filter, GG]
 constructor
 ·rintro ⟨h | h, h2⟩
  ·rw [(LW m n ts).2.2 q h] at h2; cases h2
  ·exact h
 ·intro h
  exact ⟨.inr h, by rw [(R.ex.2 q h).1]; rfl⟩
theorem W2 {m : Mem} {n : Int} {ts : Gh} {kd : Int} (R : H6 m) (hn : 0 ≤ n ∧ n < 9007199254740992) (hp : CC ts = some (m.Time, 0)) :
  (lW m n ts).foldl BL (He ⟨(hB m n).Name, (hB m n).AU, kd, (hB m n).Mode, (hB m n).BP, (hB m n).BQ, (hB m n).BU, (hB m n).Time, (hB m n).AN, (hB m n).AO, (hB m n).Aa, (hB m n).Ag, 2⟩, (hB m n).BU) =
   (⟨m.Name, m.AU, kd, m.Mode, m.BP, m.BQ, m.AN, m.AO, m.Aa, m.Ag, m.Time, m.Extra, []⟩, n) := by
 have gi := R.gi
 have ui := R.ui
 have S := SS R n ts
 generalize hs0 : (He ⟨(hB m n).Name, (hB m n).AU, kd, (hB m n).Mode, (hB m n).BP, (hB m n).BQ, (hB m n).BU, (hB m n).Time, (hB m n).AN, (hB m n).AO, (hB m n).Aa, (hB m n).Ag, 2⟩, (hB m n).BU) = s0
 obtain ⟨g1, g2⟩ := ZU (lW m n ts) s0
 obtain ⟨u1, u2⟩ := Zs (lW m n ts) s0
 obtain ⟨z1, z2⟩ := Y9 (lW m n ts) s0
 obtain ⟨a1, a2⟩ := Ws (lW m n ts) s0
 obtain ⟨b1, b2⟩ := Xf (lW m n ts) s0
 obtain ⟨n1, n2⟩ := Y8 (lW m n ts) s0
 obtain ⟨l1, l2⟩ := YM (lW m n ts) s0
 obtain ⟨t1, t2⟩ := YY (lW m n ts) s0
 obtain ⟨q1, q2, q3, q4, q5⟩ := OO (lW m n ts) s0
 have qe := Nt (lW m n ts) s0
 rw [UP R] at qe
 have e1 : ((lW m n ts).foldl BL s0).1.BQ = m.BQ := by
  by_cases hc : c1 m
  ·rw [g1 (Mv R rfl fun p hp => by rw [EC] at hp; rcases hp with ⟨h, rfl⟩ | ⟨h, rfl⟩ | ⟨h, rfl⟩ | ⟨h, rfl⟩ | ⟨h, rfl⟩ | ⟨h, rfl⟩ | ⟨h, rfl⟩ | ⟨h, rfl⟩ <;> first | exact absurd hc h | (dsimp only; decide)), ← hs0]
   show (if c1 m then m.BQ else 0) = m.BQ
   rw [if_pos hc]
  ·rw [g2 _ S (GG.2 (.inl (EC.2 (.inl ⟨hc, rfl⟩)))), Ia (by omega) (by omega)]
 have e2 : ((lW m n ts).foldl BL s0).1.BP = m.BP := by
  by_cases hc : c7 m
  ·rw [u1 (Mv R rfl fun p hp => by rw [EC] at hp; rcases hp with ⟨h, rfl⟩ | ⟨h, rfl⟩ | ⟨h, rfl⟩ | ⟨h, rfl⟩ | ⟨h, rfl⟩ | ⟨h, rfl⟩ | ⟨h, rfl⟩ | ⟨h, rfl⟩ <;> first | exact absurd hc h | (dsimp only; decide)), ← hs0]
   show (if c7 m then m.BP else 0) = m.BP
   rw [if_pos hc]
  ·rw [u2 _ S (GG.2 (.inl (EC.2 (.inr (.inr (.inr (.inr (.inr (.inr (.inl ⟨hc, rfl⟩)))))))))), Ia (by omega) (by omega)]
 have e3 : ((lW m n ts).foldl BL s0).2 = n := by
  by_cases hc : c6 n
  ·rw [z1 (Mv R rfl fun p hp => by rw [EC] at hp; rcases hp with ⟨h, rfl⟩ | ⟨h, rfl⟩ | ⟨h, rfl⟩ | ⟨h, rfl⟩ | ⟨h, rfl⟩ | ⟨h, rfl⟩ | ⟨h, rfl⟩ | ⟨h, rfl⟩ <;> first | exact absurd hc h | (dsimp only; decide)), ← hs0]
   show (if c6 n then n else 0) = n
   rw [if_pos hc]
  ·rw [z2 _ S (GG.2 (.inl (EC.2 (.inr (.inr (.inr (.inr (.inr (.inl ⟨hc, rfl⟩))))))))), Ia (by omega) (by omega)]
 have e4 : ((lW m n ts).foldl BL s0).1.AO = m.AO := by
  by_cases hc : c2 m
  ·rw [a1 (Mv R rfl fun p hp => by rw [EC] at hp; rcases hp with ⟨h, rfl⟩ | ⟨h, rfl⟩ | ⟨h, rfl⟩ | ⟨h, rfl⟩ | ⟨h, rfl⟩ | ⟨h, rfl⟩ | ⟨h, rfl⟩ | ⟨h, rfl⟩ <;> first | exact absurd hc h | (dsimp only; decide)), ← hs0]
   show (if c2 m then m.AO else []) = m.AO
   rw [if_pos hc]
  ·rw [a2 _ S (GG.2 (.inl (EC.2 (.inr (.inl ⟨hc, rfl⟩)))))]
 have e5 : ((lW m n ts).foldl BL s0).1.AN = m.AN := by
  by_cases hc : c8 m
  ·rw [b1 (Mv R rfl fun p hp => by rw [EC] at hp; rcases hp with ⟨h, rfl⟩ | ⟨h, rfl⟩ | ⟨h, rfl⟩ | ⟨h, rfl⟩ | ⟨h, rfl⟩ | ⟨h, rfl⟩ | ⟨h, rfl⟩ | ⟨h, rfl⟩ <;> first | exact absurd hc h | (dsimp only; decide)), ← hs0]
   show (if c8 m then m.AN else []) = m.AN
   rw [if_pos hc]
  ·rw [b2 _ S (GG.2 (.inl (EC.2 (.inr (.inr (.inr (.inr (.inr (.inr (.inr ⟨hc, rfl⟩))))))))))]
 have e6 : ((lW m n ts).foldl BL s0).1.Name = m.Name := by
  by_cases hc : c5 m
  ·rw [n1 (Mv R rfl fun p hp => by rw [EC] at hp; rcases hp with ⟨h, rfl⟩ | ⟨h, rfl⟩ | ⟨h, rfl⟩ | ⟨h, rfl⟩ | ⟨h, rfl⟩ | ⟨h, rfl⟩ | ⟨h, rfl⟩ | ⟨h, rfl⟩ <;> first | exact absurd hc h | (dsimp only; decide)), ← hs0]
   show (if c5 m then m.Name else []) = m.Name
   rw [if_pos hc]
  ·rw [n2 _ S (GG.2 (.inl (EC.2 (.inr (.inr (.inr (.inr (.inl ⟨hc, rfl⟩))))))))]
 have e7 : ((lW m n ts).foldl BL s0).1.AU = m.AU := by
  by_cases hc : c3 m
  ·rw [l1 (Mv R rfl fun p hp => by rw [EC] at hp; rcases hp with ⟨h, rfl⟩ | ⟨h, rfl⟩ | ⟨h, rfl⟩ | ⟨h, rfl⟩ | ⟨h, rfl⟩ | ⟨h, rfl⟩ | ⟨h, rfl⟩ | ⟨h, rfl⟩ <;> first | exact absurd hc h | (dsimp only; decide)), ← hs0]
   show (if c3 m then m.AU else []) = m.AU
   rw [if_pos hc]
  ·rw [l2 _ S (GG.2 (.inl (EC.2 (.inr (.inr (.inl ⟨hc, rfl⟩))))))]
 have e8 : ((lW m n ts).foldl BL s0).1.Time = m.Time := by
  by_cases hc : c4 m
  ·rw [t1 (Mv R rfl fun p hp => by rw [EC] at hp; rcases hp with ⟨h, rfl⟩ | ⟨h, rfl⟩ | ⟨h, rfl⟩ | ⟨h, rfl⟩ | ⟨h, rfl⟩ | ⟨h, rfl⟩ | ⟨h, rfl⟩ | ⟨h, rfl⟩ <;> first | exact absurd hc h | (dsimp only; decide)), ← hs0]
   show (⟨if c4 m then m.Time.B6 else 0, 0⟩ : Ac) = m.Time
   rw [if_pos hc, ← hc.1]
  ·rw [t2 _ S (GG.2 (.inl (EC.2 (.inr (.inr (.inr (.inl ⟨hc, rfl⟩)))))))]
   unfold tP
   rw [hp]
   rfl
 have w1 : s0.1.Kind = kd := by rw [← hs0]; rfl
 have w2 : s0.1.Mode = m.Mode := by rw [← hs0]; rfl
 have w3 : s0.1.Aa = m.Aa := by rw [← hs0]; rfl
 have w4 : s0.1.Ag = m.Ag := by rw [← hs0]; rfl
 have w5 : s0.1.Data = [] := by rw [← hs0]; rfl
 have w6 : s0.1.Extra = [] := by rw [← hs0]; rfl
 rw [w6, List.nil_append] at qe
 generalize (lW m n ts).foldl BL s0 = r at *
 obtain ⟨⟨r1, r2, r3, r4, r5, r6, r7, r8, r9, r10, r11, r12, r13⟩, r14⟩ := r
 dsimp only at *
 subst e1; subst e2; subst e3; subst e4; subst e5; subst e6; subst e7; subst e8; subst qe
 rw [q1, q2, q3, q4, q5, w1, w2, w3, w4, w5]
theorem Qh (x0 : Mem) {R0 : Prop} (k0 : QA x0.Name ∧ QA x0.AU ∧ Og .u8 x0.Kind ∧ R0) (x1 : Int) {Q1 : Prop} (k1 : Q1) : Cs x0 x1 = some true := by
 have hk : 0 ≤ x0.Kind ∧ x0.Kind ≤ 255 := k0.2.2.1
 unfold Cs
 obtain ⟨b, eb, hb⟩ := Vv x0
 rw [eb, Option.bind_some]
 cases b with
 | true => rw [Ah, Qi]; rfl
 | false =>
  have Sh := hb rfl
  have hex := Sh.ex
  have hnm := Sh.nm
  rw [AQ]
  have hck := OP x0 x1 (by omega)
  by_cases he : Ja x0 x1 = 0
  ·have hre : I6 x0 = 0 := by
    unfold Ja at he
    by_cases h : I6 x0 = 0
    ·exact h
    ·rw [if_neg h] at he; exact absurd he h
   have hn : 0 ≤ x1 ∧ x1 < 9007199254740992 := by
    unfold Ja at he
    rw [if_pos hre] at he
    by_cases h : 0 ≤ x1 ∧ x1 < 9007199254740992
    ·exact h
    ·rw [if_neg h] at he; cases he
   have R := UC hre
   obtain ⟨⟨ts, te⟩, et, h0, ht1, ht2, hpar⟩ := XN R.ti
   dsimp only at h0 ht1 ht2 hpar
   subst h0
   obtain ⟨eh, ew⟩ := head_eq he R (by omega) (by omega) hn et
   rw [eh, Option.bind_some]
   dsimp only
   rw [ew, Option.bind_some]
   dsimp only
   rw [show (((0 : Int) != 0) || ((0 : Int) != 0)) = false from rfl, AQ]
   have F := (Tf R (by omega) hn et).2
   have hnl : (hB x0 x1).Name.length ≤ 1000 := by
    show (if c5 x0 then x0.Name else []).length ≤ 1000
    split
    ·omega
    ·simp
   obtain ⟨p, q, Ft⟩ := F.fit (by omega) hk
   rw [WK Ft, Option.bind_some]
   dsimp only
   rw [UH Ft hnl, Option.bind_some]
   dsimp only
   have ekd : (Ad (x0.Kind == 0) (some (48 : Int)) (some x0.Kind) : Option Int) = some (if x0.Kind = 0 then 48 else x0.Kind) := by rw [Li]; split <;> rfl
   rw [ekd, Option.bind_some]
   have hl := YU x0 x1 ts
   have hS := SS R x1 ts
   have hshr : aX ([] ++ lW x0 x1 ts) := by
    refine ⟨by rw [List.nil_append]; omega, fun p hp => ?_⟩
    rw [List.nil_append] at hp
    rcases GG.1 hp with h | h
    ·have h9 := (LW x0 x1 ts).2.2 p h
     rw [EC] at h
     rcases h with ⟨h, rfl⟩ | ⟨h, rfl⟩ | ⟨h, rfl⟩ | ⟨h, rfl⟩ | ⟨h, rfl⟩ | ⟨h, rfl⟩ | ⟨h, rfl⟩ | ⟨h, rfl⟩ <;> (dsimp only; decide)
    ·exact (Sh.kv p h).1
   obtain ⟨r, er, G⟩ := Sm [] (lW x0 x1 ts) hshr
   have hr : r = lW x0 x1 ts := by
    refine Ps G.bt hS fun q => ?_
    rw [G.mem, List.nil_append, Uf hS q]
    exact ⟨fun h => h.2, fun h => ⟨YB R hn ht1 q h, h⟩⟩
   subst hr
   rw [er, Option.bind_some, Vd (by omega) (ZJ R hn hpar), Option.bind_some]
   have hbk := W2 (kd := if x0.Kind = 0 then 48 else x0.Kind) R hn hpar
   rw [show (hB x0 x1).Kind = x0.Kind from rfl]
   rw [hbk]
   dsimp only
   rw [show (((((0 : Int) == 0) && ((0 : Int) == 0)) && ((0 : Int) == 0)) && (x1 == x1)) = true from by simp, Ah, Rt _ (by dsimp only; omega), Option.bind_some, Option.bind_some, Ah, Qi]
   rfl
  ·have e1 : Di x0 x1 = some ((⟨([] : List UInt8), ([] : List UInt8), (0 : Int), (0 : Int), (0 : Int), (0 : Int), (0 : Int), (0 : Int), ([] : List UInt8), ([] : List UInt8), (0 : Int), (0 : Int), (0 : Int)⟩ : AJ), Ja x0 x1) := by
    unfold Di
    rw [hck, Option.bind_some, bne_iff_ne.2 he, Ah]
   have e2 : C0 x0 x1 = some (([] : List AB), Ja x0 x1) := by
    unfold C0
    rw [hck, Option.bind_some, bne_iff_ne.2 he, Ah]
   rw [e1, Option.bind_some]
   dsimp only
   rw [e2, Option.bind_some]
   dsimp only
   rw [bne_iff_ne.2 he, Bool.true_or, Ah, beq_self_eq_true, Ah, Qi]
   rfl
end Go.Av.L
end
/-
 A part.
-/
section
namespace Go.Av
open Go
theorem IS {P : Program} {x : String × DataW Unit} {r : List (String × DataW Unit)} {w : World} (h : laidMet P (x :: r) w) : laidMet P r w := by
 obtain ⟨ps, hv, hnd, hrows⟩ := h
 obtain ⟨n, d⟩ := x
 obtain ⟨g, t, cs, fuel, p, q, _, _, _, _, hq, rfl⟩ := hv
 exact ⟨q, hq, List.Nodup.sublist (List.sublist_append_right _ _) hnd, fun b off hm => hrows b off (List.mem_append_right _ hm)⟩
def P6 (W : World) (g : Nat) (cs : List AA) : Prop :=
 g < W.heap.size ∧ ∃ cur e fz, W.heap[g]? = some (.cells cur e fz) ∧ (cs ≠ [] → cur.size = cs.length) ∧ ∀ (j : Nat) (a : AA), cs[j]? = some a → a.one = true ∧ Av.EG a = true ∧ ∃ c, cur[j]? = some c ∧ VR ⟨fun _ => none, fun _ _ => none, fun _ _ => False⟩ a c
theorem HS {P : Program} {W : World} {name : String} {k : IntKind} {zs : List Int} {g : Nat} (hg : P.globalNamed name = some g) (h : Lib.TabIs P W name k zs) : P6 W g (zs.map fun z => AA.int k z) := by
 unfold Lib.TabIs World.var? at h
 rw [hg] at h
 simp only [Option.bind_some] at h
 split at h
 ·rename_i cs e fz hc
  injection h with h
  have hlt : g < W.heap.size := by
   by_cases hlt : g < W.heap.size
   ·exact hlt
   ·rw [Array.getElem?_eq_none (by omega)] at hc; cases hc
  refine ⟨hlt, cs, e, fz, hc, fun _ => by rw [h]; simp, fun j a ha => ?_⟩
  rw [List.getElem?_map, Option.map_eq_some_iff] at ha
  obtain ⟨z, hz, rfl⟩ := ha
  refine ⟨rfl, rfl, .int k z, ?_, VR.int k z⟩
  rw [h]
  simp [hz]
 ·cases h
theorem Lr {W : World} {g : Nat} {cs : List AA} {l : List (Nat × List AA)} (h : P6 W g cs) (hn : cs = [] → ∃ n : Int, W.cell? ⟨g, 0, none⟩ = some (.int .i64 n)) (hl : BE (Jp l) W) : BE (Jp ((g, cs) :: l)) W := ⟨fun g' cs' e => by
 unfold Jp at e
 rw [G1] at e
 by_cases hx : g = g'
 ·rw [if_pos hx] at e
  have := Option.some.inj e
  subst this; subst hx
  exact h
 ·rw [if_neg hx] at e
  exact hl.1 g' cs' e, fun g' e => by
 unfold Jp at e
 rw [G1] at e
 by_cases hx : g = g'
 ·rw [if_pos hx] at e
  have := Option.some.inj e
  subst hx
  exact hn this
 ·rw [if_neg hx] at e
  exact hl.2 g' e⟩
theorem Je {W : World} {g : Nat} {a : AA} {cs : List AA} {l : List (Nat × List AA)} (h : P6 W g (a :: cs)) (hl : BE (Jp l) W) : BE (Jp ((g, a :: cs) :: l)) W := Lr h (fun h => by cases h) hl
theorem SG {W : World} {g : Nat} {l : List (Nat × List AA)} (h : ∃ n : Int, W.cell? ⟨g, 0, none⟩ = some (.int .i64 n)) (hl : BE (Jp l) W) : BE (Jp ((g, []) :: l)) W := by
 refine Lr ?_ (fun _ => h) hl
 obtain ⟨n, hn⟩ := h
 unfold World.cell? at hn
 split at hn
 ·rename_i cs e fz hc
  have hc' : W.heap[g]? = some (.cells cs e fz) := hc
  refine ⟨?_, cs, e, fz, hc', fun h => absurd rfl h, fun j a ha => by simp at ha⟩
  by_cases hlt : g < W.heap.size
  ·exact hlt
  ·rw [Array.getElem?_eq_none (by omega)] at hc'; cases hc'
 ·cases hn
theorem Sp (W : World) : BE (Jp []) W := ⟨fun g cs e => (by cases e), fun g e => (by cases e)⟩
end Go.Av
end
