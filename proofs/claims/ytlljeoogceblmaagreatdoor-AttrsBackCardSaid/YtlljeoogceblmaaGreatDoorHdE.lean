/-
 A part.
-/
import Derived.Test.YtlljeoogceblmaaGreatDoorBkN
namespace Go.Av.L
open Go.Av Go.Lib
set_option linter.unusedVariables false
set_option linter.unusedSimpArgs false
set_option maxRecDepth 10000
theorem ZT {c : UInt8} {a r : List UInt8} (h : c ∉ a) : Lib.cut (a ++ c :: r) [c] = (a, r, true) := by
 have hi : Lib.index (a ++ c :: r) [c] = (a.length : Int) := by
  refine Lib.index_first (by simp) ?_ fun j hj => ?_
  ·unfold Lib.occAt
   simp [List.isPrefixOf]
  ·unfold Lib.occAt
   rw [List.drop_append_of_le_length (by omega), List.drop_eq_getElem_cons hj]
   have : c ≠ a[j] := fun e => h (by rw [e]; exact List.getElem_mem hj)
   rw [List.cons_append]
   simp [List.isPrefixOf, this]
 unfold Lib.cut
 rw [hi, if_pos (by omega)]
 simp
theorem Q4 {c : UInt8} : ∀ {s : List UInt8}, c ∉ s → Lib.index s [c] = -1
 | [], _ => rfl
 | b :: s, h => by
  have h1 : c ≠ b := fun e => h (by rw [e]; exact .head _)
  have ih := Q4 (s := s) fun e => h (.tail _ e)
  unfold Lib.index
  rw [ih]
  simp [List.isPrefixOf, h1]
theorem aJ {c : UInt8} {s : List UInt8} (h : c ∉ s) : Lib.cut s [c] = (s, [], false) := by
 unfold Lib.cut
 rw [Q4 h, if_neg (by decide)]
theorem Lh {s : List UInt8} {n : Nat} (hs : s.length ≤ n) (hn : n ≤ 1000) (hz : Dr s = false) : Ca (pd s n) = some s := by
 unfold Ca
 rw [Du hs, decide_eq_true (by omega), BO]
 congr 1
 unfold pd
 rw [List.drop_replicate]
 cases hk : n - s.length with
 | zero => rw [List.replicate_zero, List.append_nil, aJ (LK hz)]
 | succ k => rw [List.replicate_succ, ZT (LK hz)]
theorem OE {v k : Nat} {t : List UInt8} (hk : 1 ≤ k) (ht : ∀ c ∈ t, c = 0 ∨ c = 32) (hl : k + t.length ≤ 12) (h0 : 1 ≤ t.length) (hv : v < 8 ^ k) (hm : v ≤ 9007199254740991) : BF (Gz v k ++ t) = some ((v : Int), 0) := by
 have hlen : (Gz v k ++ t).length = k + t.length := by rw [List.length_append, D7]
 have hat : ∀ i, i < k → (Gz v k ++ t)[i]? = some (UInt8.ofNat (48 + v / 8 ^ (k - 1 - i) % 8)) := fun i hi => by
  rw [List.getElem?_append_left (by rw [D7]; exact hi)]; exact NW k v i hi
 have hat2 : ∀ i (hi : i < (Gz v k ++ t).length), k ≤ i → (Gz v k ++ t)[i] = 0 ∨ (Gz v k ++ t)[i] = 32 := fun i hi hki => by
  rw [List.getElem_append_right (by rw [D7]; exact hki)]
  exact ht _ (List.getElem_mem _)
 have e0 : LN (Gz v k ++ t) 0 = some (48 + ((v / 8 ^ (k - 1) % 8 : Nat) : Int)) := by
  rw [show (0 : Int) = ((0 : Nat) : Int) from rfl, Lo (hat 0 hk), d8]; rfl
 unfold BF FV
 rw [hlen, Option.bind_some, decide_eq_true (p := ((k + t.length : Nat) : Int) ≥ 2) (by omega), decide_eq_true (p := ((k + t.length : Nat) : Int) ≤ 12) (by omega), Bool.and_self, Bool.not_true, AQ, e0, Option.bind_some, Option.bind_some,
  show ((48 + ((v / 8 ^ (k - 1) % 8 : Nat) : Int)) == 128) = false from by rw [beq_eq_false_iff_ne]; omega, AQ, show ((48 + ((v / 8 ^ (k - 1) % 8 : Nat) : Int)) == 255) = false from by rw [beq_eq_false_iff_ne]; omega, Option.bind_some, AQ]
 have hd : loop (Df (Gz v k ++ t)) ((0 : Int), (0 : Int), false, (0 : Int)) = some (.inl ((v : Int), false)) := by
  refine W.eq (W.list (l := Gz v k ++ t) (fun (s : Int × Int) (i : Nat) => (s.1, s.2, false, (i : Int))) (fun s i => (i ≤ k → (s.1 = 0 ∨ s.1 = 1) ∧ (1 ≤ i → s.1 = 1) ∧ s.2 = ((v / 8 ^ (k - i) : Nat) : Int)) ∧ (k < i → s.1 = 2 ∧ s.2 = (v : Int))) ?_ ?_ ((0 : Int), (0 : Int)) ⟨fun _ => ⟨.inl rfl, fun h => by omega, ?_⟩, fun h => by omega⟩)
  ·intro s hs
   unfold Df
   dsimp only
   rw [EH, if_neg (by omega)]
   refine W.ret ?_
   rw [(hs.2 (by rw [hlen]; omega)).2]
  ·intro s i hi hs
   obtain ⟨h1, h2⟩ := hs
   have hi' := hi
   rw [hlen] at hi'
   unfold Df
   dsimp only
   rw [EH, if_pos (by omega)]
   by_cases hik : i < k
   ·obtain ⟨g1, g2, g3⟩ := h1 (by omega)
    rw [Lo (hat i hik), d8, Option.bind_some]
    generalize hw : v / 8 ^ (k - 1 - i) = w at *
    have hwv : v / 8 ^ (k - i) = w / 8 := by
     rw [← hw, Nat.div_div_eq_div_mul, show k - i = (k - 1 - i) + 1 by omega, Nat.pow_succ]
    have hwle : w ≤ 9007199254740991 := by rw [← hw]; exact Nat.le_trans (Nat.div_le_self _ _) hm
    rw [hwv] at g3
    have hne : (s.1 != 2) = true := by rw [bne_iff_ne]; rcases g1 with e | e <;> rw [e] <;> omega
    rw [hne, show (decide (48 + ((w % 8 : Nat) : Int) ≥ 48) && decide (48 + ((w % 8 : Nat) : Int) ≤ 55)) = true from by rw [Bool.and_eq_true, decide_eq_true_eq, decide_eq_true_eq]; omega, Bool.and_self, Ah]
    have e1 : IntKind.i64.wrap (IntKind.u8.wrap (48 + ((w % 8 : Nat) : Int) - 48)) = ((w % 8 : Nat) : Int) := by rw [aS (by omega) (by omega), JK (by omega) (by omega)]; omega
    rw [e1, g3, Yh (by omega) (by omega), Z3 (by omega) (by omega) (by omega), show ((w / 8 : Nat) : Int) * 8 + ((w % 8 : Nat) : Int) = (w : Int) by omega, EH, if_neg (by omega), Option.bind_some, HM (by omega)]
    refine W.ret ⟨((1 : Int), (w : Int)), rfl, fun _ => ⟨.inr rfl, fun _ => rfl, ?_⟩, fun h => by omega⟩
    rw [show k - (i + 1) = k - 1 - i by omega, hw]
   ·have hki : k ≤ i := by omega
    have hc := hat2 i hi hki
    have hs2 : s.2 = (v : Int) ∧ (s.1 = 1 ∨ s.1 = 2) := by
     by_cases e : i = k
     ·obtain ⟨_, g2, g3⟩ := h1 (by omega)
      rw [e, Nat.sub_self, Nat.pow_zero, Nat.div_one] at g3
      exact ⟨g3, .inl (g2 (by omega))⟩
     ·obtain ⟨g1, g2⟩ := h2 (by omega)
      exact ⟨g2, .inr g1⟩
    rw [KI hi, Option.bind_some]
    have hcn : (((Gz v k ++ t)[i].toNat : Nat) : Int) = 0 ∨ (((Gz v k ++ t)[i].toNat : Nat) : Int) = 32 := by
     rcases hc with e | e
     ·left; rw [e]; rfl
     ·right; rw [e]; rfl
    generalize (((Gz v k ++ t)[i].toNat : Nat) : Int) = b at hcn
    have hb1 : (decide (b ≥ 48) && decide (b ≤ 55)) = false := by rw [Bool.and_eq_false_iff, decide_eq_false_iff_not]; left; omega
    have hb2 : (s.1 == 0) = false := by rw [beq_eq_false_iff_ne]; rcases hs2.2 with e | e <;> rw [e] <;> omega
    have hb3 : ((b == 32) || (b == 0)) = true := by rcases hcn with e | e <;> rw [e] <;> rfl
    rw [hb1, Bool.false_and, AQ, hb2, Bool.and_false, AQ, hb3, Ah, Option.bind_some, HM (by omega)]
    exact W.ret ⟨((2 : Int), s.2), rfl, fun h => by omega, fun _ => ⟨rfl, hs2.1⟩⟩
  ·show (0 : Int) = ((v / 8 ^ (k - 0) : Nat) : Int)
   rw [Nat.sub_zero, Nat.div_eq_of_lt hv]; rfl
 unfold Fj
 rw [hd, Option.bind_some]
 rfl
theorem Qt {n : Int} (h : Ii (1, n) = true) : BF (BZ n.toNat 8) = some (n, 0) := by
 unfold Ii at h
 have h := of_decide_eq_true h
 dsimp only at h
 rw [if_neg (show ¬ ((1 : Int) = 4 ∨ (1 : Int) = 5) by decide)] at h
 unfold BZ
 have := OE (v := n.toNat) (k := 7) (t := [0]) (by omega) (by simp) (by simp) (by simp) (by rw [show 8 ^ 7 = 2097152 from rfl]; omega) (by omega)
 rw [this, Int.toNat_of_nonneg h.1]
theorem V6 {n : Int} (h : Ii (4, n) = true) : BF (BZ n.toNat 12) = some (n, 0) := by
 unfold Ii at h
 have h := of_decide_eq_true h
 dsimp only at h
 rw [if_pos (show (4 : Int) = 4 ∨ (4 : Int) = 5 by decide)] at h
 unfold BZ
 have := OE (v := n.toNat) (k := 11) (t := [0]) (by omega) (by simp) (by simp) (by simp) (by rw [show 8 ^ 11 = 8589934592 from rfl]; omega) (by omega)
 rw [this, Int.toNat_of_nonneg h.1]
theorem ak {L : List (List UInt8)} (hL : Shape L) : Al L.flatten 0 = some (L.getD 0 []) := ER hL (i := 0) (by omega)
theorem bR {L : List (List UInt8)} (hL : Shape L) : Al L.flatten 1 = some (L.getD 1 []) := ER hL (i := 1) (by omega)
theorem aT {L : List (List UInt8)} (hL : Shape L) : Al L.flatten 2 = some (L.getD 2 []) := ER hL (i := 2) (by omega)
theorem bF {L : List (List UInt8)} (hL : Shape L) : Al L.flatten 3 = some (L.getD 3 []) := ER hL (i := 3) (by omega)
theorem bL {L : List (List UInt8)} (hL : Shape L) : Al L.flatten 4 = some (L.getD 4 []) := ER hL (i := 4) (by omega)
theorem bE {L : List (List UInt8)} (hL : Shape L) : Al L.flatten 5 = some (L.getD 5 []) := ER hL (i := 5) (by omega)
theorem bC {L : List (List UInt8)} (hL : Shape L) : Al L.flatten 6 = some (L.getD 8 []) := ER hL (i := 8) (by omega)
theorem ay {L : List (List UInt8)} (hL : Shape L) : Al L.flatten 7 = some (L.getD 10 []) := ER hL (i := 10) (by omega)
theorem aW {L : List (List UInt8)} (hL : Shape L) : Al L.flatten 8 = some (L.getD 11 []) := ER hL (i := 11) (by omega)
theorem a8 {L : List (List UInt8)} (hL : Shape L) : Al L.flatten 9 = some (L.getD 12 []) := ER hL (i := 12) (by omega)
theorem Z9 {L : List (List UInt8)} (hL : Shape L) : Al L.flatten 10 = some (L.getD 13 []) := ER hL (i := 13) (by omega)
theorem ZI {L : List (List UInt8)} (hL : Shape L) : Al L.flatten 11 = some (L.getD 14 []) := ER hL (i := 14) (by omega)
theorem Fit.right {h : AJ} {p q : List UInt8} (F : Fit h p q) : Fl (EP h p q).flatten = some true := by
 have hf := F.shape.flat
 have hs := F.sum
 unfold Fl
 rw [hf, show (((512 : Nat) : Int) != 512) = false from rfl, AQ]
 have h6 : (EP h p q).getD 6 [] = Gz (MB h p q) 6 ++ [0, 32] := by
  show BZ (MB h p q) 7 ++ [32] = _
  unfold BZ
  rw [List.append_assoc]; rfl
 have hb : ∃ c r, Gz (MB h p q) 6 ++ [0, 32] = c :: r ∧ c.toNat < 128 := by
  have e := NW 6 (MB h p q) 0 (by omega)
  cases hd : Gz (MB h p q) 6 with
  | nil => rw [hd] at e; cases e
  | cons c r =>
   rw [hd] at e
   refine ⟨c, r ++ [0, 32], rfl, ?_⟩
   have e2 : c = UInt8.ofNat (48 + MB h p q / 8 ^ (6 - 1 - 0) % 8) := Option.some.inj e
   rw [e2, UInt8.toNat_ofNat_of_lt' (by show 48 + _ % 8 < 256; omega)]
   omega
 obtain ⟨c, r, hcr, hc⟩ := hb
 rw [show (148 : Int) = ((K6 6 : Nat) : Int) from rfl, Lo (byte_at F.shape (i := 6) (by omega) (h6.trans hcr)), Option.bind_some, Option.bind_some, decide_eq_false (by omega), AQ]
 have hsub : FF (EP h p q).flatten (some ((K6 6 : Nat) : Int)) (some (156 : Int)) = some (Gz (MB h p q) 6 ++ [0, 32]) := by
  have := ER F.shape (i := 6) (by omega)
  rw [h6] at this
  rw [show IntKind.i64.wrap (((K6 6 : Nat) : Int) + ((Da.getD 6 0 : Nat) : Int)) = (156 : Int) from by kernel_rfl] at this
  rw [← this]
  cases FF (EP h p q).flatten (some ((K6 6 : Nat) : Int)) (some (156 : Int)) <;> rfl
 rw [hsub, Option.bind_some, OE (by omega) (by simp) (by simp) (by simp) (by rw [show 8 ^ 6 = 262144 from rfl]; exact hs) (by omega), Option.bind_some]
 dsimp only
 rw [show ((0 : Int) != 0) = false from rfl, AQ]
 obtain ⟨⟨r0, r1⟩, er, hr⟩ := TK (A := AH h q) (m := BZ (MB h p q) 7 ++ [32]) (Z := ZH h p) F.lens.1 (by rw [List.length_append, Cb (by omega)]; rfl) F.lens.2
 rw [← Kp h p q] at er
 dsimp only at hr
 subst hr
 rw [show Eg (EP h p q).flatten = _ from er, Option.bind_some]
 have hl : loop (E9 (MB h p q : Int) ⟨(Ib (AH h q) (ZH h p) : Int), r1⟩) (0 : Int) = some (.inr true) := by
  refine E5 ?_
  unfold E9
  dsimp only
  rw [show decide ((0 : Int) < 2) = true from rfl, Ah, show IG ([((Ib (AH h q) (ZH h p) : Nat) : Int), r1] : List Int) (0 : Int) = some ((Ib (AH h q) (ZH h p) : Nat) : Int) from rfl, Option.bind_some, show (((MB h p q : Nat) : Int) == ((Ib (AH h q) (ZH h p) : Nat) : Int)) = true from by unfold MB; simp, Ah]
 rw [hl, Option.bind_some]
theorem UK {s p q : List UInt8} (h : Hl s (p, q, true)) (hs : s.length ≤ 1000) : FT p q = some s := by
 unfold FT
 rcases h with ⟨h1, e⟩ | ⟨h1, ⟨e, _⟩ | ⟨i, c, _, e⟩⟩
 ·cases e; rfl
 ·cases e
 ·obtain ⟨c1, c2, c3, c4, c5⟩ := c
  cases e
  have hne : (s.take i == ([] : List UInt8)) = false := by
   rw [beq_eq_false_iff_ne]
   intro e
   have h9 := congrArg List.length e
   rw [List.length_take, List.length_nil] at h9
   omega
  rw [hne, AQ, decide_eq_true (by rw [List.length_take]; simp; omega), BO, decide_eq_true (by rw [List.length_append, List.length_take, List.length_drop]; simp; omega), BO]
  congr 1
  rw [List.append_assoc]
  have hi : i < s.length := by omega
  have e : s[i] = 47 := by
   rw [List.getElem?_eq_getElem hi] at c3
   exact Option.some.inj c3
  conv => rhs; rw [← List.take_append_drop i s, List.drop_eq_getElem_cons hi, e]
  rfl
theorem UH {h : AJ} {p q : List UInt8} (F : Fit h p q) (hn : h.Name.length ≤ 1000) :
  Eb (EP h p q).flatten = some (⟨h.Name, h.AU, if h.Kind = 0 then 48 else h.Kind, h.Mode, h.BP, h.BQ, h.BU, h.Time, h.AN, h.AO, h.Aa, h.Ag, 2⟩, 0) := by
 have S := F.shape
 obtain ⟨l1, l2⟩ := F.pq.len
 have hnul := F.bX
 unfold R1 at hnul
 simp only [Bool.or_eq_false_iff] at hnul
 obtain ⟨z1, z2, z3, z4⟩ := hnul
 obtain ⟨zp, zq⟩ := U4 F.pq z1
 have hnum := F.n
 unfold Qa at hnum
 simp only [List.all_cons, List.all_nil, Bool.and_true, Bool.and_eq_true] at hnum
 obtain ⟨n1, n2, n3, n4, n5, n6, n7⟩ := hnum
 unfold Eb
 rw [S.flat, show (((512 : Nat) : Int) != 512) = false from rfl, AQ, F.right, Option.bind_some, Bool.not_true, AQ]
 have hsub : FF (EP h p q).flatten (some (257 : Int)) (some (265 : Int)) = some Ml := by
  have := ER S (i := 9) (by omega)
  rw [show (EP h p q).getD 9 [] = Ml from rfl, show IntKind.i64.wrap (((K6 9 : Nat) : Int) + ((Da.getD 9 0 : Nat) : Int)) = (265 : Int) from by kernel_rfl, show ((K6 9 : Nat) : Int) = 257 from rfl] at this
  rw [← this]
  cases FF (EP h p q).flatten (some (257 : Int)) (some (265 : Int)) <;> rfl
 rw [hsub, Option.bind_some, show GL Ml = some 2 from rfl, Option.bind_some, show ((2 : Int) == 0) = false from rfl, AQ, show ((2 : Int) != 1) = true from rfl, Ah]
 rw [ay S, Option.bind_some, show (EP h p q).getD 10 [] = pd h.AN 32 from rfl, Lh F.t.2.1 (by omega) z3, Option.bind_some, aW S, Option.bind_some, show (EP h p q).getD 11 [] = pd h.AO 32 from rfl, Lh F.t.2.2 (by omega) z4, Option.bind_some]
 unfold C9
 have ne : ((0 : Int) != 0) = false := rfl
 have neg : ∀ {n : Int}, 0 ≤ n → (decide (n < 0) || false) = false := fun {n} h => by rw [Bool.or_false, decide_eq_false_iff_not]; omega
 have pos : ∀ {k n : Int}, Ii (k, n) = true → 0 ≤ n := fun h => (of_decide_eq_true h).1
 rw [bR S, Option.bind_some, show (EP h p q).getD 1 [] = BZ h.Mode.toNat 8 from rfl, Qt n1, Option.bind_some]
 dsimp only
 rw [ne, AQ, neg (pos n1), AQ, aT S, Option.bind_some, show (EP h p q).getD 2 [] = BZ h.BP.toNat 8 from rfl, Qt n2, Option.bind_some]
 dsimp only
 rw [ne, AQ, neg (pos n2), AQ, bF S, Option.bind_some, show (EP h p q).getD 3 [] = BZ h.BQ.toNat 8 from rfl, Qt n3, Option.bind_some]
 dsimp only
 rw [ne, AQ, neg (pos n3), AQ, bL S, Option.bind_some, show (EP h p q).getD 4 [] = BZ h.BU.toNat 12 from rfl, V6 n4, Option.bind_some]
 dsimp only
 rw [ne, AQ, neg (pos n4), AQ, bE S, Option.bind_some, show (EP h p q).getD 5 [] = BZ h.Time.toNat 12 from rfl, V6 n5, Option.bind_some]
 dsimp only
 rw [ne, AQ, Bool.and_false, AQ, a8 S, Option.bind_some, show (EP h p q).getD 12 [] = BZ h.Aa.toNat 8 from rfl, Qt n6, Option.bind_some]
 dsimp only
 rw [ne, AQ, neg (pos n6), AQ, Z9 S, Option.bind_some, show (EP h p q).getD 13 [] = BZ h.Ag.toNat 8 from rfl, Qt n7, Option.bind_some]
 dsimp only
 rw [ne, AQ, neg (pos n7), AQ, Option.bind_some]
 dsimp only
 rw [ne, AQ, ak S, Option.bind_some, show (EP h p q).getD 0 [] = pd q 100 from rfl, Lh l2 (by omega) zq, Option.bind_some, bC S, Option.bind_some, show (EP h p q).getD 8 [] = pd h.AU 100 from rfl, Lh F.t.1 (by omega) z2, Option.bind_some]
 rw [show ((2 : Int) == 2) = true from rfl, Ah, ZI S, Option.bind_some, show (EP h p q).getD 14 [] = pd p 155 from rfl, Lh l1 (by omega) zp, Option.bind_some, UK F.pq hn, Option.bind_some, Option.bind_some]
 obtain ⟨kn, hkn⟩ := Int.eq_ofNat_of_zero_le F.k.1
 have hk2 := F.k.2
 have hkb : ((JG h.Kind).toNat : Int) = if h.Kind = 0 then 48 else h.Kind := by
  unfold JG
  by_cases h0 : h.Kind = 0
  ·rw [if_pos h0, if_pos h0]; rfl
  ·rw [if_neg h0, if_neg h0, hkn, Int.toNat_natCast, UInt8.toNat_ofNat_of_lt' (by show kn < 256; omega)]
 rw [show (156 : Int) = ((K6 7 : Nat) : Int) from rfl, Lo (byte_at S (i := 7) (by omega) (b := JG h.Kind) (r := []) rfl), Option.bind_some, hkb, Li]
 have hk0 : ¬ (if h.Kind = 0 then (48 : Int) else h.Kind) = 0 := by split <;> omega
 rw [if_neg hk0, Option.bind_some]
end Go.Av.L
