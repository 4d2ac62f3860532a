/-
 A part.
-/
import Derived.Test.YtlljeoogceblmaaGreatDoorWhB
namespace Go.Av.L
open Go.Av Go.Lib
set_option linter.unusedVariables false
set_option linter.unusedSimpArgs false
set_option maxRecDepth 10000
theorem XB {k : Nat} (h : k < 10) : D7 ([48, 49, 50, 51, 52, 53, 54, 55, 56, 57] : List UInt8) (some ((k : Nat) : Int)) (some (((k + 1 : Nat)) : Int)) = some [UInt8.ofNat (48 + k)] := by
 have : k = 0 ∨ k = 1 ∨ k = 2 ∨ k = 3 ∨ k = 4 ∨ k = 5 ∨ k = 6 ∨ k = 7 ∨ k = 8 ∨ k = 9 := by omega
 rcases this with rfl | rfl | rfl | rfl | rfl | rfl | rfl | rfl | rfl | rfl <;> rfl
theorem WC (v : Nat) : Int.tdiv (v : Int) 10 = ((v / 10 : Nat) : Int) := by rw [Int.tdiv_eq_ediv_of_nonneg (by omega)]; omega
theorem Yn (v : Nat) : Int.tmod (v : Int) 10 = ((v % 10 : Nat) : Int) := by rw [Int.tmod_eq_emod_of_nonneg (by omega)]; omega
theorem Q3 : ∀ (n F u : Nat), u < 10 ^ (n + 1) → n < F → n ≤ 30 → u ≤ 900719925474099100 → (Cg F).Ap (u : Int) = some (decDigits u)
 | n, 0, u, _, h, _, _ => by omega
 | n, F + 1, u, hu, hF, h30, hb => by
  show C9 (Cg F) (u : Int) = _
  unfold C9
  rw [decDigits]
  by_cases h : u < 10
  ·rw [decide_eq_true (by omega), AU, Fe (by omega), XB h, Option.bind_some, dif_pos h]
  ·rw [decide_eq_false (by omega), AM, WC, Yn, Fk (by omega) (by omega), dif_neg h]
   cases n with
   | zero => rw [Nat.zero_add, Nat.pow_one] at hu; omega
   | succ n =>
    rw [Q3 n F (u / 10) (by rw [Nat.pow_succ] at hu; omega) (by omega) (by omega) (by omega), Option.bind_some, Fe (by omega), XB (by omega), Option.bind_some]
    have := Gu (n + 1) (u / 10) (by omega) (by rw [Nat.pow_succ] at hu; omega)
    rw [decide_eq_true (by simp; omega), Af]
theorem Nq {n : Int} (h : 0 ≤ n) (h2 : n ≤ 900719925474099100) : Ap n = some (decDigits n.toNat) := by
 have := Q3 17 Ve n.toNat (by rw [show 10 ^ (17 + 1) = 1000000000000000000 from rfl]; omega) (by rw [XK]; omega) (by omega) (by omega)
 rw [Int.toNat_of_nonneg h] at this
 exact this
theorem PV (u : Nat) (h2 : u ≤ 900719925474099100) : Ap (u : Int) = some (decDigits u) := by
 have := Nq (n := (u : Int)) (by omega) (by omega)
 rwa [Int.toNat_natCast] at this
def YW (s : List UInt8) : Prop := s.getLast? ≠ some 48
theorem Wj {a b : List UInt8} {j k : Nat} (ha : YW a) (hb : YW b) (h : a ++ List.replicate j 48 = b ++ List.replicate k 48) : a = b := by
 have hl := congrArg List.length h
 simp only [List.length_append, List.length_replicate] at hl
 have key : ∀ {a b : List UInt8} {j k : Nat}, YW b → a ++ List.replicate j 48 = b ++ List.replicate k 48 → a.length < b.length → False := fun {a b j k} hb h hlt => by
  have h1 : (b ++ List.replicate k (48 : UInt8))[b.length - 1]? = b.getLast? := by
   rw [List.getElem?_append_left (by omega), List.getLast?_eq_getElem?]
  have hl := congrArg List.length h
  simp only [List.length_append, List.length_replicate] at hl
  rw [← h, List.getElem?_append_right (by omega), List.getElem?_replicate, if_pos (by omega)] at h1
  exact hb h1.symm
 rcases Nat.lt_trichotomy a.length b.length with h1 | h1 | h1
 ·exact (key hb h h1).elim
 ·exact (List.append_inj h h1).1
 ·exact (key ha h.symm h1).elim
theorem WA (s : List UInt8) (hs : s.length ≤ 1000) : W (Ce s) fun r => (∃ k, s = r ++ List.replicate k 48) ∧ YW r := by
 unfold Ce
 refine W.ite (fun h => W.ret ⟨⟨0, by simp⟩, ?_⟩) fun _ => ?_
 ·rw [show (([48] : List UInt8) == ([] : List UInt8)) = false from rfl, Bool.or_false] at h
  rw [eq_of_beq h]
  intro e
  cases e
 unfold DX
 refine W.bind (W.bind (W.loop (fun x : List UInt8 => ∃ k, s = x ++ List.replicate k 48) (fun x => x.length) ⟨0, by simp⟩ fun x hx => ?_))
 obtain ⟨k, hk⟩ := hx
 have hxl : x.length ≤ 1000 := by have := congrArg List.length hk; rw [List.length_append] at this; omega
 unfold D3
 dsimp only
 rw [Ec]
 by_cases h0 : (x.length : Int) > 0
 ·rw [if_pos h0, Fk (by omega) (by omega), show (x.length : Int) - 1 = ((x.length - 1 : Nat) : Int) by omega, JW (by omega), Option.bind_some, Option.bind_some, show (48 : Int) = ((48 : Nat) : Int) from rfl, L0 (by omega)]
  by_cases hb : x[x.length - 1]'(by omega) = 48
  ·rw [show (x[x.length - 1]'(by omega) == UInt8.ofNat 48) = true from by rw [hb]; rfl, AU, Gq (by omega), Option.bind_some]
   refine W.ret ⟨⟨k + 1, ?_⟩, by rw [List.length_take]; omega⟩
   have e1 : x = x.take (x.length - 1) ++ [48] := by
    conv => lhs; rw [← List.take_append_drop (x.length - 1) x, List.drop_eq_getElem_cons (show x.length - 1 < x.length by omega), hb]
    rw [List.drop_eq_nil_of_le (by omega)]
   rw [hk]
   conv => lhs; rw [e1]
   rw [List.append_assoc, List.replicate_succ]; rfl
  ·rw [show (x[x.length - 1]'(by omega) == UInt8.ofNat 48) = false from beq_eq_false_iff_ne.2 hb, AM]
   exact W.ret (W.ret (W.ret ⟨⟨k, hk⟩, fun e => by rw [List.getLast?_eq_getElem?, List.getElem?_eq_getElem (by omega)] at e; exact hb (Option.some.inj e)⟩))
 ·rw [if_neg h0, Option.bind_some, AM]
  exact W.ret (W.ret (W.ret ⟨⟨k, hk⟩, fun e => by rw [List.eq_nil_of_length_eq_zero (show x.length = 0 by omega)] at e; cases e⟩))
theorem P9 : ∀ {s : List UInt8}, s.all Tx = true → Fo s = 0 → s = List.replicate s.length 48
 | [], _, _ => rfl
 | c :: s, h, h0 => by
  rw [List.all_cons, Bool.and_eq_true] at h
  rw [Mt] at h0
  have hp : 0 < 10 ^ s.length := Nat.pow_pos (by decide)
  have h1 : c.toNat - 48 = 0 := by
   rcases Nat.eq_zero_or_pos (c.toNat - 48) with e | e
   ·exact e
   ·have := Nat.mul_pos e hp; omega
  obtain ⟨b1, b2⟩ := Wy h.1
  have hc : c = 48 := UInt8.toNat_inj.1 (show c.toNat = (48 : UInt8).toNat by show c.toNat = 48; omega)
  have ih := P9 h.2 (by omega)
  rw [List.length_cons, List.replicate_succ, ← ih, hc]
theorem Z0 (a b : Nat) : Int.tdiv (a : Int) (b : Int) = ((a / b : Nat) : Int) := by rw [Int.tdiv_eq_ediv_of_nonneg (by omega), Int.natCast_ediv]
theorem Rz (a b : Nat) : Int.tmod (a : Int) (b : Int) = ((a % b : Nat) : Int) := by rw [Int.tmod_eq_emod_of_nonneg (by omega), Int.natCast_emod]
theorem QF {k : Nat} (h : k < 10) : decDigits k = [UInt8.ofNat (48 + k)] := by rw [decDigits, dif_pos h]
theorem ZX {pre N : List UInt8} (hN : N.length = 9) (hd : N.all Tx = true) (h0 : 0 < Fo N) (hp : pre.length ≤ 100) : ∃ R k, loop Bi ((Fo N : Int), pre, (100000000 : Int)) = some (pre ++ R) ∧ N = R ++ List.replicate k 48 ∧ YW R := by
 have key : ∀ (k i : Nat), i + k = 9 → (YW (N.take i) ∨ 0 < Fo (N.drop i)) → ∃ R j, loop Bi ((Fo (N.drop i) : Int), pre ++ N.take i, ((10 ^ (8 - i) / (if i = 9 then 10 else 1) : Nat) : Int)) = some (pre ++ R) ∧ N = R ++ List.replicate j 48 ∧ YW R := by
  intro k
  induction k with
  | zero =>
   intro i hi hz
   obtain rfl : i = 9 := by omega
   have e : N.drop 9 = [] := List.drop_eq_nil_of_le (by omega)
   rw [e] at hz ⊢
   refine ⟨N.take 9, 0, Cu ?_, ?_, ?_⟩
   ·unfold Bi
    dsimp only
    rw [decide_eq_false (by simp [Fo]), AM]
   ·rw [List.replicate_zero, List.append_nil, List.take_of_length_le (by omega)]
   ·rcases hz with h | h
    ·exact h
    ·simp [Fo] at h
  | succ k ih =>
   intro i hi hz
   have hi9 : i < N.length := by omega
   rw [if_neg (show i ≠ 9 by omega), Nat.div_one]
   have hdd : (N.drop i).all Tx = true := by
    rw [List.all_eq_true] at hd ⊢
    exact fun x hx => hd x (List.mem_of_mem_drop hx)
   by_cases hpos : 0 < Fo (N.drop i)
   ·have e1 : N.drop i = N[i] :: N.drop (i + 1) := List.drop_eq_getElem_cons hi9
    have hdi : Tx N[i] = true := by
     rw [e1, List.all_cons, Bool.and_eq_true] at hdd; exact hdd.1
    obtain ⟨b1, b2⟩ := Wy hdi
    have hdr : (N.drop (i + 1)).all Tx = true := by
     rw [e1, List.all_cons, Bool.and_eq_true] at hdd; exact hdd.2
    have hlt : Fo (N.drop (i + 1)) < 10 ^ (8 - i) := QO hdr (by rw [List.length_drop]; omega)
    have hv : Fo (N.drop i) = (N[i].toNat - 48) * 10 ^ (8 - i) + Fo (N.drop (i + 1)) := by
     rw [e1, Mt, List.length_drop, show N.length - (i + 1) = 8 - i by omega]
    have hq : Fo (N.drop i) / 10 ^ (8 - i) = N[i].toNat - 48 := by
     rw [hv, Nat.add_comm, Nat.add_mul_div_right _ _ (Nat.pow_pos (by decide)), Nat.div_eq_of_lt hlt, Nat.zero_add]
    have hr : Fo (N.drop i) % 10 ^ (8 - i) = Fo (N.drop (i + 1)) := by
     rw [hv, Nat.add_comm, Nat.add_mul_mod_self_right, Nat.mod_eq_of_lt hlt]
    have htk : N.take (i + 1) = N.take i ++ [N[i]] := I4 (List.getElem?_eq_getElem hi9)
    have hz' : YW (N.take (i + 1)) ∨ 0 < Fo (N.drop (i + 1)) := by
     rcases Nat.eq_zero_or_pos (Fo (N.drop (i + 1))) with e | e
     ·left
      intro h48
      rw [htk, List.getLast?_concat] at h48
      replace h48 := Option.some.inj h48
      rw [e, h48] at hv
      simp at hv
      omega
     ·exact .inr e
    obtain ⟨R, j, hl, hR⟩ := ih (i + 1) (by omega) hz'
    refine ⟨R, j, (CR ?_).trans hl, hR⟩
    have hpow : 10 ^ (8 - i) ≤ 100000000 := by
     have := Nat.pow_le_pow_right (show 0 < 10 by decide) (show 8 - i ≤ 8 by omega)
     rwa [show 10 ^ 8 = 100000000 from rfl] at this
    have hpp : 0 < 10 ^ (8 - i) := Nat.pow_pos (by decide)
    have hnext : 10 ^ (8 - i) / 10 = 10 ^ (8 - (i + 1)) / (if i + 1 = 9 then 10 else 1) := by
     by_cases h8 : i = 8
     ·subst h8; rfl
     ·rw [if_neg (by omega), Nat.div_one, show 8 - i = (8 - (i + 1)) + 1 by omega, Nat.pow_succ, Nat.mul_div_cancel _ (by decide)]
    rw [← hnext, ← hr, htk]
    have hdig : N[i].toNat - 48 < 10 := by omega
    have hbyte : UInt8.ofNat (48 + (N[i].toNat - 48)) = N[i] := by rw [show 48 + (N[i].toNat - 48) = N[i].toNat by omega, UInt8.ofNat_toNat]
    generalize 10 ^ (8 - i) = P at *
    generalize hD : Fo (N.drop i) = D at *
    unfold Bi
    dsimp only
    rw [decide_eq_true (by omega), AU, show ((P : Int) != 0) = true from by rw [bne_iff_ne]; omega, Af, Z0, WC, Rz, hq, Fk (x := ((N[i].toNat - 48 : Nat) : Int)) (by omega) (by omega), PV _ (by omega), QF hdig, hbyte, Option.bind_some, Af, Fk (x := ((P / 10 : Nat) : Int)) (by omega) (by omega), decide_eq_true (by simp only [List.length_append, List.length_take, List.length_cons, List.length_nil]; omega), Af, List.append_assoc]
   ·have e0 : Fo (N.drop i) = 0 := by omega
    refine ⟨N.take i, N.length - i, Cu ?_, ?_, ?_⟩
    ·unfold Bi
     dsimp only
     rw [decide_eq_false (by omega), AM]
    ·have := P9 hdd e0
     rw [List.length_drop] at this
     rw [← this, List.take_append_drop]
    ·rcases hz with h | h
     ·exact h
     ·exact absurd h hpos
 have := key 9 0 (by omega) (.inr (by rw [List.drop_zero]; exact h0))
 rw [List.drop_zero, List.take_zero, List.append_nil] at this
 exact this
theorem Vo {t : BZ} (h : Ol t) : ∃ ts, EJ t = some (ts, 0) ∧ CI t.Cn t.BV = some ts ∧ 1 ≤ ts.length ∧ ts.length ≤ 60 := by
 have hr := Xh h
 obtain ⟨h1, h2, h3, h4⟩ := h
 obtain ⟨sec, ns, sg, hsec, hns, hm1, hm2, hsg⟩ : ∃ (sec ns : Nat) (sg : List UInt8), sec ≤ 9007199254740991 ∧ ns < 1000000000 ∧
   (Aa (decide (t.Cn < 0)) ((GH t).bind fun x5 => some (x5.Cn, x5.BV, ([45] : List UInt8))) (some (t.Cn, t.BV, ([] : List UInt8))) : Option ((Int × Int × (List UInt8)))) = some ((sec : Int), (ns : Int), sg) ∧
   (Aa (decide (t.Cn < 0)) (Aa (t.BV == 0) (some (IntKind.i64.wrap (0 - t.Cn), t.BV, ([45] : List UInt8))) (some (IntKind.i64.wrap ((IntKind.i64.wrap (0 - t.Cn)) - 1), IntKind.i64.wrap ((1000000000 : Int) - t.BV), ([45] : List UInt8)))) (some (t.Cn, t.BV, ([] : List UInt8))) : Option ((Int × Int × (List UInt8)))) = some ((sec : Int), (ns : Int), sg) ∧ sg.length ≤ 1 := by
  by_cases hs : t.Cn < 0
  ·rw [decide_eq_true hs, AU, AU]
   unfold GH
   by_cases hn : t.BV = 0
   ·refine ⟨(-t.Cn).toNat, 0, [45], by omega, by omega, ?_, ?_, by simp⟩
    ·rw [show (t.BV == 0) = true from by rw [hn]; rfl, AU, Option.bind_some, Fk (by omega) (by omega)]
     rw [show (0 : Int) - t.Cn = (((-t.Cn).toNat : Nat) : Int) by omega]
     rfl
    ·rw [show (t.BV == 0) = true from by rw [hn]; rfl, AU, Fk (by omega) (by omega), hn]
     rw [show (0 : Int) - t.Cn = (((-t.Cn).toNat : Nat) : Int) by omega]
     rfl
   ·have e1 : (0 : Int) - t.Cn - 1 = (((-t.Cn - 1).toNat : Nat) : Int) := by omega
    have e2 : (1000000000 : Int) - t.BV = (((1000000000 - t.BV).toNat : Nat) : Int) := by omega
    refine ⟨(-t.Cn - 1).toNat, (1000000000 - t.BV).toNat, [45], by omega, by omega, ?_, ?_, by simp⟩
    ·rw [show (t.BV == 0) = false from beq_eq_false_iff_ne.2 hn, AM, Option.bind_some, Fk (x := 0 - t.Cn) (by omega) (by omega), Fk (by omega) (by omega), Fk (by omega) (by omega), ← e1, ← e2]
    ·rw [show (t.BV == 0) = false from beq_eq_false_iff_ne.2 hn, AM, Fk (x := 0 - t.Cn) (by omega) (by omega), Fk (by omega) (by omega), Fk (by omega) (by omega), ← e1, ← e2]
  ·refine ⟨t.Cn.toNat, t.BV.toNat, [], by omega, by omega, ?_, ?_, by simp⟩
   ·rw [decide_eq_false hs, AM, show ((t.Cn.toNat : Nat) : Int) = t.Cn by omega, show ((t.BV.toNat : Nat) : Int) = t.BV by omega]
   ·rw [decide_eq_false hs, AM, show ((t.Cn.toNat : Nat) : Int) = t.Cn by omega, show ((t.BV.toNat : Nat) : Int) = t.BV by omega]
 have hl := Gu 16 sec (by omega) (by rw [show 10 ^ 16 = 10000000000000000 from rfl]; omega)
 have hit : Lib.itoa (sec : Int) = decDigits sec := by rw [Hf (by omega), Int.toNat_natCast]
 have f3 := (Mp sec).2.2
 by_cases h0 : ns = 0
 ·subst h0
  refine ⟨sg ++ decDigits sec, ?_, ?_, by rw [List.length_append]; omega, by rw [List.length_append]; omega⟩
  ·unfold EJ
   rw [hr, Option.bind_some, Bool.not_true, AM, hm1, Option.bind_some]
   dsimp only
   rw [decide_eq_true (by omega), Af, hit, decide_eq_true (by omega), Af, show ((((0 : Nat) : Int)) == 0) = true from rfl, AU]
  ·unfold CI
   rw [hm2, Option.bind_some]
   dsimp only
   rw [PV _ (by omega), Option.bind_some, decide_eq_true (by omega), Af, show ((((0 : Nat) : Int)) == 0) = true from rfl, AU]
 ·have hw : IntKind.i64.wrap ((1000000000 : Int) + (ns : Int)) = ((1000000000 + ns : Nat) : Int) := by rw [Fk (by omega) (by omega)]; omega
  obtain ⟨r, hr9, r1, r2, r3⟩ := XV hns
  have hit2 : Lib.itoa ((1000000000 + ns : Nat) : Int) = decDigits (1000000000 + ns) := by rw [Hf (by omega), Int.toNat_natCast]
  obtain ⟨R0, eR0, ⟨k0, hk0⟩, z0⟩ := WA r (by omega)
  obtain ⟨R, k, hloop, hk, z⟩ := ZX (pre := (sg ++ decDigits sec) ++ [46]) r1 r2 (by omega) (by simp only [List.length_append, List.length_cons, List.length_nil]; omega)
  obtain rfl := Wj z0 z (hk0.symm.trans hk)
  have hRl : R0.length ≤ 9 := by have := congrArg List.length hk; rw [List.length_append] at this; omega
  have hne : ((ns : Int) == 0) = false := by rw [beq_eq_false_iff_ne]; omega
  rw [r3] at hloop
  refine ⟨((sg ++ decDigits sec) ++ [46]) ++ R0, ?_, ?_, by simp only [List.length_append, List.length_cons, List.length_nil]; omega, by simp only [List.length_append, List.length_cons, List.length_nil]; omega⟩
  ·unfold EJ
   rw [hr, Option.bind_some, Bool.not_true, AM, hm1, Option.bind_some]
   dsimp only
   rw [decide_eq_true (by omega), Af, hit, decide_eq_true (by omega), Af, hne, AM, hw, decide_eq_true (by omega), Af, hit2, hr9, show (1 : Int) = ((1 : Nat) : Int) from rfl, Kz (by simp), Option.bind_some, List.drop_succ_cons, List.drop_zero,
    decide_eq_true (by simp only [List.length_append, List.length_cons, List.length_nil]; omega), Af, eR0, Option.bind_some, decide_eq_true (by simp only [List.length_append, List.length_cons, List.length_nil]; omega), Af]
  ·unfold CI
   rw [hm2, Option.bind_some]
   dsimp only
   rw [PV _ (by omega), Option.bind_some, decide_eq_true (by omega), Af, hne, AM, decide_eq_true (by simp only [List.length_append, List.length_cons, List.length_nil]; omega), Af, hloop, Option.bind_some]
end Go.Av.L
