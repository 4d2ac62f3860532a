/-
  RewriteStays: with the whole match in its own place a name stays, whatever matches; so it does where nothing matches.
-/
import Derived.Test.YtipknimgfcokeaaGreatDoorDfaS
import Derived.Test.YtipknimgfcokeaaGreatDoorDfaF
namespace Go.Av.L
open Go.Av Go.Lib
set_option linter.unusedVariables false
set_option linter.unusedSimpArgs false
set_option maxRecDepth 100000 in
theorem TC : Ce = some true := by kernel_rfl
theorem aw {Q : Bool → Prop} (h : Q true) : W ((Ce).bind fun x => some x) Q := W.bind (W.of TC (W.ret h))
theorem Up (b : UInt8) : RB (b.toNat : Int) = some b := by
 have := b.toNat_lt
 unfold RB
 rw [if_pos ⟨Int.natCast_nonneg _, by omega⟩, Int.toNat_natCast]
 simp
theorem Ud (b : Int) : Fi b 4 = some b := by
 unfold Fi
 rfl
theorem Vq (out s : List UInt8) (h : out.length + s.length ≤ 1000000) : CV ⟨out, 4, 0⟩ s = some (⟨out ++ s, 4, 0⟩, out ++ s) := by
 refine W.eq ?_
 unfold CV
 refine W.bind (W.mono (W.list (l := s) (Q := fun r => r = ((0 : Int), out ++ s)) (fun (o : List UInt8) (k : Nat) => ((0 : Int), o, (k : Int))) (fun o k => o = out ++ s.take k) ?_ ?_ out (by simp)) ?_)
 ·rintro o rfl
  unfold Dc
  refine W.Di (fun h => by omega) fun _ => W.ret ?_
  simp
 ·rintro o k hk rfl
  unfold Dc
  refine W.Di (fun _ => ?_) fun h => by omega
  rw [show Af (((0 : Int)) != (0 : Int)) (some ((0 : Int), (0 : Int))) (some ((0 : Int), (⟨out, 4, 0⟩ : Da).M3)) = some ((0 : Int), (4 : Int)) from rfl]
  rw [Option.bind_some]
  simp only []
  rw [NG hk, Option.bind_some, Ud, Option.bind_some, Up, Option.bind_some]
  have hl : (out ++ s.take k).length ≤ 1000000 := by simp only [List.length_append, List.length_take]; omega
  refine W.Cm (Em (by simp only [List.length_singleton]; omega) (by simp only [List.length_singleton]; omega)) (W.ret ⟨_, by rw [Ha (by omega)], ?_⟩)
  rw [JR (List.getElem?_eq_getElem hk), List.append_assoc]
 ·rintro r rfl
  exact W.ret rfl
theorem Us (s : List UInt8) {i j : Nat} (hij : i ≤ j) (hj : j ≤ s.length) : FY s ⟨i, j, true⟩ = some ((s.drop i).take (j - i)) := by
 refine W.eq ?_
 unfold FY
 refine W.ite (fun hb => ?_) fun _ => ?_
 ·simp only [Bool.or_eq_true, decide_eq_true_eq, Bool.not_true, Bool.false_eq_true, false_or] at hb
  omega
 ·rw [Mf hij hj]
  exact W.ret rfl
theorem Sf (s : List UInt8) {i j : Nat} (hij : i ≤ j) (hj : j ≤ s.length) (hs : s.length ≤ 1000) : EN [⟨1, 0, []⟩] s [⟨i, j, true⟩] = some ((s.drop i).take (j - i)) := by
 refine W.eq ?_
 unfold EN
 have e1 : ER [⟨1, 0, []⟩] s [⟨i, j, true⟩] ([], 4, 0, 0) = ((FY s ⟨i, j, true⟩).bind fun x15 => (CV (⟨[], 4, 0⟩ : Da) x15).bind fun (x16, x17) => some (x17, x16.M3, x16.Ba)).bind fun (x8, x9, x10) => some (.inl (x8, x9, x10, 1)) := by
  kernel_rfl
 have hl : ((s.drop i).take (j - i)).length ≤ 1000 := by simp only [List.length_take, List.length_drop]; omega
 rw [Us s hij hj, Option.bind_some, Vq _ _ (by simp only [List.length_nil]; omega)] at e1
 rw [MC (s' := (((s.drop i).take (j - i)), 4, 0, 1)) (by rw [e1]; rfl)]
 rw [Po (r := (((s.drop i).take (j - i)), 4, 0)) (by unfold ER; rfl)]
 exact W.ret rfl
theorem Pr : Cq [⟨1, 0, []⟩] = some 0 := by kernel_rfl
theorem Sj : GA [⟨1, 0, []⟩] = some 0 := by kernel_rfl
theorem UL {r : CW} (hp : r.J0 = [⟨1, 0, []⟩]) (s : List UInt8) {i j : Nat} (hij : i ≤ j) (hj : j ≤ s.length) (hs : s.length ≤ 1000) : Dx r s i j = some ((s.drop i).take (j - i)) := by
 refine W.eq ?_
 unfold Dx
 rw [hp, Sj, Option.bind_some]
 refine W.bind (W.Di (fun h => absurd h (by decide)) fun _ => W.ret ?_)
 rw [Sf s hij hj hs]
 exact W.ret rfl
theorem Pm (l : List AN) : ∀ (s : List UInt8) (set : List Int) (i : Nat), ∀ x ∈ MA l set s i, (i : Int) ≤ x ∧ x ≤ ((i + s.length : Nat) : Int)
 | [], set, i => by
  intro x hx
  simp only [MA] at hx
  split at hx
  ·simp only [List.mem_singleton] at hx; simp only [List.length_nil]; omega
  ·simp at hx
 | b :: t, set, i => by
  intro x hx
  simp only [MA, List.mem_append] at hx
  simp only [List.length_cons]
  rcases hx with hx | hx
  ·split at hx
   ·simp only [List.mem_singleton] at hx; omega
   ·simp at hx
  ·have := Pm l t _ (i + 1) x hx
   omega
theorem SR (a : Ak) (s : List UInt8) {i : Nat} (hi : i ≤ s.length) : ∀ x ∈ IK a s i, (i : Int) ≤ x ∧ x ≤ (s.length : Int) := by
 intro x hx
 unfold IK at hx
 split at hx
 ·rename_i h0
  split at hx
  ·simp only [List.mem_singleton] at hx; omega
  ·simp at hx
 ·have := Pm _ _ _ _ x hx
  rw [List.length_drop] at this
  omega
theorem QJ (s : List UInt8) {i j : Nat} (h : i ≤ j) : s.take i ++ (s.drop i).take (j - i) = s.take j := by
 have : j = i + (j - i) := by omega
 conv => rhs; rw [this, List.take_add]
theorem T9 {a : Ak} {todo : List (List Int)} {bs : List UInt8} {r : CW} (D : Vc a todo bs r.d_) (hp : r.J0 = [⟨1, 0, []⟩]) (s : List UInt8) (hs : s.length ≤ 1000) : Bp r s = some s := by
 refine W.eq ?_
 unfold Bp
 let μ : (List UInt8) × Int × Int × Int × Int → Nat := fun x => 2 * (s.length + 1 - x.2.2.2.2.toNat) + (if x.2.2.1 = x.2.2.2.2 then 0 else 1)
 refine W.bind (W.mono (W.loop (fun x => ∃ k f : Nat, x.2.1 = (k : Int) ∧ x.2.2.2.2 = (f : Int) ∧ k ≤ f ∧ f ≤ s.length ∧ x.1 = s.take k ∧ 0 ≤ x.2.2.2.1 ∧ x.2.2.2.1 + (μ x : Int) ≤ 10000) μ ⟨0, 0, rfl, rfl, Nat.le_refl _, Nat.zero_le _, by simp, by simp, by simp only [μ]; simp; omega⟩ ?_ (Q := fun q => ∃ k : Nat, q.2 = (k : Int) ∧ k ≤ s.length ∧ q.1 = s.take k)) ?_)
 ·rintro ⟨x1, x2, x3, x4, x5⟩ ⟨k, f, hk, hf, h1, h2, h3, h4, h5⟩
  simp only [μ] at hk hf h3 h4 h5
  subst hk hf h3
  unfold D9
  refine W.bind ((Pa D s (by omega) (f : Int)).mono ?_)
  rintro ⟨y1, y2, y3⟩ hy
  have e0 : mx (f : Int) 0 = f := by unfold mx; split <;> omega
  rw [e0] at hy
  rcases hy with ⟨hy, _⟩ | ⟨i, hne, hy, g1, g2, _⟩
  ·cases hy
   exact W.ret ⟨k, rfl, by omega, rfl⟩
  ·have hb := SR a s g2 _ (List.getLast_mem hne)
   generalize (IK a s i).getLast hne = j' at hy hb
   obtain ⟨j, rfl⟩ := Int.eq_ofNat_of_zero_le (show 0 ≤ j' by omega)
   cases hy
   simp only [Bool.not_true, C3]
   refine W.ite (fun hc => ?_) fun hc => ?_
   ·simp only [Bool.and_eq_true, beq_iff_eq] at hc
    rw [Ha (by omega)]
    refine W.Di (fun _ => W.ret ⟨k, rfl, by omega, rfl⟩) fun hgt => W.ret ⟨⟨k, i + 1, rfl, rfl, by omega, by omega, rfl, h4, ?_⟩, ?_⟩
    ·simp only [μ]
     simp only [Int.toNat_natCast] at h5 ⊢
     split <;> split at h5 <;> omega
    ·simp only [μ, Int.toNat_natCast]
     split <;> split <;> omega
   ·have hx : ¬ (i = j ∧ x3 = (f : Int) ∧ i = f) := by
     rintro ⟨rfl, h, rfl⟩
     simp [h] at hc
    have hm : 0 ≤ x4 + 1 ∧ x4 + 1 ≤ 10000 := by omega
    have hμ : 2 * (s.length + 1 - j) + 1 ≤ 2 * (s.length + 1 - f) + (if x3 = (f : Int) then 0 else 1) := by
     by_cases hjf : j = f
     ·have : i = f := by omega
      rw [if_neg (fun h => hx ⟨by omega, h, this⟩)]; omega
     ·split <;> omega
    rw [IW (by omega) (by omega)]
    have hend : ∀ q : Nat, q ≤ j → (∃ k' f' : Nat, (q : Int) = (k' : Int) ∧ (j : Int) = (f' : Int) ∧ k' ≤ f' ∧ f' ≤ s.length ∧ s.take q = s.take k' ∧ 0 ≤ x4 + 1 ∧ (x4 + 1) + ((2 * (s.length + 1 - (j : Int).toNat) + (if (j : Int) = (j : Int) then 0 else 1) : Nat) : Int) ≤ 10000) := by
     intro q hq
     refine ⟨q, j, rfl, rfl, hq, by omega, rfl, by omega, ?_⟩
     rw [if_pos rfl, Int.toNat_natCast]
     simp only [Int.toNat_natCast] at h5
     omega
    have hdec : 2 * (s.length + 1 - (j : Int).toNat) + (if (j : Int) = (j : Int) then 0 else 1) < 2 * (s.length + 1 - (f : Int).toNat) + (if x3 = (f : Int) then 0 else 1) := by
     rw [if_pos rfl, Int.toNat_natCast, Int.toNat_natCast]; omega
    unfold Ei
    rw [Option.bind_some]
    refine W.ite (fun _ => ?_) fun _ => W.ret ⟨hend k (by omega), hdec⟩
    have hki : k ≤ i := by omega
    rw [Mf hki g2, Option.bind_some, QJ s hki]
    have l1 : (s.take k).length ≤ 1000 := by simp only [List.length_take]; omega
    have l2 : ((s.drop k).take (i - k)).length ≤ 1000 := by simp only [List.length_take, List.length_drop]; omega
    have l3 : (s.take i).length ≤ 1000 := by simp only [List.length_take]; omega
    have l4 : ((s.drop i).take (j - i)).length ≤ 1000 := by simp only [List.length_take, List.length_drop]; omega
    refine W.Cm (Em (by omega) (by omega)) ?_
    rw [UL hp s (by omega) (by omega) hs, Option.bind_some]
    refine W.Cm (Em (by omega) (by omega)) ?_
    rw [QJ s (by omega)]
    exact W.ite (fun _ => W.ret ⟨j, rfl, by omega, rfl⟩) fun _ => W.ret ⟨hend j (Nat.le_refl _), hdec⟩
 ·rintro ⟨q1, q2⟩ ⟨k, hk, h2, h3⟩
  simp only at hk h3
  subst hk h3
  simp only []
  rw [PW h2, Option.bind_some]
  have l1 : (s.take k).length ≤ 1000 := by simp only [List.length_take]; omega
  have l2 : (s.drop k).length ≤ 1000 := by simp only [List.length_drop]; omega
  exact W.Cm (Em (by omega) (by omega)) (W.ret (List.take_append_drop k s))
theorem RG {a : Ak} {todo : List (List Int)} {bs : List UInt8} {r : CW} (D : Vc a todo bs r.d_) (s : List UInt8) (hs : s.length ≤ 1000) (hh : EW r.d_ s = some false) : Bp r s = some s := by
 have hf : ∃ i j, D5 r.d_ s 0 = some (i, j, false) := by
  unfold EW at hh
  obtain ⟨⟨x1, x2, x3⟩, e, _⟩ := Pa D s (by omega) 0
  rw [e, Option.bind_some] at hh
  exact ⟨x1, x2, by rw [e]; simpa using hh⟩
 obtain ⟨i, j, hf⟩ := hf
 refine W.eq ?_
 unfold Bp
 rw [Po (r := ([], 0)) (by unfold D9; show (D5 r.d_ s 0).bind _ = _; rw [hf]; rfl), Option.bind_some]
 simp only []
 rw [show (0 : Int) = ((0 : Nat) : Int) from rfl, PW (Nat.zero_le _), Option.bind_some]
 exact W.Cm (Em (by simp only [List.drop_zero, List.length_nil]; omega) (by simp only [List.drop_zero, List.length_nil]; omega)) (W.ret rfl)
theorem Ub {t : AI} (T : N3 t) : W (FA t) fun l => l.length = t.AU.length := by
 unfold FA
 have hl := T.len
 have hr := T.root
 obtain ⟨q, hq⟩ := Int.eq_ofNat_of_zero_le hr.1
 rw [hq] at hr ⊢
 refine W.Cm (by unfold WO; exact decide_eq_true ⟨by omega, by omega, by omega⟩) ?_
 rw [DM (by rw [List.length_replicate]; omega), Option.bind_some]
 refine W.bind (W.mono (W.loop (fun s => s.1.length = t.AU.length ∧ -1 ≤ s.2 ∧ s.2 < t.AU.length) (fun s => (s.2 + 1).toNat) ⟨by simp, by omega, hr.2⟩ ?_) fun r hr => W.ret hr)
 rintro ⟨x2, x3⟩ ⟨h1, h2, h3⟩
 simp only at h1 h2 h3
 unfold Fw
 refine W.Di (fun hge => ?_) fun _ => W.ret h1
 obtain ⟨i, rfl⟩ := Int.eq_ofNat_of_zero_le hge
 have hi : i < t.AU.length := by omega
 refine W.bind (W.mono (Q := fun l : List Bool => l.length = t.AU.length) ?_ fun l hl2 => W.ret ⟨⟨hl2, ?_, ?_⟩, ?_⟩)
 rotate_left
 ·simp only; rw [IW (by omega) (by omega)]; omega
 ·simp only; rw [IW (by omega) (by omega)]; omega
 ·simp only; rw [IW (by omega) (by omega)]; omega
 rw [DM (show i < x2.length by omega), Option.bind_some]
 refine W.ite (fun _ => W.ret h1) fun _ => ?_
 rw [DM hi, Option.bind_some]
 have hn := T.nodes i _ (List.getElem?_eq_getElem hi)
 generalize t.AU[i] = n at hn ⊢
 have ix : ∀ (l : List Bool) (a : Int), l.length = t.AU.length → 0 ≤ a → a < (i : Int) → ∃ v, Ff l a = some v := by
  intro l a h0 h1 h2
  obtain ⟨q, rfl⟩ := Int.eq_ofNat_of_zero_le h1
  exact ⟨_, DM (by omega)⟩
 rw [R6, Option.bind_some]
 refine W.ite (fun hk => ?_) fun _ => ?_
 ·simp only [Bool.or_eq_true, beq_iff_eq] at hk
  obtain ⟨a1, a2, b1, b2⟩ := hn.1 hk
  obtain ⟨v, hv⟩ := ix x2 n.A h1 a1 a2
  obtain ⟨v2, hv2⟩ := ix (x2.set n.A.toNat true) n.B (by simpa using h1) b1 b2
  rw [hv, Option.bind_some, hv2, Option.bind_some]
  exact W.ret (by simpa using h1)
 ·rw [R6, Option.bind_some]
  refine W.ite (fun hk => ?_) fun _ => W.ret h1
  simp only [Bool.or_eq_true, beq_iff_eq] at hk
  have ha : 0 ≤ n.A ∧ n.A < (i : Int) := by
   rcases hk with hk | hk
   ·exact ⟨(hn.2.1 hk).1, (hn.2.1 hk).2.1⟩
   ·exact hn.2.2 hk
  obtain ⟨v, hv⟩ := ix x2 n.A h1 ha.1 ha.2
  rw [hv, Option.bind_some]
  exact W.ret (by simpa using h1)
theorem Sn {t : AI} (hr : CC t = some true) : W (Ct t) fun r => 0 ≤ r := by
 have T : N3 t := by
  obtain ⟨b, e, q⟩ := Ps t
  rw [hr] at e
  cases e
  exact q rfl
 have hl := T.len
 unfold Ct
 rw [hr, Option.bind_some, Bool.not_true, C3]
 refine W.bind ((Ub T).mono fun l hl2 => ?_)
 refine W.bind (W.mono (W.loop (fun s => 0 ≤ s.1 ∧ 0 ≤ s.2 ∧ s.2 ≤ t.AU.length) (fun s => (t.AU.length - s.2).toNat) ⟨Int.le_refl _, Int.le_refl _, by simp⟩ ?_) fun r hr => W.ret hr)
 rintro ⟨x3, x4⟩ ⟨h1, h2, h3⟩
 simp only at h1 h2 h3
 unfold Fa
 refine W.Di (fun hlt => ?_) fun _ => W.ret h1
 obtain ⟨i, rfl⟩ := Int.eq_ofNat_of_zero_le h2
 refine W.bind (W.mono (Q := fun v => 0 ≤ v) ?_ fun v hv => W.ret ⟨⟨hv, ?_, ?_⟩, ?_⟩)
 ·rw [DM (show i < l.length by omega), Option.bind_some]
  refine W.ite (fun _ => ?_) fun _ => W.ret h1
  rw [DM (show i < t.AU.length by omega), Option.bind_some]
  refine W.ret ?_
  unfold mx
  split <;> omega
 all_goals simp only; rw [Ha (by omega)]; omega
end Go.Av.L
