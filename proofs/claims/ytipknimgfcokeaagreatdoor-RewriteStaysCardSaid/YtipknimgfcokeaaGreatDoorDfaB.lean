/-
  Dfa: Build answers; an automaton's states lead to its states.
-/
import Derived.Test.YtipknimgfcokeaaGreatDoorDfaA
namespace Go.Av.L
open Go.Av Go.Lib
set_option linter.unusedVariables false
set_option linter.unusedSimpArgs false
structure Rg (t : AI) (n : Nat) (s : AN) : Prop where
 a : 0 ≤ s.a_ ∧ s.a_ < n
 b : 0 ≤ s.b_ ∧ s.b_ < n
 X2 : s.CZ = 1 → ∃ k ∈ t.AU, k.Kind = 1 ∧ k.Set = s.CM
theorem Rg.up {t : AI} {n m : Nat} {s : AN} (h : Rg t n s) (hm : n ≤ m) : Rg t m s := ⟨⟨h.a.1, by have := h.a.2; omega⟩, ⟨h.b.1, by have := h.b.2; omega⟩, h.X2⟩
structure Mp (t : AI) (l : List AN) : Prop where
 pos : 0 < l.length
 le : l.length ≤ 4096
 st : ∀ s ∈ l, Rg t l.length s
structure S7 (t : AI) (m : Ae) : Prop where
 tt : m.t_ = t
 Ln : m.CH = 4096
 l : Mp t m.a_.l_
structure Laid (t : AI) (n : Nat) (r : Int × Ae × List AN) : Prop where
 tt : r.2.1.t_ = t
 Ln : r.2.1.CH = 4096
 l : Mp t r.2.2
 ge : n ≤ r.2.2.length
 i : 0 ≤ r.1 ∧ r.1 < r.2.2.length
theorem Mp.snoc {t : AI} {l : List AN} {s : AN} (h : Mp t l) (hs : Rg t (l.length + 1) s) (hl : l.length < 4096) : Mp t (l ++ [s]) := by
 refine ⟨by simp, by simp; omega, fun x hx => ?_⟩
 rw [List.length_append, List.length_singleton]
 rcases List.mem_append.1 hx with hx | hx
 ·exact (h.st x hx).up (by omega)
 ·obtain rfl := List.mem_singleton.1 hx
  exact hs
theorem ML {t : AI} {m : Ae} {s : AN} (h : S7 t m) (hs : Rg t m.a_.l_.length s) : W (BU m s) (Laid t m.a_.l_.length) := by
 unfold BU
 refine W.ite (fun _ => W.ret ⟨h.tt, h.Ln, h.l, Nat.le_refl _, by simp only; have := h.l.pos; omega⟩) fun hf => ?_
 simp only [Bool.or_eq_false_iff, decide_eq_false_iff_not, h.Ln] at hf
 have hl : m.a_.l_.length < 4096 := by have := hf.2; omega
 refine W.Cm (Em (by simp; omega) (by simp; omega)) (W.ret ⟨h.tt, h.Ln, h.l.snoc (hs.up (m := m.a_.l_.length + 1) (by omega)) hl, by simp, ?_⟩)
 simp only [List.length_append, List.length_singleton]
 rw [IW (by omega) (by omega)]
 omega
theorem Lw {t : AI} {n : Nat} {k a b : Int} (hk : k ≠ 1) (ha : 0 ≤ a ∧ a < n) (hb : 0 ≤ b ∧ b < n) {z : Ar} : Rg t n ⟨k, a, b, z⟩ := ⟨ha, hb, fun h => absurd h hk⟩
theorem SF {t : AI} {m : Ae} {a b : Int} (h : S7 t m) (ha : 0 ≤ a ∧ a < m.a_.l_.length) (hb : 0 ≤ b ∧ b < m.a_.l_.length) : W (CF a b m) (Laid t m.a_.l_.length) := by
 unfold CF
 refine W.bind ((ML h (Lw (by decide) ha hb)).mono ?_)
 rintro ⟨x1, x2, x3⟩ hx
 exact W.ret ⟨hx.tt, hx.Ln, hx.l, hx.ge, hx.i⟩
theorem Laid.m {t : AI} {n : Nat} {x1 : Int} {x2 : Ae} {x3 : List AN} {f : Int} (h : Laid t n (x1, x2, x3)) : S7 t ⟨x2.t_, ⟨x3, f⟩, x2.CH, x2.Ay⟩ := ⟨h.tt, h.Ln, h.l⟩
structure LH (t : AI) (S : Ao) (i : Nat) : Prop where
 node : ∀ (m : Ae) (j : Nat) (nxt : Int), S7 t m → j < i → j < t.AU.length → 0 ≤ nxt ∧ nxt < m.a_.l_.length → W (S.BL m j nxt) (Laid t m.a_.l_.length)
def Tl (t : AI) (S : Ao) (i : Nat) : Prop :=
 ∀ (m : Ae) (n : AJ) (nxt : Int), S7 t m → 0 ≤ n.A ∧ n.A < i → i ≤ t.AU.length → 0 ≤ nxt ∧ nxt < m.a_.l_.length → W (S.Bi nxt m n) (Laid t m.a_.l_.length)
def VS (t : AI) (S : Ao) (i : Nat) : Prop :=
 ∀ (m : Ae) (n : AJ) (nxt : Int), S7 t m → (0 ≤ n.A ∧ n.A < i ∧ 0 ≤ n.Min ∧ n.Min ≤ 255 ∧ (n.Max = -1 ∨ n.Min ≤ n.Max ∧ n.Max ≤ 255)) → i ≤ t.AU.length → 0 ≤ nxt ∧ nxt < m.a_.l_.length → W (S.CX m n nxt) (Laid t m.a_.l_.length)
theorem Ux {t : AI} {S : Ao} {i : Nat} (R : LH t S i) (m : Ae) (n : AJ) (nxt : Int) (hm : S7 t m) (hA : 0 ≤ n.A ∧ n.A < i) (hi : i ≤ t.AU.length) (hx : 0 ≤ nxt ∧ nxt < m.a_.l_.length) : W (Cd S nxt m n) (Laid t m.a_.l_.length) := by
 unfold Cd
 obtain ⟨j, hj⟩ := Int.eq_ofNat_of_zero_le hA.1
 rw [hj]
 refine W.bind ((R.node m j nxt hm (by omega) (by omega) hx).mono ?_)
 rintro ⟨x1, x2, x3⟩ h
 exact W.ret ⟨h.tt, h.Ln, h.l, h.ge, h.i⟩
theorem Vf {t : AI} {S : Ao} {i : Nat} (R : Tl t S i) (m : Ae) (n : AJ) (nxt : Int) (hm : S7 t m) (hA : 0 ≤ n.A ∧ n.A < i ∧ 0 ≤ n.Min ∧ n.Min ≤ 255 ∧ (n.Max = -1 ∨ n.Min ≤ n.Max ∧ n.Max ≤ 255)) (hi : i ≤ t.AU.length) (hx : 0 ≤ nxt ∧ nxt < m.a_.l_.length) : W (Cs S m n nxt) (Laid t m.a_.l_.length) := by
 unfold Cs
 let J : (List AJ) × Int × Int × Bool × (List AN) × Int → Prop := fun s => (⟨s.1, s.2.1⟩ : AI) = t ∧ s.2.2.1 = 4096 ∧ Mp t s.2.2.2.2.1 ∧ m.a_.l_.length ≤ s.2.2.2.2.1.length ∧ 0 ≤ s.2.2.2.2.2 ∧ s.2.2.2.2.2 < s.2.2.2.2.1.length
 have et : ∀ u : AI, (⟨u.AU, u.Bf⟩ : AI) = u := fun u => rfl
 refine W.bind (W.mono (Q := J) ?_ fun s hs => ?_)
 ·refine W.Di (fun hneg => ?_) fun hpos => ?_
  ·refine W.bind ((SF hm hx hx).mono ?_)
   rintro ⟨x7, x8, x9⟩ h1
   refine W.bind ((R _ n x7 h1.m ⟨hA.1, hA.2.1⟩ hi h1.i).mono ?_)
   rintro ⟨x10, x11, x12⟩ h2
   have hge : x9.length ≤ x12.length := h2.ge
   have hge1 : m.a_.l_.length ≤ x9.length := h1.ge
   have h7 : 0 ≤ x7 ∧ x7 < x9.length := h1.i
   have ht2 : x11.t_ = t := h2.tt
   have hm2 : x11.CH = 4096 := h2.Ln
   have hl2 : Mp t x12 := h2.l
   have h10 : 0 ≤ x10 ∧ x10 < x12.length := h2.i
   refine W.ite (fun _ => ?_) fun _ => W.ret ⟨by rw [← ht2], hm2, hl2, by simp only; omega, by simp only; omega, by simp only; omega⟩
   obtain ⟨k, hk⟩ := Int.eq_ofNat_of_zero_le h7.1
   subst hk
   have hk : k < x12.length := by omega
   rw [DM hk]
   refine W.bind (W.ret (W.ret ⟨by rw [← ht2], hm2, ?_, by simp only [List.length_set]; omega, by simp only; omega, by simp only [List.length_set]; omega⟩))
   refine ⟨by rw [List.length_set]; exact hl2.pos, by rw [List.length_set]; exact hl2.le, fun x hx => ?_⟩
   rw [List.length_set]
   rcases List.mem_or_eq_of_mem_set hx with hx | rfl
   ·exact hl2.st x hx
   ·have := hl2.st _ (List.getElem_mem hk)
    exact ⟨h10, this.b, this.X2⟩
  ·refine W.bind (W.mono (Q := J) (W.loop (fun s => J (s.1, s.2.1, s.2.2.1, s.2.2.2.1, s.2.2.2.2.1, s.2.2.2.2.2.1) ∧ s.2.2.2.2.2.2 ≤ 255) (fun s => (s.2.2.2.2.2.2 - n.Min).toNat) ⟨⟨hm.tt, hm.Ln, hm.l, Nat.le_refl _, hx.1, hx.2⟩, by simp only; omega⟩ ?_) fun s hs => W.ret hs)
   rintro ⟨x14, x15, x16, x17, x18, x19, x20⟩ ⟨⟨j1, j2, j3, j4, j5, j6⟩, hk⟩
   simp only at j1 j2 j3 j4 j5 j6 hk
   unfold D3
   refine W.ite (fun hc => ?_) fun _ => W.ret ⟨j1, j2, j3, j4, j5, j6⟩
   simp only [Bool.and_eq_true, decide_eq_true_eq] at hc
   have hM : S7 t ⟨⟨x14, x15⟩, ⟨x18, m.a_.Aj⟩, x16, x17⟩ := ⟨j1, j2, j3⟩
   refine W.bind ((R _ n x19 hM ⟨hA.1, hA.2.1⟩ hi ⟨j5, j6⟩).mono ?_)
   rintro ⟨x27, x28, x29⟩ h1
   have g1 : x18.length ≤ x29.length := h1.ge
   refine W.bind ((SF h1.m h1.i (show 0 ≤ nxt ∧ nxt < x29.length by omega)).mono ?_)
   rintro ⟨x30, x31, x32⟩ h2
   have g2 : x29.length ≤ x32.length := h2.ge
   have g3 : 0 ≤ x30 ∧ x30 < x32.length := h2.i
   refine W.ret ⟨⟨⟨?_, h2.Ln, h2.l, by simp only; omega, g3.1, g3.2⟩, ?_⟩, ?_⟩
   ·have : x31.t_ = t := h2.tt
    simp only [this]
   ·simp only; rw [IW (by omega) (by omega)]; omega
   ·simp only; rw [IW (by omega) (by omega)]; omega
 ·obtain ⟨x1, x2, x3, x4, x5, x6⟩ := s
  refine W.bind (W.mono (Q := J) (W.loop (fun s => J (s.1, s.2.1, s.2.2.1, s.2.2.2.1, s.2.2.2.2.1, s.2.2.2.2.2.1) ∧ 0 ≤ s.2.2.2.2.2.2 ∧ s.2.2.2.2.2.2 ≤ 255) (fun s => (n.Min - s.2.2.2.2.2.2).toNat) ⟨hs, by simp, by simp⟩ ?_) fun s hs => W.ret ?_)
  ·rintro ⟨x14, x15, x16, x17, x18, x19, x20⟩ ⟨⟨j1, j2, j3, j4, j5, j6⟩, hk0, hk⟩
   simp only at j1 j2 j3 j4 j5 j6 hk hk0
   unfold Dz
   refine W.ite (fun hc => ?_) fun _ => W.ret ⟨j1, j2, j3, j4, j5, j6⟩
   simp only [Bool.and_eq_true, decide_eq_true_eq] at hc
   have hM : S7 t ⟨⟨x14, x15⟩, ⟨x18, m.a_.Aj⟩, x16, x17⟩ := ⟨j1, j2, j3⟩
   refine W.bind ((R _ n x19 hM ⟨hA.1, hA.2.1⟩ hi ⟨j5, j6⟩).mono ?_)
   rintro ⟨x27, x28, x29⟩ h1
   have g1 : x18.length ≤ x29.length := h1.ge
   have g3 : 0 ≤ x27 ∧ x27 < x29.length := h1.i
   refine W.ret ⟨⟨⟨?_, h1.Ln, h1.l, by simp only; omega, g3.1, g3.2⟩, ?_⟩, ?_⟩
   ·have : x28.t_ = t := h1.tt
    simp only [this]
   ·simp only; rw [IW (by omega) (by omega)]; omega
   ·simp only; rw [IW (by omega) (by omega)]; omega
  ·obtain ⟨x1, x2, x3, x4, x5, x6⟩ := s
   obtain ⟨j1, j2, j3, j4, j5, j6⟩ := hs
   exact ⟨j1, j2, j3, j4, j5, j6⟩
theorem Un {t : AI} (T : N3 t) {S : Ao} {j : Nat} (R : LH t S j) (R2 : VS t S j) (m : Ae) (nxt : Int) (hm : S7 t m) (hj : j < t.AU.length) (hx : 0 ≤ nxt ∧ nxt < m.a_.l_.length) : W (DJ S m j nxt) (Laid t m.a_.l_.length) := by
 unfold DJ
 refine W.ite (fun _ => W.ret ⟨hm.tt, hm.Ln, hm.l, Nat.le_refl _, by simp only; have := hm.l.pos; omega⟩) fun _ => ?_
 have hpos := hm.l.pos
 have em : m.t_.AU = t.AU := by rw [hm.tt]
 rw [em, DM hj]
 have hn := T.nodes j _ (List.getElem?_eq_getElem hj)
 let J : (Unit) ⊕ ((List AJ) × Int × Int × Bool × (List AN) × Int) → Prop := fun o => match o with
  | .inl _ => True
  | .inr (x1, x2, x3, x4, x5, x6) => (⟨x1, x2⟩ : AI) = t ∧ x3 = 4096 ∧ Mp t x5 ∧ m.a_.l_.length ≤ x5.length ∧ 0 ≤ x6 ∧ x6 < x5.length
 have back : ∀ {n : Nat} {x1 : Int} {x2 : Ae} {x3 : List AN}, m.a_.l_.length ≤ n → Laid t n (x1, x2, x3) → J (.inr (x2.t_.AU, x2.t_.Bf, x2.CH, x2.Ay, x3, x1)) := by
  intro n x1 x2 x3 hn h
  have e : x2.t_ = t := h.tt
  exact ⟨by rw [e], h.Ln, h.l, Nat.le_trans hn h.ge, h.i.1, h.i.2⟩
 refine W.bind (W.mono (Q := J) (W.bind (W.ret ?_)) fun o ho => ?_)
 ·simp only [Fk, HF]
  have hmem := List.getElem_mem hj
  generalize t.AU[j] = x7 at hn hmem ⊢
  have rn : ∀ (m' : Ae) (a nx : Int), S7 t m' → 0 ≤ a ∧ a < j → 0 ≤ nx ∧ nx < m'.a_.l_.length → W (S.BL m' a nx) (Laid t m'.a_.l_.length) := by
   intro m' a nx h1 h2 h3
   obtain ⟨k, rfl⟩ := Int.eq_ofNat_of_zero_le h2.1
   exact R.node m' k nx h1 (by omega) (by omega) h3
  have z0 : (0 : Int) ≤ 0 ∧ (0 : Int) < m.a_.l_.length := ⟨Int.le_refl _, by omega⟩
  split
  ·rename_i hk
   refine W.bind ((ML hm ⟨hx, z0, fun _ => ⟨x7, hmem, hk, rfl⟩⟩).mono ?_)
   rintro ⟨a1, a2, a3⟩ h
   exact W.ret (back (Nat.le_refl _) h)
  split
  ·refine W.bind ((ML hm (Lw (by decide) hx z0)).mono ?_)
   rintro ⟨a1, a2, a3⟩ h
   exact W.ret (back (Nat.le_refl _) h)
  split
  ·refine W.bind ((ML hm (Lw (by decide) hx z0)).mono ?_)
   rintro ⟨a1, a2, a3⟩ h
   exact W.ret (back (Nat.le_refl _) h)
  split
  ·rename_i hk
   have hab := hn.1 (.inl hk)
   refine W.bind ((rn m x7.B nxt hm ⟨hab.2.2.1, hab.2.2.2⟩ hx).mono ?_)
   rintro ⟨a1, a2, a3⟩ h
   refine W.bind ((rn _ x7.A a1 h.m ⟨hab.1, hab.2.1⟩ h.i).mono ?_)
   rintro ⟨b1, b2, b3⟩ h'
   exact W.ret (back h.ge h')
  split
  ·rename_i hk
   have hab := hn.1 (.inr hk)
   refine W.bind ((rn m x7.A nxt hm ⟨hab.1, hab.2.1⟩ hx).mono ?_)
   rintro ⟨a1, a2, a3⟩ h
   have g1 : m.a_.l_.length ≤ a3.length := h.ge
   have i1 : 0 ≤ a1 ∧ a1 < a3.length := h.i
   refine W.bind ((rn _ x7.B nxt h.m ⟨hab.2.2.1, hab.2.2.2⟩ (show 0 ≤ nxt ∧ nxt < a3.length by omega)).mono ?_)
   rintro ⟨b1, b2, b3⟩ h'
   have g2 : a3.length ≤ b3.length := h'.ge
   have i2 : 0 ≤ b1 ∧ b1 < b3.length := h'.i
   refine W.bind ((ML h'.m (Lw (n := b3.length) (by decide) (show 0 ≤ a1 ∧ a1 < b3.length by omega) i2)).mono ?_)
   rintro ⟨c1, c2, c3⟩ h''
   exact W.ret (back (show m.a_.l_.length ≤ b3.length by omega) h'')
  split
  ·rename_i hk
   refine W.bind ((rn m x7.A nxt hm (hn.2.2 hk) hx).mono ?_)
   rintro ⟨a1, a2, a3⟩ h
   exact W.ret (back (Nat.le_refl _) h)
  split
  ·rename_i hk
   split
   ·exact W.ret trivial
   ·refine W.bind ((R2 m x7 nxt hm (hn.2.1 hk) (by omega) hx).mono ?_)
    rintro ⟨a1, a2, a3⟩ h
    exact W.ret (back (Nat.le_refl _) h)
  ·exact W.ret trivial
 ·cases o with
  | inl u =>
   refine W.bind ((ML hm (Lw (by decide) hx hx)).mono ?_)
   rintro ⟨x1, x2, x3⟩ h
   exact W.ret ⟨h.tt, h.Ln, h.l, h.ge, h.i⟩
  | inr p =>
   obtain ⟨x1, x2, x3, x4, x5, x6⟩ := p
   obtain ⟨j1, j2, j3, j4, j5, j6⟩ := ho
   exact W.ret ⟨j1, j2, j3, j4, j5, j6⟩
theorem PQ {t : AI} (T : N3 t) : ∀ (i n : Nat), 3 * i ≤ n → LH t (BF n) i
 | 0, n, _ => ⟨fun m j nxt _ hj => absurd hj (Nat.not_lt_zero _)⟩
 | i + 1, n, hn => by
  refine ⟨fun m j nxt hm hj hl hx => ?_⟩
  obtain ⟨k, rfl⟩ : ∃ k, n = k + 3 := ⟨n - 3, by omega⟩
  have up : ∀ {S : Ao}, LH t S i → LH t S j := fun h => ⟨fun m j' nxt hm hj' => h.node m j' nxt hm (by omega)⟩
  have r0 : LH t (BF k) j := up (PQ T i k (by omega))
  have r2 : LH t (BF (k + 2)) j := up (PQ T i (k + 2) (by omega))
  have p1 : Tl t (BF (k + 1)) j := fun m n nxt a b c d => Ux r0 m n nxt a b c d
  have p2 : VS t (BF (k + 2)) j := fun m n nxt a b c d => Vf p1 m n nxt a b c d
  exact Un T r2 p2 m nxt hm hl hx
structure Xg (t : AI) (a : Ak) : Prop where
 l : Mp t a.l_
 first : 0 ≤ a.Aj ∧ a.Aj < a.l_.length
theorem Px (t : AI) (hr : CC t = some true) : W (Fo t 4096) fun r => match r with | (some a, e) => e = 0 ∧ Xg t a | (none, e) => e = 7 := by
 unfold Fo
 refine W.ite (fun h => absurd h (by decide)) fun _ => ?_
 have T : N3 t := by
  obtain ⟨b, e, q⟩ := Ps t
  rw [hr] at e
  cases e
  exact q rfl
 rw [hr, Option.bind_some, Bool.not_true, C3]
 have hl : W (BU (⟨t, (⟨([] : List AN), (0 : Int)⟩ : Ak), 4096, false⟩ : Ae) (⟨(0 : Int), (0 : Int), (0 : Int), (⟨(0 : Int), (0 : Int), (0 : Int), (0 : Int)⟩ : Ar)⟩ : AN)) (Laid t 1) := by
  unfold BU
  refine W.ite (fun h => absurd h (by simp)) fun _ => W.Cm (Em (by simp) (by simp)) (W.ret ⟨rfl, rfl, ⟨by simp, by simp, fun s hs => ?_⟩, by simp, by simp [IntKind.wrap_i64]⟩)
  have : s = ⟨0, 0, 0, ⟨0, 0, 0, 0⟩⟩ := by simpa using hs
  subst this
  exact ⟨by simp, by simp, fun h => absurd h (by decide)⟩
 refine W.bind (hl.mono ?_)
 rintro ⟨x2, x3, x4⟩ h1
 obtain ⟨r, hr⟩ := Int.eq_ofNat_of_zero_le T.root.1
 have hb : r < t.AU.length := by have := T.root.2; omega
 rw [hr]
 have hR := (PQ T (r + 1) J8 (by rw [Rw]; have := T.len; omega)).node _ r x2 (h1.m (f := 0)) (by omega) hb h1.i
 unfold BL
 refine W.bind (hR.mono ?_)
 rintro ⟨x5, x6, x7⟩ h2
 exact W.ite (fun _ => W.ret rfl) fun _ => W.ret ⟨rfl, h2.l, h2.i⟩
end Go.Av.L
