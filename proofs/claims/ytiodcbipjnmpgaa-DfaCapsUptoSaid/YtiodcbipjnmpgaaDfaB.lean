/-
  Dfa: Build answers; an automaton's states lead to its states.
-/
import Derived.Test.YtiodcbipjnmpgaaDfaA
namespace Go.Av.L
open Go.Av Go.Lib
set_option linter.unusedVariables false
set_option linter.unusedSimpArgs false
structure StOk (t : S_tree_Tree) (n : Nat) (s : S_auto_state) : Prop where
 a : 0 ≤ s.a_ ∧ s.a_ < n
 b : 0 ≤ s.b_ ∧ s.b_ < n
 eat : s.kind_ = 1 → ∃ k ∈ t.Nodes, k.Kind = 1 ∧ k.Set = s.set_
theorem StOk.up {t : S_tree_Tree} {n m : Nat} {s : S_auto_state} (h : StOk t n s) (hm : n ≤ m) : StOk t m s := ⟨⟨h.a.1, by have := h.a.2; omega⟩, ⟨h.b.1, by have := h.b.2; omega⟩, h.eat⟩
structure LOk (t : S_tree_Tree) (l : List S_auto_state) : Prop where
 pos : 0 < l.length
 le : l.length ≤ 4096
 st : ∀ s ∈ l, StOk t l.length s
structure MOk (t : S_tree_Tree) (m : S_auto_maker) : Prop where
 tt : m.t_ = t
 most : m.most_ = 4096
 l : LOk t m.a_.l_
structure Laid (t : S_tree_Tree) (n : Nat) (r : Int × S_auto_maker × List S_auto_state) : Prop where
 tt : r.2.1.t_ = t
 most : r.2.1.most_ = 4096
 l : LOk t r.2.2
 ge : n ≤ r.2.2.length
 i : 0 ≤ r.1 ∧ r.1 < r.2.2.length
theorem LOk.snoc {t : S_tree_Tree} {l : List S_auto_state} {s : S_auto_state} (h : LOk t l) (hs : StOk t (l.length + 1) s) (hl : l.length < 4096) : LOk t (l ++ [s]) := by
 refine ⟨by simp, by simp; omega, fun x hx => ?_⟩
 rw [List.length_append, List.length_singleton]
 rcases List.mem_append.1 hx with hx | hx
 ·exact (h.st x hx).up (by omega)
 ·obtain rfl := List.mem_singleton.1 hx
  exact hs
theorem lay_ok {t : S_tree_Tree} {m : S_auto_maker} {s : S_auto_state} (h : MOk t m) (hs : StOk t m.a_.l_.length s) : W (M_auto_maker_lay_sPPOR m s) (Laid t m.a_.l_.length) := by
 unfold M_auto_maker_lay_sPPOR
 refine W.ite (fun _ => W.ret ⟨h.tt, h.most, h.l, Nat.le_refl _, by simp only; have := h.l.pos; omega⟩) fun hf => ?_
 simp only [Bool.or_eq_false_iff, decide_eq_false_iff_not, h.most] at hf
 have hl : m.a_.l_.length < 4096 := by have := hf.2; omega
 refine W.need (okN_of (by simp; omega) (by simp; omega)) (W.ret ⟨h.tt, h.most, h.l.snoc (hs.up (m := m.a_.l_.length + 1) (by omega)) hl, by simp, ?_⟩)
 simp only [List.length_append, List.length_singleton]
 rw [w64 (by omega) (by omega)]
 omega
theorem free_ok {t : S_tree_Tree} {n : Nat} {k a b : Int} (hk : k ≠ 1) (ha : 0 ≤ a ∧ a < n) (hb : 0 ≤ b ∧ b < n) {z : A4_uint64} : StOk t n ⟨k, a, b, z⟩ := ⟨ha, hb, fun h => absurd h hk⟩
theorem rep2_ok {t : S_tree_Tree} {m : S_auto_maker} {a b : Int} (h : MOk t m) (ha : 0 ≤ a ∧ a < m.a_.l_.length) (hb : 0 ≤ b ∧ b < m.a_.l_.length) : W (M_auto_maker_repeat_2_sIIPPPO a b m) (Laid t m.a_.l_.length) := by
 unfold M_auto_maker_repeat_2_sIIPPPO
 refine W.bind ((lay_ok h (free_ok (by decide) ha hb)).mono ?_)
 rintro ⟨x1, x2, x3⟩ hx
 exact W.ret ⟨hx.tt, hx.most, hx.l, hx.ge, hx.i⟩
theorem Laid.m {t : S_tree_Tree} {n : Nat} {x1 : Int} {x2 : S_auto_maker} {x3 : List S_auto_state} {f : Int} (h : Laid t n (x1, x2, x3)) : MOk t ⟨x2.t_, ⟨x3, f⟩, x2.most_, x2.full_⟩ := ⟨h.tt, h.most, h.l⟩
structure RingOk (t : S_tree_Tree) (S : SC_auto_maker_repeat_1_sIPPPOP) (i : Nat) : Prop where
 node : ∀ (m : S_auto_maker) (j : Nat) (nxt : Int), MOk t m → j < i → j < t.Nodes.length → 0 ≤ nxt ∧ nxt < m.a_.l_.length → W (S.M_auto_maker_node_sPPOII m j nxt) (Laid t m.a_.l_.length)
def Rep1Ok (t : S_tree_Tree) (S : SC_auto_maker_repeat_1_sIPPPOP) (i : Nat) : Prop :=
 ∀ (m : S_auto_maker) (n : S_tree_Node) (nxt : Int), MOk t m → 0 ≤ n.A ∧ n.A < i → i ≤ t.Nodes.length → 0 ≤ nxt ∧ nxt < m.a_.l_.length → W (S.M_auto_maker_repeat_1_sIPPPOP nxt m n) (Laid t m.a_.l_.length)
def RepOk (t : S_tree_Tree) (S : SC_auto_maker_repeat_1_sIPPPOP) (i : Nat) : Prop :=
 ∀ (m : S_auto_maker) (n : S_tree_Node) (nxt : Int), MOk t m → (0 ≤ n.A ∧ n.A < i ∧ 0 ≤ n.Min ∧ n.Min ≤ 255 ∧ (n.Max = -1 ∨ n.Min ≤ n.Max ∧ n.Max ≤ 255)) → i ≤ t.Nodes.length → 0 ≤ nxt ∧ nxt < m.a_.l_.length → W (S.M_auto_maker_repeat_sPPORI m n nxt) (Laid t m.a_.l_.length)
theorem rep1_ok {t : S_tree_Tree} {S : SC_auto_maker_repeat_1_sIPPPOP} {i : Nat} (R : RingOk t S i) (m : S_auto_maker) (n : S_tree_Node) (nxt : Int) (hm : MOk t m) (hA : 0 ≤ n.A ∧ n.A < i) (hi : i ≤ t.Nodes.length) (hx : 0 ≤ nxt ∧ nxt < m.a_.l_.length) : W (B_auto_maker_repeat_1_sIPPPOP S nxt m n) (Laid t m.a_.l_.length) := by
 unfold B_auto_maker_repeat_1_sIPPPOP
 obtain ⟨j, hj⟩ := Int.eq_ofNat_of_zero_le hA.1
 rw [hj]
 refine W.bind ((R.node m j nxt hm (by omega) (by omega) hx).mono ?_)
 rintro ⟨x1, x2, x3⟩ h
 exact W.ret ⟨h.tt, h.most, h.l, h.ge, h.i⟩
theorem rep_ok {t : S_tree_Tree} {S : SC_auto_maker_repeat_1_sIPPPOP} {i : Nat} (R : Rep1Ok t S i) (m : S_auto_maker) (n : S_tree_Node) (nxt : Int) (hm : MOk t m) (hA : 0 ≤ n.A ∧ n.A < i ∧ 0 ≤ n.Min ∧ n.Min ≤ 255 ∧ (n.Max = -1 ∨ n.Min ≤ n.Max ∧ n.Max ≤ 255)) (hi : i ≤ t.Nodes.length) (hx : 0 ≤ nxt ∧ nxt < m.a_.l_.length) : W (B_auto_maker_repeat_sPPORI S m n nxt) (Laid t m.a_.l_.length) := by
 unfold B_auto_maker_repeat_sPPORI
 let J : (List S_tree_Node) × Int × Int × Bool × (List S_auto_state) × Int → Prop := fun s => (⟨s.1, s.2.1⟩ : S_tree_Tree) = t ∧ s.2.2.1 = 4096 ∧ LOk t s.2.2.2.2.1 ∧ m.a_.l_.length ≤ s.2.2.2.2.1.length ∧ 0 ≤ s.2.2.2.2.2 ∧ s.2.2.2.2.2 < s.2.2.2.2.1.length
 have et : ∀ u : S_tree_Tree, (⟨u.Nodes, u.Root⟩ : S_tree_Tree) = u := fun u => rfl
 refine W.bind (W.mono (Q := J) ?_ fun s hs => ?_)
 ·refine W.iteP (fun hneg => ?_) fun hpos => ?_
  ·refine W.bind ((rep2_ok hm hx hx).mono ?_)
   rintro ⟨x7, x8, x9⟩ h1
   refine W.bind ((R _ n x7 h1.m ⟨hA.1, hA.2.1⟩ hi h1.i).mono ?_)
   rintro ⟨x10, x11, x12⟩ h2
   have hge : x9.length ≤ x12.length := h2.ge
   have hge1 : m.a_.l_.length ≤ x9.length := h1.ge
   have h7 : 0 ≤ x7 ∧ x7 < x9.length := h1.i
   have ht2 : x11.t_ = t := h2.tt
   have hm2 : x11.most_ = 4096 := h2.most
   have hl2 : LOk t x12 := h2.l
   have h10 : 0 ≤ x10 ∧ x10 < x12.length := h2.i
   refine W.ite (fun _ => ?_) fun _ => W.ret ⟨by rw [← ht2], hm2, hl2, by simp only; omega, by simp only; omega, by simp only; omega⟩
   obtain ⟨k, hk⟩ := Int.eq_ofNat_of_zero_le h7.1
   subst hk
   have hk : k < x12.length := by omega
   rw [ixV_get hk]
   refine W.bind (W.ret (W.ret ⟨by rw [← ht2], hm2, ?_, by simp only [List.length_set]; omega, by simp only; omega, by simp only [List.length_set]; omega⟩))
   refine ⟨by rw [List.length_set]; exact hl2.pos, by rw [List.length_set]; exact hl2.le, fun x hx => ?_⟩
   rw [List.length_set]
   rcases List.mem_or_eq_of_mem_set hx with hx | rfl
   ·exact hl2.st x hx
   ·have := hl2.st _ (List.getElem_mem hk)
    exact ⟨h10, this.b, this.eat⟩
  ·refine W.bind (W.mono (Q := J) (W.loop (fun s => J (s.1, s.2.1, s.2.2.1, s.2.2.2.1, s.2.2.2.2.1, s.2.2.2.2.2.1) ∧ s.2.2.2.2.2.2 ≤ 255) (fun s => (s.2.2.2.2.2.2 - n.Min).toNat) ⟨⟨hm.tt, hm.most, hm.l, Nat.le_refl _, hx.1, hx.2⟩, by simp only; omega⟩ ?_) fun s hs => W.ret hs)
   rintro ⟨x14, x15, x16, x17, x18, x19, x20⟩ ⟨⟨j1, j2, j3, j4, j5, j6⟩, hk⟩
   simp only at j1 j2 j3 j4 j5 j6 hk
   unfold M_auto_maker_repeat_sPPORI_L0
   refine W.ite (fun hc => ?_) fun _ => W.ret ⟨j1, j2, j3, j4, j5, j6⟩
   simp only [Bool.and_eq_true, decide_eq_true_eq] at hc
   have hM : MOk t ⟨⟨x14, x15⟩, ⟨x18, m.a_.first_⟩, x16, x17⟩ := ⟨j1, j2, j3⟩
   refine W.bind ((R _ n x19 hM ⟨hA.1, hA.2.1⟩ hi ⟨j5, j6⟩).mono ?_)
   rintro ⟨x27, x28, x29⟩ h1
   have g1 : x18.length ≤ x29.length := h1.ge
   refine W.bind ((rep2_ok h1.m h1.i (show 0 ≤ nxt ∧ nxt < x29.length by omega)).mono ?_)
   rintro ⟨x30, x31, x32⟩ h2
   have g2 : x29.length ≤ x32.length := h2.ge
   have g3 : 0 ≤ x30 ∧ x30 < x32.length := h2.i
   refine W.ret ⟨⟨⟨?_, h2.most, h2.l, by simp only; omega, g3.1, g3.2⟩, ?_⟩, ?_⟩
   ·have : x31.t_ = t := h2.tt
    simp only [this]
   ·simp only; rw [w64 (by omega) (by omega)]; omega
   ·simp only; rw [w64 (by omega) (by omega)]; omega
 ·obtain ⟨x1, x2, x3, x4, x5, x6⟩ := s
  refine W.bind (W.mono (Q := J) (W.loop (fun s => J (s.1, s.2.1, s.2.2.1, s.2.2.2.1, s.2.2.2.2.1, s.2.2.2.2.2.1) ∧ 0 ≤ s.2.2.2.2.2.2 ∧ s.2.2.2.2.2.2 ≤ 255) (fun s => (n.Min - s.2.2.2.2.2.2).toNat) ⟨hs, by simp, by simp⟩ ?_) fun s hs => W.ret ?_)
  ·rintro ⟨x14, x15, x16, x17, x18, x19, x20⟩ ⟨⟨j1, j2, j3, j4, j5, j6⟩, hk0, hk⟩
   simp only at j1 j2 j3 j4 j5 j6 hk hk0
   unfold M_auto_maker_repeat_sPPORI_L1
   refine W.ite (fun hc => ?_) fun _ => W.ret ⟨j1, j2, j3, j4, j5, j6⟩
   simp only [Bool.and_eq_true, decide_eq_true_eq] at hc
   have hM : MOk t ⟨⟨x14, x15⟩, ⟨x18, m.a_.first_⟩, x16, x17⟩ := ⟨j1, j2, j3⟩
   refine W.bind ((R _ n x19 hM ⟨hA.1, hA.2.1⟩ hi ⟨j5, j6⟩).mono ?_)
   rintro ⟨x27, x28, x29⟩ h1
   have g1 : x18.length ≤ x29.length := h1.ge
   have g3 : 0 ≤ x27 ∧ x27 < x29.length := h1.i
   refine W.ret ⟨⟨⟨?_, h1.most, h1.l, by simp only; omega, g3.1, g3.2⟩, ?_⟩, ?_⟩
   ·have : x28.t_ = t := h1.tt
    simp only [this]
   ·simp only; rw [w64 (by omega) (by omega)]; omega
   ·simp only; rw [w64 (by omega) (by omega)]; omega
  ·obtain ⟨x1, x2, x3, x4, x5, x6⟩ := s
   obtain ⟨j1, j2, j3, j4, j5, j6⟩ := hs
   exact ⟨j1, j2, j3, j4, j5, j6⟩
theorem node_ok {t : S_tree_Tree} (T : TreeR t) {S : SC_auto_maker_repeat_1_sIPPPOP} {j : Nat} (R : RingOk t S j) (R2 : RepOk t S j) (m : S_auto_maker) (nxt : Int) (hm : MOk t m) (hj : j < t.Nodes.length) (hx : 0 ≤ nxt ∧ nxt < m.a_.l_.length) : W (B_auto_maker_node_sPPOII S m j nxt) (Laid t m.a_.l_.length) := by
 unfold B_auto_maker_node_sPPOII
 refine W.ite (fun _ => W.ret ⟨hm.tt, hm.most, hm.l, Nat.le_refl _, by simp only; have := hm.l.pos; omega⟩) fun _ => ?_
 have hpos := hm.l.pos
 have em : m.t_.Nodes = t.Nodes := by rw [hm.tt]
 rw [em, ixV_get hj]
 have hn := T.nodes j _ (List.getElem?_eq_getElem hj)
 let J : (Unit) ⊕ ((List S_tree_Node) × Int × Int × Bool × (List S_auto_state) × Int) → Prop := fun o => match o with
  | .inl _ => True
  | .inr (x1, x2, x3, x4, x5, x6) => (⟨x1, x2⟩ : S_tree_Tree) = t ∧ x3 = 4096 ∧ LOk t x5 ∧ m.a_.l_.length ≤ x5.length ∧ 0 ≤ x6 ∧ x6 < x5.length
 have back : ∀ {n : Nat} {x1 : Int} {x2 : S_auto_maker} {x3 : List S_auto_state}, m.a_.l_.length ≤ n → Laid t n (x1, x2, x3) → J (.inr (x2.t_.Nodes, x2.t_.Root, x2.most_, x2.full_, x3, x1)) := by
  intro n x1 x2 x3 hn h
  have e : x2.t_ = t := h.tt
  exact ⟨by rw [e], h.most, h.l, Nat.le_trans hn h.ge, h.i.1, h.i.2⟩
 refine W.bind (W.mono (Q := J) (W.bind (W.ret ?_)) fun o ho => ?_)
 ·simp only [iteB_beq, iteB_bne]
  have hmem := List.getElem_mem hj
  generalize t.Nodes[j] = x7 at hn hmem ⊢
  have rn : ∀ (m' : S_auto_maker) (a nx : Int), MOk t m' → 0 ≤ a ∧ a < j → 0 ≤ nx ∧ nx < m'.a_.l_.length → W (S.M_auto_maker_node_sPPOII m' a nx) (Laid t m'.a_.l_.length) := by
   intro m' a nx h1 h2 h3
   obtain ⟨k, rfl⟩ := Int.eq_ofNat_of_zero_le h2.1
   exact R.node m' k nx h1 (by omega) (by omega) h3
  have z0 : (0 : Int) ≤ 0 ∧ (0 : Int) < m.a_.l_.length := ⟨Int.le_refl _, by omega⟩
  split
  ·rename_i hk
   refine W.bind ((lay_ok hm ⟨hx, z0, fun _ => ⟨x7, hmem, hk, rfl⟩⟩).mono ?_)
   rintro ⟨a1, a2, a3⟩ h
   exact W.ret (back (Nat.le_refl _) h)
  split
  ·refine W.bind ((lay_ok hm (free_ok (by decide) hx z0)).mono ?_)
   rintro ⟨a1, a2, a3⟩ h
   exact W.ret (back (Nat.le_refl _) h)
  split
  ·refine W.bind ((lay_ok hm (free_ok (by decide) hx z0)).mono ?_)
   rintro ⟨a1, a2, a3⟩ h
   exact W.ret (back (Nat.le_refl _) h)
  split
  ·rename_i hk
   have hab := hn.1 (.inl hk)
   refine W.bind ((rn m x7.B nxt hm ⟨hab.2.2.1, hab.2.2.2⟩ hx).mono ?_)
   rintro ⟨a1, a2, a3⟩ h
   refine W.bind ((rn _ x7.A a1 h.m ⟨hab.1, hab.2.1⟩ h.i).mono ?_)
   rintro ⟨b1, b2, b3⟩ h'
   exact W.ret (back h.ge h')
  split
  ·rename_i hk
   have hab := hn.1 (.inr hk)
   refine W.bind ((rn m x7.A nxt hm ⟨hab.1, hab.2.1⟩ hx).mono ?_)
   rintro ⟨a1, a2, a3⟩ h
   have g1 : m.a_.l_.length ≤ a3.length := h.ge
   have i1 : 0 ≤ a1 ∧ a1 < a3.length := h.i
   refine W.bind ((rn _ x7.B nxt h.m ⟨hab.2.2.1, hab.2.2.2⟩ (show 0 ≤ nxt ∧ nxt < a3.length by omega)).mono ?_)
   rintro ⟨b1, b2, b3⟩ h'
   have g2 : a3.length ≤ b3.length := h'.ge
   have i2 : 0 ≤ b1 ∧ b1 < b3.length := h'.i
   refine W.bind ((lay_ok h'.m (free_ok (n := b3.length) (by decide) (show 0 ≤ a1 ∧ a1 < b3.length by omega) i2)).mono ?_)
   rintro ⟨c1, c2, c3⟩ h''
   exact W.ret (back (show m.a_.l_.length ≤ b3.length by omega) h'')
  split
  ·rename_i hk
   refine W.bind ((rn m x7.A nxt hm (hn.2.2 hk) hx).mono ?_)
   rintro ⟨a1, a2, a3⟩ h
   exact W.ret (back (Nat.le_refl _) h)
  split
  ·rename_i hk
   split
   ·exact W.ret trivial
   ·refine W.bind ((R2 m x7 nxt hm (hn.2.1 hk) (by omega) hx).mono ?_)
    rintro ⟨a1, a2, a3⟩ h
    exact W.ret (back (Nat.le_refl _) h)
  ·exact W.ret trivial
 ·cases o with
  | inl u =>
   refine W.bind ((lay_ok hm (free_ok (by decide) hx hx)).mono ?_)
   rintro ⟨x1, x2, x3⟩ h
   exact W.ret ⟨h.tt, h.most, h.l, h.ge, h.i⟩
  | inr p =>
   obtain ⟨x1, x2, x3, x4, x5, x6⟩ := p
   obtain ⟨j1, j2, j3, j4, j5, j6⟩ := ho
   exact W.ret ⟨j1, j2, j3, j4, j5, j6⟩
theorem ring_ok {t : S_tree_Tree} (T : TreeR t) : ∀ (i n : Nat), 3 * i ≤ n → RingOk t (rSC_auto_maker_repeat_1_sIPPPOP n) i
 | 0, n, _ => ⟨fun m j nxt _ hj => absurd hj (Nat.not_lt_zero _)⟩
 | i + 1, n, hn => by
  refine ⟨fun m j nxt hm hj hl hx => ?_⟩
  obtain ⟨k, rfl⟩ : ∃ k, n = k + 3 := ⟨n - 3, by omega⟩
  have up : ∀ {S : SC_auto_maker_repeat_1_sIPPPOP}, RingOk t S i → RingOk t S j := fun h => ⟨fun m j' nxt hm hj' => h.node m j' nxt hm (by omega)⟩
  have r0 : RingOk t (rSC_auto_maker_repeat_1_sIPPPOP k) j := up (ring_ok T i k (by omega))
  have r2 : RingOk t (rSC_auto_maker_repeat_1_sIPPPOP (k + 2)) j := up (ring_ok T i (k + 2) (by omega))
  have p1 : Rep1Ok t (rSC_auto_maker_repeat_1_sIPPPOP (k + 1)) j := fun m n nxt a b c d => rep1_ok r0 m n nxt a b c d
  have p2 : RepOk t (rSC_auto_maker_repeat_1_sIPPPOP (k + 2)) j := fun m n nxt a b c d => rep_ok p1 m n nxt a b c d
  exact node_ok T r2 p2 m nxt hm hl hx
structure AOk (t : S_tree_Tree) (a : S_auto_Auto) : Prop where
 l : LOk t a.l_
 first : 0 ≤ a.first_ ∧ a.first_ < a.l_.length
theorem build_ok (t : S_tree_Tree) (hr : M_tree_Tree_Right t = some true) : W (M_auto_Build t 4096) fun r => match r with | (some a, e) => e = 0 ∧ AOk t a | (none, e) => e = 7 := by
 unfold M_auto_Build
 refine W.ite (fun h => absurd h (by decide)) fun _ => ?_
 have T : TreeR t := by
  obtain ⟨b, e, q⟩ := right_ok t
  rw [hr] at e
  cases e
  exact q rfl
 rw [hr, Option.bind_some, Bool.not_true, iteB_false]
 have hl : W (M_auto_maker_lay_sPPOR (⟨t, (⟨([] : List S_auto_state), (0 : Int)⟩ : S_auto_Auto), 4096, false⟩ : S_auto_maker) (⟨(0 : Int), (0 : Int), (0 : Int), (⟨(0 : Int), (0 : Int), (0 : Int), (0 : Int)⟩ : A4_uint64)⟩ : S_auto_state)) (Laid t 1) := by
  unfold M_auto_maker_lay_sPPOR
  refine W.ite (fun h => absurd h (by simp)) fun _ => W.need (okN_of (by simp) (by simp)) (W.ret ⟨rfl, rfl, ⟨by simp, by simp, fun s hs => ?_⟩, by simp, by simp [IntKind.wrap_i64]⟩)
  have : s = ⟨0, 0, 0, ⟨0, 0, 0, 0⟩⟩ := by simpa using hs
  subst this
  exact ⟨by simp, by simp, fun h => absurd h (by decide)⟩
 refine W.bind (hl.mono ?_)
 rintro ⟨x2, x3, x4⟩ h1
 obtain ⟨r, hr⟩ := Int.eq_ofNat_of_zero_le T.root.1
 have hb : r < t.Nodes.length := by have := T.root.2; omega
 rw [hr]
 have hR := (ring_ok T (r + 1) bigF (by rw [bigF_eq]; have := T.len; omega)).node _ r x2 (h1.m (f := 0)) (by omega) hb h1.i
 unfold M_auto_maker_node_sPPOII
 refine W.bind (hR.mono ?_)
 rintro ⟨x5, x6, x7⟩ h2
 exact W.ite (fun _ => W.ret rfl) fun _ => W.ret ⟨rfl, h2.l, h2.i⟩
end Go.Av.L
