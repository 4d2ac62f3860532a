/-
  DfaCaps: how many states an automaton has, by its tree's weight.
-/
import Derived.Test.YtiodcbipjnmpgaaCapA
namespace Go.Av.L
open Go.Av Go.Lib
set_option linter.unusedVariables false
set_option linter.unusedSimpArgs false
theorem W.both {α : Type} {m : Option α} {Q Q' : α → Prop} (h : W m Q) (h' : W m Q') : W m fun r => Q r ∧ Q' r := by
 obtain ⟨r, e, q⟩ := h
 obtain ⟨r', e', q'⟩ := h'
 rw [e] at e'
 cases e'
 exact ⟨r, e, q, q'⟩
def wtF (g : Int → Nat) (n : S_tree_Node) : Nat :=
 if n.Kind = 2 then g n.A + g n.B
 else if n.Kind = 3 then g n.A + g n.B + 1
 else if n.Kind = 4 then (if n.Max ≥ 0 then (g n.A + 1) * n.Max.toNat + 1 else (g n.A + 1) * (n.Min.toNat + 1))
 else if n.Kind = 5 then g n.A
 else 1
structure WtOk (t : S_tree_Tree) (g : Int → Nat) (r : Nat) : Prop where
 pos : ∀ i : Nat, i ≤ r → 1 ≤ g i
 at_ : ∀ (i : Nat) n, i ≤ r → t.Nodes[i]? = some n → g i < 1048576 → g i = wtF g n
def Cap (t : S_tree_Tree) (n v : Nat) (r : Int × S_auto_maker × List S_auto_state) : Prop := Laid t n r ∧ r.2.1.full_ = false ∧ r.2.2.length ≤ n + v
theorem lay_cap {t : S_tree_Tree} {m : S_auto_maker} {s : S_auto_state} (h : MOk t m) (hs : StOk t m.a_.l_.length s) (hf : m.full_ = false) (hl : m.a_.l_.length + 1 ≤ 4096) : W (M_auto_maker_lay_sPPOR m s) (Cap t m.a_.l_.length 1) := by
 refine W.both (lay_ok h hs) ?_
 unfold M_auto_maker_lay_sPPOR
 refine W.ite (fun hb => ?_) fun _ => ?_
 ·simp only [Bool.or_eq_true, decide_eq_true_eq, h.most, hf] at hb
  rcases hb with hb | hb
  ·cases hb
  ·omega
 refine W.need (okN_of (by simp; omega) (by simp; omega)) (W.ret ⟨?_, by simp⟩)
 simp only [hf, h.most, Bool.false_or, decide_eq_false_iff_not]
 omega
theorem rep2_cap {t : S_tree_Tree} {m : S_auto_maker} {a b : Int} (h : MOk t m) (ha : 0 ≤ a ∧ a < m.a_.l_.length) (hb : 0 ≤ b ∧ b < m.a_.l_.length) (hf : m.full_ = false) (hl : m.a_.l_.length + 1 ≤ 4096) : W (M_auto_maker_repeat_2_sIIPPPO a b m) (Cap t m.a_.l_.length 1) := by
 unfold M_auto_maker_repeat_2_sIIPPPO
 refine W.bind ((lay_cap h (free_ok (by decide) ha hb) hf hl).mono ?_)
 rintro ⟨x1, x2, x3⟩ ⟨hx, h1, h2⟩
 exact W.ret ⟨⟨hx.tt, hx.most, hx.l, hx.ge, hx.i⟩, h1, h2⟩
structure CapOk (t : S_tree_Tree) (g : Int → Nat) (S : SC_auto_maker_repeat_1_sIPPPOP) (i : Nat) : Prop where
 node : ∀ (m : S_auto_maker) (j : Nat) (nxt : Int), MOk t m → j < i → j < t.Nodes.length → 0 ≤ nxt ∧ nxt < m.a_.l_.length → m.full_ = false → m.a_.l_.length + g j ≤ 4096 → W (S.M_auto_maker_node_sPPOII m j nxt) (Cap t m.a_.l_.length (g j))
def Cap1Ok (t : S_tree_Tree) (g : Int → Nat) (S : SC_auto_maker_repeat_1_sIPPPOP) (i : Nat) : Prop :=
 ∀ (m : S_auto_maker) (n : S_tree_Node) (nxt : Int), MOk t m → 0 ≤ n.A ∧ n.A < i → i ≤ t.Nodes.length → 0 ≤ nxt ∧ nxt < m.a_.l_.length → m.full_ = false → m.a_.l_.length + g n.A ≤ 4096 → W (S.M_auto_maker_repeat_1_sIPPPOP nxt m n) (Cap t m.a_.l_.length (g n.A))
def repW (g : Int → Nat) (n : S_tree_Node) : Nat := if n.Max ≥ 0 then (g n.A + 1) * n.Max.toNat + 1 else (g n.A + 1) * (n.Min.toNat + 1)
def CapROk (t : S_tree_Tree) (g : Int → Nat) (S : SC_auto_maker_repeat_1_sIPPPOP) (i : Nat) : Prop :=
 ∀ (m : S_auto_maker) (n : S_tree_Node) (nxt : Int), MOk t m → (0 ≤ n.A ∧ n.A < i ∧ 0 ≤ n.Min ∧ n.Min ≤ 255 ∧ (n.Max = -1 ∨ n.Min ≤ n.Max ∧ n.Max ≤ 255)) → i ≤ t.Nodes.length → 0 ≤ nxt ∧ nxt < m.a_.l_.length → m.full_ = false → m.a_.l_.length + repW g n ≤ 4096 → W (S.M_auto_maker_repeat_sPPORI m n nxt) (Cap t m.a_.l_.length (repW g n))
theorem rep1_cap {t : S_tree_Tree} {g : Int → Nat} {S : SC_auto_maker_repeat_1_sIPPPOP} {i : Nat} (R : CapOk t g S i) (m : S_auto_maker) (n : S_tree_Node) (nxt : Int) (hm : MOk t m) (hA : 0 ≤ n.A ∧ n.A < i) (hi : i ≤ t.Nodes.length) (hx : 0 ≤ nxt ∧ nxt < m.a_.l_.length) (hf : m.full_ = false) (hl : m.a_.l_.length + g n.A ≤ 4096) : W (B_auto_maker_repeat_1_sIPPPOP S nxt m n) (Cap t m.a_.l_.length (g n.A)) := by
 unfold B_auto_maker_repeat_1_sIPPPOP
 obtain ⟨j, hj⟩ := Int.eq_ofNat_of_zero_le hA.1
 rw [hj] at hl ⊢
 refine W.bind ((R.node m j nxt hm (by omega) (by omega) hx hf hl).mono ?_)
 rintro ⟨x1, x2, x3⟩ ⟨h, h1, h2⟩
 exact W.ret ⟨⟨h.tt, h.most, h.l, h.ge, h.i⟩, h1, h2⟩
theorem rep_cap {t : S_tree_Tree} {g : Int → Nat} {S : SC_auto_maker_repeat_1_sIPPPOP} {i : Nat} (R0 : Rep1Ok t S i) (R : Cap1Ok t g S i) (m : S_auto_maker) (n : S_tree_Node) (nxt : Int) (hm : MOk t m) (hA : 0 ≤ n.A ∧ n.A < i ∧ 0 ≤ n.Min ∧ n.Min ≤ 255 ∧ (n.Max = -1 ∨ n.Min ≤ n.Max ∧ n.Max ≤ 255)) (hi : i ≤ t.Nodes.length) (hx : 0 ≤ nxt ∧ nxt < m.a_.l_.length) (hf : m.full_ = false) (hcap : m.a_.l_.length + repW g n ≤ 4096) : W (B_auto_maker_repeat_sPPORI S m n nxt) (Cap t m.a_.l_.length (repW g n)) := by
 refine W.both (rep_ok R0 m n nxt hm hA hi hx) ?_
 unfold B_auto_maker_repeat_sPPORI
 obtain ⟨mi, hmi⟩ := Int.eq_ofNat_of_zero_le hA.2.2.1
 generalize hc : g n.A = c at *
 generalize hL : m.a_.l_.length + repW g n = L at *
 let J : Nat → (List S_tree_Node) × Int × Int × Bool × (List S_auto_state) × Int → Prop := fun r s => (⟨s.1, s.2.1⟩ : S_tree_Tree) = t ∧ s.2.2.1 = 4096 ∧ LOk t s.2.2.2.2.1 ∧ s.2.2.2.1 = false ∧ s.2.2.2.2.1.length + r ≤ L ∧ m.a_.l_.length ≤ s.2.2.2.2.1.length ∧ 0 ≤ s.2.2.2.2.2 ∧ s.2.2.2.2.2 < s.2.2.2.2.1.length
 refine W.bind (W.mono (Q := J (mi * c)) ?_ fun s hs => ?_)
 ·refine W.iteP (fun hneg => ?_) fun hpos => ?_
  ·have hr : repW g n = mi * c + (mi + c + 1) := by
    unfold repW
    rw [if_neg (by omega), hc, hmi, Int.toNat_natCast, Nat.mul_succ, Nat.succ_mul, Nat.mul_comm c mi]
    omega
   refine W.bind ((rep2_cap hm hx hx hf (by omega)).mono ?_)
   rintro ⟨x7, x8, x9⟩ ⟨h1, f1, l1⟩
   simp only at f1 l1
   refine W.bind ((R _ n x7 h1.m ⟨hA.1, hA.2.1⟩ hi h1.i f1 (by simp only; omega)).mono ?_)
   rintro ⟨x10, x11, x12⟩ ⟨h2, f2, l2⟩
   simp only at f2 l2
   have hge : x9.length ≤ x12.length := h2.ge
   have hge1 : m.a_.l_.length ≤ x9.length := h1.ge
   have h7 : 0 ≤ x7 ∧ x7 < x9.length := h1.i
   have ht2 : x11.t_ = t := h2.tt
   have hm2 : x11.most_ = 4096 := h2.most
   have hl2 : LOk t x12 := h2.l
   have h10 : 0 ≤ x10 ∧ x10 < x12.length := h2.i
   rw [hc] at l2
   refine W.ite (fun _ => ?_) fun _ => W.ret ⟨by rw [← ht2], hm2, hl2, f2, by simp only; omega, by simp only; omega, by simp only; omega, by simp only; omega⟩
   obtain ⟨k, hk⟩ := Int.eq_ofNat_of_zero_le h7.1
   subst hk
   have hk : k < x12.length := by omega
   rw [ixV_get hk]
   refine W.bind (W.ret (W.ret ⟨by rw [← ht2], hm2, ?_, f2, by simp only [List.length_set]; omega, by simp only [List.length_set]; omega, by simp only; omega, by simp only [List.length_set]; omega⟩))
   refine ⟨by rw [List.length_set]; exact hl2.pos, by rw [List.length_set]; exact hl2.le, fun x hx => ?_⟩
   rw [List.length_set]
   rcases List.mem_or_eq_of_mem_set hx with hx | rfl
   ·exact hl2.st x hx
   ·have := hl2.st _ (List.getElem_mem hk)
    exact ⟨h10, this.b, this.eat⟩
  ·obtain ⟨ma, hma⟩ := Int.eq_ofNat_of_zero_le (show 0 ≤ n.Max by omega)
   have hle : mi ≤ ma := by omega
   have hr : repW g n = (ma - mi) * (c + 1) + mi * c + mi + 1 := by
    unfold repW
    rw [if_pos (by omega), hc, hma, Int.toNat_natCast]
    obtain ⟨d, rfl⟩ : ∃ d, ma = mi + d := ⟨ma - mi, by omega⟩
    rw [show mi + d - mi = d by omega, Nat.mul_add, Nat.mul_comm (c + 1) d, Nat.mul_comm (c + 1) mi, Nat.mul_succ mi c]
    omega
   refine W.bind (W.mono (Q := J (mi * c)) (W.loop (fun s => (∃ j : Nat, s.2.2.2.2.2.2 = ((mi + j : Nat) : Int) ∧ mi + j ≤ 255 ∧ J (j * (c + 1) + mi * c) (s.1, s.2.1, s.2.2.1, s.2.2.2.1, s.2.2.2.2.1, s.2.2.2.2.2.1))) (fun s => (s.2.2.2.2.2.2 - n.Min).toNat) ⟨ma - mi, by simp only; omega, by omega, hm.tt, hm.most, hm.l, hf, by simp only; omega, Nat.le_refl _, hx.1, hx.2⟩ ?_) fun s hs => W.ret hs)
   rintro ⟨x14, x15, x16, x17, x18, x19, x20⟩ ⟨j, hk, hk2, j1, j2, j3, jf, jl, j4, j5, j6⟩
   simp only at j1 j2 j3 j4 j5 j6 jf jl hk
   subst hk
   unfold M_auto_maker_repeat_sPPORI_L0
   refine W.ite (fun hcd => ?_) fun hcd => W.ret ?_
   ·simp only [Bool.and_eq_true, decide_eq_true_eq] at hcd
    obtain ⟨j, rfl⟩ : ∃ j', j = j' + 1 := ⟨j - 1, by omega⟩
    rw [Nat.succ_mul] at jl
    have hM : MOk t ⟨⟨x14, x15⟩, ⟨x18, m.a_.first_⟩, x16, x17⟩ := ⟨j1, j2, j3⟩
    refine W.bind ((R _ n x19 hM ⟨hA.1, hA.2.1⟩ hi ⟨j5, j6⟩ jf (by simp only; omega)).mono ?_)
    rintro ⟨x27, x28, x29⟩ ⟨h1, f1, l1⟩
    simp only at f1 l1
    rw [hc] at l1
    have g1 : x18.length ≤ x29.length := h1.ge
    refine W.bind ((rep2_cap h1.m h1.i (show 0 ≤ nxt ∧ nxt < x29.length by omega) f1 (by simp only; omega)).mono ?_)
    rintro ⟨x30, x31, x32⟩ ⟨h2, f2, l2⟩
    simp only at f2 l2
    have g2 : x29.length ≤ x32.length := h2.ge
    have g3 : 0 ≤ x30 ∧ x30 < x32.length := h2.i
    refine W.ret ⟨⟨j, ?_, by omega, ?_, h2.most, h2.l, f2, by simp only; omega, by simp only; omega, g3.1, g3.2⟩, ?_⟩
    ·simp only; rw [w64 (by omega) (by omega)]; omega
    ·have : x31.t_ = t := h2.tt
     simp only [this]
    ·simp only; rw [w64 (by omega) (by omega)]; omega
   ·exact ⟨j1, j2, j3, jf, by simp only; omega, j4, j5, j6⟩
 ·obtain ⟨x1, x2, x3, x4, x5, x6⟩ := s
  refine W.bind (W.mono (Q := J 0) (W.loop (fun s => (∃ j r : Nat, s.2.2.2.2.2.2 = (j : Int) ∧ j + r = mi ∧ J (r * c) (s.1, s.2.1, s.2.2.1, s.2.2.2.1, s.2.2.2.2.1, s.2.2.2.2.2.1))) (fun s => (n.Min - s.2.2.2.2.2.2).toNat) ⟨0, mi, rfl, by omega, hs⟩ ?_) fun s hs => W.ret ?_)
  ·rintro ⟨x14, x15, x16, x17, x18, x19, x20⟩ ⟨j, r, hk, hk2, j1, j2, j3, jf, jl, j4, j5, j6⟩
   simp only at j1 j2 j3 j4 j5 j6 jf jl hk
   subst hk
   unfold M_auto_maker_repeat_sPPORI_L1
   refine W.ite (fun hcd => ?_) fun hcd => W.ret ⟨j1, j2, j3, jf, by simp only; omega, j4, j5, j6⟩
   simp only [Bool.and_eq_true, decide_eq_true_eq] at hcd
   obtain ⟨r, rfl⟩ : ∃ r', r = r' + 1 := ⟨r - 1, by omega⟩
   rw [Nat.succ_mul] at jl
   have hM : MOk t ⟨⟨x14, x15⟩, ⟨x18, m.a_.first_⟩, x16, x17⟩ := ⟨j1, j2, j3⟩
   refine W.bind ((R _ n x19 hM ⟨hA.1, hA.2.1⟩ hi ⟨j5, j6⟩ jf (by simp only; omega)).mono ?_)
   rintro ⟨x27, x28, x29⟩ ⟨h1, f1, l1⟩
   simp only at f1 l1
   rw [hc] at l1
   have g1 : x18.length ≤ x29.length := h1.ge
   have g3 : 0 ≤ x27 ∧ x27 < x29.length := h1.i
   refine W.ret ⟨⟨j + 1, r, ?_, by omega, ?_, h1.most, h1.l, f1, by simp only; omega, by simp only; omega, g3.1, g3.2⟩, ?_⟩
   ·simp only; rw [w64 (by omega) (by omega)]; omega
   ·have : x28.t_ = t := h1.tt
    simp only [this]
   ·simp only; rw [w64 (by omega) (by omega)]; omega
  ·obtain ⟨x1, x2, x3, x4, x5, x6⟩ := s
   obtain ⟨j1, j2, j3, jf, jl, j4, j5, j6⟩ := hs
   exact ⟨jf, by simp only at jl ⊢; omega⟩
theorem node_cap {t : S_tree_Tree} (T : TreeR t) {g : Int → Nat} {r : Nat} (G : WtOk t g r) {S : SC_auto_maker_repeat_1_sIPPPOP} {j : Nat} (Q1 : RingOk t S j) (Q2 : RepOk t S j) (R : CapOk t g S j) (R2 : CapROk t g S j) (m : S_auto_maker) (nxt : Int) (hm : MOk t m) (hj : j < t.Nodes.length) (hr : j ≤ r) (hx : 0 ≤ nxt ∧ nxt < m.a_.l_.length) (hf : m.full_ = false) (hl : m.a_.l_.length + g j ≤ 4096) : W (B_auto_maker_node_sPPOII S m j nxt) (Cap t m.a_.l_.length (g j)) := by
 refine W.both (node_ok T Q1 Q2 m nxt hm hj hx) ?_
 unfold B_auto_maker_node_sPPOII
 refine W.ite (fun h => by rw [hf] at h; cases h) fun _ => ?_
 have hpos := hm.l.pos
 have em : m.t_.Nodes = t.Nodes := by rw [hm.tt]
 rw [em, ixV_get hj]
 have hn := T.nodes j _ (List.getElem?_eq_getElem hj)
 have hg := G.at_ j _ hr (List.getElem?_eq_getElem hj) (by omega)
 have hg1 := G.pos j hr
 let J : (Unit) ⊕ ((List S_tree_Node) × Int × Int × Bool × (List S_auto_state) × Int) → Prop := fun o => match o with
  | .inl _ => True
  | .inr (x1, x2, x3, x4, x5, x6) => x4 = false ∧ x5.length ≤ m.a_.l_.length + g j
 have back : ∀ {n v : Nat} {x1 : Int} {x2 : S_auto_maker} {x3 : List S_auto_state}, n + v ≤ m.a_.l_.length + g j → Cap t n v (x1, x2, x3) → J (.inr (x2.t_.Nodes, x2.t_.Root, x2.most_, x2.full_, x3, x1)) := by
  intro n v x1 x2 x3 hn h
  have h2 : x3.length ≤ n + v := h.2.2
  exact ⟨h.2.1, by omega⟩
 refine W.bind (W.mono (Q := J) (W.bind (W.ret ?_)) fun o ho => ?_)
 ·simp only [iteB_beq, iteB_bne]
  have hmem := List.getElem_mem hj
  generalize t.Nodes[j] = x7 at hn hmem hg ⊢
  have rn : ∀ (m' : S_auto_maker) (a nx : Int), MOk t m' → 0 ≤ a ∧ a < j → 0 ≤ nx ∧ nx < m'.a_.l_.length → m'.full_ = false → m'.a_.l_.length + g a ≤ 4096 → W (S.M_auto_maker_node_sPPOII m' a nx) (Cap t m'.a_.l_.length (g a)) := by
   intro m' a nx h1 h2 h3 h4 h5
   obtain ⟨k, rfl⟩ := Int.eq_ofNat_of_zero_le h2.1
   exact R.node m' k nx h1 (by omega) (by omega) h3 h4 h5
  have z0 : (0 : Int) ≤ 0 ∧ (0 : Int) < m.a_.l_.length := ⟨Int.le_refl _, by omega⟩
  unfold wtF at hg
  split
  ·rename_i hk
   refine W.bind ((lay_cap hm ⟨hx, z0, fun _ => ⟨x7, hmem, hk, rfl⟩⟩ hf (by omega)).mono ?_)
   rintro ⟨a1, a2, a3⟩ h
   exact W.ret (back (by omega) h)
  split
  ·refine W.bind ((lay_cap hm (free_ok (by decide) hx z0) hf (by omega)).mono ?_)
   rintro ⟨a1, a2, a3⟩ h
   exact W.ret (back (by omega) h)
  split
  ·refine W.bind ((lay_cap hm (free_ok (by decide) hx z0) hf (by omega)).mono ?_)
   rintro ⟨a1, a2, a3⟩ h
   exact W.ret (back (by omega) h)
  split
  ·rename_i hk
   have hab := hn.1 (.inl hk)
   rw [if_pos hk] at hg
   refine W.bind ((rn m x7.B nxt hm ⟨hab.2.2.1, hab.2.2.2⟩ hx hf (by omega)).mono ?_)
   rintro ⟨a1, a2, a3⟩ ⟨h, f1, l1⟩
   simp only at f1 l1
   refine W.bind ((rn _ x7.A a1 h.m ⟨hab.1, hab.2.1⟩ h.i f1 (by simp only; omega)).mono ?_)
   rintro ⟨b1, b2, b3⟩ h'
   exact W.ret (back (by simp only; omega) h')
  split
  ·rename_i hk2 hk
   have hab := hn.1 (.inr hk)
   rw [if_neg hk2, if_pos hk] at hg
   refine W.bind ((rn m x7.A nxt hm ⟨hab.1, hab.2.1⟩ hx hf (by omega)).mono ?_)
   rintro ⟨a1, a2, a3⟩ ⟨h, f1, l1⟩
   simp only at f1 l1
   have g1 : m.a_.l_.length ≤ a3.length := h.ge
   have i1 : 0 ≤ a1 ∧ a1 < a3.length := h.i
   refine W.bind ((rn _ x7.B nxt h.m ⟨hab.2.2.1, hab.2.2.2⟩ (show 0 ≤ nxt ∧ nxt < a3.length by omega) f1 (by simp only; omega)).mono ?_)
   rintro ⟨b1, b2, b3⟩ ⟨h', f2, l2⟩
   simp only at f2 l2
   have g2 : a3.length ≤ b3.length := h'.ge
   have i2 : 0 ≤ b1 ∧ b1 < b3.length := h'.i
   refine W.bind ((lay_cap h'.m (free_ok (n := b3.length) (by decide) (show 0 ≤ a1 ∧ a1 < b3.length by omega) i2) f2 (by simp only; omega)).mono ?_)
   rintro ⟨c1, c2, c3⟩ h''
   exact W.ret (back (by simp only; omega) h'')
  split
  ·rename_i hk2 hk3 hk
   rw [if_neg hk2, if_neg hk3, if_neg (by omega), if_pos hk] at hg
   refine W.bind ((rn m x7.A nxt hm (hn.2.2 hk) hx hf (by omega)).mono ?_)
   rintro ⟨a1, a2, a3⟩ h
   exact W.ret (back (by omega) h)
  split
  ·rename_i hk2 hk3 hk5 hk
   split
   ·exact W.ret trivial
   ·rw [if_neg hk2, if_neg hk3, if_pos hk] at hg
    refine W.bind ((R2 m x7 nxt hm (hn.2.1 hk) (by omega) hx hf (by unfold repW; omega)).mono ?_)
    rintro ⟨a1, a2, a3⟩ h
    exact W.ret (back (by unfold repW; omega) h)
  ·exact W.ret trivial
 ·cases o with
  | inl u =>
   refine W.bind ((lay_cap hm (free_ok (by decide) hx hx) hf (by omega)).mono ?_)
   rintro ⟨x1, x2, x3⟩ ⟨h, h1, h2⟩
   exact W.ret ⟨h1, by simp only at h2 ⊢; omega⟩
  | inr p =>
   obtain ⟨x1, x2, x3, x4, x5, x6⟩ := p
   exact W.ret ho
theorem ring_cap {t : S_tree_Tree} (T : TreeR t) {g : Int → Nat} {r : Nat} (G : WtOk t g r) : ∀ (i n : Nat), 3 * i ≤ n → i ≤ r + 1 → CapOk t g (rSC_auto_maker_repeat_1_sIPPPOP n) i
 | 0, n, _, _ => ⟨fun m j nxt _ hj => absurd hj (Nat.not_lt_zero _)⟩
 | i + 1, n, hn, hi => by
  refine ⟨fun m j nxt hm hj hl hx hf hc => ?_⟩
  obtain ⟨k, rfl⟩ : ∃ k, n = k + 3 := ⟨n - 3, by omega⟩
  have up : ∀ {S : SC_auto_maker_repeat_1_sIPPPOP}, CapOk t g S i → CapOk t g S j := fun h => ⟨fun m j' nxt hm hj' => h.node m j' nxt hm (by omega)⟩
  have upR : ∀ {S : SC_auto_maker_repeat_1_sIPPPOP}, RingOk t S i → RingOk t S j := fun h => ⟨fun m j' nxt hm hj' => h.node m j' nxt hm (by omega)⟩
  have q0 : RingOk t (rSC_auto_maker_repeat_1_sIPPPOP k) j := upR (ring_ok T i k (by omega))
  have q2 : RingOk t (rSC_auto_maker_repeat_1_sIPPPOP (k + 2)) j := upR (ring_ok T i (k + 2) (by omega))
  have w1 : Rep1Ok t (rSC_auto_maker_repeat_1_sIPPPOP (k + 1)) j := fun m n nxt a b c d => rep1_ok q0 m n nxt a b c d
  have w2 : RepOk t (rSC_auto_maker_repeat_1_sIPPPOP (k + 2)) j := fun m n nxt a b c d => rep_ok w1 m n nxt a b c d
  have r0 : CapOk t g (rSC_auto_maker_repeat_1_sIPPPOP k) j := up (ring_cap T G i k (by omega) (by omega))
  have r2 : CapOk t g (rSC_auto_maker_repeat_1_sIPPPOP (k + 2)) j := up (ring_cap T G i (k + 2) (by omega) (by omega))
  have p1 : Cap1Ok t g (rSC_auto_maker_repeat_1_sIPPPOP (k + 1)) j := fun m n nxt a b c d e f => rep1_cap r0 m n nxt a b c d e f
  have p2 : CapROk t g (rSC_auto_maker_repeat_1_sIPPPOP (k + 2)) j := fun m n nxt a b c d e f => rep_cap w1 p1 m n nxt a b c d e f
  exact node_cap T G q2 w2 r2 p2 m nxt hm hl (by omega) hx hf hc
theorem build_cap (t : S_tree_Tree) (hr : M_tree_Tree_Right t = some true) {g : Int → Nat} (G : WtOk t g t.Root.toNat) (hw : g t.Root ≤ 4095) : W (M_auto_Build t 4096) fun r => ∃ a, r = (some a, 0) ∧ a.l_.length ≤ g t.Root + 1 := by
 unfold M_auto_Build
 refine W.ite (fun h => absurd h (by decide)) fun _ => ?_
 have T : TreeR t := by
  obtain ⟨b, e, q⟩ := right_ok t
  rw [hr] at e
  cases e
  exact q rfl
 rw [hr, Option.bind_some, Bool.not_true, iteB_false]
 have hl : W (M_auto_maker_lay_sPPOR (⟨t, (⟨([] : List S_auto_state), (0 : Int)⟩ : S_auto_Auto), 4096, false⟩ : S_auto_maker) (⟨(0 : Int), (0 : Int), (0 : Int), (⟨(0 : Int), (0 : Int), (0 : Int), (0 : Int)⟩ : A4_uint64)⟩ : S_auto_state)) (fun r => Laid t 1 r ∧ r.2.1.full_ = false ∧ r.2.2.length = 1) := by
  unfold M_auto_maker_lay_sPPOR
  refine W.ite (fun h => absurd h (by simp)) fun _ => W.need (okN_of (by simp) (by simp)) (W.ret ⟨⟨rfl, rfl, ⟨by simp, by simp, fun s hs => ?_⟩, by simp, by simp [IntKind.wrap_i64]⟩, by simp, by simp⟩)
  have : s = ⟨0, 0, 0, ⟨0, 0, 0, 0⟩⟩ := by simpa using hs
  subst this
  exact ⟨by simp, by simp, fun h => absurd h (by decide)⟩
 refine W.bind (hl.mono ?_)
 rintro ⟨x2, x3, x4⟩ ⟨h1, f1, l1⟩
 simp only at f1 l1
 obtain ⟨r, hr⟩ := Int.eq_ofNat_of_zero_le T.root.1
 have hb : r < t.Nodes.length := by have := T.root.2; omega
 rw [hr] at G hw ⊢
 rw [Int.toNat_natCast] at G
 have hR := (ring_cap T G (r + 1) bigF (by rw [bigF_eq]; have := T.len; omega) (Nat.le_refl _)).node _ r x2 (h1.m (f := 0)) (by omega) hb h1.i f1 (by simp only; omega)
 unfold M_auto_maker_node_sPPOII
 refine W.bind (hR.mono ?_)
 rintro ⟨x5, x6, x7⟩ ⟨h2, f2, l2⟩
 simp only at f2 l2
 refine W.ite (fun h => by rw [f2] at h; cases h) fun _ => W.ret ⟨_, rfl, by simp only; omega⟩
end Go.Av.L
