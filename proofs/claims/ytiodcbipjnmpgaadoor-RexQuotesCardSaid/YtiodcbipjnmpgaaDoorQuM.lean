/-
  RexQuotes: what a tree of bytes in a row matches.
-/
import Derived.Test.YtiodcbipjnmpgaaDoorK0
import Derived.Test.YtiodcbipjnmpgaaDoorK1
import Derived.Test.YtiodcbipjnmpgaaDoorK2
import Derived.Test.YtiodcbipjnmpgaaDoorK3
import Derived.Test.YtiodcbipjnmpgaaDoorK4
import Derived.Test.YtiodcbipjnmpgaaDoorAvNum
import Derived.Test.YtiodcbipjnmpgaaDoorAvSm
namespace Go.Av.L
open Go.Av Go.Lib
set_option linter.unusedVariables false
set_option linter.unusedSimpArgs false
section
variable {K V : Type} [DecidableEq K]
theorem mfind_mput (m : List (K × V)) (k : K) (v : V) (n : K) : mfind (mput m k v) n = if n = k then some v else mfind m n := by
 induction m with
 | nil => simp [mput, mfind]
 | cons p m ih =>
  obtain ⟨k', v'⟩ := p
  unfold mput
  by_cases h : k = k'
  ·subst h; simp only [if_true, mfind]; by_cases h2 : n = k <;> simp [h2]
  ·rw [if_neg h]; simp only [mfind, ih]
   by_cases h2 : n = k'
   ·subst h2; simp [Ne.symm h]
   ·simp [h2]
end
def Just (st : A4_uint64) (b : UInt8) : Prop := ∀ c : UInt8, M_class_Set_Has st (c.toNat : Int) = some (c == b)
inductive Sp (nodes : List S_tree_Node) : Nat → List UInt8 → Prop
 | emp {i : Nat} : nodes[i]? = some ⟨0, 0, 0, 0, 0, 0, ⟨0, 0, 0, 0⟩⟩ → Sp nodes i []
 | one {i : Nat} {st : A4_uint64} {b : UInt8} : nodes[i]? = some ⟨1, 0, 0, 0, 0, 0, st⟩ → Just st b → Sp nodes i [b]
 | cat {i a c : Nat} {u v : List UInt8} : nodes[i]? = some ⟨2, (a : Int), (c : Int), 0, 0, 0, ⟨0, 0, 0, 0⟩⟩ → a < i → c < i → Sp nodes a u → Sp nodes c v → Sp nodes i (u ++ v)
theorem Sp.up {nodes : List S_tree_Node} {i : Nat} {u : List UInt8} (h : Sp nodes i u) (z : List S_tree_Node) : Sp (nodes ++ z) i u := by
 have up : ∀ {i : Nat} {n : S_tree_Node}, nodes[i]? = some n → (nodes ++ z)[i]? = some n := fun {i n} h => by
  rw [List.getElem?_append_left (List.getElem?_eq_some_iff.1 h).1]; exact h
 induction h with
 | emp h => exact .emp (up h)
 | one h j => exact .one (up h) j
 | cat h h1 h2 _ _ i1 i2 => exact .cat (up h) h1 h2 i1 i2
def T (x u : List UInt8) (i j : Nat) : Bool := decide (j = i + u.length ∧ (x.drop i).take u.length = u)
theorem T_iff {x u : List UInt8} {i j : Nat} : T x u i j = true ↔ j = i + u.length ∧ (x.drop i).take u.length = u := by unfold T; exact decide_eq_true_iff
theorem T_cat {x u v : List UInt8} {i j : Nat} : T x (u ++ v) i j = true ↔ T x u i (i + u.length) = true ∧ T x v (i + u.length) j = true := by
 rw [T_iff, T_iff, T_iff, List.length_append]
 constructor
 ·rintro ⟨h1, h2⟩
  have e1 : (x.drop i).take u.length = u := by
   have := congrArg (List.take u.length) h2
   rw [List.take_take, List.take_left, Nat.min_eq_left (Nat.le_add_right _ _)] at this
   exact this
  refine ⟨⟨rfl, e1⟩, by omega, ?_⟩
  have := congrArg (List.drop u.length) h2
  rw [List.drop_left, List.drop_take, List.drop_drop, Nat.add_sub_cancel_left] at this
  exact this
 ·rintro ⟨⟨_, h1⟩, h2, h3⟩
  refine ⟨by omega, ?_⟩
  rw [List.take_add, h1, List.drop_drop, h3]
theorem T_len {x u : List UInt8} {i j : Nat} (h : T x u i j = true) : j = i + u.length := (T_iff.1 h).1
def Mem (nodes : List S_tree_Node) (x : List UInt8) (told : List (S_tree_question × Bool)) : Prop :=
 ∀ (a i j : Nat) (v : Bool), mfind told ⟨(a : Int), 0, (i : Int), (j : Int)⟩ = some v → ∀ u, Sp nodes a u → v = T x u i j
def AskOk (nodes : List S_tree_Node) (x : List UInt8) (root : Int) (S : SC_tree_asker_does_1_sIIIPP) (a : Nat) : Prop :=
 ∀ (told : List (S_tree_question × Bool)) (i j : Nat) (u : List UInt8), Mem nodes x told → Sp nodes a u → i ≤ j → j ≤ x.length → W (S.M_tree_asker_asks ⟨⟨nodes, root⟩, x, told⟩ ⟨(a : Int), 0, (i : Int), (j : Int)⟩) fun r => r.1 = T x u i j ∧ Mem nodes x r.2
theorem ask_ok {nodes : List S_tree_Node} {x : List UInt8} (hx : x.length ≤ 1000) (root : Int) (uniq : ∀ a u v, Sp nodes a u → Sp nodes a v → u = v) : ∀ (a n : Nat), 6 * (a + 1) ≤ n → AskOk nodes x root (rSC_tree_asker_does_1_sIIIPP n) a := by
 intro a
 induction a using Nat.strongRecOn with
 | _ a ih =>
  intro n hn told i j u hM hS hij hj
  obtain ⟨k, rfl⟩ : ∃ k, n = k + 6 := ⟨n - 6, by omega⟩
  show W (B_tree_asker_asks (rSC_tree_asker_does_1_sIIIPP (k + 5)) _ _) _
  unfold B_tree_asker_asks
  cases hf : mfind told ⟨(a : Int), 0, (i : Int), (j : Int)⟩ with
  | some v =>
   simp only [hf]
   exact W.ret ⟨hM a i j v hf u hS, hM⟩
  | none =>
   simp only [hf]
   rw [Option.isSome_none, iteB_false]
   have fin : ∀ {b : Bool} {m : List (S_tree_question × Bool)}, b = T x u i j → Mem nodes x m → Mem nodes x (mput m ⟨(a : Int), 0, (i : Int), (j : Int)⟩ b) := by
    intro b m hb hm a' i' j' v hv w hw
    rw [mfind_mput] at hv
    split at hv
    ·rename_i e
     have e1 : (a' : Int) = a := congrArg S_tree_question.node_ e
     have e2 : (i' : Int) = i := congrArg S_tree_question.i_ e
     have e3 : (j' : Int) = j := congrArg S_tree_question.j_ e
     obtain rfl : a' = a := by omega
     obtain rfl : i' = i := by omega
     obtain rfl : j' = j := by omega
     cases hv
     rw [hb, uniq a' u w hS hw]
    ·exact hm a' i' j' v hv w hw
   refine W.bind (W.mono (Q := fun r => r.1 = T x u i j ∧ Mem nodes x r.2) ?_ fun r hr => ?_)
   rotate_left
   ·obtain ⟨b, m⟩ := r
    obtain ⟨h1, h2⟩ := hr
    exact W.ret ⟨h1, fin h1 h2⟩
   show W (B_tree_asker_does (rSC_tree_asker_does_1_sIIIPP (k + 4)) _ _) _
   unfold B_tree_asker_does
   simp only []
   cases hS with
   | emp h =>
    rw [ixV_nat h, Option.bind_some]
    simp only []
    rw [show ((0 : Int) == 0) = true from rfl, iteB_true]
    refine W.ret ⟨?_, hM⟩
    rw [Bool.eq_iff_iff, T_iff]
    simp
    omega
   | one h hJ =>
    rename_i st b
    rw [ixV_nat h, Option.bind_some]
    simp only []
    rw [show ((1 : Int) == 0) = false from rfl, iteB_false, show ((1 : Int) == 1) = true from rfl, iteB_true, ek64 (by omega), show (((j : Nat) : Int) == ((i + 1 : Nat) : Int)) = decide (j = i + 1) from beqN j (i + 1)]
    refine W.bind (W.mono (Q := fun r => r = T x [b] i j) (W.iteP (fun hji => ?_) fun hji => W.ret ?_) fun r hr => W.ret ⟨hr, hM⟩)
    ·have hi : i < x.length := by omega
     rw [ixS_get hi, Option.bind_some, hJ, Option.bind_some]
     refine W.ret ?_
     have e1 : (x.drop i).take 1 = [x[i]] := by rw [drop_cons hi]; rfl
     rw [Bool.eq_iff_iff, T_iff, List.length_singleton, e1]
     simp [hji]
    ·symm
     rw [Bool.eq_false_iff]
     intro h
     have := T_len h
     simp at this
     exact hji this
   | cat h h1 h2 hu hv =>
    rename_i a1 c1 u v
    rw [ixV_nat h, Option.bind_some]
    simp only []
    rw [show ((2 : Int) == 0) = false from rfl, iteB_false, show ((2 : Int) == 1) = false from rfl, iteB_false, show ((2 : Int) == 6) = false from rfl, iteB_false, show ((2 : Int) == 7) = false from rfl, iteB_false, show ((2 : Int) == 3) = false from rfl, iteB_false, show ((2 : Int) == 5) = false from rfl, iteB_false, show ((2 : Int) == 2) = true from rfl, iteB_true]
    refine W.bind (W.mono (Q := fun r => r.1 = T x (u ++ v) i j ∧ Mem nodes x r.2) ?_ fun r hr => by obtain ⟨b, m⟩ := r; exact W.ret hr)
    show W (B_tree_asker_cut_sPRFPFPe0PPFe2e4e5 (rSC_tree_asker_does_1_sIIIPP (k + 3)) _ _ _ _) _
    unfold B_tree_asker_cut_sPRFPFPe0PPFe2e4e5
    have q1 := ih a1 h1 (k + 1) (by omega)
    have q2 := ih c1 h2 (k + 1) (by omega)
    refine W.bind (W.mono (W.loop (fun s => ∃ p : Nat, s.2 = (p : Int) ∧ i ≤ p ∧ p ≤ j + 1 ∧ Mem nodes x s.1 ∧ ∀ q : Nat, i ≤ q → q < p → ¬ (T x u i q = true ∧ T x v q j = true)) (fun s => ((j : Int) + 1 - s.2).toNat) ⟨i, rfl, Nat.le_refl _, by omega, hM, fun q h1 h2 => by omega⟩ ?_ (Q := fun o => match o with
     | .inl m => Mem nodes x m ∧ T x (u ++ v) i j = false
     | .inr (m, b) => b = true ∧ Mem nodes x m ∧ T x (u ++ v) i j = true)) fun o ho => ?_)
    ·rintro ⟨m, p'⟩ ⟨p, hp, hp1, hp2, hm, hno⟩
     simp only at hp hm
     subst hp
     unfold M_tree_asker_cut_sPRFPFPe0PPFe2e4e5_L0
     refine W.iteP (fun hle => ?_) fun hgt => W.ret ⟨hm, ?_⟩
     ·simp only at hle
      have hpj : p ≤ j := by omega
      have nxt : ¬ (T x u i p = true ∧ T x v p j = true) → ∀ q : Nat, i ≤ q → q < p + 1 → ¬ (T x u i q = true ∧ T x v q j = true) := by
       intro hn' q h1 h2
       by_cases e : q = p
       ·subst e; exact hn'
       ·exact hno q h1 (by omega)
      refine W.bind (W.mono (Q := fun r => r.1 = T x u i p ∧ Mem nodes x r.2) ?_ fun r hr => ?_)
      ·show W (B_tree_asker_does_2_sIPFPPPP (rSC_tree_asker_does_1_sIIIPP (k + 2)) _ _ _ _) _
       unfold B_tree_asker_does_2_sIPFPPPP
       refine W.bind (W.mono (Q := fun r => r.1 = T x u i p ∧ Mem nodes x r.2) ?_ fun r hr => by obtain ⟨b, m⟩ := r; exact W.ret hr)
       show W (B_tree_asker_does_1_sIIIPP (rSC_tree_asker_does_1_sIIIPP (k + 1)) _ _ _ _) _
       unfold B_tree_asker_does_1_sIIIPP
       refine W.bind ((q1 m i p u hm hu hp1 (by omega)).mono fun r hr => by obtain ⟨b, m⟩ := r; exact W.ret hr)
      ·obtain ⟨b, m1⟩ := r
       obtain ⟨hb, hm1⟩ := hr
       simp only at hb hm1
       simp only []
       refine W.bind (W.mono (Q := fun r => r.2 = (T x u i p && T x v p j) ∧ Mem nodes x r.1) (W.ite (fun hbt => ?_) fun hbf => W.ret ⟨?_, hm1⟩) fun r hr => ?_)
       ·refine W.bind (W.mono (Q := fun r => r.1 = T x v p j ∧ Mem nodes x r.2) ?_ fun r hr => ?_)
        ·show W (B_tree_asker_does_3_sIPFPPPP (rSC_tree_asker_does_1_sIIIPP (k + 2)) _ _ _ _) _
         unfold B_tree_asker_does_3_sIPFPPPP
         refine W.bind (W.mono (Q := fun r => r.1 = T x v p j ∧ Mem nodes x r.2) ?_ fun r hr => by obtain ⟨b, m⟩ := r; exact W.ret hr)
         show W (B_tree_asker_does_1_sIIIPP (rSC_tree_asker_does_1_sIIIPP (k + 1)) _ _ _ _) _
         unfold B_tree_asker_does_1_sIIIPP
         refine W.bind ((q2 m1 p j v hm1 hv hpj hj).mono fun r hr => by obtain ⟨b, m⟩ := r; exact W.ret hr)
        ·obtain ⟨b2, m2⟩ := r
         obtain ⟨h1, h2⟩ := hr
         refine W.ret ⟨?_, h2⟩
         simp only at h1
         rw [h1, ← hb, hbt, Bool.true_and]
       ·rw [← hb, hbf, Bool.false_and]
       ·obtain ⟨m2, b2⟩ := r
        obtain ⟨hb2, hm2⟩ := hr
        simp only at hb2 hm2
        simp only []
        refine W.ite (fun ht => W.ret ⟨rfl, hm2, ?_⟩) fun hfl => W.ret ⟨⟨p + 1, by simp only; exact ek64 (by omega), by omega, by omega, hm2, nxt ?_⟩, by simp only; rw [ek64 (by omega)]; omega⟩
        ·rw [hb2, Bool.and_eq_true] at ht
         have e := T_len ht.1
         subst e
         exact T_cat.2 ht
        ·rw [← Bool.and_eq_true, ← hb2, hfl]; exact Bool.false_ne_true
     ·simp only at hgt
      rw [Bool.eq_false_iff]
      intro ht
      obtain ⟨t1, t2⟩ := T_cat.1 ht
      have e := T_len t2
      exact hno (i + u.length) (by omega) (by omega) ⟨t1, t2⟩
    ·cases o with
     | inl m => exact W.ret ⟨ho.2.symm, ho.1⟩
     | inr r =>
      obtain ⟨m, b⟩ := r
      obtain ⟨rfl, h1, h2⟩ := ho
      exact W.ret ⟨h2.symm, h1⟩
theorem Sp.uniq {nodes : List S_tree_Node} : ∀ (a : Nat) (u v : List UInt8), Sp nodes a u → Sp nodes a v → u = v := by
 intro a u v hu
 induction hu generalizing v with
 | emp h =>
  intro hv
  cases hv with
  | emp _ => rfl
  | one h' _ => rw [h] at h'; cases h'
  | cat h' _ _ _ _ => rw [h] at h'; simp at h'
 | @one i st b h j =>
  intro hv
  cases hv with
  | emp h' => rw [h] at h'; cases h'
  | @one _ st' b' h' j' =>
   rw [h] at h'
   cases h'
   have h1 := j b
   have h2 := j' b
   rw [h1] at h2
   have h3 := Option.some.inj h2
   rw [beq_self_eq_true] at h3
   rw [eq_of_beq h3.symm]
  | cat h' _ _ _ _ => rw [h] at h'; simp at h'
 | @cat i a c u v h h1 h2 _ _ i1 i2 =>
  intro hv
  cases hv with
  | emp h' => rw [h] at h'; simp at h'
  | one h' _ => rw [h] at h'; simp at h'
  | @cat _ a' c' u' v' h' h1' h2' hu' hv' =>
   rw [h] at h'
   simp only [Option.some.injEq, S_tree_Node.mk.injEq, true_and, and_true] at h'
   obtain ⟨e1, e2⟩ := h'
   obtain rfl : a = a' := by omega
   obtain rfl : c = c' := by omega
   rw [i1 _ hu', i2 _ hv']
theorem matches_ok {nodes : List S_tree_Node} {r : Nat} {u : List UInt8} (hr : M_tree_Tree_Right ⟨nodes, r⟩ = some true) (hS : Sp nodes r u) (hn : nodes.length ≤ 1024) (x : List UInt8) (hx : x.length ≤ 1000) :
  M_tree_Tree_Matches ⟨nodes, r⟩ x 0 x.length = some (u == x) := by
 refine W.eq ?_
 unfold M_tree_Tree_Matches
 rw [hr, Option.bind_some]
 refine W.ite (fun hb => ?_) fun _ => ?_
 ·simp at hb; omega
 have hrl : r < nodes.length := by
  cases hS with
  | emp h => exact (List.getElem?_eq_some_iff.1 h).1
  | one h _ => exact (List.getElem?_eq_some_iff.1 h).1
  | cat h _ _ _ _ => exact (List.getElem?_eq_some_iff.1 h).1
 have h := ask_ok hx r Sp.uniq r bigF (by rw [bigF_eq]; omega) [] 0 x.length u (fun a i j v h => by cases h) hS (Nat.zero_le _) (Nat.le_refl _)
 unfold M_tree_asker_asks
 refine W.bind (h.mono ?_)
 rintro ⟨b, m⟩ ⟨hb, _⟩
 refine W.ret ?_
 simp only at hb
 rw [hb, Bool.eq_iff_iff, T_iff]
 simp only [Nat.zero_add, List.drop_zero, beq_iff_eq]
 constructor
 ·rintro ⟨h1, h2⟩
  rw [← h2, ← h1, List.take_length]
 ·rintro rfl
  exact ⟨rfl, List.take_length⟩
end Go.Av.L
