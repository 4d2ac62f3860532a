/-
  TREE: putting nodes in; right trees; as many nodes as may be.
-/
import Derived.Test.YtmjljpnalhknfaaDoorTreeMay
import Derived.Test.YtmjljpnalhknfaaDoorLlaw18x1
namespace Go.Abs.L
open Go.Abs
set_option linter.unusedVariables false
set_option linter.unusedSimpArgs false

theorem szNode : szOf cfg.P 30 = some 10 := by kernel_rfl
/-- a tree that grows, from heap h0 on -/
def TreeO (g : Gd) (h0 h : AHeap) (id : Nat) (ns : List Nd) (root : Int) : Prop :=
  ∃ s : Sl, h.get id = some (.cells none 2 [s.v, .int .i64 root]) ∧ Own g h 30 10 s (ns.flatMap nodeC) ∧ (∀ i, s.id? = some i → id < i) ∧ Same (· < id) h0 h ∧ s.n = ns.length
theorem TreeO.lt {g : Gd} {h0 h : AHeap} {id : Nat} {ns : List Nd} {root : Int} (t : TreeO g h0 h id ns root) : id < h.size := by obtain ⟨s, h1, _⟩ := t; exact h.lt_of_get h1
theorem TreeO.keep {g : Gd} {h0 h h' : AHeap} {id : Nat} {ns : List Nd} {root : Int} (t : TreeO g h0 h id ns root) (k : Only none h h') : TreeO g h0 h' id ns root := by
  have hlt := t.lt
  obtain ⟨s, h1, h2, h3, h4, h5⟩ := t
  exact ⟨s, k.keep h1 (by simp), h2.keep fun i hi => k.get i (h2.lt hi) (by simp), h3, h4.trans (k.same fun i hi => ⟨by omega, by simp⟩), h5⟩
theorem flat_node (m : List Nd) (p : Nd) : (m ++ [p]).flatMap nodeC = m.flatMap nodeC ++ nodeC p := by simp
/-- what 'Add' answers, and the tree behind it -/
def addR (ns : List Nd) (root : Int) (n : Nd) : (Int × Int) × List Nd × Int :=
  if ns.length ≥ 1024 then ((0, 8), ns, root)
  else if mayF n ns.length = true then (((ns.length : Int), 0), ns ++ [n], (ns.length : Int)) else ((0, 1), ns, root)
theorem add_spec {g : Gd} {h0 h : AHeap} {id : Nat} {ns : List Nd} {root : Int} (t : TreeO g h0 h id ns root) (hm : g.may id = true) (hfl : g.floor ≤ id) (hpr : g.prot = []) (n : Nd) (hb : ns.length ≤ 100000) :
    W (M_tree_Tree_Add g h (some (id, 0)) (nodeC n)) fun r => r.1 = (addR ns root n).1 ∧ TreeO g h0 r.2 id (addR ns root n).2.1 (addR ns root n).2.2 ∧ h.size ≤ r.2.size ∧ ∀ i cs, i ≠ id → h.get i = some (.cells none 2 cs) → r.2.get i = some (.cells none 2 cs) := by
  have hid := t.lt
  unfold M_tree_Tree_Add
  refine W.need rfl ?_
  simp only [Option.bind_some]
  obtain ⟨h1, e1⟩ : ∃ h1, h1 = h.push (.cells none 2 (nodeC n)) := ⟨_, rfl⟩
  have z1 : h1.size = h.size + 1 := by rw [e1]; rfl
  have k1 : Only none h h1 := by rw [e1]; exact Only.push _ _ _
  have g1 : h1.get h.size = some (.cells none 2 (nodeC n)) := by rw [e1, AHeap.get_push_new]
  rw [← e1]
  have t1 := t.keep k1
  have hid1 := t1.lt
  have tt := t1
  obtain ⟨s, gt, ot, ft, st', nt⟩ := t1
  have ls : ldL h1 (id, 0 + 0) = some s := ldL_of gt (by simp) rfl
  have lA : ldA h1 (h.size, 0) 10 = some (nodeC n) := by rw [ldA_of g1 (by simp) (Nat.le_refl 10)]; rfl
  simp only [ls, lA, Option.bind_some, may_eq]
  unfold addR
  refine W.iteP (fun hge => ?_) (fun hlt => ?_)
  · rw [if_pos (by omega)]
    exact W.ret ⟨rfl, tt, by dsimp only; omega, fun i cs hi hg => k1.keep hg (by simp)⟩
  rw [if_neg (by omega), nt]
  refine W.ite (fun hn => ?_) (fun hy => ?_)
  · rw [if_neg (by rw [Bool.not_eq_true]; simpa using hn)]
    exact W.ret ⟨rfl, tt, by dsimp only; omega, fun i cs hi hg => k1.keep hg (by simp)⟩
  · rw [if_pos (by simpa using hy)]
    refine W.need rfl ?_
    have hpush := ot.keep (h' := h1.push (.cells (some 30) 2 (nodeC n))) fun j hj => AHeap.get_push_old _ _ (ot.lt hj)
    obtain ⟨s', h3, ea, oa, na, ka, ra, za⟩ := hpush.app (bytes := 80) (n := 1) (x := .slice (some (h1.size, 0)) 1) (new := nodeC n) (by
      unfold Abs.firstA
      simp only [Nat.one_ne_zero, if_false, AHeap.get_push_new]
      rw [cellsAt_of (by simp) (Nat.le_refl 10)]
      rfl) rfl rfl (by omega) (by omega) (by omega) (by simp; omega) (by simp [hpr])
    rw [ea]
    simp only [Option.bind_some]
    have g3 : h3.get id = some (.cells none 2 [s.v, .int .i64 root]) := by
      rw [ka.get id (by simp; omega) (fun hx => by have := ft id hx.symm; omega), AHeap.get_push_old _ _ hid1]
      exact gt
    have hid3 := h3.lt_of_get g3
    have r3 : s'.id? = some (h1.size + 1) := by simp [Sl.id?, ra]
    rw [st_of g3 hm (by simp) rfl]
    simp only [Option.bind_some]
    have g4 : (h3.set id (.cells none 2 (splice [s.v, .int .i64 root] 0 [s'.v]))).get id = some (.cells none 2 [s'.v, .int .i64 root]) := AHeap.get_set_same _ _ hid3
    have l4 : ldL (h3.set id (.cells none 2 (splice [s.v, .int .i64 root] 0 [s'.v]))) (id, 0 + 0) = some s' := ldL_of g4 (by simp) rfl
    rw [l4]
    simp only [Option.bind_some]
    rw [st_of g4 hm (by simp) rfl]
    simp only [Option.bind_some]
    have en : IntKind.i64.wrap (((s'.n : Nat) : Int) - 1) = (ns.length : Int) := by rw [na, nt, w64 (by omega) (by omega)]; omega
    rw [en]
    obtain ⟨h5, e5⟩ : ∃ h5, h5 = (h3.set id (.cells none 2 (splice [s.v, .int .i64 root] 0 [s'.v]))).set id (.cells none 2 (splice [s'.v, .int .i64 root] (0 + 1) [.int .i64 (ns.length : Int)])) := ⟨_, rfl⟩
    have hid4 := AHeap.lt_of_get _ g4
    have g5 : h5.get id = some (.cells none 2 [s'.v, .int .i64 (ns.length : Int)]) := by rw [e5, AHeap.get_set_same _ _ hid4]; rfl
    have o5 : ∀ j, j ≠ id → h5.get j = h3.get j := fun j hj => by rw [e5, AHeap.get_set_ne _ _ hid4 hj, AHeap.get_set_ne _ _ hid3 hj]
    have z5 : h5.size = h3.size := by rw [e5]; rfl
    rw [← e5]
    have l5 : ldI h5 (id, 0 + 1) .i64 = some (ns.length : Int) := ldI_of g5 (by simp) rfl
    rw [l5]
    refine W.ret ⟨rfl, ⟨s', g5, ?_, ?_, ?_, ?_⟩, ?_, ?_⟩
    · dsimp only
      rw [flat_node]
      exact oa.keep fun j hj => o5 j (by rw [r3] at hj; have := Option.some.inj hj; omega)
    · intro j hj
      rw [r3] at hj; have := Option.some.inj hj; omega
    · refine st'.trans fun j hj => ?_
      dsimp only
      rw [o5 j (by omega), ka.get j (by simp; omega) (fun hx => by have := ft j hx.symm; omega), AHeap.get_push_old _ _ (by omega)]
    · rw [na, nt]; simp
    · dsimp only; rw [z5, za]; simp; omega
    · intro i cs hi hg
      have hil := h.lt_of_get hg
      dsimp only
      rw [o5 i hi, ka.get i (by simp; omega) ?_, AHeap.get_push_old _ _ (by omega)]
      · exact k1.keep hg (by simp)
      · intro hx
        rcases ot.2.2 with ⟨hr, _⟩ | ⟨id', rest, hr, hgo, _⟩
        · simp [Sl.id?, hr] at hx
        · simp [Sl.id?, hr] at hx
          rw [← hx, k1.keep hg (by simp)] at hgo
          cases hgo

/-- a tree all of whose nodes may stand where they stand -/
theorem right_spec {h : AHeap} {s : Sl} {ns : List Nd} {root : Int} (v : View cfg.P (· < h.size) h 10 s (ns.flatMap nodeC)) (hl : ns.length ≤ 1024) (hall : ∀ (i : Nat) n, ns[i]? = some n → mayF n i = true) :
    M_tree_Tree_Right h [s.v, .int .i64 root] = some (decide (0 ≤ root ∧ root < ns.length)) := by
  have nl : s.n = ns.length := by have := v.1; rw [chunk_length nodeC_len] at this; omega
  unfold M_tree_Tree_Right
  refine W.eq (W.need rfl ?_)
  simp only [Option.bind_some]
  obtain ⟨h1, e1⟩ : ∃ h1, h1 = h.push (.cells none 2 [s.v, .int .i64 root]) := ⟨_, rfl⟩
  have k1 : Only none h h1 := by rw [e1]; exact Only.push _ _ _
  have z1 : h1.size = h.size + 1 := by rw [e1]; rfl
  have g1 : h1.get h.size = some (.cells none 2 [s.v, .int .i64 root]) := by rw [e1, AHeap.get_push_new]
  rw [← e1]
  have ls : ldL h1 (h.size, 0) = some s := ldL_of g1 (by simp) rfl
  have lr : ldI h1 (h.size, 1) .i64 = some root := ldI_of g1 (by simp) rfl
  simp only [ls, lr, Option.bind_some]
  rw [iteB_or]
  simp only [Option.bind_some]
  rw [iteB_or]
  simp only [Option.bind_some]
  by_cases hr : 0 ≤ root ∧ root < ns.length
  rotate_left
  · rw [show ((decide (((s.n : Nat) : Int) > 1024) || decide (root < 0)) || decide (root ≥ ((s.n : Nat) : Int))) = true from by simp; omega]
    exact W.ret (decide_eq_false hr).symm
  rw [show ((decide (((s.n : Nat) : Int) > 1024) || decide (root < 0)) || decide (root ≥ ((s.n : Nat) : Int))) = false from by rw [Bool.eq_false_iff]; simp; omega]
  simp only [iteB_false]
  refine W.bind (W.mono (Q := fun o => ∃ h5, o = .inl h5) ?_ (by rintro o ⟨h5, rfl⟩; exact W.ret (decide_eq_true hr).symm))
  refine W.loop (fun st => ∃ i : Nat, st.1 = i ∧ i ≤ ns.length ∧ Only none h st.2) (fun st => ns.length - st.1.toNat) ⟨0, rfl, by omega, k1⟩ ?_
  rintro ⟨_, h2⟩ ⟨i, rfl, hi, k⟩
  dsimp only at k
  have z2 := k.size
  unfold M_tree_Tree_Right_L0
  dsimp only
  refine W.iteP (fun hlt => ?_) (fun hge => W.ret ⟨h2, rfl⟩)
  have hlt : i < ns.length := by omega
  obtain ⟨n, en⟩ : ∃ n, ns[i] = n := ⟨_, rfl⟩
  have hx : ns[i]? = some n := by rw [List.getElem?_eq_getElem hlt, en]
  obtain ⟨a, ea, _, la⟩ := (v.onl k).fld (i := i) (by omega)
  rw [chunk_take nodeC_len hx] at la
  obtain ⟨h4, e4, g4, k4, z4⟩ := var_st (h := h2) (g := ⟨h.size, []⟩) (z := zeroC) (cs := nodeC n) (n := 10) (may_ge z2) rfl rfl rfl
  have lA : ldA h4 (h2.size, 0) 10 = some (nodeC n) := by rw [ldA_of g4 (by simp) (Nat.le_refl 10)]; rfl
  rw [ea]
  simp only [Option.bind_some, la, e4, lA, may_eq, hall i n hx, Bool.not_true, iteB_false]
  rw [ek64 (by omega)]
  exact W.ret ⟨⟨i + 1, rfl, by omega, k.trans k4⟩, by dsimp only; omega⟩

/-! ### as many as may be -/
def zNd : Nd := ⟨0, 0, 0, 0, 0, 0, 0, 0, 0, 0⟩
theorem may_z (c : Int) : mayF zNd c = true := rfl
theorem lawTreeFull (h : AHeap) (x0 : Int) (k0 : (RInt cfg.P .u8).ok x0) : M_boulterlaw18_TreeFull h x0 = some true := by
  have k0 : (0 : Int) ≤ x0 ∧ x0 ≤ 255 := k0
  obtain ⟨K, hK⟩ : ∃ K : Nat, (1020 + x0 % 10 : Int) = K := ⟨(1020 + x0 % 10).toNat, by omega⟩
  have eK : IntKind.i64.wrap (1020 + Int.tmod (IntKind.i64.wrap x0) 10) = K := by
    rw [w64 (x := x0) (by omega) (by omega), Int.tmod_eq_emod_of_nonneg k0.1, w64 (by omega) (by omega), hK]
  unfold M_boulterlaw18_TreeFull
  simp only [Option.bind_some]
  refine W.eq (W.bind (W.mono (Q := fun o => ∃ h4, o = .inl h4 ∧ TreeO ⟨h.size, []⟩ h h4 h.size (List.replicate (min K 1024) zNd) ((min K 1024 : Nat) - 1)) ?_ ?_))
  · refine W.loop (fun s => ∃ (i : Nat) (root : Int), s.1 = i ∧ i ≤ K ∧ TreeO ⟨h.size, []⟩ h s.2 h.size (List.replicate (min i 1024) zNd) root ∧ (0 < i → root = (min i 1024 : Nat) - 1)) (fun s => K - s.1.toNat) ⟨0, 0, rfl, by omega, ⟨⟨none, 0⟩, AHeap.get_push_new _ _, Own.nil _ _ _ _, by simp [Sl.id?], fun i hi => AHeap.get_push_old _ _ hi, rfl⟩, by omega⟩ ?_
    rintro ⟨_, h2⟩ ⟨i, root, rfl, hi, t, hr⟩
    dsimp only at t
    unfold M_boulterlaw18_TreeFull_L0
    dsimp only
    rw [eK]
    refine W.iteP (fun hlt => ?_) (fun hge => ?_)
    · refine W.bind (W.mono (add_spec t (may_ge (Nat.le_refl _)) (Nat.le_refl _) rfl zNd (by simp; omega)) ?_)
      rintro ⟨⟨x4, x5⟩, h3⟩ ⟨er, t', _, _⟩
      unfold addR at er t'
      rw [List.length_replicate, may_z] at er t'
      dsimp only at er t' ⊢
      rw [ek64 (by omega)]
      by_cases h1024 : i < 1024
      · rw [if_neg (by omega), if_pos rfl] at er t'
        obtain ⟨rfl, rfl⟩ := Prod.mk.inj er
        rw [show ((decide ((i : Int) < 1024) && (((((min i 1024 : Nat) : Int) != (i : Int))) || ((0 : Int) != 0))) || (decide ((i : Int) ≥ 1024) && (((((min i 1024 : Nat) : Int) != 0)) || ((0 : Int) != 8)))) = false from by
          rw [Nat.min_eq_left (by omega), show decide ((i : Int) ≥ 1024) = false from decide_eq_false (by omega)]; simp]
        refine W.ret ⟨⟨i + 1, ((min i 1024 : Nat) : Int), rfl, by omega, ?_, fun _ => by omega⟩, by dsimp only; omega⟩
        have : List.replicate (min (i + 1) 1024) zNd = List.replicate (min i 1024) zNd ++ [zNd] := by
          rw [show min (i + 1) 1024 = min i 1024 + 1 from by omega, List.replicate_succ']
        rw [this]
        exact t'
      · rw [if_pos (by omega)] at er t'
        obtain ⟨rfl, rfl⟩ := Prod.mk.inj er
        rw [show ((decide ((i : Int) < 1024) && (((0 : Int) != (i : Int)) || ((8 : Int) != 0))) || (decide ((i : Int) ≥ 1024) && (((0 : Int) != 0) || ((8 : Int) != 8)))) = false from by
          rw [show decide ((i : Int) < 1024) = false from decide_eq_false (by omega)]; simp]
        refine W.ret ⟨⟨i + 1, root, rfl, by omega, ?_, fun _ => by have := hr (by omega); omega⟩, by dsimp only; omega⟩
        rw [show min (i + 1) 1024 = min i 1024 from by omega]
        exact t'
    · have : i = K := by omega
      subst this
      have hroot := hr (by omega)
      subst hroot
      exact W.ret ⟨h2, rfl, t⟩
  · rintro o ⟨h4, rfl, t⟩
    obtain ⟨s, g1, o1, f1, s1, n1⟩ := t
    have lA : ldA h4 (h.size, 0) 2 = some [s.v, .int .i64 ((min K 1024 : Nat) - 1)] := by rw [ldA_of g1 (by simp) (Nat.le_refl 2)]; rfl
    have lL : ldL h4 (h.size, 0) = some s := ldL_of g1 (by simp) rfl
    have hv := o1.view (P := cfg.P) (S := (· < h4.size)) szNode fun i hi => o1.lt hi
    dsimp only
    rw [lA]
    simp only [Option.bind_some]
    rw [right_spec hv (by simp; omega) (fun i n hn => by
      rw [List.getElem?_replicate] at hn
      split at hn
      · rw [← Option.some.inj hn]; exact may_z _
      · cases hn)]
    rw [List.length_replicate] at n1 ⊢
    rw [show decide ((0 : Int) ≤ ((min K 1024 : Nat) - 1) ∧ ((min K 1024 : Nat) - 1 : Int) < (min K 1024 : Nat)) = true from decide_eq_true (by omega), lL, eK]
    simp only [Option.bind_some, iteB_true]
    rw [show (((s.n : Nat) : Int) == mn (K : Int) 1024) = true from by
      rw [n1]; unfold mn
      split <;> simp <;> omega]
    exact W.ret rfl
end Go.Abs.L
