/-
  TREE: a tree in both cases.
-/
import Derived.Test.YtmjljpnalhknfaaDoorTreePlain
import Derived.Test.YtmjljpnalhknfaaDoorLtreex2
namespace Go.Abs.L
open Go.Abs
set_option linter.unusedVariables false
set_option linter.unusedSimpArgs false

def foldV (x : Int) : Int := bOr .u64 x (bOr .u64 (bShl .u64 (bAnd .u64 x (134217726 : Int)) (32 : Int)) (bShr .u64 (bAnd .u64 x (576460743713488896 : Int)) (32 : Int)))
def foldN (n : Nd) : Nd := ⟨n.k, n.a, n.b, n.mi, n.ma, n.gr, n.s0, foldV n.s1, n.s2, n.s3⟩
theorem setFold_spec {g : Gd} {h : AHeap} (n : Nd) (hfl : g.floor ≤ h.size) (hpr : ∀ i ∈ g.prot, i < h.size) : W (M_class_Set_Fold g h (setC n)) fun r => r.1 = setC (foldN n) ∧ Only none h r.2 := by
  unfold M_class_Set_Fold
  refine W.need rfl ?_
  simp only [Option.bind_some]
  obtain ⟨h1, e1⟩ : ∃ h1, h1 = h.push (.cells none 2 (setC n)) := ⟨_, rfl⟩
  rw [← e1]
  obtain ⟨h2, e2⟩ : ∃ h2, h2 = h1.push (.cells none 2 [.int .u64 (0 : Int), .int .u64 (0 : Int), .int .u64 (0 : Int), .int .u64 (0 : Int)]) := ⟨_, rfl⟩
  rw [← e2]
  have z1 : h1.size = h.size + 1 := by rw [e1]; rfl
  have z2 : h2.size = h1.size + 1 := by rw [e2]; rfl
  have k1 : Only none h h1 := by rw [e1]; exact Only.push _ _ _
  have k12 : Only none h1 h2 := by rw [e2]; exact Only.push _ _ _
  have g1 : h1.get h.size = some (.cells none 2 (setC n)) := by rw [e1, AHeap.get_push_new]
  have g2 : h2.get h.size = some (.cells none 2 (setC n)) := k12.keep g1 (by simp)
  have gb2 : h2.get h1.size = some (.cells none 2 [.int .u64 (0 : Int), .int .u64 (0 : Int), .int .u64 (0 : Int), .int .u64 (0 : Int)]) := by rw [e2, AHeap.get_push_new]
  have ei : ixA (h.size, 0) 4 1 (1 : Int) = some (h.size, 1) := ixA_nat (r := 1) (by omega)
  have l1 : ldI h2 (h.size, 1) .u64 = some n.s1 := ldI_of g2 (by simp) rfl
  have zh2 := h2.lt_of_get g2
  simp only [ei, l1, Option.bind_some]
  rw [st_of g2 (may_new hfl hpr) (o := 1) (by simp [setC]) rfl]
  simp only [Option.bind_some]
  obtain ⟨h3, e3⟩ : ∃ h3, h3 = h2.set h.size (.cells none 2 (setC (foldN n))) := ⟨_, rfl⟩
  have g3 : h3.get h.size = some (.cells none 2 (setC (foldN n))) := by rw [e3, AHeap.get_set_same _ _ zh2]
  have gb3 : h3.get h1.size = some (.cells none 2 [.int .u64 (0 : Int), .int .u64 (0 : Int), .int .u64 (0 : Int), .int .u64 (0 : Int)]) := by rw [e3, AHeap.get_set_ne _ _ zh2 (by omega)]; exact gb2
  rw [show splice (setC n) 1 [.int .u64 (bOr .u64 n.s1 (bOr .u64 (bShl .u64 (bAnd .u64 n.s1 (134217726 : Int)) (32 : Int)) (bShr .u64 (bAnd .u64 n.s1 (576460743713488896 : Int)) (32 : Int))))] = setC (foldN n) from rfl, ← e3]
  have l3 : ldA h3 (h.size, 0) 4 = some (setC (foldN n)) := by rw [ldA_of g3 (by simp) (Nat.le_refl 4)]; rfl
  have k3 : Only none h h3 := by rw [e3]; exact Only.set_new (k1.trans k12) g2 (Nat.le_refl _)
  simp only [l3, Option.bind_some]
  rw [stG_of gb3 (may_new (by omega) (fun i hi => by have := hpr i hi; omega)) (n := 4) rfl (by simp) rfl]
  simp only [Option.bind_some]
  have zb := h3.lt_of_get gb3
  have gf : (h3.set h1.size (.cells none 2 (splice [.int .u64 (0 : Int), .int .u64 (0 : Int), .int .u64 (0 : Int), .int .u64 (0 : Int)] 0 (setC (foldN n))))).get h1.size = some (.cells none 2 (setC (foldN n))) := by rw [AHeap.get_set_same _ _ zb]; rfl
  rw [show ldA _ (h1.size, 0) 4 = some (setC (foldN n)) from by rw [ldA_of gf (by simp) (Nat.le_refl 4)]; rfl]
  simp only [Option.bind_some]
  exact W.ret ⟨rfl, Only.set_new k3 gb3 (by omega)⟩

theorem own_mayM {g g' : Gd} {h : AHeap} {e : TypeId} {sz : Nat} {s : Sl} {cs : List AVal} (w : Own g h e sz s cs) (k : ∀ id, s.id? = some id → g'.may id = true) : Own g' h e sz s cs := by
  refine ⟨w.1, w.2.1, ?_⟩
  rcases w.2.2 with h0 | ⟨id, rest, h1, h2, h3⟩
  · exact .inl h0
  · exact .inr ⟨id, rest, h1, h2, k id (by simp [Sl.id?, h1])⟩
theorem clone_spec {g : Gd} {h : AHeap} {s : Sl} {cs : List AVal} (v : View cfg.P (· < h.size) h 10 s cs) (h1 : cs.all AVal.one = true) (hfl : g.floor ≤ h.size) (hpr : ∀ i ∈ g.prot, i < h.size) (hn : s.n ≤ 1000) :
    W (M_slices_Clone_boulter_tree_Node_boulter_tree_Node g h s) fun r => Own g r.2 30 10 r.1 cs ∧ Only none h r.2 ∧ ∀ j, r.1.id? = some j → h.size ≤ j := by
  unfold M_slices_Clone_boulter_tree_Node_boulter_tree_Node
  refine W.ite (fun hnone => ?_) (fun hsome => ?_)
  · refine W.ret ⟨?_, Only.refl _ _, by simp [Sl.id?]⟩
    have hr : s.r = none := by simpa using hnone
    have h0 : s.n = 0 := by
      rcases v.2 with ⟨_, h0⟩ | ⟨id, o, gr, stt, all, h1, _⟩
      · exact h0
      · rw [hr] at h1; cases h1
    have : cs = [] := List.length_eq_zero_iff.1 (by rw [v.1, h0])
    rw [this]; exact Own.nil _ _ _ _
  · simp only [Option.bind_some]
    obtain ⟨h2, e2⟩ : ∃ h2, h2 = h.push (.cells (some 30) 2 []) := ⟨_, rfl⟩
    have k2 : Only none h h2 := by rw [e2]; exact Only.push _ _ _
    have z2 : h2.size = h.size + 1 := by rw [e2]; rfl
    have g2 : h2.get h.size = some (.cells (some 30) 2 []) := by rw [e2, AHeap.get_push_new]
    have o2 : Own g h2 30 10 ⟨some (h.size, 0), 0⟩ [] := ⟨rfl, rfl, .inr ⟨h.size, [], rfl, g2, may_new hfl hpr⟩⟩
    rw [← e2]
    by_cases h0 : s.n = 0
    · have : cs = [] := List.length_eq_zero_iff.1 (by rw [v.1, h0])
      subst this
      rw [h0]
      refine W.ret ⟨o2, k2, fun j hj => ?_⟩
      simp [Sl.id?] at hj; omega
    · obtain ⟨s', h9, ea9, o9, n9, k9, r9, z9⟩ := o2.app (bytes := 80) (n := s.n) (x := .slice s.r s.n) (new := cs) ((v.onl k2).firstA) v.1 h1 h0 (by show 0 + s.n ≤ _; omega) (by show (0 + s.n) * 80 ≤ _; omega) (by omega) (fun i hi => by have := hpr i hi; omega)
      rw [ea9]
      simp only [Option.bind_some]
      refine W.ret ⟨by simpa using o9, ⟨by show h.size ≤ h9.size; have := k2.size; have := k9.size; omega, fun id hid _ => ?_⟩, fun j hj => ?_⟩
      · rw [k9.get id (by omega) (by simp [Sl.id?]; omega), k2.get id hid (by simp)]
      · simp [Sl.id?, r9] at hj; omega

theorem splice_at {A X new : List AVal} {o k : Nat} (hA : A.length = o) : splice (A ++ X) (o + k) new = A ++ splice X k new := by
  subst hA
  unfold splice
  rw [List.take_append, List.drop_append, List.take_of_length_le (by omega), List.drop_eq_nil_of_le (by omega), show A.length + k - A.length = k from by omega, show A.length + k + new.length - A.length = k + new.length from by omega]
  simp
theorem node_set {g : Gd} {h : AHeap} {sl : Sl} {Q D : List Nd} {n m : Nd} (o : Own g h 30 10 sl ((Q ++ n :: D).flatMap nodeC)) (hm : m = foldN n) {i : Nat} (hQ : Q.length = i) :
    ∃ a, ixL sl 10 (i : Int) = some a ∧ ∃ h', stG 4 g h (a.1, a.2 + 6) (setC m) = some h' ∧ Own g h' 30 10 sl ((Q ++ m :: D).flatMap nodeC) ∧ Only sl.id? h h' ∧ h'.size = h.size := by
  have hn : sl.n = Q.length + (D.length + 1) := by have := o.1; rw [chunk_length nodeC_len] at this; simp at this; omega
  rcases o.2.2 with ⟨_, h0⟩ | ⟨id, rest, hr, hg, hmay⟩
  · omega
  · have hlA : (Q.flatMap nodeC).length = i * 10 := by rw [chunk_length nodeC_len, hQ]
    refine ⟨(id, 0 + i * 10), by unfold ixL; rw [hr]; exact ixA_nat (by omega), _, stG_of hg hmay (n := 4) rfl ?_ rfl, ?_, ?_, rfl⟩
    · simp [chunk_length nodeC_len, nodeC_len]; omega
    · have hlt := h.lt_of_get hg
      refine ⟨?_, ?_, .inr ⟨id, rest, hr, ?_, hmay⟩⟩
      · rw [chunk_length nodeC_len, hn]; simp
      · rw [List.all_eq_true]; intro x hx
        obtain ⟨y, _, hy⟩ := List.mem_flatMap.1 hx
        exact List.all_eq_true.1 (nodeC_one y) x hy
      · rw [AHeap.get_set_same _ _ hlt]
        have : splice ((Q ++ n :: D).flatMap nodeC ++ rest) (0 + i * 10 + 6) (setC m) = (Q ++ m :: D).flatMap nodeC ++ rest := by
          rw [Nat.zero_add, List.flatMap_append, List.append_assoc, splice_at hlA, List.flatMap_cons, hm, List.flatMap_append, List.flatMap_cons]
          simp only [List.append_assoc]
          rfl
        rw [this]
    · have : sl.id? = some id := by simp [Sl.id?, hr]
      rw [this]; exact Only.set hg

theorem treeFold_spec {f : Nat} {h : AHeap} {s : Sl} {ns : List Nd} {root : Int} (v : View cfg.P (· < h.size) h 10 s (ns.flatMap nodeC)) (hl : ns.length ≤ 12) (hf : f ≤ h.size) :
    W (M_tree_Tree_Fold ⟨f, []⟩ h [s.v, .int .i64 root]) fun r => ∃ s' : Sl, r.1 = [s'.v, .int .i64 root] ∧ Own ⟨f, []⟩ r.2 30 10 s' ((ns.map foldN).flatMap nodeC) ∧ Only none h r.2 := by
  have nl : s.n = ns.length := by have := v.1; rw [chunk_length nodeC_len] at this; omega
  unfold M_tree_Tree_Fold
  refine W.need rfl ?_
  simp only [Option.bind_some]
  obtain ⟨h1, e1⟩ : ∃ h1, h1 = h.push (.cells none 2 [s.v, .int .i64 root]) := ⟨_, rfl⟩
  rw [← e1]
  obtain ⟨h2, e2⟩ : ∃ h2, h2 = h1.push (.cells none 2 [.slice none 0, .int .i64 (0 : Int)]) := ⟨_, rfl⟩
  rw [← e2]
  obtain ⟨h3, e3⟩ : ∃ h3, h3 = h2.push (.cells none 2 [.slice none 0, .int .i64 (0 : Int)]) := ⟨_, rfl⟩
  rw [← e3]
  have z1 : h1.size = h.size + 1 := by rw [e1]; rfl
  have z2 : h2.size = h1.size + 1 := by rw [e2]; rfl
  have z3 : h3.size = h2.size + 1 := by rw [e3]; rfl
  have k1 : Only none h h1 := by rw [e1]; exact Only.push _ _ _
  have k12 : Only none h1 h2 := by rw [e2]; exact Only.push _ _ _
  have k23 : Only none h2 h3 := by rw [e3]; exact Only.push _ _ _
  have g1 : h1.get h.size = some (.cells none 2 [s.v, .int .i64 root]) := by rw [e1, AHeap.get_push_new]
  have g2 : h2.get h.size = some (.cells none 2 [s.v, .int .i64 root]) := k12.keep g1 (by simp)
  have gb3 : h3.get h1.size = some (.cells none 2 [.slice none 0, .int .i64 (0 : Int)]) := k23.keep (by rw [e2, AHeap.get_push_new]) (by simp)
  have gc3 : h3.get h2.size = some (.cells none 2 [.slice none 0, .int .i64 (0 : Int)]) := by rw [e3, AHeap.get_push_new]
  have ls : ldL h2 (h.size, 0) = some s := ldL_of g2 (by simp) rfl
  have lr : ldI h2 (h.size, 1) .i64 = some root := ldI_of g2 (by simp) rfl
  simp only [ls, lr, Option.bind_some]
  have k03 := (k1.trans k12).trans k23
  refine W.bind (W.mono (clone_spec (g := ⟨f, [h2.size, h.size]⟩) ((v.onl k03).keep (S' := (· < h3.size)) (fun _ _ => rfl) (fun id hi => by show id < h3.size; have hi : id < h.size := hi; omega)) ?_ (by show f ≤ h3.size; omega) (by intro i hi; simp only [List.mem_cons, List.not_mem_nil, or_false] at hi; omega) (by omega)) ?_)
  · rw [List.all_eq_true]; intro x hx
    obtain ⟨y, _, hy⟩ := List.mem_flatMap.1 hx
    exact List.all_eq_true.1 (nodeC_one y) x hy
  rintro ⟨x3, h4⟩ ⟨o4, k4, new4⟩
  dsimp only at o4 k4 new4 ⊢
  have gb4 := k4.keep gb3 (by simp)
  have gc4 := k4.keep gc3 (by simp)
  rw [stG_of gc4 (may_ge (show f ≤ h2.size by omega)) (n := 2) (new := [.slice x3.r x3.n, .int .i64 root]) rfl (by simp) rfl]
  simp only [Option.bind_some]
  have zc := h4.lt_of_get gc4
  obtain ⟨h5, e5⟩ : ∃ h5, h5 = h4.set h2.size (.cells none 2 [x3.v, .int .i64 root]) := ⟨_, rfl⟩
  rw [show splice [AVal.slice none 0, .int .i64 (0 : Int)] 0 [.slice x3.r x3.n, .int .i64 root] = [x3.v, .int .i64 root] from rfl, ← e5]
  have g5 : h5.get h2.size = some (.cells none 2 [x3.v, .int .i64 root]) := by rw [e5, AHeap.get_set_same _ _ zc]
  have gb5 : h5.get h1.size = some (.cells none 2 [.slice none 0, .int .i64 (0 : Int)]) := by rw [e5, AHeap.get_set_ne _ _ zc (by omega)]; exact gb4
  have k5 : Only none h h5 := by rw [e5]; exact Only.set_new (k03.trans k4) gc4 (by omega)
  have o5 : Own ⟨f, []⟩ h5 30 10 x3 (ns.flatMap nodeC) := (own_mayM o4 fun id hi => may_ge (by have := new4 id hi; omega)).keep fun j hj => by rw [e5]; exact AHeap.get_set_ne _ _ zc (by have := new4 j hj; omega)
  have l5 : ldL h5 (h2.size, 0) = some x3 := ldL_of g5 (by simp) rfl
  simp only [l5, Option.bind_some]
  have hn3 : x3.n = ns.length := by have := o5.1; rw [chunk_length nodeC_len] at this; omega
  refine W.bind (W.mono (Q := fun hh => Only none h hh ∧ hh.get h1.size = some (.cells none 2 [.slice none 0, .int .i64 (0 : Int)]) ∧ hh.get h2.size = some (.cells none 2 [x3.v, .int .i64 root]) ∧ Own ⟨f, []⟩ hh 30 10 x3 ((ns.map foldN).flatMap nodeC)) ?_ ?_)
  · refine W.loop (fun st => ∃ (i : Nat), st.1 = i ∧ i ≤ ns.length ∧ Only none h st.2 ∧ st.2.get h1.size = some (.cells none 2 [.slice none 0, .int .i64 (0 : Int)]) ∧ st.2.get h2.size = some (.cells none 2 [x3.v, .int .i64 root]) ∧ Own ⟨f, []⟩ st.2 30 10 x3 (((ns.take i).map foldN ++ ns.drop i).flatMap nodeC)) (fun st => ns.length - st.1.toNat)
      ⟨0, rfl, by omega, k5, gb5, g5, by simpa using o5⟩ ?_
    rintro ⟨_, hh⟩ ⟨i, rfl, hi, k, gb, gs, o⟩
    dsimp only at k gb gs o
    have zh := hh.lt_of_get gs
    unfold M_tree_Tree_Fold_L0
    dsimp only
    refine W.iteP (fun hlt => ?_) (fun hge => W.ret ⟨k, gb, gs, ?_⟩)
    · have hlt : i < ns.length := by omega
      obtain ⟨n, en⟩ : ∃ n, ns[i] = n := ⟨_, rfl⟩
      have hx : ns[i]? = some n := by rw [List.getElem?_eq_getElem hlt, en]
      have hd : ns.drop i = n :: ns.drop (i + 1) := by rw [List.drop_eq_getElem_cons hlt, en]
      rw [hd] at o
      have hql : ((ns.take i).map foldN).length = i := by simp; omega
      obtain ⟨a, ea, _, la⟩ := (o.view (P := cfg.P) (S := (· < hh.size)) szNode fun id hid => o.lt hid).fld (i := i) (by omega)
      rw [chunk_take nodeC_len (x := n) (by rw [List.getElem?_append_right (by omega), hql]; simp)] at la
      obtain ⟨h8, e8, g8, k8, z8⟩ := var_st (h := hh) (g := ⟨f, []⟩) (z := zeroC) (cs := nodeC n) (n := 10) (may_ge (by omega)) rfl rfl rfl
      have l8 : ldL h8 (h2.size, 0) = some x3 := ldL_of (k8.keep gs (by simp)) (by simp) rfl
      have l6 : ldA h8 (hh.size, 6) 4 = some (setC n) := by rw [ldA_of g8 (by simp) (Nat.le_refl 10)]; rfl
      rw [ea]
      simp only [Option.bind_some, la, e8, l8, l6]
      refine W.bind (W.mono (setFold_spec (g := ⟨f, [h2.size]⟩) (h := h8) n (by show f ≤ h8.size; omega) (by intro i hi; simp only [List.mem_cons, List.not_mem_nil, or_false] at hi; omega)) ?_)
      rintro ⟨x10, h9⟩ ⟨rfl, k9⟩
      dsimp only at k9 ⊢
      have k89 := k8.trans k9
      obtain ⟨a2, ea2, h10, es, o10, k10, z10⟩ := node_set (o.keep fun j hj => k89.get j (o.lt hj) (by simp)) rfl hql
      rw [ea] at ea2
      have ea2 := Option.some.inj ea2
      subst ea2
      rw [ea]
      simp only [Option.bind_some]
      rw [es]
      simp only [Option.bind_some]
      have hne : ∀ j, j ≤ h2.size → some j ≠ x3.id? := fun j hj hx => by have := new4 j hx.symm; omega
      rw [ek64 (by omega)]
      refine W.ret ⟨⟨i + 1, rfl, by omega, ⟨?_, fun id hid' _ => ?_⟩, k10.keep (k89.keep gb (by simp)) (hne _ (by omega)), k10.keep (k89.keep gs (by simp)) (hne _ (Nat.le_refl _)), ?_⟩, by dsimp only; omega⟩
      · dsimp only
        have := k.size; have := k89.size; omega
      · dsimp only
        rw [k10.get id (by have := k.size; have := k89.size; omega) (hne _ (by omega)), k89.get id (by have := k.size; omega) (by simp), k.get id hid' (by simp)]
      · dsimp only
        rw [take_snoc hx, List.map_append, List.append_assoc]
        exact o10
    · have : i = ns.length := by omega
      subst this
      rw [List.take_length, List.drop_length, List.append_nil] at o
      exact o
  · rintro hh ⟨k, gb, gs, o⟩
    have lA : ldA hh (h2.size, 0) 2 = some [x3.v, .int .i64 root] := by rw [ldA_of gs (by simp) (Nat.le_refl 2)]; rfl
    rw [lA]
    simp only [Option.bind_some]
    rw [stG_of gb (may_ge (show f ≤ h1.size by omega)) (n := 2) (new := [x3.v, .int .i64 root]) rfl (by simp) rfl]
    simp only [Option.bind_some]
    have zb := hh.lt_of_get gb
    have gf : (hh.set h1.size (.cells none 2 (splice [.slice none 0, .int .i64 (0 : Int)] 0 [x3.v, .int .i64 root]))).get h1.size = some (.cells none 2 [x3.v, .int .i64 root]) := by rw [AHeap.get_set_same _ _ zb]; rfl
    rw [show ldA _ (h1.size, 0) 2 = some [x3.v, .int .i64 root] from by rw [ldA_of gf (by simp) (Nat.le_refl 2)]; rfl]
    simp only [Option.bind_some]
    exact W.ret ⟨x3, rfl, o.keep fun j hj => AHeap.get_set_ne _ _ zb (by have := new4 j hj; omega), Only.set_new k gb (by omega)⟩
end Go.Abs.L
