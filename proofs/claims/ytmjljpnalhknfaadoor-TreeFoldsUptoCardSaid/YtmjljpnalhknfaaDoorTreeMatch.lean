/-
  TREE: whether a tree is right, and what it matches.
-/
import Derived.Test.YtmjljpnalhknfaaDoorTreeRing3
namespace Go.Abs.L
open Go.Abs
set_option linter.unusedVariables false
set_option linter.unusedSimpArgs false

def RightP (ns : List Nd) (root : Int) : Prop := ns.length ≤ 1024 ∧ 0 ≤ root ∧ root < ns.length ∧ ∀ (i : Nat) n, ns[i]? = some n → mayF n i = true
theorem right_gen {h : AHeap} {s : Sl} {ns : List Nd} {root : Int} (v : View cfg.P (· < h.size) h 10 s (ns.flatMap nodeC)) :
    W (M_tree_Tree_Right h [s.v, .int .i64 root]) fun b => b = true ↔ RightP ns root := by
  have nl : s.n = ns.length := by have := v.1; rw [chunk_length nodeC_len] at this; omega
  unfold M_tree_Tree_Right
  refine W.need rfl ?_
  simp only [Option.bind_some]
  obtain ⟨h1, e1⟩ : ∃ h1, h1 = h.push (.cells none 2 [s.v, .int .i64 root]) := ⟨_, rfl⟩
  have k1 : Only none h h1 := by rw [e1]; exact Only.push _ _ _
  have z1 : h1.size = h.size + 1 := by rw [e1]; rfl
  have g1 : h1.get h.size = some (.cells none 2 [s.v, .int .i64 root]) := by rw [e1, AHeap.get_push_new]
  rw [← e1]
  have ls : ldL h1 (h.size, 0) = some s := ldL_of g1 (by simp) rfl
  have lr : ldI h1 (h.size, 1) .i64 = some root := ldI_of g1 (by simp) rfl
  simp only [ls, lr, Option.bind_some]
  rw [iteB_or]
  simp only [Option.bind_some]
  rw [iteB_or]
  simp only [Option.bind_some]
  refine W.ite (fun hbad => ?_) (fun hgood => ?_)
  · simp only [Bool.or_eq_true, decide_eq_true_eq] at hbad
    refine W.ret ?_
    simp only [Bool.false_eq_true, false_iff]
    rintro ⟨h1, h2, h3, -⟩
    omega
  simp only [Bool.or_eq_false_iff, decide_eq_false_iff_not] at hgood
  refine W.bind (W.mono (Q := fun o => (∃ h5, o = .inl h5 ∧ ∀ (i : Nat) n, ns[i]? = some n → mayF n i = true) ∨ (∃ h5, o = .inr (false, h5) ∧ ¬ ∀ (i : Nat) n, ns[i]? = some n → mayF n i = true)) ?_ ?_)
  · refine W.loop (fun st => ∃ i : Nat, st.1 = i ∧ i ≤ ns.length ∧ Only none h st.2 ∧ ∀ (i' : Nat) n, i' < i → ns[i']? = some n → mayF n i' = true) (fun st => ns.length - st.1.toNat) ⟨0, rfl, by omega, k1, fun i' n h => by omega⟩ ?_
    rintro ⟨_, h2⟩ ⟨i, rfl, hi, k, all⟩
    dsimp only at k
    have z2 := k.size
    unfold M_tree_Tree_Right_L0
    dsimp only
    refine W.iteP (fun hlt => ?_) (fun hge => W.ret (.inl ⟨h2, rfl, fun i' n hn => all i' n (by have := (List.getElem?_eq_some_iff.1 hn).1; omega) hn⟩))
    have hlt : i < ns.length := by omega
    obtain ⟨n, en⟩ : ∃ n, ns[i] = n := ⟨_, rfl⟩
    have hx : ns[i]? = some n := by rw [List.getElem?_eq_getElem hlt, en]
    obtain ⟨a, ea, _, la⟩ := (v.onl k).fld (i := i) (by omega)
    rw [chunk_take nodeC_len hx] at la
    obtain ⟨h4, e4, g4, k4, z4⟩ := var_st (h := h2) (g := ⟨h.size, []⟩) (z := zeroC) (cs := nodeC n) (n := 10) (may_ge z2) rfl rfl rfl
    have lA : ldA h4 (h2.size, 0) 10 = some (nodeC n) := by rw [ldA_of g4 (by simp) (Nat.le_refl 10)]; rfl
    rw [ea]
    simp only [Option.bind_some, la, e4, lA, may_eq]
    cases hm : mayF n i
    · simp only [Bool.not_false, iteB_true]
      exact W.ret (.inr ⟨h4, rfl, fun hall => by rw [hall i n hx] at hm; cases hm⟩)
    · simp only [Bool.not_true, iteB_false]
      rw [ek64 (by omega)]
      refine W.ret ⟨⟨i + 1, rfl, by omega, k.trans k4, fun i' n' h' hn' => ?_⟩, by dsimp only; omega⟩
      by_cases he : i' < i
      · exact all i' n' he hn'
      · have : i' = i := by omega
        subst this
        rw [hx] at hn'; cases hn'; exact hm
  · rintro o (⟨h5, rfl, hall⟩ | ⟨h5, rfl, hno⟩)
    · refine W.ret ?_
      simp only [true_iff]
      exact ⟨by omega, by omega, by omega, hall⟩
    · refine W.ret ?_
      simp only [Bool.false_eq_true, false_iff]
      exact fun hr => hno hr.2.2.2
theorem mu_big {c : Ak} (ok : c.Ok) {a : Nat} {i j : Nat} (hv : c.Valid a 0 i j) : 8 * (c.mu a 0 i j + 1) ≤ bigF := by
  obtain ⟨hal, hij, hjl, _⟩ := hv
  obtain ⟨n, en⟩ : ∃ n, c.ns[a] = n := ⟨_, rfl⟩
  have hn : c.ns[a]? = some n := by rw [List.getElem?_eq_getElem hal, en]
  have hmi := ok.mi hn
  have hd : c.ns.getD a zNd = n := by rw [List.getD_eq_getElem?_getD, hn]; rfl
  have hl := ok.len
  have hc := ok.cnt
  have h1 : a * ((c.s.length + 1) * 257) ≤ 1024 * ((c.s.length + 1) * 257) := Nat.mul_le_mul_right _ (by omega)
  rw [bigF_eq]
  unfold Ak.mu
  rw [hd]
  omega
def MatchP (ns : List Nd) (root : Int) (s : List UInt8) (i j : Int) : Prop := RightP ns root ∧ 0 ≤ i ∧ i ≤ j ∧ j ≤ s.length ∧ Mt ns s root.toNat 0 i.toNat j.toNat
theorem matches_spec {h : AHeap} {sl : Sl} {ns : List Nd} {root : Int} (v : View cfg.P (· < h.size) h 10 sl (ns.flatMap nodeC)) (oks : ∀ n ∈ ns, OkS n) {s : List UInt8} (hs : s.length ≤ 1000000) (i j : Int) :
    W (M_tree_Tree_Matches h [sl.v, .int .i64 root] s i j) fun b => b = true ↔ MatchP ns root s i j := by
  unfold M_tree_Tree_Matches
  refine W.need rfl ?_
  simp only [Option.bind_some]
  obtain ⟨h1, e1⟩ : ∃ h1, h1 = h.push (.cells none 2 [sl.v, .int .i64 root]) := ⟨_, rfl⟩
  have k1 : Only none h h1 := by rw [e1]; exact Only.push _ _ _
  have z1 : h1.size = h.size + 1 := by rw [e1]; rfl
  have g1 : h1.get h.size = some (.cells none 2 [sl.v, .int .i64 root]) := by rw [e1, AHeap.get_push_new]
  rw [← e1]
  have lA : ldA h1 (h.size, 0) 2 = some [sl.v, .int .i64 root] := by rw [ldA_of g1 (by simp) (Nat.le_refl 2)]; rfl
  simp only [lA, Option.bind_some]
  refine W.bind (W.mono (right_gen ((v.onl k1).keep (S' := (· < h1.size)) (fun _ _ => rfl) (fun id hi => by show id < h1.size; have hi : id < h.size := hi; omega))) ?_)
  intro b hb
  refine W.ite (fun hbad => ?_) (fun hgood => ?_)
  · refine W.ret ?_
    simp only [Bool.false_eq_true, false_iff]
    rintro ⟨hr, h2, h3, h4, -⟩
    rw [hb.2 hr] at hbad
    simp only [Bool.not_true, Bool.false_or, Bool.or_eq_true, decide_eq_true_eq] at hbad
    omega
  simp only [Bool.or_eq_false_iff, decide_eq_false_iff_not, Bool.not_eq_false'] at hgood
  obtain ⟨⟨⟨hr, hi0⟩, hji⟩, hjl⟩ := hgood
  have hr := hb.1 hr
  obtain ⟨hr1, hr2, hr3, hr4⟩ := id hr
  refine W.need rfl ?_
  refine W.need rfl ?_
  obtain ⟨h2, e2⟩ : ∃ h2, h2 = h1.push (.map 2 []) := ⟨_, rfl⟩
  obtain ⟨h3, e3⟩ : ∃ h3, h3 = h2.push (.cells none 2 ([sl.v, .int .i64 root] ++ ([.str s, .map (some h1.size)] : List AVal))) := ⟨_, rfl⟩
  have z2 : h2.size = h.size + 2 := by rw [e2]; simp; omega
  have k3 : Only none h h3 := by rw [e3, e2]; exact (k1.trans (Only.push _ _ _)).trans (Only.push _ _ _)
  have gt : h3.get h.size = some (.cells none 2 [sl.v, .int .i64 root]) := by rw [e3, AHeap.get_push_old _ _ (by omega), e2, AHeap.get_push_old _ _ (by omega)]; exact g1
  have gm : h3.get h1.size = some (.map 2 []) := by rw [e3, AHeap.get_push_old _ _ (by omega), e2, AHeap.get_push_new]
  have ga : h3.get h2.size = some (.cells none 2 ([sl.v, .int .i64 root] ++ ([.str s, .map (some h1.size)] : List AVal))) := by rw [e3, AHeap.get_push_new]
  rw [← e2, ← e3]
  rw [ldI_of gt (by simp) (show ([sl.v, .int .i64 root] : List AVal)[1]? = some (.int .i64 root) from rfl)]
  simp only [Option.bind_some]
  let c : Ak := ⟨h.size, h.size, h2.size, h1.size, sl, root, ns, s⟩
  have ok : c.Ok := ⟨by show h.size ≤ h1.size; omega, by show h.size ≤ h1.size; omega, by show h2.size ≠ h1.size; omega, hs, hr1, hr4, fun i n hn => oks n (List.mem_of_getElem? hn)⟩
  have i3 : c.I h3 := ⟨ga, v.onl k3, [], gm, by simp⟩
  obtain ⟨r, hr'⟩ : ∃ r : Nat, root = r := ⟨root.toNat, by omega⟩
  obtain ⟨i', hi'⟩ : ∃ r : Nat, i = r := ⟨i.toNat, by omega⟩
  obtain ⟨j', hj'⟩ : ∃ r : Nat, j = r := ⟨j.toNat, by omega⟩
  have hv : c.Valid r 0 i' j' := ⟨by show r < ns.length; omega, by omega, by show j' ≤ s.length; omega, by omega, by omega, fun n _ _ hx => hx⟩
  have hask := asks_spec ok _ r 0 i' j' (Nat.lt_succ_self _) hv bigF (mu_big ok hv) h3 i3
  rw [hr', hi', hj']
  refine W.bind (W.mono hask ?_)
  rintro ⟨b', h4⟩ ⟨p4, -, -⟩
  refine W.ret ?_
  dsimp only at p4 ⊢
  rw [p4]
  constructor
  · intro hm; exact ⟨by rw [← hr']; exact hr, by omega, by omega, by omega, hm⟩
  · intro hm; exact hm.2.2.2.2
end Go.Abs.L
