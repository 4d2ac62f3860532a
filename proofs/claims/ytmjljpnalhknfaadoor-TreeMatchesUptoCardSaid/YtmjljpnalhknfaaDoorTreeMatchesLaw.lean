/-
  TREE: any small tree matches just where the document says.
-/
import Derived.Test.YtmjljpnalhknfaaDoorTreeSmall
import Derived.Test.YtmjljpnalhknfaaDoorTreeM0
import Derived.Test.YtmjljpnalhknfaaDoorTreeArg
import Derived.Test.YtmjljpnalhknfaaDoorTreeM1
import Derived.Test.YtmjljpnalhknfaaDoorLlaw18x2
namespace Go.Abs.L
open Go.Abs
set_option linter.unusedVariables false
set_option linter.unusedSimpArgs false

theorem refRight_iff {h : AHeap} {s : Sl} {ns : List Nd} {root : Int} (v : View cfg.P (· < h.size) h 7 s (ns.flatMap refC)) (oks : ∀ n ∈ ns, OkS n) (hl : ns.length ≤ 1024) :
    W (M_boulterref18_Right h [s.v, .int .i64 root]) fun b => b = true ↔ RightP ns root := by
  have nl : s.n = ns.length := by have := v.1; rw [chunk_length refC_len] at this; omega
  unfold M_boulterref18_Right
  refine W.need rfl ?_
  simp only [Option.bind_some]
  obtain ⟨h1, e1⟩ : ∃ h1, h1 = h.push (.cells none 2 [s.v, .int .i64 root]) := ⟨_, rfl⟩
  rw [← e1]
  have k1 : Only none h h1 := by rw [e1]; exact Only.push _ _ _
  have g1 : h1.get h.size = some (.cells none 2 [s.v, .int .i64 root]) := by rw [e1, AHeap.get_push_new]
  have ls : ldL h1 (h.size, 0) = some s := ldL_of g1 (by simp) rfl
  have lr : ldI h1 (h.size, 1) .i64 = some root := ldI_of g1 (by simp) rfl
  simp only [ls, lr, Option.bind_some, iteB_or]
  refine W.ite (fun hbad => W.ret ?_) (fun hgood => ?_)
  · simp only [Bool.or_eq_true, decide_eq_true_eq] at hbad
    simp only [Bool.false_eq_true, false_iff]
    rintro ⟨h1, h2, h3, -⟩
    omega
  simp only [Bool.or_eq_false_iff, decide_eq_false_iff_not] at hgood
  refine W.bind (W.mono (Q := fun o => (o = .inl () ∧ ∀ (i : Nat) n, ns[i]? = some n → mayF n i = true) ∨ (o = .inr false ∧ ¬ ∀ (i : Nat) n, ns[i]? = some n → mayF n i = true)) ?_ ?_)
  · refine W.loop (fun st => ∃ i : Nat, st = i ∧ i ≤ ns.length ∧ ∀ (i' : Nat) n, i' < i → ns[i']? = some n → mayF n i' = true) (fun st => ns.length - st.toNat) ⟨0, rfl, by omega, fun i' n h => by omega⟩ ?_
    rintro _ ⟨i, rfl, hi, all⟩
    unfold M_boulterref18_Right_L0
    dsimp only
    simp only [ls, Option.bind_some]
    refine W.iteP (fun hlt => ?_) (fun hge => W.ret (.inl ⟨rfl, fun i' n hn => all i' n (by have := (List.getElem?_eq_some_iff.1 hn).1; omega) hn⟩))
    have hlt : i < ns.length := by omega
    obtain ⟨n, en⟩ : ∃ n, ns[i] = n := ⟨_, rfl⟩
    have hx : ns[i]? = some n := by rw [List.getElem?_eq_getElem hlt, en]
    have okn := oks n (List.mem_of_getElem? hx)
    obtain ⟨a, ea, _, la⟩ := (v.onl k1).fld (i := i) (by omega)
    rw [chunk_take refC_len hx] at la
    rw [ea]
    simp only [Option.bind_some, la, refMay_eq h1 n okn]
    cases hm : mayF n i
    · simp only [Bool.not_false, iteB_true]
      exact W.ret (.inr ⟨rfl, fun hall => by rw [hall i n hx] at hm; cases hm⟩)
    · simp only [Bool.not_true, iteB_false]
      rw [ek64 (by omega)]
      refine W.ret ⟨⟨i + 1, rfl, by omega, fun i' n' h' hn' => ?_⟩, by omega⟩
      by_cases he : i' < i
      · exact all i' n' he hn'
      · have : i' = i := by omega
        subst this
        rw [hx] at hn'; cases hn'; exact hm
  · rintro o (⟨rfl, hall⟩ | ⟨rfl, hno⟩)
    · refine W.ret ?_
      simp only [true_iff]
      exact ⟨by omega, by omega, by omega, hall⟩
    · refine W.ret ?_
      simp only [Bool.false_eq_true, false_iff]
      exact fun hr => hno hr.2.2.2

theorem treeMatches_true {h : AHeap} {c : Sl} {ns : List Nd} {root : Int} (v : View cfg.P (· < h.size) h 10 c (ns.flatMap nodeC)) (oks : ∀ n ∈ ns, OkS n) (hl : ns.length ≤ 1048576) (s : List UInt8) (i j : Int) :
    M_boulterlaw18_TreeMatches h [c.v, .int .i64 root] s i j = some true := by
  have nl : c.n = ns.length := by have := v.1; rw [chunk_length nodeC_len] at this; omega
  unfold M_boulterlaw18_TreeMatches
  refine W.eq (W.need rfl ?_)
  simp only [Option.bind_some]
  obtain ⟨h1, e1⟩ : ∃ h1, h1 = h.push (.cells none 2 [c.v, .int .i64 root]) := ⟨_, rfl⟩
  rw [← e1]
  have z1 : h1.size = h.size + 1 := by rw [e1]; rfl
  have k1 : Only none h h1 := by rw [e1]; exact Only.push _ _ _
  have g1 : h1.get h.size = some (.cells none 2 [c.v, .int .i64 root]) := by rw [e1, AHeap.get_push_new]
  have lA : ∀ hh, Only none h1 hh → ldA hh (h.size, 0) 2 = some [c.v, .int .i64 root] := fun hh k => by rw [ldA_of (k.keep g1 (by simp)) (by simp) (Nat.le_refl 2)]; rfl
  have vA : ∀ hh, Only none h1 hh → View cfg.P (· < hh.size) hh 10 c (ns.flatMap nodeC) := fun hh k => (v.onl (k1.trans k)).keep (fun _ _ => rfl) (fun id hi => by have hi : id < h.size := hi; show id < hh.size; have := k.size; omega)
  simp only [lA h1 (Only.refl _ _), Option.bind_some]
  refine W.bind (W.mono (plain_spec (f := h.size) (vA h1 (Only.refl _ _)) oks hl (by omega)) ?_)
  rintro ⟨x2, h2⟩ ⟨s2, rfl, o2, k2⟩
  dsimp only at o2 k2 ⊢
  refine W.bind (W.mono (small_tot (o2.view szRef fun id hid => o2.lt hid) hl) ?_)
  intro b3 hb3
  refine W.ite (fun _ => W.ret rfl) (fun hg => ?_)
  simp only [Bool.or_eq_false_iff, Bool.not_eq_false', decide_eq_false_iff_not] at hg
  have hn12 := hb3 hg.1
  have hs8 : s.length ≤ 8 := by omega
  rw [lA h2 k2]
  simp only [Option.bind_some]
  have z2 := k2.size
  refine W.bind (W.mono (plain_spec (f := h.size) (vA h2 k2) oks hl (by omega)) ?_)
  rintro ⟨x6, h3⟩ ⟨s4, rfl, o4, k4⟩
  dsimp only at o4 k4 ⊢
  have z3 := k4.size
  obtain ⟨h5, e5, g5, k5, z5⟩ := var_st (h := h3) (g := ⟨h.size, []⟩) (z := [.slice none 0, .int .i64 (0 : Int)]) (cs := [s4.v, .int .i64 root]) (n := 2) (may_ge (by omega)) rfl rfl rfl
  rw [e5]
  simp only [Option.bind_some]
  have l7 : ldA h5 (h3.size, 0) 2 = some [s4.v, .int .i64 root] := by rw [ldA_of g5 (by simp) (Nat.le_refl 2)]; rfl
  have o5 := o4.keep (h' := h5) fun j hj => k5.get j (o4.lt hj) (by simp)
  have l8 : ldI h5 (h3.size, 1) .i64 = some root := ldI_of g5 (by simp) rfl
  have k15 : Only none h1 h5 := (k2.trans k4).trans k5
  rw [l7]
  simp only [Option.bind_some]
  refine W.bind (W.mono (refRight_iff (o5.view szRef fun id hid => o5.lt hid) oks (by omega)) ?_)
  intro b8 hb8
  have hm := matches_spec (root := root) (vA h5 k15) oks (s := s) (by omega) i j
  refine W.ite (fun hbad => ?_) (fun hgood => ?_)
  · rw [lA h5 k15]
    simp only [Option.bind_some]
    refine W.bind (W.mono hm ?_)
    intro b10 hb10
    have : b10 = false := by
      rw [← Bool.not_eq_true, hb10]
      rintro ⟨hr, h2, h3, h4, -⟩
      rw [hb8.2 hr] at hbad
      simp only [Bool.not_true, Bool.false_or, Bool.or_eq_true, decide_eq_true_eq] at hbad
      omega
    subst this
    simp only [Bool.not_false, iteB_true]
    exact ⟨true, rfl, rfl⟩
  · simp only [Bool.or_eq_false_iff, decide_eq_false_iff_not, Bool.not_eq_false'] at hgood
    obtain ⟨⟨⟨hr, hi0⟩, hji⟩, hjl⟩ := hgood
    have hr := hb8.1 hr
    obtain ⟨hr1, hr2, hr3, hr4⟩ := id hr
    rw [lA h5 k15]
    simp only [Option.bind_some, l7, l8]
    refine W.bind (W.mono hm ?_)
    intro b16 hb16
    obtain ⟨a', rfl⟩ : ∃ r : Nat, root = r := ⟨root.toNat, by omega⟩
    obtain ⟨i', rfl⟩ : ∃ r : Nat, i = r := ⟨i.toNat, by omega⟩
    obtain ⟨j', rfl⟩ : ∃ r : Nat, j = r := ⟨j.toNat, by omega⟩
    have z5' : h.size ≤ h5.size := by have := k5.size; omega
    refine W.bind (W.mono (refEnds_spec (f := h.size) o5 z5' (by omega) hr1 hr4 oks (a := a') (i := i') (by omega) (by omega)) ?_)
    rintro ⟨x17, h6⟩ ⟨O, bs, rfl, lb, bo, hb⟩
    dsimp only at bo ⊢
    have ei : ixL (⟨some (O, 0), s.length + 1⟩ : Sl) 1 (j' : Int) = some (O, j') := by
      have : ixL (⟨some (O, 0), s.length + 1⟩ : Sl) 1 (j' : Int) = some (O, 0 + j' * 1) := ixA_nat (show j' < s.length + 1 by omega)
      rw [this]; congr 2; omega
    obtain ⟨b, eb⟩ : ∃ b, bs[j']? = some b := ⟨_, List.getElem?_eq_getElem (by omega)⟩
    rw [ei]
    simp only [Option.bind_some, bo.ld eb]
    have hbj := hb j' (by omega)
    rw [eb] at hbj
    have e : b16 = b := by
      rw [Bool.eq_iff_iff, hb16]
      constructor
      · intro hm
        exact Option.some.inj (hbj.2 hm.2.2.2.2)
      · intro hm
        exact ⟨hr, by omega, by omega, by omega, hbj.1 (by rw [hm])⟩
    subst e
    simp only [beq_self_eq_true, iteB_true]
    exact ⟨true, rfl, rfl⟩

theorem lawTreeMatches (h : AHeap) (x0 : List Nd × Int × Unit) (k0 : RTree.ok x0) (as0 : List AVal) (b0 : RTree.rep (· < h.size) h x0 as0) (x1 : List UInt8) (k1 : (RStr cfg.P).ok x1) (x2 : Int) (k2 : (RInt cfg.P .i64).ok x2) (x3 : Int) (k3 : (RInt cfg.P .i64).ok x3) (hw : RTree.wt x0 ≤ 1048576) : M_boulterlaw18_TreeMatches h as0 x1 x2 x3 = some true := by
  obtain ⟨ns, root, _⟩ := x0
  obtain ⟨a, b, rfl, ⟨c, rfl, m, cells, v, r⟩, a2, b2, rfl, e1, e2⟩ := b0
  have e0 := reps_node r
  subst e0
  have e1 : a2 = [.int .i64 root] := e1
  have e2 : b2 = [] := e2
  subst e1 e2
  have hl : ns.length ≤ sumWt RNode.wt ns := len_wt ns
  have hw : (sumWt RNode.wt ns + 1) + (1 + 0) ≤ 1048576 := hw
  exact treeMatches_true v (fun n hn => okS_of (k0.1.2 n hn)) (by show ns.length ≤ 1048576; omega) x1 x2 x3
end Go.Abs.L
