/-
  TREE: any nodes are put in, or refused.
-/
import Derived.Test.YtmjljpnalhknfaaDoorTreeSet
import Derived.Test.YtmjljpnalhknfaaDoorAbsArr
namespace Go.Abs.L
open Go.Abs
set_option linter.unusedVariables false
set_option linter.unusedSimpArgs false

noncomputable abbrev RSet : RT cfg.P (Int × Int × Int × Int × Unit) := RProd (RInt cfg.P .u64) (RProd (RInt cfg.P .u64) (RProd (RInt cfg.P .u64) (RProd (RInt cfg.P .u64) (RUnit cfg.P))))
noncomputable abbrev RNode : RT cfg.P Nd := RIso (RProd (RInt cfg.P .i64) (RProd (RInt cfg.P .i64) (RProd (RInt cfg.P .i64) (RProd (RInt cfg.P .i64) (RProd (RInt cfg.P .i64) (RProd (RInt cfg.P .i64) (RProd RSet (RUnit cfg.P))))))))
  (fun n : Nd => (n.k, n.a, n.b, n.mi, n.ma, n.gr, (n.s0, n.s1, n.s2, n.s3, ()), ()))
theorem argNode : ArgT cfg.P 30 RNode :=
  argIso (argFields (t := 30) (ts := [3, 3, 3, 3, 3, 3, 28]) (by kernel_rfl) (by kernel_rfl) (argCons (argInt (by kernel_rfl) (by kernel_rfl)) (argCons (argInt (by kernel_rfl) (by kernel_rfl)) (argCons (argInt (by kernel_rfl) (by kernel_rfl)) (argCons (argInt (by kernel_rfl) (by kernel_rfl)) (argCons (argInt (by kernel_rfl) (by kernel_rfl)) (argCons (argInt (by kernel_rfl) (by kernel_rfl))
    (argCons (argArr (e := 26) (n := 4) (by kernel_rfl) (by kernel_rfl) (by kernel_rfl) (argCons (argInt (by kernel_rfl) (by kernel_rfl)) (argCons (argInt (by kernel_rfl) (by kernel_rfl)) (argCons (argInt (by kernel_rfl) (by kernel_rfl)) (argCons (argInt (by kernel_rfl) (by kernel_rfl)) argNil))))) argNil)))))))) (fun x => ⟨x.1, x.2.1, x.2.2.1, x.2.2.2.1, x.2.2.2.2.1, x.2.2.2.2.2.1, x.2.2.2.2.2.2.1.1, x.2.2.2.2.2.2.1.2.1, x.2.2.2.2.2.2.1.2.2.1, x.2.2.2.2.2.2.1.2.2.2.1⟩) (fun _ => rfl)
theorem reps_node {S : Nat → Prop} {h : AHeap} : ∀ {xs : List Nd} {cs : List AVal}, reps RNode S h xs cs → cs = xs.flatMap nodeC
  | [], cs, hr => hr
  | x :: xs, cs, ⟨a, b, e, ⟨a1, b1, e1, r1, a2, b2, e2, r2, a3, b3, e3, r3, a4, b4, e4, r4, a5, b5, e5, r5, a6, b6, e6, r6, a7, b7, e7, ⟨c1, d1, f1, q1, c2, d2, f2, q2, c3, d3, f3, q3, c4, d4, f4, q4, q5⟩, r7⟩, h2⟩ => by
    rw [e, reps_node h2, List.flatMap_cons]
    have r1 : a1 = [.int .i64 x.k] := r1
    have r2 : a2 = [.int .i64 x.a] := r2
    have r3 : a3 = [.int .i64 x.b] := r3
    have r4 : a4 = [.int .i64 x.mi] := r4
    have r5 : a5 = [.int .i64 x.ma] := r5
    have r6 : a6 = [.int .i64 x.gr] := r6
    have q1 : c1 = [.int .u64 x.s0] := q1
    have q2 : c2 = [.int .u64 x.s1] := q2
    have q3 : c3 = [.int .u64 x.s2] := q3
    have q4 : c4 = [.int .u64 x.s3] := q4
    have q5 : d4 = [] := q5
    have r7 : b7 = [] := r7
    rw [e1, e2, e3, e4, e5, e6, e7, f1, f2, f3, f4, r1, r2, r3, r4, r5, r6, r7, q1, q2, q3, q4, q5]; rfl
theorem okS_of {n : Nd} (k : RNode.ok n) : OkS n := by
  obtain ⟨_, _, _, _, _, _, ⟨k0, k1, k2, k3, _⟩, _⟩ := k
  have k0 : 0 ≤ n.s0 ∧ n.s0 ≤ 18446744073709551615 := k0
  have k1 : 0 ≤ n.s1 ∧ n.s1 ≤ 18446744073709551615 := k1
  have k2 : 0 ≤ n.s2 ∧ n.s2 ≤ 18446744073709551615 := k2
  have k3 : 0 ≤ n.s3 ∧ n.s3 ≤ 18446744073709551615 := k3
  intro w hw
  simp only [wordsN, List.mem_cons, List.not_mem_nil, or_false] at hw
  rcases hw with rfl | rfl | rfl | rfl <;> assumption

theorem lawTreeAdds (h : AHeap) (x0 : List Nd) (k0 : (RSlice RNode).ok x0) (c0 : Sl) (m0 : c0.n = x0.length) (u0 : ∃ cells, View cfg.P (· < h.size) h RNode.sz c0 cells ∧ reps RNode (· < h.size) h x0 cells) : M_boulterlaw18_TreeAdds h c0 = some true := by
  obtain ⟨cells, v0, r0⟩ := u0
  have e0 := reps_node r0
  subst e0
  have v0 : View cfg.P (· < h.size) h 10 c0 (x0.flatMap nodeC) := v0
  unfold M_boulterlaw18_TreeAdds
  refine W.eq (W.iteP (fun hbig => W.ret rfl) (fun hsm => ?_))
  simp only [Option.bind_some]
  refine W.bind (W.mono (Q := fun o => ∃ (ns : List Nd) (root : Int) (h7 : AHeap), o = .inl ((ns.length : Int), h7) ∧ ns.length ≤ 40 ∧ TreeO ⟨h.size, []⟩ h h7 h.size ns root ∧ (∀ (i : Nat) n, ns[i]? = some n → mayF n i = true) ∧ (ns ≠ [] → root = (ns.length : Int) - 1)) ?_ ?_)
  · refine W.loop (fun s => ∃ (k : Nat) (ns : List Nd) (root : Int), s.2.1 = k ∧ k ≤ x0.length ∧ s.1 = ns.length ∧ ns.length ≤ k ∧ TreeO ⟨h.size, []⟩ h s.2.2 h.size ns root ∧ (∀ (i : Nat) n, ns[i]? = some n → mayF n i = true) ∧ (ns ≠ [] → root = (ns.length : Int) - 1)) (fun s => x0.length - s.2.1.toNat)
      ⟨0, [], 0, rfl, by omega, rfl, by simp, ⟨⟨none, 0⟩, AHeap.get_push_new _ _, Own.nil _ _ _ _, by simp [Sl.id?], fun i hi => AHeap.get_push_old _ _ hi, rfl⟩, by simp, by simp⟩ ?_
    rintro ⟨_, _, h2⟩ ⟨k, ns, root, rfl, hk, rfl, hnk, t, hall, hroot⟩
    dsimp only at t
    have hlt := t.lt
    unfold M_boulterlaw18_TreeAdds_L0
    dsimp only
    refine W.iteP (fun hk' => ?_) (fun hge => W.ret ⟨ns, root, h2, rfl, by omega, t, hall, hroot⟩)
    have hk' : k < x0.length := by omega
    obtain ⟨n, en⟩ : ∃ n, x0[k] = n := ⟨_, rfl⟩
    have hx : x0[k]? = some n := by rw [List.getElem?_eq_getElem hk', en]
    have okn : OkS n := okS_of (k0.2 n (List.mem_of_getElem? hx))
    have same2 : Same (· < h.size) h h2 := by obtain ⟨_, _, _, _, h4, _⟩ := t; exact h4
    obtain ⟨a, ea, _, la⟩ := (v0.keep same2 (fun _ hi => hi)).fld (i := k) (by omega)
    rw [chunk_take nodeC_len hx] at la
    obtain ⟨h4, e4, g4, k4, z4⟩ := var_st (h := h2) (g := ⟨h.size, []⟩) (z := zeroC) (cs := nodeC n) (n := 10) (may_ge (Nat.le_of_lt hlt)) rfl rfl rfl
    have lA : ldA h4 (h2.size, 0) 10 = some (nodeC n) := by rw [ldA_of g4 (by simp) (Nat.le_refl 10)]; rfl
    rw [ea]
    simp only [Option.bind_some, la, e4, lA]
    refine W.bind ?_
    refine W.bind (W.mono (add_spec (t.keep k4) (may_ge (Nat.le_refl _)) (Nat.le_refl _) rfl n (by omega)) ?_)
    rintro ⟨⟨x12, x13⟩, h5⟩ ⟨er, t5, z5, c5⟩
    dsimp only at er t5 z5 c5 ⊢
    have g5 := c5 _ _ (by omega) g4
    have l0 : ldI h5 (h2.size, 0) .i64 = some n.k := ldI_of g5 (by simp) rfl
    have l1 : ldI h5 (h2.size, 1) .i64 = some n.a := ldI_of g5 (by simp) rfl
    have l2 : ldI h5 (h2.size, 2) .i64 = some n.b := ldI_of g5 (by simp) rfl
    have l3 : ldI h5 (h2.size, 3) .i64 = some n.mi := ldI_of g5 (by simp) rfl
    have l4 : ldI h5 (h2.size, 4) .i64 = some n.ma := ldI_of g5 (by simp) rfl
    have l5 : ldI h5 (h2.size, 5) .i64 = some n.gr := ldI_of g5 (by simp) rfl
    have l6 : ldA h5 (h2.size, 6) 4 = some (setC n) := by rw [ldA_of g5 (by simp) (Nat.le_refl 10)]; rfl
    have ln : ldA h5 (h2.size, 0) 10 = some (nodeC n) := by rw [ldA_of g5 (by simp) (Nat.le_refl 10)]; rfl
    have hmay : M_boulterref18_May h5 [.int .i64 n.k, .int .i64 n.a, .int .i64 n.b, .int .i64 n.mi, .int .i64 n.ma, .int .i64 n.gr, .str (bytesN n)] (ns.length : Int) = some (mayF n ns.length) := refMay_eq h5 n okn _
    simp only [l0, l1, l2, l3, l4, l5, l6, ln, bytes_eq h5 n okn, hmay, Option.bind_some]
    unfold addR at er t5
    rw [if_neg (by omega)] at er t5
    obtain ⟨s, g1, o1, f1, s1, n1⟩ := id t5
    have lS : ldL h5 (h.size, 0) = some s := ldL_of g1 (by simp) rfl
    cases hm : mayF n ns.length
    · rw [hm, if_neg (by simp)] at er t5 n1
      obtain ⟨rfl, rfl⟩ := Prod.mk.inj er
      simp only [Bool.not_false, iteB_true, lS, Option.bind_some]
      dsimp only at n1 t5
      rw [show (((0 : Int) != 0) || ((1 : Int) != 1)) = false from rfl, n1]
      simp only [iteB_false, Option.bind_some, bne_self_eq_false]
      refine W.ret ?_
      dsimp only
      rw [ek64 (by omega)]
      exact W.ret ⟨⟨k + 1, ns, root, rfl, by omega, rfl, by omega, t5, hall, hroot⟩, by dsimp only; omega⟩
    · rw [hm, if_pos rfl] at er t5 n1 g1 o1
      obtain ⟨rfl, rfl⟩ := Prod.mk.inj er
      dsimp only at n1 t5 g1 o1
      have lR : ldI h5 (h.size, 1) .i64 = some (ns.length : Int) := ldI_of g1 (by simp) rfl
      obtain ⟨a2, ea2, _, la2⟩ := (o1.view (P := cfg.P) (S := (· < h5.size)) szNode fun i hi => o1.lt hi).fld (i := ns.length) (by rw [n1]; simp)
      rw [chunk_take nodeC_len (x := n) (by simp)] at la2
      have ew : IntKind.i64.wrap ((ns.length : Int) + 1) = ((ns.length + 1 : Nat) : Int) := ek64 (by omega)
      simp only [Bool.not_true, iteB_false, lS, lR, ea2, la2, eqNode, Option.bind_some, n1, List.length_append, List.length_singleton, ew, bne_self_eq_false, Bool.or_false, decide_true, Bool.not_true]
      refine W.ret ?_
      dsimp only
      rw [ek64 (by omega)]
      refine W.ret ⟨⟨k + 1, ns ++ [n], (ns.length : Int), rfl, by omega, by simp, by simp; omega, t5, ?_, by simp⟩, by dsimp only; omega⟩
      intro i m hi
      by_cases hil : i < ns.length
      · rw [List.getElem?_append_left hil] at hi
        exact hall i m hi
      · have : i = ns.length := by
          have := (List.getElem?_eq_some_iff.1 hi).1
          simp at this
          omega
        subst this
        simp at hi
        rw [← hi]; exact hm
  · rintro o ⟨ns, root, h7, rfl, hl, t, hall, hroot⟩
    obtain ⟨s, g1, o1, f1, s1, n1⟩ := t
    have lA : ldA h7 (h.size, 0) 2 = some [s.v, .int .i64 root] := by rw [ldA_of g1 (by simp) (Nat.le_refl 2)]; rfl
    have hv := o1.view (P := cfg.P) (S := (· < h7.size)) szNode fun i hi => o1.lt hi
    dsimp only
    rw [lA]
    simp only [Option.bind_some]
    rw [right_spec hv (by omega) hall]
    simp only [Option.bind_some]
    rw [show (decide (0 ≤ root ∧ root < (ns.length : Int)) == decide ((ns.length : Int) > 0)) = true from by
      by_cases hn : ns = []
      · subst hn
        rw [decide_eq_false (by simp), decide_eq_false (by simp)]; rfl
      · have := hroot hn
        have := List.length_pos_iff.2 hn
        rw [decide_eq_true (by omega), decide_eq_true (by omega)]; rfl]
    exact W.ret rfl
end Go.Abs.L
