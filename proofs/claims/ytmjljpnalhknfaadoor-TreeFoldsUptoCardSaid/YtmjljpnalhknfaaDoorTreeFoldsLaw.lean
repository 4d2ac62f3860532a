/-
  TREE: what a tree matches, its fold matches, and it matches the text in other cases, too.
-/
import Derived.Test.YtmjljpnalhknfaaDoorTreeSmall
import Derived.Test.YtmjljpnalhknfaaDoorTreeCase
import Derived.Test.YtmjljpnalhknfaaDoorLlaw18x3
import Derived.Test.YtmjljpnalhknfaaDoorTreeAddsLaw
namespace Go.Abs.L
open Go.Abs
set_option linter.unusedVariables false
set_option linter.unusedSimpArgs false

theorem byt_all (l : List UInt8) : (byt l).all AVal.one = true := by
  rw [List.all_eq_true]; intro x hx
  obtain ⟨b, _, rfl⟩ := List.mem_map.1 hx
  rfl
theorem byt_set {A D : List UInt8} {b : UInt8} {i : Nat} (hA : A.length = i) : (byt (A ++ b :: D)).set i (.int .u8 (oth b.toNat : Int)) = byt (A ++ othU b :: D) := by
  subst hA
  rw [← othU_nat]
  simp [byt, List.set_append_right]
theorem treeFolds_true {h : AHeap} {c : Sl} {ns : List Nd} {root : Int} (v : View cfg.P (· < h.size) h 10 c (ns.flatMap nodeC)) (oks : ∀ n ∈ ns, OkS n) (hl : ns.length ≤ 1048576) (s : List UInt8) :
    M_boulterlaw18_TreeFolds h [c.v, .int .i64 root] s = some true := by
  have nl : c.n = ns.length := by have := v.1; rw [chunk_length nodeC_len] at this; omega
  unfold M_boulterlaw18_TreeFolds
  refine W.eq (W.need rfl ?_)
  simp only [Option.bind_some]
  obtain ⟨h1, e1⟩ : ∃ h1, h1 = h.push (.cells none 2 [c.v, .int .i64 root]) := ⟨_, rfl⟩
  rw [← e1]
  have z1 : h1.size = h.size + 1 := by rw [e1]; rfl
  have k1 : Only none h h1 := by rw [e1]; exact Only.push _ _ _
  have g1 : h1.get h.size = some (.cells none 2 [c.v, .int .i64 root]) := by rw [e1, AHeap.get_push_new]
  have lA : ∀ hh, Only none h1 hh → ldA hh (h.size, 0) 2 = some [c.v, .int .i64 root] := fun hh k => by rw [ldA_of (k.keep g1 (by simp)) (by simp) (Nat.le_refl 2)]; rfl
  have vA : ∀ hh, Only none h1 hh → View cfg.P (· < hh.size) hh 10 c (ns.flatMap nodeC) := fun hh k => (v.onl (k1.trans k)).keep (fun _ _ => rfl) (fun id hi => by have hi : id < h.size := hi; show id < hh.size; have := k.size; omega)
  simp only [lA h1 (Only.refl _ _), Option.bind_some]
  refine W.bind (W.mono (plain_spec (f := h.size) (vA h1 (Only.refl _ _)) oks hl (by omega)) ?_)
  rintro ⟨x2, h2⟩ ⟨s2, rfl, o2, k2⟩
  dsimp only at o2 k2 ⊢
  refine W.bind (W.mono (small_tot (o2.view szRef fun id hid => o2.lt hid) hl) ?_)
  intro b3 hb3
  refine W.bind (W.mono (Q := fun r => Only none h1 r.2 ∧ (r.1 = false → ns.length ≤ 12 ∧ s.length ≤ 8)) ?_ ?_)
  · refine W.ite (fun _ => W.ret ⟨k2, by simp⟩) (fun hg => ?_)
    simp only [Bool.or_eq_false_iff, Bool.not_eq_false', decide_eq_false_iff_not] at hg
    rw [lA h2 k2]
    simp only [Option.bind_some]
    refine W.bind (W.mono (plain_spec (f := h.size) (vA h2 k2) oks hl (by have := k2.size; omega)) ?_)
    rintro ⟨x6, h4⟩ ⟨s4, rfl, o4, k4⟩
    dsimp only at o4 k4 ⊢
    refine W.bind (W.mono (refRight_tot (o4.view szRef fun id hid => o4.lt hid) oks hl) ?_)
    intro b7 _
    exact W.ret ⟨k2.trans k4, fun _ => ⟨hb3 hg.1, by omega⟩⟩
  rintro ⟨x4, h3⟩ ⟨k3, hs3⟩
  dsimp only at k3 hs3 ⊢
  refine W.ite (fun _ => ⟨true, rfl, rfl⟩) (fun hx4 => ?_)
  obtain ⟨hn12, hs8⟩ := hs3 hx4
  rw [lA h3 k3]
  simp only [Option.bind_some]
  have z3 := k3.size
  refine W.bind (W.mono (treeFold_spec (f := h.size) (vA h3 k3) hn12 (by omega)) ?_)
  rintro ⟨x10, h5⟩ ⟨s', rfl, o5, k5⟩
  dsimp only at o5 k5 ⊢
  have z5 := k5.size
  obtain ⟨h7, e7, g7, k7, z7⟩ := var_st (h := h5) (g := ⟨h.size, []⟩) (z := [.slice none 0, .int .i64 (0 : Int)]) (cs := [s'.v, .int .i64 root]) (n := 2) (may_ge (by omega)) rfl rfl rfl
  rw [e7]
  simp only [Option.bind_some]
  refine W.need (decide_eq_true (by omega)) ?_
  obtain ⟨h8, e8⟩ : ∃ h8, h8 = h7.push (.cells (some 5) 2 (byt s)) := ⟨_, rfl⟩
  rw [show (s.map fun b => AVal.int .u8 b.toNat) = byt s from rfl, ← e8]
  have g8 : h8.get h7.size = some (.cells (some 5) 2 (byt s)) := by rw [e8, AHeap.get_push_new]
  have k8 : Only none h7 h8 := by rw [e8]; exact Only.push _ _ _
  refine W.bind (W.mono (Q := fun hh => Only none h7 hh ∧ hh.get h7.size = some (.cells (some 5) 2 (byt (s.map othU)))) ?_ ?_)
  · refine W.loop (fun st => ∃ i : Nat, st.1 = i ∧ i ≤ s.length ∧ Only none h7 st.2 ∧ st.2.get h7.size = some (.cells (some 5) 2 (byt ((s.take i).map othU ++ s.drop i)))) (fun st => s.length - st.1.toNat)
      ⟨0, rfl, by omega, k8, by simpa using g8⟩ ?_
    rintro ⟨_, hh⟩ ⟨i, rfl, hi, k, gg⟩
    dsimp only at k gg
    unfold M_boulterlaw18_TreeFolds_L0
    dsimp only
    refine W.iteP (fun hlt => ?_) (fun hge => W.ret ⟨k, ?_⟩)
    · have hlt : i < s.length := by omega
      obtain ⟨b, eb⟩ : ∃ b, s[i] = b := ⟨_, rfl⟩
      have hx : s[i]? = some b := by rw [List.getElem?_eq_getElem hlt, eb]
      have hd : s.drop i = b :: s.drop (i + 1) := by rw [List.drop_eq_getElem_cons hlt, eb]
      have hql : ((s.take i).map othU).length = i := by simp; omega
      rw [hd] at gg
      have ei : ixL (⟨some (h7.size, 0), s.length⟩ : Sl) 1 (i : Int) = some (h7.size, i) := by
        have : ixL (⟨some (h7.size, 0), s.length⟩ : Sl) 1 (i : Int) = some (h7.size, 0 + i * 1) := ixA_nat hlt
        rw [this]; congr 2; omega
      have lb : ldI hh (h7.size, i) .u8 = some (b.toNat : Int) := ldI_of gg (by simp) (by
        unfold byt
        rw [List.getElem?_map, List.getElem?_append_right (by omega), hql]; simp)
      rw [ei]
      simp only [Option.bind_some, lb, other_eq hh b.toNat_lt]
      rw [st_of gg (may_ge (by omega)) (by simp; omega) rfl, splice_one (by simp; omega), byt_set hql]
      simp only [Option.bind_some]
      have zz := hh.lt_of_get gg
      rw [ek64 (by omega)]
      refine W.ret ⟨⟨i + 1, rfl, by omega, Only.set_new k gg (Nat.le_refl _), ?_⟩, by dsimp only; omega⟩
      dsimp only
      rw [AHeap.get_set_same _ _ zz, take_snoc hx, List.map_append, List.append_assoc]
      rfl
    · have : i = s.length := by omega
      subst this
      rw [List.take_length, List.drop_length, List.append_nil] at gg
      exact gg
  rintro h11 ⟨k11, g11⟩
  have z11 := k11.size
  have k71 : Only none h1 h7 := (k3.trans k5).trans k7
  have k1b : Only none h1 h11 := k71.trans k11
  have g5 : h11.get h5.size = some (.cells none 2 [s'.v, .int .i64 root]) := k11.keep g7 (by simp)
  have gt := k1b.keep g1 (by simp)
  have l15 : ldL h11 (h5.size, 0) = some s' := ldL_of g5 (by simp) rfl
  have l16 : ldL h11 (h.size, 0) = some c := ldL_of gt (by simp) rfl
  have l17 : ldI h11 (h5.size, 1) .i64 = some root := ldI_of g5 (by simp) rfl
  have l18 : ldI h11 (h.size, 1) .i64 = some root := ldI_of gt (by simp) rfl
  have l20 : ldA h11 (h5.size, 0) 2 = some [s'.v, .int .i64 root] := by rw [ldA_of g5 (by simp) (Nat.le_refl 2)]; rfl
  have nl' : s'.n = ns.length := by have := o5.1; rw [chunk_length nodeC_len, List.length_map] at this; omega
  have lb : byL h11 (⟨some (h7.size, 0), s.length⟩ : Sl) = some (s.map othU) := own_bytes (g := ⟨h.size, []⟩) (e := 5) ⟨by simp, byt_all _, .inr ⟨h7.size, [], rfl, by rw [List.append_nil]; exact g11, may_ge (by omega)⟩⟩
  have o11 := o5.keep (h' := h11) fun j hj => (k7.trans k11).get j (o5.lt hj) (by simp)
  have vF : View cfg.P (· < h11.size) h11 10 s' ((ns.map foldN).flatMap nodeC) := o11.view szNode fun id hid => o11.lt hid
  have okf : ∀ n ∈ ns.map foldN, OkS n := fun n hn => by
    obtain ⟨m, hm, rfl⟩ := List.mem_map.1 hn
    exact okS_fold (oks m hm)
  rw [l15]
  simp only [Option.bind_some]
  rw [l16]
  simp only [Option.bind_some]
  rw [nl, nl']
  simp only [bne_self_eq_false, iteB_false]
  rw [l17]
  simp only [Option.bind_some]
  rw [l18]
  simp only [Option.bind_some, bne_self_eq_false, iteB_false]
  rw [l20]
  simp only [Option.bind_some]
  rw [lb]
  simp only [Option.bind_some]
  refine W.bind (W.bind (W.mono (matches_spec vF okf (s := s) (by omega) 0 s.length) ?_))
  intro b1 hb1
  refine W.bind (W.mono (matches_spec vF okf (s := s.map othU) (by rw [List.length_map]; omega) 0 s.length) ?_)
  intro b2 hb2
  have e12 : b1 = b2 := by
    rw [Bool.eq_iff_iff, hb1, hb2, matchP_oth oks]
  subst e12
  simp only [beq_self_eq_true, Bool.not_true]
  refine W.ret ?_
  simp only [iteB_false]
  rw [lA h11 k1b]
  simp only [Option.bind_some]
  refine W.bind (W.mono (matches_spec (vA h11 k1b) oks (s := s) (by omega) 0 s.length) ?_)
  intro b4 hb4
  refine W.bind (W.mono (Q := fun b => b = true) ?_ ?_)
  · refine W.ite (fun _ => W.ret rfl) (fun hb => ?_)
    simp only [Bool.not_eq_false'] at hb
    have hm := matchP_fold oks (hb4.1 hb)
    refine W.bind (W.mono (matches_spec vF okf (s := s) (by omega) 0 s.length) ?_)
    intro b5 hb5
    exact W.ret (hb5.2 hm)
  · rintro _ rfl
    exact ⟨true, rfl, rfl⟩

noncomputable abbrev RTree : RT cfg.P (List Nd × Int × Unit) := RProd (RSlice RNode) (RProd (RInt cfg.P .i64) (RUnit cfg.P))
theorem argTree : ArgT cfg.P 25 RTree :=
  argFields (t := 25) (ts := [22, 3]) (by kernel_rfl) (by kernel_rfl) (argCons (argSlice (by kernel_rfl) (by kernel_rfl) (by kernel_rfl) argNode) (argCons (argInt (by kernel_rfl) (by kernel_rfl)) argNil))
theorem len_wt : ∀ l : List Nd, l.length ≤ sumWt RNode.wt l
  | [] => Nat.le_refl _
  | x :: l => by
    have := len_wt l
    have h : RNode.wt x = 10 := rfl
    simp only [sumWt, List.length_cons, h]; omega
theorem lawTreeFolds (h : AHeap) (x0 : List Nd × Int × Unit) (k0 : RTree.ok x0) (as0 : List AVal) (b0 : RTree.rep (· < h.size) h x0 as0) (x1 : List UInt8) (k1 : (RStr cfg.P).ok x1) (hw : RTree.wt x0 ≤ 1048576) : M_boulterlaw18_TreeFolds h as0 x1 = some true := by
  obtain ⟨ns, root, _⟩ := x0
  obtain ⟨a, b, rfl, ⟨c, rfl, m, cells, v, r⟩, a2, b2, rfl, e1, e2⟩ := b0
  have e0 := reps_node r
  subst e0
  have e1 : a2 = [.int .i64 root] := e1
  have e2 : b2 = [] := e2
  subst e1 e2
  have hl : ns.length ≤ sumWt RNode.wt ns := len_wt ns
  have hw : (sumWt RNode.wt ns + 1) + (1 + 0) ≤ 1048576 := hw
  exact treeFolds_true v (fun n hn => okS_of (k0.1.2 n hn)) (by show ns.length ≤ 1048576; omega) x1
end Go.Abs.L
