/-
  AutoApart: bytes that aren't told apart lead to the same states from everywhere.
-/
import Derived.Test.YtiodcbipjnmpgaaAutoT
namespace Go.Av.L
open Go.Av Go.Lib
set_option linter.unusedVariables false
set_option linter.unusedSimpArgs false

def ApartV (l : List S_auto_state) (b c : Int) : Prop := ∃ x ∈ l, x.kind_ = 1 ∧ hasV x.set_ b ≠ hasV x.set_ c
theorem bne_dec (u v : Bool) : (!(u == v)) = decide (u ≠ v) := by cases u <;> cases v <;> rfl
theorem apart_ok {t : S_tree_Tree} {a : S_auto_Auto} (h : LOk t a.l_) {b c : Int} (hb : 0 ≤ b ∧ b ≤ 255) (hc : 0 ≤ c ∧ c ≤ 255) : W (M_auto_Auto_Apart a b c) fun r => r = true ↔ ApartV a.l_ b c := by
  have hle := h.le
  unfold M_auto_Auto_Apart
  refine W.bind (W.mono (W.list (l := a.l_) (fun (_ : Unit) (i : Nat) => (i : Int)) (fun _ i => ¬ ApartV (a.l_.take i) b c) ?_ ?_ () (by rintro ⟨x, hx, _⟩; simp at hx) (Q := fun o => match o with | .inl _ => ¬ ApartV a.l_ b c | .inr r => r = true ∧ ApartV a.l_ b c)) fun o ho => ?_)
  · intro _ h
    unfold M_auto_Auto_Apart_L0
    refine W.iteP (fun h => by omega) fun _ => W.ret ?_
    simpa using h
  · intro _ i hi h
    unfold M_auto_Auto_Apart_L0
    refine W.iteP (fun _ => ?_) fun h => by omega
    rw [ixV_get hi, Option.bind_some, iteB_beq]
    refine W.bind (W.mono (Q := fun v => v = decide (a.l_[i].kind_ = 1 ∧ hasV a.l_[i].set_ b ≠ hasV a.l_[i].set_ c)) ?_ fun v hv => ?_)
    · split
      · rename_i h1
        rw [has_eq _ hb.1 hb.2, has_eq _ hc.1 hc.2]
        exact W.bind (W.ret (W.bind (W.ret (W.ret (by rw [bne_dec]; simp [h1])))))
      · rename_i h1
        exact W.ret (by simp [h1])
    · subst hv
      refine W.iteP (fun hc => W.ret ⟨rfl, a.l_[i], List.getElem_mem hi, hc⟩) fun hc => W.ret ⟨(), ek64 (by omega), ?_⟩
      rw [take_snoc (List.getElem?_eq_getElem hi)]
      rintro ⟨x, hx, h2⟩
      rcases List.mem_append.1 hx with hx | hx
      · exact h ⟨x, hx, h2⟩
      · obtain rfl := List.mem_singleton.1 hx
        exact hc h2
  · cases o with
    | inl _ => exact W.ret ⟨fun h => by simp at h, fun h => absurd h ho⟩
    | inr r => exact W.ret ⟨fun _ => ho.2, fun _ => ho.1⟩
theorem stp_same {l : List S_auto_state} {b c : Int} (h : ¬ ApartV l b c) (s : List Int) : stp l s b = stp l s c := by
  have : eat1 l b = eat1 l c := by
    funext i
    unfold eat1
    split
    · rename_i x hx
      by_cases hk : x.kind_ = 1
      · have : hasV x.set_ b = hasV x.set_ c := Classical.byContradiction fun hn => h ⟨x, List.mem_of_getElem? hx, hk, hn⟩
        rw [this]
      · simp [hk]
    · rfl
  unfold stp
  rw [this]

theorem lawAutoApart (p0 : S_tree_Tree) {ok : S_tree_Node → Prop} {Q : Prop} (k0 : okLu ok p0.Nodes ∧ Q) (p1 : List UInt8) {Q' : Prop} (k1 : Q') (p2 : Int) (k2 : okI .u8 p2) (p3 : Int) (k3 : okI .u8 p3) : M_boulterlaw20_AutoApart p0 p1 p2 p3 = some true := by
  have hb2 : (0 : Int) ≤ p2 ∧ p2 ≤ 255 := k2
  have hb3 : (0 : Int) ≤ p3 ∧ p3 ≤ 255 := k3
  have hn0 := k0.1.1
  refine W.eq ?_
  unfold M_boulterlaw20_AutoApart
  refine W.bind ((plain_ok p0 hn0).mono fun x1 _ => W.bind ((small_ok x1).mono fun x2 _ => ?_))
  refine W.ite (fun _ => awake_ok rfl) fun hs => ?_
  simp only [Bool.or_eq_false_iff, decide_eq_false_iff_not] at hs
  have hl : p1.length ≤ 20 := by have := hs.2; omega
  refine W.bind ((build_ok p0).mono ?_)
  rintro ⟨w4, x5⟩ hb
  cases w4 with
  | none =>
    simp only at hb ⊢
    rw [iteB_bne, if_neg hb]
    exact awake_ok rfl
  | some a =>
    simp only at hb ⊢
    obtain ⟨rfl, hA⟩ := hb
    rw [iteB_bne, if_pos rfl, start_ok hA, Option.bind_some]
    obtain ⟨ap, e, hap⟩ := apart_ok hA.l hb2 hb3
    refine W.bind (W.mono (W.list (l := p1) (fun (s : List Int) (i : Nat) => (s, (i : Int))) (fun s _ => SOk a.l_ s) ?_ ?_ _ (cl_ok hA.l) (Q := fun o => o = .inl ())) fun o ho => ?_)
    · intro s hs
      unfold M_boulterlaw20_AutoApart_L0
      exact W.iteP (fun h => by omega) fun _ => W.ret rfl
    · intro s i hi hs
      unfold M_boulterlaw20_AutoApart_L0
      refine W.iteP (fun _ => ?_) fun h => by omega
      rw [e, Option.bind_some]
      refine W.bind (W.mono (Q := fun b => b = false) (W.ite (fun hna => ?_) fun _ => W.ret rfl) fun b hb => ?_)
      · have hna : ¬ ApartV a.l_ p2 p3 := fun h => by rw [hap.2 h] at hna; cases hna
        rw [step_ok hA.l hs hb2, step_ok hA.l hs hb3, stp_same hna, Option.bind_some, Option.bind_some, same_ok _ (by have := (cl_ok hA.l (fr := false) (bk := false) (f := s.flatMap (eat1 a.l_ p3))).n; unfold stp; omega)]
        exact W.bind (W.ret (W.ret rfl))
      · subst hb
        rw [iteB_false, ixS_get hi, Option.bind_some, step_ok hA.l hs (byte_lt _), Option.bind_some]
        exact W.ret ⟨stp a.l_ s p1[i].toNat, by rw [ek64 (by omega)], cl_ok hA.l⟩
    · subst ho
      simp only
      refine W.bind (W.mono (W.list (l := p0.Nodes) (fun (b : Bool) (i : Nat) => (b, (i : Int))) (fun b i => ∀ n ∈ p0.Nodes.take i, n.Kind = 1 → hasV n.Set p2 ≠ hasV n.Set p3 → b = true) ?_ ?_ false (by intro n hn; simp at hn) (Q := fun b => ∀ n ∈ p0.Nodes, n.Kind = 1 → hasV n.Set p2 ≠ hasV n.Set p3 → b = true)) fun x20 h20 => ?_)
      · intro b h
        unfold M_boulterlaw20_AutoApart_L1
        refine W.iteP (fun h => by omega) fun _ => W.ret ?_
        simpa using h
      · intro b i hi h
        unfold M_boulterlaw20_AutoApart_L1
        refine W.iteP (fun _ => ?_) fun h => by omega
        rw [ixV_get hi, Option.bind_some]
        have fin : ∀ v : Bool, (b = true → v = true) → (p0.Nodes[i].Kind = 1 → hasV p0.Nodes[i].Set p2 ≠ hasV p0.Nodes[i].Set p3 → v = true) → ∃ s', (v, IntKind.i64.wrap ((i : Int) + 1)) = (s', ((i + 1 : Nat) : Int)) ∧ ∀ n ∈ p0.Nodes.take (i + 1), n.Kind = 1 → hasV n.Set p2 ≠ hasV n.Set p3 → s' = true := by
          intro v h1 h2
          refine ⟨v, by rw [ek64 (by omega)], fun n hn hk hne => ?_⟩
          rw [take_snoc (List.getElem?_eq_getElem hi)] at hn
          rcases List.mem_append.1 hn with hn | hn
          · exact h1 (h n hn hk hne)
          · obtain rfl := List.mem_singleton.1 hn
            exact h2 hk hne
        refine W.bind (W.mono (Q := fun v => (b = true → v = true) ∧ (p0.Nodes[i].Kind = 1 → hasV p0.Nodes[i].Set p2 ≠ hasV p0.Nodes[i].Set p3 → v = true)) (W.ite (fun _ => W.ret ⟨fun _ => rfl, fun _ _ => rfl⟩) fun hb0 => ?_) fun v hv => W.ret (fin v hv.1 hv.2))
        rw [iteB_beq]
        refine W.bind (W.mono (Q := fun v => (p0.Nodes[i].Kind = 1 → hasV p0.Nodes[i].Set p2 ≠ hasV p0.Nodes[i].Set p3 → v = true)) ?_ fun v hv => W.ret ⟨fun h => absurd (h.symm.trans hb0) (by decide), hv⟩)
        split
        · rw [has_eq _ hb2.1 hb2.2, has_eq _ hb3.1 hb3.2]
          exact W.bind (W.ret (W.bind (W.ret (W.ret fun _ hne => by rw [bne_dec]; exact decide_eq_true hne))))
        · rename_i hk
          exact W.ret fun h => absurd h hk
      · refine W.bind (W.mono (Q := fun v => v = true) (W.ite (fun _ => W.ret rfl) fun hx => ?_) fun v hv => ?_)
        · rw [e, Option.bind_some]
          refine W.ret ?_
          cases hz : ap
          · rfl
          · exfalso
            obtain ⟨x, hx1, hk, hne⟩ := hap.1 hz
            obtain ⟨n, hn, hnk, hns⟩ := (hA.l.st x hx1).eat hk
            have := h20 n hn hnk (by rw [hns]; exact hne)
            rw [hx] at this; cases this
        · subst hv
          exact W.bind (awake_ok (W.ret rfl))
end Go.Av.L
