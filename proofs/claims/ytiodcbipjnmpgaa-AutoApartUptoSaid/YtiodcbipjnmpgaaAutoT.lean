/-
  Auto: starting and stepping.
-/
import Derived.Test.YtiodcbipjnmpgaaAutoC
namespace Go.Av.L
open Go.Av Go.Lib
set_option linter.unusedVariables false
set_option linter.unusedSimpArgs false

def turnQ {σ ρ : Type} (step : σ → Option (σ ⊕ ρ)) (Q : ρ → Prop) : σ ⊕ ρ → Prop
  | .inl s' => W (Av.loop step s') Q
  | .inr r => Q r
theorem W.turn {σ ρ : Type} {step : σ → Option (σ ⊕ ρ)} {s : σ} {Q : ρ → Prop} (w : W (step s) (turnQ step Q)) : W (Av.loop step s) Q := by
  obtain ⟨o, e, q⟩ := w
  cases o with
  | inl s' => rw [loop_step e]; exact q
  | inr r => exact ⟨r, loop_done e, q⟩

theorem same_ok (l : List Int) (hl : l.length ≤ 1099511627776) : M_boulterref16_Same_sOO l l = some true := by
  refine W.eq ?_
  unfold M_boulterref16_Same_sOO
  rw [iteB_bne, if_pos rfl]
  refine W.bind (W.mono (W.list (l := l) (fun (_ : Unit) (i : Nat) => (i : Int)) (fun _ i => True) ?_ ?_ () trivial (Q := fun o => o = .inl ())) fun o ho => by subst ho; exact W.ret rfl)
  · intro _ h
    unfold M_boulterref16_Same_sOO_L0
    exact W.iteP (fun h => by omega) fun _ => W.ret rfl
  · intro _ i hi h
    unfold M_boulterref16_Same_sOO_L0
    refine W.iteP (fun _ => ?_) fun h => by omega
    rw [ixV_get hi, Option.bind_some, Option.bind_some, iteB_bne, if_pos rfl]
    exact W.ret ⟨(), ek64 (by omega), trivial⟩

structure SOk (l : List S_auto_state) (s : List Int) : Prop where
  i : ∀ j ∈ s, inR l.length j
  n : s.length ≤ 4096
theorem cl_ok {t : S_tree_Tree} {l : List S_auto_state} (h : LOk t l) {fr bk : Bool} {f : List Int} : SOk l (cl l fr bk f) := ⟨cl_in, Nat.le_trans cl_len h.le⟩

theorem start_ok {t : S_tree_Tree} {a : S_auto_Auto} (h : AOk t a) (fr : Bool) : M_auto_Auto_Start a fr = some (cl a.l_ fr false [a.first_]) := by
  unfold M_auto_Auto_Start
  rw [close_ok h.l (by intro i hi; obtain rfl := List.mem_singleton.1 hi; exact h.first) (by simp)]; rfl

/-- what a state leads to behind a byte -/
noncomputable def eat1 (l : List S_auto_state) (b : Int) (i : Int) : List Int :=
  match l[i.toNat]? with
  | some x => if x.kind_ = 1 ∧ hasV x.set_ b = true then [x.a_] else []
  | none => []
noncomputable def stp (l : List S_auto_state) (s : List Int) (b : Int) : List Int := cl l false false (s.flatMap (eat1 l b))
theorem eat1_len (l : List S_auto_state) (b i : Int) : (eat1 l b i).length ≤ 1 := by
  unfold eat1
  split
  · split <;> simp
  · simp
theorem eats_len (l : List S_auto_state) (b : Int) : ∀ s : List Int, (s.flatMap (eat1 l b)).length ≤ s.length
  | [] => by simp
  | i :: s => by
    rw [List.flatMap_cons, List.length_append, List.length_cons]
    have := eats_len l b s
    have := eat1_len l b i
    omega
theorem step_ok {t : S_tree_Tree} {a : S_auto_Auto} (h : LOk t a.l_) {s : List Int} (hs : SOk a.l_ s) {b : Int} (hb : 0 ≤ b ∧ b ≤ 255) : M_auto_Auto_Step_sPVOI a s b = some (stp a.l_ s b) := by
  refine W.eq ?_
  unfold M_auto_Auto_Step_sPVOI
  have hn := hs.n
  refine W.bind (W.mono (W.list (l := s) (fun (o : List Int) (i : Nat) => (o, (i : Int))) (fun o i => o = (s.take i).flatMap (eat1 a.l_ b)) ?_ ?_ [] (by simp) (Q := fun r => r = s.flatMap (eat1 a.l_ b))) fun r hr => ?_)
  · intro o ho
    unfold M_auto_Auto_Step_sPVOI_L0
    refine W.iteP (fun h => by omega) fun _ => W.ret ?_
    simpa using ho
  · intro o i hi ho
    unfold M_auto_Auto_Step_sPVOI_L0
    refine W.iteP (fun _ => ?_) fun h => by omega
    rw [ixV_get hi]
    obtain ⟨k, hk⟩ := Int.eq_ofNat_of_zero_le (hs.i _ (List.getElem_mem hi)).1
    have hkl : k < a.l_.length := by have := (hs.i _ (List.getElem_mem hi)).2; omega
    have ol : o.length ≤ i := by rw [ho]; exact Nat.le_trans (eats_len _ _ _) (by rw [List.length_take]; omega)
    have en : ∀ u, o ++ u = o ++ eat1 a.l_ b s[i] → ∃ s', (o ++ u, IntKind.i64.wrap ((i : Int) + 1)) = (s', ((i + 1 : Nat) : Int)) ∧ s' = (s.take (i + 1)).flatMap (eat1 a.l_ b) := by
      intro u hu
      refine ⟨_, by rw [ek64 (by omega)], ?_⟩
      rw [take_snoc (List.getElem?_eq_getElem hi), List.flatMap_append, ← ho, hu]
      simp
    have e1 : eat1 a.l_ b s[i] = if a.l_[k].kind_ = 1 ∧ hasV a.l_[k].set_ b = true then [a.l_[k].a_] else [] := by
      unfold eat1
      rw [hk, Int.toNat_natCast, List.getElem?_eq_getElem hkl]
    rw [hk] at *
    rw [Option.bind_some, ixV_get hkl, Option.bind_some]
    generalize a.l_[k] = x at e1 ⊢
    rw [iteB_beq]
    refine W.bind (W.bind (W.mono (Q := fun c => c = decide (x.kind_ = 1 ∧ hasV x.set_ b = true)) ?_ fun c hc => ?_))
    · split
      · rename_i h1
        rw [has_eq _ hb.1 hb.2]
        exact W.bind (W.ret (W.ret (by simp [h1])))
      · rename_i h1
        exact W.ret (by simp [h1])
    · subst hc
      refine W.iteP (fun hc => W.need (okN_of (by simp; omega) (by simp; omega)) (W.ret (W.ret (en _ ?_)))) fun hc => W.ret (W.ret ?_)
      · rw [e1, if_pos hc]
      · have := en [] (by rw [e1, if_neg hc])
        rwa [List.append_nil] at this
  · subst hr
    rw [close_ok h ?_ (Nat.le_trans (eats_len _ _ _) hn)]
    · exact W.bind (W.ret (W.ret rfl))
    · intro i hi
      obtain ⟨j, hj, hi⟩ := List.mem_flatMap.1 hi
      unfold eat1 at hi
      split at hi
      · rename_i x hx
        split at hi
        · obtain rfl := List.mem_singleton.1 hi
          exact (h.st x (List.mem_of_getElem? hx)).a
        · cases hi
      · cases hi
theorem stp_nil {l : List S_auto_state} {b : Int} : stp l [] b = [] := cl_nil

theorem beqN (i n : Nat) : ((i : Int) == (n : Int)) = decide (i = n) := by
  by_cases h : i = n
  · subst h; simp
  · rw [decide_eq_false h]; simp; omega

theorem awake_ok {Q : Bool → Prop} (h : Q true) : W ((M_boulterlaw20_awake).bind fun x => some x) Q := W.bind (W.of (x := true) rfl (W.ret h))

end Go.Av.L
