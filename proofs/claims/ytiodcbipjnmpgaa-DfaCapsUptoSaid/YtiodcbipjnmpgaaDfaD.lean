/-
  Dfa: starting, stepping, where an automaton ends.
-/
import Derived.Test.YtiodcbipjnmpgaaDfaC
namespace Go.Av.L
open Go.Av Go.Lib
set_option linter.unusedVariables false
set_option linter.unusedSimpArgs false
structure SOk (l : List S_auto_state) (s : List Int) : Prop where
 i : ∀ j ∈ s, inR l.length j
 n : s.length ≤ 4096
theorem cl_ok {t : S_tree_Tree} {l : List S_auto_state} (h : LOk t l) {fr bk : Bool} {f : List Int} : SOk l (cl l fr bk f) := ⟨cl_in, Nat.le_trans cl_len h.le⟩
theorem start_ok {t : S_tree_Tree} {a : S_auto_Auto} (h : AOk t a) (fr : Bool) : M_auto_Auto_Start a fr = some (cl a.l_ fr false [a.first_]) := by
 unfold M_auto_Auto_Start
 rw [close_ok h.l (by intro i hi; obtain rfl := List.mem_singleton.1 hi; exact h.first) (by simp)]; rfl
noncomputable def eat1 (l : List S_auto_state) (b : Int) (i : Int) : List Int :=
 match l[i.toNat]? with
 | some x => if x.kind_ = 1 ∧ hasV x.set_ b = true then [x.a_] else []
 | none => []
noncomputable def stp (l : List S_auto_state) (s : List Int) (b : Int) : List Int := cl l false false (s.flatMap (eat1 l b))
theorem eat1_len (l : List S_auto_state) (b i : Int) : (eat1 l b i).length ≤ 1 := by
 unfold eat1
 split
 ·split <;> simp
 ·simp
theorem eats_len (l : List S_auto_state) (b : Int) : ∀ s : List Int, (s.flatMap (eat1 l b)).length ≤ s.length
 | [] => by simp
 | i :: s => by
  rw [List.flatMap_cons, List.length_append, List.length_cons]
  have := eats_len l b s
  have := eat1_len l b i
  omega
theorem step_ok {t : S_tree_Tree} {a : S_auto_Auto} (h : LOk t a.l_) {s : List Int} (hs : SOk a.l_ s) {b : Int} (hb : 0 ≤ b ∧ b ≤ 255) : M_auto_Auto_Step a s b = some (stp a.l_ s b) := by
 refine W.eq ?_
 unfold M_auto_Auto_Step
 have hn := hs.n
 refine W.bind (W.mono (W.list (l := s) (fun (o : List Int) (i : Nat) => (o, (i : Int))) (fun o i => o = (s.take i).flatMap (eat1 a.l_ b)) ?_ ?_ [] (by simp) (Q := fun r => r = s.flatMap (eat1 a.l_ b))) fun r hr => ?_)
 ·intro o ho
  unfold M_auto_Auto_Step_L0
  refine W.iteP (fun h => by omega) fun _ => W.ret ?_
  simpa using ho
 ·intro o i hi ho
  unfold M_auto_Auto_Step_L0
  refine W.iteP (fun _ => ?_) fun h => by omega
  rw [ixV_get hi]
  obtain ⟨k, hk⟩ := Int.eq_ofNat_of_zero_le (hs.i _ (List.getElem_mem hi)).1
  have hkl : k < a.l_.length := by have := (hs.i _ (List.getElem_mem hi)).2; omega
  have ol : o.length ≤ i := by rw [ho]; exact Nat.le_trans (eats_len _ _ _) (by rw [List.length_take]; omega)
  have en : ∀ u, o ++ u = o ++ eat1 a.l_ b s[i] → ∃ s', (o ++ u, IntKind.i64.wrap ((i : Int) + 1)) = (s', ((i + 1 : Nat) : Int)) ∧ s' = (s.take (i + 1)).flatMap (eat1 a.l_ b) := by
   intro u hu
   refine ⟨_, by rw [ek64 (by omega)], ?_⟩
   rw [take_snoc (List.getElem?_eq_getElem hi), List.flatMap_append, ← ho, hu]
   simp
  have e1 : eat1 a.l_ b s[i] = if a.l_[k].kind_ = 1 ∧ hasV a.l_[k].set_ b = true then [a.l_[k].a_] else [] := by
   unfold eat1
   rw [hk, Int.toNat_natCast, List.getElem?_eq_getElem hkl]
  rw [hk] at *
  rw [Option.bind_some, ixV_get hkl, Option.bind_some]
  generalize a.l_[k] = x at e1 ⊢
  rw [iteB_beq]
  refine W.bind (W.bind (W.mono (Q := fun c => c = decide (x.kind_ = 1 ∧ hasV x.set_ b = true)) ?_ fun c hc => ?_))
  ·split
   ·rename_i h1
    rw [has_eq _ hb.1 hb.2]
    exact W.bind (W.ret (W.ret (by simp [h1])))
   ·rename_i h1
    exact W.ret (by simp [h1])
  ·subst hc
   refine W.iteP (fun hc => W.need (okN_of (by simp; omega) (by simp; omega)) (W.ret (W.ret (en _ ?_)))) fun hc => W.ret (W.ret ?_)
   ·rw [e1, if_pos hc]
   ·have := en [] (by rw [e1, if_neg hc])
    rwa [List.append_nil] at this
 ·subst hr
  rw [close_ok h ?_ (Nat.le_trans (eats_len _ _ _) hn)]
  ·exact W.bind (W.ret (W.ret rfl))
  ·intro i hi
   obtain ⟨j, hj, hi⟩ := List.mem_flatMap.1 hi
   unfold eat1 at hi
   split at hi
   ·rename_i x hx
    split at hi
    ·obtain rfl := List.mem_singleton.1 hi
     exact (h.st x (List.mem_of_getElem? hx)).a
    ·cases hi
   ·cases hi
theorem index_ok (l : List Int) (hl : l.length ≤ 1099511627776) (x : Int) : W (M_slices_Index_int_int l x) fun r => (0 ≤ r) ↔ x ∈ l := by
 unfold M_slices_Index_int_int
 refine W.bind (W.mono (W.list (l := l) (fun (_ : Unit) (i : Nat) => (i : Int)) (fun _ i => x ∉ l.take i) ?_ ?_ () (by simp) (Q := fun o => match o with | .inl _ => x ∉ l | .inr r => 0 ≤ r ∧ x ∈ l)) fun o ho => ?_)
 ·intro _ h
  unfold M_slices_Index_int_int_L0
  refine W.iteP (fun h => by omega) fun _ => W.ret ?_
  simpa using h
 ·intro _ i hi h
  unfold M_slices_Index_int_int_L0
  refine W.iteP (fun _ => ?_) fun h => by omega
  rw [ixV_get hi, Option.bind_some, iteB_beq]
  split
  ·rename_i e
   exact W.ret ⟨by omega, by rw [e]; exact List.getElem_mem hi⟩
  ·rename_i e
   refine W.ret ⟨(), ek64 (by omega), ?_⟩
   rw [take_snoc (List.getElem?_eq_getElem hi)]
   simp only [List.mem_append, List.mem_singleton, not_or]
   exact ⟨h, e⟩
 ·cases o with
  | inl _ => exact W.ret ⟨fun h => absurd h (by decide), fun h => absurd h ho⟩
  | inr r => exact W.ret ⟨fun _ => ho.2, fun _ => ho.1⟩
theorem contains_ok (l : List Int) (hl : l.length ≤ 1099511627776) (x : Int) : M_slices_Contains_int_int l x = some (decide (x ∈ l)) := by
 refine W.eq ?_
 unfold M_slices_Contains_int_int
 refine W.bind ((index_ok l hl x).mono fun r hr => W.ret ?_)
 by_cases h : x ∈ l
 ·rw [decide_eq_true h, decide_eq_true (hr.2 h)]
 ·rw [decide_eq_false h, decide_eq_false (fun e => h (hr.1 e))]
theorem stops_ok {t : S_tree_Tree} {a : S_auto_Auto} (h : LOk t a.l_) {s : List Int} (hs : SOk a.l_ s) (fr bk : Bool) : M_auto_Auto_stops a s fr bk = some (decide (0 ∈ cl a.l_ fr bk s)) := by
 unfold M_auto_Auto_stops
 rw [close2_ok h hs.i hs.n, Option.bind_some, contains_ok _ (by have := (cl_ok h (fr := fr) (bk := bk) (f := s)).n; omega)]
 rfl
theorem stops2_ok {t : S_tree_Tree} {a : S_auto_Auto} (h : LOk t a.l_) {s : List Int} (hs : SOk a.l_ s) (bk : Bool) : M_auto_Auto_Stops a s bk = some (decide (0 ∈ cl a.l_ false bk s)) := by
 unfold M_auto_Auto_Stops
 rw [stops_ok h hs]; rfl
theorem ends_nil {t : S_tree_Tree} {a : S_auto_Auto} (h : AOk t a) : M_auto_Auto_Ends a [] 0 = some (if (0 : Int) ∈ cl a.l_ true true [a.first_] then [0] else []) := by
 refine W.eq ?_
 have hf : ∀ j ∈ [a.first_], inR a.l_.length j := by intro j hj; obtain rfl := List.mem_singleton.1 hj; exact h.first
 have e2 : cl a.l_ true true (cl a.l_ true false [a.first_]) = cl a.l_ true true [a.first_] := by
  refine cl_congr fun j => ⟨fun hj => ?_, fun hj => ?_⟩
  ·induction hj with
   | base h' => exact ((mem_cl h.l hf).1 h').mono (fun e => e) (fun e => by cases e)
   | step _ hn ih => exact .step ih hn
  ·induction hj with
   | base h' => exact .base ((mem_cl h.l hf).2 (.base h'))
   | step _ hn ih => exact .step ih hn
 unfold M_auto_Auto_Ends
 refine W.ite (fun hb => by simp at hb) fun _ => ?_
 rw [show ((0 : Int) == (0 : Int)) = true from rfl, start_ok h, Option.bind_some]
 refine W.bind (W.mono (W.turn ?_) fun r hr => W.ret hr)
 unfold M_auto_Auto_Ends_L0
 refine W.iteP (fun hp => ?_) fun hp => W.ret ?_
 ·simp only [List.length_nil, Int.natCast_zero, show ((0 : Int) == (0 : Int)) = true from rfl]
  rw [stops_ok h.l (cl_ok h.l), e2]
  simp only [Option.bind_some, iteB_true]
  refine W.bind (W.iteP (fun h0 => W.need (okN_of (by simp) (by simp)) (W.ret (W.ret ?_))) fun h0 => W.ret (W.ret ?_))
  ·simp only [turnQ]; rw [if_pos h0]; rfl
  ·simp only [turnQ]; rw [if_neg h0]
 ·exfalso
  have : a.first_ ∈ cl a.l_ true false [a.first_] := (mem_cl h.l hf).2 (.base (by simp))
  have := List.length_pos_of_mem this
  omega
end Go.Av.L
