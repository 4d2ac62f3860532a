/-
  Dfa: starting, stepping, where an automaton ends.
-/
import Derived.Test.YtiodcbipjnmpgaaDfaC
namespace Go.Av.L
open Go.Av Go.Lib
set_option linter.unusedVariables false
set_option linter.unusedSimpArgs false
structure SOk (l : List S_auto_state) (s : List Int) : Prop where
 i : ∀ j ∈ s, inR l.length j
 n : s.length ≤ 4096
theorem cl_ok {t : S_tree_Tree} {l : List S_auto_state} (h : LOk t l) {fr bk : Bool} {f : List Int} : SOk l (cl l fr bk f) := ⟨cl_in, Nat.le_trans cl_len h.le⟩
theorem start_ok {t : S_tree_Tree} {a : S_auto_Auto} (h : AOk t a) (fr : Bool) : M_auto_Auto_Start a fr = some (cl a.l_ fr false [a.first_]) := by
 unfold M_auto_Auto_Start
 rw [close_ok h.l (by intro i hi; obtain rfl := List.mem_singleton.1 hi; exact h.first) (by simp)]; rfl
noncomputable def eat1 (l : List S_auto_state) (b : Int) (i : Int) : List Int :=
 match l[i.toNat]? with
 | some x => if x.kind_ = 1 ∧ hasV x.set_ b = true then [x.a_] else []
 | none => []
noncomputable def stp (l : List S_auto_state) (s : List Int) (b : Int) : List Int := cl l false false (s.flatMap (eat1 l b))
theorem eat1_len (l : List S_auto_state) (b i : Int) : (eat1 l b i).length ≤ 1 := by
 unfold eat1
 split
 ·split <;> simp
 ·simp
theorem eats_len (l : List S_auto_state) (b : Int) : ∀ s : List Int, (s.flatMap (eat1 l b)).length ≤ s.length
 | [] => by simp
 | i :: s => by
  rw [List.flatMap_cons, List.length_append, List.length_cons]
  have := eats_len l b s
  have := eat1_len l b i
  omega
theorem step_ok {t : S_tree_Tree} {a : S_auto_Auto} (h : LOk t a.l_) {s : List Int} (hs : SOk a.l_ s) {b : Int} (hb : 0 ≤ b ∧ b ≤ 255) : M_auto_Auto_Step a s b = some (stp a.l_ s b) := by
 refine W.eq ?_
 unfold M_auto_Auto_Step
 have hn := hs.n
 refine W.bind (W.mono (W.list (l := s) (fun (o : List Int) (i : Nat) => (o, (i : Int))) (fun o i => o = (s.take i).flatMap (eat1 a.l_ b)) ?_ ?_ [] (by simp) (Q := fun r => r = s.flatMap (eat1 a.l_ b))) fun r hr => ?_)
 ·intro o ho
  unfold M_auto_Auto_Step_L0
  refine W.iteP (fun h => by omega) fun _ => W.ret ?_
  simpa using ho
 ·intro o i hi ho
  unfold M_auto_Auto_Step_L0
  refine W.iteP (fun _ => ?_) fun h => by omega
  rw [ixV_get hi]
  obtain ⟨k, hk⟩ := Int.eq_ofNat_of_zero_le (hs.i _ (List.getElem_mem hi)).1
  have hkl : k < a.l_.length := by have := (hs.i _ (List.getElem_mem hi)).2; omega
  have ol : o.length ≤ i := by rw [ho]; exact Nat.le_trans (eats_len _ _ _) (by rw [List.length_take]; omega)
  have en : ∀ u, o ++ u = o ++ eat1 a.l_ b s[i] → ∃ s', (o ++ u, IntKind.i64.wrap ((i : Int) + 1)) = (s', ((i + 1 : Nat) : Int)) ∧ s' = (s.take (i + 1)).flatMap (eat1 a.l_ b) := by
   intro u hu
   refine ⟨_, by rw [ek64 (by omega)], ?_⟩
   rw [take_snoc (List.getElem?_eq_getElem hi), List.flatMap_append, ← ho, hu]
   simp
  have e1 : eat1 a.l_ b s[i] = if a.l_[k].kind_ = 1 ∧ hasV a.l_[k].set_ b = true then [a.l_[k].a_] else [] := by
   unfold eat1
   rw [hk, Int.toNat_natCast, List.getElem?_eq_getElem hkl]
  rw [hk] at *
  rw [Option.bind_some, ixV_get hkl, Option.bind_some]
  generalize a.l_[k] = x at e1 ⊢
  rw [iteB_beq]
  refine W.bind (W.bind (W.mono (Q := fun c => c = decide (x.kind_ = 1 ∧ hasV x.set_ b = true)) ?_ fun c hc => ?_))
  ·split
   ·rename_i h1
    rw [has_eq _ hb.1 hb.2]
    exact W.bind (W.ret (W.ret (by simp [h1])))
   ·rename_i h1
    exact W.ret (by simp [h1])
  ·subst hc
   refine W.iteP (fun hc => W.need (okN_of (by simp; omega) (by simp; omega)) (W.ret (W.ret (en _ ?_)))) fun hc => W.ret (W.ret ?_)
   ·rw [e1, if_pos hc]
   ·have := en [] (by rw [e1, if_neg hc])
    rwa [List.append_nil] at this
 ·subst hr
  rw [close_ok h ?_ (Nat.le_trans (eats_len _ _ _) hn)]
  ·exact W.bind (W.ret (W.ret rfl))
  ·intro i hi
   obtain ⟨j, hj, hi⟩ := List.mem_flatMap.1 hi
   unfold eat1 at hi
   split at hi
   ·rename_i x hx
    split at hi
    ·obtain rfl := List.mem_singleton.1 hi
     exact (h.st x (List.mem_of_getElem? hx)).a
    ·cases hi
   ·cases hi
theorem stp_nil {l : List S_auto_state} {b : Int} : stp l [] b = [] := cl_nil
theorem index_ok (l : List Int) (hl : l.length ≤ 1099511627776) (x : Int) : W (M_slices_Index_int_int l x) fun r => (0 ≤ r) ↔ x ∈ l := by
 unfold M_slices_Index_int_int
 refine W.bind (W.mono (W.list (l := l) (fun (_ : Unit) (i : Nat) => (i : Int)) (fun _ i => x ∉ l.take i) ?_ ?_ () (by simp) (Q := fun o => match o with | .inl _ => x ∉ l | .inr r => 0 ≤ r ∧ x ∈ l)) fun o ho => ?_)
 ·intro _ h
  unfold M_slices_Index_int_int_L0
  refine W.iteP (fun h => by omega) fun _ => W.ret ?_
  simpa using h
 ·intro _ i hi h
  unfold M_slices_Index_int_int_L0
  refine W.iteP (fun _ => ?_) fun h => by omega
  rw [ixV_get hi, Option.bind_some, iteB_beq]
  split
  ·rename_i e
   exact W.ret ⟨by omega, by rw [e]; exact List.getElem_mem hi⟩
  ·rename_i e
   refine W.ret ⟨(), ek64 (by omega), ?_⟩
   rw [take_snoc (List.getElem?_eq_getElem hi)]
   simp only [List.mem_append, List.mem_singleton, not_or]
   exact ⟨h, e⟩
 ·cases o with
  | inl _ => exact W.ret ⟨fun h => absurd h (by decide), fun h => absurd h ho⟩
  | inr r => exact W.ret ⟨fun _ => ho.2, fun _ => ho.1⟩
theorem contains_ok (l : List Int) (hl : l.length ≤ 1099511627776) (x : Int) : M_slices_Contains_int_int l x = some (decide (x ∈ l)) := by
 refine W.eq ?_
 unfold M_slices_Contains_int_int
 refine W.bind ((index_ok l hl x).mono fun r hr => W.ret ?_)
 by_cases h : x ∈ l
 ·rw [decide_eq_true h, decide_eq_true (hr.2 h)]
 ·rw [decide_eq_false h, decide_eq_false (fun e => h (hr.1 e))]
theorem stops_ok {t : S_tree_Tree} {a : S_auto_Auto} (h : LOk t a.l_) {s : List Int} (hs : SOk a.l_ s) (fr bk : Bool) : M_auto_Auto_stops a s fr bk = some (decide (0 ∈ cl a.l_ fr bk s)) := by
 unfold M_auto_Auto_stops
 rw [close2_ok h hs.i hs.n, Option.bind_some, contains_ok _ (by have := (cl_ok h (fr := fr) (bk := bk) (f := s)).n; omega)]
 rfl
theorem stops2_ok {t : S_tree_Tree} {a : S_auto_Auto} (h : LOk t a.l_) {s : List Int} (hs : SOk a.l_ s) (bk : Bool) : M_auto_Auto_Stops a s bk = some (decide (0 ∈ cl a.l_ false bk s)) := by
 unfold M_auto_Auto_Stops
 rw [stops_ok h hs]; rfl
noncomputable def gotF (l : List S_auto_state) : List Int → List UInt8 → Nat → List Int
 | set, [], i => if (0 : Int) ∈ cl l false true set then [(i : Int)] else []
 | set, b :: t, i => (if (0 : Int) ∈ cl l false false set then [(i : Int)] else []) ++ gotF l (stp l set b.toNat) t (i + 1)
theorem gotF_nil (l : List S_auto_state) : ∀ (s : List UInt8) (i : Nat), gotF l [] s i = []
 | [], i => by simp [gotF, cl_nil]
 | b :: t, i => by simp [gotF, cl_nil, stp_nil, gotF_nil l t (i + 1)]
theorem gotF_len (l : List S_auto_state) : ∀ (s : List UInt8) (set : List Int) (i : Nat), (gotF l set s i).length ≤ s.length + 1
 | [], set, i => by simp only [gotF]; split <;> simp
 | b :: t, set, i => by
  simp only [gotF, List.length_append, List.length_cons]
  have := gotF_len l t (stp l set b.toNat) (i + 1)
  split <;> simp <;> omega
theorem endsLoop {t : S_tree_Tree} {a : S_auto_Auto} (h : LOk t a.l_) (s : List UInt8) (hn : s.length ≤ 1073741824) : ∀ (k i : Nat) (set got : List Int), i + k = s.length → SOk a.l_ set → got.length ≤ i → (∀ bk, (i = 0 → (decide ((0 : Int) ∈ cl a.l_ true bk set)) = decide ((0 : Int) ∈ cl a.l_ false bk set)) ∨ (i = 0 ∧ bk ≠ decide (i = s.length))) →
  W (loop (M_auto_Auto_Ends_L0 a s) (got, set, (i : Int))) fun r => r = got ++ gotF a.l_ set (s.drop i) i := by
 intro k
 induction k with
 | zero =>
  intro i set got hi hs hg hz
  obtain rfl : i = s.length := by omega
  refine W.turn ?_
  unfold M_auto_Auto_Ends_L0
  refine W.iteP (fun hp => ?_) fun hp => W.ret ?_
  ·have e0 : ((s.length : Int) == (0 : Int)) = decide (s.length = 0) := beqN _ 0
   simp only [beqN, decide_true]
   rw [e0, stops_ok h hs]
   have es : decide ((0 : Int) ∈ cl a.l_ (decide (s.length = 0)) true set) = decide ((0 : Int) ∈ cl a.l_ false true set) := by
    by_cases h0 : s.length = 0
    ·rw [decide_eq_true h0]
     rcases hz true with hz | hz
     ·exact hz h0
     ·exact absurd hz.2 (by simp)
    ·rw [decide_eq_false h0]
   rw [es, List.drop_length]
   simp only [gotF, Option.bind_some, iteB_true]
   refine W.bind (W.iteP (fun h0 => W.need (okN_of (by simp; omega) (by simp; omega)) (W.ret (W.ret ?_))) fun h0 => W.ret (W.ret ?_))
   ·simp only [turnQ]; rw [if_pos h0]
   ·simp only [turnQ]; rw [if_neg h0, List.append_nil]
  ·have : set = [] := List.eq_nil_of_length_eq_zero (by omega)
   subst this
   simp only [turnQ]
   rw [gotF_nil, List.append_nil]
 | succ k ih =>
  intro i set got hi hs hg hz
  have hil : i < s.length := by omega
  refine W.turn ?_
  rw [M_auto_Auto_Ends_L0]
  refine W.iteP (fun hp => ?_) fun hp => W.ret ?_
  ·have e0 : ((i : Int) == (0 : Int)) = decide (i = 0) := beqN _ 0
   have hne : i ≠ s.length := by omega
   simp only [beqN, hne, decide_false]
   rw [e0, stops_ok h hs]
   have es : decide ((0 : Int) ∈ cl a.l_ (decide (i = 0)) false set) = decide ((0 : Int) ∈ cl a.l_ false false set) := by
    by_cases h0 : i = 0
    ·rw [decide_eq_true h0]
     rcases hz false with hz | hz
     ·exact hz h0
     ·exact absurd hz.2 (by simp [hne])
    ·rw [decide_eq_false h0]
   rw [es]
   simp only [Option.bind_some, iteB_false]
   rw [ixS_get hil]
   have hb := byte_lt s[i]
   have key : ∀ g : List Int, g.length ≤ i + 1 → g = got ++ (if (0 : Int) ∈ cl a.l_ false false set then [(i : Int)] else []) →
     W ((some (s[i].toNat : Int)).bind fun x19 => (M_auto_Auto_Step a set x19).bind fun x20 => some (Sum.inl (g, x20, IntKind.i64.wrap ((i : Int) + (1 : Int))) : ((List Int) × (List Int) × Int) ⊕ (List Int))) (turnQ (M_auto_Auto_Ends_L0 a s) fun r => r = got ++ gotF a.l_ set (s.drop i) i) := by
    intro g hg1 hg2
    rw [Option.bind_some, step_ok h hs hb, Option.bind_some]
    refine W.ret ?_
    simp only [turnQ]
    rw [ek64 (by omega)]
    refine (ih (i + 1) (stp a.l_ set s[i].toNat) g (by omega) (cl_ok h) hg1 (fun bk => .inl fun h => by omega)).mono fun r hr => ?_
    rw [hr, drop_cons hil, gotF, hg2, List.append_assoc]
   refine W.bind (W.iteP (fun h0 => W.need (okN_of (by simp; omega) (by simp; omega)) (W.ret (key (got ++ [(i : Int)]) (by simp; omega) ?_))) fun h0 => W.ret (key got (by omega) ?_))
   ·rw [if_pos h0]
   ·rw [if_neg h0, List.append_nil]
  ·have : set = [] := List.eq_nil_of_length_eq_zero (by omega)
   subst this
   simp only [turnQ]
   rw [gotF_nil, List.append_nil]
theorem ends_ok {t : S_tree_Tree} {a : S_auto_Auto} (h : AOk t a) (s : List UInt8) (hn : s.length ≤ 1073741824) (i : Nat) (hi : i ≤ s.length) (hs : ¬ (i = 0 ∧ s = [])) : M_auto_Auto_Ends a s (i : Int) = some (gotF a.l_ (cl a.l_ (decide (i = 0)) false [a.first_]) (s.drop i) i) := by
 refine W.eq ?_
 unfold M_auto_Auto_Ends
 refine W.ite (fun hb => ?_) fun _ => ?_
 ·simp only [Bool.or_eq_true, decide_eq_true_eq] at hb; omega
 rw [show ((i : Int) == (0 : Int)) = decide (i = 0) from beqN i 0, start_ok h, Option.bind_some]
 have hf : ∀ j ∈ [a.first_], inR a.l_.length j := by intro j hj; obtain rfl := List.mem_singleton.1 hj; exact h.first
 refine W.bind ((endsLoop h.l s hn (s.length - i) i _ [] (by omega) (cl_ok h.l) (Nat.zero_le _) (fun bk => ?_)).mono fun r hr => W.ret (by rw [hr, List.nil_append]))
 by_cases hi0 : i = 0
 ·have hne : s.length ≠ 0 := fun e => hs ⟨hi0, List.eq_nil_of_length_eq_zero e⟩
  cases bk
  ·left
   intro _
   rw [decide_eq_true hi0, cl_cl h.l (fun e => e) (fun e => e) hf, cl_cl h.l (fun e => by cases e) (fun e => e) hf]
  ·right
   refine ⟨hi0, ?_⟩
   rw [decide_eq_false (by omega)]; decide
 ·exact .inl fun e => absurd e hi0
theorem ends_nil {t : S_tree_Tree} {a : S_auto_Auto} (h : AOk t a) : M_auto_Auto_Ends a [] 0 = some (if (0 : Int) ∈ cl a.l_ true true [a.first_] then [0] else []) := by
 refine W.eq ?_
 have hf : ∀ j ∈ [a.first_], inR a.l_.length j := by intro j hj; obtain rfl := List.mem_singleton.1 hj; exact h.first
 have e2 : cl a.l_ true true (cl a.l_ true false [a.first_]) = cl a.l_ true true [a.first_] := by
  refine cl_congr fun j => ⟨fun hj => ?_, fun hj => ?_⟩
  ·induction hj with
   | base h' => exact ((mem_cl h.l hf).1 h').mono (fun e => e) (fun e => by cases e)
   | step _ hn ih => exact .step ih hn
  ·induction hj with
   | base h' => exact .base ((mem_cl h.l hf).2 (.base h'))
   | step _ hn ih => exact .step ih hn
 unfold M_auto_Auto_Ends
 refine W.ite (fun hb => by simp at hb) fun _ => ?_
 rw [show ((0 : Int) == (0 : Int)) = true from rfl, start_ok h, Option.bind_some]
 refine W.bind (W.mono (W.turn ?_) fun r hr => W.ret hr)
 unfold M_auto_Auto_Ends_L0
 refine W.iteP (fun hp => ?_) fun hp => W.ret ?_
 ·simp only [List.length_nil, Int.natCast_zero, show ((0 : Int) == (0 : Int)) = true from rfl]
  rw [stops_ok h.l (cl_ok h.l), e2]
  simp only [Option.bind_some, iteB_true]
  refine W.bind (W.iteP (fun h0 => W.need (okN_of (by simp) (by simp)) (W.ret (W.ret ?_))) fun h0 => W.ret (W.ret ?_))
  ·simp only [turnQ]; rw [if_pos h0]; rfl
  ·simp only [turnQ]; rw [if_neg h0]
 ·exfalso
  have : a.first_ ∈ cl a.l_ true false [a.first_] := (mem_cl h.l hf).2 (.base (by simp))
  have := List.length_pos_of_mem this
  omega
end Go.Av.L
