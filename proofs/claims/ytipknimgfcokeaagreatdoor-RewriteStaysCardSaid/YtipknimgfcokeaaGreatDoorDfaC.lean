/-
  Dfa: the states that are reached without eating.
-/
import Derived.Test.YtipknimgfcokeaaGreatDoorDfaB
namespace Go.Av.L
open Go.Av Go.Lib
set_option linter.unusedVariables false
set_option linter.unusedSimpArgs false
def Iy (l : List AN) (fr bk : Bool) (i : Int) : List Int :=
 match l[i.toNat]? with
 | some x => if x.CZ = 2 then [x.a_, x.b_] else if (x.CZ = 3 ∧ fr = true) ∨ (x.CZ = 4 ∧ bk = true) then [x.a_] else []
 | none => []
inductive Oc (l : List AN) (fr bk : Bool) (from_ : List Int) : Int → Prop
 | base {i : Int} : i ∈ from_ → Oc l fr bk from_ i
 | step {i j : Int} : Oc l fr bk from_ i → j ∈ Iy l fr bk i → Oc l fr bk from_ j
def Qi (n : Nat) (i : Int) : Prop := 0 ≤ i ∧ i < n
theorem Qd {t : AI} {l : List AN} (h : Mp t l) {fr bk : Bool} {i j : Int} (hj : j ∈ Iy l fr bk i) : Qi l.length j := by
 unfold Iy at hj
 split at hj
 ·rename_i x hx
  have hs := h.st x (List.mem_of_getElem? hx)
  split at hj
  ·rcases List.mem_cons.1 hj with rfl | hj
   ·exact hs.a
   ·obtain rfl := List.mem_singleton.1 hj
    exact hs.b
  ·split at hj
   ·obtain rfl := List.mem_singleton.1 hj
    exact hs.a
   ·cases hj
 ·cases hj
theorem Oc.in {t : AI} {l : List AN} (h : Mp t l) {fr bk : Bool} {f : List Int} (hf : ∀ i ∈ f, Qi l.length i) {j : Int} (hj : Oc l fr bk f j) : Qi l.length j := by
 cases hj with
 | base h => exact hf _ h
 | step _ h2 => exact Qd h h2
theorem Ox (l : List AN) (fr bk : Bool) (i : Int) : (Iy l fr bk i).length ≤ 2 := by
 unfold Iy
 split
 ·split
  ·simp
  ·split <;> simp
 ·simp
theorem Rp {l : List AN} {fr bk fr' bk' : Bool} (h1 : fr = true → fr' = true) (h2 : bk = true → bk' = true) {i j : Int} (h : j ∈ Iy l fr bk i) : j ∈ Iy l fr' bk' i := by
 unfold Iy at h ⊢
 split at h
 ·split at h
  ·rename_i hk; rw [if_pos hk]; exact h
  ·rename_i hk
   split at h
   ·rename_i hc
    rw [if_neg hk, if_pos (hc.imp (fun h => ⟨h.1, h1 h.2⟩) fun h => ⟨h.1, h2 h.2⟩)]
    exact h
   ·cases h
 ·cases h
theorem Oc.mono {l : List AN} {fr bk fr' bk' : Bool} (h1 : fr = true → fr' = true) (h2 : bk = true → bk' = true) {f : List Int} {j : Int} (h : Oc l fr bk f j) : Oc l fr' bk' f j := by
 induction h with
 | base h => exact .base h
 | step _ hn ih => exact .step ih (Rp h1 h2 hn)
open Classical in
noncomputable def cl (l : List AN) (fr bk : Bool) (f : List Int) : List Int := ((List.range l.length).filter fun i : Nat => decide (Oc l fr bk f (i : Int))).map fun i : Nat => (i : Int)
theorem Qn {t : AI} {l : List AN} (h : Mp t l) {fr bk : Bool} {f : List Int} (hf : ∀ i ∈ f, Qi l.length i) {j : Int} : j ∈ cl l fr bk f ↔ Oc l fr bk f j := by
 unfold cl
 simp only [List.mem_map, List.mem_filter, List.mem_range, decide_eq_true_eq]
 constructor
 ·rintro ⟨i, ⟨_, h2⟩, rfl⟩; exact h2
 ·intro hj
  obtain ⟨h1, h2⟩ := hj.in h hf
  obtain ⟨k, rfl⟩ := Int.eq_ofNat_of_zero_le h1
  exact ⟨k, ⟨by omega, hj⟩, rfl⟩
theorem Wc {l : List AN} {fr bk : Bool} {f : List Int} : ∀ j ∈ cl l fr bk f, Qi l.length j := by
 intro j hj
 unfold cl at hj
 simp only [List.mem_map, List.mem_filter, List.mem_range] at hj
 obtain ⟨i, ⟨h1, _⟩, rfl⟩ := hj
 exact ⟨by omega, by omega⟩
theorem V7 {l : List AN} {fr bk : Bool} {f : List Int} : (cl l fr bk f).length ≤ l.length := by
 unfold cl
 rw [List.length_map]
 exact Nat.le_trans (List.length_filter_le _ _) (by simp)
open Classical in
theorem UA {l : List AN} {fr bk fr' bk' : Bool} {f f' : List Int} (h : ∀ j, Oc l fr bk f j ↔ Oc l fr' bk' f' j) : cl l fr bk f = cl l fr' bk' f' := by
 unfold cl
 congr 1
 refine List.filter_congr fun i _ => ?_
 by_cases hr : Oc l fr bk f (i : Int)
 ·rw [decide_eq_true hr, decide_eq_true ((h _).1 hr)]
 ·rw [decide_eq_false hr, decide_eq_false (fun e => hr ((h _).2 e))]
theorem Qy {l : List AN} {fr bk : Bool} : cl l fr bk [] = [] := by
 have : ∀ j, ¬ Oc l fr bk [] j := by
  intro j hj
  induction hj with
  | base h => cases h
  | step _ _ ih => exact ih
 unfold cl
 rw [List.map_eq_nil_iff, List.filter_eq_nil_iff]
 intro i _
 simp [this]
def NR (l : List Bool) : Nat := (l.filter fun b => !b).length
theorem Ns : ∀ (l : List Bool) (i : Nat), l[i]? = some false → NR (l.set i true) + 1 = NR l
 | [], i, h => by simp at h
 | b :: l, 0, h => by
  simp at h; subst h
  simp [NR]
 | b :: l, i + 1, h => by
  have ih := Ns l i (by simpa using h)
  unfold NR at ih ⊢
  rw [List.set_cons_succ]
  cases b
  ·simp only [List.filter_cons, Bool.not_false, if_true, List.length_cons]; omega
  ·simpa using ih
structure CI (l : List AN) (fr bk : Bool) (f todo : List Int) (inn : List Bool) : Prop where
 len : inn.length = l.length
 Xr : ∀ i : Nat, inn[i]? = some true → Oc l fr bk f i
 XI : ∀ i ∈ todo, Oc l fr bk f i
 Xd : ∀ i ∈ f, i ∈ todo ∨ inn[i.toNat]? = some true
 step : ∀ i : Nat, inn[i]? = some true → ∀ j ∈ Iy l fr bk i, j ∈ todo ∨ inn[j.toNat]? = some true
 room : todo.length + 2 * NR inn ≤ f.length + 2 * l.length
theorem CI.mark {t : AI} {l : List AN} (h : Mp t l) {fr bk : Bool} {f todo : List Int} (hf : ∀ i ∈ f, Qi l.length i) {inn : List Bool} {k : Nat} (c : CI l fr bk f (todo ++ [(k : Int)]) inn) (hk : inn[k]? = some false) :
  CI l fr bk f (todo ++ Iy l fr bk k) (inn.set k true) := by
 have hkl : k < inn.length := (List.getElem?_eq_some_iff.1 hk).1
 have keep : ∀ {j : Nat}, inn[j]? = some true → (inn.set k true)[j]? = some true := by
  intro j hj
  by_cases e : k = j
  ·subst e; rw [List.getElem?_set_self hkl]
  ·rw [List.getElem?_set_ne e]; exact hj
 have lift : ∀ {j : Int}, Qi l.length j → j ∈ todo ++ [(k : Int)] ∨ inn[j.toNat]? = some true → j ∈ todo ++ Iy l fr bk k ∨ (inn.set k true)[j.toNat]? = some true := by
  intro j hr hj
  rcases hj with hj | hj
  ·rcases List.mem_append.1 hj with hj | hj
   ·exact .inl (List.mem_append_left _ hj)
   ·obtain rfl := List.mem_singleton.1 hj
    right
    rw [Int.toNat_natCast, List.getElem?_set_self hkl]
  ·exact .inr (keep hj)
 have rk : Oc l fr bk f k := c.XI _ (by simp)
 refine ⟨by rw [List.length_set]; exact c.len, ?_, ?_, fun i hi => lift (hf i hi) (c.Xd i hi), ?_, ?_⟩
 ·intro i hi
  by_cases e : k = i
  ·subst e; exact rk
  ·rw [List.getElem?_set_ne e] at hi; exact c.Xr i hi
 ·intro i hi
  rcases List.mem_append.1 hi with hi | hi
  ·exact c.XI i (by simp [hi])
  ·exact .step rk hi
 ·intro i hi j hj
  by_cases e : k = i
  ·subst e; exact .inl (List.mem_append_right _ hj)
  ·rw [List.getElem?_set_ne e] at hi
   exact lift (Qd h hj) (c.step i hi j hj)
 ·have := c.room
  have h1 := Ns inn k hk
  have h2 := Ox l fr bk k
  simp only [List.length_append, List.length_singleton] at this ⊢
  omega
theorem CI.skip {l : List AN} {fr bk : Bool} {f todo : List Int} {inn : List Bool} {k : Nat} (c : CI l fr bk f (todo ++ [(k : Int)]) inn) (hk : inn[k]? = some true) : CI l fr bk f todo inn := by
 have lift : ∀ {j : Int}, j ∈ todo ++ [(k : Int)] ∨ inn[j.toNat]? = some true → j ∈ todo ∨ inn[j.toNat]? = some true := by
  intro j hj
  rcases hj with hj | hj
  ·rcases List.mem_append.1 hj with hj | hj
   ·exact .inl hj
   ·obtain rfl := List.mem_singleton.1 hj
    exact .inr (by rw [Int.toNat_natCast]; exact hk)
  ·exact .inr hj
 refine ⟨c.len, c.Xr, fun i hi => c.XI i (by simp [hi]), fun i hi => lift (c.Xd i hi), fun i hi j hj => lift (c.step i hi j hj), ?_⟩
 have := c.room
 simp only [List.length_append, List.length_singleton] at this
 omega
theorem CI.fin {t : AI} {l : List AN} (h : Mp t l) {fr bk : Bool} {f : List Int} {inn : List Bool} (hf : ∀ i ∈ f, Qi l.length i) (c : CI l fr bk f [] inn) (i : Nat) : inn[i]? = some true ↔ Oc l fr bk f i := by
 refine ⟨c.Xr i, fun hr => ?_⟩
 have : ∀ j : Int, Oc l fr bk f j → inn[j.toNat]? = some true := by
  intro j hj
  induction hj with
  | base h => exact (c.Xd _ h).resolve_left (by simp)
  | @step i j hi hn ih =>
   obtain ⟨k, rfl⟩ := Int.eq_ofNat_of_zero_le (hi.in h hf).1
   rw [Int.toNat_natCast] at ih
   exact (c.step k ih j hn).resolve_left (by simp)
 have := this i hr
 rwa [Int.toNat_natCast] at this
theorem VD {α : Type} : ∀ {l : List α}, 0 < l.length → ∃ m x, l = m ++ [x]
 | [], h => by simp at h
 | a :: l, _ => ⟨(a :: l).dropLast, (a :: l).getLast (by simp), (List.dropLast_concat_getLast (by simp)).symm⟩
open Classical in
theorem Nk {t : AI} {a : Ak} (h : Mp t a.l_) {f : List Int} (hf : ∀ i ∈ f, Qi a.l_.length i) (hl : f.length ≤ 4096) (fr bk : Bool) : CQ a f fr bk = some (cl a.l_ fr bk f) := by
 refine W.eq ?_
 unfold CQ
 have hle := h.le
 refine W.Cm (by unfold WO; exact decide_eq_true ⟨by omega, by omega, by omega⟩) (W.Cm (Em (by omega) (by omega)) ?_)
 refine W.bind (W.mono (Q := fun inn => CI a.l_ fr bk f [] inn) (W.loop (fun s => CI a.l_ fr bk f s.1 s.2) (fun s => s.1.length + 3 * NR s.2) ?_ ?_) fun inn c => ?_)
 ·have er : ∀ i : Nat, (List.replicate a.l_.length false)[i]? ≠ some true := by
   intro i hi
   rw [List.getElem?_replicate] at hi
   split at hi <;> simp at hi
  have e : ((a.l_.length : Nat) : Int).toNat = a.l_.length := Int.toNat_natCast _
  simp only [e]
  refine ⟨by simp, fun i hi => absurd hi (er i), fun i hi => .base hi, fun i hi => .inl hi, fun i hi => absurd hi (er i), ?_⟩
  have : NR (List.replicate a.l_.length false) = a.l_.length := by simp [NR]
  omega
 ·rintro ⟨todo, inn⟩ c
  unfold EV
  refine W.Di (fun hp => ?_) fun hp => W.ret ?_
  ·obtain ⟨td, x, rfl⟩ := VD (l := todo) (by omega)
   have hx := (c.XI x (by simp)).in h hf
   obtain ⟨k, rfl⟩ := Int.eq_ofNat_of_zero_le hx.1
   have hk : k < inn.length := by rw [c.len]; have := hx.2; omega
   have hkl : k < a.l_.length := by have := hx.2; omega
   have c1 : CI a.l_ fr bk f (td ++ [(k : Int)]) inn := c
   have hroom := c1.room
   have hcf : NR inn ≤ inn.length := List.length_filter_le _ _
   rw [List.length_append, List.length_singleton] at hroom
   have el : IntKind.i64.wrap (((td ++ [(k : Int)]).length : Int) - 1) = (td.length : Int) := by rw [List.length_append, List.length_singleton, IW (by omega) (by omega)]; omega
   simp only [Int.ofNat_eq_natCast] at *
   rw [el]
   have e1 : Ff (td ++ [(k : Int)]) (td.length : Int) = some (k : Int) := M8 (by rw [List.getElem?_append_right (Nat.le_refl _), Nat.sub_self]; rfl)
   have e2 : N4 (td ++ [(k : Int)]) none (some (td.length : Int)) = some td := by rw [VB (by simp)]; simp
   rw [e1, Option.bind_some, e2, Option.bind_some, DM hk, Option.bind_some]
   refine W.ite (fun hb => W.ret ⟨c1.skip (by rw [List.getElem?_eq_getElem hk, hb]), by simp only [List.length_append, List.length_singleton]; omega⟩) fun hb => ?_
   have hkf : inn[k]? = some false := by rw [List.getElem?_eq_getElem hk, hb]
   have cm := c1.mark h hf hkf
   have hct := Ns inn k hkf
   have hsn := Ox a.l_ fr bk k
   have en : Iy a.l_ fr bk k = if a.l_[k].CZ = 2 then [a.l_[k].a_, a.l_[k].b_] else if (a.l_[k].CZ = 3 ∧ fr = true) ∨ (a.l_[k].CZ = 4 ∧ bk = true) then [a.l_[k].a_] else [] := by
    unfold Iy
    rw [Int.toNat_natCast, List.getElem?_eq_getElem hkl]
   have fin : ∀ ns, Iy a.l_ fr bk k = ns → CI a.l_ fr bk f (td ++ ns) (inn.set (k : Int).toNat true) ∧ (td ++ ns).length + 3 * NR (inn.set (k : Int).toNat true) < (td ++ [(k : Int)]).length + 3 * NR inn := by
    rintro ns rfl
    rw [Int.toNat_natCast]
    refine ⟨cm, ?_⟩
    simp only [List.length_append, List.length_singleton]
    omega
   rw [Option.bind_some, DM hkl, Option.bind_some, Fk]
   generalize a.l_[k] = x8 at en ⊢
   split
   ·rename_i hk2
    rw [if_pos hk2] at en
    exact W.Cm (Em (by simp; omega) (by simp; omega)) (W.ret (fin _ en))
   ·rename_i hk2
    rw [if_neg hk2] at en
    refine W.bind (W.mono (Q := fun b => b = decide ((x8.CZ = 3 ∧ fr = true) ∨ (x8.CZ = 4 ∧ bk = true))) (W.ite (fun hb => W.ret ?_) fun hb => W.ret ?_) fun b hb => ?_)
    ·simp only [Bool.and_eq_true, beq_iff_eq] at hb
     simp [hb]
    ·by_cases h4 : x8.CZ = 4
     ·have : x8.CZ ≠ 3 := by omega
      simp [h4]
     ·by_cases h3 : x8.CZ = 3
      ·simp [h3] at hb ⊢; exact hb
      ·simp [h3, h4]
    ·subst hb
     refine W.Di (fun hc => ?_) fun hc => ?_
     ·rw [if_pos hc] at en
      exact W.Cm (Em (by simp; omega) (by simp; omega)) (W.ret (fin _ en))
     ·rw [if_neg hc] at en
      have := fin _ en
      rw [List.append_nil] at this
      exact W.ret this
  ·have : todo = [] := List.eq_nil_of_length_eq_zero (by omega)
   subst this
   exact c
 ·refine W.bind (W.mono (W.loop (fun s => ∃ i : Nat, s.2 = (i : Int) ∧ i ≤ inn.length ∧ s.1 = ((List.range i).filter fun j : Nat => (inn[j]?).getD false).map fun j : Nat => (j : Int)) (fun s => (inn.length - s.2).toNat) ⟨0, rfl, Nat.zero_le _, rfl⟩ ?_ (Q := fun r => r = ((List.range inn.length).filter fun j : Nat => (inn[j]?).getD false).map fun j : Nat => (j : Int))) fun r hr => W.ret ?_)
  ·rintro ⟨out, x⟩ ⟨i, hi, h1, h2⟩
   simp only at hi h2
   subst hi
   have hlen := c.len
   unfold EP
   refine W.Di (fun hb => ?_) fun hb => W.ret ?_
   ·have hi : i < inn.length := by omega
    rw [DM hi, show IntKind.i64.wrap ((i : Int) + 1) = ((i + 1 : Nat) : Int) from Ha (by omega)]
    have hol : out.length ≤ i := by rw [h2, List.length_map]; exact Nat.le_trans (List.length_filter_le _ _) (by simp)
    have next : ∀ o, o = ((List.range (i + 1)).filter fun j : Nat => (inn[j]?).getD false).map (fun j : Nat => (j : Int)) → (∃ i' : Nat, ((i + 1 : Nat) : Int) = (i' : Int) ∧ i' ≤ inn.length ∧ o = ((List.range i').filter fun j : Nat => (inn[j]?).getD false).map fun j : Nat => (j : Int)) ∧ ((inn.length : Int) - ((i + 1 : Nat) : Int)).toNat < ((inn.length : Int) - (i : Int)).toNat := fun o ho => ⟨⟨i + 1, rfl, hi, ho⟩, by omega⟩
    refine W.bind (W.bind (W.ret (W.ite (fun hb => W.Cm (Em (by simp; omega) (by simp; omega)) (W.ret (W.ret (next _ ?_)))) fun hb => W.ret (W.ret (next _ ?_)))))
    ·rw [List.range_succ, List.filter_append, List.map_append, ← h2]
     simp [List.getElem?_eq_getElem hi, hb]
    ·rw [List.range_succ, List.filter_append, List.map_append, ← h2]
     simp [List.getElem?_eq_getElem hi, hb]
   ·obtain rfl : i = inn.length := by omega
    exact h2
  ·rw [hr, c.len]
   unfold cl
   congr 1
   refine List.filter_congr fun i hi => ?_
   have hi : i < inn.length := by rw [c.len]; exact List.mem_range.1 hi
   have := c.fin h hf i
   rw [List.getElem?_eq_getElem hi] at this ⊢
   simp only [Option.getD_some]
   by_cases hr : Oc a.l_ fr bk f (i : Int)
   ·have := this.2 hr
    simp only [Option.some.injEq] at this
    rw [this, decide_eq_true hr]
   ·have h2 : inn[i] ≠ true := fun e => hr (this.1 (by rw [e]))
    rw [decide_eq_false hr]
    simpa using h2
theorem Sg {t : AI} {a : Ak} (h : Mp t a.l_) {f : List Int} (hf : ∀ i ∈ f, Qi a.l_.length i) (hl : f.length ≤ 4096) (fr bk : Bool) : Et a f fr bk = some (cl a.l_ fr bk f) := by
 have e : Et a f fr bk = CQ a f fr bk := rfl
 rw [e]
 exact Nk h hf hl fr bk
end Go.Av.L
