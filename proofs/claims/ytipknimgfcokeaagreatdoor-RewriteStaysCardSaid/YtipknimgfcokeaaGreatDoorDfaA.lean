/-
  Several texts in one.
-/
import Derived.Test.YtipknimgfcokeaaGreatDoorAvNum
import Derived.Test.YtipknimgfcokeaaGreatDoorAvMore
import Derived.Test.YtipknimgfcokeaaGreatDoorK0
import Derived.Test.YtipknimgfcokeaaGreatDoorK1
import Derived.Test.YtipknimgfcokeaaGreatDoorK2
import Derived.Test.YtipknimgfcokeaaGreatDoorK3
import Derived.Test.YtipknimgfcokeaaGreatDoorK4
import Derived.Test.YtipknimgfcokeaaGreatDoorK5
import Derived.Test.YtipknimgfcokeaaGreatDoorK6
import Derived.Test.YtipknimgfcokeaaGreatDoorK7
import Derived.Test.YtipknimgfcokeaaGreatDoorK8
import Derived.Test.YtipknimgfcokeaaGreatDoorK9
/-
  Laws over models: '==' of structs; one turn of a loop.
-/
section
namespace Go.Av.L
open Go.Av
set_option linter.unusedVariables false
set_option linter.unusedSimpArgs false
def Nw (P : Program) : Nat → TypeId → AB → AB → Bool
 | 0, _, _, _ => false
 | d + 1, t, x, y =>
  match P.underlying t, x, y with
  | some .bool, .bool _, .bool _ => true
  | some (.int _), .int k _, .int k' _ => decide (k = k')
  | some .string, .str _, .str _ => true
  | some (.struct fs), .agg xs, .agg ys => !P.stoodInHeld t && fs.toList.all fun f => decide (f.name = "_") || (match GS P f.type xs f.offset, GS P f.type ys f.offset with | some a, some b => Nw P d f.type a b | _, _ => false)
  | some (.array n e), .agg xs, .agg ys => match Cx P e with | some z => (List.range n).all fun i => (match GS P e xs (i * z), GS P e ys (i * z) with | some a, some b => Nw P d e a b | _, _ => false) | none => false
  | _, _, _ => false
theorem Mt {P : Program} {eq : TypeId → AB → AB → Option Bool} {sm : TypeId → AB → AB → Bool} (h : ∀ t a b, sm t a b = true → ∃ v, eq t a b = some v) {xs ys : List AB} : ∀ fs : List Field, (fs.all fun f => decide (f.name = "_") || (match GS P f.type xs f.offset, GS P f.type ys f.offset with | some a, some b => sm f.type a b | _, _ => false)) = true → ∃ v, eqFields P eq xs ys fs = some v
 | [], _ => ⟨true, rfl⟩
 | f :: fs, hs => by
  simp only [List.all_cons, Bool.and_eq_true] at hs
  obtain ⟨v, hv⟩ := Mt h fs hs.2
  unfold eqFields
  by_cases hn : f.name = "_"
  ·rw [if_pos hn]; exact ⟨v, hv⟩
  ·rw [if_neg hn]
   have h1 := hs.1
   simp only [hn, decide_false, Bool.false_or] at h1
   split at h1
   ·rename_i a b ha hb
    rw [ha, hb]
    obtain ⟨u, hu⟩ := h _ _ _ h1
    simp only [hu]
    cases u
    ·exact ⟨false, rfl⟩
    ·exact ⟨v, hv⟩
   ·cases h1
theorem N0 {P : Program} {eq : TypeId → AB → AB → Option Bool} {sm : TypeId → AB → AB → Bool} (h : ∀ t a b, sm t a b = true → ∃ v, eq t a b = some v) {e : TypeId} {z : Nat} {xs ys : List AB} : ∀ n i : Nat, (∀ j, i ≤ j → j < i + n → (match GS P e xs (j * z), GS P e ys (j * z) with | some a, some b => sm e a b | _, _ => false) = true) → ∃ v, Jg P eq e z xs ys n i = some v
 | 0, i, _ => ⟨true, rfl⟩
 | n + 1, i, hs => by
  obtain ⟨v, hv⟩ := N0 h (e := e) (z := z) (xs := xs) (ys := ys) n (i + 1) (fun j h1 h2 => hs j (by omega) (by omega))
  have h1 := hs i (Nat.le_refl _) (by omega)
  unfold Jg
  split at h1
  ·rename_i a b ha hb
   rw [ha, hb]
   obtain ⟨u, hu⟩ := h _ _ _ h1
   simp only [hu]
   cases u
   ·exact ⟨false, rfl⟩
   ·exact ⟨v, hv⟩
  ·cases h1
theorem TG {P : Program} : ∀ (d : Nat) (t : TypeId) (x y : AB), Nw P d t x y = true → ∃ v, La P d t x y = some v
 | 0, _, _, _, h => by cases h
 | d + 1, t, x, y, h => by
  have ih := TG (P := P) d
  unfold Nw at h
  split at h
  ·rename_i hu; unfold La; rw [hu]; exact ⟨_, rfl⟩
  ·rename_i hu; unfold La; rw [hu]; simp only [decide_eq_true_eq] at h; exact ⟨_, if_pos h⟩
  ·rename_i hu; unfold La; rw [hu]; exact ⟨_, rfl⟩
  ·rename_i hu
   simp only [Bool.and_eq_true, Bool.not_eq_true'] at h
   unfold La; rw [hu]
   simp only [h.1]
   exact Mt (sm := Nw P d) ih _ h.2
  ·rename_i hu
   split at h
   ·rename_i z hz
    unfold La; rw [hu]
    simp only [hz, Option.bind_some]
    refine N0 (sm := Nw P d) ih _ 0 fun j _ hj => ?_
    exact List.all_eq_true.1 h j (List.mem_range.2 (by omega))
   ·cases h
  ·cases h
theorem Vy {P : Program} {t : TypeId} {xs ys : List AB} (h : P.eqGuardType P.depth t = false) (h3 : Nw P 10000 t (.agg xs) (.agg ys) = true) : W (WN P t xs ys) fun _ => True := by
 obtain ⟨v, hv⟩ := TG _ _ _ _ h3
 unfold WN
 rw [if_neg (by rw [h]; decide)]
 exact ⟨v, hv, trivial⟩
def Le {σ ρ : Type} (step : σ → Option (σ ⊕ ρ)) (Q : ρ → Prop) : σ ⊕ ρ → Prop
 | .inl s' => W (Av.loop step s') Q
 | .inr r => Q r
theorem W.Vl {σ ρ : Type} {step : σ → Option (σ ⊕ ρ)} {s : σ} {Q : ρ → Prop} (w : W (step s) (Le step Q)) : W (Av.loop step s) Q := by
 obtain ⟨o, e, q⟩ := w
 cases o with
 | inl s' => rw [MC e]; exact q
 | inr r => exact ⟨r, Jb e, q⟩
theorem SS (i n : Nat) : ((i : Int) == (n : Int)) = decide (i = n) := by
 by_cases h : i = n
 ·subst h; simp
 ·rw [decide_eq_false h]; simp; omega
end Go.Av.L
end
/-
  Dfa: what sets have, which nodes may be, which trees are right.
-/
section
namespace Go.Av.L
open Go.Av Go.Lib
set_option linter.unusedVariables false
set_option linter.unusedSimpArgs false
theorem Pn : ∀ n : Fin 256, 0 ≤ GZ .u8 (n.1 : Int) 6 ∧ GZ .u8 (n.1 : Int) 6 < 4 ∧ 0 ≤ FF .u8 (n.1 : Int) 63 := by decide +kernel
noncomputable def Nl (s : Ar) (b : Int) : Bool := (DL s b).getD false
theorem has_eq (s : Ar) {b : Int} (h0 : 0 ≤ b) (h1 : b ≤ 255) : DL s b = some (Nl s b) := by
 have hw : ∃ v, DL s b = some v := by
  obtain ⟨n, rfl⟩ := Int.eq_ofNat_of_zero_le h0
  obtain ⟨e1, e2, e3⟩ := Pn ⟨n, by omega⟩
  simp only at e1 e2 e3
  unfold DL
  obtain ⟨k, hk⟩ := Int.eq_ofNat_of_zero_le e1
  rw [hk] at e2 ⊢
  have hk4 : k < ([s.w0, s.w1, s.w2, s.w3] : List Int).length := by simp; omega
  rw [DM hk4, Option.bind_some, decide_eq_true e3, MP]
  exact ⟨_, rfl⟩
 obtain ⟨v, hv⟩ := hw
 unfold Nl
 rw [hv]; rfl
def R8 (n : AJ) (i : Int) : Prop :=
 ((n.Kind = 2 ∨ n.Kind = 3) → 0 ≤ n.A ∧ n.A < i ∧ 0 ≤ n.B ∧ n.B < i) ∧
 (n.Kind = 4 → 0 ≤ n.A ∧ n.A < i ∧ 0 ≤ n.Min ∧ n.Min ≤ 255 ∧ (n.Max = -1 ∨ n.Min ≤ n.Max ∧ n.Max ≤ 255)) ∧
 (n.Kind = 5 → 0 ≤ n.A ∧ n.A < i)
theorem Vs (a b : AJ) : W (WN cfg.P 94 [.int .i64 a.Kind, .int .i64 a.A, .int .i64 a.B, .int .i64 a.Min, .int .i64 a.Max, .int .i64 a.C4, .int .u64 a.Set.w0, .int .u64 a.Set.w1, .int .u64 a.Set.w2, .int .u64 a.Set.w3] [.int .i64 b.Kind, .int .i64 b.A, .int .i64 b.B, .int .i64 b.Min, .int .i64 b.Max, .int .i64 b.C4, .int .u64 b.Set.w0, .int .u64 b.Set.w1, .int .u64 b.Set.w2, .int .u64 b.Set.w3]) fun _ => True := by
 exact Vy (by kernel_rfl) (by kernel_rfl)
theorem Ty (n : AJ) (i : Int) : W (GC n i) fun b => b = true → R8 n i := by
 have m1 : ∀ a, Dv a i = some (decide (0 ≤ a) && decide (a < i)) := fun a => rfl
 unfold GC
 refine W.bind (W.mono (Q := fun _ => True) ?_ fun x _ => ?_)
 ·unfold Il
  refine W.bind (W.mono (Q := fun _ => True) (W.ite (fun _ => W.ret trivial) fun _ => W.ite (fun _ => W.ret trivial) fun _ => W.ret trivial) fun _ _ => W.ite (fun _ => W.ret trivial) fun _ => W.ite (fun _ => W.ret trivial) fun _ => ?_)
  refine W.bind (W.mono (Q := fun _ => True) (W.ite (fun _ => W.ret trivial) fun _ => W.ret trivial) fun _ _ => W.ite (fun _ => W.ret trivial) fun _ => W.ite (fun _ => W.ret trivial) fun _ => W.ite (fun _ => W.ret trivial) fun _ => W.ret trivial)
 obtain ⟨x1, x2⟩ := x
 refine W.bind (W.mono (Q := fun _ => True) (W.ite (fun _ => W.ret trivial) fun _ => ?_) fun x3 _ => ?_)
 ·exact W.bind ((Vs x1 n).mono fun _ _ => W.ret trivial)
 refine W.ite (fun _ => W.ret fun h => by cases h) fun _ => ?_
 rw [Fk]
 refine W.bind (W.mono (Q := fun b => b = decide (n.Kind = 2 ∨ n.Kind = 3)) ?_ fun x5 h5 => ?_)
 ·split <;> rename_i hk
  ·exact W.ret (by simp [hk])
  ·exact W.ret (by by_cases h3 : n.Kind = 3 <;> simp [hk, h3])
 subst h5
 refine W.Di (fun h => ?_) fun h => ?_
 ·rw [m1]
  refine W.bind (W.ret (W.bind (W.mono (Q := fun b => b = true → R8 n i) ?_ fun b hb => W.ret hb)))
  refine W.ite (fun ha => ?_) fun _ => W.ret fun h => by cases h
  rw [m1]
  refine W.bind (W.ret (W.ret fun hb => ?_))
  simp only [Bool.and_eq_true, decide_eq_true_eq] at ha hb
  exact ⟨fun _ => ⟨ha.1, ha.2, hb.1, hb.2⟩, fun h4 => by omega, fun h5 => by omega⟩
 ·rw [Fk, Fk]
  split
  ·rename_i h4
   rw [m1]
   refine W.bind (W.ret (W.ret fun hb => ?_))
   simp only [Bool.and_eq_true, Bool.or_eq_true, decide_eq_true_eq, beq_iff_eq] at hb
   exact ⟨fun h => by omega, fun _ => by omega, fun h => by omega⟩
  ·split
   ·rename_i h5
    rw [m1]
    refine W.bind (W.ret (W.ret fun hb => ?_))
    simp only [Bool.and_eq_true, decide_eq_true_eq] at hb
    exact ⟨fun h => by omega, fun _ => by omega, fun h => by omega⟩
   ·exact W.ret fun _ => ⟨fun h => by omega, fun h => by omega, fun h => by omega⟩
structure N3 (t : AI) : Prop where
 len : t.AU.length ≤ 1024
 root : 0 ≤ t.Bf ∧ t.Bf < t.AU.length
 nodes : ∀ (i : Nat) n, t.AU[i]? = some n → R8 n i
theorem Ps (t : AI) : W (CC t) fun b => b = true → N3 t := by
 unfold CC
 refine W.ite (fun _ => W.ret fun h => by cases h) fun hb => ?_
 simp only [Bool.or_eq_false_iff, decide_eq_false_iff_not] at hb
 refine W.bind (W.mono (W.loop (fun s => ∃ i : Nat, s = (i : Int) ∧ i ≤ t.AU.length ∧ ∀ (j : Nat) n, j < i → t.AU[j]? = some n → R8 n j) (fun s => (t.AU.length - s).toNat) ⟨0, rfl, by omega, fun j n hj => by omega⟩ ?_ (Q := fun o => match o with | .inl _ => N3 t | .inr b => b = false)) fun o ho => ?_)
 ·rintro _ ⟨i, rfl, h1, h2⟩
  unfold D4
  refine W.Di (fun hl => ?_) fun hl => W.ret ?_
  ·have hi : i < t.AU.length := by omega
   rw [DM hi]
   refine W.bind (W.ret (W.bind ((Ty _ _).mono fun b hbn => W.ite (fun _ => W.ret rfl) fun hb2 => W.ret ?_)))
   rw [show IntKind.i64.wrap ((i : Int) + 1) = ((i + 1 : Nat) : Int) from Ha (by omega)]
   refine ⟨⟨i + 1, rfl, by omega, fun j n hj hn => ?_⟩, by omega⟩
   by_cases hj2 : j < i
   ·exact h2 j n hj2 hn
   ·obtain rfl : j = i := by omega
    rw [List.getElem?_eq_getElem hi] at hn
    cases hn
    exact hbn (by simpa using hb2)
  ·exact ⟨by omega, by omega, fun j n hn => h2 j n (by have := (List.getElem?_eq_some_iff.1 hn).1; omega) hn⟩
 ·cases o with
  | inl u => exact W.ret fun _ => ho
  | inr b => exact W.ret fun h => by rw [ho] at h; cases h
end Go.Av.L
end
