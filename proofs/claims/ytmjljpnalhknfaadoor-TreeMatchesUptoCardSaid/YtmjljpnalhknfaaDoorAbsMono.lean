/-
  ABS, 15: more fuel does no harm: what the abstract run tells with less it tells with more.
-/
import Derived.Test.YtmjljpnalhknfaaDoorAbsRun
namespace Go.Abs

def Self.le (S S' : Self) : Prop := (∀ g h f args x, S.call g h f args = some x → S'.call g h f args = some x) ∧ ∀ g f c fr h x, S.loop g f c fr h = some x → S'.loop g f c fr h = some x

section
variable {C : Cfg} {S S' : Self}
theorem stepA_mono (hS : S.le S') {g : Gd} {h : AHeap} {fr : Fr} {op : Op} {x : AVal × AHeap} (hs : stepA C S g h fr op = some x) : stepA C S' g h fr op = some x := by
  unfold stepA at hs ⊢
  split at hs
  · split at hs
    · exact hS.1 _ _ _ _ _ hs
    · cases hs
  · exact hs
theorem runOps_mono (hS : S.le S') {g : Gd} {ops : Array Oper} : ∀ {l : List Oper} {fr : Fr} {h : AHeap} {x : Fr × AHeap}, runOps C S g ops l fr h = some x → runOps C S' g ops l fr h = some x
  | [], fr, h, x, hx => hx
  | o :: l, fr, h, x, hx => by
    unfold runOps at hx ⊢
    split at hx
    · split at hx
      · rename_i v h' hs
        simp only [stepA_mono hS hs]
        exact runOps_mono hS hx
      · cases hx
    · exact runOps_mono hS hx
    · cases hx
theorem runPlan_mono (hS : S.le S') {g : Gd} {ops : Array Oper} : ∀ {l : List (Nat × List Nat)} {tch : List (Nat × Nat)} {fr : Fr} {h : AHeap} {x : Fr × AHeap}, runPlan C S g ops l tch fr h = some x → runPlan C S' g ops l tch fr h = some x
  | [], tch, fr, h, x, hx => hx
  | (i, U) :: l, tch, fr, h, x, hx => by
    unfold runPlan at hx ⊢
    split at hx
    · cases hx
    · split at hx
      · split at hx
        · rename_i v h' hs
          simp only [stepA_mono hS hs]
          exact runPlan_mono hS hx
        · cases hx
      · exact runPlan_mono hS hx
      · cases hx
theorem execA_mono (hS : S.le S') {f : FuncId} {g : Gd} : ∀ {c : Code} {fr : Fr} {h : AHeap} {x : AExit × Fr × AHeap}, execA C S f g c fr h = some x → execA C S' f g c fr h = some x := by
  intro c
  induction c with
  | skip => intro fr h x hx; exact hx
  | label l => intro fr h x hx; exact hx
  | exit id => intro fr h x hx; exact hx
  | ret => intro fr h x hx; exact hx
  | goto l => intro fr h x hx; exact hx
  | refuse s => intro fr h x hx; exact hx
  | rangeFunc f ps a b iha ihb => intro fr h x hx; simp [execA] at hx
  | region id ops draw =>
    intro fr h x hx
    simp only [execA] at hx ⊢
    cases draw with
    | true =>
      simp only [cond_true] at hx ⊢
      split at hx
      · rename_i fr' h' hr; rw [runPlan_mono hS hr]; exact hx
      · cases hx
    | false =>
      simp only [cond_false] at hx ⊢
      split at hx
      · rename_i fr' h' hr; rw [runOps_mono hS hr]; exact hx
      · cases hx
  | seq a b iha ihb =>
    intro fr h x hx
    simp only [execA] at hx ⊢
    split at hx
    · rename_i fr' h' ha; rw [iha ha]; exact ihb hx
    · rename_i hne
      have := iha hx
      rw [this]
      split
      · rename_i fr' h' he
        exact absurd (hx.trans he) (hne _ _)
      · rfl
  | cond c a b iha ihb =>
    intro fr h x hx
    simp only [execA] at hx ⊢
    split at hx
    · exact iha hx
    · exact ihb hx
    · cases hx
  | block id c ih =>
    intro fr h x hx
    simp only [execA] at hx ⊢
    split at hx
    · rename_i i fr' h' ha; rw [ih ha]; exact hx
    · rename_i hne
      rw [ih hx]
      split
      · rename_i i fr' h' he
        exact absurd (hx.trans he) (hne _ _ _)
      · rfl
  | loop c ih =>
    intro fr h x hx
    simp only [execA] at hx ⊢
    split at hx
    · rename_i fr' h' ha; rw [ih ha]; exact hS.2 _ _ _ _ _ _ hx
    · rename_i hne
      rw [ih hx]
      split
      · rename_i fr' h' he
        exact absurd (hx.trans he) (hne _ _)
      · rfl
  | scope c ih => intro fr h x hx; exact ih hx
theorem bodyA_mono (hS : S.le S') {g : Gd} {h : AHeap} {f : FuncId} {args : List AVal} {x : AVal × AHeap} (hb : bodyA C S g h f args = some x) : bodyA C S' g h f args = some x := by
  unfold bodyA at hb ⊢
  split at hb
  · cases hb
  · split at hb
    · cases hb
    · split at hb
      · rename_i fr' h' he; rw [execA_mono hS he]; exact hb
      · rename_i fr' h' he; rw [execA_mono hS he]; exact hb
      · cases hb
theorem callA_mono (hS : S.le S') {g : Gd} {h : AHeap} {f : FuncId} {args : List AVal} {x : AVal × AHeap} (hb : callA C S g h f args = some x) : callA C S' g h f args = some x := by
  unfold callA at hb ⊢
  split at hb
  · exact bodyA_mono hS hb
  · split at hb
    · rename_i v h' he; rw [bodyA_mono hS he]; exact hb
    · cases hb
  · exact hb
  · cases ha : args.all flat2 with
    | false => rw [ha] at hb; cases hb
    | true =>
      rw [ha] at hb
      simp only [cond_true] at hb ⊢
      split at hb
      · rename_i v h' he; rw [bodyA_mono hS he]; exact hb
      · cases hb
  · cases hb

theorem selfN_succ (C : Cfg) : ∀ n, (selfN C n).le (selfN C (n + 1))
  | 0 => ⟨fun _ _ _ _ _ h => by simp [selfN] at h, fun _ _ _ _ _ _ h => by simp [selfN] at h⟩
  | n + 1 => ⟨fun _ _ _ _ _ h => callA_mono (selfN_succ C n) h, fun _ _ _ _ _ _ h => execA_mono (selfN_succ C n) h⟩
theorem Self.le_refl (S : Self) : S.le S := ⟨fun _ _ _ _ _ h => h, fun _ _ _ _ _ _ h => h⟩
theorem Self.le.trans {S T U : Self} (h : S.le T) (k : T.le U) : S.le U := ⟨fun _ _ _ _ _ x => k.1 _ _ _ _ _ (h.1 _ _ _ _ _ x), fun _ _ _ _ _ _ x => k.2 _ _ _ _ _ _ (h.2 _ _ _ _ _ _ x)⟩
theorem selfN_le (C : Cfg) {n m : Nat} (h : n ≤ m) : (selfN C n).le (selfN C m) := by
  induction h with
  | refl => exact Self.le_refl _
  | step h ih => exact ih.trans (selfN_succ C _)
end
end Go.Abs
