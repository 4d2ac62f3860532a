/-
  ABS, 15: more fuel does no harm: what the abstract run tells with less it tells with more.
-/
import Derived.Test.YthnnciphldbmeaaGreatDoorAvRun
namespace Go.Av
set_option linter.unusedVariables false
set_option linter.unusedSimpArgs false
def Self.le (S S' : Self) : Prop := (∀ g h f args x, S.call g h f args = some x → S'.call g h f args = some x) ∧ (∀ g f c fr h x, S.loop g f c fr h = some x → S'.loop g f c fr h = some x) ∧ ∀ g h l args x, S.round g h l args = some x → S'.round g h l args = some x
section
variable {C : HU} {S S' : Self}
theorem J4 (hS : S.le S') {g : Gd} {h : AH} {fr : Fr} {op : Op} {x : AA × AH} (hs : Bc C S g h fr op = some x) : Bc C S' g h fr op = some x := by
 unfold Bc at hs ⊢
 split at hs
 ·split at hs
  ·exact hS.1 _ _ _ _ _ hs
  ·exact hS.2.2 _ _ _ _ _ hs
  ·cases hs
 ·exact hs
theorem I6 (hS : S.le S') {g : Gd} {ops : Array Oper} : ∀ {l : List Oper} {fr : Fr} {h : AH} {x : Fr × AH}, GY C S g ops l fr h = some x → GY C S' g ops l fr h = some x
 | [], fr, h, x, hx => hx
 | o :: l, fr, h, x, hx => by
  unfold GY at hx ⊢
  split at hx
  ·split at hx
   ·rename_i v h' hs
    simp only [J4 hS hs]
    exact I6 hS hx
   ·cases hx
  ·exact I6 hS hx
  ·cases hx
theorem Gs (hS : S.le S') {g : Gd} {ops : Array Oper} : ∀ {l : List (Nat × List Nat)} {tch : List (Nat × Nat)} {fr : Fr} {h : AH} {x : Fr × AH}, Cr C S g ops l tch fr h = some x → Cr C S' g ops l tch fr h = some x
 | [], tch, fr, h, x, hx => hx
 | (i, U) :: l, tch, fr, h, x, hx => by
  unfold Cr at hx ⊢
  split at hx
  ·cases hx
  ·split at hx
   ·split at hx
    ·rename_i v h' hs
     simp only [J4 hS hs]
     cases hre : NO C ops U (put fr _ v) h' with
     | false => rw [hre] at hx; cases hx
     | true => rw [hre] at hx; exact Gs hS hx
    ·cases hx
   ·exact Gs hS hx
   ·cases hx
theorem Cp (hS : S.le S') {f : FuncId} {g : Gd} : ∀ {c : Code} {fr : Fr} {h : AH} {x : C9 × Fr × AH}, BV C S f g c fr h = some x → BV C S' f g c fr h = some x := by
 intro c
 induction c with
 | skip => intro fr h x hx; exact hx
 | label l => intro fr h x hx; exact hx
 | exit id => intro fr h x hx; exact hx
 | ret => intro fr h x hx; exact hx
 | goto l => intro fr h x hx; exact hx
 | refuse s => intro fr h x hx; exact hx
 | rangeFunc y ps a b iha ihb =>
  intro fr h x hx
  simp only [BV] at hx ⊢
  split at hx
  ·rename_i f' first cap hev
   cases hbd : Ms C.P f' with
   | false => rw [hbd] at hx; cases hx
   | true =>
    rw [hbd] at hx
    simp only [Bool.not_true, cond_false] at hx ⊢
    split at hx
    ·rename_i v0 h2 hc
     rw [hS.1 _ _ _ _ _ hc]
     exact hx
    ·cases hx
  ·cases hx
 | region id ops draw =>
  intro fr h x hx
  simp only [BV] at hx ⊢
  cases draw with
  | true =>
   simp only [cond_true] at hx ⊢
   split at hx
   ·rename_i fr' h' hr; rw [Gs hS hr]; exact hx
   ·cases hx
  | false =>
   simp only [cond_false] at hx ⊢
   split at hx
   ·rename_i fr' h' hr; rw [I6 hS hr]; exact hx
   ·cases hx
 | seq a b iha ihb =>
  intro fr h x hx
  simp only [BV] at hx ⊢
  split at hx
  ·rename_i fr' h' ha; rw [iha ha]; exact ihb hx
  ·rename_i hne
   have := iha hx
   rw [this]
   split
   ·rename_i fr' h' he
    exact absurd (hx.trans he) (hne _ _)
   ·rfl
 | cond c a b iha ihb =>
  intro fr h x hx
  simp only [BV] at hx ⊢
  split at hx
  ·exact iha hx
  ·exact ihb hx
  ·cases hx
 | block id c ih =>
  intro fr h x hx
  simp only [BV] at hx ⊢
  split at hx
  ·rename_i i fr' h' ha; rw [ih ha]; exact hx
  ·rename_i hne
   rw [ih hx]
   split
   ·rename_i i fr' h' he
    exact absurd (hx.trans he) (hne _ _ _)
   ·rfl
 | loop c ih =>
  intro fr h x hx
  simp only [BV] at hx ⊢
  split at hx
  ·rename_i fr' h' ha; rw [ih ha]; exact hS.2.1 _ _ _ _ _ _ hx
  ·rename_i hne
   rw [ih hx]
   split
   ·rename_i fr' h' he
    exact absurd (hx.trans he) (hne _ _)
   ·rfl
 | scope c ih =>
  intro fr h x hx
  simp only [BV] at hx ⊢
  exact ih hx
theorem No (hS : S.le S') {f : FuncId} {g : Gd} : ∀ {c : Code} {fr : Fr} {h : AH} {x : C9 × Fr × AH}, I5 C S f g c fr h = some x → I5 C S' f g c fr h = some x := by
 have base : ∀ {c : Code} {fr : Fr} {h : AH} {x : C9 × Fr × AH}, (bif Kf c then JQ C S g c fr h else BV C S f g c fr h) = some x → (bif Kf c then JQ C S' g c fr h else BV C S' f g c fr h) = some x := by
  intro c fr h x hx
  cases hs : Kf c with
  | false => rw [hs] at hx; exact Cp hS hx
  | true =>
   rw [hs] at hx
   simp only [cond_true] at hx ⊢
   unfold JQ at hx ⊢
   split at hx
   ·split at hx
    ·split at hx
     ·split at hx
      ·rename_i fr' h' hr; simp only [I6 hS hr]; exact hx
      ·cases hx
     ·cases hx
    ·cases hx
   ·cases hx
 intro c
 induction c with
 | seq a b iha ihb =>
  intro fr h x hx
  simp only [I5] at hx ⊢
  split at hx
  ·rename_i fr' h' ha; rw [iha ha]; exact ihb hx
  ·rename_i hne
   have := iha hx
   rw [this]
   split
   ·rename_i fr' h' he
    exact absurd (hx.trans he) (hne _ _)
   ·rfl
 | _ => intro fr h x hx; simp only [I5] at hx ⊢; exact base hx
theorem R2 (hS : S.le S') {g : Gd} {h : AH} {f : FuncId} {args : List AA} {x : AA × AH} (hb : PF C S g h f args = some x) : PF C S' g h f args = some x := by
 unfold PF at hb ⊢
 split at hb
 ·cases hb
 ·split at hb
  ·cases hb
  ·split at hb
   ·rename_i fr' h' he; rw [No hS he]; exact hb
   ·rename_i fr' h' he; rw [No hS he]; exact hb
   ·cases hb
theorem Qo (hS : S.le S') {g : Gd} {h : AH} {l : Nat} {args : List AA} {x : AA × AH} (hb : KZ C S g h l args = some x) : KZ C S' g h l args = some x := by
 unfold KZ at hb ⊢
 split at hb
 ·cases hc : (Nat.beq args.length _ && (g.may l && C.UC _ _ _)) with
  | false => rw [hc] at hb; cases hb
  | true =>
   rw [hc] at hb
   simp only [cond_true] at hb ⊢
   split at hb
   ·rename_i fr1 h1 hx1
    rw [Cp hS hx1]
    simp only
    split at hb
    ·split at hb
     ·rename_i fr2 h3 hx2; rw [Cp hS hx2]; exact hb
     ·rename_i fr2 h3 hx2; rw [Cp hS hx2]; exact hb
     ·rename_i i fr2 h3 hx2; rw [Cp hS hx2]; exact hb
     ·cases hb
    ·cases hb
   ·cases hb
 ·cases hb
theorem Ir (hS : S.le S') {g : Gd} {h : AH} {f : FuncId} {args : List AA} {x : AA × AH} (hb : IZ C S g h f args = some x) : IZ C S' g h f args = some x := by
 unfold IZ at hb ⊢
 split at hb
 ·cases hb
 ·split at hb
  ·cases hb
  ·split at hb
   ·rename_i fr' h' he; rw [Cp hS he]; exact hb
   ·rename_i fr' h' he; rw [Cp hS he]; exact hb
   ·cases hb
theorem Rr (hS : S.le S') {g : Gd} {h : AH} {f : FuncId} {args : List AA} {x : AA × AH} (hb : IA C S g h f args = some x) : IA C S' g h f args = some x := by
 unfold IA at hb ⊢
 split at hb
 ·exact Ir hS hb
 ·split at hb
  ·rename_i v h' he; rw [Ir hS he]; exact hb
  ·cases hb
 ·exact hb
 ·cases ha : args.all Ia with
  | false => rw [ha] at hb; cases hb
  | true =>
   rw [ha] at hb
   simp only [cond_true] at hb ⊢
   split at hb
   ·rename_i v h' he; rw [Ir hS he]; exact hb
   ·cases hb
 ·split at hb
  ·rename_i v h' he; rw [Ir hS he]; exact hb
  ·cases hb
 ·exact R2 hS hb
 ·split at hb
  ·rename_i v h' he; rw [Ir hS he]; exact hb
  ·cases hb
 ·cases hb
theorem J3 (C : HU) : ∀ n, (DN C n).le (DN C (n + 1))
 | 0 => ⟨fun _ _ _ _ _ h => by simp [DN] at h, fun _ _ _ _ _ _ h => by simp [DN] at h, fun _ _ _ _ _ h => by simp [DN] at h⟩
 | n + 1 => ⟨fun _ _ _ _ _ h => Rr (J3 C n) h, fun _ _ _ _ _ _ h => Cp (J3 C n) h, fun _ _ _ _ _ h => Qo (J3 C n) h⟩
theorem Self.le_refl (S : Self) : S.le S := ⟨fun _ _ _ _ _ h => h, fun _ _ _ _ _ _ h => h, fun _ _ _ _ _ h => h⟩
theorem Self.le.trans {S T U : Self} (h : S.le T) (k : T.le U) : S.le U := ⟨fun _ _ _ _ _ x => k.1 _ _ _ _ _ (h.1 _ _ _ _ _ x), fun _ _ _ _ _ _ x => k.2.1 _ _ _ _ _ _ (h.2.1 _ _ _ _ _ _ x), fun _ _ _ _ _ x => k.2.2 _ _ _ _ _ (h.2.2 _ _ _ _ _ x)⟩
theorem FY (C : HU) {n m : Nat} (h : n ≤ m) : (DN C n).le (DN C m) := by
 induction h with
 | refl => exact Self.le_refl _
 | step h ih => exact ih.trans (J3 C _)
end
end Go.Av
