/-
  ABS, 15: more fuel does no harm: what the abstract run tells with less it tells with more.
-/
import Derived.Test.YthnnciphldbmeaaGreatDoorAvRun
namespace Go.Av
set_option linter.unusedVariables false
set_option linter.unusedSimpArgs false
def Self.le (S S' : Self) : Prop := (∀ g h f args x, S.call g h f args = some x → S'.call g h f args = some x) ∧ (∀ g f c fr h x, S.loop g f c fr h = some x → S'.loop g f c fr h = some x) ∧ ∀ g h l args x, S.round g h l args = some x → S'.round g h l args = some x
section
variable {C : Hj} {S S' : Self}
theorem KE (hS : S.le S') {g : Gd} {h : AM} {fr : Fr} {op : Op} {x : AD × AM} (hs : Bl C S g h fr op = some x) : Bl C S' g h fr op = some x := by
 unfold Bl at hs ⊢
 split at hs
 ·split at hs
  ·exact hS.1 _ _ _ _ _ hs
  ·exact hS.2.2 _ _ _ _ _ hs
  ·cases hs
 ·exact hs
theorem JC (hS : S.le S') {g : Gd} {ops : Array Oper} : ∀ {l : List Oper} {fr : Fr} {h : AM} {x : Fr × AM}, Gg C S g ops l fr h = some x → Gg C S' g ops l fr h = some x
 | [], fr, h, x, hx => hx
 | o :: l, fr, h, x, hx => by
  unfold Gg at hx ⊢
  split at hx
  ·split at hx
   ·rename_i v h' hs
    simp only [KE hS hs]
    exact JC hS hx
   ·cases hx
  ·exact JC hS hx
  ·cases hx
theorem HA (hS : S.le S') {g : Gd} {ops : Array Oper} : ∀ {l : List (Nat × List Nat)} {tch : List (Nat × Nat)} {fr : Fr} {h : AM} {x : Fr × AM}, Cy C S g ops l tch fr h = some x → Cy C S' g ops l tch fr h = some x
 | [], tch, fr, h, x, hx => hx
 | (i, U) :: l, tch, fr, h, x, hx => by
  unfold Cy at hx ⊢
  split at hx
  ·cases hx
  ·split at hx
   ·split at hx
    ·rename_i v h' hs
     simp only [KE hS hs]
     cases hre : N4 C ops U (put fr _ v) h' with
     | false => rw [hre] at hx; cases hx
     | true => rw [hre] at hx; exact HA hS hx
    ·cases hx
   ·exact HA hS hx
   ·cases hx
theorem Ct (hS : S.le S') {f : FuncId} {g : Gd} : ∀ {c : Code} {fr : Fr} {h : AM} {x : DK × Fr × AM}, Bd C S f g c fr h = some x → Bd C S' f g c fr h = some x := by
 intro c
 induction c with
 | skip => intro fr h x hx; exact hx
 | label l => intro fr h x hx; exact hx
 | exit id => intro fr h x hx; exact hx
 | ret => intro fr h x hx; exact hx
 | goto l => intro fr h x hx; exact hx
 | refuse s => intro fr h x hx; exact hx
 | rangeFunc y ps a b iha ihb =>
  intro fr h x hx
  simp only [Bd] at hx ⊢
  split at hx
  ·rename_i f' first cap hev
   cases hbd : NG C.P f' with
   | false => rw [hbd] at hx; cases hx
   | true =>
    rw [hbd] at hx
    simp only [Bool.not_true, cond_false] at hx ⊢
    split at hx
    ·rename_i v0 h2 hc
     rw [hS.1 _ _ _ _ _ hc]
     exact hx
    ·cases hx
  ·cases hx
 | region id ops draw =>
  intro fr h x hx
  simp only [Bd] at hx ⊢
  cases draw with
  | true =>
   simp only [cond_true] at hx ⊢
   split at hx
   ·rename_i fr' h' hr; rw [HA hS hr]; exact hx
   ·cases hx
  | false =>
   simp only [cond_false] at hx ⊢
   split at hx
   ·rename_i fr' h' hr; rw [JC hS hr]; exact hx
   ·cases hx
 | seq a b iha ihb =>
  intro fr h x hx
  simp only [Bd] at hx ⊢
  split at hx
  ·rename_i fr' h' ha; rw [iha ha]; exact ihb hx
  ·rename_i hne
   have := iha hx
   rw [this]
   split
   ·rename_i fr' h' he
    exact absurd (hx.trans he) (hne _ _)
   ·rfl
 | cond c a b iha ihb =>
  intro fr h x hx
  simp only [Bd] at hx ⊢
  split at hx
  ·exact iha hx
  ·exact ihb hx
  ·cases hx
 | block id c ih =>
  intro fr h x hx
  simp only [Bd] at hx ⊢
  split at hx
  ·rename_i i fr' h' ha; rw [ih ha]; exact hx
  ·rename_i hne
   rw [ih hx]
   split
   ·rename_i i fr' h' he
    exact absurd (hx.trans he) (hne _ _ _)
   ·rfl
 | loop c ih =>
  intro fr h x hx
  simp only [Bd] at hx ⊢
  split at hx
  ·rename_i fr' h' ha; rw [ih ha]; exact hS.2.1 _ _ _ _ _ _ hx
  ·rename_i hne
   rw [ih hx]
   split
   ·rename_i fr' h' he
    exact absurd (hx.trans he) (hne _ _)
   ·rfl
 | scope c ih =>
  intro fr h x hx
  simp only [Bd] at hx ⊢
  exact ih hx
theorem Of (hS : S.le S') {f : FuncId} {g : Gd} : ∀ {c : Code} {fr : Fr} {h : AM} {x : DK × Fr × AM}, JL C S f g c fr h = some x → JL C S' f g c fr h = some x := by
 have base : ∀ {c : Code} {fr : Fr} {h : AM} {x : DK × Fr × AM}, (bif LQ c then JW C S g c fr h else Bd C S f g c fr h) = some x → (bif LQ c then JW C S' g c fr h else Bd C S' f g c fr h) = some x := by
  intro c fr h x hx
  cases hs : LQ c with
  | false => rw [hs] at hx; exact Ct hS hx
  | true =>
   rw [hs] at hx
   simp only [cond_true] at hx ⊢
   unfold JW at hx ⊢
   split at hx
   ·split at hx
    ·split at hx
     ·split at hx
      ·rename_i fr' h' hr; simp only [JC hS hr]; exact hx
      ·cases hx
     ·cases hx
    ·cases hx
   ·cases hx
 intro c
 induction c with
 | seq a b iha ihb =>
  intro fr h x hx
  simp only [JL] at hx ⊢
  split at hx
  ·rename_i fr' h' ha; rw [iha ha]; exact ihb hx
  ·rename_i hne
   have := iha hx
   rw [this]
   split
   ·rename_i fr' h' he
    exact absurd (hx.trans he) (hne _ _)
   ·rfl
 | _ => intro fr h x hx; simp only [JL] at hx ⊢; exact base hx
theorem Sn (hS : S.le S') {g : Gd} {h : AM} {f : FuncId} {args : List AD} {x : AD × AM} (hb : QB C S g h f args = some x) : QB C S' g h f args = some x := by
 unfold QB at hb ⊢
 split at hb
 ·cases hb
 ·split at hb
  ·cases hb
  ·split at hb
   ·rename_i fr' h' he; rw [Of hS he]; exact hb
   ·rename_i fr' h' he; rw [Of hS he]; exact hb
   ·cases hb
theorem RL (hS : S.le S') {g : Gd} {h : AM} {l : Nat} {args : List AD} {x : AD × AM} (hb : K7 C S g h l args = some x) : K7 C S' g h l args = some x := by
 unfold K7 at hb ⊢
 split at hb
 ·cases hc : (Nat.beq args.length _ && (g.may l && C.V6 _ _ _)) with
  | false => rw [hc] at hb; cases hb
  | true =>
   rw [hc] at hb
   simp only [cond_true] at hb ⊢
   split at hb
   ·rename_i fr1 h1 hx1
    rw [Ct hS hx1]
    simp only
    split at hb
    ·split at hb
     ·rename_i fr2 h3 hx2; rw [Ct hS hx2]; exact hb
     ·rename_i fr2 h3 hx2; rw [Ct hS hx2]; exact hb
     ·rename_i i fr2 h3 hx2; rw [Ct hS hx2]; exact hb
     ·cases hb
    ·cases hb
   ·cases hb
 ·cases hb
theorem I1 (hS : S.le S') {g : Gd} {h : AM} {f : FuncId} {args : List AD} {x : AD × AM} (hb : I0 C S g h f args = some x) : I0 C S' g h f args = some x := by
 unfold I0 at hb ⊢
 split at hb
 ·cases hb
 ·split at hb
  ·cases hb
  ·split at hb
   ·rename_i fr' h' he; rw [Ct hS he]; exact hb
   ·rename_i fr' h' he; rw [Ct hS he]; exact hb
   ·cases hb
theorem Si (hS : S.le S') {g : Gd} {h : AM} {f : FuncId} {args : List AD} {x : AD × AM} (hb : IH C S g h f args = some x) : IH C S' g h f args = some x := by
 unfold IH at hb ⊢
 split at hb
 ·exact I1 hS hb
 ·split at hb
  ·rename_i v h' he; rw [I1 hS he]; exact hb
  ·cases hb
 ·exact hb
 ·cases ha : args.all Ic with
  | false => rw [ha] at hb; cases hb
  | true =>
   rw [ha] at hb
   simp only [cond_true] at hb ⊢
   split at hb
   ·rename_i v h' he; rw [I1 hS he]; exact hb
   ·cases hb
 ·split at hb
  ·rename_i v h' he; rw [I1 hS he]; exact hb
  ·cases hb
 ·exact Sn hS hb
 ·split at hb
  ·rename_i v h' he; rw [I1 hS he]; exact hb
  ·cases hb
 ·cases hb
theorem J9 (C : Hj) : ∀ n, (DZ C n).le (DZ C (n + 1))
 | 0 => ⟨fun _ _ _ _ _ h => by simp [DZ] at h, fun _ _ _ _ _ _ h => by simp [DZ] at h, fun _ _ _ _ _ h => by simp [DZ] at h⟩
 | n + 1 => ⟨fun _ _ _ _ _ h => Si (J9 C n) h, fun _ _ _ _ _ _ h => Ct (J9 C n) h, fun _ _ _ _ _ h => RL (J9 C n) h⟩
theorem Self.le_refl (S : Self) : S.le S := ⟨fun _ _ _ _ _ h => h, fun _ _ _ _ _ _ h => h, fun _ _ _ _ _ h => h⟩
theorem Self.le.trans {S T U : Self} (h : S.le T) (k : T.le U) : S.le U := ⟨fun _ _ _ _ _ x => k.1 _ _ _ _ _ (h.1 _ _ _ _ _ x), fun _ _ _ _ _ _ x => k.2.1 _ _ _ _ _ _ (h.2.1 _ _ _ _ _ _ x), fun _ _ _ _ _ x => k.2.2 _ _ _ _ _ (h.2.2 _ _ _ _ _ x)⟩
theorem Fq (C : Hj) {n m : Nat} (h : n ≤ m) : (DZ C n).le (DZ C m) := by
 induction h with
 | refl => exact Self.le_refl _
 | step h ih => exact ih.trans (J9 C _)
end
end Go.Av
