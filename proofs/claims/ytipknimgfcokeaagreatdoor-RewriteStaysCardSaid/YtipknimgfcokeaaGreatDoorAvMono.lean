/-
  ABS, 15: more fuel does no harm: what the abstract run tells with less it tells with more.
-/
import Derived.Test.YtipknimgfcokeaaGreatDoorAvRun
namespace Go.Av
set_option linter.unusedVariables false
set_option linter.unusedSimpArgs false
def Self.le (S S' : Self) : Prop := (∀ g h f args x, S.call g h f args = some x → S'.call g h f args = some x) ∧ (∀ g f c fr h x, S.loop g f c fr h = some x → S'.loop g f c fr h = some x) ∧ ∀ g h l args x, S.round g h l args = some x → S'.round g h l args = some x
section
variable {C : IJ} {S S' : Self}
theorem Jn (hS : S.le S') {g : Gd} {h : AH} {fr : Fr} {op : Op} {x : AB × AH} (hs : Bq C S g h fr op = some x) : Bq C S' g h fr op = some x := by
 unfold Bq at hs ⊢
 split at hs
 ·split at hs
  ·exact hS.1 _ _ _ _ _ hs
  ·exact hS.2.2 _ _ _ _ _ hs
  ·cases hs
 ·exact hs
theorem Ih (hS : S.le S') {g : Gd} {ops : Array Oper} : ∀ {l : List Oper} {fr : Fr} {h : AH} {x : Fr × AH}, GG C S g ops l fr h = some x → GG C S' g ops l fr h = some x
 | [], fr, h, x, hx => hx
 | o :: l, fr, h, x, hx => by
  unfold GG at hx ⊢
  split at hx
  ·split at hx
   ·rename_i v h' hs
    simp only [Jn hS hs]
    exact Ih hS hx
   ·cases hx
  ·exact Ih hS hx
  ·cases hx
theorem Gg (hS : S.le S') {g : Gd} {ops : Array Oper} : ∀ {l : List (Nat × List Nat)} {tch : List (Nat × Nat)} {fr : Fr} {h : AH} {x : Fr × AH}, C6 C S g ops l tch fr h = some x → C6 C S' g ops l tch fr h = some x
 | [], tch, fr, h, x, hx => hx
 | (i, U) :: l, tch, fr, h, x, hx => by
  unfold C6 at hx ⊢
  split at hx
  ·cases hx
  ·split at hx
   ·split at hx
    ·rename_i v h' hs
     simp only [Jn hS hs]
     cases hre : Kj C ops U (put fr _ v) h' with
     | false => rw [hre] at hx; cases hx
     | true => rw [hre] at hx; exact Gg hS hx
    ·cases hx
   ·exact Gg hS hx
   ·cases hx
theorem Dg (hS : S.le S') {f : FuncId} {g : Gd} : ∀ {c : Code} {fr : Fr} {h : AH} {x : Dl × Fr × AH}, Bn C S f g c fr h = some x → Bn C S' f g c fr h = some x := by
 intro c
 induction c with
 | skip => intro fr h x hx; exact hx
 | label l => intro fr h x hx; exact hx
 | exit id => intro fr h x hx; exact hx
 | ret => intro fr h x hx; exact hx
 | goto l => intro fr h x hx; exact hx
 | refuse s => intro fr h x hx; exact hx
 | rangeFunc y ps a b iha ihb =>
  intro fr h x hx
  simp only [Bn] at hx ⊢
  split at hx
  ·rename_i f' first cap hev
   cases hbd : Nx C.P f' with
   | false => rw [hbd] at hx; cases hx
   | true =>
    rw [hbd] at hx
    simp only [Bool.not_true, cond_false] at hx ⊢
    split at hx
    ·rename_i v0 h2 hc
     rw [hS.1 _ _ _ _ _ hc]
     exact hx
    ·cases hx
  ·cases hx
 | region id ops draw =>
  intro fr h x hx
  simp only [Bn] at hx ⊢
  cases draw with
  | true =>
   simp only [cond_true] at hx ⊢
   split at hx
   ·rename_i fr' h' hr; rw [Gg hS hr]; exact hx
   ·cases hx
  | false =>
   simp only [cond_false] at hx ⊢
   split at hx
   ·rename_i fr' h' hr; rw [Ih hS hr]; exact hx
   ·cases hx
 | seq a b iha ihb =>
  intro fr h x hx
  simp only [Bn] at hx ⊢
  split at hx
  ·rename_i fr' h' ha; rw [iha ha]; exact ihb hx
  ·rename_i hne
   have := iha hx
   rw [this]
   split
   ·rename_i fr' h' he
    exact absurd (hx.trans he) (hne _ _)
   ·rfl
 | cond c a b iha ihb =>
  intro fr h x hx
  simp only [Bn] at hx ⊢
  split at hx
  ·exact iha hx
  ·exact ihb hx
  ·cases hx
 | block id c ih =>
  intro fr h x hx
  simp only [Bn] at hx ⊢
  split at hx
  ·rename_i i fr' h' ha; rw [ih ha]; exact hx
  ·rename_i hne
   rw [ih hx]
   split
   ·rename_i i fr' h' he
    exact absurd (hx.trans he) (hne _ _ _)
   ·rfl
 | loop c ih =>
  intro fr h x hx
  simp only [Bn] at hx ⊢
  split at hx
  ·rename_i fr' h' ha; rw [ih ha]; exact hS.2.1 _ _ _ _ _ _ hx
  ·rename_i hne
   rw [ih hx]
   split
   ·rename_i fr' h' he
    exact absurd (hx.trans he) (hne _ _)
   ·rfl
 | scope c ih =>
  intro fr h x hx
  simp only [Bn] at hx ⊢
  exact ih hx
theorem Nr (hS : S.le S') {f : FuncId} {g : Gd} : ∀ {c : Code} {fr : Fr} {h : AH} {x : Dl × Fr × AH}, Ie C S f g c fr h = some x → Ie C S' f g c fr h = some x := by
 have base : ∀ {c : Code} {fr : Fr} {h : AH} {x : Dl × Fr × AH}, (bif KZ c then I1 C S g c fr h else Bn C S f g c fr h) = some x → (bif KZ c then I1 C S' g c fr h else Bn C S' f g c fr h) = some x := by
  intro c fr h x hx
  cases hs : KZ c with
  | false => rw [hs] at hx; exact Dg hS hx
  | true =>
   rw [hs] at hx
   simp only [cond_true] at hx ⊢
   unfold I1 at hx ⊢
   split at hx
   ·split at hx
    ·split at hx
     ·split at hx
      ·rename_i fr' h' hr; simp only [Ih hS hr]; exact hx
      ·cases hx
     ·cases hx
    ·cases hx
   ·cases hx
 intro c
 induction c with
 | seq a b iha ihb =>
  intro fr h x hx
  simp only [Ie] at hx ⊢
  split at hx
  ·rename_i fr' h' ha; rw [iha ha]; exact ihb hx
  ·rename_i hne
   have := iha hx
   rw [this]
   split
   ·rename_i fr' h' he
    exact absurd (hx.trans he) (hne _ _)
   ·rfl
 | _ => intro fr h x hx; simp only [Ie] at hx ⊢; exact base hx
theorem RZ (hS : S.le S') {g : Gd} {h : AH} {f : FuncId} {args : List AB} {x : AB × AH} (hb : Oh C S g h f args = some x) : Oh C S' g h f args = some x := by
 unfold Oh at hb ⊢
 split at hb
 ·cases hb
 ·split at hb
  ·cases hb
  ·split at hb
   ·rename_i fr' h' he; rw [Nr hS he]; exact hb
   ·rename_i fr' h' he; rw [Nr hS he]; exact hb
   ·cases hb
theorem QT (hS : S.le S') {g : Gd} {h : AH} {l : Nat} {args : List AB} {x : AB × AH} (hb : MB C S g h l args = some x) : MB C S' g h l args = some x := by
 unfold MB at hb ⊢
 split at hb
 ·cases hc : (Nat.beq args.length _ && (g.may l && C.WG _ _ _)) with
  | false => rw [hc] at hb; cases hb
  | true =>
   rw [hc] at hb
   simp only [cond_true] at hb ⊢
   split at hb
   ·rename_i fr1 h1 hx1
    rw [Dg hS hx1]
    simp only
    split at hb
    ·split at hb
     ·rename_i fr2 h3 hx2; rw [Dg hS hx2]; exact hb
     ·rename_i fr2 h3 hx2; rw [Dg hS hx2]; exact hb
     ·rename_i i fr2 h3 hx2; rw [Dg hS hx2]; exact hb
     ·cases hb
    ·cases hb
   ·cases hb
 ·cases hb
theorem H8 (hS : S.le S') {g : Gd} {h : AH} {f : FuncId} {args : List AB} {x : AB × AH} (hb : It C S g h f args = some x) : It C S' g h f args = some x := by
 unfold It at hb ⊢
 split at hb
 ·cases hb
 ·split at hb
  ·cases hb
  ·split at hb
   ·rename_i fr' h' he; rw [Dg hS he]; exact hb
   ·rename_i fr' h' he; rw [Dg hS he]; exact hb
   ·cases hb
theorem RM (hS : S.le S') {g : Gd} {h : AH} {f : FuncId} {args : List AB} {x : AB × AH} (hb : Ip C S g h f args = some x) : Ip C S' g h f args = some x := by
 unfold Ip at hb ⊢
 split at hb
 ·exact H8 hS hb
 ·split at hb
  ·rename_i v h' he; rw [H8 hS he]; exact hb
  ·cases hb
 ·exact hb
 ·cases ha : args.all IV with
  | false => rw [ha] at hb; cases hb
  | true =>
   rw [ha] at hb
   simp only [cond_true] at hb ⊢
   split at hb
   ·rename_i v h' he; rw [H8 hS he]; exact hb
   ·cases hb
 ·split at hb
  ·rename_i v h' he; rw [H8 hS he]; exact hb
  ·cases hb
 ·exact RZ hS hb
 ·split at hb
  ·rename_i v h' he; rw [H8 hS he]; exact hb
  ·cases hb
 ·cases hb
theorem Jr (C : IJ) : ∀ n, (EK C n).le (EK C (n + 1))
 | 0 => ⟨fun _ _ _ _ _ h => by simp [EK] at h, fun _ _ _ _ _ _ h => by simp [EK] at h, fun _ _ _ _ _ h => by simp [EK] at h⟩
 | n + 1 => ⟨fun _ _ _ _ _ h => RM (Jr C n) h, fun _ _ _ _ _ _ h => Dg (Jr C n) h, fun _ _ _ _ _ h => QT (Jr C n) h⟩
theorem Self.le_refl (S : Self) : S.le S := ⟨fun _ _ _ _ _ h => h, fun _ _ _ _ _ _ h => h, fun _ _ _ _ _ h => h⟩
theorem Self.le.trans {S T U : Self} (h : S.le T) (k : T.le U) : S.le U := ⟨fun _ _ _ _ _ x => k.1 _ _ _ _ _ (h.1 _ _ _ _ _ x), fun _ _ _ _ _ _ x => k.2.1 _ _ _ _ _ _ (h.2.1 _ _ _ _ _ _ x), fun _ _ _ _ _ x => k.2.2 _ _ _ _ _ (h.2.2 _ _ _ _ _ x)⟩
theorem F6 (C : IJ) {n m : Nat} (h : n ≤ m) : (EK C n).le (EK C m) := by
 induction h with
 | refl => exact Self.le_refl _
 | step h ih => exact ih.trans (Jr C _)
end
end Go.Av
