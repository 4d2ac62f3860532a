/-
 A part.
-/
import Derived.Test.YtdjbadhilkmiiaaGreatDoorAvRun
namespace Go.Av
set_option linter.unusedVariables false
set_option linter.unusedSimpArgs false
def Self.le (S S' : Self) : Prop := (∀ g h f args x, S.call g h f args = some x → S'.call g h f args = some x) ∧ (∀ g f c fr h x, S.loop g f c fr h = some x → S'.loop g f c fr h = some x) ∧ ∀ g h l args x, S.round g h l args = some x → S'.round g h l args = some x
section
variable {C : HS} {S S' : Self}
theorem Jy (hS : S.le S') {g : Gd} {h : AJ} {fr : Fr} {op : Op} {x : AB × AJ} (hs : Bs C S g h fr op = some x) : Bs C S' g h fr op = some x := by
 unfold Bs at hs ⊢
 split at hs
 ·split at hs
  ·exact hS.1 _ _ _ _ _ hs
  ·exact hS.2.2 _ _ _ _ _ hs
  ·cases hs
 ·exact hs
theorem JA (hS : S.le S') {g : Gd} {ops : Array Oper} : ∀ {l : List Oper} {fr : Fr} {h : AJ} {x : Fr × AJ}, GQ C S g ops l fr h = some x → GQ C S' g ops l fr h = some x
 | [], fr, h, x, hx => hx
 | o :: l, fr, h, x, hx => by
  unfold GQ at hx ⊢
  split at hx
  ·split at hx
   ·rename_i v h' hs
    simp only [Jy hS hs]
    exact JA hS hx
   ·cases hx
  ·exact JA hS hx
  ·cases hx
theorem Gv (hS : S.le S') {g : Gd} {ops : Array Oper} : ∀ {l : List (Nat × List Nat)} {tch : List (Nat × Nat)} {fr : Fr} {h : AJ} {x : Fr × AJ}, C6 C S g ops l tch fr h = some x → C6 C S' g ops l tch fr h = some x
 | [], tch, fr, h, x, hx => hx
 | (i, U) :: l, tch, fr, h, x, hx => by
  unfold C6 at hx ⊢
  split at hx
  ·cases hx
  ·split at hx
   ·split at hx
    ·rename_i v h' hs
     simp only [Jy hS hs]
     cases hre : Nc C ops U (put fr _ v) h' with
     | false => rw [hre] at hx; cases hx
     | true => rw [hre] at hx; exact Gv hS hx
    ·cases hx
   ·exact Gv hS hx
   ·cases hx
theorem C5 (hS : S.le S') {f : FuncId} {g : Gd} : ∀ {c : Code} {fr : Fr} {h : AJ} {x : DN × Fr × AJ}, Bn C S f g c fr h = some x → Bn C S' f g c fr h = some x := by
 intro c
 induction c with
 | skip => intro fr h x hx; exact hx
 | label l => intro fr h x hx; exact hx
 | exit id => intro fr h x hx; exact hx
 | ret => intro fr h x hx; exact hx
 | goto l => intro fr h x hx; exact hx
 | refuse s => intro fr h x hx; exact hx
 | rangeFunc y ps a b iha ihb =>
  intro fr h x hx
  simp only [Bn] at hx ⊢
  split at hx
  ·rename_i f' first cap hev
   cases hbd : Mr C.P f' with
   | false => rw [hbd] at hx; cases hx
   | true =>
    rw [hbd] at hx
    simp only [Bool.not_true, cond_false] at hx ⊢
    split at hx
    ·rename_i v0 h2 hc
     rw [hS.1 _ _ _ _ _ hc]
     exact hx
    ·cases hx
  ·cases hx
 | region id ops draw =>
  intro fr h x hx
  simp only [Bn] at hx ⊢
  cases draw with
  | true =>
   simp only [cond_true] at hx ⊢
   split at hx
   ·rename_i fr' h' hr; rw [Gv hS hr]; exact hx
   ·cases hx
  | false =>
   simp only [cond_false] at hx ⊢
   split at hx
   ·rename_i fr' h' hr; rw [JA hS hr]; exact hx
   ·cases hx
 | seq a b iha ihb =>
  intro fr h x hx
  simp only [Bn] at hx ⊢
  split at hx
  ·rename_i fr' h' ha; rw [iha ha]; exact ihb hx
  ·rename_i hne
   have := iha hx
   rw [this]
   split
   ·rename_i fr' h' he
    exact absurd (hx.trans he) (hne _ _)
   ·rfl
 | cond c a b iha ihb =>
  intro fr h x hx
  simp only [Bn] at hx ⊢
  split at hx
  ·exact iha hx
  ·exact ihb hx
  ·cases hx
 | block id c ih =>
  intro fr h x hx
  simp only [Bn] at hx ⊢
  split at hx
  ·rename_i i fr' h' ha; rw [ih ha]; exact hx
  ·rename_i hne
   rw [ih hx]
   split
   ·rename_i i fr' h' he
    exact absurd (hx.trans he) (hne _ _ _)
   ·rfl
 | loop c ih =>
  intro fr h x hx
  simp only [Bn] at hx ⊢
  split at hx
  ·rename_i fr' h' ha; rw [ih ha]; exact hS.2.1 _ _ _ _ _ _ hx
  ·rename_i hne
   rw [ih hx]
   split
   ·rename_i fr' h' he
    exact absurd (hx.trans he) (hne _ _)
   ·rfl
 | scope c ih =>
  intro fr h x hx
  simp only [Bn] at hx ⊢
  exact ih hx
theorem OD (hS : S.le S') {f : FuncId} {g : Gd} : ∀ {c : Code} {fr : Fr} {h : AJ} {x : DN × Fr × AJ}, JB C S f g c fr h = some x → JB C S' f g c fr h = some x := by
 have base : ∀ {c : Code} {fr : Fr} {h : AJ} {x : DN × Fr × AJ}, (bif K9 c then JL C S g c fr h else Bn C S f g c fr h) = some x → (bif K9 c then JL C S' g c fr h else Bn C S' f g c fr h) = some x := by
  intro c fr h x hx
  cases hs : K9 c with
  | false => rw [hs] at hx; exact C5 hS hx
  | true =>
   rw [hs] at hx
   simp only [cond_true] at hx ⊢
   unfold JL at hx ⊢
   split at hx
   ·split at hx
    ·split at hx
     ·split at hx
      ·rename_i fr' h' hr; simp only [JA hS hr]; exact hx
      ·cases hx
     ·cases hx
    ·cases hx
   ·cases hx
 intro c
 induction c with
 | seq a b iha ihb =>
  intro fr h x hx
  simp only [JB] at hx ⊢
  split at hx
  ·rename_i fr' h' ha; rw [iha ha]; exact ihb hx
  ·rename_i hne
   have := iha hx
   rw [this]
   split
   ·rename_i fr' h' he
    exact absurd (hx.trans he) (hne _ _)
   ·rfl
 | _ => intro fr h x hx; simp only [JB] at hx ⊢; exact base hx
theorem Rt (hS : S.le S') {g : Gd} {h : AJ} {f : FuncId} {args : List AB} {x : AB × AJ} (hb : PK C S g h f args = some x) : PK C S' g h f args = some x := by
 unfold PK at hb ⊢
 split at hb
 ·cases hb
 ·split at hb
  ·cases hb
  ·split at hb
   ·rename_i fr' h' he; rw [OD hS he]; exact hb
   ·rename_i fr' h' he; rw [OD hS he]; exact hb
   ·cases hb
theorem QW (hS : S.le S') {g : Gd} {h : AJ} {l : Nat} {args : List AB} {x : AB × AJ} (hb : Kh C S g h l args = some x) : Kh C S' g h l args = some x := by
 unfold Kh at hb ⊢
 split at hb
 ·cases hc : (Nat.beq args.length _ && (g.may l && C.T2 _ _ _)) with
  | false => rw [hc] at hb; cases hb
  | true =>
   rw [hc] at hb
   simp only [cond_true] at hb ⊢
   split at hb
   ·rename_i fr1 h1 hx1
    rw [C5 hS hx1]
    simp only
    split at hb
    ·split at hb
     ·rename_i fr2 h3 hx2; rw [C5 hS hx2]; exact hb
     ·rename_i fr2 h3 hx2; rw [C5 hS hx2]; exact hb
     ·rename_i i fr2 h3 hx2; rw [C5 hS hx2]; exact hb
     ·cases hb
    ·cases hb
   ·cases hb
 ·cases hb
theorem IT (hS : S.le S') {g : Gd} {h : AJ} {f : FuncId} {args : List AB} {x : AB × AJ} (hb : Il C S g h f args = some x) : Il C S' g h f args = some x := by
 unfold Il at hb ⊢
 split at hb
 ·cases hb
 ·split at hb
  ·cases hb
  ·split at hb
   ·rename_i fr' h' he; rw [C5 hS he]; exact hb
   ·rename_i fr' h' he; rw [C5 hS he]; exact hb
   ·cases hb
theorem Ru (hS : S.le S') {g : Gd} {h : AJ} {f : FuncId} {args : List AB} {x : AB × AJ} (hb : H0 C S g h f args = some x) : H0 C S' g h f args = some x := by
 unfold H0 at hb ⊢
 split at hb
 ·exact IT hS hb
 ·split at hb
  ·rename_i v h' he; rw [IT hS he]; exact hb
  ·cases hb
 ·exact hb
 ·cases ha : args.all Ij with
  | false => rw [ha] at hb; cases hb
  | true =>
   rw [ha] at hb
   simp only [cond_true] at hb ⊢
   split at hb
   ·rename_i v h' he; rw [IT hS he]; exact hb
   ·cases hb
 ·split at hb
  ·rename_i v h' he; rw [IT hS he]; exact hb
  ·cases hb
 ·exact Rt hS hb
 ·split at hb
  ·rename_i v h' he; rw [IT hS he]; exact hb
  ·cases hb
 ·cases hb
theorem Jv (C : HS) : ∀ n, (Da C n).le (Da C (n + 1))
 | 0 => ⟨fun _ _ _ _ _ h => by simp [Da] at h, fun _ _ _ _ _ _ h => by simp [Da] at h, fun _ _ _ _ _ h => by simp [Da] at h⟩
 | n + 1 => ⟨fun _ _ _ _ _ h => Ru (Jv C n) h, fun _ _ _ _ _ _ h => C5 (Jv C n) h, fun _ _ _ _ _ h => QW (Jv C n) h⟩
theorem Self.le_refl (S : Self) : S.le S := ⟨fun _ _ _ _ _ h => h, fun _ _ _ _ _ _ h => h, fun _ _ _ _ _ h => h⟩
theorem Self.le.trans {S T U : Self} (h : S.le T) (k : T.le U) : S.le U := ⟨fun _ _ _ _ _ x => k.1 _ _ _ _ _ (h.1 _ _ _ _ _ x), fun _ _ _ _ _ _ x => k.2.1 _ _ _ _ _ _ (h.2.1 _ _ _ _ _ _ x), fun _ _ _ _ _ x => k.2.2 _ _ _ _ _ (h.2.2 _ _ _ _ _ x)⟩
theorem FX (C : HS) {n m : Nat} (h : n ≤ m) : (Da C n).le (Da C m) := by
 induction h with
 | refl => exact Self.le_refl _
 | step h ih => exact ih.trans (Jv C _)
end
end Go.Av
