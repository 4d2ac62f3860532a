/-
  ABS, 15: more fuel does no harm: what the abstract run tells with less it tells with more.
-/
import Derived.Test.YthnnciphldbmeaaGreatDoorAvRun
namespace Go.Av
set_option linter.unusedVariables false
set_option linter.unusedSimpArgs false
def Self.le (S S' : Self) : Prop := (∀ g h f args x, S.call g h f args = some x → S'.call g h f args = some x) ∧ (∀ g f c fr h x, S.loop g f c fr h = some x → S'.loop g f c fr h = some x) ∧ ∀ g h l args x, S.round g h l args = some x → S'.round g h l args = some x
section
variable {C : Hc} {S S' : Self}
theorem KZ (hS : S.le S') {g : Gd} {h : AH} {fr : Fr} {op : Op} {x : AA × AH} (hs : Bb C S g h fr op = some x) : Bb C S' g h fr op = some x := by
 unfold Bb at hs ⊢
 split at hs
 ·split at hs
  ·exact hS.1 _ _ _ _ _ hs
  ·exact hS.2.2 _ _ _ _ _ hs
  ·cases hs
 ·exact hs
theorem JR (hS : S.le S') {g : Gd} {ops : Array Oper} : ∀ {l : List Oper} {fr : Fr} {h : AH} {x : Fr × AH}, Gi C S g ops l fr h = some x → Gi C S' g ops l fr h = some x
 | [], fr, h, x, hx => hx
 | o :: l, fr, h, x, hx => by
  unfold Gi at hx ⊢
  split at hx
  ·split at hx
   ·rename_i v h' hs
    simp only [KZ hS hs]
    exact JR hS hx
   ·cases hx
  ·exact JR hS hx
  ·cases hx
theorem Gz (hS : S.le S') {g : Gd} {ops : Array Oper} : ∀ {l : List (Nat × List Nat)} {tch : List (Nat × Nat)} {fr : Fr} {h : AH} {x : Fr × AH}, Cr C S g ops l tch fr h = some x → Cr C S' g ops l tch fr h = some x
 | [], tch, fr, h, x, hx => hx
 | (i, U) :: l, tch, fr, h, x, hx => by
  unfold Cr at hx ⊢
  split at hx
  ·cases hx
  ·split at hx
   ·split at hx
    ·rename_i v h' hs
     simp only [KZ hS hs]
     cases hre : OB C ops U (put fr _ v) h' with
     | false => rw [hre] at hx; cases hx
     | true => rw [hre] at hx; exact Gz hS hx
    ·cases hx
   ·exact Gz hS hx
   ·cases hx
theorem Ci (hS : S.le S') {f : FuncId} {g : Gd} : ∀ {c : Code} {fr : Fr} {h : AH} {x : C3 × Fr × AH}, BX C S f g c fr h = some x → BX C S' f g c fr h = some x := by
 intro c
 induction c with
 | skip => intro fr h x hx; exact hx
 | label l => intro fr h x hx; exact hx
 | exit id => intro fr h x hx; exact hx
 | ret => intro fr h x hx; exact hx
 | goto l => intro fr h x hx; exact hx
 | refuse s => intro fr h x hx; exact hx
 | rangeFunc y ps a b iha ihb =>
  intro fr h x hx
  simp only [BX] at hx ⊢
  split at hx
  ·rename_i f' first cap hev
   cases hbd : NL C.P f' with
   | false => rw [hbd] at hx; cases hx
   | true =>
    rw [hbd] at hx
    simp only [Bool.not_true, cond_false] at hx ⊢
    split at hx
    ·rename_i v0 h2 hc
     rw [hS.1 _ _ _ _ _ hc]
     exact hx
    ·cases hx
  ·cases hx
 | region id ops draw =>
  intro fr h x hx
  simp only [BX] at hx ⊢
  cases draw with
  | true =>
   simp only [cond_true] at hx ⊢
   split at hx
   ·rename_i fr' h' hr; rw [Gz hS hr]; exact hx
   ·cases hx
  | false =>
   simp only [cond_false] at hx ⊢
   split at hx
   ·rename_i fr' h' hr; rw [JR hS hr]; exact hx
   ·cases hx
 | seq a b iha ihb =>
  intro fr h x hx
  simp only [BX] at hx ⊢
  split at hx
  ·rename_i fr' h' ha; rw [iha ha]; exact ihb hx
  ·rename_i hne
   have := iha hx
   rw [this]
   split
   ·rename_i fr' h' he
    exact absurd (hx.trans he) (hne _ _)
   ·rfl
 | cond c a b iha ihb =>
  intro fr h x hx
  simp only [BX] at hx ⊢
  split at hx
  ·exact iha hx
  ·exact ihb hx
  ·cases hx
 | block id c ih =>
  intro fr h x hx
  simp only [BX] at hx ⊢
  split at hx
  ·rename_i i fr' h' ha; rw [ih ha]; exact hx
  ·rename_i hne
   rw [ih hx]
   split
   ·rename_i i fr' h' he
    exact absurd (hx.trans he) (hne _ _ _)
   ·rfl
 | loop c ih =>
  intro fr h x hx
  simp only [BX] at hx ⊢
  split at hx
  ·rename_i fr' h' ha; rw [ih ha]; exact hS.2.1 _ _ _ _ _ _ hx
  ·rename_i hne
   rw [ih hx]
   split
   ·rename_i fr' h' he
    exact absurd (hx.trans he) (hne _ _)
   ·rfl
 | scope c ih =>
  intro fr h x hx
  simp only [BX] at hx ⊢
  exact ih hx
theorem Oz (hS : S.le S') {f : FuncId} {g : Gd} : ∀ {c : Code} {fr : Fr} {h : AH} {x : C3 × Fr × AH}, JQ C S f g c fr h = some x → JQ C S' f g c fr h = some x := by
 have base : ∀ {c : Code} {fr : Fr} {h : AH} {x : C3 × Fr × AH}, (bif LF c then Jb C S g c fr h else BX C S f g c fr h) = some x → (bif LF c then Jb C S' g c fr h else BX C S' f g c fr h) = some x := by
  intro c fr h x hx
  cases hs : LF c with
  | false => rw [hs] at hx; exact Ci hS hx
  | true =>
   rw [hs] at hx
   simp only [cond_true] at hx ⊢
   unfold Jb at hx ⊢
   split at hx
   ·split at hx
    ·split at hx
     ·split at hx
      ·rename_i fr' h' hr; simp only [JR hS hr]; exact hx
      ·cases hx
     ·cases hx
    ·cases hx
   ·cases hx
 intro c
 induction c with
 | seq a b iha ihb =>
  intro fr h x hx
  simp only [JQ] at hx ⊢
  split at hx
  ·rename_i fr' h' ha; rw [iha ha]; exact ihb hx
  ·rename_i hne
   have := iha hx
   rw [this]
   split
   ·rename_i fr' h' he
    exact absurd (hx.trans he) (hne _ _)
   ·rfl
 | _ => intro fr h x hx; simp only [JQ] at hx ⊢; exact base hx
theorem S8 (hS : S.le S') {g : Gd} {h : AH} {f : FuncId} {args : List AA} {x : AA × AH} (hb : QE C S g h f args = some x) : QE C S' g h f args = some x := by
 unfold QE at hb ⊢
 split at hb
 ·cases hb
 ·split at hb
  ·cases hb
  ·split at hb
   ·rename_i fr' h' he; rw [Oz hS he]; exact hb
   ·rename_i fr' h' he; rw [Oz hS he]; exact hb
   ·cases hb
theorem SP (hS : S.le S') {g : Gd} {h : AH} {l : Nat} {args : List AA} {x : AA × AH} (hb : K8 C S g h l args = some x) : K8 C S' g h l args = some x := by
 unfold K8 at hb ⊢
 split at hb
 ·cases hc : (Nat.beq args.length _ && (g.may l && C.WU _ _ _)) with
  | false => rw [hc] at hb; cases hb
  | true =>
   rw [hc] at hb
   simp only [cond_true] at hb ⊢
   split at hb
   ·rename_i fr1 h1 hx1
    rw [Ci hS hx1]
    simp only
    split at hb
    ·split at hb
     ·rename_i fr2 h3 hx2; rw [Ci hS hx2]; exact hb
     ·rename_i fr2 h3 hx2; rw [Ci hS hx2]; exact hb
     ·rename_i i fr2 h3 hx2; rw [Ci hS hx2]; exact hb
     ·cases hb
    ·cases hb
   ·cases hb
 ·cases hb
theorem Il (hS : S.le S') {g : Gd} {h : AH} {f : FuncId} {args : List AA} {x : AA × AH} (hb : Iq C S g h f args = some x) : Iq C S' g h f args = some x := by
 unfold Iq at hb ⊢
 split at hb
 ·cases hb
 ·split at hb
  ·cases hb
  ·split at hb
   ·rename_i fr' h' he; rw [Ci hS he]; exact hb
   ·rename_i fr' h' he; rw [Ci hS he]; exact hb
   ·cases hb
theorem S1 (hS : S.le S') {g : Gd} {h : AH} {f : FuncId} {args : List AA} {x : AA × AH} (hb : H8 C S g h f args = some x) : H8 C S' g h f args = some x := by
 unfold H8 at hb ⊢
 split at hb
 ·exact Il hS hb
 ·split at hb
  ·rename_i v h' he; rw [Il hS he]; exact hb
  ·cases hb
 ·exact hb
 ·cases ha : args.all Io with
  | false => rw [ha] at hb; cases hb
  | true =>
   rw [ha] at hb
   simp only [cond_true] at hb ⊢
   split at hb
   ·rename_i v h' he; rw [Il hS he]; exact hb
   ·cases hb
 ·split at hb
  ·rename_i v h' he; rw [Il hS he]; exact hb
  ·cases hb
 ·exact S8 hS hb
 ·split at hb
  ·rename_i v h' he; rw [Il hS he]; exact hb
  ·cases hb
 ·cases hb
theorem KL (C : Hc) : ∀ n, (DQ C n).le (DQ C (n + 1))
 | 0 => ⟨fun _ _ _ _ _ h => by simp [DQ] at h, fun _ _ _ _ _ _ h => by simp [DQ] at h, fun _ _ _ _ _ h => by simp [DQ] at h⟩
 | n + 1 => ⟨fun _ _ _ _ _ h => S1 (KL C n) h, fun _ _ _ _ _ _ h => Ci (KL C n) h, fun _ _ _ _ _ h => SP (KL C n) h⟩
theorem Self.le_refl (S : Self) : S.le S := ⟨fun _ _ _ _ _ h => h, fun _ _ _ _ _ _ h => h, fun _ _ _ _ _ h => h⟩
theorem Self.le.trans {S T U : Self} (h : S.le T) (k : T.le U) : S.le U := ⟨fun _ _ _ _ _ x => k.1 _ _ _ _ _ (h.1 _ _ _ _ _ x), fun _ _ _ _ _ _ x => k.2.1 _ _ _ _ _ _ (h.2.1 _ _ _ _ _ _ x), fun _ _ _ _ _ x => k.2.2 _ _ _ _ _ (h.2.2 _ _ _ _ _ x)⟩
theorem FY (C : Hc) {n m : Nat} (h : n ≤ m) : (DQ C n).le (DQ C m) := by
 induction h with
 | refl => exact Self.le_refl _
 | step h ih => exact ih.trans (KL C _)
end
end Go.Av
