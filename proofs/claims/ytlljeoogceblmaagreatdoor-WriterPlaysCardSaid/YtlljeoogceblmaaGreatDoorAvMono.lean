/-
 A part.
-/
import Derived.Test.YtlljeoogceblmaaGreatDoorAvRun
namespace Go.Av
set_option linter.unusedVariables false
set_option linter.unusedSimpArgs false
def Self.le (S S' : Self) : Prop := (∀ g h f args x, S.call g h f args = some x → S'.call g h f args = some x) ∧ (∀ g f c fr h x, S.loop g f c fr h = some x → S'.loop g f c fr h = some x) ∧ ∀ g h l args x, S.round g h l args = some x → S'.round g h l args = some x
section
variable {C : Fi} {S S' : Self}
theorem Ja (hS : S.le S') {g : Gd} {h : AD} {fr : Fr} {op : Op} {x : AB × AD} (hs : A7 C S g h fr op = some x) : A7 C S' g h fr op = some x := by
 unfold A7 at hs ⊢
 split at hs
 ·split at hs
  ·exact hS.1 _ _ _ _ _ hs
  ·exact hS.2.2 _ _ _ _ _ hs
  ·cases hs
 ·exact hs
theorem E0 (hS : S.le S') {g : Gd} {ops : Array Oper} : ∀ {l : List Oper} {fr : Fr} {h : AD} {x : Fr × AD}, DP C S g ops l fr h = some x → DP C S' g ops l fr h = some x
 | [], fr, h, x, hx => hx
 | o :: l, fr, h, x, hx => by
  unfold DP at hx ⊢
  split at hx
  ·split at hx
   ·rename_i v h' hs
    simp only [Ja hS hs]
    exact E0 hS hx
   ·cases hx
  ·exact E0 hS hx
  ·cases hx
theorem GD (hS : S.le S') {g : Gd} {ops : Array Oper} : ∀ {l : List (Nat × List Nat)} {tch : List (Nat × Nat)} {fr : Fr} {h : AD} {x : Fr × AD}, Bs C S g ops l tch fr h = some x → Bs C S' g ops l tch fr h = some x
 | [], tch, fr, h, x, hx => hx
 | (i, U) :: l, tch, fr, h, x, hx => by
  unfold Bs at hx ⊢
  split at hx
  ·cases hx
  ·split at hx
   ·split at hx
    ·rename_i v h' hs
     simp only [Ja hS hs]
     cases hre : NZ C ops U (put fr _ v) h' with
     | false => rw [hre] at hx; cases hx
     | true => rw [hre] at hx; exact GD hS hx
    ·cases hx
   ·exact GD hS hx
   ·cases hx
theorem Dc (hS : S.le S') {f : FuncId} {g : Gd} : ∀ {c : Code} {fr : Fr} {h : AD} {x : Bw × Fr × AD}, BM C S f g c fr h = some x → BM C S' f g c fr h = some x := by
 intro c
 induction c with
 | skip => intro fr h x hx; exact hx
 | label l => intro fr h x hx; exact hx
 | exit id => intro fr h x hx; exact hx
 | ret => intro fr h x hx; exact hx
 | goto l => intro fr h x hx; exact hx
 | refuse s => intro fr h x hx; exact hx
 | rangeFunc y ps a b iha ihb =>
  intro fr h x hx
  exact hx
 | region id ops draw =>
  intro fr h x hx
  simp only [BM] at hx ⊢
  cases draw with
  | true =>
   simp only [cond_true] at hx ⊢
   split at hx
   ·rename_i fr' h' hr; rw [GD hS hr]; exact hx
   ·cases hx
  | false =>
   simp only [cond_false] at hx ⊢
   split at hx
   ·rename_i fr' h' hr; rw [E0 hS hr]; exact hx
   ·cases hx
 | seq a b iha ihb =>
  intro fr h x hx
  simp only [BM] at hx ⊢
  split at hx
  ·rename_i fr' h' ha; rw [iha ha]; exact ihb hx
  ·rename_i hne
   have := iha hx
   rw [this]
   split
   ·rename_i fr' h' he
    exact absurd (hx.trans he) (hne _ _)
   ·rfl
 | cond c a b iha ihb =>
  intro fr h x hx
  simp only [BM] at hx ⊢
  split at hx
  ·exact iha hx
  ·exact ihb hx
  ·cases hx
 | block id c ih =>
  intro fr h x hx
  simp only [BM] at hx ⊢
  split at hx
  ·rename_i i fr' h' ha; rw [ih ha]; exact hx
  ·rename_i hne
   rw [ih hx]
   split
   ·rename_i i fr' h' he
    exact absurd (hx.trans he) (hne _ _ _)
   ·rfl
 | loop c ih =>
  intro fr h x hx
  simp only [BM] at hx ⊢
  split at hx
  ·rename_i fr' h' ha; rw [ih ha]; exact hS.2.1 _ _ _ _ _ _ hx
  ·rename_i hne
   rw [ih hx]
   split
   ·rename_i fr' h' he
    exact absurd (hx.trans he) (hne _ _)
   ·rfl
 | scope c ih =>
  intro fr h x hx
  simp only [BM] at hx ⊢
  exact ih hx
theorem N6 (hS : S.le S') {f : FuncId} {q : Rs} {ks rs : List Nat} {it : Nat} {tI te : Tmp} {rest : List Oper} {hh : AD} {ob : PV} {σ : Fr × List AB} {p : AB × AB} {x : Bool × Fr × List AB} (hx : JD C S f q ks rs it tI te rest hh ob σ p = some x) : JD C S' f q ks rs it tI te rest hh ob σ p = some x := by
 unfold JD at hx ⊢
 split at hx
 ·rename_i fr2 h2 hr
  rw [E0 hS hr]
  simp only
  split at hx
  ·rename_i he; rw [Dc hS he]; exact hx
  ·rename_i he; rw [Dc hS he]; exact hx
  ·rename_i he; rw [Dc hS he]; exact hx
  ·cases hx
 ·cases hx
theorem G2 {α β : Type} {r r' : α → β → Option (Bool × α)} (h : ∀ {a b x}, r a b = some x → r' a b = some x) : ∀ (l : List β) {a : α} {x : Bool × α}, C1 r l a = some x → C1 r' l a = some x
 | [], a, x, hx => hx
 | p :: l, a, x, hx => by
  simp only [C1] at hx ⊢
  cases hp : r a p with
  | none => rw [hp] at hx; cases hx
  | some y =>
   rw [hp] at hx
   rw [h hp]
   obtain ⟨b, z⟩ := y
   cases b with
   | true => exact hx
   | false => exact G2 h l hx
theorem TB {r r' : Fr × List AB → AB × AB → Option (Bool × Fr × List AB)} (h : ∀ {a b x}, r a b = some x → r' a b = some x) {es : List (AB × AB)} {σ : Fr × List AB} {hh : AD} {ob : PV} {x : Bw × Fr × AD} (hx : Ph C r es σ hh ob = some x) : Ph C r' es σ hh ob = some x := by
 unfold Ph at hx ⊢
 split at hx
 ·rename_i hf
  rw [G2 h _ hf]
  simp only
  obtain ⟨hd, hx⟩ := KS hx
  rw [C.dec.2.2 _ _ hd fun k es' hp => G2 h _ (k es' hp)]
  exact hx
 ·cases hx
theorem Nu (hS : S.le S') {f : FuncId} {q : Rs} {g : Gd} {ks rs : List Nat} {ot : Option Tmp} {orng : Oper} {fr1 : Fr} {h1 : AD} {x : Bw × Fr × AD} (hx : NK C S f q g ks rs ot orng fr1 h1 = some x) : NK C S' f q g ks rs ot orng fr1 h1 = some x := by
 unfold NK at hx ⊢
 split at hx
 rotate_left
 ·cases hx
 split at hx
 rotate_left
 ·cases hx
 split at hx
 rotate_left
 ·cases hx
 ·obtain ⟨hc, hx⟩ := KS hx
  rw [hc]
  simp only [cond_true]
  exact TB (fun hr => N6 hS hr) hx
theorem Sg (hS : S.le S') {f : FuncId} {q : Rs} {g : Gd} {fr : Fr} {h : AD} {x : Bw × Fr × AD} (hx : Lp C S f q g fr h = some x) : Lp C S' f q g fr h = some x := by
 unfold Lp at hx ⊢
 split at hx
 rotate_left
 ·cases hx
 rename_i ks rs ot orng fr1 h1 hmk hlast hpre
 rw [hmk, hlast, E0 hS hpre]
 exact Nu hS hx
theorem JV (hS : S.le S') {f : FuncId} {g : Gd} : ∀ {c : Code} {fr : Fr} {h : AD} {x : Bw × Fr × AD}, FN C S f g c fr h = some x → FN C S' f g c fr h = some x := by
 intro c
 induction c with
 | seq a b iha ihb =>
  intro fr h x hx
  simp only [FN] at hx ⊢
  split at hx
  ·exact Sg hS hx
  ·split at hx
   ·rename_i fr' h' ha; rw [iha ha]; exact ihb hx
   ·rename_i hne
    have := iha hx
    rw [this]
    split
    ·rename_i fr' h' he
     exact absurd (hx.trans he) (hne _ _)
    ·rfl
 | _ => intro fr h x hx; simp only [FN] at hx ⊢; exact Dc hS hx
theorem SQ (hS : S.le S') {g : Gd} {h : AD} {f : FuncId} {args : List AB} {x : AB × AD} (hb : OH C S g h f args = some x) : OH C S' g h f args = some x := by
 unfold OH at hb ⊢
 split at hb
 ·cases hb
 ·split at hb
  ·cases hb
  ·split at hb
   ·rename_i fr' h' he; rw [JV hS he]; exact hb
   ·rename_i fr' h' he; rw [JV hS he]; exact hb
   ·cases hb
theorem ID (hS : S.le S') {g : Gd} {h : AD} {f : FuncId} {args : List AB} {x : AB × AD} (hb : Ic C S g h f args = some x) : Ic C S' g h f args = some x := by
 unfold Ic at hb ⊢
 split at hb
 ·cases hb
 ·split at hb
  ·cases hb
  ·split at hb
   ·rename_i fr' h' he; rw [Dc hS he]; exact hb
   ·rename_i fr' h' he; rw [Dc hS he]; exact hb
   ·cases hb
theorem Sd (hS : S.le S') {g : Gd} {h : AD} {f : FuncId} {args : List AB} {x : AB × AD} (hb : Jf C S g h f args = some x) : Jf C S' g h f args = some x := by
 unfold Jf at hb ⊢
 split at hb
 ·exact ID hS hb
 ·split at hb
  ·rename_i v h' he; rw [ID hS he]; exact hb
  ·cases hb
 ·exact hb
 ·cases ha : args.all Hi with
  | false => rw [ha] at hb; cases hb
  | true =>
   rw [ha] at hb
   simp only [cond_true] at hb ⊢
   split at hb
   ·rename_i v h' he; rw [ID hS he]; exact hb
   ·cases hb
 ·split at hb
  ·rename_i v h' he; rw [ID hS he]; exact hb
  ·cases hb
 ·exact SQ hS hb
 ·split at hb
  ·exact ID hS hb
  ·cases hb
 ·cases hb
theorem LV (C : Fi) : ∀ n, (Co C n).le (Co C (n + 1))
 | 0 => ⟨fun _ _ _ _ _ h => by simp [Co] at h, fun _ _ _ _ _ _ h => by simp [Co] at h, fun _ _ _ _ _ h => by simp [Co] at h⟩
 | n + 1 => ⟨fun _ _ _ _ _ h => Sd (LV C n) h, fun _ _ _ _ _ _ h => Dc (LV C n) h, fun _ _ _ _ x h => nomatch (show none = some x from h)⟩
theorem Self.le_refl (S : Self) : S.le S := ⟨fun _ _ _ _ _ h => h, fun _ _ _ _ _ _ h => h, fun _ _ _ _ _ h => h⟩
theorem Self.le.trans {S T U : Self} (h : S.le T) (k : T.le U) : S.le U := ⟨fun _ _ _ _ _ x => k.1 _ _ _ _ _ (h.1 _ _ _ _ _ x), fun _ _ _ _ _ _ x => k.2.1 _ _ _ _ _ _ (h.2.1 _ _ _ _ _ _ x), fun _ _ _ _ _ x => k.2.2 _ _ _ _ _ (h.2.2 _ _ _ _ _ x)⟩
theorem Dz (C : Fi) {n m : Nat} (h : n ≤ m) : (Co C n).le (Co C m) := by
 induction h with
 | refl => exact Self.le_refl _
 | step h ih => exact ih.trans (LV C _)
end
end Go.Av
