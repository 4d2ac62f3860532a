/-
 A part.
-/
import Derived.Test.YtlljeoogceblmaaGreatDoorAvRun
namespace Go.Av
set_option linter.unusedVariables false
set_option linter.unusedSimpArgs false
def Self.le (S S' : Self) : Prop := (∀ g h f args x, S.call g h f args = some x → S'.call g h f args = some x) ∧ (∀ g f c fr h x, S.loop g f c fr h = some x → S'.loop g f c fr h = some x) ∧ ∀ g h l args x, S.round g h l args = some x → S'.round g h l args = some x
section
variable {C : Ft} {S S' : Self}
theorem JZ (hS : S.le S') {g : Gd} {h : AD} {fr : Fr} {op : Op} {x : AB × AD} (hs : A7 C S g h fr op = some x) : A7 C S' g h fr op = some x := by
 unfold A7 at hs ⊢
 split at hs
 ·split at hs
  ·exact hS.1 _ _ _ _ _ hs
  ·exact hS.2.2 _ _ _ _ _ hs
  ·cases hs
 ·exact hs
theorem Ez (hS : S.le S') {g : Gd} {ops : Array Oper} : ∀ {l : List Oper} {fr : Fr} {h : AD} {x : Fr × AD}, DR C S g ops l fr h = some x → DR C S' g ops l fr h = some x
 | [], fr, h, x, hx => hx
 | o :: l, fr, h, x, hx => by
  unfold DR at hx ⊢
  split at hx
  ·split at hx
   ·rename_i v h' hs
    simp only [JZ hS hs]
    exact Ez hS hx
   ·cases hx
  ·exact Ez hS hx
  ·cases hx
theorem GQ (hS : S.le S') {g : Gd} {ops : Array Oper} : ∀ {l : List (Nat × List Nat)} {tch : List (Nat × Nat)} {fr : Fr} {h : AD} {x : Fr × AD}, Bw C S g ops l tch fr h = some x → Bw C S' g ops l tch fr h = some x
 | [], tch, fr, h, x, hx => hx
 | (i, U) :: l, tch, fr, h, x, hx => by
  unfold Bw at hx ⊢
  split at hx
  ·cases hx
  ·split at hx
   ·split at hx
    ·rename_i v h' hs
     simp only [JZ hS hs]
     cases hre : Na C ops U (put fr _ v) h' with
     | false => rw [hre] at hx; cases hx
     | true => rw [hre] at hx; exact GQ hS hx
    ·cases hx
   ·exact GQ hS hx
   ·cases hx
theorem DY (hS : S.le S') {f : FuncId} {g : Gd} : ∀ {c : Code} {fr : Fr} {h : AD} {x : By × Fr × AD}, BI C S f g c fr h = some x → BI C S' f g c fr h = some x := by
 intro c
 induction c with
 | skip => intro fr h x hx; exact hx
 | label l => intro fr h x hx; exact hx
 | exit id => intro fr h x hx; exact hx
 | ret => intro fr h x hx; exact hx
 | goto l => intro fr h x hx; exact hx
 | refuse s => intro fr h x hx; exact hx
 | rangeFunc y ps a b iha ihb =>
  intro fr h x hx
  exact hx
 | region id ops draw =>
  intro fr h x hx
  simp only [BI] at hx ⊢
  cases draw with
  | true =>
   simp only [cond_true] at hx ⊢
   split at hx
   ·rename_i fr' h' hr; rw [GQ hS hr]; exact hx
   ·cases hx
  | false =>
   simp only [cond_false] at hx ⊢
   split at hx
   ·rename_i fr' h' hr; rw [Ez hS hr]; exact hx
   ·cases hx
 | seq a b iha ihb =>
  intro fr h x hx
  simp only [BI] at hx ⊢
  split at hx
  ·rename_i fr' h' ha; rw [iha ha]; exact ihb hx
  ·rename_i hne
   have := iha hx
   rw [this]
   split
   ·rename_i fr' h' he
    exact absurd (hx.trans he) (hne _ _)
   ·rfl
 | cond c a b iha ihb =>
  intro fr h x hx
  simp only [BI] at hx ⊢
  split at hx
  ·exact iha hx
  ·exact ihb hx
  ·cases hx
 | block id c ih =>
  intro fr h x hx
  simp only [BI] at hx ⊢
  split at hx
  ·rename_i i fr' h' ha; rw [ih ha]; exact hx
  ·rename_i hne
   rw [ih hx]
   split
   ·rename_i i fr' h' he
    exact absurd (hx.trans he) (hne _ _ _)
   ·rfl
 | loop c ih =>
  intro fr h x hx
  simp only [BI] at hx ⊢
  split at hx
  ·rename_i fr' h' ha; rw [ih ha]; exact hS.2.1 _ _ _ _ _ _ hx
  ·rename_i hne
   rw [ih hx]
   split
   ·rename_i fr' h' he
    exact absurd (hx.trans he) (hne _ _)
   ·rfl
 | scope c ih =>
  intro fr h x hx
  simp only [BI] at hx ⊢
  exact ih hx
theorem OA (hS : S.le S') {f : FuncId} {q : R3} {ks rs : List Nat} {it : Nat} {tI te : Tmp} {rest : List Oper} {hh : AD} {ob : PT} {σ : Fr × List AB} {p : AB × AB} {x : Bool × Fr × List AB} (hx : JH C S f q ks rs it tI te rest hh ob σ p = some x) : JH C S' f q ks rs it tI te rest hh ob σ p = some x := by
 unfold JH at hx ⊢
 split at hx
 ·rename_i fr2 h2 hr
  rw [Ez hS hr]
  simp only
  split at hx
  ·rename_i he; rw [DY hS he]; exact hx
  ·rename_i he; rw [DY hS he]; exact hx
  ·rename_i he; rw [DY hS he]; exact hx
  ·cases hx
 ·cases hx
theorem G7 {α β : Type} {r r' : α → β → Option (Bool × α)} (h : ∀ {a b x}, r a b = some x → r' a b = some x) : ∀ (l : List β) {a : α} {x : Bool × α}, C2 r l a = some x → C2 r' l a = some x
 | [], a, x, hx => hx
 | p :: l, a, x, hx => by
  simp only [C2] at hx ⊢
  cases hp : r a p with
  | none => rw [hp] at hx; cases hx
  | some y =>
   rw [hp] at hx
   rw [h hp]
   obtain ⟨b, z⟩ := y
   cases b with
   | true => exact hx
   | false => exact G7 h l hx
theorem TN {r r' : Fr × List AB → AB × AB → Option (Bool × Fr × List AB)} (h : ∀ {a b x}, r a b = some x → r' a b = some x) {es : List (AB × AB)} {σ : Fr × List AB} {hh : AD} {ob : PT} {x : By × Fr × AD} (hx : P2 C r es σ hh ob = some x) : P2 C r' es σ hh ob = some x := by
 unfold P2 at hx ⊢
 split at hx
 ·rename_i hf
  rw [G7 h _ hf]
  simp only
  obtain ⟨hd, hx⟩ := Kj hx
  rw [C.dec.2.2 _ _ hd fun k es' hp => G7 h _ (k es' hp)]
  exact hx
 ·cases hx
theorem On (hS : S.le S') {f : FuncId} {q : R3} {g : Gd} {ks rs : List Nat} {ot : Option Tmp} {orng : Oper} {fr1 : Fr} {h1 : AD} {x : By × Fr × AD} (hx : NU C S f q g ks rs ot orng fr1 h1 = some x) : NU C S' f q g ks rs ot orng fr1 h1 = some x := by
 unfold NU at hx ⊢
 split at hx
 rotate_left
 ·cases hx
 split at hx
 rotate_left
 ·cases hx
 split at hx
 rotate_left
 ·cases hx
 ·obtain ⟨hc, hx⟩ := Kj hx
  rw [hc]
  simp only [cond_true]
  exact TN (fun hr => OA hS hr) hx
theorem SP (hS : S.le S') {f : FuncId} {q : R3} {g : Gd} {fr : Fr} {h : AD} {x : By × Fr × AD} (hx : MX C S f q g fr h = some x) : MX C S' f q g fr h = some x := by
 unfold MX at hx ⊢
 split at hx
 rotate_left
 ·cases hx
 rename_i ks rs ot orng fr1 h1 hmk hlast hpre
 rw [hmk, hlast, Ez hS hpre]
 exact On hS hx
theorem JT (hS : S.le S') {f : FuncId} {g : Gd} : ∀ {c : Code} {fr : Fr} {h : AD} {x : By × Fr × AD}, FN C S f g c fr h = some x → FN C S' f g c fr h = some x := by
 intro c
 induction c with
 | seq a b iha ihb =>
  intro fr h x hx
  simp only [FN] at hx ⊢
  split at hx
  ·exact SP hS hx
  ·split at hx
   ·rename_i fr' h' ha; rw [iha ha]; exact ihb hx
   ·rename_i hne
    have := iha hx
    rw [this]
    split
    ·rename_i fr' h' he
     exact absurd (hx.trans he) (hne _ _)
    ·rfl
 | _ => intro fr h x hx; simp only [FN] at hx ⊢; exact DY hS hx
theorem Sq (hS : S.le S') {g : Gd} {h : AD} {f : FuncId} {args : List AB} {x : AB × AD} (hb : Oe C S g h f args = some x) : Oe C S' g h f args = some x := by
 unfold Oe at hb ⊢
 split at hb
 ·cases hb
 ·split at hb
  ·cases hb
  ·split at hb
   ·rename_i fr' h' he; rw [JT hS he]; exact hb
   ·rename_i fr' h' he; rw [JT hS he]; exact hb
   ·cases hb
theorem H4 (hS : S.le S') {g : Gd} {h : AD} {f : FuncId} {args : List AB} {x : AB × AD} (hb : IK C S g h f args = some x) : IK C S' g h f args = some x := by
 unfold IK at hb ⊢
 split at hb
 ·cases hb
 ·split at hb
  ·cases hb
  ·split at hb
   ·rename_i fr' h' he; rw [DY hS he]; exact hb
   ·rename_i fr' h' he; rw [DY hS he]; exact hb
   ·cases hb
theorem Sc (hS : S.le S') {g : Gd} {h : AD} {f : FuncId} {args : List AB} {x : AB × AD} (hb : Ji C S g h f args = some x) : Ji C S' g h f args = some x := by
 unfold Ji at hb ⊢
 split at hb
 ·exact H4 hS hb
 ·split at hb
  ·rename_i v h' he; rw [H4 hS he]; exact hb
  ·cases hb
 ·exact hb
 ·cases ha : args.all Hu with
  | false => rw [ha] at hb; cases hb
  | true =>
   rw [ha] at hb
   simp only [cond_true] at hb ⊢
   split at hb
   ·rename_i v h' he; rw [H4 hS he]; exact hb
   ·cases hb
 ·split at hb
  ·rename_i v h' he; rw [H4 hS he]; exact hb
  ·cases hb
 ·exact Sq hS hb
 ·split at hb
  ·exact H4 hS hb
  ·cases hb
 ·cases hb
theorem Lg (C : Ft) : ∀ n, (Cy C n).le (Cy C (n + 1))
 | 0 => ⟨fun _ _ _ _ _ h => by simp [Cy] at h, fun _ _ _ _ _ _ h => by simp [Cy] at h, fun _ _ _ _ _ h => by simp [Cy] at h⟩
 | n + 1 => ⟨fun _ _ _ _ _ h => Sc (Lg C n) h, fun _ _ _ _ _ _ h => DY (Lg C n) h, fun _ _ _ _ x h => nomatch (show none = some x from h)⟩
theorem Self.le_refl (S : Self) : S.le S := ⟨fun _ _ _ _ _ h => h, fun _ _ _ _ _ _ h => h, fun _ _ _ _ _ h => h⟩
theorem Self.le.trans {S T U : Self} (h : S.le T) (k : T.le U) : S.le U := ⟨fun _ _ _ _ _ x => k.1 _ _ _ _ _ (h.1 _ _ _ _ _ x), fun _ _ _ _ _ _ x => k.2.1 _ _ _ _ _ _ (h.2.1 _ _ _ _ _ _ x), fun _ _ _ _ _ x => k.2.2 _ _ _ _ _ (h.2.2 _ _ _ _ _ x)⟩
theorem D1 (C : Ft) {n m : Nat} (h : n ≤ m) : (Cy C n).le (Cy C m) := by
 induction h with
 | refl => exact Self.le_refl _
 | step h ih => exact ih.trans (Lg C _)
end
end Go.Av
