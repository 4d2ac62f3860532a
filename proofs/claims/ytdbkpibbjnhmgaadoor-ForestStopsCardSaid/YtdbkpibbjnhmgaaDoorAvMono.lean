/-
 A part.
-/
import Derived.Test.YtdbkpibbjnhmgaaDoorAvRun
namespace Go.Av
set_option linter.unusedVariables false
set_option linter.unusedSimpArgs false
def Self.le (S S' : Self) : Prop := (∀ g h f args x, S.call g h f args = some x → S'.call g h f args = some x) ∧ (∀ g f c fr h x, S.loop g f c fr h = some x → S'.loop g f c fr h = some x) ∧ ∀ g h l args x, S.round g h l args = some x → S'.round g h l args = some x
section
variable {C : EB} {S S' : Self}
theorem GR (hS : S.le S') {g : Gd} {h : AB} {fr : Fr} {op : Op} {x : AA × AB} (hs : Al C S g h fr op = some x) : Al C S' g h fr op = some x := by
 unfold Al at hs ⊢
 split at hs
 ·split at hs
  ·exact hS.1 _ _ _ _ _ hs
  ·exact hS.2.2 _ _ _ _ _ hs
  ·cases hs
 ·exact hs
theorem Dy (hS : S.le S') {g : Gd} {ops : Array Oper} : ∀ {l : List Oper} {fr : Fr} {h : AB} {x : Fr × AB}, Cs C S g ops l fr h = some x → Cs C S' g ops l fr h = some x
 | [], fr, h, x, hx => hx
 | o :: l, fr, h, x, hx => by
  unfold Cs at hx ⊢
  split at hx
  ·split at hx
   ·rename_i v h' hs
    simp only [GR hS hs]
    exact Dy hS hx
   ·cases hx
  ·exact Dy hS hx
  ·cases hx
theorem EG (hS : S.le S') {g : Gd} {ops : Array Oper} : ∀ {l : List (Nat × List Nat)} {tch : List (Nat × Nat)} {fr : Fr} {h : AB} {x : Fr × AB}, Bd C S g ops l tch fr h = some x → Bd C S' g ops l tch fr h = some x
 | [], tch, fr, h, x, hx => hx
 | (i, U) :: l, tch, fr, h, x, hx => by
  unfold Bd at hx ⊢
  split at hx
  ·cases hx
  ·split at hx
   ·split at hx
    ·rename_i v h' hs
     simp only [GR hS hs]
     cases hre : KD C ops U (put fr _ v) h' with
     | false => rw [hre] at hx; cases hx
     | true => rw [hre] at hx; exact EG hS hx
    ·cases hx
   ·exact EG hS hx
   ·cases hx
theorem BA (hS : S.le S') {f : FuncId} {g : Gd} : ∀ {c : Code} {fr : Fr} {h : AB} {x : Aw × Fr × AB}, AY C S f g c fr h = some x → AY C S' f g c fr h = some x := by
 intro c
 induction c with
 | skip => intro fr h x hx; exact hx
 | label l => intro fr h x hx; exact hx
 | exit id => intro fr h x hx; exact hx
 | ret => intro fr h x hx; exact hx
 | goto l => intro fr h x hx; exact hx
 | refuse s => intro fr h x hx; exact hx
 | rangeFunc y ps a b iha ihb =>
  intro fr h x hx
  simp only [AY] at hx ⊢
  split at hx
  ·rename_i f' first cap hev
   cases hbd : IJ C.P f' with
   | false => rw [hbd] at hx; cases hx
   | true =>
    rw [hbd] at hx
    simp only [Bool.not_true, cond_false] at hx ⊢
    split at hx
    ·rename_i v0 h2 hc
     rw [hS.1 _ _ _ _ _ hc]
     exact hx
    ·cases hx
  ·cases hx
 | region id ops draw =>
  intro fr h x hx
  simp only [AY] at hx ⊢
  cases draw with
  | true =>
   simp only [cond_true] at hx ⊢
   split at hx
   ·rename_i fr' h' hr; rw [EG hS hr]; exact hx
   ·cases hx
  | false =>
   simp only [cond_false] at hx ⊢
   split at hx
   ·rename_i fr' h' hr; rw [Dy hS hr]; exact hx
   ·cases hx
 | seq a b iha ihb =>
  intro fr h x hx
  simp only [AY] at hx ⊢
  split at hx
  ·rename_i fr' h' ha; rw [iha ha]; exact ihb hx
  ·rename_i hne
   have := iha hx
   rw [this]
   split
   ·rename_i fr' h' he
    exact absurd (hx.trans he) (hne _ _)
   ·rfl
 | cond c a b iha ihb =>
  intro fr h x hx
  simp only [AY] at hx ⊢
  split at hx
  ·exact iha hx
  ·exact ihb hx
  ·cases hx
 | block id c ih =>
  intro fr h x hx
  simp only [AY] at hx ⊢
  split at hx
  ·rename_i i fr' h' ha; rw [ih ha]; exact hx
  ·rename_i hne
   rw [ih hx]
   split
   ·rename_i i fr' h' he
    exact absurd (hx.trans he) (hne _ _ _)
   ·rfl
 | loop c ih =>
  intro fr h x hx
  simp only [AY] at hx ⊢
  split at hx
  ·rename_i fr' h' ha; rw [ih ha]; exact hS.2.1 _ _ _ _ _ _ hx
  ·rename_i hne
   rw [ih hx]
   split
   ·rename_i fr' h' he
    exact absurd (hx.trans he) (hne _ _)
   ·rfl
 | scope c ih =>
  intro fr h x hx
  simp only [AY] at hx ⊢
  exact ih hx
theorem Kx (hS : S.le S') {f : FuncId} {g : Gd} : ∀ {c : Code} {fr : Fr} {h : AB} {x : Aw × Fr × AB}, Fo C S f g c fr h = some x → Fo C S' f g c fr h = some x := by
 have base : ∀ {c : Code} {fr : Fr} {h : AB} {x : Aw × Fr × AB}, (bif HA c then Fw C S g c fr h else AY C S f g c fr h) = some x → (bif HA c then Fw C S' g c fr h else AY C S' f g c fr h) = some x := by
  intro c fr h x hx
  cases hs : HA c with
  | false => rw [hs] at hx; exact BA hS hx
  | true =>
   rw [hs] at hx
   simp only [cond_true] at hx ⊢
   unfold Fw at hx ⊢
   split at hx
   ·split at hx
    ·split at hx
     ·split at hx
      ·rename_i fr' h' hr; simp only [Dy hS hr]; exact hx
      ·cases hx
     ·cases hx
    ·cases hx
   ·cases hx
 intro c
 induction c with
 | seq a b iha ihb =>
  intro fr h x hx
  simp only [Fo] at hx ⊢
  split at hx
  ·rename_i fr' h' ha; rw [iha ha]; exact ihb hx
  ·rename_i hne
   have := iha hx
   rw [this]
   split
   ·rename_i fr' h' he
    exact absurd (hx.trans he) (hne _ _)
   ·rfl
 | _ => intro fr h x hx; simp only [Fo] at hx ⊢; exact base hx
theorem Ot (hS : S.le S') {g : Gd} {h : AB} {f : FuncId} {args : List AA} {x : AA × AB} (hb : Lw C S g h f args = some x) : Lw C S' g h f args = some x := by
 unfold Lw at hb ⊢
 split at hb
 ·cases hb
 ·split at hb
  ·cases hb
  ·split at hb
   ·rename_i fr' h' he; rw [Kx hS he]; exact hb
   ·rename_i fr' h' he; rw [Kx hS he]; exact hb
   ·cases hb
theorem ON (hS : S.le S') {f : FuncId} {q : QK} {ks rs : List Nat} {it : Nat} {tI te : Tmp} {rest : List Oper} {hh : AB} {ob : M8} {σ : Fr × List AA} {p : AA × AA} {x : Bool × Fr × List AA} (hx : Hx C S f q ks rs it tI te rest hh ob σ p = some x) : Hx C S' f q ks rs it tI te rest hh ob σ p = some x := by
 unfold Hx at hx ⊢
 split at hx
 ·rename_i fr2 h2 hr
  rw [Dy hS hr]
  simp only
  split at hx
  ·rename_i he; rw [BA hS he]; exact hx
  ·rename_i he; rw [BA hS he]; exact hx
  ·rename_i he; rw [BA hS he]; exact hx
  ·cases hx
 ·cases hx
theorem Hd {α β : Type} {r r' : α → β → Option (Bool × α)} (h : ∀ {a b x}, r a b = some x → r' a b = some x) : ∀ (l : List β) {a : α} {x : Bool × α}, Cm r l a = some x → Cm r' l a = some x
 | [], a, x, hx => hx
 | p :: l, a, x, hx => by
  simp only [Cm] at hx ⊢
  cases hp : r a p with
  | none => rw [hp] at hx; cases hx
  | some y =>
   rw [hp] at hx
   rw [h hp]
   obtain ⟨b, z⟩ := y
   cases b with
   | true => exact hx
   | false => exact Hd h l hx
theorem OZ {r r' : Fr × List AA → AA × AA → Option (Bool × Fr × List AA)} (h : ∀ {a b x}, r a b = some x → r' a b = some x) {es : List (AA × AA)} {σ : Fr × List AA} {hh : AB} {ob : M8} {x : Aw × Fr × AB} (hx : NP C r es σ hh ob = some x) : NP C r' es σ hh ob = some x := by
 unfold NP at hx ⊢
 split at hx
 ·rename_i hf
  rw [Hd h _ hf]
  simp only
  obtain ⟨hd, hx⟩ := Ha hx
  rw [C.dec.2.2 _ _ hd fun k es' hp => Hd h _ (k es' hp)]
  exact hx
 ·cases hx
theorem O2 (hS : S.le S') {f : FuncId} {q : QK} {g : Gd} {ks rs : List Nat} {ot : Option Tmp} {orng : Oper} {fr1 : Fr} {h1 : AB} {x : Aw × Fr × AB} (hx : NU C S f q g ks rs ot orng fr1 h1 = some x) : NU C S' f q g ks rs ot orng fr1 h1 = some x := by
 unfold NU at hx ⊢
 split at hx
 rotate_left
 ·cases hx
 split at hx
 rotate_left
 ·cases hx
 split at hx
 rotate_left
 ·cases hx
 ·obtain ⟨hc, hx⟩ := Ha hx
  rw [hc]
  simp only [cond_true]
  exact OZ (fun hr => ON hS hr) hx
theorem Oj (hS : S.le S') {f : FuncId} {q : QK} {g : Gd} {fr : Fr} {h : AB} {x : Aw × Fr × AB} (hx : J0 C S f q g fr h = some x) : J0 C S' f q g fr h = some x := by
 unfold J0 at hx ⊢
 split at hx
 rotate_left
 ·cases hx
 rename_i ks rs ot orng fr1 h1 hmk hlast hpre
 rw [hmk, hlast, Dy hS hpre]
 exact O2 hS hx
theorem K5 (hS : S.le S') {f : FuncId} {g : Gd} : ∀ {c : Code} {fr : Fr} {h : AB} {x : Aw × Fr × AB}, Fe C S f g c fr h = some x → Fe C S' f g c fr h = some x := by
 intro c
 induction c with
 | seq a b iha ihb =>
  intro fr h x hx
  simp only [Fe] at hx ⊢
  split at hx
  ·exact Oj hS hx
  ·split at hx
   ·rename_i fr' h' ha; rw [iha ha]; exact ihb hx
   ·rename_i hne
    have := iha hx
    rw [this]
    split
    ·rename_i fr' h' he
     exact absurd (hx.trans he) (hne _ _)
    ·rfl
 | _ => intro fr h x hx; simp only [Fe] at hx ⊢; exact BA hS hx
theorem OQ (hS : S.le S') {g : Gd} {h : AB} {f : FuncId} {args : List AA} {x : AA × AB} (hb : Lr C S g h f args = some x) : Lr C S' g h f args = some x := by
 unfold Lr at hb ⊢
 split at hb
 ·cases hb
 ·split at hb
  ·cases hb
  ·split at hb
   ·rename_i fr' h' he; rw [K5 hS he]; exact hb
   ·rename_i fr' h' he; rw [K5 hS he]; exact hb
   ·cases hb
theorem NI (hS : S.le S') {g : Gd} {h : AB} {l : Nat} {args : List AA} {x : AA × AB} (hb : F3 C S g h l args = some x) : F3 C S' g h l args = some x := by
 unfold F3 at hb ⊢
 split at hb
 ·cases hc : (Nat.beq args.length _ && (g.may l && C.QV _ _ _)) with
  | false => rw [hc] at hb; cases hb
  | true =>
   rw [hc] at hb
   simp only [cond_true] at hb ⊢
   split at hb
   ·rename_i fr1 h1 hx1
    rw [BA hS hx1]
    simp only
    split at hb
    ·split at hb
     ·rename_i fr2 h3 hx2; rw [BA hS hx2]; exact hb
     ·rename_i fr2 h3 hx2; rw [BA hS hx2]; exact hb
     ·rename_i i fr2 h3 hx2; rw [BA hS hx2]; exact hb
     ·cases hb
    ·cases hb
   ·cases hb
 ·cases hb
theorem ET (hS : S.le S') {g : Gd} {h : AB} {f : FuncId} {args : List AA} {x : AA × AB} (hb : FU C S g h f args = some x) : FU C S' g h f args = some x := by
 unfold FU at hb ⊢
 split at hb
 ·cases hb
 ·split at hb
  ·cases hb
  ·split at hb
   ·rename_i fr' h' he; rw [BA hS he]; exact hb
   ·rename_i fr' h' he; rw [BA hS he]; exact hb
   ·cases hb
theorem Oq (hS : S.le S') {g : Gd} {h : AB} {f : FuncId} {args : List AA} {x : AA × AB} (hb : Gq C S g h f args = some x) : Gq C S' g h f args = some x := by
 unfold Gq at hb ⊢
 split at hb
 ·exact ET hS hb
 ·split at hb
  ·rename_i v h' he; rw [ET hS he]; exact hb
  ·cases hb
 ·exact hb
 ·cases ha : args.all FM with
  | false => rw [ha] at hb; cases hb
  | true =>
   rw [ha] at hb
   simp only [cond_true] at hb ⊢
   split at hb
   ·rename_i v h' he; rw [ET hS he]; exact hb
   ·cases hb
 ·split at hb
  ·rename_i v h' he; rw [ET hS he]; exact hb
  ·cases hb
 ·exact Ot hS hb
 ·split at hb
  ·rename_i v h' he; rw [ET hS he]; exact hb
  ·cases hb
 ·exact OQ hS hb
 ·split at hb
  ·exact ET hS hb
  ·cases hb
 ·cases hb
theorem GS (C : EB) : ∀ n, (CH C n).le (CH C (n + 1))
 | 0 => ⟨fun _ _ _ _ _ h => by simp [CH] at h, fun _ _ _ _ _ _ h => by simp [CH] at h, fun _ _ _ _ _ h => by simp [CH] at h⟩
 | n + 1 => ⟨fun _ _ _ _ _ h => Oq (GS C n) h, fun _ _ _ _ _ _ h => BA (GS C n) h, fun _ _ _ _ _ h => NI (GS C n) h⟩
theorem Self.le_refl (S : Self) : S.le S := ⟨fun _ _ _ _ _ h => h, fun _ _ _ _ _ _ h => h, fun _ _ _ _ _ h => h⟩
theorem Self.le.trans {S T U : Self} (h : S.le T) (k : T.le U) : S.le U := ⟨fun _ _ _ _ _ x => k.1 _ _ _ _ _ (h.1 _ _ _ _ _ x), fun _ _ _ _ _ _ x => k.2.1 _ _ _ _ _ _ (h.2.1 _ _ _ _ _ _ x), fun _ _ _ _ _ x => k.2.2 _ _ _ _ _ (h.2.2 _ _ _ _ _ x)⟩
theorem DG (C : EB) {n m : Nat} (h : n ≤ m) : (CH C n).le (CH C m) := by
 induction h with
 | refl => exact Self.le_refl _
 | step h ih => exact ih.trans (GS C _)
end
end Go.Av
