/-
 A part.
-/
import Derived.Test.YtdbkpibbjnhmgaaDoorAvRun
namespace Go.Av
set_option linter.unusedVariables false
set_option linter.unusedSimpArgs false
def Self.le (S S' : Self) : Prop := (∀ g h f args x, S.call g h f args = some x → S'.call g h f args = some x) ∧ (∀ g f c fr h x, S.loop g f c fr h = some x → S'.loop g f c fr h = some x) ∧ ∀ g h l args x, S.round g h l args = some x → S'.round g h l args = some x
section
variable {C : EP} {S S' : Self}
theorem Gu (hS : S.le S') {g : Gd} {h : AB} {fr : Fr} {op : Op} {x : AA × AB} (hs : Aw C S g h fr op = some x) : Aw C S' g h fr op = some x := by
 unfold Aw at hs ⊢
 split at hs
 ·split at hs
  ·exact hS.1 _ _ _ _ _ hs
  ·exact hS.2.2 _ _ _ _ _ hs
  ·cases hs
 ·exact hs
theorem EL (hS : S.le S') {g : Gd} {ops : Array Oper} : ∀ {l : List Oper} {fr : Fr} {h : AB} {x : Fr × AB}, DI C S g ops l fr h = some x → DI C S' g ops l fr h = some x
 | [], fr, h, x, hx => hx
 | o :: l, fr, h, x, hx => by
  unfold DI at hx ⊢
  split at hx
  ·split at hx
   ·rename_i v h' hs
    simp only [Gu hS hs]
    exact EL hS hx
   ·cases hx
  ·exact EL hS hx
  ·cases hx
theorem ET (hS : S.le S') {g : Gd} {ops : Array Oper} : ∀ {l : List (Nat × List Nat)} {tch : List (Nat × Nat)} {fr : Fr} {h : AB} {x : Fr × AB}, Bt C S g ops l tch fr h = some x → Bt C S' g ops l tch fr h = some x
 | [], tch, fr, h, x, hx => hx
 | (i, U) :: l, tch, fr, h, x, hx => by
  unfold Bt at hx ⊢
  split at hx
  ·cases hx
  ·split at hx
   ·split at hx
    ·rename_i v h' hs
     simp only [Gu hS hs]
     cases hre : Ko C ops U (put fr _ v) h' with
     | false => rw [hre] at hx; cases hx
     | true => rw [hre] at hx; exact ET hS hx
    ·cases hx
   ·exact ET hS hx
   ·cases hx
theorem BS (hS : S.le S') {f : FuncId} {g : Gd} : ∀ {c : Code} {fr : Fr} {h : AB} {x : BL × Fr × AB}, Aa C S f g c fr h = some x → Aa C S' f g c fr h = some x := by
 intro c
 induction c with
 | skip => intro fr h x hx; exact hx
 | label l => intro fr h x hx; exact hx
 | exit id => intro fr h x hx; exact hx
 | ret => intro fr h x hx; exact hx
 | goto l => intro fr h x hx; exact hx
 | refuse s => intro fr h x hx; exact hx
 | rangeFunc y ps a b iha ihb =>
  intro fr h x hx
  simp only [Aa] at hx ⊢
  split at hx
  ·rename_i f' first cap hev
   cases hbd : I7 C.P f' with
   | false => rw [hbd] at hx; cases hx
   | true =>
    rw [hbd] at hx
    simp only [Bool.not_true, cond_false] at hx ⊢
    split at hx
    ·rename_i v0 h2 hc
     rw [hS.1 _ _ _ _ _ hc]
     exact hx
    ·cases hx
  ·cases hx
 | region id ops draw =>
  intro fr h x hx
  simp only [Aa] at hx ⊢
  cases draw with
  | true =>
   simp only [cond_true] at hx ⊢
   split at hx
   ·rename_i fr' h' hr; rw [ET hS hr]; exact hx
   ·cases hx
  | false =>
   simp only [cond_false] at hx ⊢
   split at hx
   ·rename_i fr' h' hr; rw [EL hS hr]; exact hx
   ·cases hx
 | seq a b iha ihb =>
  intro fr h x hx
  simp only [Aa] at hx ⊢
  split at hx
  ·rename_i fr' h' ha; rw [iha ha]; exact ihb hx
  ·rename_i hne
   have := iha hx
   rw [this]
   split
   ·rename_i fr' h' he
    exact absurd (hx.trans he) (hne _ _)
   ·rfl
 | cond c a b iha ihb =>
  intro fr h x hx
  simp only [Aa] at hx ⊢
  split at hx
  ·exact iha hx
  ·exact ihb hx
  ·cases hx
 | block id c ih =>
  intro fr h x hx
  simp only [Aa] at hx ⊢
  split at hx
  ·rename_i i fr' h' ha; rw [ih ha]; exact hx
  ·rename_i hne
   rw [ih hx]
   split
   ·rename_i i fr' h' he
    exact absurd (hx.trans he) (hne _ _ _)
   ·rfl
 | loop c ih =>
  intro fr h x hx
  simp only [Aa] at hx ⊢
  split at hx
  ·rename_i fr' h' ha; rw [ih ha]; exact hS.2.1 _ _ _ _ _ _ hx
  ·rename_i hne
   rw [ih hx]
   split
   ·rename_i fr' h' he
    exact absurd (hx.trans he) (hne _ _)
   ·rfl
 | scope c ih =>
  intro fr h x hx
  simp only [Aa] at hx ⊢
  exact ih hx
theorem Lp (hS : S.le S') {f : FuncId} {g : Gd} : ∀ {c : Code} {fr : Fr} {h : AB} {x : BL × Fr × AB}, GJ C S f g c fr h = some x → GJ C S' f g c fr h = some x := by
 have base : ∀ {c : Code} {fr : Fr} {h : AB} {x : BL × Fr × AB}, (bif HS c then GP C S g c fr h else Aa C S f g c fr h) = some x → (bif HS c then GP C S' g c fr h else Aa C S' f g c fr h) = some x := by
  intro c fr h x hx
  cases hs : HS c with
  | false => rw [hs] at hx; exact BS hS hx
  | true =>
   rw [hs] at hx
   simp only [cond_true] at hx ⊢
   unfold GP at hx ⊢
   split at hx
   ·split at hx
    ·split at hx
     ·split at hx
      ·rename_i fr' h' hr; simp only [EL hS hr]; exact hx
      ·cases hx
     ·cases hx
    ·cases hx
   ·cases hx
 intro c
 induction c with
 | seq a b iha ihb =>
  intro fr h x hx
  simp only [GJ] at hx ⊢
  split at hx
  ·rename_i fr' h' ha; rw [iha ha]; exact ihb hx
  ·rename_i hne
   have := iha hx
   rw [this]
   split
   ·rename_i fr' h' he
    exact absurd (hx.trans he) (hne _ _)
   ·rfl
 | _ => intro fr h x hx; simp only [GJ] at hx ⊢; exact base hx
theorem P3 (hS : S.le S') {g : Gd} {h : AB} {f : FuncId} {args : List AA} {x : AA × AB} (hb : MW C S g h f args = some x) : MW C S' g h f args = some x := by
 unfold MW at hb ⊢
 split at hb
 ·cases hb
 ·split at hb
  ·cases hb
  ·split at hb
   ·rename_i fr' h' he; rw [Lp hS he]; exact hb
   ·rename_i fr' h' he; rw [Lp hS he]; exact hb
   ·cases hb
theorem PW (hS : S.le S') {f : FuncId} {q : ON} {ks rs : List Nat} {it : Nat} {tI te : Tmp} {rest : List Oper} {hh : AB} {ob : N0} {σ : Fr × List AA} {p : AA × AA} {x : Bool × Fr × List AA} (hx : Im C S f q ks rs it tI te rest hh ob σ p = some x) : Im C S' f q ks rs it tI te rest hh ob σ p = some x := by
 unfold Im at hx ⊢
 split at hx
 ·rename_i fr2 h2 hr
  rw [EL hS hr]
  simp only
  split at hx
  ·rename_i he; rw [BS hS he]; exact hx
  ·rename_i he; rw [BS hS he]; exact hx
  ·rename_i he; rw [BS hS he]; exact hx
  ·cases hx
 ·cases hx
theorem HU {α β : Type} {r r' : α → β → Option (Bool × α)} (h : ∀ {a b x}, r a b = some x → r' a b = some x) : ∀ (l : List β) {a : α} {x : Bool × α}, C9 r l a = some x → C9 r' l a = some x
 | [], a, x, hx => hx
 | p :: l, a, x, hx => by
  simp only [C9] at hx ⊢
  cases hp : r a p with
  | none => rw [hp] at hx; cases hx
  | some y =>
   rw [hp] at hx
   rw [h hp]
   obtain ⟨b, z⟩ := y
   cases b with
   | true => exact hx
   | false => exact HU h l hx
theorem P5 {r r' : Fr × List AA → AA × AA → Option (Bool × Fr × List AA)} (h : ∀ {a b x}, r a b = some x → r' a b = some x) {es : List (AA × AA)} {σ : Fr × List AA} {hh : AB} {ob : N0} {x : BL × Fr × AB} (hx : Oe C r es σ hh ob = some x) : Oe C r' es σ hh ob = some x := by
 unfold Oe at hx ⊢
 split at hx
 ·rename_i hf
  rw [HU h _ hf]
  simp only
  obtain ⟨hd, hx⟩ := IC hx
  rw [C.dec.2.2 _ _ hd fun k es' hp => HU h _ (k es' hp)]
  exact hx
 ·cases hx
theorem P2 (hS : S.le S') {f : FuncId} {q : ON} {g : Gd} {ks rs : List Nat} {ot : Option Tmp} {orng : Oper} {fr1 : Fr} {h1 : AB} {x : BL × Fr × AB} (hx : N6 C S f q g ks rs ot orng fr1 h1 = some x) : N6 C S' f q g ks rs ot orng fr1 h1 = some x := by
 unfold N6 at hx ⊢
 split at hx
 rotate_left
 ·cases hx
 split at hx
 rotate_left
 ·cases hx
 split at hx
 rotate_left
 ·cases hx
 ·obtain ⟨hc, hx⟩ := IC hx
  rw [hc]
  simp only [cond_true]
  exact P5 (fun hr => PW hS hr) hx
theorem Pz (hS : S.le S') {f : FuncId} {q : ON} {g : Gd} {fr : Fr} {h : AB} {x : BL × Fr × AB} (hx : Kl C S f q g fr h = some x) : Kl C S' f q g fr h = some x := by
 unfold Kl at hx ⊢
 split at hx
 rotate_left
 ·cases hx
 rename_i ks rs ot orng fr1 h1 hmk hlast hpre
 rw [hmk, hlast, EL hS hpre]
 exact P2 hS hx
theorem Lx (hS : S.le S') {f : FuncId} {g : Gd} : ∀ {c : Code} {fr : Fr} {h : AB} {x : BL × Fr × AB}, GF C S f g c fr h = some x → GF C S' f g c fr h = some x := by
 intro c
 induction c with
 | seq a b iha ihb =>
  intro fr h x hx
  simp only [GF] at hx ⊢
  split at hx
  ·exact Pz hS hx
  ·split at hx
   ·rename_i fr' h' ha; rw [iha ha]; exact ihb hx
   ·rename_i hne
    have := iha hx
    rw [this]
    split
    ·rename_i fr' h' he
     exact absurd (hx.trans he) (hne _ _)
    ·rfl
 | _ => intro fr h x hx; simp only [GF] at hx ⊢; exact BS hS hx
theorem Pb (hS : S.le S') {g : Gd} {h : AB} {f : FuncId} {args : List AA} {x : AA × AB} (hb : MZ C S g h f args = some x) : MZ C S' g h f args = some x := by
 unfold MZ at hb ⊢
 split at hb
 ·cases hb
 ·split at hb
  ·cases hb
  ·split at hb
   ·rename_i fr' h' he; rw [Lx hS he]; exact hb
   ·rename_i fr' h' he; rw [Lx hS he]; exact hb
   ·cases hb
theorem OO (hS : S.le S') {g : Gd} {h : AB} {l : Nat} {args : List AA} {x : AA × AB} (hb : GS C S g h l args = some x) : GS C S' g h l args = some x := by
 unfold GS at hb ⊢
 split at hb
 ·cases hc : (Nat.beq args.length _ && (g.may l && C.Rs _ _ _)) with
  | false => rw [hc] at hb; cases hb
  | true =>
   rw [hc] at hb
   simp only [cond_true] at hb ⊢
   split at hb
   ·rename_i fr1 h1 hx1
    rw [BS hS hx1]
    simp only
    split at hb
    ·split at hb
     ·rename_i fr2 h3 hx2; rw [BS hS hx2]; exact hb
     ·rename_i fr2 h3 hx2; rw [BS hS hx2]; exact hb
     ·rename_i i fr2 h3 hx2; rw [BS hS hx2]; exact hb
     ·cases hb
    ·cases hb
   ·cases hb
 ·cases hb
theorem Em (hS : S.le S') {g : Gd} {h : AB} {f : FuncId} {args : List AA} {x : AA × AB} (hb : Fc C S g h f args = some x) : Fc C S' g h f args = some x := by
 unfold Fc at hb ⊢
 split at hb
 ·cases hb
 ·split at hb
  ·cases hb
  ·split at hb
   ·rename_i fr' h' he; rw [BS hS he]; exact hb
   ·rename_i fr' h' he; rw [BS hS he]; exact hb
   ·cases hb
theorem Pl (hS : S.le S') {g : Gd} {h : AB} {f : FuncId} {args : List AA} {x : AA × AB} (hb : HK C S g h f args = some x) : HK C S' g h f args = some x := by
 unfold HK at hb ⊢
 split at hb
 ·exact Em hS hb
 ·split at hb
  ·rename_i v h' he; rw [Em hS he]; exact hb
  ·cases hb
 ·exact hb
 ·cases ha : args.all Fk with
  | false => rw [ha] at hb; cases hb
  | true =>
   rw [ha] at hb
   simp only [cond_true] at hb ⊢
   split at hb
   ·rename_i v h' he; rw [Em hS he]; exact hb
   ·cases hb
 ·split at hb
  ·rename_i v h' he; rw [Em hS he]; exact hb
  ·cases hb
 ·exact P3 hS hb
 ·split at hb
  ·rename_i v h' he; rw [Em hS he]; exact hb
  ·cases hb
 ·exact Pb hS hb
 ·split at hb
  ·exact Em hS hb
  ·cases hb
 ·cases hb
theorem Gn (C : EP) : ∀ n, (Ca C n).le (Ca C (n + 1))
 | 0 => ⟨fun _ _ _ _ _ h => by simp [Ca] at h, fun _ _ _ _ _ _ h => by simp [Ca] at h, fun _ _ _ _ _ h => by simp [Ca] at h⟩
 | n + 1 => ⟨fun _ _ _ _ _ h => Pl (Gn C n) h, fun _ _ _ _ _ _ h => BS (Gn C n) h, fun _ _ _ _ _ h => OO (Gn C n) h⟩
theorem Self.le_refl (S : Self) : S.le S := ⟨fun _ _ _ _ _ h => h, fun _ _ _ _ _ _ h => h, fun _ _ _ _ _ h => h⟩
theorem Self.le.trans {S T U : Self} (h : S.le T) (k : T.le U) : S.le U := ⟨fun _ _ _ _ _ x => k.1 _ _ _ _ _ (h.1 _ _ _ _ _ x), fun _ _ _ _ _ _ x => k.2.1 _ _ _ _ _ _ (h.2.1 _ _ _ _ _ _ x), fun _ _ _ _ _ x => k.2.2 _ _ _ _ _ (h.2.2 _ _ _ _ _ x)⟩
theorem DY (C : EP) {n m : Nat} (h : n ≤ m) : (Ca C n).le (Ca C m) := by
 induction h with
 | refl => exact Self.le_refl _
 | step h ih => exact ih.trans (Gn C _)
end
end Go.Av
