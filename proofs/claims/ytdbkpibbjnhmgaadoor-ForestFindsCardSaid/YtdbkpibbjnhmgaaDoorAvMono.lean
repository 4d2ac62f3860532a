/-
 A part.
-/
import Derived.Test.YtdbkpibbjnhmgaaDoorAvRun
namespace Go.Av
set_option linter.unusedVariables false
set_option linter.unusedSimpArgs false
def Self.le (S S' : Self) : Prop := (∀ g h f args x, S.call g h f args = some x → S'.call g h f args = some x) ∧ (∀ g f c fr h x, S.loop g f c fr h = some x → S'.loop g f c fr h = some x) ∧ ∀ g h l args x, S.round g h l args = some x → S'.round g h l args = some x
section
variable {C : En} {S S' : Self}
theorem HO (hS : S.le S') {g : Gd} {h : AB} {fr : Fr} {op : Op} {x : AA × AB} (hs : Ap C S g h fr op = some x) : Ap C S' g h fr op = some x := by
 unfold Ap at hs ⊢
 split at hs
 ·split at hs
  ·exact hS.1 _ _ _ _ _ hs
  ·exact hS.2.2 _ _ _ _ _ hs
  ·cases hs
 ·exact hs
theorem ES (hS : S.le S') {g : Gd} {ops : Array Oper} : ∀ {l : List Oper} {fr : Fr} {h : AB} {x : Fr × AB}, DJ C S g ops l fr h = some x → DJ C S' g ops l fr h = some x
 | [], fr, h, x, hx => hx
 | o :: l, fr, h, x, hx => by
  unfold DJ at hx ⊢
  split at hx
  ·split at hx
   ·rename_i v h' hs
    simp only [HO hS hs]
    exact ES hS hx
   ·cases hx
  ·exact ES hS hx
  ·cases hx
theorem Ed (hS : S.le S') {g : Gd} {ops : Array Oper} : ∀ {l : List (Nat × List Nat)} {tch : List (Nat × Nat)} {fr : Fr} {h : AB} {x : Fr × AB}, Bx C S g ops l tch fr h = some x → Bx C S' g ops l tch fr h = some x
 | [], tch, fr, h, x, hx => hx
 | (i, U) :: l, tch, fr, h, x, hx => by
  unfold Bx at hx ⊢
  split at hx
  ·cases hx
  ·split at hx
   ·split at hx
    ·rename_i v h' hs
     simp only [HO hS hs]
     cases hre : Kk C ops U (put fr _ v) h' with
     | false => rw [hre] at hx; cases hx
     | true => rw [hre] at hx; exact Ed hS hx
    ·cases hx
   ·exact Ed hS hx
   ·cases hx
theorem BT (hS : S.le S') {f : FuncId} {g : Gd} : ∀ {c : Code} {fr : Fr} {h : AB} {x : BP × Fr × AB}, Ae C S f g c fr h = some x → Ae C S' f g c fr h = some x := by
 intro c
 induction c with
 | skip => intro fr h x hx; exact hx
 | label l => intro fr h x hx; exact hx
 | exit id => intro fr h x hx; exact hx
 | ret => intro fr h x hx; exact hx
 | goto l => intro fr h x hx; exact hx
 | refuse s => intro fr h x hx; exact hx
 | rangeFunc y ps a b iha ihb =>
  intro fr h x hx
  simp only [Ae] at hx ⊢
  split at hx
  ·rename_i f' first cap hev
   cases hbd : I0 C.P f' with
   | false => rw [hbd] at hx; cases hx
   | true =>
    rw [hbd] at hx
    simp only [Bool.not_true, cond_false] at hx ⊢
    split at hx
    ·rename_i v0 h2 hc
     rw [hS.1 _ _ _ _ _ hc]
     exact hx
    ·cases hx
  ·cases hx
 | region id ops draw =>
  intro fr h x hx
  simp only [Ae] at hx ⊢
  cases draw with
  | true =>
   simp only [cond_true] at hx ⊢
   split at hx
   ·rename_i fr' h' hr; rw [Ed hS hr]; exact hx
   ·cases hx
  | false =>
   simp only [cond_false] at hx ⊢
   split at hx
   ·rename_i fr' h' hr; rw [ES hS hr]; exact hx
   ·cases hx
 | seq a b iha ihb =>
  intro fr h x hx
  simp only [Ae] at hx ⊢
  split at hx
  ·rename_i fr' h' ha; rw [iha ha]; exact ihb hx
  ·rename_i hne
   have := iha hx
   rw [this]
   split
   ·rename_i fr' h' he
    exact absurd (hx.trans he) (hne _ _)
   ·rfl
 | cond c a b iha ihb =>
  intro fr h x hx
  simp only [Ae] at hx ⊢
  split at hx
  ·exact iha hx
  ·exact ihb hx
  ·cases hx
 | block id c ih =>
  intro fr h x hx
  simp only [Ae] at hx ⊢
  split at hx
  ·rename_i i fr' h' ha; rw [ih ha]; exact hx
  ·rename_i hne
   rw [ih hx]
   split
   ·rename_i i fr' h' he
    exact absurd (hx.trans he) (hne _ _ _)
   ·rfl
 | loop c ih =>
  intro fr h x hx
  simp only [Ae] at hx ⊢
  split at hx
  ·rename_i fr' h' ha; rw [ih ha]; exact hS.2.1 _ _ _ _ _ _ hx
  ·rename_i hne
   rw [ih hx]
   split
   ·rename_i fr' h' he
    exact absurd (hx.trans he) (hne _ _)
   ·rfl
 | scope c ih =>
  intro fr h x hx
  simp only [Ae] at hx ⊢
  exact ih hx
theorem LL (hS : S.le S') {f : FuncId} {g : Gd} : ∀ {c : Code} {fr : Fr} {h : AB} {x : BP × Fr × AB}, GR C S f g c fr h = some x → GR C S' f g c fr h = some x := by
 have base : ∀ {c : Code} {fr : Fr} {h : AB} {x : BP × Fr × AB}, (bif Hq c then Gl C S g c fr h else Ae C S f g c fr h) = some x → (bif Hq c then Gl C S' g c fr h else Ae C S' f g c fr h) = some x := by
  intro c fr h x hx
  cases hs : Hq c with
  | false => rw [hs] at hx; exact BT hS hx
  | true =>
   rw [hs] at hx
   simp only [cond_true] at hx ⊢
   unfold Gl at hx ⊢
   split at hx
   ·split at hx
    ·split at hx
     ·split at hx
      ·rename_i fr' h' hr; simp only [ES hS hr]; exact hx
      ·cases hx
     ·cases hx
    ·cases hx
   ·cases hx
 intro c
 induction c with
 | seq a b iha ihb =>
  intro fr h x hx
  simp only [GR] at hx ⊢
  split at hx
  ·rename_i fr' h' ha; rw [iha ha]; exact ihb hx
  ·rename_i hne
   have := iha hx
   rw [this]
   split
   ·rename_i fr' h' he
    exact absurd (hx.trans he) (hne _ _)
   ·rfl
 | _ => intro fr h x hx; simp only [GR] at hx ⊢; exact base hx
theorem PK (hS : S.le S') {g : Gd} {h : AB} {f : FuncId} {args : List AA} {x : AA × AB} (hb : Mo C S g h f args = some x) : Mo C S' g h f args = some x := by
 unfold Mo at hb ⊢
 split at hb
 ·cases hb
 ·split at hb
  ·cases hb
  ·split at hb
   ·rename_i fr' h' he; rw [LL hS he]; exact hb
   ·rename_i fr' h' he; rw [LL hS he]; exact hb
   ·cases hb
theorem Pg (hS : S.le S') {f : FuncId} {q : RC} {ks rs : List Nat} {it : Nat} {tI te : Tmp} {rest : List Oper} {hh : AB} {ob : Ny} {σ : Fr × List AA} {p : AA × AA} {x : Bool × Fr × List AA} (hx : It C S f q ks rs it tI te rest hh ob σ p = some x) : It C S' f q ks rs it tI te rest hh ob σ p = some x := by
 unfold It at hx ⊢
 split at hx
 ·rename_i fr2 h2 hr
  rw [ES hS hr]
  simp only
  split at hx
  ·rename_i he; rw [BT hS he]; exact hx
  ·rename_i he; rw [BT hS he]; exact hx
  ·rename_i he; rw [BT hS he]; exact hx
  ·cases hx
 ·cases hx
theorem IJ {α β : Type} {r r' : α → β → Option (Bool × α)} (h : ∀ {a b x}, r a b = some x → r' a b = some x) : ∀ (l : List β) {a : α} {x : Bool × α}, DD r l a = some x → DD r' l a = some x
 | [], a, x, hx => hx
 | p :: l, a, x, hx => by
  simp only [DD] at hx ⊢
  cases hp : r a p with
  | none => rw [hp] at hx; cases hx
  | some y =>
   rw [hp] at hx
   rw [h hp]
   obtain ⟨b, z⟩ := y
   cases b with
   | true => exact hx
   | false => exact IJ h l hx
theorem Pj {r r' : Fr × List AA → AA × AA → Option (Bool × Fr × List AA)} (h : ∀ {a b x}, r a b = some x → r' a b = some x) {es : List (AA × AA)} {σ : Fr × List AA} {hh : AB} {ob : Ny} {x : BP × Fr × AB} (hx : N1 C r es σ hh ob = some x) : N1 C r' es σ hh ob = some x := by
 unfold N1 at hx ⊢
 split at hx
 ·rename_i hf
  rw [IJ h _ hf]
  simp only
  obtain ⟨hd, hx⟩ := H8 hx
  rw [C.dec.2.2 _ _ hd fun k es' hp => IJ h _ (k es' hp)]
  exact hx
 ·cases hx
theorem Pd (hS : S.le S') {f : FuncId} {q : RC} {g : Gd} {ks rs : List Nat} {ot : Option Tmp} {orng : Oper} {fr1 : Fr} {h1 : AB} {x : BP × Fr × AB} (hx : Ox C S f q g ks rs ot orng fr1 h1 = some x) : Ox C S' f q g ks rs ot orng fr1 h1 = some x := by
 unfold Ox at hx ⊢
 split at hx
 rotate_left
 ·cases hx
 split at hx
 rotate_left
 ·cases hx
 split at hx
 rotate_left
 ·cases hx
 ·obtain ⟨hc, hx⟩ := H8 hx
  rw [hc]
  simp only [cond_true]
  exact Pj (fun hr => Pg hS hr) hx
theorem Pw (hS : S.le S') {f : FuncId} {q : RC} {g : Gd} {fr : Fr} {h : AB} {x : BP × Fr × AB} (hx : Kh C S f q g fr h = some x) : Kh C S' f q g fr h = some x := by
 unfold Kh at hx ⊢
 split at hx
 rotate_left
 ·cases hx
 rename_i ks rs ot orng fr1 h1 hmk hlast hpre
 rw [hmk, hlast, ES hS hpre]
 exact Pd hS hx
theorem Li (hS : S.le S') {f : FuncId} {g : Gd} : ∀ {c : Code} {fr : Fr} {h : AB} {x : BP × Fr × AB}, Ge C S f g c fr h = some x → Ge C S' f g c fr h = some x := by
 intro c
 induction c with
 | seq a b iha ihb =>
  intro fr h x hx
  simp only [Ge] at hx ⊢
  split at hx
  ·exact Pw hS hx
  ·split at hx
   ·rename_i fr' h' ha; rw [iha ha]; exact ihb hx
   ·rename_i hne
    have := iha hx
    rw [this]
    split
    ·rename_i fr' h' he
     exact absurd (hx.trans he) (hne _ _)
    ·rfl
 | _ => intro fr h x hx; simp only [Ge] at hx ⊢; exact BT hS hx
theorem PD (hS : S.le S') {g : Gd} {h : AB} {f : FuncId} {args : List AA} {x : AA × AB} (hb : Mx C S g h f args = some x) : Mx C S' g h f args = some x := by
 unfold Mx at hb ⊢
 split at hb
 ·cases hb
 ·split at hb
  ·cases hb
  ·split at hb
   ·rename_i fr' h' he; rw [Li hS he]; exact hb
   ·rename_i fr' h' he; rw [Li hS he]; exact hb
   ·cases hb
theorem OI (hS : S.le S') {g : Gd} {h : AB} {l : Nat} {args : List AA} {x : AA × AB} (hb : Gm C S g h l args = some x) : Gm C S' g h l args = some x := by
 unfold Gm at hb ⊢
 split at hb
 ·cases hc : (Nat.beq args.length _ && (g.may l && C.RN _ _ _)) with
  | false => rw [hc] at hb; cases hb
  | true =>
   rw [hc] at hb
   simp only [cond_true] at hb ⊢
   split at hb
   ·rename_i fr1 h1 hx1
    rw [BT hS hx1]
    simp only
    split at hb
    ·split at hb
     ·rename_i fr2 h3 hx2; rw [BT hS hx2]; exact hb
     ·rename_i fr2 h3 hx2; rw [BT hS hx2]; exact hb
     ·rename_i i fr2 h3 hx2; rw [BT hS hx2]; exact hb
     ·cases hb
    ·cases hb
   ·cases hb
 ·cases hb
theorem Ex (hS : S.le S') {g : Gd} {h : AB} {f : FuncId} {args : List AA} {x : AA × AB} (hb : Ft C S g h f args = some x) : Ft C S' g h f args = some x := by
 unfold Ft at hb ⊢
 split at hb
 ·cases hb
 ·split at hb
  ·cases hb
  ·split at hb
   ·rename_i fr' h' he; rw [BT hS he]; exact hb
   ·rename_i fr' h' he; rw [BT hS he]; exact hb
   ·cases hb
theorem PH (hS : S.le S') {g : Gd} {h : AB} {f : FuncId} {args : List AA} {x : AA × AB} (hb : Hc C S g h f args = some x) : Hc C S' g h f args = some x := by
 unfold Hc at hb ⊢
 split at hb
 ·exact Ex hS hb
 ·split at hb
  ·rename_i v h' he; rw [Ex hS he]; exact hb
  ·cases hb
 ·exact hb
 ·cases ha : args.all GH with
  | false => rw [ha] at hb; cases hb
  | true =>
   rw [ha] at hb
   simp only [cond_true] at hb ⊢
   split at hb
   ·rename_i v h' he; rw [Ex hS he]; exact hb
   ·cases hb
 ·split at hb
  ·rename_i v h' he; rw [Ex hS he]; exact hb
  ·cases hb
 ·exact PK hS hb
 ·split at hb
  ·rename_i v h' he; rw [Ex hS he]; exact hb
  ·cases hb
 ·exact PD hS hb
 ·split at hb
  ·exact Ex hS hb
  ·cases hb
 ·cases hb
theorem HU (C : En) : ∀ n, (Cf C n).le (Cf C (n + 1))
 | 0 => ⟨fun _ _ _ _ _ h => by simp [Cf] at h, fun _ _ _ _ _ _ h => by simp [Cf] at h, fun _ _ _ _ _ h => by simp [Cf] at h⟩
 | n + 1 => ⟨fun _ _ _ _ _ h => PH (HU C n) h, fun _ _ _ _ _ _ h => BT (HU C n) h, fun _ _ _ _ _ h => OI (HU C n) h⟩
theorem Self.le_refl (S : Self) : S.le S := ⟨fun _ _ _ _ _ h => h, fun _ _ _ _ _ _ h => h, fun _ _ _ _ _ h => h⟩
theorem Self.le.trans {S T U : Self} (h : S.le T) (k : T.le U) : S.le U := ⟨fun _ _ _ _ _ x => k.1 _ _ _ _ _ (h.1 _ _ _ _ _ x), fun _ _ _ _ _ _ x => k.2.1 _ _ _ _ _ _ (h.2.1 _ _ _ _ _ _ x), fun _ _ _ _ _ x => k.2.2 _ _ _ _ _ (h.2.2 _ _ _ _ _ x)⟩
theorem Dg (C : En) {n m : Nat} (h : n ≤ m) : (Cf C n).le (Cf C m) := by
 induction h with
 | refl => exact Self.le_refl _
 | step h ih => exact ih.trans (HU C _)
end
end Go.Av
