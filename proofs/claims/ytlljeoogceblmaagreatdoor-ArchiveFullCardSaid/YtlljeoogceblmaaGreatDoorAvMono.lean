/-
 A part.
-/
import Derived.Test.YtlljeoogceblmaaGreatDoorAvRun
namespace Go.Av
set_option linter.unusedVariables false
set_option linter.unusedSimpArgs false
def Self.le (S S' : Self) : Prop := (∀ g h f args x, S.call g h f args = some x → S'.call g h f args = some x) ∧ (∀ g f c fr h x, S.loop g f c fr h = some x → S'.loop g f c fr h = some x) ∧ ∀ g h l args x, S.round g h l args = some x → S'.round g h l args = some x
section
variable {C : E8} {S S' : Self}
theorem JG (E : S.le S') {g : Gd} {h : AF} {fr : Fr} {op : Op} {x : AB × AF} (G : BO C S g h fr op = some x) : BO C S' g h fr op = some x := by
 unfold BO at G ⊢
 split at G
 ·split at G
  ·exact E.1 _ _ _ _ _ G
  ·exact E.2.2 _ _ _ _ _ G
  ·cases G
 ·exact G
theorem Ea (E : S.le S') {g : Gd} {ops : Array Oper} : ∀ {l : List Oper} {fr : Fr} {h : AF} {x : Fr × AF}, DM C S g ops l fr h = some x → DM C S' g ops l fr h = some x
 | [], fr, h, x, B => B
 | o :: l, fr, h, x, B => by
  unfold DM at B ⊢
  split at B
  ·split at B
   ·rename_i v h' G
    simp only [JG E G]
    exact Ea E B
   ·cases B
  ·exact Ea E B
  ·cases B
theorem F7 (E : S.le S') {g : Gd} {ops : Array Oper} : ∀ {l : List (Nat × List Nat)} {tch : List (Nat × Nat)} {fr : Fr} {h : AF} {x : Fr × AF}, CR C S g ops l tch fr h = some x → CR C S' g ops l tch fr h = some x
 | [], tch, fr, h, x, B => B
 | (i, U) :: l, tch, fr, h, x, B => by
  unfold CR at B ⊢
  split at B
  ·cases B
  ·split at B
   ·split at B
    ·rename_i v h' G
     simp only [JG E G]
     cases J : M6 C ops U (put fr _ v) h' with
     | false => rw [J] at B; cases B
     | true => rw [J] at B; exact F7 E B
    ·cases B
   ·exact F7 E B
   ·cases B
theorem Cu (E : S.le S') {f : FuncId} {g : Gd} : ∀ {c : Code} {fr : Fr} {h : AF} {x : B2 × Fr × AF}, BW C S f g c fr h = some x → BW C S' f g c fr h = some x := by
 intro c
 induction c with
 | skip => intro fr h x B; exact B
 | label l => intro fr h x B; exact B
 | exit id => intro fr h x B; exact B
 | ret => intro fr h x B; exact B
 | goto l => intro fr h x B; exact B
 | refuse s => intro fr h x B; exact B
 | rangeFunc y ps a b iha ihb =>
  intro fr h x B
  exact B
 | region id ops draw =>
  intro fr h x B
  simp only [BW] at B ⊢
  cases draw with
  | true =>
   simp only [cond_true] at B ⊢
   split at B
   ·rename_i fr' h' I; rw [F7 E I]; exact B
   ·cases B
  | false =>
   simp only [cond_false] at B ⊢
   split at B
   ·rename_i fr' h' I; rw [Ea E I]; exact B
   ·cases B
 | seq a b iha ihb =>
  intro fr h x B
  simp only [BW] at B ⊢
  split at B
  ·rename_i fr' h' H; rw [iha H]; exact ihb B
  ·rename_i F
   have := iha B
   rw [this]
   split
   ·rename_i fr' h' he
    exact absurd (B.trans he) (F _ _)
   ·rfl
 | cond c a b iha ihb =>
  intro fr h x B
  simp only [BW] at B ⊢
  split at B
  ·exact iha B
  ·exact ihb B
  ·cases B
 | block id c ih =>
  intro fr h x B
  simp only [BW] at B ⊢
  split at B
  ·rename_i i fr' h' H; rw [ih H]; exact B
  ·rename_i F
   rw [ih B]
   split
   ·rename_i i fr' h' he
    exact absurd (B.trans he) (F _ _ _)
   ·rfl
 | loop c ih =>
  intro fr h x B
  simp only [BW] at B ⊢
  split at B
  ·rename_i fr' h' H; rw [ih H]; exact E.2.1 _ _ _ _ _ _ B
  ·rename_i F
   rw [ih B]
   split
   ·rename_i fr' h' he
    exact absurd (B.trans he) (F _ _)
   ·rfl
 | scope c ih =>
  intro fr h x B
  simp only [BW] at B ⊢
  exact ih B
theorem JF (E : S.le S') {f : FuncId} {g : Gd} : ∀ {c : Code} {fr : Fr} {h : AF} {x : B2 × Fr × AF}, Ff C S f g c fr h = some x → Ff C S' f g c fr h = some x := by
 have base : ∀ {c : Code} {fr : Fr} {h : AF} {x : B2 × Fr × AF}, (bif I2 c then Hn C S g c fr h else BW C S f g c fr h) = some x → (bif I2 c then Hn C S' g c fr h else BW C S' f g c fr h) = some x := by
  intro c fr h x B
  cases G : I2 c with
  | false => rw [G] at B; exact Cu E B
  | true =>
   rw [G] at B
   simp only [cond_true] at B ⊢
   unfold Hn at B ⊢
   split at B
   ·split at B
    ·split at B
     ·split at B
      ·rename_i fr' h' I; simp only [Ea E I]; exact B
      ·cases B
     ·cases B
    ·cases B
   ·cases B
 intro c
 induction c with
 | seq a b iha ihb =>
  intro fr h x B
  simp only [Ff] at B ⊢
  split at B
  ·rename_i fr' h' H; rw [iha H]; exact ihb B
  ·rename_i F
   have := iha B
   rw [this]
   split
   ·rename_i fr' h' he
    exact absurd (B.trans he) (F _ _)
   ·rfl
 | _ => intro fr h x B; simp only [Ff] at B ⊢; exact base B
theorem RV (E : S.le S') {g : Gd} {h : AF} {f : FuncId} {args : List AB} {x : AB × AF} (D : OB C S g h f args = some x) : OB C S' g h f args = some x := by
 unfold OB at D ⊢
 split at D
 ·cases D
 ·split at D
  ·cases D
  ·split at D
   ·rename_i fr' h' he; rw [JF E he]; exact D
   ·rename_i fr' h' he; rw [JF E he]; exact D
   ·cases D
theorem NL (E : S.le S') {f : FuncId} {q : QW} {ks rs : List Nat} {it : Nat} {tI te : Tmp} {rest : List Oper} {L : AF} {ob : Oq} {σ : Fr × List AB} {p : AB × AB} {x : Bool × Fr × List AB} (B : I1 C S f q ks rs it tI te rest L ob σ p = some x) : I1 C S' f q ks rs it tI te rest L ob σ p = some x := by
 unfold I1 at B ⊢
 split at B
 ·rename_i fr2 h2 I
  rw [Ea E I]
  simp only
  split at B
  ·rename_i he; rw [Cu E he]; exact B
  ·rename_i he; rw [Cu E he]; exact B
  ·rename_i he; rw [Cu E he]; exact B
  ·cases B
 ·cases B
theorem GZ {α β : Type} {r r' : α → β → Option (Bool × α)} (h : ∀ {a b x}, r a b = some x → r' a b = some x) : ∀ (l : List β) {a : α} {x : Bool × α}, DI r l a = some x → DI r' l a = some x
 | [], a, x, B => B
 | p :: l, a, x, B => by
  simp only [DI] at B ⊢
  cases K : r a p with
  | none => rw [K] at B; cases B
  | some y =>
   rw [K] at B
   rw [h K]
   obtain ⟨b, z⟩ := y
   cases b with
   | true => exact B
   | false => exact GZ h l B
theorem Rl {r r' : Fr × List AB → AB × AB → Option (Bool × Fr × List AB)} (h : ∀ {a b x}, r a b = some x → r' a b = some x) {es : List (AB × AB)} {σ : Fr × List AB} {L : AF} {ob : Oq} {x : B2 × Fr × AF} (B : Oo C r es σ L ob = some x) : Oo C r' es σ L ob = some x := by
 unfold Oo at B ⊢
 split at B
 ·rename_i hf
  rw [GZ h _ hf]
  simp only
  obtain ⟨hd, B⟩ := Jz B
  rw [C.dec.2.2 _ _ hd fun k es' K => GZ h _ (k es' K)]
  exact B
 ·cases B
theorem OF (E : S.le S') {f : FuncId} {q : QW} {g : Gd} {ks rs : List Nat} {ot : Option Tmp} {orng : Oper} {fr1 : Fr} {h1 : AF} {x : B2 × Fr × AF} (B : MX C S f q g ks rs ot orng fr1 h1 = some x) : MX C S' f q g ks rs ot orng fr1 h1 = some x := by
 unfold MX at B ⊢
 split at B
 rotate_left
 ·cases B
 split at B
 rotate_left
 ·cases B
 split at B
 rotate_left
 ·cases B
 ·obtain ⟨hc, B⟩ := Jz B
  rw [hc]
  simp only [cond_true]
  exact Rl (fun I => NL E I) B
theorem Rs (E : S.le S') {f : FuncId} {q : QW} {g : Gd} {fr : Fr} {h : AF} {x : B2 × Fr × AF} (B : LW C S f q g fr h = some x) : LW C S' f q g fr h = some x := by
 unfold LW at B ⊢
 split at B
 rotate_left
 ·cases B
 rename_i ks rs ot orng fr1 h1 hmk hlast hpre
 rw [hmk, hlast, Ea E hpre]
 exact OF E B
theorem JK (E : S.le S') {f : FuncId} {g : Gd} : ∀ {c : Code} {fr : Fr} {h : AF} {x : B2 × Fr × AF}, FA C S f g c fr h = some x → FA C S' f g c fr h = some x := by
 intro c
 induction c with
 | seq a b iha ihb =>
  intro fr h x B
  simp only [FA] at B ⊢
  split at B
  ·exact Rs E B
  ·split at B
   ·rename_i fr' h' H; rw [iha H]; exact ihb B
   ·rename_i F
    have := iha B
    rw [this]
    split
    ·rename_i fr' h' he
     exact absurd (B.trans he) (F _ _)
    ·rfl
 | _ => intro fr h x B; simp only [FA] at B ⊢; exact Cu E B
theorem Rt (E : S.le S') {g : Gd} {h : AF} {f : FuncId} {args : List AB} {x : AB × AF} (D : NO C S g h f args = some x) : NO C S' g h f args = some x := by
 unfold NO at D ⊢
 split at D
 ·cases D
 ·split at D
  ·cases D
  ·split at D
   ·rename_i fr' h' he; rw [JK E he]; exact D
   ·rename_i fr' h' he; rw [JK E he]; exact D
   ·cases D
theorem Hp (E : S.le S') {g : Gd} {h : AF} {f : FuncId} {args : List AB} {x : AB × AF} (D : H7 C S g h f args = some x) : H7 C S' g h f args = some x := by
 unfold H7 at D ⊢
 split at D
 ·cases D
 ·split at D
  ·cases D
  ·split at D
   ·rename_i fr' h' he; rw [Cu E he]; exact D
   ·rename_i fr' h' he; rw [Cu E he]; exact D
   ·cases D
theorem RR (E : S.le S') {g : Gd} {h : AF} {f : FuncId} {args : List AB} {x : AB × AF} (D : GF C S g h f args = some x) : GF C S' g h f args = some x := by
 unfold GF at D ⊢
 split at D
 ·exact Hp E D
 ·split at D
  ·rename_i v h' he; rw [Hp E he]; exact D
  ·cases D
 ·exact D
 ·cases H : args.all HX with
  | false => rw [H] at D; cases D
  | true =>
   rw [H] at D
   simp only [cond_true] at D ⊢
   split at D
   ·rename_i v h' he; rw [Hp E he]; exact D
   ·cases D
 ·split at D
  ·rename_i v h' he; rw [Hp E he]; exact D
  ·cases D
 ·exact RV E D
 ·exact Rt E D
 ·split at D
  ·exact Hp E D
  ·cases D
 ·cases D
theorem LN (C : E8) : ∀ n, (Co C n).le (Co C (n + 1))
 | 0 => ⟨fun _ _ _ _ _ h => by simp [Co] at h, fun _ _ _ _ _ _ h => by simp [Co] at h, fun _ _ _ _ _ h => by simp [Co] at h⟩
 | n + 1 => ⟨fun _ _ _ _ _ h => RR (LN C n) h, fun _ _ _ _ _ _ h => Cu (LN C n) h, fun _ _ _ _ x h => nomatch (show none = some x from h)⟩
theorem Self.le_refl (S : Self) : S.le S := ⟨fun _ _ _ _ _ h => h, fun _ _ _ _ _ _ h => h, fun _ _ _ _ _ h => h⟩
theorem Self.le.trans {S T U : Self} (h : S.le T) (k : T.le U) : S.le U := ⟨fun _ _ _ _ _ x => k.1 _ _ _ _ _ (h.1 _ _ _ _ _ x), fun _ _ _ _ _ _ x => k.2.1 _ _ _ _ _ _ (h.2.1 _ _ _ _ _ _ x), fun _ _ _ _ _ x => k.2.2 _ _ _ _ _ (h.2.2 _ _ _ _ _ x)⟩
theorem C7 (C : E8) {n m : Nat} (h : n ≤ m) : (Co C n).le (Co C m) := by
 induction h with
 | refl => exact Self.le_refl _
 | step h ih => exact ih.trans (LN C _)
end
end Go.Av
