/-
 A part.
-/
import Derived.Test.YtlljeoogceblmaaGreatDoorAvRun
namespace Go.Av
set_option linter.unusedVariables false
set_option linter.unusedSimpArgs false
def Self.le (S S' : Self) : Prop := (∀ g h f args x, S.call g h f args = some x → S'.call g h f args = some x) ∧ (∀ g f c fr h x, S.loop g f c fr h = some x → S'.loop g f c fr h = some x) ∧ ∀ g h l args x, S.round g h l args = some x → S'.round g h l args = some x
section
variable {C : FY} {S S' : Self}
theorem I5 (hS : S.le S') {g : Gd} {h : AD} {fr : Fr} {op : Op} {x : AA × AD} (hs : A0 C S g h fr op = some x) : A0 C S' g h fr op = some x := by
 unfold A0 at hs ⊢
 split at hs
 ·split at hs
  ·exact hS.1 _ _ _ _ _ hs
  ·exact hS.2.2 _ _ _ _ _ hs
  ·cases hs
 ·exact hs
theorem D8 (hS : S.le S') {g : Gd} {ops : Array Oper} : ∀ {l : List Oper} {fr : Fr} {h : AD} {x : Fr × AD}, Cq C S g ops l fr h = some x → Cq C S' g ops l fr h = some x
 | [], fr, h, x, hx => hx
 | o :: l, fr, h, x, hx => by
  unfold Cq at hx ⊢
  split at hx
  ·split at hx
   ·rename_i v h' hs
    simp only [I5 hS hs]
    exact D8 hS hx
   ·cases hx
  ·exact D8 hS hx
  ·cases hx
theorem Fk (hS : S.le S') {g : Gd} {ops : Array Oper} : ∀ {l : List (Nat × List Nat)} {tch : List (Nat × Nat)} {fr : Fr} {h : AD} {x : Fr × AD}, Bl C S g ops l tch fr h = some x → Bl C S' g ops l tch fr h = some x
 | [], tch, fr, h, x, hx => hx
 | (i, U) :: l, tch, fr, h, x, hx => by
  unfold Bl at hx ⊢
  split at hx
  ·cases hx
  ·split at hx
   ·split at hx
    ·rename_i v h' hs
     simp only [I5 hS hs]
     cases hre : M6 C ops U (put fr _ v) h' with
     | false => rw [hre] at hx; cases hx
     | true => rw [hre] at hx; exact Fk hS hx
    ·cases hx
   ·exact Fk hS hx
   ·cases hx
theorem BX (hS : S.le S') {f : FuncId} {g : Gd} : ∀ {c : Code} {fr : Fr} {h : AD} {x : BN × Fr × AD}, Az C S f g c fr h = some x → Az C S' f g c fr h = some x := by
 intro c
 induction c with
 | skip => intro fr h x hx; exact hx
 | label l => intro fr h x hx; exact hx
 | exit id => intro fr h x hx; exact hx
 | ret => intro fr h x hx; exact hx
 | goto l => intro fr h x hx; exact hx
 | refuse s => intro fr h x hx; exact hx
 | rangeFunc y ps a b iha ihb =>
  intro fr h x hx
  simp only [Az] at hx ⊢
  split at hx
  ·rename_i f' first cap hev
   cases hbd : Ns C.P f' with
   | false => rw [hbd] at hx; cases hx
   | true =>
    rw [hbd] at hx
    simp only [Bool.not_true, cond_false] at hx ⊢
    split at hx
    ·rename_i v0 h2 hc
     rw [hS.1 _ _ _ _ _ hc]
     exact hx
    ·cases hx
  ·cases hx
 | region id ops draw =>
  intro fr h x hx
  simp only [Az] at hx ⊢
  cases draw with
  | true =>
   simp only [cond_true] at hx ⊢
   split at hx
   ·rename_i fr' h' hr; rw [Fk hS hr]; exact hx
   ·cases hx
  | false =>
   simp only [cond_false] at hx ⊢
   split at hx
   ·rename_i fr' h' hr; rw [D8 hS hr]; exact hx
   ·cases hx
 | seq a b iha ihb =>
  intro fr h x hx
  simp only [Az] at hx ⊢
  split at hx
  ·rename_i fr' h' ha; rw [iha ha]; exact ihb hx
  ·rename_i hne
   have := iha hx
   rw [this]
   split
   ·rename_i fr' h' he
    exact absurd (hx.trans he) (hne _ _)
   ·rfl
 | cond c a b iha ihb =>
  intro fr h x hx
  simp only [Az] at hx ⊢
  split at hx
  ·exact iha hx
  ·exact ihb hx
  ·cases hx
 | block id c ih =>
  intro fr h x hx
  simp only [Az] at hx ⊢
  split at hx
  ·rename_i i fr' h' ha; rw [ih ha]; exact hx
  ·rename_i hne
   rw [ih hx]
   split
   ·rename_i i fr' h' he
    exact absurd (hx.trans he) (hne _ _ _)
   ·rfl
 | loop c ih =>
  intro fr h x hx
  simp only [Az] at hx ⊢
  split at hx
  ·rename_i fr' h' ha; rw [ih ha]; exact hS.2.1 _ _ _ _ _ _ hx
  ·rename_i hne
   rw [ih hx]
   split
   ·rename_i fr' h' he
    exact absurd (hx.trans he) (hne _ _)
   ·rfl
 | scope c ih =>
  intro fr h x hx
  simp only [Az] at hx ⊢
  exact ih hx
theorem Ni (hS : S.le S') {f : FuncId} {g : Gd} : ∀ {c : Code} {fr : Fr} {h : AD} {x : BN × Fr × AD}, Hu C S f g c fr h = some x → Hu C S' f g c fr h = some x := by
 have base : ∀ {c : Code} {fr : Fr} {h : AD} {x : BN × Fr × AD}, (bif KA c then H8 C S g c fr h else Az C S f g c fr h) = some x → (bif KA c then H8 C S' g c fr h else Az C S' f g c fr h) = some x := by
  intro c fr h x hx
  cases hs : KA c with
  | false => rw [hs] at hx; exact BX hS hx
  | true =>
   rw [hs] at hx
   simp only [cond_true] at hx ⊢
   unfold H8 at hx ⊢
   split at hx
   ·split at hx
    ·split at hx
     ·split at hx
      ·rename_i fr' h' hr; simp only [D8 hS hr]; exact hx
      ·cases hx
     ·cases hx
    ·cases hx
   ·cases hx
 intro c
 induction c with
 | seq a b iha ihb =>
  intro fr h x hx
  simp only [Hu] at hx ⊢
  split at hx
  ·rename_i fr' h' ha; rw [iha ha]; exact ihb hx
  ·rename_i hne
   have := iha hx
   rw [this]
   split
   ·rename_i fr' h' he
    exact absurd (hx.trans he) (hne _ _)
   ·rfl
 | _ => intro fr h x hx; simp only [Hu] at hx ⊢; exact base hx
theorem Si (hS : S.le S') {g : Gd} {h : AD} {f : FuncId} {args : List AA} {x : AA × AD} (hb : Pf C S g h f args = some x) : Pf C S' g h f args = some x := by
 unfold Pf at hb ⊢
 split at hb
 ·cases hb
 ·split at hb
  ·cases hb
  ·split at hb
   ·rename_i fr' h' he; rw [Ni hS he]; exact hb
   ·rename_i fr' h' he; rw [Ni hS he]; exact hb
   ·cases hb
theorem N0 (hS : S.le S') {f : FuncId} {q : Ry} {ks rs : List Nat} {it : Nat} {tI te : Tmp} {rest : List Oper} {hh : AD} {ob : PG} {σ : Fr × List AA} {p : AA × AA} {x : Bool × Fr × List AA} (hx : IM C S f q ks rs it tI te rest hh ob σ p = some x) : IM C S' f q ks rs it tI te rest hh ob σ p = some x := by
 unfold IM at hx ⊢
 split at hx
 ·rename_i fr2 h2 hr
  rw [D8 hS hr]
  simp only
  split at hx
  ·rename_i he; rw [BX hS he]; exact hx
  ·rename_i he; rw [BX hS he]; exact hx
  ·rename_i he; rw [BX hS he]; exact hx
  ·cases hx
 ·cases hx
theorem Gb {α β : Type} {r r' : α → β → Option (Bool × α)} (h : ∀ {a b x}, r a b = some x → r' a b = some x) : ∀ (l : List β) {a : α} {x : Bool × α}, Cd r l a = some x → Cd r' l a = some x
 | [], a, x, hx => hx
 | p :: l, a, x, hx => by
  simp only [Cd] at hx ⊢
  cases hp : r a p with
  | none => rw [hp] at hx; cases hx
  | some y =>
   rw [hp] at hx
   rw [h hp]
   obtain ⟨b, z⟩ := y
   cases b with
   | true => exact hx
   | false => exact Gb h l hx
theorem S6 {r r' : Fr × List AA → AA × AA → Option (Bool × Fr × List AA)} (h : ∀ {a b x}, r a b = some x → r' a b = some x) {es : List (AA × AA)} {σ : Fr × List AA} {hh : AD} {ob : PG} {x : BN × Fr × AD} (hx : Pl C r es σ hh ob = some x) : Pl C r' es σ hh ob = some x := by
 unfold Pl at hx ⊢
 split at hx
 ·rename_i hf
  rw [Gb h _ hf]
  simp only
  obtain ⟨hd, hx⟩ := Jr hx
  rw [C.dec.2.2 _ _ hd fun k es' hp => Gb h _ (k es' hp)]
  exact hx
 ·cases hx
theorem OX (hS : S.le S') {f : FuncId} {q : Ry} {g : Gd} {ks rs : List Nat} {ot : Option Tmp} {orng : Oper} {fr1 : Fr} {h1 : AD} {x : BN × Fr × AD} (hx : Ma C S f q g ks rs ot orng fr1 h1 = some x) : Ma C S' f q g ks rs ot orng fr1 h1 = some x := by
 unfold Ma at hx ⊢
 split at hx
 rotate_left
 ·cases hx
 split at hx
 rotate_left
 ·cases hx
 split at hx
 rotate_left
 ·cases hx
 ·obtain ⟨hc, hx⟩ := Jr hx
  rw [hc]
  simp only [cond_true]
  exact S6 (fun hr => N0 hS hr) hx
theorem Ss (hS : S.le S') {f : FuncId} {q : Ry} {g : Gd} {fr : Fr} {h : AD} {x : BN × Fr × AD} (hx : LM C S f q g fr h = some x) : LM C S' f q g fr h = some x := by
 unfold LM at hx ⊢
 split at hx
 rotate_left
 ·cases hx
 rename_i ks rs ot orng fr1 h1 hmk hlast hpre
 rw [hmk, hlast, D8 hS hpre]
 exact OX hS hx
theorem Iw (hS : S.le S') {f : FuncId} {g : Gd} : ∀ {c : Code} {fr : Fr} {h : AD} {x : BN × Fr × AD}, Et C S f g c fr h = some x → Et C S' f g c fr h = some x := by
 intro c
 induction c with
 | seq a b iha ihb =>
  intro fr h x hx
  simp only [Et] at hx ⊢
  split at hx
  ·exact Ss hS hx
  ·split at hx
   ·rename_i fr' h' ha; rw [iha ha]; exact ihb hx
   ·rename_i hne
    have := iha hx
    rw [this]
    split
    ·rename_i fr' h' he
     exact absurd (hx.trans he) (hne _ _)
    ·rfl
 | _ => intro fr h x hx; simp only [Et] at hx ⊢; exact BX hS hx
theorem SP (hS : S.le S') {g : Gd} {h : AD} {f : FuncId} {args : List AA} {x : AA × AD} (hb : OU C S g h f args = some x) : OU C S' g h f args = some x := by
 unfold OU at hb ⊢
 split at hb
 ·cases hb
 ·split at hb
  ·cases hb
  ·split at hb
   ·rename_i fr' h' he; rw [Iw hS he]; exact hb
   ·rename_i fr' h' he; rw [Iw hS he]; exact hb
   ·cases hb
theorem RR (hS : S.le S') {g : Gd} {h : AD} {l : Nat} {args : List AA} {x : AA × AD} (hb : MT C S g h l args = some x) : MT C S' g h l args = some x := by
 unfold MT at hb ⊢
 split at hb
 ·cases hc : (Nat.beq args.length _ && (g.may l && C.Xq _ _ _)) with
  | false => rw [hc] at hb; cases hb
  | true =>
   rw [hc] at hb
   simp only [cond_true] at hb ⊢
   split at hb
   ·rename_i fr1 h1 hx1
    rw [BX hS hx1]
    simp only
    split at hb
    ·split at hb
     ·rename_i fr2 h3 hx2; rw [BX hS hx2]; exact hb
     ·rename_i fr2 h3 hx2; rw [BX hS hx2]; exact hb
     ·rename_i i fr2 h3 hx2; rw [BX hS hx2]; exact hb
     ·cases hb
    ·cases hb
   ·cases hb
 ·cases hb
theorem GA (hS : S.le S') {g : Gd} {h : AD} {f : FuncId} {args : List AA} {x : AA × AD} (hb : HZ C S g h f args = some x) : HZ C S' g h f args = some x := by
 unfold HZ at hb ⊢
 split at hb
 ·cases hb
 ·split at hb
  ·cases hb
  ·split at hb
   ·rename_i fr' h' he; rw [BX hS he]; exact hb
   ·rename_i fr' h' he; rw [BX hS he]; exact hb
   ·cases hb
theorem TD (hS : S.le S') {g : Gd} {h : AD} {f : FuncId} {args : List AA} {x : AA × AD} (hb : Gm C S g h f args = some x) : Gm C S' g h f args = some x := by
 unfold Gm at hb ⊢
 split at hb
 ·exact GA hS hb
 ·split at hb
  ·rename_i v h' he; rw [GA hS he]; exact hb
  ·cases hb
 ·exact hb
 ·cases ha : args.all HK with
  | false => rw [ha] at hb; cases hb
  | true =>
   rw [ha] at hb
   simp only [cond_true] at hb ⊢
   split at hb
   ·rename_i v h' he; rw [GA hS he]; exact hb
   ·cases hb
 ·split at hb
  ·rename_i v h' he; rw [GA hS he]; exact hb
  ·cases hb
 ·exact Si hS hb
 ·split at hb
  ·rename_i v h' he; rw [GA hS he]; exact hb
  ·cases hb
 ·exact SP hS hb
 ·split at hb
  ·exact GA hS hb
  ·cases hb
 ·cases hb
theorem I0 (C : FY) : ∀ n, (CR C n).le (CR C (n + 1))
 | 0 => ⟨fun _ _ _ _ _ h => by simp [CR] at h, fun _ _ _ _ _ _ h => by simp [CR] at h, fun _ _ _ _ _ h => by simp [CR] at h⟩
 | n + 1 => ⟨fun _ _ _ _ _ h => TD (I0 C n) h, fun _ _ _ _ _ _ h => BX (I0 C n) h, fun _ _ _ _ _ h => RR (I0 C n) h⟩
theorem Self.le_refl (S : Self) : S.le S := ⟨fun _ _ _ _ _ h => h, fun _ _ _ _ _ _ h => h, fun _ _ _ _ _ h => h⟩
theorem Self.le.trans {S T U : Self} (h : S.le T) (k : T.le U) : S.le U := ⟨fun _ _ _ _ _ x => k.1 _ _ _ _ _ (h.1 _ _ _ _ _ x), fun _ _ _ _ _ _ x => k.2.1 _ _ _ _ _ _ (h.2.1 _ _ _ _ _ _ x), fun _ _ _ _ _ x => k.2.2 _ _ _ _ _ (h.2.2 _ _ _ _ _ x)⟩
theorem Cz (C : FY) {n m : Nat} (h : n ≤ m) : (CR C n).le (CR C m) := by
 induction h with
 | refl => exact Self.le_refl _
 | step h ih => exact ih.trans (I0 C _)
end
end Go.Av
