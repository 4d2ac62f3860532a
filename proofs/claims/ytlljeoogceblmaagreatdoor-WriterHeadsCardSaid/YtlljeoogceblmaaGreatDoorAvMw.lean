/-
 A part.
-/
import Derived.Test.YtlljeoogceblmaaGreatDoorAvMap
import Derived.Test.YtlljeoogceblmaaGreatDoorAvCo
namespace Go.Av
set_option linter.unusedVariables false
set_option linter.unusedSimpArgs false
def Bg {κ σ ρ : Type} (step : κ → σ → Option (σ ⊕ ρ)) : List κ → σ → Option (σ ⊕ ρ)
 | [], s => some (.inl s)
 | k :: l, s =>
  match step k s with
  | some (.inl s') => Bg step l s'
  | r => r
def Sn {κ σ ρ : Type} (step : κ → σ → Option (σ ⊕ ρ)) (a b : κ) (s : σ) : Option (σ ⊕ ρ) :=
 match step a s with
 | some (.inl s') => step b s'
 | r => r
theorem Ps {κ σ ρ : Type} {step : κ → σ → Option (σ ⊕ ρ)} {a b : κ} {l : List κ} {s : σ} : Bg step (a :: b :: l) s = match Sn step a b s with | some (.inl s') => Bg step l s' | r => r := by
 unfold Sn
 simp only [Bg]
 cases step a s with
 | none => rfl
 | some x =>
  cases x with
  | inl s' => rfl
  | inr r => rfl
theorem Lo {κ σ ρ : Type} {step : κ → σ → Option (σ ⊕ ρ)} {l : List κ} (P : σ → Prop) (hP : ∀ a ∈ l, ∀ s s', P s → step a s = some (.inl s') → P s') (hc : ∀ a ∈ l, ∀ b ∈ l, ∀ s, P s → Sn step a b s = Sn step b a s) :
  ∀ l', l'.Perm l → ∀ s, P s → Bg step l' s = Bg step l s := by
 have key : ∀ {l1 l2 : List κ}, l1.Perm l2 → (∀ a ∈ l1, a ∈ l) → ∀ s, P s → Bg step l1 s = Bg step l2 s := by
  intro l1 l2 h
  induction h with
  | nil => intro _ s _; rfl
  | cons x _ ih =>
   intro hm s hs
   simp only [Bg]
   cases hx : step x s with
   | none => rfl
   | some y =>
    cases y with
    | inl s' => exact ih (fun a ha => hm a (by simp [ha])) s' (hP x (hm x (by simp)) s s' hs hx)
    | inr r => rfl
  | swap x y r =>
   intro hm s hs
   rw [Ps, Ps, hc y (hm y (by simp)) x (hm x (by simp)) s hs]
  | trans h1 h2 ih1 ih2 =>
   intro hm s hs
   rw [ih1 hm s hs]
   exact ih2 (fun a ha => hm a (h1.mem_iff.2 ha)) s hs
 exact fun l' h s hs => key h (fun a ha => h.mem_iff.1 ha) s hs
def Vn : List (Nat × Nat × List Nat × List Nat × Option Nat) → FuncId → Nat → Option (List Nat × List Nat × Option Tmp)
 | [], _, _ => none
 | (f', b', x) :: r, f, b => bif Nat.beq f' f && Nat.beq b' b then some x else Vn r f b
def Jm (i : Nat) : List (Nat × AB) → AB
 | [] => .undef
 | (k, v) :: r => bif Nat.beq k i then v else Jm i r
def fK (N : Nat) (l : List (Nat × AB)) : Fr := (List.range N).map fun i => Jm i l
theorem Pq {fr : Fr} {i : Nat} : ∀ {l : List (Nat × AB)}, (∀ p ∈ l, nth fr p.1 = p.2) → Jm i l = bif (l.map (·.1)).any (Nat.beq i) then nth fr i else .undef
 | [], _ => rfl
 | (k, v) :: r, h => by
  have ih := Pq (fr := fr) (i := i) (l := r) fun p hp => h p (by simp [hp])
  have h0 : nth fr k = v := h (k, v) (by simp)
  simp only [Jm, List.map_cons, List.any_cons]
  cases hb : Nat.beq k i with
  | true =>
   have e := Nat.eq_of_beq_eq_true hb
   subst e
   simp [Nat.beq_refl, h0]
  | false =>
   have : Nat.beq i k = false := by
    cases h2 : Nat.beq i k with
    | false => rfl
    | true => rw [Nat.eq_of_beq_eq_true h2, Nat.beq_refl] at hb; cases hb
   rw [this, Bool.false_or]
   exact ih
theorem Up {ks : List Nat} {fr : Fr} {G : Nat → AB} (h : ∀ i, i < fr.length → (bif ks.any (Nat.beq i) then nth fr i else .undef) = G i) : Dy ks 0 fr = (List.range fr.length).map G := by
 refine List.ext_getElem (by rw [CZ]; simp) fun i h1 h2 => ?_
 rw [CZ] at h1
 have e := I6 ks 0 fr i h1
 rw [Nat.zero_add] at e
 have e2 : nth (Dy ks 0 fr) i = (Dy ks 0 fr)[i]'(by rw [CZ]; exact h1) := by
  rw [EZ, List.getD_eq_getElem?_getD, List.getElem?_eq_getElem (by rw [CZ]; exact h1)]; rfl
 rw [← e2, e, h i h1]
 simp
theorem Oc {fr : Fr} {N : Nat} {l : List (Nat × AB)} (H : Has fr N l) {ks : List Nat} (hk : l.map (·.1) = ks) : Dy ks 0 fr = fK N l := by
 subst hk
 rw [Up (G := fun i => Jm i l) fun i hi => (Pq H.2).symm, H.1]
 rfl
theorem WM {N i : Nat} {l : List (Nat × AB)} (hi : i < N) : nth (fK N l) i = Jm i l := by
 rw [EZ, List.getD_eq_getElem?_getD, List.getElem?_eq_getElem (by simp [fK]; exact hi)]
 simp [fK]
theorem UW {i : Nat} {l : List (Nat × AB)} : Jm i l = .undef ∨ ∃ p ∈ l, Jm i l = p.2 := by
 induction l with
 | nil => exact .inl rfl
 | cons p r ih =>
  obtain ⟨k, v⟩ := p
  simp only [Jm]
  cases Nat.beq k i with
  | true => exact .inr ⟨(k, v), by simp, rfl⟩
  | false =>
   rcases ih with h | ⟨p, hp, h⟩
   ·exact .inl h
   ·exact .inr ⟨p, by simp [hp], h⟩
theorem Has.OI {fr : Fr} {N : Nat} {l : List (Nat × AB)} (H : Has fr N l) {t : Nat} {v : AB} (ht : t < N) (hn : (l.map (·.1)).any (Nat.beq t) = false) : Has (fr.set t v) N ((t, v) :: l) := by
 refine ⟨by rw [List.length_set]; exact H.1, fun p hp => ?_⟩
 rcases List.mem_cons.1 hp with rfl | hp
 ·rw [EY, if_pos ⟨rfl, by rw [H.1]; exact ht⟩]
 ·rw [EY, if_neg]
  ·exact H.2 p hp
  ·rintro ⟨e, _⟩
   have : (l.map (·.1)).any (Nat.beq t) = true := List.any_eq_true.2 ⟨p.1, List.mem_map.2 ⟨p, hp, rfl⟩, by rw [e]; exact Nat.beq_refl _⟩
   rw [this] at hn
   cases hn
theorem WO {N n : Nat} {l : List (Nat × AB)} (h : ∀ p ∈ l, ID n p.2 = true) : (fK N l).all (ID n) = true := by
 rw [List.all_eq_true]
 intro v hv
 obtain ⟨i, _, rfl⟩ := List.mem_map.1 hv
 rcases UW (i := i) (l := l) with e | ⟨p, hp, e⟩
 ·rw [e]; rfl
 ·rw [e]; exact h p hp
theorem NC {k : Nat} {v : AB} : ∀ {l : List (Nat × AB)}, (l.map (·.1)).Nodup → (k, v) ∈ l → Jm k l = v
 | (k', v') :: r, hn, hm => by
  rw [List.map_cons, List.nodup_cons] at hn
  simp only [Jm]
  rcases List.mem_cons.1 hm with e | hm
  ·cases e; rw [Nat.beq_refl]; rfl
  ·cases hb : Nat.beq k' k with
   | true =>
    have e := Nat.eq_of_beq_eq_true hb
    exact absurd (List.mem_map.2 ⟨(k, v), hm, e.symm⟩) hn.1
   | false => exact NC hn.2 hm
theorem QB {N : Nat} {l : List (Nat × AB)} (hn : (l.map (·.1)).Nodup) (hk : ∀ k ∈ l.map (·.1), k < N) : Has (fK N l) N l :=
 ⟨by simp [fK], fun p hp => by rw [WM (hk p.1 (List.mem_map.2 ⟨p, hp, rfl⟩))]; exact NC hn hp⟩
theorem Qs {κ β : Type} {f : κ → β} {l : List κ} : ∀ {es : List β}, es.Perm (l.map f) → ∃ l' : List κ, l'.Perm l ∧ es = l'.map f := by
 have key : ∀ {a b : List β}, a.Perm b → ∀ {l : List κ}, b = l.map f → ∃ l' : List κ, l'.Perm l ∧ a = l'.map f := by
  intro a b h
  induction h with
  | nil => intro l e; cases l with | nil => exact ⟨[], .nil, rfl⟩ | cons x r => cases e
  | cons x _ ih =>
   intro l e
   cases l with
   | nil => cases e
   | cons y r =>
    injection e with e1 e2
    obtain ⟨l', h1, h2⟩ := ih e2
    exact ⟨y :: l', h1.cons y, by rw [e1, h2]; rfl⟩
  | swap x y r =>
   intro l e
   match l, e with
   | a :: b :: r', e =>
    injection e with e1 e2
    injection e2 with e2 e3
    exact ⟨b :: a :: r', List.Perm.swap a b r', by rw [e1, e2, e3]; rfl⟩
  | trans _ _ ih1 ih2 =>
   intro l e
   obtain ⟨l1, h1, h2⟩ := ih2 e
   obtain ⟨l2, h3, h4⟩ := ih1 h2
   exact ⟨l2, h3.trans h1, h4⟩
 intro es h
 exact key h rfl
theorem P4 {α : Type} {P : Nat → α → Prop} (hm : ∀ {n m a}, n ≤ m → P n a → P m a) : ∀ (l : List α), (∀ a ∈ l, ∃ n, P n a) → ∃ n, ∀ a ∈ l, P n a
 | [], _ => ⟨0, fun a h => by cases h⟩
 | a :: l, h => by
  obtain ⟨n, hn⟩ := h a (by simp)
  obtain ⟨m, hm'⟩ := P4 (P := P) hm l fun b hb => h b (by simp [hb])
  refine ⟨max n m, fun b hb => ?_⟩
  rcases List.mem_cons.1 hb with rfl | hb
  ·exact hm (Nat.le_max_left _ _) hn
  ·exact hm (Nat.le_max_right _ _) (hm' b hb)
section
variable {κ σ ρ : Type} {step : κ → σ → Option (σ ⊕ ρ)} {enc : κ → AB × AB} {rnd : Nat → Fr × List AB → AB × AB → Option (Bool × Fr × List AB)} {st : σ → Fr × List AB} {rt : ρ → Fr × List AB}
def QP (st : σ → Fr × List AB) (rt : ρ → Fr × List AB) : σ ⊕ ρ → Bool × Fr × List AB
 | .inl s => (false, st s)
 | .inr r => (true, rt r)
theorem OW (hm : ∀ {n m a b x}, n ≤ m → rnd n a b = some x → rnd m a b = some x) : ∀ (k : Nat) (l : List κ) (s : σ), l.length = k →
  (∀ p ∈ l, ∀ s q, step p s = some q → ∃ n, rnd n (st s) (enc p) = some (QP st rt q)) → (∀ l', l'.Perm l → ∃ x, Bg step l' s = some x) → ∃ n, ∀ l', l'.Perm l → ∀ x, Bg step l' s = some x → C2 (rnd n) (l'.map enc) (st s) = some (QP st rt x)
 | 0, l, s, hl, hr, hs => by
  have : l = [] := List.eq_nil_of_length_eq_zero hl
  subst this
  refine ⟨0, fun l' hp x hx => ?_⟩
  have : l' = [] := hp.eq_nil
  subst this
  simp only [Bg, Option.some.injEq] at hx
  subst hx
  rfl
 | k + 1, l, s, hl, hr, hs => by
  have key : ∃ n, ∀ p ∈ l, ∀ l2, (p :: l2).Perm l → ∀ x, Bg step (p :: l2) s = some x → C2 (rnd n) ((p :: l2).map enc) (st s) = some (QP st rt x) := by
   refine P4 (P := fun n p => ∀ l2, (p :: l2).Perm l → ∀ x, Bg step (p :: l2) s = some x → C2 (rnd n) ((p :: l2).map enc) (st s) = some (QP st rt x)) (fun hle h l2 hp x hx => G7 (fun hr => hm hle hr) _ (h l2 hp x hx)) l fun p hp => ?_
   obtain ⟨l0, hl0⟩ : ∃ l0, (p :: l0).Perm l := by
    obtain ⟨a, b, rfl⟩ := List.append_of_mem hp
    exact ⟨a ++ b, List.perm_middle.symm⟩
   cases hst : step p s with
   | none =>
    obtain ⟨x, hx⟩ := hs _ hl0
    simp only [Bg, hst] at hx
    cases hx
   | some q =>
    obtain ⟨n1, hn1⟩ := hr p hp s q hst
    cases q with
    | inr r =>
     refine ⟨n1, fun l2 _ x hx => ?_⟩
     simp only [Bg, hst, Option.some.injEq] at hx
     subst hx
     simp only [List.map_cons, C2, hn1, QP]
    | inl s' =>
     have hlen : l0.length = k := by have := hl0.length_eq; simp only [List.length_cons] at this; omega
     obtain ⟨n2, hn2⟩ := OW hm k l0 s' hlen (fun p' hp' => hr p' (hl0.mem_iff.1 (by simp [hp']))) (fun l' hl' => by
      obtain ⟨x, hx⟩ := hs (p :: l') ((hl'.cons p).trans hl0)
      simp only [Bg, hst] at hx
      exact ⟨x, hx⟩)
     refine ⟨max n1 n2, fun l2 h2 x hx => ?_⟩
     simp only [Bg, hst] at hx
     have := hn2 l2 ((h2.trans hl0.symm).cons_inv) x hx
     simp only [List.map_cons, C2, hm (Nat.le_max_left n1 n2) hn1, QP]
     exact G7 (fun hr => hm (Nat.le_max_right n1 n2) hr) _ this
  obtain ⟨n, hn⟩ := key
  refine ⟨n, fun l' hp x hx => ?_⟩
  cases l' with
  | nil => have := hp.length_eq; simp [hl] at this
  | cons p l2 => exact hn p (hp.mem_iff.1 (by simp)) l2 hp x hx
end
structure PX (C : Ft) (f : FuncId) (g : Gd) (c : Code) (fr : Fr) (h : AD) (Q : By → Fr → AD → Prop) : Prop where
 ex : ∃ n e fr' h', FN C (Cy C n) f g c fr h = some (e, fr', h') ∧ Q e fr' h'
def W1 (c : Code) : Bool := (Oy c).isSome
def VJ : Code → Bool
 | .seq a b => !W1 (.seq a b) && (VJ a && VJ b)
 | _ => true
def Pd (c : Code) : R3 := (Oy c).getD ⟨#[], 0, #[], 0, 0, #[], .skip⟩
section
variable {C : Ft} {f : FuncId} {g : Gd} {c : Code} {fr : Fr} {h : AD} {Q : By → Fr → AD → Prop} {N : Nat}
theorem TA {S : Self} : ∀ (c : Code), VJ c = true → ∀ (fr : Fr) (h : AD), FN C S f g c fr h = BI C S f g c fr h := by
 intro c
 induction c with
 | seq a b iha ihb =>
  intro hn fr h
  simp only [VJ, Bool.and_eq_true, Bool.not_eq_true'] at hn
  have : Oy (.seq a b) = none := by
   have := hn.1
   unfold W1 at this
   cases hq : Oy (.seq a b) with
   | none => rfl
   | some q => rw [hq] at this; cases this
  simp only [FN, this, BI, iha hn.2.1]
  cases BI C S f g a fr h with
  | none => rfl
  | some x =>
   obtain ⟨e, fr1, h1⟩ := x
   cases e with
   | normal => exact ihb hn.2.2 _ _
   | exit i => rfl
   | ret => rfl
 | _ => intro _ fr h; simp only [FN]
theorem Io (hh : AW C f g c fr h Q) (hs : VJ c = true := by kernel_rfl) : PX C f g c fr h Q := by
 obtain ⟨n, e, fr', h', h1, h2⟩ := hh.ex
 exact ⟨⟨n, e, fr', h', by rw [TA c hs]; exact h1, h2⟩⟩
theorem Fh (hh : PX C f g (left c) fr h (MU (fun fr h => PX C f g (right c) fr h Q) Q)) (hs : shape c = .seq := by kernel_rfl) (hm : W1 c = false := by kernel_rfl) : PX C f g c fr h Q := by
 cases c <;> simp [shape] at hs
 simp only [left, right] at hh
 rename_i a b
 have hno : Oy (.seq a b) = none := by
  unfold W1 at hm
  cases hq : Oy (.seq a b) with
  | none => rfl
  | some q => rw [hq] at hm; cases hm
 obtain ⟨n, e, fr1, h1, hx, hq⟩ := (hh).ex
 cases e with
 | normal =>
  obtain ⟨m, e2, fr2, h2, hx2, hq2⟩ := hq.ex
  refine ⟨⟨max n m, e2, fr2, h2, ?_, hq2⟩⟩
  simp only [FN, hno, JT (D1 C (Nat.le_max_left n m)) hx, JT (D1 C (Nat.le_max_right n m)) hx2]
 | exit id => exact ⟨⟨n, _, _, _, by simp only [FN, hno, hx], hq⟩⟩
 | ret => exact ⟨⟨n, _, _, _, by simp only [FN, hno, hx], hq⟩⟩
def aq (C : Ft) (f : FuncId) (g : Gd) (q : R3) (ks rs : List Nat) (ot : Option Tmp) (fr : Fr) (h : AD) (Q : By → Fr → AD → Prop) : Prop :=
 ∃ n o e fr' h', q.o8.toList.getLast? = some o ∧ NU C (Cy C n) f q g ks rs ot o fr h = some (e, fr', h') ∧ Q e fr' h'
theorem JX {S : Self} {ops : Array Oper} : ∀ (k i : Nat) (tch : List (Nat × Nat)) (fr : Fr) (h : AD), i + k ≤ ops.size → Bw C S g ops (E6 i k) tch fr h = DR C S g ops ((ops.toList.drop i).take k) fr h
 | 0, i, tch, fr, h, e => by rw [List.take_zero]; rfl
 | k + 1, i, tch, fr, h, e => by
  have hi : i < ops.size := by omega
  have hl : i < ops.toList.length := by rw [Array.length_toList]; exact hi
  rw [List.drop_eq_getElem_cons hl, List.take_succ_cons, E6, Bw, DR, Array.getElem?_eq_getElem hi]
  simp only [Array.getElem_toList]
  cases B7 ops fr ops[i] with
  | none => rfl
  | some b =>
   cases b with
   | false => exact JX k (i + 1) _ _ _ (by omega)
   | true =>
    simp only [Gj, List.nil_append]
    cases A7 C S g h fr ops[i].op with
    | none => rfl
    | some x => exact JX k (i + 1) _ _ _ (by omega)
theorem dropLast_take {α : Type} : ∀ (l : List α) (n : Nat), l.length = n + 1 → l.take n = l.dropLast
 | [a], 0, _ => rfl
 | a :: b :: l, n + 1, h => by
  have := dropLast_take (b :: l) n (by simpa using h)
  simp only [List.take_succ_cons, List.dropLast_cons_cons, this]
 | [], n, h => by cases h
 | [a], n + 1, h => by simp at h
 | a :: b :: l, 0, h => by simp at h
def Zf (C : Ft) (f : FuncId) (c : Code) (n8 : Nat) : Bool := W1 c && Nat.beq (Pd c).o8.size (n8 + 1)
theorem Nu (n8 : Nat) (ks rs : List Nat) (ot : Option Tmp) (hh : AT C g (Pd c).o8 (E6 0 n8) [] fr h (fun fr1 h1 => aq C f g (Pd c) ks rs ot fr1 h1 Q)) (hs : Zf C f c n8 = true := by kernel_rfl) (hk : C.Wd f (Pd c).b = some (ks, rs, ot) := by kernel_rfl) (hq : shape c = .seq := by kernel_rfl) : PX C f g c fr h Q := by
 simp only [Zf, Bool.and_eq_true] at hs
 have hsz := Nat.eq_of_beq_eq_true hs.2
 obtain ⟨q, hm⟩ := Option.isSome_iff_exists.1 hs.1
 have hp : Pd c = q := by simp only [Pd, hm]; rfl
 rw [hp] at hh hk hsz
 obtain ⟨n1, fr1, h1, hr, n2, o, e, fr2, h2, hl, ht, hQ⟩ := hh
 rw [JX _ _ _ _ _ (by omega), List.drop_zero, dropLast_take _ _ (by rw [Array.length_toList]; exact hsz)] at hr
 refine ⟨⟨max n1 n2, e, fr2, h2, ?_, hQ⟩⟩
 cases c <;> simp [shape] at hq
 simp only [FN, hm]
 unfold MX
 rw [hk, hl, Ez (D1 C (Nat.le_max_left n1 n2)) hr]
 exact On (D1 C (Nat.le_max_right n1 n2)) ht
def RY : Option Oper → Option (TypeId × Operand × Tmp)
 | some o =>
  match o.op, o.dst, o.guard with
  | .range tM x, some tI, none => some (tM, x, tI)
  | _, _, _ => none
 | none => none
theorem Wa {o : Oper} {tM : TypeId} {x : Operand} {tI : Tmp} (h : RY (some o) = some (tM, x, tI)) : o.op = .range tM x ∧ o.dst = some tI ∧ o.guard = none := by
 unfold RY at h
 simp only at h
 split at h
 ·cases h; exact ⟨by assumption, by assumption, by assumption⟩
 ·cases h
def aw {σ ρ : Type} (b2 N : Nat) (ob : PT) (X : σ → List (Nat × AB)) (Y : ρ → List (Nat × AB)) (oc : σ → List AB) (rc : ρ → List AB) (x : σ ⊕ ρ) : By → Fr → AD → Prop := fun e fr h =>
 ((e = .normal ∨ e = .exit b2) ∧ ∃ s, x = .inl s ∧ Has fr N (X s) ∧ OS ob h = some (oc s)) ∨ (e = .ret ∧ ∃ r, x = .inr r ∧ Has fr N (Y r) ∧ OS ob h = some (rc r))
def K5 (q : R3) (ks : List Nat) (N tI tn te n10 : Nat) : Bool :=
 decide (W3 q.o9 tI q.tb = some tn) && decide ((VV q.Q0 tI).map (·.1) = some te) && Nat.beq q.Q0.size (n10 + 1) && OT ks N tn q.tb && (!ks.any (Nat.beq te) && Nat.blt te N) && (decide ks.Nodup && ks.all fun k => Nat.blt k N)
theorem NM {κ σ ρ : Type} {step : κ → σ → Option (σ ⊕ ρ)} {l : List κ} {s0 : σ} {x0 : σ ⊕ ρ} {enc : κ → AB × AB} {V : σ → List (Nat × AB)} {Y : ρ → List (Nat × AB)} {oc : σ → List AB} {rc : ρ → List AB}
  {q : R3} {ks rs : List Nat} {ot : Option Tmp} {fr1 : Fr} {h1 : AD} {ob : PT} {id tI tn te n10 : Nat} {tM kt et : TypeId} {y : Operand}
  (hrng : RY q.o8.toList.getLast? = some (tM, y, tI)) (hU : C.P.underlying tM = some (.map kt et)) (hsl : K5 q ks N tI tn te n10 = true) (hks : ∀ s, tI :: (V s).map (·.1) = ks) (hrs : ∀ r, (Y r).map (·.1) = rs)
  (hev : ev fr1 y = .map (some id)) (hget : h1.get id = some (.map 2 (l.map enc))) (hmay : g.may id = true) (hobj : Q6 h1 fr1 ot = some (ob, oc s0)) (hmayO : UL g ob = true) (hflat : (oc s0).all LK = true)
  (hH : Has (fr1.set tI (.ptr (some (h1.size, 0)))) N ((tI, .ptr (some (h1.size, 0))) :: V s0))
  (hold : ∀ s, ∀ p ∈ V s, ID (h1.size + 1) p.2 = true) (holdY : ∀ r, ∀ p ∈ Y r, ID (h1.size + 1) p.2 = true) (hdec : C.dec = Qm)
  (hcom : ∀ l', l'.Perm l → Bg step l' s0 = some x0)
  (hR : ∀ p ∈ l, ∀ s x, step p s = some x → ∀ fr, Has fr N ((te, .tuple [(enc p).1, (enc p).2]) :: (tI, .ptr (some (h1.size, 0))) :: V s) →
   AT C (Mi (h1.size + 1) ob) q.Q0 (E6 1 n10) [] fr (C4 ((h1.set id (.map 0 [])).push (.cells none 0 [])) ob (oc s)) (fun fr h => AW C f (Mi (h1.size + 1) ob) q.body fr h (aw q.b2 N ob (fun s => (tI, .ptr (some (h1.size, 0))) :: V s) Y oc rc x))) :
  ∃ n o, q.o8.toList.getLast? = some o ∧ NU C (Cy C n) f q g ks rs ot o fr1 h1 = some (match x0 with
   | .inl s => (.normal, fK N ((tI, .ptr (some (h1.size, 0))) :: V s), C4 ((h1.set id (.map 0 [])).push (.cells none 0 [])) ob (oc s))
   | .inr r => (.ret, fK N (Y r), C4 ((h1.set id (.map 0 [])).push (.cells none 0 [])) ob (rc r))) := by
 obtain ⟨o, ho⟩ : ∃ o, q.o8.toList.getLast? = some o := by
  cases e : q.o8.toList.getLast? with
  | none => rw [e] at hrng; cases hrng
  | some o => exact ⟨o, rfl⟩
 rw [ho] at hrng
 obtain ⟨o1, o2, o3⟩ := Wa hrng
 simp only [K5, Bool.and_eq_true, decide_eq_true_eq, Bool.not_eq_true', Nat.blt_eq] at hsl
 obtain ⟨⟨⟨⟨⟨q1, q2⟩, q3⟩, q4⟩, q5, q6⟩, q7, q8⟩ := hsl
 have q3 := Nat.eq_of_beq_eq_true q3
 obtain ⟨⟨te', rest⟩, hen, e'⟩ := Option.map_eq_some_iff.1 q2
 have e'' : te' = te := e'
 subst e''
 obtain ⟨en, hl10, _, _, _⟩ := TW hen
 have hN : fr1.length = N := by have := hH.1; rwa [List.length_set] at this
 have hk0 : Dy ks 0 (fr1.set tI (.ptr (some (h1.size, 0)))) = fK N ((tI, .ptr (some (h1.size, 0))) :: V s0) := Oc hH (hks s0)
 have hallX : ∀ s, (fK N ((tI, .ptr (some (h1.size, 0))) :: V s)).all (ID (h1.size + 1)) = true := fun s => WO fun p hp => by
  rcases List.mem_cons.1 hp with rfl | hp
  ·simp [ID, Qo]
  ·exact hold s p hp
 have htI : tI < N := by
  have := hH.2 (tI, .ptr (some (h1.size, 0))) (by simp)
  rcases Nat.lt_or_ge tI N with hlt | hge
  ·exact hlt
  ·rw [Oi (by rw [hH.1]; exact hge)] at this
   cases this
 have hat : ∀ s, Lu h1.size (nth (fK N ((tI, .ptr (some (h1.size, 0))) :: V s)) tI) = true := fun s => by
  rw [WM htI]
  simp [Jm, Nat.beq_refl, Lu]
 have hhsz : ((h1.set id (.map 0 [])).push (.cells none 0 [])).size = h1.size + 1 := by simp
 obtain ⟨n, hn⟩ := OW (rnd := fun n => JH C (Cy C n) f q ks rs h1.size tI te' rest ((h1.set id (.map 0 [])).push (.cells none 0 [])) ob) (enc := enc) (st := fun s => (fK N ((tI, .ptr (some (h1.size, 0))) :: V s), oc s)) (rt := fun r => (fK N (Y r), rc r))
  (fun hle hx => OA (D1 C hle) hx) l.length l s0 rfl (fun p hp s x hx => by
   obtain ⟨k1, fr2, h2, hr, k2, e, fr3, h3, hx3, hQ⟩ := (show AT C (Mi (h1.size + 1) ob) q.Q0 (E6 1 n10) [] ((fK N ((tI, .ptr (some (h1.size, 0))) :: V s)).set te' (.tuple [(enc p).1, (enc p).2])) (C4 ((h1.set id (.map 0 [])).push (.cells none 0 [])) ob (oc s)) (fun fr h => ∃ n e fr' h', BI C (Cy C n) f (Mi (h1.size + 1) ob) q.body fr h = some (e, fr', h') ∧ aw q.b2 N ob (fun s => (tI, .ptr (some (h1.size, 0))) :: V s) Y oc rc x e fr' h') from by
    have hX : Has (fK N ((tI, .ptr (some (h1.size, 0))) :: V s)) N ((tI, .ptr (some (h1.size, 0))) :: V s) := by
     exact QB (by rw [List.map_cons, hks s]; exact q7) fun k hk => by
      rw [List.map_cons, hks s] at hk
      simpa using List.all_eq_true.1 q8 k hk
    have := hR p hp s x hx _ (hX.OI q6 (by rw [List.map_cons, hks s]; exact q5))
    obtain ⟨a, b, c, d, hAW⟩ := this
    exact ⟨a, b, c, d, hAW.ex⟩)
   rw [Ih _ _ _ _ _ (by omega), hl10, List.drop_one, List.tail_cons] at hr
   refine ⟨max k1 k2, ?_⟩
   unfold JH
   simp only [hhsz]
   rw [Ez (D1 C (Nat.le_max_left k1 k2)) hr]
   simp only [DY (D1 C (Nat.le_max_right k1 k2)) hx3]
   rcases hQ with ⟨he, s', rfl, hs', ho'⟩ | ⟨rfl, r, rfl, hr', ho'⟩
   ·have e1 := Oc hs' (hks s')
    have e2 : Lu h1.size (nth fr3 tI) = true := by
     rw [hs'.2 (tI, .ptr (some (h1.size, 0))) (by simp)]
     simp [Lu]
    rcases he with rfl | rfl
    ·simp only [e2, cond_true, O8, e1, hallX, ho', Option.map_some]; rfl
    ·simp only [e2, Nat.beq_refl, Bool.and_self, cond_true, O8, e1, hallX, ho', Option.map_some]; rfl
   ·have e1 := Oc hr' (hrs r)
    simp only [O8, e1, WO (holdY r), cond_true, ho', Option.map_some]; rfl)
  (fun l' hl' => ⟨x0, hcom l' hl'⟩)
 refine ⟨n, o, ho, ?_⟩
 unfold NU
 simp only [o1, o2, o3, hev, hU, q1, hen, hget, hobj]
 rw [hk0, hallX, hat, hmay, hmayO, hflat, hN, q4]
 simp only [Bool.and_self, cond_true]
 unfold P2
 have hmain := hn l (List.Perm.refl l) x0 (hcom l (List.Perm.refl l))
 rw [hmain]
 have hd : C.dec.1 (∀ es' : List (AB × AB), es'.Perm (l.map enc) → C2 (JH C (Cy C n) f q ks rs h1.size tI te' rest ((h1.set id (.map 0 [])).push (.cells none 0 [])) ob) es' (fK N ((tI, .ptr (some (h1.size, 0))) :: V s0), oc s0) = some (QP (fun s => (fK N ((tI, .ptr (some (h1.size, 0))) :: V s), oc s)) (fun r => (fK N (Y r), rc r)) x0)) = true := by
  rw [hdec]
  refine @decide_eq_true _ (Classical.propDecidable _) fun es' hp => ?_
  obtain ⟨l', hl', rfl⟩ := Qs hp
  exact hn l' hl' x0 (hcom l' hl')
 cases x0 with
 | inl s =>
  simp only [QP] at hd ⊢
  rw [hd]
  rfl
 | inr r =>
  simp only [QP] at hd ⊢
  rw [hd]
  rfl
inductive JU (n : Nat) : List (Nat × AB) → Prop where
 | nil : JU n []
 | cons {k : Nat} {v : AB} {l : List (Nat × AB)} : ID n v = true → JU n l → JU n ((k, v) :: l)
theorem JU.all {n : Nat} {l : List (Nat × AB)} (h : JU n l) : ∀ p ∈ l, ID n p.2 = true := by
 induction h with
 | nil => intro p hp; cases hp
 | cons h1 _ ih =>
  intro p hp
  rcases List.mem_cons.1 hp with rfl | hp
  ·exact h1
  ·exact ih p hp
theorem HH.Ye {L F : List Ck} (a : HH g h L F) (k : Nat) {id : Nat} {o : Bm} (hk : L[k]? = some (.obj id o)) (j : Nat) : ID (h.size + 1) (.ptr (some (id, j))) = true := by
 have := h.BC (a.get k hk)
 simp only [ID, Qo]
 rw [Nat.blt_eq]
 omega
def ag {σ ρ : Type} (b2 N : Nat) (X : σ → List (Nat × AB)) (Y : ρ → List (Nat × AB)) (x : σ ⊕ ρ) : By → Fr → AD → Prop := fun e fr h =>
 ((e = .normal ∨ e = .exit b2) ∧ ∃ s, x = .inl s ∧ Has fr N (X s)) ∨ (e = .ret ∧ ∃ r, x = .inr r ∧ Has fr N (Y r))
theorem HH.none_ {n : Nat} {h : AD} (hn : h.size = n) : HH ⟨n, []⟩ h [] [] := ⟨fun c hc => (by cases hc), by simp [Cr], fun i hi => (by simp [Cr] at hi), fun i hi => (by cases hi), by rw [hn]; exact Nat.le_refl _⟩
theorem RA {κ σ ρ : Type} {step : κ → σ → Option (σ ⊕ ρ)} {l : List κ} {s0 : σ} {x0 : σ ⊕ ρ} {enc : κ → AB × AB} {V : σ → List (Nat × AB)} {Y : ρ → List (Nat × AB)} {L F : List Ck} {Ag : List (Nat × AB)}
  {c : Code} {ks rs : List Nat} {fr1 : Fr} {h1 : AD} (k : Nat) {id : Nat} (tI tn te n10 : Nat) (tM kt et : TypeId) (y : Operand)
  (A : HH g h1 L F) (H : Has fr1 N Ag) (hm : Bg step l s0 = some x0) (hcom : ∀ l', l'.Perm l → Bg step l' s0 = Bg step l s0)
  (hk : L[k]? = some (.obj id (.map 2 (l.map enc)))) (hev : ∀ fr, ev (Cb N Ag fr) y = .map (some id)) (hV0 : ∀ fr, (V s0).map (fun p => nth (Cb N Ag fr) p.1) = (V s0).map (·.2))
  (hks : ∀ s, tI :: (V s).map (·.1) = ks) (hrs : ∀ r, (Y r).map (·.1) = rs) (hold : ∀ s, JU (h1.size + 1) (V s)) (holdY : ∀ r, JU (h1.size + 1) (Y r))
  (hR : ∀ p, p ∈ l → ∀ s x, step p s = some x → ∀ fr h (it : AB) g F, HH g h [] F → Has fr N ((te, .tuple [(enc p).1, (enc p).2]) :: (tI, it) :: V s) →
   AT C g (Pd c).Q0 (E6 1 n10) [] fr h (fun fr h => AW C f g (Pd c).body fr h (ag (Pd c).b2 N (fun s => (tI, it) :: V s) Y x)))
  (hQ : ∀ s, x0 = .inl s → ∀ fr h, HH g h (L.eraseIdx k) F → Has fr N (V s) → Q .normal fr h) (hQr : ∀ r, x0 = .inr r → ∀ fr h, HH g h (L.eraseIdx k) F → Has fr N (Y r) → Q .ret fr h)
  (hrng : RY (Pd c).o8.toList.getLast? = some (tM, y, tI) := by kernel_rfl) (hU : C.P.underlying tM = some (.map kt et) := by kernel_rfl) (hsl : K5 (Pd c) ks N tI tn te n10 = true := by kernel_rfl) (hrl : (decide rs.Nodup && rs.all fun k => Nat.blt k N) = true := by kernel_rfl) (hdec : C.dec = Qm := by rfl) :
  aq C f g (Pd c) ks rs none fr1 h1 Q := by
 have hev' : ev fr1 y = .map (some id) := by have := hev fr1; rw [EA H] at this; exact this
 have hV0' := hV0 fr1
 rw [EA H] at hV0'
 have hget := A.get k hk
 have hmay := A.ML hk (i := id) (by simp [Ck.ids])
 have hsl' := hsl
 simp only [K5, Bool.and_eq_true, decide_eq_true_eq] at hsl'
 obtain ⟨_, hnd, hlt⟩ := hsl'
 have hHV : Has fr1 N (V s0) := Has.of_map H.1 hV0'
 have hkN : tI < N := by
  have := List.all_eq_true.1 hlt tI (by rw [← hks s0]; simp)
  simpa using this
 have hH : Has (fr1.set tI (.ptr (some (h1.size, 0)))) N ((tI, .ptr (some (h1.size, 0))) :: V s0) := hHV.OI hkN (by
  have := hks s0
  rw [← this, List.nodup_cons] at hnd
  rw [Bool.eq_false_iff]
  intro ha
  obtain ⟨j, hj, e⟩ := List.any_eq_true.1 ha
  exact hnd.1 (by rw [Nat.eq_of_beq_eq_true e]; exact hj))
 obtain ⟨n, o, ho, hrun⟩ := NM (C := C) (f := f) (g := g) (N := N) (step := step) (l := l) (s0 := s0) (x0 := x0) (enc := enc) (V := V) (Y := Y) (oc := fun _ => []) (rc := fun _ => []) (q := Pd c) (ks := ks) (rs := rs) (ot := none) (fr1 := fr1) (h1 := h1) (ob := none) hrng hU hsl hks hrs hev' hget hmay rfl rfl rfl hH
  (fun s => (hold s).all) (fun r => (holdY r).all) hdec (fun l' hl' => (hcom l' hl').trans hm)
  (fun p hp s x hx fr hfr => by
   obtain ⟨a, b, d, hr, hAW⟩ := hR p hp s x hx fr ((h1.set id (.map 0 [])).push (.cells none 0 [])) _ ⟨h1.size + 1, []⟩ [] (HH.none_ (by simp)) hfr
   refine ⟨a, b, d, hr, ⟨?_⟩⟩
   obtain ⟨n2, e, fr', h', he, hq⟩ := hAW.ex
   refine ⟨n2, e, fr', h', he, ?_⟩
   rcases hq with ⟨q1, s', q2, q3⟩ | ⟨q1, r, q2, q3⟩
   ·exact .inl ⟨q1, s', q2, q3, rfl⟩
   ·exact .inr ⟨q1, r, q2, q3, rfl⟩)
 have hA' : HH g ((h1.set id (.map 0 [])).push (.cells none 0 [])) (L.eraseIdx k) F := by
  have a1 : HH g ((h1.set id (.map 0 [])).push (.cells none 0 [])) (L.set k (.obj id (.map 0 []))) F := A.RN hk (by simp) (fun i hi hn => by
   rw [AD.Bj _ _ (by simpa using hi), AD.BL _ _ (h1.BC hget) (by simpa [Ck.ids] using hn)]) (by
   show AD.get _ id = _
   rw [AD.Bj _ _ (by simpa using h1.BC hget), AD.get_set_same _ _ (h1.BC hget)]) (fun i hi => .inl hi) (fun i hi => by
   have : i = id := by simpa [Ck.ids] using hi
   rw [this]; exact hmay)
  have hkl : k < L.length := (List.getElem?_eq_some_iff.1 hk).1
  have a2 := (a1.front k (c := .obj id (.map 0 [])) (by rw [List.getElem?_set_self hkl])).tail
  rwa [List.eraseIdx_set_eq] at a2
 have hX : ∀ s, Has (fK N ((tI, .ptr (some (h1.size, 0))) :: V s)) N (V s) := fun s => by
  have := QB (N := N) (l := (tI, .ptr (some (h1.size, 0))) :: V s) (by rw [List.map_cons, hks s]; exact hnd) fun k hk => by
   rw [List.map_cons, hks s] at hk
   simpa using List.all_eq_true.1 hlt k hk
  exact ⟨this.1, fun p hp => this.2 p (by simp [hp])⟩
 refine ⟨n, o, _, _, _, ho, hrun, ?_⟩
 cases x0 with
 | inl s => exact hQ s rfl _ _ hA' (hX s)
 | inr r =>
  simp only [Bool.and_eq_true, decide_eq_true_eq] at hrl
  exact hQr r rfl _ _ hA' (QB (by rw [hrs r]; exact hrl.1) fun k hk => by
   rw [hrs r] at hk
   simpa using List.all_eq_true.1 hrl.2 k hk)
theorem UJ (xs : List UInt8) : (Ag eY xs).all LK = true := by
 induction xs with
 | nil => rfl
 | cons x r ih =>
  have : Ag eY (x :: r) = (.int .u8 x.toNat) :: Ag eY r := rfl
  rw [this, List.all_cons, ih]
  rfl
theorem VH {n id : Nat} {gr : Option TypeId} : (Mi n (some (id, gr))).may id = true := by
 have : ((List.range n).filter fun k => !Nat.beq k id).any (Nat.beq id) = false := by
  rw [Bool.eq_false_iff]
  intro h
  obtain ⟨j, hj, e⟩ := List.any_eq_true.1 h
  have e' := Nat.eq_of_beq_eq_true e
  have := (List.mem_filter.1 hj).2
  rw [← e', Nat.beq_refl] at this
  cases this
 simp [Gd.may, Mi, this]
def aN {σ : Type} (b2 N : Nat) (g : Gd) (F : List Ck) (rid : Nat) (e : TypeId) (row : σ → List UInt8) (X : σ → List (Nat × AB)) (x : σ ⊕ Empty) : By → Fr → AD → Prop := fun ex fr h =>
 (ex = .normal ∨ ex = .exit b2) ∧ ∃ s, x = .inl s ∧ Has fr N (X s) ∧ HH g h [.Ag (some rid) e (Ag eY (row s))] F
theorem RP {κ σ : Type} {step : κ → σ → Option (σ ⊕ Empty)} {l : List κ} {s0 : σ} {x0 : σ ⊕ Empty} {enc : κ → AB × AB} {V : σ → List (Nat × AB)} {row : σ → List UInt8} {L F : List Ck} {lst0 : List (Nat × AB)}
  {c : Code} {ks : List Nat} {fr1 : Fr} {h1 : AD} (k j : Nat) {id : Nat} (rid : Nat) {e : TypeId} (tI tn te ot n10 : Nat) (tM kt et : TypeId) (y : Operand)
  (A : HH g h1 L F) (H : Has fr1 N lst0) (hm : Bg step l s0 = some x0) (hcom : ∀ l', l'.Perm l → Bg step l' s0 = Bg step l s0)
  (hk : L[k]? = some (.obj id (.map 2 (l.map enc)))) (hj : L[j]? = some (.Ag (some rid) e (Ag eY (row s0)))) (hkj : k ≠ j) (hev : ∀ fr, ev (Cb N lst0 fr) y = .map (some id)) (hV0 : ∀ fr, ((ot, AP (some rid) (row s0).length) :: V s0).map (fun p => nth (Cb N lst0 fr) p.1) = ((ot, AP (some rid) (row s0).length) :: V s0).map (·.2))
  (hks : ∀ s, tI :: ot :: (V s).map (·.1) = ks) (hold : ∀ s, JU (h1.size + 1) (V s))
  (hR : ∀ p, p ∈ l → ∀ s x, step p s = some x → ∀ fr h (it : AB) g F, HH g h [.Ag (some rid) e (Ag eY (row s))] F → Has fr N ((te, .tuple [(enc p).1, (enc p).2]) :: (tI, it) :: (ot, AP (some rid) (row s).length) :: V s) →
   AT C g (Pd c).Q0 (E6 1 n10) [] fr h (fun fr h => AW C f g (Pd c).body fr h (aN (Pd c).b2 N g F rid e row (fun s => (tI, it) :: (ot, AP (some rid) (row s).length) :: V s) x)))
  (hQ : ∀ s, x0 = .inl s → ∀ fr h, HH g h ((L.set j (.Ag (some rid) e (Ag eY (row s)))).eraseIdx k) F → Has fr N ((ot, AP (some rid) (row s).length) :: V s) → Q .normal fr h)
  (hrng : RY (Pd c).o8.toList.getLast? = some (tM, y, tI) := by kernel_rfl) (hU : C.P.underlying tM = some (.map kt et) := by kernel_rfl) (hsl : K5 (Pd c) ks N tI tn te n10 = true := by kernel_rfl) (hdec : C.dec = Qm := by rfl) :
  aq C f g (Pd c) ks [] (some ot) fr1 h1 Q := by
 have hev' : ev fr1 y = .map (some id) := by have := hev fr1; rw [EA H] at this; exact this
 have hV0' := hV0 fr1
 rw [EA H] at hV0'
 have hget := A.get k hk
 have hgetO : h1.get rid = some (.cells (some e) 2 (Ag eY (row s0))) := A.mem hj
 have hridl := h1.BC hgetO
 have hmay := A.ML hk (i := id) (by simp [Ck.ids])
 have hmayO := A.ML hj (i := rid) (by simp [Ck.ids])
 have hsl' := hsl
 simp only [K5, Bool.and_eq_true, decide_eq_true_eq] at hsl'
 obtain ⟨_, hnd, hlt⟩ := hsl'
 have hHV : Has fr1 N ((ot, AP (some rid) (row s0).length) :: V s0) := Has.of_map H.1 hV0'
 have hkN : tI < N := by
  have := List.all_eq_true.1 hlt tI (by rw [← hks s0]; simp)
  simpa using this
 have hH : Has (fr1.set tI (.ptr (some (h1.size, 0)))) N ((tI, .ptr (some (h1.size, 0))) :: (ot, AP (some rid) (row s0).length) :: V s0) := hHV.OI hkN (by
  have := hks s0
  rw [← this, List.nodup_cons] at hnd
  rw [Bool.eq_false_iff]
  intro ha
  obtain ⟨q, hq, e⟩ := List.any_eq_true.1 ha
  exact hnd.1 (by rw [Nat.eq_of_beq_eq_true e]; exact hq))
 have hne : rid ≠ id := by
  intro e
  subst e
  have := hget.symm.trans hgetO
  cases this
 have hold' : ∀ s, ∀ p ∈ (ot, AP (some rid) (row s).length) :: V s, ID (h1.size + 1) p.2 = true := fun s p hp => by
  rcases List.mem_cons.1 hp with rfl | hp
  ·show Nat.blt rid (h1.size + 1) = true
   rw [Nat.blt_eq]
   omega
  ·exact (hold s).all p hp
 obtain ⟨n, o, ho, hrun⟩ := NM (C := C) (f := f) (g := g) (N := N) (step := step) (l := l) (s0 := s0) (x0 := x0) (enc := enc) (V := fun s => (ot, AP (some rid) (row s).length) :: V s) (Y := fun _ => []) (oc := fun s => Ag eY (row s)) (rc := fun _ => []) (q := Pd c) (ks := ks) (rs := []) (ot := some ot) (fr1 := fr1) (h1 := h1) (ob := some (rid, some e)) hrng hU hsl hks (fun _ => rfl) hev' hget hmay
  (by
   have := hHV.2 (ot, AP (some rid) (row s0).length) (by simp)
   simp only [Q6, this, AP, Option.map_some, hgetO]) hmayO (UJ _) hH hold' (fun r => r.elim) hdec (fun l' hl' => (hcom l' hl').trans hm)
  (fun p hp s x hx fr hfr => by
   have hget' : (C4 ((h1.set id (.map 0 [])).push (.cells none 0 [])) (some (rid, some e)) (Ag eY (row s))).get rid = some (.cells (some e) 2 (Ag eY (row s))) := AD.get_set_same _ _ (by simp; omega)
   have hA0 : HH (Mi (h1.size + 1) (some (rid, some e))) (C4 ((h1.set id (.map 0 [])).push (.cells none 0 [])) (some (rid, some e)) (Ag eY (row s))) [.Ag (some rid) e (Ag eY (row s))] [] := by
    refine ⟨fun c hc => ?_, by simp [Cr, Ck.ids], fun i hi => ?_, fun i hi => ?_, Nat.zero_le _⟩
    ·have : c = .Ag (some rid) e (Ag eY (row s)) := by simpa using hc
     subst this
     exact hget'
    ·have : i = rid := by simpa [Cr, Ck.ids] using hi
     subst this
     exact VH
    ·rw [Gx]
     have := (List.mem_filter.1 hi).1
     simpa using this
   obtain ⟨a, b, d, hr, hAW⟩ := hR p hp s x hx fr _ _ _ [] hA0 hfr
   refine ⟨a, b, d, hr, ⟨?_⟩⟩
   obtain ⟨n2, ex, fr', h', he, hq⟩ := hAW.ex
   refine ⟨n2, ex, fr', h', he, ?_⟩
   obtain ⟨q1, s', q2, q3, q4⟩ := hq
   refine .inl ⟨q1, s', q2, q3, ?_⟩
   have hg' : h'.get rid = some (.cells (some e) 2 (Ag eY (row s'))) := q4.mem (k := 0) rfl
   simp only [OS, hg', UJ, and_self, if_true])
 cases x0 with
 | inr r => exact r.elim
 | inl s =>
  refine ⟨n, o, _, _, _, ho, hrun, hQ s rfl _ _ ?_ ?_⟩
  ·have a0 : HH g (C4 ((h1.set id (.map 0 [])).push (.cells none 0 [])) (some (rid, some e)) (Ag eY (row s))) ((L.set j (.Ag (some rid) e (Ag eY (row s)))).set k (.obj id (.map 0 []))) F := by
    have b1 : HH g (h1.set id (.map 0 [])) (L.set k (.obj id (.map 0 []))) F := A.set k _ hk
    have b2 : HH g ((h1.set id (.map 0 [])).push (.cells none 0 [])) (L.set k (.obj id (.map 0 []))) F := (b1.push _).tail
    have b3 := b2.RN (k := j) (c := .Ag (some rid) e (Ag eY (row s0))) (d := .Ag (some rid) e (Ag eY (row s))) (h' := C4 ((h1.set id (.map 0 [])).push (.cells none 0 [])) (some (rid, some e)) (Ag eY (row s))) (by rw [List.getElem?_set_ne hkj]; exact hj) (by rw [Gx]; exact Nat.le_refl _) (fun i hi hn => AD.BL _ _ (by simp; omega) (by simpa [Ck.ids] using hn)) (AD.get_set_same _ _ (by simp; omega)) (fun i hi => .inl hi) (fun i hi => by
     have : i = rid := by simpa [Ck.ids] using hi
     rw [this]; exact hmayO)
    rw [List.set_comm _ _ hkj] at b3
    exact b3
   have hkl : k < L.length := (List.getElem?_eq_some_iff.1 hk).1
   have a2 := (a0.front k (c := .obj id (.map 0 [])) (by rw [List.getElem?_set_self (by simpa using hkl)])).tail
   rwa [List.eraseIdx_set_eq] at a2
  ·have := QB (N := N) (l := (tI, .ptr (some (h1.size, 0))) :: (ot, AP (some rid) (row s).length) :: V s) (by rw [List.map_cons, List.map_cons, hks s]; exact hnd) fun k hk => by
    rw [List.map_cons, List.map_cons, hks s] at hk
    simpa using List.all_eq_true.1 hlt k hk
   exact ⟨this.1, fun p hp => this.2 p (by simp only [List.mem_cons] at hp ⊢; exact .inr hp)⟩
theorem UC {args args' : List AB} {n : Nat} {rs : List ResultVar} {R : AB → AD → Prop} (hk : C.kind f = 10) (hc : A9 (C.still f) args = args') (hf : JJ C.P f = some (n, rs))
  (hh : PX C f g (GF C.P f) (args' ++ List.replicate (n - args'.length) (.tuple [])) h (fun e fr h' => (e = .ret ∨ e = .normal) ∧ ∃ v, Ma C.P rs fr h' = some v ∧ R v h')) : ∃ v h', BB C g h f args v h' ∧ R v h' := by
 obtain ⟨m, e, fr', h2, hx, hq, v, hv, hR⟩ := hh.ex
 refine ⟨v, h2, ⟨m + 1, ?_⟩, hR⟩
 show Ji C (Cy C m) g h f args = _
 unfold Ji
 rw [hk]
 simp only [hc]
 unfold JJ at hf
 unfold GF at hx
 unfold Oe
 split at hf
 ·rename_i fn hfn
  split at hf
  ·rename_i c hcc
   simp only [Option.some.injEq, Prod.mk.injEq] at hf
   obtain ⟨rfl, rfl⟩ := hf
   simp only [hfn, hcc] at hx ⊢
   rcases hq with rfl | rfl
   ·rw [hx]; simp only; rw [show D4 C.P fn fr' h2 = some v from hv]; rfl
   ·rw [hx]; simp only; rw [show D4 C.P fn fr' h2 = some v from hv]; rfl
  ·cases hf
 ·cases hf
theorem V9 {c : Code} {Q : By → Fr → AD → Prop} {args : List AB} {n : Nat} (ins : List (Nat × AB)) (hl : (args ++ List.replicate (n - args.length) (AB.tuple [])).length = n) (hi : ins.map (fun p => nth (args ++ List.replicate (n - args.length) (AB.tuple [])) p.1) = ins.map (·.2))
  (hh : ∀ fr, Has fr n ins → PX C f g c fr h Q) : PX C f g c (args ++ List.replicate (n - args.length) (.tuple [])) h Q := hh _ (Has.of_map hl hi)
end
end Go.Av
