/-
 A part.
-/
import Derived.Test.YtlljeoogceblmaaGreatDoorAvMap
import Derived.Test.YtlljeoogceblmaaGreatDoorAvCo
namespace Go.Av
set_option linter.unusedVariables false
set_option linter.unusedSimpArgs false
def CZ {κ σ ρ : Type} (step : κ → σ → Option (σ ⊕ ρ)) : List κ → σ → Option (σ ⊕ ρ)
 | [], s => some (.inl s)
 | k :: l, s =>
  match step k s with
  | some (.inl s') => CZ step l s'
  | r => r
def RQ {κ σ ρ : Type} (step : κ → σ → Option (σ ⊕ ρ)) (a b : κ) (s : σ) : Option (σ ⊕ ρ) :=
 match step a s with
 | some (.inl s') => step b s'
 | r => r
theorem O1 {κ σ ρ : Type} {step : κ → σ → Option (σ ⊕ ρ)} {a b : κ} {l : List κ} {s : σ} : CZ step (a :: b :: l) s = match RQ step a b s with | some (.inl s') => CZ step l s' | r => r := by
 unfold RQ
 simp only [CZ]
 cases step a s with
 | none => rfl
 | some x =>
  cases x with
  | inl s' => rfl
  | inr r => rfl
theorem K5 {κ σ ρ : Type} {step : κ → σ → Option (σ ⊕ ρ)} {l : List κ} (P : σ → Prop) (hP : ∀ a ∈ l, ∀ s s', P s → step a s = some (.inl s') → P s') (hc : ∀ a ∈ l, ∀ b ∈ l, ∀ s, P s → RQ step a b s = RQ step b a s) :
  ∀ l', l'.Perm l → ∀ s, P s → CZ step l' s = CZ step l s := by
 have key : ∀ {l1 l2 : List κ}, l1.Perm l2 → (∀ a ∈ l1, a ∈ l) → ∀ s, P s → CZ step l1 s = CZ step l2 s := by
  intro l1 l2 h
  induction h with
  | nil => intro _ s _; rfl
  | cons x _ ih =>
   intro hm s T
   simp only [CZ]
   cases D : step x s with
   | none => rfl
   | some y =>
    cases y with
    | inl s' => exact ih (fun a ha => hm a (by simp [ha])) s' (hP x (hm x (by simp)) s s' T D)
    | inr r => rfl
  | swap x y r =>
   intro hm s T
   rw [O1, O1, hc y (hm y (by simp)) x (hm x (by simp)) s T]
  | trans h1 h2 ih1 ih2 =>
   intro hm s T
   rw [ih1 hm s T]
   exact ih2 (fun a ha => hm a (h1.mem_iff.2 ha)) s T
 exact fun l' h s T => key h (fun a ha => h.mem_iff.1 ha) s T
def Tq : List (Nat × Nat × List Nat × List Nat × Option Nat) → FuncId → Nat → Option (List Nat × List Nat × Option Tmp)
 | [], _, _ => none
 | (f', b', x) :: r, f, b => bif Nat.beq f' f && Nat.beq b' b then some x else Tq r f b
def JU (i : Nat) : List (Nat × AB) → AB
 | [] => .undef
 | (k, v) :: r => bif Nat.beq k i then v else JU i r
def fK (N : Nat) (l : List (Nat × AB)) : Fr := (List.range N).map fun i => JU i l
theorem PB {fr : Fr} {i : Nat} : ∀ {l : List (Nat × AB)}, (∀ p ∈ l, nth fr p.1 = p.2) → JU i l = bif (l.map (·.1)).any (Nat.beq i) then nth fr i else .undef
 | [], _ => rfl
 | (k, v) :: r, h => by
  have ih := PB (fr := fr) (i := i) (l := r) fun p B => h p (by simp [B])
  have h0 : nth fr k = v := h (k, v) (by simp)
  simp only [JU, List.map_cons, List.any_cons]
  cases hb : Nat.beq k i with
  | true =>
   have e := Nat.eq_of_beq_eq_true hb
   subst e
   simp [Nat.beq_refl, h0]
  | false =>
   have : Nat.beq i k = false := by
    cases h2 : Nat.beq i k with
    | false => rfl
    | true => rw [Nat.eq_of_beq_eq_true h2, Nat.beq_refl] at hb; cases hb
   rw [this, Bool.false_or]
   exact ih
theorem S6 {ks : List Nat} {fr : Fr} {G : Nat → AB} (h : ∀ i, i < fr.length → (bif ks.any (Nat.beq i) then nth fr i else .undef) = G i) : Dr ks 0 fr = (List.range fr.length).map G := by
 refine List.ext_getElem (by rw [Cr]; simp) fun i h1 h2 => ?_
 rw [Cr] at h1
 have e := Ir ks 0 fr i h1
 rw [Nat.zero_add] at e
 have e2 : nth (Dr ks 0 fr) i = (Dr ks 0 fr)[i]'(by rw [Cr]; exact h1) := by
  rw [EW, List.getD_eq_getElem?_getD, List.getElem?_eq_getElem (by rw [Cr]; exact h1)]; rfl
 rw [← e2, e, h i h1]
 simp
theorem Nb {fr : Fr} {N : Nat} {l : List (Nat × AB)} (H : Has fr N l) {ks : List Nat} (hk : l.map (·.1) = ks) : Dr ks 0 fr = fK N l := by
 subst hk
 rw [S6 (G := fun i => JU i l) fun i hi => (PB H.2).symm, H.1]
 rfl
theorem TY {N i : Nat} {l : List (Nat × AB)} (hi : i < N) : nth (fK N l) i = JU i l := by
 rw [EW, List.getD_eq_getElem?_getD, List.getElem?_eq_getElem (by simp [fK]; exact hi)]
 simp [fK]
theorem S7 {i : Nat} {l : List (Nat × AB)} : JU i l = .undef ∨ ∃ p ∈ l, JU i l = p.2 := by
 induction l with
 | nil => exact .inl rfl
 | cons p r ih =>
  obtain ⟨k, v⟩ := p
  simp only [JU]
  cases Nat.beq k i with
  | true => exact .inr ⟨(k, v), by simp, rfl⟩
  | false =>
   rcases ih with h | ⟨p, B, h⟩
   ·exact .inl h
   ·exact .inr ⟨p, by simp [B], h⟩
theorem Has.Nd {fr : Fr} {N : Nat} {l : List (Nat × AB)} (H : Has fr N l) {t : Nat} {v : AB} (ht : t < N) (K : (l.map (·.1)).any (Nat.beq t) = false) : Has (fr.set t v) N ((t, v) :: l) := by
 refine ⟨by rw [List.length_set]; exact H.1, fun p B => ?_⟩
 rcases List.mem_cons.1 B with rfl | B
 ·rw [Ee, if_pos ⟨rfl, by rw [H.1]; exact ht⟩]
 ·rw [Ee, if_neg]
  ·exact H.2 p B
  ·rintro ⟨e, _⟩
   have : (l.map (·.1)).any (Nat.beq t) = true := List.any_eq_true.2 ⟨p.1, List.mem_map.2 ⟨p, B, rfl⟩, by rw [e]; exact Nat.beq_refl _⟩
   rw [this] at K
   cases K
theorem Tg {N n : Nat} {l : List (Nat × AB)} (h : ∀ p ∈ l, Hu n p.2 = true) : (fK N l).all (Hu n) = true := by
 rw [List.all_eq_true]
 intro v hv
 obtain ⟨i, _, rfl⟩ := List.mem_map.1 hv
 rcases S7 (i := i) (l := l) with e | ⟨p, B, e⟩
 ·rw [e]; rfl
 ·rw [e]; exact h p B
theorem Mc {k : Nat} {v : AB} : ∀ {l : List (Nat × AB)}, (l.map (·.1)).Nodup → (k, v) ∈ l → JU k l = v
 | (k', v') :: r, K, hm => by
  rw [List.map_cons, List.nodup_cons] at K
  simp only [JU]
  rcases List.mem_cons.1 hm with e | hm
  ·cases e; rw [Nat.beq_refl]; rfl
  ·cases hb : Nat.beq k' k with
   | true =>
    have e := Nat.eq_of_beq_eq_true hb
    exact absurd (List.mem_map.2 ⟨(k, v), hm, e.symm⟩) K.1
   | false => exact Mc K.2 hm
theorem Pz {N : Nat} {l : List (Nat × AB)} (K : (l.map (·.1)).Nodup) (hk : ∀ k ∈ l.map (·.1), k < N) : Has (fK N l) N l :=
 ⟨by simp [fK], fun p B => by rw [TY (hk p.1 (List.mem_map.2 ⟨p, B, rfl⟩))]; exact Mc K B⟩
theorem Pr {κ β : Type} {f : κ → β} {l : List κ} : ∀ {es : List β}, es.Perm (l.map f) → ∃ l' : List κ, l'.Perm l ∧ es = l'.map f := by
 have key : ∀ {a b : List β}, a.Perm b → ∀ {l : List κ}, b = l.map f → ∃ l' : List κ, l'.Perm l ∧ a = l'.map f := by
  intro a b h
  induction h with
  | nil => intro l e; cases l with | nil => exact ⟨[], .nil, rfl⟩ | cons x r => cases e
  | cons x _ ih =>
   intro l e
   cases l with
   | nil => cases e
   | cons y r =>
    injection e with e1 e2
    obtain ⟨l', h1, h2⟩ := ih e2
    exact ⟨y :: l', h1.cons y, by rw [e1, h2]; rfl⟩
  | swap x y r =>
   intro l e
   match l, e with
   | a :: b :: r', e =>
    injection e with e1 e2
    injection e2 with e2 e3
    exact ⟨b :: a :: r', List.Perm.swap a b r', by rw [e1, e2, e3]; rfl⟩
  | trans _ _ ih1 ih2 =>
   intro l e
   obtain ⟨l1, h1, h2⟩ := ih2 e
   obtain ⟨l2, h3, h4⟩ := ih1 h2
   exact ⟨l2, h3.trans h1, h4⟩
 intro es h
 exact key h rfl
theorem PE {α : Type} {P : Nat → α → Prop} (hm : ∀ {n m a}, n ≤ m → P n a → P m a) : ∀ (l : List α), (∀ a ∈ l, ∃ n, P n a) → ∃ n, ∀ a ∈ l, P n a
 | [], _ => ⟨0, fun a h => by cases h⟩
 | a :: l, h => by
  obtain ⟨n, K⟩ := h a (by simp)
  obtain ⟨m, hm'⟩ := PE (P := P) hm l fun b hb => h b (by simp [hb])
  refine ⟨max n m, fun b hb => ?_⟩
  rcases List.mem_cons.1 hb with rfl | hb
  ·exact hm (Nat.le_max_left _ _) K
  ·exact hm (Nat.le_max_right _ _) (hm' b hb)
section
variable {κ σ ρ : Type} {step : κ → σ → Option (σ ⊕ ρ)} {enc : κ → AB × AB} {rnd : Nat → Fr × List AB → AB × AB → Option (Bool × Fr × List AB)} {st : σ → Fr × List AB} {rt : ρ → Fr × List AB}
def Pq (st : σ → Fr × List AB) (rt : ρ → Fr × List AB) : σ ⊕ ρ → Bool × Fr × List AB
 | .inl s => (false, st s)
 | .inr r => (true, rt r)
theorem N9 (hm : ∀ {n m a b x}, n ≤ m → rnd n a b = some x → rnd m a b = some x) : ∀ (k : Nat) (l : List κ) (s : σ), l.length = k →
  (∀ p ∈ l, ∀ s q, step p s = some q → ∃ n, rnd n (st s) (enc p) = some (Pq st rt q)) → (∀ l', l'.Perm l → ∃ x, CZ step l' s = some x) → ∃ n, ∀ l', l'.Perm l → ∀ x, CZ step l' s = some x → DI (rnd n) (l'.map enc) (st s) = some (Pq st rt x)
 | 0, l, s, hl, hr, T => by
  have : l = [] := List.eq_nil_of_length_eq_zero hl
  subst this
  refine ⟨0, fun l' B x D => ?_⟩
  have : l' = [] := B.eq_nil
  subst this
  simp only [CZ, Option.some.injEq] at D
  subst D
  rfl
 | k + 1, l, s, hl, hr, T => by
  have key : ∃ n, ∀ p ∈ l, ∀ l2, (p :: l2).Perm l → ∀ x, CZ step (p :: l2) s = some x → DI (rnd n) ((p :: l2).map enc) (st s) = some (Pq st rt x) := by
   refine PE (P := fun n p => ∀ l2, (p :: l2).Perm l → ∀ x, CZ step (p :: l2) s = some x → DI (rnd n) ((p :: l2).map enc) (st s) = some (Pq st rt x)) (fun hle h l2 B x D => GZ (fun hr => hm hle hr) _ (h l2 B x D)) l fun p B => ?_
   obtain ⟨l0, hl0⟩ : ∃ l0, (p :: l0).Perm l := by
    obtain ⟨a, b, rfl⟩ := List.append_of_mem B
    exact ⟨a ++ b, List.perm_middle.symm⟩
   cases hst : step p s with
   | none =>
    obtain ⟨x, D⟩ := T _ hl0
    simp only [CZ, hst] at D
    cases D
   | some q =>
    obtain ⟨n1, hn1⟩ := hr p B s q hst
    cases q with
    | inr r =>
     refine ⟨n1, fun l2 _ x D => ?_⟩
     simp only [CZ, hst, Option.some.injEq] at D
     subst D
     simp only [List.map_cons, DI, hn1, Pq]
    | inl s' =>
     have hlen : l0.length = k := by have := hl0.length_eq; simp only [List.length_cons] at this; omega
     obtain ⟨n2, hn2⟩ := N9 hm k l0 s' hlen (fun p' hp' => hr p' (hl0.mem_iff.1 (by simp [hp']))) (fun l' O => by
      obtain ⟨x, D⟩ := T (p :: l') ((O.cons p).trans hl0)
      simp only [CZ, hst] at D
      exact ⟨x, D⟩)
     refine ⟨max n1 n2, fun l2 h2 x D => ?_⟩
     simp only [CZ, hst] at D
     have := hn2 l2 ((h2.trans hl0.symm).cons_inv) x D
     simp only [List.map_cons, DI, hm (Nat.le_max_left n1 n2) hn1, Pq]
     exact GZ (fun hr => hm (Nat.le_max_right n1 n2) hr) _ this
  obtain ⟨n, K⟩ := key
  refine ⟨n, fun l' B x D => ?_⟩
  cases l' with
  | nil => have := B.length_eq; simp [hl] at this
  | cons p l2 => exact K p (B.mem_iff.1 (by simp)) l2 B x D
end
structure Og (C : E8) (f : FuncId) (g : Gd) (c : Code) (fr : Fr) (h : AF) (Q : B2 → Fr → AF → Prop) : Prop where
 ex : ∃ n e fr' h', FA C (Co C n) f g c fr h = some (e, fr', h') ∧ Q e fr' h'
def Ua (c : Code) : Bool := (ON c).isSome
def Ui : Code → Bool
 | .seq a b => !Ua (.seq a b) && (Ui a && Ui b)
 | _ => true
def On (c : Code) : QW := (ON c).getD ⟨#[], 0, #[], 0, 0, #[], .skip⟩
section
variable {C : E8} {f : FuncId} {g : Gd} {c : Code} {fr : Fr} {h : AF} {Q : B2 → Fr → AF → Prop} {N : Nat}
theorem Rr {S : Self} : ∀ (c : Code), Ui c = true → ∀ (fr : Fr) (h : AF), FA C S f g c fr h = BW C S f g c fr h := by
 intro c
 induction c with
 | seq a b iha ihb =>
  intro K fr h
  simp only [Ui, Bool.and_eq_true, Bool.not_eq_true'] at K
  have : ON (.seq a b) = none := by
   have := K.1
   unfold Ua at this
   cases hq : ON (.seq a b) with
   | none => rfl
   | some q => rw [hq] at this; cases this
  simp only [FA, this, BW, iha K.2.1]
  cases BW C S f g a fr h with
  | none => rfl
  | some x =>
   obtain ⟨e, fr1, h1⟩ := x
   cases e with
   | normal => exact ihb K.2.2 _ _
   | exit i => rfl
   | ret => rfl
 | _ => intro _ fr h; simp only [FA]
theorem IT (hh : AW C f g c fr h Q) (T : Ui c = true := by kernel_rfl) : Og C f g c fr h Q := by
 obtain ⟨n, e, fr', h', h1, h2⟩ := hh.ex
 exact ⟨⟨n, e, fr', h', by rw [Rr c T]; exact h1, h2⟩⟩
theorem FK (hh : Og C f g (left c) fr h (KF (fun fr h => Og C f g (right c) fr h Q) Q)) (T : shape c = .seq := by kernel_rfl) (hm : Ua c = false := by kernel_rfl) : Og C f g c fr h Q := by
 cases c <;> simp [shape] at T
 simp only [left, right] at hh
 rename_i a b
 have hno : ON (.seq a b) = none := by
  unfold Ua at hm
  cases hq : ON (.seq a b) with
  | none => rfl
  | some q => rw [hq] at hm; cases hm
 obtain ⟨n, e, fr1, h1, D, hq⟩ := (hh).ex
 cases e with
 | normal =>
  obtain ⟨m, e2, fr2, h2, hx2, hq2⟩ := hq.ex
  refine ⟨⟨max n m, e2, fr2, h2, ?_, hq2⟩⟩
  simp only [FA, hno, JK (C7 C (Nat.le_max_left n m)) D, JK (C7 C (Nat.le_max_right n m)) hx2]
 | exit id => exact ⟨⟨n, _, _, _, by simp only [FA, hno, D], hq⟩⟩
 | ret => exact ⟨⟨n, _, _, _, by simp only [FA, hno, D], hq⟩⟩
def Yr (C : E8) (f : FuncId) (g : Gd) (q : QW) (ks rs : List Nat) (ot : Option Tmp) (fr : Fr) (h : AF) (Q : B2 → Fr → AF → Prop) : Prop :=
 ∃ n o e fr' h', q.o8.toList.getLast? = some o ∧ MX C (Co C n) f q g ks rs ot o fr h = some (e, fr', h') ∧ Q e fr' h'
theorem JI {S : Self} {ops : Array Oper} : ∀ (k i : Nat) (tch : List (Nat × Nat)) (fr : Fr) (h : AF), i + k ≤ ops.size → CR C S g ops (Eo i k) tch fr h = DM C S g ops ((ops.toList.drop i).take k) fr h
 | 0, i, tch, fr, h, e => by rw [List.take_zero]; rfl
 | k + 1, i, tch, fr, h, e => by
  have hi : i < ops.size := by omega
  have hl : i < ops.toList.length := by rw [Array.length_toList]; exact hi
  rw [List.drop_eq_getElem_cons hl, List.take_succ_cons, Eo, CR, DM, Array.getElem?_eq_getElem hi]
  simp only [Array.getElem_toList]
  cases Cc ops fr ops[i] with
  | none => rfl
  | some b =>
   cases b with
   | false => exact JI k (i + 1) _ _ _ (by omega)
   | true =>
    simp only [GL, List.nil_append]
    cases BO C S g h fr ops[i].op with
    | none => rfl
    | some x => exact JI k (i + 1) _ _ _ (by omega)
theorem dropLast_take {α : Type} : ∀ (l : List α) (n : Nat), l.length = n + 1 → l.take n = l.dropLast
 | [a], 0, _ => rfl
 | a :: b :: l, n + 1, h => by
  have := dropLast_take (b :: l) n (by simpa using h)
  simp only [List.take_succ_cons, List.dropLast_cons_cons, this]
 | [], n, h => by cases h
 | [a], n + 1, h => by simp at h
 | a :: b :: l, 0, h => by simp at h
def Xv (C : E8) (f : FuncId) (c : Code) (n8 : Nat) : Bool := Ua c && Nat.beq (On c).o8.size (n8 + 1)
theorem M7 (n8 : Nat) (ks rs : List Nat) (ot : Option Tmp) (hh : AT C g (On c).o8 (Eo 0 n8) [] fr h (fun fr1 h1 => Yr C f g (On c) ks rs ot fr1 h1 Q)) (T : Xv C f c n8 = true := by kernel_rfl) (hk : C.Tj f (On c).b = some (ks, rs, ot) := by kernel_rfl) (hq : shape c = .seq := by kernel_rfl) : Og C f g c fr h Q := by
 simp only [Xv, Bool.and_eq_true] at T
 have hsz := Nat.eq_of_beq_eq_true T.2
 obtain ⟨q, hm⟩ := Option.isSome_iff_exists.1 T.1
 have B : On c = q := by simp only [On, hm]; rfl
 rw [B] at hh hk hsz
 obtain ⟨n1, fr1, h1, hr, n2, o, e, fr2, h2, hl, ht, hQ⟩ := hh
 rw [JI _ _ _ _ _ (by omega), List.drop_zero, dropLast_take _ _ (by rw [Array.length_toList]; exact hsz)] at hr
 refine ⟨⟨max n1 n2, e, fr2, h2, ?_, hQ⟩⟩
 cases c <;> simp [shape] at hq
 simp only [FA, hm]
 unfold LW
 rw [hk, hl, Ea (C7 C (Nat.le_max_left n1 n2)) hr]
 exact OF (C7 C (Nat.le_max_right n1 n2)) ht
def Qp : Option Oper → Option (TypeId × Operand × Tmp)
 | some o =>
  match o.op, o.dst, o.guard with
  | .range tM x, some tI, none => some (tM, x, tI)
  | _, _, _ => none
 | none => none
theorem To {o : Oper} {tM : TypeId} {x : Operand} {tI : Tmp} (h : Qp (some o) = some (tM, x, tI)) : o.op = .range tM x ∧ o.dst = some tI ∧ o.guard = none := by
 unfold Qp at h
 simp only at h
 split at h
 ·cases h; exact ⟨by assumption, by assumption, by assumption⟩
 ·cases h
def Zi {σ ρ : Type} (b2 N : Nat) (ob : Oq) (X : σ → List (Nat × AB)) (Y : ρ → List (Nat × AB)) (oc : σ → List AB) (rc : ρ → List AB) (x : σ ⊕ ρ) : B2 → Fr → AF → Prop := fun e fr h =>
 ((e = .normal ∨ e = .exit b2) ∧ ∃ s, x = .inl s ∧ Has fr N (X s) ∧ Nu ob h = some (oc s)) ∨ (e = .ret ∧ ∃ r, x = .inr r ∧ Has fr N (Y r) ∧ Nu ob h = some (rc r))
def KX (q : QW) (ks : List Nat) (N tI tn te n10 : Nat) : Bool :=
 decide (UG q.o9 tI q.tb = some tn) && decide ((UF q.P7 tI).map (·.1) = some te) && Nat.beq q.P7.size (n10 + 1) && Nq ks N tn q.tb && (!ks.any (Nat.beq te) && Nat.blt te N) && (decide ks.Nodup && ks.all fun k => Nat.blt k N)
theorem Mu {κ σ ρ : Type} {step : κ → σ → Option (σ ⊕ ρ)} {l : List κ} {s0 : σ} {x0 : σ ⊕ ρ} {enc : κ → AB × AB} {V : σ → List (Nat × AB)} {Y : ρ → List (Nat × AB)} {oc : σ → List AB} {rc : ρ → List AB}
  {q : QW} {ks rs : List Nat} {ot : Option Tmp} {fr1 : Fr} {h1 : AF} {ob : Oq} {id tI tn te n10 : Nat} {tM kt et : TypeId} {y : Operand}
  (J : Qp q.o8.toList.getLast? = some (tM, y, tI)) (hU : C.P.underlying tM = some (.map kt et)) (hsl : KX q ks N tI tn te n10 = true) (E : ∀ s, tI :: (V s).map (·.1) = ks) (hrs : ∀ r, (Y r).map (·.1) = rs)
  (hev : ev fr1 y = .map (some id)) (I : h1.get id = some (.map 2 (l.map enc))) (U : g.may id = true) (hobj : Q2 h1 fr1 ot = some (ob, oc s0)) (W : SU g ob = true) (hflat : (oc s0).all Ku = true)
  (hH : Has (fr1.set tI (.ptr (some (h1.size, 0)))) N ((tI, .ptr (some (h1.size, 0))) :: V s0))
  (hold : ∀ s, ∀ p ∈ V s, Hu (h1.size + 1) p.2 = true) (holdY : ∀ r, ∀ p ∈ Y r, Hu (h1.size + 1) p.2 = true) (hdec : C.dec = PT)
  (M : ∀ l', l'.Perm l → CZ step l' s0 = some x0)
  (hR : ∀ p ∈ l, ∀ s x, step p s = some x → ∀ fr, Has fr N ((te, .tuple [(enc p).1, (enc p).2]) :: (tI, .ptr (some (h1.size, 0))) :: V s) →
   AT C (MV (h1.size + 1) ob) q.P7 (Eo 1 n10) [] fr (DH ((h1.set id (.map 0 [])).push (.cells none 0 [])) ob (oc s)) (fun fr h => AW C f (MV (h1.size + 1) ob) q.body fr h (Zi q.b2 N ob (fun s => (tI, .ptr (some (h1.size, 0))) :: V s) Y oc rc x))) :
  ∃ n o, q.o8.toList.getLast? = some o ∧ MX C (Co C n) f q g ks rs ot o fr1 h1 = some (match x0 with
   | .inl s => (.normal, fK N ((tI, .ptr (some (h1.size, 0))) :: V s), DH ((h1.set id (.map 0 [])).push (.cells none 0 [])) ob (oc s))
   | .inr r => (.ret, fK N (Y r), DH ((h1.set id (.map 0 [])).push (.cells none 0 [])) ob (rc r))) := by
 obtain ⟨o, ho⟩ : ∃ o, q.o8.toList.getLast? = some o := by
  cases e : q.o8.toList.getLast? with
  | none => rw [e] at J; cases J
  | some o => exact ⟨o, rfl⟩
 rw [ho] at J
 obtain ⟨o1, o2, o3⟩ := To J
 simp only [KX, Bool.and_eq_true, decide_eq_true_eq, Bool.not_eq_true', Nat.blt_eq] at hsl
 obtain ⟨⟨⟨⟨⟨q1, q2⟩, q3⟩, q4⟩, q5, q6⟩, q7, q8⟩ := hsl
 have q3 := Nat.eq_of_beq_eq_true q3
 obtain ⟨⟨te', rest⟩, hen, e'⟩ := Option.map_eq_some_iff.1 q2
 have e'' : te' = te := e'
 subst e''
 obtain ⟨en, hl10, _, _, _⟩ := SA hen
 have hN : fr1.length = N := by have := hH.1; rwa [List.length_set] at this
 have hk0 : Dr ks 0 (fr1.set tI (.ptr (some (h1.size, 0)))) = fK N ((tI, .ptr (some (h1.size, 0))) :: V s0) := Nb hH (E s0)
 have hallX : ∀ s, (fK N ((tI, .ptr (some (h1.size, 0))) :: V s)).all (Hu (h1.size + 1)) = true := fun s => Tg fun p B => by
  rcases List.mem_cons.1 B with rfl | B
  ·simp [Hu, Pd]
  ·exact hold s p B
 have htI : tI < N := by
  have := hH.2 (tI, .ptr (some (h1.size, 0))) (by simp)
  rcases Nat.lt_or_ge tI N with hlt | hge
  ·exact hlt
  ·rw [NX (by rw [hH.1]; exact hge)] at this
   cases this
 have hat : ∀ s, Lr h1.size (nth (fK N ((tI, .ptr (some (h1.size, 0))) :: V s)) tI) = true := fun s => by
  rw [TY htI]
  simp [JU, Nat.beq_refl, Lr]
 have hhsz : ((h1.set id (.map 0 [])).push (.cells none 0 [])).size = h1.size + 1 := by simp
 obtain ⟨n, K⟩ := N9 (rnd := fun n => I1 C (Co C n) f q ks rs h1.size tI te' rest ((h1.set id (.map 0 [])).push (.cells none 0 [])) ob) (enc := enc) (st := fun s => (fK N ((tI, .ptr (some (h1.size, 0))) :: V s), oc s)) (rt := fun r => (fK N (Y r), rc r))
  (fun hle D => NL (C7 C hle) D) l.length l s0 rfl (fun p B s x D => by
   obtain ⟨k1, fr2, h2, hr, k2, e, fr3, h3, hx3, hQ⟩ := (show AT C (MV (h1.size + 1) ob) q.P7 (Eo 1 n10) [] ((fK N ((tI, .ptr (some (h1.size, 0))) :: V s)).set te' (.tuple [(enc p).1, (enc p).2])) (DH ((h1.set id (.map 0 [])).push (.cells none 0 [])) ob (oc s)) (fun fr h => ∃ n e fr' h', BW C (Co C n) f (MV (h1.size + 1) ob) q.body fr h = some (e, fr', h') ∧ Zi q.b2 N ob (fun s => (tI, .ptr (some (h1.size, 0))) :: V s) Y oc rc x e fr' h') from by
    have hX : Has (fK N ((tI, .ptr (some (h1.size, 0))) :: V s)) N ((tI, .ptr (some (h1.size, 0))) :: V s) := by
     exact Pz (by rw [List.map_cons, E s]; exact q7) fun k hk => by
      rw [List.map_cons, E s] at hk
      simpa using List.all_eq_true.1 q8 k hk
    have := hR p B s x D _ (hX.Nd q6 (by rw [List.map_cons, E s]; exact q5))
    obtain ⟨a, b, c, d, hAW⟩ := this
    exact ⟨a, b, c, d, hAW.ex⟩)
   rw [Gn _ _ _ _ _ (by omega), hl10, List.drop_one, List.tail_cons] at hr
   refine ⟨max k1 k2, ?_⟩
   unfold I1
   simp only [hhsz]
   rw [Ea (C7 C (Nat.le_max_left k1 k2)) hr]
   simp only [Cu (C7 C (Nat.le_max_right k1 k2)) hx3]
   rcases hQ with ⟨he, s', rfl, hs', ho'⟩ | ⟨rfl, r, rfl, hr', ho'⟩
   ·have e1 := Nb hs' (E s')
    have e2 : Lr h1.size (nth fr3 tI) = true := by
     rw [hs'.2 (tI, .ptr (some (h1.size, 0))) (by simp)]
     simp [Lr]
    rcases he with rfl | rfl
    ·simp only [e2, cond_true, OK, e1, hallX, ho', Option.map_some]; rfl
    ·simp only [e2, Nat.beq_refl, Bool.and_self, cond_true, OK, e1, hallX, ho', Option.map_some]; rfl
   ·have e1 := Nb hr' (hrs r)
    simp only [OK, e1, Tg (holdY r), cond_true, ho', Option.map_some]; rfl)
  (fun l' O => ⟨x0, M l' O⟩)
 refine ⟨n, o, ho, ?_⟩
 unfold MX
 simp only [o1, o2, o3, hev, hU, q1, hen, I, hobj]
 rw [hk0, hallX, hat, U, W, hflat, hN, q4]
 simp only [Bool.and_self, cond_true]
 unfold Oo
 have hmain := K l (List.Perm.refl l) x0 (M l (List.Perm.refl l))
 rw [hmain]
 have hd : C.dec.1 (∀ es' : List (AB × AB), es'.Perm (l.map enc) → DI (I1 C (Co C n) f q ks rs h1.size tI te' rest ((h1.set id (.map 0 [])).push (.cells none 0 [])) ob) es' (fK N ((tI, .ptr (some (h1.size, 0))) :: V s0), oc s0) = some (Pq (fun s => (fK N ((tI, .ptr (some (h1.size, 0))) :: V s), oc s)) (fun r => (fK N (Y r), rc r)) x0)) = true := by
  rw [hdec]
  refine @decide_eq_true _ (Classical.propDecidable _) fun es' B => ?_
  obtain ⟨l', O, rfl⟩ := Pr B
  exact K l' O x0 (M l' O)
 cases x0 with
 | inl s =>
  simp only [Pq] at hd ⊢
  rw [hd]
  rfl
 | inr r =>
  simp only [Pq] at hd ⊢
  rw [hd]
  rfl
inductive I5 (n : Nat) : List (Nat × AB) → Prop where
 | nil : I5 n []
 | cons {k : Nat} {v : AB} {l : List (Nat × AB)} : Hu n v = true → I5 n l → I5 n ((k, v) :: l)
theorem I5.all {n : Nat} {l : List (Nat × AB)} (h : I5 n l) : ∀ p ∈ l, Hu n p.2 = true := by
 induction h with
 | nil => intro p B; cases B
 | cons h1 _ ih =>
  intro p B
  rcases List.mem_cons.1 B with rfl | B
  ·exact h1
  ·exact ih p B
theorem HH.XF {L F : List Ck} (a : HH g h L F) (k : Nat) {id : Nat} {o : CJ} (hk : L[k]? = some (.obj id o)) (j : Nat) : Hu (h.size + 1) (.ptr (some (id, j))) = true := by
 have := h.BV (a.get k hk)
 simp only [Hu, Pd]
 rw [Nat.blt_eq]
 omega
def Yp {σ ρ : Type} (b2 N : Nat) (X : σ → List (Nat × AB)) (Y : ρ → List (Nat × AB)) (x : σ ⊕ ρ) : B2 → Fr → AF → Prop := fun e fr h =>
 ((e = .normal ∨ e = .exit b2) ∧ ∃ s, x = .inl s ∧ Has fr N (X s)) ∨ (e = .ret ∧ ∃ r, x = .inr r ∧ Has fr N (Y r))
theorem HH.none_ {n : Nat} {h : AF} (K : h.size = n) : HH ⟨n, []⟩ h [] [] := ⟨fun c hc => (by cases hc), by simp [C6], fun i hi => (by simp [C6] at hi), fun i hi => (by cases hi), by rw [K]; exact Nat.le_refl _⟩
theorem QI {κ σ ρ : Type} {step : κ → σ → Option (σ ⊕ ρ)} {l : List κ} {s0 : σ} {x0 : σ ⊕ ρ} {enc : κ → AB × AB} {V : σ → List (Nat × AB)} {Y : ρ → List (Nat × AB)} {L F : List Ck} {AQ : List (Nat × AB)}
  {c : Code} {ks rs : List Nat} {fr1 : Fr} {h1 : AF} (k : Nat) {id : Nat} (tI tn te n10 : Nat) (tM kt et : TypeId) (y : Operand)
  (A : HH g h1 L F) (H : Has fr1 N AQ) (hm : CZ step l s0 = some x0) (M : ∀ l', l'.Perm l → CZ step l' s0 = CZ step l s0)
  (hk : L[k]? = some (.obj id (.map 2 (l.map enc)))) (hev : ∀ fr, ev (Cm N AQ fr) y = .map (some id)) (hV0 : ∀ fr, (V s0).map (fun p => nth (Cm N AQ fr) p.1) = (V s0).map (·.2))
  (E : ∀ s, tI :: (V s).map (·.1) = ks) (hrs : ∀ r, (Y r).map (·.1) = rs) (hold : ∀ s, I5 (h1.size + 1) (V s)) (holdY : ∀ r, I5 (h1.size + 1) (Y r))
  (hR : ∀ p, p ∈ l → ∀ s x, step p s = some x → ∀ fr h (it : AB) g F, HH g h [] F → Has fr N ((te, .tuple [(enc p).1, (enc p).2]) :: (tI, it) :: V s) →
   AT C g (On c).P7 (Eo 1 n10) [] fr h (fun fr h => AW C f g (On c).body fr h (Yp (On c).b2 N (fun s => (tI, it) :: V s) Y x)))
  (hQ : ∀ s, x0 = .inl s → ∀ fr h, HH g h (L.eraseIdx k) F → Has fr N (V s) → Q .normal fr h) (hQr : ∀ r, x0 = .inr r → ∀ fr h, HH g h (L.eraseIdx k) F → Has fr N (Y r) → Q .ret fr h)
  (J : Qp (On c).o8.toList.getLast? = some (tM, y, tI) := by kernel_rfl) (hU : C.P.underlying tM = some (.map kt et) := by kernel_rfl) (hsl : KX (On c) ks N tI tn te n10 = true := by kernel_rfl) (hrl : (decide rs.Nodup && rs.all fun k => Nat.blt k N) = true := by kernel_rfl) (hdec : C.dec = PT := by rfl) :
  Yr C f g (On c) ks rs none fr1 h1 Q := by
 have hev' : ev fr1 y = .map (some id) := by have := hev fr1; rw [Dv H] at this; exact this
 have hV0' := hV0 fr1
 rw [Dv H] at hV0'
 have I := A.get k hk
 have U := A.Jf hk (i := id) (by simp [Ck.ids])
 have Z := hsl
 simp only [KX, Bool.and_eq_true, decide_eq_true_eq] at Z
 obtain ⟨_, hnd, hlt⟩ := Z
 have hHV : Has fr1 N (V s0) := Has.of_map H.1 hV0'
 have hkN : tI < N := by
  have := List.all_eq_true.1 hlt tI (by rw [← E s0]; simp)
  simpa using this
 have hH : Has (fr1.set tI (.ptr (some (h1.size, 0)))) N ((tI, .ptr (some (h1.size, 0))) :: V s0) := hHV.Nd hkN (by
  have := E s0
  rw [← this, List.nodup_cons] at hnd
  rw [Bool.eq_false_iff]
  intro ha
  obtain ⟨j, hj, e⟩ := List.any_eq_true.1 ha
  exact hnd.1 (by rw [Nat.eq_of_beq_eq_true e]; exact hj))
 obtain ⟨n, o, ho, hrun⟩ := Mu (C := C) (f := f) (g := g) (N := N) (step := step) (l := l) (s0 := s0) (x0 := x0) (enc := enc) (V := V) (Y := Y) (oc := fun _ => []) (rc := fun _ => []) (q := On c) (ks := ks) (rs := rs) (ot := none) (fr1 := fr1) (h1 := h1) (ob := none) J hU hsl E hrs hev' I U rfl rfl rfl hH
  (fun s => (hold s).all) (fun r => (holdY r).all) hdec (fun l' O => (M l' O).trans hm)
  (fun p B s x D fr hfr => by
   obtain ⟨a, b, d, hr, hAW⟩ := hR p B s x D fr ((h1.set id (.map 0 [])).push (.cells none 0 [])) _ ⟨h1.size + 1, []⟩ [] (HH.none_ (by simp)) hfr
   refine ⟨a, b, d, hr, ⟨?_⟩⟩
   obtain ⟨n2, e, fr', h', he, hq⟩ := hAW.ex
   refine ⟨n2, e, fr', h', he, ?_⟩
   rcases hq with ⟨q1, s', q2, q3⟩ | ⟨q1, r, q2, q3⟩
   ·exact .inl ⟨q1, s', q2, q3, rfl⟩
   ·exact .inr ⟨q1, r, q2, q3, rfl⟩)
 have hA' : HH g ((h1.set id (.map 0 [])).push (.cells none 0 [])) (L.eraseIdx k) F := by
  have a1 : HH g ((h1.set id (.map 0 [])).push (.cells none 0 [])) (L.set k (.obj id (.map 0 []))) F := A.Mz hk (by simp) (fun i hi K => by
   rw [AF.B1 _ _ (by simpa using hi), AF.Bc _ _ (h1.BV I) (by simpa [Ck.ids] using K)]) (by
   show AF.get _ id = _
   rw [AF.B1 _ _ (by simpa using h1.BV I), AF.get_set_same _ _ (h1.BV I)]) (fun i hi => .inl hi) (fun i hi => by
   have : i = id := by simpa [Ck.ids] using hi
   rw [this]; exact U)
  have hkl : k < L.length := (List.getElem?_eq_some_iff.1 hk).1
  have a2 := (a1.front k (c := .obj id (.map 0 [])) (by rw [List.getElem?_set_self hkl])).tail
  rwa [List.eraseIdx_set_eq] at a2
 have hX : ∀ s, Has (fK N ((tI, .ptr (some (h1.size, 0))) :: V s)) N (V s) := fun s => by
  have := Pz (N := N) (l := (tI, .ptr (some (h1.size, 0))) :: V s) (by rw [List.map_cons, E s]; exact hnd) fun k hk => by
   rw [List.map_cons, E s] at hk
   simpa using List.all_eq_true.1 hlt k hk
  exact ⟨this.1, fun p B => this.2 p (by simp [B])⟩
 refine ⟨n, o, _, _, _, ho, hrun, ?_⟩
 cases x0 with
 | inl s => exact hQ s rfl _ _ hA' (hX s)
 | inr r =>
  simp only [Bool.and_eq_true, decide_eq_true_eq] at hrl
  exact hQr r rfl _ _ hA' (Pz (by rw [hrs r]; exact hrl.1) fun k hk => by
   rw [hrs r] at hk
   simpa using List.all_eq_true.1 hrl.2 k hk)
theorem Sf (xs : List UInt8) : (AQ eY xs).all Ku = true := by
 induction xs with
 | nil => rfl
 | cons x r ih =>
  have : AQ eY (x :: r) = (.int .u8 x.toNat) :: AQ eY r := rfl
  rw [this, List.all_cons, ih]
  rfl
theorem Ti {n id : Nat} {gr : Option TypeId} : (MV n (some (id, gr))).may id = true := by
 have : ((List.range n).filter fun k => !Nat.beq k id).any (Nat.beq id) = false := by
  rw [Bool.eq_false_iff]
  intro h
  obtain ⟨j, hj, e⟩ := List.any_eq_true.1 h
  have e' := Nat.eq_of_beq_eq_true e
  have := (List.mem_filter.1 hj).2
  rw [← e', Nat.beq_refl] at this
  cases this
 simp [Gd.may, MV, this]
def Yx {σ : Type} (b2 N : Nat) (g : Gd) (F : List Ck) (rid : Nat) (e : TypeId) (row : σ → List UInt8) (X : σ → List (Nat × AB)) (x : σ ⊕ Empty) : B2 → Fr → AF → Prop := fun ex fr h =>
 (ex = .normal ∨ ex = .exit b2) ∧ ∃ s, x = .inl s ∧ Has fr N (X s) ∧ HH g h [.AQ (some rid) e (AQ eY (row s))] F
theorem Qv {κ σ : Type} {step : κ → σ → Option (σ ⊕ Empty)} {l : List κ} {s0 : σ} {x0 : σ ⊕ Empty} {enc : κ → AB × AB} {V : σ → List (Nat × AB)} {row : σ → List UInt8} {L F : List Ck} {lst0 : List (Nat × AB)}
  {c : Code} {ks : List Nat} {fr1 : Fr} {h1 : AF} (k j : Nat) {id : Nat} (rid : Nat) {e : TypeId} (tI tn te ot n10 : Nat) (tM kt et : TypeId) (y : Operand)
  (A : HH g h1 L F) (H : Has fr1 N lst0) (hm : CZ step l s0 = some x0) (M : ∀ l', l'.Perm l → CZ step l' s0 = CZ step l s0)
  (hk : L[k]? = some (.obj id (.map 2 (l.map enc)))) (hj : L[j]? = some (.AQ (some rid) e (AQ eY (row s0)))) (hkj : k ≠ j) (hev : ∀ fr, ev (Cm N lst0 fr) y = .map (some id)) (hV0 : ∀ fr, ((ot, AP (some rid) (row s0).length) :: V s0).map (fun p => nth (Cm N lst0 fr) p.1) = ((ot, AP (some rid) (row s0).length) :: V s0).map (·.2))
  (E : ∀ s, tI :: ot :: (V s).map (·.1) = ks) (hold : ∀ s, I5 (h1.size + 1) (V s))
  (hR : ∀ p, p ∈ l → ∀ s x, step p s = some x → ∀ fr h (it : AB) g F, HH g h [.AQ (some rid) e (AQ eY (row s))] F → Has fr N ((te, .tuple [(enc p).1, (enc p).2]) :: (tI, it) :: (ot, AP (some rid) (row s).length) :: V s) →
   AT C g (On c).P7 (Eo 1 n10) [] fr h (fun fr h => AW C f g (On c).body fr h (Yx (On c).b2 N g F rid e row (fun s => (tI, it) :: (ot, AP (some rid) (row s).length) :: V s) x)))
  (hQ : ∀ s, x0 = .inl s → ∀ fr h, HH g h ((L.set j (.AQ (some rid) e (AQ eY (row s)))).eraseIdx k) F → Has fr N ((ot, AP (some rid) (row s).length) :: V s) → Q .normal fr h)
  (J : Qp (On c).o8.toList.getLast? = some (tM, y, tI) := by kernel_rfl) (hU : C.P.underlying tM = some (.map kt et) := by kernel_rfl) (hsl : KX (On c) ks N tI tn te n10 = true := by kernel_rfl) (hdec : C.dec = PT := by rfl) :
  Yr C f g (On c) ks [] (some ot) fr1 h1 Q := by
 have hev' : ev fr1 y = .map (some id) := by have := hev fr1; rw [Dv H] at this; exact this
 have hV0' := hV0 fr1
 rw [Dv H] at hV0'
 have I := A.get k hk
 have hgetO : h1.get rid = some (.cells (some e) 2 (AQ eY (row s0))) := A.mem hj
 have hridl := h1.BV hgetO
 have U := A.Jf hk (i := id) (by simp [Ck.ids])
 have W := A.Jf hj (i := rid) (by simp [Ck.ids])
 have Z := hsl
 simp only [KX, Bool.and_eq_true, decide_eq_true_eq] at Z
 obtain ⟨_, hnd, hlt⟩ := Z
 have hHV : Has fr1 N ((ot, AP (some rid) (row s0).length) :: V s0) := Has.of_map H.1 hV0'
 have hkN : tI < N := by
  have := List.all_eq_true.1 hlt tI (by rw [← E s0]; simp)
  simpa using this
 have hH : Has (fr1.set tI (.ptr (some (h1.size, 0)))) N ((tI, .ptr (some (h1.size, 0))) :: (ot, AP (some rid) (row s0).length) :: V s0) := hHV.Nd hkN (by
  have := E s0
  rw [← this, List.nodup_cons] at hnd
  rw [Bool.eq_false_iff]
  intro ha
  obtain ⟨q, hq, e⟩ := List.any_eq_true.1 ha
  exact hnd.1 (by rw [Nat.eq_of_beq_eq_true e]; exact hq))
 have hne : rid ≠ id := by
  intro e
  subst e
  have := I.symm.trans hgetO
  cases this
 have hold' : ∀ s, ∀ p ∈ (ot, AP (some rid) (row s).length) :: V s, Hu (h1.size + 1) p.2 = true := fun s p B => by
  rcases List.mem_cons.1 B with rfl | B
  ·show Nat.blt rid (h1.size + 1) = true
   rw [Nat.blt_eq]
   omega
  ·exact (hold s).all p B
 obtain ⟨n, o, ho, hrun⟩ := Mu (C := C) (f := f) (g := g) (N := N) (step := step) (l := l) (s0 := s0) (x0 := x0) (enc := enc) (V := fun s => (ot, AP (some rid) (row s).length) :: V s) (Y := fun _ => []) (oc := fun s => AQ eY (row s)) (rc := fun _ => []) (q := On c) (ks := ks) (rs := []) (ot := some ot) (fr1 := fr1) (h1 := h1) (ob := some (rid, some e)) J hU hsl E (fun _ => rfl) hev' I U
  (by
   have := hHV.2 (ot, AP (some rid) (row s0).length) (by simp)
   simp only [Q2, this, AP, Option.map_some, hgetO]) W (Sf _) hH hold' (fun r => r.elim) hdec (fun l' O => (M l' O).trans hm)
  (fun p B s x D fr hfr => by
   have hget' : (DH ((h1.set id (.map 0 [])).push (.cells none 0 [])) (some (rid, some e)) (AQ eY (row s))).get rid = some (.cells (some e) 2 (AQ eY (row s))) := AF.get_set_same _ _ (by simp; omega)
   have hA0 : HH (MV (h1.size + 1) (some (rid, some e))) (DH ((h1.set id (.map 0 [])).push (.cells none 0 [])) (some (rid, some e)) (AQ eY (row s))) [.AQ (some rid) e (AQ eY (row s))] [] := by
    refine ⟨fun c hc => ?_, by simp [C6, Ck.ids], fun i hi => ?_, fun i hi => ?_, Nat.zero_le _⟩
    ·have : c = .AQ (some rid) e (AQ eY (row s)) := by simpa using hc
     subst this
     exact hget'
    ·have : i = rid := by simpa [C6, Ck.ids] using hi
     subst this
     exact Ti
    ·rw [Gq]
     have := (List.mem_filter.1 hi).1
     simpa using this
   obtain ⟨a, b, d, hr, hAW⟩ := hR p B s x D fr _ _ _ [] hA0 hfr
   refine ⟨a, b, d, hr, ⟨?_⟩⟩
   obtain ⟨n2, ex, fr', h', he, hq⟩ := hAW.ex
   refine ⟨n2, ex, fr', h', he, ?_⟩
   obtain ⟨q1, s', q2, q3, q4⟩ := hq
   refine .inl ⟨q1, s', q2, q3, ?_⟩
   have hg' : h'.get rid = some (.cells (some e) 2 (AQ eY (row s'))) := q4.mem (k := 0) rfl
   simp only [Nu, hg', Sf, and_self, if_true])
 cases x0 with
 | inr r => exact r.elim
 | inl s =>
  refine ⟨n, o, _, _, _, ho, hrun, hQ s rfl _ _ ?_ ?_⟩
  ·have a0 : HH g (DH ((h1.set id (.map 0 [])).push (.cells none 0 [])) (some (rid, some e)) (AQ eY (row s))) ((L.set j (.AQ (some rid) e (AQ eY (row s)))).set k (.obj id (.map 0 []))) F := by
    have b1 : HH g (h1.set id (.map 0 [])) (L.set k (.obj id (.map 0 []))) F := A.set k _ hk
    have b2 : HH g ((h1.set id (.map 0 [])).push (.cells none 0 [])) (L.set k (.obj id (.map 0 []))) F := (b1.push _).tail
    have b3 := b2.Mz (k := j) (c := .AQ (some rid) e (AQ eY (row s0))) (d := .AQ (some rid) e (AQ eY (row s))) (h' := DH ((h1.set id (.map 0 [])).push (.cells none 0 [])) (some (rid, some e)) (AQ eY (row s))) (by rw [List.getElem?_set_ne hkj]; exact hj) (by rw [Gq]; exact Nat.le_refl _) (fun i hi K => AF.Bc _ _ (by simp; omega) (by simpa [Ck.ids] using K)) (AF.get_set_same _ _ (by simp; omega)) (fun i hi => .inl hi) (fun i hi => by
     have : i = rid := by simpa [Ck.ids] using hi
     rw [this]; exact W)
    rw [List.set_comm _ _ hkj] at b3
    exact b3
   have hkl : k < L.length := (List.getElem?_eq_some_iff.1 hk).1
   have a2 := (a0.front k (c := .obj id (.map 0 [])) (by rw [List.getElem?_set_self (by simpa using hkl)])).tail
   rwa [List.eraseIdx_set_eq] at a2
  ·have := Pz (N := N) (l := (tI, .ptr (some (h1.size, 0))) :: (ot, AP (some rid) (row s).length) :: V s) (by rw [List.map_cons, List.map_cons, E s]; exact hnd) fun k hk => by
    rw [List.map_cons, List.map_cons, E s] at hk
    simpa using List.all_eq_true.1 hlt k hk
   exact ⟨this.1, fun p B => this.2 p (by simp only [List.mem_cons] at B ⊢; exact .inr B)⟩
theorem Sd {args args' : List AB} {n : Nat} {rs : List ResultVar} {R : AB → AF → Prop} (hk : C.kind f = 10) (hc : BP (C.still f) args = args') (hf : Ez C.P f = some (n, rs))
  (hh : Og C f g (DS C.P f) (args' ++ List.replicate (n - args'.length) (.tuple [])) h (fun e fr h' => (e = .ret ∨ e = .normal) ∧ ∃ v, Jd C.P rs fr h' = some v ∧ R v h')) : ∃ v h', BZ C g h f args v h' ∧ R v h' := by
 obtain ⟨m, e, fr', h2, D, hq, v, hv, hR⟩ := hh.ex
 refine ⟨v, h2, ⟨m + 1, ?_⟩, hR⟩
 show GF C (Co C m) g h f args = _
 unfold GF
 rw [hk]
 simp only [hc]
 unfold Ez at hf
 unfold DS at D
 unfold NO
 split at hf
 ·rename_i fn hfn
  split at hf
  ·rename_i c hcc
   simp only [Option.some.injEq, Prod.mk.injEq] at hf
   obtain ⟨rfl, rfl⟩ := hf
   simp only [hfn, hcc] at D ⊢
   rcases hq with rfl | rfl
   ·rw [D]; simp only; rw [show Cw C.P fn fr' h2 = some v from hv]; rfl
   ·rw [D]; simp only; rw [show Cw C.P fn fr' h2 = some v from hv]; rfl
  ·cases hf
 ·cases hf
theorem Y1 (x : Option (Nat × Nat)) : Kf g h (.ptr x) = some (.ptr x, h) := rfl
theorem Vq {args args' : List AB} {n : Nat} {rs : List ResultVar} {R : AB → AF → Prop} {h0 : AF} (hk : C.kind f = 11) (hz : K9 (Kf g) args h0 = some (args', h)) (hf : Ez C.P f = some (n, rs))
  (hh : AW C f g (DS C.P f) (args' ++ List.replicate (n - args'.length) (.tuple [])) h (fun e fr h' => (e = .ret ∨ e = .normal) ∧ ∃ v, Jd C.P rs fr h' = some v ∧ R v h')) : ∃ v h', BZ C g h0 f args v h' ∧ R v h' := by
 obtain ⟨v, h', hb, hR⟩ := N1 hf hh
 obtain ⟨m, hm⟩ := hb
 refine ⟨v, h', ⟨m + 1, ?_⟩, hR⟩
 show GF C (Co C m) g h0 f args = _
 unfold GF
 rw [hk]
 simp only [hz]
 exact hm
theorem TW {c : Code} {Q : B2 → Fr → AF → Prop} {args : List AB} {n : Nat} (ins : List (Nat × AB)) (hl : (args ++ List.replicate (n - args.length) (AB.tuple [])).length = n) (hi : ins.map (fun p => nth (args ++ List.replicate (n - args.length) (AB.tuple [])) p.1) = ins.map (·.2))
  (hh : ∀ fr, Has fr n ins → Og C f g c fr h Q) : Og C f g c (args ++ List.replicate (n - args.length) (.tuple [])) h Q := hh _ (Has.of_map hl hi)
end
end Go.Av
