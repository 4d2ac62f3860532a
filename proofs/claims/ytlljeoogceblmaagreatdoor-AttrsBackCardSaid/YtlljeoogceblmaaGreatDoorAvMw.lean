/-
 A part.
-/
import Derived.Test.YtlljeoogceblmaaGreatDoorAvMap
import Derived.Test.YtlljeoogceblmaaGreatDoorAvCo
namespace Go.Av
set_option linter.unusedVariables false
set_option linter.unusedSimpArgs false
def BV {κ σ ρ : Type} (step : κ → σ → Option (σ ⊕ ρ)) : List κ → σ → Option (σ ⊕ ρ)
 | [], s => some (.inl s)
 | k :: l, s =>
  match step k s with
  | some (.inl s') => BV step l s'
  | r => r
def SX {κ σ ρ : Type} (step : κ → σ → Option (σ ⊕ ρ)) (a b : κ) (s : σ) : Option (σ ⊕ ρ) :=
 match step a s with
 | some (.inl s') => step b s'
 | r => r
theorem PX {κ σ ρ : Type} {step : κ → σ → Option (σ ⊕ ρ)} {a b : κ} {l : List κ} {s : σ} : BV step (a :: b :: l) s = match SX step a b s with | some (.inl s') => BV step l s' | r => r := by
 unfold SX
 simp only [BV]
 cases step a s with
 | none => rfl
 | some x =>
  cases x with
  | inl s' => rfl
  | inr r => rfl
theorem Ks {κ σ ρ : Type} {step : κ → σ → Option (σ ⊕ ρ)} {l : List κ} (P : σ → Prop) (hP : ∀ a ∈ l, ∀ s s', P s → step a s = some (.inl s') → P s') (hc : ∀ a ∈ l, ∀ b ∈ l, ∀ s, P s → SX step a b s = SX step b a s) :
  ∀ l', l'.Perm l → ∀ s, P s → BV step l' s = BV step l s := by
 have key : ∀ {l1 l2 : List κ}, l1.Perm l2 → (∀ a ∈ l1, a ∈ l) → ∀ s, P s → BV step l1 s = BV step l2 s := by
  intro l1 l2 h
  induction h with
  | nil => intro _ s _; rfl
  | cons x _ ih =>
   intro hm s hs
   simp only [BV]
   cases hx : step x s with
   | none => rfl
   | some y =>
    cases y with
    | inl s' => exact ih (fun a ha => hm a (by simp [ha])) s' (hP x (hm x (by simp)) s s' hs hx)
    | inr r => rfl
  | swap x y r =>
   intro hm s hs
   rw [PX, PX, hc y (hm y (by simp)) x (hm x (by simp)) s hs]
  | trans h1 h2 ih1 ih2 =>
   intro hm s hs
   rw [ih1 hm s hs]
   exact ih2 (fun a ha => hm a (h1.mem_iff.2 ha)) s hs
 exact fun l' h s hs => key h (fun a ha => h.mem_iff.1 ha) s hs
def Wh : List (Nat × Nat × List Nat × List Nat × Option Nat) → FuncId → Nat → Option (List Nat × List Nat × Option Tmp)
 | [], _, _ => none
 | (f', b', x) :: r, f, b => bif Nat.beq f' f && Nat.beq b' b then some x else Wh r f b
def JI (i : Nat) : List (Nat × AA) → AA
 | [] => .undef
 | (k, v) :: r => bif Nat.beq k i then v else JI i r
def fK (N : Nat) (l : List (Nat × AA)) : Fr := (List.range N).map fun i => JI i l
theorem PQ {fr : Fr} {i : Nat} : ∀ {l : List (Nat × AA)}, (∀ p ∈ l, nth fr p.1 = p.2) → JI i l = bif (l.map (·.1)).any (Nat.beq i) then nth fr i else .undef
 | [], _ => rfl
 | (k, v) :: r, h => by
  have ih := PQ (fr := fr) (i := i) (l := r) fun p hp => h p (by simp [hp])
  have h0 : nth fr k = v := h (k, v) (by simp)
  simp only [JI, List.map_cons, List.any_cons]
  cases hb : Nat.beq k i with
  | true =>
   have e := Nat.eq_of_beq_eq_true hb
   subst e
   simp [Nat.beq_refl, h0]
  | false =>
   have : Nat.beq i k = false := by
    cases h2 : Nat.beq i k with
    | false => rfl
    | true => rw [Nat.eq_of_beq_eq_true h2, Nat.beq_refl] at hb; cases hb
   rw [this, Bool.false_or]
   exact ih
theorem UA {ks : List Nat} {fr : Fr} {G : Nat → AA} (h : ∀ i, i < fr.length → (bif ks.any (Nat.beq i) then nth fr i else .undef) = G i) : DV ks 0 fr = (List.range fr.length).map G := by
 refine List.ext_getElem (by rw [CH]; simp) fun i h1 h2 => ?_
 rw [CH] at h1
 have e := IX ks 0 fr i h1
 rw [Nat.zero_add] at e
 have e2 : nth (DV ks 0 fr) i = (DV ks 0 fr)[i]'(by rw [CH]; exact h1) := by
  rw [Dt, List.getD_eq_getElem?_getD, List.getElem?_eq_getElem (by rw [CH]; exact h1)]; rfl
 rw [← e2, e, h i h1]
 simp
theorem OG {fr : Fr} {N : Nat} {l : List (Nat × AA)} (H : Has fr N l) {ks : List Nat} (hk : l.map (·.1) = ks) : DV ks 0 fr = fK N l := by
 subst hk
 rw [UA (G := fun i => JI i l) fun i hi => (PQ H.2).symm, H.1]
 rfl
theorem VD {N i : Nat} {l : List (Nat × AA)} (hi : i < N) : nth (fK N l) i = JI i l := by
 rw [Dt, List.getD_eq_getElem?_getD, List.getElem?_eq_getElem (by simp [fK]; exact hi)]
 simp [fK]
theorem Ui {i : Nat} {l : List (Nat × AA)} : JI i l = .undef ∨ ∃ p ∈ l, JI i l = p.2 := by
 induction l with
 | nil => exact .inl rfl
 | cons p r ih =>
  obtain ⟨k, v⟩ := p
  simp only [JI]
  cases Nat.beq k i with
  | true => exact .inr ⟨(k, v), by simp, rfl⟩
  | false =>
   rcases ih with h | ⟨p, hp, h⟩
   ·exact .inl h
   ·exact .inr ⟨p, by simp [hp], h⟩
theorem Has.NV {fr : Fr} {N : Nat} {l : List (Nat × AA)} (H : Has fr N l) {t : Nat} {v : AA} (ht : t < N) (hn : (l.map (·.1)).any (Nat.beq t) = false) : Has (fr.set t v) N ((t, v) :: l) := by
 refine ⟨by rw [List.length_set]; exact H.1, fun p hp => ?_⟩
 rcases List.mem_cons.1 hp with rfl | hp
 ·rw [EA, if_pos ⟨rfl, by rw [H.1]; exact ht⟩]
 ·rw [EA, if_neg]
  ·exact H.2 p hp
  ·rintro ⟨e, _⟩
   have : (l.map (·.1)).any (Nat.beq t) = true := List.any_eq_true.2 ⟨p.1, List.mem_map.2 ⟨p, hp, rfl⟩, by rw [e]; exact Nat.beq_refl _⟩
   rw [this] at hn
   cases hn
theorem Wc {N n : Nat} {l : List (Nat × AA)} (h : ∀ p ∈ l, Hb n p.2 = true) : (fK N l).all (Hb n) = true := by
 rw [List.all_eq_true]
 intro v hv
 obtain ⟨i, _, rfl⟩ := List.mem_map.1 hv
 rcases Ui (i := i) (l := l) with e | ⟨p, hp, e⟩
 ·rw [e]; rfl
 ·rw [e]; exact h p hp
theorem Mu {k : Nat} {v : AA} : ∀ {l : List (Nat × AA)}, (l.map (·.1)).Nodup → (k, v) ∈ l → JI k l = v
 | (k', v') :: r, hn, hm => by
  rw [List.map_cons, List.nodup_cons] at hn
  simp only [JI]
  rcases List.mem_cons.1 hm with e | hm
  ·cases e; rw [Nat.beq_refl]; rfl
  ·cases hb : Nat.beq k' k with
   | true =>
    have e := Nat.eq_of_beq_eq_true hb
    exact absurd (List.mem_map.2 ⟨(k, v), hm, e.symm⟩) hn.1
   | false => exact Mu hn.2 hm
theorem Px {N : Nat} {l : List (Nat × AA)} (hn : (l.map (·.1)).Nodup) (hk : ∀ k ∈ l.map (·.1), k < N) : Has (fK N l) N l :=
 ⟨by simp [fK], fun p hp => by rw [VD (hk p.1 (List.mem_map.2 ⟨p, hp, rfl⟩))]; exact Mu hn hp⟩
theorem P2 {κ β : Type} {f : κ → β} {l : List κ} : ∀ {es : List β}, es.Perm (l.map f) → ∃ l' : List κ, l'.Perm l ∧ es = l'.map f := by
 have key : ∀ {a b : List β}, a.Perm b → ∀ {l : List κ}, b = l.map f → ∃ l' : List κ, l'.Perm l ∧ a = l'.map f := by
  intro a b h
  induction h with
  | nil => intro l e; cases l with | nil => exact ⟨[], .nil, rfl⟩ | cons x r => cases e
  | cons x _ ih =>
   intro l e
   cases l with
   | nil => cases e
   | cons y r =>
    injection e with e1 e2
    obtain ⟨l', h1, h2⟩ := ih e2
    exact ⟨y :: l', h1.cons y, by rw [e1, h2]; rfl⟩
  | swap x y r =>
   intro l e
   match l, e with
   | a :: b :: r', e =>
    injection e with e1 e2
    injection e2 with e2 e3
    exact ⟨b :: a :: r', List.Perm.swap a b r', by rw [e1, e2, e3]; rfl⟩
  | trans _ _ ih1 ih2 =>
   intro l e
   obtain ⟨l1, h1, h2⟩ := ih2 e
   obtain ⟨l2, h3, h4⟩ := ih1 h2
   exact ⟨l2, h3.trans h1, h4⟩
 intro es h
 exact key h rfl
theorem O9 {α : Type} {P : Nat → α → Prop} (hm : ∀ {n m a}, n ≤ m → P n a → P m a) : ∀ (l : List α), (∀ a ∈ l, ∃ n, P n a) → ∃ n, ∀ a ∈ l, P n a
 | [], _ => ⟨0, fun a h => by cases h⟩
 | a :: l, h => by
  obtain ⟨n, hn⟩ := h a (by simp)
  obtain ⟨m, hm'⟩ := O9 (P := P) hm l fun b hb => h b (by simp [hb])
  refine ⟨max n m, fun b hb => ?_⟩
  rcases List.mem_cons.1 hb with rfl | hb
  ·exact hm (Nat.le_max_left _ _) hn
  ·exact hm (Nat.le_max_right _ _) (hm' b hb)
section
variable {κ σ ρ : Type} {step : κ → σ → Option (σ ⊕ ρ)} {enc : κ → AA × AA} {rnd : Nat → Fr × List AA → AA × AA → Option (Bool × Fr × List AA)} {st : σ → Fr × List AA} {rt : ρ → Fr × List AA}
def Qf (st : σ → Fr × List AA) (rt : ρ → Fr × List AA) : σ ⊕ ρ → Bool × Fr × List AA
 | .inl s => (false, st s)
 | .inr r => (true, rt r)
theorem NX (hm : ∀ {n m a b x}, n ≤ m → rnd n a b = some x → rnd m a b = some x) : ∀ (k : Nat) (l : List κ) (s : σ), l.length = k →
  (∀ p ∈ l, ∀ s q, step p s = some q → ∃ n, rnd n (st s) (enc p) = some (Qf st rt q)) → (∀ l', l'.Perm l → ∃ x, BV step l' s = some x) → ∃ n, ∀ l', l'.Perm l → ∀ x, BV step l' s = some x → Cd (rnd n) (l'.map enc) (st s) = some (Qf st rt x)
 | 0, l, s, hl, hr, hs => by
  have : l = [] := List.eq_nil_of_length_eq_zero hl
  subst this
  refine ⟨0, fun l' hp x hx => ?_⟩
  have : l' = [] := hp.eq_nil
  subst this
  simp only [BV, Option.some.injEq] at hx
  subst hx
  rfl
 | k + 1, l, s, hl, hr, hs => by
  have key : ∃ n, ∀ p ∈ l, ∀ l2, (p :: l2).Perm l → ∀ x, BV step (p :: l2) s = some x → Cd (rnd n) ((p :: l2).map enc) (st s) = some (Qf st rt x) := by
   refine O9 (P := fun n p => ∀ l2, (p :: l2).Perm l → ∀ x, BV step (p :: l2) s = some x → Cd (rnd n) ((p :: l2).map enc) (st s) = some (Qf st rt x)) (fun hle h l2 hp x hx => Gb (fun hr => hm hle hr) _ (h l2 hp x hx)) l fun p hp => ?_
   obtain ⟨l0, hl0⟩ : ∃ l0, (p :: l0).Perm l := by
    obtain ⟨a, b, rfl⟩ := List.append_of_mem hp
    exact ⟨a ++ b, List.perm_middle.symm⟩
   cases hst : step p s with
   | none =>
    obtain ⟨x, hx⟩ := hs _ hl0
    simp only [BV, hst] at hx
    cases hx
   | some q =>
    obtain ⟨n1, hn1⟩ := hr p hp s q hst
    cases q with
    | inr r =>
     refine ⟨n1, fun l2 _ x hx => ?_⟩
     simp only [BV, hst, Option.some.injEq] at hx
     subst hx
     simp only [List.map_cons, Cd, hn1, Qf]
    | inl s' =>
     have hlen : l0.length = k := by have := hl0.length_eq; simp only [List.length_cons] at this; omega
     obtain ⟨n2, hn2⟩ := NX hm k l0 s' hlen (fun p' hp' => hr p' (hl0.mem_iff.1 (by simp [hp']))) (fun l' hl' => by
      obtain ⟨x, hx⟩ := hs (p :: l') ((hl'.cons p).trans hl0)
      simp only [BV, hst] at hx
      exact ⟨x, hx⟩)
     refine ⟨max n1 n2, fun l2 h2 x hx => ?_⟩
     simp only [BV, hst] at hx
     have := hn2 l2 ((h2.trans hl0.symm).cons_inv) x hx
     simp only [List.map_cons, Cd, hm (Nat.le_max_left n1 n2) hn1, Qf]
     exact Gb (fun hr => hm (Nat.le_max_right n1 n2) hr) _ this
  obtain ⟨n, hn⟩ := key
  refine ⟨n, fun l' hp x hx => ?_⟩
  cases l' with
  | nil => have := hp.length_eq; simp [hl] at this
  | cons p l2 => exact hn p (hp.mem_iff.1 (by simp)) l2 hp x hx
end
structure PV (C : FY) (f : FuncId) (g : Gd) (c : Code) (fr : Fr) (h : AD) (Q : BN → Fr → AD → Prop) : Prop where
 ex : ∃ n e fr' h', Et C (CR C n) f g c fr h = some (e, fr', h') ∧ Q e fr' h'
def VO (c : Code) : Bool := (Oo c).isSome
def U6 : Code → Bool
 | .seq a b => !VO (.seq a b) && (U6 a && U6 b)
 | _ => true
def PI (c : Code) : Ry := (Oo c).getD ⟨#[], 0, #[], 0, 0, #[], .skip⟩
section
variable {C : FY} {f : FuncId} {g : Gd} {c : Code} {fr : Fr} {h : AD} {Q : BN → Fr → AD → Prop} {N : Nat}
theorem Sg {S : Self} : ∀ (c : Code), U6 c = true → ∀ (fr : Fr) (h : AD), Et C S f g c fr h = Az C S f g c fr h := by
 intro c
 induction c with
 | seq a b iha ihb =>
  intro hn fr h
  simp only [U6, Bool.and_eq_true, Bool.not_eq_true'] at hn
  have : Oo (.seq a b) = none := by
   have := hn.1
   unfold VO at this
   cases hq : Oo (.seq a b) with
   | none => rfl
   | some q => rw [hq] at this; cases this
  simp only [Et, this, Az, iha hn.2.1]
  cases Az C S f g a fr h with
  | none => rfl
  | some x =>
   obtain ⟨e, fr1, h1⟩ := x
   cases e with
   | normal => exact ihb hn.2.2 _ _
   | exit i => rfl
   | ret => rfl
 | _ => intro _ fr h; simp only [Et]
theorem IE (hh : AW C f g c fr h Q) (hs : U6 c = true := by kernel_rfl) : PV C f g c fr h Q := by
 obtain ⟨n, e, fr', h', h1, h2⟩ := hh.ex
 exact ⟨⟨n, e, fr', h', by rw [Sg c hs]; exact h1, h2⟩⟩
theorem FA (hh : PV C f g (left c) fr h (Kb (fun fr h => PV C f g (right c) fr h Q) Q)) (hs : shape c = .seq := by kernel_rfl) (hm : VO c = false := by kernel_rfl) : PV C f g c fr h Q := by
 cases c <;> simp [shape] at hs
 simp only [left, right] at hh
 rename_i a b
 have hno : Oo (.seq a b) = none := by
  unfold VO at hm
  cases hq : Oo (.seq a b) with
  | none => rfl
  | some q => rw [hq] at hm; cases hm
 obtain ⟨n, e, fr1, h1, hx, hq⟩ := (hh).ex
 cases e with
 | normal =>
  obtain ⟨m, e2, fr2, h2, hx2, hq2⟩ := hq.ex
  refine ⟨⟨max n m, e2, fr2, h2, ?_, hq2⟩⟩
  simp only [Et, hno, Iw (Cz C (Nat.le_max_left n m)) hx, Iw (Cz C (Nat.le_max_right n m)) hx2]
 | exit id => exact ⟨⟨n, _, _, _, by simp only [Et, hno, hx], hq⟩⟩
 | ret => exact ⟨⟨n, _, _, _, by simp only [Et, hno, hx], hq⟩⟩
def bP (C : FY) (f : FuncId) (g : Gd) (q : Ry) (ks rs : List Nat) (ot : Option Tmp) (fr : Fr) (h : AD) (Q : BN → Fr → AD → Prop) : Prop :=
 ∃ n o e fr' h', q.o8.toList.getLast? = some o ∧ Ma C (CR C n) f q g ks rs ot o fr h = some (e, fr', h') ∧ Q e fr' h'
theorem Im {S : Self} {ops : Array Oper} : ∀ (k i : Nat) (tch : List (Nat × Nat)) (fr : Fr) (h : AD), i + k ≤ ops.size → Bl C S g ops (EZ i k) tch fr h = Cq C S g ops ((ops.toList.drop i).take k) fr h
 | 0, i, tch, fr, h, e => by rw [List.take_zero]; rfl
 | k + 1, i, tch, fr, h, e => by
  have hi : i < ops.size := by omega
  have hl : i < ops.toList.length := by rw [Array.length_toList]; exact hi
  rw [List.drop_eq_getElem_cons hl, List.take_succ_cons, EZ, Bl, Cq, Array.getElem?_eq_getElem hi]
  simp only [Array.getElem_toList]
  cases Bu ops fr ops[i] with
  | none => rfl
  | some b =>
   cases b with
   | false => exact Im k (i + 1) _ _ _ (by omega)
   | true =>
    simp only [GD, List.nil_append]
    cases A0 C S g h fr ops[i].op with
    | none => rfl
    | some x => exact Im k (i + 1) _ _ _ (by omega)
theorem dropLast_take {α : Type} : ∀ (l : List α) (n : Nat), l.length = n + 1 → l.take n = l.dropLast
 | [a], 0, _ => rfl
 | a :: b :: l, n + 1, h => by
  have := dropLast_take (b :: l) n (by simpa using h)
  simp only [List.take_succ_cons, List.dropLast_cons_cons, this]
 | [], n, h => by cases h
 | [a], n + 1, h => by simp at h
 | a :: b :: l, 0, h => by simp at h
def aB (C : FY) (f : FuncId) (c : Code) (n8 : Nat) : Bool := VO c && Nat.beq (PI c).o8.size (n8 + 1)
theorem NK (n8 : Nat) (ks rs : List Nat) (ot : Option Tmp) (hh : AT C g (PI c).o8 (EZ 0 n8) [] fr h (fun fr1 h1 => bP C f g (PI c) ks rs ot fr1 h1 Q)) (hs : aB C f c n8 = true := by kernel_rfl) (hk : C.VH f (PI c).b = some (ks, rs, ot) := by kernel_rfl) (hq : shape c = .seq := by kernel_rfl) : PV C f g c fr h Q := by
 simp only [aB, Bool.and_eq_true] at hs
 have hsz := Nat.eq_of_beq_eq_true hs.2
 obtain ⟨q, hm⟩ := Option.isSome_iff_exists.1 hs.1
 have hp : PI c = q := by simp only [PI, hm]; rfl
 rw [hp] at hh hk hsz
 obtain ⟨n1, fr1, h1, hr, n2, o, e, fr2, h2, hl, ht, hQ⟩ := hh
 rw [Im _ _ _ _ _ (by omega), List.drop_zero, dropLast_take _ _ (by rw [Array.length_toList]; exact hsz)] at hr
 refine ⟨⟨max n1 n2, e, fr2, h2, ?_, hQ⟩⟩
 cases c <;> simp [shape] at hq
 simp only [Et, hm]
 unfold LM
 rw [hk, hl, D8 (Cz C (Nat.le_max_left n1 n2)) hr]
 exact OX (Cz C (Nat.le_max_right n1 n2)) ht
def RM : Option Oper → Option (TypeId × Operand × Tmp)
 | some o =>
  match o.op, o.dst, o.guard with
  | .range tM x, some tI, none => some (tM, x, tI)
  | _, _, _ => none
 | none => none
theorem VX {o : Oper} {tM : TypeId} {x : Operand} {tI : Tmp} (h : RM (some o) = some (tM, x, tI)) : o.op = .range tM x ∧ o.dst = some tI ∧ o.guard = none := by
 unfold RM at h
 simp only at h
 split at h
 ·cases h; exact ⟨by assumption, by assumption, by assumption⟩
 ·cases h
def bU {σ ρ : Type} (b2 N : Nat) (ob : PG) (X : σ → List (Nat × AA)) (Y : ρ → List (Nat × AA)) (oc : σ → List AA) (rc : ρ → List AA) (x : σ ⊕ ρ) : BN → Fr → AD → Prop := fun e fr h =>
 ((e = .normal ∨ e = .exit b2) ∧ ∃ s, x = .inl s ∧ Has fr N (X s) ∧ Nr ob h = some (oc s)) ∨ (e = .ret ∧ ∃ r, x = .inr r ∧ Has fr N (Y r) ∧ Nr ob h = some (rc r))
def KD (q : Ry) (ks : List Nat) (N tI tn te n10 : Nat) : Bool :=
 decide (V4 q.o9 tI q.tb = some tn) && decide ((Wi q.Qo tI).map (·.1) = some te) && Nat.beq q.Qo.size (n10 + 1) && N8 ks N tn q.tb && (!ks.any (Nat.beq te) && Nat.blt te N) && (decide ks.Nodup && ks.all fun k => Nat.blt k N)
theorem Mg {κ σ ρ : Type} {step : κ → σ → Option (σ ⊕ ρ)} {l : List κ} {s0 : σ} {x0 : σ ⊕ ρ} {enc : κ → AA × AA} {V : σ → List (Nat × AA)} {Y : ρ → List (Nat × AA)} {oc : σ → List AA} {rc : ρ → List AA}
  {q : Ry} {ks rs : List Nat} {ot : Option Tmp} {fr1 : Fr} {h1 : AD} {ob : PG} {id tI tn te n10 : Nat} {tM kt et : TypeId} {y : Operand}
  (hrng : RM q.o8.toList.getLast? = some (tM, y, tI)) (hU : C.P.underlying tM = some (.map kt et)) (hsl : KD q ks N tI tn te n10 = true) (hks : ∀ s, tI :: (V s).map (·.1) = ks) (hrs : ∀ r, (Y r).map (·.1) = rs)
  (hev : ev fr1 y = .map (some id)) (hget : h1.get id = some (.map 2 (l.map enc))) (hmay : g.may id = true) (hobj : Ru h1 fr1 ot = some (ob, oc s0)) (hmayO : Ty g ob = true) (hflat : (oc s0).all Kg = true)
  (hH : Has (fr1.set tI (.ptr (some (h1.size, 0)))) N ((tI, .ptr (some (h1.size, 0))) :: V s0))
  (hold : ∀ s, ∀ p ∈ V s, Hb (h1.size + 1) p.2 = true) (holdY : ∀ r, ∀ p ∈ Y r, Hb (h1.size + 1) p.2 = true) (hdec : C.dec = Qj)
  (hcom : ∀ l', l'.Perm l → BV step l' s0 = some x0)
  (hR : ∀ p ∈ l, ∀ s x, step p s = some x → ∀ fr, Has fr N ((te, .tuple [(enc p).1, (enc p).2]) :: (tI, .ptr (some (h1.size, 0))) :: V s) →
   AT C (MR (h1.size + 1) ob) q.Qo (EZ 1 n10) [] fr (Cc ((h1.set id (.map 0 [])).push (.cells none 0 [])) ob (oc s)) (fun fr h => AW C f (MR (h1.size + 1) ob) q.body fr h (bU q.b2 N ob (fun s => (tI, .ptr (some (h1.size, 0))) :: V s) Y oc rc x))) :
  ∃ n o, q.o8.toList.getLast? = some o ∧ Ma C (CR C n) f q g ks rs ot o fr1 h1 = some (match x0 with
   | .inl s => (.normal, fK N ((tI, .ptr (some (h1.size, 0))) :: V s), Cc ((h1.set id (.map 0 [])).push (.cells none 0 [])) ob (oc s))
   | .inr r => (.ret, fK N (Y r), Cc ((h1.set id (.map 0 [])).push (.cells none 0 [])) ob (rc r))) := by
 obtain ⟨o, ho⟩ : ∃ o, q.o8.toList.getLast? = some o := by
  cases e : q.o8.toList.getLast? with
  | none => rw [e] at hrng; cases hrng
  | some o => exact ⟨o, rfl⟩
 rw [ho] at hrng
 obtain ⟨o1, o2, o3⟩ := VX hrng
 simp only [KD, Bool.and_eq_true, decide_eq_true_eq, Bool.not_eq_true', Nat.blt_eq] at hsl
 obtain ⟨⟨⟨⟨⟨q1, q2⟩, q3⟩, q4⟩, q5, q6⟩, q7, q8⟩ := hsl
 have q3 := Nat.eq_of_beq_eq_true q3
 obtain ⟨⟨te', rest⟩, hen, e'⟩ := Option.map_eq_some_iff.1 q2
 have e'' : te' = te := e'
 subst e''
 obtain ⟨en, hl10, _, _, _⟩ := TG hen
 have hN : fr1.length = N := by have := hH.1; rwa [List.length_set] at this
 have hk0 : DV ks 0 (fr1.set tI (.ptr (some (h1.size, 0)))) = fK N ((tI, .ptr (some (h1.size, 0))) :: V s0) := OG hH (hks s0)
 have hallX : ∀ s, (fK N ((tI, .ptr (some (h1.size, 0))) :: V s)).all (Hb (h1.size + 1)) = true := fun s => Wc fun p hp => by
  rcases List.mem_cons.1 hp with rfl | hp
  ·simp [Hb, QY]
  ·exact hold s p hp
 have htI : tI < N := by
  have := hH.2 (tI, .ptr (some (h1.size, 0))) (by simp)
  rcases Nat.lt_or_ge tI N with hlt | hge
  ·exact hlt
  ·rw [OR (by rw [hH.1]; exact hge)] at this
   cases this
 have hat : ∀ s, LL h1.size (nth (fK N ((tI, .ptr (some (h1.size, 0))) :: V s)) tI) = true := fun s => by
  rw [VD htI]
  simp [JI, Nat.beq_refl, LL]
 have hhsz : ((h1.set id (.map 0 [])).push (.cells none 0 [])).size = h1.size + 1 := by simp
 obtain ⟨n, hn⟩ := NX (rnd := fun n => IM C (CR C n) f q ks rs h1.size tI te' rest ((h1.set id (.map 0 [])).push (.cells none 0 [])) ob) (enc := enc) (st := fun s => (fK N ((tI, .ptr (some (h1.size, 0))) :: V s), oc s)) (rt := fun r => (fK N (Y r), rc r))
  (fun hle hx => N0 (Cz C hle) hx) l.length l s0 rfl (fun p hp s x hx => by
   obtain ⟨k1, fr2, h2, hr, k2, e, fr3, h3, hx3, hQ⟩ := (show AT C (MR (h1.size + 1) ob) q.Qo (EZ 1 n10) [] ((fK N ((tI, .ptr (some (h1.size, 0))) :: V s)).set te' (.tuple [(enc p).1, (enc p).2])) (Cc ((h1.set id (.map 0 [])).push (.cells none 0 [])) ob (oc s)) (fun fr h => ∃ n e fr' h', Az C (CR C n) f (MR (h1.size + 1) ob) q.body fr h = some (e, fr', h') ∧ bU q.b2 N ob (fun s => (tI, .ptr (some (h1.size, 0))) :: V s) Y oc rc x e fr' h') from by
    have hX : Has (fK N ((tI, .ptr (some (h1.size, 0))) :: V s)) N ((tI, .ptr (some (h1.size, 0))) :: V s) := by
     exact Px (by rw [List.map_cons, hks s]; exact q7) fun k hk => by
      rw [List.map_cons, hks s] at hk
      simpa using List.all_eq_true.1 q8 k hk
    have := hR p hp s x hx _ (hX.NV q6 (by rw [List.map_cons, hks s]; exact q5))
    obtain ⟨a, b, c, d, hAW⟩ := this
    exact ⟨a, b, c, d, hAW.ex⟩)
   rw [Hp _ _ _ _ _ (by omega), hl10, List.drop_one, List.tail_cons] at hr
   refine ⟨max k1 k2, ?_⟩
   unfold IM
   simp only [hhsz]
   rw [D8 (Cz C (Nat.le_max_left k1 k2)) hr]
   simp only [BX (Cz C (Nat.le_max_right k1 k2)) hx3]
   rcases hQ with ⟨he, s', rfl, hs', ho'⟩ | ⟨rfl, r, rfl, hr', ho'⟩
   ·have e1 := OG hs' (hks s')
    have e2 : LL h1.size (nth fr3 tI) = true := by
     rw [hs'.2 (tI, .ptr (some (h1.size, 0))) (by simp)]
     simp [LL]
    rcases he with rfl | rfl
    ·simp only [e2, cond_true, O2, e1, hallX, ho', Option.map_some]; rfl
    ·simp only [e2, Nat.beq_refl, Bool.and_self, cond_true, O2, e1, hallX, ho', Option.map_some]; rfl
   ·have e1 := OG hr' (hrs r)
    simp only [O2, e1, Wc (holdY r), cond_true, ho', Option.map_some]; rfl)
  (fun l' hl' => ⟨x0, hcom l' hl'⟩)
 refine ⟨n, o, ho, ?_⟩
 unfold Ma
 simp only [o1, o2, o3, hev, hU, q1, hen, hget, hobj]
 rw [hk0, hallX, hat, hmay, hmayO, hflat, hN, q4]
 simp only [Bool.and_self, cond_true]
 unfold Pl
 have hmain := hn l (List.Perm.refl l) x0 (hcom l (List.Perm.refl l))
 rw [hmain]
 have hd : C.dec.1 (∀ es' : List (AA × AA), es'.Perm (l.map enc) → Cd (IM C (CR C n) f q ks rs h1.size tI te' rest ((h1.set id (.map 0 [])).push (.cells none 0 [])) ob) es' (fK N ((tI, .ptr (some (h1.size, 0))) :: V s0), oc s0) = some (Qf (fun s => (fK N ((tI, .ptr (some (h1.size, 0))) :: V s), oc s)) (fun r => (fK N (Y r), rc r)) x0)) = true := by
  rw [hdec]
  refine @decide_eq_true _ (Classical.propDecidable _) fun es' hp => ?_
  obtain ⟨l', hl', rfl⟩ := P2 hp
  exact hn l' hl' x0 (hcom l' hl')
 cases x0 with
 | inl s =>
  simp only [Qf] at hd ⊢
  rw [hd]
  rfl
 | inr r =>
  simp only [Qf] at hd ⊢
  rw [hd]
  rfl
inductive I1 (n : Nat) : List (Nat × AA) → Prop where
 | nil : I1 n []
 | cons {k : Nat} {v : AA} {l : List (Nat × AA)} : Hb n v = true → I1 n l → I1 n ((k, v) :: l)
theorem I1.all {n : Nat} {l : List (Nat × AA)} (h : I1 n l) : ∀ p ∈ l, Hb n p.2 = true := by
 induction h with
 | nil => intro p hp; cases hp
 | cons h1 _ ih =>
  intro p hp
  rcases List.mem_cons.1 hp with rfl | hp
  ·exact h1
  ·exact ih p hp
theorem HH.YI {L F : List Ck} (a : HH g h L F) (k : Nat) {id : Nat} {o : BY} (hk : L[k]? = some (.obj id o)) (j : Nat) : Hb (h.size + 1) (.ptr (some (id, j))) = true := by
 have := h.Ay (a.get k hk)
 simp only [Hb, QY]
 rw [Nat.blt_eq]
 omega
def bG {σ ρ : Type} (b2 N : Nat) (X : σ → List (Nat × AA)) (Y : ρ → List (Nat × AA)) (x : σ ⊕ ρ) : BN → Fr → AD → Prop := fun e fr h =>
 ((e = .normal ∨ e = .exit b2) ∧ ∃ s, x = .inl s ∧ Has fr N (X s)) ∨ (e = .ret ∧ ∃ r, x = .inr r ∧ Has fr N (Y r))
theorem HH.none_ {n : Nat} {h : AD} (hn : h.size = n) : HH ⟨n, []⟩ h [] [] := ⟨fun c hc => (by cases hc), by simp [CT], fun i hi => (by simp [CT] at hi), fun i hi => (by cases hi), by rw [hn]; exact Nat.le_refl _⟩
theorem Qx {κ σ ρ : Type} {step : κ → σ → Option (σ ⊕ ρ)} {l : List κ} {s0 : σ} {x0 : σ ⊕ ρ} {enc : κ → AA × AA} {V : σ → List (Nat × AA)} {Y : ρ → List (Nat × AA)} {L F : List Ck} {Ak : List (Nat × AA)}
  {c : Code} {ks rs : List Nat} {fr1 : Fr} {h1 : AD} (k : Nat) {id : Nat} (tI tn te n10 : Nat) (tM kt et : TypeId) (y : Operand)
  (A : HH g h1 L F) (H : Has fr1 N Ak) (hm : BV step l s0 = some x0) (hcom : ∀ l', l'.Perm l → BV step l' s0 = BV step l s0)
  (hk : L[k]? = some (.obj id (.map 2 (l.map enc)))) (hev : ∀ fr, ev (CN N Ak fr) y = .map (some id)) (hV0 : ∀ fr, (V s0).map (fun p => nth (CN N Ak fr) p.1) = (V s0).map (·.2))
  (hks : ∀ s, tI :: (V s).map (·.1) = ks) (hrs : ∀ r, (Y r).map (·.1) = rs) (hold : ∀ s, I1 (h1.size + 1) (V s)) (holdY : ∀ r, I1 (h1.size + 1) (Y r))
  (hR : ∀ p, p ∈ l → ∀ s x, step p s = some x → ∀ fr h (it : AA) g F, HH g h [] F → Has fr N ((te, .tuple [(enc p).1, (enc p).2]) :: (tI, it) :: V s) →
   AT C g (PI c).Qo (EZ 1 n10) [] fr h (fun fr h => AW C f g (PI c).body fr h (bG (PI c).b2 N (fun s => (tI, it) :: V s) Y x)))
  (hQ : ∀ s, x0 = .inl s → ∀ fr h, HH g h (L.eraseIdx k) F → Has fr N (V s) → Q .normal fr h) (hQr : ∀ r, x0 = .inr r → ∀ fr h, HH g h (L.eraseIdx k) F → Has fr N (Y r) → Q .ret fr h)
  (hrng : RM (PI c).o8.toList.getLast? = some (tM, y, tI) := by kernel_rfl) (hU : C.P.underlying tM = some (.map kt et) := by kernel_rfl) (hsl : KD (PI c) ks N tI tn te n10 = true := by kernel_rfl) (hrl : (decide rs.Nodup && rs.all fun k => Nat.blt k N) = true := by kernel_rfl) (hdec : C.dec = Qj := by rfl) :
  bP C f g (PI c) ks rs none fr1 h1 Q := by
 have hev' : ev fr1 y = .map (some id) := by have := hev fr1; rw [Dj H] at this; exact this
 have hV0' := hV0 fr1
 rw [Dj H] at hV0'
 have hget := A.get k hk
 have hmay := A.K5 hk (i := id) (by simp [Ck.ids])
 have hsl' := hsl
 simp only [KD, Bool.and_eq_true, decide_eq_true_eq] at hsl'
 obtain ⟨_, hnd, hlt⟩ := hsl'
 have hHV : Has fr1 N (V s0) := Has.of_map H.1 hV0'
 have hkN : tI < N := by
  have := List.all_eq_true.1 hlt tI (by rw [← hks s0]; simp)
  simpa using this
 have hH : Has (fr1.set tI (.ptr (some (h1.size, 0)))) N ((tI, .ptr (some (h1.size, 0))) :: V s0) := hHV.NV hkN (by
  have := hks s0
  rw [← this, List.nodup_cons] at hnd
  rw [Bool.eq_false_iff]
  intro ha
  obtain ⟨j, hj, e⟩ := List.any_eq_true.1 ha
  exact hnd.1 (by rw [Nat.eq_of_beq_eq_true e]; exact hj))
 obtain ⟨n, o, ho, hrun⟩ := Mg (C := C) (f := f) (g := g) (N := N) (step := step) (l := l) (s0 := s0) (x0 := x0) (enc := enc) (V := V) (Y := Y) (oc := fun _ => []) (rc := fun _ => []) (q := PI c) (ks := ks) (rs := rs) (ot := none) (fr1 := fr1) (h1 := h1) (ob := none) hrng hU hsl hks hrs hev' hget hmay rfl rfl rfl hH
  (fun s => (hold s).all) (fun r => (holdY r).all) hdec (fun l' hl' => (hcom l' hl').trans hm)
  (fun p hp s x hx fr hfr => by
   obtain ⟨a, b, d, hr, hAW⟩ := hR p hp s x hx fr ((h1.set id (.map 0 [])).push (.cells none 0 [])) _ ⟨h1.size + 1, []⟩ [] (HH.none_ (by simp)) hfr
   refine ⟨a, b, d, hr, ⟨?_⟩⟩
   obtain ⟨n2, e, fr', h', he, hq⟩ := hAW.ex
   refine ⟨n2, e, fr', h', he, ?_⟩
   rcases hq with ⟨q1, s', q2, q3⟩ | ⟨q1, r, q2, q3⟩
   ·exact .inl ⟨q1, s', q2, q3, rfl⟩
   ·exact .inr ⟨q1, r, q2, q3, rfl⟩)
 have hA' : HH g ((h1.set id (.map 0 [])).push (.cells none 0 [])) (L.eraseIdx k) F := by
  have a1 : HH g ((h1.set id (.map 0 [])).push (.cells none 0 [])) (L.set k (.obj id (.map 0 []))) F := A.Ov hk (by simp) (fun i hi hn => by
   rw [AD.BR _ _ (by simpa using hi), AD.A8 _ _ (h1.Ay hget) (by simpa [Ck.ids] using hn)]) (by
   show AD.get _ id = _
   rw [AD.BR _ _ (by simpa using h1.Ay hget), AD.get_set_same _ _ (h1.Ay hget)]) (fun i hi => .inl hi) (fun i hi => by
   have : i = id := by simpa [Ck.ids] using hi
   rw [this]; exact hmay)
  have hkl : k < L.length := (List.getElem?_eq_some_iff.1 hk).1
  have a2 := (a1.front k (c := .obj id (.map 0 [])) (by rw [List.getElem?_set_self hkl])).tail
  rwa [List.eraseIdx_set_eq] at a2
 have hX : ∀ s, Has (fK N ((tI, .ptr (some (h1.size, 0))) :: V s)) N (V s) := fun s => by
  have := Px (N := N) (l := (tI, .ptr (some (h1.size, 0))) :: V s) (by rw [List.map_cons, hks s]; exact hnd) fun k hk => by
   rw [List.map_cons, hks s] at hk
   simpa using List.all_eq_true.1 hlt k hk
  exact ⟨this.1, fun p hp => this.2 p (by simp [hp])⟩
 refine ⟨n, o, _, _, _, ho, hrun, ?_⟩
 cases x0 with
 | inl s => exact hQ s rfl _ _ hA' (hX s)
 | inr r =>
  simp only [Bool.and_eq_true, decide_eq_true_eq] at hrl
  exact hQr r rfl _ _ hA' (Px (by rw [hrs r]; exact hrl.1) fun k hk => by
   rw [hrs r] at hk
   simpa using List.all_eq_true.1 hrl.2 k hk)
theorem TR (xs : List UInt8) : (Ak eY xs).all Kg = true := by
 induction xs with
 | nil => rfl
 | cons x r ih =>
  have : Ak eY (x :: r) = (.int .u8 x.toNat) :: Ak eY r := rfl
  rw [this, List.all_cons, ih]
  rfl
theorem Uw {n id : Nat} {gr : Option TypeId} : (MR n (some (id, gr))).may id = true := by
 have : ((List.range n).filter fun k => !Nat.beq k id).any (Nat.beq id) = false := by
  rw [Bool.eq_false_iff]
  intro h
  obtain ⟨j, hj, e⟩ := List.any_eq_true.1 h
  have e' := Nat.eq_of_beq_eq_true e
  have := (List.mem_filter.1 hj).2
  rw [← e', Nat.beq_refl] at this
  cases this
 simp [Gd.may, MR, this]
def ag {σ : Type} (b2 N : Nat) (g : Gd) (F : List Ck) (rid : Nat) (e : TypeId) (row : σ → List UInt8) (X : σ → List (Nat × AA)) (x : σ ⊕ Empty) : BN → Fr → AD → Prop := fun ex fr h =>
 (ex = .normal ∨ ex = .exit b2) ∧ ∃ s, x = .inl s ∧ Has fr N (X s) ∧ HH g h [.Ak (some rid) e (Ak eY (row s))] F
theorem RT {κ σ : Type} {step : κ → σ → Option (σ ⊕ Empty)} {l : List κ} {s0 : σ} {x0 : σ ⊕ Empty} {enc : κ → AA × AA} {V : σ → List (Nat × AA)} {row : σ → List UInt8} {L F : List Ck} {lst0 : List (Nat × AA)}
  {c : Code} {ks : List Nat} {fr1 : Fr} {h1 : AD} (k j : Nat) {id : Nat} (rid : Nat) {e : TypeId} (tI tn te ot n10 : Nat) (tM kt et : TypeId) (y : Operand)
  (A : HH g h1 L F) (H : Has fr1 N lst0) (hm : BV step l s0 = some x0) (hcom : ∀ l', l'.Perm l → BV step l' s0 = BV step l s0)
  (hk : L[k]? = some (.obj id (.map 2 (l.map enc)))) (hj : L[j]? = some (.Ak (some rid) e (Ak eY (row s0)))) (hkj : k ≠ j) (hev : ∀ fr, ev (CN N lst0 fr) y = .map (some id)) (hV0 : ∀ fr, ((ot, Af (some rid) (row s0).length) :: V s0).map (fun p => nth (CN N lst0 fr) p.1) = ((ot, Af (some rid) (row s0).length) :: V s0).map (·.2))
  (hks : ∀ s, tI :: ot :: (V s).map (·.1) = ks) (hold : ∀ s, I1 (h1.size + 1) (V s))
  (hR : ∀ p, p ∈ l → ∀ s x, step p s = some x → ∀ fr h (it : AA) g F, HH g h [.Ak (some rid) e (Ak eY (row s))] F → Has fr N ((te, .tuple [(enc p).1, (enc p).2]) :: (tI, it) :: (ot, Af (some rid) (row s).length) :: V s) →
   AT C g (PI c).Qo (EZ 1 n10) [] fr h (fun fr h => AW C f g (PI c).body fr h (ag (PI c).b2 N g F rid e row (fun s => (tI, it) :: (ot, Af (some rid) (row s).length) :: V s) x)))
  (hQ : ∀ s, x0 = .inl s → ∀ fr h, HH g h ((L.set j (.Ak (some rid) e (Ak eY (row s)))).eraseIdx k) F → Has fr N ((ot, Af (some rid) (row s).length) :: V s) → Q .normal fr h)
  (hrng : RM (PI c).o8.toList.getLast? = some (tM, y, tI) := by kernel_rfl) (hU : C.P.underlying tM = some (.map kt et) := by kernel_rfl) (hsl : KD (PI c) ks N tI tn te n10 = true := by kernel_rfl) (hdec : C.dec = Qj := by rfl) :
  bP C f g (PI c) ks [] (some ot) fr1 h1 Q := by
 have hev' : ev fr1 y = .map (some id) := by have := hev fr1; rw [Dj H] at this; exact this
 have hV0' := hV0 fr1
 rw [Dj H] at hV0'
 have hget := A.get k hk
 have hgetO : h1.get rid = some (.cells (some e) 2 (Ak eY (row s0))) := A.mem hj
 have hridl := h1.Ay hgetO
 have hmay := A.K5 hk (i := id) (by simp [Ck.ids])
 have hmayO := A.K5 hj (i := rid) (by simp [Ck.ids])
 have hsl' := hsl
 simp only [KD, Bool.and_eq_true, decide_eq_true_eq] at hsl'
 obtain ⟨_, hnd, hlt⟩ := hsl'
 have hHV : Has fr1 N ((ot, Af (some rid) (row s0).length) :: V s0) := Has.of_map H.1 hV0'
 have hkN : tI < N := by
  have := List.all_eq_true.1 hlt tI (by rw [← hks s0]; simp)
  simpa using this
 have hH : Has (fr1.set tI (.ptr (some (h1.size, 0)))) N ((tI, .ptr (some (h1.size, 0))) :: (ot, Af (some rid) (row s0).length) :: V s0) := hHV.NV hkN (by
  have := hks s0
  rw [← this, List.nodup_cons] at hnd
  rw [Bool.eq_false_iff]
  intro ha
  obtain ⟨q, hq, e⟩ := List.any_eq_true.1 ha
  exact hnd.1 (by rw [Nat.eq_of_beq_eq_true e]; exact hq))
 have hne : rid ≠ id := by
  intro e
  subst e
  have := hget.symm.trans hgetO
  cases this
 have hold' : ∀ s, ∀ p ∈ (ot, Af (some rid) (row s).length) :: V s, Hb (h1.size + 1) p.2 = true := fun s p hp => by
  rcases List.mem_cons.1 hp with rfl | hp
  ·show Nat.blt rid (h1.size + 1) = true
   rw [Nat.blt_eq]
   omega
  ·exact (hold s).all p hp
 obtain ⟨n, o, ho, hrun⟩ := Mg (C := C) (f := f) (g := g) (N := N) (step := step) (l := l) (s0 := s0) (x0 := x0) (enc := enc) (V := fun s => (ot, Af (some rid) (row s).length) :: V s) (Y := fun _ => []) (oc := fun s => Ak eY (row s)) (rc := fun _ => []) (q := PI c) (ks := ks) (rs := []) (ot := some ot) (fr1 := fr1) (h1 := h1) (ob := some (rid, some e)) hrng hU hsl hks (fun _ => rfl) hev' hget hmay
  (by
   have := hHV.2 (ot, Af (some rid) (row s0).length) (by simp)
   simp only [Ru, this, Af, Option.map_some, hgetO]) hmayO (TR _) hH hold' (fun r => r.elim) hdec (fun l' hl' => (hcom l' hl').trans hm)
  (fun p hp s x hx fr hfr => by
   have hget' : (Cc ((h1.set id (.map 0 [])).push (.cells none 0 [])) (some (rid, some e)) (Ak eY (row s))).get rid = some (.cells (some e) 2 (Ak eY (row s))) := AD.get_set_same _ _ (by simp; omega)
   have hA0 : HH (MR (h1.size + 1) (some (rid, some e))) (Cc ((h1.set id (.map 0 [])).push (.cells none 0 [])) (some (rid, some e)) (Ak eY (row s))) [.Ak (some rid) e (Ak eY (row s))] [] := by
    refine ⟨fun c hc => ?_, by simp [CT, Ck.ids], fun i hi => ?_, fun i hi => ?_, Nat.zero_le _⟩
    ·have : c = .Ak (some rid) e (Ak eY (row s)) := by simpa using hc
     subst this
     exact hget'
    ·have : i = rid := by simpa [CT, Ck.ids] using hi
     subst this
     exact Uw
    ·rw [GS]
     have := (List.mem_filter.1 hi).1
     simpa using this
   obtain ⟨a, b, d, hr, hAW⟩ := hR p hp s x hx fr _ _ _ [] hA0 hfr
   refine ⟨a, b, d, hr, ⟨?_⟩⟩
   obtain ⟨n2, ex, fr', h', he, hq⟩ := hAW.ex
   refine ⟨n2, ex, fr', h', he, ?_⟩
   obtain ⟨q1, s', q2, q3, q4⟩ := hq
   refine .inl ⟨q1, s', q2, q3, ?_⟩
   have hg' : h'.get rid = some (.cells (some e) 2 (Ak eY (row s'))) := q4.mem (k := 0) rfl
   simp only [Nr, hg', TR, and_self, if_true])
 cases x0 with
 | inr r => exact r.elim
 | inl s =>
  refine ⟨n, o, _, _, _, ho, hrun, hQ s rfl _ _ ?_ ?_⟩
  ·have a0 : HH g (Cc ((h1.set id (.map 0 [])).push (.cells none 0 [])) (some (rid, some e)) (Ak eY (row s))) ((L.set j (.Ak (some rid) e (Ak eY (row s)))).set k (.obj id (.map 0 []))) F := by
    have b1 : HH g (h1.set id (.map 0 [])) (L.set k (.obj id (.map 0 []))) F := A.set k _ hk
    have b2 : HH g ((h1.set id (.map 0 [])).push (.cells none 0 [])) (L.set k (.obj id (.map 0 []))) F := (b1.push _).tail
    have b3 := b2.Ov (k := j) (c := .Ak (some rid) e (Ak eY (row s0))) (d := .Ak (some rid) e (Ak eY (row s))) (h' := Cc ((h1.set id (.map 0 [])).push (.cells none 0 [])) (some (rid, some e)) (Ak eY (row s))) (by rw [List.getElem?_set_ne hkj]; exact hj) (by rw [GS]; exact Nat.le_refl _) (fun i hi hn => AD.A8 _ _ (by simp; omega) (by simpa [Ck.ids] using hn)) (AD.get_set_same _ _ (by simp; omega)) (fun i hi => .inl hi) (fun i hi => by
     have : i = rid := by simpa [Ck.ids] using hi
     rw [this]; exact hmayO)
    rw [List.set_comm _ _ hkj] at b3
    exact b3
   have hkl : k < L.length := (List.getElem?_eq_some_iff.1 hk).1
   have a2 := (a0.front k (c := .obj id (.map 0 [])) (by rw [List.getElem?_set_self (by simpa using hkl)])).tail
   rwa [List.eraseIdx_set_eq] at a2
  ·have := Px (N := N) (l := (tI, .ptr (some (h1.size, 0))) :: (ot, Af (some rid) (row s).length) :: V s) (by rw [List.map_cons, List.map_cons, hks s]; exact hnd) fun k hk => by
    rw [List.map_cons, List.map_cons, hks s] at hk
    simpa using List.all_eq_true.1 hlt k hk
   exact ⟨this.1, fun p hp => this.2 p (by simp only [List.mem_cons] at hp ⊢; exact .inr hp)⟩
theorem Tv {args args' : List AA} {n : Nat} {rs : List ResultVar} {R : AA → AD → Prop} (hk : C.kind f = 10) (hc : BG (C.still f) args = args') (hf : GQ C.P f = some (n, rs))
  (hh : PV C f g (EX C.P f) (args' ++ List.replicate (n - args'.length) (.tuple [])) h (fun e fr h' => (e = .ret ∨ e = .normal) ∧ ∃ v, KX C.P rs fr h' = some v ∧ R v h')) : ∃ v h', BH C g h f args v h' ∧ R v h' := by
 obtain ⟨m, e, fr', h2, hx, hq, v, hv, hR⟩ := hh.ex
 refine ⟨v, h2, ⟨m + 1, ?_⟩, hR⟩
 show Gm C (CR C m) g h f args = _
 unfold Gm
 rw [hk]
 simp only [hc]
 unfold GQ at hf
 unfold EX at hx
 unfold OU
 split at hf
 ·rename_i fn hfn
  split at hf
  ·rename_i c hcc
   simp only [Option.some.injEq, Prod.mk.injEq] at hf
   obtain ⟨rfl, rfl⟩ := hf
   simp only [hfn, hcc] at hx ⊢
   rcases hq with rfl | rfl
   ·rw [hx]; simp only; rw [show Cg C.P fn fr' h2 = some v from hv]; rfl
   ·rw [hx]; simp only; rw [show Cg C.P fn fr' h2 = some v from hv]; rfl
  ·cases hf
 ·cases hf
theorem bJ (x : Option (Nat × Nat)) : Ji g h (.ptr x) = some (.ptr x, h) := rfl
theorem XD {args args' : List AA} {n : Nat} {rs : List ResultVar} {R : AA → AD → Prop} {h0 : AD} (hk : C.kind f = 11) (hz : JT (Ji g) args h0 = some (args', h)) (hf : GQ C.P f = some (n, rs))
  (hh : AW C f g (EX C.P f) (args' ++ List.replicate (n - args'.length) (.tuple [])) h (fun e fr h' => (e = .ret ∨ e = .normal) ∧ ∃ v, KX C.P rs fr h' = some v ∧ R v h')) : ∃ v h', BH C g h0 f args v h' ∧ R v h' := by
 obtain ⟨v, h', hb, hR⟩ := OW hf hh
 obtain ⟨m, hm⟩ := hb
 refine ⟨v, h', ⟨m + 1, ?_⟩, hR⟩
 show Gm C (CR C m) g h0 f args = _
 unfold Gm
 rw [hk]
 simp only [hz]
 exact hm
theorem WL {c : Code} {Q : BN → Fr → AD → Prop} {args : List AA} {n : Nat} (ins : List (Nat × AA)) (hl : (args ++ List.replicate (n - args.length) (AA.tuple [])).length = n) (hi : ins.map (fun p => nth (args ++ List.replicate (n - args.length) (AA.tuple [])) p.1) = ins.map (·.2))
  (hh : ∀ fr, Has fr n ins → PV C f g c fr h Q) : PV C f g c (args ++ List.replicate (n - args.length) (.tuple [])) h Q := hh _ (Has.of_map hl hi)
end
end Go.Av
