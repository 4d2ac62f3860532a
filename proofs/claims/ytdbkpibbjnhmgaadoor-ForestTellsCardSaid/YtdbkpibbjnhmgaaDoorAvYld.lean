/-
 A part.
-/
import Derived.Test.YtdbkpibbjnhmgaaDoorAvTy
namespace Go.Av
set_option linter.unusedVariables false
set_option linter.unusedSimpArgs false
def MB (C : EP) (g : Gd) (h : AB) (l : Nat) (args : List AA) (v : AA) (h' : AB) : Prop := ∃ n, (Ca C n).round g h l args = some (v, h')
section
variable {C : EP} {S : Self} {g : Gd} {h h1 : AB} {fr : Fr} {op : Op}
theorem Tl {l : Nat} {args : List AA} {v : AA} (hs : NS fr op = some (l, args)) (hl : S.round g h l args = some (v, h1)) : Aw C S g h fr op = some (v, h1) := by
 unfold NS at hs
 split at hs
 ·split at hs
  ·rename_i he
   simp only [Option.some.injEq, Prod.mk.injEq] at hs
   obtain ⟨rfl, rfl⟩ := hs
   simp only [Aw, he]
   exact hl
  ·cases hs
 ·cases hs
theorem Steps.round {l : Nat} {args : List AA} {v : AA} (hs : NS fr op = some (l, args)) (hr : MB C g h l args v h1) : Steps C g h fr op v h1 := by
 obtain ⟨n, hn⟩ := hr
 exact ⟨n, Tl hs hn⟩
end
def N1 {X σ ρ : Type} (Y : σ → X → Option (σ ⊕ ρ)) (y : σ ⊕ ρ) (x : X) : Option (Bool × (σ ⊕ ρ)) :=
 match y with
 | .inl s => (Y s x).map fun o => (o.isLeft, o)
 | .inr _ => none
structure YR (C : EP) (g : Gd) (l : Nat) {X σ ρ : Type} (ex : X → List AA) (Y : σ → X → Option (σ ⊕ ρ)) (R : σ ⊕ ρ → List Ck → Prop) : Prop where
 round : ∀ (pr : List Nat) (h : AB) (L F : List Ck) (s : σ) (x : X) (o : σ ⊕ ρ), (∀ i ∈ pr, i ∈ AX L) → HH g h L F → R (.inl s) F → Y s x = some o →
  ∃ h' F', MB C ⟨g.floor, pr ++ g.Bg⟩ h l (ex x) (.bool o.isLeft) h' ∧ R o F' ∧ HH g h' L F'
theorem YR.N1 {C : EP} {g : Gd} {l : Nat} {X σ ρ : Type} {ex : X → List AA} {Y : σ → X → Option (σ ⊕ ρ)} {R : σ ⊕ ρ → List Ck → Prop} (w : YR C g l ex Y R) {pr : List Nat} {h : AB} {L F : List Ck} {y y' : σ ⊕ ρ} {x : X} {b : Bool} (hp : P7 L pr) (A : HH g h L F) (B : R y F) (hm : N1 Y y x = some (b, y')) :
  ∃ h' F', MB C ⟨g.floor, pr ++ g.Bg⟩ h l (ex x) (.bool b) h' ∧ R y' F' ∧ HH g h' L F' := by
 unfold Av.N1 at hm
 cases y with
 | inr r => cases hm
 | inl s =>
  simp only [Option.map_eq_some_iff, Prod.mk.injEq] at hm
  obtain ⟨o, h1, rfl, rfl⟩ := hm
  exact w.round pr h L F s x o hp.mem A B h1
theorem HH.RM {g : Gd} {h : AB} {L F : List Ck} {id : Nat} {o : A9} (a : HH g h L (.obj id o :: F)) (o' : A9) : HH g (h.set id o') L (.obj id o' :: F) := by
 have hid : h.get id = some o := a.ok (.obj id o) (by simp)
 have hlt : id < h.size := h.An hid
 have e : AX (L ++ .obj id o' :: F) = AX (L ++ .obj id o :: F) := by simp [AX, Ck.ids]
 have nd := a.nd
 refine ⟨fun c hc => ?_, by rw [e]; exact a.nd, a.may, a.Bg, a.floor⟩
 have hn : ∀ c ∈ L ++ F, id ∉ c.ids := fun c hc hi => by
  have hq : (AX (L ++ .obj id o :: F)).Perm (id :: AX (L ++ F)) := by
   have e1 : AX (L ++ .obj id o :: F) = AX L ++ id :: AX F := by simp [AX, Ck.ids]
   rw [e1, AY]
   exact List.perm_middle
  have := (List.nodup_cons.1 (hq.nodup_iff.1 nd)).1
  exact this (by simp only [AX, List.mem_flatMap]; exact ⟨c, hc, hi⟩)
 simp only [List.mem_append, List.mem_cons] at hc
 have FY : c ∈ L ∨ c ∈ F → c.ok (h.set id o') := fun hc => by
  refine Ck.Qd (a.ok c (by simp only [List.mem_append, List.mem_cons]; rcases hc with h | h <;> simp [h])) fun i hi => ?_
  have : i ≠ id := fun e => hn c (List.mem_append.2 hc) (e ▸ hi)
  rw [AB.Ar _ _ hlt this]
 rcases hc with hc | rfl | hc
 ·exact FY (.inl hc)
 ·show (h.set id o').get id = some o'
  rw [AB.get_set_same _ _ hlt]
 ·exact FY (.inr hc)
theorem HH.swap {g g' : Gd} {h : AB} {L F L' F' : List Ck} (a : HH g h L F) (hp : (L' ++ F').Perm (L ++ F)) (hm : ∀ i ∈ AX L', g'.may i = true) (hpr : ∀ i ∈ g'.Bg, i < h.size) (hf : g'.floor ≤ h.size) : HH g' h L' F' :=
 ⟨fun c hc => a.ok c (hp.mem_iff.1 hc), ((hp.flatMap_right Ck.ids).nodup_iff).2 a.nd, hm, hpr, hf⟩
theorem NB {g : Gd} {pr : List Nat} {i : Nat} (hm : g.may i = true) (hn : i ∉ pr) : (⟨g.floor, pr ++ g.Bg⟩ : Gd).may i = true := by
 simp only [Gd.may, Bool.and_eq_true, Bool.not_eq_true', List.any_append, Bool.or_eq_false_iff] at hm ⊢
 refine ⟨hm.1, ?_, hm.2⟩
 rw [List.any_eq_false]
 intro j hj hb
 exact hn (Nat.eq_of_beq_eq_true hb ▸ hj)
theorem KB {g : Gd} {pr : List Nat} {i : Nat} (hm : (⟨g.floor, pr ++ g.Bg⟩ : Gd).may i = true) : g.may i = true := by
 simp only [Gd.may, Bool.and_eq_true, Bool.not_eq_true', List.any_append, Bool.or_eq_false_iff] at hm ⊢
 exact ⟨hm.1, hm.2.2⟩
def exitCode : BL → Option Code
 | .normal => none
 | .ret => some .ret
 | .exit i => some (.exit i)
section
variable {C : EP} {f : FuncId} {g : Gd} {l : Nat} {X σ ρ : Type} {ex : X → List AA} {Y : σ → X → Option (σ ⊕ ρ)} {fr : Fr} {ps : List Tmp} {a b : Code} {PL : σ → List Ck → Prop} {PR : ρ → List Ck → Prop} {pe : ρ → Code} {F0 : List Ck}
def XX (g : Gd) (l : Nat) (f : FuncId) (fr : Fr) (ps : List Tmp) (a b : Code) (PL : σ → List Ck → Prop) (PR : ρ → List Ck → Prop) (pe : ρ → Code) (F0 : List Ck) : σ ⊕ ρ → List Ck → Prop
 | .inl s, F => ∃ Lc, PL s Lc ∧ F = .obj l (.loop 0 none f fr ps a b) :: (Lc ++ F0) ∧ g.may l = true ∧ ∀ i ∈ AX Lc, g.may i = true
 | .inr r, F => ∃ Lc, PR r Lc ∧ F = .obj l (.loop 2 (some (pe r)) f fr ps a b) :: (Lc ++ F0) ∧ g.may l = true ∧ ∀ i ∈ AX Lc, g.may i = true
def KU (C : EP) (f : FuncId) (ps : List Tmp) (a b : Code) (fr : Fr) (ex : X → List AA) (Y : σ → X → Option (σ ⊕ ρ)) (PL : σ → List Ck → Prop) (PR : ρ → List Ck → Prop) (pe : ρ → Code) : Prop :=
 ∀ (g : Gd) (h : AB) (F : List Ck) (s : σ) (x : X) (o : σ ⊕ ρ) (Lc : List Ck), PL s Lc → Y s x = some o → HH g h Lc F →
  AW C f g a (GZ ps (ex x) fr) h (fun e fr1 h1 => e = .normal ∧ ∃ Lc1, HH g h1 Lc1 F ∧ ∀ (h2 : AB) (F2 : List Ck), HH g h2 Lc1 F2 →
   AW C f g b fr1 h2 (fun e fr2 h3 => match o with | .inl s' => e = .normal ∧ ∃ Lc', PL s' Lc' ∧ HH g h3 Lc' F2 | .inr r => exitCode e = some (pe r) ∧ ∃ Lc', PR r Lc' ∧ HH g h3 Lc' F2))
theorem Wp (hlen : ∀ x, (ex x).length = ps.length) (hrok : C.Rs f a b = true) (hb : KU C f ps a b fr ex Y PL PR pe) : YR C g l ex Y (XX g l f fr ps a b PL PR pe F0) := by
 refine ⟨fun pr h L F s x o hpr A B hm => ?_⟩
 obtain ⟨Lc, hPL, rfl, hl, hmay⟩ := B
 have hnd := A.nd
 have hq : (L ++ Ck.obj l (.loop 0 none f fr ps a b) :: (Lc ++ F0)).Perm (Lc ++ .obj l (.loop 0 none f fr ps a b) :: (L ++ F0)) := by
  refine List.perm_middle.trans (List.Perm.trans ?_ List.perm_middle.symm)
  refine List.Perm.cons _ ?_
  exact List.perm_append_comm_assoc _ _ _
 have hdis : ∀ i ∈ AX L, i ∉ AX (.obj l (.loop 0 none f fr ps a b) :: (Lc ++ F0)) := fun i hi hn => by
  rw [AY, List.nodup_append] at hnd
  exact hnd.2.2 i hi i hn rfl
 have hl' : (⟨g.floor, pr ++ g.Bg⟩ : Gd).may l = true := NB hl fun hn => hdis l (hpr l hn) (by simp [AX, Ck.ids])
 have A1 : HH ⟨g.floor, pr ++ g.Bg⟩ h Lc (.obj l (.loop 0 none f fr ps a b) :: (L ++ F0)) :=
  A.swap hq.symm (fun i hi => NB (hmay i hi) fun hn => hdis i (hpr i hn) (by
   have : AX (.obj l (.loop 0 none f fr ps a b) :: (Lc ++ F0)) = l :: (AX Lc ++ AX F0) := by simp [AX, Ck.ids]
   rw [this]; simp [hi]))
   (fun i hi => by
    rcases List.mem_append.1 hi with hi | hi
    ·exact A.lt (by rw [AY]; exact List.mem_append.2 (.inl (hpr i hi)))
    ·exact A.Bg i hi) A.floor
 obtain ⟨n1, e1, fr1, h1, hx1, rfl, Lc1, A2, hb2⟩ := (hb _ h _ s x o Lc hPL hm A1).ex
 have hg1 : h1.get l = some (.loop 0 none f fr ps a b) := A2.ok (.obj l _) (by simp)
 have A3 := A2.RM (.loop 1 none f fr ps a b)
 obtain ⟨n2, e2, fr2, h3, hx2, hq2⟩ := (hb2 _ _ A3).ex
 have hg0 : h.get l = some (.loop 0 none f fr ps a b) := A.ok (.obj l _) (by simp)
 have m1 := BS (DY C (Nat.le_max_left n1 n2)) hx1
 have m2 := BS (DY C (Nat.le_max_right n1 n2)) hx2
 have back : ∀ (Lc' : List Ck) (ob : A9), HH ⟨g.floor, pr ++ g.Bg⟩ h3 Lc' (.obj l (.loop 1 none f fr ps a b) :: (L ++ F0)) →
   HH g (h3.set l ob) L (.obj l ob :: (Lc' ++ F0)) ∧ ∀ i ∈ AX Lc', g.may i = true := fun Lc' ob A4 => by
  have A5 := A4.RM ob
  refine ⟨A5.swap ?_ A.may (fun i hi => A5.Bg i (List.mem_append.2 (.inr hi))) A5.floor, fun i hi => KB (A4.may i hi)⟩
  refine List.perm_middle.trans (List.Perm.trans ?_ List.perm_middle.symm)
  exact List.Perm.cons _ (List.perm_append_comm_assoc _ _ _)
 have run : ∀ (j : Option Code), exitCode e2 = j → h3.get l = some (.loop 1 none f fr ps a b) → MB C ⟨g.floor, pr ++ g.Bg⟩ h l (ex x) (.bool j.isNone) (h3.set l (.loop (Wu j) j f fr ps a b)) := fun j hj hg3 => by
  refine ⟨max n1 n2 + 1, ?_⟩
  show GS C (Ca C (max n1 n2)) _ h l (ex x) = _
  unfold GS
  simp only [hg0, hlen, Nat.beq_eq_true_eq, hl', hrok, m1, hg1, m2]
  have hbq : Nat.beq ps.length ps.length = true := Nat.beq_refl _
  simp only [hbq, Bool.and_self, cond_true]
  cases e2 with
  | normal => simp only [exitCode] at hj; subst hj; simp only [DO, hg3, hl', cond_true]
  | ret => simp only [exitCode] at hj; subst hj; simp only [DO, hg3, hl', cond_true]
  | exit i => simp only [exitCode] at hj; subst hj; simp only [DO, hg3, hl', cond_true]
 cases o with
 | inl s' =>
  obtain ⟨rfl, Lc', hP, A4⟩ := hq2
  obtain ⟨A5, hm5⟩ := back Lc' (.loop 0 none f fr ps a b) A4
  exact ⟨_, _, run none rfl (A4.ok (.obj l _) (by simp)), ⟨Lc', hP, rfl, hl, hm5⟩, A5⟩
 | inr r =>
  obtain ⟨he, Lc', hP, A4⟩ := hq2
  obtain ⟨A5, hm5⟩ := back Lc' (.loop 2 (some (pe r)) f fr ps a b) A4
  exact ⟨_, _, run _ he (A4.ok (.obj l _) (by simp)), ⟨Lc', hP, rfl, hl, hm5⟩, A5⟩
theorem Jp {e : BL} (h : exitCode e = some .ret) : e = .ret := by
 cases e with
 | normal => cases h
 | ret => rfl
 | exit i => cases h
theorem Pw {N : Nat} {kn0 : List (Nat × AA)} (H : Has fr N kn0) {kn : X → List (Nat × AA)} (hk : ∀ x fr, (kn x).map (fun p => nth (GZ ps (ex x) (Bx N kn0 fr)) p.1) = (kn x).map (·.2))
  (hb : ∀ (g : Gd) (h : AB) (F : List Ck) (s : σ) (x : X) (o : σ ⊕ ρ) (Lc : List Ck) (fr1 : Fr), Has fr1 N (kn x) → PL s Lc → Y s x = some o → HH g h Lc F →
   AW C f g a fr1 h (fun e fr1 h1 => e = .normal ∧ ∃ Lc1, HH g h1 Lc1 F ∧ ∀ (h2 : AB) (F2 : List Ck), HH g h2 Lc1 F2 →
    AW C f g b fr1 h2 (fun e fr2 h3 => match o with | .inl s' => e = .normal ∧ ∃ Lc', PL s' Lc' ∧ HH g h3 Lc' F2 | .inr r => exitCode e = some (pe r) ∧ ∃ Lc', PR r Lc' ∧ HH g h3 Lc' F2))) : KU C f ps a b fr ex Y PL PR pe := by
 intro g h F s x o Lc hP hm A
 refine hb g h F s x o Lc _ ?_ hP hm A
 have := hk x fr
 rw [Cf H] at this
 exact Has.of_map (by rw [Gy]; exact H.1) this
theorem SZ {c : Code} {h : AB} {Lu Lc F : List Ck} {x : Operand} {f' : FuncId} {first cap : List AA} {N : Nat} {kn : List (Nat × AA)} {Q : BL → Fr → AB → Prop} {s : σ} {y : σ ⊕ ρ} {PU : List Ck → Prop}
  (hs : shape c = .range x ps) (H : Has fr N kn) (hx : ∀ fr, ev (Bx N kn fr) x = .func (.func f') first cap) (hbd : I7 C.P f' = true) (hlen : ∀ x, (ex x).length = ps.length) (hrok : C.Rs f (left c) (right c) = true)
  (A : HH g h (Lu ++ Lc) F) (h0 : PL s Lc) (hb : KU C f ps (left c) (right c) fr ex Y PL PR pe)
  (hit : ∀ (h1 : AB) (l : Nat) (F1 : List Ck) (R : σ ⊕ ρ → List Ck → Prop), YR C g l ex Y R → R (.inl s) F1 → HH g h1 Lu F1 → ∃ v h2 F2 Lu', CC C g h1 f' (first ++ ([.Fw l] ++ cap)) v h2 ∧ R y F2 ∧ PU Lu' ∧ HH g h2 Lu' F2)
  (hkl : ∀ s' h3 Lc' Lu', y = .inl s' → PL s' Lc' → PU Lu' → HH g h3 (Lu' ++ Lc') F → Q .normal fr h3)
  (hkr : ∀ r h3 Lc' Lu' e, y = .inr r → exitCode e = some (pe r) → PR r Lc' → PU Lu' → HH g h3 (Lu' ++ Lc') F → Q e fr h3)
  (hpe : ∀ r, ∃ e, exitCode e = some (pe r)) : AW C f g c fr h Q := by
 cases c <;> simp [shape] at hs
 rename_i x' ps' a b
 obtain ⟨rfl, rfl⟩ := hs
 simp only [left, right] at hb hrok
 have hx' : ev fr x' = .func (.func f') first cap := by have := hx fr; rwa [Cf H] at this
 have hl : g.may h.size = true := A.new
 have A1 := A.push (.loop 0 none f fr ps'.toList a b)
 have hmay : ∀ i ∈ AX Lc, g.may i = true := fun i hi => A.may i (by rw [AY]; exact List.mem_append.2 (.inr hi))
 have A2 : HH g (h.push (.loop 0 none f fr ps'.toList a b)) Lu (.obj h.size (.loop 0 none f fr ps'.toList a b) :: (Lc ++ F)) := by
  refine A1.swap ?_ (fun i hi => A.may i (by rw [AY]; exact List.mem_append.2 (.inl hi))) A1.Bg A1.floor
  refine List.perm_middle.trans ?_
  rw [List.cons_append, List.append_assoc]
 obtain ⟨v, h2, F2, Lu', ⟨n, hr⟩, hR, hPU, A3⟩ := hit _ h.size _ _ (Wp (g := g) (l := h.size) (F0 := F) hlen hrok hb) ⟨Lc, h0, rfl, hl, hmay⟩ A2
 have fin : ∀ (Lc' : List Ck) (st : Nat) (pd : Option Code), st ≠ 1 → F2 = .obj h.size (.loop st pd f fr ps'.toList a b) :: (Lc' ++ F) → (∀ i ∈ AX Lc', g.may i = true) →
   HH g (h2.set h.size (.loop 3 pd f fr ps'.toList a b)) (Lu' ++ Lc') F ∧ h2.get h.size = some (.loop st pd f fr ps'.toList a b) := fun Lc' st pd hst hF hm' => by
  subst hF
  have A4 := A3.RM (.loop 3 pd f fr ps'.toList a b)
  refine ⟨?_, A3.ok (.obj h.size _) (by simp)⟩
  have A5 : HH g (h2.set h.size (.loop 3 pd f fr ps'.toList a b)) (.obj h.size (.loop 3 pd f fr ps'.toList a b) :: (Lu' ++ Lc')) F := by
   refine A4.swap ?_ (fun i hi => ?_) A4.Bg A4.floor
   ·rw [List.cons_append, List.append_assoc]
    exact List.perm_middle.symm
   ·have : AX (.obj h.size (.loop 3 pd f fr ps'.toList a b) :: (Lu' ++ Lc')) = h.size :: (AX Lu' ++ AX Lc') := by simp [AX, Ck.ids]
    rw [this] at hi
    simp only [List.mem_cons, List.mem_append] at hi
    rcases hi with rfl | hi | hi
    ·exact hl
    ·exact A3.may i hi
    ·exact hm' i hi
  exact A5.tail
 cases y with
 | inl s' =>
  obtain ⟨Lc', hP, hF, _, hm'⟩ := hR
  obtain ⟨A6, hg⟩ := fin Lc' 0 none (by decide) hF hm'
  refine ⟨⟨n, .normal, fr, _, ?_, hkl s' _ Lc' Lu' rfl hP hPU A6⟩⟩
  simp only [Aa, hx', hbd, Bool.not_true, cond_false, hr, hg, hl]
  rfl
 | inr r =>
  obtain ⟨Lc', hP, hF, _, hm'⟩ := hR
  obtain ⟨A6, hg⟩ := fin Lc' 2 (some (pe r)) (by decide) hF hm'
  obtain ⟨e, he⟩ := hpe r
  refine ⟨⟨n, e, fr, _, ?_, hkr r _ Lc' Lu' e rfl he hP hPU A6⟩⟩
  simp only [Aa, hx', hbd, Bool.not_true, cond_false, hr, hg, hl]
  cases e with
  | normal => cases he
  | ret => simp only [exitCode, Option.some.injEq] at he; rw [← he]; rfl
  | exit i => simp only [exitCode, Option.some.injEq] at he; rw [← he]; rfl
end
end Go.Av
