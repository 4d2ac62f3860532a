/-
 A part.
-/
import Derived.Test.YtdbkpibbjnhmgaaDoorAvYld
namespace Go.Av
set_option linter.unusedVariables false
set_option linter.unusedSimpArgs false
section
variable {τ : Type}
def KS (Q : τ → List Ck → Prop) (Fx : List Ck) : τ → List Ck → Prop := fun t F => ∃ F0, F = Fx ++ F0 ∧ Q t F0
structure Tg (St : Gd → (τ → List Ck → Prop) → Prop) : Prop where
 fr : ∀ (g : Gd) (pr : List Nat) (Fx : List Ck) (Q : τ → List Ck → Prop), St g Q → (∀ i ∈ pr, i ∈ AX Fx) → (∀ i ∈ AX Fx, g.may i = true) → St ⟨g.floor, pr ++ g.Bg⟩ (KS Q Fx)
theorem YR.frame {C : EP} {g : Gd} {l : Nat} {X σ ρ : Type} {ex : X → List AA} {Y : σ → X → Option (σ ⊕ ρ)} {R : σ ⊕ ρ → List Ck → Prop} (w : YR C g l ex Y R) (pr : List Nat) (Fx : List Ck) (hpr : ∀ i ∈ pr, i ∈ AX Fx) (hm : ∀ i ∈ AX Fx, g.may i = true) : YR C ⟨g.floor, pr ++ g.Bg⟩ l ex Y (KS R Fx) := by
 refine ⟨fun pr' h L F s x o hp A B hY => ?_⟩
 obtain ⟨F0, rfl, B⟩ := B
 have A1 : HH g h (L ++ Fx) F0 := A.swap (by rw [List.append_assoc]) (fun i hi => by
   rw [AY, List.mem_append] at hi
   rcases hi with hi | hi
   ·exact KB (A.may i hi)
   ·exact hm i hi) (fun i hi => A.Bg i (List.mem_append.2 (.inr hi))) A.floor
 obtain ⟨h', F', h1, h2, h3⟩ := w.round (pr' ++ pr) h (L ++ Fx) F0 s x o (fun i hi => by
   rw [AY, List.mem_append]
   rcases List.mem_append.1 hi with hi | hi
   ·exact .inl (hp i hi)
   ·exact .inr (hpr i hi)) A1 B hY
 refine ⟨h', Fx ++ F', ?_, ⟨F', rfl, h2⟩, h3.swap (by rw [List.append_assoc]) A.may (fun i hi => ?_) h3.floor⟩
 ·rw [List.append_assoc] at h1
  exact h1
 ·rcases List.mem_append.1 hi with hi | hi
  ·exact h3.lt (by rw [AY, AY]; exact List.mem_append.2 (.inl (List.mem_append.2 (.inr (hpr i hi)))))
  ·exact h3.Bg i hi
def XU (c : Ck) : Gd → (τ → List Ck → Prop) → Prop := fun _ Q => ∀ t F, Q t F → c ∈ F
theorem SR (c : Ck) : Tg (τ := τ) (XU c) := ⟨fun g pr Fx Q h _ _ t F hF => by
 obtain ⟨F0, rfl, hQ⟩ := hF
 exact List.mem_append.2 (.inr (h t F0 hQ))⟩
def Xu (C : EP) (l : Nat) {X σ ρ : Type} (ex : X → List AA) (Y : σ → X → Option (σ ⊕ ρ)) (c : Ck) : Gd → (σ ⊕ ρ → List Ck → Prop) → Prop := fun g Q => YR C g l ex Y Q ∧ ∀ t F, Q t F → c ∈ F
theorem VX {C : EP} {l : Nat} {X σ ρ : Type} {ex : X → List AA} {Y : σ → X → Option (σ ⊕ ρ)} {c : Ck} : Tg (Xu C l ex Y c) := ⟨fun g pr Fx Q h h1 h2 => ⟨h.1.frame pr Fx h1 h2, fun t F hF => by
 obtain ⟨F0, rfl, hQ⟩ := hF
 exact List.mem_append.2 (.inr (h.2 t F0 hQ))⟩⟩
end
section
variable {C : EP} {f : FuncId} {g : Gd} {l : Nat} {X σ ρ τ : Type} {ex : X → List AA} {Y : σ → X → Option (σ ⊕ ρ)} {fr : Fr} {ps : List Tmp} {a b : Code} {PL : σ → List Ck → Prop} {PR : ρ → List Ck → Prop} {pe : ρ → Code}
 {St : Gd → (τ → List Ck → Prop) → Prop} {Q0 : τ → List Ck → Prop} {tl : σ → τ} {tr : ρ → τ}
def Uy (g : Gd) (l : Nat) (f : FuncId) (fr : Fr) (ps : List Tmp) (a b : Code) (PL : σ → List Ck → Prop) (PR : ρ → List Ck → Prop) (pe : ρ → Code) (Q0 : τ → List Ck → Prop) (tl : σ → τ) (tr : ρ → τ) : σ ⊕ ρ → List Ck → Prop
 | .inl s, F => ∃ Lc F0, PL s Lc ∧ Q0 (tl s) F0 ∧ F = .obj l (.loop 0 none f fr ps a b) :: (Lc ++ F0) ∧ g.may l = true ∧ ∀ i ∈ AX Lc, g.may i = true
 | .inr r, F => ∃ Lc F0, PR r Lc ∧ Q0 (tr r) F0 ∧ F = .obj l (.loop 2 (some (pe r)) f fr ps a b) :: (Lc ++ F0) ∧ g.may l = true ∧ ∀ i ∈ AX Lc, g.may i = true
theorem RI {c : Ck} (hc : ∀ t F0, Q0 t F0 → c ∈ F0) (y : σ ⊕ ρ) (F : List Ck) (h : Uy g l f fr ps a b PL PR pe Q0 tl tr y F) : c ∈ F := by
 cases y with
 | inl s => obtain ⟨Lc, F0, _, hQ, rfl, _⟩ := h; simp [hc _ _ hQ]
 | inr s => obtain ⟨Lc, F0, _, hQ, rfl, _⟩ := h; simp [hc _ _ hQ]
def JE (C : EP) (f : FuncId) (ps : List Tmp) (a b : Code) (fr : Fr) (ex : X → List AA) (Y : σ → X → Option (σ ⊕ ρ)) (PL : σ → List Ck → Prop) (PR : ρ → List Ck → Prop) (pe : ρ → Code) (St : Gd → (τ → List Ck → Prop) → Prop) (tl : σ → τ) (tr : ρ → τ) : Prop :=
 ∀ (g : Gd) (h : AB) (F : List Ck) (s : σ) (x : X) (o : σ ⊕ ρ) (Lc : List Ck), PL s Lc → Y s x = some o → HH g h Lc F →
  AW C f g a (GZ ps (ex x) fr) h (fun e fr1 h1 => e = .normal ∧ ∃ Lc1, HH g h1 Lc1 F ∧ ∀ (h2 : AB) (F2 : List Ck) (R : τ → List Ck → Prop), St g R → R (tl s) F2 → HH g h2 Lc1 F2 →
   AW C f g b fr1 h2 (fun e fr2 h3 => match o with | .inl s' => e = .normal ∧ ∃ Lc' F', PL s' Lc' ∧ R (tl s') F' ∧ HH g h3 Lc' F' | .inr r => exitCode e = some (pe r) ∧ ∃ Lc' F', PR r Lc' ∧ R (tr r) F' ∧ HH g h3 Lc' F'))
theorem VD (hlen : ∀ x, (ex x).length = ps.length) (hrok : C.Rs f a b = true) (hst : Tg St) (hs0 : St g Q0) (hb : JE C f ps a b fr ex Y PL PR pe St tl tr) : YR C g l ex Y (Uy g l f fr ps a b PL PR pe Q0 tl tr) := by
 refine ⟨fun pr h L F s x o hpr A B hm => ?_⟩
 obtain ⟨Lc, F0, hPL, hQ, rfl, hl, hmay⟩ := B
 have hnd := A.nd
 have hq : (L ++ Ck.obj l (.loop 0 none f fr ps a b) :: (Lc ++ F0)).Perm (Lc ++ .obj l (.loop 0 none f fr ps a b) :: (L ++ F0)) := by
  refine List.perm_middle.trans (List.Perm.trans ?_ List.perm_middle.symm)
  refine List.Perm.cons _ ?_
  exact List.perm_append_comm_assoc _ _ _
 have hdis : ∀ i ∈ AX L, i ∉ AX (.obj l (.loop 0 none f fr ps a b) :: (Lc ++ F0)) := fun i hi hn => by
  rw [AY, List.nodup_append] at hnd
  exact hnd.2.2 i hi i hn rfl
 have hl' : (⟨g.floor, pr ++ g.Bg⟩ : Gd).may l = true := NB hl fun hn => hdis l (hpr l hn) (by simp [AX, Ck.ids])
 have A1 : HH ⟨g.floor, pr ++ g.Bg⟩ h Lc (.obj l (.loop 0 none f fr ps a b) :: (L ++ F0)) :=
  A.swap hq.symm (fun i hi => NB (hmay i hi) fun hn => hdis i (hpr i hn) (by
   have : AX (.obj l (.loop 0 none f fr ps a b) :: (Lc ++ F0)) = l :: (AX Lc ++ AX F0) := by simp [AX, Ck.ids]
   rw [this]; simp [hi]))
   (fun i hi => by
    rcases List.mem_append.1 hi with hi | hi
    ·exact A.lt (by rw [AY]; exact List.mem_append.2 (.inl (hpr i hi)))
    ·exact A.Bg i hi) A.floor
 have mayX : ∀ (ob : A9), ∀ i ∈ AX (.obj l ob :: L), g.may i = true := fun ob i hi => by
  have : AX (.obj l ob :: L) = l :: AX L := by simp [AX, Ck.ids]
  rw [this, List.mem_cons] at hi
  rcases hi with rfl | hi
  ·exact hl
  ·exact A.may i hi
 have prX : ∀ (ob : A9), ∀ i ∈ pr, i ∈ AX (.obj l ob :: L) := fun ob i hi => by
  have : AX (.obj l ob :: L) = l :: AX L := by simp [AX, Ck.ids]
  rw [this]
  exact List.mem_cons_of_mem _ (hpr i hi)
 obtain ⟨n1, e1, fr1, h1, hx1, rfl, Lc1, A2, hb2⟩ := (hb _ h _ s x o Lc hPL hm A1).ex
 have hg1 : h1.get l = some (.loop 0 none f fr ps a b) := A2.ok (.obj l _) (by simp)
 have A3 := A2.RM (.loop 1 none f fr ps a b)
 obtain ⟨n2, e2, fr2, h3, hx2, hq2⟩ := (hb2 _ (.obj l (.loop 1 none f fr ps a b) :: (L ++ F0)) (KS Q0 (.obj l (.loop 1 none f fr ps a b) :: L)) (hst.fr g pr _ Q0 hs0 (prX _) (mayX _)) ⟨F0, rfl, hQ⟩ A3).ex
 have hg0 : h.get l = some (.loop 0 none f fr ps a b) := A.ok (.obj l _) (by simp)
 have m1 := BS (DY C (Nat.le_max_left n1 n2)) hx1
 have m2 := BS (DY C (Nat.le_max_right n1 n2)) hx2
 have back : ∀ (Lc' F0' : List Ck) (ob : A9), HH ⟨g.floor, pr ++ g.Bg⟩ h3 Lc' (.obj l (.loop 1 none f fr ps a b) :: (L ++ F0')) →
   HH g (h3.set l ob) L (.obj l ob :: (Lc' ++ F0')) ∧ ∀ i ∈ AX Lc', g.may i = true := fun Lc' F0' ob A4 => by
  have A5 := A4.RM ob
  refine ⟨A5.swap ?_ A.may (fun i hi => A5.Bg i (List.mem_append.2 (.inr hi))) A5.floor, fun i hi => KB (A4.may i hi)⟩
  refine List.perm_middle.trans (List.Perm.trans ?_ List.perm_middle.symm)
  exact List.Perm.cons _ (List.perm_append_comm_assoc _ _ _)
 have run : ∀ (j : Option Code), exitCode e2 = j → h3.get l = some (.loop 1 none f fr ps a b) → MB C ⟨g.floor, pr ++ g.Bg⟩ h l (ex x) (.bool j.isNone) (h3.set l (.loop (Wu j) j f fr ps a b)) := fun j hj hg3 => by
  refine ⟨max n1 n2 + 1, ?_⟩
  show GS C (Ca C (max n1 n2)) _ h l (ex x) = _
  unfold GS
  simp only [hg0, hlen, Nat.beq_eq_true_eq, hl', hrok, m1, hg1, m2]
  have hbq : Nat.beq ps.length ps.length = true := Nat.beq_refl _
  simp only [hbq, Bool.and_self, cond_true]
  cases e2 with
  | normal => simp only [exitCode] at hj; subst hj; simp only [DO, hg3, hl', cond_true]
  | ret => simp only [exitCode] at hj; subst hj; simp only [DO, hg3, hl', cond_true]
  | exit i => simp only [exitCode] at hj; subst hj; simp only [DO, hg3, hl', cond_true]
 cases o with
 | inl s' =>
  obtain ⟨rfl, Lc', F', hP, ⟨F0', rfl, hQ'⟩, A4⟩ := hq2
  obtain ⟨A5, hm5⟩ := back Lc' F0' (.loop 0 none f fr ps a b) A4
  exact ⟨_, _, run none rfl (A4.ok (.obj l _) (by simp)), ⟨Lc', F0', hP, hQ', rfl, hl, hm5⟩, A5⟩
 | inr r =>
  obtain ⟨he, Lc', F', hP, ⟨F0', rfl, hQ'⟩, A4⟩ := hq2
  obtain ⟨A5, hm5⟩ := back Lc' F0' (.loop 2 (some (pe r)) f fr ps a b) A4
  exact ⟨_, _, run _ he (A4.ok (.obj l _) (by simp)), ⟨Lc', F0', hP, hQ', rfl, hl, hm5⟩, A5⟩
theorem Hh {N : Nat} {kn0 : List (Nat × AA)} (H : Has fr N kn0) {kn : X → List (Nat × AA)} (hk : ∀ x fr, (kn x).map (fun p => nth (GZ ps (ex x) (Bx N kn0 fr)) p.1) = (kn x).map (·.2))
  (hb : ∀ (g : Gd) (h : AB) (F : List Ck) (s : σ) (x : X) (o : σ ⊕ ρ) (Lc : List Ck) (fr1 : Fr), Has fr1 N (kn x) → PL s Lc → Y s x = some o → HH g h Lc F →
   AW C f g a fr1 h (fun e fr1 h1 => e = .normal ∧ ∃ Lc1, HH g h1 Lc1 F ∧ ∀ (h2 : AB) (F2 : List Ck) (R : τ → List Ck → Prop), St g R → R (tl s) F2 → HH g h2 Lc1 F2 →
    AW C f g b fr1 h2 (fun e fr2 h3 => match o with | .inl s' => e = .normal ∧ ∃ Lc' F', PL s' Lc' ∧ R (tl s') F' ∧ HH g h3 Lc' F' | .inr r => exitCode e = some (pe r) ∧ ∃ Lc' F', PR r Lc' ∧ R (tr r) F' ∧ HH g h3 Lc' F'))) : JE C f ps a b fr ex Y PL PR pe St tl tr := by
 intro g h F s x o Lc hP hm A
 refine hb g h F s x o Lc _ ?_ hP hm A
 have := hk x fr
 rw [Cf H] at this
 exact Has.of_map (by rw [Gy]; exact H.1) this
theorem KI {c : Code} {h : AB} {Lu Lc F : List Ck} {x : Operand} {f' : FuncId} {first cap : List AA} {N : Nat} {kn : List (Nat × AA)} {Q : BL → Fr → AB → Prop} {s : σ} {y : σ ⊕ ρ} {PU : List Ck → Prop}
  (hs : shape c = .range x ps) (H : Has fr N kn) (hx : ∀ fr, ev (Bx N kn fr) x = .func (.func f') first cap) (hbd : I7 C.P f' = true) (hlen : ∀ x, (ex x).length = ps.length) (hrok : C.Rs f (left c) (right c) = true)
  (A : HH g h (Lu ++ Lc) F) (h0 : PL s Lc) (hst : Tg St) (hs0 : St g Q0) (hQ0 : Q0 (tl s) F) (hb : JE C f ps (left c) (right c) fr ex Y PL PR pe St tl tr)
  (hit : ∀ (h1 : AB) (l : Nat) (F1 : List Ck) (R : σ ⊕ ρ → List Ck → Prop), YR C g l ex Y R → (∀ ck, (∀ t F0, Q0 t F0 → ck ∈ F0) → ∀ y F', R y F' → ck ∈ F') → R (.inl s) F1 → HH g h1 Lu F1 → ∃ v h2 F2 Lu', CC C g h1 f' (first ++ ([.Fw l] ++ cap)) v h2 ∧ R y F2 ∧ PU Lu' ∧ HH g h2 Lu' F2)
  (hkl : ∀ s' h3 Lc' Lu' F', y = .inl s' → PL s' Lc' → Q0 (tl s') F' → PU Lu' → HH g h3 (Lu' ++ Lc') F' → Q .normal fr h3)
  (hkr : ∀ r h3 Lc' Lu' F' e, y = .inr r → exitCode e = some (pe r) → PR r Lc' → Q0 (tr r) F' → PU Lu' → HH g h3 (Lu' ++ Lc') F' → Q e fr h3)
  (hpe : ∀ r, ∃ e, exitCode e = some (pe r)) : AW C f g c fr h Q := by
 cases c <;> simp [shape] at hs
 rename_i x' ps' a b
 obtain ⟨rfl, rfl⟩ := hs
 simp only [left, right] at hb hrok
 have hx' : ev fr x' = .func (.func f') first cap := by have := hx fr; rwa [Cf H] at this
 have hl : g.may h.size = true := A.new
 have A1 := A.push (.loop 0 none f fr ps'.toList a b)
 have hmay : ∀ i ∈ AX Lc, g.may i = true := fun i hi => A.may i (by rw [AY]; exact List.mem_append.2 (.inr hi))
 have A2 : HH g (h.push (.loop 0 none f fr ps'.toList a b)) Lu (.obj h.size (.loop 0 none f fr ps'.toList a b) :: (Lc ++ F)) := by
  refine A1.swap ?_ (fun i hi => A.may i (by rw [AY]; exact List.mem_append.2 (.inl hi))) A1.Bg A1.floor
  refine List.perm_middle.trans ?_
  rw [List.cons_append, List.append_assoc]
 obtain ⟨v, h2, F2, Lu', ⟨n, hr⟩, hR, hPU, A3⟩ := hit _ h.size _ _ (VD (g := g) (l := h.size) (Q0 := Q0) hlen hrok hst hs0 hb) (fun ck hc y F' h => RI hc y F' h) ⟨Lc, F, h0, hQ0, rfl, hl, hmay⟩ A2
 have fin : ∀ (Lc' F' : List Ck) (st : Nat) (pd : Option Code), st ≠ 1 → F2 = .obj h.size (.loop st pd f fr ps'.toList a b) :: (Lc' ++ F') → (∀ i ∈ AX Lc', g.may i = true) →
   HH g (h2.set h.size (.loop 3 pd f fr ps'.toList a b)) (Lu' ++ Lc') F' ∧ h2.get h.size = some (.loop st pd f fr ps'.toList a b) := fun Lc' F' st pd hst hF hm' => by
  subst hF
  have A4 := A3.RM (.loop 3 pd f fr ps'.toList a b)
  refine ⟨?_, A3.ok (.obj h.size _) (by simp)⟩
  have A5 : HH g (h2.set h.size (.loop 3 pd f fr ps'.toList a b)) (.obj h.size (.loop 3 pd f fr ps'.toList a b) :: (Lu' ++ Lc')) F' := by
   refine A4.swap ?_ (fun i hi => ?_) A4.Bg A4.floor
   ·rw [List.cons_append, List.append_assoc]
    exact List.perm_middle.symm
   ·have : AX (.obj h.size (.loop 3 pd f fr ps'.toList a b) :: (Lu' ++ Lc')) = h.size :: (AX Lu' ++ AX Lc') := by simp [AX, Ck.ids]
    rw [this] at hi
    simp only [List.mem_cons, List.mem_append] at hi
    rcases hi with rfl | hi | hi
    ·exact hl
    ·exact A3.may i hi
    ·exact hm' i hi
  exact A5.tail
 cases y with
 | inl s' =>
  obtain ⟨Lc', F', hP, hQ', hF, _, hm'⟩ := hR
  obtain ⟨A6, hg⟩ := fin Lc' F' 0 none (by decide) hF hm'
  refine ⟨⟨n, .normal, fr, _, ?_, hkl s' _ Lc' Lu' F' rfl hP hQ' hPU A6⟩⟩
  simp only [Aa, hx', hbd, Bool.not_true, cond_false, hr, hg, hl]
  rfl
 | inr r =>
  obtain ⟨Lc', F', hP, hQ', hF, _, hm'⟩ := hR
  obtain ⟨A6, hg⟩ := fin Lc' F' 2 (some (pe r)) (by decide) hF hm'
  obtain ⟨e, he⟩ := hpe r
  refine ⟨⟨n, e, fr, _, ?_, hkr r _ Lc' Lu' F' e rfl he hP hQ' hPU A6⟩⟩
  simp only [Aa, hx', hbd, Bool.not_true, cond_false, hr, hg, hl]
  cases e with
  | normal => cases he
  | ret => simp only [exitCode, Option.some.injEq] at he; rw [← he]; rfl
  | exit i => simp only [exitCode, Option.some.injEq] at he; rw [← he]; rfl
end
theorem HH.WK {C : EP} {g : Gd} {h : AB} {l : Nat} {X σ ρ : Type} {ex : X → List AA} {Y : σ → X → Option (σ ⊕ ρ)} {R : σ ⊕ ρ → List Ck → Prop} {y : σ ⊕ ρ} {L F : List Ck} {c : Ck} (A : HH g h L F) (n : Nat) (w : YR C g l ex Y R) (B : R y F) (hF : ∀ y F, R y F → c ∈ F) :
  YR C g l ex Y (KS R (L.drop n)) ∧ KS R (L.drop n) y (L.drop n ++ F) ∧ ∀ y F, KS R (L.drop n) y F → c ∈ F :=
 ⟨w.frame [] (L.drop n) (fun i hi => by cases hi) (fun i hi => A.may i (by
  rw [← List.take_append_drop n L, AY]; exact List.mem_append.2 (.inr hi))), ⟨F, rfl, B⟩, fun y F' h => by
  obtain ⟨F0, rfl, hQ⟩ := h
  exact List.mem_append.2 (.inr (hF y F0 hQ))⟩
theorem HH.Uz {g : Gd} {h h' : AB} {L L' F F' : List Ck} {n : Nat} (A : HH g h L F) (b : HH g h' L' (L.drop n ++ F')) : HH g h' (L' ++ L.drop n) F' :=
 b.swap (by rw [List.append_assoc]) (fun i hi => by
  rw [AY, List.mem_append] at hi
  rcases hi with hi | hi
  ·exact b.may i hi
  ·exact A.may i (by rw [← List.take_append_drop n L, AY]; exact List.mem_append.2 (.inr hi))) b.Bg b.floor
end Go.Av
