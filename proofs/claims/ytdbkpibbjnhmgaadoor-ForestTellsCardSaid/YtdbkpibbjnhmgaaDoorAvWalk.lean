/-
 A part.
-/
import Derived.Test.YtdbkpibbjnhmgaaDoorAvStep2
namespace Go.Av
set_option linter.unusedSimpArgs false
set_option linter.unusedVariables false
def FJ : Nat → Nat → List (Nat × List Nat)
 | _, 0 => []
 | i, k + 1 => (i, []) :: FJ (i + 1) k
@[simp] theorem Eo (tch : List (Nat × Nat)) : FC tch [] = [] := by
 unfold FC
 rw [List.filterMap_eq_nil_iff]
 intro a _
 rfl
section
variable {C : EP} {S : Self} {g : Gd} {ops : Array Oper}
theorem HX : ∀ (k i : Nat) (tch : List (Nat × Nat)) (fr : Fr) (h : AB), i + k = ops.size → Bt C S g ops (FJ i k) tch fr h = DI C S g ops (ops.toList.drop i) fr h
 | 0, i, tch, fr, h, e => by
  have : ops.toList.drop i = [] := List.drop_eq_nil_of_le (by rw [Array.length_toList]; omega)
  rw [this]; rfl
 | k + 1, i, tch, fr, h, e => by
  have hi : i < ops.size := by omega
  have hl : i < ops.toList.length := by rw [Array.length_toList]; exact hi
  rw [List.drop_eq_getElem_cons hl, FJ, Bt, DI, Array.getElem?_eq_getElem hi]
  simp only [Array.getElem_toList]
  cases Bv ops fr ops[i] with
  | none => rfl
  | some b =>
   cases b with
   | false => exact HX k (i + 1) _ _ _ (by omega)
   | true =>
    simp only [Eo, List.nil_append]
    cases Aw C S g h fr ops[i].op with
    | none => rfl
    | some x => exact HX k (i + 1) _ _ _ (by omega)
end
def AT (C : EP) (g : Gd) (ops : Array Oper) (pl : List (Nat × List Nat)) (tch : List (Nat × Nat)) (fr : Fr) (h : AB) (K : Fr → AB → Prop) : Prop :=
 ∃ n fr' h', Bt C (Ca C n) g ops pl tch fr h = some (fr', h') ∧ K fr' h'
structure AW (C : EP) (f : FuncId) (g : Gd) (c : Code) (fr : Fr) (h : AB) (Q : BL → Fr → AB → Prop) : Prop where
 ex : ∃ n e fr' h', Aa C (Ca C n) f g c fr h = some (e, fr', h') ∧ Q e fr' h'
def LQ (C : EP) (g : Gd) (h : AB) (f : FuncId) (args : List AA) (v : AA) (h' : AB) : Prop := ∃ n, Fc C (Ca C n) g h f args = some (v, h')
def CC (C : EP) (g : Gd) (h : AB) (f : FuncId) (args : List AA) (v : AA) (h' : AB) : Prop := ∃ n, (Ca C n).call g h f args = some (v, h')
section
variable {C : EP} {f : FuncId} {g : Gd} {ops : Array Oper} {pl : List (Nat × List Nat)} {tch : List (Nat × Nat)} {fr : Fr} {h h1 : AB} {K : Fr → AB → Prop} {N : Nat} {l : List (Nat × AA)} {i : Nat} {U : List Nat}
theorem at_nil (h0 : K fr h) : AT C g ops [] tch fr h K := ⟨0, fr, h, rfl, h0⟩
theorem QZ {S : Nat} {pl' : List (Nat × List Nat)} {tch' : List (Nat × Nat)} {fr1 : Fr} {h1 : AB} (hh : AT C g ops pl tch fr1 h1 K)
  (hx : ∀ n x, S ≤ n → Bt C (Ca C n) g ops pl tch fr1 h1 = some x → Bt C (Ca C n) g ops pl' tch' fr h = some x) : AT C g ops pl' tch' fr h K := by
 obtain ⟨n, fr', h', r1, r2⟩ := hh
 exact ⟨max S n, fr', h', hx _ _ (Nat.le_max_left _ _) (ET (DY C (Nat.le_max_right _ _)) r1), r2⟩
def Steps (C : EP) (g : Gd) (h : AB) (fr : Fr) (op : Op) (v : AA) (h1 : AB) : Prop := ∃ n, Aw C (Ca C n) g h fr op = some (v, h1)
theorem Steps.of {op : Op} {v : AA} (hs : Aw C (Ca C 0) g h fr op = some (v, h1)) : Steps C g h fr op v h1 := ⟨0, hs⟩
theorem Steps.call {op : Op} {v : AA} {f' : FuncId} {args : List AA} (hs : KP fr op = some (f', args)) (hr : CC C g h f' args v h1) : Steps C g h fr op v h1 := by
 obtain ⟨n, hn⟩ := hr
 exact ⟨n, U9 hs hn⟩
theorem FA {v : AA} {U : List Nat} (hw : runs ops fr i = true) (hs : Steps C ⟨g.floor, FC tch U ++ g.Bg⟩ h fr (Kt ops i) v h1) (hre : Ko C ops U (put fr (Eg ops i) v) h1 = true) (hn : AT C g ops pl (EC C.P h fr i (Kt ops i) tch) (put fr (Eg ops i) v) h1 K) :
  AT C g ops ((i, U) :: pl) tch fr h K := by
 obtain ⟨m, hm⟩ := hs
 refine QZ (S := m) hn fun n x hle hx => ?_
 have hst := Gu (DY C hle) hm
 unfold runs at hw
 unfold Kt at hst hx
 unfold Eg at hx hre
 rw [Bt]
 cases ho : ops[i]? with
 | none => rw [ho] at hw; cases hw
 | some o =>
  rw [ho] at hw hst hx hre
  simp only at hw hst hx hre ⊢
  cases hwa : Bv ops fr o with
  | none => rw [hwa] at hw; cases hw
  | some b =>
   rw [hwa] at hw
   simp only at hw
   subst hw
   simp only [hst, hre, cond_true]
   exact hx
theorem O7 (hw : Qa ops fr i = true) (hn : AT C g ops pl tch (put fr (Eg ops i) (.tuple [])) h K) : AT C g ops ((i, U) :: pl) tch fr h K := by
 refine QZ (S := 0) hn fun n x hle hx => ?_
 unfold Qa at hw
 unfold Eg at hx
 rw [Bt]
 cases ho : ops[i]? with
 | none => rw [ho] at hw; cases hw
 | some o =>
  rw [ho] at hw hx
  simp only at hw hx ⊢
  cases hwa : Bv ops fr o with
  | none => rw [hwa] at hw; cases hw
  | some b =>
   rw [hwa] at hw
   simp only [Bool.not_eq_true'] at hw
   subst hw
   exact hx
def Us (ops : Array Oper) (i : Nat) (fr : Fr) (v : AA) (out : List (Nat × AA)) : Bool × List AA := (runs ops fr i, out.map fun p => nth (put fr (Eg ops i) v) p.1)
def Sy (ops : Array Oper) (i : Nat) (fr : Fr) (out : List (Nat × AA)) : Bool × List AA := (Qa ops fr i, out.map fun p => nth (put fr (Eg ops i) (.tuple [])) p.1)
theorem NV {v : AA} (out : List (Nat × AA)) (H : Has fr N l) (hw : ∀ fr, Us ops i (Bx N l fr) v out = (true, out.map (·.2))) (hs : ∀ fr, Steps C g h (Bx N l fr) (Kt ops i) v h1)
  (hn : ∀ fr' t, Has fr' N out → AT C g ops pl t fr' h1 K) : AT C g ops ((i, []) :: pl) tch fr h K := by
 have e := Cf H
 have hw' := hw fr
 have hs' := hs fr
 rw [e] at hw' hs'
 unfold Us at hw'
 simp only [Prod.mk.injEq] at hw'
 refine FA (v := v) hw'.1 (by rw [Eo, List.nil_append]; exact hs') rfl (hn _ _ (Has.of_map (by simp [H.1]) hw'.2))
theorem UB (out : List (Nat × AA)) (H : Has fr N l) (hw : ∀ fr, Sy ops i (Bx N l fr) out = (true, out.map (·.2))) (hn : ∀ fr', Has fr' N out → AT C g ops pl tch fr' h K) : AT C g ops ((i, U) :: pl) tch fr h K := by
 have e := Cf H
 have hw' := hw fr
 rw [e] at hw'
 unfold Sy at hw'
 simp only [Prod.mk.injEq] at hw'
 exact O7 hw'.1 (hn _ (Has.of_map (by simp [H.1]) hw'.2))
def D2 (P : Program) (ops : Array Oper) : List Nat → Fr → Option Fr
 | [], fr => some fr
 | i :: r, fr =>
  match ops[i]? with
  | none => none
  | some o =>
   match Bv ops fr o with
   | some true => (match Wi P fr o.op with | some v => D2 P ops r (put fr o.dst v) | none => none)
   | some false => D2 P ops r (put fr o.dst (.tuple []))
   | none => none
def Cj : List (Nat × List Nat) → List Nat
 | [] => []
 | (i, _) :: r => i :: Cj r
theorem RD {P : Program} {fr : Fr} {op : Op} {v : AA} (h : Wi P fr op = some v) : AZ P op = 0 := by
 unfold Wi at h
 split at h
 ·assumption
 ·cases h
theorem Ji : ∀ (sg pl : List (Nat × List Nat)) (fr fr1 : Fr), (∀ x ∈ sg, x.2 = []) → D2 C.P ops (Cj sg) fr = some fr1 → AT C g ops pl tch fr1 h K → AT C g ops (sg ++ pl) tch fr h K
 | [], pl, fr, fr1, _, hs, hn => by
  simp only [Cj, D2, Option.some.injEq] at hs
  subst hs
  exact hn
 | (i, U) :: sg, pl, fr, fr1, hU, hs, hn => by
  have hU0 : U = [] := hU (i, U) (by simp)
  subst hU0
  have ih := fun fr2 hx => Ji sg pl fr2 fr1 (fun x hx => hU x (by simp [hx])) hx hn
  simp only [Cj, D2] at hs
  split at hs
  ·cases hs
  ·rename_i o ho
   split at hs
   ·rename_i hw
    split at hs
    ·rename_i v hv
     have e1 : Kt ops i = o.op := by simp [Kt, ho]
     have e2 : Eg ops i = o.dst := by simp [Eg, ho]
     refine FA (v := v) (h1 := h) (by simp [runs, ho, hw]) (.of (by rw [e1]; exact X4 hv)) rfl ?_
     rw [e1, e2]
     have : EC C.P h fr i o.op tch = tch := by unfold EC; rw [RD hv]; rfl
     rw [this]
     exact ih _ hs
    ·cases hs
   ·rename_i hw
    have e2 : Eg ops i = o.dst := by simp [Eg, ho]
    refine O7 (by simp [Qa, ho, hw]) ?_
    rw [e2]
    exact ih _ hs
   ·cases hs
theorem EK {P : Program} : ∀ (l : List Nat) (fr fr' : Fr), D2 P ops l fr = some fr' → fr'.length = fr.length
 | [], fr, fr', h => by simp only [D2, Option.some.injEq] at h; rw [h]
 | i :: l, fr, fr', h => by
  simp only [D2] at h
  split at h
  ·cases h
  ·split at h
   ·split at h
    ·rw [EK l _ _ h]; simp
    ·cases h
   ·rw [EK l _ _ h]; simp
   ·cases h
theorem Vo (sg : List (Nat × List Nat)) (out : List (Nat × AA)) (H : Has fr N l) (hU : ∀ x ∈ sg, x.2 = [])
  (hk : ∀ fr, (D2 C.P ops (Cj sg) (Bx N l fr)).map (fun x => out.map (fun p => nth x p.1)) = some (out.map (·.2)))
  (hn : ∀ fr', Has fr' N out → AT C g ops pl tch fr' h K) : AT C g ops (sg ++ pl) tch fr h K := by
 have hk' := hk fr
 rw [Cf H] at hk'
 cases hr : D2 C.P ops (Cj sg) fr with
 | none => rw [hr] at hk'; cases hk'
 | some fr1 =>
  rw [hr] at hk'
  simp only [Option.map_some, Option.some.injEq] at hk'
  exact Ji sg pl fr fr1 hU hr (hn fr1 (Has.of_map ((EK _ _ _ hr).trans H.1) hk'))
def NO : List (Nat × List Nat) → Bool
 | [] => true
 | (_, U) :: r => U.isEmpty && NO r
theorem Jf : ∀ {sg : List (Nat × List Nat)}, NO sg = true → ∀ x ∈ sg, x.2 = []
 | [], _, x, hx => by cases hx
 | (i, U) :: r, h, x, hx => by
  simp only [NO, Bool.and_eq_true, List.isEmpty_iff] at h
  cases hx with
  | head => exact h.1
  | tail _ hx => exact Jf h.2 x hx
theorem Fb {n : Nat} {b : List (Nat × List Nat)} : ∀ (a : List (Nat × List Nat)) (tch : List (Nat × Nat)) (fr fr1 : Fr) (h h1 : AB), Bt C (Ca C n) g ops a tch fr h = some (fr1, h1) →
  ∃ tch', ∀ m, n ≤ m → Bt C (Ca C m) g ops (a ++ b) tch fr h = Bt C (Ca C m) g ops b tch' fr1 h1
 | [], tch, fr, fr1, h, h1, hr => by
  simp only [Bt, Option.some.injEq, Prod.mk.injEq] at hr
  obtain ⟨rfl, rfl⟩ := hr
  exact ⟨tch, fun _ _ => rfl⟩
 | (i, U) :: a, tch, fr, fr1, h, h1, hr => by
  rw [Bt] at hr
  split at hr
  ·cases hr
  ·rename_i o ho
   split at hr
   ·rename_i hw
    split at hr
    ·rename_i v h' hs
     have hre : Ko C ops U (put fr o.dst v) h' = true := by
      cases hre : Ko C ops U (put fr o.dst v) h' with
      | false => rw [hre] at hr; cases hr
      | true => rfl
     rw [hre] at hr
     simp only [cond_true] at hr
     obtain ⟨t, ht⟩ := Fb a _ _ _ _ _ hr
     refine ⟨t, fun m hm => ?_⟩
     rw [List.cons_append, Bt, ho]
     simp only [hw, Gu (DY C hm) hs, hre, cond_true]
     exact ht m hm
    ·cases hr
   ·rename_i hw
    obtain ⟨t, ht⟩ := Fb a _ _ _ _ _ hr
    refine ⟨t, fun m hm => ?_⟩
    rw [List.cons_append, Bt, ho]
    simp only [hw]
    exact ht m hm
   ·cases hr
theorem VL (sg : List (Nat × List Nat)) (I : Fr → AB → Prop) (h1 : AT C g ops sg tch fr h I) (h2 : ∀ t fr h, I fr h → AT C g ops pl t fr h K) : AT C g ops (sg ++ pl) tch fr h K := by
 obtain ⟨n, fr1, h1', r1, r2⟩ := h1
 obtain ⟨t0, ht0⟩ := Fb (b := pl) sg tch fr fr1 h h1' r1
 obtain ⟨m, fr2, h2', r3, r4⟩ := h2 t0 _ _ r2
 refine ⟨max n m, fr2, h2', ?_, r4⟩
 rw [ht0 _ (Nat.le_max_left _ _)]
 exact ET (DY C (Nat.le_max_right _ _)) r3
def Ke (next : Fr → AB → Prop) (Q : BL → Fr → AB → Prop) : BL → Fr → AB → Prop
 | .normal, fr, h => next fr h
 | e, fr, h => Q e fr h
def WQ (id : Nat) (Q : BL → Fr → AB → Prop) : BL → Fr → AB → Prop
 | .exit i, fr, h => bif Nat.beq i id then Q .normal fr h else Q (.exit i) fr h
 | e, fr, h => Q e fr h
variable {Q : BL → Fr → AB → Prop} {a b c c' : Code}
def left : Code → Code
 | .seq a _ => a
 | .cond _ a _ => a
 | .block _ c => c
 | .loop c => c
 | .scope c => c
 | .rangeFunc _ _ a _ => a
 | c => c
def right : Code → Code
 | .seq _ b => b
 | .cond _ _ b => b
 | .rangeFunc _ _ _ b => b
 | c => c
def opsOf : Code → Array Oper
 | .region _ ops _ => ops
 | _ => #[]
inductive Sh where
 | skip | region (id n : Nat) (draw : Bool) | seq | cond (x : Operand) | block (id : Nat) | loop | exit (id : Nat) | scope | label | ret | range (x : Operand) (ps : List Tmp) | other
def shape : Code → Sh
 | .skip => .skip
 | .region id ops draw => .region id ops.size draw
 | .seq _ _ => .seq
 | .cond x _ _ => .cond x
 | .block id _ => .block id
 | .loop _ => .loop
 | .exit id => .exit id
 | .scope _ => .scope
 | .rangeFunc x ps _ _ => .range x ps.toList
 | .label _ => .label
 | .ret => .ret
 | _ => .other
theorem Al {Q' : BL → Fr → AB → Prop} (hh : AW C f g c fr h Q') (hq : ∀ e fr h, Q' e fr h → Q e fr h) : AW C f g c fr h Q := by
 obtain ⟨n, e, fr', h', h1, h2⟩ := (hh).ex
 exact ⟨⟨n, e, fr', h', h1, hq _ _ _ h2⟩⟩
theorem Pf (hs : shape c = .seq) (hh : AW C f g (left c) fr h (Ke (fun fr h => AW C f g (right c) fr h Q) Q)) : AW C f g c fr h Q := by
 cases c <;> simp [shape] at hs
 simp only [left, right] at hh
 obtain ⟨n, e, fr1, h1, hx, hq⟩ := (hh).ex
 cases e with
 | normal =>
  obtain ⟨m, e2, fr2, h2, hx2, hq2⟩ := hq.ex
  refine ⟨⟨max n m, e2, fr2, h2, ?_, hq2⟩⟩
  simp only [Aa, BS (DY C (Nat.le_max_left n m)) hx, BS (DY C (Nat.le_max_right n m)) hx2]
 | exit id => exact ⟨⟨n, _, _, _, by simp only [Aa, hx], hq⟩⟩
 | ret => exact ⟨⟨n, _, _, _, by simp only [Aa, hx], hq⟩⟩
theorem VJ {id n : Nat} (pl : List (Nat × List Nat)) (hs : shape c = .region id n false) (hp : FJ 0 n = pl) (hh : AT C g (opsOf c) pl [] fr h (fun fr' h' => Q .normal fr' h')) : AW C f g c fr h Q := by
 cases c <;> simp [shape] at hs
 obtain ⟨rfl, rfl, rfl⟩ := hs
 obtain ⟨n, fr', h', hr, hq⟩ := hh
 subst hp
 simp only [opsOf] at hr
 rw [HX _ _ _ _ _ (by omega), List.drop_zero] at hr
 exact ⟨⟨n, .normal, fr', h', by simp only [Aa, cond_false, hr], hq⟩⟩
theorem Qr {id n : Nat} (hs : shape c = .region id n true) (pl : List (Nat × List Nat)) (hp : C.Ib f id = pl) (hh : AT C g (opsOf c) pl [] fr h (fun fr' h' => Q .normal fr' h')) : AW C f g c fr h Q := by
 cases c <;> simp [shape] at hs
 obtain ⟨rfl, rfl, rfl⟩ := hs
 obtain ⟨n, fr', h', hr, hq⟩ := hh
 simp only [opsOf] at hr
 exact ⟨⟨n, .normal, fr', h', by simp only [Aa, cond_true, hp, hr], hq⟩⟩
theorem Kx (hs : shape c = .skip) (hq : Q .normal fr h) : AW C f g c fr h Q := by cases c <;> simp [shape] at hs; exact ⟨⟨0, _, _, _, rfl, hq⟩⟩
theorem B0 {i : Nat} (hs : shape c = .exit i) (hq : Q (.exit i) fr h) : AW C f g c fr h Q := by cases c <;> simp [shape] at hs; subst hs; exact ⟨⟨0, _, _, _, rfl, hq⟩⟩
theorem VF (hs : shape c = .ret) (hq : Q .ret fr h) : AW C f g c fr h Q := by cases c <;> simp [shape] at hs; exact ⟨⟨0, _, _, _, rfl, hq⟩⟩
theorem K4 {x : Operand} (hs : shape c = .cond x) (H : Has fr N l) (hx : ∀ fr, ev (Bx N l fr) x = .bool true) (hh : AW C f g (left c) fr h Q) : AW C f g c fr h Q := by
 cases c <;> simp [shape] at hs
 subst hs
 have := hx fr
 rw [Cf H] at this
 obtain ⟨n, e, fr', h', h1, h2⟩ := (hh).ex
 exact ⟨⟨n, e, fr', h', by simp only [Aa, this]; exact h1, h2⟩⟩
theorem Ga {x : Operand} (hs : shape c = .cond x) (H : Has fr N l) (hx : ∀ fr, ev (Bx N l fr) x = .bool false) (hh : AW C f g (right c) fr h Q) : AW C f g c fr h Q := by
 cases c <;> simp [shape] at hs
 subst hs
 have := hx fr
 rw [Cf H] at this
 obtain ⟨n, e, fr', h', h1, h2⟩ := (hh).ex
 exact ⟨⟨n, e, fr', h', by simp only [Aa, this]; exact h1, h2⟩⟩
theorem AM {id : Nat} (hs : shape c = .block id) (hh : AW C f g (left c) fr h (WQ id Q)) : AW C f g c fr h Q := by
 cases c <;> simp [shape] at hs
 subst hs
 simp only [left] at hh
 obtain ⟨n, e, fr', h', h1, h2⟩ := (hh).ex
 cases e with
 | normal => exact ⟨⟨n, _, _, _, by simp only [Aa, h1], h2⟩⟩
 | ret => exact ⟨⟨n, _, _, _, by simp only [Aa, h1], h2⟩⟩
 | exit i =>
  rename_i id _
  simp only [WQ] at h2
  cases hb : Nat.beq i id with
  | true => rw [hb] at h2; exact ⟨⟨n, .normal, fr', h', by simp only [Aa, h1, hb, cond_true], h2⟩⟩
  | false => rw [hb] at h2; exact ⟨⟨n, .exit i, fr', h', by simp only [Aa, h1, hb, cond_false], h2⟩⟩
theorem CA {σ ρ : Type} {step : σ → Option (σ ⊕ ρ)} {s : σ} {r : ρ} (hs : shape c = .loop) (I : σ → Fr → AB → Prop) (hl : loop step s = some r) (h0 : I s fr h)
  (hr : ∀ s o fr h, I s fr h → step s = some o → AW C f g (left c) fr h (Ke (fun fr' h' => ∃ s', o = .inl s' ∧ I s' fr' h') (fun e fr' h' => ∃ r', o = .inr r' ∧ (r' = r → Q e fr' h')))) : AW C f g c fr h Q := by
 cases c <;> simp [shape] at hs
 rename_i c
 simp only [left] at hr
 obtain ⟨k, hk⟩ := Ni hl
 have key : ∀ k s fr h, I s fr h → FK step k s = some r → AW C f g (.loop c) fr h Q := by
  intro k
  induction k with
  | zero => intro s fr h _ hk; cases hk
  | succ k ih =>
   intro s fr h hi hk
   unfold FK at hk
   cases hst : step s with
   | none => rw [hst] at hk; cases hk
   | some o =>
    rw [hst] at hk
    obtain ⟨n, e, fr1, h1, hx, hq⟩ := (hr s o fr h hi hst).ex
    cases e with
    | normal =>
     obtain ⟨s', rfl, hI⟩ := hq
     obtain ⟨m, e2, fr2, h2, hx2, hq2⟩ := (ih s' fr1 h1 hI hk).ex
     refine ⟨⟨max n m + 1, e2, fr2, h2, ?_, hq2⟩⟩
     have e1 := BS (DY C (Nat.le_trans (Nat.le_max_left n m) (Nat.le_succ _))) hx
     have e2' := BS (DY C (Nat.le_max_right n m)) hx2
     rw [Aa, e1]
     exact e2'
    | exit i =>
     obtain ⟨r', rfl, hQ⟩ := hq
     injection hk with hk
     exact ⟨⟨n, _, _, _, by simp only [Aa, hx], hQ hk⟩⟩
    | ret =>
     obtain ⟨r', rfl, hQ⟩ := hq
     injection hk with hk
     exact ⟨⟨n, _, _, _, by simp only [Aa, hx], hQ hk⟩⟩
 exact key k s fr h h0 hk
def Kk (P : Program) (f : FuncId) : Code :=
 match P.funcs[f]? with
 | some fn => (match fn.body with | some c => c | none => .skip)
 | none => .skip
def Gl (P : Program) (f : FuncId) : Option (Nat × List ResultVar) :=
 match P.funcs[f]? with
 | some fn => (match fn.body with | some _ => some (fn.ntmps, fn.results.toList) | none => none)
 | none => none
def Kq (P : Program) (rs : List ResultVar) (fr : Fr) (h : AB) : Option AA :=
 match rs.mapM (Et P fr h) with
 | some [v] => some v
 | some vs => some (.tuple vs)
 | none => none
structure Wj (P : Program) (rs : List ResultVar) (v : AA) (h' : AB) (e : BL) (fr : Fr) (h : AB) : Prop where
 no : e = .ret ∨ e = .normal
 res : Kq P rs fr h = some v
 heap : h = h'
theorem T0 {args : List AA} {v : AA} {h' : AB} {n : Nat} {rs : List ResultVar} (hf : Gl C.P f = some (n, rs))
  (hh : AW C f g (Kk C.P f) (args ++ List.replicate (n - args.length) (.tuple [])) h (Wj C.P rs v h')) : LQ C g h f args v h' := by
 obtain ⟨m, e, fr', h2, hx, hq⟩ := (hh).ex
 unfold Gl at hf
 unfold Kk at hx
 refine ⟨m, ?_⟩
 unfold Fc
 split at hf
 ·rename_i fn Ig
  split at hf
  ·rename_i c hc
   simp only [Option.some.injEq, Prod.mk.injEq] at hf
   obtain ⟨rfl, rfl⟩ := hf
   simp only [Ig, hc] at hx ⊢
   cases e with
   | normal => obtain ⟨_, h3, rfl⟩ := hq; rw [hx]; simp only; rw [show DK C.P fn fr' h2 = some v from h3]; rfl
   | ret => obtain ⟨_, h3, rfl⟩ := hq; rw [hx]; simp only; rw [show DK C.P fn fr' h2 = some v from h3]; rfl
   | exit i => rcases hq.no with h | h <;> cases h
  ·cases hf
 ·cases hf
theorem start {args : List AA} {n : Nat} (ins : List (Nat × AA)) (hl : (args ++ List.replicate (n - args.length) (AA.tuple [])).length = n) (hi : ins.map (fun p => nth (args ++ List.replicate (n - args.length) (AA.tuple [])) p.1) = ins.map (·.2))
  (hh : ∀ fr, Has fr n ins → AW C f g c fr h Q) : AW C f g c (args ++ List.replicate (n - args.length) (.tuple [])) h Q := hh _ (Has.of_map hl hi)
theorem Wy {args args' : List AA} {v : AA} {h' : AB} (hk : C.kind f = 1) (hc : B3 (C.still f) args = args') (hb : LQ C g h f args' v h') : CC C g h f args v h' := by
 obtain ⟨n, hn⟩ := hb
 refine ⟨n + 1, ?_⟩
 show HK C (Ca C n) g h f args = _
 unfold HK
 rw [hk]
 simp only [hc]
 exact hn
theorem Wf {args args' : List AA} {u v : AA} {h1 h' : AB} (hk : C.kind f = 7) (hc : B3 (C.still f) args = args') (hb : LQ C g h f args' u h1) (hf : Kr g h1 u = some (v, h')) : CC C g h f args v h' := by
 obtain ⟨n, hn⟩ := hb
 refine ⟨n + 1, ?_⟩
 show HK C (Ca C n) g h f args = _
 unfold HK
 rw [hk]
 simp only [hc, hn]
 exact hf
theorem closed {args : List AA} {v : AA} (n : Nat) (hb : (Fc C (Ca C n) g h f args).map (·.1) = some v) : ∃ h', LQ C g h f args v h' := by
 cases hx : Fc C (Ca C n) g h f args with
 | none => rw [hx] at hb; cases hb
 | some x =>
  rw [hx] at hb
  simp only [Option.map_some, Option.some.injEq] at hb
  exact ⟨x.2, n, by rw [hx, ← hb]⟩
end
def Mn : List Nat → Nat → Nat
 | [], _ => 0
 | a :: _, 0 => a
 | _ :: l, i + 1 => Mn l i
def Lk : List ((Nat × Nat) × List (Nat × List Nat)) → Nat → Nat → List (Nat × List Nat)
 | [], _, _ => []
 | ((a, b), p) :: l, f, id => bif Nat.beq a f && Nat.beq b id then p else Lk l f id
def Qg (C : EP) : Nat → Bool
 | 0 => true
 | n + 1 => Qg C n && (bif Nat.beq (C.kind n) 0 || Nat.beq (C.kind n) 3 then true else
   match C.P.funcs[n]? with
   | some fn => !(fn.name == "runtime.NumGoroutine") && (match fn.body with | some c => codeOk C n c | none => true)
   | none => true)
theorem LU : ∀ {l : List Nat} {i : Nat}, l.length ≤ i → Mn l i = 0
 | [], _, _ => rfl
 | _ :: l, 0, h => by simp at h
 | _ :: l, i + 1, h => LU (l := l) (by simpa using h)
theorem N2 {C : EP} : ∀ {n : Nat}, Qg C n = true → ∀ {f : Nat}, f < n → C.kind f ≠ 0 → C.kind f ≠ 3 → ∀ {fn : Func} {c : Code}, C.P.funcs[f]? = some fn → fn.body = some c → (fn.name == "runtime.NumGoroutine") = false ∧ codeOk C f c = true
 | 0, _, f, hf, _, _, _, _, _, _ => by omega
 | n + 1, h, f, hf, hk, hk3, fn, c, h1, h2 => by
  simp only [Qg, Bool.and_eq_true] at h
  by_cases e : f = n
  ·subst e
   have h3 := h.2
   have : Nat.beq (C.kind f) 0 = false := by
    cases hb : Nat.beq (C.kind f) 0 with
    | false => rfl
    | true => exact absurd (Nat.eq_of_beq_eq_true hb) hk
   have this3 : Nat.beq (C.kind f) 3 = false := by
    cases hb : Nat.beq (C.kind f) 3 with
    | false => rfl
    | true => exact absurd (Nat.eq_of_beq_eq_true hb) hk3
   rw [this, this3] at h3
   simp only [Bool.or_false, cond_false, h1, h2, Bool.and_eq_true, Bool.not_eq_true'] at h3
   exact h3
  ·exact N2 h.1 (by omega) hk hk3 h1 h2
def Tq (P : Program) (Ib : Nat → Nat → List (Nat × List Nat)) : EP := ⟨P, fun _ => 0, Ib, fun _ _ _ _ => none, fun _ => none, fun _ _ _ => false, fun _ => [], fun _ _ => none, Uf⟩
def Sn (P : Program) (Ib : Nat → Nat → List (Nat × List Nat)) (f : FuncId) (a b : Code) : Bool := codeOk (Tq P Ib) f a && codeOk (Tq P Ib) f b && (FI a && FI b)
theorem Kh {C C' : EP} (h1 : C.P = C'.P) (h2 : C.Ib = C'.Ib) (f : FuncId) : ∀ c, codeOk C f c = codeOk C' f c := by
 intro c
 induction c <;> simp_all [codeOk]
end Go.Av
