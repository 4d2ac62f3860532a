/-
 A part.
-/
import Derived.Test.YtlljeoogceblmaaGreatDoorAvStep2
namespace Go.Av
set_option linter.unusedSimpArgs false
set_option linter.unusedVariables false
def E6 : Nat → Nat → List (Nat × List Nat)
 | _, 0 => []
 | i, k + 1 => (i, []) :: E6 (i + 1) k
@[simp] theorem Gj (tch : List (Nat × Nat)) : HJ tch [] = [] := by
 unfold HJ
 rw [List.filterMap_eq_nil_iff]
 intro a _
 rfl
section
variable {C : Ft} {S : Self} {g : Gd} {ops : Array Oper}
theorem Ih : ∀ (k i : Nat) (tch : List (Nat × Nat)) (fr : Fr) (h : AD), i + k = ops.size → Bw C S g ops (E6 i k) tch fr h = DR C S g ops (ops.toList.drop i) fr h
 | 0, i, tch, fr, h, e => by
  have : ops.toList.drop i = [] := List.drop_eq_nil_of_le (by rw [Array.length_toList]; omega)
  rw [this]; rfl
 | k + 1, i, tch, fr, h, e => by
  have hi : i < ops.size := by omega
  have hl : i < ops.toList.length := by rw [Array.length_toList]; exact hi
  rw [List.drop_eq_getElem_cons hl, E6, Bw, DR, Array.getElem?_eq_getElem hi]
  simp only [Array.getElem_toList]
  cases B7 ops fr ops[i] with
  | none => rfl
  | some b =>
   cases b with
   | false => exact Ih k (i + 1) _ _ _ (by omega)
   | true =>
    simp only [Gj, List.nil_append]
    cases A7 C S g h fr ops[i].op with
    | none => rfl
    | some x => exact Ih k (i + 1) _ _ _ (by omega)
end
def AT (C : Ft) (g : Gd) (ops : Array Oper) (pl : List (Nat × List Nat)) (tch : List (Nat × Nat)) (fr : Fr) (h : AD) (K : Fr → AD → Prop) : Prop :=
 ∃ n fr' h', Bw C (Cy C n) g ops pl tch fr h = some (fr', h') ∧ K fr' h'
structure AW (C : Ft) (f : FuncId) (g : Gd) (c : Code) (fr : Fr) (h : AD) (Q : By → Fr → AD → Prop) : Prop where
 ex : ∃ n e fr' h', BI C (Cy C n) f g c fr h = some (e, fr', h') ∧ Q e fr' h'
def Qy (C : Ft) (g : Gd) (h : AD) (f : FuncId) (args : List AB) (v : AB) (h' : AD) : Prop := ∃ n, IK C (Cy C n) g h f args = some (v, h')
def BB (C : Ft) (g : Gd) (h : AD) (f : FuncId) (args : List AB) (v : AB) (h' : AD) : Prop := ∃ n, (Cy C n).call g h f args = some (v, h')
section
variable {C : Ft} {f : FuncId} {g : Gd} {ops : Array Oper} {pl : List (Nat × List Nat)} {tch : List (Nat × Nat)} {fr : Fr} {h h1 : AD} {K : Fr → AD → Prop} {N : Nat} {l : List (Nat × AB)} {i : Nat} {U : List Nat}
theorem at_nil (h0 : K fr h) : AT C g ops [] tch fr h K := ⟨0, fr, h, rfl, h0⟩
theorem Te {S : Nat} {pl' : List (Nat × List Nat)} {tch' : List (Nat × Nat)} {fr1 : Fr} {h1 : AD} (hh : AT C g ops pl tch fr1 h1 K)
  (hx : ∀ n x, S ≤ n → Bw C (Cy C n) g ops pl tch fr1 h1 = some x → Bw C (Cy C n) g ops pl' tch' fr h = some x) : AT C g ops pl' tch' fr h K := by
 obtain ⟨n, fr', h', r1, r2⟩ := hh
 exact ⟨max S n, fr', h', hx _ _ (Nat.le_max_left _ _) (GQ (D1 C (Nat.le_max_right _ _)) r1), r2⟩
def Steps (C : Ft) (g : Gd) (h : AD) (fr : Fr) (op : Op) (v : AB) (h1 : AD) : Prop := ∃ n, A7 C (Cy C n) g h fr op = some (v, h1)
theorem Steps.of {op : Op} {v : AB} (hs : A7 C (Cy C 0) g h fr op = some (v, h1)) : Steps C g h fr op v h1 := ⟨0, hs⟩
theorem Steps.call {op : Op} {v : AB} {f' : FuncId} {args : List AB} (hs : Mw fr op = some (f', args)) (hr : BB C g h f' args v h1) : Steps C g h fr op v h1 := by
 obtain ⟨n, hn⟩ := hr
 exact ⟨n, Yk hs hn⟩
theorem H8 {v : AB} {U : List Nat} (hw : runs ops fr i = true) (hs : Steps C ⟨g.floor, HJ tch U ++ g.BP⟩ h fr (Ns ops i) v h1) (hre : Na C ops U (put fr (Gk ops i) v) h1 = true) (hn : AT C g ops pl (Fg C.P h fr i (Ns ops i) tch) (put fr (Gk ops i) v) h1 K) :
  AT C g ops ((i, U) :: pl) tch fr h K := by
 obtain ⟨m, hm⟩ := hs
 refine Te (S := m) hn fun n x hle hx => ?_
 have hst := JZ (D1 C hle) hm
 unfold runs at hw
 unfold Ns at hst hx
 unfold Gk at hx hre
 rw [Bw]
 cases ho : ops[i]? with
 | none => rw [ho] at hw; cases hw
 | some o =>
  rw [ho] at hw hst hx hre
  simp only at hw hst hx hre ⊢
  cases hwa : B7 ops fr o with
  | none => rw [hwa] at hw; cases hw
  | some b =>
   rw [hwa] at hw
   simp only at hw
   subst hw
   simp only [hst, hre, cond_true]
   exact hx
theorem Rr (hw : To ops fr i = true) (hn : AT C g ops pl tch (put fr (Gk ops i) (.tuple [])) h K) : AT C g ops ((i, U) :: pl) tch fr h K := by
 refine Te (S := 0) hn fun n x hle hx => ?_
 unfold To at hw
 unfold Gk at hx
 rw [Bw]
 cases ho : ops[i]? with
 | none => rw [ho] at hw; cases hw
 | some o =>
  rw [ho] at hw hx
  simp only at hw hx ⊢
  cases hwa : B7 ops fr o with
  | none => rw [hwa] at hw; cases hw
  | some b =>
   rw [hwa] at hw
   simp only [Bool.not_eq_true'] at hw
   subst hw
   exact hx
def WQ (ops : Array Oper) (i : Nat) (fr : Fr) (out : List (Nat × AB)) : Bool × List AB := (To ops fr i, out.map fun p => nth (put fr (Gk ops i) (.tuple [])) p.1)
theorem K3 (out : List (Nat × AB)) (H : Has fr N l) (hw : ∀ fr, WQ ops i (Cb N l fr) out = (true, out.map (·.2))) (hn : ∀ fr', Has fr' N out → AT C g ops pl tch fr' h K) : AT C g ops ((i, U) :: pl) tch fr h K := by
 have e := EA H
 have hw' := hw fr
 rw [e] at hw'
 unfold WQ at hw'
 simp only [Prod.mk.injEq] at hw'
 exact Rr hw'.1 (hn _ (Has.of_map (by simp [H.1]) hw'.2))
def FU (P : Program) (ops : Array Oper) : List Nat → Fr → Option Fr
 | [], fr => some fr
 | i :: r, fr =>
  match ops[i]? with
  | none => none
  | some o =>
   match B7 ops fr o with
   | some true => (match ZT P fr o.op with | some v => FU P ops r (put fr o.dst v) | none => none)
   | some false => FU P ops r (put fr o.dst (.tuple []))
   | none => none
def Dd : List (Nat × List Nat) → List Nat
 | [] => []
 | (i, _) :: r => i :: Dd r
theorem Us {P : Program} {fr : Fr} {op : Op} {v : AB} (h : ZT P fr op = some v) : As P op = 0 := by
 unfold ZT at h
 split at h
 ·assumption
 ·cases h
theorem Lx : ∀ (sg pl : List (Nat × List Nat)) (fr fr1 : Fr), (∀ x ∈ sg, x.2 = []) → FU C.P ops (Dd sg) fr = some fr1 → AT C g ops pl tch fr1 h K → AT C g ops (sg ++ pl) tch fr h K
 | [], pl, fr, fr1, _, hs, hn => by
  simp only [Dd, FU, Option.some.injEq] at hs
  subst hs
  exact hn
 | (i, U) :: sg, pl, fr, fr1, hU, hs, hn => by
  have hU0 : U = [] := hU (i, U) (by simp)
  subst hU0
  have ih := fun fr2 hx => Lx sg pl fr2 fr1 (fun x hx => hU x (by simp [hx])) hx hn
  simp only [Dd, FU] at hs
  split at hs
  ·cases hs
  ·rename_i o ho
   split at hs
   ·rename_i hw
    split at hs
    ·rename_i v hv
     have e1 : Ns ops i = o.op := by simp [Ns, ho]
     have e2 : Gk ops i = o.dst := by simp [Gk, ho]
     refine H8 (v := v) (h1 := h) (by simp [runs, ho, hw]) (.of (by rw [e1]; exact bI hv)) rfl ?_
     rw [e1, e2]
     have : Fg C.P h fr i o.op tch = tch := by unfold Fg; rw [Us hv]; rfl
     rw [this]
     exact ih _ hs
    ·cases hs
   ·rename_i hw
    have e2 : Gk ops i = o.dst := by simp [Gk, ho]
    refine Rr (by simp [To, ho, hw]) ?_
    rw [e2]
    exact ih _ hs
   ·cases hs
theorem GD {P : Program} : ∀ (l : List Nat) (fr fr' : Fr), FU P ops l fr = some fr' → fr'.length = fr.length
 | [], fr, fr', h => by simp only [FU, Option.some.injEq] at h; rw [h]
 | i :: l, fr, fr', h => by
  simp only [FU] at h
  split at h
  ·cases h
  ·split at h
   ·split at h
    ·rw [GD l _ _ h]; simp
    ·cases h
   ·rw [GD l _ _ h]; simp
   ·cases h
theorem ZN (sg : List (Nat × List Nat)) (out : List (Nat × AB)) (H : Has fr N l) (hU : ∀ x ∈ sg, x.2 = [])
  (hk : ∀ fr, (FU C.P ops (Dd sg) (Cb N l fr)).map (fun x => out.map (fun p => nth x p.1)) = some (out.map (·.2)))
  (hn : ∀ fr', Has fr' N out → AT C g ops pl tch fr' h K) : AT C g ops (sg ++ pl) tch fr h K := by
 have hk' := hk fr
 rw [EA H] at hk'
 cases hr : FU C.P ops (Dd sg) fr with
 | none => rw [hr] at hk'; cases hk'
 | some fr1 =>
  rw [hr] at hk'
  simp only [Option.map_some, Option.some.injEq] at hk'
  exact Lx sg pl fr fr1 hU hr (hn fr1 (Has.of_map ((GD _ _ _ hr).trans H.1) hk'))
def Qe : List (Nat × List Nat) → Bool
 | [] => true
 | (_, U) :: r => U.isEmpty && Qe r
theorem MY : ∀ {sg : List (Nat × List Nat)}, Qe sg = true → ∀ x ∈ sg, x.2 = []
 | [], _, x, hx => by cases hx
 | (i, U) :: r, h, x, hx => by
  simp only [Qe, Bool.and_eq_true, List.isEmpty_iff] at h
  cases hx with
  | head => exact h.1
  | tail _ hx => exact MY h.2 x hx
theorem Hz {n : Nat} {b : List (Nat × List Nat)} : ∀ (a : List (Nat × List Nat)) (tch : List (Nat × Nat)) (fr fr1 : Fr) (h h1 : AD), Bw C (Cy C n) g ops a tch fr h = some (fr1, h1) →
  ∃ tch', ∀ m, n ≤ m → Bw C (Cy C m) g ops (a ++ b) tch fr h = Bw C (Cy C m) g ops b tch' fr1 h1
 | [], tch, fr, fr1, h, h1, hr => by
  simp only [Bw, Option.some.injEq, Prod.mk.injEq] at hr
  obtain ⟨rfl, rfl⟩ := hr
  exact ⟨tch, fun _ _ => rfl⟩
 | (i, U) :: a, tch, fr, fr1, h, h1, hr => by
  rw [Bw] at hr
  split at hr
  ·cases hr
  ·rename_i o ho
   split at hr
   ·rename_i hw
    split at hr
    ·rename_i v h' hs
     have hre : Na C ops U (put fr o.dst v) h' = true := by
      cases hre : Na C ops U (put fr o.dst v) h' with
      | false => rw [hre] at hr; cases hr
      | true => rfl
     rw [hre] at hr
     simp only [cond_true] at hr
     obtain ⟨t, ht⟩ := Hz a _ _ _ _ _ hr
     refine ⟨t, fun m hm => ?_⟩
     rw [List.cons_append, Bw, ho]
     simp only [hw, JZ (D1 C hm) hs, hre, cond_true]
     exact ht m hm
    ·cases hr
   ·rename_i hw
    obtain ⟨t, ht⟩ := Hz a _ _ _ _ _ hr
    refine ⟨t, fun m hm => ?_⟩
    rw [List.cons_append, Bw, ho]
    simp only [hw]
    exact ht m hm
   ·cases hr
theorem Yp (sg : List (Nat × List Nat)) (I : Fr → AD → Prop) (h1 : AT C g ops sg tch fr h I) (h2 : ∀ t fr h, I fr h → AT C g ops pl t fr h K) : AT C g ops (sg ++ pl) tch fr h K := by
 obtain ⟨n, fr1, h1', r1, r2⟩ := h1
 obtain ⟨t0, ht0⟩ := Hz (b := pl) sg tch fr fr1 h h1' r1
 obtain ⟨m, fr2, h2', r3, r4⟩ := h2 t0 _ _ r2
 refine ⟨max n m, fr2, h2', ?_, r4⟩
 rw [ht0 _ (Nat.le_max_left _ _)]
 exact GQ (D1 C (Nat.le_max_right _ _)) r3
def MU (next : Fr → AD → Prop) (Q : By → Fr → AD → Prop) : By → Fr → AD → Prop
 | .normal, fr, h => next fr h
 | e, fr, h => Q e fr h
def Zw (id : Nat) (Q : By → Fr → AD → Prop) : By → Fr → AD → Prop
 | .exit i, fr, h => bif Nat.beq i id then Q .normal fr h else Q (.exit i) fr h
 | e, fr, h => Q e fr h
variable {Q : By → Fr → AD → Prop} {a b c c' : Code}
def left : Code → Code
 | .seq a _ => a
 | .cond _ a _ => a
 | .block _ c => c
 | .loop c => c
 | .scope c => c
 | .rangeFunc _ _ a _ => a
 | c => c
def right : Code → Code
 | .seq _ b => b
 | .cond _ _ b => b
 | .rangeFunc _ _ _ b => b
 | c => c
def opsOf : Code → Array Oper
 | .region _ ops _ => ops
 | _ => #[]
inductive Sh where
 | skip | region (id n : Nat) (draw : Bool) | seq | cond (x : Operand) | block (id : Nat) | loop | exit (id : Nat) | scope | label | ret | range (x : Operand) (ps : List Tmp) | other
def shape : Code → Sh
 | .skip => .skip
 | .region id ops draw => .region id ops.size draw
 | .seq _ _ => .seq
 | .cond x _ _ => .cond x
 | .block id _ => .block id
 | .loop _ => .loop
 | .exit id => .exit id
 | .scope _ => .scope
 | .rangeFunc x ps _ _ => .range x ps.toList
 | .label _ => .label
 | .ret => .ret
 | _ => .other
theorem Ao {Q' : By → Fr → AD → Prop} (hh : AW C f g c fr h Q') (hq : ∀ e fr h, Q' e fr h → Q e fr h) : AW C f g c fr h Q := by
 obtain ⟨n, e, fr', h', h1, h2⟩ := (hh).ex
 exact ⟨⟨n, e, fr', h', h1, hq _ _ _ h2⟩⟩
theorem TH (hs : shape c = .seq) (hh : AW C f g (left c) fr h (MU (fun fr h => AW C f g (right c) fr h Q) Q)) : AW C f g c fr h Q := by
 cases c <;> simp [shape] at hs
 simp only [left, right] at hh
 obtain ⟨n, e, fr1, h1, hx, hq⟩ := (hh).ex
 cases e with
 | normal =>
  obtain ⟨m, e2, fr2, h2, hx2, hq2⟩ := hq.ex
  refine ⟨⟨max n m, e2, fr2, h2, ?_, hq2⟩⟩
  simp only [BI, DY (D1 C (Nat.le_max_left n m)) hx, DY (D1 C (Nat.le_max_right n m)) hx2]
 | exit id => exact ⟨⟨n, _, _, _, by simp only [BI, hx], hq⟩⟩
 | ret => exact ⟨⟨n, _, _, _, by simp only [BI, hx], hq⟩⟩
theorem ZI {id n : Nat} (pl : List (Nat × List Nat)) (hs : shape c = .region id n false) (hp : E6 0 n = pl) (hh : AT C g (opsOf c) pl [] fr h (fun fr' h' => Q .normal fr' h')) : AW C f g c fr h Q := by
 cases c <;> simp [shape] at hs
 obtain ⟨rfl, rfl, rfl⟩ := hs
 obtain ⟨n, fr', h', hr, hq⟩ := hh
 subst hp
 simp only [opsOf] at hr
 rw [Ih _ _ _ _ _ (by omega), List.drop_zero] at hr
 exact ⟨⟨n, .normal, fr', h', by simp only [BI, cond_false, hr], hq⟩⟩
theorem TV {id n : Nat} (hs : shape c = .region id n true) (pl : List (Nat × List Nat)) (hp : C.LD f id = pl) (hh : AT C g (opsOf c) pl [] fr h (fun fr' h' => Q .normal fr' h')) : AW C f g c fr h Q := by
 cases c <;> simp [shape] at hs
 obtain ⟨rfl, rfl, rfl⟩ := hs
 obtain ⟨n, fr', h', hr, hq⟩ := hh
 simp only [opsOf] at hr
 exact ⟨⟨n, .normal, fr', h', by simp only [BI, cond_true, hp, hr], hq⟩⟩
theorem Nt (hs : shape c = .skip) (hq : Q .normal fr h) : AW C f g c fr h Q := by cases c <;> simp [shape] at hs; exact ⟨⟨0, _, _, _, rfl, hq⟩⟩
theorem Bb {i : Nat} (hs : shape c = .exit i) (hq : Q (.exit i) fr h) : AW C f g c fr h Q := by cases c <;> simp [shape] at hs; subst hs; exact ⟨⟨0, _, _, _, rfl, hq⟩⟩
theorem Yc (hs : shape c = .ret) (hq : Q .ret fr h) : AW C f g c fr h Q := by cases c <;> simp [shape] at hs; exact ⟨⟨0, _, _, _, rfl, hq⟩⟩
theorem GS {x : Operand} (hs : shape c = .cond x) (H : Has fr N l) (hx : ∀ fr, ev (Cb N l fr) x = .bool true) (hh : AW C f g (left c) fr h Q) : AW C f g c fr h Q := by
 cases c <;> simp [shape] at hs
 subst hs
 have := hx fr
 rw [EA H] at this
 obtain ⟨n, e, fr', h', h1, h2⟩ := (hh).ex
 exact ⟨⟨n, e, fr', h', by simp only [BI, this]; exact h1, h2⟩⟩
theorem Wt {x : Operand} (hs : shape c = .cond x) (H : Has fr N l) (hx : ∀ fr, ev (Cb N l fr) x = .bool false) (hh : AW C f g (right c) fr h Q) : AW C f g c fr h Q := by
 cases c <;> simp [shape] at hs
 subst hs
 have := hx fr
 rw [EA H] at this
 obtain ⟨n, e, fr', h', h1, h2⟩ := (hh).ex
 exact ⟨⟨n, e, fr', h', by simp only [BI, this]; exact h1, h2⟩⟩
theorem Ae {id : Nat} (hs : shape c = .block id) (hh : AW C f g (left c) fr h (Zw id Q)) : AW C f g c fr h Q := by
 cases c <;> simp [shape] at hs
 subst hs
 simp only [left] at hh
 obtain ⟨n, e, fr', h', h1, h2⟩ := (hh).ex
 cases e with
 | normal => exact ⟨⟨n, _, _, _, by simp only [BI, h1], h2⟩⟩
 | ret => exact ⟨⟨n, _, _, _, by simp only [BI, h1], h2⟩⟩
 | exit i =>
  rename_i id _
  simp only [Zw] at h2
  cases hb : Nat.beq i id with
  | true => rw [hb] at h2; exact ⟨⟨n, .normal, fr', h', by simp only [BI, h1, hb, cond_true], h2⟩⟩
  | false => rw [hb] at h2; exact ⟨⟨n, .exit i, fr', h', by simp only [BI, h1, hb, cond_false], h2⟩⟩
theorem Bc {σ ρ : Type} {step : σ → Option (σ ⊕ ρ)} {s : σ} {r : ρ} (hs : shape c = .loop) (I : σ → Fr → AD → Prop) (hl : loop step s = some r) (h0 : I s fr h)
  (hr : ∀ s o fr h, I s fr h → step s = some o → AW C f g (left c) fr h (MU (fun fr' h' => ∃ s', o = .inl s' ∧ I s' fr' h') (fun e fr' h' => ∃ r', o = .inr r' ∧ (r' = r → Q e fr' h')))) : AW C f g c fr h Q := by
 cases c <;> simp [shape] at hs
 rename_i c
 simp only [left] at hr
 obtain ⟨k, hk⟩ := QV hl
 have key : ∀ k s fr h, I s fr h → HM step k s = some r → AW C f g (.loop c) fr h Q := by
  intro k
  induction k with
  | zero => intro s fr h _ hk; cases hk
  | succ k ih =>
   intro s fr h hi hk
   unfold HM at hk
   cases hst : step s with
   | none => rw [hst] at hk; cases hk
   | some o =>
    rw [hst] at hk
    obtain ⟨n, e, fr1, h1, hx, hq⟩ := (hr s o fr h hi hst).ex
    cases e with
    | normal =>
     obtain ⟨s', rfl, hI⟩ := hq
     obtain ⟨m, e2, fr2, h2, hx2, hq2⟩ := (ih s' fr1 h1 hI hk).ex
     refine ⟨⟨max n m + 1, e2, fr2, h2, ?_, hq2⟩⟩
     have e1 := DY (D1 C (Nat.le_trans (Nat.le_max_left n m) (Nat.le_succ _))) hx
     have e2' := DY (D1 C (Nat.le_max_right n m)) hx2
     rw [BI, e1]
     exact e2'
    | exit i =>
     obtain ⟨r', rfl, hQ⟩ := hq
     injection hk with hk
     exact ⟨⟨n, _, _, _, by simp only [BI, hx], hQ hk⟩⟩
    | ret =>
     obtain ⟨r', rfl, hQ⟩ := hq
     injection hk with hk
     exact ⟨⟨n, _, _, _, by simp only [BI, hx], hQ hk⟩⟩
 exact key k s fr h h0 hk
def GF (P : Program) (f : FuncId) : Code :=
 match P.funcs[f]? with
 | some fn => (match fn.body with | some c => c | none => .skip)
 | none => .skip
def JJ (P : Program) (f : FuncId) : Option (Nat × List ResultVar) :=
 match P.funcs[f]? with
 | some fn => (match fn.body with | some _ => some (fn.ntmps, fn.results.toList) | none => none)
 | none => none
def Ma (P : Program) (rs : List ResultVar) (fr : Fr) (h : AD) : Option AB :=
 match rs.mapM (Gv P fr h) with
 | some [v] => some v
 | some vs => some (.tuple vs)
 | none => none
structure Zc (P : Program) (rs : List ResultVar) (v : AB) (h' : AD) (e : By) (fr : Fr) (h : AD) : Prop where
 no : e = .ret ∨ e = .normal
 res : Ma P rs fr h = some v
 heap : h = h'
theorem Xo {args : List AB} {v : AB} {h' : AD} {n : Nat} {rs : List ResultVar} (hf : JJ C.P f = some (n, rs))
  (hh : AW C f g (GF C.P f) (args ++ List.replicate (n - args.length) (.tuple [])) h (Zc C.P rs v h')) : Qy C g h f args v h' := by
 obtain ⟨m, e, fr', h2, hx, hq⟩ := (hh).ex
 unfold JJ at hf
 unfold GF at hx
 refine ⟨m, ?_⟩
 unfold IK
 split at hf
 ·rename_i fn hfn
  split at hf
  ·rename_i c hc
   simp only [Option.some.injEq, Prod.mk.injEq] at hf
   obtain ⟨rfl, rfl⟩ := hf
   simp only [hfn, hc] at hx ⊢
   cases e with
   | normal => obtain ⟨_, h3, rfl⟩ := hq; rw [hx]; simp only; rw [show D4 C.P fn fr' h2 = some v from h3]; rfl
   | ret => obtain ⟨_, h3, rfl⟩ := hq; rw [hx]; simp only; rw [show D4 C.P fn fr' h2 = some v from h3]; rfl
   | exit i => rcases hq.no with h | h <;> cases h
  ·cases hf
 ·cases hf
theorem start {args : List AB} {n : Nat} (ins : List (Nat × AB)) (hl : (args ++ List.replicate (n - args.length) (AB.tuple [])).length = n) (hi : ins.map (fun p => nth (args ++ List.replicate (n - args.length) (AB.tuple [])) p.1) = ins.map (·.2))
  (hh : ∀ fr, Has fr n ins → AW C f g c fr h Q) : AW C f g c (args ++ List.replicate (n - args.length) (.tuple [])) h Q := hh _ (Has.of_map hl hi)
theorem Zt {args args' : List AB} {v : AB} {h' : AD} (hk : C.kind f = 1) (hc : A9 (C.still f) args = args') (hb : Qy C g h f args' v h') : BB C g h f args v h' := by
 obtain ⟨n, hn⟩ := hb
 refine ⟨n + 1, ?_⟩
 show Ji C (Cy C n) g h f args = _
 unfold Ji
 rw [hk]
 simp only [hc]
 exact hn
theorem closed {args : List AB} {v : AB} (n : Nat) (hb : (IK C (Cy C n) g h f args).map (·.1) = some v) : ∃ h', Qy C g h f args v h' := by
 cases hx : IK C (Cy C n) g h f args with
 | none => rw [hx] at hb; cases hb
 | some x =>
  rw [hx] at hb
  simp only [Option.map_some, Option.some.injEq] at hb
  exact ⟨x.2, n, by rw [hx, ← hb]⟩
end
def Po : List Nat → Nat → Nat
 | [], _ => 0
 | a :: _, 0 => a
 | _ :: l, i + 1 => Po l i
def OL : List ((Nat × Nat) × List (Nat × List Nat)) → Nat → Nat → List (Nat × List Nat)
 | [], _, _ => []
 | ((a, b), p) :: l, f, id => bif Nat.beq a f && Nat.beq b id then p else OL l f id
def UK (C : Ft) : Nat → Bool
 | 0 => true
 | n + 1 => UK C n && (bif Nat.beq (C.kind n) 0 || Nat.beq (C.kind n) 3 then true else
   match C.P.funcs[n]? with
   | some fn => !(fn.name == "runtime.NumGoroutine") && (match fn.body with | some c => codeOk C n c | none => true)
   | none => true)
theorem N8 : ∀ {l : List Nat} {i : Nat}, l.length ≤ i → Po l i = 0
 | [], _, _ => rfl
 | _ :: l, 0, h => by simp at h
 | _ :: l, i + 1, h => N8 (l := l) (by simpa using h)
theorem SC {C : Ft} : ∀ {n : Nat}, UK C n = true → ∀ {f : Nat}, f < n → C.kind f ≠ 0 → C.kind f ≠ 3 → ∀ {fn : Func} {c : Code}, C.P.funcs[f]? = some fn → fn.body = some c → (fn.name == "runtime.NumGoroutine") = false ∧ codeOk C f c = true
 | 0, _, f, hf, _, _, _, _, _, _ => by omega
 | n + 1, h, f, hf, hk, hk3, fn, c, h1, h2 => by
  simp only [UK, Bool.and_eq_true] at h
  by_cases e : f = n
  ·subst e
   have h3 := h.2
   have : Nat.beq (C.kind f) 0 = false := by
    cases hb : Nat.beq (C.kind f) 0 with
    | false => rfl
    | true => exact absurd (Nat.eq_of_beq_eq_true hb) hk
   have this3 : Nat.beq (C.kind f) 3 = false := by
    cases hb : Nat.beq (C.kind f) 3 with
    | false => rfl
    | true => exact absurd (Nat.eq_of_beq_eq_true hb) hk3
   rw [this, this3] at h3
   simp only [Bool.or_false, cond_false, h1, h2, Bool.and_eq_true, Bool.not_eq_true'] at h3
   exact h3
  ·exact SC h.1 (by omega) hk hk3 h1 h2
def Wk (P : Program) (LD : Nat → Nat → List (Nat × List Nat)) : Ft := ⟨P, fun _ => 0, LD, fun _ _ _ _ => none, fun _ => none, fun _ _ _ => false, fun _ => [], fun _ _ => none, YZ⟩
def Vg (P : Program) (LD : Nat → Nat → List (Nat × List Nat)) (f : FuncId) (a b : Code) : Bool := codeOk (Wk P LD) f a && codeOk (Wk P LD) f b && (HQ a && HQ b)
theorem NV {C C' : Ft} (h1 : C.P = C'.P) (h2 : C.LD = C'.LD) (f : FuncId) : ∀ c, codeOk C f c = codeOk C' f c := by
 intro c
 induction c <;> simp_all [codeOk]
end Go.Av
