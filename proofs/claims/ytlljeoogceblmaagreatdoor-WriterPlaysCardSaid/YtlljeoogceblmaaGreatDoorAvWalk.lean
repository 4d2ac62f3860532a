/-
 A part.
-/
import Derived.Test.YtlljeoogceblmaaGreatDoorAvStep2
namespace Go.Av
set_option linter.unusedSimpArgs false
set_option linter.unusedVariables false
def E4 : Nat → Nat → List (Nat × List Nat)
 | _, 0 => []
 | i, k + 1 => (i, []) :: E4 (i + 1) k
@[simp] theorem Gh (tch : List (Nat × Nat)) : HG tch [] = [] := by
 unfold HG
 rw [List.filterMap_eq_nil_iff]
 intro a _
 rfl
section
variable {C : Fi} {S : Self} {g : Gd} {ops : Array Oper}
theorem IX : ∀ (k i : Nat) (tch : List (Nat × Nat)) (fr : Fr) (h : AD), i + k = ops.size → Bs C S g ops (E4 i k) tch fr h = DP C S g ops (ops.toList.drop i) fr h
 | 0, i, tch, fr, h, e => by
  have : ops.toList.drop i = [] := List.drop_eq_nil_of_le (by rw [Array.length_toList]; omega)
  rw [this]; rfl
 | k + 1, i, tch, fr, h, e => by
  have hi : i < ops.size := by omega
  have hl : i < ops.toList.length := by rw [Array.length_toList]; exact hi
  rw [List.drop_eq_getElem_cons hl, E4, Bs, DP, Array.getElem?_eq_getElem hi]
  simp only [Array.getElem_toList]
  cases B2 ops fr ops[i] with
  | none => rfl
  | some b =>
   cases b with
   | false => exact IX k (i + 1) _ _ _ (by omega)
   | true =>
    simp only [Gh, List.nil_append]
    cases A7 C S g h fr ops[i].op with
    | none => rfl
    | some x => exact IX k (i + 1) _ _ _ (by omega)
end
def AT (C : Fi) (g : Gd) (ops : Array Oper) (pl : List (Nat × List Nat)) (tch : List (Nat × Nat)) (fr : Fr) (h : AD) (K : Fr → AD → Prop) : Prop :=
 ∃ n fr' h', Bs C (Co C n) g ops pl tch fr h = some (fr', h') ∧ K fr' h'
structure AW (C : Fi) (f : FuncId) (g : Gd) (c : Code) (fr : Fr) (h : AD) (Q : Bw → Fr → AD → Prop) : Prop where
 ex : ∃ n e fr' h', BM C (Co C n) f g c fr h = some (e, fr', h') ∧ Q e fr' h'
def QD (C : Fi) (g : Gd) (h : AD) (f : FuncId) (args : List AB) (v : AB) (h' : AD) : Prop := ∃ n, Ic C (Co C n) g h f args = some (v, h')
def BE (C : Fi) (g : Gd) (h : AD) (f : FuncId) (args : List AB) (v : AB) (h' : AD) : Prop := ∃ n, (Co C n).call g h f args = some (v, h')
section
variable {C : Fi} {f : FuncId} {g : Gd} {ops : Array Oper} {pl : List (Nat × List Nat)} {tch : List (Nat × Nat)} {fr : Fr} {h h1 : AD} {K : Fr → AD → Prop} {N : Nat} {l : List (Nat × AB)} {i : Nat} {U : List Nat}
theorem at_nil (h0 : K fr h) : AT C g ops [] tch fr h K := ⟨0, fr, h, rfl, h0⟩
theorem TL {S : Nat} {pl' : List (Nat × List Nat)} {tch' : List (Nat × Nat)} {fr1 : Fr} {h1 : AD} (hh : AT C g ops pl tch fr1 h1 K)
  (hx : ∀ n x, S ≤ n → Bs C (Co C n) g ops pl tch fr1 h1 = some x → Bs C (Co C n) g ops pl' tch' fr h = some x) : AT C g ops pl' tch' fr h K := by
 obtain ⟨n, fr', h', r1, r2⟩ := hh
 exact ⟨max S n, fr', h', hx _ _ (Nat.le_max_left _ _) (GD (Dz C (Nat.le_max_right _ _)) r1), r2⟩
def Steps (C : Fi) (g : Gd) (h : AD) (fr : Fr) (op : Op) (v : AB) (h1 : AD) : Prop := ∃ n, A7 C (Co C n) g h fr op = some (v, h1)
theorem Steps.of {op : Op} {v : AB} (hs : A7 C (Co C 0) g h fr op = some (v, h1)) : Steps C g h fr op v h1 := ⟨0, hs⟩
theorem Steps.call {op : Op} {v : AB} {f' : FuncId} {args : List AB} (hs : Mv fr op = some (f', args)) (hr : BE C g h f' args v h1) : Steps C g h fr op v h1 := by
 obtain ⟨n, hn⟩ := hr
 exact ⟨n, Y7 hs hn⟩
theorem Hm {v : AB} {U : List Nat} (hw : runs ops fr i = true) (hs : Steps C ⟨g.floor, HG tch U ++ g.BN⟩ h fr (No ops i) v h1) (hre : NZ C ops U (put fr (Gk ops i) v) h1 = true) (hn : AT C g ops pl (Fe C.P h fr i (No ops i) tch) (put fr (Gk ops i) v) h1 K) :
  AT C g ops ((i, U) :: pl) tch fr h K := by
 obtain ⟨m, hm⟩ := hs
 refine TL (S := m) hn fun n x hle hx => ?_
 have hst := Ja (Dz C hle) hm
 unfold runs at hw
 unfold No at hst hx
 unfold Gk at hx hre
 rw [Bs]
 cases ho : ops[i]? with
 | none => rw [ho] at hw; cases hw
 | some o =>
  rw [ho] at hw hst hx hre
  simp only at hw hst hx hre ⊢
  cases hwa : B2 ops fr o with
  | none => rw [hwa] at hw; cases hw
  | some b =>
   rw [hwa] at hw
   simp only at hw
   subst hw
   simp only [hst, hre, cond_true]
   exact hx
theorem Re (hw : Tb ops fr i = true) (hn : AT C g ops pl tch (put fr (Gk ops i) (.tuple [])) h K) : AT C g ops ((i, U) :: pl) tch fr h K := by
 refine TL (S := 0) hn fun n x hle hx => ?_
 unfold Tb at hw
 unfold Gk at hx
 rw [Bs]
 cases ho : ops[i]? with
 | none => rw [ho] at hw; cases hw
 | some o =>
  rw [ho] at hw hx
  simp only at hw hx ⊢
  cases hwa : B2 ops fr o with
  | none => rw [hwa] at hw; cases hw
  | some b =>
   rw [hwa] at hw
   simp only [Bool.not_eq_true'] at hw
   subst hw
   exact hx
def Vc (ops : Array Oper) (i : Nat) (fr : Fr) (out : List (Nat × AB)) : Bool × List AB := (Tb ops fr i, out.map fun p => nth (put fr (Gk ops i) (.tuple [])) p.1)
theorem Kq (out : List (Nat × AB)) (H : Has fr N l) (hw : ∀ fr, Vc ops i (CW N l fr) out = (true, out.map (·.2))) (hn : ∀ fr', Has fr' N out → AT C g ops pl tch fr' h K) : AT C g ops ((i, U) :: pl) tch fr h K := by
 have e := D9 H
 have hw' := hw fr
 rw [e] at hw'
 unfold Vc at hw'
 simp only [Prod.mk.injEq] at hw'
 exact Re hw'.1 (hn _ (Has.of_map (by simp [H.1]) hw'.2))
def FO (P : Program) (ops : Array Oper) : List Nat → Fr → Option Fr
 | [], fr => some fr
 | i :: r, fr =>
  match ops[i]? with
  | none => none
  | some o =>
   match B2 ops fr o with
   | some true => (match ZD P fr o.op with | some v => FO P ops r (put fr o.dst v) | none => none)
   | some false => FO P ops r (put fr o.dst (.tuple []))
   | none => none
def Dj : List (Nat × List Nat) → List Nat
 | [] => []
 | (i, _) :: r => i :: Dj r
theorem UE {P : Program} {fr : Fr} {op : Op} {v : AB} (h : ZD P fr op = some v) : As P op = 0 := by
 unfold ZD at h
 split at h
 ·assumption
 ·cases h
theorem L8 : ∀ (sg pl : List (Nat × List Nat)) (fr fr1 : Fr), (∀ x ∈ sg, x.2 = []) → FO C.P ops (Dj sg) fr = some fr1 → AT C g ops pl tch fr1 h K → AT C g ops (sg ++ pl) tch fr h K
 | [], pl, fr, fr1, _, hs, hn => by
  simp only [Dj, FO, Option.some.injEq] at hs
  subst hs
  exact hn
 | (i, U) :: sg, pl, fr, fr1, hU, hs, hn => by
  have hU0 : U = [] := hU (i, U) (by simp)
  subst hU0
  have ih := fun fr2 hx => L8 sg pl fr2 fr1 (fun x hx => hU x (by simp [hx])) hx hn
  simp only [Dj, FO] at hs
  split at hs
  ·cases hs
  ·rename_i o ho
   split at hs
   ·rename_i hw
    split at hs
    ·rename_i v hv
     have e1 : No ops i = o.op := by simp [No, ho]
     have e2 : Gk ops i = o.dst := by simp [Gk, ho]
     refine Hm (v := v) (h1 := h) (by simp [runs, ho, hw]) (.of (by rw [e1]; exact aw hv)) rfl ?_
     rw [e1, e2]
     have : Fe C.P h fr i o.op tch = tch := by unfold Fe; rw [UE hv]; rfl
     rw [this]
     exact ih _ hs
    ·cases hs
   ·rename_i hw
    have e2 : Gk ops i = o.dst := by simp [Gk, ho]
    refine Re (by simp [Tb, ho, hw]) ?_
    rw [e2]
    exact ih _ hs
   ·cases hs
theorem Fv {P : Program} : ∀ (l : List Nat) (fr fr' : Fr), FO P ops l fr = some fr' → fr'.length = fr.length
 | [], fr, fr', h => by simp only [FO, Option.some.injEq] at h; rw [h]
 | i :: l, fr, fr', h => by
  simp only [FO] at h
  split at h
  ·cases h
  ·split at h
   ·split at h
    ·rw [Fv l _ _ h]; simp
    ·cases h
   ·rw [Fv l _ _ h]; simp
   ·cases h
theorem YV (sg : List (Nat × List Nat)) (out : List (Nat × AB)) (H : Has fr N l) (hU : ∀ x ∈ sg, x.2 = [])
  (hk : ∀ fr, (FO C.P ops (Dj sg) (CW N l fr)).map (fun x => out.map (fun p => nth x p.1)) = some (out.map (·.2)))
  (hn : ∀ fr', Has fr' N out → AT C g ops pl tch fr' h K) : AT C g ops (sg ++ pl) tch fr h K := by
 have hk' := hk fr
 rw [D9 H] at hk'
 cases hr : FO C.P ops (Dj sg) fr with
 | none => rw [hr] at hk'; cases hk'
 | some fr1 =>
  rw [hr] at hk'
  simp only [Option.map_some, Option.some.injEq] at hk'
  exact L8 sg pl fr fr1 hU hr (hn fr1 (Has.of_map ((Fv _ _ _ hr).trans H.1) hk'))
def Qm : List (Nat × List Nat) → Bool
 | [] => true
 | (_, U) :: r => U.isEmpty && Qm r
theorem Lx : ∀ {sg : List (Nat × List Nat)}, Qm sg = true → ∀ x ∈ sg, x.2 = []
 | [], _, x, hx => by cases hx
 | (i, U) :: r, h, x, hx => by
  simp only [Qm, Bool.and_eq_true, List.isEmpty_iff] at h
  cases hx with
  | head => exact h.1
  | tail _ hx => exact Lx h.2 x hx
theorem Ht {n : Nat} {b : List (Nat × List Nat)} : ∀ (a : List (Nat × List Nat)) (tch : List (Nat × Nat)) (fr fr1 : Fr) (h h1 : AD), Bs C (Co C n) g ops a tch fr h = some (fr1, h1) →
  ∃ tch', ∀ m, n ≤ m → Bs C (Co C m) g ops (a ++ b) tch fr h = Bs C (Co C m) g ops b tch' fr1 h1
 | [], tch, fr, fr1, h, h1, hr => by
  simp only [Bs, Option.some.injEq, Prod.mk.injEq] at hr
  obtain ⟨rfl, rfl⟩ := hr
  exact ⟨tch, fun _ _ => rfl⟩
 | (i, U) :: a, tch, fr, fr1, h, h1, hr => by
  rw [Bs] at hr
  split at hr
  ·cases hr
  ·rename_i o ho
   split at hr
   ·rename_i hw
    split at hr
    ·rename_i v h' hs
     have hre : NZ C ops U (put fr o.dst v) h' = true := by
      cases hre : NZ C ops U (put fr o.dst v) h' with
      | false => rw [hre] at hr; cases hr
      | true => rfl
     rw [hre] at hr
     simp only [cond_true] at hr
     obtain ⟨t, ht⟩ := Ht a _ _ _ _ _ hr
     refine ⟨t, fun m hm => ?_⟩
     rw [List.cons_append, Bs, ho]
     simp only [hw, Ja (Dz C hm) hs, hre, cond_true]
     exact ht m hm
    ·cases hr
   ·rename_i hw
    obtain ⟨t, ht⟩ := Ht a _ _ _ _ _ hr
    refine ⟨t, fun m hm => ?_⟩
    rw [List.cons_append, Bs, ho]
    simp only [hw]
    exact ht m hm
   ·cases hr
theorem Yg (sg : List (Nat × List Nat)) (I : Fr → AD → Prop) (h1 : AT C g ops sg tch fr h I) (h2 : ∀ t fr h, I fr h → AT C g ops pl t fr h K) : AT C g ops (sg ++ pl) tch fr h K := by
 obtain ⟨n, fr1, h1', r1, r2⟩ := h1
 obtain ⟨t0, ht0⟩ := Ht (b := pl) sg tch fr fr1 h h1' r1
 obtain ⟨m, fr2, h2', r3, r4⟩ := h2 t0 _ _ r2
 refine ⟨max n m, fr2, h2', ?_, r4⟩
 rw [ht0 _ (Nat.le_max_left _ _)]
 exact GD (Dz C (Nat.le_max_right _ _)) r3
def MS (next : Fr → AD → Prop) (Q : Bw → Fr → AD → Prop) : Bw → Fr → AD → Prop
 | .normal, fr, h => next fr h
 | e, fr, h => Q e fr h
def Zj (id : Nat) (Q : Bw → Fr → AD → Prop) : Bw → Fr → AD → Prop
 | .exit i, fr, h => bif Nat.beq i id then Q .normal fr h else Q (.exit i) fr h
 | e, fr, h => Q e fr h
variable {Q : Bw → Fr → AD → Prop} {a b c c' : Code}
def left : Code → Code
 | .seq a _ => a
 | .cond _ a _ => a
 | .block _ c => c
 | .loop c => c
 | .scope c => c
 | .rangeFunc _ _ a _ => a
 | c => c
def right : Code → Code
 | .seq _ b => b
 | .cond _ _ b => b
 | .rangeFunc _ _ _ b => b
 | c => c
def opsOf : Code → Array Oper
 | .region _ ops _ => ops
 | _ => #[]
inductive Sh where
 | skip | region (id n : Nat) (draw : Bool) | seq | cond (x : Operand) | block (id : Nat) | loop | exit (id : Nat) | scope | label | ret | range (x : Operand) (ps : List Tmp) | other
def shape : Code → Sh
 | .skip => .skip
 | .region id ops draw => .region id ops.size draw
 | .seq _ _ => .seq
 | .cond x _ _ => .cond x
 | .block id _ => .block id
 | .loop _ => .loop
 | .exit id => .exit id
 | .scope _ => .scope
 | .rangeFunc x ps _ _ => .range x ps.toList
 | .label _ => .label
 | .ret => .ret
 | _ => .other
theorem Az {Q' : Bw → Fr → AD → Prop} (hh : AW C f g c fr h Q') (hq : ∀ e fr h, Q' e fr h → Q e fr h) : AW C f g c fr h Q := by
 obtain ⟨n, e, fr', h', h1, h2⟩ := (hh).ex
 exact ⟨⟨n, e, fr', h', h1, hq _ _ _ h2⟩⟩
theorem Si (hs : shape c = .seq) (hh : AW C f g (left c) fr h (MS (fun fr h => AW C f g (right c) fr h Q) Q)) : AW C f g c fr h Q := by
 cases c <;> simp [shape] at hs
 simp only [left, right] at hh
 obtain ⟨n, e, fr1, h1, hx, hq⟩ := (hh).ex
 cases e with
 | normal =>
  obtain ⟨m, e2, fr2, h2, hx2, hq2⟩ := hq.ex
  refine ⟨⟨max n m, e2, fr2, h2, ?_, hq2⟩⟩
  simp only [BM, Dc (Dz C (Nat.le_max_left n m)) hx, Dc (Dz C (Nat.le_max_right n m)) hx2]
 | exit id => exact ⟨⟨n, _, _, _, by simp only [BM, hx], hq⟩⟩
 | ret => exact ⟨⟨n, _, _, _, by simp only [BM, hx], hq⟩⟩
theorem YZ {id n : Nat} (pl : List (Nat × List Nat)) (hs : shape c = .region id n false) (hp : E4 0 n = pl) (hh : AT C g (opsOf c) pl [] fr h (fun fr' h' => Q .normal fr' h')) : AW C f g c fr h Q := by
 cases c <;> simp [shape] at hs
 obtain ⟨rfl, rfl, rfl⟩ := hs
 obtain ⟨n, fr', h', hr, hq⟩ := hh
 subst hp
 simp only [opsOf] at hr
 rw [IX _ _ _ _ _ (by omega), List.drop_zero] at hr
 exact ⟨⟨n, .normal, fr', h', by simp only [BM, cond_false, hr], hq⟩⟩
theorem TZ {id n : Nat} (hs : shape c = .region id n true) (pl : List (Nat × List Nat)) (hp : C.K6 f id = pl) (hh : AT C g (opsOf c) pl [] fr h (fun fr' h' => Q .normal fr' h')) : AW C f g c fr h Q := by
 cases c <;> simp [shape] at hs
 obtain ⟨rfl, rfl, rfl⟩ := hs
 obtain ⟨n, fr', h', hr, hq⟩ := hh
 simp only [opsOf] at hr
 exact ⟨⟨n, .normal, fr', h', by simp only [BM, cond_true, hp, hr], hq⟩⟩
theorem Nj (hs : shape c = .skip) (hq : Q .normal fr h) : AW C f g c fr h Q := by cases c <;> simp [shape] at hs; exact ⟨⟨0, _, _, _, rfl, hq⟩⟩
theorem Bk {i : Nat} (hs : shape c = .exit i) (hq : Q (.exit i) fr h) : AW C f g c fr h Q := by cases c <;> simp [shape] at hs; subst hs; exact ⟨⟨0, _, _, _, rfl, hq⟩⟩
theorem YN (hs : shape c = .ret) (hq : Q .ret fr h) : AW C f g c fr h Q := by cases c <;> simp [shape] at hs; exact ⟨⟨0, _, _, _, rfl, hq⟩⟩
theorem GF {x : Operand} (hs : shape c = .cond x) (H : Has fr N l) (hx : ∀ fr, ev (CW N l fr) x = .bool true) (hh : AW C f g (left c) fr h Q) : AW C f g c fr h Q := by
 cases c <;> simp [shape] at hs
 subst hs
 have := hx fr
 rw [D9 H] at this
 obtain ⟨n, e, fr', h', h1, h2⟩ := (hh).ex
 exact ⟨⟨n, e, fr', h', by simp only [BM, this]; exact h1, h2⟩⟩
theorem Q1 {x : Operand} (hs : shape c = .cond x) (H : Has fr N l) (hx : ∀ fr, ev (CW N l fr) x = .bool false) (hh : AW C f g (right c) fr h Q) : AW C f g c fr h Q := by
 cases c <;> simp [shape] at hs
 subst hs
 have := hx fr
 rw [D9 H] at this
 obtain ⟨n, e, fr', h', h1, h2⟩ := (hh).ex
 exact ⟨⟨n, e, fr', h', by simp only [BM, this]; exact h1, h2⟩⟩
theorem Ak {id : Nat} (hs : shape c = .block id) (hh : AW C f g (left c) fr h (Zj id Q)) : AW C f g c fr h Q := by
 cases c <;> simp [shape] at hs
 subst hs
 simp only [left] at hh
 obtain ⟨n, e, fr', h', h1, h2⟩ := (hh).ex
 cases e with
 | normal => exact ⟨⟨n, _, _, _, by simp only [BM, h1], h2⟩⟩
 | ret => exact ⟨⟨n, _, _, _, by simp only [BM, h1], h2⟩⟩
 | exit i =>
  rename_i id _
  simp only [Zj] at h2
  cases hb : Nat.beq i id with
  | true => rw [hb] at h2; exact ⟨⟨n, .normal, fr', h', by simp only [BM, h1, hb, cond_true], h2⟩⟩
  | false => rw [hb] at h2; exact ⟨⟨n, .exit i, fr', h', by simp only [BM, h1, hb, cond_false], h2⟩⟩
theorem Bi {σ ρ : Type} {step : σ → Option (σ ⊕ ρ)} {s : σ} {r : ρ} (hs : shape c = .loop) (I : σ → Fr → AD → Prop) (hl : loop step s = some r) (h0 : I s fr h)
  (hr : ∀ s o fr h, I s fr h → step s = some o → AW C f g (left c) fr h (MS (fun fr' h' => ∃ s', o = .inl s' ∧ I s' fr' h') (fun e fr' h' => ∃ r', o = .inr r' ∧ (r' = r → Q e fr' h')))) : AW C f g c fr h Q := by
 cases c <;> simp [shape] at hs
 rename_i c
 simp only [left] at hr
 obtain ⟨k, hk⟩ := QG hl
 have key : ∀ k s fr h, I s fr h → HN step k s = some r → AW C f g (.loop c) fr h Q := by
  intro k
  induction k with
  | zero => intro s fr h _ hk; cases hk
  | succ k ih =>
   intro s fr h hi hk
   unfold HN at hk
   cases hst : step s with
   | none => rw [hst] at hk; cases hk
   | some o =>
    rw [hst] at hk
    obtain ⟨n, e, fr1, h1, hx, hq⟩ := (hr s o fr h hi hst).ex
    cases e with
    | normal =>
     obtain ⟨s', rfl, hI⟩ := hq
     obtain ⟨m, e2, fr2, h2, hx2, hq2⟩ := (ih s' fr1 h1 hI hk).ex
     refine ⟨⟨max n m + 1, e2, fr2, h2, ?_, hq2⟩⟩
     have e1 := Dc (Dz C (Nat.le_trans (Nat.le_max_left n m) (Nat.le_succ _))) hx
     have e2' := Dc (Dz C (Nat.le_max_right n m)) hx2
     rw [BM, e1]
     exact e2'
    | exit i =>
     obtain ⟨r', rfl, hQ⟩ := hq
     injection hk with hk
     exact ⟨⟨n, _, _, _, by simp only [BM, hx], hQ hk⟩⟩
    | ret =>
     obtain ⟨r', rfl, hQ⟩ := hq
     injection hk with hk
     exact ⟨⟨n, _, _, _, by simp only [BM, hx], hQ hk⟩⟩
 exact key k s fr h h0 hk
def Fx (P : Program) (f : FuncId) : Code :=
 match P.funcs[f]? with
 | some fn => (match fn.body with | some c => c | none => .skip)
 | none => .skip
def JY (P : Program) (f : FuncId) : Option (Nat × List ResultVar) :=
 match P.funcs[f]? with
 | some fn => (match fn.body with | some _ => some (fn.ntmps, fn.results.toList) | none => none)
 | none => none
def Md (P : Program) (rs : List ResultVar) (fr : Fr) (h : AD) : Option AB :=
 match rs.mapM (Gt P fr h) with
 | some [v] => some v
 | some vs => some (.tuple vs)
 | none => none
structure ZV (P : Program) (rs : List ResultVar) (v : AB) (h' : AD) (e : Bw) (fr : Fr) (h : AD) : Prop where
 no : e = .ret ∨ e = .normal
 res : Md P rs fr h = some v
 heap : h = h'
theorem XV {args : List AB} {v : AB} {h' : AD} {n : Nat} {rs : List ResultVar} (hf : JY C.P f = some (n, rs))
  (hh : AW C f g (Fx C.P f) (args ++ List.replicate (n - args.length) (.tuple [])) h (ZV C.P rs v h')) : QD C g h f args v h' := by
 obtain ⟨m, e, fr', h2, hx, hq⟩ := (hh).ex
 unfold JY at hf
 unfold Fx at hx
 refine ⟨m, ?_⟩
 unfold Ic
 split at hf
 ·rename_i fn hfn
  split at hf
  ·rename_i c hc
   simp only [Option.some.injEq, Prod.mk.injEq] at hf
   obtain ⟨rfl, rfl⟩ := hf
   simp only [hfn, hc] at hx ⊢
   cases e with
   | normal => obtain ⟨_, h3, rfl⟩ := hq; rw [hx]; simp only; rw [show Dx C.P fn fr' h2 = some v from h3]; rfl
   | ret => obtain ⟨_, h3, rfl⟩ := hq; rw [hx]; simp only; rw [show Dx C.P fn fr' h2 = some v from h3]; rfl
   | exit i => rcases hq.no with h | h <;> cases h
  ·cases hf
 ·cases hf
theorem start {args : List AB} {n : Nat} (ins : List (Nat × AB)) (hl : (args ++ List.replicate (n - args.length) (AB.tuple [])).length = n) (hi : ins.map (fun p => nth (args ++ List.replicate (n - args.length) (AB.tuple [])) p.1) = ins.map (·.2))
  (hh : ∀ fr, Has fr n ins → AW C f g c fr h Q) : AW C f g c (args ++ List.replicate (n - args.length) (.tuple [])) h Q := hh _ (Has.of_map hl hi)
theorem ZF {args args' : List AB} {v : AB} {h' : AD} (hk : C.kind f = 1) (hc : BB (C.still f) args = args') (hb : QD C g h f args' v h') : BE C g h f args v h' := by
 obtain ⟨n, hn⟩ := hb
 refine ⟨n + 1, ?_⟩
 show Jf C (Co C n) g h f args = _
 unfold Jf
 rw [hk]
 simp only [hc]
 exact hn
theorem closed {args : List AB} {v : AB} (n : Nat) (hb : (Ic C (Co C n) g h f args).map (·.1) = some v) : ∃ h', QD C g h f args v h' := by
 cases hx : Ic C (Co C n) g h f args with
 | none => rw [hx] at hb; cases hb
 | some x =>
  rw [hx] at hb
  simp only [Option.map_some, Option.some.injEq] at hb
  exact ⟨x.2, n, by rw [hx, ← hb]⟩
end
def P2 : List Nat → Nat → Nat
 | [], _ => 0
 | a :: _, 0 => a
 | _ :: l, i + 1 => P2 l i
def OS : List ((Nat × Nat) × List (Nat × List Nat)) → Nat → Nat → List (Nat × List Nat)
 | [], _, _ => []
 | ((a, b), p) :: l, f, id => bif Nat.beq a f && Nat.beq b id then p else OS l f id
def TK (C : Fi) : Nat → Bool
 | 0 => true
 | n + 1 => TK C n && (bif Nat.beq (C.kind n) 0 || Nat.beq (C.kind n) 3 then true else
   match C.P.funcs[n]? with
   | some fn => !(fn.name == "runtime.NumGoroutine") && (match fn.body with | some c => codeOk C n c | none => true)
   | none => true)
theorem Ol : ∀ {l : List Nat} {i : Nat}, l.length ≤ i → P2 l i = 0
 | [], _, _ => rfl
 | _ :: l, 0, h => by simp at h
 | _ :: l, i + 1, h => Ol (l := l) (by simpa using h)
theorem Rm {C : Fi} : ∀ {n : Nat}, TK C n = true → ∀ {f : Nat}, f < n → C.kind f ≠ 0 → C.kind f ≠ 3 → ∀ {fn : Func} {c : Code}, C.P.funcs[f]? = some fn → fn.body = some c → (fn.name == "runtime.NumGoroutine") = false ∧ codeOk C f c = true
 | 0, _, f, hf, _, _, _, _, _, _ => by omega
 | n + 1, h, f, hf, hk, hk3, fn, c, h1, h2 => by
  simp only [TK, Bool.and_eq_true] at h
  by_cases e : f = n
  ·subst e
   have h3 := h.2
   have : Nat.beq (C.kind f) 0 = false := by
    cases hb : Nat.beq (C.kind f) 0 with
    | false => rfl
    | true => exact absurd (Nat.eq_of_beq_eq_true hb) hk
   have this3 : Nat.beq (C.kind f) 3 = false := by
    cases hb : Nat.beq (C.kind f) 3 with
    | false => rfl
    | true => exact absurd (Nat.eq_of_beq_eq_true hb) hk3
   rw [this, this3] at h3
   simp only [Bool.or_false, cond_false, h1, h2, Bool.and_eq_true, Bool.not_eq_true'] at h3
   exact h3
  ·exact Rm h.1 (by omega) hk hk3 h1 h2
def WG (P : Program) (K6 : Nat → Nat → List (Nat × List Nat)) : Fi := ⟨P, fun _ => 0, K6, fun _ _ _ _ => none, fun _ => none, fun _ _ _ => false, fun _ => [], fun _ _ => none, X8⟩
def Vn (P : Program) (K6 : Nat → Nat → List (Nat × List Nat)) (f : FuncId) (a b : Code) : Bool := codeOk (WG P K6) f a && codeOk (WG P K6) f b && (HW a && HW b)
theorem NM {C C' : Fi} (h1 : C.P = C'.P) (h2 : C.K6 = C'.K6) (f : FuncId) : ∀ c, codeOk C f c = codeOk C' f c := by
 intro c
 induction c <;> simp_all [codeOk]
end Go.Av
