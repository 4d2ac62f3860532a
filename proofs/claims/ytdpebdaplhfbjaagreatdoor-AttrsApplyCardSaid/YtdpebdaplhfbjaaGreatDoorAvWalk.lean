/-
  ABS, 18: rules for regions, for code, for bodies and calls: the fuel is none of the proofs' concern.
-/
import Derived.Test.YtdpebdaplhfbjaaGreatDoorAvStep2
namespace Go.Av
set_option linter.unusedSimpArgs false
set_option linter.unusedVariables false
def plan0 : Nat → Nat → List (Nat × List Nat)
 | _, 0 => []
 | i, k + 1 => (i, []) :: plan0 (i + 1) k
@[simp] theorem protOf_nil (tch : List (Nat × Nat)) : protOf tch [] = [] := by
 unfold protOf
 rw [List.filterMap_eq_nil_iff]
 intro a _
 rfl
section
variable {C : Cfg} {S : Self} {g : Gd} {ops : Array Oper}
theorem runOps_plan : ∀ (k i : Nat) (tch : List (Nat × Nat)) (fr : Fr) (h : AHeap), i + k = ops.size → runPlan C S g ops (plan0 i k) tch fr h = runOps C S g ops (ops.toList.drop i) fr h
 | 0, i, tch, fr, h, e => by
  have : ops.toList.drop i = [] := List.drop_eq_nil_of_le (by rw [Array.length_toList]; omega)
  rw [this]; rfl
 | k + 1, i, tch, fr, h, e => by
  have hi : i < ops.size := by omega
  have hl : i < ops.toList.length := by rw [Array.length_toList]; exact hi
  rw [List.drop_eq_getElem_cons hl, plan0, runPlan, runOps, Array.getElem?_eq_getElem hi]
  simp only [Array.getElem_toList]
  cases wantedA ops fr ops[i] with
  | none => rfl
  | some b =>
   cases b with
   | false => exact runOps_plan k (i + 1) _ _ _ (by omega)
   | true =>
    simp only [protOf_nil, List.nil_append]
    cases stepA C S g h fr ops[i].op with
    | none => rfl
    | some x => exact runOps_plan k (i + 1) _ _ _ (by omega)
end
def AT (C : Cfg) (g : Gd) (ops : Array Oper) (pl : List (Nat × List Nat)) (tch : List (Nat × Nat)) (fr : Fr) (h : AHeap) (K : Fr → AHeap → Prop) : Prop :=
 ∃ n fr' h', runPlan C (selfN C n) g ops pl tch fr h = some (fr', h') ∧ K fr' h'
structure AW (C : Cfg) (f : FuncId) (g : Gd) (c : Code) (fr : Fr) (h : AHeap) (Q : AExit → Fr → AHeap → Prop) : Prop where
 ex : ∃ n e fr' h', execA C (selfN C n) f g c fr h = some (e, fr', h') ∧ Q e fr' h'
def Bodies (C : Cfg) (g : Gd) (h : AHeap) (f : FuncId) (args : List AVal) (v : AVal) (h' : AHeap) : Prop := ∃ n, bodyA C (selfN C n) g h f args = some (v, h')
def Runs (C : Cfg) (g : Gd) (h : AHeap) (f : FuncId) (args : List AVal) (v : AVal) (h' : AHeap) : Prop := ∃ n, (selfN C n).call g h f args = some (v, h')
section
variable {C : Cfg} {f : FuncId} {g : Gd} {ops : Array Oper} {pl : List (Nat × List Nat)} {tch : List (Nat × Nat)} {fr : Fr} {h h1 : AHeap} {K : Fr → AHeap → Prop} {N : Nat} {l : List (Nat × AVal)} {i : Nat} {U : List Nat}
theorem at_nil (h0 : K fr h) : AT C g ops [] tch fr h K := ⟨0, fr, h, rfl, h0⟩
theorem at_more {S : Nat} {pl' : List (Nat × List Nat)} {tch' : List (Nat × Nat)} {fr1 : Fr} {h1 : AHeap} (hh : AT C g ops pl tch fr1 h1 K)
  (hx : ∀ n x, S ≤ n → runPlan C (selfN C n) g ops pl tch fr1 h1 = some x → runPlan C (selfN C n) g ops pl' tch' fr h = some x) : AT C g ops pl' tch' fr h K := by
 obtain ⟨n, fr', h', r1, r2⟩ := hh
 exact ⟨max S n, fr', h', hx _ _ (Nat.le_max_left _ _) (runPlan_mono (selfN_le C (Nat.le_max_right _ _)) r1), r2⟩
def Steps (C : Cfg) (g : Gd) (h : AHeap) (fr : Fr) (op : Op) (v : AVal) (h1 : AHeap) : Prop := ∃ n, stepA C (selfN C n) g h fr op = some (v, h1)
theorem Steps.of {op : Op} {v : AVal} (hs : stepA C (selfN C 0) g h fr op = some (v, h1)) : Steps C g h fr op v h1 := ⟨0, hs⟩
theorem Steps.call {op : Op} {v : AVal} {f' : FuncId} {args : List AVal} (hs : spCall fr op = some (f', args)) (hr : Runs C g h f' args v h1) : Steps C g h fr op v h1 := by
 obtain ⟨n, hn⟩ := hr
 exact ⟨n, s_call hs hn⟩
theorem at_step0 {v : AVal} {U : List Nat} (hw : runs ops fr i = true) (hs : Steps C ⟨g.floor, protOf tch U ++ g.prot⟩ h fr (opI ops i) v h1) (hre : reOk C ops U (put fr (dstI ops i) v) h1 = true) (hn : AT C g ops pl (touches C.P h fr i (opI ops i) tch) (put fr (dstI ops i) v) h1 K) :
  AT C g ops ((i, U) :: pl) tch fr h K := by
 obtain ⟨m, hm⟩ := hs
 refine at_more (S := m) hn fun n x hle hx => ?_
 have hst := stepA_mono (selfN_le C hle) hm
 unfold runs at hw
 unfold opI at hst hx
 unfold dstI at hx hre
 rw [runPlan]
 cases ho : ops[i]? with
 | none => rw [ho] at hw; cases hw
 | some o =>
  rw [ho] at hw hst hx hre
  simp only at hw hst hx hre ⊢
  cases hwa : wantedA ops fr o with
  | none => rw [hwa] at hw; cases hw
  | some b =>
   rw [hwa] at hw
   simp only at hw
   subst hw
   simp only [hst, hre, cond_true]
   exact hx
theorem at_skip0 (hw : skips ops fr i = true) (hn : AT C g ops pl tch (put fr (dstI ops i) (.tuple [])) h K) : AT C g ops ((i, U) :: pl) tch fr h K := by
 refine at_more (S := 0) hn fun n x hle hx => ?_
 unfold skips at hw
 unfold dstI at hx
 rw [runPlan]
 cases ho : ops[i]? with
 | none => rw [ho] at hw; cases hw
 | some o =>
  rw [ho] at hw hx
  simp only at hw hx ⊢
  cases hwa : wantedA ops fr o with
  | none => rw [hwa] at hw; cases hw
  | some b =>
   rw [hwa] at hw
   simp only [Bool.not_eq_true'] at hw
   subst hw
   exact hx
def segP (P : Program) (ops : Array Oper) : List Nat → Fr → Option Fr
 | [], fr => some fr
 | i :: r, fr =>
  match ops[i]? with
  | none => none
  | some o =>
   match wantedA ops fr o with
   | some true => (match spP P fr o.op with | some v => segP P ops r (put fr o.dst v) | none => none)
   | some false => segP P ops r (put fr o.dst (.tuple []))
   | none => none
def segI : List (Nat × List Nat) → List Nat
 | [] => []
 | (i, _) :: r => i :: segI r
theorem clsOf_spP {P : Program} {fr : Fr} {op : Op} {v : AVal} (h : spP P fr op = some v) : clsOf P op = 0 := by
 unfold spP at h
 split at h
 ·assumption
 ·cases h
theorem at_segP : ∀ (sg pl : List (Nat × List Nat)) (fr fr1 : Fr), (∀ x ∈ sg, x.2 = []) → segP C.P ops (segI sg) fr = some fr1 → AT C g ops pl tch fr1 h K → AT C g ops (sg ++ pl) tch fr h K
 | [], pl, fr, fr1, _, hs, hn => by
  simp only [segI, segP, Option.some.injEq] at hs
  subst hs
  exact hn
 | (i, U) :: sg, pl, fr, fr1, hU, hs, hn => by
  have hU0 : U = [] := hU (i, U) (by simp)
  subst hU0
  have ih := fun fr2 hx => at_segP sg pl fr2 fr1 (fun x hx => hU x (by simp [hx])) hx hn
  simp only [segI, segP] at hs
  split at hs
  ·cases hs
  ·rename_i o ho
   split at hs
   ·rename_i hw
    split at hs
    ·rename_i v hv
     have e1 : opI ops i = o.op := by simp [opI, ho]
     have e2 : dstI ops i = o.dst := by simp [dstI, ho]
     refine at_step0 (v := v) (h1 := h) (by simp [runs, ho, hw]) (.of (by rw [e1]; exact s_p hv)) rfl ?_
     rw [e1, e2]
     have : touches C.P h fr i o.op tch = tch := by unfold touches; rw [clsOf_spP hv]; rfl
     rw [this]
     exact ih _ hs
    ·cases hs
   ·rename_i hw
    have e2 : dstI ops i = o.dst := by simp [dstI, ho]
    refine at_skip0 (by simp [skips, ho, hw]) ?_
    rw [e2]
    exact ih _ hs
   ·cases hs
theorem segP_length {P : Program} : ∀ (l : List Nat) (fr fr' : Fr), segP P ops l fr = some fr' → fr'.length = fr.length
 | [], fr, fr', h => by simp only [segP, Option.some.injEq] at h; rw [h]
 | i :: l, fr, fr', h => by
  simp only [segP] at h
  split at h
  ·cases h
  ·split at h
   ·split at h
    ·rw [segP_length l _ _ h]; simp
    ·cases h
   ·rw [segP_length l _ _ h]; simp
   ·cases h
theorem at_seg (sg : List (Nat × List Nat)) (out : List (Nat × AVal)) (H : Has fr N l) (hU : ∀ x ∈ sg, x.2 = [])
  (hk : ∀ fr, (segP C.P ops (segI sg) (mkFr N l fr)).map (fun x => out.map (fun p => nth x p.1)) = some (out.map (·.2)))
  (hn : ∀ fr', Has fr' N out → AT C g ops pl tch fr' h K) : AT C g ops (sg ++ pl) tch fr h K := by
 have hk' := hk fr
 rw [mkFr_eq H] at hk'
 cases hr : segP C.P ops (segI sg) fr with
 | none => rw [hr] at hk'; cases hk'
 | some fr1 =>
  rw [hr] at hk'
  simp only [Option.map_some, Option.some.injEq] at hk'
  exact at_segP sg pl fr fr1 hU hr (hn fr1 (Has.of_map ((segP_length _ _ _ hr).trans H.1) hk'))
def noU : List (Nat × List Nat) → Bool
 | [] => true
 | (_, U) :: r => U.isEmpty && noU r
theorem noU_all : ∀ {sg : List (Nat × List Nat)}, noU sg = true → ∀ x ∈ sg, x.2 = []
 | [], _, x, hx => by cases hx
 | (i, U) :: r, h, x, hx => by
  simp only [noU, Bool.and_eq_true, List.isEmpty_iff] at h
  cases hx with
  | head => exact h.1
  | tail _ hx => exact noU_all h.2 x hx
theorem runPlan_append {n : Nat} {b : List (Nat × List Nat)} : ∀ (a : List (Nat × List Nat)) (tch : List (Nat × Nat)) (fr fr1 : Fr) (h h1 : AHeap), runPlan C (selfN C n) g ops a tch fr h = some (fr1, h1) →
  ∃ tch', ∀ m, n ≤ m → runPlan C (selfN C m) g ops (a ++ b) tch fr h = runPlan C (selfN C m) g ops b tch' fr1 h1
 | [], tch, fr, fr1, h, h1, hr => by
  simp only [runPlan, Option.some.injEq, Prod.mk.injEq] at hr
  obtain ⟨rfl, rfl⟩ := hr
  exact ⟨tch, fun _ _ => rfl⟩
 | (i, U) :: a, tch, fr, fr1, h, h1, hr => by
  rw [runPlan] at hr
  split at hr
  ·cases hr
  ·rename_i o ho
   split at hr
   ·rename_i hw
    split at hr
    ·rename_i v h' hs
     have hre : reOk C ops U (put fr o.dst v) h' = true := by
      cases hre : reOk C ops U (put fr o.dst v) h' with
      | false => rw [hre] at hr; cases hr
      | true => rfl
     rw [hre] at hr
     simp only [cond_true] at hr
     obtain ⟨t, ht⟩ := runPlan_append a _ _ _ _ _ hr
     refine ⟨t, fun m hm => ?_⟩
     rw [List.cons_append, runPlan, ho]
     simp only [hw, stepA_mono (selfN_le C hm) hs, hre, cond_true]
     exact ht m hm
    ·cases hr
   ·rename_i hw
    obtain ⟨t, ht⟩ := runPlan_append a _ _ _ _ _ hr
    refine ⟨t, fun m hm => ?_⟩
    rw [List.cons_append, runPlan, ho]
    simp only [hw]
    exact ht m hm
   ·cases hr
theorem at_cut (sg : List (Nat × List Nat)) (I : Fr → AHeap → Prop) (h1 : AT C g ops sg tch fr h I) (h2 : ∀ t fr h, I fr h → AT C g ops pl t fr h K) : AT C g ops (sg ++ pl) tch fr h K := by
 obtain ⟨n, fr1, h1', r1, r2⟩ := h1
 obtain ⟨t0, ht0⟩ := runPlan_append (b := pl) sg tch fr fr1 h h1' r1
 obtain ⟨m, fr2, h2', r3, r4⟩ := h2 t0 _ _ r2
 refine ⟨max n m, fr2, h2', ?_, r4⟩
 rw [ht0 _ (Nat.le_max_left _ _)]
 exact runPlan_mono (selfN_le C (Nat.le_max_right _ _)) r3
def thenQ (next : Fr → AHeap → Prop) (Q : AExit → Fr → AHeap → Prop) : AExit → Fr → AHeap → Prop
 | .normal, fr, h => next fr h
 | e, fr, h => Q e fr h
def blkQ (id : Nat) (Q : AExit → Fr → AHeap → Prop) : AExit → Fr → AHeap → Prop
 | .exit i, fr, h => bif Nat.beq i id then Q .normal fr h else Q (.exit i) fr h
 | e, fr, h => Q e fr h
variable {Q : AExit → Fr → AHeap → Prop} {a b c c' : Code}
def left : Code → Code
 | .seq a _ => a
 | .cond _ a _ => a
 | .block _ c => c
 | .loop c => c
 | .scope c => c
 | .rangeFunc _ _ a _ => a
 | c => c
def right : Code → Code
 | .seq _ b => b
 | .cond _ _ b => b
 | .rangeFunc _ _ _ b => b
 | c => c
def opsOf : Code → Array Oper
 | .region _ ops _ => ops
 | _ => #[]
inductive Sh where
 | skip | region (id n : Nat) (draw : Bool) | seq | cond (x : Operand) | block (id : Nat) | loop | exit (id : Nat) | scope | label | ret | range (x : Operand) (ps : List Tmp) | other
def shape : Code → Sh
 | .skip => .skip
 | .region id ops draw => .region id ops.size draw
 | .seq _ _ => .seq
 | .cond x _ _ => .cond x
 | .block id _ => .block id
 | .loop _ => .loop
 | .exit id => .exit id
 | .scope _ => .scope
 | .rangeFunc x ps _ _ => .range x ps.toList
 | .label _ => .label
 | .ret => .ret
 | _ => .other
theorem aw_mono {Q' : AExit → Fr → AHeap → Prop} (hh : AW C f g c fr h Q') (hq : ∀ e fr h, Q' e fr h → Q e fr h) : AW C f g c fr h Q := by
 obtain ⟨n, e, fr', h', h1, h2⟩ := (hh).ex
 exact ⟨⟨n, e, fr', h', h1, hq _ _ _ h2⟩⟩
theorem aw_seq (hs : shape c = .seq) (hh : AW C f g (left c) fr h (thenQ (fun fr h => AW C f g (right c) fr h Q) Q)) : AW C f g c fr h Q := by
 cases c <;> simp [shape] at hs
 simp only [left, right] at hh
 obtain ⟨n, e, fr1, h1, hx, hq⟩ := (hh).ex
 cases e with
 | normal =>
  obtain ⟨m, e2, fr2, h2, hx2, hq2⟩ := hq.ex
  refine ⟨⟨max n m, e2, fr2, h2, ?_, hq2⟩⟩
  simp only [execA, execA_mono (selfN_le C (Nat.le_max_left n m)) hx, execA_mono (selfN_le C (Nat.le_max_right n m)) hx2]
 | exit id => exact ⟨⟨n, _, _, _, by simp only [execA, hx], hq⟩⟩
 | ret => exact ⟨⟨n, _, _, _, by simp only [execA, hx], hq⟩⟩
theorem aw_reg {id n : Nat} (pl : List (Nat × List Nat)) (hs : shape c = .region id n false) (hp : plan0 0 n = pl) (hh : AT C g (opsOf c) pl [] fr h (fun fr' h' => Q .normal fr' h')) : AW C f g c fr h Q := by
 cases c <;> simp [shape] at hs
 obtain ⟨rfl, rfl, rfl⟩ := hs
 obtain ⟨n, fr', h', hr, hq⟩ := hh
 subst hp
 simp only [opsOf] at hr
 rw [runOps_plan _ _ _ _ _ (by omega), List.drop_zero] at hr
 exact ⟨⟨n, .normal, fr', h', by simp only [execA, cond_false, hr], hq⟩⟩
theorem aw_draw {id n : Nat} (hs : shape c = .region id n true) (pl : List (Nat × List Nat)) (hp : C.plan f id = pl) (hh : AT C g (opsOf c) pl [] fr h (fun fr' h' => Q .normal fr' h')) : AW C f g c fr h Q := by
 cases c <;> simp [shape] at hs
 obtain ⟨rfl, rfl, rfl⟩ := hs
 obtain ⟨n, fr', h', hr, hq⟩ := hh
 simp only [opsOf] at hr
 exact ⟨⟨n, .normal, fr', h', by simp only [execA, cond_true, hp, hr], hq⟩⟩
theorem aw_skip (hs : shape c = .skip) (hq : Q .normal fr h) : AW C f g c fr h Q := by cases c <;> simp [shape] at hs; exact ⟨⟨0, _, _, _, rfl, hq⟩⟩
theorem aw_exit {i : Nat} (hs : shape c = .exit i) (hq : Q (.exit i) fr h) : AW C f g c fr h Q := by cases c <;> simp [shape] at hs; subst hs; exact ⟨⟨0, _, _, _, rfl, hq⟩⟩
theorem aw_ret (hs : shape c = .ret) (hq : Q .ret fr h) : AW C f g c fr h Q := by cases c <;> simp [shape] at hs; exact ⟨⟨0, _, _, _, rfl, hq⟩⟩
theorem aw_true {x : Operand} (hs : shape c = .cond x) (H : Has fr N l) (hx : ∀ fr, ev (mkFr N l fr) x = .bool true) (hh : AW C f g (left c) fr h Q) : AW C f g c fr h Q := by
 cases c <;> simp [shape] at hs
 subst hs
 have := hx fr
 rw [mkFr_eq H] at this
 obtain ⟨n, e, fr', h', h1, h2⟩ := (hh).ex
 exact ⟨⟨n, e, fr', h', by simp only [execA, this]; exact h1, h2⟩⟩
theorem aw_false {x : Operand} (hs : shape c = .cond x) (H : Has fr N l) (hx : ∀ fr, ev (mkFr N l fr) x = .bool false) (hh : AW C f g (right c) fr h Q) : AW C f g c fr h Q := by
 cases c <;> simp [shape] at hs
 subst hs
 have := hx fr
 rw [mkFr_eq H] at this
 obtain ⟨n, e, fr', h', h1, h2⟩ := (hh).ex
 exact ⟨⟨n, e, fr', h', by simp only [execA, this]; exact h1, h2⟩⟩
theorem aw_block {id : Nat} (hs : shape c = .block id) (hh : AW C f g (left c) fr h (blkQ id Q)) : AW C f g c fr h Q := by
 cases c <;> simp [shape] at hs
 subst hs
 simp only [left] at hh
 obtain ⟨n, e, fr', h', h1, h2⟩ := (hh).ex
 cases e with
 | normal => exact ⟨⟨n, _, _, _, by simp only [execA, h1], h2⟩⟩
 | ret => exact ⟨⟨n, _, _, _, by simp only [execA, h1], h2⟩⟩
 | exit i =>
  rename_i id _
  simp only [blkQ] at h2
  cases hb : Nat.beq i id with
  | true => rw [hb] at h2; exact ⟨⟨n, .normal, fr', h', by simp only [execA, h1, hb, cond_true], h2⟩⟩
  | false => rw [hb] at h2; exact ⟨⟨n, .exit i, fr', h', by simp only [execA, h1, hb, cond_false], h2⟩⟩
theorem aw_loop {σ ρ : Type} {step : σ → Option (σ ⊕ ρ)} {s : σ} {r : ρ} (hs : shape c = .loop) (I : σ → Fr → AHeap → Prop) (hl : loop step s = some r) (h0 : I s fr h)
  (hr : ∀ s o fr h, I s fr h → step s = some o → AW C f g (left c) fr h (thenQ (fun fr' h' => ∃ s', o = .inl s' ∧ I s' fr' h') (fun e fr' h' => ∃ r', o = .inr r' ∧ (r' = r → Q e fr' h')))) : AW C f g c fr h Q := by
 cases c <;> simp [shape] at hs
 rename_i c
 simp only [left] at hr
 obtain ⟨k, hk⟩ := loop_to hl
 have key : ∀ k s fr h, I s fr h → loopN step k s = some r → AW C f g (.loop c) fr h Q := by
  intro k
  induction k with
  | zero => intro s fr h _ hk; cases hk
  | succ k ih =>
   intro s fr h hi hk
   unfold loopN at hk
   cases hst : step s with
   | none => rw [hst] at hk; cases hk
   | some o =>
    rw [hst] at hk
    obtain ⟨n, e, fr1, h1, hx, hq⟩ := (hr s o fr h hi hst).ex
    cases e with
    | normal =>
     obtain ⟨s', rfl, hI⟩ := hq
     obtain ⟨m, e2, fr2, h2, hx2, hq2⟩ := (ih s' fr1 h1 hI hk).ex
     refine ⟨⟨max n m + 1, e2, fr2, h2, ?_, hq2⟩⟩
     have e1 := execA_mono (selfN_le C (Nat.le_trans (Nat.le_max_left n m) (Nat.le_succ _))) hx
     have e2' := execA_mono (selfN_le C (Nat.le_max_right n m)) hx2
     rw [execA, e1]
     exact e2'
    | exit i =>
     obtain ⟨r', rfl, hQ⟩ := hq
     injection hk with hk
     exact ⟨⟨n, _, _, _, by simp only [execA, hx], hQ hk⟩⟩
    | ret =>
     obtain ⟨r', rfl, hQ⟩ := hq
     injection hk with hk
     exact ⟨⟨n, _, _, _, by simp only [execA, hx], hQ hk⟩⟩
 exact key k s fr h h0 hk
def bodyC (P : Program) (f : FuncId) : Code :=
 match P.funcs[f]? with
 | some fn => (match fn.body with | some c => c | none => .skip)
 | none => .skip
def hasBody (P : Program) (f : FuncId) : Option (Nat × List ResultVar) :=
 match P.funcs[f]? with
 | some fn => (match fn.body with | some _ => some (fn.ntmps, fn.results.toList) | none => none)
 | none => none
def resL (P : Program) (rs : List ResultVar) (fr : Fr) (h : AHeap) : Option AVal :=
 match rs.mapM (result1 P fr h) with
 | some [v] => some v
 | some vs => some (.tuple vs)
 | none => none
structure doneQ (P : Program) (rs : List ResultVar) (v : AVal) (h' : AHeap) (e : AExit) (fr : Fr) (h : AHeap) : Prop where
 no : e = .ret ∨ e = .normal
 res : resL P rs fr h = some v
 heap : h = h'
theorem body_of {args : List AVal} {v : AVal} {h' : AHeap} {n : Nat} {rs : List ResultVar} (hf : hasBody C.P f = some (n, rs))
  (hh : AW C f g (bodyC C.P f) (args ++ List.replicate (n - args.length) (.tuple [])) h (doneQ C.P rs v h')) : Bodies C g h f args v h' := by
 obtain ⟨m, e, fr', h2, hx, hq⟩ := (hh).ex
 unfold hasBody at hf
 unfold bodyC at hx
 refine ⟨m, ?_⟩
 unfold bodyA
 split at hf
 ·rename_i fn hfn
  split at hf
  ·rename_i c hc
   simp only [Option.some.injEq, Prod.mk.injEq] at hf
   obtain ⟨rfl, rfl⟩ := hf
   simp only [hfn, hc] at hx ⊢
   cases e with
   | normal => obtain ⟨_, h3, rfl⟩ := hq; rw [hx]; simp only; rw [show resultsA C.P fn fr' h2 = some v from h3]; rfl
   | ret => obtain ⟨_, h3, rfl⟩ := hq; rw [hx]; simp only; rw [show resultsA C.P fn fr' h2 = some v from h3]; rfl
   | exit i => rcases hq.no with h | h <;> cases h
  ·cases hf
 ·cases hf
theorem start {args : List AVal} {n : Nat} (ins : List (Nat × AVal)) (hl : (args ++ List.replicate (n - args.length) (AVal.tuple [])).length = n) (hi : ins.map (fun p => nth (args ++ List.replicate (n - args.length) (AVal.tuple [])) p.1) = ins.map (·.2))
  (hh : ∀ fr, Has fr n ins → AW C f g c fr h Q) : AW C f g c (args ++ List.replicate (n - args.length) (.tuple [])) h Q := hh _ (Has.of_map hl hi)
theorem runs1 {args args' : List AVal} {v : AVal} {h' : AHeap} (hk : C.kind f = 1) (hc : canL (C.still f) args = args') (hb : Bodies C g h f args' v h') : Runs C g h f args v h' := by
 obtain ⟨n, hn⟩ := hb
 refine ⟨n + 1, ?_⟩
 show callA C (selfN C n) g h f args = _
 unfold callA
 rw [hk]
 simp only [hc]
 exact hn
theorem runs7 {args args' : List AVal} {u v : AVal} {h1 h' : AHeap} (hk : C.kind f = 7) (hc : canL (C.still f) args = args') (hb : Bodies C g h f args' u h1) (hf : frz3 g h1 u = some (v, h')) : Runs C g h f args v h' := by
 obtain ⟨n, hn⟩ := hb
 refine ⟨n + 1, ?_⟩
 show callA C (selfN C n) g h f args = _
 unfold callA
 rw [hk]
 simp only [hc, hn]
 exact hf
theorem closed {args : List AVal} {v : AVal} (n : Nat) (hb : (bodyA C (selfN C n) g h f args).map (·.1) = some v) : ∃ h', Bodies C g h f args v h' := by
 cases hx : bodyA C (selfN C n) g h f args with
 | none => rw [hx] at hb; cases hb
 | some x =>
  rw [hx] at hb
  simp only [Option.map_some, Option.some.injEq] at hb
  exact ⟨x.2, n, by rw [hx, ← hb]⟩
end
def lookN : List Nat → Nat → Nat
 | [], _ => 0
 | a :: _, 0 => a
 | _ :: l, i + 1 => lookN l i
def lookPlan : List ((Nat × Nat) × List (Nat × List Nat)) → Nat → Nat → List (Nat × List Nat)
 | [], _, _ => []
 | ((a, b), p) :: l, f, id => bif Nat.beq a f && Nat.beq b id then p else lookPlan l f id
def okAll (C : Cfg) : Nat → Bool
 | 0 => true
 | n + 1 => okAll C n && (bif Nat.beq (C.kind n) 0 || Nat.beq (C.kind n) 3 then true else
   match C.P.funcs[n]? with
   | some fn => !(fn.name == "runtime.NumGoroutine") && (match fn.body with | some c => codeOk C n c | none => true)
   | none => true)
theorem lookN_ge : ∀ {l : List Nat} {i : Nat}, l.length ≤ i → lookN l i = 0
 | [], _, _ => rfl
 | _ :: l, 0, h => by simp at h
 | _ :: l, i + 1, h => lookN_ge (l := l) (by simpa using h)
theorem okAll_at {C : Cfg} : ∀ {n : Nat}, okAll C n = true → ∀ {f : Nat}, f < n → C.kind f ≠ 0 → C.kind f ≠ 3 → ∀ {fn : Func} {c : Code}, C.P.funcs[f]? = some fn → fn.body = some c → (fn.name == "runtime.NumGoroutine") = false ∧ codeOk C f c = true
 | 0, _, f, hf, _, _, _, _, _, _ => by omega
 | n + 1, h, f, hf, hk, hk3, fn, c, h1, h2 => by
  simp only [okAll, Bool.and_eq_true] at h
  by_cases e : f = n
  ·subst e
   have h3 := h.2
   have : Nat.beq (C.kind f) 0 = false := by
    cases hb : Nat.beq (C.kind f) 0 with
    | false => rfl
    | true => exact absurd (Nat.eq_of_beq_eq_true hb) hk
   have this3 : Nat.beq (C.kind f) 3 = false := by
    cases hb : Nat.beq (C.kind f) 3 with
    | false => rfl
    | true => exact absurd (Nat.eq_of_beq_eq_true hb) hk3
   rw [this, this3] at h3
   simp only [Bool.or_false, cond_false, h1, h2, Bool.and_eq_true, Bool.not_eq_true'] at h3
   exact h3
  ·exact okAll_at h.1 (by omega) hk hk3 h1 h2
def cfg0 (P : Program) (plan : Nat → Nat → List (Nat × List Nat)) : Cfg := ⟨P, fun _ => 0, plan, fun _ _ _ _ => none, fun _ => none, fun _ _ _ => false, fun _ => []⟩
def rokOf (P : Program) (plan : Nat → Nat → List (Nat × List Nat)) (f : FuncId) (a b : Code) : Bool := codeOk (cfg0 P plan) f a && codeOk (cfg0 P plan) f b && (noRF a && noRF b)
theorem codeOk_same {C C' : Cfg} (h1 : C.P = C'.P) (h2 : C.plan = C'.plan) (f : FuncId) : ∀ c, codeOk C f c = codeOk C' f c := by
 intro c
 induction c <;> simp_all [codeOk]
end Go.Av
