/-
  AV: closed runs of bodies that go through maps: whatever order is drawn, each round leaves what is kept as it was, or the function is left with one answer.
-/
import Derived.Test.YtdpebdaplhfbjaaGreatDoorAvLib
import Derived.Maps.RangeRun
namespace Go.Av
open Go.RowKit Go.ChangeMaps
set_option linter.unusedVariables false
set_option linter.unusedSimpArgs false
def rigid : AVal → AVal → Bool
 | .ptr (some a), .ptr (some b) => Nat.beq a.1 b.1 && Nat.beq a.2 b.2
 | a, b => flatEq a b
theorem rigid_back {a b : AVal} (h : rigid a b = true) {m m' : Inj} (hm : ∀ id E, m.i id = some E → m'.i id = some E) {x y : Value} (h1 : VR m a x) (h2 : VR m' b y) : VR m a y := by
 unfold rigid at h
 split at h
 ·rename_i p q
  simp only [Bool.and_eq_true] at h
  obtain ⟨p1, p2⟩ := p
  obtain ⟨q1, q2⟩ := q
  obtain ⟨e1, e2⟩ := h
  have e1' : p1 = q1 := Nat.eq_of_beq_eq_true e1
  have e2' : p2 = q2 := Nat.eq_of_beq_eq_true e2
  clear e1 e2
  subst e1'
  subst e2'
  cases h1 with
  | ptr _ _ E hE =>
   cases h2 with
   | ptr _ _ E' hE' =>
    have := (hm _ _ hE).symm.trans hE'
    cases this
    exact .ptr _ _ _ hE
 ·obtain ⟨rfl, hf⟩ := flatEq_eq h
  exact h2.flat1 hf
theorem rigid_eqv {a b : AVal} (h : rigid a b = true) : a = b := by
 unfold rigid at h
 split at h
 ·simp only [Bool.and_eq_true] at h
  exact congrArg (fun p => AVal.ptr (some p)) (Prod.ext (Nat.eq_of_beq_eq_true h.1) (Nat.eq_of_beq_eq_true h.2))
 ·exact (flatEq_eq h).1
def isUnd : AVal → Bool
 | .undef => true
 | _ => false
theorem isUnd_eq {a : AVal} (h : isUnd a = true) : a = .undef := by unfold isUnd at h; split at h <;> first | rfl | cases h
def keepsL (eq : AVal → AVal → Bool) : Fr → Fr → Bool
 | [], [] => true
 | a :: l, b :: r => (isUnd a || eq a b) && keepsL eq l r
 | _, _ => false
theorem keepsL_at {eq : AVal → AVal → Bool} : ∀ {l r : Fr}, keepsL eq l r = true → l.length = r.length ∧ ∀ t, nth l t = .undef ∨ eq (nth l t) (nth r t) = true ∨ (nth l t = .tuple [] ∧ nth r t = .tuple [])
 | [], [], _ => ⟨rfl, fun t => .inr (.inr ⟨rfl, rfl⟩)⟩
 | a :: l, b :: r, h => by
  simp only [keepsL, Bool.and_eq_true, Bool.or_eq_true] at h
  obtain ⟨e, k⟩ := keepsL_at h.2
  refine ⟨by simp [e], fun t => ?_⟩
  cases t with
  | zero => exact h.1.imp isUnd_eq .inl
  | succ t => exact k t
 | [], _ :: _, h => by cases h
 | _ :: _, [], h => by cases h
def meetL (eq : AVal → AVal → Bool) : Fr → Fr → Fr
 | a :: l, b :: r => (bif eq a b then a else .undef) :: meetL eq l r
 | _, _ => []
def plainL (fr : Fr) : Fr := fr.map fun a => bif flatEq a a then a else .undef
structure MlP where
 o8 : Array Oper
 b : Nat
 o9 : Array Oper
 tb : Tmp
 b2 : Nat
 o10 : Array Oper
 body : Code
def mlOf : Code → Option MlP
 | .seq (.region _ o8 false) (.block b (.loop (.seq (.region _ o9 false) (.seq (.cond (.tmp tb) .skip (.exit b')) (.block b2 (.seq (.region _ o10 false) body)))))) => bif Nat.beq b b' && !Nat.beq b b2 then some ⟨o8, b, o9, tb, b2, o10, body⟩ else none
 | _ => none
theorem mlOf_eq {c : Code} {q : MlP} (h : mlOf c = some q) : q.b ≠ q.b2 ∧ ∃ i8 i9 i10, c = .seq (.region i8 q.o8 false) (.block q.b (.loop (.seq (.region i9 q.o9 false) (.seq (.cond (.tmp q.tb) .skip (.exit q.b)) (.block q.b2 (.seq (.region i10 q.o10 false) q.body)))))) := by
 unfold mlOf at h
 split at h
 ·rename_i i8 o8 b i9 o9 tb b' b2 i10 o10 body
  cases hb : (Nat.beq b b' && !Nat.beq b b2) with
  | false => rw [hb] at h; cases h
  | true =>
   rw [hb] at h
   cases h
   simp only [Bool.and_eq_true, Bool.not_eq_true'] at hb
   obtain ⟨e1, e2⟩ := hb
   have e1' := Nat.eq_of_beq_eq_true e1
   subst e1'
   refine ⟨fun e => ?_, i8, i9, i10, rfl⟩
   have e' : b = b2 := e
   rw [e', Nat.beq_refl] at e2
   cases e2
 ·cases h
def nxOf (o9 : Array Oper) (tI tb : Tmp) : Option Tmp :=
 match o9.toList with
 | [n, x] =>
  match n.op, n.dst, n.guard, x.op, x.dst, x.guard with
  | .next (.tmp t) false, some tn, none, .extract (.tmp tn') 0, some tb', none => bif Nat.beq t tI && Nat.beq tn tn' && Nat.beq tb tb' && !Nat.beq tn tI && !Nat.beq tb tI then some tn else none
  | _, _, _, _, _, _ => none
 | _ => none
def enOf (o10 : Array Oper) (tI : Tmp) : Option (Tmp × List Oper) :=
 match o10.toList with
 | n :: rest =>
  match n.op, n.dst, n.guard with
  | .entry (.tmp t), some te, none => bif Nat.beq t tI && !Nat.beq te tI then some (te, rest) else none
  | _, _, _ => none
 | _ => none
section
variable (C : Cfg) (S : Self)
def isRetA : Option (AExit × Fr × AHeap) → Bool
 | some (.ret, _, _) => true
 | _ => false
def okRnd (b2 : Nat) (S1 : Fr) (R : Option Fr) : Option (AExit × Fr × AHeap) → Bool
 | some (.normal, fr, _) => keepsL rigid S1 fr
 | some (.exit i, fr, _) => Nat.beq i b2 && keepsL rigid S1 fr
 | some (.ret, fr, _) => match R with | some R => keepsL flatEq R fr | none => false
 | none => false
def rndOf (E : Fr → AHeap → Option (AExit × Fr × AHeap)) (o10 : Array Oper) (te : Tmp) (rest : List Oper) (n : Nat) (fr : Fr) (p : AVal × AVal) : Option (AExit × Fr × AHeap) :=
 match runOps C S ⟨0, []⟩ o10 rest (fr.set te (.tuple [p.1, p.2])) ⟨n, .leaf⟩ with
 | some (fr2, h2) => E fr2 h2
 | none => none
def foldS (S0 : Fr) : List (Option (AExit × Fr × AHeap)) → Fr
 | [] => S0
 | some (.ret, _, _) :: l => foldS S0 l
 | some (_, fr, _) :: l => foldS (meetL rigid S0 fr) l
 | none :: l => foldS S0 l
def foldR : Option Fr → List (Option (AExit × Fr × AHeap)) → Option Fr
 | R, [] => R
 | none, some (.ret, fr, _) :: l => foldR (some (plainL fr)) l
 | some R, some (.ret, fr, _) :: l => foldR (some (meetL flatEq R fr)) l
 | R, _ :: l => foldR R l
def runML (E : Fr → AHeap → Option (AExit × Fr × AHeap)) (q : MlP) (g : Gd) (fr : Fr) (h : AHeap) : Option (AExit × Fr × AHeap) :=
 match q.o8.toList.getLast?, runOps C S g q.o8 q.o8.toList.dropLast fr h with
 | some orng, some (fr1, h1) =>
  match orng.op, orng.dst, orng.guard with
  | .range tM x, some tI, none =>
   match ev fr1 x, C.P.underlying tM, nxOf q.o9 tI q.tb, enOf q.o10 tI with
   | .map (some id), some (.map _ _), some tn, some (te, rest) =>
    match h1.get id with
    | some (.map st es) =>
     let S0 := ((fr1.set tI (.ptr (some (h1.size, 0)))).set tn .undef).set q.tb .undef
     let S1 := foldS S0 (es.map (rndOf C S E q.o10 te rest (h1.size + 1) S0))
     let rs := es.map (rndOf C S E q.o10 te rest (h1.size + 1) S1)
     let R := foldR none rs
     let hh := h1.push (.cells none 0 [])
     bif st != 0 && rs.all (okRnd q.b2 S1 R) && keepsL rigid S1 S0 && (isUnd (nth S1 tn) && isUnd (nth S1 q.tb) && (Nat.blt tn fr1.length && Nat.blt q.tb fr1.length) && rigid (nth S1 tI) (.ptr (some (h1.size, 0)))) then
      match R with
      | none => bif rs.any isRetA then none else some (.normal, S1, hh)
      | some R => bif rs.any isRetA then some (.ret, R, hh) else none
     else none
    | _ => none
   | _, _, _, _ => none
  | _, _, _ => none
 | _, _ => none
def stepN (g : Gd) (rec : Code → Fr → AHeap → Option (AExit × Fr × AHeap)) (c : Code) (fr : Fr) (h : AHeap) : Option (AExit × Fr × AHeap) :=
 match c with
 | .skip => some (.normal, fr, h)
 | .ret => some (.ret, fr, h)
 | .exit id => some (.exit id, fr, h)
 | .region _ ops draw => bif draw then none else (runOps C S g ops ops.toList fr h).map fun r => (.normal, r.1, r.2)
 | .seq x y => match rec x fr h with | some (.normal, fr1, h1) => rec y fr1 h1 | r => r
 | .cond t x y => match ev fr t with | .bool true => rec x fr h | .bool false => rec y fr h | _ => none
 | .block id x => match rec x fr h with | some (.exit i, fr1, h1) => bif Nat.beq i id then some (.normal, fr1, h1) else some (.exit i, fr1, h1) | r => r
 | .loop x => match rec x fr h with | some (.normal, fr1, h1) => rec (.loop x) fr1 h1 | r => r
 | _ => none
def execN (g : Gd) : Nat → Code → Fr → AHeap → Option (AExit × Fr × AHeap)
 | 0 => fun _ _ _ => none
 | n + 1 => fun c fr h => match mlOf c with
  | some q => runML C S (execN g n q.body) q g fr h
  | none => stepN C S g (execN g n) c fr h
end
section
variable {C : Cfg} {S : Self} {w0 : World} {m : Inj} {h : AHeap} {w : World}
theorem runOps_tail (hS : SubOk C.P C.glob S) (hz : GlobOk C.glob w0) {g : Gd} {ops : Array Oper} {Q : Exit → Act → World → Prop} {l2 : List Oper} : ∀ (l : List Oper) {m : Inj} {h : AHeap} {w : World} {fr fr' : Fr} {h' : AHeap} {a : Act},
  Rel C.P w0 m h w → FR m fr a → runOps C S g ops l fr h = some (fr', h') →
  ∀ rd : Option Nat, (∀ m' a' w', (m.ext h.size m') → Rel C.P w0 m' h' w' → FR m' fr' a' → a'.defers = a.defers → wpListIn (FW rd) 0 C.P ops Q l2 a' w') → wpListIn (FW rd) 0 C.P ops Q (l ++ l2) a w
 | [], m, h, w, fr, fr', h', a, r, hf, hr, rd, hQ => by
  simp only [runOps, Option.some.injEq, Prod.mk.injEq] at hr
  obtain ⟨rfl, rfl⟩ := hr
  exact hQ m a w (Inj.ext.refl _ _) r hf rfl
 | o :: rest, m, h, w, fr, fr', h', a, r, hf, hr, rd, hQ => by
  unfold runOps at hr
  split at hr
  ·rename_i hw
   split at hr
   ·rename_i v h1 hs
    have hk := stepA_keeps hS hs
    have hwant := wantedA_sound hf hw
    rw [List.cons_append]
    unfold wpListIn
    rw [if_pos hwant]
    refine stepA_sound hS hz r hf hs (fun m1 v1 w1 e1 e2 e3 => ?_) rd
    refine runOps_tail hS hz rest e2 (FR.put (hf.mono (r.le_of e1)) o.dst e3) hr rd (fun m' a' w' g1 g2 g3 g4 => hQ m' a' w' (e1.trans g1 hk.1) g2 g3 ?_)
    rw [g4, defers_put]
   ·cases hr
  ·rename_i hw
   have hwant := wantedA_sound hf hw
   rw [List.cons_append]
   unfold wpListIn
   rw [if_neg (by rw [hwant]; simp)]
   exact ⟨fun _ _ => trivial, runOps_tail hS hz rest r (FR.put hf o.dst (VR.undef_ m)) hr rd (fun m' a' w' g1 g2 g3 g4 => hQ m' a' w' g1 g2 g3 (by rw [g4, defers_put]))⟩
  ·cases hr
theorem op_run {P : Program} {o : Oper} {a : Act} {w w' : World} {v : Value} {K : Act → World → Prop} {Q : Exit → Act → World → Prop} (hop : ∀ c, o.op ≠ .defer c) (h1 : (execOp a.eval o).run P w = .ok (.value v) w') (rd : Option Nat) (hK : K (a.put o.dst v) w') : o.wpIn (FW rd) 0 P a w K Q := by
 refine ⟨fun _ _ => trivial, ?_⟩
 rw [Oper.semAt_eq _ _ _ hop, h1]
 exact hK
theorem Rel.iter {P : Program} (r : Rel P w0 m h w) {w2 : World} {it : Nat} (ht : Turn w w2 it) (hit : w0.heap.size ≤ it) (hl : ∀ id F o, m.i id = some F → h.get id = some o → o.live = true → F.g ≠ it) (hf : ∀ g o v, m.fz g o = some v → g ≠ it) (hd : ∀ g, m.df g → g ≠ it) : Rel P w0 m h w2 := by
 refine ⟨ht.below r.below r.size hit, r.dom, fun id F o hF ho => (r.obj id F o hF ho).mono (Inj.le_refl m) fun hlv => ht.block _ ((r.obj id F o hF ho).lt hlv) (hl id F o hF ho hlv), r.own, r.sep, fun g o v hv => ?_, r.fown, fun g hg => ⟨(r.df g hg).1, ?_⟩, r.dfo⟩
 ·obtain ⟨cur, e, z, h1, h2⟩ := r.fz g o v hv
  exact ⟨cur, e, z, by rw [ht.block g (r.fz_lt hv) (hf g o v hv)]; exact h1, h2⟩
 ·rw [ht.block g (r.df_lt hg) (hd g hg)]; exact (r.df g hg).2
def Inj.bare (m : Inj) : Inj := ⟨m.i, m.fz, fun _ => False⟩
theorem Inj.le_bare (m : Inj) : m.le m.bare := ⟨fun _ _ h => h, fun _ _ _ h => h⟩
theorem blank_get (n i : Nat) : (⟨n, .leaf⟩ : AHeap).get i = none := by
 unfold AHeap.get
 cases Nat.blt i n <;> rfl
theorem Rel.blank {P : Program} (r : Rel P w0 m h w) : Rel P w m.bare ⟨h.size, .leaf⟩ w :=
 ⟨Below.refl _ _, r.dom, fun id E o _ ho => (by rw [blank_get] at ho; cases ho), fun id E o _ ho => (by rw [blank_get] at ho; cases ho), fun id id' E E' o o' _ _ _ ho => (by rw [blank_get] at ho; cases ho), r.fz, fun id E o _ ho => (by rw [blank_get] at ho; cases ho), fun g hg => hg.elim, fun id E o _ ho => (by rw [blank_get] at ho; cases ho)⟩
theorem nxOf_eq {o9 : Array Oper} {tI tb tn : Tmp} (hh : nxOf o9 tI tb = some tn) : ∃ n x, o9.toList = [n, x] ∧ n.op = .next (.tmp tI) false ∧ n.dst = some tn ∧ n.guard = none ∧ x.op = .extract (.tmp tn) 0 ∧ x.dst = some tb ∧ x.guard = none ∧ tn ≠ tI ∧ tb ≠ tI := by
 unfold nxOf at hh
 split at hh
 ·rename_i n x hl
  split at hh
  ·rename_i t tn1 tn2 tb2 e1 e2 e3 e4 e5 e6
   cases hb : (Nat.beq t tI && Nat.beq tn1 tn2 && Nat.beq tb tb2 && !Nat.beq tn1 tI && !Nat.beq tb tI) with
   | false => rw [hb] at hh; cases hh
   | true =>
    rw [hb] at hh
    cases hh
    simp only [Bool.and_eq_true, Bool.not_eq_true'] at hb
    obtain ⟨⟨⟨⟨h1, h2⟩, h3⟩, h4⟩, h5⟩ := hb
    have h1 := Nat.eq_of_beq_eq_true h1
    have h2 := Nat.eq_of_beq_eq_true h2
    have h3 := Nat.eq_of_beq_eq_true h3
    refine ⟨n, x, hl, by rw [e1, h1], e2, e3, by rw [e4, h2], by rw [e5, h3], e6, fun e => ?_, fun e => ?_⟩
    ·rw [e, Nat.beq_refl] at h4; cases h4
    ·rw [e, Nat.beq_refl] at h5; cases h5
  ·cases hh
 ·cases hh
theorem enOf_eq {o10 : Array Oper} {tI te : Tmp} {rest : List Oper} (hh : enOf o10 tI = some (te, rest)) : ∃ n, o10.toList = n :: rest ∧ n.op = .entry (.tmp tI) ∧ n.dst = some te ∧ n.guard = none := by
 unfold enOf at hh
 split at hh
 ·rename_i n rest' hl
  split at hh
  ·rename_i t te' e1 e2 e3
   cases hb : (Nat.beq t tI && !Nat.beq te' tI) with
   | false => rw [hb] at hh; cases hh
   | true =>
    rw [hb] at hh
    cases hh
    simp only [Bool.and_eq_true] at hb
    exact ⟨n, hl, by rw [e1, Nat.eq_of_beq_eq_true hb.1], e2, e3⟩
  ·cases hh
 ·cases hh
theorem FR.put_und {fr : Fr} {a : Act} (hf : FR m fr a) {t : Tmp} (hu : nth fr t = .undef) (v : Value) : FR m fr (a.put (some t) v) := by
 refine ⟨by rw [hf.1]; exact (size_put a (some t) v).symm, fun i => ?_⟩
 by_cases e : i = t
 ·subst e; rw [hu]; exact .undef _
 ·have : (a.put (some t) v).tmps.getD i undef = a.tmps.getD i undef := by
   simp [Act.put, Array.getD_eq_getD_getElem?, Array.getElem?_setIfInBounds_ne (Ne.symm e)]
  rw [this]
  exact hf.2 i
theorem FR.keeps {m' : Inj} {S1 fr3 : Fr} {a a3 : Act} (hf : FR m S1 a) (hk : keepsL rigid S1 fr3 = true) (hm : ∀ id E, m.i id = some E → m'.i id = some E) (h3 : FR m' fr3 a3) : FR m S1 a3 := by
 obtain ⟨e, k⟩ := keepsL_at hk
 refine ⟨by rw [e]; exact h3.1, fun t => ?_⟩
 rcases k t with hu | hr | ⟨h1, h2⟩
 ·rw [hu]; exact .undef _
 ·exact rigid_back hr hm (hf.2 t) (h3.2 t)
 ·have := h3.2 t
  rw [h2] at this
  rw [h1]
  obtain ⟨c, hc, hv⟩ := this.inv_tuple
  have : c = #[] := by
   have := hv.1
   simp only [List.length_nil] at this
   exact Array.eq_empty_of_size_eq_zero (by simpa using this.symm)
  rw [hc, this]
  exact VRs.tuple (VRs.nil m)
theorem FR.keepsF {m' : Inj} {R fr3 : Fr} {a3 : Act} (hk : keepsL flatEq R fr3 = true) (h3 : FR m' fr3 a3) : FR m R a3 := by
 obtain ⟨e, k⟩ := keepsL_at hk
 refine ⟨by rw [e]; exact h3.1, fun t => ?_⟩
 rcases k t with hu | hr | ⟨h1, h2⟩
 ·rw [hu]; exact .undef _
 ·obtain ⟨h1, h2⟩ := flatEq_eq hr
  have := h3.2 t
  rw [← h1] at this
  exact this.flat1 h2
 ·have := h3.2 t
  rw [h2] at this
  rw [h1]
  obtain ⟨c, hc, hv⟩ := this.inv_tuple
  have : c = #[] := by
   have := hv.1
   simp only [List.length_nil] at this
   exact Array.eq_empty_of_size_eq_zero (by simpa using this.symm)
  rw [hc, this]
  exact VRs.tuple (VRs.nil m)
theorem last_split {α : Type} : ∀ {l : List α} {x : α}, l.getLast? = some x → l = l.dropLast ++ [x]
 | [], x, h => by cases h
 | [a], x, h => by cases h; rfl
 | a :: b :: l, x, h => by
  have h' : (b :: l).getLast? = some x := by rw [List.getLast?_cons_cons] at h; exact h
  have := last_split h'
  rw [List.dropLast_cons_cons, List.cons_append, ← this]
theorem VR.inv_pt {m : Inj} {id o : Nat} {v : Value} (h : VR m (.ptr (some (id, o))) v) : ∃ E, m.i id = some E ∧ v = .pointer (some ⟨E.g, E.base + o, none⟩) := by
 cases h with
 | ptr _ _ E hE => exact ⟨E, hE, rfl⟩
theorem eval_put_same {a : Act} {t : Tmp} {v : Value} (ht : t < a.tmps.size) : (a.put (some t) v).eval (.tmp t) = v := by
 show (a.tmps.setIfInBounds t v).getD t undef = v
 simp [Array.getD_eq_getD_getElem?, ht]
theorem born_ix {ents : Array MapEntry} (hn : (ents.toList.map (·.born)).Nodup) {i j : Nat} {x y : MapEntry} (hx : ents[i]? = some x) (hy : ents[j]? = some y) (e : x.born = y.born) : i = j := by
 obtain ⟨hi, ei⟩ := Array.getElem?_eq_some_iff.1 hx
 obtain ⟨hj, ej⟩ := Array.getElem?_eq_some_iff.1 hy
 rw [List.Nodup, List.pairwise_iff_getElem] at hn
 have key : ∀ i j (hi : i < ents.size) (hj : j < ents.size), i < j → ents[i].born ≠ ents[j].born := fun i j hi hj hlt => by
  have := hn i j (by simpa using hi) (by simpa using hj) hlt
  simpa using this
 rcases Nat.lt_trichotomy i j with h | h | h
 ·exact absurd (by rw [ei, ej]; exact e) (key i j hi hj h)
 ·exact h
 ·exact absurd (by rw [ei, ej]; exact e.symm) (key j i hj hi h)
theorem runML_sound (hS : SubOk C.P C.glob S) {E : Fr → AHeap → Option (AExit × Fr × AHeap)} {q : MlP} {g : Gd}
  (hE : ∀ {fr : Fr} {h : AHeap} {e : AExit} {fr' : Fr} {h' : AHeap}, E fr h = some (e, fr', h') → h.size ≤ h'.size ∧ ∀ {w0 : World} {m : Inj} {w : World} {a : Act} {Q : Exit → Act → World → Prop}, GlobOk C.glob w0 → Rel C.P w0 m h w → FR m fr a →
   (∀ m' a' w', m.ext h.size m' → Rel C.P w0 m' h' w' → FR m' fr' a' → a'.defers = a.defers → Q e.to a' w') → q.body.wpIn (FW none) 0 C.P Q a w)
  {c : Code} (hc : mlOf c = some q) {fr : Fr} {e : AExit} {fr' : Fr} {h' : AHeap} (hx : runML C S E q g fr h = some (e, fr', h')) :
  h.size ≤ h'.size ∧ ∀ {w0 : World} {m : Inj} {w : World} {a : Act} {Q : Exit → Act → World → Prop}, GlobOk C.glob w0 → Rel C.P w0 m h w → FR m fr a →
   (∀ m' a' w', m.ext h.size m' → Rel C.P w0 m' h' w' → FR m' fr' a' → a'.defers = a.defers → Q e.to a' w') → c.wpIn (FW none) 0 C.P Q a w := by
 obtain ⟨hbb, i8, i9, i10, rfl⟩ := mlOf_eq hc
 unfold runML at hx
 split at hx
 rotate_left
 ·cases hx
 rename_i orng fr1 h1 hlast hpre
 split at hx
 rotate_left
 ·cases hx
 rename_i tM x tI hop hdst hgu
 split at hx
 rotate_left
 ·cases hx
 rename_i id kt et tn te rest hev hund hnx hen
 split at hx
 rotate_left
 ·cases hx
 rename_i st es hget
 extract_lets S0 S1 rs R hh at hx
 clear_value R
 have hrs : rs = es.map (rndOf C S E q.o10 te rest (h1.size + 1) S1) := rfl
 clear_value rs S1
 cases hcond : (st != 0 && rs.all (okRnd q.b2 S1 R) && keepsL rigid S1 S0 && (isUnd (nth S1 tn) && isUnd (nth S1 q.tb) && (Nat.blt tn fr1.length && Nat.blt q.tb fr1.length) && rigid (nth S1 tI) (.ptr (some (h1.size, 0))))) with
 | false => rw [hcond] at hx; cases hx
 | true =>
  rw [hcond] at hx
  simp only [cond_true] at hx
  simp only [Bool.and_eq_true, bne_iff_ne, ne_eq, Nat.blt_eq] at hcond
  obtain ⟨⟨⟨hst, hall⟩, hS1⟩, ⟨⟨hutn, hutb⟩, htn, htb⟩, hrtI⟩ := hcond
  have hutn := isUnd_eq hutn
  have hutb := isUnd_eq hutb
  obtain ⟨hh', hout⟩ : h' = hh ∧ ((e = .normal ∧ fr' = S1 ∧ rs.any isRetA = false) ∨ (∃ R0, R = some R0 ∧ e = .ret ∧ fr' = R0 ∧ rs.any isRetA = true)) := by
   cases hret : rs.any isRetA with
   | false =>
    rw [hret] at hx
    cases R with
    | none => simp only [cond_false, Option.some.injEq, Prod.mk.injEq] at hx; exact ⟨hx.2.2.symm, .inl ⟨hx.1.symm, hx.2.1.symm, rfl⟩⟩
    | some R0 => cases hx
   | true =>
    rw [hret] at hx
    cases R with
    | none => cases hx
    | some R0 => simp only [cond_true, Option.some.injEq, Prod.mk.injEq] at hx; exact ⟨hx.2.2.symm, .inr ⟨R0, rfl, hx.1.symm, hx.2.1.symm, rfl⟩⟩
  have hksz := (runOps_keeps hS _ hpre).1.1
  have hsz : h.size ≤ h'.size := by rw [hh']; show h.size ≤ (h1.push _).size; simp; omega
  refine ⟨hsz, fun {w0 m w a Q} hz r hf hQ => ?_⟩
  obtain ⟨nx, ex, hl9, nop, ndst, ngu, xop, xdst, xgu, hne1, hne2⟩ := nxOf_eq hnx
  obtain ⟨en, hl10, eop, edst, egu⟩ := enOf_eq hen
  have hl8 : q.o8.toList = q.o8.toList.dropLast ++ [orng] := last_split hlast
  refine wpIn_seq (wpIn_region_list ?_)
  rw [hl8]
  refine runOps_tail hS hz _ r hf hpre none (fun m1 a1 w1 g1 g2 g3 g4 => ?_)
  have hvx := g3.ev x
  rw [hev] at hvx
  generalize hqx : a1.eval x = vx at hvx
  cases hvx with
  | map _ E1 hE1 =>
   obtain ⟨_, hmo⟩ := g2.obj id E1 _ hE1 hget
   obtain ⟨es', has, ents, clock, p1, p2, p3, p4⟩ := hmo hst
   have hrng := run_range_map (P := C.P) w1 tM kt et E1.g ents clock hund p1
   refine wpListIn_plain hgu fun K hK => op_run (v := .pointer (some ⟨w1.heap.size, 0, none⟩)) (w' := w1.alloc (.mapIter (some E1.g) clock #[] clock)) (by rw [hop]; intro c hc; cases hc) (by
    unfold execOp
    rw [hop]
    simp only [hqx, Sem.run_bind, hrng, Result.andThen_ok, Sem.run_pure]) none (hK _ _ ?_)
   obtain ⟨it, hit⟩ : ∃ it, it = w1.heap.size := ⟨_, rfl⟩
   obtain ⟨m2, hm2⟩ : ∃ m2, m2 = m1.upd h1.size ⟨it, 0, eszOf C.P none, 0⟩ := ⟨_, rfl⟩
   have hEg : E1.g < it := by rw [hit]; exact (Array.getElem?_eq_some_iff.1 p1).1
   have hle12 : m1.le m2 := by rw [hm2]; exact Inj.le_upd _ (g2.fresh (Nat.le_refl _))
   have r2 : Rel C.P w0 m2 hh (w1.alloc (.mapIter (some E1.g) clock #[] clock)) := by
    rw [hm2]
    exact g2.new (Turn.alloc _ _ _) hit ⟨⟨⟨rfl, fun _ => Fzn.nil⟩, fun _ h => by cases h⟩, fun h => absurd rfl h⟩
   have m2i : m2.i h1.size = some ⟨it, 0, eszOf C.P none, 0⟩ := by rw [hm2]; exact Inj.upd_same _ _ _
   have hgetN : hh.get h1.size = some (.cells none 0 []) := h1.get_push_new _
   have hlive : ∀ id F o, m2.i id = some F → hh.get id = some o → o.live = true → F.g ≠ it := by
    intro id F o hF ho hl
    by_cases e' : id = h1.size
    ·subst e'
     rw [hgetN] at ho
     cases ho
     cases hl
    ·have hF' : m1.i id = some F := by rw [hm2, Inj.upd_ne _ _ e'] at hF; exact hF
     have ho' : h1.get id = some o := by rw [← ho]; exact (h1.get_push_old _ (g2.dom _ _ hF')).symm
     have := (g2.obj id F o hF' ho').lt hl
     omega
   have hfzit : ∀ g o v, m2.fz g o = some v → g ≠ it := by
    intro g o v hv
    have hv' : m1.fz g o = some v := by rw [hm2] at hv; exact hv
    have := g2.fz_lt hv'
    omega
   have hdfit : ∀ g, m2.df g → g ≠ it := by
    intro g hg
    have hg' : m1.df g := by rw [hm2] at hg; exact hg
    have := g2.df_lt hg'
    omega
   have hitB : w0.heap.size ≤ it := by rw [hit]; exact g2.size
   have hext2 : m.ext h.size m2 := by rw [hm2]; exact g1.trans (Inj.ext_upd _ _ (Nat.le_refl _)) hksz
   have hS1len : S1.length = S0.length := (keepsL_at hS1).1
   have f2 : FR m2 S0 (a1.put orng.dst (.pointer (some ⟨w1.heap.size, 0, none⟩))) := by
    have q1 : FR m2 (fr1.set tI (.ptr (some (h1.size, 0)))) (a1.put orng.dst (.pointer (some ⟨w1.heap.size, 0, none⟩))) := by
     rw [hdst]
     have := FR.put (g3.mono hle12) (some tI) (x := .ptr (some (h1.size, 0))) (v := .pointer (some ⟨w1.heap.size, 0, none⟩)) (by
      have := VR.ptr (m := m2) h1.size 0 _ m2i
      rw [← hit]
      exact this)
     exact this
    refine ⟨by show ((((fr1.set tI _).set tn .undef).set q.tb .undef)).length = _; rw [List.length_set, List.length_set]; exact q1.1, fun t => ?_⟩
    show VR m2 (nth (((fr1.set tI _).set tn .undef).set q.tb .undef) t) _
    rw [nth_set]
    split
    ·exact .undef _
    ·rw [nth_set]
     split
     ·exact .undef _
     ·exact q1.2 t
   have f2' : FR m2 S1 (a1.put orng.dst (.pointer (some ⟨w1.heap.size, 0, none⟩))) := by
    refine ⟨by rw [hS1len]; exact f2.1, fun t => ?_⟩
    rcases (keepsL_at hS1).2 t with hu | hr | ⟨e1, e2⟩
    ·rw [hu]; exact .undef _
    ·have q := f2.2 t
     unfold rigid at hr
     split at hr
     ·rename_i p p' e1 e2
      simp only [Bool.and_eq_true] at hr
      have : p = p' := Prod.ext (Nat.eq_of_beq_eq_true hr.1) (Nat.eq_of_beq_eq_true hr.2)
      rw [e1, this, ← e2]
      exact q
     ·rw [(flatEq_eq hr).1]
      exact q
    ·rw [e1, ← e2]; exact f2.2 t
   have hS1I : nth S1 tI = .ptr (some (h1.size, 0)) := rigid_eqv hrtI
   have hallp : ∀ p ∈ es, okRnd q.b2 S1 R (rndOf C S E q.o10 te rest (h1.size + 1) S1 p) = true := by
    intro p hp
    rw [hrs] at hall
    exact List.all_eq_true.1 hall _ (List.mem_map.2 ⟨p, hp, rfl⟩)
   obtain ⟨a2, ha2⟩ : ∃ a2, a2 = a1.put orng.dst (.pointer (some ⟨w1.heap.size, 0, none⟩)) := ⟨_, rfl⟩
   rw [← ha2] at f2'
   have hd2 : a2.defers = a.defers := by rw [ha2, defers_put, g4]
   show ((Code.block q.b _).wpIn (FW none) 0 C.P Q _ _)
   rw [← ha2]
   refine wpIn_block (wpIn_loop (fun a w => Rel C.P w0 m2 hh w ∧ FR m2 S1 a ∧ a.defers = a2.defers ∧ w.heap[E1.g]? = some (.map ents clock) ∧ ∃ seen, w.heap[it]? = some (.mapIter (some E1.g) clock seen clock) ∧
     (∀ (i : Nat) (k v : AVal) (en : MapEntry), es'[i]? = some (k, v) → ents[i]? = some en → seen.contains en.born = true → isRetA (rndOf C S E q.o10 te rest (h1.size + 1) S1 (k, v)) = false))
    (fun _ w => w.rangeLeft E1.g it) ⟨r2, f2', rfl, ?_, #[], ?_, fun i k v en _ _ hc => (by simp at hc)⟩ ?_)
   ·rw [Below.heap_alloc w1 _ _ (by omega)]; exact p1
   ·rw [hit]; exact heap_alloc_new w1 _
   rintro aa ww ⟨rr, ff, hdf, hmp, seen, hitr, hseen⟩
   obtain ⟨hst1, hst2, _⟩ := p4
   have hsza : aa.tmps.size = fr1.length := by
    have := ff.1
    rw [hS1len] at this
    rw [← this]
    show ((((fr1.set tI _).set tn .undef).set q.tb .undef)).length = _
    simp
   have hslot : aa.tmps.getD tI undef = .pointer (some ⟨it, 0, none⟩) := by
    have := ff.2 tI
    rw [hS1I] at this
    obtain ⟨E', hE', hv⟩ := this.inv_pt
    rw [m2i] at hE'
    cases hE'
    exact hv
   have heI : aa.eval (.tmp tI) = .pointer (some ⟨it, 0, none⟩) := hslot
   refine wpIn_seq (wpIn_region_list ?_)
   rw [hl9]
   rcases run_next_at (P := C.P) ww nx.type it E1.g clock clock seen ents clock hitr hmp hst1 (Nat.le_refl _) with ⟨h0, hrun⟩ | ⟨e0, he0, w3, hal, hrun⟩
   ·-- nothing is left
    refine wpListIn_plain ngu fun K hK => op_run (v := .tuple #[.bool false]) (w' := ww) (by rw [nop]; intro c hc; cases hc) (by
     unfold execOp
     rw [nop]
     simp only [heI, Sem.run_bind, hrun, Result.andThen_ok, Sem.run_pure]) none (hK _ _ ?_)
    rw [ndst]
    have ff1 := ff.put_und hutn (.tuple #[.bool false])
    have hsn : (aa.put (some tn) (.tuple #[.bool false])).eval (.tmp tn) = .tuple #[.bool false] := eval_put_same (by rw [hsza]; exact htn)
    refine wpListIn_plain xgu fun K hK => op_run (v := .bool false) (w' := ww) (by rw [xop]; intro c hc; cases hc) (by
     unfold execOp
     rw [xop]
     simp only [hsn, Sem.run_bind, Instr.extract]
     rfl) none (hK _ _ ?_)
    rw [xdst]
    have ff2 := ff1.put_und hutb (.bool false)
    refine wpIn_seq (wpIn_cond_false (eval_put_same (by rw [size_put, hsza]; exact htb)) (wpIn_exit ?_))
    show (if q.b = q.b then Q .normal _ ww else Q (.exit q.b) _ ww)
    rw [if_pos rfl]
    have hno : rs.any isRetA = false := by
     rw [hrs, List.any_map]
     refine List.any_eq_false.2 fun p hp => ?_
     obtain ⟨i, hi, hpi⟩ := List.mem_iff_getElem.1 (has.mem.2 hp)
     have hi2 : i < ents.size := by rw [← p2]; exact hi
     have := hseen i p.1 p.2 ents[i] ((List.getElem?_eq_getElem hi).trans (congrArg some hpi)) (Array.getElem?_eq_getElem hi2) (all_seen ents seen h0 _ (by simp))
     simpa using this
    rcases hout with ⟨he, hfr, _⟩ | ⟨R0, _, _, _, hany⟩
    ·have := hQ m2 _ ww hext2 (hh' ▸ rr) (by rw [hfr]; exact ff2) (by rw [defers_put, defers_put, hdf, hd2])
     rw [he] at this
     exact this
    ·rw [hno] at hany; cases hany
   ·-- one more
    obtain ⟨hmem, hns⟩ := mem_left he0
    obtain ⟨i0, hi0, hei0⟩ := List.mem_iff_getElem.1 hmem
    have hi0' : i0 < ents.size := by simpa using hi0
    have hent : ents[i0]? = some e0 := by rw [Array.getElem?_eq_getElem hi0']; exact congrArg some (by simpa using hei0)
    obtain ⟨⟨k, v⟩, hkv⟩ : ∃ p, es'[i0]? = some p := ⟨_, List.getElem?_eq_getElem (by rw [p2]; exact hi0')⟩
    obtain ⟨hvk, hvv⟩ := p3 i0 k v e0 hkv hent
    obtain ⟨ww3, hww3⟩ : ∃ x, x = setBlock w3 it (.mapIter (some E1.g) clock (seen.push e0.born) clock) := ⟨_, rfl⟩
    rw [← hww3] at hrun
    have hitlt : it < ww.heap.size := (Array.getElem?_eq_some_iff.1 hitr).1
    have hheap : ww3.heap = ww.heap.setIfInBounds it (.mapIter (some E1.g) clock (seen.push e0.born) clock) := by
     rw [hww3]
     rcases hal with rfl | rfl <;> rfl
    have ht : Turn ww ww3 it := ⟨by rw [hww3]; rcases hal with rfl | rfl <;> rfl, by rw [hww3]; rcases hal with rfl | rfl <;> rfl, by rw [hww3]; rcases hal with rfl | rfl <;> rfl, by rw [hheap]; simp, fun k hk hne => by rw [hheap]; simp [Array.getElem?_setIfInBounds_ne (Ne.symm hne)]⟩
    have hit3 : ww3.heap[it]? = some (.mapIter (some E1.g) clock (seen.push e0.born) clock) := by
     rw [hheap]
     simp [hitlt]
    have hmp3 : ww3.heap[E1.g]? = some (.map ents clock) := by
     rw [ht.block _ (Array.getElem?_eq_some_iff.1 hmp).1 (by omega)]
     exact hmp
    have rr3 : Rel C.P w0 m2 hh ww3 := rr.iter ht hitB hlive hfzit hdfit
    refine wpListIn_plain ngu fun K hK => op_run (v := .tuple #[.bool true, e0.key, e0.val]) (w' := ww3) (by rw [nop]; intro c hc; cases hc) (by
     unfold execOp
     rw [nop]
     simp only [heI, Sem.run_bind, hrun, Result.andThen_ok, Sem.run_pure]) none (hK _ _ ?_)
    rw [ndst]
    have ff1 := ff.put_und hutn (.tuple #[.bool true, e0.key, e0.val])
    have hsn : (aa.put (some tn) (.tuple #[.bool true, e0.key, e0.val])).eval (.tmp tn) = .tuple #[.bool true, e0.key, e0.val] := eval_put_same (by rw [hsza]; exact htn)
    refine wpListIn_plain xgu fun K hK => op_run (v := .bool true) (w' := ww3) (by rw [xop]; intro c hc; cases hc) (by
     unfold execOp
     rw [xop]
     simp only [hsn, Sem.run_bind, Instr.extract]
     rfl) none (hK _ _ ?_)
    rw [xdst]
    have ff2 := ff1.put_und hutb (.bool true)
    refine wpIn_seq (wpIn_cond_true (eval_put_same (by rw [size_put, hsza]; exact htb)) (wpIn_skip ?_))
    obtain ⟨a4, ha4⟩ : ∃ x, x = (aa.put (some tn) (.tuple #[.bool true, e0.key, e0.val])).put (some q.tb) (.bool true) := ⟨_, rfl⟩
    have hd4 : a4.defers = a2.defers := by rw [ha4, defers_put, defers_put, hdf]
    rw [← ha4] at ff2
    rw [← ha4]
    show (Code.block q.b2 _).wpIn _ _ _ _ _ _
    refine wpIn_block (wpIn_seq (wpIn_region_list ?_))
    rw [hl10]
    have heI4 : a4.eval (.tmp tI) = .pointer (some ⟨it, 0, none⟩) := by
     have := ff2.2 tI
     rw [hS1I] at this
     obtain ⟨E', hE', hv⟩ := this.inv_pt
     rw [m2i] at hE'
     cases hE'
     exact hv
    have hent3 := run_entry_at (P := C.P) ww3 it E1.g clock seen ents clock e0 hit3 hmp3 hmem hst2
    refine wpListIn_plain egu fun K hK => op_run (v := .tuple #[e0.key, e0.val]) (w' := ww3) (by rw [eop]; intro c hc; cases hc) (by
     unfold execOp
     rw [eop]
     simp only [heI4, Sem.run_bind, hent3, Result.andThen_ok, Sem.run_pure]) none (hK _ _ ?_)
    rw [edst]
    have ff5 : FR m2.bare (S1.set te (.tuple [k, v])) (a4.put (some te) (.tuple #[e0.key, e0.val])) :=
     FR.put (ff2.mono (Inj.le_bare m2)) (some te) (VRs.tuple (.cons ((hvk.mono hle12).mono (Inj.le_bare m2)) (.cons ((hvv.mono hle12).mono (Inj.le_bare m2)) (.nil _))))
    have hkves : (k, v) ∈ es := has.mem.1 (List.mem_of_getElem? hkv)
    have hok := hallp _ hkves
    have hrk : rndOf C S E q.o10 te rest (h1.size + 1) S1 (k, v) = rndOf C S E q.o10 te rest (h1.size + 1) S1 (k, v) := rfl
    generalize hX : rndOf C S E q.o10 te rest (h1.size + 1) S1 (k, v) = X at hok
    have hX' := hX
    unfold rndOf at hX
    simp only at hX
    have hz3 : GlobOk C.glob ww3 := hz.later rr3.below
    cases hro : runOps C S ⟨0, []⟩ q.o10 rest (S1.set te (.tuple [k, v])) ⟨h1.size + 1, .leaf⟩ with
    | none => rw [hro] at hX; rw [← hX] at hok; cases hok
    | some r5 =>
     obtain ⟨fr5, h5⟩ := r5
     rw [hro] at hX
     simp only at hX
     have hksz5 := (runOps_keeps hS _ hro).1.1
     have hhsz : hh.size = h1.size + 1 := by show (h1.push _).size = _; simp
     have rb := rr3.blank
     rw [hhsz] at rb
     refine runOps_sound hS hz3 _ rb ff5 hro (fun m5 a6 w6 k1 k2 k3 k4 => ?_) none
     show q.body.wpIn _ _ _ _ _ _
     cases hEx : E fr5 h5 with
     | none => rw [hEx] at hX; rw [← hX] at hok; cases hok
     | some r6 =>
      obtain ⟨e3, fr3, h3⟩ := r6
      rw [hEx] at hX
      subst hX
      obtain ⟨hsz6, hE6⟩ := hE hEx
      refine hE6 hz3 k2 k3 (fun m7 a7 w7 l1 l2 l3 l4 => ?_)
      have hd7 : a7.defers = a2.defers := by rw [l4, k4, defers_put, hd4]
      have hmi : ∀ id E, m2.i id = some E → m7.i id = some E := by
       intro id E' hE'
       have hid := rr3.dom id E' hE'
       rw [hhsz] at hid
       rw [l1.i id (by simp only at hksz5; omega), k1.i id hid]
       exact hE'
      have hit7 : w7.heap[it]? = some (.mapIter (some E1.g) clock (seen.push e0.born) clock) := by
       rw [l2.below.block _ (Array.getElem?_eq_some_iff.1 hit3).1]; exact hit3
      have hmp7 : w7.heap[E1.g]? = some (.map ents clock) := by
       rw [l2.below.block _ (Array.getElem?_eq_some_iff.1 hmp3).1]; exact hmp3
      have rr7 : Rel C.P w0 m2 hh w7 := rr3.later l2.below
      have go : keepsL rigid S1 fr3 = true → isRetA (some (e3, fr3, h3)) = false → (Rel C.P w0 m2 hh w7 ∧ FR m2 S1 a7 ∧ a7.defers = a2.defers ∧ w7.heap[E1.g]? = some (.map ents clock) ∧ ∃ seen, w7.heap[it]? = some (.mapIter (some E1.g) clock seen clock) ∧
        (∀ (i : Nat) (k v : AVal) (en : MapEntry), es'[i]? = some (k, v) → ents[i]? = some en → seen.contains en.born = true → isRetA (rndOf C S E q.o10 te rest (h1.size + 1) S1 (k, v)) = false)) ∧ w7.rangeLeft E1.g it < ww.rangeLeft E1.g it := by
       intro hk hnr
       refine ⟨⟨rr7, ff2.keeps hk hmi l3, hd7, hmp7, _, hit7, fun i k' v' en' hi hen' hc => ?_⟩, ?_⟩
       ·rw [contains_push, Bool.or_eq_true] at hc
        rcases hc with hc | hc
        ·exact hseen i k' v' en' hi hen' hc
        ·have := born_ix hst2 hen' hent (eq_of_beq hc)
         subst this
         rw [hkv] at hi
         cases hi
         rw [hX']
         exact hnr
       ·have := left_shrinks ents seen e0 he0
        unfold World.rangeLeft
        rw [hmp7, hit7, hmp, hitr]
        exact this
      cases e3 with
      | normal => exact go hok rfl
      | exit i =>
       simp only [okRnd, Bool.and_eq_true] at hok
       have := Nat.eq_of_beq_eq_true hok.1
       subst this
       show (if q.b2 = q.b2 then _ else _)
       rw [if_pos rfl]
       exact go hok.2 rfl
      | ret =>
       have hany : rs.any isRetA = true := by
        rw [hrs, List.any_map]
        refine List.any_eq_true.2 ⟨(k, v), hkves, ?_⟩
        show isRetA (rndOf C S E q.o10 te rest (h1.size + 1) S1 (k, v)) = true
        rw [hX']
        rfl
       rcases hout with ⟨_, _, hno⟩ | ⟨R0, hR0, he, hfr, _⟩
       ·rw [hany] at hno; cases hno
       ·rw [hR0] at hok
        have := hQ m2 a7 w7 hext2 (hh' ▸ rr7) (by rw [hfr]; exact FR.keepsF hok l3) (by rw [hd7, hd2])
        rw [he] at this
        exact this
theorem execN_sound (hS : SubOk C.P C.glob S) {g : Gd} : ∀ (n : Nat),
  (∀ (c : Code) {fr : Fr} {h : AHeap} {e : AExit} {fr' : Fr} {h' : AHeap}, execN C S g n c fr h = some (e, fr', h') → h.size ≤ h'.size ∧ ∀ {w0 : World} {m : Inj} {w : World} {a : Act} {Q : Exit → Act → World → Prop}, GlobOk C.glob w0 → Rel C.P w0 m h w → FR m fr a →
   (∀ m' a' w', m.ext h.size m' → Rel C.P w0 m' h' w' → FR m' fr' a' → a'.defers = a.defers → Q e.to a' w') → c.wpIn (FW none) 0 C.P Q a w) ∧
  (∀ (c : Code) {fr : Fr} {h : AHeap} {e : AExit} {fr' : Fr} {h' : AHeap}, execN C S g n (.loop c) fr h = some (e, fr', h') → ∀ {w0 : World} {m : Inj} {w : World} {a : Act} {Q : Exit → Act → World → Prop}, GlobOk C.glob w0 → Rel C.P w0 m h w → FR m fr a →
   (∀ m' a' w', m.ext h.size m' → Rel C.P w0 m' h' w' → FR m' fr' a' → a'.defers = a.defers → Q e.to a' w') → Code.roundsIn (FW none) 0 C.P c Q n a w)
 | 0 => ⟨fun c fr h e fr' h' hx => by simp [execN] at hx, fun c fr h e fr' h' hx => by simp [execN] at hx⟩
 | n + 1 => by
  obtain ⟨ih, ihl⟩ := execN_sound hS n
  have loop : ∀ (c : Code) {fr : Fr} {h : AHeap} {e : AExit} {fr' : Fr} {h' : AHeap}, execN C S g (n + 1) (.loop c) fr h = some (e, fr', h') → h.size ≤ h'.size ∧ ∀ {w0 : World} {m : Inj} {w : World} {a : Act} {Q : Exit → Act → World → Prop}, GlobOk C.glob w0 → Rel C.P w0 m h w → FR m fr a →
    (∀ m' a' w', m.ext h.size m' → Rel C.P w0 m' h' w' → FR m' fr' a' → a'.defers = a.defers → Q e.to a' w') → Code.roundsIn (FW none) 0 C.P c Q (n + 1) a w := by
   intro c fr h e fr' h' hx
   have hx' : (match execN C S g n c fr h with | some (.normal, fr1, h1) => execN C S g n (.loop c) fr1 h1 | r => r) = some (e, fr', h') := hx
   split at hx'
   ·rename_i fr1 h1 ha
    obtain ⟨k1, k2⟩ := ih c ha
    have k3 := (ih (.loop c) hx').1
    refine ⟨by omega, fun {w0 m w a Q} hz r hf hQ => ?_⟩
    rw [roundsIn_succ]
    refine k2 hz r hf (fun m1 a1 w1 g1 g2 g3 g4 => ?_)
    exact ihl c hx' hz g2 g3 (fun m' a' w' l1 l2 l3 l4 => hQ m' a' w' (g1.trans l1 k1) l2 l3 (by rw [l4, g4]))
   ·rename_i hne
    obtain ⟨k1, k2⟩ := ih c hx'
    refine ⟨k1, fun {w0 m w a Q} hz r hf hQ => ?_⟩
    rw [roundsIn_succ]
    refine k2 hz r hf (fun m1 a1 w1 g1 g2 g3 g4 => ?_)
    have hq := hQ m1 a1 w1 g1 g2 g3 g4
    cases e with
    | normal => exact absurd hx' (hne _ _)
    | exit id => exact hq
    | ret => exact hq
  refine ⟨fun c fr h e fr' h' hx => ?_, fun c fr h e fr' h' hx => (loop c hx).2⟩
  cases hml : mlOf c with
  | some q =>
   have hx' : runML C S (execN C S g n q.body) q g fr h = some (e, fr', h') := by
    have : execN C S g (n + 1) c fr h = (match mlOf c with | some q => runML C S (execN C S g n q.body) q g fr h | none => stepN C S g (execN C S g n) c fr h) := rfl
    rw [this, hml] at hx
    exact hx
   exact runML_sound hS (fun hE => ih q.body hE) hml hx'
  | none =>
   have hx0 := hx
   have : execN C S g (n + 1) c fr h = (match mlOf c with | some q => runML C S (execN C S g n q.body) q g fr h | none => stepN C S g (execN C S g n) c fr h) := rfl
   rw [this, hml] at hx
   simp only at hx
   cases c with
   | skip => simp only [stepN, Option.some.injEq, Prod.mk.injEq] at hx; obtain ⟨rfl, rfl, rfl⟩ := hx; exact ⟨Nat.le_refl _, fun hz r hf hQ => wpIn_skip (hQ _ _ _ (Inj.ext.refl _ _) r hf rfl)⟩
   | ret => simp only [stepN, Option.some.injEq, Prod.mk.injEq] at hx; obtain ⟨rfl, rfl, rfl⟩ := hx; exact ⟨Nat.le_refl _, fun hz r hf hQ => wpIn_ret (hQ _ _ _ (Inj.ext.refl _ _) r hf rfl)⟩
   | exit id => simp only [stepN, Option.some.injEq, Prod.mk.injEq] at hx; obtain ⟨rfl, rfl, rfl⟩ := hx; exact ⟨Nat.le_refl _, fun hz r hf hQ => wpIn_exit (hQ _ _ _ (Inj.ext.refl _ _) r hf rfl)⟩
   | label l => cases hx
   | goto l => cases hx
   | refuse s => cases hx
   | rangeFunc x ps ca cb => cases hx
   | scope c => cases hx
   | region id ops draw =>
    cases draw with
    | true => cases hx
    | false =>
     simp only [stepN, cond_false, Option.map_eq_some_iff, Prod.mk.injEq] at hx
     obtain ⟨⟨fr1, h1⟩, hr, rfl, rfl, rfl⟩ := hx
     exact ⟨(runOps_keeps hS _ hr).1.1, fun hz r hf hQ => wpIn_region_list (runOps_sound hS hz _ r hf hr hQ none)⟩
   | seq x y =>
    simp only [stepN] at hx
    split at hx
    ·rename_i fr1 h1 ha
     obtain ⟨k1, k2⟩ := ih x ha
     obtain ⟨k3, k4⟩ := ih y hx
     exact ⟨by omega, fun hz r hf hQ => wpIn_seq (k2 hz r hf (fun m1 a1 w1 g1 g2 g3 g4 => k4 hz g2 g3 (fun m' a' w' l1 l2 l3 l4 => hQ m' a' w' (g1.trans l1 k1) l2 l3 (by rw [l4, g4]))))⟩
    ·rename_i hne
     obtain ⟨k1, k2⟩ := ih x hx
     refine ⟨k1, fun hz r hf hQ => wpIn_seq (k2 hz r hf (fun m1 a1 w1 g1 g2 g3 g4 => ?_))⟩
     have hq := hQ m1 a1 w1 g1 g2 g3 g4
     cases e with
     | normal => exact absurd hx (hne _ _)
     | exit id => exact hq
     | ret => exact hq
   | cond t x y =>
    simp only [stepN] at hx
    split at hx
    ·rename_i hc
     obtain ⟨k1, k2⟩ := ih x hx
     refine ⟨k1, fun hz r hf hQ => ?_⟩
     have hv := hf.ev t
     rw [hc] at hv
     exact wpIn_cond_true hv.inv_bool (k2 hz r hf hQ)
    ·rename_i hc
     obtain ⟨k1, k2⟩ := ih y hx
     refine ⟨k1, fun hz r hf hQ => ?_⟩
     have hv := hf.ev t
     rw [hc] at hv
     exact wpIn_cond_false hv.inv_bool (k2 hz r hf hQ)
    ·cases hx
   | block id x =>
    simp only [stepN] at hx
    split at hx
    ·rename_i i fr1 h1 ha
     obtain ⟨k1, k2⟩ := ih x ha
     cases hb : Nat.beq i id with
     | true =>
      rw [hb] at hx
      simp only [cond_true, Option.some.injEq, Prod.mk.injEq] at hx
      obtain ⟨rfl, rfl, rfl⟩ := hx
      refine ⟨k1, fun {w0 m w a Q} hz r hf hQ => wpIn_block (k2 hz r hf (fun m1 a1 w1 g1 g2 g3 g4 => ?_))⟩
      show (if i = id then Q .normal a1 w1 else Q (.exit i) a1 w1)
      rw [if_pos (Nat.eq_of_beq_eq_true hb)]
      exact hQ m1 a1 w1 g1 g2 g3 g4
     | false =>
      rw [hb] at hx
      simp only [cond_false, Option.some.injEq, Prod.mk.injEq] at hx
      obtain ⟨rfl, rfl, rfl⟩ := hx
      refine ⟨k1, fun {w0 m w a Q} hz r hf hQ => wpIn_block (k2 hz r hf (fun m1 a1 w1 g1 g2 g3 g4 => ?_))⟩
      show (if i = id then Q .normal a1 w1 else Q (.exit i) a1 w1)
      rw [if_neg (fun e => by rw [e, Nat.beq_refl] at hb; cases hb)]
      exact hQ m1 a1 w1 g1 g2 g3 g4
    ·rename_i hne
     obtain ⟨k1, k2⟩ := ih x hx
     refine ⟨k1, fun hz r hf hQ => wpIn_block (k2 hz r hf (fun m1 a1 w1 g1 g2 g3 g4 => ?_))⟩
     have hq := hQ m1 a1 w1 g1 g2 g3 g4
     cases e with
     | normal => exact hq
     | exit i => exact absurd hx (hne _ _ _)
     | ret => exact hq
   | loop x =>
    obtain ⟨k1, k2⟩ := loop x hx0
    exact ⟨k1, fun hz r hf hQ => wpIn_loop_rounds (n + 1) (k2 hz r hf hQ)⟩
def bodyN (C : Cfg) (S : Self) (n : Nat) (f : FuncId) (args : List AVal) : Option AVal :=
 match C.P.funcs[f]? with
 | none => none
 | some fn =>
  match fn.body with
  | none => none
  | some c =>
   match execN C S ⟨0, []⟩ n c (args ++ List.replicate (fn.ntmps - args.length) (.tuple [])) ⟨0, .leaf⟩ with
   | some (.normal, fr, h') => resultsA C.P fn fr h'
   | some (.ret, fr, h') => resultsA C.P fn fr h'
   | _ => none
theorem bodyN_sound (hS : SubOk C.P C.glob S) {n : Nat} {f : FuncId} {fn : Func} (hfn : C.P.funcs[f]? = some fn) (hn : (fn.name == "runtime.NumGoroutine") = false) {args : List AVal} {v : AVal} (hb : bodyN C S n f args = some v) (hf1 : flat1 v = true) (ha : args.all flat2 = true)
  {h : AHeap} (hz : GlobOk C.glob w0) (r : Rel C.P w0 m h w) {cargs : Array Value} (hv : VRs m args cargs.toList) :
  Invokes C.P f cargs w fun v' w' => ∃ m' : Inj, (m.ext h.size m') ∧ Rel C.P w0 m' h w' ∧ VR m' v v' := by
 unfold bodyN at hb
 rw [hfn] at hb
 simp only at hb
 split at hb
 ·cases hb
 ·rename_i c hc
  obtain ⟨m0, hm0⟩ : ∃ m0 : Inj, m0 = ⟨fun _ => none, fun _ _ => none, fun _ => False⟩ := ⟨_, rfl⟩
  have r0 : Rel C.P w m0 ⟨0, .leaf⟩ w := by
   rw [hm0]
   exact ⟨Below.refl _ _, fun id E hE => (by cases hE), fun id E o hE => (by cases hE), fun id E o hE => (by cases hE), fun id id' E E' o o' _ hE => (by cases hE), fun g o v hv => (by cases hv), fun id E o hE => (by cases hE), fun g hg => hg.elim, fun id E o hE => (by cases hE)⟩
  have hv0 : VRs m0 args cargs.toList := ⟨hv.1, fun i x y hx hy => (hv.2 i x y hx hy).flat2 (List.all_eq_true.1 ha x (List.mem_of_getElem? hx))⟩
  have main : ∀ e fr1 h1, e = AExit.normal ∨ e = AExit.ret → execN C S ⟨0, []⟩ n c (args ++ List.replicate (fn.ntmps - args.length) (.tuple [])) ⟨0, .leaf⟩ = some (e, fr1, h1) → resultsA C.P fn fr1 h1 = some v →
    Invokes C.P f cargs w fun v' w' => ∃ m' : Inj, (m.ext h.size m') ∧ Rel C.P w0 m' h w' ∧ VR m' v v' := by
   intro e fr1 h1 he hx hres
   unfold Invokes
   rw [callFunc_enter hfn hn hc]
   simp only
   have hlen : args.length = cargs.size := by rw [hv.1]; simp
   refine (callsIn_wide (n := 0)).1 (callsIn_of_wp_marks hfn hc trivial (((execN_sound hS n).1 c hx).2 (hz.later r.below) r0 ⟨by simp [hlen], fun i => ?_⟩ (fun m1 a1 w1 g1 g2 g3 g4 => ?_)))
   ·rw [nth_eq, List.getD_eq_getElem?_getD]
    simp only [Array.getD_eq_getD_getElem?]
    by_cases hi : i < args.length
    ·rw [List.getElem?_append_left hi, Array.getElem?_append_left (by omega)]
     rw [List.getElem?_eq_getElem hi, Array.getElem?_eq_getElem (by omega)]
     exact hv0.2 i _ _ (List.getElem?_eq_getElem hi) (by simp [← hlen, hi])
    ·rw [List.getElem?_append_right (by omega), Array.getElem?_append_right (by omega)]
     rw [List.getElem?_replicate, Array.getElem?_replicate, hlen]
     split
     ·exact VR.undef_ m0
     ·exact VR.undef_ m0
   ·have fin : LeavesInM Fence.wide 0 C.P fn a1.tmps (fun e w' => ∃ v', e = .returned v' ∧ ∃ m' : Inj, (m.ext h.size m') ∧ Rel C.P w0 m' h w' ∧ VR m' v v') a1.defers .returning w1 := by
     rw [g4]
     refine leaves_marks [] List.nodup_nil m1 w1 g2 (fun r hr => by cases hr) fun m2 w2 d1 d2 d3 d4 => ?_
     have hle : m1.le m2 := ⟨fun id E hE => by rw [d1]; exact hE, fun g o v hv => by rw [d2]; exact hv⟩
     obtain ⟨v', q1, q2⟩ := resultsA_sound d4 (g3.mono hle) hres
     exact ⟨v', q1, v', rfl, m, Inj.ext.refl _ _, r.later d4.below, q2.flat1 hf1⟩
    rcases he with rfl | rfl
    ·exact fin
    ·exact fin
  split at hb
  ·rename_i fr1 h1 hx; exact main .normal fr1 h1 (.inl rfl) hx hb
  ·rename_i fr1 h1 hx; exact main .ret fr1 h1 (.inr rfl) hx hb
  ·cases hb
theorem tab_ok (hS : SubOk C.P C.glob S) {f : FuncId} {fn : Func} (hfn : C.P.funcs[f]? = some fn) (hn : (fn.name == "runtime.NumGoroutine") = false) {tab : List (AVal × AVal)}
  (ht : ∀ p ∈ tab, ∃ n cs, p.1 = .agg cs ∧ cs.all flat1 = true ∧ flat1 p.2 = true ∧ bodyN C S n f [.agg cs] = some p.2) : ExtOk C.P C.glob f fun _ h args => extTab tab h args := by
 intro g h f' args v h' hc
 dsimp only at hc
 split at hc
 ·rename_i e
  subst e
  unfold extTab at hc
  split at hc
  ·rename_i cs
   simp only [Option.map_eq_some_iff, Prod.mk.injEq] at hc
   obtain ⟨p, hp, rfl, rfl⟩ := hc
   obtain ⟨n, ds, e1, e2, e3, e4⟩ := ht p (List.mem_of_find?_eq_some hp)
   have := List.find?_some hp
   rw [e1] at this
   simp only at this
   rw [flatEqL_eq this] at e4 e2
   exact ⟨Keeps.refl _ _, fun w0 m w cargs hz r hv => bodyN_sound hS hfn hn e4 e3 (by simp only [List.all_cons, List.all_nil, Bool.and_true]; exact e2) hz r hv⟩
  ·cases hc
 ·cases hc
end
end Go.Av
