/-
 A part.
-/
import Derived.Test.YtdbkpibbjnhmgaaDoorAvDraw
import Derived.Maps.RangeRun
import Derived.Maps.Range
namespace Go.Av
open Go.RowKit Go.ChangeMaps
set_option linter.unusedVariables false
set_option linter.unusedSimpArgs false
theorem MH {c : Code} {q : QK} (h : Ss c = some q) : q.b ≠ q.b2 ∧ ∃ i8 i9 i10, c = .seq (.region i8 q.o8 false) (.block q.b (.loop (.seq (.region i9 q.o9 false) (.seq (.cond (.tmp q.tb) .skip (.exit q.b)) (.block q.b2 (.seq (.region i10 q.QX false) q.body)))))) := by
 unfold Ss at h
 split at h
 ·rename_i i8 o8 b i9 o9 tb b' b2 i10 QX body
  cases hb : (Nat.beq b b' && !Nat.beq b b2) with
  | false => rw [hb] at h; cases h
  | true =>
   rw [hb] at h
   cases h
   simp only [Bool.and_eq_true, Bool.not_eq_true'] at hb
   obtain ⟨e1, e2⟩ := hb
   have e1' := Nat.eq_of_beq_eq_true e1
   subst e1'
   refine ⟨fun e => ?_, i8, i9, i10, rfl⟩
   have e' : b = b2 := e
   rw [e', Nat.beq_refl] at e2
   cases e2
 ·cases h
section
variable {C : EB} {S : Self} {w0 : World} {m : AP} {h : AB} {w : World}
theorem G0 (hS : FE C.P C.B4 S) (hz : BH C.B4 w0) {g : Gd} {ops : Array Oper} {Q : Exit → Act → World → Prop} {l2 : List Oper} : ∀ (l : List Oper) {m : AP} {h : AB} {w : World} {fr fr' : Fr} {h' : AB} {a : Act},
  Rel C.P w0 m h w → FR m fr a → Cs C S g ops l fr h = some (fr', h') →
  ∀ rd : Option Nat, (∀ m' a' w', (m.ext h.size m') → Rel C.P w0 m' h' w' → FR m' fr' a' → a'.defers = a.defers → wpListIn (FW rd) 0 C.P ops Q l2 a' w') → wpListIn (FW rd) 0 C.P ops Q (l ++ l2) a w
 | [], m, h, w, fr, fr', h', a, r, hf, hr, rd, hQ => by
  simp only [Cs, Option.some.injEq, Prod.mk.injEq] at hr
  obtain ⟨rfl, rfl⟩ := hr
  exact hQ m a w (AP.ext.refl _ _) r hf rfl
 | o :: rest, m, h, w, fr, fr', h', a, r, hf, hr, rd, hQ => by
  unfold Cs at hr
  split at hr
  ·rename_i hw
   split at hr
   ·rename_i v h1 hs
    have hk := Fm hS hs
    have hwant := DI hf hw
    rw [List.cons_append]
    unfold wpListIn
    rw [if_pos hwant]
    refine HK hS hz r hf hs (fun m1 v1 w1 e1 e2 e3 => ?_) rd
    refine G0 hS hz rest e2 (FR.put (hf.mono (r.Ia e1)) o.dst e3) hr rd (fun m' a' w' g1 g2 g3 g4 => hQ m' a' w' (e1.trans g1 hk.1) g2 g3 ?_)
    rw [g4, B7]
   ·cases hr
  ·rename_i hw
   have hwant := DI hf hw
   rw [List.cons_append]
   unfold wpListIn
   rw [if_neg (by rw [hwant]; simp)]
   exact ⟨fun _ _ => trivial, G0 hS hz rest r (FR.put hf o.dst (VR.Du m)) hr rd (fun m' a' w' g1 g2 g3 g4 => hQ m' a' w' g1 g2 g3 (by rw [g4, B7]))⟩
  ·cases hr
theorem Jk {P : Program} {o : Oper} {a : Act} {w w' : World} {v : Value} {K : Act → World → Prop} {Q : Exit → Act → World → Prop} (hop : ∀ c, o.op ≠ .defer c) (h1 : (execOp a.eval o).run P w = .ok (.value v) w') (rd : Option Nat) (hK : K (a.put o.dst v) w') : o.wpIn (FW rd) 0 P a w K Q := by
 refine ⟨fun _ _ => trivial, ?_⟩
 rw [Oper.semAt_eq _ _ _ hop, h1]
 exact hK
theorem Rel.iter {P : Program} (r : Rel P w0 m h w) {w2 : World} {it : Nat} (ht : Ca w w2 it) (hit : w0.heap.size ≤ it) (hl : ∀ id F o, m.i id = some F → h.get id = some o → o.live = true → F.g ≠ it) (hf : ∀ g o v, m.fz g o = some v → g ≠ it) (hd : ∀ g x, m.df g x → g ≠ it) : Rel P w0 m h w2 := by
 refine ⟨ht.below r.below r.size hit, r.KE, fun id F o hF ho => (r.obj id F o hF ho).mono (AP.le_refl m) fun hlv => ht.block _ ((r.obj id F o hF ho).lt hlv) (hl id F o hF ho hlv), r.own, r.sep, fun g o v hv => ?_, r.GH, fun g x hg => ⟨(r.df g x hg).1, ?_⟩, r.LF⟩
 ·obtain ⟨cur, e, z, h1, h2⟩ := r.fz g o v hv
  exact ⟨cur, e, z, by rw [ht.block g (r.Lp hv) (hf g o v hv)]; exact h1, h2⟩
 ·rw [ht.block g (r.HD hg) (hd g x hg)]; exact (r.df g x hg).2
theorem Sj {o9 : Array Oper} {tI tb tn : Tmp} (hh : SK o9 tI tb = some tn) : ∃ n x, o9.toList = [n, x] ∧ n.op = .next (.tmp tI) false ∧ n.dst = some tn ∧ n.guard = none ∧ x.op = .extract (.tmp tn) 0 ∧ x.dst = some tb ∧ x.guard = none ∧ tn ≠ tI ∧ tb ≠ tI := by
 unfold SK at hh
 split at hh
 ·rename_i n x hl
  split at hh
  ·rename_i t tn1 tn2 tb2 e1 e2 e3 e4 e5 e6
   cases hb : (Nat.beq t tI && Nat.beq tn1 tn2 && Nat.beq tb tb2 && !Nat.beq tn1 tI && !Nat.beq tb tI) with
   | false => rw [hb] at hh; cases hh
   | true =>
    rw [hb] at hh
    cases hh
    simp only [Bool.and_eq_true, Bool.not_eq_true'] at hb
    obtain ⟨⟨⟨⟨h1, h2⟩, h3⟩, h4⟩, h5⟩ := hb
    have h1 := Nat.eq_of_beq_eq_true h1
    have h2 := Nat.eq_of_beq_eq_true h2
    have h3 := Nat.eq_of_beq_eq_true h3
    refine ⟨n, x, hl, by rw [e1, h1], e2, e3, by rw [e4, h2], by rw [e5, h3], e6, fun e => ?_, fun e => ?_⟩
    ·rw [e, Nat.beq_refl] at h4; cases h4
    ·rw [e, Nat.beq_refl] at h5; cases h5
  ·cases hh
 ·cases hh
theorem SI {QX : Array Oper} {tI te : Tmp} {rest : List Oper} (hh : Sp QX tI = some (te, rest)) : ∃ n, QX.toList = n :: rest ∧ n.op = .entry (.tmp tI) ∧ n.dst = some te ∧ n.guard = none := by
 unfold Sp at hh
 split at hh
 ·rename_i n rest' hl
  split at hh
  ·rename_i t te' e1 e2 e3
   cases hb : (Nat.beq t tI && !Nat.beq te' tI) with
   | false => rw [hb] at hh; cases hh
   | true =>
    rw [hb] at hh
    cases hh
    simp only [Bool.and_eq_true] at hb
    exact ⟨n, hl, by rw [e1, Nat.eq_of_beq_eq_true hb.1], e2, e3⟩
  ·cases hh
 ·cases hh
theorem FR.KL {fr : Fr} {a : Act} (hf : FR m fr a) {t : Tmp} (hu : nth fr t = .undef) (v : Value) : FR m fr (a.put (some t) v) := by
 refine ⟨by rw [hf.1]; exact (size_put a (some t) v).symm, fun i => ?_⟩
 by_cases e : i = t
 ·subst e; rw [hu]; exact .undef _
 ·have : (a.put (some t) v).tmps.getD i undef = a.tmps.getD i undef := by
   simp [Act.put, Array.getD_eq_getD_getElem?, Array.getElem?_setIfInBounds_ne (Ne.symm e)]
  rw [this]
  exact hf.2 i
end
theorem KV {α : Type} : ∀ {l : List α} {x : α}, l.getLast? = some x → l = l.dropLast ++ [x]
 | [], x, h => by cases h
 | [a], x, h => by cases h; rfl
 | a :: b :: l, x, h => by
  have h' : (b :: l).getLast? = some x := by rw [List.getLast?_cons_cons] at h; exact h
  have := KV h'
  rw [List.dropLast_cons_cons, List.cons_append, ← this]
theorem VR.RB {m : AP} {id o : Nat} {v : Value} (h : VR m (.ptr (some (id, o))) v) : ∃ E, m.i id = some E ∧ v = .pointer (some ⟨E.g, E.base + o, none⟩) := by
 cases h with
 | ptr _ _ E hE => exact ⟨E, hE, rfl⟩
theorem Ee {a : Act} {t : Tmp} {v : Value} (ht : t < a.tmps.size) : (a.put (some t) v).eval (.tmp t) = v := by
 show (a.tmps.setIfInBounds t v).getD t undef = v
 simp [Array.getD_eq_getD_getElem?, ht]
theorem S4 {ents : Array MapEntry} (hn : (ents.toList.map (·.born)).Nodup) {i j : Nat} {x y : MapEntry} (hx : ents[i]? = some x) (hy : ents[j]? = some y) (e : x.born = y.born) : i = j := by
 obtain ⟨hi, ei⟩ := Array.getElem?_eq_some_iff.1 hx
 obtain ⟨hj, ej⟩ := Array.getElem?_eq_some_iff.1 hy
 rw [List.Nodup, List.pairwise_iff_getElem] at hn
 have key : ∀ i j (hi : i < ents.size) (hj : j < ents.size), i < j → ents[i].born ≠ ents[j].born := fun i j hi hj hlt => by
  have := hn i j (by simpa using hi) (by simpa using hj) hlt
  simpa using this
 rcases Nat.lt_trichotomy i j with h | h | h
 ·exact absurd (by rw [ei, ej]; exact e) (key i j hi hj h)
 ·exact h
 ·exact absurd (by rw [ei, ej]; exact e.symm) (key j i hj hi h)
section
variable {P : Program} {w0 : World} {m : AP} {h : AB} {w : World}
theorem Rel.Se (r : Rel P w0 m h w) (d : Nat → Obj → Prop) (h1 : ∀ g x, d g x → w0.heap.size ≤ g ∧ w.heap[g]? = some x) (h2 : ∀ id E o, m.i id = some E → h.get id = some o → o.live = true → ∀ x, ¬ d E.g x) : Rel P w0 ⟨m.i, m.fz, d⟩ h w :=
 ⟨r.below, r.KE, fun id E o hE ho => (r.obj id E o hE ho).mono (m := m) ⟨fun _ _ h => h, fun _ _ _ h => h⟩ fun _ => rfl, r.own, r.sep, r.fz, r.GH, h1, h2⟩
theorem FR.Se {fr : Fr} {a : Act} (hf : FR m fr a) (d : Nat → Obj → Prop) : FR ⟨m.i, m.fz, d⟩ fr a := FR.mono (m := m) (m' := ⟨m.i, m.fz, d⟩) ⟨fun _ _ h => h, fun _ _ _ h => h⟩ hf
theorem Rel.dead (r : Rel P w0 m h w) {id : Nat} {o o' : Am} (ho : h.get id = some o) (hl : o'.live = false) (hob : ∀ E, m.i id = some E → GP P m w E o') : Rel P w0 m (h.set id o') w := by
 have hid := h.Ag ho
 have get' : ∀ i x, (h.set id o').get i = some x → (i = id ∧ x = o') ∨ (i ≠ id ∧ h.get i = some x) := fun i x hx => by
  by_cases e : i = id
  ·subst e; rw [h.get_set_same o' hid] at hx; injection hx with hx; exact .inl ⟨rfl, hx.symm⟩
  ·rw [h.Aj o' hid e] at hx; exact .inr ⟨e, hx⟩
 have hno : ∀ {x : Am}, x = o' → x.own = true → False := fun e hx => by
  have := Am.D1 hx
  rw [e, hl] at this
  cases this
 refine ⟨r.below, r.KE, fun i F x hF hx => ?_, fun i F x hF hx hxo => ?_, fun i i' F F' x x' hne h1 h2 g1 g2 a b => ?_, r.fz, fun i F x hF hx hxo => ?_, r.df, fun i F x hF hx hxl => ?_⟩
 ·rcases get' i x hx with ⟨rfl, rfl⟩ | ⟨hi, hx⟩
  ·exact hob F hF
  ·exact r.obj i F x hF hx
 ·rcases get' i x hx with ⟨rfl, e⟩ | ⟨hi, hx⟩
  ·exact (hno e hxo).elim
  ·exact r.own i F x hF hx hxo
 ·rcases get' i x g1 with ⟨rfl, e⟩ | ⟨hi, hx⟩
  ·exact (hno e a).elim
  ·rcases get' i' x' g2 with ⟨rfl, rfl⟩ | ⟨hi', hx'⟩
   ·rw [hl] at b; cases b
   ·exact r.sep i i' F F' x x' hne h1 h2 hx hx' a b
 ·rcases get' i x hx with ⟨rfl, e⟩ | ⟨hi, hx⟩
  ·exact (hno e hxo).elim
  ·exact r.GH i F x hF hx hxo
 ·rcases get' i x hx with ⟨rfl, rfl⟩ | ⟨hi, hx⟩
  ·rw [hl] at hxl; cases hxl
  ·exact r.LF i F x hF hx hxl
theorem Rel.same {P : Program} {w0 : World} {m : AP} {h h' : AB} {w : World} (r : Rel P w0 m h w) (hs : h'.size = h.size) (hg : ∀ i, h'.get i = h.get i) : Rel P w0 m h' w :=
 ⟨r.below, fun id E hE => by rw [hs]; exact r.KE id E hE, fun i F o hF ho => r.obj i F o hF (by rw [← hg]; exact ho), fun i F o hF ho => r.own i F o hF (by rw [← hg]; exact ho), fun i j F F' o o' hne h1 h2 g1 g2 => r.sep i j F F' o o' hne h1 h2 (by rw [← hg]; exact g1) (by rw [← hg]; exact g2), r.fz, fun i F o hF ho => r.GH i F o hF (by rw [← hg]; exact ho), r.df, fun i F o hF ho => r.LF i F o hF (by rw [← hg]; exact ho)⟩
theorem SC {a : AA} (h : Jq a = true) : DF a = true := by
 unfold Jq at h
 split at h <;> first | rfl | cases h
theorem Rel.U6 (r : Rel P w0 m h w) {id : Nat} {gr : Option TypeId} {cs cs' : List AA} (ho : h.get id = some (.cells gr 2 cs)) {m' : AP} {h' : AB} {w' : World} (hm : m.ext h.size m') (hh : ∀ k, k < h.size → k ≠ id → h'.get k = h.get k)
  (ho' : h'.get id = some (.cells gr 2 cs')) (hfl : cs'.all Jq = true) (r' : Rel P w0 m' h' w') : Rel P w0 (m.with m') (h.set id (.cells gr 2 cs')) w' := by
 have hle := r.Ia hm
 have hid := h.Ag ho
 have up : ∀ {i E}, m.i i = some E → m'.i i = some E := fun h => hle.i _ _ h
 have get' : ∀ i x, m.i i ≠ none → (h.set id (.cells gr 2 cs')).get i = some x → h'.get i = some x := fun i x hi hx => by
  by_cases e : i = id
  ·subst e; rw [h.get_set_same _ hid] at hx; rw [ho']; exact hx
  ·rw [h.Aj _ hid e] at hx
   cases hE : m.i i with
   | none => exact absurd hE hi
   | some E => rw [hh i (r.KE i E hE) e]; exact hx
 have G : ∀ {i E x}, m.i i = some E → (h.set id (.cells gr 2 cs')).get i = some x → h'.get i = some x := fun hE hx => get' _ _ (by rw [hE]; simp) hx
 refine ⟨r'.below, fun i E hE => by rw [h.size_set]; exact r.KE i E hE, fun i E x hE hx => ?_, fun i E x hE hx => r'.own i E x (up hE) (G hE hx), fun i i' E E' x x' hne h1 h2 g1 g2 => r'.sep i i' E E' x x' hne (up h1) (up h2) (G h1 g1) (G h2 g2), r'.fz, fun i E x hE hx => r'.GH i E x (up hE) (G hE hx), r'.df, fun i E x hE hx => r'.LF i E x (up hE) (G hE hx)⟩
 by_cases e : i = id
 ·subst e
  have hx' : x = .cells gr 2 cs' := by rw [h.get_set_same _ hid] at hx; injection hx with hx; exact hx.symm
  subst hx'
  obtain ⟨a1, a2⟩ := r'.obj i E _ (up hE) ho'
  refine ⟨⟨⟨a1.1.1, fun e => by cases e⟩, a1.2⟩, fun hst => ?_⟩
  obtain ⟨cur, e, fz, b1, b2, b3, b4⟩ := a2 hst
  refine ⟨cur, e, fz, b1, b2, fun j a ha => ?_, b4⟩
  obtain ⟨o1, c, hc, v1⟩ := b3 j a ha
  exact ⟨o1, c, hc, v1.DF (SC (List.all_eq_true.1 hfl a (List.mem_of_getElem? ha)))⟩
 ·have hx0 : h.get i = some x := by rw [h.Aj _ hid e] at hx; exact hx
  exact (r.obj i E x hE hx0).back hle (r'.obj i E x (up hE) (G hE hx))
theorem VR.OV {m' : AP} {n : Nat} (hm : ∀ i, i < n → m'.i i = m.i i) {x : AA} {v : Value} (h : VR m' x v) (ho : OV n x = true) : VR m x v := by
 unfold Av.OV at ho
 split at ho
 ·exact .undef _
 ·exact h.DF rfl
 ·exact h.DF rfl
 ·exact h.DF rfl
 ·exact h.DF rfl
 ·exact h.DF rfl
 ·exact h.DF rfl
 ·exact h.DF rfl
 ·exact h.DF rfl
 ·rename_i i o
  cases h with
  | ptr _ _ E hE => exact .ptr _ _ E (by rw [← hm i (by simpa using ho)]; exact hE)
 ·rename_i i o n'
  cases h with
  | slice _ _ _ cap E a hE hl hc => exact .slice _ _ _ cap E a (by rw [← hm i (by simpa using ho)]; exact hE) hl hc
 ·cases ho
theorem VR.Ki {m' : AP} {n : Nat} (hm : ∀ i, i < n → m'.i i = m.i i) {x : AA} {v : Value} (h : VR m' x v) (ho : Ki n x = true) : VR m x v := by
 unfold Av.Ki at ho
 split at ho
 ·rename_i cs
  cases h with
  | agg _ c hl hk => exact .agg _ _ hl fun i x y hx hy => (hk i x y hx hy).OV hm (List.all_eq_true.1 ho x (List.mem_of_getElem? hx))
 ·exact h.OV hm ho
theorem Cr (ks : List Nat) : ∀ (i : Nat) (fr : Fr), (C9 ks i fr).length = fr.length
 | _, [] => rfl
 | i, a :: l => by simp only [C9, List.length_cons, Cr ks (i + 1) l]
theorem Hm (ks : List Nat) : ∀ (i : Nat) (fr : Fr) (t : Nat), t < fr.length → nth (C9 ks i fr) t = bif ks.any (Nat.beq (i + t)) then nth fr t else .undef
 | i, [], t, h => by simp at h
 | i, a :: l, 0, _ => by simp only [C9, nth, Nat.add_zero]
 | i, a :: l, t + 1, h => by
  simp only [C9, nth]
  rw [Hm ks (i + 1) l t (by simpa using h), show i + 1 + t = i + (t + 1) by omega]
theorem MC {fr : Fr} {t : Nat} (h : fr.length ≤ t) : nth fr t = .tuple [] := by
 rw [FO, List.getD_eq_getElem?_getD, List.getElem?_eq_none h]; rfl
theorem FR.C9 {fr : Fr} {a : Act} (hf : FR m fr a) (ks : List Nat) : FR m (C9 ks 0 fr) a := by
 refine ⟨by rw [Cr]; exact hf.1, fun t => ?_⟩
 rcases Nat.lt_or_ge t fr.length with h | h
 ·rw [Hm ks 0 fr t h]
  cases ks.any (Nat.beq (0 + t)) with
  | true => exact hf.2 t
  | false => exact .undef _
 ·have := hf.2 t
  rw [MC h] at this
  rw [MC (by rw [Cr]; exact h)]
  exact this
theorem FR.FA {fr : Fr} {a : Act} {m' : AP} {n : Nat} (hf : FR m' fr a) (hm : ∀ i, i < n → m'.i i = m.i i) (ho : fr.all (Ki n) = true) : FR m fr a := by
 refine ⟨hf.1, fun t => ?_⟩
 rcases Nat.lt_or_ge t fr.length with h | h
 ·refine (hf.2 t).Ki hm (List.all_eq_true.1 ho _ ?_)
  rw [FO, List.getD_eq_getElem?_getD, List.getElem?_eq_getElem h]
  exact List.getElem_mem h
 ·have := hf.2 t
  rw [MC h] at this ⊢
  obtain ⟨c, hc, hv⟩ := this.FB
  have : c = #[] := by
   have := hv.1
   simp only [List.length_nil] at this
   exact Array.eq_empty_of_size_eq_zero (by simpa using this.symm)
  rw [hc, this]
  exact BI.tuple (BI.nil m)
theorem Ha {α : Type} {b : Bool} {x : Option α} {y : α} (h : (bif b then x else none) = some y) : b = true ∧ x = some y := by cases b <;> first | exact ⟨rfl, h⟩ | cases h
theorem ID {α β : Type} {rnd : α → β → Option (Bool × α)} : ∀ (l r : List β) {a b : α}, Cm rnd l a = some (false, b) → Cm rnd (l ++ r) a = Cm rnd r b
 | [], r, a, b, h => by simp only [Cm, Option.some.injEq, Prod.mk.injEq, true_and] at h; rw [h]; rfl
 | p :: l, r, a, b, h => by
  simp only [Cm, List.cons_append] at h ⊢
  cases hp : rnd a p with
  | none => rw [hp] at h; cases h
  | some x =>
   obtain ⟨c, y⟩ := x
   cases c with
   | true => rw [hp] at h; cases h
   | false => rw [hp] at h; exact ID l r h
theorem Ku {n : Nat} {vis : List Nat} (hn : vis.Nodup) (hm : ∀ i, i ∈ vis ↔ i < n) : vis.Perm (List.range n) := by
 rw [List.perm_ext_iff_of_nodup hn List.nodup_range]
 intro i
 rw [hm, List.mem_range]
theorem QO {n i0 : Nat} {vis : List Nat} (hn : vis.Nodup) (hm : ∀ i ∈ vis, i < n) (hi : i0 < n) (h0 : i0 ∉ vis) : ∃ os, (vis ++ i0 :: os).Perm (List.range n) := by
 refine ⟨(List.range n).filter fun i => decide (i ∉ vis ++ [i0]), Ku ?_ fun i => ?_⟩
 ·rw [List.nodup_append]
  refine ⟨hn, List.nodup_cons.2 ⟨fun h => ?_, List.nodup_range.filter _⟩, fun a ha b hb e => ?_⟩
  ·have := (List.mem_filter.1 h).2
   simp at this
  ·subst e
   rcases List.mem_cons.1 hb with rfl | hb
   ·exact h0 ha
   ·have := (List.mem_filter.1 hb).2
    simp [ha] at this
 ·simp only [List.mem_append, List.mem_cons, List.mem_filter, List.mem_range, decide_eq_true_eq, not_or, List.not_mem_nil, or_false]
  constructor
  ·rintro (h | rfl | h)
   ·exact hm i h
   ·exact hi
   ·exact h.1
  ·intro h
   by_cases h1 : i ∈ vis
   ·exact .inl h1
   ·by_cases h2 : i = i0
    ·exact .inr (.inl h2)
    ·exact .inr (.inr ⟨h, h1, h2⟩)
def QY (es : List (AA × AA)) (i : Nat) : AA × AA := (es[i]?).getD (.undef, .undef)
theorem O7 (es : List (AA × AA)) : (List.range es.length).map (QY es) = es := by
 refine List.ext_getElem (by simp) fun i h1 h2 => ?_
 simp [QY, List.getElem?_eq_getElem h2]
theorem HN (hh : AB) (ob : M8) (cs : List AA) : (C0 hh ob cs).size = hh.size := by
 unfold C0; split <;> simp
theorem Nu {hh : AB} {ob : M8} {cs cs' : List AA} (hob : ∀ id gr, ob = some (id, gr) → id < hh.size) {i : Nat} {o : Am} (h : (C0 hh ob cs').get i = some o) (hl : o.live = true) : ∃ o', (C0 hh ob cs).get i = some o' ∧ o'.live = true := by
 cases ob with
 | none => exact ⟨o, h, hl⟩
 | some p =>
  obtain ⟨id, gr⟩ := p
  have hid := hob id gr rfl
  by_cases e : i = id
  ·subst e
   exact ⟨_, AB.get_set_same _ _ hid, rfl⟩
  ·refine ⟨o, ?_, hl⟩
   show (hh.set id _).get i = _
   rw [AB.Aj _ _ hid e]
   have h' : (hh.set id (.cells gr 2 cs')).get i = some o := h
   rw [AB.Aj _ _ hid e] at h'
   exact h'
theorem Pm {n : Nat} {ob : M8} {i : Nat} (hi : i < n) (hne : ∀ id gr, ob = some (id, gr) → i ≠ id) : (QB n ob).may i = false := by
 unfold QB
 split
 ·have : Nat.ble n i = false := by
   cases hb : Nat.ble n i with
   | false => rfl
   | true => have := Nat.le_of_ble_eq_true hb; omega
  simp [Gd.may, this]
 ·rename_i id gr
  have hn := hne id gr rfl
  have : ((List.range n).filter fun k => !Nat.beq k id).any (Nat.beq i) = true := by
   rw [List.any_eq_true]
   refine ⟨i, List.mem_filter.2 ⟨List.mem_range.2 hi, ?_⟩, Nat.beq_refl i⟩
   cases hb : Nat.beq i id with
   | false => rfl
   | true => exact absurd (Nat.eq_of_beq_eq_true hb) hn
  simp [Gd.may, this]
theorem SF (hh : AB) {ob : M8} {cs cs' : List AA} {m' : AP} {h' : AB} {w' : World} (hob : ∀ id gr, ob = some (id, gr) → id < hh.size) (r : Rel P w0 m (C0 hh ob cs) w) (hm : m.ext hh.size m') (hk : AM (QB hh.size ob) (C0 hh ob cs) h') (ho : PW ob h' = some cs') (r' : Rel P w0 m' h' w') :
  Rel P w0 (m.with m') (C0 hh ob cs') w' ∧ (ob ≠ none → cs'.all Jq = true) := by
 cases ob with
 | none => exact ⟨r.back hm (fun id hid => hk.2 id hid (Pm hid fun _ _ e => by cases e)) r', fun h => absurd rfl h⟩
 | some p =>
  obtain ⟨id, gr⟩ := p
  have hid := hob id gr rfl
  unfold PW at ho
  simp only at ho
  split at ho
  ·rename_i gr' cs1 hg
   split at ho
   ·rename_i hc
    obtain ⟨hgr, hfl⟩ := hc
    cases hgr
    cases ho
    have h0 : (C0 hh (some (id, gr)) cs).get id = some (.cells gr 2 cs) := AB.get_set_same _ _ hid
    have hs := HN hh (some (id, gr)) cs
    refine ⟨(r.U6 h0 (by rw [hs]; exact hm) (fun k hk1 hne => hk.2 k hk1 (Pm (by rw [hs] at hk1; exact hk1) fun _ _ e => by cases e; exact hne)) hg hfl r').same (by simp [C0]) fun i => ?_, fun _ => hfl⟩
    show (hh.set id _).get i = ((hh.set id _).set id _).get i
    by_cases e : i = id
    ·subst e
     rw [AB.get_set_same _ _ hid, AB.get_set_same _ _ (by simpa using hid)]
    ·rw [AB.Aj _ _ hid e, AB.Aj _ _ (by simpa using hid) e, AB.Aj _ _ hid e]
   ·cases ho
  ·cases ho
theorem Fk {ks : List Nat} {n : Nat} {ob : M8} {fr : Fr} {h : AB} {r : Bool} {x : Bool × Fr × List AA} (hx : Oo ks n ob fr h r = some x) : (C9 ks 0 fr).all (Ki n) = true ∧ x.1 = r ∧ x.2.1 = C9 ks 0 fr ∧ PW ob h = some x.2.2 := by
 unfold Oo at hx
 cases ha : (C9 ks 0 fr).all (Ki n) with
 | false => rw [ha] at hx; cases hx
 | true =>
  rw [ha] at hx
  simp only [cond_true, Option.map_eq_some_iff] at hx
  obtain ⟨cs, h1, rfl⟩ := hx
  exact ⟨rfl, rfl, rfl, h1⟩
theorem MZ {it : Nat} {v : AA} (h : LS it v = true) : v = .ptr (some (it, 0)) := by
 unfold LS at h
 split at h
 ·simp only [Bool.and_eq_true] at h
  rw [Nat.eq_of_beq_eq_true h.1, Nat.eq_of_beq_eq_true h.2]
 ·cases h
theorem HF {ks : List Nat} {fr : Fr} {t : Nat} (ht : t < fr.length) (hk : ks.any (Nat.beq t) = false) : nth (C9 ks 0 fr) t = .undef := by
 rw [Hm ks 0 fr t ht, Nat.zero_add, hk]; rfl
end
end Go.Av
