/-
 A part.
-/
import Derived.Test.YtdbkpibbjnhmgaaDoorAvDraw
import Derived.Maps.RangeRun
import Derived.Maps.Range
namespace Go.Av
open Go.RowKit Go.ChangeMaps
set_option linter.unusedVariables false
set_option linter.unusedSimpArgs false
theorem K2 {c : Code} {q : ON} (h : RN c = some q) : q.b ≠ q.b2 ∧ ∃ i8 i9 i10, c = .seq (.region i8 q.o8 false) (.block q.b (.loop (.seq (.region i9 q.o9 false) (.seq (.cond (.tmp q.tb) .skip (.exit q.b)) (.block q.b2 (.seq (.region i10 q.Of false) q.body)))))) := by
 unfold RN at h
 split at h
 ·rename_i i8 o8 b i9 o9 tb b' b2 i10 Of body
  cases hb : (Nat.beq b b' && !Nat.beq b b2) with
  | false => rw [hb] at h; cases h
  | true =>
   rw [hb] at h
   cases h
   simp only [Bool.and_eq_true, Bool.not_eq_true'] at hb
   obtain ⟨e1, e2⟩ := hb
   have e1' := Nat.eq_of_beq_eq_true e1
   subst e1'
   refine ⟨fun e => ?_, i8, i9, i10, rfl⟩
   have e' : b = b2 := e
   rw [e', Nat.beq_refl] at e2
   cases e2
 ·cases h
section
variable {C : EP} {S : Self} {w0 : World} {m : AU} {h : AB} {w : World}
theorem Hw (hS : Fe C.P C.CM S) (hz : BO C.CM w0) {g : Gd} {ops : Array Oper} {Q : Exit → Act → World → Prop} {l2 : List Oper} : ∀ (l : List Oper) {m : AU} {h : AB} {w : World} {fr fr' : Fr} {h' : AB} {a : Act},
  Rel C.P w0 m h w → FR m fr a → DI C S g ops l fr h = some (fr', h') →
  ∀ rd : Option Nat, (∀ m' a' w', (m.ext h.size m') → Rel C.P w0 m' h' w' → FR m' fr' a' → a'.defers = a.defers → wpListIn (FW rd) 0 C.P ops Q l2 a' w') → wpListIn (FW rd) 0 C.P ops Q (l ++ l2) a w
 | [], m, h, w, fr, fr', h', a, r, hf, hr, rd, hQ => by
  simp only [DI, Option.some.injEq, Prod.mk.injEq] at hr
  obtain ⟨rfl, rfl⟩ := hr
  exact hQ m a w (AU.ext.refl _ _) r hf rfl
 | o :: rest, m, h, w, fr, fr', h', a, r, hf, hr, rd, hQ => by
  unfold DI at hr
  split at hr
  ·rename_i hw
   split at hr
   ·rename_i v h1 hs
    have hk := GD hS hs
    have hwant := DZ hf hw
    rw [List.cons_append]
    unfold wpListIn
    rw [if_pos hwant]
    refine HT hS hz r hf hs (fun m1 v1 w1 e1 e2 e3 => ?_) rd
    refine Hw hS hz rest e2 (FR.put (hf.mono (r.Jh e1)) o.dst e3) hr rd (fun m' a' w' g1 g2 g3 g4 => hQ m' a' w' (e1.trans g1 hk.1) g2 g3 ?_)
    rw [g4, BD]
   ·cases hr
  ·rename_i hw
   have hwant := DZ hf hw
   rw [List.cons_append]
   unfold wpListIn
   rw [if_neg (by rw [hwant]; simp)]
   exact ⟨fun _ _ => trivial, Hw hS hz rest r (FR.put hf o.dst (VR.Dr m)) hr rd (fun m' a' w' g1 g2 g3 g4 => hQ m' a' w' g1 g2 g3 (by rw [g4, BD]))⟩
  ·cases hr
theorem EX {P : Program} {o : Oper} {a : Act} {w w' : World} {v : Value} {K : Act → World → Prop} {Q : Exit → Act → World → Prop} (hop : ∀ c, o.op ≠ .defer c) (h1 : (execOp a.eval o).run P w = .ok (.value v) w') (rd : Option Nat) (hK : K (a.put o.dst v) w') : o.wpIn (FW rd) 0 P a w K Q := by
 refine ⟨fun _ _ => trivial, ?_⟩
 rw [Oper.semAt_eq _ _ _ hop, h1]
 exact hK
theorem Rel.iter {P : Program} (r : Rel P w0 m h w) {w2 : World} {it : Nat} (ht : Ch w w2 it) (hit : w0.heap.size ≤ it) (hl : ∀ id F o, m.i id = some F → h.get id = some o → o.live = true → F.g ≠ it) (hf : ∀ g o v, m.fz g o = some v → g ≠ it) (hd : ∀ g x, m.df g x → g ≠ it) : Rel P w0 m h w2 := by
 refine ⟨ht.below r.below r.size hit, r.Ku, fun id F o hF ho => (r.obj id F o hF ho).mono (AU.le_refl m) fun hlv => ht.block _ ((r.obj id F o hF ho).lt hlv) (hl id F o hF ho hlv), r.own, r.sep, fun g o v hv => ?_, r.GX, fun g x hg => ⟨(r.df g x hg).1, ?_⟩, r.ME⟩
 ·obtain ⟨cur, e, z, h1, h2⟩ := r.fz g o v hv
  exact ⟨cur, e, z, by rw [ht.block g (r.Ml hv) (hf g o v hv)]; exact h1, h2⟩
 ·rw [ht.block g (r.IU hg) (hd g x hg)]; exact (r.df g x hg).2
theorem Q3 {o9 : Array Oper} {tI tb tn : Tmp} (hh : Sr o9 tI tb = some tn) : ∃ n x, o9.toList = [n, x] ∧ n.op = .next (.tmp tI) false ∧ n.dst = some tn ∧ n.guard = none ∧ x.op = .extract (.tmp tn) 0 ∧ x.dst = some tb ∧ x.guard = none ∧ tn ≠ tI ∧ tb ≠ tI := by
 unfold Sr at hh
 split at hh
 ·rename_i n x hl
  split at hh
  ·rename_i t tn1 tn2 tb2 e1 e2 e3 e4 e5 e6
   cases hb : (Nat.beq t tI && Nat.beq tn1 tn2 && Nat.beq tb tb2 && !Nat.beq tn1 tI && !Nat.beq tb tI) with
   | false => rw [hb] at hh; cases hh
   | true =>
    rw [hb] at hh
    cases hh
    simp only [Bool.and_eq_true, Bool.not_eq_true'] at hb
    obtain ⟨⟨⟨⟨h1, h2⟩, h3⟩, h4⟩, h5⟩ := hb
    have h1 := Nat.eq_of_beq_eq_true h1
    have h2 := Nat.eq_of_beq_eq_true h2
    have h3 := Nat.eq_of_beq_eq_true h3
    refine ⟨n, x, hl, by rw [e1, h1], e2, e3, by rw [e4, h2], by rw [e5, h3], e6, fun e => ?_, fun e => ?_⟩
    ·rw [e, Nat.beq_refl] at h4; cases h4
    ·rw [e, Nat.beq_refl] at h5; cases h5
  ·cases hh
 ·cases hh
theorem Qp {Of : Array Oper} {tI te : Tmp} {rest : List Oper} (hh : TL Of tI = some (te, rest)) : ∃ n, Of.toList = n :: rest ∧ n.op = .entry (.tmp tI) ∧ n.dst = some te ∧ n.guard = none := by
 unfold TL at hh
 split at hh
 ·rename_i n rest' hl
  split at hh
  ·rename_i t te' e1 e2 e3
   cases hb : (Nat.beq t tI && !Nat.beq te' tI) with
   | false => rw [hb] at hh; cases hh
   | true =>
    rw [hb] at hh
    cases hh
    simp only [Bool.and_eq_true] at hb
    exact ⟨n, hl, by rw [e1, Nat.eq_of_beq_eq_true hb.1], e2, e3⟩
  ·cases hh
 ·cases hh
theorem FR.K9 {fr : Fr} {a : Act} (hf : FR m fr a) {t : Tmp} (hu : nth fr t = .undef) (v : Value) : FR m fr (a.put (some t) v) := by
 refine ⟨by rw [hf.1]; exact (size_put a (some t) v).symm, fun i => ?_⟩
 by_cases e : i = t
 ·subst e; rw [hu]; exact .undef _
 ·have : (a.put (some t) v).tmps.getD i undef = a.tmps.getD i undef := by
   simp [Act.put, Array.getD_eq_getD_getElem?, Array.getElem?_setIfInBounds_ne (Ne.symm e)]
  rw [this]
  exact hf.2 i
end
theorem Lo {α : Type} : ∀ {l : List α} {x : α}, l.getLast? = some x → l = l.dropLast ++ [x]
 | [], x, h => by cases h
 | [a], x, h => by cases h; rfl
 | a :: b :: l, x, h => by
  have h' : (b :: l).getLast? = some x := by rw [List.getLast?_cons_cons] at h; exact h
  have := Lo h'
  rw [List.dropLast_cons_cons, List.cons_append, ← this]
theorem VR.MC {m : AU} {id o : Nat} {v : Value} (h : VR m (.ptr (some (id, o))) v) : ∃ E, m.i id = some E ∧ v = .pointer (some ⟨E.g, E.base + o, none⟩) := by
 cases h with
 | ptr _ _ E hE => exact ⟨E, hE, rfl⟩
theorem CS {a : Act} {t : Tmp} {v : Value} (ht : t < a.tmps.size) : (a.put (some t) v).eval (.tmp t) = v := by
 show (a.tmps.setIfInBounds t v).getD t undef = v
 simp [Array.getD_eq_getD_getElem?, ht]
theorem Qt {ents : Array MapEntry} (hn : (ents.toList.map (·.born)).Nodup) {i j : Nat} {x y : MapEntry} (hx : ents[i]? = some x) (hy : ents[j]? = some y) (e : x.born = y.born) : i = j := by
 obtain ⟨hi, ei⟩ := Array.getElem?_eq_some_iff.1 hx
 obtain ⟨hj, ej⟩ := Array.getElem?_eq_some_iff.1 hy
 rw [List.Nodup, List.pairwise_iff_getElem] at hn
 have key : ∀ i j (hi : i < ents.size) (hj : j < ents.size), i < j → ents[i].born ≠ ents[j].born := fun i j hi hj hlt => by
  have := hn i j (by simpa using hi) (by simpa using hj) hlt
  simpa using this
 rcases Nat.lt_trichotomy i j with h | h | h
 ·exact absurd (by rw [ei, ej]; exact e) (key i j hi hj h)
 ·exact h
 ·exact absurd (by rw [ei, ej]; exact e.symm) (key j i hj hi h)
section
variable {P : Program} {w0 : World} {m : AU} {h : AB} {w : World}
theorem Rel.US (r : Rel P w0 m h w) (d : Nat → Obj → Prop) (h1 : ∀ g x, d g x → w0.heap.size ≤ g ∧ w.heap[g]? = some x) (h2 : ∀ id E o, m.i id = some E → h.get id = some o → o.live = true → ∀ x, ¬ d E.g x) : Rel P w0 ⟨m.i, m.fz, d⟩ h w :=
 ⟨r.below, r.Ku, fun id E o hE ho => (r.obj id E o hE ho).mono (m := m) ⟨fun _ _ h => h, fun _ _ _ h => h⟩ fun _ => rfl, r.own, r.sep, r.fz, r.GX, h1, h2⟩
theorem FR.US {fr : Fr} {a : Act} (hf : FR m fr a) (d : Nat → Obj → Prop) : FR ⟨m.i, m.fz, d⟩ fr a := FR.mono (m := m) (m' := ⟨m.i, m.fz, d⟩) ⟨fun _ _ h => h, fun _ _ _ h => h⟩ hf
theorem Rel.dead (r : Rel P w0 m h w) {id : Nat} {o o' : A9} (ho : h.get id = some o) (hl : o'.live = false) (hob : ∀ E, m.i id = some E → G9 P m w E o') : Rel P w0 m (h.set id o') w := by
 have hid := h.An ho
 have get' : ∀ i x, (h.set id o').get i = some x → (i = id ∧ x = o') ∨ (i ≠ id ∧ h.get i = some x) := fun i x hx => by
  by_cases e : i = id
  ·subst e; rw [h.get_set_same o' hid] at hx; injection hx with hx; exact .inl ⟨rfl, hx.symm⟩
  ·rw [h.Ar o' hid e] at hx; exact .inr ⟨e, hx⟩
 have hno : ∀ {x : A9}, x = o' → x.own = true → False := fun e hx => by
  have := A9.EN hx
  rw [e, hl] at this
  cases this
 refine ⟨r.below, r.Ku, fun i F x hF hx => ?_, fun i F x hF hx hxo => ?_, fun i i' F F' x x' hne h1 h2 g1 g2 a b => ?_, r.fz, fun i F x hF hx hxo => ?_, r.df, fun i F x hF hx hxl => ?_⟩
 ·rcases get' i x hx with ⟨rfl, rfl⟩ | ⟨hi, hx⟩
  ·exact hob F hF
  ·exact r.obj i F x hF hx
 ·rcases get' i x hx with ⟨rfl, e⟩ | ⟨hi, hx⟩
  ·exact (hno e hxo).elim
  ·exact r.own i F x hF hx hxo
 ·rcases get' i x g1 with ⟨rfl, e⟩ | ⟨hi, hx⟩
  ·exact (hno e a).elim
  ·rcases get' i' x' g2 with ⟨rfl, rfl⟩ | ⟨hi', hx'⟩
   ·rw [hl] at b; cases b
   ·exact r.sep i i' F F' x x' hne h1 h2 hx hx' a b
 ·rcases get' i x hx with ⟨rfl, e⟩ | ⟨hi, hx⟩
  ·exact (hno e hxo).elim
  ·exact r.GX i F x hF hx hxo
 ·rcases get' i x hx with ⟨rfl, rfl⟩ | ⟨hi, hx⟩
  ·rw [hl] at hxl; cases hxl
  ·exact r.ME i F x hF hx hxl
theorem Rel.same {P : Program} {w0 : World} {m : AU} {h h' : AB} {w : World} (r : Rel P w0 m h w) (hs : h'.size = h.size) (hg : ∀ i, h'.get i = h.get i) : Rel P w0 m h' w :=
 ⟨r.below, fun id E hE => by rw [hs]; exact r.Ku id E hE, fun i F o hF ho => r.obj i F o hF (by rw [← hg]; exact ho), fun i F o hF ho => r.own i F o hF (by rw [← hg]; exact ho), fun i j F F' o o' hne h1 h2 g1 g2 => r.sep i j F F' o o' hne h1 h2 (by rw [← hg]; exact g1) (by rw [← hg]; exact g2), r.fz, fun i F o hF ho => r.GX i F o hF (by rw [← hg]; exact ho), r.df, fun i F o hF ho => r.ME i F o hF (by rw [← hg]; exact ho)⟩
theorem T7 {a : AA} (h : Km a = true) : DW a = true := by
 unfold Km at h
 split at h <;> first | rfl | cases h
theorem Rel.WT (r : Rel P w0 m h w) {id : Nat} {gr : Option TypeId} {cs cs' : List AA} (ho : h.get id = some (.cells gr 2 cs)) {m' : AU} {h' : AB} {w' : World} (hm : m.ext h.size m') (hh : ∀ k, k < h.size → k ≠ id → h'.get k = h.get k)
  (ho' : h'.get id = some (.cells gr 2 cs')) (hfl : cs'.all Km = true) (r' : Rel P w0 m' h' w') : Rel P w0 (m.with m') (h.set id (.cells gr 2 cs')) w' := by
 have hle := r.Jh hm
 have hid := h.An ho
 have up : ∀ {i E}, m.i i = some E → m'.i i = some E := fun h => hle.i _ _ h
 have get' : ∀ i x, m.i i ≠ none → (h.set id (.cells gr 2 cs')).get i = some x → h'.get i = some x := fun i x hi hx => by
  by_cases e : i = id
  ·subst e; rw [h.get_set_same _ hid] at hx; rw [ho']; exact hx
  ·rw [h.Ar _ hid e] at hx
   cases hE : m.i i with
   | none => exact absurd hE hi
   | some E => rw [hh i (r.Ku i E hE) e]; exact hx
 have G : ∀ {i E x}, m.i i = some E → (h.set id (.cells gr 2 cs')).get i = some x → h'.get i = some x := fun hE hx => get' _ _ (by rw [hE]; simp) hx
 refine ⟨r'.below, fun i E hE => by rw [h.size_set]; exact r.Ku i E hE, fun i E x hE hx => ?_, fun i E x hE hx => r'.own i E x (up hE) (G hE hx), fun i i' E E' x x' hne h1 h2 g1 g2 => r'.sep i i' E E' x x' hne (up h1) (up h2) (G h1 g1) (G h2 g2), r'.fz, fun i E x hE hx => r'.GX i E x (up hE) (G hE hx), r'.df, fun i E x hE hx => r'.ME i E x (up hE) (G hE hx)⟩
 by_cases e : i = id
 ·subst e
  have hx' : x = .cells gr 2 cs' := by rw [h.get_set_same _ hid] at hx; injection hx with hx; exact hx.symm
  subst hx'
  obtain ⟨a1, a2⟩ := r'.obj i E _ (up hE) ho'
  refine ⟨⟨⟨a1.1.1, fun e => by cases e⟩, a1.2⟩, fun hst => ?_⟩
  obtain ⟨cur, e, fz, b1, b2, b3, b4⟩ := a2 hst
  refine ⟨cur, e, fz, b1, b2, fun j a ha => ?_, b4⟩
  obtain ⟨o1, c, hc, v1⟩ := b3 j a ha
  exact ⟨o1, c, hc, v1.DW (T7 (List.all_eq_true.1 hfl a (List.mem_of_getElem? ha)))⟩
 ·have hx0 : h.get i = some x := by rw [h.Ar _ hid e] at hx; exact hx
  exact (r.obj i E x hE hx0).back hle (r'.obj i E x (up hE) (G hE hx))
theorem VR.QG {m' : AU} {n : Nat} (hm : ∀ i, i < n → m'.i i = m.i i) {x : AA} {v : Value} (h : VR m' x v) (ho : QG n x = true) : VR m x v := by
 unfold Av.QG at ho
 split at ho
 ·exact .undef _
 ·exact h.DW rfl
 ·exact h.DW rfl
 ·exact h.DW rfl
 ·exact h.DW rfl
 ·exact h.DW rfl
 ·exact h.DW rfl
 ·exact h.DW rfl
 ·exact h.DW rfl
 ·rename_i i o
  cases h with
  | ptr _ _ E hE => exact .ptr _ _ E (by rw [← hm i (by simpa using ho)]; exact hE)
 ·rename_i i o n'
  cases h with
  | slice _ _ _ cap E a hE hl hc => exact .slice _ _ _ cap E a (by rw [← hm i (by simpa using ho)]; exact hE) hl hc
 ·cases ho
theorem VR.Lj {m' : AU} {n : Nat} (hm : ∀ i, i < n → m'.i i = m.i i) {x : AA} {v : Value} (h : VR m' x v) (ho : Lj n x = true) : VR m x v := by
 unfold Av.Lj at ho
 split at ho
 ·rename_i cs
  cases h with
  | agg _ c hl hk => exact .agg _ _ hl fun i x y hx hy => (hk i x y hx hy).QG hm (List.all_eq_true.1 ho x (List.mem_of_getElem? hx))
 ·exact h.QG hm ho
theorem DE (ks : List Nat) : ∀ (i : Nat) (fr : Fr), (DS ks i fr).length = fr.length
 | _, [] => rfl
 | i, a :: l => by simp only [DS, List.length_cons, DE ks (i + 1) l]
theorem IY (ks : List Nat) : ∀ (i : Nat) (fr : Fr) (t : Nat), t < fr.length → nth (DS ks i fr) t = bif ks.any (Nat.beq (i + t)) then nth fr t else .undef
 | i, [], t, h => by simp at h
 | i, a :: l, 0, _ => by simp only [DS, nth, Nat.add_zero]
 | i, a :: l, t + 1, h => by
  simp only [DS, nth]
  rw [IY ks (i + 1) l t (by simpa using h), show i + 1 + t = i + (t + 1) by omega]
theorem Nc {fr : Fr} {t : Nat} (h : fr.length ≤ t) : nth fr t = .tuple [] := by
 rw [FE, List.getD_eq_getElem?_getD, List.getElem?_eq_none h]; rfl
theorem FR.DS {fr : Fr} {a : Act} (hf : FR m fr a) (ks : List Nat) : FR m (DS ks 0 fr) a := by
 refine ⟨by rw [DE]; exact hf.1, fun t => ?_⟩
 rcases Nat.lt_or_ge t fr.length with h | h
 ·rw [IY ks 0 fr t h]
  cases ks.any (Nat.beq (0 + t)) with
  | true => exact hf.2 t
  | false => exact .undef _
 ·have := hf.2 t
  rw [Nc h] at this
  rw [Nc (by rw [DE]; exact h)]
  exact this
theorem FR.FY {fr : Fr} {a : Act} {m' : AU} {n : Nat} (hf : FR m' fr a) (hm : ∀ i, i < n → m'.i i = m.i i) (ho : fr.all (Lj n) = true) : FR m fr a := by
 refine ⟨hf.1, fun t => ?_⟩
 rcases Nat.lt_or_ge t fr.length with h | h
 ·refine (hf.2 t).Lj hm (List.all_eq_true.1 ho _ ?_)
  rw [FE, List.getD_eq_getElem?_getD, List.getElem?_eq_getElem h]
  exact List.getElem_mem h
 ·have := hf.2 t
  rw [Nc h] at this ⊢
  obtain ⟨c, hc, hv⟩ := this.FV
  have : c = #[] := by
   have := hv.1
   simp only [List.length_nil] at this
   exact Array.eq_empty_of_size_eq_zero (by simpa using this.symm)
  rw [hc, this]
  exact BU.tuple (BU.nil m)
theorem IC {α : Type} {b : Bool} {x : Option α} {y : α} (h : (bif b then x else none) = some y) : b = true ∧ x = some y := by cases b <;> first | exact ⟨rfl, h⟩ | cases h
theorem It {α β : Type} {rnd : α → β → Option (Bool × α)} : ∀ (l r : List β) {a b : α}, C9 rnd l a = some (false, b) → C9 rnd (l ++ r) a = C9 rnd r b
 | [], r, a, b, h => by simp only [C9, Option.some.injEq, Prod.mk.injEq, true_and] at h; rw [h]; rfl
 | p :: l, r, a, b, h => by
  simp only [C9, List.cons_append] at h ⊢
  cases hp : rnd a p with
  | none => rw [hp] at h; cases h
  | some x =>
   obtain ⟨c, y⟩ := x
   cases c with
   | true => rw [hp] at h; cases h
   | false => rw [hp] at h; exact It l r h
theorem JB {n : Nat} {vis : List Nat} (hn : vis.Nodup) (hm : ∀ i, i ∈ vis ↔ i < n) : vis.Perm (List.range n) := by
 rw [List.perm_ext_iff_of_nodup hn List.nodup_range]
 intro i
 rw [hm, List.mem_range]
theorem Ro {n i0 : Nat} {vis : List Nat} (hn : vis.Nodup) (hm : ∀ i ∈ vis, i < n) (hi : i0 < n) (h0 : i0 ∉ vis) : ∃ os, (vis ++ i0 :: os).Perm (List.range n) := by
 refine ⟨(List.range n).filter fun i => decide (i ∉ vis ++ [i0]), JB ?_ fun i => ?_⟩
 ·rw [List.nodup_append]
  refine ⟨hn, List.nodup_cons.2 ⟨fun h => ?_, List.nodup_range.filter _⟩, fun a ha b hb e => ?_⟩
  ·have := (List.mem_filter.1 h).2
   simp at this
  ·subst e
   rcases List.mem_cons.1 hb with rfl | hb
   ·exact h0 ha
   ·have := (List.mem_filter.1 hb).2
    simp [ha] at this
 ·simp only [List.mem_append, List.mem_cons, List.mem_filter, List.mem_range, decide_eq_true_eq, not_or, List.not_mem_nil, or_false]
  constructor
  ·rintro (h | rfl | h)
   ·exact hm i h
   ·exact hi
   ·exact h.1
  ·intro h
   by_cases h1 : i ∈ vis
   ·exact .inl h1
   ·by_cases h2 : i = i0
    ·exact .inr (.inl h2)
    ·exact .inr (.inr ⟨h, h1, h2⟩)
def PF (es : List (AA × AA)) (i : Nat) : AA × AA := (es[i]?).getD (.undef, .undef)
theorem M9 (es : List (AA × AA)) : (List.range es.length).map (PF es) = es := by
 refine List.ext_getElem (by simp) fun i h1 h2 => ?_
 simp [PF, List.getElem?_eq_getElem h2]
theorem HV (hh : AB) (ob : N0) (cs : List AA) : (DM hh ob cs).size = hh.size := by
 unfold DM; split <;> simp
theorem OK {hh : AB} {ob : N0} {cs cs' : List AA} (hob : ∀ id gr, ob = some (id, gr) → id < hh.size) {i : Nat} {o : A9} (h : (DM hh ob cs').get i = some o) (hl : o.live = true) : ∃ o', (DM hh ob cs).get i = some o' ∧ o'.live = true := by
 cases ob with
 | none => exact ⟨o, h, hl⟩
 | some p =>
  obtain ⟨id, gr⟩ := p
  have hid := hob id gr rfl
  by_cases e : i = id
  ·subst e
   exact ⟨_, AB.get_set_same _ _ hid, rfl⟩
  ·refine ⟨o, ?_, hl⟩
   show (hh.set id _).get i = _
   rw [AB.Ar _ _ hid e]
   have h' : (hh.set id (.cells gr 2 cs')).get i = some o := h
   rw [AB.Ar _ _ hid e] at h'
   exact h'
theorem Q6 {n : Nat} {ob : N0} {i : Nat} (hi : i < n) (hne : ∀ id gr, ob = some (id, gr) → i ≠ id) : (Rq n ob).may i = false := by
 unfold Rq
 split
 ·have : Nat.ble n i = false := by
   cases hb : Nat.ble n i with
   | false => rfl
   | true => have := Nat.le_of_ble_eq_true hb; omega
  simp [Gd.may, this]
 ·rename_i id gr
  have hn := hne id gr rfl
  have : ((List.range n).filter fun k => !Nat.beq k id).any (Nat.beq i) = true := by
   rw [List.any_eq_true]
   refine ⟨i, List.mem_filter.2 ⟨List.mem_range.2 hi, ?_⟩, Nat.beq_refl i⟩
   cases hb : Nat.beq i id with
   | false => rfl
   | true => exact absurd (Nat.eq_of_beq_eq_true hb) hn
  simp [Gd.may, this]
theorem Ti (hh : AB) {ob : N0} {cs cs' : List AA} {m' : AU} {h' : AB} {w' : World} (hob : ∀ id gr, ob = some (id, gr) → id < hh.size) (r : Rel P w0 m (DM hh ob cs) w) (hm : m.ext hh.size m') (hk : AN (Rq hh.size ob) (DM hh ob cs) h') (ho : QN ob h' = some cs') (r' : Rel P w0 m' h' w') :
  Rel P w0 (m.with m') (DM hh ob cs') w' ∧ (ob ≠ none → cs'.all Km = true) := by
 cases ob with
 | none => exact ⟨r.back hm (fun id hid => hk.2 id hid (Q6 hid fun _ _ e => by cases e)) r', fun h => absurd rfl h⟩
 | some p =>
  obtain ⟨id, gr⟩ := p
  have hid := hob id gr rfl
  unfold QN at ho
  simp only at ho
  split at ho
  ·rename_i gr' cs1 hg
   split at ho
   ·rename_i hc
    obtain ⟨hgr, hfl⟩ := hc
    cases hgr
    cases ho
    have h0 : (DM hh (some (id, gr)) cs).get id = some (.cells gr 2 cs) := AB.get_set_same _ _ hid
    have hs := HV hh (some (id, gr)) cs
    refine ⟨(r.WT h0 (by rw [hs]; exact hm) (fun k hk1 hne => hk.2 k hk1 (Q6 (by rw [hs] at hk1; exact hk1) fun _ _ e => by cases e; exact hne)) hg hfl r').same (by simp [DM]) fun i => ?_, fun _ => hfl⟩
    show (hh.set id _).get i = ((hh.set id _).set id _).get i
    by_cases e : i = id
    ·subst e
     rw [AB.get_set_same _ _ hid, AB.get_set_same _ _ (by simpa using hid)]
    ·rw [AB.Ar _ _ hid e, AB.Ar _ _ (by simpa using hid) e, AB.Ar _ _ hid e]
   ·cases ho
  ·cases ho
theorem F3 {ks : List Nat} {n : Nat} {ob : N0} {fr : Fr} {h : AB} {r : Bool} {x : Bool × Fr × List AA} (hx : QH ks n ob fr h r = some x) : (DS ks 0 fr).all (Lj n) = true ∧ x.1 = r ∧ x.2.1 = DS ks 0 fr ∧ QN ob h = some x.2.2 := by
 unfold QH at hx
 cases ha : (DS ks 0 fr).all (Lj n) with
 | false => rw [ha] at hx; cases hx
 | true =>
  rw [ha] at hx
  simp only [cond_true, Option.map_eq_some_iff] at hx
  obtain ⟨cs, h1, rfl⟩ := hx
  exact ⟨rfl, rfl, rfl, h1⟩
theorem Nt {it : Nat} {v : AA} (h : J8 it v = true) : v = .ptr (some (it, 0)) := by
 unfold J8 at h
 split at h
 ·simp only [Bool.and_eq_true] at h
  rw [Nat.eq_of_beq_eq_true h.1, Nat.eq_of_beq_eq_true h.2]
 ·cases h
theorem Hj {ks : List Nat} {fr : Fr} {t : Nat} (ht : t < fr.length) (hk : ks.any (Nat.beq t) = false) : nth (DS ks 0 fr) t = .undef := by
 rw [IY ks 0 fr t ht, Nat.zero_add, hk]; rfl
end
end Go.Av
