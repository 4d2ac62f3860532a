/-
  ABS, 3: how an abstract heap stands to a world ('Rel'), and what keeps that: a new object, a write into an object of the run's own, an object that dies.
-/
import Derived.Test.YtdpebdaplhfbjaaGreatDoorAvRel
namespace Go.Av
open Go.RowKit
def AObj.live : AObj → Bool
 | .cells _ st _ => st != 0
 | .map st _ => st != 0
 | .iter _ _ => true
 | .loop .. => true
 | .chan .. => true
def AObj.own : AObj → Bool
 | .cells _ st _ => st == 2
 | .map st _ => st == 2
 | .iter _ _ => true
 | .loop .. => true
 | .chan .. => true
theorem AObj.live_of_own {o : AObj} (h : o.own = true) : o.live = true := by
 cases o <;> simp [AObj.own, AObj.live] at * <;> omega
def eszOf (P : Program) : Option TypeId → Nat
 | some e => P.cellsOf e
 | none => 0
def stOf : Nat → LoopState
 | 0 => .ready
 | 1 => .busy
 | 2 => .done
 | _ => .exhausted
def strK (e : MapEntry) : Option ByteArray :=
 match e.key with
 | .string s => some s
 | _ => none
def MapOk (ents : Array MapEntry) (clock : Nat) : Prop := (∀ x ∈ ents.toList, x.born < clock) ∧ (ents.toList.map (·.born)).Nodup ∧ (ents.toList.filterMap strK).Nodup
theorem MapOk.nil : MapOk #[] 0 := ⟨by simp, by simp, by simp⟩
theorem MapOk.push {ents : Array MapEntry} {clock : Nat} (h : MapOk ents clock) {k v : Value} (hk : ∀ s, k = .string s → s ∉ ents.toList.filterMap strK) : MapOk (ents.push { key := k, val := v, born := clock }) (clock + 1) := by
 obtain ⟨h1, h2, h3⟩ := h
 refine ⟨fun x hx => ?_, ?_, ?_⟩
 ·rw [Array.toList_push, List.mem_append] at hx
  rcases hx with hx | hx
  ·have := h1 x hx; omega
  ·simp at hx; subst hx; exact Nat.lt_succ_self _
 ·rw [Array.toList_push, List.map_append, List.nodup_append]
  refine ⟨h2, by simp, fun a ha b hb => ?_⟩
  obtain ⟨x, hx, rfl⟩ := List.mem_map.1 ha
  simp at hb; subst hb
  have := h1 x hx; omega
 ·rw [Array.toList_push, List.filterMap_append, List.nodup_append]
  refine ⟨h3, ?_, fun a ha b hb => ?_⟩
  ·cases e : strK { key := k, val := v, born := clock } <;> simp [e]
  ·cases k <;> simp [strK] at hb
   subst hb
   rintro rfl
   exact hk _ rfl ha
theorem MapOk.erase {ents : Array MapEntry} {clock : Nat} (h : MapOk ents clock) (i : Nat) : MapOk (ents.eraseIdxIfInBounds i) clock := by
 have hs : (ents.eraseIdxIfInBounds i).toList.Sublist ents.toList := by
  unfold Array.eraseIdxIfInBounds
  split
  ·simp only [Array.toList_eraseIdx]; exact List.eraseIdx_sublist _ _
  ·exact List.Sublist.refl _
 exact ⟨fun x hx => h.1 x (hs.subset hx), List.Nodup.sublist (hs.map _) h.2.1, List.Nodup.sublist (hs.filterMap _) h.2.2⟩
theorem MapOk.modify {ents : Array MapEntry} {clock : Nat} (h : MapOk ents clock) {i : Nat} (hi : i < ents.size) {k v : Value} (hk : strK { ents[i] with key := k, val := v } = strK ents[i]) : MapOk (ents.modify i fun e => { e with key := k, val := v }) clock := by
 have hl : (ents.modify i fun e => { e with key := k, val := v }).toList = ents.toList.set i { ents[i] with key := k, val := v } := by
  apply List.ext_getElem?
  intro j
  rw [Array.getElem?_toList, Array.getElem?_modify, List.getElem?_set]
  by_cases hj : i = j
  ·subst hj; simp [hi]
  ·simp [hj]
 have same : ∀ {β : Type} (f : MapEntry → β), f { ents[i] with key := k, val := v } = f ents[i] → (ents.toList.set i { ents[i] with key := k, val := v }).map f = ents.toList.map f := fun f hf => by
  apply List.ext_getElem?
  intro j
  rw [List.getElem?_map, List.getElem?_map, List.getElem?_set]
  by_cases hj : i = j
  ·subst hj; simp [hi, hf]
  ·simp [hj]
 refine ⟨fun x hx => ?_, ?_, ?_⟩
 ·rw [hl] at hx
  rcases List.mem_or_eq_of_mem_set hx with hx | rfl
  ·exact h.1 x hx
  ·exact h.1 ents[i] (by simp)
 ·rw [hl, same _ rfl]; exact h.2.1
 ·have e : ∀ l : List MapEntry, l.filterMap strK = (l.map strK).filterMap id := fun l => by rw [List.filterMap_map]; rfl
  rw [hl, e, same _ hk, ← e]; exact h.2.2
abbrev FzOk (n : Nat) (fz : Nat × Nat) : Prop := fz.1 = fz.2 ∨ n ≤ fz.1
theorem FzOk.no {n : Nat} {fz : Nat × Nat} (h : FzOk n fz) : ∀ j, j < n → ¬ (fz.1 ≤ j ∧ j < fz.2) := fun j hj => by rcases h with h | h <;> omega
def Fzn (m : Inj) (E : Ent) (cs : List AVal) : Prop := ∀ (j : Nat) (a : AVal), cs[j]? = some a → ∃ c, m.fz E.g (E.base + j) = some c ∧ VR m a c
theorem Fzn.mono {m m' : Inj} {E : Ent} {cs : List AVal} (hm : m.le m') (h : Fzn m E cs) : Fzn m' E cs := fun j a ha => by
 obtain ⟨c, h1, h2⟩ := h j a ha
 exact ⟨c, hm.fz _ _ _ h1, h2.mono hm⟩
theorem Fzn.nil {m : Inj} {E : Ent} : Fzn m E [] := fun j a ha => by simp at ha
def strKey : AVal × AVal → Bool
 | (.str _, _) => true
 | _ => false
structure MapAs (st : Nat) (es es' : List (AVal × AVal)) : Prop where
 same : st ≠ 3 → es' = es
 perm : st = 3 → es'.Perm es ∧ es.all strKey = true ∧ (es.map Prod.fst).Nodup
theorem MapAs.refl {st : Nat} {es : List (AVal × AVal)} (h : st ≠ 3) : MapAs st es es := ⟨fun _ => rfl, fun e => absurd e h⟩
theorem MapAs.len {st : Nat} {es es' : List (AVal × AVal)} (h : MapAs st es es') : es'.length = es.length := by
 by_cases e : st = 3
 ·exact (h.perm e).1.length_eq
 ·rw [h.same e]
theorem nodup_key : ∀ {es : List (AVal × AVal)}, (es.map Prod.fst).Nodup → ∀ {k u v : AVal}, (k, u) ∈ es → (k, v) ∈ es → u = v
 | [], _, _, _, _, h1, _ => by cases h1
 | p :: es, hn, k, u, v, h1, h2 => by
  rw [List.map_cons, List.nodup_cons] at hn
  rcases List.mem_cons.1 h1 with e1 | h1 <;> rcases List.mem_cons.1 h2 with e2 | h2
  ·rw [← e1] at e2; cases e2; rfl
  ·exact absurd (List.mem_map.2 ⟨_, h2, by rw [← e1]⟩) hn.1
  ·exact absurd (List.mem_map.2 ⟨_, h1, by rw [← e2]⟩) hn.1
  ·exact nodup_key hn.2 h1 h2
theorem MapAs.mem {st : Nat} {es es' : List (AVal × AVal)} (h : MapAs st es es') {p : AVal × AVal} : p ∈ es' ↔ p ∈ es := by
 by_cases e : st = 3
 ·exact (h.perm e).1.mem_iff
 ·rw [h.same e]
def MapR (m : Inj) (w : World) (E : Ent) (es : List (AVal × AVal)) : Prop := ∃ ents clock, w.heap[E.g]? = some (.map ents clock) ∧ es.length = ents.size ∧
 (∀ (i : Nat) (k v : AVal) (e : MapEntry), es[i]? = some (k, v) → ents[i]? = some e → VR m k e.key ∧ VR m v e.val) ∧ MapOk ents clock
theorem MapR.two {st : Nat} {m : Inj} {w : World} {E : Ent} {es : List (AVal × AVal)} (h : ∃ es', MapAs st es es' ∧ MapR m w E es') (hs : st ≠ 3) : MapR m w E es := by
 obtain ⟨es', h1, h2⟩ := h
 rw [h1.same hs] at h2
 exact h2
theorem MapR.of {st : Nat} {m : Inj} {w : World} {E : Ent} {es : List (AVal × AVal)} (h : MapR m w E es) (hs : st ≠ 3) : ∃ es', MapAs st es es' ∧ MapR m w E es' := ⟨es, .refl hs, h⟩
def ObjR (P : Program) (m : Inj) (w : World) (E : Ent) : AObj → Prop
 | .cells gr st cs => ((E.esz = eszOf P gr ∧ (st = 0 → Fzn m E cs)) ∧ (gr = none → st = 2 → E.base = 0)) ∧ (st ≠ 0 → ∃ cur e fz, w.heap[E.g]? = some (.cells cur e fz) ∧ cur.size = E.total ∧
   (∀ (j : Nat) (a : AVal), cs[j]? = some a → a.one = true ∧ ∃ c, cur[E.base + j]? = some c ∧ VR m a c) ∧ (st = 2 → FzOk E.total fz))
 | .map st es => E.base = 0 ∧ (st ≠ 0 → ∃ es', MapAs st es es' ∧ MapR m w E es')
 | .iter s pos => E.base = 0 ∧ w.heap[E.g]? = some (.stringIter ⟨⟨s⟩⟩ pos)
 | .loop st pend _ fr ps a b => ∃ (tmps : Array Value) (d fn : Nat), w.heap[E.g]? = some (.loop ⟨stOf st, pend, fn, tmps, ps.toArray, a, b, d⟩) ∧ fr.length = tmps.size ∧ ∀ i, VR m (nth fr i) (tmps.getD i undef)
 | .chan cap buf => ∃ (bs : Array Value) (sn rc : Nat), w.heap[E.g]? = some (.chan cap bs false sn rc false) ∧ VRs m buf bs.toList
structure Rel (P : Program) (w0 : World) (m : Inj) (h : AHeap) (w : World) : Prop where
 below : Below w0.heap.size w0 w
 dom : ∀ id E, m id = some E → id < h.size
 obj : ∀ id E o, m id = some E → h.get id = some o → ObjR P m w E o
 own : ∀ id E o, m id = some E → h.get id = some o → o.own = true → w0.heap.size ≤ E.g
 sep : ∀ id id' E E' o o', id ≠ id' → m id = some E → m id' = some E' → h.get id = some o → h.get id' = some o' → o.own = true → o'.live = true → E.g ≠ E'.g
 fz : ∀ g o v, m.fz g o = some v → ∃ cur e z, w.heap[g]? = some (.cells cur e z) ∧ cur[o]? = some v
 fown : ∀ id E o, m id = some E → h.get id = some o → o.own = true → ∀ j, m.fz E.g j = none
 df : ∀ g, m.df g → w0.heap.size ≤ g ∧ w.heap[g]? = some (.deferred (some []))
 dfo : ∀ id E o, m id = some E → h.get id = some o → o.live = true → ¬ m.df E.g
structure Turn (w w' : World) (g : Nat) : Prop where
 os : w'.os = w.os
 tape : w'.tape = w.tape
 output : w'.output = w.output
 size : w.heap.size ≤ w'.heap.size
 block : ∀ k, k < w.heap.size → k ≠ g → w'.heap[k]? = w.heap[k]?
theorem Turn.refl (w : World) (g : Nat) : Turn w w g := ⟨rfl, rfl, rfl, Nat.le_refl _, fun _ _ _ => rfl⟩
theorem Turn.below {w0 w w' : World} {B g : Nat} (h : Turn w w' g) (hb : Below B w0 w) (hB : B ≤ w.heap.size) (hg : B ≤ g) : Below B w0 w' :=
 ⟨h.os.trans hb.os, h.tape.trans hb.tape, h.output.trans hb.output, Nat.le_trans hb.size h.size, fun k hk => (h.block k (by omega) (by omega)).trans (hb.block k hk)⟩
theorem Turn.alloc (w : World) (o : Obj) (g : Nat) : Turn w (w.alloc o) g := ⟨rfl, rfl, rfl, by simp, fun k hk _ => Below.heap_alloc w o k hk⟩
theorem Turn.alloc_drew (w : World) (o : Obj) (g : Nat) : Turn w (w.drew.alloc o) g := ⟨rfl, rfl, rfl, (Turn.alloc w.drew o g).size, fun k hk _ => Below.heap_alloc w.drew o k hk⟩
theorem Turn.drew {w w' : World} {g : Nat} (h : Turn w w' g) : Turn w w'.drew g := ⟨h.os, h.tape, h.output, h.size, h.block⟩
theorem Turn.trans {a b c : World} {g : Nat} (h : Turn a b g) (k : Turn b c g) : Turn a c g :=
 ⟨k.os.trans h.os, k.tape.trans h.tape, k.output.trans h.output, Nat.le_trans h.size k.size, fun i hi hne => (k.block i (Nat.lt_of_lt_of_le hi h.size) hne).trans (h.block i hi hne)⟩
theorem ObjR.lt {P : Program} {m : Inj} {w : World} {E : Ent} {o : AObj} (h : ObjR P m w E o) (hl : o.live = true) : E.g < w.heap.size := by
 cases o with
 | cells gr st cs => obtain ⟨_, _, _, h1, _⟩ := h.2 (by simpa [AObj.live] using hl); exact (Array.getElem?_eq_some_iff.1 h1).1
 | map st es => obtain ⟨_, _, _, _, h1, _⟩ := h.2 (by simpa [AObj.live] using hl); exact (Array.getElem?_eq_some_iff.1 h1).1
 | iter s pos => exact (Array.getElem?_eq_some_iff.1 h.2).1
 | loop st pend f fr ps a b => obtain ⟨_, _, _, h1, _⟩ := h; exact (Array.getElem?_eq_some_iff.1 h1).1
 | chan cap buf => obtain ⟨_, _, _, h1, _⟩ := h; exact (Array.getElem?_eq_some_iff.1 h1).1
theorem ObjR.mono {P : Program} {m m' : Inj} {w w' : World} {E : Ent} {o : AObj} (hm : m.le m') (hw : o.live = true → w'.heap[E.g]? = w.heap[E.g]?) (h : ObjR P m w E o) : ObjR P m' w' E o := by
 cases o with
 | cells gr st cs =>
  refine ⟨⟨⟨h.1.1.1, fun hz => (h.1.1.2 hz).mono hm⟩, h.1.2⟩, fun hst => ?_⟩
  obtain ⟨cur, e, fz, h1, h2, h3, h4⟩ := h.2 hst
  refine ⟨cur, e, fz, by rw [hw (by simp [AObj.live, hst])]; exact h1, h2, fun j a ha => ?_, h4⟩
  obtain ⟨g1, c, g2, g3⟩ := h3 j a ha
  exact ⟨g1, c, g2, g3.mono hm⟩
 | map st es =>
  refine ⟨h.1, fun hst => ?_⟩
  obtain ⟨es', h0, ents, clock, h1, h2, h3, h4⟩ := h.2 hst
  exact ⟨es', h0, ents, clock, by rw [hw (by simp [AObj.live, hst])]; exact h1, h2, fun i k v e hi he => ⟨(h3 i k v e hi he).1.mono hm, (h3 i k v e hi he).2.mono hm⟩, h4⟩
 | iter s pos => exact ⟨h.1, by rw [hw rfl]; exact h.2⟩
 | loop st pend f fr ps a b => obtain ⟨tm, d, fn, h1, h2, h3⟩ := h; exact ⟨tm, d, fn, by rw [hw rfl]; exact h1, h2, fun i => (h3 i).mono hm⟩
 | chan cap buf => obtain ⟨bs, sn, rc, h1, h2⟩ := h; exact ⟨bs, sn, rc, by rw [hw rfl]; exact h1, h2.mono hm⟩
section
variable {P : Program} {w0 : World} {m : Inj} {h : AHeap} {w : World}
theorem Rel.size (r : Rel P w0 m h w) : w0.heap.size ≤ w.heap.size := r.below.size
theorem Rel.fresh (r : Rel P w0 m h w) {id : Nat} (hi : h.size ≤ id) : m id = none := by
 cases e : m id with
 | none => rfl
 | some E => have := r.dom id E e; omega
theorem Rel.drew (r : Rel P w0 m h w) : Rel P w0 m h w.drew := ⟨r.below.drew, r.dom, r.obj, r.own, r.sep, r.fz, r.fown, r.df, r.dfo⟩
theorem Rel.fz_lt (r : Rel P w0 m h w) {g j : Nat} {v : Value} (hf : m.fz g j = some v) : g < w.heap.size := by
 obtain ⟨_, _, _, h1, _⟩ := r.fz g j v hf
 exact (Array.getElem?_eq_some_iff.1 h1).1
theorem Rel.fz_new (r : Rel P w0 m h w) {g : Nat} (hg : w.heap.size ≤ g) (j : Nat) : m.fz g j = none := by
 cases e : m.fz g j with
 | none => rfl
 | some v => have := r.fz_lt e; omega
theorem Rel.df_lt (r : Rel P w0 m h w) {g : Nat} (hf : m.df g) : g < w.heap.size := (Array.getElem?_eq_some_iff.1 (r.df g hf).2).1
theorem Rel.df_turn (r : Rel P w0 m h w) {w' : World} {g : Nat} (ht : Turn w w' g) (hg : ¬ m.df g) : ∀ k, m.df k → w0.heap.size ≤ k ∧ w'.heap[k]? = some (.deferred (some [])) := fun k hk =>
 ⟨(r.df k hk).1, by rw [ht.block k (r.df_lt hk) (fun e => hg (e ▸ hk))]; exact (r.df k hk).2⟩
theorem Rel.fz_turn (r : Rel P w0 m h w) {w' : World} {g : Nat} (ht : Turn w w' g) (hg : ∀ j, m.fz g j = none) : ∀ g o v, m.fz g o = some v → ∃ cur e z, w'.heap[g]? = some (.cells cur e z) ∧ cur[o]? = some v := by
 intro g' o v hf
 obtain ⟨cur, e, z, h1, h2⟩ := r.fz g' o v hf
 exact ⟨cur, e, z, by rw [ht.block g' (r.fz_lt hf) (fun e => by subst e; rw [hg] at hf; cases hf)]; exact h1, h2⟩
theorem Rel.ghost (r : Rel P w0 m h w) (o : AObj) : Rel P w0 m (h.push o) w := by
 have old : ∀ id E o', m id = some E → (h.push o).get id = some o' → h.get id = some o' := fun id E o' hm hg => by
  rw [h.get_push_old o (r.dom id E hm)] at hg; exact hg
 exact ⟨r.below, fun id E hm => by have := r.dom id E hm; simp; omega, fun id E o' hm hg => r.obj id E o' hm (old id E o' hm hg),
  fun id E o' hm hg => r.own id E o' hm (old id E o' hm hg), fun id id' E E' o1 o2 hne h1 h2 g1 g2 => r.sep id id' E E' o1 o2 hne h1 h2 (old _ _ _ h1 g1) (old _ _ _ h2 g2), r.fz, fun id E o' hm hg => r.fown id E o' hm (old id E o' hm hg), r.df, fun id E o' hm hg => r.dfo id E o' hm (old id E o' hm hg)⟩
def Inj.upd (m : Inj) (id : Nat) (E : Ent) : Inj := ⟨fun i => if i = id then some E else m i, m.fz, m.df⟩
theorem Inj.upd_same (m : Inj) (id : Nat) (E : Ent) : m.upd id E id = some E := by simp [Inj.upd]
theorem Inj.upd_ne (m : Inj) {id i : Nat} (E : Ent) (h : i ≠ id) : m.upd id E i = m i := by simp [Inj.upd, h]
theorem Inj.le_upd {m : Inj} {id : Nat} (E : Ent) (h : m id = none) : m.le (m.upd id E) := ⟨fun i F hF => by
 by_cases e : i = id
 ·subst e; rw [h] at hF; cases hF
 ·rw [Inj.upd_ne _ _ e]; exact hF, fun _ _ _ h => h⟩
theorem Inj.le_refl (m : Inj) : m.le m := ⟨fun _ _ h => h, fun _ _ _ h => h⟩
theorem Inj.le_trans {a b c : Inj} (h : a.le b) (k : b.le c) : a.le c := ⟨fun i E hE => k.i i E (h.i i E hE), fun g o v hv => k.fz g o v (h.fz g o v hv)⟩
structure Inj.ext (m : Inj) (n : Nat) (m' : Inj) : Prop where
 i : ∀ id, id < n → m' id = m id
 fz : ∀ g o v, m.fz g o = some v → m'.fz g o = some v
 df : ∀ g, m.df g → m'.df g
theorem Inj.ext.refl (m : Inj) (n : Nat) : m.ext n m := ⟨fun _ _ => rfl, fun _ _ _ h => h, fun _ h => h⟩
theorem Inj.ext.trans {a b c : Inj} {n n' : Nat} (h : a.ext n b) (k : b.ext n' c) (hn : n ≤ n') : a.ext n c := ⟨fun i hi => (k.i i (by omega)).trans (h.i i hi), fun g o v hv => k.fz g o v (h.fz g o v hv), fun g hg => k.df g (h.df g hg)⟩
theorem Inj.ext_upd (m : Inj) {n id : Nat} (E : Ent) (h : n ≤ id) : m.ext n (m.upd id E) := ⟨fun j hj => Inj.upd_ne m _ (by omega), fun _ _ _ h => h, fun _ h => h⟩
theorem Rel.place (r : Rel P w0 m h w) {w' : World} {id : Nat} {E : Ent} {o : AObj} (ht : Turn w w' E.g) (hg0 : w0.heap.size ≤ E.g)
  (hfree : ∀ id2 E2 o2, m id2 = some E2 → h.get id2 = some o2 → o2.live = true → E2.g ≠ E.g) (hfz : ∀ j, m.fz E.g j = none) (hdf : ¬ m.df E.g) (hid : m id = none) (ho : h.get id = some o)
  (hobj : ObjR P (m.upd id E) w' E o) : Rel P w0 (m.upd id E) h w' := by
 have hle := Inj.le_upd E hid
 have other : ∀ {i F}, m.upd id E i = some F → i ≠ id → m i = some F := fun h1 h2 => by rw [Inj.upd_ne _ _ h2] at h1; exact h1
 refine ⟨ht.below r.below r.size hg0, fun i F hF => ?_, fun i F o' hF ho' => ?_, fun i F o' hF ho' hown => ?_, fun i i' F F' o1 o2 hne h1 h2 g1 g2 hown hlive => ?_, r.fz_turn ht hfz, fun i F o' hF ho' hown => ?_, r.df_turn ht hdf, fun i F o' hF ho' hl => ?_⟩
 ·by_cases e : i = id
  ·subst e; rw [Inj.upd_same] at hF; injection hF with hF; subst hF; exact h.lt_of_get ho
  ·exact r.dom i F (other hF e)
 ·by_cases e : i = id
  ·subst e; rw [Inj.upd_same] at hF; injection hF with hF; subst hF; rw [ho] at ho'; injection ho' with ho'; subst ho'; exact hobj
  ·have hF' := other hF e
   exact (r.obj i F o' hF' ho').mono hle fun hl => ht.block _ ((r.obj i F o' hF' ho').lt hl) (hfree i F o' hF' ho' hl)
 ·by_cases e : i = id
  ·subst e; rw [Inj.upd_same] at hF; injection hF with hF; subst hF; exact hg0
  ·exact r.own i F o' (other hF e) ho' hown
 ·by_cases e : i = id
  ·subst e; rw [Inj.upd_same] at h1; injection h1 with h1; subst h1
   exact fun hh => hfree i' F' o2 (other h2 (fun e => hne e.symm)) g2 hlive hh.symm
  ·by_cases e' : i' = id
   ·subst e'; rw [Inj.upd_same] at h2; injection h2 with h2; subst h2
    exact hfree i F o1 (other h1 e) g1 (AObj.live_of_own hown)
   ·exact r.sep i i' F F' o1 o2 hne (other h1 e) (other h2 e') g1 g2 hown hlive
 ·by_cases e : i = id
  ·subst e; rw [Inj.upd_same] at hF; injection hF with hF; subst hF; exact hfz
  ·exact r.fown i F o' (other hF e) ho' hown
 ·by_cases e : i = id
  ·subst e; rw [Inj.upd_same] at hF; injection hF with hF; subst hF; exact hdf
  ·exact r.dfo i F o' (other hF e) ho' hl
theorem Rel.new (r : Rel P w0 m h w) {w' : World} {E : Ent} {o : AObj} (ht : Turn w w' E.g) (hg : E.g = w.heap.size)
  (hobj : ObjR P (m.upd h.size E) w' E o) : Rel P w0 (m.upd h.size E) (h.push o) w' := by
 refine (r.ghost o).place ht (by rw [hg]; exact r.size) (fun id2 E2 o2 h2 ho2 hl2 => ?_) (r.fz_new (by omega)) (fun hd => by have := r.df_lt hd; omega) (r.fresh (Nat.le_refl _)) (h.get_push_new o) hobj
 have := ((r.ghost o).obj id2 E2 o2 h2 ho2).lt hl2
 omega
theorem Rel.write (r : Rel P w0 m h w) {w' : World} {id : Nat} {E : Ent} {o o' : AObj} (hE : m id = some E) (ho : h.get id = some o) (hown : o.own = true) (hown' : o'.own = true)
  (ht : Turn w w' E.g) (hobj : ObjR P m w' E o') : Rel P w0 m (h.set id o') w' := by
 have hid := h.lt_of_get ho
 have hB := r.own id E o hE ho hown
 have get' : ∀ i x, (h.set id o').get i = some x → (i = id ∧ x = o') ∨ (i ≠ id ∧ h.get i = some x) := fun i x hx => by
  by_cases e : i = id
  ·subst e; rw [h.get_set_same o' hid] at hx; injection hx with hx; exact .inl ⟨rfl, hx.symm⟩
  ·rw [h.get_set_ne o' hid e] at hx; exact .inr ⟨e, hx⟩
 refine ⟨ht.below r.below r.size hB, r.dom, fun i F x hF hx => ?_, fun i F x hF hx hxo => ?_, fun i i' F F' x x' hne h1 h2 g1 g2 a b => ?_, r.fz_turn ht (r.fown id E o hE ho hown), fun i F x hF hx hxo => ?_, r.df_turn ht (r.dfo id E o hE ho (AObj.live_of_own hown)), fun i F x hF hx hxl => ?_⟩
 ·rcases get' i x hx with ⟨rfl, rfl⟩ | ⟨hi, hx⟩
  ·rw [hE] at hF; injection hF with hF; subst hF; exact hobj
  ·refine (r.obj i F x hF hx).mono (Inj.le_refl m) fun hl => ht.block _ ((r.obj i F x hF hx).lt hl) fun e => ?_
   exact r.sep id i E F o x (fun e => hi e.symm) hE hF ho hx hown hl e.symm
 ·rcases get' i x hx with ⟨rfl, rfl⟩ | ⟨hi, hx⟩
  ·rw [hE] at hF; injection hF with hF; subst hF; exact hB
  ·exact r.own i F x hF hx hxo
 ·rcases get' i x g1 with ⟨rfl, rfl⟩ | ⟨hi, hx⟩
  ·rcases get' i' x' g2 with ⟨rfl, rfl⟩ | ⟨hi', hx'⟩
   ·exact absurd rfl hne
   ·rw [hE] at h1; injection h1 with h1; subst h1; exact r.sep i i' _ F' o x' hne hE h2 ho hx' hown b
  ·rcases get' i' x' g2 with ⟨rfl, rfl⟩ | ⟨hi', hx'⟩
   ·rw [hE] at h2; injection h2 with h2; subst h2; exact fun e => r.sep i' i _ F o x (fun e => hi e.symm) hE h1 ho hx hown (AObj.live_of_own a) e.symm
   ·exact r.sep i i' F F' x x' hne h1 h2 hx hx' a b
 ·rcases get' i x hx with ⟨rfl, rfl⟩ | ⟨hi, hx⟩
  ·rw [hE] at hF; injection hF with hF; subst hF; exact r.fown _ _ o hE ho hown
  ·exact r.fown i F x hF hx hxo
 ·rcases get' i x hx with ⟨rfl, rfl⟩ | ⟨hi, hx⟩
  ·rw [hE] at hF; injection hF with hF; subst hF; exact r.dfo _ _ o hE ho (AObj.live_of_own hown)
  ·exact r.dfo i F x hF hx hxl
theorem Rel.kill' (r : Rel P w0 m h w) {id : Nat} {gr : Option TypeId} {st : Nat} {cs cs' : List AVal} {h' : AHeap} (ho : h.get id = some (.cells gr st cs)) (hs : h'.size = h.size) (h1 : h'.get id = some (.cells gr 0 cs')) (h2 : ∀ i, i ≠ id → h'.get i = h.get i) (hz : ∀ E, m id = some E → Fzn m E cs') : Rel P w0 m h' w := by
 have get' : ∀ i x, h'.get i = some x → (i = id ∧ x = .cells gr 0 cs') ∨ (i ≠ id ∧ h.get i = some x) := fun i x hx => by
  by_cases e : i = id
  ·subst e; rw [h1] at hx; injection hx with hx; exact .inl ⟨rfl, hx.symm⟩
  ·rw [h2 _ e] at hx; exact .inr ⟨e, hx⟩
 refine ⟨r.below, fun i F hF => by rw [hs]; exact r.dom i F hF, fun i F x hF hx => ?_, fun i F x hF hx hxo => ?_, fun i i' F F' x x' hne h1 h2 g1 g2 a b => ?_, r.fz, fun i F x hF hx hxo => ?_, r.df, fun i F x hF hx hxl => ?_⟩
 ·rcases get' i x hx with ⟨rfl, rfl⟩ | ⟨hi, hx⟩
  ·exact ⟨⟨⟨(r.obj i F _ hF ho).1.1.1, fun _ => hz F hF⟩, fun _ h => by cases h⟩, fun h => absurd rfl h⟩
  ·exact r.obj i F x hF hx
 ·rcases get' i x hx with ⟨rfl, rfl⟩ | ⟨hi, hx⟩
  ·simp [AObj.own] at hxo
  ·exact r.own i F x hF hx hxo
 ·rcases get' i x g1 with ⟨rfl, rfl⟩ | ⟨hi, hx⟩
  ·simp [AObj.own] at a
  ·rcases get' i' x' g2 with ⟨rfl, rfl⟩ | ⟨hi', hx'⟩
   ·simp [AObj.live] at b
   ·exact r.sep i i' F F' x x' hne h1 h2 hx hx' a b
 ·rcases get' i x hx with ⟨rfl, rfl⟩ | ⟨hi, hx⟩
  ·simp [AObj.own] at hxo
  ·exact r.fown i F x hF hx hxo
 ·rcases get' i x hx with ⟨rfl, rfl⟩ | ⟨hi, hx⟩
  ·simp [AObj.live] at hxl
  ·exact r.dfo i F x hF hx hxl
theorem Rel.kill (r : Rel P w0 m h w) {id : Nat} {gr : Option TypeId} {st : Nat} {cs : List AVal} (ho : h.get id = some (.cells gr st cs)) : Rel P w0 m (h.set id (.cells gr 0 [])) w :=
 r.kill' ho (h.size_set _ _) (h.get_set_same _ (h.lt_of_get ho)) (fun _ hi => h.get_set_ne _ (h.lt_of_get ho) hi) fun _ _ => Fzn.nil
def Inj.still (m : Inj) (g : Nat) (cur : Array Value) : Inj := ⟨m.i, fun g' j => if g' = g then cur[j]? else m.fz g' j, m.df⟩
theorem Inj.le_still {m : Inj} {g : Nat} {cur : Array Value} (hf : ∀ j, m.fz g j = none) : m.le (m.still g cur) := ⟨fun _ _ h => h, fun g' o v hv => by
 by_cases e : g' = g
 ·subst e; rw [hf] at hv; cases hv
 ·simp only [Inj.still, if_neg e]; exact hv⟩
theorem Rel.freeze (r : Rel P w0 m h w) {id : Nat} {E : Ent} {gr : Option TypeId} {cs : List AVal} (hE : m id = some E) (ho : h.get id = some (.cells gr 2 cs)) :
    ∃ cur, Rel P w0 (m.still E.g cur) (h.set id (.cells gr 0 cs)) w ∧ m.le (m.still E.g cur) ∧ cur.size = E.total ∧ E.esz = eszOf P gr ∧ ∀ (j : Nat) (a : AVal), cs[j]? = some a → ∃ c, cur[E.base + j]? = some c ∧ VR m a c := by
  have hf := r.fown id E _ hE ho rfl
  obtain ⟨he, hc⟩ := r.obj id E _ hE ho
  obtain ⟨cur, e, fz, h1, h2, h3, h4⟩ := hc (by simp)
  have hle := Inj.le_still (m := m) (g := E.g) (cur := cur) hf
  refine ⟨cur, ?_, hle, h2, he.1.1, fun j a ha => (h3 j a ha).2⟩
  have k := r.kill ho
  have hid := h.lt_of_get ho
  have k1 : Rel P w0 (m.still E.g cur) (h.set id (.cells gr 0 [])) w := by
   refine ⟨k.below, k.dom, fun i F x hF hx => (k.obj i F x hF hx).mono hle fun _ => rfl, k.own, k.sep, fun g' j v hv => ?_, fun i F x hF hx hxo => ?_, k.df, k.dfo⟩
   · by_cases e' : g' = E.g
     · subst e'
       simp only [Inj.still, if_true] at hv
       exact ⟨cur, e, fz, h1, hv⟩
     · simp only [Inj.still, if_neg e'] at hv
       exact k.fz g' j v hv
   · have hne : i ≠ id := by
       intro e'; subst e'
       rw [h.get_set_same _ hid] at hx; injection hx with hx; subst hx; simp [AObj.own] at hxo
     have hx' : h.get i = some x := by rw [h.get_set_ne _ hid hne] at hx; exact hx
     have hg : F.g ≠ E.g := fun e' => r.sep id i E F _ x (fun e => hne e.symm) hE hF ho hx' rfl (AObj.live_of_own hxo) e'.symm
     intro j
     simp only [Inj.still, if_neg hg]
     exact r.fown i F x hF hx' hxo j
  refine k1.kill' (cs' := cs) (h.get_set_same _ hid) (by rw [h.size_set, h.size_set]) (h.get_set_same _ hid) (fun i hi => by rw [h.get_set_ne _ hid hi, h.get_set_ne _ hid hi]) fun E' hE' => ?_
  obtain rfl : E = E' := Option.some.inj (hE.symm.trans hE')
  intro j a ha
  obtain ⟨c, g1, g2⟩ := (h3 j a ha).2
  exact ⟨c, by simp only [Inj.still, if_true]; exact g1, g2.mono hle⟩
end
def FR (m : Inj) (fr : Fr) (a : Act) : Prop := fr.length = a.tmps.size ∧ ∀ i, VR m (nth fr i) (a.tmps.getD i undef)
theorem FR.mono {m m' : Inj} (hm : m.le m') {fr : Fr} {a : Act} (h : FR m fr a) : FR m' fr a := ⟨h.1, fun i => (h.2 i).mono hm⟩
theorem FR.ev {m : Inj} {fr : Fr} {a : Act} (h : FR m fr a) (x : Operand) : VR m (ev fr x) (a.eval x) := by
 cases x with
 | tmp t => exact h.2 t
 | const v => exact VR.ofV m v
 | global g => exact .gptr g 0
 | func f => exact .func _ _ _ _ _ rfl (fun i x y hx => by simp at hx) rfl (fun i x y hx => by simp at hx)
theorem FR.put {m : Inj} {fr : Fr} {a : Act} (h : FR m fr a) (d : Option Tmp) {x : AVal} {v : Value} (hv : VR m x v) : FR m (put fr d x) (a.put d v) := by
 cases d with
 | none => exact h
 | some d =>
  refine ⟨by simp [Av.put, Act.put, h.1], fun i => ?_⟩
  show VR m (nth (fr.set d x) i) ((a.tmps.setIfInBounds d v).getD i undef)
  rw [nth_set]
  by_cases e : d = i ∧ d < fr.length
  ·rw [if_pos e]
   obtain ⟨rfl, hd⟩ := e
   rw [h.1] at hd
   simpa [Array.getD_eq_getD_getElem?, Array.getElem?_setIfInBounds, hd] using hv
  ·rw [if_neg e]
   have : (a.tmps.setIfInBounds d v).getD i undef = a.tmps.getD i undef := by
    simp only [Array.getD_eq_getD_getElem?, Array.getElem?_setIfInBounds]
    by_cases e1 : d = i
    ·subst e1
     have : ¬ d < a.tmps.size := fun h' => e ⟨rfl, by rw [h.1]; exact h'⟩
     simp [this]
    ·simp [e1]
   rw [this]
   exact h.2 i
theorem FR.evs {m : Inj} {fr : Fr} {a : Act} (h : FR m fr a) (l : List Operand) : VRs m (l.map (Av.ev fr)) (l.map a.eval) := VRs.map _ _ l fun x _ => h.ev x
theorem VR.undef_ (m : Inj) : VR m (.tuple []) Go.undef := .tuple [] #[] rfl fun i x y h => by simp at h
theorem VR.can1 {m : Inj} {x : AVal} {v : Value} (h : VR m x v) : VR m (can1 x) v := by
 unfold Av.can1
 split
 ·cases h <;> exact .vsl0 _ _
 ·exact h
theorem VRs.can1 {m : Inj} {a : List AVal} {c : List Value} (h : VRs m a c) : VRs m (a.map Av.can1) c := by
 refine ⟨by simpa using h.1, fun i x y hx hy => ?_⟩
 rw [List.getElem?_map] at hx
 simp only [Option.map_eq_some_iff] at hx
 obtain ⟨z, hz, rfl⟩ := hx
 exact (h.2 i z y hz hy).can1
theorem VR.can2 {m : Inj} {x : AVal} {v : Value} (h : VR m x v) : VR m (can2 x) v := by
 unfold Av.can2
 split
 ·obtain ⟨c, rfl, hv⟩ := h.inv_agg; exact VRs.agg hv.can1
 ·exact h.can1
theorem VRs.canL {m : Inj} : ∀ (bs : List Bool) {a : List AVal} {c : List Value}, VRs m a c → VRs m (canL bs a) c
 | [], a, c, h => by cases a <;> exact h
 | true :: bs, [], c, h => h
 | false :: bs, [], c, h => h
 | b :: bs, x :: a, [], h => by simp [VRs] at h
 | b :: bs, x :: a, y :: c, h => by
  have hc := h.2 0 x y rfl rfl
  have hv : VRs m a c := ⟨by simpa using h.1, fun i u v hx hy => h.2 (i + 1) u v (by simpa using hx) (by simpa using hy)⟩
  cases b
  ·exact .cons hc (VRs.canL bs hv)
  ·exact .cons hc.can2 (VRs.canL bs hv)
theorem VR.flat1 {m m' : Inj} {x : AVal} {v : Value} (hf : flat1 x = true) (h : VR m' x v) : VR m x v := by
 cases h <;> simp [Av.flat1] at hf
 ·exact .bool _
 ·exact .int _ _
 ·exact .str _
 ·exact .nilPtr
 ·exact .nilSlice
 ·exact .empSlice _
 ·exact .nilMap
 ·exact .nilChan
 ·exact .nilFunc
 ·exact .nilIface
theorem VR.flat2 {m m' : Inj} {x : AVal} {v : Value} (hf : flat2 x = true) (h : VR m' x v) : VR m x v := by
 unfold Av.flat2 at hf
 split at hf
 ·rename_i cs
  obtain ⟨c, rfl, hv⟩ := h.inv_agg
  refine VRs.agg ⟨hv.1, fun i a b ha hb => ?_⟩
  exact (hv.2 i a b ha hb).flat1 (List.all_eq_true.1 hf a (List.mem_of_getElem? ha))
 ·exact h.flat1 hf
theorem VR.flat3 {m m' : Inj} {x : AVal} {v : Value} (hf : flat3 x = true) (h : VR m' x v) : VR m x v := by
 unfold Av.flat3 at hf
 split at hf
 ·rename_i cs
  obtain ⟨c, rfl, hv⟩ := h.inv_tuple
  refine VRs.tuple ⟨hv.1, fun i a b ha hb => ?_⟩
  exact (hv.2 i a b ha hb).flat2 (List.all_eq_true.1 hf a (List.mem_of_getElem? ha))
 ·exact h.flat2 hf
def GlobOk (G : Nat → Option (List AVal)) (w0 : World) : Prop :=
 (∀ g cs, G g = some cs → g < w0.heap.size ∧ ∃ cur e fz, w0.heap[g]? = some (.cells cur e fz) ∧ ∀ (j : Nat) (a : AVal), cs[j]? = some a → a.one = true ∧ Av.flat1 a = true ∧ ∃ c, cur[j]? = some c ∧ VR ⟨fun _ => none, fun _ _ => none, fun _ => False⟩ a c) ∧
 ∀ g, G g = some [] → ∃ n : Int, w0.cell? ⟨g, 0, none⟩ = some (.int .i64 n)
theorem GlobOk.none (w0 : World) : GlobOk (fun _ => Option.none) w0 := ⟨fun g cs h => (by cases h), fun g h => (by cases h)⟩
theorem GlobOk.later {G : Nat → Option (List AVal)} {w0 w : World} (hz : GlobOk G w0) (hb : Below w0.heap.size w0 w) : GlobOk G w := ⟨fun g cs h => by
 obtain ⟨hlt, cur, e, fz, hc, hv⟩ := hz.1 g cs h
 exact ⟨Nat.lt_of_lt_of_le hlt hb.size, cur, e, fz, by rw [hb.block g hlt]; exact hc, hv⟩, fun g h => by
 obtain ⟨hlt, -⟩ := hz.1 g [] h
 obtain ⟨n, hn⟩ := hz.2 g h
 refine ⟨n, ?_⟩
 unfold World.cell? at hn ⊢
 rw [show w.heap[(⟨g, 0, Option.none⟩ : Addr).block]? = w0.heap[(⟨g, 0, Option.none⟩ : Addr).block]? from hb.block g hlt]
 exact hn⟩
theorem GlobOk.rel {P : Program} {G : Nat → Option (List AVal)} {w0 w : World} (hz : GlobOk G w0) (hb : Below w0.heap.size w0 w) {g : Nat} {cs : List AVal} (hg : G g = some cs) :
  ∃ tot, Rel P w0 ⟨fun id => if id = 0 then some ⟨g, 0, 0, tot⟩ else Option.none, fun _ _ => Option.none, fun _ => False⟩ ((⟨0, .leaf⟩ : AHeap).push (.cells Option.none 1 cs)) w ∧ ∀ a ∈ cs, Av.flat1 a = true := by
 obtain ⟨hlt, cur, e, fz, hc, hv⟩ := hz.1 g cs hg
 have key : ∀ id o, ((⟨0, .leaf⟩ : AHeap).push (.cells Option.none 1 cs)).get id = some o → id = 0 ∧ o = .cells Option.none 1 cs := by
  intro id o ho
  rw [AHeap.get_push] at ho
  split at ho
  ·rename_i h0; injection ho with ho; exact ⟨h0, ho.symm⟩
  ·have : ((⟨0, .leaf⟩ : AHeap).get id) = Option.none := by
    unfold AHeap.get
    cases Nat.blt id (⟨0, .leaf⟩ : AHeap).size <;> rfl
   rw [this] at ho; cases ho
 refine ⟨cur.size, ⟨hb, fun id E hE => ?_, fun id E o hE ho => ?_, fun id E o hE ho hown => ?_, fun id id' E E' o o' hne h1 h2 g1 g2 hown => ?_, fun g o v hv => by (cases hv), fun id E o hE ho hown j => rfl, fun g hg => hg.elim, fun id E o hE ho hl hd => hd⟩, fun a ha => ?_⟩
 ·dsimp only at hE
  split at hE
  ·rename_i h0; subst h0; simp
  ·cases hE
 ·obtain ⟨rfl, rfl⟩ := key id o ho
  simp only [if_true, Option.some.injEq] at hE
  subst hE
  refine ⟨⟨⟨rfl, fun h => by cases h⟩, fun _ h => by cases h⟩, fun _ => ⟨cur, e, fz, by rw [hb.block g hlt]; exact hc, rfl, fun j a ha => ?_, fun h => by cases h⟩⟩
  obtain ⟨h1, h2, c, h3, h4⟩ := hv j a ha
  exact ⟨h1, c, by simpa using h3, h4.flat1 h2⟩
 ·obtain ⟨rfl, rfl⟩ := key id o ho
  simp [AObj.own] at hown
 ·obtain ⟨rfl, rfl⟩ := key id o g1
  simp [AObj.own] at hown
 ·obtain ⟨j, hj, rfl⟩ := List.getElem_of_mem ha
  exact (hv j _ (List.getElem?_eq_getElem hj)).2.1
end Go.Av
