/-
 A part.
-/
import Derived.Test.YtdbkpibbjnhmgaaDoorAvRel
namespace Go.Av
open Go.RowKit
def A9.live : A9 → Bool
 | .cells _ st _ => st != 0
 | .map st _ => st != 0
 | .iter _ _ => true
 | .loop .. => true
 | .chan .. => true
def A9.own : A9 → Bool
 | .cells _ st _ => st == 2
 | .map st _ => st == 2
 | .iter _ _ => true
 | .loop .. => true
 | .chan .. => true
theorem A9.EN {o : A9} (h : o.own = true) : o.live = true := by
 cases o <;> simp [A9.own, A9.live] at * <;> omega
def E5 (P : Program) : Option TypeId → Nat
 | some e => P.cellsOf e
 | none => 0
def T4 : Nat → LoopState
 | 0 => .ready
 | 1 => .busy
 | 2 => .done
 | _ => .exhausted
def Hr (e : MapEntry) : Option ByteArray :=
 match e.key with
 | .string s => some s
 | _ => none
def Fu (ents : Array MapEntry) (clock : Nat) : Prop := (∀ x ∈ ents.toList, x.born < clock) ∧ (ents.toList.map (·.born)).Nodup ∧ (ents.toList.filterMap Hr).Nodup
theorem Fu.nil : Fu #[] 0 := ⟨by simp, by simp, by simp⟩
theorem Fu.push {ents : Array MapEntry} {clock : Nat} (h : Fu ents clock) {k v : Value} (hk : ∀ s, k = .string s → s ∉ ents.toList.filterMap Hr) : Fu (ents.push { key := k, val := v, born := clock }) (clock + 1) := by
 obtain ⟨h1, h2, h3⟩ := h
 refine ⟨fun x hx => ?_, ?_, ?_⟩
 ·rw [Array.toList_push, List.mem_append] at hx
  rcases hx with hx | hx
  ·have := h1 x hx; omega
  ·simp at hx; subst hx; exact Nat.lt_succ_self _
 ·rw [Array.toList_push, List.map_append, List.nodup_append]
  refine ⟨h2, by simp, fun a ha b hb => ?_⟩
  obtain ⟨x, hx, rfl⟩ := List.mem_map.1 ha
  simp at hb; subst hb
  have := h1 x hx; omega
 ·rw [Array.toList_push, List.filterMap_append, List.nodup_append]
  refine ⟨h3, ?_, fun a ha b hb => ?_⟩
  ·cases e : Hr { key := k, val := v, born := clock } <;> simp [e]
  ·cases k <;> simp [Hr] at hb
   subst hb
   rintro rfl
   exact hk _ rfl ha
theorem Fu.erase {ents : Array MapEntry} {clock : Nat} (h : Fu ents clock) (i : Nat) : Fu (ents.eraseIdxIfInBounds i) clock := by
 have hs : (ents.eraseIdxIfInBounds i).toList.Sublist ents.toList := by
  unfold Array.eraseIdxIfInBounds
  split
  ·simp only [Array.toList_eraseIdx]; exact List.eraseIdx_sublist _ _
  ·exact List.Sublist.refl _
 exact ⟨fun x hx => h.1 x (hs.subset hx), List.Nodup.sublist (hs.map _) h.2.1, List.Nodup.sublist (hs.filterMap _) h.2.2⟩
theorem Fu.modify {ents : Array MapEntry} {clock : Nat} (h : Fu ents clock) {i : Nat} (hi : i < ents.size) {k v : Value} (hk : Hr { ents[i] with key := k, val := v } = Hr ents[i]) : Fu (ents.modify i fun e => { e with key := k, val := v }) clock := by
 have hl : (ents.modify i fun e => { e with key := k, val := v }).toList = ents.toList.set i { ents[i] with key := k, val := v } := by
  apply List.ext_getElem?
  intro j
  rw [Array.getElem?_toList, Array.getElem?_modify, List.getElem?_set]
  by_cases hj : i = j
  ·subst hj; simp [hi]
  ·simp [hj]
 have same : ∀ {β : Type} (f : MapEntry → β), f { ents[i] with key := k, val := v } = f ents[i] → (ents.toList.set i { ents[i] with key := k, val := v }).map f = ents.toList.map f := fun f hf => by
  apply List.ext_getElem?
  intro j
  rw [List.getElem?_map, List.getElem?_map, List.getElem?_set]
  by_cases hj : i = j
  ·subst hj; simp [hi, hf]
  ·simp [hj]
 refine ⟨fun x hx => ?_, ?_, ?_⟩
 ·rw [hl] at hx
  rcases List.mem_or_eq_of_mem_set hx with hx | rfl
  ·exact h.1 x hx
  ·exact h.1 ents[i] (by simp)
 ·rw [hl, same _ rfl]; exact h.2.1
 ·have e : ∀ l : List MapEntry, l.filterMap Hr = (l.map Hr).filterMap id := fun l => by rw [List.filterMap_map]; rfl
  rw [hl, e, same _ hk, ← e]; exact h.2.2
abbrev Rn (n : Nat) (fz : Nat × Nat) : Prop := fz.1 = fz.2 ∨ n ≤ fz.1
abbrev Xp (gr : Option TypeId) (n : Nat) (fz : Nat × Nat) : Prop := Rn n fz ∧ (gr = none → fz.1 = fz.2)
theorem Rn.no {n : Nat} {fz : Nat × Nat} (h : Rn n fz) : ∀ j, j < n → ¬ (fz.1 ≤ j ∧ j < fz.2) := fun j hj => by rcases h with h | h <;> omega
def Tf (m : AU) (E : HQ) (cs : List AA) : Prop := ∀ (j : Nat) (a : AA), cs[j]? = some a → ∃ c, m.fz E.g (E.base + j) = some c ∧ VR m a c
theorem Tf.mono {m m' : AU} {E : HQ} {cs : List AA} (hm : m.le m') (h : Tf m E cs) : Tf m' E cs := fun j a ha => by
 obtain ⟨c, h1, h2⟩ := h j a ha
 exact ⟨c, hm.fz _ _ _ h1, h2.mono hm⟩
theorem Tf.nil {m : AU} {E : HQ} : Tf m E [] := fun j a ha => by simp at ha
def Ho : AA × AA → Bool
 | (.str _, _) => true
 | _ => false
structure IF (st : Nat) (es es' : List (AA × AA)) : Prop where
 same : st ≠ 3 → es' = es
 perm : st = 3 → es'.Perm es ∧ es.all Ho = true ∧ (es.map Prod.fst).Nodup
theorem IF.refl {st : Nat} {es : List (AA × AA)} (h : st ≠ 3) : IF st es es := ⟨fun _ => rfl, fun e => absurd e h⟩
theorem IF.len {st : Nat} {es es' : List (AA × AA)} (h : IF st es es') : es'.length = es.length := by
 by_cases e : st = 3
 ·exact (h.perm e).1.length_eq
 ·rw [h.same e]
theorem Mm : ∀ {es : List (AA × AA)}, (es.map Prod.fst).Nodup → ∀ {k u v : AA}, (k, u) ∈ es → (k, v) ∈ es → u = v
 | [], _, _, _, _, h1, _ => by cases h1
 | p :: es, hn, k, u, v, h1, h2 => by
  rw [List.map_cons, List.nodup_cons] at hn
  rcases List.mem_cons.1 h1 with e1 | h1 <;> rcases List.mem_cons.1 h2 with e2 | h2
  ·rw [← e1] at e2; cases e2; rfl
  ·exact absurd (List.mem_map.2 ⟨_, h2, by rw [← e1]⟩) hn.1
  ·exact absurd (List.mem_map.2 ⟨_, h1, by rw [← e2]⟩) hn.1
  ·exact Mm hn.2 h1 h2
theorem IF.mem {st : Nat} {es es' : List (AA × AA)} (h : IF st es es') {p : AA × AA} : p ∈ es' ↔ p ∈ es := by
 by_cases e : st = 3
 ·exact (h.perm e).1.mem_iff
 ·rw [h.same e]
def IM (m : AU) (w : World) (E : HQ) (es : List (AA × AA)) : Prop := ∃ ents clock, w.heap[E.g]? = some (.map ents clock) ∧ es.length = ents.size ∧
 (∀ (i : Nat) (k v : AA) (e : MapEntry), es[i]? = some (k, v) → ents[i]? = some e → VR m k e.key ∧ VR m v e.val) ∧ Fu ents clock
theorem IM.two {st : Nat} {m : AU} {w : World} {E : HQ} {es : List (AA × AA)} (h : ∃ es', IF st es es' ∧ IM m w E es') (hs : st ≠ 3) : IM m w E es := by
 obtain ⟨es', h1, h2⟩ := h
 rw [h1.same hs] at h2
 exact h2
theorem IM.of {st : Nat} {m : AU} {w : World} {E : HQ} {es : List (AA × AA)} (h : IM m w E es) (hs : st ≠ 3) : ∃ es', IF st es es' ∧ IM m w E es' := ⟨es, .refl hs, h⟩
def G9 (P : Program) (m : AU) (w : World) (E : HQ) : A9 → Prop
 | .cells gr st cs => ((E.QK = E5 P gr ∧ (st = 0 → Tf m E cs)) ∧ (gr = none → st = 2 → E.base = 0)) ∧ (st ≠ 0 → ∃ cur e fz, w.heap[E.g]? = some (.cells cur e fz) ∧ cur.size = E.total ∧
   (∀ (j : Nat) (a : AA), cs[j]? = some a → a.one = true ∧ ∃ c, cur[E.base + j]? = some c ∧ VR m a c) ∧ (st = 2 → Xp gr E.total fz))
 | .map st es => E.base = 0 ∧ (st ≠ 0 → ∃ es', IF st es es' ∧ IM m w E es')
 | .iter s pos => E.base = 0 ∧ w.heap[E.g]? = some (.stringIter ⟨⟨s⟩⟩ pos)
 | .loop st pend _ fr ps a b => ∃ (tmps : Array Value) (d fn : Nat), w.heap[E.g]? = some (.loop ⟨T4 st, pend, fn, tmps, ps.toArray, a, b, d⟩) ∧ fr.length = tmps.size ∧ ∀ i, VR m (nth fr i) (tmps.getD i undef)
 | .chan cap buf => ∃ (bs : Array Value) (sn rc : Nat), w.heap[E.g]? = some (.chan cap bs false sn rc false) ∧ BU m buf bs.toList
structure Rel (P : Program) (w0 : World) (m : AU) (h : AB) (w : World) : Prop where
 below : Below w0.heap.size w0 w
 Ku : ∀ id E, m id = some E → id < h.size
 obj : ∀ id E o, m id = some E → h.get id = some o → G9 P m w E o
 own : ∀ id E o, m id = some E → h.get id = some o → o.own = true → w0.heap.size ≤ E.g
 sep : ∀ id id' E E' o o', id ≠ id' → m id = some E → m id' = some E' → h.get id = some o → h.get id' = some o' → o.own = true → o'.live = true → E.g ≠ E'.g
 fz : ∀ g o v, m.fz g o = some v → ∃ cur e z, w.heap[g]? = some (.cells cur e z) ∧ cur[o]? = some v
 GX : ∀ id E o, m id = some E → h.get id = some o → o.own = true → ∀ j, m.fz E.g j = none
 df : ∀ g x, m.df g x → w0.heap.size ≤ g ∧ w.heap[g]? = some x
 ME : ∀ id E o, m id = some E → h.get id = some o → o.live = true → ∀ x, ¬ m.df E.g x
structure Ch (w w' : World) (g : Nat) : Prop where
 os : w'.os = w.os
 tape : w'.tape = w.tape
 output : w'.output = w.output
 size : w.heap.size ≤ w'.heap.size
 block : ∀ k, k < w.heap.size → k ≠ g → w'.heap[k]? = w.heap[k]?
theorem Ch.refl (w : World) (g : Nat) : Ch w w g := ⟨rfl, rfl, rfl, Nat.le_refl _, fun _ _ _ => rfl⟩
theorem Ch.below {w0 w w' : World} {B g : Nat} (h : Ch w w' g) (hb : Below B w0 w) (hB : B ≤ w.heap.size) (hg : B ≤ g) : Below B w0 w' :=
 ⟨h.os.trans hb.os, h.tape.trans hb.tape, h.output.trans hb.output, Nat.le_trans hb.size h.size, fun k hk => (h.block k (by omega) (by omega)).trans (hb.block k hk)⟩
theorem Ch.alloc (w : World) (o : Obj) (g : Nat) : Ch w (w.alloc o) g := ⟨rfl, rfl, rfl, by simp, fun k hk _ => Below.heap_alloc w o k hk⟩
theorem Ch.alloc_drew (w : World) (o : Obj) (g : Nat) : Ch w (w.drew.alloc o) g := ⟨rfl, rfl, rfl, (Ch.alloc w.drew o g).size, fun k hk _ => Below.heap_alloc w.drew o k hk⟩
theorem Ch.drew {w w' : World} {g : Nat} (h : Ch w w' g) : Ch w w'.drew g := ⟨h.os, h.tape, h.output, h.size, h.block⟩
theorem Ch.trans {a b c : World} {g : Nat} (h : Ch a b g) (k : Ch b c g) : Ch a c g :=
 ⟨k.os.trans h.os, k.tape.trans h.tape, k.output.trans h.output, Nat.le_trans h.size k.size, fun i hi hne => (k.block i (Nat.lt_of_lt_of_le hi h.size) hne).trans (h.block i hi hne)⟩
theorem G9.lt {P : Program} {m : AU} {w : World} {E : HQ} {o : A9} (h : G9 P m w E o) (hl : o.live = true) : E.g < w.heap.size := by
 cases o with
 | cells gr st cs => obtain ⟨_, _, _, h1, _⟩ := h.2 (by simpa [A9.live] using hl); exact (Array.getElem?_eq_some_iff.1 h1).1
 | map st es => obtain ⟨_, _, _, _, h1, _⟩ := h.2 (by simpa [A9.live] using hl); exact (Array.getElem?_eq_some_iff.1 h1).1
 | iter s pos => exact (Array.getElem?_eq_some_iff.1 h.2).1
 | loop st pend f fr ps a b => obtain ⟨_, _, _, h1, _⟩ := h; exact (Array.getElem?_eq_some_iff.1 h1).1
 | chan cap buf => obtain ⟨_, _, _, h1, _⟩ := h; exact (Array.getElem?_eq_some_iff.1 h1).1
theorem G9.mono {P : Program} {m m' : AU} {w w' : World} {E : HQ} {o : A9} (hm : m.le m') (hw : o.live = true → w'.heap[E.g]? = w.heap[E.g]?) (h : G9 P m w E o) : G9 P m' w' E o := by
 cases o with
 | cells gr st cs =>
  refine ⟨⟨⟨h.1.1.1, fun hz => (h.1.1.2 hz).mono hm⟩, h.1.2⟩, fun hst => ?_⟩
  obtain ⟨cur, e, fz, h1, h2, h3, h4⟩ := h.2 hst
  refine ⟨cur, e, fz, by rw [hw (by simp [A9.live, hst])]; exact h1, h2, fun j a ha => ?_, h4⟩
  obtain ⟨g1, c, g2, g3⟩ := h3 j a ha
  exact ⟨g1, c, g2, g3.mono hm⟩
 | map st es =>
  refine ⟨h.1, fun hst => ?_⟩
  obtain ⟨es', h0, ents, clock, h1, h2, h3, h4⟩ := h.2 hst
  exact ⟨es', h0, ents, clock, by rw [hw (by simp [A9.live, hst])]; exact h1, h2, fun i k v e hi he => ⟨(h3 i k v e hi he).1.mono hm, (h3 i k v e hi he).2.mono hm⟩, h4⟩
 | iter s pos => exact ⟨h.1, by rw [hw rfl]; exact h.2⟩
 | loop st pend f fr ps a b => obtain ⟨tm, d, fn, h1, h2, h3⟩ := h; exact ⟨tm, d, fn, by rw [hw rfl]; exact h1, h2, fun i => (h3 i).mono hm⟩
 | chan cap buf => obtain ⟨bs, sn, rc, h1, h2⟩ := h; exact ⟨bs, sn, rc, by rw [hw rfl]; exact h1, h2.mono hm⟩
section
variable {P : Program} {w0 : World} {m : AU} {h : AB} {w : World}
theorem Rel.size (r : Rel P w0 m h w) : w0.heap.size ≤ w.heap.size := r.below.size
theorem Rel.fresh (r : Rel P w0 m h w) {id : Nat} (hi : h.size ≤ id) : m id = none := by
 cases e : m id with
 | none => rfl
 | some E => have := r.Ku id E e; omega
theorem Rel.drew (r : Rel P w0 m h w) : Rel P w0 m h w.drew := ⟨r.below.drew, r.Ku, r.obj, r.own, r.sep, r.fz, r.GX, r.df, r.ME⟩
theorem Rel.Ml (r : Rel P w0 m h w) {g j : Nat} {v : Value} (hf : m.fz g j = some v) : g < w.heap.size := by
 obtain ⟨_, _, _, h1, _⟩ := r.fz g j v hf
 exact (Array.getElem?_eq_some_iff.1 h1).1
theorem Rel.Pp (r : Rel P w0 m h w) {g : Nat} (hg : w.heap.size ≤ g) (j : Nat) : m.fz g j = none := by
 cases e : m.fz g j with
 | none => rfl
 | some v => have := r.Ml e; omega
theorem Rel.IU (r : Rel P w0 m h w) {g : Nat} {x : Obj} (hf : m.df g x) : g < w.heap.size := (Array.getElem?_eq_some_iff.1 (r.df g x hf).2).1
theorem Rel.QV (r : Rel P w0 m h w) {w' : World} {g : Nat} (ht : Ch w w' g) (hg : ∀ x, ¬ m.df g x) : ∀ k x, m.df k x → w0.heap.size ≤ k ∧ w'.heap[k]? = some x := fun k x hk =>
 ⟨(r.df k x hk).1, by rw [ht.block k (r.IU hk) (fun e => hg x (e ▸ hk))]; exact (r.df k x hk).2⟩
theorem Rel.Qj (r : Rel P w0 m h w) {w' : World} {g : Nat} (ht : Ch w w' g) (hg : ∀ j, m.fz g j = none) : ∀ g o v, m.fz g o = some v → ∃ cur e z, w'.heap[g]? = some (.cells cur e z) ∧ cur[o]? = some v := by
 intro g' o v hf
 obtain ⟨cur, e, z, h1, h2⟩ := r.fz g' o v hf
 exact ⟨cur, e, z, by rw [ht.block g' (r.Ml hf) (fun e => by subst e; rw [hg] at hf; cases hf)]; exact h1, h2⟩
theorem Rel.ghost (r : Rel P w0 m h w) (o : A9) : Rel P w0 m (h.push o) w := by
 have FY : ∀ id E o', m id = some E → (h.push o).get id = some o' → h.get id = some o' := fun id E o' hm hg => by
  rw [h.CF o (r.Ku id E hm)] at hg; exact hg
 exact ⟨r.below, fun id E hm => by have := r.Ku id E hm; simp; omega, fun id E o' hm hg => r.obj id E o' hm (FY id E o' hm hg),
  fun id E o' hm hg => r.own id E o' hm (FY id E o' hm hg), fun id id' E E' o1 o2 hne h1 h2 g1 g2 => r.sep id id' E E' o1 o2 hne h1 h2 (FY _ _ _ h1 g1) (FY _ _ _ h2 g2), r.fz, fun id E o' hm hg => r.GX id E o' hm (FY id E o' hm hg), r.df, fun id E o' hm hg => r.ME id E o' hm (FY id E o' hm hg)⟩
def AU.upd (m : AU) (id : Nat) (E : HQ) : AU := ⟨fun i => if i = id then some E else m i, m.fz, m.df⟩
theorem AU.Ci (m : AU) (id : Nat) (E : HQ) : m.upd id E id = some E := by simp [AU.upd]
theorem AU.JI (m : AU) {id i : Nat} (E : HQ) (h : i ≠ id) : m.upd id E i = m i := by simp [AU.upd, h]
theorem AU.GN {m : AU} {id : Nat} (E : HQ) (h : m id = none) : m.le (m.upd id E) := ⟨fun i F hF => by
 by_cases e : i = id
 ·subst e; rw [h] at hF; cases hF
 ·rw [AU.JI _ _ e]; exact hF, fun _ _ _ h => h⟩
theorem AU.le_refl (m : AU) : m.le m := ⟨fun _ _ h => h, fun _ _ _ h => h⟩
theorem AU.le_trans {a b c : AU} (h : a.le b) (k : b.le c) : a.le c := ⟨fun i E hE => k.i i E (h.i i E hE), fun g o v hv => k.fz g o v (h.fz g o v hv)⟩
structure AU.ext (m : AU) (n : Nat) (m' : AU) : Prop where
 i : ∀ id, id < n → m' id = m id
 fz : ∀ g o v, m.fz g o = some v → m'.fz g o = some v
 df : ∀ g x, m.df g x → m'.df g x
theorem AU.ext.refl (m : AU) (n : Nat) : m.ext n m := ⟨fun _ _ => rfl, fun _ _ _ h => h, fun _ _ h => h⟩
theorem AU.ext.trans {a b c : AU} {n n' : Nat} (h : a.ext n b) (k : b.ext n' c) (hn : n ≤ n') : a.ext n c := ⟨fun i hi => (k.i i (by omega)).trans (h.i i hi), fun g o v hv => k.fz g o v (h.fz g o v hv), fun g x hg => k.df g x (h.df g x hg)⟩
theorem AU.G8 (m : AU) {n id : Nat} (E : HQ) (h : n ≤ id) : m.ext n (m.upd id E) := ⟨fun j hj => AU.JI m _ (by omega), fun _ _ _ h => h, fun _ _ h => h⟩
theorem Rel.place (r : Rel P w0 m h w) {w' : World} {id : Nat} {E : HQ} {o : A9} (ht : Ch w w' E.g) (hg0 : w0.heap.size ≤ E.g)
  (hfree : ∀ id2 E2 o2, m id2 = some E2 → h.get id2 = some o2 → o2.live = true → E2.g ≠ E.g) (hfz : ∀ j, m.fz E.g j = none) (hdf : ∀ x, ¬ m.df E.g x) (hid : m id = none) (ho : h.get id = some o)
  (hobj : G9 P (m.upd id E) w' E o) : Rel P w0 (m.upd id E) h w' := by
 have hle := AU.GN E hid
 have other : ∀ {i F}, m.upd id E i = some F → i ≠ id → m i = some F := fun h1 h2 => by rw [AU.JI _ _ h2] at h1; exact h1
 refine ⟨ht.below r.below r.size hg0, fun i F hF => ?_, fun i F o' hF ho' => ?_, fun i F o' hF ho' hown => ?_, fun i i' F F' o1 o2 hne h1 h2 g1 g2 hown hlive => ?_, r.Qj ht hfz, fun i F o' hF ho' hown => ?_, r.QV ht hdf, fun i F o' hF ho' hl => ?_⟩
 ·by_cases e : i = id
  ·subst e; rw [AU.Ci] at hF; injection hF with hF; subst hF; exact h.An ho
  ·exact r.Ku i F (other hF e)
 ·by_cases e : i = id
  ·subst e; rw [AU.Ci] at hF; injection hF with hF; subst hF; rw [ho] at ho'; injection ho' with ho'; subst ho'; exact hobj
  ·have hF' := other hF e
   exact (r.obj i F o' hF' ho').mono hle fun hl => ht.block _ ((r.obj i F o' hF' ho').lt hl) (hfree i F o' hF' ho' hl)
 ·by_cases e : i = id
  ·subst e; rw [AU.Ci] at hF; injection hF with hF; subst hF; exact hg0
  ·exact r.own i F o' (other hF e) ho' hown
 ·by_cases e : i = id
  ·subst e; rw [AU.Ci] at h1; injection h1 with h1; subst h1
   exact fun hh => hfree i' F' o2 (other h2 (fun e => hne e.symm)) g2 hlive hh.symm
  ·by_cases e' : i' = id
   ·subst e'; rw [AU.Ci] at h2; injection h2 with h2; subst h2
    exact hfree i F o1 (other h1 e) g1 (A9.EN hown)
   ·exact r.sep i i' F F' o1 o2 hne (other h1 e) (other h2 e') g1 g2 hown hlive
 ·by_cases e : i = id
  ·subst e; rw [AU.Ci] at hF; injection hF with hF; subst hF; exact hfz
  ·exact r.GX i F o' (other hF e) ho' hown
 ·by_cases e : i = id
  ·subst e; rw [AU.Ci] at hF; injection hF with hF; subst hF; exact hdf
  ·exact r.ME i F o' (other hF e) ho' hl
theorem Rel.new (r : Rel P w0 m h w) {w' : World} {E : HQ} {o : A9} (ht : Ch w w' E.g) (hg : E.g = w.heap.size)
  (hobj : G9 P (m.upd h.size E) w' E o) : Rel P w0 (m.upd h.size E) (h.push o) w' := by
 refine (r.ghost o).place ht (by rw [hg]; exact r.size) (fun id2 E2 o2 h2 ho2 hl2 => ?_) (r.Pp (by omega)) (fun x hd => by have := r.IU hd; omega) (r.fresh (Nat.le_refl _)) (h.Cv o) hobj
 have := ((r.ghost o).obj id2 E2 o2 h2 ho2).lt hl2
 omega
theorem Rel.write (r : Rel P w0 m h w) {w' : World} {id : Nat} {E : HQ} {o o' : A9} (hE : m id = some E) (ho : h.get id = some o) (hown : o.own = true) (hown' : o'.own = true)
  (ht : Ch w w' E.g) (hobj : G9 P m w' E o') : Rel P w0 m (h.set id o') w' := by
 have hid := h.An ho
 have hB := r.own id E o hE ho hown
 have get' : ∀ i x, (h.set id o').get i = some x → (i = id ∧ x = o') ∨ (i ≠ id ∧ h.get i = some x) := fun i x hx => by
  by_cases e : i = id
  ·subst e; rw [h.get_set_same o' hid] at hx; injection hx with hx; exact .inl ⟨rfl, hx.symm⟩
  ·rw [h.Ar o' hid e] at hx; exact .inr ⟨e, hx⟩
 refine ⟨ht.below r.below r.size hB, r.Ku, fun i F x hF hx => ?_, fun i F x hF hx hxo => ?_, fun i i' F F' x x' hne h1 h2 g1 g2 a b => ?_, r.Qj ht (r.GX id E o hE ho hown), fun i F x hF hx hxo => ?_, r.QV ht (r.ME id E o hE ho (A9.EN hown)), fun i F x hF hx hxl => ?_⟩
 ·rcases get' i x hx with ⟨rfl, rfl⟩ | ⟨hi, hx⟩
  ·rw [hE] at hF; injection hF with hF; subst hF; exact hobj
  ·refine (r.obj i F x hF hx).mono (AU.le_refl m) fun hl => ht.block _ ((r.obj i F x hF hx).lt hl) fun e => ?_
   exact r.sep id i E F o x (fun e => hi e.symm) hE hF ho hx hown hl e.symm
 ·rcases get' i x hx with ⟨rfl, rfl⟩ | ⟨hi, hx⟩
  ·rw [hE] at hF; injection hF with hF; subst hF; exact hB
  ·exact r.own i F x hF hx hxo
 ·rcases get' i x g1 with ⟨rfl, rfl⟩ | ⟨hi, hx⟩
  ·rcases get' i' x' g2 with ⟨rfl, rfl⟩ | ⟨hi', hx'⟩
   ·exact absurd rfl hne
   ·rw [hE] at h1; injection h1 with h1; subst h1; exact r.sep i i' _ F' o x' hne hE h2 ho hx' hown b
  ·rcases get' i' x' g2 with ⟨rfl, rfl⟩ | ⟨hi', hx'⟩
   ·rw [hE] at h2; injection h2 with h2; subst h2; exact fun e => r.sep i' i _ F o x (fun e => hi e.symm) hE h1 ho hx hown (A9.EN a) e.symm
   ·exact r.sep i i' F F' x x' hne h1 h2 hx hx' a b
 ·rcases get' i x hx with ⟨rfl, rfl⟩ | ⟨hi, hx⟩
  ·rw [hE] at hF; injection hF with hF; subst hF; exact r.GX _ _ o hE ho hown
  ·exact r.GX i F x hF hx hxo
 ·rcases get' i x hx with ⟨rfl, rfl⟩ | ⟨hi, hx⟩
  ·rw [hE] at hF; injection hF with hF; subst hF; exact r.ME _ _ o hE ho (A9.EN hown)
  ·exact r.ME i F x hF hx hxl
theorem Rel.Uw (r : Rel P w0 m h w) {id : Nat} {gr : Option TypeId} {st : Nat} {cs cs' : List AA} {h' : AB} (ho : h.get id = some (.cells gr st cs)) (hs : h'.size = h.size) (h1 : h'.get id = some (.cells gr 0 cs')) (h2 : ∀ i, i ≠ id → h'.get i = h.get i) (hz : ∀ E, m id = some E → Tf m E cs') : Rel P w0 m h' w := by
 have get' : ∀ i x, h'.get i = some x → (i = id ∧ x = .cells gr 0 cs') ∨ (i ≠ id ∧ h.get i = some x) := fun i x hx => by
  by_cases e : i = id
  ·subst e; rw [h1] at hx; injection hx with hx; exact .inl ⟨rfl, hx.symm⟩
  ·rw [h2 _ e] at hx; exact .inr ⟨e, hx⟩
 refine ⟨r.below, fun i F hF => by rw [hs]; exact r.Ku i F hF, fun i F x hF hx => ?_, fun i F x hF hx hxo => ?_, fun i i' F F' x x' hne h1 h2 g1 g2 a b => ?_, r.fz, fun i F x hF hx hxo => ?_, r.df, fun i F x hF hx hxl => ?_⟩
 ·rcases get' i x hx with ⟨rfl, rfl⟩ | ⟨hi, hx⟩
  ·exact ⟨⟨⟨(r.obj i F _ hF ho).1.1.1, fun _ => hz F hF⟩, fun _ h => by cases h⟩, fun h => absurd rfl h⟩
  ·exact r.obj i F x hF hx
 ·rcases get' i x hx with ⟨rfl, rfl⟩ | ⟨hi, hx⟩
  ·simp [A9.own] at hxo
  ·exact r.own i F x hF hx hxo
 ·rcases get' i x g1 with ⟨rfl, rfl⟩ | ⟨hi, hx⟩
  ·simp [A9.own] at a
  ·rcases get' i' x' g2 with ⟨rfl, rfl⟩ | ⟨hi', hx'⟩
   ·simp [A9.live] at b
   ·exact r.sep i i' F F' x x' hne h1 h2 hx hx' a b
 ·rcases get' i x hx with ⟨rfl, rfl⟩ | ⟨hi, hx⟩
  ·simp [A9.own] at hxo
  ·exact r.GX i F x hF hx hxo
 ·rcases get' i x hx with ⟨rfl, rfl⟩ | ⟨hi, hx⟩
  ·simp [A9.live] at hxl
  ·exact r.ME i F x hF hx hxl
theorem Rel.kill (r : Rel P w0 m h w) {id : Nat} {gr : Option TypeId} {st : Nat} {cs : List AA} (ho : h.get id = some (.cells gr st cs)) : Rel P w0 m (h.set id (.cells gr 0 [])) w :=
 r.Uw ho (h.size_set _ _) (h.get_set_same _ (h.An ho)) (fun _ hi => h.Ar _ (h.An ho) hi) fun _ _ => Tf.nil
def AU.still (m : AU) (g : Nat) (cur : Array Value) : AU := ⟨m.i, fun g' j => if g' = g then cur[j]? else m.fz g' j, m.df⟩
theorem AU.Sq {m : AU} {g : Nat} {cur : Array Value} (hf : ∀ j, m.fz g j = none) : m.le (m.still g cur) := ⟨fun _ _ h => h, fun g' o v hv => by
 by_cases e : g' = g
 ·subst e; rw [hf] at hv; cases hv
 ·simp only [AU.still, if_neg e]; exact hv⟩
theorem Rel.freeze (r : Rel P w0 m h w) {id : Nat} {E : HQ} {gr : Option TypeId} {cs : List AA} (hE : m id = some E) (ho : h.get id = some (.cells gr 2 cs)) :
    ∃ cur, Rel P w0 (m.still E.g cur) (h.set id (.cells gr 0 cs)) w ∧ m.le (m.still E.g cur) ∧ cur.size = E.total ∧ E.QK = E5 P gr ∧ ∀ (j : Nat) (a : AA), cs[j]? = some a → ∃ c, cur[E.base + j]? = some c ∧ VR m a c := by
  have hf := r.GX id E _ hE ho rfl
  obtain ⟨he, hc⟩ := r.obj id E _ hE ho
  obtain ⟨cur, e, fz, h1, h2, h3, h4⟩ := hc (by simp)
  have hle := AU.Sq (m := m) (g := E.g) (cur := cur) hf
  refine ⟨cur, ?_, hle, h2, he.1.1, fun j a ha => (h3 j a ha).2⟩
  have k := r.kill ho
  have hid := h.An ho
  have k1 : Rel P w0 (m.still E.g cur) (h.set id (.cells gr 0 [])) w := by
   refine ⟨k.below, k.Ku, fun i F x hF hx => (k.obj i F x hF hx).mono hle fun _ => rfl, k.own, k.sep, fun g' j v hv => ?_, fun i F x hF hx hxo => ?_, k.df, k.ME⟩
   · by_cases e' : g' = E.g
     · subst e'
       simp only [AU.still, if_true] at hv
       exact ⟨cur, e, fz, h1, hv⟩
     · simp only [AU.still, if_neg e'] at hv
       exact k.fz g' j v hv
   · have hne : i ≠ id := by
       intro e'; subst e'
       rw [h.get_set_same _ hid] at hx; injection hx with hx; subst hx; simp [A9.own] at hxo
     have hx' : h.get i = some x := by rw [h.Ar _ hid hne] at hx; exact hx
     have hg : F.g ≠ E.g := fun e' => r.sep id i E F _ x (fun e => hne e.symm) hE hF ho hx' rfl (A9.EN hxo) e'.symm
     intro j
     simp only [AU.still, if_neg hg]
     exact r.GX i F x hF hx' hxo j
  refine k1.Uw (cs' := cs) (h.get_set_same _ hid) (by rw [h.size_set, h.size_set]) (h.get_set_same _ hid) (fun i hi => by rw [h.Ar _ hid hi, h.Ar _ hid hi]) fun E' hE' => ?_
  obtain rfl : E = E' := Option.some.inj (hE.symm.trans hE')
  intro j a ha
  obtain ⟨c, g1, g2⟩ := (h3 j a ha).2
  exact ⟨c, by simp only [AU.still, if_true]; exact g1, g2.mono hle⟩
end
def FR (m : AU) (fr : Fr) (a : Act) : Prop := fr.length = a.tmps.size ∧ ∀ i, VR m (nth fr i) (a.tmps.getD i undef)
theorem FR.mono {m m' : AU} (hm : m.le m') {fr : Fr} {a : Act} (h : FR m fr a) : FR m' fr a := ⟨h.1, fun i => (h.2 i).mono hm⟩
theorem FR.ev {m : AU} {fr : Fr} {a : Act} (h : FR m fr a) (x : Operand) : VR m (ev fr x) (a.eval x) := by
 cases x with
 | tmp t => exact h.2 t
 | const v => exact VR.Te m v
 | global g => exact .GK g 0
 | func f => exact .func _ _ _ _ _ rfl (fun i x y hx => by simp at hx) rfl (fun i x y hx => by simp at hx)
theorem FR.put {m : AU} {fr : Fr} {a : Act} (h : FR m fr a) (d : Option Tmp) {x : AA} {v : Value} (hv : VR m x v) : FR m (put fr d x) (a.put d v) := by
 cases d with
 | none => exact h
 | some d =>
  refine ⟨by simp [Av.put, Act.put, h.1], fun i => ?_⟩
  show VR m (nth (fr.set d x) i) ((a.tmps.setIfInBounds d v).getD i undef)
  rw [Bu]
  by_cases e : d = i ∧ d < fr.length
  ·rw [if_pos e]
   obtain ⟨rfl, hd⟩ := e
   rw [h.1] at hd
   simpa [Array.getD_eq_getD_getElem?, Array.getElem?_setIfInBounds, hd] using hv
  ·rw [if_neg e]
   have : (a.tmps.setIfInBounds d v).getD i undef = a.tmps.getD i undef := by
    simp only [Array.getD_eq_getD_getElem?, Array.getElem?_setIfInBounds]
    by_cases e1 : d = i
    ·subst e1
     have : ¬ d < a.tmps.size := fun h' => e ⟨rfl, by rw [h.1]; exact h'⟩
     simp [this]
    ·simp [e1]
   rw [this]
   exact h.2 i
theorem FR.Vz {m : AU} {fr : Fr} {a : Act} (h : FR m fr a) (l : List Operand) : BU m (l.map (Av.ev fr)) (l.map a.eval) := BU.map _ _ l fun x _ => h.ev x
theorem VR.Dr (m : AU) : VR m (.tuple []) Go.undef := .tuple [] #[] rfl fun i x y h => by simp at h
theorem VR.Dl {m : AU} {x : AA} {v : Value} (h : VR m x v) : VR m (Dl x) v := by
 unfold Av.Dl
 split
 ·cases h <;> exact .Fy _ _
 ·exact h
theorem BU.Dl {m : AU} {a : List AA} {c : List Value} (h : BU m a c) : BU m (a.map Av.Dl) c := by
 refine ⟨by simpa using h.1, fun i x y hx hy => ?_⟩
 rw [List.getElem?_map] at hx
 simp only [Option.map_eq_some_iff] at hx
 obtain ⟨z, hz, rfl⟩ := hx
 exact (h.2 i z y hz hy).Dl
theorem VR.Sp {m : AU} {x : AA} {v : Value} (h : VR m x v) : VR m (Sp x) v := by
 unfold Av.Sp
 split
 ·obtain ⟨c, rfl, hv⟩ := h.Dy; exact BU.agg hv.Dl
 ·exact h.Dl
theorem BU.B3 {m : AU} : ∀ (bs : List Bool) {a : List AA} {c : List Value}, BU m a c → BU m (B3 bs a) c
 | [], a, c, h => by cases a <;> exact h
 | true :: bs, [], c, h => h
 | false :: bs, [], c, h => h
 | b :: bs, x :: a, [], h => by simp [BU] at h
 | b :: bs, x :: a, y :: c, h => by
  have hc := h.2 0 x y rfl rfl
  have hv : BU m a c := ⟨by simpa using h.1, fun i u v hx hy => h.2 (i + 1) u v (by simpa using hx) (by simpa using hy)⟩
  cases b
  ·exact .cons hc (BU.B3 bs hv)
  ·exact .cons hc.Sp (BU.B3 bs hv)
theorem VR.DW {m m' : AU} {x : AA} {v : Value} (hf : DW x = true) (h : VR m' x v) : VR m x v := by
 cases h <;> simp [Av.DW] at hf
 ·exact .bool _
 ·exact .int _ _
 ·exact .str _
 ·exact .nilPtr
 ·exact .B8
 ·exact .CU _
 ·exact .Is
 ·exact .Gv
 ·exact .nilFunc
 ·exact .nilIface
theorem VR.Fk {m m' : AU} {x : AA} {v : Value} (hf : Fk x = true) (h : VR m' x v) : VR m x v := by
 unfold Av.Fk at hf
 split at hf
 ·rename_i cs
  obtain ⟨c, rfl, hv⟩ := h.Dy
  refine BU.agg ⟨hv.1, fun i a b ha hb => ?_⟩
  exact (hv.2 i a b ha hb).DW (List.all_eq_true.1 hf a (List.mem_of_getElem? ha))
 ·exact h.DW hf
theorem VR.JS {m m' : AU} {x : AA} {v : Value} (hf : JS x = true) (h : VR m' x v) : VR m x v := by
 unfold Av.JS at hf
 split at hf
 ·rename_i cs
  obtain ⟨c, rfl, hv⟩ := h.FV
  refine BU.tuple ⟨hv.1, fun i a b ha hb => ?_⟩
  exact (hv.2 i a b ha hb).Fk (List.all_eq_true.1 hf a (List.mem_of_getElem? ha))
 ·exact h.Fk hf
def BO (G : Nat → Option (List AA)) (w0 : World) : Prop :=
 (∀ g cs, G g = some cs → g < w0.heap.size ∧ ∃ cur e fz, w0.heap[g]? = some (.cells cur e fz) ∧ (cs ≠ [] → cur.size = cs.length) ∧ ∀ (j : Nat) (a : AA), cs[j]? = some a → a.one = true ∧ Av.DW a = true ∧ ∃ c, cur[j]? = some c ∧ VR ⟨fun _ => none, fun _ _ => none, fun _ _ => False⟩ a c) ∧
 ∀ g, G g = some [] → ∃ n : Int, w0.cell? ⟨g, 0, none⟩ = some (.int .i64 n)
theorem BO.none (w0 : World) : BO (fun _ => Option.none) w0 := ⟨fun g cs h => (by cases h), fun g h => (by cases h)⟩
theorem BO.later {G : Nat → Option (List AA)} {w0 w : World} (hz : BO G w0) (hb : Below w0.heap.size w0 w) : BO G w := ⟨fun g cs h => by
 obtain ⟨hlt, cur, e, fz, hc, hv⟩ := hz.1 g cs h
 exact ⟨Nat.lt_of_lt_of_le hlt hb.size, cur, e, fz, by rw [hb.block g hlt]; exact hc, hv⟩, fun g h => by
 obtain ⟨hlt, -⟩ := hz.1 g [] h
 obtain ⟨n, hn⟩ := hz.2 g h
 refine ⟨n, ?_⟩
 unfold World.cell? at hn ⊢
 rw [show w.heap[(⟨g, 0, Option.none⟩ : Addr).block]? = w0.heap[(⟨g, 0, Option.none⟩ : Addr).block]? from hb.block g hlt]
 exact hn⟩
theorem BO.rel {P : Program} {G : Nat → Option (List AA)} {w0 w : World} (hz : BO G w0) (hb : Below w0.heap.size w0 w) {g : Nat} {cs : List AA} (hg : G g = some cs) :
  ∃ tot, Rel P w0 ⟨fun id => if id = 0 then some ⟨g, 0, 0, tot⟩ else Option.none, fun _ _ => Option.none, fun _ _ => False⟩ ((⟨0, .leaf⟩ : AB).push (.cells Option.none 1 cs)) w ∧ ∀ a ∈ cs, Av.DW a = true := by
 obtain ⟨hlt, cur, e, fz, hc, _, hv⟩ := hz.1 g cs hg
 have key : ∀ id o, ((⟨0, .leaf⟩ : AB).push (.cells Option.none 1 cs)).get id = some o → id = 0 ∧ o = .cells Option.none 1 cs := by
  intro id o ho
  rw [AB.JY] at ho
  split at ho
  ·rename_i h0; injection ho with ho; exact ⟨h0, ho.symm⟩
  ·have : ((⟨0, .leaf⟩ : AB).get id) = Option.none := by
    unfold AB.get
    cases Nat.blt id (⟨0, .leaf⟩ : AB).size <;> rfl
   rw [this] at ho; cases ho
 refine ⟨cur.size, ⟨hb, fun id E hE => ?_, fun id E o hE ho => ?_, fun id E o hE ho hown => ?_, fun id id' E E' o o' hne h1 h2 g1 g2 hown => ?_, fun g o v hv => by (cases hv), fun id E o hE ho hown j => rfl, fun g x hg => hg.elim, fun id E o hE ho hl x hd => hd⟩, fun a ha => ?_⟩
 ·dsimp only at hE
  split at hE
  ·rename_i h0; subst h0; simp
  ·cases hE
 ·obtain ⟨rfl, rfl⟩ := key id o ho
  simp only [if_true, Option.some.injEq] at hE
  subst hE
  refine ⟨⟨⟨rfl, fun h => by cases h⟩, fun _ h => by cases h⟩, fun _ => ⟨cur, e, fz, by rw [hb.block g hlt]; exact hc, rfl, fun j a ha => ?_, fun h => by cases h⟩⟩
  obtain ⟨h1, h2, c, h3, h4⟩ := hv j a ha
  exact ⟨h1, c, by simpa using h3, h4.DW h2⟩
 ·obtain ⟨rfl, rfl⟩ := key id o ho
  simp [A9.own] at hown
 ·obtain ⟨rfl, rfl⟩ := key id o g1
  simp [A9.own] at hown
 ·obtain ⟨j, hj, rfl⟩ := List.getElem_of_mem ha
  exact (hv j _ (List.getElem?_eq_getElem hj)).2.1
end Go.Av
