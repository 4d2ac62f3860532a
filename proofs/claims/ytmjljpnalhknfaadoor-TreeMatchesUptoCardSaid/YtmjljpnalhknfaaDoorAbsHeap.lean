/-
  ABS, 3: how an abstract heap stands to a world ('Rel'), and what keeps that: a new object, a write into an object of the run's own, an object that dies.
-/
import Derived.Test.YtmjljpnalhknfaaDoorAbsRel
namespace Go.Abs
open Go.RowKit

def AObj.live : AObj → Bool
  | .cells _ st _ => st != 0
  | .map st _ => st != 0
  | .iter _ _ => true
def AObj.own : AObj → Bool
  | .cells _ st _ => st == 2
  | .map st _ => st == 2
  | .iter _ _ => true
theorem AObj.live_of_own {o : AObj} (h : o.own = true) : o.live = true := by
  cases o <;> simp [AObj.own, AObj.live] at * <;> omega

/-- of how many cells an element is, if the object is a slice's array -/
def eszOf (P : Program) : Option TypeId → Nat
  | some e => P.cellsOf e
  | none => 0

def ObjR (P : Program) (m : Inj) (w : World) (E : Ent) : AObj → Prop
  | .cells gr st cs => E.esz = eszOf P gr ∧ (st ≠ 0 → ∃ cur e fz, w.heap[E.g]? = some (.cells cur e fz) ∧ cur.size = E.total ∧
      (∀ (j : Nat) (a : AVal), cs[j]? = some a → a.one = true ∧ ∃ c, cur[E.base + j]? = some c ∧ VR m a c) ∧ (st = 2 → ∀ j, j < E.total → ¬ (fz.1 ≤ j ∧ j < fz.2)))
  | .map st es => E.base = 0 ∧ (st ≠ 0 → ∃ ents clock, w.heap[E.g]? = some (.map ents clock) ∧ es.length = ents.size ∧
      ∀ (i : Nat) (k v : AVal) (e : MapEntry), es[i]? = some (k, v) → ents[i]? = some e → VR m k e.key ∧ VR m v e.val)
  | .iter s pos => E.base = 0 ∧ w.heap[E.g]? = some (.stringIter ⟨⟨s⟩⟩ pos)

structure Rel (P : Program) (w0 : World) (m : Inj) (h : AHeap) (w : World) : Prop where
  below : Below w0.heap.size w0 w
  dom : ∀ id E, m id = some E → id < h.size
  obj : ∀ id E o, m id = some E → h.get id = some o → ObjR P m w E o
  own : ∀ id E o, m id = some E → h.get id = some o → o.own = true → w0.heap.size ≤ E.g
  sep : ∀ id id' E E' o o', id ≠ id' → m id = some E → m id' = some E' → h.get id = some o → h.get id' = some o' → o.own = true → o'.live = true → E.g ≠ E'.g

/-- Block g alone, and what is new, may have turned. -/
structure Turn (w w' : World) (g : Nat) : Prop where
  os : w'.os = w.os
  tape : w'.tape = w.tape
  output : w'.output = w.output
  size : w.heap.size ≤ w'.heap.size
  block : ∀ k, k < w.heap.size → k ≠ g → w'.heap[k]? = w.heap[k]?

theorem Turn.refl (w : World) (g : Nat) : Turn w w g := ⟨rfl, rfl, rfl, Nat.le_refl _, fun _ _ _ => rfl⟩
theorem Turn.below {w0 w w' : World} {B g : Nat} (h : Turn w w' g) (hb : Below B w0 w) (hB : B ≤ w.heap.size) (hg : B ≤ g) : Below B w0 w' :=
  ⟨h.os.trans hb.os, h.tape.trans hb.tape, h.output.trans hb.output, Nat.le_trans hb.size h.size, fun k hk => (h.block k (by omega) (by omega)).trans (hb.block k hk)⟩
theorem Turn.alloc (w : World) (o : Obj) (g : Nat) : Turn w (w.alloc o) g := ⟨rfl, rfl, rfl, by simp, fun k hk _ => Below.heap_alloc w o k hk⟩
theorem Turn.alloc_drew (w : World) (o : Obj) (g : Nat) : Turn w (w.drew.alloc o) g := ⟨rfl, rfl, rfl, (Turn.alloc w.drew o g).size, fun k hk _ => Below.heap_alloc w.drew o k hk⟩
theorem Turn.drew {w w' : World} {g : Nat} (h : Turn w w' g) : Turn w w'.drew g := ⟨h.os, h.tape, h.output, h.size, h.block⟩
theorem Turn.trans {a b c : World} {g : Nat} (h : Turn a b g) (k : Turn b c g) : Turn a c g :=
  ⟨k.os.trans h.os, k.tape.trans h.tape, k.output.trans h.output, Nat.le_trans h.size k.size, fun i hi hne => (k.block i (Nat.lt_of_lt_of_le hi h.size) hne).trans (h.block i hi hne)⟩

/-- a living object's block is there -/
theorem ObjR.lt {P : Program} {m : Inj} {w : World} {E : Ent} {o : AObj} (h : ObjR P m w E o) (hl : o.live = true) : E.g < w.heap.size := by
  cases o with
  | cells gr st cs => obtain ⟨_, _, _, h1, _⟩ := h.2 (by simpa [AObj.live] using hl); exact (Array.getElem?_eq_some_iff.1 h1).1
  | map st es => obtain ⟨_, _, h1, _⟩ := h.2 (by simpa [AObj.live] using hl); exact (Array.getElem?_eq_some_iff.1 h1).1
  | iter s pos => exact (Array.getElem?_eq_some_iff.1 h.2).1

theorem ObjR.mono {P : Program} {m m' : Inj} {w w' : World} {E : Ent} {o : AObj} (hm : m.le m') (hw : o.live = true → w'.heap[E.g]? = w.heap[E.g]?) (h : ObjR P m w E o) : ObjR P m' w' E o := by
  cases o with
  | cells gr st cs =>
    refine ⟨h.1, fun hst => ?_⟩
    obtain ⟨cur, e, fz, h1, h2, h3, h4⟩ := h.2 hst
    refine ⟨cur, e, fz, by rw [hw (by simp [AObj.live, hst])]; exact h1, h2, fun j a ha => ?_, h4⟩
    obtain ⟨g1, c, g2, g3⟩ := h3 j a ha
    exact ⟨g1, c, g2, g3.mono hm⟩
  | map st es =>
    refine ⟨h.1, fun hst => ?_⟩
    obtain ⟨ents, clock, h1, h2, h3⟩ := h.2 hst
    exact ⟨ents, clock, by rw [hw (by simp [AObj.live, hst])]; exact h1, h2, fun i k v e hi he => ⟨(h3 i k v e hi he).1.mono hm, (h3 i k v e hi he).2.mono hm⟩⟩
  | iter s pos => exact ⟨h.1, by rw [hw rfl]; exact h.2⟩

section
variable {P : Program} {w0 : World} {m : Inj} {h : AHeap} {w : World}

theorem Rel.size (r : Rel P w0 m h w) : w0.heap.size ≤ w.heap.size := r.below.size
theorem Rel.fresh (r : Rel P w0 m h w) {id : Nat} (hi : h.size ≤ id) : m id = none := by
  cases e : m id with
  | none => rfl
  | some E => have := r.dom id E e; omega

theorem Rel.drew (r : Rel P w0 m h w) : Rel P w0 m h w.drew := ⟨r.below.drew, r.dom, r.obj, r.own, r.sep⟩

/-- a new object that nothing leads to yet -/
theorem Rel.ghost (r : Rel P w0 m h w) (o : AObj) : Rel P w0 m (h.push o) w := by
  have old : ∀ id E o', m id = some E → (h.push o).get id = some o' → h.get id = some o' := fun id E o' hm hg => by
    rw [h.get_push_old o (r.dom id E hm)] at hg; exact hg
  exact ⟨r.below, fun id E hm => by have := r.dom id E hm; simp; omega, fun id E o' hm hg => r.obj id E o' hm (old id E o' hm hg),
    fun id E o' hm hg => r.own id E o' hm (old id E o' hm hg), fun id id' E E' o1 o2 hne h1 h2 g1 g2 => r.sep id id' E E' o1 o2 hne h1 h2 (old _ _ _ h1 g1) (old _ _ _ h2 g2)⟩

def Inj.upd (m : Inj) (id : Nat) (E : Ent) : Inj := fun i => if i = id then some E else m i
theorem Inj.upd_same (m : Inj) (id : Nat) (E : Ent) : m.upd id E id = some E := by simp [Inj.upd]
theorem Inj.upd_ne (m : Inj) {id i : Nat} (E : Ent) (h : i ≠ id) : m.upd id E i = m i := by simp [Inj.upd, h]
theorem Inj.le_upd {m : Inj} {id : Nat} (E : Ent) (h : m id = none) : m.le (m.upd id E) := fun i F hF => by
  by_cases e : i = id
  · subst e; rw [h] at hF; cases hF
  · rw [Inj.upd_ne _ _ e]; exact hF
theorem Inj.le_refl (m : Inj) : m.le m := fun _ _ h => h
theorem Inj.le_trans {a b c : Inj} (h : a.le b) (k : b.le c) : a.le c := fun i E hE => k i E (h i E hE)

/-- an object that is there gets its place: a block in which no living object lies -/
theorem Rel.place (r : Rel P w0 m h w) {w' : World} {id : Nat} {E : Ent} {o : AObj} (ht : Turn w w' E.g) (hg0 : w0.heap.size ≤ E.g)
    (hfree : ∀ id2 E2 o2, m id2 = some E2 → h.get id2 = some o2 → o2.live = true → E2.g ≠ E.g) (hid : m id = none) (ho : h.get id = some o)
    (hobj : ObjR P (m.upd id E) w' E o) : Rel P w0 (m.upd id E) h w' := by
  have hle := Inj.le_upd E hid
  have other : ∀ {i F}, m.upd id E i = some F → i ≠ id → m i = some F := fun h1 h2 => by rw [Inj.upd_ne _ _ h2] at h1; exact h1
  refine ⟨ht.below r.below r.size hg0, fun i F hF => ?_, fun i F o' hF ho' => ?_, fun i F o' hF ho' hown => ?_, fun i i' F F' o1 o2 hne h1 h2 g1 g2 hown hlive => ?_⟩
  · by_cases e : i = id
    · subst e; rw [Inj.upd_same] at hF; injection hF with hF; subst hF; exact h.lt_of_get ho
    · exact r.dom i F (other hF e)
  · by_cases e : i = id
    · subst e; rw [Inj.upd_same] at hF; injection hF with hF; subst hF; rw [ho] at ho'; injection ho' with ho'; subst ho'; exact hobj
    · have hF' := other hF e
      exact (r.obj i F o' hF' ho').mono hle fun hl => ht.block _ ((r.obj i F o' hF' ho').lt hl) (hfree i F o' hF' ho' hl)
  · by_cases e : i = id
    · subst e; rw [Inj.upd_same] at hF; injection hF with hF; subst hF; exact hg0
    · exact r.own i F o' (other hF e) ho' hown
  · by_cases e : i = id
    · subst e; rw [Inj.upd_same] at h1; injection h1 with h1; subst h1
      exact fun hh => hfree i' F' o2 (other h2 (fun e => hne e.symm)) g2 hlive hh.symm
    · by_cases e' : i' = id
      · subst e'; rw [Inj.upd_same] at h2; injection h2 with h2; subst h2
        exact hfree i F o1 (other h1 e) g1 (AObj.live_of_own hown)
      · exact r.sep i i' F F' o1 o2 hne (other h1 e) (other h2 e') g1 g2 hown hlive

/-- a new object in a new block -/
theorem Rel.new (r : Rel P w0 m h w) {w' : World} {E : Ent} {o : AObj} (ht : Turn w w' E.g) (hg : E.g = w.heap.size)
    (hobj : ObjR P (m.upd h.size E) w' E o) : Rel P w0 (m.upd h.size E) (h.push o) w' := by
  refine (r.ghost o).place ht (by rw [hg]; exact r.size) (fun id2 E2 o2 h2 ho2 hl2 => ?_) (r.fresh (Nat.le_refl _)) (h.get_push_new o) hobj
  have := ((r.ghost o).obj id2 E2 o2 h2 ho2).lt hl2
  omega

/-- what an object of the run's own holds is another thing now -/
theorem Rel.write (r : Rel P w0 m h w) {w' : World} {id : Nat} {E : Ent} {o o' : AObj} (hE : m id = some E) (ho : h.get id = some o) (hown : o.own = true) (hown' : o'.own = true)
    (ht : Turn w w' E.g) (hobj : ObjR P m w' E o') : Rel P w0 m (h.set id o') w' := by
  have hid := h.lt_of_get ho
  have hB := r.own id E o hE ho hown
  have get' : ∀ i x, (h.set id o').get i = some x → (i = id ∧ x = o') ∨ (i ≠ id ∧ h.get i = some x) := fun i x hx => by
    by_cases e : i = id
    · subst e; rw [h.get_set_same o' hid] at hx; injection hx with hx; exact .inl ⟨rfl, hx.symm⟩
    · rw [h.get_set_ne o' hid e] at hx; exact .inr ⟨e, hx⟩
  refine ⟨ht.below r.below r.size hB, r.dom, fun i F x hF hx => ?_, fun i F x hF hx hxo => ?_, fun i i' F F' x x' hne h1 h2 g1 g2 a b => ?_⟩
  · rcases get' i x hx with ⟨rfl, rfl⟩ | ⟨hi, hx⟩
    · rw [hE] at hF; injection hF with hF; subst hF; exact hobj
    · refine (r.obj i F x hF hx).mono (Inj.le_refl m) fun hl => ht.block _ ((r.obj i F x hF hx).lt hl) fun e => ?_
      exact r.sep id i E F o x (fun e => hi e.symm) hE hF ho hx hown hl e.symm
  · rcases get' i x hx with ⟨rfl, rfl⟩ | ⟨hi, hx⟩
    · rw [hE] at hF; injection hF with hF; subst hF; exact hB
    · exact r.own i F x hF hx hxo
  · rcases get' i x g1 with ⟨rfl, rfl⟩ | ⟨hi, hx⟩
    · rcases get' i' x' g2 with ⟨rfl, rfl⟩ | ⟨hi', hx'⟩
      · exact absurd rfl hne
      · rw [hE] at h1; injection h1 with h1; subst h1; exact r.sep i i' _ F' o x' hne hE h2 ho hx' hown b
    · rcases get' i' x' g2 with ⟨rfl, rfl⟩ | ⟨hi', hx'⟩
      · rw [hE] at h2; injection h2 with h2; subst h2; exact fun e => r.sep i' i _ F o x (fun e => hi e.symm) hE h1 ho hx hown (AObj.live_of_own a) e.symm
      · exact r.sep i i' F F' x x' hne h1 h2 hx hx' a b

/-- a slice's array dies -/
theorem Rel.kill (r : Rel P w0 m h w) {id : Nat} {gr : Option TypeId} {st : Nat} {cs : List AVal} (ho : h.get id = some (.cells gr st cs)) : Rel P w0 m (h.set id (.cells gr 0 cs)) w := by
  have hid := h.lt_of_get ho
  have get' : ∀ i x, (h.set id (.cells gr 0 cs)).get i = some x → (i = id ∧ x = .cells gr 0 cs) ∨ (i ≠ id ∧ h.get i = some x) := fun i x hx => by
    by_cases e : i = id
    · subst e; rw [h.get_set_same _ hid] at hx; injection hx with hx; exact .inl ⟨rfl, hx.symm⟩
    · rw [h.get_set_ne _ hid e] at hx; exact .inr ⟨e, hx⟩
  refine ⟨r.below, r.dom, fun i F x hF hx => ?_, fun i F x hF hx hxo => ?_, fun i i' F F' x x' hne h1 h2 g1 g2 a b => ?_⟩
  · rcases get' i x hx with ⟨rfl, rfl⟩ | ⟨hi, hx⟩
    · exact ⟨(r.obj i F _ hF ho).1, fun h => absurd rfl h⟩
    · exact r.obj i F x hF hx
  · rcases get' i x hx with ⟨rfl, rfl⟩ | ⟨hi, hx⟩
    · simp [AObj.own] at hxo
    · exact r.own i F x hF hx hxo
  · rcases get' i x g1 with ⟨rfl, rfl⟩ | ⟨hi, hx⟩
    · simp [AObj.own] at a
    · rcases get' i' x' g2 with ⟨rfl, rfl⟩ | ⟨hi', hx'⟩
      · simp [AObj.live] at b
      · exact r.sep i i' F F' x x' hne h1 h2 hx hx' a b
end

/-! ### frames -/
def FR (m : Inj) (fr : Fr) (a : Act) : Prop := fr.length = a.tmps.size ∧ ∀ i, VR m (nth fr i) (a.tmps.getD i undef)
theorem FR.mono {m m' : Inj} (hm : m.le m') {fr : Fr} {a : Act} (h : FR m fr a) : FR m' fr a := ⟨h.1, fun i => (h.2 i).mono hm⟩
theorem FR.ev {m : Inj} {fr : Fr} {a : Act} (h : FR m fr a) (x : Operand) : VR m (ev fr x) (a.eval x) := by
  cases x with
  | tmp t => exact h.2 t
  | const v => exact VR.ofV m v
  | global g => exact .gptr g 0
  | func f => exact .func _ _ _ _ _ rfl (fun i x y hx => by simp at hx) rfl (fun i x y hx => by simp at hx)
theorem FR.put {m : Inj} {fr : Fr} {a : Act} (h : FR m fr a) (d : Option Tmp) {x : AVal} {v : Value} (hv : VR m x v) : FR m (put fr d x) (a.put d v) := by
  cases d with
  | none => exact h
  | some d =>
    refine ⟨by simp [Abs.put, Act.put, h.1], fun i => ?_⟩
    show VR m (nth (fr.set d x) i) ((a.tmps.setIfInBounds d v).getD i undef)
    rw [nth_set]
    by_cases e : d = i ∧ d < fr.length
    · rw [if_pos e]
      obtain ⟨rfl, hd⟩ := e
      rw [h.1] at hd
      simpa [Array.getD_eq_getD_getElem?, Array.getElem?_setIfInBounds, hd] using hv
    · rw [if_neg e]
      have : (a.tmps.setIfInBounds d v).getD i undef = a.tmps.getD i undef := by
        simp only [Array.getD_eq_getD_getElem?, Array.getElem?_setIfInBounds]
        by_cases e1 : d = i
        · subst e1
          have : ¬ d < a.tmps.size := fun h' => e ⟨rfl, by rw [h.1]; exact h'⟩
          simp [this]
        · simp [e1]
      rw [this]
      exact h.2 i
theorem FR.evs {m : Inj} {fr : Fr} {a : Act} (h : FR m fr a) (l : List Operand) : VRs m (l.map (Abs.ev fr)) (l.map a.eval) := VRs.map _ _ l fun x _ => h.ev x
theorem VR.undef_ (m : Inj) : VR m (.tuple []) Go.undef := .tuple [] #[] rfl fun i x y h => by simp at h

/-! ### plain values -/
theorem VR.flat1 {m m' : Inj} {x : AVal} {v : Value} (hf : flat1 x = true) (h : VR m' x v) : VR m x v := by
  cases h <;> simp [Abs.flat1] at hf
  · exact .bool _
  · exact .int _ _
  · exact .str _
  · exact .nilPtr
  · exact .nilSlice
  · exact .nilMap
  · exact .nilChan
  · exact .nilFunc
  · exact .nilIface
theorem VR.flat2 {m m' : Inj} {x : AVal} {v : Value} (hf : flat2 x = true) (h : VR m' x v) : VR m x v := by
  unfold Abs.flat2 at hf
  split at hf
  · rename_i cs
    obtain ⟨c, rfl, hv⟩ := h.inv_agg
    refine VRs.agg ⟨hv.1, fun i a b ha hb => ?_⟩
    exact (hv.2 i a b ha hb).flat1 (List.all_eq_true.1 hf a (List.mem_of_getElem? ha))
  · exact h.flat1 hf
theorem VR.flat3 {m m' : Inj} {x : AVal} {v : Value} (hf : flat3 x = true) (h : VR m' x v) : VR m x v := by
  unfold Abs.flat3 at hf
  split at hf
  · rename_i cs
    obtain ⟨c, rfl, hv⟩ := h.inv_tuple
    refine VRs.tuple ⟨hv.1, fun i a b ha hb => ?_⟩
    exact (hv.2 i a b ha hb).flat2 (List.all_eq_true.1 hf a (List.mem_of_getElem? ha))
  · exact h.flat2 hf

/-! ### package variables -/
/-- what package variables hold when the law begins -/
def GlobOk (G : Nat → Option (List AVal)) (w0 : World) : Prop :=
  ∀ g cs, G g = some cs → g < w0.heap.size ∧ ∃ cur e fz, w0.heap[g]? = some (.cells cur e fz) ∧ ∀ (j : Nat) (a : AVal), cs[j]? = some a → a.one = true ∧ Abs.flat1 a = true ∧ ∃ c, cur[j]? = some c ∧ VR (fun _ => none) a c
theorem GlobOk.none (w0 : World) : GlobOk (fun _ => Option.none) w0 := fun g cs h => by cases h
theorem GlobOk.later {G : Nat → Option (List AVal)} {w0 w : World} (hz : GlobOk G w0) (hb : Below w0.heap.size w0 w) : GlobOk G w := fun g cs h => by
  obtain ⟨hlt, cur, e, fz, hc, hv⟩ := hz g cs h
  exact ⟨Nat.lt_of_lt_of_le hlt hb.size, cur, e, fz, by rw [hb.block g hlt]; exact hc, hv⟩
/-- as an object that is only read -/
theorem GlobOk.rel {P : Program} {G : Nat → Option (List AVal)} {w0 w : World} (hz : GlobOk G w0) (hb : Below w0.heap.size w0 w) {g : Nat} {cs : List AVal} (hg : G g = some cs) :
    ∃ tot, Rel P w0 (fun id => if id = 0 then some ⟨g, 0, 0, tot⟩ else Option.none) ((⟨0, .leaf⟩ : AHeap).push (.cells Option.none 1 cs)) w ∧ ∀ a ∈ cs, Abs.flat1 a = true := by
  obtain ⟨hlt, cur, e, fz, hc, hv⟩ := hz g cs hg
  have key : ∀ id o, ((⟨0, .leaf⟩ : AHeap).push (.cells Option.none 1 cs)).get id = some o → id = 0 ∧ o = .cells Option.none 1 cs := by
    intro id o ho
    rw [AHeap.get_push] at ho
    split at ho
    · rename_i h0; injection ho with ho; exact ⟨h0, ho.symm⟩
    · have : ((⟨0, .leaf⟩ : AHeap).get id) = Option.none := by
        unfold AHeap.get
        cases Nat.blt id (⟨0, .leaf⟩ : AHeap).size <;> rfl
      rw [this] at ho; cases ho
  refine ⟨cur.size, ⟨hb, fun id E hE => ?_, fun id E o hE ho => ?_, fun id E o hE ho hown => ?_, fun id id' E E' o o' hne h1 h2 g1 g2 hown => ?_⟩, fun a ha => ?_⟩
  · split at hE
    · rename_i h0; subst h0; simp
    · cases hE
  · obtain ⟨rfl, rfl⟩ := key id o ho
    simp only [if_true, Option.some.injEq] at hE
    subst hE
    refine ⟨rfl, fun _ => ⟨cur, e, fz, by rw [hb.block g hlt]; exact hc, rfl, fun j a ha => ?_, fun h => by cases h⟩⟩
    obtain ⟨h1, h2, c, h3, h4⟩ := hv j a ha
    exact ⟨h1, c, by simpa using h3, h4.flat1 h2⟩
  · obtain ⟨rfl, rfl⟩ := key id o ho
    simp [AObj.own] at hown
  · obtain ⟨rfl, rfl⟩ := key id o g1
    simp [AObj.own] at hown
  · obtain ⟨j, hj, rfl⟩ := List.getElem_of_mem ha
    exact (hv j _ (List.getElem?_eq_getElem hj)).2.1
end Go.Abs
