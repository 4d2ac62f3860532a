/-
 A part.
-/
import Derived.Test.YtdbkpibbjnhmgaaDoorAvMore
namespace Go.Av
set_option linter.unusedVariables false
inductive Ck where
 | obj (id : Nat) (o : A9)
 | AL (r : Option Nat) (e : TypeId) (cs : List AA)
 | many (os : List (Nat × A9)) (p : Prop)
def Ck.ids : Ck → List Nat
 | .obj id _ => [id]
 | .AL r _ _ => r.toList
 | .many os _ => if (os.map Prod.fst).Nodup then os.map Prod.fst else []
def Ck.ok (h : AB) : Ck → Prop
 | .obj id o => h.get id = some o
 | .AL none _ cs => cs = []
 | .AL (some id) e cs => h.get id = some (.cells (some e) 2 cs)
 | .many os p => p ∧ (os.map Prod.fst).Nodup ∧ ∀ q ∈ os, h.get q.1 = some q.2
def AX (L : List Ck) : List Nat := L.flatMap Ck.ids
theorem AY (A B : List Ck) : AX (A ++ B) = AX A ++ AX B := by simp [AX]
theorem Ck.Mh (c : Ck) : c.ids.Nodup := by
 cases c with
 | obj id o => simp [Ck.ids]
 | AL r e cs => cases r <;> simp [Ck.ids]
 | many os p =>
  simp only [Ck.ids]
  split
  ·assumption
  ·exact List.nodup_nil
theorem Ck.WX {h : AB} {c : Ck} (k : c.ok h) {i : Nat} (hi : i ∈ c.ids) : i < h.size := by
 cases c with
 | obj id o => simp [Ck.ids] at hi; subst hi; exact h.An k
 | AL r e cs =>
  cases r with
  | none => simp [Ck.ids] at hi
  | some id => simp [Ck.ids] at hi; subst hi; exact h.An k
 | many os p =>
  obtain ⟨_, k2, k3⟩ := k
  simp only [Ck.ids, if_pos k2, List.mem_map] at hi
  obtain ⟨q, hq, rfl⟩ := hi
  exact h.An (k3 q hq)
theorem Ck.Qd {h h' : AB} {c : Ck} (k : c.ok h) (hs : ∀ i ∈ c.ids, h'.get i = h.get i) : c.ok h' := by
 cases c with
 | obj id o => show h'.get id = _; rw [hs id (by simp [Ck.ids])]; exact k
 | AL r e cs =>
  cases r with
  | none => exact k
  | some id => show h'.get id = _; rw [hs id (by simp [Ck.ids])]; exact k
 | many os p =>
  obtain ⟨k1, k2, k3⟩ := k
  refine ⟨k1, k2, fun q hq => ?_⟩
  rw [hs q.1 (by simp only [Ck.ids, if_pos k2]; exact List.mem_map.2 ⟨q, hq, rfl⟩)]
  exact k3 q hq
structure HH (g : Gd) (h : AB) (L F : List Ck) : Prop where
 ok : ∀ c ∈ L ++ F, c.ok h
 nd : (AX (L ++ F)).Nodup
 may : ∀ i ∈ AX L, g.may i = true
 Bg : ∀ i ∈ g.Bg, i < h.size
 floor : g.floor ≤ h.size
section
variable {g : Gd} {h h' : AB} {L F A B C D : List Ck}
theorem HH.lt (a : HH g h L F) {i : Nat} (hi : i ∈ AX (L ++ F)) : i < h.size := by
 simp only [AX, List.mem_flatMap] at hi
 obtain ⟨c, hc, hi⟩ := hi
 exact Ck.WX (a.ok c hc) hi
theorem HH.new (a : HH g h L F) : g.may h.size = true := by
 have h1 : Nat.ble g.floor h.size = true := Nat.ble_eq_true_of_le a.floor
 have h2 : g.Bg.any (Nat.beq h.size) = false := by
  rw [List.any_eq_false]
  intro i hi hb
  have := a.Bg i hi
  have := Nat.eq_of_beq_eq_true hb
  omega
 simp [Gd.may, h1, h2]
theorem HH.upd (a : HH g h (A ++ (C ++ B)) F) (hs : h.size ≤ h'.size) (hsame : ∀ i ∈ AX (A ++ B ++ F), h'.get i = h.get i) (hok : ∀ c ∈ D, c.ok h') (hn : (AX D).Nodup)
  (hf : ∀ i ∈ AX D, i ∉ AX (A ++ B ++ F)) (hm : ∀ i ∈ AX D, g.may i = true) : HH g h' (A ++ (D ++ B)) F := by
 have nd' : (AX A ++ (AX C ++ AX B) ++ AX F).Nodup := by have := a.nd; simpa only [AY] using this
 refine ⟨fun c hc => ?_, ?_, fun i hi => ?_, fun i hi => Nat.lt_of_lt_of_le (a.Bg i hi) hs, Nat.le_trans a.floor hs⟩
 ·have FY : c ∈ A ∨ c ∈ B ∨ c ∈ F → c.ok h' := fun hc => by
   have hc1 : c ∈ A ++ (C ++ B) ++ F := by simp only [List.mem_append]; rcases hc with h | h | h <;> simp [h]
   refine Ck.Qd (a.ok c hc1) fun i hi => hsame i ?_
   simp only [AX, List.mem_flatMap]
   exact ⟨c, by simp only [List.mem_append]; rcases hc with h | h | h <;> simp [h], hi⟩
  simp only [List.mem_append] at hc
  rcases hc with (hc | hc | hc) | hc
  ·exact FY (.inl hc)
  ·exact hok c hc
  ·exact FY (.inr (.inl hc))
  ·exact FY (.inr (.inr hc))
 ·have hp : (AX (A ++ (D ++ B) ++ F)).Perm (AX D ++ AX (A ++ B ++ F)) := by
   simp only [AY, List.append_assoc]
   refine (List.perm_append_comm_assoc _ _ _)
  rw [hp.nodup_iff, List.nodup_append]
  refine ⟨hn, ?_, fun i hi j hj e => hf i hi (e ▸ hj)⟩
  have hq : (AX (A ++ (C ++ B) ++ F)).Perm (AX C ++ AX (A ++ B ++ F)) := by
   simp only [AY, List.append_assoc]
   exact (List.perm_append_comm_assoc _ _ _)
  exact (List.nodup_append.1 (hq.nodup_iff.1 a.nd)).2.1
 ·simp only [AY, List.mem_append] at hi
  rcases hi with hi | hi | hi
  ·exact a.may i (by simp only [AY, List.mem_append]; exact .inl hi)
  ·exact hm i hi
  ·exact a.may i (by simp only [AY, List.mem_append]; exact .inr (.inr hi))
theorem HH.perm (a : HH g h L F) (hp : A.Perm L) : HH g h A F := by
 have hq : (A ++ F).Perm (L ++ F) := hp.append_right F
 refine ⟨fun c hc => a.ok c (hq.mem_iff.1 hc), ?_, fun i hi => a.may i ?_, a.Bg, a.floor⟩
 ·exact ((hq.flatMap_right Ck.ids).nodup_iff).2 a.nd
 ·exact ((hp.flatMap_right Ck.ids).mem_iff).1 hi
theorem D6 {k : Nat} {c : Ck} (hk : L[k]? = some c) : L = L.take k ++ ([c] ++ L.drop (k + 1)) := by
 obtain ⟨hl, e⟩ := List.getElem?_eq_some_iff.1 hk
 rw [List.singleton_append, ← e, ← List.drop_eq_getElem_cons hl, List.take_append_drop]
theorem Es {k : Nat} {c d : Ck} (hk : L[k]? = some c) : L.set k d = L.take k ++ ([d] ++ L.drop (k + 1)) := by
 have hl := (List.getElem?_eq_some_iff.1 hk).1
 rw [List.set_eq_take_append_cons_drop, if_pos hl, List.singleton_append]
theorem HH.mem (a : HH g h L F) {k : Nat} {c : Ck} (hk : L[k]? = some c) : c.ok h := a.ok c (List.mem_append.2 (.inl (List.mem_of_getElem? hk)))
theorem HH.get (a : HH g h L F) (k : Nat) {id : Nat} {o : A9} (hk : L[k]? = some (.obj id o)) : h.get id = some o := a.mem hk
theorem HH.Ns (a : HH g h L F) {k : Nat} {c : Ck} (hk : L[k]? = some c) {i : Nat} (hi : i ∈ c.ids) : g.may i = true :=
 a.may i (by simp only [AX, List.mem_flatMap]; exact ⟨c, List.mem_of_getElem? hk, hi⟩)
theorem HH.Uo (a : HH g h L F) {k : Nat} {c : Ck} (hk : L[k]? = some c) {i : Nat} (hi : i ∈ c.ids) : i ∉ AX (L.take k ++ L.drop (k + 1) ++ F) := by
 have hq : (AX (L ++ F)).Perm (c.ids ++ AX (L.take k ++ L.drop (k + 1) ++ F)) := by
  conv => lhs; rw [D6 hk]
  simp only [AY, List.append_assoc]
  have : AX [c] = c.ids := by simp [AX]
  rw [this]
  exact (List.perm_append_comm_assoc _ _ _)
 exact fun hm => (List.nodup_append.1 (hq.nodup_iff.1 a.nd)).2.2 i hi i hm rfl
theorem HH.Rp (a : HH g h L F) {k : Nat} {c d : Ck} (hk : L[k]? = some c) (hs : h.size ≤ h'.size) (hsame : ∀ i, i < h.size → i ∉ c.ids → h'.get i = h.get i) (hok : d.ok h')
  (hf : ∀ i ∈ d.ids, i ∈ c.ids ∨ h.size ≤ i) (hm : ∀ i ∈ d.ids, g.may i = true) : HH g h' (L.set k d) F := by
 rw [Es hk]
 have a' := a
 rw [D6 hk] at a'
 refine a'.upd hs (fun i hi => ?_) (fun x hx => by rw [List.mem_singleton.1 hx]; exact hok) (by simpa [AX] using d.Mh) (fun i hi hn => ?_) (fun i hi => hm i (by simpa [AX] using hi))
 ·refine hsame i (a.lt ?_) (fun hc => a.Uo hk hc hi)
  rw [D6 hk]
  simp only [AY, List.mem_append] at hi ⊢
  rcases hi with (hi | hi) | hi
  ·exact .inl (.inl hi)
  ·exact .inl (.inr (.inr hi))
  ·exact .inr hi
 ·rcases hf i (by simpa [AX] using hi) with h1 | h1
  ·exact a.Uo hk h1 hn
  ·have : i < h.size := a.lt (by
    rw [D6 hk]
    simp only [AY, List.mem_append] at hn ⊢
    rcases hn with (hn | hn) | hn
    ·exact .inl (.inl hn)
    ·exact .inl (.inr (.inr hn))
    ·exact .inr hn)
   omega
theorem HH.set (a : HH g h L F) (k : Nat) {id : Nat} {o : A9} (o' : A9) (hk : L[k]? = some (.obj id o)) : HH g (h.set id o') (L.set k (.obj id o')) F := by
 have hg := a.get k hk
 have hid := h.An hg
 refine a.Rp hk (by simp) (fun i _ hi => h.Ar _ hid (by simpa [Ck.ids] using hi)) (h.get_set_same _ hid) (fun i hi => .inl hi) (fun i hi => a.Ns hk hi)
theorem HH.add (a : HH g h L F) {c : Ck} (hs : h.size ≤ h'.size) (hsame : ∀ i, i < h.size → h'.get i = h.get i) (hok : c.ok h') (hf : ∀ i ∈ c.ids, h.size ≤ i) (hm : ∀ i ∈ c.ids, g.may i = true) : HH g h' (c :: L) F := by
 have := HH.upd (A := []) (C := []) (B := L) (D := [c]) (h' := h') (g := g) (h := h) (F := F) (by simpa using a) hs (fun i hi => hsame i (a.lt (by simpa using hi))) (fun x hx => by rw [List.mem_singleton.1 hx]; exact hok) (by simpa [AX] using c.Mh)
  (fun i hi hn => by have := hf i (by simpa [AX] using hi); have := a.lt (i := i) (by simpa using hn); omega) (fun i hi => hm i (by simpa [AX] using hi))
 simpa using this
theorem HH.push (a : HH g h L F) (o : A9) : HH g (h.push o) (.obj h.size o :: L) F :=
 a.add (by simp) (fun i hi => h.CF o hi) (h.Cv o) (fun i hi => by simp [Ck.ids] at hi; omega) (fun i hi => by simp [Ck.ids] at hi; rw [hi]; exact a.new)
theorem HH.S3 (a : HH g h L F) (e : TypeId) (cs : List AA) : HH g (h.push (.cells (some e) 2 cs)) (.AL (some h.size) e cs :: L) F :=
 a.add (by simp) (fun i hi => h.CF _ hi) (h.Cv _) (fun i hi => by simp [Ck.ids] at hi; omega) (fun i hi => by simp [Ck.ids] at hi; rw [hi]; exact a.new)
theorem HH.PX (a : HH g h L F) (e : TypeId) : HH g h (.AL none e [] :: L) F :=
 a.add (Nat.le_refl _) (fun _ _ => rfl) rfl (fun i hi => by simp [Ck.ids] at hi) (fun i hi => by simp [Ck.ids] at hi)
theorem HH.front (a : HH g h L F) (k : Nat) {c : Ck} (hk : L[k]? = some c) : HH g h (c :: L.eraseIdx k) F := by
 refine a.perm ?_
 conv => rhs; rw [D6 hk]
 rw [List.eraseIdx_eq_take_drop_succ, List.singleton_append]
 exact List.perm_middle.symm
theorem HH.tail {c : Ck} (a : HH g h (c :: L) F) : HH g h L F := by
 have := HH.upd (A := []) (C := [c]) (B := L) (D := []) (h' := h) (g := g) (h := h) (F := F) (by simpa using a) (Nat.le_refl _) (fun i hi => rfl) (fun x hx => by cases hx) (by simp [AX]) (fun i hi => by simp [AX] at hi) (fun i hi => by simp [AX] at hi)
 simpa using this
theorem HH.cut (a : HH g h L F) (n : Nat) : HH g h (L.take n) (L.drop n ++ F) := by
 have e : L.take n ++ (L.drop n ++ F) = L ++ F := by rw [← List.append_assoc, List.take_append_drop]
 exact ⟨by rw [e]; exact a.ok, by rw [e]; exact a.nd, fun i hi => a.may i (by
  rw [← List.take_append_drop n L, AY]; exact List.mem_append.2 (.inl hi)), a.Bg, a.floor⟩
theorem HH.WA (a : HH g h L F) {pr : List Nat} (hp : ∀ i ∈ AX L, i ∉ pr) (hl : ∀ i ∈ pr, i < h.size) : HH ⟨g.floor, pr ++ g.Bg⟩ h L F := by
 refine ⟨a.ok, a.nd, fun i hi => ?_, fun i hi => ?_, a.floor⟩
 ·have := a.may i hi
  simp only [Gd.may, Bool.and_eq_true, Bool.not_eq_true'] at this ⊢
  refine ⟨this.1, ?_⟩
  rw [List.any_append, this.2, Bool.or_false, List.any_eq_false]
  intro j hj hb
  exact hp i hi (Nat.eq_of_beq_eq_true hb ▸ hj)
 ·rcases List.mem_append.1 hi with hi | hi
  ·exact hl i hi
  ·exact a.Bg i hi
theorem HH.glue {g' : Gd} {n : Nat} {L' : List Ck} (a : HH g h L F) (b : HH g' h' L' (L.drop n ++ F)) (hg : ∀ i, g'.may i = true → g.may i = true) (hp : ∀ i ∈ g.Bg, i ∈ g'.Bg) (hfl : g'.floor = g.floor) : HH g h' (L' ++ L.drop n) F := by
 have e : L' ++ L.drop n ++ F = L' ++ (L.drop n ++ F) := List.append_assoc _ _ _
 refine ⟨by rw [e]; exact b.ok, by rw [e]; exact b.nd, fun i hi => ?_, fun i hi => b.Bg i (hp i hi), by rw [← hfl]; exact b.floor⟩
 rw [AY, List.mem_append] at hi
 rcases hi with hi | hi
 ·exact hg i (b.may i hi)
 ·exact a.may i (by rw [← List.take_append_drop n L, AY]; exact List.mem_append.2 (.inr hi))
theorem HH.HI {n : Nat} {L' : List Ck} (a : HH g h L F) (b : HH g h' L' (L.drop n ++ F)) : HH g h' (L' ++ L.drop n) F := a.glue b (fun _ h => h) (fun _ h => h) rfl
end
section
variable {g : Gd} {h : AB} {L F : List Ck}
theorem HH.UJ (a : HH g h L F) (k : Nat) {id : Nat} {gr : Option TypeId} {cs : List AA} (hk : L[k]? = some (.obj id (.cells gr 2 cs))) {o n : Nat} {ds : List AA} (hd : o + n ≤ cs.length ∧ (cs.drop o).take n = ds) : UJ h (id, o) n = some ds := by
 unfold Av.UJ CB
 simp only [a.get k hk]
 rw [if_pos ⟨by simp, hd.1⟩, hd.2]
theorem HH.PK (a : HH g h L F) (k : Nat) {id : Nat} {gr : Option TypeId} {cs : List AA} (hk : L[k]? = some (.obj id (.cells gr 2 cs))) {o : Nat} {v : AA} (hv : cs[o]? = some v) : PK h (id, o) = some v := by
 have hl := (List.getElem?_eq_some_iff.1 hv).1
 unfold Av.PK CB
 simp only [a.get k hk]
 rw [if_pos ⟨by simp, by omega⟩]
 have e := (List.getElem?_eq_some_iff.1 hv).2
 rw [List.drop_eq_getElem_cons hl, e]
 rfl
theorem HH.st (a : HH g h L F) (k : Nat) {id : Nat} {gr : Option TypeId} {cs : List AA} (hk : L[k]? = some (.obj id (.cells gr 2 cs))) {o : Nat} {new ds : List AA} (hl : o + new.length ≤ cs.length) (h1 : new.all AA.one = true) (hd : C1 cs o (JR gr new) = ds) :
  ∃ h', st g h (id, o) new = some h' ∧ HH g h' (L.set k (.obj id (.cells gr 2 ds))) F := by
 refine ⟨_, ?_, a.set k _ hk⟩
 unfold Av.st Bq
 simp only [a.get k hk]
 rw [if_pos ⟨a.Ns hk (by simp [Ck.ids]), hl, h1⟩, hd]
def AJ (r : Option Nat) (n : Nat) : AA := .slice (r.map fun i => (i, 0)) n
def DC (r : Option Nat) (n : Nat) : Sl := ⟨r.map fun i => (i, 0), n⟩
theorem Dd (a : HH g h L F) (k : Nat) {r : Option Nat} {e : TypeId} {cs : List AA} (hk : L[k]? = some (.AL r e cs)) {n z : Nat} (hn : cs.length = n * z) (hz : z ≠ 0) : Cp h z n (AJ r n) = some cs := by
 have hok := a.mem hk
 unfold AJ Cp
 cases r with
 | none =>
  have : cs = [] := hok
  subst this
  have h0 : n = 0 := by
   have : n * z = 0 := by simpa using hn.symm
   rcases Nat.mul_eq_zero.1 this with h | h
   ·exact h
   ·exact absurd h hz
  subst h0
  simp
 | some id =>
  have hg : h.get id = some (.cells (some e) 2 cs) := hok
  simp only [Option.map_some]
  by_cases h0 : n = 0
  ·subst h0
   rw [if_pos rfl]
   have : cs = [] := List.eq_nil_of_length_eq_zero (by simpa using hn)
   rw [this]
  ·rw [if_neg h0]
   unfold CB
   simp only [hg]
   rw [if_pos ⟨by simp, by omega⟩, List.drop_zero, ← hn, List.take_length]
theorem HH.app (a : HH g h L F) (k : Nat) {r : Option Nat} {e : TypeId} {cs new new' : List AA} {z bytes n m : Nat} {x : AA} (hk : L[k]? = some (.AL r e cs)) (hn : cs.length = n * z) (hz : z ≠ 0) (hx : Cp h z m x = some new) (hc : new.map Dl = new') (hm : new'.length = m * z)
  (hb : n + m ≤ 1099511627776 ∧ (n + m) * bytes ≤ 1099511627776) (h1 : cs.all AA.one = true) (h2 : new'.all AA.one = true) :
  ∃ r' h', Av.app e z bytes g h (DC r n) m x = some (DC r' (n + m), h') ∧ HH g h' (L.set k (.AL r' e (cs ++ new'))) F := by
 have hfo : Cp h z n (AJ r n) = some cs := Dd a k hk hn hz
 unfold Av.app
 by_cases h0 : m = 0
 ·subst h0
  refine ⟨r, h, by simp [DC], ?_⟩
  have : new' = [] := List.eq_nil_of_length_eq_zero (by simpa using hm)
  subst this
  rw [List.append_nil]
  have : L.set k (.AL r e cs) = L := by rw [Es hk, ← D6 hk]
  rw [this]; exact a
 ·rw [if_neg h0, if_pos (show (DC r n).n + m ≤ 1099511627776 ∧ ((DC r n).n + m) * bytes ≤ 1099511627776 from hb)]
  simp only [DC, hx, Option.map_some, hc]
  rw [show Cp h z n (.slice (r.map fun i => (i, 0)) n) = some cs from hfo]
  simp only
  rw [if_pos (by rw [List.all_append, h1, h2]; rfl)]
  cases r with
  | none =>
   refine ⟨some h.size, _, rfl, ?_⟩
   exact a.Rp hk (by simp) (fun i hi _ => h.CF _ hi) (h.Cv _) (fun i hi => by simp [Ck.ids] at hi; omega) (fun i hi => by simp [Ck.ids] at hi; rw [hi]; exact a.new)
  | some id =>
   have hg : h.get id = some (.cells (some e) 2 cs) := a.mem hk
   have hid := h.An hg
   simp only [Option.map_some, hg]
   rw [if_pos ⟨a.Ns hk (by simp [Ck.ids]), trivial⟩]
   refine ⟨some h.size, _, rfl, ?_⟩
   refine a.Rp hk (by simp) (fun i hi hn => ?_) ?_ (fun i hi => by simp [Ck.ids] at hi; omega) (fun i hi => by simp [Ck.ids] at hi; rw [hi]; exact a.new)
   ·rw [AB.CF _ _ (by simpa using hi)]
    exact h.Ar _ hid (by simpa [Ck.ids] using hn)
   ·have := AB.Cv (h.set id (.cells (some e) 0 [])) (.cells (some e) 2 (cs ++ new'))
    exact this
theorem HH.X6 {r : Option Nat} {e : TypeId} {cs : List AA} {n z : Nat} (a : HH g h (.AL r e cs :: L) F) (hn : cs.length = n * z) (hz : z ≠ 0) : ∃ h', Fm g h (AJ r n) = some (.Ev n cs, h') ∧ HH g h' L F := by
 have hk : (Ck.AL r e cs :: L)[0]? = some (.AL r e cs) := rfl
 unfold AJ
 by_cases h0 : n = 0
 ·subst h0
  have : cs = [] := List.eq_nil_of_length_eq_zero (by simpa using hn)
  subst this
  cases r with
  | none => exact ⟨h, rfl, a.tail⟩
  | some id => exact ⟨h, rfl, a.tail⟩
 ·cases r with
  | none =>
   exfalso
   have hc : cs = [] := a.mem hk
   subst hc
   have h1 : n * z = 0 := by simpa using hn.symm
   rcases Nat.mul_eq_zero.1 h1 with h | h
   ·exact h0 h
   ·exact hz h
  | some id =>
   have hg : h.get id = some (.cells (some e) 2 cs) := a.mem hk
   have hid := h.An hg
   have hb : Nat.beq n 0 = false := by cases n; exact absurd rfl h0; rfl
   refine ⟨h.set id (.cells (some e) 0 cs), by simp only [Fm, Option.map_some, hb, cond_false, hg, a.Ns hk (i := id) (by simp [Ck.ids]), cond_true], ?_⟩
   have b := a.Rp (d := .AL none e []) (h' := h.set id (.cells (some e) 0 cs)) hk (by simp) (fun i _ hi => h.Ar _ hid (by simpa [Ck.ids] using hi)) rfl (fun i hi => by simp [Ck.ids] at hi) (fun i hi => by simp [Ck.ids] at hi)
   exact HH.tail (c := .AL none e []) b
end
end Go.Av
