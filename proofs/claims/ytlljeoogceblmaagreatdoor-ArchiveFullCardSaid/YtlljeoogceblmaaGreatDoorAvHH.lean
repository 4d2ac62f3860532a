/-
 A part.
-/
import Derived.Test.YtlljeoogceblmaaGreatDoorAvMore
namespace Go.Av
set_option linter.unusedVariables false
inductive Ck where
 | obj (id : Nat) (o : CJ)
 | AQ (r : Option Nat) (e : TypeId) (cs : List AB)
def Ck.ids : Ck → List Nat
 | .obj id _ => [id]
 | .AQ r _ _ => r.toList
def Ck.ok (h : AF) : Ck → Prop
 | .obj id o => h.get id = some o
 | .AQ none _ cs => cs = []
 | .AQ (some id) e cs => h.get id = some (.cells (some e) 2 cs)
def C6 (L : List Ck) : List Nat := L.flatMap Ck.ids
theorem Cn (A B : List Ck) : C6 (A ++ B) = C6 A ++ C6 B := by simp [C6]
theorem Ck.Om (c : Ck) : c.ids.Nodup := by
 cases c with
 | obj id o => simp [Ck.ids]
 | AQ r e cs => cases r <;> simp [Ck.ids]
theorem Ck.Xp {h : AF} {c : Ck} (k : c.ok h) {i : Nat} (hi : i ∈ c.ids) : i < h.size := by
 cases c with
 | obj id o => simp [Ck.ids] at hi; subst hi; exact h.BV k
 | AQ r e cs =>
  cases r with
  | none => simp [Ck.ids] at hi
  | some id => simp [Ck.ids] at hi; subst hi; exact h.BV k
theorem Ck.Vw {h h' : AF} {c : Ck} (k : c.ok h) (J : ∀ i ∈ c.ids, h'.get i = h.get i) : c.ok h' := by
 cases c with
 | obj id o => show h'.get id = _; rw [J id (by simp [Ck.ids])]; exact k
 | AQ r e cs =>
  cases r with
  | none => exact k
  | some id => show h'.get id = _; rw [J id (by simp [Ck.ids])]; exact k
structure HH (g : Gd) (h : AF) (L F : List Ck) : Prop where
 ok : ∀ c ∈ L ++ F, c.ok h
 nd : (C6 (L ++ F)).Nodup
 may : ∀ i ∈ C6 L, g.may i = true
 CD : ∀ i ∈ g.CD, i < h.size
 floor : g.floor ≤ h.size
section
variable {g : Gd} {h h' : AF} {L F A B C D : List Ck}
theorem HH.lt (a : HH g h L F) {i : Nat} (hi : i ∈ C6 (L ++ F)) : i < h.size := by
 simp only [C6, List.mem_flatMap] at hi
 obtain ⟨c, hc, hi⟩ := hi
 exact Ck.Xp (a.ok c hc) hi
theorem HH.new (a : HH g h L F) : g.may h.size = true := by
 have h1 : Nat.ble g.floor h.size = true := Nat.ble_eq_true_of_le a.floor
 have h2 : g.CD.any (Nat.beq h.size) = false := by
  rw [List.any_eq_false]
  intro i hi O
  have := a.CD i hi
  have := Nat.eq_of_beq_eq_true O
  omega
 simp [Gd.may, h1, h2]
theorem HH.upd (a : HH g h (A ++ (C ++ B)) F) (J : h.size ≤ h'.size) (G : ∀ i ∈ C6 (A ++ B ++ F), h'.get i = h.get i) (H : ∀ c ∈ D, c.ok h') (E : (C6 D).Nodup)
  (R : ∀ i ∈ C6 D, i ∉ C6 (A ++ B ++ F)) (hm : ∀ i ∈ C6 D, g.may i = true) : HH g h' (A ++ (D ++ B)) F := by
 have nd' : (C6 A ++ (C6 C ++ C6 B) ++ C6 F).Nodup := by have := a.nd; simpa only [Cn] using this
 refine ⟨fun c hc => ?_, ?_, fun i hi => ?_, fun i hi => Nat.lt_of_lt_of_le (a.CD i hi) J, Nat.le_trans a.floor J⟩
 ·have GV : c ∈ A ∨ c ∈ B ∨ c ∈ F → c.ok h' := fun hc => by
   have hc1 : c ∈ A ++ (C ++ B) ++ F := by simp only [List.mem_append]; rcases hc with h | h | h <;> simp [h]
   refine Ck.Vw (a.ok c hc1) fun i hi => G i ?_
   simp only [C6, List.mem_flatMap]
   exact ⟨c, by simp only [List.mem_append]; rcases hc with h | h | h <;> simp [h], hi⟩
  simp only [List.mem_append] at hc
  rcases hc with (hc | hc | hc) | hc
  ·exact GV (.inl hc)
  ·exact H c hc
  ·exact GV (.inr (.inl hc))
  ·exact GV (.inr (.inr hc))
 ·have M : (C6 (A ++ (D ++ B) ++ F)).Perm (C6 D ++ C6 (A ++ B ++ F)) := by
   simp only [Cn, List.append_assoc]
   refine (List.perm_append_comm_assoc _ _ _)
  rw [M.nodup_iff, List.nodup_append]
  refine ⟨E, ?_, fun i hi j S e => R i hi (e ▸ S)⟩
  have P : (C6 (A ++ (C ++ B) ++ F)).Perm (C6 C ++ C6 (A ++ B ++ F)) := by
   simp only [Cn, List.append_assoc]
   exact (List.perm_append_comm_assoc _ _ _)
  exact (List.nodup_append.1 (P.nodup_iff.1 a.nd)).2.1
 ·simp only [Cn, List.mem_append] at hi
  rcases hi with hi | hi | hi
  ·exact a.may i (by simp only [Cn, List.mem_append]; exact .inl hi)
  ·exact hm i hi
  ·exact a.may i (by simp only [Cn, List.mem_append]; exact .inr (.inr hi))
theorem HH.perm (a : HH g h L F) (M : A.Perm L) : HH g h A F := by
 have P : (A ++ F).Perm (L ++ F) := M.append_right F
 refine ⟨fun c hc => a.ok c (P.mem_iff.1 hc), ?_, fun i hi => a.may i ?_, a.CD, a.floor⟩
 ·exact ((P.flatMap_right Ck.ids).nodup_iff).2 a.nd
 ·exact ((M.flatMap_right Ck.ids).mem_iff).1 hi
theorem FJ {k : Nat} {c : Ck} (hk : L[k]? = some c) : L = L.take k ++ ([c] ++ L.drop (k + 1)) := by
 obtain ⟨K, e⟩ := List.getElem?_eq_some_iff.1 hk
 rw [List.singleton_append, ← e, ← List.drop_eq_getElem_cons K, List.take_append_drop]
theorem HG {k : Nat} {c d : Ck} (hk : L[k]? = some c) : L.set k d = L.take k ++ ([d] ++ L.drop (k + 1)) := by
 have K := (List.getElem?_eq_some_iff.1 hk).1
 rw [List.set_eq_take_append_cons_drop, if_pos K, List.singleton_append]
theorem HH.mem (a : HH g h L F) {k : Nat} {c : Ck} (hk : L[k]? = some c) : c.ok h := a.ok c (List.mem_append.2 (.inl (List.mem_of_getElem? hk)))
theorem HH.get (a : HH g h L F) (k : Nat) {id : Nat} {o : CJ} (hk : L[k]? = some (.obj id o)) : h.get id = some o := a.mem hk
theorem HH.Jf (a : HH g h L F) {k : Nat} {c : Ck} (hk : L[k]? = some c) {i : Nat} (hi : i ∈ c.ids) : g.may i = true :=
 a.may i (by simp only [C6, List.mem_flatMap]; exact ⟨c, List.mem_of_getElem? hk, hi⟩)
theorem HH.WU (a : HH g h L F) {k : Nat} {c : Ck} (hk : L[k]? = some c) {i : Nat} (hi : i ∈ c.ids) : i ∉ C6 (L.take k ++ L.drop (k + 1) ++ F) := by
 have P : (C6 (L ++ F)).Perm (c.ids ++ C6 (L.take k ++ L.drop (k + 1) ++ F)) := by
  conv => lhs; rw [FJ hk]
  simp only [Cn, List.append_assoc]
  have : C6 [c] = c.ids := by simp [C6]
  rw [this]
  exact (List.perm_append_comm_assoc _ _ _)
 exact fun hm => (List.nodup_append.1 (P.nodup_iff.1 a.nd)).2.2 i hi i hm rfl
theorem HH.Mz (a : HH g h L F) {k : Nat} {c d : Ck} (hk : L[k]? = some c) (J : h.size ≤ h'.size) (G : ∀ i, i < h.size → i ∉ c.ids → h'.get i = h.get i) (H : d.ok h')
  (R : ∀ i ∈ d.ids, i ∈ c.ids ∨ h.size ≤ i) (hm : ∀ i ∈ d.ids, g.may i = true) : HH g h' (L.set k d) F := by
 rw [HG hk]
 have a' := a
 rw [FJ hk] at a'
 refine a'.upd J (fun i hi => ?_) (fun x N => by rw [List.mem_singleton.1 N]; exact H) (by simpa [C6] using d.Om) (fun i hi E => ?_) (fun i hi => hm i (by simpa [C6] using hi))
 ·refine G i (a.lt ?_) (fun hc => a.WU hk hc hi)
  rw [FJ hk]
  simp only [Cn, List.mem_append] at hi ⊢
  rcases hi with (hi | hi) | hi
  ·exact .inl (.inl hi)
  ·exact .inl (.inr (.inr hi))
  ·exact .inr hi
 ·rcases R i (by simpa [C6] using hi) with h1 | h1
  ·exact a.WU hk h1 E
  ·have : i < h.size := a.lt (by
    rw [FJ hk]
    simp only [Cn, List.mem_append] at E ⊢
    rcases E with (E | E) | E
    ·exact .inl (.inl E)
    ·exact .inl (.inr (.inr E))
    ·exact .inr E)
   omega
theorem HH.set (a : HH g h L F) (k : Nat) {id : Nat} {o : CJ} (o' : CJ) (hk : L[k]? = some (.obj id o)) : HH g (h.set id o') (L.set k (.obj id o')) F := by
 have I := a.get k hk
 have hid := h.BV I
 refine a.Mz hk (by simp) (fun i _ hi => h.Bc _ hid (by simpa [Ck.ids] using hi)) (h.get_set_same _ hid) (fun i hi => .inl hi) (fun i hi => a.Jf hk hi)
theorem HH.add (a : HH g h L F) {c : Ck} (J : h.size ≤ h'.size) (G : ∀ i, i < h.size → h'.get i = h.get i) (H : c.ok h') (R : ∀ i ∈ c.ids, h.size ≤ i) (hm : ∀ i ∈ c.ids, g.may i = true) : HH g h' (c :: L) F := by
 have := HH.upd (A := []) (C := []) (B := L) (D := [c]) (h' := h') (g := g) (h := h) (F := F) (by simpa using a) J (fun i hi => G i (a.lt (by simpa using hi))) (fun x N => by rw [List.mem_singleton.1 N]; exact H) (by simpa [C6] using c.Om)
  (fun i hi E => by have := R i (by simpa [C6] using hi); have := a.lt (i := i) (by simpa using E); omega) (fun i hi => hm i (by simpa [C6] using hi))
 simpa using this
theorem HH.push (a : HH g h L F) (o : CJ) : HH g (h.push o) (.obj h.size o :: L) F :=
 a.add (by simp) (fun i hi => h.B1 o hi) (h.CB o) (fun i hi => by simp [Ck.ids] at hi; omega) (fun i hi => by simp [Ck.ids] at hi; rw [hi]; exact a.new)
theorem HH.Se (a : HH g h L F) (e : TypeId) (cs : List AB) : HH g (h.push (.cells (some e) 2 cs)) (.AQ (some h.size) e cs :: L) F :=
 a.add (by simp) (fun i hi => h.B1 _ hi) (h.CB _) (fun i hi => by simp [Ck.ids] at hi; omega) (fun i hi => by simp [Ck.ids] at hi; rw [hi]; exact a.new)
theorem HH.Hv (a : HH g h L F) (e : TypeId) : HH g h (.AQ none e [] :: L) F :=
 a.add (Nat.le_refl _) (fun _ _ => rfl) rfl (fun i hi => by simp [Ck.ids] at hi) (fun i hi => by simp [Ck.ids] at hi)
theorem HH.front (a : HH g h L F) (k : Nat) {c : Ck} (hk : L[k]? = some c) : HH g h (c :: L.eraseIdx k) F := by
 refine a.perm ?_
 conv => rhs; rw [FJ hk]
 rw [List.eraseIdx_eq_take_drop_succ, List.singleton_append]
 exact List.perm_middle.symm
theorem HH.tail {c : Ck} (a : HH g h (c :: L) F) : HH g h L F := by
 have := HH.upd (A := []) (C := [c]) (B := L) (D := []) (h' := h) (g := g) (h := h) (F := F) (by simpa using a) (Nat.le_refl _) (fun i hi => rfl) (fun x N => by cases N) (by simp [C6]) (fun i hi => by simp [C6] at hi) (fun i hi => by simp [C6] at hi)
 simpa using this
theorem HH.cut (a : HH g h L F) (n : Nat) : HH g h (L.take n) (L.drop n ++ F) := by
 have e : L.take n ++ (L.drop n ++ F) = L ++ F := by rw [← List.append_assoc, List.take_append_drop]
 exact ⟨by rw [e]; exact a.ok, by rw [e]; exact a.nd, fun i hi => a.may i (by
  rw [← List.take_append_drop n L, Cn]; exact List.mem_append.2 (.inl hi)), a.CD, a.floor⟩
theorem HH.YB (a : HH g h L F) {pr : List Nat} (M : ∀ i ∈ C6 L, i ∉ pr) (K : ∀ i ∈ pr, i < h.size) : HH ⟨g.floor, pr ++ g.CD⟩ h L F := by
 refine ⟨a.ok, a.nd, fun i hi => ?_, fun i hi => ?_, a.floor⟩
 ·have := a.may i hi
  simp only [Gd.may, Bool.and_eq_true, Bool.not_eq_true'] at this ⊢
  refine ⟨this.1, ?_⟩
  rw [List.any_append, this.2, Bool.or_false, List.any_eq_false]
  intro j S O
  exact M i hi (Nat.eq_of_beq_eq_true O ▸ S)
 ·rcases List.mem_append.1 hi with hi | hi
  ·exact K i hi
  ·exact a.CD i hi
theorem HH.glue {g' : Gd} {n : Nat} {L' : List Ck} (a : HH g h L F) (b : HH g' h' L' (L.drop n ++ F)) (I : ∀ i, g'.may i = true → g.may i = true) (M : ∀ i ∈ g.CD, i ∈ g'.CD) (hfl : g'.floor = g.floor) : HH g h' (L' ++ L.drop n) F := by
 have e : L' ++ L.drop n ++ F = L' ++ (L.drop n ++ F) := List.append_assoc _ _ _
 refine ⟨by rw [e]; exact b.ok, by rw [e]; exact b.nd, fun i hi => ?_, fun i hi => b.CD i (M i hi), by rw [← hfl]; exact b.floor⟩
 rw [Cn, List.mem_append] at hi
 rcases hi with hi | hi
 ·exact I i (b.may i hi)
 ·exact a.may i (by rw [← List.take_append_drop n L, Cn]; exact List.mem_append.2 (.inr hi))
theorem HH.Eg {n : Nat} {L' : List Ck} (a : HH g h L F) (b : HH g h' L' (L.drop n ++ F)) : HH g h' (L' ++ L.drop n) F := a.glue b (fun _ h => h) (fun _ h => h) rfl
end
section
variable {g : Gd} {h : AF} {L F : List Ck}
theorem HH.Ef (a : HH g h L F) (k : Nat) {id : Nat} {gr : Option TypeId} {cs : List AB} (hk : L[k]? = some (.obj id (.cells gr 2 cs))) {o n : Nat} {ds : List AB} (hd : o + n ≤ cs.length ∧ (cs.drop o).take n = ds) : Ef h (id, o) n = some ds := by
 unfold Av.Ef CP
 simp only [a.get k hk]
 rw [if_pos ⟨by simp, hd.1⟩, hd.2]
theorem HH.ld1 (a : HH g h L F) (k : Nat) {id : Nat} {gr : Option TypeId} {cs : List AB} (hk : L[k]? = some (.obj id (.cells gr 2 cs))) {o : Nat} {v : AB} (T : cs[o]? = some v) : ld1 h (id, o) = some v := by
 have K := (List.getElem?_eq_some_iff.1 T).1
 unfold Av.ld1 CP
 simp only [a.get k hk]
 rw [if_pos ⟨by simp, by omega⟩]
 have e := (List.getElem?_eq_some_iff.1 T).2
 rw [List.drop_eq_getElem_cons K, e]
 rfl
theorem HH.st (a : HH g h L F) (k : Nat) {id : Nat} {gr : Option TypeId} {cs : List AB} (hk : L[k]? = some (.obj id (.cells gr 2 cs))) {o : Nat} {new ds : List AB} (K : o + new.length ≤ cs.length) (h1 : new.all AB.one = true) (hd : Ds cs o (LU gr new) = ds) :
  ∃ h', st g h (id, o) new = some h' ∧ HH g h' (L.set k (.obj id (.cells gr 2 ds))) F := by
 refine ⟨_, ?_, a.set k _ hk⟩
 unfold Av.st Ci
 simp only [a.get k hk]
 rw [if_pos ⟨a.Jf hk (by simp [Ck.ids]), K, h1⟩, hd]
def AP (r : Option Nat) (n : Nat) : AB := .slice (r.map fun i => (i, 0)) n
def CF (r : Option Nat) (n : Nat) : Sl := ⟨r.map fun i => (i, 0), n⟩
theorem C0 (a : HH g h L F) (k : Nat) {r : Option Nat} {e : TypeId} {cs : List AB} (hk : L[k]? = some (.AQ r e cs)) {n z : Nat} (E : cs.length = n * z) (Q : z ≠ 0) : Cg h z n (AP r n) = some cs := by
 have H := a.mem hk
 unfold AP Cg
 cases r with
 | none =>
  have : cs = [] := H
  subst this
  have h0 : n = 0 := by
   have : n * z = 0 := by simpa using E.symm
   rcases Nat.mul_eq_zero.1 this with h | h
   ·exact h
   ·exact absurd h Q
  subst h0
  simp
 | some id =>
  have I : h.get id = some (.cells (some e) 2 cs) := H
  simp only [Option.map_some]
  by_cases h0 : n = 0
  ·subst h0
   rw [if_pos rfl]
   have : cs = [] := List.eq_nil_of_length_eq_zero (by simpa using E)
   rw [this]
  ·rw [if_neg h0]
   unfold CP
   simp only [I]
   rw [if_pos ⟨by simp, by omega⟩, List.drop_zero, ← E, List.take_length]
theorem HH.app (a : HH g h L F) (k : Nat) {r : Option Nat} {e : TypeId} {cs new new' : List AB} {z bytes n m : Nat} {x : AB} (hk : L[k]? = some (.AQ r e cs)) (E : cs.length = n * z) (Q : z ≠ 0) (N : Cg h z m x = some new) (hc : new.map Em = new') (hm : new'.length = m * z)
  (O : n + m ≤ 1099511627776 ∧ (n + m) * bytes ≤ 1099511627776) (h1 : cs.all AB.one = true) (h2 : new'.all AB.one = true) :
  ∃ r' h', Av.app e z bytes g h (CF r n) m x = some (CF r' (n + m), h') ∧ HH g h' (L.set k (.AQ r' e (cs ++ new'))) F := by
 have hfo : Cg h z n (AP r n) = some cs := C0 a k hk E Q
 unfold Av.app
 by_cases h0 : m = 0
 ·subst h0
  refine ⟨r, h, by simp [CF], ?_⟩
  have : new' = [] := List.eq_nil_of_length_eq_zero (by simpa using hm)
  subst this
  rw [List.append_nil]
  have : L.set k (.AQ r e cs) = L := by rw [HG hk, ← FJ hk]
  rw [this]; exact a
 ·rw [if_neg h0, if_pos (show (CF r n).n + m ≤ 1099511627776 ∧ ((CF r n).n + m) * bytes ≤ 1099511627776 from O)]
  simp only [CF, N, Option.map_some, hc]
  rw [show Cg h z n (.slice (r.map fun i => (i, 0)) n) = some cs from hfo]
  simp only
  rw [if_pos (by rw [List.all_append, h1, h2]; rfl)]
  cases r with
  | none =>
   refine ⟨some h.size, _, rfl, ?_⟩
   exact a.Mz hk (by simp) (fun i hi _ => h.B1 _ hi) (h.CB _) (fun i hi => by simp [Ck.ids] at hi; omega) (fun i hi => by simp [Ck.ids] at hi; rw [hi]; exact a.new)
  | some id =>
   have I : h.get id = some (.cells (some e) 2 cs) := a.mem hk
   have hid := h.BV I
   simp only [Option.map_some, I]
   rw [if_pos ⟨a.Jf hk (by simp [Ck.ids]), trivial⟩]
   refine ⟨some h.size, _, rfl, ?_⟩
   refine a.Mz hk (by simp) (fun i hi E => ?_) ?_ (fun i hi => by simp [Ck.ids] at hi; omega) (fun i hi => by simp [Ck.ids] at hi; rw [hi]; exact a.new)
   ·rw [AF.B1 _ _ (by simpa using hi)]
    exact h.Bc _ hid (by simpa [Ck.ids] using E)
   ·have := AF.CB (h.set id (.cells (some e) 0 [])) (.cells (some e) 2 (cs ++ new'))
    exact this
theorem HH.Zh {r : Option Nat} {e : TypeId} {cs : List AB} {n z : Nat} (a : HH g h (.AQ r e cs :: L) F) (E : cs.length = n * z) (Q : z ≠ 0) : ∃ h', HT g h (AP r n) = some (.Gt n cs, h') ∧ HH g h' L F := by
 have hk : (Ck.AQ r e cs :: L)[0]? = some (.AQ r e cs) := rfl
 unfold AP
 by_cases h0 : n = 0
 ·subst h0
  have : cs = [] := List.eq_nil_of_length_eq_zero (by simpa using E)
  subst this
  cases r with
  | none => exact ⟨h, rfl, a.tail⟩
  | some id => exact ⟨h, rfl, a.tail⟩
 ·cases r with
  | none =>
   exfalso
   have hc : cs = [] := a.mem hk
   subst hc
   have h1 : n * z = 0 := by simpa using E.symm
   rcases Nat.mul_eq_zero.1 h1 with h | h
   ·exact h0 h
   ·exact Q h
  | some id =>
   have I : h.get id = some (.cells (some e) 2 cs) := a.mem hk
   have hid := h.BV I
   have O : Nat.beq n 0 = false := by cases n; exact absurd rfl h0; rfl
   refine ⟨h.set id (.cells (some e) 0 cs), by simp only [HT, Option.map_some, O, cond_false, I, a.Jf hk (i := id) (by simp [Ck.ids]), cond_true], ?_⟩
   have b := a.Mz (d := .AQ none e []) (h' := h.set id (.cells (some e) 0 cs)) hk (by simp) (fun i _ hi => h.Bc _ hid (by simpa [Ck.ids] using hi)) rfl (fun i hi => by simp [Ck.ids] at hi) (fun i hi => by simp [Ck.ids] at hi)
   exact HH.tail (c := .AQ none e []) b
end
end Go.Av
