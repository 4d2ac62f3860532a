/-
  ABS, 21: a box of tools for laws over models: cells that are known, slices that are looked at, slices that grow.
-/
import Derived.Test.YtmjljpnalhknfaaDoorAbsLaw
namespace Go.Abs

/-! ### cells -/
section
variable {h h' : AHeap} {g : Gd} {gr : Option TypeId} {stt : Nat} {cs : List AVal} {id o : Nat}

theorem cellsAt_of (hst : stt ≠ 0) {n : Nat} (hl : o + n ≤ cs.length) : cellsAt (some (.cells gr stt cs)) o n = some ((cs.drop o).take n) := by
  simp [cellsAt, hst, hl]
theorem ld1_of (hg : h.get id = some (.cells gr stt cs)) (hst : stt ≠ 0) {v : AVal} (hv : cs[o]? = some v) : ld1 h (id, o) = some v := by
  have hlt := (List.getElem?_eq_some_iff.1 hv).1
  unfold ld1
  simp only [hg, cellsAt_of hst (show o + 1 ≤ cs.length by omega)]
  rw [List.drop_eq_getElem_cons hlt]
  rw [List.getElem?_eq_getElem hlt] at hv
  injection hv with hv
  simp [hv]
theorem ldI_of (hg : h.get id = some (.cells gr stt cs)) (hst : stt ≠ 0) {k : IntKind} {n : Int} (hv : cs[o]? = some (.int k n)) : ldI h (id, o) k = some n := by
  simp [ldI, ld1_of hg hst hv, asI]
theorem ldB_of (hg : h.get id = some (.cells gr stt cs)) (hst : stt ≠ 0) {n : Bool} (hv : cs[o]? = some (.bool n)) : ldB h (id, o) = some n := by
  simp [ldB, ld1_of hg hst hv, asB]
theorem ldS_of (hg : h.get id = some (.cells gr stt cs)) (hst : stt ≠ 0) {n : List UInt8} (hv : cs[o]? = some (.str n)) : ldS h (id, o) = some n := by
  simp [ldS, ld1_of hg hst hv, asS]
theorem ldP_of (hg : h.get id = some (.cells gr stt cs)) (hst : stt ≠ 0) {n : Option (Nat × Nat)} (hv : cs[o]? = some (.ptr n)) : ldP h (id, o) = some n := by
  simp [ldP, ld1_of hg hst hv, asP]
theorem ldL_of (hg : h.get id = some (.cells gr stt cs)) (hst : stt ≠ 0) {r : Option (Nat × Nat)} {n : Nat} (hv : cs[o]? = some (.slice r n)) : ldL h (id, o) = some ⟨r, n⟩ := by
  simp [ldL, ld1_of hg hst hv, asL]
theorem ldA_of (hg : h.get id = some (.cells gr stt cs)) (hst : stt ≠ 0) {n : Nat} (hl : o + n ≤ cs.length) : ldA h (id, o) n = some ((cs.drop o).take n) := by
  simp only [ldA, hg, cellsAt_of hst hl]
theorem st_of (hg : h.get id = some (.cells gr 2 cs)) (hm : g.may id = true) {new : List AVal} (hl : o + new.length ≤ cs.length) (h1 : new.all AVal.one = true) : st g h (id, o) new = some (h.set id (.cells gr 2 (splice cs o new))) := by
  simp only [st, storeCellsA, hg]
  rw [if_pos ⟨hm, hl, h1⟩]
theorem stG_of (hg : h.get id = some (.cells gr 2 cs)) (hm : g.may id = true) {n : Nat} {new : List AVal} (hn : new.length = n) (hl : o + n ≤ cs.length) (h1 : new.all AVal.one = true) : stG n g h (id, o) new = some (h.set id (.cells gr 2 (splice cs o new))) := by
  simp only [stG, hn, if_true, storeCellsA, hg]
  rw [if_pos ⟨hm, by omega, h1⟩]
theorem splice_one {v : AVal} (hl : o < cs.length) : splice cs o [v] = cs.set o v := by
  simp only [splice, List.length_cons, List.length_nil]
  rw [List.set_eq_take_append_cons_drop, if_pos hl]
  simp
theorem splice_all {new : List AVal} (hl : new.length = cs.length) : splice cs 0 new = new := by simp [splice, hl]
theorem splice_length {new : List AVal} (hl : o + new.length ≤ cs.length) : (splice cs o new).length = cs.length := by simp [splice]; omega
end

/-! ### what has not turned -/
/-- all but the object 'x' is as it was -/
structure Only (x : Option Nat) (h h' : AHeap) : Prop where
  size : h.size ≤ h'.size
  get : ∀ id, id < h.size → some id ≠ x → h'.get id = h.get id
theorem Only.refl (x : Option Nat) (h : AHeap) : Only x h h := ⟨Nat.le_refl _, fun _ _ _ => rfl⟩
theorem Only.trans {x : Option Nat} {a b c : AHeap} (h : Only x a b) (k : Only x b c) : Only x a c :=
  ⟨Nat.le_trans h.size k.size, fun id hi hx => (k.get id (Nat.lt_of_lt_of_le hi h.size) hx).trans (h.get id hi hx)⟩
theorem Only.push (x : Option Nat) (h : AHeap) (o : AObj) : Only x h (h.push o) := ⟨by simp, fun id hi _ => h.get_push_old o hi⟩
theorem Only.set {h : AHeap} {id : Nat} {o o' : AObj} (hg : h.get id = some o') : Only (some id) h (h.set id o) :=
  ⟨by simp, fun i _ hx => h.get_set_ne o (h.lt_of_get hg) (fun e => hx (by rw [e]))⟩
theorem Only.set_new {h0 h : AHeap} {x : Option Nat} {id : Nat} {o o' : AObj} (k : Only x h0 h) (hg : h.get id = some o') (hn : h0.size ≤ id) : Only x h0 (h.set id o) :=
  ⟨by simpa using k.size, fun i hi hx => (h.get_set_ne o (h.lt_of_get hg) (by omega)).trans (k.get i hi hx)⟩
theorem Only.keep {x : Option Nat} {h h' : AHeap} (k : Only x h h') {id : Nat} {o : AObj} (hg : h.get id = some o) (hx : some id ≠ x) : h'.get id = some o := by rw [k.get id (h.lt_of_get hg) hx]; exact hg
theorem Only.weaken {h h' : AHeap} (k : Only none h h') (x : Option Nat) : Only x h h' := ⟨k.size, fun id hi _ => k.get id hi (by simp)⟩

/-! ### slices that are looked at -/
/-- the objects of S are the same -/
def Same (S : Nat → Prop) (h h' : AHeap) : Prop := ∀ id, S id → h'.get id = h.get id
theorem Same.refl (S : Nat → Prop) (h : AHeap) : Same S h h := fun _ _ => rfl
theorem Same.trans {S : Nat → Prop} {a b c : AHeap} (k : Same S a b) (l : Same S b c) : Same S a c := fun id hi => (l id hi).trans (k id hi)
theorem Same.sub {S S' : Nat → Prop} {a b : AHeap} (k : Same S a b) (hs : ∀ id, S' id → S id) : Same S' a b := fun id hi => k id (hs id hi)
theorem Only.same {x : Option Nat} {h h' : AHeap} (k : Only x h h') {S : Nat → Prop} (hs : ∀ id, S id → id < h.size ∧ some id ≠ x) : Same S h h' := fun id hi => k.get id (hs id hi).1 (hs id hi).2

def GrOk (P : Program) (sz : Nat) (gr : Option TypeId) : Prop := ∀ e, gr = some e → szOf P e = some sz
/-- the cells of a slice; its object lies in S -/
def View (P : Program) (S : Nat → Prop) (h : AHeap) (sz : Nat) (s : Sl) (cs : List AVal) : Prop :=
  cs.length = s.n * sz ∧ ((s.r = none ∧ s.n = 0) ∨ ∃ id o gr stt all, s.r = some (id, o) ∧ S id ∧ h.get id = some (.cells gr stt all) ∧ GrOk P sz gr ∧ (s.n = 0 ∨ (stt ≠ 0 ∧ o + cs.length ≤ all.length ∧ (all.drop o).take cs.length = cs)))
section
variable {P : Program} {S S' : Nat → Prop} {h h' : AHeap} {sz : Nat} {s : Sl} {cs : List AVal}
theorem View.nil : View P S h sz ⟨none, 0⟩ [] := ⟨by simp, .inl ⟨rfl, rfl⟩⟩
theorem View.keep (v : View P S h sz s cs) (k : Same S h h') (hs : ∀ id, S id → S' id) : View P S' h' sz s cs := by
  refine ⟨v.1, ?_⟩
  rcases v.2 with h0 | ⟨id, o, gr, stt, all, h1, h2, h3, h4, h5⟩
  · exact .inl h0
  · exact .inr ⟨id, o, gr, stt, all, h1, hs _ h2, by rw [k id h2]; exact h3, h4, h5⟩
theorem View.firstA (v : View P S h sz s cs) : firstA h sz s.n (.slice s.r s.n) = some cs := by
  rcases v.2 with ⟨hr, h0⟩ | ⟨id, o, gr, stt, all, h1, _, h2, h3, h4⟩
  · have : cs = [] := List.length_eq_zero_iff.1 (by rw [v.1, h0]; simp)
    subst this
    simp [Abs.firstA, hr, h0]
  · rw [h1]
    unfold Abs.firstA
    by_cases hn : s.n = 0
    · have : cs = [] := List.length_eq_zero_iff.1 (by rw [v.1, hn]; simp)
      simp [hn, this]
    · rcases h4 with h4 | ⟨h4, h5, h6⟩
      · exact absurd h4 hn
      · simp only [if_neg hn, h2]
        rw [← v.1, cellsAt_of h4 h5, h6]
/-- the first ones -/
theorem View.firstA_le (v : View P S h sz s cs) {n : Nat} (hn : n ≤ s.n) : Abs.firstA h sz n (.slice s.r s.n) = some (cs.take (n * sz)) := by
  rcases v.2 with ⟨hr, h0⟩ | ⟨id, o, gr, stt, all, h1, _, h2, h3, h4⟩
  · have : n = 0 := by omega
    subst this
    simp [Abs.firstA, hr]
  · rw [h1]
    unfold Abs.firstA
    by_cases hz : n = 0
    · simp [hz]
    · rcases h4 with h4 | ⟨h4, h5, h6⟩
      · omega
      · have hle : n * sz ≤ cs.length := by rw [v.1]; exact Nat.mul_le_mul_right _ hn
        simp only [if_neg hz, h2]
        rw [cellsAt_of h4 (by omega)]
        conv => rhs; rw [← h6]
        rw [List.take_take, Nat.min_eq_left hle]
/-- the place of the i-th element, and what lies there -/
theorem View.ix (v : View P S h sz s cs) {i : Nat} (hi : i < s.n) :
    ∃ id o gr stt all, ixL s sz i = some (id, o + i * sz) ∧ S id ∧ h.get id = some (.cells gr stt all) ∧ stt ≠ 0 ∧ (∀ j, j < sz → all[o + i * sz + j]? = cs[i * sz + j]?) ∧ o + i * sz + sz ≤ all.length ∧ (all.drop (o + i * sz)).take sz = (cs.drop (i * sz)).take sz := by
  rcases v.2 with ⟨_, h0⟩ | ⟨id, o, gr, stt, all, h1, hS, h2, h3, h4⟩
  · omega
  · rcases h4 with h4 | ⟨h4, h5, h6⟩
    · omega
    · have hb : i * sz + sz ≤ cs.length := by
        rw [v.1]
        have : (i + 1) * sz ≤ s.n * sz := Nat.mul_le_mul_right _ hi
        rw [Nat.add_mul] at this; omega
      refine ⟨id, o, gr, stt, all, ?_, hS, h2, h4, fun j hj => ?_, by omega, ?_⟩
      · unfold ixL ixA
        rw [h1]
        simp only
        rw [if_pos ⟨by omega, by omega⟩]
        simp
      · have e : cs[i * sz + j]? = ((all.drop o).take cs.length)[i * sz + j]? := by rw [h6]
        rw [e, List.getElem?_take, if_pos (by omega), List.getElem?_drop]
        congr 1
        omega
      · conv => rhs; rw [← h6]
        rw [List.drop_take, List.take_take, List.drop_drop, Nat.min_eq_left (by omega)]
theorem ixL_none {s : Sl} {sz : Nat} {i : Int} (hi : ¬ (0 ≤ i ∧ i < s.n)) : ixL s sz i = none := by
  unfold ixL ixA
  split
  · rw [if_neg hi]
  · rfl
/-- a part of a slice -/
theorem View.sub (v : View P S h sz s cs) {lo hi : Option Int} {l u : Nat} (hb : bnd s.n lo hi = some (l, u)) (hlu : l ≤ u) (hu : u ≤ s.n) :
    ∃ s', subL P h s sz lo hi = some s' ∧ s'.n = u - l ∧ View P S h sz s' ((cs.drop (l * sz)).take ((u - l) * sz)) := by
  have hlen : (List.take ((u - l) * sz) (List.drop (l * sz) cs)).length = (u - l) * sz := by
    rw [List.length_take, List.length_drop, v.1]
    have : u * sz ≤ s.n * sz := Nat.mul_le_mul_right _ hu
    rw [Nat.sub_mul]
    have : l * sz ≤ u * sz := Nat.mul_le_mul_right _ hlu
    omega
  rcases v.2 with ⟨hr, h0⟩ | ⟨id, o, gr, stt, all, h1, hS, h2, h3, h4⟩
  · refine ⟨⟨none, 0⟩, ?_, by simp; omega, ?_⟩
    · unfold subL
      rw [hr, if_pos h0, ← h0, hb]
      rfl
    · have : u - l = 0 := by omega
      rw [this]; simp; exact View.nil
  · refine ⟨⟨some (id, o + l * sz), u - l⟩, ?_, rfl, hlen, .inr ⟨id, o + l * sz, gr, stt, all, rfl, hS, h2, h3, ?_⟩⟩
    · unfold subL
      rw [h1]
      simp only [h2]
      cases gr with
      | none => simp only [hb]; rfl
      | some e => simp only [h3 e rfl, if_true, hb]; rfl
    · by_cases hz : u - l = 0
      · exact .inl hz
      · rcases h4 with h4 | ⟨h4, h5, h6⟩
        · omega
        · refine .inr ⟨h4, ?_, ?_⟩
          · rw [hlen]
            have e1 : u * sz ≤ s.n * sz := Nat.mul_le_mul_right _ hu
            have e2 : l * sz ≤ u * sz := Nat.mul_le_mul_right _ hlu
            rw [Nat.sub_mul]
            have := v.1
            omega
          · rw [hlen]
            conv => rhs; rw [← h6]
            rw [List.drop_take, List.take_take, List.drop_drop]
            have e1 : u * sz ≤ s.n * sz := Nat.mul_le_mul_right _ hu
            have e2 : l * sz ≤ u * sz := Nat.mul_le_mul_right _ hlu
            congr 1
            rw [Nat.sub_mul]
            have := v.1
            omega
end

/-! ### slices that grow -/
/-- a slice of the run's own whose cells are these -/
def Own (g : Gd) (h : AHeap) (e : TypeId) (sz : Nat) (s : Sl) (cs : List AVal) : Prop :=
  cs.length = s.n * sz ∧ cs.all AVal.one = true ∧ ((s.r = none ∧ s.n = 0) ∨ ∃ id rest, s.r = some (id, 0) ∧ h.get id = some (.cells (some e) 2 (cs ++ rest)) ∧ g.may id = true)
def Sl.id? (s : Sl) : Option Nat := s.r.map (·.1)
theorem Own.nil (g : Gd) (h : AHeap) (e : TypeId) (sz : Nat) : Own g h e sz ⟨none, 0⟩ [] := ⟨by simp, rfl, .inl ⟨rfl, rfl⟩⟩
theorem Own.view {P : Program} {S : Nat → Prop} {g : Gd} {h : AHeap} {e : TypeId} {sz : Nat} {s : Sl} {cs : List AVal} (w : Own g h e sz s cs) (hsz : szOf P e = some sz) (hS : ∀ id, s.id? = some id → S id) : View P S h sz s cs := by
  refine ⟨w.1, ?_⟩
  rcases w.2.2 with h0 | ⟨id, rest, h1, h2, h3⟩
  · exact .inl h0
  · exact .inr ⟨id, 0, some e, 2, cs ++ rest, h1, hS id (by simp [Sl.id?, h1]), h2, fun e' he => by injection he with he; rw [← he]; exact hsz, .inr ⟨by simp, by simp, by simp⟩⟩
theorem Own.firstA {g : Gd} {h : AHeap} {e : TypeId} {sz : Nat} {s : Sl} {cs : List AVal} (w : Own g h e sz s cs) : Abs.firstA h sz s.n (.slice s.r s.n) = some cs := by
  rcases w.2.2 with ⟨hr, h0⟩ | ⟨id, rest, h1, h2, h3⟩
  · have : cs = [] := List.length_eq_zero_iff.1 (by rw [w.1, h0]; simp)
    subst this
    simp [Abs.firstA, hr, h0]
  · rw [h1]
    unfold Abs.firstA
    by_cases hn : s.n = 0
    · have : cs = [] := List.length_eq_zero_iff.1 (by rw [w.1, hn]; simp)
      simp [hn, this]
    · simp only [if_neg hn, h2]
      rw [← w.1, cellsAt_of (by simp) (by simp)]
      simp
theorem Own.keep {g : Gd} {h h' : AHeap} {e : TypeId} {sz : Nat} {s : Sl} {cs : List AVal} (w : Own g h e sz s cs) (k : ∀ id, s.id? = some id → h'.get id = h.get id) : Own g h' e sz s cs := by
  refine ⟨w.1, w.2.1, ?_⟩
  rcases w.2.2 with h0 | ⟨id, rest, h1, h2, h3⟩
  · exact .inl h0
  · exact .inr ⟨id, rest, h1, by rw [k id (by simp [Sl.id?, h1])]; exact h2, h3⟩
theorem Own.lt {g : Gd} {h : AHeap} {e : TypeId} {sz : Nat} {s : Sl} {cs : List AVal} (w : Own g h e sz s cs) {id : Nat} (hi : s.id? = some id) : id < h.size := by
  rcases w.2.2 with ⟨h0, _⟩ | ⟨id', rest, h1, h2, h3⟩
  · simp [Sl.id?, h0] at hi
  · simp [Sl.id?, h1] at hi
    rw [← hi]; exact h.lt_of_get h2
theorem may_new {g : Gd} {n : Nat} (hfl : g.floor ≤ n) (hpr : ∀ i ∈ g.prot, i < n) : g.may n = true := by
  unfold Gd.may
  rw [Bool.and_eq_true, Bool.not_eq_true']
  refine ⟨Nat.ble_eq_true_of_le hfl, ?_⟩
  rw [List.any_eq_false]
  intro i hi hbe
  have := Nat.eq_of_beq_eq_true hbe
  have := hpr i hi
  omega

/-- 'append' to such a slice -/
theorem Own.app {g : Gd} {h : AHeap} {e : TypeId} {sz bytes : Nat} {s : Sl} {cs : List AVal} (w : Own g h e sz s cs) {n : Nat} {x : AVal} {new : List AVal} (hnew : Abs.firstA h sz n x = some new) (hl : new.length = n * sz) (h1 : new.all AVal.one = true)
    (hn : n ≠ 0) (hc : s.n + n ≤ 1099511627776) (hb : (s.n + n) * bytes ≤ 1099511627776) (hfl : g.floor ≤ h.size) (hpr : ∀ i ∈ g.prot, i < h.size) :
    ∃ s' h', Abs.app e sz bytes g h s n x = some (s', h') ∧ Own g h' e sz s' (cs ++ new) ∧ s'.n = s.n + n ∧ Only s.id? h h' ∧ s'.r = some (h.size, 0) ∧ h'.size = h.size + 1 := by
  have hmay : g.may h.size = true := may_new hfl hpr
  have hall : (cs ++ new).all AVal.one = true := by rw [List.all_append, w.2.1, h1]; rfl
  unfold Abs.app
  rw [if_neg hn, if_pos ⟨hc, hb⟩, hnew, w.firstA]
  simp only [hall, if_true]
  rcases w.2.2 with ⟨hr, h0⟩ | ⟨id, rest, hr, hg, hm⟩
  · rw [hr]
    refine ⟨_, _, rfl, ⟨?_, hall, .inr ⟨h.size, [], rfl, by rw [List.append_nil]; exact h.get_push_new _, hmay⟩⟩, rfl, Only.push _ _ _, rfl, rfl⟩
    rw [List.length_append, w.1, hl, Nat.add_mul]
  · rw [hr]
    simp only [hg]
    rw [if_pos ⟨hm, trivial⟩]
    have hlt := h.lt_of_get hg
    refine ⟨_, _, rfl, ⟨?_, hall, .inr ⟨h.size, [], rfl, by rw [List.append_nil]; exact (h.set id _).get_push_new _, hmay⟩⟩, rfl, ?_, rfl, rfl⟩
    · rw [List.length_append, w.1, hl, Nat.add_mul]
    · have : s.id? = some id := by simp [Sl.id?, hr]
      rw [this]
      exact (Only.set hg).trans (Only.push _ _ _)
end Go.Abs
