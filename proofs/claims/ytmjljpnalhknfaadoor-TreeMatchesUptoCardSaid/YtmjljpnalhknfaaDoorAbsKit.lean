/-
  ABS, 23: more tools: places, numbers, loops.
-/
import Derived.Test.YtmjljpnalhknfaaDoorAbsRep
import Derived.IntWalk
namespace Go.Abs
set_option linter.unusedVariables false

theorem w64 {x : Int} (h1 : -9223372036854775808 ≤ x) (h2 : x ≤ 9223372036854775807) : IntKind.i64.wrap x = x := by rw [IntKind.wrap_i64]; omega
theorem wu8 {x : Int} (h1 : 0 ≤ x) (h2 : x ≤ 255) : IntKind.u8.wrap x = x := by rw [IntKind.wrap_u8]; omega
theorem ixA_nat {a : Nat × Nat} {n z r : Nat} (hr : r < n) : ixA a n z (r : Int) = some (a.1, a.2 + r * z) := by
  unfold ixA
  rw [if_pos ⟨by omega, by omega⟩]
  simp
theorem iteB_dec {α : Type} (p : Prop) [Decidable p] (x y : Option α) : iteB (decide p) x y = if p then x else y := by
  by_cases h : p <;> simp [h]
theorem iteB_beq {α β : Type} [DecidableEq β] (a b : β) (x y : Option α) : iteB (a == b) x y = if a = b then x else y := by
  by_cases h : a = b <;> simp [h]
  have : (a == b) = false := by simpa using h
  simp [this]
theorem iteB_bne {α β : Type} [DecidableEq β] (a b : β) (x y : Option α) : iteB (a != b) x y = if a = b then y else x := by
  by_cases h : a = b <;> simp [h]
  have : (a != b) = true := by simpa using h
  simp [this]
theorem iteB_or (b c : Bool) : iteB b (some true) (some c) = some (b || c) := by cases b <;> rfl
theorem iteB_and (b c : Bool) : iteB b (some c) (some false) = some (b && c) := by cases b <;> rfl
theorem ixS_nat {s : List UInt8} {i : Nat} {b : UInt8} (h : s[i]? = some b) : ixS s (i : Int) = some (b.toNat : Int) := by
  unfold ixS
  rw [if_pos (by omega), Int.toNat_natCast, h]; rfl
/-- bits below a power of two, put in -/
theorem bOr_8 {m b : Int} (hb : 0 ≤ b ∧ b < 256) (h1 : -9223372036854775808 ≤ m * 256) (h2 : m * 256 ≤ 9223372036854775552) : bOr .i64 (m * 256) b = m * 256 + b := by
  unfold bOr
  have e1 : (BitVec.ofInt 64 (m * 256)).toNat = 2 ^ 8 * (m % 72057594037927936).toNat := by
    rw [BitVec.toNat_ofInt]
    omega
  have e2 : (BitVec.ofInt 64 b).toNat = b.toNat := by
    rw [BitVec.toNat_ofInt]
    omega
  have e3 : (BitVec.ofInt 64 (m * 256) ||| BitVec.ofInt 64 b).toNat = 256 * (m % 72057594037927936).toNat + b.toNat := by
    rw [BitVec.toNat_or, e1, e2, ← Nat.two_pow_add_eq_or_of_lt (by omega)]
  show IntKind.i64.wrap ((BitVec.ofInt 64 (m * 256) ||| BitVec.ofInt 64 b).toNat : Int) = _
  rw [e3, IntKind.wrap_i64]
  omega
theorem bOr_3 {m b : Int} (hb : 0 ≤ b ∧ b < 8) (h1 : -9223372036854775808 ≤ m * 8) (h2 : m * 8 ≤ 9223372036854775552) : bOr .i64 (m * 8) b = m * 8 + b := by
  unfold bOr
  have e1 : (BitVec.ofInt 64 (m * 8)).toNat = 2 ^ 3 * (m % 2305843009213693952).toNat := by
    rw [BitVec.toNat_ofInt]
    omega
  have e2 : (BitVec.ofInt 64 b).toNat = b.toNat := by
    rw [BitVec.toNat_ofInt]
    omega
  have e3 : (BitVec.ofInt 64 (m * 8) ||| BitVec.ofInt 64 b).toNat = 8 * (m % 2305843009213693952).toNat + b.toNat := by
    rw [BitVec.toNat_or, e1, e2, ← Nat.two_pow_add_eq_or_of_lt (by omega)]
  show IntKind.i64.wrap ((BitVec.ofInt 64 (m * 8) ||| BitVec.ofInt 64 b).toNat : Int) = _
  rw [e3, IntKind.wrap_i64]
  omega
theorem bShl_8 {m : Int} (h1 : -9223372036854775808 ≤ m * 256) (h2 : m * 256 ≤ 9223372036854775807) : bShl .i64 m 8 = m * 256 := by
  show IntKind.i64.wrap (m * 256) = _
  exact w64 h1 h2
theorem bShl_3 {m : Int} (h1 : -9223372036854775808 ≤ m * 8) (h2 : m * 8 ≤ 9223372036854775807) : bShl .i64 m 3 = m * 8 := by
  show IntKind.i64.wrap (m * 8) = _
  exact w64 h1 h2
/-- a loop's rounds that are known -/
theorem loop_step {σ ρ : Type} {step : σ → Option (σ ⊕ ρ)} {s s' : σ} (h : step s = some (.inl s')) : loop step s = loop step s' := by
  by_cases hx : ∃ r, loop step s' = some r
  · obtain ⟨r, hr⟩ := hx
    rw [hr]; exact loop_next h hr
  · cases hl : loop step s with
    | none =>
      cases hl' : loop step s' with
      | none => rfl
      | some r => exact absurd ⟨r, hl'⟩ hx
    | some r =>
      obtain ⟨n, hn⟩ := loop_to hl
      cases n with
      | zero => cases hn
      | succ n =>
        simp only [loopN, h] at hn
        exact absurd ⟨r, loop_of hn⟩ hx
theorem loop_end {σ ρ : Type} {step : σ → Option (σ ⊕ ρ)} {s : σ} {r : ρ} (h : step s = some (.inr r)) : loop step s = some r := loop_done h

/-- what must come out -/
def W {α : Type} (m : Option α) (Q : α → Prop) : Prop := ∃ r, m = some r ∧ Q r
theorem W.mono {α : Type} {m : Option α} {Q Q' : α → Prop} (w : W m Q) (h : ∀ r, Q r → Q' r) : W m Q' := by obtain ⟨r, e, q⟩ := w; exact ⟨r, e, h r q⟩
theorem W.ret {α : Type} {x : α} {Q : α → Prop} (h : Q x) : W (some x) Q := ⟨x, rfl, h⟩
theorem W.bind {α β : Type} {m : Option α} {k : α → Option β} {Q : β → Prop} (w : W m fun x => W (k x) Q) : W (m.bind k) Q := by obtain ⟨r, e, q⟩ := w; rw [e]; exact q
theorem W.ite {α : Type} {b : Bool} {x y : Option α} {Q : α → Prop} (h1 : b = true → W x Q) (h2 : b = false → W y Q) : W (iteB b x y) Q := by cases b; exact h2 rfl; exact h1 rfl
theorem W.iteP {α : Type} {p : Prop} [Decidable p] {x y : Option α} {Q : α → Prop} (h1 : p → W x Q) (h2 : ¬ p → W y Q) : W (iteB (decide p) x y) Q := by by_cases h : p <;> simp [h, h1, h2]
theorem W.need {α : Type} {b : Bool} {x : Option α} {Q : α → Prop} (h1 : b = true) (h2 : W x Q) : W (need b x) Q := by rw [h1]; exact h2
theorem W.of {α : Type} {m : Option α} {x : α} {Q : α → Prop} (e : m = some x) (h : Q x) : W m Q := ⟨x, e, h⟩
/-- rounds under an invariant and a measure -/
theorem W.loop {σ ρ : Type} {step : σ → Option (σ ⊕ ρ)} {s : σ} {Q : ρ → Prop} (inv : σ → Prop) (μ : σ → Nat) (hi : inv s)
    (hs : ∀ s, inv s → W (step s) (fun r => match r with | .inl s' => inv s' ∧ μ s' < μ s | .inr r => Q r)) : W (Abs.loop step s) Q := by
  refine loop_rule inv μ Q (fun s hi => ?_) s hi
  obtain ⟨r, e, q⟩ := hs s hi
  cases r with
  | inl s' => exact .inl ⟨s', e, q⟩
  | inr r => exact .inr ⟨r, e, q⟩
theorem W.eq {α : Type} {m : Option α} {x : α} (w : W m fun r => r = x) : m = some x := by obtain ⟨r, e, q⟩ := w; rw [e, q]

theorem bnd_hi {n : Nat} {u : Int} (h : 0 ≤ u ∧ u ≤ n) : bnd n none (some u) = some (0, u.toNat) := by simp only [bnd]; rw [if_pos h]
theorem bnd_lo {n : Nat} {l : Int} (h : 0 ≤ l ∧ l ≤ n) : bnd n (some l) none = some (l.toNat, n) := by simp only [bnd]; rw [if_pos h]
theorem bnd_both {n : Nat} {l u : Int} (h : 0 ≤ l ∧ l ≤ u ∧ u ≤ n) : bnd n (some l) (some u) = some (l.toNat, u.toNat) := by simp only [bnd]; rw [if_pos (by omega), if_pos (by omega)]
theorem bnd_all {n : Nat} : bnd n none none = some (0, n) := rfl

/-- a loop over what is left of a list: 'F' tells the end from a state and what is left -/
theorem drop_cons {α : Type} {l : List α} {i : Nat} (h : i < l.length) : l.drop i = l[i] :: l.drop (i + 1) := List.drop_eq_getElem_cons h
theorem byte_lt (b : UInt8) : (0 : Int) ≤ (b.toNat : Int) ∧ (b.toNat : Int) ≤ 255 := by have := b.toNat_lt; omega

/-! ### rows of numbers -/
def arr (k : IntKind) (l : List Int) : List AVal := l.map (.int k ·)
@[simp] theorem arr_length (k : IntKind) (l : List Int) : (arr k l).length = l.length := by simp [arr]
theorem arr_get {k : IntKind} {l : List Int} {i : Nat} {c : Int} (hc : l[i]? = some c) : (arr k l)[i]? = some (.int k c) := by simp [arr, hc]
theorem arr_one (k : IntKind) (l : List Int) : (arr k l).all AVal.one = true := by simp [arr, AVal.one]
theorem arr_ld {h : AHeap} {id : Nat} {gr : Option TypeId} {stt : Nat} {k : IntKind} {l : List Int} (hg : h.get id = some (.cells gr stt (arr k l))) (hs : stt ≠ 0) {i : Nat} {c : Int} (hc : l[i]? = some c) : ldI h (id, 0 + i * 1) k = some c := by
  rw [Nat.mul_one, Nat.zero_add]; exact ldI_of hg hs (arr_get hc)
theorem arr_st {g : Gd} {h : AHeap} {id : Nat} {gr : Option TypeId} {k : IntKind} {l : List Int} (hg : h.get id = some (.cells gr 2 (arr k l))) (hm : g.may id = true) {i : Nat} (hi : i < l.length) (c : Int) : st g h (id, 0 + i * 1) [.int k c] = some (h.set id (.cells gr 2 (arr k (l.set i c)))) := by
  rw [Nat.mul_one, Nat.zero_add, st_of hg hm (by simp; omega) rfl, splice_one (by simpa using hi)]
  simp [arr, List.map_set]
theorem may_ge {a b : Nat} (h : a ≤ b) : (⟨a, []⟩ : Gd).may b = true := may_new h (by simp)
theorem slice_keep {P : Program} {α : Type} {R : RT P α} {S S' : Nat → Prop} {h h' : AHeap} {sz : Nat} {s : Sl} {xs : List α} (hr : ∃ cells, View P S h sz s cells ∧ reps R S h xs cells) (k : Same S h h') (hs : ∀ id, S id → S' id) : ∃ cells, View P S' h' sz s cells ∧ reps R S' h' xs cells := by
  obtain ⟨cells, v, r⟩ := hr
  exact ⟨cells, v.keep k hs, reps_mono r k hs⟩
/-- a slice's number -/
theorem slice_ldI {P : Program} {S : Nat → Prop} {h : AHeap} {k : IntKind} {s : Sl} {xs : List Int} (hr : ∃ cells, View P S h 1 s cells ∧ reps (RInt P k) S h xs cells) (hn : s.n = xs.length) {i : Nat} {x : Int} (hx : xs[i]? = some x) :
    ∃ a, ixL s 1 (i : Int) = some a ∧ ldI h (a.1, a.2) k = some x := by
  obtain ⟨cells, v, r⟩ := hr
  have hi : i < s.n := by rw [hn]; exact (List.getElem?_eq_some_iff.1 hx).1
  obtain ⟨id, o, gr, stt, all, h1, _, h2, h3, h4, h5, h6⟩ := v.ix hi
  refine ⟨_, h1, ldI_of h2 h3 ?_⟩
  have e := reps_at r hx
  have e : (cells.drop (i * 1)).take 1 = [.int k x] := e
  rw [← h6] at e
  have := congrArg (·[0]?) e
  simpa using this

/-! ### slices that grow from a heap on -/
/-- since h0 nothing old has turned, and the slice is new -/
structure Grow (g : Gd) (h0 h : AHeap) (e : TypeId) (sz : Nat) (s : Sl) (cs : List AVal) : Prop where
  own : Own g h e sz s cs
  new : ∀ id, s.id? = some id → h0.size ≤ id
  only : Only none h0 h
theorem Grow.nil {g : Gd} {h0 h : AHeap} {e : TypeId} {sz : Nat} (k : Only none h0 h) : Grow g h0 h e sz ⟨none, 0⟩ [] := ⟨Own.nil _ _ _ _, by simp [Sl.id?], k⟩
/-- an empty one, or any other row that was made just now -/
theorem Grow.mk_ {g : Gd} {h0 h : AHeap} {e : TypeId} {sz n : Nat} {cs : List AVal} (k : Only none h0 h) (hl : cs.length = n * sz) (h1 : cs.all AVal.one = true) (hfl : g.floor ≤ h.size) (hpr : g.prot = []) : Grow g h0 (h.push (.cells (some e) 2 cs)) e sz ⟨some (h.size, 0), n⟩ cs :=
  ⟨⟨hl, h1, .inr ⟨h.size, [], rfl, by rw [List.append_nil]; exact h.get_push_new _, may_new hfl (by simp [hpr])⟩⟩, fun id hi => by simp [Sl.id?] at hi; have := k.size; omega, k.trans (Only.push _ _ _)⟩
theorem Grow.view {P : Program} {g : Gd} {h0 h : AHeap} {e : TypeId} {sz : Nat} {s : Sl} {cs : List AVal} (w : Grow g h0 h e sz s cs) (hsz : szOf P e = some sz) : View P (h0.size ≤ ·) h sz s cs := w.own.view hsz w.new
theorem Grow.keep {g : Gd} {h0 h h' : AHeap} {e : TypeId} {sz : Nat} {s : Sl} {cs : List AVal} (w : Grow g h0 h e sz s cs) (k : Only none h h') : Grow g h0 h' e sz s cs :=
  ⟨w.own.keep fun id hi => k.get id (w.own.lt hi) (by simp), w.new, w.only.trans k⟩
theorem Grow.from {g : Gd} {h0 h1 h : AHeap} {e : TypeId} {sz : Nat} {s : Sl} {cs : List AVal} (w : Grow g h1 h e sz s cs) (k : Only none h0 h1) : Grow g h0 h e sz s cs :=
  ⟨w.own, fun id hi => Nat.le_trans k.size (w.new id hi), k.trans w.only⟩
/-- 'append' of some cells -/
theorem Grow.app {g : Gd} {h0 h : AHeap} {e : TypeId} {sz bytes : Nat} {s : Sl} {cs : List AVal} (w : Grow g h0 h e sz s cs) {n : Nat} {x : AVal} {new : List AVal} (hnew : Abs.firstA h sz n x = some new) (hl : new.length = n * sz) (h1 : new.all AVal.one = true)
    (hc : s.n + n ≤ 1099511627776) (hb : (s.n + n) * bytes ≤ 1099511627776) (hfl : g.floor ≤ h0.size) (hpr : g.prot = []) :
    W (Abs.app e sz bytes g h s n x) fun r => Grow g h0 r.2 e sz r.1 (cs ++ new) ∧ r.1.n = s.n + n := by
  by_cases hn : n = 0
  · have : new = [] := List.length_eq_zero_iff.1 (by rw [hl, hn]; simp)
    subst this
    refine ⟨(s, h), by simp [Abs.app, hn], ?_, by simp [hn]⟩
    rw [List.append_nil]; exact w
  · obtain ⟨s', h', e1, e2, e3, e4, e5, e6⟩ := w.own.app (bytes := bytes) hnew hl h1 hn hc hb (Nat.le_trans hfl w.only.size) (by simp [hpr])
    refine ⟨(s', h'), e1, ⟨e2, fun id hi => ?_, ?_⟩, e3⟩
    · simp [Sl.id?, e5] at hi
      have := w.only.size
      omega
    · refine ⟨Nat.le_trans w.only.size e4.size, fun id hi hx => ?_⟩
      rw [e4.get id (Nat.lt_of_lt_of_le hi w.only.size) ?_]
      · exact w.only.get id hi hx
      · intro hid
        have := w.new id hid.symm
        omega
/-- 'append' of one thing -/
theorem Grow.app1 {g : Gd} {h0 h : AHeap} {e : TypeId} {sz bytes : Nat} {s : Sl} {cs : List AVal} (w : Grow g h0 h e sz s cs) {e' : TypeId} {new : List AVal} (hl : new.length = sz) (h1 : new.all AVal.one = true)
    (hc : s.n + 1 ≤ 1099511627776) (hb : (s.n + 1) * bytes ≤ 1099511627776) (hfl : g.floor ≤ h0.size) (hpr : g.prot = []) :
    W (Abs.app e sz bytes g (h.push (.cells (some e') 2 new)) s 1 (.slice (some (h.size, 0)) 1)) fun r => Grow g h0 r.2 e sz r.1 (cs ++ new) ∧ r.1.n = s.n + 1 := by
  refine (w.keep (Only.push none h _)).app (new := new) ?_ (by omega) h1 hc hb hfl hpr
  unfold Abs.firstA
  simp only [Nat.one_ne_zero, if_false, AHeap.get_push_new]
  rw [cellsAt_of (by simp) (by omega)]
  simp [← hl]

/-! ### views of rows of numbers -/
theorem View.num {P : Program} {S : Nat → Prop} {h : AHeap} {k : IntKind} {s : Sl} {l : List Int} (v : View P S h 1 s (arr k l)) {i : Nat} {x : Int} (hx : l[i]? = some x) : ∃ a, ixL s 1 (i : Int) = some a ∧ ldI h (a.1, a.2) k = some x := by
  have hn : s.n = l.length := by have := v.1; simpa using this.symm
  have hi : i < s.n := by rw [hn]; exact (List.getElem?_eq_some_iff.1 hx).1
  obtain ⟨id, o, gr, stt, all, h1, _, h2, h3, h4, h5, h6⟩ := v.ix hi
  refine ⟨_, h1, ldI_of h2 h3 ?_⟩
  have := h4 0 (by omega)
  simp only [Nat.add_zero] at this
  rw [this, Nat.mul_one]
  exact arr_get hx
theorem View.nums {P : Program} {S : Nat → Prop} {h : AHeap} {k : IntKind} {s : Sl} {l : List Int} (v : View P S h 1 s (arr k l)) : s.n = l.length := by have := v.1; simpa using this.symm
theorem View.onl {P : Program} {h h' : AHeap} {sz : Nat} {s : Sl} {cs : List AVal} (v : View P (· < h.size) h sz s cs) (k : Only none h h') : View P (· < h.size) h' sz s cs := v.keep (k.same fun id hi => ⟨hi, by simp⟩) fun _ x => x
theorem Grow.vw {P : Program} {g : Gd} {h0 h : AHeap} {e : TypeId} {sz : Nat} {s : Sl} {cs : List AVal} (w : Grow g h0 h e sz s cs) (hsz : szOf P e = some sz) : View P (· < h.size) h sz s cs := w.own.view hsz fun id hi => w.own.lt hi
theorem arr_app (k : IntKind) (l m : List Int) : arr k (l ++ m) = arr k l ++ arr k m := by simp [arr]
theorem take_snoc {α : Type} {l : List α} {k : Nat} {x : α} (h : l[k]? = some x) : l.take (k + 1) = l.take k ++ [x] := by
  rw [List.take_add_one, h]; rfl
theorem ek64 {k : Nat} (h : k < 4611686018427387904) : IntKind.i64.wrap ((k : Int) + 1) = ((k + 1 : Nat) : Int) := by rw [w64 (by omega) (by omega)]; omega
theorem repeatA_one (z : AVal) : ∀ n, repeatA [z] n = List.replicate n z
  | 0 => rfl
  | n + 1 => by rw [repeatA, repeatA_one z n]; rfl
theorem mkL_num {k : IntKind} {b n : Nat} {c : Int} (h : n ≤ 1099511627776 ∧ b * n ≤ 1099511627776) : mkL b [.int k c] (n : Int) (n : Int) = some (arr k (List.replicate n c)) := by
  have hb : ((b * n : Nat) : Int) = (b : Int) * (n : Int) := by simp
  unfold mkL
  rw [if_pos ⟨by omega, by omega, by omega, by omega⟩, Int.toNat_natCast, repeatA_one, arr, List.map_replicate]
/-- a slice's struct -/
theorem slice_ldA {P : Program} {α : Type} {R : RT P α} {S : Nat → Prop} {h : AHeap} {s : Sl} {xs : List α} (hr : ∃ cells, View P S h R.sz s cells ∧ reps R S h xs cells) (hn : s.n = xs.length) {i : Nat} {x : α} (hx : xs[i]? = some x) :
    ∃ a cs, ixL s R.sz (i : Int) = some a ∧ ldA h (a.1, a.2) R.sz = some cs ∧ R.rep S h x cs := by
  obtain ⟨cells, v, r⟩ := hr
  have hi : i < s.n := by rw [hn]; exact (List.getElem?_eq_some_iff.1 hx).1
  obtain ⟨id, o, gr, stt, all, h1, _, h2, h3, h4, h5, h6⟩ := v.ix hi
  exact ⟨_, _, h1, ldA_of h2 h3 (by omega), by rw [h6]; exact reps_at r hx⟩

/-- is it a struct of these types? -/
def structOk (P : Program) (t : TypeId) (ts : List TypeId) : Bool :=
  match P.underlying t with
  | some (.struct fs) => okFs P fs.toList 0 (P.cellsOf t) && (fs.toList.map (·.type) == ts)
  | _ => false
theorem argFields {P : Program} {α : Type} {t : TypeId} {ts : List TypeId} {R : RT P α} (hs : structOk P t ts = true) (hz : R.sz = P.cellsOf t) (a : ArgL P ts R) : ArgT P t R := by
  unfold structOk at hs
  split at hs
  · rename_i fs hu
    simp only [Bool.and_eq_true, beq_iff_eq] at hs
    refine argStruct hu hz hs.1 ?_
    rw [hs.2]; exact a
  · cases hs

/-! ### rows of bytes -/
def byt (l : List UInt8) : List AVal := l.map fun b => .int .u8 b.toNat
@[simp] theorem byt_length (l : List UInt8) : (byt l).length = l.length := by simp [byt]
theorem byt_one (l : List UInt8) : (byt l).all AVal.one = true := by simp [byt, AVal.one]
theorem byt_app (l m : List UInt8) : byt (l ++ m) = byt l ++ byt m := by simp [byt]
theorem bytesOf_byt : ∀ l : List UInt8, bytesOf (byt l) = some l
  | [] => rfl
  | b :: l => by
    show ((bytesOf (byt l)).map (UInt8.ofNat (b.toNat : Int).toNat :: ·)) = _
    rw [bytesOf_byt l]
    simp
theorem byt_st {g : Gd} {h : AHeap} {id : Nat} {gr : Option TypeId} {l : List UInt8} (hg : h.get id = some (.cells gr 2 (byt l))) (hm : g.may id = true) {i : Nat} (hi : i < l.length) {c : Int} (hc : 0 ≤ c ∧ c ≤ 255) : st g h (id, 0 + i * 1) [.int .u8 c] = some (h.set id (.cells gr 2 (byt (l.set i (UInt8.ofNat c.toNat))))) := by
  rw [Nat.mul_one, Nat.zero_add, st_of hg hm (by simp; omega) rfl, splice_one (by simpa using hi)]
  have e : ((UInt8.ofNat c.toNat).toNat : Int) = c := by
    rw [UInt8.toNat_ofNat', Nat.mod_eq_of_lt (by omega)]; omega
  simp only [byt, List.map_set, e]
theorem byL_byt {h : AHeap} {id n : Nat} {gr : Option TypeId} {stt : Nat} {l : List UInt8} (hg : h.get id = some (.cells gr stt (byt l))) (hs : stt ≠ 0) (hn : n = l.length) : byL h ⟨some (id, 0), n⟩ = some l := by
  unfold byL
  simp only [hg]
  by_cases h0 : n = 0
  · rw [if_pos h0]
    have : l = [] := List.length_eq_zero_iff.1 (by omega)
    rw [this]; rfl
  · rw [if_neg h0, cellsAt_of hs (by simp; omega), List.drop_zero, List.take_of_length_le (by simp; omega)]
    exact bytesOf_byt l
theorem byL_one {h : AHeap} {gr : Option TypeId} {c : Int} : byL (h.push (.cells gr 2 [.int .u8 c])) ⟨some (h.size, 0), 1⟩ = some [UInt8.ofNat c.toNat] := by
  unfold byL
  simp only [AHeap.get_push_new, Nat.one_ne_zero, if_false]
  rw [cellsAt_of (by simp) (by simp)]
  rfl
theorem mkL_byte {n : Nat} (h : n ≤ 1099511627776) : mkL 1 [.int .u8 (0 : Int)] (n : Int) (n : Int) = some (byt (List.replicate n 0)) := by
  rw [mkL_num ⟨h, by omega⟩]
  simp [arr, byt]
theorem ixL_nat {id o n z i : Nat} (hi : i < n) : ixL ⟨some (id, o), n⟩ z (i : Int) = some (id, o + i * z) := ixA_nat (a := (id, o)) hi
theorem fdiv_pos {a b : Int} (hb : 0 ≤ b) : a.fdiv b = a / b := Int.fdiv_eq_ediv_of_nonneg a hb
/-- a mask -/
theorem bAnd_mask {v m : Int} {n : Nat} (hm : m = 2 ^ n - 1) (hn : n ≤ 32) (hv : 0 ≤ v ∧ v ≤ 9223372036854775807) : bAnd .i64 v m = v % 2 ^ n := by
  have hp : (2 : Nat) ^ n ≤ 2 ^ 32 := Nat.pow_le_pow_right (by omega) hn
  have hp0 : 0 < (2 : Nat) ^ n := Nat.pow_pos (by omega)
  have hc : ((2 : Int) ^ n) = ((2 ^ n : Nat) : Int) := by simp
  have hm' : m = ((2 ^ n - 1 : Nat) : Int) := by rw [hm, hc]; omega
  unfold bAnd
  have e1 : (BitVec.ofInt 64 v).toNat = v.toNat := by rw [BitVec.toNat_ofInt]; omega
  have e2 : (BitVec.ofInt 64 m).toNat = 2 ^ n - 1 := by rw [BitVec.toNat_ofInt, hm']; omega
  show IntKind.i64.wrap ((BitVec.ofInt 64 v &&& BitVec.ofInt 64 m).toNat : Int) = _
  rw [BitVec.toNat_and, e1, e2, Nat.and_two_pow_sub_one_eq_mod]
  have hlt := Nat.mod_lt v.toNat hp0
  have e3 : ((v.toNat % 2 ^ n : Nat) : Int) = v % 2 ^ n := by
    rw [Int.natCast_emod, Int.toNat_of_nonneg hv.1, hc]
  rw [w64 (by omega) (by omega), e3]

/-! ### parts of texts -/
theorem subS_lo {s : List UInt8} {k : Nat} (h : k ≤ s.length) : subS s (some (k : Int)) none = some (s.drop k) := by
  unfold subS
  rw [bnd_lo (by omega)]
  simp only [Option.map_some, Int.toNat_natCast]
  rw [List.take_of_length_le (by simp)]
theorem subS_hi {s : List UInt8} {k : Nat} (h : k ≤ s.length) : subS s none (some (k : Int)) = some (s.take k) := by
  unfold subS
  rw [bnd_hi (by omega)]
  simp
theorem subS_both {s : List UInt8} {i k : Nat} (h : i ≤ k) (hk : k ≤ s.length) : subS s (some (i : Int)) (some (k : Int)) = some ((s.drop i).take (k - i)) := by
  unfold subS
  rw [bnd_both (by omega)]
  simp

/-! ### rows of structs -/
theorem chunk_get {α β : Type} {f : α → List β} {sz : Nat} (hf : ∀ x, (f x).length = sz) : ∀ (l : List α) (i : Nat) (x : α), l[i]? = some x → ∀ j, j < sz → (l.flatMap f)[i * sz + j]? = (f x)[j]?
  | [], i, x, h, _, _ => by simp at h
  | y :: l, 0, x, h, j, hj => by
    simp only [List.getElem?_cons_zero, Option.some.injEq] at h
    subst h
    rw [List.flatMap_cons, List.getElem?_append_left (by rw [hf]; omega)]
    simp
  | y :: l, i + 1, x, h, j, hj => by
    rw [List.flatMap_cons, List.getElem?_append_right (by rw [hf, Nat.add_mul]; omega), hf]
    have e : (i + 1) * sz + j - sz = i * sz + j := by rw [Nat.add_mul]; omega
    rw [e]
    exact chunk_get hf l i x (by simpa using h) j hj
theorem chunk_take {α β : Type} {f : α → List β} {sz : Nat} (hf : ∀ x, (f x).length = sz) {l : List α} {i : Nat} {x : α} (h : l[i]? = some x) : ((l.flatMap f).drop (i * sz)).take sz = f x := by
  apply List.ext_getElem?
  intro j
  rw [List.getElem?_take]
  split
  · rename_i hj
    rw [List.getElem?_drop]; exact chunk_get hf l i x h j hj
  · rename_i hj
    rw [List.getElem?_eq_none (by rw [hf]; omega)]
theorem chunk_length {α β : Type} {f : α → List β} {sz : Nat} (hf : ∀ x, (f x).length = sz) : ∀ l : List α, (l.flatMap f).length = l.length * sz
  | [] => by simp
  | y :: l => by rw [List.flatMap_cons, List.length_append, hf, chunk_length hf l, List.length_cons, Nat.add_mul]; omega
/-- the fields of the i-th struct -/
theorem View.fld {P : Program} {S : Nat → Prop} {h : AHeap} {sz : Nat} {s : Sl} {cs : List AVal} (v : View P S h sz s cs) {i : Nat} (hi : i < s.n) :
    ∃ a, ixL s sz (i : Int) = some a ∧ (∀ j, j < sz → ∀ w, cs[i * sz + j]? = some w → ld1 h (a.1, a.2 + j) = some w) ∧ ldA h (a.1, a.2) sz = some ((cs.drop (i * sz)).take sz) := by
  obtain ⟨id, o, gr, stt, all, h1, _, h2, h3, h4, h5, h6⟩ := v.ix hi
  refine ⟨_, h1, fun j hj w hw => ld1_of h2 h3 ?_, ?_⟩
  · rw [h4 j hj]; exact hw
  · rw [ldA_of h2 h3 (by omega)]; rw [h6]
theorem ldI_ld {h : AHeap} {a : Nat × Nat} {k : IntKind} {n : Int} (hl : ld1 h a = some (.int k n)) : ldI h a k = some n := by simp [ldI, hl, asI]
theorem ldS_ld {h : AHeap} {a : Nat × Nat} {n : List UInt8} (hl : ld1 h a = some (.str n)) : ldS h a = some n := by simp [ldS, hl, asS]
theorem ldB_ld {h : AHeap} {a : Nat × Nat} {n : Bool} (hl : ld1 h a = some (.bool n)) : ldB h a = some n := by simp [ldB, hl, asB]
theorem ldL_ld {h : AHeap} {a : Nat × Nat} {n : Sl} (hl : ld1 h a = some n.v) : ldL h a = some n := by simp [ldL, hl, asL]
/-- a field of the i-th struct is turned -/
theorem Grow.st1 {g : Gd} {h0 h : AHeap} {e : TypeId} {sz : Nat} {s : Sl} {cs : List AVal} (w : Grow g h0 h e sz s cs) {i j : Nat} (hi : i < s.n) (hj : j < sz) {v : AVal} (hv : v.one = true) :
    ∃ a, ixL s sz (i : Int) = some a ∧ ∃ h', st g h (a.1, a.2 + j) [v] = some h' ∧ Grow g h0 h' e sz s (cs.set (i * sz + j) v) ∧ h'.size = h.size := by
  have hb : i * sz + j < cs.length := by
    rw [w.own.1]
    have : (i + 1) * sz ≤ s.n * sz := Nat.mul_le_mul_right _ hi
    rw [Nat.add_mul] at this; omega
  rcases w.own.2.2 with ⟨_, h0'⟩ | ⟨id, rest, h1, h2, h3⟩
  · omega
  · refine ⟨(id, 0 + i * sz), ?_, _, st_of h2 h3 (by simp; omega) (by simp [hv]), ⟨⟨?_, ?_, .inr ⟨id, rest, h1, ?_, h3⟩⟩, w.new, ?_⟩, rfl⟩
    · unfold ixL; rw [h1]; exact ixA_nat hi
    · rw [List.length_set]; exact w.own.1
    · rw [List.all_eq_true]
      intro x hx
      rcases List.mem_or_eq_of_mem_set hx with h4 | h4
      · exact List.all_eq_true.1 w.own.2.1 x h4
      · rw [h4]; exact hv
    · rw [AHeap.get_set_same _ _ (h.lt_of_get h2), splice_one (by simp; omega), Nat.zero_add, List.set_append_left _ _ hb]
    · have hid := w.new id (by simp [Sl.id?, h1])
      refine ⟨by simpa using w.only.size, fun i' hi' hx => ?_⟩
      rw [AHeap.get_set_ne _ _ (h.lt_of_get h2) (by omega)]
      exact w.only.get i' hi' hx
/-- a variable that a struct is copied into -/
theorem var_st {h : AHeap} {g : Gd} {z cs : List AVal} {n : Nat} (hm : g.may h.size = true) (hz : z.length = n) (hc : cs.length = n) (h1 : cs.all AVal.one = true) :
    ∃ h', stG n g (h.push (.cells none 2 z)) (h.size, 0) cs = some h' ∧ h'.get h.size = some (.cells none 2 cs) ∧ Only none h h' ∧ h'.size = h.size + 1 := by
  refine ⟨_, stG_of (AHeap.get_push_new _ _) hm hc (by omega) h1, ?_, ⟨by simp, fun id hi _ => ?_⟩, rfl⟩
  · rw [AHeap.get_set_same _ _ (by simp), splice_all (by omega)]
  · rw [AHeap.get_set_ne _ _ (by simp) (by omega), AHeap.get_push_old _ _ hi]
end Go.Abs
