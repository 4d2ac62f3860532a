/-
  ABS, 22: typed views: how a plain Lean value lies in cells; what a law's arguments are.
-/
import Derived.Test.YtmjljpnalhknfaaDoorAbsView
namespace Go.Abs
open Go.RowKit
set_option linter.unusedVariables false

/-- how values of a Lean type lie in cells -/
structure RT (P : Program) (α : Type) where
  sz : Nat
  rep : (Nat → Prop) → AHeap → α → List AVal → Prop
  len : ∀ {S h x cs}, rep S h x cs → cs.length = sz
  one : ∀ {S h x cs}, rep S h x cs → cs.all AVal.one = true
  mono : ∀ {S S' h h' x cs}, rep S h x cs → Same S h h' → (∀ id, S id → S' id) → rep S' h' x cs
  /-- what is known of what was handed in -/
  ok : α → Prop
  /-- values and letters -/
  wt : α → Nat

/-- one behind the other -/
def reps {P : Program} {α : Type} (R : RT P α) (S : Nat → Prop) (h : AHeap) : List α → List AVal → Prop
  | [], cs => cs = []
  | x :: xs, cs => ∃ a b, cs = a ++ b ∧ R.rep S h x a ∧ reps R S h xs b

section
variable {P : Program} {α β : Type} {R : RT P α} {S S' : Nat → Prop} {h h' : AHeap}
theorem reps_len : ∀ {xs : List α} {cs : List AVal}, reps R S h xs cs → cs.length = xs.length * R.sz
  | [], cs, hr => by simp only [reps] at hr; simp [hr]
  | x :: xs, cs, ⟨a, b, e, h1, h2⟩ => by rw [e, List.length_append, R.len h1, reps_len h2, List.length_cons, Nat.add_mul]; omega
theorem reps_one : ∀ {xs : List α} {cs : List AVal}, reps R S h xs cs → cs.all AVal.one = true
  | [], cs, hr => by simp only [reps] at hr; simp [hr]
  | x :: xs, cs, ⟨a, b, e, h1, h2⟩ => by rw [e, List.all_append, R.one h1, reps_one h2]; rfl
theorem reps_mono : ∀ {xs : List α} {cs : List AVal}, reps R S h xs cs → Same S h h' → (∀ id, S id → S' id) → reps R S' h' xs cs
  | [], cs, hr, _, _ => hr
  | x :: xs, cs, ⟨a, b, e, h1, h2⟩, k, l => ⟨a, b, e, R.mono h1 k l, reps_mono h2 k l⟩
theorem reps_app : ∀ {xs ys : List α} {cs ds : List AVal}, reps R S h xs cs → reps R S h ys ds → reps R S h (xs ++ ys) (cs ++ ds)
  | [], ys, cs, ds, hr, k => by simp only [reps] at hr; simpa [hr] using k
  | x :: xs, ys, cs, ds, ⟨a, b, e, h1, h2⟩, k => ⟨a, b ++ ds, by rw [e, List.append_assoc], h1, reps_app h2 k⟩
theorem reps_one_mk {x : α} {cs : List AVal} (hx : R.rep S h x cs) : reps R S h [x] cs := ⟨cs, [], by simp, hx, rfl⟩
theorem reps_at : ∀ {xs : List α} {cs : List AVal}, reps R S h xs cs → ∀ {i : Nat} {x : α}, xs[i]? = some x → R.rep S h x ((cs.drop (i * R.sz)).take R.sz)
  | [], cs, hr, i, x, hx => by simp at hx
  | y :: xs, cs, ⟨a, b, e, h1, h2⟩, 0, x, hx => by
    simp only [List.getElem?_cons_zero, Option.some.injEq] at hx
    subst hx
    have := R.len h1
    simp [e, ← this, h1]
  | y :: xs, cs, ⟨a, b, e, h1, h2⟩, i + 1, x, hx => by
    have hl := R.len h1
    have := reps_at h2 (i := i) (x := x) (by simpa using hx)
    rw [e, Nat.add_mul, Nat.one_mul, Nat.add_comm, ← List.drop_drop]
    have e2 : List.drop R.sz (a ++ b) = b := by rw [← hl]; simp
    rw [e2]; exact this
theorem reps_take : ∀ {xs : List α} {cs : List AVal}, reps R S h xs cs → ∀ (n : Nat), reps R S h (xs.take n) (cs.take (n * R.sz))
  | [], cs, hr, n => by simp only [reps] at hr; simp [hr, reps]
  | y :: xs, cs, _, 0 => by simp [reps]
  | y :: xs, cs, ⟨a, b, e, h1, h2⟩, n + 1 => by
    refine ⟨a, b.take (n * R.sz), ?_, h1, reps_take h2 n⟩
    rw [e, List.take_append, Nat.add_mul, Nat.one_mul, R.len h1, List.take_of_length_le (by rw [R.len h1]; omega)]
    congr 2
    omega
theorem reps_drop : ∀ {xs : List α} {cs : List AVal}, reps R S h xs cs → ∀ (n : Nat), reps R S h (xs.drop n) (cs.drop (n * R.sz))
  | [], cs, hr, n => by simp only [reps] at hr; simp [hr, reps]
  | y :: xs, cs, k, 0 => by simpa using k
  | y :: xs, cs, ⟨a, b, e, h1, h2⟩, n + 1 => by
    have := reps_drop h2 n
    have e2 : List.drop ((n + 1) * R.sz) (a ++ b) = b.drop (n * R.sz) := by
      rw [Nat.add_mul, Nat.one_mul, Nat.add_comm (n * R.sz), ← List.drop_drop, ← R.len h1]; simp
    rw [e, e2]; exact this
end

section
variable (P : Program)
def RBool : RT P Bool where
  sz := 1
  rep _ _ x cs := cs = [.bool x]
  len h := by rw [h]; rfl
  one h := by rw [h]; rfl
  mono h _ _ := h
  ok _ := True
  wt _ := 1
def RInt (k : IntKind) : RT P Int where
  sz := 1
  rep _ _ x cs := cs = [.int k x]
  len h := by rw [h]; rfl
  one h := by rw [h]; rfl
  mono h _ _ := h
  ok x := k.min ≤ x ∧ x ≤ k.max
  wt _ := 1
/-- bytes -/
def RByte : RT P UInt8 where
  sz := 1
  rep _ _ x cs := cs = [.int .u8 x.toNat]
  len h := by rw [h]; rfl
  one h := by rw [h]; rfl
  mono h _ _ := h
  ok _ := True
  wt _ := 1
def RStr : RT P (List UInt8) where
  sz := 1
  rep _ _ x cs := cs = [.str x]
  len h := by rw [h]; rfl
  one h := by rw [h]; rfl
  mono h _ _ := h
  ok x := x.length ≤ 9223372036854775807
  wt x := x.length + 1
def RUnit : RT P Unit where
  sz := 0
  rep _ _ _ cs := cs = []
  len h := by rw [h]; rfl
  one h := by rw [h]; rfl
  mono h _ _ := h
  ok _ := True
  wt _ := 0
variable {P}
def sumWt {α : Type} (w : α → Nat) : List α → Nat
  | [] => 0
  | x :: xs => w x + sumWt w xs
def RSlice {α : Type} (R : RT P α) : RT P (List α) where
  sz := 1
  rep S h xs cs := ∃ s : Sl, cs = [s.v] ∧ s.n = xs.length ∧ ∃ cells, View P S h R.sz s cells ∧ reps R S h xs cells
  len h := by obtain ⟨s, e, _⟩ := h; rw [e]; rfl
  one h := by obtain ⟨s, e, _⟩ := h; rw [e]; rfl
  mono h k l := by
    obtain ⟨s, e, h1, cells, h2, h3⟩ := h
    exact ⟨s, e, h1, cells, h2.keep k l, reps_mono h3 k l⟩
  ok xs := xs.length ≤ 9223372036854775807 ∧ ∀ x ∈ xs, R.ok x
  wt xs := sumWt R.wt xs + 1
def RProd {α β : Type} (R : RT P α) (T : RT P β) : RT P (α × β) where
  sz := R.sz + T.sz
  rep S h x cs := ∃ a b, cs = a ++ b ∧ R.rep S h x.1 a ∧ T.rep S h x.2 b
  len h := by obtain ⟨a, b, e, h1, h2⟩ := h; rw [e, List.length_append, R.len h1, T.len h2]
  one h := by obtain ⟨a, b, e, h1, h2⟩ := h; rw [e, List.all_append, R.one h1, T.one h2]; rfl
  mono h k l := by
    obtain ⟨a, b, e, h1, h2⟩ := h
    exact ⟨a, b, e, R.mono h1 k l, T.mono h2 k l⟩
  ok x := R.ok x.1 ∧ T.ok x.2
  wt x := R.wt x.1 + T.wt x.2
/-- by another name -/
def RIso {α β : Type} (R : RT P α) (f : β → α) : RT P β where
  sz := R.sz
  rep S h x cs := R.rep S h (f x) cs
  len h := R.len h
  one h := R.one h
  mono h k l := R.mono h k l
  ok x := R.ok (f x)
  wt x := R.wt (f x)
end

/-! ### what is handed in -/
mutual
def bulk {H : Type} : DataW H → Nat
  | .lit (.string bytes) => bytes.length + 1
  | .lit _ => 1
  | .nil => 1
  | .ptr d => bulk d + 1
  | .slice elems spare => bulkAll elems + bulkAll spare + 1
  | .agg parts => bulkAll parts + 1
  | _ => 1
def bulkAll {H : Type} : List (DataW H) → Nat
  | [] => 0
  | d :: r => bulk d + bulkAll r
end

/-- all readings of a type are values of a Lean type -/
def ArgT (P : Program) {α : Type} (t : TypeId) (R : RT P α) : Prop :=
  R.sz = P.cellsOf t ∧ ∀ {H : Type} {enc : TypeId × Value → H} {W : World} {held : Bool} (fuel : Nat) (cs : List Value) (d : DataW H) (ps : List MemPlace), DataW.trod enc P W 0 (fun _ => true) held fuel t cs = some (d, ps) →
    ∀ h : AHeap, ∃ x as h', absD P t h d = some (as, h') ∧ R.rep (· < h'.size) h' x as ∧ h.size ≤ h'.size ∧ Same (· < h.size) h h' ∧ R.ok x ∧ R.wt x ≤ bulk d

section
variable {P : Program}
theorem argBool {t : TypeId} (hu : P.underlying t = some .bool) (hz : P.cellsOf t = 1) : ArgT P t (RBool P) := by
  refine ⟨hz.symm, fun {H enc W held} fuel cs d ps ht h => ?_⟩
  cases fuel with
  | zero => simp [DataW.trod] at ht
  | succ fuel =>
    unfold DataW.trod at ht
    rw [hu] at ht
    split at ht <;> first | contradiction | cases ‹(some (_ : TypeDesc)) = some _›
    rename_i b
    simp only [Option.some.injEq, Prod.mk.injEq] at ht
    obtain ⟨rfl, _⟩ := ht
    exact ⟨b, _, h, rfl, rfl, Nat.le_refl _, Same.refl _ _, trivial, by simp [RBool, bulk]⟩
theorem argInt {t : TypeId} {k : IntKind} (hu : P.underlying t = some (.int k)) (hz : P.cellsOf t = 1) : ArgT P t (RInt P k) := by
  refine ⟨hz.symm, fun {H enc W held} fuel cs d ps ht h => ?_⟩
  cases fuel with
  | zero => simp [DataW.trod] at ht
  | succ fuel =>
    unfold DataW.trod at ht
    rw [hu] at ht
    split at ht <;> first | contradiction | cases ‹(some (_ : TypeDesc)) = some _›
    rename_i k2 n
    split at ht <;> try contradiction
    rename_i hk
    simp only [Option.some.injEq, Prod.mk.injEq] at ht
    obtain ⟨rfl, _⟩ := ht
    refine ⟨n, _, h, rfl, rfl, Nat.le_refl _, Same.refl _ _, ?_, by simp [RInt, bulk]⟩
    have := hk.2
    simp only [Lit.wf, Bool.and_eq_true, decide_eq_true_eq] at this
    exact this
theorem argStr {t : TypeId} (hu : P.underlying t = some .string) (hz : P.cellsOf t = 1) : ArgT P t (RStr P) := by
  refine ⟨hz.symm, fun {H enc W held} fuel cs d ps ht h => ?_⟩
  cases fuel with
  | zero => simp [DataW.trod] at ht
  | succ fuel =>
    unfold DataW.trod at ht
    rw [hu] at ht
    split at ht <;> first | contradiction | cases ‹(some (_ : TypeDesc)) = some _›
    rename_i s
    split at ht <;> try contradiction
    rename_i hk
    simp only [Option.some.injEq, Prod.mk.injEq] at ht
    obtain ⟨rfl, _⟩ := ht
    refine ⟨s.data.toList, _, h, rfl, rfl, Nat.le_refl _, Same.refl _ _, ?_, Nat.le_refl _⟩
    exact hk
theorem argByte {t : TypeId} (hu : P.underlying t = some (.int .u8)) (hz : P.cellsOf t = 1) : ArgT P t (RByte P) := by
  refine ⟨hz.symm, fun {H enc W held} fuel cs d ps ht h => ?_⟩
  obtain ⟨n, as, h', h1, h2, h3, h4, h5, h6⟩ := (argInt hu hz).2 fuel cs d ps ht h
  refine ⟨UInt8.ofNat n.toNat, as, h', h1, ?_, h3, h4, trivial, h6⟩
  have h5 : (0 : Int) ≤ n ∧ n ≤ 255 := h5
  simp only [RInt] at h2
  simp only [RByte, h2]
  congr 2
  have : n.toNat < 256 := by omega
  simp [Nat.mod_eq_of_lt this]
  omega
theorem argIso {α β : Type} {t : TypeId} {R : RT P α} (a : ArgT P t R) {f : β → α} (g : α → β) (hg : ∀ x, f (g x) = x) : ArgT P t (RIso R f) := by
  refine ⟨a.1, fun fuel cs d ps ht h => ?_⟩
  obtain ⟨n, as, h', h1, h2, h3, h4, h5, h6⟩ := a.2 fuel cs d ps ht h
  exact ⟨g n, as, h', h1, by simpa [RIso, hg] using h2, h3, h4, by simpa [RIso, hg] using h5, by simpa [RIso, hg] using h6⟩

/-- one behind the other, of one type -/
theorem argMany {α : Type} {e : TypeId} {R : RT P α} (a : ArgT P e R) {H : Type} {enc : TypeId × Value → H} {W : World} {held : Bool} {fuel : Nat} :
    ∀ (ds : List (DataW H)), (∀ d ∈ ds, ∃ cs ps, DataW.trod enc P W 0 (fun _ => true) held fuel e cs = some (d, ps)) → ∀ h : AHeap,
      ∃ xs as h', absL P (List.replicate ds.length e) h ds = some (as, h') ∧ reps R (· < h'.size) h' xs as ∧ xs.length = ds.length ∧ h.size ≤ h'.size ∧ Same (· < h.size) h h' ∧ (∀ x ∈ xs, R.ok x) ∧ sumWt R.wt xs ≤ bulkAll ds
  | [], _, h => ⟨[], [], h, by simp [absL], rfl, rfl, Nat.le_refl _, Same.refl _ _, by simp, by simp [sumWt, bulkAll]⟩
  | d :: ds, hd, h => by
    obtain ⟨cs, ps, ht⟩ := hd d (by simp)
    obtain ⟨x, as, h1, e1, e2, e3, e4, e5, e6⟩ := a.2 fuel cs d ps ht h
    obtain ⟨xs, bs, h2, f1, f2, f3, f4, f5, f6, f7⟩ := argMany a ds (fun d hd' => hd d (by simp [hd'])) h1
    refine ⟨x :: xs, as ++ bs, h2, ?_, ⟨as, bs, rfl, R.mono e2 f5 (fun id hi => by omega), f2⟩, by simp [f3], by omega, ?_, ?_, ?_⟩
    · simp [absL, List.replicate_succ, e1, f1]
    · exact Same.trans e4 (f5.sub fun id hi => by omega)
    · intro y hy
      rcases List.mem_cons.1 hy with rfl | hy
      · exact e5
      · exact f6 y hy
    · simp only [sumWt, bulkAll]; omega

theorem argSlice {α : Type} {t e : TypeId} {R : RT P α} (hu : P.underlying t = some (.slice e)) (hz : P.cellsOf t = 1) (hz00 : (P.cellsOf e == 0) = false) (a : ArgT P e R) : ArgT P t (RSlice R) := by
  have hz0 : P.cellsOf e ≠ 0 := by simpa using hz00
  refine ⟨hz.symm, fun {H enc W held} fuel cs d ps ht h => ?_⟩
  cases fuel with
  | zero => simp [DataW.trod] at ht
  | succ fuel =>
    unfold DataW.trod at ht
    rw [hu] at ht
    split at ht <;> first | contradiction | cases ‹(some (_ : TypeDesc)) = some _›
    · simp only [Option.some.injEq, Prod.mk.injEq] at ht
      obtain ⟨rfl, _⟩ := ht
      exact ⟨[], [.slice none 0], h, by simp [absD, hu], ⟨⟨none, 0⟩, rfl, rfl, [], View.nil, rfl⟩, Nat.le_refl _, Same.refl _ _, by simp [RSlice], by simp [RSlice, bulk, sumWt]⟩
    · rename_i ad len cap
      simp only at ht
      split at ht <;> try contradiction
      rename_i hb
      obtain ⟨elems, he, ht⟩ := bind_some ht
      simp only [if_true, Option.map_eq_some_iff, Prod.mk.injEq] at ht
      obtain ⟨rest, hr, rfl, _⟩ := ht
      have hlen : elems.length = len := by simpa using mapM_some_length he
      have hmem : ∀ d ∈ elems.map (·.1), ∃ cs ps, DataW.trod enc P W 0 (fun _ => true) held fuel e cs = some (d, ps) := by
        intro d hd
        obtain ⟨y, hy, rfl⟩ := List.mem_map.1 hd
        obtain ⟨i, hi, hiy⟩ := List.getElem_of_mem hy
        have hi' : i < len := by omega
        have := mapM_some_get he i i (by simp [hi'])
        rw [List.getElem?_eq_getElem hi, hiy] at this
        obtain ⟨cs, _, h2⟩ := bind_some this
        exact ⟨cs, y.2, h2⟩
      obtain ⟨xs, as, h', f1, f2, f3, f4, f5, f6, f7⟩ := argMany a (elems.map (·.1)) hmem h
      have hxl : xs.length = elems.length := by simpa using f3
      refine ⟨xs, [.slice (some (h'.size, 0)) elems.length], h'.push (.cells none (if elems.length = 0 then 0 else 1) as), ?_, ?_, by simp; omega, ?_, ?_, ?_⟩
      · simp only [absD, hu, if_neg hz0]
        rw [List.length_map] at f1
        simp [f1]
      · refine ⟨⟨some (h'.size, 0), elems.length⟩, rfl, hxl.symm, as, ⟨?_, .inr ⟨h'.size, 0, none, _, as, rfl, by simp, h'.get_push_new _, fun e he => by simp at he, ?_⟩⟩, ?_⟩
        · rw [reps_len f2, hxl]
        · by_cases h0 : elems.length = 0
          · exact .inl h0
          · refine .inr ⟨by simp [h0], by simp, by simp⟩
        · refine reps_mono f2 (fun id hi => h'.get_push_old _ hi) (fun id hi => by simp; omega)
      · intro id hi
        rw [h'.get_push_old _ (by omega)]
        exact f5 id hi
      · refine ⟨?_, f6⟩
        have : len ≤ maxLen := by omega
        have e2 : maxLen = 9223372036854775807 := by decide
        omega
      · simp only [RSlice, bulk]
        omega

/-- the parts of a struct -/
def ArgL (P : Program) {α : Type} (ts : List TypeId) (R : RT P α) : Prop :=
  ∀ {H : Type} {enc : TypeId × Value → H} {W : World} {held : Bool} (fuel : Nat) (ds : List (DataW H)), ds.length = ts.length → (∀ (i : Nat) d t, ds[i]? = some d → ts[i]? = some t → ∃ cs ps, DataW.trod enc P W 0 (fun _ => true) held fuel t cs = some (d, ps)) →
    ∀ h : AHeap, ∃ x as h', absL P ts h ds = some (as, h') ∧ R.rep (· < h'.size) h' x as ∧ h.size ≤ h'.size ∧ Same (· < h.size) h h' ∧ R.ok x ∧ R.wt x ≤ bulkAll ds
theorem argNil : ArgL P [] (RUnit P) := fun _ ds hl _ h => by
  have : ds = [] := List.length_eq_zero_iff.1 hl
  subst this
  exact ⟨(), [], h, by simp [absL], rfl, Nat.le_refl _, Same.refl _ _, trivial, by simp [RUnit]⟩
theorem argCons {α β : Type} {t : TypeId} {ts : List TypeId} {R : RT P α} {T : RT P β} (a : ArgT P t R) (b : ArgL P ts T) : ArgL P (t :: ts) (RProd R T) := fun fuel ds hl hd h => by
  cases ds with
  | nil => simp at hl
  | cons d ds =>
    obtain ⟨cs, ps, ht⟩ := hd 0 d t rfl rfl
    obtain ⟨x, as, h1, e1, e2, e3, e4, e5, e6⟩ := a.2 fuel cs d ps ht h
    obtain ⟨y, bs, h2, f1, f2, f3, f4, f5, f6⟩ := b fuel ds (by simpa using hl) (fun i d t hd' ht' => hd (i + 1) d t (by simpa using hd') (by simpa using ht')) h1
    refine ⟨(x, y), as ++ bs, h2, by simp [absL, e1, f1], ⟨as, bs, rfl, R.mono e2 f4 (fun id hi => by omega), f2⟩, by omega, Same.trans e4 (f4.sub fun id hi => by omega), ⟨e5, f5⟩, ?_⟩
    simp only [RProd, bulkAll]
    omega
theorem argStruct {α : Type} {t : TypeId} {fs : Array Field} {R : RT P α} (hu : P.underlying t = some (.struct fs)) (hz : R.sz = P.cellsOf t) (hok : okFs P fs.toList 0 (P.cellsOf t) = true) (a : ArgL P (fs.toList.map (·.type)) R) : ArgT P t R := by
  refine ⟨hz, fun fuel cs d ps ht h => ?_⟩
  cases fuel with
  | zero => simp [DataW.trod] at ht
  | succ fuel =>
    unfold DataW.trod at ht
    rw [hu] at ht
    split at ht <;> first | contradiction | cases ‹(some (_ : TypeDesc)) = some _› | exact absurd rfl (‹∀ fs_1 : Array Field, (some (TypeDesc.struct fs) : Option TypeDesc) = some (TypeDesc.struct fs_1) → False› fs)
    split at ht <;> try contradiction
    simp only [Option.map_eq_some_iff, Prod.mk.injEq] at ht
    obtain ⟨xs, hx, rfl, _⟩ := ht
    have hlen : xs.length = fs.toList.length := mapM_some_length hx
    obtain ⟨x, as, h', f1, f2, f3, f4, f5, f6⟩ := a fuel (xs.map (·.1)) (by simpa using hlen) (fun i d t hd ht => by
      rw [List.getElem?_map, Option.map_eq_some_iff] at hd ht
      obtain ⟨x, hx', rfl⟩ := hd
      obtain ⟨f, hf, rfl⟩ := ht
      have := mapM_some_get hx i f hf
      rw [hx'] at this
      exact ⟨_, x.2, this⟩) h
    refine ⟨x, as, h', ?_, f2, f3, f4, f5, ?_⟩
    · simp only [absD, hu, hok, if_true, f1]
    · simp only [bulk]; omega
end
end Go.Abs
