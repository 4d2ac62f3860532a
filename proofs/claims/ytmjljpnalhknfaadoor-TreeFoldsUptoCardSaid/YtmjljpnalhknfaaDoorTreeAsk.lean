/-
  TREE: what a tree matches, as a rule; the table of questions.
-/
import Derived.Test.YtmjljpnalhknfaaDoorTreeSet
import Derived.Test.YtmjljpnalhknfaaDoorLtreex1
namespace Go.Abs.L
open Go.Abs
set_option linter.unusedVariables false
set_option linter.unusedSimpArgs false

def nextT (n : Nd) (t : Int) : Int := if n.ma < 0 then (if t + 1 ≤ n.mi then t + 1 else n.mi) else t + 1
/-- a node matches between two places; a repeat, behind so many turns -/
inductive Mt (ns : List Nd) (s : List UInt8) : Nat → Int → Nat → Nat → Prop where
  | empty {a : Nat} {n : Nd} {t : Int} {i : Nat} : ns[a]? = some n → n.k = 0 → Mt ns s a t i i
  | one {a : Nat} {n : Nd} {t : Int} {i : Nat} {b : UInt8} : ns[a]? = some n → n.k = 1 → s[i]? = some b → hasB n b.toNat = true → Mt ns s a t i (i + 1)
  | front {a : Nat} {n : Nd} {t : Int} : ns[a]? = some n → n.k = 6 → Mt ns s a t 0 0
  | back {a : Nat} {n : Nd} {t : Int} : ns[a]? = some n → n.k = 7 → Mt ns s a t s.length s.length
  | altL {a x : Nat} {n : Nd} {t : Int} {i j : Nat} : ns[a]? = some n → n.k = 3 → n.a = x → Mt ns s x 0 i j → Mt ns s a t i j
  | altR {a x : Nat} {n : Nd} {t : Int} {i j : Nat} : ns[a]? = some n → n.k = 3 → n.b = x → Mt ns s x 0 i j → Mt ns s a t i j
  | group {a x : Nat} {n : Nd} {t : Int} {i j : Nat} : ns[a]? = some n → n.k = 5 → n.a = x → Mt ns s x 0 i j → Mt ns s a t i j
  | cat {a x y : Nat} {n : Nd} {t : Int} {i k j : Nat} : ns[a]? = some n → n.k = 2 → n.a = x → n.b = y → Mt ns s x 0 i k → Mt ns s y 0 k j → Mt ns s a t i j
  | repEnd {a : Nat} {n : Nd} {t : Int} {i : Nat} : ns[a]? = some n → n.k = 4 → n.mi ≤ t → Mt ns s a t i i
  | repStep {a x : Nat} {n : Nd} {t : Int} {i k j : Nat} : ns[a]? = some n → n.k = 4 → n.a = x → t ≠ n.ma → (k = i → t < n.mi) → Mt ns s x 0 i k → Mt ns s a (nextT n t) k j → Mt ns s a t i j
theorem Mt.le {ns : List Nd} {s : List UInt8} {a : Nat} {t : Int} {i j : Nat} (m : Mt ns s a t i j) : i ≤ j := by
  induction m <;> omega

/-! ### questions -/
def qC (a : Nat) (t : Int) (i j : Nat) : List AVal := [.int .i64 (a : Int), .int .i64 t, .int .i64 (i : Int), .int .i64 (j : Int)]
theorem eqQ_ch (a1 a2 a3 a4 b1 b2 b3 b4 : Int) : eqA cfg.P 10000 63 (.agg [.int .i64 a1, .int .i64 a2, .int .i64 a3, .int .i64 a4]) (.agg [.int .i64 b1, .int .i64 b2, .int .i64 b3, .int .i64 b4]) = ch (a1 == b1) (ch (a2 == b2) (ch (a3 == b3) (ch (a4 == b4) (some true)))) := by
  kernel_rfl
theorem eqQ (a : Nat) (t : Int) (i j a' : Nat) (t' : Int) (i' j' : Nat) : eqA cfg.P 10000 63 (.agg (qC a t i j)) (.agg (qC a' t' i' j')) = some (decide (a = a' ∧ t = t' ∧ i = i' ∧ j = j')) := by
  unfold qC
  rw [eqQ_ch]
  simp only [ch_eq]
  congr 1
  rw [Bool.eq_iff_iff]
  simp
  omega
theorem sameQ (a : Nat) (t : Int) (i j : Nat) : sameA (.agg (qC a t i j)) (.agg (qC a t i j)) = true := by
  simp [sameA, qC, same1]
theorem keyQ (a : Nat) (t : Int) (i j : Nat) : keyOkA cfg.P 20 63 (.agg (qC a t i j)) = true := by kernel_rfl
/-- what is told is right -/
def OkE (ns : List Nd) (s : List UInt8) (e : AVal × AVal) : Prop := ∃ a t i j b, e = (.agg (qC a t i j), .bool b) ∧ (b = true ↔ Mt ns s a t i j)
theorem find_ok {ns : List Nd} {s : List UInt8} (a : Nat) (t : Int) (i j : Nat) : ∀ (es : List (AVal × AVal)) (k0 : Nat), (∀ e ∈ es, OkE ns s e) →
    findA cfg.P 63 (.agg (qC a t i j)) es k0 = some none ∨ ∃ k b, findA cfg.P 63 (.agg (qC a t i j)) es k0 = some (some (k0 + k, .bool b)) ∧ (b = true ↔ Mt ns s a t i j) ∧ es[k]? = some (.agg (qC a t i j), .bool b)
  | [], k0, _ => .inl rfl
  | e :: es, k0, h => by
    obtain ⟨a', t', i', j', b, rfl, hb⟩ := h e (by simp)
    unfold findA
    rw [eqQ]
    by_cases he : a = a' ∧ t = t' ∧ i = i' ∧ j = j'
    · rw [decide_eq_true he]
      obtain ⟨rfl, rfl, rfl, rfl⟩ := he
      exact .inr ⟨0, b, rfl, hb, rfl⟩
    · rw [decide_eq_false he]
      rcases find_ok a t i j es (k0 + 1) (fun e he => h e (by simp [he])) with h1 | ⟨k, b', h1, h2, h3⟩
      · exact .inl h1
      · exact .inr ⟨k + 1, b', by rw [h1, show k0 + 1 + k = k0 + (k + 1) from by omega], h2, by simpa using h3⟩
theorem ask_look {ns : List Nd} {s : List UInt8} {h : AHeap} {M : Nat} {es : List (AVal × AVal)} (hg : h.get M = some (.map 2 es)) (ok : ∀ e ∈ es, OkE ns s e) (a : Nat) (t : Int) (i j : Nat) :
    mpL cfg.P h 58 (some M) (.agg (qC a t i j)) = some (.bool false, false) ∨ ∃ b, mpL cfg.P h 58 (some M) (.agg (qC a t i j)) = some (.bool b, true) ∧ (b = true ↔ Mt ns s a t i j) := by
  have hm : mpE h (some M) = some es := by simp [mpE, hg]
  have hu : cfg.P.underlying 58 = some (.map 63 4) := by kernel_rfl
  have hz : zeroA cfg.P 4 = some (.bool false) := by kernel_rfl
  unfold mpL
  rw [hu]
  simp only [keyQ, if_true, hm]
  rcases find_ok (ns := ns) (s := s) a t i j es 0 ok with h1 | ⟨k, b, h1, h2, _⟩
  · rw [h1]; exact .inl (by simp only [hz, Option.map_some])
  · rw [h1]; exact .inr ⟨b, rfl, h2⟩
theorem ask_put {ns : List Nd} {s : List UInt8} {g : Gd} {h : AHeap} {M : Nat} {es : List (AVal × AVal)} (hg : h.get M = some (.map 2 es)) (hm : g.may M = true) (ok : ∀ e ∈ es, OkE ns s e) (a : Nat) (t : Int) (i j : Nat) {b : Bool} (hb : b = true ↔ Mt ns s a t i j) :
    ∃ es', mpS cfg.P g h 58 (some M) (.agg (qC a t i j)) (.bool b) = some (h.set M (.map 2 es')) ∧ ∀ e ∈ es', OkE ns s e := by
  have hu : cfg.P.underlying 58 = some (.map 63 4) := by kernel_rfl
  unfold mpS mapSetA
  rw [hu]
  simp only [keyQ, hm, and_self, if_true, hg]
  rcases find_ok (ns := ns) (s := s) a t i j es 0 ok with h1 | ⟨k, b', h1, h2, h3⟩
  · rw [h1]
    refine ⟨_, rfl, fun e he => ?_⟩
    rcases List.mem_append.1 he with he | he
    · exact ok e he
    · rw [List.mem_singleton.1 he]
      exact ⟨a, t, i, j, b, rfl, hb⟩
  · rw [h1, show 0 + k = k from by omega]
    simp only [h3, sameQ, if_true]
    refine ⟨_, rfl, fun e he => ?_⟩
    rcases List.mem_or_eq_of_mem_set he with he | he
    · exact ok e he
    · rw [he]
      exact ⟨a, t, i, j, b, rfl, hb⟩
end Go.Abs.L
