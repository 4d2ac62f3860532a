/-
  RexQuotes: quoting; which signs stand in a quoted text.
-/
import Derived.Test.YtiodcbipjnmpgaaDoorQuM
namespace Go.Av.L
open Go.Av Go.Lib
set_option linter.unusedVariables false
set_option linter.unusedSimpArgs false
def sg (e : Bool) : List UInt8 := match e with
 | true => [46, 42, 91, 93, 94, 36, 92] ++ [40, 41, 124, 43, 63, 123, 125]
 | false => [46, 42, 91, 93, 94, 36, 92]
def tok (e : Bool) (b : UInt8) : List UInt8 := if b ∈ sg e then [92, b] else [b]
def qt (e : Bool) (s : List UInt8) : List UInt8 := s.flatMap (tok e)
theorem tok_len (e : Bool) (b : UInt8) : 1 ≤ (tok e b).length ∧ (tok e b).length ≤ 2 := by unfold tok; split <;> simp
theorem qt_nil (e : Bool) : qt e [] = [] := rfl
theorem qt_cons (e : Bool) (b : UInt8) (s : List UInt8) : qt e (b :: s) = tok e b ++ qt e s := by simp [qt]
theorem qt_app (e : Bool) (s t : List UInt8) : qt e (s ++ t) = qt e s ++ qt e t := by simp [qt]
theorem qt_len (e : Bool) : ∀ s : List UInt8, (qt e s).length ≤ 2 * s.length
 | [] => by simp [qt_nil]
 | b :: s => by
  rw [qt_cons, List.length_append, List.length_cons]
  have := qt_len e s
  have := (tok_len e b).2
  omega
theorem index_ok (l : List UInt8) (b : UInt8) : M_strings_IndexByte l (b.toNat : Int) = some (idxOf l b) := by
 unfold M_strings_IndexByte M_stringslite_IndexByte
 have hx : X_IndexByte l (b.toNat : Int) = some (idxOf l b) := by
  have := byte_lt b
  unfold X_IndexByte
  rw [if_pos ⟨by omega, by omega⟩, Int.toNat_natCast]
  simp
 rw [hx]; rfl
theorem toY_nat (b : UInt8) : toY (b.toNat : Int) = some b := by
 have := b.toNat_lt
 unfold toY
 rw [if_pos ⟨Int.natCast_nonneg _, by omega⟩, Int.toNat_natCast]
 simp
theorem quote_ok (s : List UInt8) (e : Bool) (hs : s.length ≤ 1000) : M_rex_Quote s e = some (qt e s) := by
 refine W.eq ?_
 unfold M_rex_Quote
 refine W.bind (W.mono (Q := fun l => l = sg e) (W.ite (fun h => ?_) fun h => ?_) ?_)
 ·subst h; exact W.need (by decide) (W.ret rfl)
 ·subst h; exact W.ret rfl
 rintro _ rfl
 refine W.bind (W.mono (W.list (l := s) (Q := fun r => r = qt e s) (fun (o : List UInt8) (k : Nat) => (o, (k : Int))) (fun o k => o = qt e (s.take k)) ?_ ?_ [] (by simp [qt_nil])) fun r hr => W.ret hr)
 ·rintro o rfl
  unfold M_rex_Quote_L0
  refine W.iteP (fun h => by omega) fun _ => W.ret ?_
  rw [List.take_length]
 ·rintro o k hk rfl
  unfold M_rex_Quote_L0
  refine W.iteP (fun _ => ?_) fun h => by omega
  have hl := qt_len e (s.take k)
  rw [List.length_take] at hl
  rw [ixS_get hk, Option.bind_some, index_ok, Option.bind_some]
  refine W.bind (W.mono (Q := fun o => o = qt e (s.take k) ++ (if s[k] ∈ sg e then [92] else [])) (W.iteP (fun h => ?_) fun h => W.ret ?_) ?_)
  ·rw [if_pos ((idxOf_mem _ _).1 h)]
   exact W.need (okN_of (by simp; omega) (by simp; omega)) (W.ret rfl)
  ·rw [if_neg (fun hm => h ((idxOf_mem _ _).2 hm)), List.append_nil]
  ·rintro _ rfl
   rw [Option.bind_some, toY_nat, Option.bind_some]
   have hl2 : (qt e (s.take k) ++ (if s[k] ∈ sg e then [92] else [])).length ≤ 3000 := by
    rw [List.length_append]; split <;> simp <;> omega
   refine W.need (okN_of (by rw [List.length_singleton]; omega) (by rw [List.length_singleton]; omega)) (W.ret ⟨_, by rw [ek64 (by omega)], ?_⟩)
   rw [take_snoc (List.getElem?_eq_getElem hk), qt_app, List.append_assoc]
   congr 1
   unfold qt tok
   simp only [List.flatMap_cons, List.flatMap_nil, List.append_nil]
   split <;> rfl
theorem hp_ok (s p : List UInt8) : M_strings_HasPrefix s p = some (p.isPrefixOf s) := by
 refine W.eq ?_
 unfold M_strings_HasPrefix M_stringslite_HasPrefix
 refine W.bind (W.bind (W.mono (Q := fun b => b = p.isPrefixOf s) (W.iteP (fun h => ?_) fun h => W.ret ?_) fun b hb => W.ret (W.ret hb)))
 ·rw [subS_hi (by omega), Option.bind_some]
  refine W.ret ?_
  rw [Bool.eq_iff_iff, List.isPrefixOf_iff_prefix, List.prefix_iff_eq_take, beq_iff_eq]
  exact eq_comm
 ·symm
  rw [Bool.eq_false_iff, ne_eq, List.isPrefixOf_iff_prefix]
  intro hp
  have := hp.length_le
  omega
def pre (e : Bool) (c : UInt8) : List UInt8 := match e with
 | true => [c]
 | false => [92, c]
theorem sign_eq (t : List UInt8) (i : Nat) (hi : i ≤ t.length) (e : Bool) (tr : S_tree_Tree) (g d w : Int) (f : Bool) (c : UInt8) : M_rex_walk_sign_sPOS ⟨t, i, e, tr, g, d, w, f⟩ [c] = some ((pre e c).isPrefixOf (t.drop i)) := by
 refine W.eq ?_
 unfold M_rex_walk_sign_sPOS
 refine W.bind (W.mono (Q := fun p => p = pre e c) (W.ite (fun h => ?_) fun h => ?_) ?_)
 ·have : e = false := by simpa using h
  subst this
  exact W.need (decide_eq_true (by simp)) (W.ret rfl)
 ·have : e = true := by simpa using h
  subst this
  exact W.ret rfl
 ·rintro _ rfl
  rw [subS_lo hi, Option.bind_some, hp_ok]
  exact W.ret rfl
theorem no_sign (e : Bool) (c : UInt8) (hc : c ∈ ([40, 41, 124, 43, 63, 123] : List UInt8)) (u : List UInt8) : (pre e c).isPrefixOf (qt e u) = false := by
 have h1 : c ∈ sg true ∧ c ∉ sg false ∧ c ≠ 92 := by
  simp only [List.mem_cons, List.not_mem_nil, or_false] at hc
  rcases hc with rfl | rfl | rfl | rfl | rfl | rfl <;> decide
 have h92 : (92 : UInt8) ∈ sg e := by cases e <;> decide
 cases u with
 | nil => cases e <;> rfl
 | cons b u =>
  rw [qt_cons]
  unfold tok
  by_cases hb : b ∈ sg e
  ·rw [if_pos hb]
   cases e with
   | true => simp [pre, List.isPrefixOf, h1.2.2]
   | false =>
    have : c ≠ b := fun h => h1.2.1 (h ▸ hb)
    simp [pre, List.isPrefixOf, this]
  ·rw [if_neg hb]
   cases e with
   | true =>
    have : c ≠ b := fun h => hb (h ▸ h1.1)
    simp [pre, List.isPrefixOf, this]
   | false =>
    have : (92 : UInt8) ≠ b := fun h => hb (h ▸ h92)
    simp [pre, List.isPrefixOf, this]
theorem no_star (e : Bool) (u : List UInt8) : ([42] : List UInt8).isPrefixOf (qt e u) = false := by
 cases u with
 | nil => rfl
 | cons b u =>
  rw [qt_cons]
  unfold tok
  by_cases hb : b ∈ sg e
  ·rw [if_pos hb]; simp [List.isPrefixOf]
  ·rw [if_neg hb]
   have : (42 : UInt8) ≠ b := fun h => hb (h ▸ (by cases e <;> decide))
   simp [List.isPrefixOf, this]
def fc (e : Bool) (b : UInt8) : UInt8 := if b ∈ sg e then 92 else b
theorem fc_ne {e : Bool} {b n : UInt8} (hn : n ∈ sg e) (h92 : n ≠ 92) : fc e b ≠ n := by
 unfold fc
 split
 ·exact Ne.symm h92
 ·rename_i hb
  intro h
  subst h
  exact hb hn
theorem bq {c : UInt8} {n : Nat} (hn : n < 256) (h : c ≠ UInt8.ofNat n) : ((c.toNat : Int) == (n : Int)) = false := by
 rw [byte_eq hn]; simpa using h
end Go.Av.L
