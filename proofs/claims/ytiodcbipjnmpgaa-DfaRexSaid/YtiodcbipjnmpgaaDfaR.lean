/-
  Rex: any expression is told, and what is told is a right tree.
-/
import Derived.Test.YtiodcbipjnmpgaaDfaP
namespace Go.Av.L
open Go.Av Go.Lib
set_option linter.unusedVariables false
set_option linter.unusedSimpArgs false
structure NodesOk (l : List S_tree_Node) (root : Int) : Prop where
 ok : ∀ (i : Nat) n, l[i]? = some n → M_tree_may n i = some true
 len : l.length ≤ 1024
 root : 0 ≤ root ∧ (0 < l.length → root < l.length)
def Got (full : Bool) (l : List S_tree_Node) : Prop := full = true ∨ 0 < l.length
structure Wk (s : List UInt8) (a : Int) (w : S_rex_walk) : Prop where
 s_ : w.s_ = s
 lo : a ≤ w.at_
 hi : w.at_ ≤ s.length
 nd : NodesOk w.t_.Nodes w.t_.Root
structure R3 (s : List UInt8) (a : Int) (g : Prop) (r : Int × S_rex_walk × List S_tree_Node) : Prop where
 s_ : r.2.1.s_ = s
 lo : a ≤ r.2.1.at_
 hi : r.2.1.at_ ≤ s.length
 nd : NodesOk r.2.2 r.2.1.t_.Root
 got : g → Got r.2.1.full_ r.2.2
def ext1 (w : S_rex_walk) : Int := if w.extended_ then 0 else 1
theorem ext1_le (w : S_rex_walk) : 0 ≤ ext1 w ∧ ext1 w ≤ 1 := by unfold ext1; split <;> decide
theorem wsign_ok {s : List UInt8} (hl : s.length ≤ 8192) {a : Int} (ha : 0 ≤ a) {w : S_rex_walk} (h : Wk s a w) (p : List UInt8) (hp : p.length ≤ 100) : W (M_rex_walk_sign_sPOS w p) fun r => r = true → w.at_ + p.length + ext1 w ≤ s.length := by
 have h1 := h.lo
 have h2 := h.hi
 unfold M_rex_walk_sign_sPOS
 refine W.bind (W.mono (Q := fun x => (x.length : Int) = p.length + ext1 w) (W.ite (fun e => W.need (decide_eq_true (by simp; omega)) (W.ret ?_)) fun e => W.ret ?_) fun x1 hx => ?_)
 ·simp only [Bool.not_eq_true'] at e; unfold ext1; rw [e]; simp
 ·simp only [Bool.not_eq_false'] at e; unfold ext1; rw [e]; simp
 rw [h.s_, rest_ok ⟨by omega, h2⟩, Option.bind_some]
 refine W.bind ((pre_ok _ _).mono fun b hb => W.ret fun e => ?_)
 have := hb e
 rw [List.length_drop] at this
 omega
abbrev S_rex_walk.go (w : S_rex_walk) (i : Int) : S_rex_walk := ⟨w.s_, i, w.extended_, w.t_, w.groups_, w.depth_, w.wrong_, w.full_⟩
theorem wnext_ok {s : List UInt8} (hl : s.length ≤ 8192) {a : Int} (ha : 0 ≤ a) {w : S_rex_walk} (h : Wk s a w) (p : List UInt8) (hp : p.length ≤ 100) : W (M_rex_walk_next_sPOS w p) fun r => (r.1 = false ∧ r.2 = w) ∨ (r.1 = true ∧ ∃ i, r.2 = w.go i ∧ w.at_ + p.length ≤ i ∧ i ≤ s.length) := by
 have h1 := h.lo
 have h2 := h.hi
 have h3 := ext1_le w
 unfold M_rex_walk_next_sPOS
 refine W.bind ((wsign_ok hl ha h p hp).mono fun x1 hx => W.ite (fun _ => W.ret (.inl ⟨rfl, rfl⟩)) fun e => ?_)
 have hx := hx (by simpa using e)
 rw [w64 (x := w.at_ + p.length) (by omega) (by omega)]
 refine W.bind (W.mono (Q := fun i => i = w.at_ + p.length + ext1 w) (W.ite (fun e => W.ret ?_) fun e => W.ret ?_) fun i hi => W.ret (.inr ⟨rfl, i, rfl, by omega, by omega⟩))
 ·simp only [Bool.not_eq_true'] at e
  have : ext1 w = 1 := by unfold ext1; rw [e]; rfl
  rw [w64 (by omega) (by omega), this]
 ·simp only [Bool.not_eq_false'] at e
  have : ext1 w = 0 := by unfold ext1; rw [e]; rfl
  rw [this, Int.add_zero]
theorem wcloses_ok {s : List UInt8} (hl : s.length ≤ 8192) {a : Int} (ha : 0 ≤ a) {w : S_rex_walk} (h : Wk s a w) : W (M_rex_walk_closes_sPO w) fun b => b = false → w.at_ < s.length := by
 have h2 := h.hi
 unfold M_rex_walk_closes_sPO
 rw [h.s_]
 refine W.bind (W.mono (Q := fun b => b = false → w.at_ < s.length) ?_ fun x1 h1 => W.bind (W.mono (Q := fun b => b = false → x1 = false) (W.ite (fun _ => W.ret fun e => by cases e) fun e => W.any (W.top (wsign_ok hl ha h _ (by simp))) fun x4 => W.ret fun _ => e) fun x3 h3 => W.ret fun e => h1 (h3 e)))
 rw [iteB_beq]
 split
 ·exact W.ret fun e => by cases e
 ·exact W.any (W.top (wsign_ok hl ha h _ (by simp))) fun x2 => W.ret fun _ => by omega
theorem wback_ok {s : List UInt8} (hl : s.length ≤ 8192) {a : Int} (ha : 0 ≤ a) {w : S_rex_walk} (h : Wk s a w) (hlt : w.at_ < s.length) : W (M_rex_walk_back_sPO w) fun _ => True := by
 have h1 := h.lo
 unfold M_rex_walk_back_sPO
 rw [w64 (x := w.at_ + 1) (by omega) (by omega)]
 exact W.any (W.top (wcloses_ok hl ha (w := w.go (w.at_ + 1)) ⟨h.s_, by simp only; omega, by simp only; omega, h.nd⟩)) fun _ => W.ret trivial
theorem wadd_ok {s : List UInt8} {a : Int} {w : S_rex_walk} (h : Wk s a w) (n : S_tree_Node) : W (M_rex_walk_add_sPOR w n) (R3 s w.at_ True) := by
 unfold M_rex_walk_add_sPOR
 refine W.ite (fun e => W.ret ⟨h.s_, Int.le_refl _, h.hi, h.nd, fun _ => .inl e⟩) fun _ => ?_
 unfold M_tree_Tree_Add_sQ3OR
 refine W.bind (W.mono (Q := fun r => (r.2.1 = 0 → 0 < r.2.2.2.length) ∧ R3 s w.at_ False (0, r.2.2.1, r.2.2.2)) (W.iteP (fun _ => W.ret ⟨fun e => absurd e (by simp), h.s_, Int.le_refl _, h.hi, h.nd, fun e => False.elim e⟩) fun hlt => ?_) ?_)
 ·obtain ⟨b, e, _⟩ := may_ok n w.t_.Nodes.length
  rw [e, Option.bind_some]
  refine W.ite (fun _ => W.ret ⟨fun e => absurd e (by simp), h.s_, Int.le_refl _, h.hi, h.nd, fun e => False.elim e⟩) fun hb => ?_
  have hb : b = true := by simpa using hb
  subst hb
  refine W.need (okN_of (by simp; omega) (by simp; omega)) (W.ret ⟨fun _ => by simp, h.s_, Int.le_refl _, h.hi, ⟨fun i m hm => ?_, by simp; omega, ?_⟩, fun e => False.elim e⟩)
  ·simp only at hm
   by_cases hi : i < w.t_.Nodes.length
   ·rw [List.getElem?_append_left hi] at hm
    exact h.nd.ok i m hm
   ·have hl := (List.getElem?_eq_some_iff.1 hm).1
    rw [List.length_append, List.length_singleton] at hl
    obtain rfl : i = w.t_.Nodes.length := by omega
    rw [List.getElem?_append_right (Nat.le_refl _), Nat.sub_self] at hm
    cases hm
    exact e
  ·simp only [List.length_append, List.length_singleton]
   rw [w64 (by omega) (by omega)]
   omega
 ·rintro ⟨x1, x2, x3, x4⟩ ⟨h1, h2⟩
  simp only [iteB_bne]
  refine W.bind (W.mono (Q := fun f => Got f x4) ?_ fun f hf => W.ret ⟨h2.s_, h2.lo, h2.hi, h2.nd, fun _ => hf⟩)
  split
  ·rename_i e
   exact W.ret (.inr (h1 e))
  ·exact W.ret (.inl rfl)
theorem R3.wk {s : List UInt8} {a : Int} {g : Prop} {x1 : Int} {x2 : S_rex_walk} {x3 : List S_tree_Node} (h : R3 s a g (x1, x2, x3)) : Wk s a ⟨x2.s_, x2.at_, x2.extended_, ⟨x3, x2.t_.Root⟩, x2.groups_, x2.depth_, x2.wrong_, x2.full_⟩ := ⟨h.s_, h.lo, h.hi, h.nd⟩
theorem Wk.go {s : List UInt8} {a : Int} {w : S_rex_walk} (h : Wk s a w) {i : Int} (h1 : a ≤ i) (h2 : i ≤ s.length) : Wk s a (w.go i) := ⟨h.s_, h1, h2, h.nd⟩
theorem wone_ok {s : List UInt8} {a : Int} {w : S_rex_walk} (h : Wk s a w) {b : Int} (hb : 0 ≤ b ∧ b ≤ 255) : W (M_rex_walk_one_sPOI w b) (R3 s w.at_ True) := by
 unfold M_rex_walk_one_sPOI
 refine W.any (range_ok hb hb) fun x1 => W.bind ((wadd_ok h _).mono ?_)
 rintro ⟨x2, x3, x4⟩ hr
 exact W.ret ⟨hr.s_, hr.lo, hr.hi, hr.nd, hr.got⟩
theorem wnumber_ok {s : List UInt8} (hl : s.length ≤ 8192) {a : Int} (ha : 0 ≤ a) {w : S_rex_walk} (h : Wk s a w) : W (M_rex_walk_number_sPO w) fun r => ∃ i, r.2.2 = w.go i ∧ w.at_ ≤ i ∧ i ≤ s.length := by
 have h1 := h.lo
 have h2 := h.hi
 unfold M_rex_walk_number_sPO
 refine W.bind (W.mono (W.loop (fun (x : Int × Int × Int) => w.at_ ≤ x.1 ∧ x.1 ≤ s.length) (fun x => (s.length - x.1).toNat) ⟨Int.le_refl _, h2⟩ ?_ (Q := fun (x : Int × Int × Int) => w.at_ ≤ x.1 ∧ x.1 ≤ s.length)) ?_)
 ·rintro ⟨x1, x2, x3⟩ ⟨g1, g2⟩
  simp only at g1 g2
  unfold M_rex_walk_number_sPO_L0
  rw [h.s_]
  refine W.bind (W.mono (Q := fun b => b = true → x1 < s.length) (W.iteP (fun hlt => ?_) fun _ => W.ret fun e => by cases e) fun x7 h7 => W.bind (W.mono (Q := fun b => b = true → x1 < s.length) (W.ite (fun e => ?_) fun _ => W.ret fun e => by cases e) fun x9 h9 => W.ite (fun e => ?_) fun _ => W.ret ⟨g1, g2⟩))
  ·obtain ⟨v, hv, _⟩ := ixS_ok (s := s) (i := x1) ⟨by omega, hlt⟩
   rw [hv]; exact W.bind (W.ret (W.ret fun _ => hlt))
  ·obtain ⟨v, hv, _⟩ := ixS_ok (s := s) (i := x1) ⟨by omega, h7 e⟩
   rw [hv]; exact W.bind (W.ret (W.ret fun _ => h7 e))
  ·have hlt := h9 (Bool.and_eq_true_iff.1 e).1
   obtain ⟨v, hv, _⟩ := ixS_ok (s := s) (i := x1) ⟨by omega, hlt⟩
   rw [hv]
   refine W.bind (W.ret (W.ret ?_))
   rw [w64 (x := x1 + 1) (by omega) (by omega)]
   exact ⟨⟨by simp only; omega, by simp only; omega⟩, by simp only; omega⟩
 ·rintro ⟨x4, x5, x6⟩ hr
  exact W.ret ⟨x4, rfl, hr⟩
theorem wbounds_ok {s : List UInt8} (hl : s.length ≤ 8192) {a : Int} (ha : 0 ≤ a) {w : S_rex_walk} (h : Wk s a w) : W (M_rex_walk_bounds_sPO w) fun r => ∃ i, r.2.2.2 = w.go i ∧ w.at_ ≤ i ∧ i ≤ s.length := by
 have h1 := h.lo
 unfold M_rex_walk_bounds_sPO
 refine W.bind ((wnumber_ok hl ha h).mono ?_)
 rintro ⟨x1, x2, x3⟩ ⟨i, rfl, g1, g2⟩
 refine W.ite (fun _ => W.ret ⟨i, rfl, g1, g2⟩) fun _ => ?_
 simp only []
 refine W.bind (W.mono (Q := fun o => match o with
  | .inl (x4, x5, x6, x7, x8, x9, x10, x11, x12, x13) => ∃ j, (⟨x4, x5, x6, ⟨w.t_.Nodes, x7⟩, x8, x9, x10, x11⟩ : S_rex_walk) = w.go j ∧ w.at_ ≤ j ∧ j ≤ s.length
  | .inr (x14, x15, x16, x17, x18, x19, x20, x21, x22, x23, x24) => ∃ j, (⟨x14, x15, x16, ⟨w.t_.Nodes, x17⟩, x18, x19, x20, x21⟩ : S_rex_walk) = w.go j ∧ w.at_ ≤ j ∧ j ≤ s.length) ?_ ?_)
 ·rw [h.s_, rest_ok ⟨by omega, g2⟩, Option.bind_some]
  refine W.bind ((pre_ok _ _).mono fun x26 h26 => W.ite (fun e => ?_) fun _ => W.ret ⟨i, by rw [← h.s_], g1, g2⟩)
  have hlen := h26 e
  rw [List.length_drop, show ([44] : List UInt8).length = 1 from rfl] at hlen
  rw [w64 (x := i + 1) (by omega) (by omega)]
  have hg : Wk s a (w.go (i + 1)) := h.go (by omega) (by omega)
  have es : (⟨s, i + 1, w.extended_, ⟨w.t_.Nodes, w.t_.Root⟩, w.groups_, w.depth_, w.wrong_, w.full_⟩ : S_rex_walk) = w.go (i + 1) := by rw [← h.s_]
  rw [es]
  refine W.any (W.top (wsign_ok hl ha hg _ (by simp))) fun x27 => W.ite (fun _ => W.bind ((wnumber_ok hl ha hg).mono ?_)) fun _ => W.ret ⟨i + 1, es, by omega, by omega⟩
  rintro ⟨x28, x29, x30⟩ ⟨j, rfl, k1, k2⟩
  simp only at k1
  exact W.ite (fun _ => W.ret ⟨j, rfl, by omega, k2⟩) fun _ => W.ret ⟨j, rfl, by omega, k2⟩
 ·rintro o ho
  cases o with
  | inl o =>
   obtain ⟨x4, x5, x6, x7, x8, x9, x10, x11, x12, x13⟩ := o
   obtain ⟨j, e, k1, k2⟩ := ho
   simp only []
   rw [e]
   refine W.bind ((wnext_ok hl ha (h.go (by omega) k2) _ (by simp)).mono ?_)
   rintro ⟨x31, x32⟩ hr
   rcases hr with ⟨_, e2⟩ | ⟨_, q, e2, k3, k4⟩
   ·simp only at e2
    subst e2
    exact W.ret ⟨j, rfl, k1, k2⟩
   ·simp only at e2 k3
    subst e2
    exact W.ret ⟨q, rfl, by omega, k4⟩
  | inr o =>
   obtain ⟨x14, x15, x16, x17, x18, x19, x20, x21, x22, x23, x24⟩ := o
   exact W.ret ho
theorem wfail_ok (w : S_rex_walk) (i : Int) : W (M_rex_walk_fail_sPOI w i) fun r => ∃ q, r = ⟨w.s_, w.at_, w.extended_, w.t_, w.groups_, w.depth_, q, w.full_⟩ := by
 unfold M_rex_walk_fail_sPOI
 exact W.iteP (fun _ => W.ret ⟨i, rfl⟩) fun _ => W.ret ⟨w.wrong_, rfl⟩
end Go.Av.L
