/-
  Rex: repeats, nests, escapes, atoms, branches, groups; any expression is told, and what is told is a right tree.
-/
import Derived.Test.YtiodcbipjnmpgaaDfaR
namespace Go.Av.L
open Go.Av Go.Lib
set_option linter.unusedVariables false
set_option linter.unusedSimpArgs false
theorem wrepeats_ok {s : List UInt8} (hl : s.length ≤ 8192) {a : Int} (ha : 0 ≤ a) {w : S_rex_walk} (h : Wk s a w) {g : Prop} (hg : g → Got w.full_ w.t_.Nodes) (n : Int) : W (M_rex_walk_repeats_sPOI w n) (R3 s w.at_ g) := by
 have h0 : 0 ≤ w.at_ := by have := h.lo; omega
 unfold M_rex_walk_repeats_sPOI
 let Q : (List UInt8) × Int × Bool × Int × Int × Int × Int × Bool × (List S_tree_Node) × Int → Prop := fun (x1, x2, x3, x4, x5, x6, x7, x8, x9, x10) => Wk s w.at_ ⟨x1, x2, x3, ⟨x9, x4⟩, x5, x6, x7, x8⟩ ∧ (g → Got x8 x9)
 refine W.bind (W.mono (W.loop Q (fun x => (s.length - x.2.1).toNat) ⟨⟨h.s_, Int.le_refl _, h.hi, h.nd⟩, hg⟩ ?_ (Q := fun o => match o with | .inl x => Q x | .inr x => Q x)) ?_)
 ·rintro ⟨x1, x2, x3, x4, x5, x6, x7, x8, x9, x10⟩ ⟨k, kg⟩
  have k1 := k.lo
  have k2 := k.hi
  simp only at k1 k2
  unfold M_rex_walk_repeats_sPOI_L0
  refine W.bind (W.ret (W.ite (fun _ => ?_) fun _ => W.ret ⟨k, kg⟩))
  let w0 : S_rex_walk := ⟨x1, x2, x3, ⟨x9, x4⟩, x5, x6, x7, x8⟩
  have k0 : Wk s w.at_ w0 := k
  refine W.bind (W.mono (Q := fun o => match o with
   | .inl (x32, x33, x34, x35, x36, x37, x38, x39, x40, x41) => x39 = x8 ∧ Wk s (x2 + 1) ⟨x32, x33, x34, ⟨x9, x35⟩, x36, x37, x38, x39⟩
   | .inr (x42, x43, x44, x45, x46, x47, x48, x49, x50) => x49 = x8 ∧ Wk s w.at_ ⟨x42, x43, x44, ⟨x9, x45⟩, x46, x47, x48, x49⟩) ?_ ?_)
  ·rw [show x1 = s from k.s_, rest_ok ⟨by omega, k2⟩, Option.bind_some]
   have k0' : Wk s w.at_ ⟨s, x2, x3, ⟨x9, x4⟩, x5, x6, x7, x8⟩ := ⟨rfl, k1, k2, k.nd⟩
   have go : ∀ {i : Int} {x40 x41 : Int}, x2 + 1 ≤ i → i ≤ s.length → x8 = x8 ∧ Wk s (x2 + 1) ⟨s, i, x3, ⟨x9, x4⟩, x5, x6, x7, x8⟩ := fun h1 h2 => ⟨rfl, rfl, h1, h2, k.nd⟩
   refine W.bind ((pre_ok _ _).mono fun x52 h52 => W.ite (fun e => W.ret ?_) fun _ => ?_)
   ·have := h52 e
    rw [List.length_drop, show ([42] : List UInt8).length = 1 from rfl] at this
    rw [w64 (by omega) (by omega)]
    exact ⟨rfl, rfl, by (try simp only); omega, by (try simp only); omega, k.nd⟩
   refine W.bind ((wnext_ok hl (by omega) k0' [43] (by simp)).mono ?_)
   rintro ⟨b, y⟩ hr
   rcases hr with ⟨e1, e2⟩ | ⟨e1, i, e2, g1, g2⟩ <;> simp only at e1 e2 <;> subst e1 <;> subst e2
   ·simp only [iteB_false]
    refine W.bind ((wnext_ok hl (by omega) k0' [63] (by simp)).mono ?_)
    rintro ⟨b, y⟩ hr
    rcases hr with ⟨e1, e2⟩ | ⟨e1, i, e2, g1, g2⟩ <;> simp only at e1 e2 <;> subst e1 <;> subst e2
    ·simp only [iteB_false]
     refine W.bind ((wnext_ok hl (by omega) k0' [123] (by simp)).mono ?_)
     rintro ⟨b, y⟩ hr
     rcases hr with ⟨e1, e2⟩ | ⟨e1, i, e2, g1, g2⟩ <;> simp only at e1 e2 <;> subst e1 <;> subst e2
     ·exact W.ret ⟨rfl, k0'⟩
     ·simp only [List.length_cons, List.length_nil] at g1
      simp only [iteB_true]
      refine W.bind ((wbounds_ok hl (by omega) (k0'.go (i := i) (by omega) g2)).mono ?_)
      rintro ⟨x59, x60, x61, x62⟩ ⟨j, rfl, g3, g4⟩
      simp only at g3 ⊢
      refine W.ite (fun _ => W.bind ((wfail_ok _ _).mono ?_)) fun _ => W.ret ⟨rfl, rfl, by (try simp only); omega, g4, k.nd⟩
      rintro _ ⟨q, rfl⟩
      exact W.ret ⟨rfl, rfl, by (try simp only); omega, g4, k.nd⟩
    ·simp only [List.length_cons, List.length_nil] at g1
     exact W.ret ⟨rfl, rfl, by (try simp only); omega, g2, k.nd⟩
   ·simp only [List.length_cons, List.length_nil] at g1
    exact W.ret ⟨rfl, rfl, by (try simp only); omega, g2, k.nd⟩
  ·rintro o ho
   cases o with
   | inl o =>
    obtain ⟨x32, x33, x34, x35, x36, x37, x38, x39, x40, x41⟩ := o
    obtain ⟨rfl, f⟩ := ho
    refine W.bind ((wadd_ok f _).mono ?_)
    rintro ⟨x64, x65, x66⟩ hr
    have r1 := hr.lo
    have r2 := hr.hi
    have r3 := f.lo
    simp only at r1 r2 r3
    exact W.ret ⟨⟨⟨hr.s_, by (try simp only); omega, hr.hi, hr.nd⟩, fun _ => hr.got trivial⟩, by (try simp only); omega⟩
   | inr o =>
    obtain ⟨x42, x43, x44, x45, x46, x47, x48, x49, x50⟩ := o
    obtain ⟨rfl, f⟩ := ho
    exact W.ret ⟨f, kg⟩
 ·rintro o ho
  cases o with
  | inl o =>
   obtain ⟨x1, x2, x3, x4, x5, x6, x7, x8, x9, x10⟩ := o
   obtain ⟨f, fg⟩ := ho
   exact W.ret ⟨f.s_, f.lo, f.hi, f.nd, fg⟩
  | inr o =>
   obtain ⟨x1, x2, x3, x4, x5, x6, x7, x8, x9, x10⟩ := o
   obtain ⟨f, fg⟩ := ho
   exact W.ret ⟨f.s_, f.lo, f.hi, f.nd, fg⟩
theorem wnest_ok {s : List UInt8} {a : Int} {w : S_rex_walk} (h : Wk s a w) (kind : Int) (l : List Int) (hll : l.length ≤ 100000) (hg : l ≠ [] → Got w.full_ w.t_.Nodes) : W (M_rex_walk_nest_sPOIO w kind l) (R3 s w.at_ True) := by
 unfold M_rex_walk_nest_sPOIO
 rw [show ((l.length : Int) == 0) = decide (l.length = 0) from beqN l.length 0]
 refine W.iteP (fun _ => W.bind ((wadd_ok h _).mono ?_)) fun h0 => ?_
 ·rintro ⟨x1, x2, x3⟩ hr
  exact W.ret ⟨hr.s_, hr.lo, hr.hi, hr.nd, hr.got⟩
 have hg := hg (fun e => h0 (by rw [e]; rfl))
 rw [w64 (x := (l.length : Int) - 1) (by omega) (by omega), w64 (x := (l.length : Int) - 2) (by omega) (by omega), show (l.length : Int) - 1 = ((l.length - 1 : Nat) : Int) by omega, ixV_get (show l.length - 1 < l.length by omega), Option.bind_some]
 let Q : (List UInt8) × Int × Bool × Int × Int × Int × Int × Bool × (List S_tree_Node) × Int → Prop := fun (x1, x2, x3, x4, x5, x6, x7, x8, x9, x10) => Wk s w.at_ ⟨x1, x2, x3, ⟨x9, x4⟩, x5, x6, x7, x8⟩ ∧ Got x8 x9
 refine W.bind (W.mono (W.loop (fun (x5, x6, x7, x8, x9, x10, x11, x12, x13, x14, x15) => Q (x5, x6, x7, x8, x9, x10, x11, x12, x13, x14) ∧ -1 ≤ x15 ∧ x15 < l.length) (fun x => (x.2.2.2.2.2.2.2.2.2.2 + 1).toNat) ⟨⟨⟨h.s_, Int.le_refl _, h.hi, h.nd⟩, hg⟩, by omega, by omega⟩ ?_ (Q := Q)) ?_)
 ·rintro ⟨x5, x6, x7, x8, x9, x10, x11, x12, x13, x14, x15⟩ ⟨⟨k, kg⟩, k1, k2⟩
  unfold M_rex_walk_nest_sPOIO_L0
  refine W.iteP (fun hge => ?_) fun _ => W.ret ⟨k, kg⟩
  obtain ⟨q, hq⟩ := Int.eq_ofNat_of_zero_le hge
  subst hq
  rw [ixV_get (show q < l.length by omega), Option.bind_some]
  refine W.bind ((wadd_ok k _).mono ?_)
  rintro ⟨x27, x28, x29⟩ hr
  have r1 := hr.lo
  have r3 := k.lo
  simp only at r1 r3
  refine W.ret ⟨⟨⟨⟨hr.s_, by (try simp only); omega, hr.hi, hr.nd⟩, hr.got trivial⟩, ?_, ?_⟩, ?_⟩ <;> (try simp only) <;> rw [w64 (by omega) (by omega)] <;> omega
 ·rintro ⟨x1, x2, x3, x4, x5, x6, x7, x8, x9, x10⟩ ⟨f, fg⟩
  exact W.ret ⟨f.s_, f.lo, f.hi, f.nd, fun _ => fg⟩
theorem wescaped_ok {s : List UInt8} (hl : s.length ≤ 8192) {a : Int} (ha : 0 ≤ a) {w : S_rex_walk} (h : Wk s a w) (hlt : w.at_ < s.length) {g : Prop} (hg : g → Got w.full_ w.t_.Nodes) : W (M_rex_walk_escaped_sPO w) fun r => R3 s w.at_ g r ∧ (r.2.1.at_ = w.at_ ∨ Got r.2.1.full_ r.2.2) := by
 have h1 := h.lo
 unfold M_rex_walk_escaped_sPO
 refine W.any (W.ite (fun _ => W.need (by simp) (W.ret trivial)) fun _ => W.ret trivial) fun x1 => ?_
 rw [h.s_, w64 (x := w.at_ + 1) (by omega) (by omega), w64 (x := w.at_ + 2) (by omega) (by omega), w64 (x := w.at_ + 2 - 1) (by omega) (by omega), show w.at_ + 2 - 1 = w.at_ + 1 by omega]
 refine W.bind (W.mono (Q := fun b => b = false → w.at_ + 1 < s.length) ?_ fun x2 h2 => W.ite (fun _ => W.bind ((wfail_ok w w.at_).mono ?_)) fun e => ?_)
 ·rw [iteB_beq]
  split
  ·exact W.ret fun e => by cases e
  ·obtain ⟨v, hv, hr⟩ := ixS_ok (s := s) (i := w.at_ + 1) ⟨by omega, by omega⟩
   rw [hv, Option.bind_some]
   unfold M_strings_IndexByte M_stringslite_IndexByte X_IndexByte
   rw [if_pos hr]
   exact W.bind (W.ret (W.ret fun _ => by omega))
 ·rintro _ ⟨q, rfl⟩
  exact W.ret ⟨⟨h.s_, Int.le_refl _, h.hi, h.nd, hg⟩, .inl rfl⟩
 ·have h2 := h2 e
  obtain ⟨v, hv, hr⟩ := ixS_ok (s := s) (i := w.at_ + 1) ⟨by omega, by omega⟩
  rw [hv, Option.bind_some]
  have hk : Wk s w.at_ ⟨s, w.at_ + 2, w.extended_, w.t_, w.groups_, w.depth_, w.wrong_, w.full_⟩ := ⟨rfl, by (try simp only); omega, by (try simp only); omega, h.nd⟩
  refine W.bind ((wone_ok hk hr).mono ?_)
  rintro ⟨x7, x8, x9⟩ hr
  have r1 := hr.lo
  simp only at r1
  exact W.ret ⟨⟨hr.s_, by (try simp only); omega, hr.hi, hr.nd, fun _ => hr.got trivial⟩, .inr (hr.got trivial)⟩
def AtomOk (s : List UInt8) (S : SC_rex_walk_group_sPO) (k : Nat) : Prop := ∀ (w : S_rex_walk) (g : Prop), Wk s 0 w → w.at_ < s.length → s.length - w.at_.toNat ≤ k → (g → Got w.full_ w.t_.Nodes) → W (S.M_rex_walk_atom_sPO w) fun r => R3 s w.at_ g r ∧ (r.2.1.at_ = w.at_ ∨ Got r.2.1.full_ r.2.2)
def BranchOk (s : List UInt8) (S : SC_rex_walk_group_sPO) (k : Nat) : Prop := ∀ w : S_rex_walk, Wk s 0 w → s.length - w.at_.toNat ≤ k → W (S.M_rex_walk_branch_sPO w) (R3 s w.at_ True)
def ExprOk (s : List UInt8) (S : SC_rex_walk_group_sPO) (k : Nat) : Prop := ∀ w : S_rex_walk, Wk s 0 w → s.length - w.at_.toNat ≤ k → W (S.M_rex_walk_expression_sPO w) (R3 s w.at_ True)
def GroupOk (s : List UInt8) (S : SC_rex_walk_group_sPO) (k : Nat) : Prop := ∀ w : S_rex_walk, Wk s 0 w → s.length - w.at_.toNat ≤ k → W (S.M_rex_walk_group_sPO w) (R3 s w.at_ True)
theorem watom_ok {s : List UInt8} (hl : s.length ≤ 8192) {S : SC_rex_walk_group_sPO} {k : Nat} (G : ∀ q, q < k → GroupOk s S q) (w : S_rex_walk) (g : Prop) (h : Wk s 0 w) (hlt : w.at_ < s.length) (hk : s.length - w.at_.toNat ≤ k) (hg : g → Got w.full_ w.t_.Nodes) : W (B_rex_walk_atom_sPO S w) fun r => R3 s w.at_ g r ∧ (r.2.1.at_ = w.at_ ∨ Got r.2.1.full_ r.2.2) := by
 have h0 := h.lo
 have hs := h.s_
 subst hs
 have same : ∀ {q x1 : Int}, R3 w.s_ w.at_ g (x1, (⟨w.s_, w.at_, w.extended_, ⟨w.t_.Nodes, w.t_.Root⟩, w.groups_, w.depth_, q, w.full_⟩ : S_rex_walk), w.t_.Nodes) := ⟨h.s_, Int.le_refl _, h.hi, h.nd, hg⟩
 have fin : ∀ {x1 : Int} {x2 : S_rex_walk} {x3 : List S_tree_Node} {b : Int}, w.at_ ≤ b → R3 w.s_ b True (x1, x2, x3) → R3 w.s_ w.at_ g (x1, (⟨x2.s_, x2.at_, x2.extended_, ⟨x3, x2.t_.Root⟩, x2.groups_, x2.depth_, x2.wrong_, x2.full_⟩ : S_rex_walk), x3) ∧ (x2.at_ = w.at_ ∨ Got x2.full_ x3) := fun hb hr => ⟨⟨hr.s_, Int.le_trans hb hr.lo, hr.hi, hr.nd, fun _ => hr.got trivial⟩, .inr (hr.got trivial)⟩
 have one : Wk w.s_ 0 (w.go (IntKind.i64.wrap (w.at_ + 1))) ∧ w.at_ ≤ (w.go (IntKind.i64.wrap (w.at_ + 1))).at_ := by
  rw [w64 (x := w.at_ + 1) (by (try simp only); omega) (by (try simp only); omega)]
  exact ⟨h.go (by (try simp only); omega) (by (try simp only); omega), by (try simp only); omega⟩
 have add1 : ∀ n, W ((M_rex_walk_add_sPOR (w.go (IntKind.i64.wrap (w.at_ + 1))) n).bind fun (x10, x11, x12) => some (x10, (⟨x11.s_, x11.at_, x11.extended_, (⟨x12, x11.t_.Root⟩ : S_tree_Tree), x11.groups_, x11.depth_, x11.wrong_, x11.full_⟩ : S_rex_walk), x12)) fun r => R3 w.s_ w.at_ g r ∧ (r.2.1.at_ = w.at_ ∨ Got r.2.1.full_ r.2.2) := by
  intro n
  refine W.bind ((wadd_ok one.1 n).mono ?_)
  rintro ⟨x10, x11, x12⟩ hr
  exact W.ret (fin one.2 hr)
 unfold B_rex_walk_atom_sPO
 obtain ⟨v, hv, hr⟩ := ixS_ok (s := w.s_) (i := w.at_) ⟨h0, hlt⟩
 rw [hv, Option.bind_some]
 refine W.ite (fun _ => ?_) fun _ => W.ite (fun _ => ?_) fun _ => ?_
 ·refine W.bind ((bracket_ok hl ⟨h0, hlt⟩ false).mono ?_)
  rintro ⟨x2, x3, x4⟩ hb
  simp only at hb ⊢
  rw [iteB_bne]
  split
  ·rename_i e
   obtain ⟨b1, b2⟩ := hb e
   have hk3 : Wk w.s_ x3 ⟨w.s_, x3, w.extended_, w.t_, w.groups_, w.depth_, w.wrong_, w.full_⟩ := ⟨rfl, Int.le_refl _, b2, h.nd⟩
   refine W.bind ((wadd_ok hk3 _).mono ?_)
   rintro ⟨x6, x7, x8⟩ hr
   exact W.ret (fin (b := x3) (by (try simp only); omega) hr)
  ·refine W.bind ((wfail_ok w w.at_).mono ?_)
   rintro _ ⟨q, rfl⟩
   exact W.ret ⟨same, .inl rfl⟩
 ·exact W.any all_ok fun x9 => add1 _
 ·refine W.any (W.ite (fun _ => W.any (W.ite (fun _ => W.ret trivial) fun _ => W.any (wback_ok hl (Int.le_refl _) h hlt) fun _ => W.ret trivial) fun _ => W.ret trivial) fun _ => W.ret trivial) fun x13 => ?_
  refine W.ite (fun _ => add1 _) fun _ => W.ite (fun _ => add1 _) fun _ => ?_
  refine W.bind ((wnext_ok hl (Int.le_refl _) h [40] (by simp)).mono ?_)
  rintro ⟨b, y⟩ hr
  rcases hr with ⟨e1, e2⟩ | ⟨e1, i, e2, g1, g2⟩ <;> simp only at e1 e2 <;> subst e1 <;> subst e2
  ·simp only [iteB_false]
   have h' : Wk y.s_ 0 ⟨y.s_, y.at_, y.extended_, ⟨y.t_.Nodes, y.t_.Root⟩, y.groups_, y.depth_, y.wrong_, y.full_⟩ := h
   refine W.ite (fun _ => W.bind ((wescaped_ok hl (Int.le_refl _) h' hlt hg).mono ?_)) fun _ => ?_
   ·rintro ⟨x27, x28, x29⟩ ⟨r1, r2⟩
    exact W.ret ⟨⟨r1.s_, r1.lo, r1.hi, r1.nd, r1.got⟩, r2⟩
   ·refine W.bind (W.mono (Q := fun _ => True) (W.ite (fun _ => W.bind (W.mono (Q := fun _ => True) ?_ ?_)) fun _ => W.ret trivial) ?_)
    ·refine W.any (W.ite (fun _ => W.ret trivial) fun _ => W.ret trivial) fun _ => W.ite (fun _ => W.ret trivial) fun _ => W.any (W.ite (fun _ => W.ret trivial) fun _ => W.ret trivial) fun _ => W.ite (fun _ => W.ret trivial) fun _ => W.any (W.ite (fun _ => W.ret trivial) fun _ => W.ret trivial) fun _ => W.ite (fun _ => W.ret trivial) fun _ => W.ret trivial
    ·rintro o _
     cases o with
     | inl _ => exact W.ret trivial
     | inr _ => exact W.ret trivial
    ·rintro o _
     cases o with
     | inl _ =>
      simp only []
      refine W.bind ((wone_ok one.1 hr).mono ?_)
      rintro ⟨x34, x35, x36⟩ hr
      exact W.ret (fin one.2 hr)
     | inr x => exact W.ret ⟨same, .inl rfl⟩
  ·simp only [List.length_cons, List.length_nil] at g1
   simp only [iteB_true]
   refine W.bind ((G (w.s_.length - i.toNat) (by (try simp only); omega) (w.go i) (h.go (by (try simp only); omega) g2) (by (try simp only); omega)).mono ?_)
   rintro ⟨x24, x25, x26⟩ hr
   exact W.ret (fin (b := i) (by (try simp only); omega) hr)
theorem wbranch_ok {s : List UInt8} (hl : s.length ≤ 8192) {S : SC_rex_walk_group_sPO} {k : Nat} (A : AtomOk s S k) (w : S_rex_walk) (h : Wk s 0 w) (hk : s.length - w.at_.toNat ≤ k) : W (B_rex_walk_branch_sPO S w) (R3 s w.at_ True) := by
 have h0 := h.lo
 unfold B_rex_walk_branch_sPO
 let Q : (List Int) × (List UInt8) × Int × Bool × Int × Int × Int × Int × Bool × (List S_tree_Node) → Prop := fun (l, x1, x2, x3, x4, x5, x6, x7, x8, x9) => Wk s w.at_ ⟨x1, x2, x3, ⟨x9, x4⟩, x5, x6, x7, x8⟩ ∧ (l ≠ [] → Got x8 x9) ∧ (l.length : Int) ≤ x2
 refine W.bind (W.mono (W.loop (fun (l, x1, x2, x3, x4, x5, x6, x7, x8, x9, _) => Q (l, x1, x2, x3, x4, x5, x6, x7, x8, x9)) (fun x => (s.length - x.2.2.1).toNat) ⟨⟨h.s_, Int.le_refl _, h.hi, h.nd⟩, fun e => absurd rfl e, h0⟩ ?_ (Q := Q)) ?_)
 ·rintro ⟨l, x2, x3, x4, x5, x6, x7, x8, x9, x10, x11⟩ ⟨f, fg, fl⟩
  have f1 := f.lo
  have f2 := f.hi
  have f0 : x2 = s := f.s_
  subst f0
  simp only at f1 f2
  have fw : Wk x2 0 ⟨x2, x3, x4, ⟨x10, x5⟩, x6, x7, x8, x9⟩ := ⟨rfl, by (try simp only); omega, f2, f.nd⟩
  unfold M_rex_walk_branch_sPO_L0
  refine W.bind (W.ret (W.bind (W.mono (Q := fun b => b = true → x3 < x2.length) (W.ite (fun _ => W.bind ((wcloses_ok hl (Int.le_refl _) fw).mono fun b hb => W.ret fun e => hb (by simpa using e))) fun _ => W.ret fun e => by cases e) fun x23 h23 => W.ite (fun e23 => ?_) fun _ => W.ret ⟨f, fg, fl⟩)))
  have hlt := h23 e23
  obtain ⟨v, hv, hr⟩ := ixS_ok (s := x2) (i := x3) ⟨by omega, hlt⟩
  have w1 : IntKind.i64.wrap (x3 + 1) = x3 + 1 := w64 (by (try simp only); omega) (by (try simp only); omega)
  rw [hv, w1]
  have one : Wk x2 w.at_ ⟨x2, x3 + 1, x4, ⟨x10, x5⟩, x6, x7, x8, x9⟩ := ⟨rfl, by (try simp only); omega, by (try simp only); omega, f.nd⟩
  have put : ∀ {x30 : Int} {x31 : S_rex_walk} {x32 : List S_tree_Node} {b : Bool} {c : Int} {P : ((List Int) × (List UInt8) × Int × Bool × Int × Int × Int × Int × Bool × (List S_tree_Node) × Bool) ⊕ ((List Int) × (List UInt8) × Int × Bool × Int × Int × Int × Int × Bool × (List S_tree_Node)) → Prop}, x3 < c → R3 x2 c True (x30, x31, x32) → (∀ l' y2 y3 y4 y5 y6 y7 y8 y9 y10 b', Q (l', y2, y3, y4, y5, y6, y7, y8, y9, y10) → (x2.length - y3).toNat < (x2.length - x3).toNat → P (.inl (l', y2, y3, y4, y5, y6, y7, y8, y9, y10, b'))) → W (need (okN 8 (l.length + ([x30] : List Int).length)) <| some (Sum.inl ((l ++ ([x30] : List Int)), x31.s_, x31.at_, x31.extended_, x31.t_.Root, x31.groups_, x31.depth_, x31.wrong_, x31.full_, x32, b))) P := by
   intro x30 x31 x32 b c P hc hr hP
   have r1 := hr.lo
   have r2 := hr.hi
   simp only at r1 r2
   refine W.need (okN_of (by simp; omega) (by simp; omega)) (W.ret (hP _ _ _ _ _ _ _ _ _ _ _ ⟨⟨hr.s_, by (try simp only); omega, hr.hi, hr.nd⟩, fun _ => hr.got trivial, ?_⟩ ?_))
   ·simp only [List.length_append, List.length_singleton]; omega
   ·omega
  refine W.any (W.ite (fun _ => W.bind (W.ret (W.ret trivial))) fun _ => W.ret trivial) fun x25 => W.ite (fun _ => ?_) fun _ => ?_
  ·refine W.bind ((wone_ok one (by decide)).mono ?_)
   rintro ⟨x27, x28, x29⟩ hr
   have r1 := hr.lo
   simp only at r1
   refine W.bind ((wrepeats_ok hl (by (try simp only); omega) hr.wk (g := True) (fun _ => hr.got trivial) x27).mono ?_)
   rintro ⟨x30, x31, x32⟩ hr2
   exact put (by (try simp only); omega) hr2 fun _ _ _ _ _ _ _ _ _ _ _ p q => ⟨p, q⟩
  refine W.any (W.ite (fun _ => W.bind (W.ret (W.ret trivial))) fun _ => W.ret trivial) fun x33 => W.ite (fun _ => ?_) fun _ => ?_
  ·refine W.bind ((wadd_ok one _).mono ?_)
   rintro ⟨x35, x36, x37⟩ hr
   exact put (by (try simp only); omega) hr fun _ _ _ _ _ _ _ _ _ _ _ p q => ⟨p, q⟩
  refine W.bind ((A _ (l ≠ []) fw hlt (by (try simp only); omega) fg).mono ?_)
  rintro ⟨x38, x39, x40⟩ ⟨r1, r2⟩
  have q1 := r1.lo
  have q2 := r1.hi
  simp only at q1 q2 r2
  refine W.bind (W.ret (W.ite (fun _ => W.ret ⟨⟨r1.s_, by (try simp only); omega, r1.hi, r1.nd⟩, r1.got, by (try simp only); omega⟩) fun _ => ?_))
  simp only [iteB_beq]
  split
  ·refine W.bind ((wfail_ok _ _).mono ?_)
   rintro _ ⟨q, rfl⟩
   exact W.ret ⟨⟨r1.s_, by (try simp only); omega, r1.hi, r1.nd⟩, r1.got, by (try simp only); omega⟩
  ·rename_i hne
   refine W.bind ((wrepeats_ok hl (by (try simp only); omega) r1.wk (g := True) (fun _ => r2.resolve_left hne) x38).mono ?_)
   rintro ⟨x43, x44, x45⟩ hr2
   exact put (by (try simp only); omega) hr2 fun _ _ _ _ _ _ _ _ _ _ _ p q => ⟨p, q⟩
 ·rintro ⟨l, x2, x3, x4, x5, x6, x7, x8, x9, x10⟩ ⟨f, fg, fl⟩
  have f1 := f.lo
  have f2 := f.hi
  simp only at f1 f2
  refine W.bind ((wnest_ok f 2 l (by (try simp only); omega) fg).mono ?_)
  rintro ⟨x46, x47, x48⟩ hr
  have r1 := hr.lo
  simp only at r1
  exact W.ret ⟨hr.s_, by (try simp only); omega, hr.hi, hr.nd, hr.got⟩
theorem wexpr_ok {s : List UInt8} (hl : s.length ≤ 8192) {S : SC_rex_walk_group_sPO} {k : Nat} (B : BranchOk s S k) (w : S_rex_walk) (h : Wk s 0 w) (hk : s.length - w.at_.toNat ≤ k) : W (B_rex_walk_expression_sPO S w) (R3 s w.at_ True) := by
 have h0 := h.lo
 unfold B_rex_walk_expression_sPO
 refine W.bind (W.mono (W.loop (fun (l, x1, x2, x3, x4, x5, x6, x7, x8, x9) => Wk s w.at_ ⟨x1, x2, x3, ⟨x9, x4⟩, x5, x6, x7, x8⟩ ∧ (l.length : Int) ≤ x2) (fun x => (s.length - x.2.2.1).toNat) ⟨⟨h.s_, Int.le_refl _, h.hi, h.nd⟩, h0⟩ ?_ (Q := fun (l, x1, x2, x3, x4, x5, x6, x7, x8, x9) => Wk s w.at_ ⟨x1, x2, x3, ⟨x9, x4⟩, x5, x6, x7, x8⟩ ∧ l.length ≤ 10000 ∧ Got x8 x9)) ?_)
 ·rintro ⟨l, x2, x3, x4, x5, x6, x7, x8, x9, x10⟩ ⟨f, fl⟩
  have f1 := f.lo
  have f2 := f.hi
  simp only at f1 f2
  have fw : Wk s 0 ⟨x2, x3, x4, ⟨x10, x5⟩, x6, x7, x8, x9⟩ := ⟨f.s_, by (try simp only); omega, f2, f.nd⟩
  unfold M_rex_walk_expression_sPO_L0
  refine W.bind ((B _ fw (by (try simp only); omega)).mono ?_)
  rintro ⟨x21, x22, x23⟩ hr
  have r1 := hr.lo
  have r2 := hr.hi
  simp only at r1 r2
  have hgot : Got x22.full_ x23 := hr.got trivial
  refine W.need (okN_of (by simp; omega) (by simp; omega)) (W.bind (W.ret (W.bind (W.mono (Q := fun (x25, x26, x27, x28, x29, x30, x31, x32, x33) => Wk s w.at_ ⟨x25, x26, x27, ⟨x23, x28⟩, x29, x30, x31, x32⟩ ∧ Got x32 x23 ∧ (x33 = false → x3 < x26)) (W.ite (fun _ => W.ret ⟨⟨hr.s_, by (try simp only); omega, hr.hi, hr.nd⟩, hgot, fun e => absurd e (by simp)⟩) fun _ => ?_) ?_))))
  ·refine W.bind ((wnext_ok hl (by (try simp only); omega) hr.wk [124] (by simp)).mono ?_)
   rintro ⟨b, y⟩ hr2
   rcases hr2 with ⟨e1, e2⟩ | ⟨e1, i, e2, g1, g2⟩ <;> simp only at e1 e2 <;> subst e1 <;> subst e2
   ·exact W.ret ⟨⟨hr.s_, by (try simp only); omega, hr.hi, hr.nd⟩, hgot, fun e => absurd e (by simp)⟩
   ·simp only [List.length_cons, List.length_nil] at g1
    exact W.ret ⟨⟨hr.s_, by (try simp only); omega, g2, hr.nd⟩, hgot, fun _ => by (try simp only); omega⟩
  ·rintro ⟨x25, x26, x27, x28, x29, x30, x31, x32, x33⟩ ⟨g1, g2, g3⟩
   have c1 := g1.lo
   have c2 := g1.hi
   simp only at c1 c2
   refine W.ite (fun _ => W.ret ⟨g1, by simp; omega, g2⟩) fun e => W.ret ⟨⟨g1, ?_⟩, ?_⟩
   ·have := g3 e
    simp only [List.length_append, List.length_singleton]; omega
   ·have := g3 e
    simp only; omega
 ·rintro ⟨l, x2, x3, x4, x5, x6, x7, x8, x9, x10⟩ ⟨f, fl, fg⟩
  have f1 := f.lo
  simp only at f1
  refine W.bind ((wnest_ok f 3 l (by (try simp only); omega) (fun _ => fg)).mono ?_)
  rintro ⟨x36, x37, x38⟩ hr
  have r1 := hr.lo
  simp only at r1
  exact W.ret ⟨hr.s_, by (try simp only); omega, hr.hi, hr.nd, hr.got⟩
theorem wgroup_ok {s : List UInt8} (hl : s.length ≤ 8192) {S : SC_rex_walk_group_sPO} {k : Nat} (E : ExprOk s S k) (w : S_rex_walk) (h : Wk s 0 w) (hk : s.length - w.at_.toNat ≤ k) : W (B_rex_walk_group_sPO S w) (R3 s w.at_ True) := by
 have h0 := h.lo
 unfold B_rex_walk_group_sPO
 refine W.any (W.ite (fun _ => W.ret trivial) fun _ => W.ret trivial) fun x1 => ?_
 refine W.bind ((E ⟨w.s_, w.at_, w.extended_, w.t_, _, _, w.wrong_, x1⟩ ⟨h.s_, h.lo, h.hi, h.nd⟩ hk).mono ?_)
 rintro ⟨x2, x3, x4⟩ hr
 have r1 := hr.lo
 simp only at r1
 have e3 : Wk s w.at_ ⟨x3.s_, x3.at_, x3.extended_, ⟨x4, x3.t_.Root⟩, x3.groups_, IntKind.i64.wrap (x3.depth_ - 1), x3.wrong_, x3.full_⟩ := ⟨hr.s_, hr.lo, hr.hi, hr.nd⟩
 let Q : (List UInt8) × Int × Bool × Int × Int × Int × Int × Bool → Prop := fun (x1, x2, x3, x5, x6, x7, x8, x9) => Wk s w.at_ ⟨x1, x2, x3, ⟨x4, x5⟩, x6, x7, x8, x9⟩
 refine W.bind (W.mono (Q := Q) (W.bind (W.ret (W.bind (W.mono (Q := fun (x14, x15, x16, x17, x18, x19, x20, x21, x22) => Q (x14, x15, x16, x17, x18, x19, x20, x21)) (W.ite (fun _ => ?_) fun _ => W.ret e3) ?_)))) ?_)
 ·refine W.bind ((wnext_ok hl h0 e3 [41] (by simp)).mono ?_)
  rintro ⟨b, y⟩ hr2
  rcases hr2 with ⟨e1, e2⟩ | ⟨e1, i, e2, g1, g2⟩ <;> simp only at e1 e2 <;> subst e1 <;> subst e2
  ·exact W.ret e3
  ·simp only [List.length_cons, List.length_nil] at g1
   exact W.ret ⟨hr.s_, by (try simp only); omega, g2, hr.nd⟩
 ·rintro ⟨x14, x15, x16, x17, x18, x19, x20, x21, x22⟩ f
  refine W.ite (fun _ => W.bind ((wfail_ok _ _).mono ?_)) fun _ => W.ret f
  rintro _ ⟨q, rfl⟩
  exact W.ret ⟨f.s_, f.lo, f.hi, f.nd⟩
 ·rintro ⟨x5, x6, x7, x8, x9, x10, x11, x12⟩ f
  refine W.bind ((wadd_ok f _).mono ?_)
  rintro ⟨x26, x27, x28⟩ hr
  have r1 := hr.lo
  have r2 := f.lo
  simp only at r1 r2
  exact W.ret ⟨hr.s_, by (try simp only); omega, hr.hi, hr.nd, hr.got⟩
theorem wring_ok {s : List UInt8} (hl : s.length ≤ 8192) : ∀ (k n : Nat), 4 * k + 4 ≤ n → GroupOk s (rSC_rex_walk_group_sPO n) k ∧ ExprOk s (rSC_rex_walk_group_sPO n) k := by
 intro k
 induction k using Nat.strongRecOn with
 | ind k ih =>
  have atom : ∀ n, 4 * k + 1 ≤ n → AtomOk s (rSC_rex_walk_group_sPO n) k := by
   intro n hn
   obtain ⟨m, rfl⟩ : ∃ m, n = m + 1 := ⟨n - 1, by omega⟩
   exact fun w g h1 h2 h3 h4 => watom_ok hl (fun q hq => (ih q hq m (by (try simp only); omega)).1) w g h1 h2 h3 h4
  have branch : ∀ n, 4 * k + 2 ≤ n → BranchOk s (rSC_rex_walk_group_sPO n) k := by
   intro n hn
   obtain ⟨m, rfl⟩ : ∃ m, n = m + 1 := ⟨n - 1, by omega⟩
   exact fun w h1 h2 => wbranch_ok hl (atom m (by (try simp only); omega)) w h1 h2
  have expr : ∀ n, 4 * k + 3 ≤ n → ExprOk s (rSC_rex_walk_group_sPO n) k := by
   intro n hn
   obtain ⟨m, rfl⟩ : ∃ m, n = m + 1 := ⟨n - 1, by omega⟩
   exact fun w h1 h2 => wexpr_ok hl (branch m (by (try simp only); omega)) w h1 h2
  intro n hn
  refine ⟨?_, expr n (by (try simp only); omega)⟩
  obtain ⟨m, rfl⟩ : ∃ m, n = m + 1 := ⟨n - 1, by omega⟩
  exact fun w h1 h2 => wgroup_ok hl (expr m (by (try simp only); omega)) w h1 h2
theorem right_of {nodes : List S_tree_Node} {root : Int} (h : NodesOk nodes root) (h0 : 0 < nodes.length) : M_tree_Tree_Right ⟨nodes, root⟩ = some true := by
 have hn := h.len
 have hr := h.root
 refine W.eq ?_
 unfold M_tree_Tree_Right
 refine W.ite (fun hb => ?_) fun _ => ?_
 ·simp only [Bool.or_eq_true, decide_eq_true_eq] at hb; omega
 refine W.bind (W.mono (W.list (l := nodes) (fun (_ : Unit) (i : Nat) => (i : Int)) (fun _ _ => True) ?_ ?_ () trivial (Q := fun o => o = .inl ())) fun o ho => by subst ho; exact W.ret rfl)
 ·intro _ _
  unfold M_tree_Tree_Right_L0
  exact W.iteP (fun h => by simp only at h; omega) fun _ => W.ret rfl
 ·intro _ i hi _
  unfold M_tree_Tree_Right_L0
  refine W.iteP (fun _ => ?_) fun h => by simp only at h; omega
  simp only []
  rw [ixV_get hi, Option.bind_some, h.ok i _ (List.getElem?_eq_getElem hi), Option.bind_some]
  exact W.ret ⟨(), ek64 (by (try simp only); omega), trivial⟩
theorem parse_ok (s : List UInt8) (e : Bool) : W (M_rex_Parse s e) fun r => r.2.2 = 0 → M_tree_Tree_Right r.1 = some true := by
 unfold M_rex_Parse
 refine W.iteP (fun _ => W.ret fun e => absurd e (by simp)) fun hl => ?_
 have hl : s.length ≤ 8192 := by omega
 have h0 : Wk s 0 ⟨s, 0, e, ⟨[], 0⟩, 0, 0, -1, false⟩ := ⟨rfl, Int.le_refl _, Int.natCast_nonneg _, fun i n hn => by simp at hn, by simp, by simp⟩
 refine W.bind (((wring_ok hl s.length bigF (by rw [bigF_eq]; omega)).2 _ h0 (by simp)).mono ?_)
 rintro ⟨x1, x2, x3⟩ hr
 refine W.bind (W.mono (Q := fun x => x.2.2.2.1 = x2.t_.Root ∧ x.2.2.2.2.2.2.2 = x2.full_) (W.bind (W.ret (W.ite (fun _ => W.bind ((wfail_ok _ _).mono ?_)) fun _ => W.ret ⟨rfl, rfl⟩))) ?_)
 ·rintro _ ⟨q, rfl⟩
  exact W.ret ⟨rfl, rfl⟩
 ·rintro ⟨x4, x5, x6, x7, x8, x9, x10, x11⟩ ⟨e1, e2⟩
  simp only at e1 e2
  subst e1 e2
  refine W.bind (W.ret (W.ite (fun _ => W.ret fun e => absurd e (by simp)) fun _ => W.ite (fun _ => W.ret fun e => absurd e (by simp)) fun hf => W.ret fun _ => ?_))
  exact right_of hr.nd ((hr.got trivial).resolve_left (by simp [hf]))
end Go.Av.L
