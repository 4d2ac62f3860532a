/-
  Rex: sets and brackets are told.
-/
import Derived.Test.YtiodcbipjnmpgaaDfaA
namespace Go.Av.L
open Go.Av Go.Lib
set_option linter.unusedVariables false
set_option linter.unusedSimpArgs false
theorem W.top {α : Type} {m : Option α} {Q : α → Prop} (w : W m Q) : W m fun _ => True := w.mono fun _ _ => trivial
theorem W.any {α β : Type} {m : Option α} {k : α → Option β} {Q : β → Prop} (w : W m fun _ => True) (h : ∀ x, W (k x) Q) : W (m.bind k) Q := W.bind (w.mono fun x _ => h x)
theorem ix4 (a b c d : Int) {k : Nat} (h : k < 4) : ∃ v, ixV ([a, b, c, d] : List Int) (k : Int) = some v := ⟨_, ixV_get (by simpa using h)⟩
theorem setAdd_ok (s : A4_uint64) {b : Int} (h0 : 0 ≤ b) (h1 : b ≤ 255) : W (M_class_Set_add s b) fun _ => True := by
 obtain ⟨n, rfl⟩ := Int.eq_ofNat_of_zero_le h0
 obtain ⟨e1, e2, e3⟩ := shr6_val ⟨n, by omega⟩
 simp only at e1 e2 e3
 unfold M_class_Set_add
 obtain ⟨k, hk⟩ := Int.eq_ofNat_of_zero_le e1
 rw [hk] at e2 ⊢
 obtain ⟨v, hv⟩ := ix4 s.w0 s.w1 s.w2 s.w3 (k := k) (by omega)
 rw [hv, Option.bind_some, decide_eq_true e3, need_true]
 exact W.ret trivial
theorem range_ok {a b : Int} (ha : 0 ≤ a ∧ a ≤ 255) (hb : 0 ≤ b ∧ b ≤ 255) : W (M_class_Range a b) fun _ => True := by
 unfold M_class_Range
 rw [w64 (x := a) (by omega) (by omega)]
 refine W.bind (W.mono (W.loop (fun s => 0 ≤ s.2.2.2.2 ∧ s.2.2.2.2 ≤ 256) (fun s => (256 - s.2.2.2.2).toNat) ⟨by simp only; omega, by simp only; omega⟩ ?_ (Q := fun _ => True)) fun r _ => W.ret trivial)
 rintro ⟨x1, x2, x3, x4, x5⟩ ⟨h1, h2⟩
 simp only at h1 h2
 unfold M_class_Range_L0
 rw [w64 (x := b) (by omega) (by omega)]
 refine W.iteP (fun hl => ?_) fun _ => W.ret trivial
 rw [wu8 (x := x5) (by omega) (by omega)]
 refine W.any (setAdd_ok _ (by omega) (by omega)) fun x => W.ret ?_
 simp only; rw [w64 (by omega) (by omega)]
 omega
theorem or_ok (a b : A4_uint64) : W (M_class_Set_Or a b) fun _ => True := by
 unfold M_class_Set_Or
 refine W.bind (W.mono (W.loop (fun s => ∃ k : Nat, s.2.2.2.2 = (k : Int) ∧ k ≤ 4) (fun s => (4 - s.2.2.2.2).toNat) ⟨0, rfl, by omega⟩ ?_ (Q := fun _ => True)) fun r _ => W.ret trivial)
 rintro ⟨x1, x2, x3, x4, x5⟩ ⟨k, hk, h2⟩
 simp only at hk
 subst hk
 unfold M_class_Set_Or_L0
 refine W.iteP (fun hl => ?_) fun _ => W.ret trivial
 obtain ⟨v, hv⟩ := ix4 x1 x2 x3 x4 (k := k) (by omega)
 obtain ⟨u, hu⟩ := ix4 b.w0 b.w1 b.w2 b.w3 (k := k) (by omega)
 rw [hv, Option.bind_some, hu, Option.bind_some]
 exact W.ret ⟨⟨k + 1, ek64 (by omega), by omega⟩, by simp only; rw [ek64 (by omega)]; omega⟩
theorem and_ok (a b : A4_uint64) : W (M_class_Set_And a b) fun _ => True := by
 unfold M_class_Set_And
 refine W.bind (W.mono (W.loop (fun s => ∃ k : Nat, s.2.2.2.2 = (k : Int) ∧ k ≤ 4) (fun s => (4 - s.2.2.2.2).toNat) ⟨0, rfl, by omega⟩ ?_ (Q := fun _ => True)) fun r _ => W.ret trivial)
 rintro ⟨x1, x2, x3, x4, x5⟩ ⟨k, hk, h2⟩
 simp only at hk
 subst hk
 unfold M_class_Set_And_L0
 refine W.iteP (fun hl => ?_) fun _ => W.ret trivial
 obtain ⟨v, hv⟩ := ix4 x1 x2 x3 x4 (k := k) (by omega)
 obtain ⟨u, hu⟩ := ix4 b.w0 b.w1 b.w2 b.w3 (k := k) (by omega)
 rw [hv, Option.bind_some, hu, Option.bind_some]
 exact W.ret ⟨⟨k + 1, ek64 (by omega), by omega⟩, by simp only; rw [ek64 (by omega)]; omega⟩
theorem not_ok (a : A4_uint64) : W (M_class_Set_Not a) fun _ => True := by
 unfold M_class_Set_Not
 refine W.bind (W.mono (W.loop (fun s => ∃ k : Nat, s.2.2.2.2 = (k : Int) ∧ k ≤ 4) (fun s => (4 - s.2.2.2.2).toNat) ⟨0, rfl, by omega⟩ ?_ (Q := fun _ => True)) fun r _ => W.ret trivial)
 rintro ⟨x1, x2, x3, x4, x5⟩ ⟨k, hk, h2⟩
 simp only at hk
 subst hk
 unfold M_class_Set_Not_L0
 refine W.iteP (fun hl => ?_) fun _ => W.ret trivial
 obtain ⟨v, hv⟩ := ix4 x1 x2 x3 x4 (k := k) (by omega)
 rw [hv, Option.bind_some]
 exact W.ret ⟨⟨k + 1, ek64 (by omega), by omega⟩, by simp only; rw [ek64 (by omega)]; omega⟩
theorem all_ok : W M_class_All fun _ => True := by
 unfold M_class_All
 exact W.any (not_ok _) fun _ => W.ret trivial
theorem of_ok (s : List UInt8) (hn : s.length ≤ 1073741824) : W (M_class_Of s) fun _ => True := by
 unfold M_class_Of
 refine W.bind (W.mono (W.list (l := s) (fun (x : Int × Int × Int × Int) (i : Nat) => (x.1, x.2.1, x.2.2.1, x.2.2.2, (i : Int))) (fun _ _ => True) ?_ ?_ (0, 0, 0, 0) trivial (Q := fun _ => True)) fun r _ => W.ret trivial)
 ·rintro ⟨x1, x2, x3, x4⟩ _
  unfold M_class_Of_L0
  exact W.iteP (fun h => by omega) fun _ => W.ret trivial
 ·rintro ⟨x1, x2, x3, x4⟩ i hi _
  unfold M_class_Of_L0
  refine W.iteP (fun _ => ?_) fun h => by omega
  rw [ixS_get hi, Option.bind_some]
  have := byte_lt s[i]
  refine W.any (setAdd_ok _ (by omega) (by omega)) fun x => W.ret ⟨(x.w0, x.w1, x.w2, x.w3), by rw [ek64 (by omega)], trivial⟩
theorem named_ok (s : List UInt8) : W (M_class_Named s) fun _ => True := by
 have r : ∀ a b : Int, (0 ≤ a ∧ a ≤ 255) ∧ (0 ≤ b ∧ b ≤ 255) → W (M_class_Range a b) fun _ => True := fun a b h => range_ok h.1 h.2
 unfold M_class_Named
 refine W.any (r _ _ (by decide)) fun _ => W.any (r _ _ (by decide)) fun _ => W.any (r _ _ (by decide)) fun _ => W.any (or_ok _ _) fun _ => W.any (or_ok _ _) fun _ => ?_
 refine W.ite (fun _ => W.any (or_ok _ _) fun _ => W.ret trivial) fun _ => W.ite (fun _ => W.ret trivial) fun _ => W.ite (fun _ => W.ret trivial) fun _ => W.ite (fun _ => W.ret trivial) fun _ => W.ite (fun _ => W.ret trivial) fun _ => ?_
 refine W.ite (fun _ => W.any (r _ _ (by decide)) fun _ => W.any (or_ok _ _) fun _ => W.any (r _ _ (by decide)) fun _ => W.any (or_ok _ _) fun _ => W.ret trivial) fun _ => ?_
 refine W.ite (fun _ => W.any (of_ok _ (by simp)) fun _ => W.ret trivial) fun _ => ?_
 refine W.ite (fun _ => W.any (r _ _ (by decide)) fun _ => W.any (of_ok _ (by simp)) fun _ => W.any (or_ok _ _) fun _ => W.ret trivial) fun _ => ?_
 refine W.ite (fun _ => W.any (r _ _ (by decide)) fun _ => W.any (of_ok _ (by simp)) fun _ => W.any (or_ok _ _) fun _ => W.ret trivial) fun _ => ?_
 refine W.ite (fun _ => W.any (r _ _ (by decide)) fun _ => W.ret trivial) fun _ => W.ite (fun _ => W.any (r _ _ (by decide)) fun _ => W.ret trivial) fun _ => ?_
 exact W.ite (fun _ => W.any (r _ _ (by decide)) fun _ => W.any (not_ok _) fun _ => W.any (and_ok _ _) fun _ => W.ret trivial) fun _ => W.ret trivial
theorem pre_ok (a b : List UInt8) : W (M_strings_HasPrefix a b) fun r => r = true → b.length ≤ a.length := by
 unfold M_strings_HasPrefix M_stringslite_HasPrefix
 refine W.bind (W.bind (W.mono (Q := fun r => r = true → b.length ≤ a.length) (W.iteP (fun h => ?_) fun h => W.ret fun e => by cases e) fun r hr => W.ret (W.ret hr)))
 rw [subS_hi (by omega), Option.bind_some]
 exact W.ret fun _ => by omega
theorem rest_ok {s : List UInt8} {i : Int} (h : 0 ≤ i ∧ i ≤ s.length) : subS s (some i) none = some (s.drop i.toNat) := by
 obtain ⟨k, rfl⟩ := Int.eq_ofNat_of_zero_le h.1
 rw [subS_lo (by omega), Int.toNat_natCast]
theorem ixS_ok {s : List UInt8} {i : Int} (h : 0 ≤ i ∧ i < s.length) : ∃ v : Int, ixS s i = some v ∧ 0 ≤ v ∧ v ≤ 255 := by
 obtain ⟨k, rfl⟩ := Int.eq_ofNat_of_zero_le h.1
 exact ⟨_, ixS_get (by omega), byte_lt _⟩
structure Sc (s : List UInt8) (a : Int) (x : S_bracket_scan) : Prop where
 s_ : x.s_ = s
 lo : a ≤ x.at_
 hi : x.at_ ≤ s.length
theorem scNext_ok {s : List UInt8} (hl : s.length ≤ 8192) {a : Int} (ha : 0 ≤ a) {x : S_bracket_scan} (h : Sc s a x) (p : List UInt8) : W (M_bracket_scan_next x p) fun r => (r.1 = true → Sc s (a + p.length) r.2) ∧ (r.1 = false → r.2 = x) := by
 have h1 := h.lo
 have h2 := h.hi
 unfold M_bracket_scan_next
 rw [h.s_, rest_ok ⟨by omega, h2⟩, Option.bind_some]
 refine W.bind ((pre_ok _ _).mono fun b hb => W.ite (fun e => W.ret ⟨fun h => Bool.noConfusion h, fun _ => rfl⟩) fun e => W.ret ⟨fun _ => ?_, fun h => by cases h⟩)
 have := hb (by simpa using e)
 rw [List.length_drop] at this
 exact ⟨rfl, by simp only; rw [w64 (by omega) (by omega)]; omega, by simp only; rw [w64 (by omega) (by omega)]; omega⟩
theorem scNext_any {s : List UInt8} (hl : s.length ≤ 8192) {a : Int} (ha : 0 ≤ a) {x : S_bracket_scan} (h : Sc s a x) (p : List UInt8) : W (M_bracket_scan_next x p) fun r => Sc s a r.2 ∧ (r.1 = true → Sc s (a + p.length) r.2) := by
 refine (scNext_ok hl ha h p).mono fun r hr => ?_
 obtain ⟨b, y⟩ := r
 cases b
 ·have : y = x := hr.2 rfl
  subst this
  exact ⟨h, fun e => by cases e⟩
 ·have := hr.1 rfl
  exact ⟨⟨this.s_, by have := this.lo; simp only at this ⊢; omega, this.hi⟩, fun _ => this⟩
theorem scClosed_ok {s : List UInt8} (hl : s.length ≤ 8192) {a : Int} (ha : 0 ≤ a) {x : S_bracket_scan} (h : Sc s a x) (p : List UInt8) : W (M_bracket_scan_closed x p) fun r => (0 ≤ r.1 ∧ r.1 ≤ 255) ∧ Sc s a r.2.2 := by
 have h1 := h.lo
 have h2 := h.hi
 unfold M_bracket_scan_closed
 rw [h.s_, w64 (x := x.at_ + 3) (by omega) (by omega), w64 (x := x.at_ + 1) (by omega) (by omega)]
 refine W.bind (W.mono (Q := fun b => b = true ∨ x.at_ + 3 ≤ s.length) (W.iteP (fun _ => W.ret (.inl rfl)) fun hlt => ?_) fun b hb => ?_)
 ·obtain ⟨k, hk⟩ := Int.eq_ofNat_of_zero_le (show 0 ≤ x.at_ by omega)
  rw [hk] at hlt ⊢
  rw [show (k : Int) + 1 = ((k + 1 : Nat) : Int) by omega, show (k : Int) + 3 = ((k + 3 : Nat) : Int) by omega, subS_both (by omega) (by omega), Option.bind_some]
  exact W.ret (.inr (by omega))
 ·refine W.ite (fun _ => W.ret ⟨⟨by simp, by simp⟩, h⟩) fun e => ?_
  have hb := hb.resolve_left (by rw [e]; decide)
  obtain ⟨v, hv, hr⟩ := ixS_ok (s := s) (i := x.at_) ⟨by omega, by omega⟩
  rw [hv, Option.bind_some]
  exact W.ret ⟨hr, rfl, by simp only; omega, by simp only; omega⟩
theorem scByte_ok {s : List UInt8} (hl : s.length ≤ 8192) {a : Int} (ha : 0 ≤ a) {x : S_bracket_scan} (h : Sc s a x) : W (M_bracket_scan_byte x) fun r => (0 ≤ r.1 ∧ r.1 ≤ 255) ∧ Sc s a r.2.2 ∧ (r.2.1 = true → Sc s (a + 1) r.2.2) := by
 unfold M_bracket_scan_byte
 refine W.bind ((scNext_any hl ha h _).mono ?_)
 rintro ⟨x1, x2⟩ ⟨g1, g2⟩
 refine W.ite (fun e => W.bind ((scClosed_ok hl (by simp only [List.length_cons, List.length_nil]; omega) (g2 e) _).mono ?_)) fun e => ?_
 ·rintro ⟨x3, x4, x5⟩ ⟨f1, f2⟩
  have := f2.lo
  simp only [List.length_cons, List.length_nil] at this f1
  exact W.ret ⟨f1, ⟨f2.s_, by simp only; omega, f2.hi⟩, fun _ => ⟨f2.s_, by simp only; omega, f2.hi⟩⟩
 ·refine W.bind (W.mono (Q := fun y => Sc s a ⟨y.1, y.2.1, y.2.2.1, ⟨y.2.2.2.1, y.2.2.2.2.1, y.2.2.2.2.2.1, y.2.2.2.2.2.2⟩⟩) (W.ite (fun _ => W.bind ((scNext_any hl ha g1 _).mono ?_)) fun _ => W.ret g1) ?_)
  ·rintro ⟨x13, x14⟩ ⟨f1, _⟩
   exact W.ret f1
  ·rintro ⟨x6, x7, x8, x9, x10, x11, x12⟩ g
   have h1 := g.lo
   have h2 := g.hi
   have h3 := g.s_
   simp only at h1 h2 h3
   subst h3
   refine W.iteP (fun _ => W.ret ⟨⟨by simp, by simp⟩, g, fun e => by cases e⟩) fun hlt => ?_
   rw [w64 (x := x7 + 1) (by omega) (by omega), w64 (by omega) (by omega), show x7 + 1 - 1 = x7 by omega]
   obtain ⟨v, hv, hr⟩ := ixS_ok (s := x6) (i := x7) ⟨by omega, by omega⟩
   rw [hv, Option.bind_some]
   exact W.ret ⟨hr, ⟨rfl, by simp only; omega, by simp only; omega⟩, fun _ => ⟨rfl, by simp only; omega, by simp only; omega⟩⟩
theorem cut_found (s p : List UInt8) (h : (Lib.cut s p).2.2 = true) : (Lib.cut s p).1.length + p.length ≤ s.length := by
 unfold Lib.cut at h ⊢
 split at h
 ·rename_i hi
  rw [if_pos hi]
  have := Lib.index_room s p hi
  rw [List.length_take]
  omega
 ·cases h
theorem scNamed_ok {s : List UInt8} (hl : s.length ≤ 8192) {a : Int} (ha : 0 ≤ a) {x : S_bracket_scan} (h : Sc s a x) : W (M_bracket_scan_named x) fun r => Sc s a r.2 := by
 have h1 := h.lo
 have h2 := h.hi
 unfold M_bracket_scan_named
 rw [h.s_, rest_ok ⟨by omega, h2⟩, Option.bind_some]
 refine W.need (decide_eq_true (by rw [List.length_drop]; omega)) (W.ite (fun _ => W.ret h) fun hf => W.any (named_ok _) ?_)
 rintro ⟨x2, x3⟩
 refine W.any (or_ok _ _) fun x4 => W.ret ?_
 have hc := cut_found _ _ (by simpa using hf)
 rw [List.length_drop, show ([58, 93] : List UInt8).length = 2 from rfl] at hc
 refine ⟨rfl, ?_, ?_⟩ <;> simp only
 ·rw [w64 (x := (((Lib.cut _ _).1).length : Int) + 2) (by omega) (by omega), w64 (by omega) (by omega)]; omega
 ·rw [w64 (x := (((Lib.cut _ _).1).length : Int) + 2) (by omega) (by omega), w64 (by omega) (by omega)]; omega
theorem scItem_ok {s : List UInt8} (hl : s.length ≤ 8192) {a : Int} (ha : 0 ≤ a) {x : S_bracket_scan} (h : Sc s a x) : W (M_bracket_scan_item x) fun r => Sc s a r.2 ∧ (r.1 = true → Sc s (a + 1) r.2) := by
 have both : ∀ {b : Bool} {y : S_bracket_scan}, Sc s (a + 1) y → Sc s a (b, y).2 ∧ ((b, y).1 = true → Sc s (a + 1) (b, y).2) := fun g => ⟨⟨g.s_, by have := g.lo; simp only; omega, g.hi⟩, fun _ => g⟩
 have up : ∀ {y : S_bracket_scan}, Sc s (a + 2) y → Sc s (a + 1) y := fun g => ⟨g.s_, by have := g.lo; omega, g.hi⟩
 unfold M_bracket_scan_item
 refine W.bind ((scNext_any hl ha h _).mono ?_)
 rintro ⟨x1, x2⟩ ⟨g1, g2⟩
 refine W.ite (fun e => W.bind ((scNamed_ok hl (by omega) (up (g2 e))).mono ?_)) fun e => ?_
 ·rintro ⟨x3, x4⟩ f
  exact W.ret (both f)
 refine W.bind ((scNext_any hl ha g1 _).mono ?_)
 rintro ⟨x5, x6⟩ ⟨g3, g4⟩
 refine W.ite (fun e => W.bind ((scClosed_ok hl (by omega) (up (g4 e)) _).mono ?_)) fun e => ?_
 ·rintro ⟨x7, x8, x9⟩ ⟨f1, f2⟩
  exact W.any (range_ok f1 f1) fun x10 => W.any (or_ok _ _) fun x11 => W.ret (both ⟨f2.s_, f2.lo, f2.hi⟩)
 refine W.bind ((scByte_ok hl ha g3).mono ?_)
 rintro ⟨x12, x13, x14⟩ ⟨r12, g5, g6⟩
 refine W.ite (fun e => W.ret ⟨g5, fun e => by cases e⟩) fun e => ?_
 have g7 := g6 (by simpa using e)
 have h1 := g7.lo
 have h2 := g7.hi
 have h3 := g7.s_
 simp only at h1 h2 h3
 refine W.bind (W.mono (Q := fun o => match o with
  | .inl (x15, x16, x17, x18, x19, x20, x21, x22) => (0 ≤ x22 ∧ x22 ≤ 255) ∧ Sc s (a + 1) ⟨x15, x16, x17, ⟨x18, x19, x20, x21⟩⟩
  | .inr (x23, x24, x25, x26, x27, x28, x29, x30) => Sc s (a + 1) ⟨x23, x24, x25, ⟨x26, x27, x28, x29⟩⟩) ?_ ?_)
 ·rw [h3, rest_ok ⟨by omega, h2⟩, Option.bind_some]
  refine W.bind ((pre_ok _ _).mono fun x32 h32 => W.bind (W.mono (Q := fun b => b = true → x32 = true) (W.ite (fun e => W.any (W.top (pre_ok _ _)) fun x34 => W.ret fun _ => e) fun _ => W.ret fun e => by cases e) fun x33 h33 => ?_))
  refine W.ite (fun e => ?_) fun _ => W.ret ⟨r12, rfl, h1, h2⟩
  have hlen := h32 (h33 e)
  rw [List.length_drop, show ([45] : List UInt8).length = 1 from rfl] at hlen
  have hw : IntKind.i64.wrap (x14.at_ + 1) = x14.at_ + 1 := w64 (by omega) (by omega)
  have gn : ∀ z, Sc s (a + 1) ⟨s, x14.at_ + 1, x14.glob_, z⟩ := fun z => ⟨rfl, by simp only; omega, by simp only; omega⟩
  rw [rest_ok ⟨by omega, by rw [List.length_drop]; omega⟩, Option.bind_some, hw]
  refine W.any (W.top (pre_ok _ _)) fun x36 => W.any (W.ite (fun _ => W.ret trivial) fun _ => W.any (W.top (pre_ok _ _)) fun _ => W.ret trivial) fun x37 => ?_
  refine W.ite (fun _ => W.ret (gn _)) fun _ => W.bind ((scByte_ok hl (by omega) (gn x14.set_)).mono ?_)
  rintro ⟨x39, x40, x41⟩ ⟨f1, f2, _⟩
  exact W.ite (fun _ => W.ret f2) fun _ => W.ret ⟨f1, f2⟩
 ·rintro o ho
  cases o with
  | inl o =>
   obtain ⟨x15, x16, x17, x18, x19, x20, x21, x22⟩ := o
   obtain ⟨f1, f2⟩ := ho
   exact W.any (range_ok r12 f1) fun x42 => W.any (or_ok _ _) fun x43 => W.ret (both ⟨f2.s_, f2.lo, f2.hi⟩)
  | inr o =>
   obtain ⟨x23, x24, x25, x26, x27, x28, x29, x30⟩ := o
   exact W.ret (both ho)
theorem bracket_ok {s : List UInt8} (hl : s.length ≤ 8192) {i : Int} (hi : 0 ≤ i ∧ i < s.length) (gl : Bool) : W (M_bracket_Parse s i gl) fun r => r.2.2 = 0 → i < r.2.1 ∧ r.2.1 ≤ s.length := by
 unfold M_bracket_Parse
 obtain ⟨v, hv, hr⟩ := ixS_ok hi
 refine W.any (W.ite (fun _ => W.ret trivial) fun _ => by rw [hv, Option.bind_some]; exact W.ret trivial) fun x1 => ?_
 refine W.ite (fun _ => W.ret fun e => absurd e (by decide)) fun _ => ?_
 have g0 : Sc s (i + 1) ⟨s, IntKind.i64.wrap (i + 1), gl, ⟨0, 0, 0, 0⟩⟩ := by
  rw [w64 (by omega) (by omega)]
  exact ⟨rfl, Int.le_refl _, by simp only; omega⟩
 refine W.bind ((scNext_any hl (by omega) g0 _).mono ?_)
 rintro ⟨x3, x4⟩ ⟨g1, _⟩
 refine W.bind (W.mono (Q := fun y => Sc s (i + 1) ⟨y.1, y.2.1, y.2.2.1, ⟨y.2.2.2.1, y.2.2.2.2.1, y.2.2.2.2.2.1, y.2.2.2.2.2.2.1⟩⟩) (W.ite (fun _ => W.ret g1) fun _ => W.bind (W.mono (Q := fun y => Sc s (i + 1) ⟨y.1, y.2.1, y.2.2.1, ⟨y.2.2.2.1, y.2.2.2.2.1, y.2.2.2.2.2.1, y.2.2.2.2.2.2.1⟩⟩) (W.ite (fun _ => W.bind ((scNext_any hl (by omega) g1 _).mono ?_)) fun _ => W.ret g1) ?_)) ?_)
 ·rintro ⟨x21, x22⟩ ⟨f, _⟩; exact W.ret f
 ·rintro ⟨x13, x14, x15, x16, x17, x18, x19, x20⟩ f; exact W.ret f
 rintro ⟨x5, x6, x7, x8, x9, x10, x11, x12⟩ g2
 refine W.bind (W.mono (W.loop (fun y => Sc s (i + 1) ⟨y.1, y.2.1, y.2.2.1, ⟨y.2.2.2.1, y.2.2.2.2.1, y.2.2.2.2.2.1, y.2.2.2.2.2.2.1⟩⟩) (fun y => (s.length - y.2.1).toNat) g2 ?_ (Q := fun o => match o with
  | .inl y => i < y.2.1 ∧ y.2.1 < s.length
  | .inr y => y.2.2.2.2.2.2.2.2 = 11)) ?_)
 ·rintro ⟨x23, x24, x25, x26, x27, x28, x29, x30⟩ f
  have h1 := f.lo
  have h2 := f.hi
  simp only at h1 h2
  unfold M_bracket_Parse_L0
  refine W.iteP (fun _ => W.ret rfl) fun hlt => ?_
  obtain ⟨v, hv, hr⟩ := ixS_ok (s := s) (i := x24) ⟨by omega, by omega⟩
  rw [hv, Option.bind_some]
  refine W.ite (fun _ => W.ret ⟨by simp only; omega, by simp only; omega⟩) fun _ => ?_
  have f' : Sc s x24 ⟨x23, x24, x25, ⟨x26, x27, x28, x29⟩⟩ := ⟨f.s_, Int.le_refl _, f.hi⟩
  refine W.bind ((scItem_ok hl (by omega) f').mono ?_)
  rintro ⟨x48, x49⟩ ⟨f1, f2⟩
  refine W.ite (fun _ => W.ret rfl) fun e => W.ret ?_
  have f3 := f2 (by simpa using e)
  have h3 := f3.lo
  have h4 := f3.hi
  simp only at h3 h4
  exact ⟨⟨f3.s_, by simp only; omega, h4⟩, by simp only; omega⟩
 ·rintro o ho
  cases o with
  | inl o =>
   obtain ⟨x31, x32, x33, x34, x35, x36, x37⟩ := o
   simp only at ho
   refine W.any (W.ite (fun _ => W.any (not_ok _) fun _ => W.ret trivial) fun _ => W.ret trivial) ?_
   rintro ⟨x50, x51, x52, x53⟩
   refine W.ret fun _ => ?_
   simp only; rw [w64 (by omega) (by omega)]
   omega
  | inr o =>
   obtain ⟨x38, x39, x40, x41, x42, x43, x44, x45, x46⟩ := o
   simp only at ho
   subst ho
   exact W.ret fun e => absurd e (by simp)
end Go.Av.L
