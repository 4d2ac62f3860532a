/-
  Rex: sets and brackets are told.
-/
import Derived.Test.YtipknimgfcokeaaGreatDoorDfaA
namespace Go.Av.L
open Go.Av Go.Lib
set_option linter.unusedVariables false
set_option linter.unusedSimpArgs false
theorem W.top {α : Type} {m : Option α} {Q : α → Prop} (w : W m Q) : W m fun _ => True := w.mono fun _ _ => trivial
theorem W.any {α β : Type} {m : Option α} {k : α → Option β} {Q : β → Prop} (w : W m fun _ => True) (h : ∀ x, W (k x) Q) : W (m.bind k) Q := W.bind (w.mono fun x _ => h x)
theorem WL (a b c d : Int) {k : Nat} (h : k < 4) : ∃ v, Ff ([a, b, c, d] : List Int) (k : Int) = some v := ⟨_, DM (by simpa using h)⟩
theorem Oo (s : Ar) {b : Int} (h0 : 0 ≤ b) (h1 : b ≤ 255) : W (Eo s b) fun _ => True := by
 obtain ⟨n, rfl⟩ := Int.eq_ofNat_of_zero_le h0
 obtain ⟨e1, e2, e3⟩ := Pn ⟨n, by omega⟩
 simp only at e1 e2 e3
 unfold Eo
 obtain ⟨k, hk⟩ := Int.eq_ofNat_of_zero_le e1
 rw [hk] at e2 ⊢
 obtain ⟨v, hv⟩ := WL s.w0 s.w1 s.w2 s.w3 (k := k) (by omega)
 rw [hv, Option.bind_some, decide_eq_true e3, MP]
 exact W.ret trivial
theorem L3 {a b : Int} (ha : 0 ≤ a ∧ a ≤ 255) (hb : 0 ≤ b ∧ b ≤ 255) : W (B4 a b) fun _ => True := by
 unfold B4
 rw [IW (x := a) (by omega) (by omega)]
 refine W.bind (W.mono (W.loop (fun s => 0 ≤ s.2.2.2.2 ∧ s.2.2.2.2 ≤ 256) (fun s => (256 - s.2.2.2.2).toNat) ⟨by simp only; omega, by simp only; omega⟩ ?_ (Q := fun _ => True)) fun r _ => W.ret trivial)
 rintro ⟨x1, x2, x3, x4, x5⟩ ⟨h1, h2⟩
 simp only at h1 h2
 unfold G6
 rw [IW (x := b) (by omega) (by omega)]
 refine W.Di (fun hl => ?_) fun _ => W.ret trivial
 rw [XE (x := x5) (by omega) (by omega)]
 refine W.any (Oo _ (by omega) (by omega)) fun x => W.ret ?_
 simp only; rw [IW (by omega) (by omega)]
 omega
theorem K2 (a b : Ar) : W (CN a b) fun _ => True := by
 unfold CN
 refine W.bind (W.mono (W.loop (fun s => ∃ k : Nat, s.2.2.2.2 = (k : Int) ∧ k ≤ 4) (fun s => (4 - s.2.2.2.2).toNat) ⟨0, rfl, by omega⟩ ?_ (Q := fun _ => True)) fun r _ => W.ret trivial)
 rintro ⟨x1, x2, x3, x4, x5⟩ ⟨k, hk, h2⟩
 simp only at hk
 subst hk
 unfold Gi
 refine W.Di (fun hl => ?_) fun _ => W.ret trivial
 obtain ⟨v, hv⟩ := WL x1 x2 x3 x4 (k := k) (by omega)
 obtain ⟨u, hu⟩ := WL b.w0 b.w1 b.w2 b.w3 (k := k) (by omega)
 rw [hv, Option.bind_some, hu, Option.bind_some]
 exact W.ret ⟨⟨k + 1, Ha (by omega), by omega⟩, by simp only; rw [Ha (by omega)]; omega⟩
theorem WB (a b : Ar) : W (FP a b) fun _ => True := by
 unfold FP
 refine W.bind (W.mono (W.loop (fun s => ∃ k : Nat, s.2.2.2.2 = (k : Int) ∧ k ≤ 4) (fun s => (4 - s.2.2.2.2).toNat) ⟨0, rfl, by omega⟩ ?_ (Q := fun _ => True)) fun r _ => W.ret trivial)
 rintro ⟨x1, x2, x3, x4, x5⟩ ⟨k, hk, h2⟩
 simp only at hk
 subst hk
 unfold GI
 refine W.Di (fun hl => ?_) fun _ => W.ret trivial
 obtain ⟨v, hv⟩ := WL x1 x2 x3 x4 (k := k) (by omega)
 obtain ⟨u, hu⟩ := WL b.w0 b.w1 b.w2 b.w3 (k := k) (by omega)
 rw [hv, Option.bind_some, hu, Option.bind_some]
 exact W.ret ⟨⟨k + 1, Ha (by omega), by omega⟩, by simp only; rw [Ha (by omega)]; omega⟩
theorem RS (a : Ar) : W (EF a) fun _ => True := by
 unfold EF
 refine W.bind (W.mono (W.loop (fun s => ∃ k : Nat, s.2.2.2.2 = (k : Int) ∧ k ≤ 4) (fun s => (4 - s.2.2.2.2).toNat) ⟨0, rfl, by omega⟩ ?_ (Q := fun _ => True)) fun r _ => W.ret trivial)
 rintro ⟨x1, x2, x3, x4, x5⟩ ⟨k, hk, h2⟩
 simp only at hk
 subst hk
 unfold GK
 refine W.Di (fun hl => ?_) fun _ => W.ret trivial
 obtain ⟨v, hv⟩ := WL x1 x2 x3 x4 (k := k) (by omega)
 rw [hv, Option.bind_some]
 exact W.ret ⟨⟨k + 1, Ha (by omega), by omega⟩, by simp only; rw [Ha (by omega)]; omega⟩
theorem Vj : W HV fun _ => True := by
 unfold HV
 exact W.any (RS _) fun _ => W.ret trivial
theorem TK (s : List UInt8) (hn : s.length ≤ 1073741824) : W (GH s) fun _ => True := by
 unfold GH
 refine W.bind (W.mono (W.list (l := s) (fun (x : Int × Int × Int × Int) (i : Nat) => (x.1, x.2.1, x.2.2.1, x.2.2.2, (i : Int))) (fun _ _ => True) ?_ ?_ (0, 0, 0, 0) trivial (Q := fun _ => True)) fun r _ => W.ret trivial)
 ·rintro ⟨x1, x2, x3, x4⟩ _
  unfold HC
  exact W.Di (fun h => by omega) fun _ => W.ret trivial
 ·rintro ⟨x1, x2, x3, x4⟩ i hi _
  unfold HC
  refine W.Di (fun _ => ?_) fun h => by omega
  rw [NG hi, Option.bind_some]
  have := L4 s[i]
  refine W.any (Oo _ (by omega) (by omega)) fun x => W.ret ⟨(x.w0, x.w1, x.w2, x.w3), by rw [Ha (by omega)], trivial⟩
theorem UM (s : List UInt8) : W (Fz s) fun _ => True := by
 have r : ∀ a b : Int, (0 ≤ a ∧ a ≤ 255) ∧ (0 ≤ b ∧ b ≤ 255) → W (B4 a b) fun _ => True := fun a b h => L3 h.1 h.2
 unfold Fz
 refine W.any (r _ _ (by decide)) fun _ => W.any (r _ _ (by decide)) fun _ => W.any (r _ _ (by decide)) fun _ => W.any (K2 _ _) fun _ => W.any (K2 _ _) fun _ => ?_
 refine W.ite (fun _ => W.any (K2 _ _) fun _ => W.ret trivial) fun _ => W.ite (fun _ => W.ret trivial) fun _ => W.ite (fun _ => W.ret trivial) fun _ => W.ite (fun _ => W.ret trivial) fun _ => W.ite (fun _ => W.ret trivial) fun _ => ?_
 refine W.ite (fun _ => W.any (r _ _ (by decide)) fun _ => W.any (K2 _ _) fun _ => W.any (r _ _ (by decide)) fun _ => W.any (K2 _ _) fun _ => W.ret trivial) fun _ => ?_
 refine W.ite (fun _ => W.any (TK _ (by simp)) fun _ => W.ret trivial) fun _ => ?_
 refine W.ite (fun _ => W.any (r _ _ (by decide)) fun _ => W.any (TK _ (by simp)) fun _ => W.any (K2 _ _) fun _ => W.ret trivial) fun _ => ?_
 refine W.ite (fun _ => W.any (r _ _ (by decide)) fun _ => W.any (TK _ (by simp)) fun _ => W.any (K2 _ _) fun _ => W.ret trivial) fun _ => ?_
 refine W.ite (fun _ => W.any (r _ _ (by decide)) fun _ => W.ret trivial) fun _ => W.ite (fun _ => W.any (r _ _ (by decide)) fun _ => W.ret trivial) fun _ => ?_
 exact W.ite (fun _ => W.any (r _ _ (by decide)) fun _ => W.any (RS _) fun _ => W.any (WB _ _) fun _ => W.ret trivial) fun _ => W.ret trivial
theorem KT (a b : List UInt8) : W (Bt a b) fun r => r = true → b.length ≤ a.length := by
 unfold Bt ED
 refine W.bind (W.bind (W.mono (Q := fun r => r = true → b.length ≤ a.length) (W.Di (fun h => ?_) fun h => W.ret fun e => by cases e) fun r hr => W.ret (W.ret hr)))
 rw [U5 (by omega), Option.bind_some]
 exact W.ret fun _ => by omega
theorem Jy {s : List UInt8} {i : Int} (h : 0 ≤ i ∧ i ≤ s.length) : IB s (some i) none = some (s.drop i.toNat) := by
 obtain ⟨k, rfl⟩ := Int.eq_ofNat_of_zero_le h.1
 rw [PW (by omega), Int.toNat_natCast]
theorem H3 {s : List UInt8} {i : Int} (h : 0 ≤ i ∧ i < s.length) : ∃ v : Int, Jf s i = some v ∧ 0 ≤ v ∧ v ≤ 255 := by
 obtain ⟨k, rfl⟩ := Int.eq_ofNat_of_zero_le h.1
 exact ⟨_, NG (by omega), L4 _⟩
structure Sc (s : List UInt8) (a : Int) (x : BA) : Prop where
 s_ : x.s_ = s
 lo : a ≤ x.at_
 hi : x.at_ ≤ s.length
theorem Sw {s : List UInt8} (hl : s.length ≤ 8192) {a : Int} (ha : 0 ≤ a) {x : BA} (h : Sc s a x) (p : List UInt8) : W (B5 x p) fun r => (r.1 = true → Sc s (a + p.length) r.2) ∧ (r.1 = false → r.2 = x) := by
 have h1 := h.lo
 have h2 := h.hi
 unfold B5
 rw [h.s_, Jy ⟨by omega, h2⟩, Option.bind_some]
 refine W.bind ((KT _ _).mono fun b hb => W.ite (fun e => W.ret ⟨fun h => Bool.noConfusion h, fun _ => rfl⟩) fun e => W.ret ⟨fun _ => ?_, fun h => by cases h⟩)
 have := hb (by simpa using e)
 rw [List.length_drop] at this
 exact ⟨rfl, by simp only; rw [IW (by omega) (by omega)]; omega, by simp only; rw [IW (by omega) (by omega)]; omega⟩
theorem G3 {s : List UInt8} (hl : s.length ≤ 8192) {a : Int} (ha : 0 ≤ a) {x : BA} (h : Sc s a x) (p : List UInt8) : W (B5 x p) fun r => Sc s a r.2 ∧ (r.1 = true → Sc s (a + p.length) r.2) := by
 refine (Sw hl ha h p).mono fun r hr => ?_
 obtain ⟨b, y⟩ := r
 cases b
 ·have : y = x := hr.2 rfl
  subst this
  exact ⟨h, fun e => by cases e⟩
 ·have := hr.1 rfl
  exact ⟨⟨this.s_, by have := this.lo; simp only at this ⊢; omega, this.hi⟩, fun _ => this⟩
theorem Mi {s : List UInt8} (hl : s.length ≤ 8192) {a : Int} (ha : 0 ≤ a) {x : BA} (h : Sc s a x) (p : List UInt8) : W (DC x p) fun r => (0 ≤ r.1 ∧ r.1 ≤ 255) ∧ Sc s a r.2.2 := by
 have h1 := h.lo
 have h2 := h.hi
 unfold DC
 rw [h.s_, IW (x := x.at_ + 3) (by omega) (by omega), IW (x := x.at_ + 1) (by omega) (by omega)]
 refine W.bind (W.mono (Q := fun b => b = true ∨ x.at_ + 3 ≤ s.length) (W.Di (fun _ => W.ret (.inl rfl)) fun hlt => ?_) fun b hb => ?_)
 ·obtain ⟨k, hk⟩ := Int.eq_ofNat_of_zero_le (show 0 ≤ x.at_ by omega)
  rw [hk] at hlt ⊢
  rw [show (k : Int) + 1 = ((k + 1 : Nat) : Int) by omega, show (k : Int) + 3 = ((k + 3 : Nat) : Int) by omega, Mf (by omega) (by omega), Option.bind_some]
  exact W.ret (.inr (by omega))
 ·refine W.ite (fun _ => W.ret ⟨⟨by simp, by simp⟩, h⟩) fun e => ?_
  have hb := hb.resolve_left (by rw [e]; decide)
  obtain ⟨v, hv, hr⟩ := H3 (s := s) (i := x.at_) ⟨by omega, by omega⟩
  rw [hv, Option.bind_some]
  exact W.ret ⟨hr, rfl, by simp only; omega, by simp only; omega⟩
theorem OY {s : List UInt8} (hl : s.length ≤ 8192) {a : Int} (ha : 0 ≤ a) {x : BA} (h : Sc s a x) : W (Dj x) fun r => (0 ≤ r.1 ∧ r.1 ≤ 255) ∧ Sc s a r.2.2 ∧ (r.2.1 = true → Sc s (a + 1) r.2.2) := by
 unfold Dj
 refine W.bind ((G3 hl ha h _).mono ?_)
 rintro ⟨x1, x2⟩ ⟨g1, g2⟩
 refine W.ite (fun e => W.bind ((Mi hl (by simp only [List.length_cons, List.length_nil]; omega) (g2 e) _).mono ?_)) fun e => ?_
 ·rintro ⟨x3, x4, x5⟩ ⟨f1, f2⟩
  have := f2.lo
  simp only [List.length_cons, List.length_nil] at this f1
  exact W.ret ⟨f1, ⟨f2.s_, by simp only; omega, f2.hi⟩, fun _ => ⟨f2.s_, by simp only; omega, f2.hi⟩⟩
 ·refine W.bind (W.mono (Q := fun y => Sc s a ⟨y.1, y.2.1, y.2.2.1, ⟨y.2.2.2.1, y.2.2.2.2.1, y.2.2.2.2.2.1, y.2.2.2.2.2.2⟩⟩) (W.ite (fun _ => W.bind ((G3 hl ha g1 _).mono ?_)) fun _ => W.ret g1) ?_)
  ·rintro ⟨x13, x14⟩ ⟨f1, _⟩
   exact W.ret f1
  ·rintro ⟨x6, x7, x8, x9, x10, x11, x12⟩ g
   have h1 := g.lo
   have h2 := g.hi
   have h3 := g.s_
   simp only at h1 h2 h3
   subst h3
   refine W.Di (fun _ => W.ret ⟨⟨by simp, by simp⟩, g, fun e => by cases e⟩) fun hlt => ?_
   rw [IW (x := x7 + 1) (by omega) (by omega), IW (by omega) (by omega), show x7 + 1 - 1 = x7 by omega]
   obtain ⟨v, hv, hr⟩ := H3 (s := x6) (i := x7) ⟨by omega, by omega⟩
   rw [hv, Option.bind_some]
   exact W.ret ⟨hr, ⟨rfl, by simp only; omega, by simp only; omega⟩, fun _ => ⟨rfl, by simp only; omega, by simp only; omega⟩⟩
theorem Sd (s p : List UInt8) (h : (Lib.cut s p).2.2 = true) : (Lib.cut s p).1.length + p.length ≤ s.length := by
 unfold Lib.cut at h ⊢
 split at h
 ·rename_i hi
  rw [if_pos hi]
  have := Lib.index_room s p hi
  rw [List.length_take]
  omega
 ·cases h
theorem Qs {s : List UInt8} (hl : s.length ≤ 8192) {a : Int} (ha : 0 ≤ a) {x : BA} (h : Sc s a x) : W (D6 x) fun r => Sc s a r.2 := by
 have h1 := h.lo
 have h2 := h.hi
 unfold D6
 rw [h.s_, Jy ⟨by omega, h2⟩, Option.bind_some]
 refine W.Cm (decide_eq_true (by rw [List.length_drop]; omega)) (W.ite (fun _ => W.ret h) fun hf => W.any (UM _) ?_)
 rintro ⟨x2, x3⟩
 refine W.any (K2 _ _) fun x4 => W.ret ?_
 have hc := Sd _ _ (by simpa using hf)
 rw [List.length_drop, show ([58, 93] : List UInt8).length = 2 from rfl] at hc
 refine ⟨rfl, ?_, ?_⟩ <;> simp only
 ·rw [IW (x := (((Lib.cut _ _).1).length : Int) + 2) (by omega) (by omega), IW (by omega) (by omega)]; omega
 ·rw [IW (x := (((Lib.cut _ _).1).length : Int) + 2) (by omega) (by omega), IW (by omega) (by omega)]; omega
theorem SQ {s : List UInt8} (hl : s.length ≤ 8192) {a : Int} (ha : 0 ≤ a) {x : BA} (h : Sc s a x) : W (EJ x) fun r => Sc s a r.2 ∧ (r.1 = true → Sc s (a + 1) r.2) := by
 have both : ∀ {b : Bool} {y : BA}, Sc s (a + 1) y → Sc s a (b, y).2 ∧ ((b, y).1 = true → Sc s (a + 1) (b, y).2) := fun g => ⟨⟨g.s_, by have := g.lo; simp only; omega, g.hi⟩, fun _ => g⟩
 have up : ∀ {y : BA}, Sc s (a + 2) y → Sc s (a + 1) y := fun g => ⟨g.s_, by have := g.lo; omega, g.hi⟩
 unfold EJ
 refine W.bind ((G3 hl ha h _).mono ?_)
 rintro ⟨x1, x2⟩ ⟨g1, g2⟩
 refine W.ite (fun e => W.bind ((Qs hl (by omega) (up (g2 e))).mono ?_)) fun e => ?_
 ·rintro ⟨x3, x4⟩ f
  exact W.ret (both f)
 refine W.bind ((G3 hl ha g1 _).mono ?_)
 rintro ⟨x5, x6⟩ ⟨g3, g4⟩
 refine W.ite (fun e => W.bind ((Mi hl (by omega) (up (g4 e)) _).mono ?_)) fun e => ?_
 ·rintro ⟨x7, x8, x9⟩ ⟨f1, f2⟩
  exact W.any (L3 f1 f1) fun x10 => W.any (K2 _ _) fun x11 => W.ret (both ⟨f2.s_, f2.lo, f2.hi⟩)
 refine W.bind ((OY hl ha g3).mono ?_)
 rintro ⟨x12, x13, x14⟩ ⟨r12, g5, g6⟩
 refine W.ite (fun e => W.ret ⟨g5, fun e => by cases e⟩) fun e => ?_
 have g7 := g6 (by simpa using e)
 have h1 := g7.lo
 have h2 := g7.hi
 have h3 := g7.s_
 simp only at h1 h2 h3
 refine W.bind (W.mono (Q := fun o => match o with
  | .inl (x15, x16, x17, x18, x19, x20, x21, x22) => (0 ≤ x22 ∧ x22 ≤ 255) ∧ Sc s (a + 1) ⟨x15, x16, x17, ⟨x18, x19, x20, x21⟩⟩
  | .inr (x23, x24, x25, x26, x27, x28, x29, x30) => Sc s (a + 1) ⟨x23, x24, x25, ⟨x26, x27, x28, x29⟩⟩) ?_ ?_)
 ·rw [h3, Jy ⟨by omega, h2⟩, Option.bind_some]
  refine W.bind ((KT _ _).mono fun x32 h32 => W.bind (W.mono (Q := fun b => b = true → x32 = true) (W.ite (fun e => W.any (W.top (KT _ _)) fun x34 => W.ret fun _ => e) fun _ => W.ret fun e => by cases e) fun x33 h33 => ?_))
  refine W.ite (fun e => ?_) fun _ => W.ret ⟨r12, rfl, h1, h2⟩
  have hlen := h32 (h33 e)
  rw [List.length_drop, show ([45] : List UInt8).length = 1 from rfl] at hlen
  have hw : IntKind.i64.wrap (x14.at_ + 1) = x14.at_ + 1 := IW (by omega) (by omega)
  have gn : ∀ z, Sc s (a + 1) ⟨s, x14.at_ + 1, x14.GV, z⟩ := fun z => ⟨rfl, by simp only; omega, by simp only; omega⟩
  rw [Jy ⟨by omega, by rw [List.length_drop]; omega⟩, Option.bind_some, hw]
  refine W.any (W.top (KT _ _)) fun x36 => W.any (W.ite (fun _ => W.ret trivial) fun _ => W.any (W.top (KT _ _)) fun _ => W.ret trivial) fun x37 => ?_
  refine W.ite (fun _ => W.ret (gn _)) fun _ => W.bind ((OY hl (by omega) (gn x14.CM)).mono ?_)
  rintro ⟨x39, x40, x41⟩ ⟨f1, f2, _⟩
  exact W.ite (fun _ => W.ret f2) fun _ => W.ret ⟨f1, f2⟩
 ·rintro o ho
  cases o with
  | inl o =>
   obtain ⟨x15, x16, x17, x18, x19, x20, x21, x22⟩ := o
   obtain ⟨f1, f2⟩ := ho
   exact W.any (L3 r12 f1) fun x42 => W.any (K2 _ _) fun x43 => W.ret (both ⟨f2.s_, f2.lo, f2.hi⟩)
  | inr o =>
   obtain ⟨x23, x24, x25, x26, x27, x28, x29, x30⟩ := o
   exact W.ret (both ho)
theorem RL {s : List UInt8} (hl : s.length ≤ 8192) {i : Int} (hi : 0 ≤ i ∧ i < s.length) (gl : Bool) : W (FO s i gl) fun r => r.2.2 = 0 → i < r.2.1 ∧ r.2.1 ≤ s.length := by
 unfold FO
 obtain ⟨v, hv, hr⟩ := H3 hi
 refine W.any (W.ite (fun _ => W.ret trivial) fun _ => by rw [hv, Option.bind_some]; exact W.ret trivial) fun x1 => ?_
 refine W.ite (fun _ => W.ret fun e => absurd e (by decide)) fun _ => ?_
 have g0 : Sc s (i + 1) ⟨s, IntKind.i64.wrap (i + 1), gl, ⟨0, 0, 0, 0⟩⟩ := by
  rw [IW (by omega) (by omega)]
  exact ⟨rfl, Int.le_refl _, by simp only; omega⟩
 refine W.bind ((G3 hl (by omega) g0 _).mono ?_)
 rintro ⟨x3, x4⟩ ⟨g1, _⟩
 refine W.bind (W.mono (Q := fun y => Sc s (i + 1) ⟨y.1, y.2.1, y.2.2.1, ⟨y.2.2.2.1, y.2.2.2.2.1, y.2.2.2.2.2.1, y.2.2.2.2.2.2.1⟩⟩) (W.ite (fun _ => W.ret g1) fun _ => W.bind (W.mono (Q := fun y => Sc s (i + 1) ⟨y.1, y.2.1, y.2.2.1, ⟨y.2.2.2.1, y.2.2.2.2.1, y.2.2.2.2.2.1, y.2.2.2.2.2.2.1⟩⟩) (W.ite (fun _ => W.bind ((G3 hl (by omega) g1 _).mono ?_)) fun _ => W.ret g1) ?_)) ?_)
 ·rintro ⟨x21, x22⟩ ⟨f, _⟩; exact W.ret f
 ·rintro ⟨x13, x14, x15, x16, x17, x18, x19, x20⟩ f; exact W.ret f
 rintro ⟨x5, x6, x7, x8, x9, x10, x11, x12⟩ g2
 refine W.bind (W.mono (W.loop (fun y => Sc s (i + 1) ⟨y.1, y.2.1, y.2.2.1, ⟨y.2.2.2.1, y.2.2.2.2.1, y.2.2.2.2.2.1, y.2.2.2.2.2.2.1⟩⟩) (fun y => (s.length - y.2.1).toNat) g2 ?_ (Q := fun o => match o with
  | .inl y => i < y.2.1 ∧ y.2.1 < s.length
  | .inr y => y.2.2.2.2.2.2.2.2 = 11)) ?_)
 ·rintro ⟨x23, x24, x25, x26, x27, x28, x29, x30⟩ f
  have h1 := f.lo
  have h2 := f.hi
  simp only at h1 h2
  unfold GL
  refine W.Di (fun _ => W.ret rfl) fun hlt => ?_
  obtain ⟨v, hv, hr⟩ := H3 (s := s) (i := x24) ⟨by omega, by omega⟩
  rw [hv, Option.bind_some]
  refine W.ite (fun _ => W.ret ⟨by simp only; omega, by simp only; omega⟩) fun _ => ?_
  have f' : Sc s x24 ⟨x23, x24, x25, ⟨x26, x27, x28, x29⟩⟩ := ⟨f.s_, Int.le_refl _, f.hi⟩
  refine W.bind ((SQ hl (by omega) f').mono ?_)
  rintro ⟨x48, x49⟩ ⟨f1, f2⟩
  refine W.ite (fun _ => W.ret rfl) fun e => W.ret ?_
  have f3 := f2 (by simpa using e)
  have h3 := f3.lo
  have h4 := f3.hi
  simp only at h3 h4
  exact ⟨⟨f3.s_, by simp only; omega, h4⟩, by simp only; omega⟩
 ·rintro o ho
  cases o with
  | inl o =>
   obtain ⟨x31, x32, x33, x34, x35, x36, x37⟩ := o
   simp only at ho
   refine W.any (W.ite (fun _ => W.any (RS _) fun _ => W.ret trivial) fun _ => W.ret trivial) ?_
   rintro ⟨x50, x51, x52, x53⟩
   refine W.ret fun _ => ?_
   simp only; rw [IW (by omega) (by omega)]
   omega
  | inr o =>
   obtain ⟨x38, x39, x40, x41, x42, x43, x44, x45, x46⟩ := o
   simp only at ho
   subst ho
   exact W.ret fun e => absurd e (by simp)
end Go.Av.L
