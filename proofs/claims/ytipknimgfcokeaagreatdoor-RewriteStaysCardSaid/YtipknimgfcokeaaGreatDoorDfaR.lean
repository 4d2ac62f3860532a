/-
  Rex: any expression is told, and what is told is a right tree.
-/
import Derived.Test.YtipknimgfcokeaaGreatDoorDfaP
namespace Go.Av.L
open Go.Av Go.Lib
set_option linter.unusedVariables false
set_option linter.unusedSimpArgs false
structure PY (l : List AJ) (root : Int) : Prop where
 ok : ∀ (i : Nat) n, l[i]? = some n → GC n i = some true
 len : l.length ≤ 1024
 root : 0 ≤ root ∧ (0 < l.length → root < l.length)
def Pk (full : Bool) (l : List AJ) : Prop := full = true ∨ 0 < l.length
structure Wk (s : List UInt8) (a : Int) (w : AF) : Prop where
 s_ : w.s_ = s
 lo : a ≤ w.at_
 hi : w.at_ ≤ s.length
 nd : PY w.t_.AU w.t_.Bf
structure R3 (s : List UInt8) (a : Int) (g : Prop) (r : Int × AF × List AJ) : Prop where
 s_ : r.2.1.s_ = s
 lo : a ≤ r.2.1.at_
 hi : r.2.1.at_ ≤ s.length
 nd : PY r.2.2 r.2.1.t_.Bf
 got : g → Pk r.2.1.Ay r.2.2
def KB (w : AF) : Int := if w.AX then 0 else 1
theorem Uu (w : AF) : 0 ≤ KB w ∧ KB w ≤ 1 := by unfold KB; split <;> decide
theorem Lr {s : List UInt8} (hl : s.length ≤ 8192) {a : Int} (ha : 0 ≤ a) {w : AF} (h : Wk s a w) (p : List UInt8) (hp : p.length ≤ 100) : W (Cb w p) fun r => r = true → w.at_ + p.length + KB w ≤ s.length := by
 have h1 := h.lo
 have h2 := h.hi
 unfold Cb
 refine W.bind (W.mono (Q := fun x => (x.length : Int) = p.length + KB w) (W.ite (fun e => W.Cm (decide_eq_true (by simp; omega)) (W.ret ?_)) fun e => W.ret ?_) fun x1 hx => ?_)
 ·simp only [Bool.not_eq_true'] at e; unfold KB; rw [e]; simp
 ·simp only [Bool.not_eq_false'] at e; unfold KB; rw [e]; simp
 rw [h.s_, Jy ⟨by omega, h2⟩, Option.bind_some]
 refine W.bind ((KT _ _).mono fun b hb => W.ret fun e => ?_)
 have := hb e
 rw [List.length_drop] at this
 omega
abbrev AF.go (w : AF) (i : Int) : AF := ⟨w.s_, i, w.AX, w.t_, w.An, w.BC, w.BB, w.Ay⟩
theorem IL {s : List UInt8} (hl : s.length ≤ 8192) {a : Int} (ha : 0 ≤ a) {w : AF} (h : Wk s a w) (p : List UInt8) (hp : p.length ≤ 100) : W (Bx w p) fun r => (r.1 = false ∧ r.2 = w) ∨ (r.1 = true ∧ ∃ i, r.2 = w.go i ∧ w.at_ + p.length ≤ i ∧ i ≤ s.length) := by
 have h1 := h.lo
 have h2 := h.hi
 have h3 := Uu w
 unfold Bx
 refine W.bind ((Lr hl ha h p hp).mono fun x1 hx => W.ite (fun _ => W.ret (.inl ⟨rfl, rfl⟩)) fun e => ?_)
 have hx := hx (by simpa using e)
 rw [IW (x := w.at_ + p.length) (by omega) (by omega)]
 refine W.bind (W.mono (Q := fun i => i = w.at_ + p.length + KB w) (W.ite (fun e => W.ret ?_) fun e => W.ret ?_) fun i hi => W.ret (.inr ⟨rfl, i, rfl, by omega, by omega⟩))
 ·simp only [Bool.not_eq_true'] at e
  have : KB w = 1 := by unfold KB; rw [e]; rfl
  rw [IW (by omega) (by omega), this]
 ·simp only [Bool.not_eq_false'] at e
  have : KB w = 0 := by unfold KB; rw [e]; rfl
  rw [this, Int.add_zero]
theorem NO {s : List UInt8} (hl : s.length ≤ 8192) {a : Int} (ha : 0 ≤ a) {w : AF} (h : Wk s a w) : W (C9 w) fun b => b = false → w.at_ < s.length := by
 have h2 := h.hi
 unfold C9
 rw [h.s_]
 refine W.bind (W.mono (Q := fun b => b = false → w.at_ < s.length) ?_ fun x1 h1 => W.bind (W.mono (Q := fun b => b = false → x1 = false) (W.ite (fun _ => W.ret fun e => by cases e) fun e => W.any (W.top (Lr hl ha h _ (by simp))) fun x4 => W.ret fun _ => e) fun x3 h3 => W.ret fun e => h1 (h3 e)))
 rw [Fk]
 split
 ·exact W.ret fun e => by cases e
 ·exact W.any (W.top (Lr hl ha h _ (by simp))) fun x2 => W.ret fun _ => by omega
theorem Ti {s : List UInt8} (hl : s.length ≤ 8192) {a : Int} (ha : 0 ≤ a) {w : AF} (h : Wk s a w) (hlt : w.at_ < s.length) : W (EI w) fun _ => True := by
 have h1 := h.lo
 unfold EI
 rw [IW (x := w.at_ + 1) (by omega) (by omega)]
 exact W.any (W.top (NO hl ha (w := w.go (w.at_ + 1)) ⟨h.s_, by simp only; omega, by simp only; omega, h.nd⟩)) fun _ => W.ret trivial
theorem Ix {s : List UInt8} {a : Int} {w : AF} (h : Wk s a w) (n : AJ) : W (BY w n) (R3 s w.at_ True) := by
 unfold BY
 refine W.ite (fun e => W.ret ⟨h.s_, Int.le_refl _, h.hi, h.nd, fun _ => .inl e⟩) fun _ => ?_
 unfold Eh
 refine W.bind (W.mono (Q := fun r => (r.2.1 = 0 → 0 < r.2.2.2.length) ∧ R3 s w.at_ False (0, r.2.2.1, r.2.2.2)) (W.Di (fun _ => W.ret ⟨fun e => absurd e (by simp), h.s_, Int.le_refl _, h.hi, h.nd, fun e => False.elim e⟩) fun hlt => ?_) ?_)
 ·obtain ⟨b, e, _⟩ := Ty n w.t_.AU.length
  rw [e, Option.bind_some]
  refine W.ite (fun _ => W.ret ⟨fun e => absurd e (by simp), h.s_, Int.le_refl _, h.hi, h.nd, fun e => False.elim e⟩) fun hb => ?_
  have hb : b = true := by simpa using hb
  subst hb
  refine W.Cm (Em (by simp; omega) (by simp; omega)) (W.ret ⟨fun _ => by simp, h.s_, Int.le_refl _, h.hi, ⟨fun i m hm => ?_, by simp; omega, ?_⟩, fun e => False.elim e⟩)
  ·simp only at hm
   by_cases hi : i < w.t_.AU.length
   ·rw [List.getElem?_append_left hi] at hm
    exact h.nd.ok i m hm
   ·have hl := (List.getElem?_eq_some_iff.1 hm).1
    rw [List.length_append, List.length_singleton] at hl
    obtain rfl : i = w.t_.AU.length := by omega
    rw [List.getElem?_append_right (Nat.le_refl _), Nat.sub_self] at hm
    cases hm
    exact e
  ·simp only [List.length_append, List.length_singleton]
   rw [IW (by omega) (by omega)]
   omega
 ·rintro ⟨x1, x2, x3, x4⟩ ⟨h1, h2⟩
  simp only [HF]
  refine W.bind (W.mono (Q := fun f => Pk f x4) ?_ fun f hf => W.ret ⟨h2.s_, h2.lo, h2.hi, h2.nd, fun _ => hf⟩)
  split
  ·rename_i e
   exact W.ret (.inr (h1 e))
  ·exact W.ret (.inl rfl)
theorem R3.wk {s : List UInt8} {a : Int} {g : Prop} {x1 : Int} {x2 : AF} {x3 : List AJ} (h : R3 s a g (x1, x2, x3)) : Wk s a ⟨x2.s_, x2.at_, x2.AX, ⟨x3, x2.t_.Bf⟩, x2.An, x2.BC, x2.BB, x2.Ay⟩ := ⟨h.s_, h.lo, h.hi, h.nd⟩
theorem Wk.go {s : List UInt8} {a : Int} {w : AF} (h : Wk s a w) {i : Int} (h1 : a ≤ i) (h2 : i ≤ s.length) : Wk s a (w.go i) := ⟨h.s_, h1, h2, h.nd⟩
theorem Pf {s : List UInt8} {a : Int} {w : AF} (h : Wk s a w) {b : Int} (hb : 0 ≤ b ∧ b ≤ 255) : W (C2 w b) (R3 s w.at_ True) := by
 unfold C2
 refine W.any (L3 hb hb) fun x1 => W.bind ((Ix h _).mono ?_)
 rintro ⟨x2, x3, x4⟩ hr
 exact W.ret ⟨hr.s_, hr.lo, hr.hi, hr.nd, hr.got⟩
theorem N2 {s : List UInt8} (hl : s.length ≤ 8192) {a : Int} (ha : 0 ≤ a) {w : AF} (h : Wk s a w) : W (C7 w) fun r => ∃ i, r.2.2 = w.go i ∧ w.at_ ≤ i ∧ i ≤ s.length := by
 have h1 := h.lo
 have h2 := h.hi
 unfold C7
 refine W.bind (W.mono (W.loop (fun (x : Int × Int × Int) => w.at_ ≤ x.1 ∧ x.1 ≤ s.length) (fun x => (s.length - x.1).toNat) ⟨Int.le_refl _, h2⟩ ?_ (Q := fun (x : Int × Int × Int) => w.at_ ≤ x.1 ∧ x.1 ≤ s.length)) ?_)
 ·rintro ⟨x1, x2, x3⟩ ⟨g1, g2⟩
  simp only at g1 g2
  unfold Ey
  rw [h.s_]
  refine W.bind (W.mono (Q := fun b => b = true → x1 < s.length) (W.Di (fun hlt => ?_) fun _ => W.ret fun e => by cases e) fun x7 h7 => W.bind (W.mono (Q := fun b => b = true → x1 < s.length) (W.ite (fun e => ?_) fun _ => W.ret fun e => by cases e) fun x9 h9 => W.ite (fun e => ?_) fun _ => W.ret ⟨g1, g2⟩))
  ·obtain ⟨v, hv, _⟩ := H3 (s := s) (i := x1) ⟨by omega, hlt⟩
   rw [hv]; exact W.bind (W.ret (W.ret fun _ => hlt))
  ·obtain ⟨v, hv, _⟩ := H3 (s := s) (i := x1) ⟨by omega, h7 e⟩
   rw [hv]; exact W.bind (W.ret (W.ret fun _ => h7 e))
  ·have hlt := h9 (Bool.and_eq_true_iff.1 e).1
   obtain ⟨v, hv, _⟩ := H3 (s := s) (i := x1) ⟨by omega, hlt⟩
   rw [hv]
   refine W.bind (W.ret (W.ret ?_))
   rw [IW (x := x1 + 1) (by omega) (by omega)]
   exact ⟨⟨by simp only; omega, by simp only; omega⟩, by simp only; omega⟩
 ·rintro ⟨x4, x5, x6⟩ hr
  exact W.ret ⟨x4, rfl, hr⟩
theorem RC {s : List UInt8} (hl : s.length ≤ 8192) {a : Int} (ha : 0 ≤ a) {w : AF} (h : Wk s a w) : W (Dr w) fun r => ∃ i, r.2.2.2 = w.go i ∧ w.at_ ≤ i ∧ i ≤ s.length := by
 have h1 := h.lo
 unfold Dr
 refine W.bind ((N2 hl ha h).mono ?_)
 rintro ⟨x1, x2, x3⟩ ⟨i, rfl, g1, g2⟩
 refine W.ite (fun _ => W.ret ⟨i, rfl, g1, g2⟩) fun _ => ?_
 simp only []
 refine W.bind (W.mono (Q := fun o => match o with
  | .inl (x4, x5, x6, x7, x8, x9, x10, x11, x12, x13) => ∃ j, (⟨x4, x5, x6, ⟨w.t_.AU, x7⟩, x8, x9, x10, x11⟩ : AF) = w.go j ∧ w.at_ ≤ j ∧ j ≤ s.length
  | .inr (x14, x15, x16, x17, x18, x19, x20, x21, x22, x23, x24) => ∃ j, (⟨x14, x15, x16, ⟨w.t_.AU, x17⟩, x18, x19, x20, x21⟩ : AF) = w.go j ∧ w.at_ ≤ j ∧ j ≤ s.length) ?_ ?_)
 ·rw [h.s_, Jy ⟨by omega, g2⟩, Option.bind_some]
  refine W.bind ((KT _ _).mono fun x26 h26 => W.ite (fun e => ?_) fun _ => W.ret ⟨i, by rw [← h.s_], g1, g2⟩)
  have hlen := h26 e
  rw [List.length_drop, show ([44] : List UInt8).length = 1 from rfl] at hlen
  rw [IW (x := i + 1) (by omega) (by omega)]
  have hg : Wk s a (w.go (i + 1)) := h.go (by omega) (by omega)
  have es : (⟨s, i + 1, w.AX, ⟨w.t_.AU, w.t_.Bf⟩, w.An, w.BC, w.BB, w.Ay⟩ : AF) = w.go (i + 1) := by rw [← h.s_]
  rw [es]
  refine W.any (W.top (Lr hl ha hg _ (by simp))) fun x27 => W.ite (fun _ => W.bind ((N2 hl ha hg).mono ?_)) fun _ => W.ret ⟨i + 1, es, by omega, by omega⟩
  rintro ⟨x28, x29, x30⟩ ⟨j, rfl, k1, k2⟩
  simp only at k1
  exact W.ite (fun _ => W.ret ⟨j, rfl, by omega, k2⟩) fun _ => W.ret ⟨j, rfl, by omega, k2⟩
 ·rintro o ho
  cases o with
  | inl o =>
   obtain ⟨x4, x5, x6, x7, x8, x9, x10, x11, x12, x13⟩ := o
   obtain ⟨j, e, k1, k2⟩ := ho
   simp only []
   rw [e]
   refine W.bind ((IL hl ha (h.go (by omega) k2) _ (by simp)).mono ?_)
   rintro ⟨x31, x32⟩ hr
   rcases hr with ⟨_, e2⟩ | ⟨_, q, e2, k3, k4⟩
   ·simp only at e2
    subst e2
    exact W.ret ⟨j, rfl, k1, k2⟩
   ·simp only at e2 k3
    subst e2
    exact W.ret ⟨q, rfl, by omega, k4⟩
  | inr o =>
   obtain ⟨x14, x15, x16, x17, x18, x19, x20, x21, x22, x23, x24⟩ := o
   exact W.ret ho
theorem JT (w : AF) (i : Int) : W (CA w i) fun r => ∃ q, r = ⟨w.s_, w.at_, w.AX, w.t_, w.An, w.BC, q, w.Ay⟩ := by
 unfold CA
 exact W.Di (fun _ => W.ret ⟨i, rfl⟩) fun _ => W.ret ⟨w.BB, rfl⟩
end Go.Av.L
