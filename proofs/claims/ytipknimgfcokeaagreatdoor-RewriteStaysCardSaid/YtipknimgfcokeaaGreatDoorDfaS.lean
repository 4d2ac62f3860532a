/-
  Rex: repeats, nests, escapes, atoms, branches, groups; any expression is told, and what is told is a right tree.
-/
import Derived.Test.YtipknimgfcokeaaGreatDoorDfaR
namespace Go.Av.L
open Go.Av Go.Lib
set_option linter.unusedVariables false
set_option linter.unusedSimpArgs false
theorem Mv {s : List UInt8} (hl : s.length ≤ 8192) {a : Int} (ha : 0 ≤ a) {w : AF} (h : Wk s a w) {g : Prop} (hg : g → Pk w.Ay w.t_.AU) (n : Int) : W (Cl w n) (R3 s w.at_ g) := by
 have h0 : 0 ≤ w.at_ := by have := h.lo; omega
 unfold Cl
 let Q : (List UInt8) × Int × Bool × Int × Int × Int × Int × Bool × (List AJ) × Int → Prop := fun (x1, x2, x3, x4, x5, x6, x7, x8, x9, x10) => Wk s w.at_ ⟨x1, x2, x3, ⟨x9, x4⟩, x5, x6, x7, x8⟩ ∧ (g → Pk x8 x9)
 refine W.bind (W.mono (W.loop Q (fun x => (s.length - x.2.1).toNat) ⟨⟨h.s_, Int.le_refl _, h.hi, h.nd⟩, hg⟩ ?_ (Q := fun o => match o with | .inl x => Q x | .inr x => Q x)) ?_)
 ·rintro ⟨x1, x2, x3, x4, x5, x6, x7, x8, x9, x10⟩ ⟨k, kg⟩
  have k1 := k.lo
  have k2 := k.hi
  simp only at k1 k2
  unfold Eb
  refine W.bind (W.ret (W.ite (fun _ => ?_) fun _ => W.ret ⟨k, kg⟩))
  let w0 : AF := ⟨x1, x2, x3, ⟨x9, x4⟩, x5, x6, x7, x8⟩
  have k0 : Wk s w.at_ w0 := k
  refine W.bind (W.mono (Q := fun o => match o with
   | .inl (x32, x33, x34, x35, x36, x37, x38, x39, x40, x41) => x39 = x8 ∧ Wk s (x2 + 1) ⟨x32, x33, x34, ⟨x9, x35⟩, x36, x37, x38, x39⟩
   | .inr (x42, x43, x44, x45, x46, x47, x48, x49, x50) => x49 = x8 ∧ Wk s w.at_ ⟨x42, x43, x44, ⟨x9, x45⟩, x46, x47, x48, x49⟩) ?_ ?_)
  ·rw [show x1 = s from k.s_, Jy ⟨by omega, k2⟩, Option.bind_some]
   have k0' : Wk s w.at_ ⟨s, x2, x3, ⟨x9, x4⟩, x5, x6, x7, x8⟩ := ⟨rfl, k1, k2, k.nd⟩
   have go : ∀ {i : Int} {x40 x41 : Int}, x2 + 1 ≤ i → i ≤ s.length → x8 = x8 ∧ Wk s (x2 + 1) ⟨s, i, x3, ⟨x9, x4⟩, x5, x6, x7, x8⟩ := fun h1 h2 => ⟨rfl, rfl, h1, h2, k.nd⟩
   refine W.bind ((KT _ _).mono fun x52 h52 => W.ite (fun e => W.ret ?_) fun _ => ?_)
   ·have := h52 e
    rw [List.length_drop, show ([42] : List UInt8).length = 1 from rfl] at this
    rw [IW (by omega) (by omega)]
    exact ⟨rfl, rfl, by (try simp only); omega, by (try simp only); omega, k.nd⟩
   refine W.bind ((IL hl (by omega) k0' [43] (by simp)).mono ?_)
   rintro ⟨b, y⟩ hr
   rcases hr with ⟨e1, e2⟩ | ⟨e1, i, e2, g1, g2⟩ <;> simp only at e1 e2 <;> subst e1 <;> subst e2
   ·simp only [C3]
    refine W.bind ((IL hl (by omega) k0' [63] (by simp)).mono ?_)
    rintro ⟨b, y⟩ hr
    rcases hr with ⟨e1, e2⟩ | ⟨e1, i, e2, g1, g2⟩ <;> simp only at e1 e2 <;> subst e1 <;> subst e2
    ·simp only [C3]
     refine W.bind ((IL hl (by omega) k0' [123] (by simp)).mono ?_)
     rintro ⟨b, y⟩ hr
     rcases hr with ⟨e1, e2⟩ | ⟨e1, i, e2, g1, g2⟩ <;> simp only at e1 e2 <;> subst e1 <;> subst e2
     ·exact W.ret ⟨rfl, k0'⟩
     ·simp only [List.length_cons, List.length_nil] at g1
      simp only [FX]
      refine W.bind ((RC hl (by omega) (k0'.go (i := i) (by omega) g2)).mono ?_)
      rintro ⟨x59, x60, x61, x62⟩ ⟨j, rfl, g3, g4⟩
      simp only at g3 ⊢
      refine W.ite (fun _ => W.bind ((JT _ _).mono ?_)) fun _ => W.ret ⟨rfl, rfl, by (try simp only); omega, g4, k.nd⟩
      rintro _ ⟨q, rfl⟩
      exact W.ret ⟨rfl, rfl, by (try simp only); omega, g4, k.nd⟩
    ·simp only [List.length_cons, List.length_nil] at g1
     exact W.ret ⟨rfl, rfl, by (try simp only); omega, g2, k.nd⟩
   ·simp only [List.length_cons, List.length_nil] at g1
    exact W.ret ⟨rfl, rfl, by (try simp only); omega, g2, k.nd⟩
  ·rintro o ho
   cases o with
   | inl o =>
    obtain ⟨x32, x33, x34, x35, x36, x37, x38, x39, x40, x41⟩ := o
    obtain ⟨rfl, f⟩ := ho
    refine W.bind ((Ix f _).mono ?_)
    rintro ⟨x64, x65, x66⟩ hr
    have r1 := hr.lo
    have r2 := hr.hi
    have r3 := f.lo
    simp only at r1 r2 r3
    exact W.ret ⟨⟨⟨hr.s_, by (try simp only); omega, hr.hi, hr.nd⟩, fun _ => hr.got trivial⟩, by (try simp only); omega⟩
   | inr o =>
    obtain ⟨x42, x43, x44, x45, x46, x47, x48, x49, x50⟩ := o
    obtain ⟨rfl, f⟩ := ho
    exact W.ret ⟨f, kg⟩
 ·rintro o ho
  cases o with
  | inl o =>
   obtain ⟨x1, x2, x3, x4, x5, x6, x7, x8, x9, x10⟩ := o
   obtain ⟨f, fg⟩ := ho
   exact W.ret ⟨f.s_, f.lo, f.hi, f.nd, fg⟩
  | inr o =>
   obtain ⟨x1, x2, x3, x4, x5, x6, x7, x8, x9, x10⟩ := o
   obtain ⟨f, fg⟩ := ho
   exact W.ret ⟨f.s_, f.lo, f.hi, f.nd, fg⟩
theorem P9 {s : List UInt8} {a : Int} {w : AF} (h : Wk s a w) (kind : Int) (l : List Int) (hll : l.length ≤ 100000) (hg : l ≠ [] → Pk w.Ay w.t_.AU) : W (DF w kind l) (R3 s w.at_ True) := by
 unfold DF
 rw [show ((l.length : Int) == 0) = decide (l.length = 0) from SS l.length 0]
 refine W.Di (fun _ => W.bind ((Ix h _).mono ?_)) fun h0 => ?_
 ·rintro ⟨x1, x2, x3⟩ hr
  exact W.ret ⟨hr.s_, hr.lo, hr.hi, hr.nd, hr.got⟩
 have hg := hg (fun e => h0 (by rw [e]; rfl))
 rw [IW (x := (l.length : Int) - 1) (by omega) (by omega), IW (x := (l.length : Int) - 2) (by omega) (by omega), show (l.length : Int) - 1 = ((l.length - 1 : Nat) : Int) by omega, DM (show l.length - 1 < l.length by omega), Option.bind_some]
 let Q : (List UInt8) × Int × Bool × Int × Int × Int × Int × Bool × (List AJ) × Int → Prop := fun (x1, x2, x3, x4, x5, x6, x7, x8, x9, x10) => Wk s w.at_ ⟨x1, x2, x3, ⟨x9, x4⟩, x5, x6, x7, x8⟩ ∧ Pk x8 x9
 refine W.bind (W.mono (W.loop (fun (x5, x6, x7, x8, x9, x10, x11, x12, x13, x14, x15) => Q (x5, x6, x7, x8, x9, x10, x11, x12, x13, x14) ∧ -1 ≤ x15 ∧ x15 < l.length) (fun x => (x.2.2.2.2.2.2.2.2.2.2 + 1).toNat) ⟨⟨⟨h.s_, Int.le_refl _, h.hi, h.nd⟩, hg⟩, by omega, by omega⟩ ?_ (Q := Q)) ?_)
 ·rintro ⟨x5, x6, x7, x8, x9, x10, x11, x12, x13, x14, x15⟩ ⟨⟨k, kg⟩, k1, k2⟩
  unfold E1
  refine W.Di (fun hge => ?_) fun _ => W.ret ⟨k, kg⟩
  obtain ⟨q, hq⟩ := Int.eq_ofNat_of_zero_le hge
  subst hq
  rw [DM (show q < l.length by omega), Option.bind_some]
  refine W.bind ((Ix k _).mono ?_)
  rintro ⟨x27, x28, x29⟩ hr
  have r1 := hr.lo
  have r3 := k.lo
  simp only at r1 r3
  refine W.ret ⟨⟨⟨⟨hr.s_, by (try simp only); omega, hr.hi, hr.nd⟩, hr.got trivial⟩, ?_, ?_⟩, ?_⟩ <;> (try simp only) <;> rw [IW (by omega) (by omega)] <;> omega
 ·rintro ⟨x1, x2, x3, x4, x5, x6, x7, x8, x9, x10⟩ ⟨f, fg⟩
  exact W.ret ⟨f.s_, f.lo, f.hi, f.nd, fun _ => fg⟩
theorem QF {s : List UInt8} (hl : s.length ≤ 8192) {a : Int} (ha : 0 ≤ a) {w : AF} (h : Wk s a w) (hlt : w.at_ < s.length) {g : Prop} (hg : g → Pk w.Ay w.t_.AU) : W (DZ w) fun r => R3 s w.at_ g r ∧ (r.2.1.at_ = w.at_ ∨ Pk r.2.1.Ay r.2.2) := by
 have h1 := h.lo
 unfold DZ
 refine W.any (W.ite (fun _ => W.Cm (by simp) (W.ret trivial)) fun _ => W.ret trivial) fun x1 => ?_
 rw [h.s_, IW (x := w.at_ + 1) (by omega) (by omega), IW (x := w.at_ + 2) (by omega) (by omega), IW (x := w.at_ + 2 - 1) (by omega) (by omega), show w.at_ + 2 - 1 = w.at_ + 1 by omega]
 refine W.bind (W.mono (Q := fun b => b = false → w.at_ + 1 < s.length) ?_ fun x2 h2 => W.ite (fun _ => W.bind ((JT w w.at_).mono ?_)) fun e => ?_)
 ·rw [Fk]
  split
  ·exact W.ret fun e => by cases e
  ·obtain ⟨v, hv, hr⟩ := H3 (s := s) (i := w.at_ + 1) ⟨by omega, by omega⟩
   rw [hv, Option.bind_some]
   unfold E8 EC IZ
   rw [if_pos hr]
   exact W.bind (W.ret (W.ret fun _ => by omega))
 ·rintro _ ⟨q, rfl⟩
  exact W.ret ⟨⟨h.s_, Int.le_refl _, h.hi, h.nd, hg⟩, .inl rfl⟩
 ·have h2 := h2 e
  obtain ⟨v, hv, hr⟩ := H3 (s := s) (i := w.at_ + 1) ⟨by omega, by omega⟩
  rw [hv, Option.bind_some]
  have hk : Wk s w.at_ ⟨s, w.at_ + 2, w.AX, w.t_, w.An, w.BC, w.BB, w.Ay⟩ := ⟨rfl, by (try simp only); omega, by (try simp only); omega, h.nd⟩
  refine W.bind ((Pf hk hr).mono ?_)
  rintro ⟨x7, x8, x9⟩ hr
  have r1 := hr.lo
  simp only at r1
  exact W.ret ⟨⟨hr.s_, by (try simp only); omega, hr.hi, hr.nd, fun _ => hr.got trivial⟩, .inr (hr.got trivial)⟩
def T4 (s : List UInt8) (S : A9) (k : Nat) : Prop := ∀ (w : AF) (g : Prop), Wk s 0 w → w.at_ < s.length → s.length - w.at_.toNat ≤ k → (g → Pk w.Ay w.t_.AU) → W (S.Dk w) fun r => R3 s w.at_ g r ∧ (r.2.1.at_ = w.at_ ∨ Pk r.2.1.Ay r.2.2)
def P1 (s : List UInt8) (S : A9) (k : Nat) : Prop := ∀ w : AF, Wk s 0 w → s.length - w.at_.toNat ≤ k → W (S.DE w) (R3 s w.at_ True)
def Rl (s : List UInt8) (S : A9) (k : Nat) : Prop := ∀ w : AF, Wk s 0 w → s.length - w.at_.toNat ≤ k → W (S.CK w) (R3 s w.at_ True)
def R7 (s : List UInt8) (S : A9) (k : Nat) : Prop := ∀ w : AF, Wk s 0 w → s.length - w.at_.toNat ≤ k → W (S.DU w) (R3 s w.at_ True)
theorem Tp {s : List UInt8} (hl : s.length ≤ 8192) {S : A9} {k : Nat} (G : ∀ q, q < k → R7 s S q) (w : AF) (g : Prop) (h : Wk s 0 w) (hlt : w.at_ < s.length) (hk : s.length - w.at_.toNat ≤ k) (hg : g → Pk w.Ay w.t_.AU) : W (EH S w) fun r => R3 s w.at_ g r ∧ (r.2.1.at_ = w.at_ ∨ Pk r.2.1.Ay r.2.2) := by
 have h0 := h.lo
 have hs := h.s_
 subst hs
 have same : ∀ {q x1 : Int}, R3 w.s_ w.at_ g (x1, (⟨w.s_, w.at_, w.AX, ⟨w.t_.AU, w.t_.Bf⟩, w.An, w.BC, q, w.Ay⟩ : AF), w.t_.AU) := ⟨h.s_, Int.le_refl _, h.hi, h.nd, hg⟩
 have fin : ∀ {x1 : Int} {x2 : AF} {x3 : List AJ} {b : Int}, w.at_ ≤ b → R3 w.s_ b True (x1, x2, x3) → R3 w.s_ w.at_ g (x1, (⟨x2.s_, x2.at_, x2.AX, ⟨x3, x2.t_.Bf⟩, x2.An, x2.BC, x2.BB, x2.Ay⟩ : AF), x3) ∧ (x2.at_ = w.at_ ∨ Pk x2.Ay x3) := fun hb hr => ⟨⟨hr.s_, Int.le_trans hb hr.lo, hr.hi, hr.nd, fun _ => hr.got trivial⟩, .inr (hr.got trivial)⟩
 have one : Wk w.s_ 0 (w.go (IntKind.i64.wrap (w.at_ + 1))) ∧ w.at_ ≤ (w.go (IntKind.i64.wrap (w.at_ + 1))).at_ := by
  rw [IW (x := w.at_ + 1) (by (try simp only); omega) (by (try simp only); omega)]
  exact ⟨h.go (by (try simp only); omega) (by (try simp only); omega), by (try simp only); omega⟩
 have add1 : ∀ n, W ((BY (w.go (IntKind.i64.wrap (w.at_ + 1))) n).bind fun (x10, x11, x12) => some (x10, (⟨x11.s_, x11.at_, x11.AX, (⟨x12, x11.t_.Bf⟩ : AI), x11.An, x11.BC, x11.BB, x11.Ay⟩ : AF), x12)) fun r => R3 w.s_ w.at_ g r ∧ (r.2.1.at_ = w.at_ ∨ Pk r.2.1.Ay r.2.2) := by
  intro n
  refine W.bind ((Ix one.1 n).mono ?_)
  rintro ⟨x10, x11, x12⟩ hr
  exact W.ret (fin one.2 hr)
 unfold EH
 obtain ⟨v, hv, hr⟩ := H3 (s := w.s_) (i := w.at_) ⟨h0, hlt⟩
 rw [hv, Option.bind_some]
 refine W.ite (fun _ => ?_) fun _ => W.ite (fun _ => ?_) fun _ => ?_
 ·refine W.bind ((RL hl ⟨h0, hlt⟩ false).mono ?_)
  rintro ⟨x2, x3, x4⟩ hb
  simp only at hb ⊢
  rw [HF]
  split
  ·rename_i e
   obtain ⟨b1, b2⟩ := hb e
   have hk3 : Wk w.s_ x3 ⟨w.s_, x3, w.AX, w.t_, w.An, w.BC, w.BB, w.Ay⟩ := ⟨rfl, Int.le_refl _, b2, h.nd⟩
   refine W.bind ((Ix hk3 _).mono ?_)
   rintro ⟨x6, x7, x8⟩ hr
   exact W.ret (fin (b := x3) (by (try simp only); omega) hr)
  ·refine W.bind ((JT w w.at_).mono ?_)
   rintro _ ⟨q, rfl⟩
   exact W.ret ⟨same, .inl rfl⟩
 ·exact W.any Vj fun x9 => add1 _
 ·refine W.any (W.ite (fun _ => W.any (W.ite (fun _ => W.ret trivial) fun _ => W.any (Ti hl (Int.le_refl _) h hlt) fun _ => W.ret trivial) fun _ => W.ret trivial) fun _ => W.ret trivial) fun x13 => ?_
  refine W.ite (fun _ => add1 _) fun _ => W.ite (fun _ => add1 _) fun _ => ?_
  refine W.bind ((IL hl (Int.le_refl _) h [40] (by simp)).mono ?_)
  rintro ⟨b, y⟩ hr
  rcases hr with ⟨e1, e2⟩ | ⟨e1, i, e2, g1, g2⟩ <;> simp only at e1 e2 <;> subst e1 <;> subst e2
  ·simp only [C3]
   have h' : Wk y.s_ 0 ⟨y.s_, y.at_, y.AX, ⟨y.t_.AU, y.t_.Bf⟩, y.An, y.BC, y.BB, y.Ay⟩ := h
   refine W.ite (fun _ => W.bind ((QF hl (Int.le_refl _) h' hlt hg).mono ?_)) fun _ => ?_
   ·rintro ⟨x27, x28, x29⟩ ⟨r1, r2⟩
    exact W.ret ⟨⟨r1.s_, r1.lo, r1.hi, r1.nd, r1.got⟩, r2⟩
   ·refine W.bind (W.mono (Q := fun _ => True) (W.ite (fun _ => W.bind (W.mono (Q := fun _ => True) ?_ ?_)) fun _ => W.ret trivial) ?_)
    ·refine W.any (W.ite (fun _ => W.ret trivial) fun _ => W.ret trivial) fun _ => W.ite (fun _ => W.ret trivial) fun _ => W.any (W.ite (fun _ => W.ret trivial) fun _ => W.ret trivial) fun _ => W.ite (fun _ => W.ret trivial) fun _ => W.any (W.ite (fun _ => W.ret trivial) fun _ => W.ret trivial) fun _ => W.ite (fun _ => W.ret trivial) fun _ => W.ret trivial
    ·rintro o _
     cases o with
     | inl _ => exact W.ret trivial
     | inr _ => exact W.ret trivial
    ·rintro o _
     cases o with
     | inl _ =>
      simp only []
      refine W.bind ((Pf one.1 hr).mono ?_)
      rintro ⟨x34, x35, x36⟩ hr
      exact W.ret (fin one.2 hr)
     | inr x => exact W.ret ⟨same, .inl rfl⟩
  ·simp only [List.length_cons, List.length_nil] at g1
   simp only [FX]
   refine W.bind ((G (w.s_.length - i.toNat) (by (try simp only); omega) (w.go i) (h.go (by (try simp only); omega) g2) (by (try simp only); omega)).mono ?_)
   rintro ⟨x24, x25, x26⟩ hr
   exact W.ret (fin (b := i) (by (try simp only); omega) hr)
theorem Rc {s : List UInt8} (hl : s.length ≤ 8192) {S : A9} {k : Nat} (A : T4 s S k) (w : AF) (h : Wk s 0 w) (hk : s.length - w.at_.toNat ≤ k) : W (Dq S w) (R3 s w.at_ True) := by
 have h0 := h.lo
 unfold Dq
 let Q : (List Int) × (List UInt8) × Int × Bool × Int × Int × Int × Int × Bool × (List AJ) → Prop := fun (l, x1, x2, x3, x4, x5, x6, x7, x8, x9) => Wk s w.at_ ⟨x1, x2, x3, ⟨x9, x4⟩, x5, x6, x7, x8⟩ ∧ (l ≠ [] → Pk x8 x9) ∧ (l.length : Int) ≤ x2
 refine W.bind (W.mono (W.loop (fun (l, x1, x2, x3, x4, x5, x6, x7, x8, x9, _) => Q (l, x1, x2, x3, x4, x5, x6, x7, x8, x9)) (fun x => (s.length - x.2.2.1).toNat) ⟨⟨h.s_, Int.le_refl _, h.hi, h.nd⟩, fun e => absurd rfl e, h0⟩ ?_ (Q := Q)) ?_)
 ·rintro ⟨l, x2, x3, x4, x5, x6, x7, x8, x9, x10, x11⟩ ⟨f, fg, fl⟩
  have f1 := f.lo
  have f2 := f.hi
  have f0 : x2 = s := f.s_
  subst f0
  simp only at f1 f2
  have fw : Wk x2 0 ⟨x2, x3, x4, ⟨x10, x5⟩, x6, x7, x8, x9⟩ := ⟨rfl, by (try simp only); omega, f2, f.nd⟩
  unfold Ez
  refine W.bind (W.ret (W.bind (W.mono (Q := fun b => b = true → x3 < x2.length) (W.ite (fun _ => W.bind ((NO hl (Int.le_refl _) fw).mono fun b hb => W.ret fun e => hb (by simpa using e))) fun _ => W.ret fun e => by cases e) fun x23 h23 => W.ite (fun e23 => ?_) fun _ => W.ret ⟨f, fg, fl⟩)))
  have hlt := h23 e23
  obtain ⟨v, hv, hr⟩ := H3 (s := x2) (i := x3) ⟨by omega, hlt⟩
  have w1 : IntKind.i64.wrap (x3 + 1) = x3 + 1 := IW (by (try simp only); omega) (by (try simp only); omega)
  rw [hv, w1]
  have one : Wk x2 w.at_ ⟨x2, x3 + 1, x4, ⟨x10, x5⟩, x6, x7, x8, x9⟩ := ⟨rfl, by (try simp only); omega, by (try simp only); omega, f.nd⟩
  have put : ∀ {x30 : Int} {x31 : AF} {x32 : List AJ} {b : Bool} {c : Int} {P : ((List Int) × (List UInt8) × Int × Bool × Int × Int × Int × Int × Bool × (List AJ) × Bool) ⊕ ((List Int) × (List UInt8) × Int × Bool × Int × Int × Int × Int × Bool × (List AJ)) → Prop}, x3 < c → R3 x2 c True (x30, x31, x32) → (∀ l' y2 y3 y4 y5 y6 y7 y8 y9 y10 b', Q (l', y2, y3, y4, y5, y6, y7, y8, y9, y10) → (x2.length - y3).toNat < (x2.length - x3).toNat → P (.inl (l', y2, y3, y4, y5, y6, y7, y8, y9, y10, b'))) → W (Cm (KI 8 (l.length + ([x30] : List Int).length)) <| some (Sum.inl ((l ++ ([x30] : List Int)), x31.s_, x31.at_, x31.AX, x31.t_.Bf, x31.An, x31.BC, x31.BB, x31.Ay, x32, b))) P := by
   intro x30 x31 x32 b c P hc hr hP
   have r1 := hr.lo
   have r2 := hr.hi
   simp only at r1 r2
   refine W.Cm (Em (by simp; omega) (by simp; omega)) (W.ret (hP _ _ _ _ _ _ _ _ _ _ _ ⟨⟨hr.s_, by (try simp only); omega, hr.hi, hr.nd⟩, fun _ => hr.got trivial, ?_⟩ ?_))
   ·simp only [List.length_append, List.length_singleton]; omega
   ·omega
  refine W.any (W.ite (fun _ => W.bind (W.ret (W.ret trivial))) fun _ => W.ret trivial) fun x25 => W.ite (fun _ => ?_) fun _ => ?_
  ·refine W.bind ((Pf one (by decide)).mono ?_)
   rintro ⟨x27, x28, x29⟩ hr
   have r1 := hr.lo
   simp only at r1
   refine W.bind ((Mv hl (by (try simp only); omega) hr.wk (g := True) (fun _ => hr.got trivial) x27).mono ?_)
   rintro ⟨x30, x31, x32⟩ hr2
   exact put (by (try simp only); omega) hr2 fun _ _ _ _ _ _ _ _ _ _ _ p q => ⟨p, q⟩
  refine W.any (W.ite (fun _ => W.bind (W.ret (W.ret trivial))) fun _ => W.ret trivial) fun x33 => W.ite (fun _ => ?_) fun _ => ?_
  ·refine W.bind ((Ix one _).mono ?_)
   rintro ⟨x35, x36, x37⟩ hr
   exact put (by (try simp only); omega) hr fun _ _ _ _ _ _ _ _ _ _ _ p q => ⟨p, q⟩
  refine W.bind ((A _ (l ≠ []) fw hlt (by (try simp only); omega) fg).mono ?_)
  rintro ⟨x38, x39, x40⟩ ⟨r1, r2⟩
  have q1 := r1.lo
  have q2 := r1.hi
  simp only at q1 q2 r2
  refine W.bind (W.ret (W.ite (fun _ => W.ret ⟨⟨r1.s_, by (try simp only); omega, r1.hi, r1.nd⟩, r1.got, by (try simp only); omega⟩) fun _ => ?_))
  simp only [Fk]
  split
  ·refine W.bind ((JT _ _).mono ?_)
   rintro _ ⟨q, rfl⟩
   exact W.ret ⟨⟨r1.s_, by (try simp only); omega, r1.hi, r1.nd⟩, r1.got, by (try simp only); omega⟩
  ·rename_i hne
   refine W.bind ((Mv hl (by (try simp only); omega) r1.wk (g := True) (fun _ => r2.resolve_left hne) x38).mono ?_)
   rintro ⟨x43, x44, x45⟩ hr2
   exact put (by (try simp only); omega) hr2 fun _ _ _ _ _ _ _ _ _ _ _ p q => ⟨p, q⟩
 ·rintro ⟨l, x2, x3, x4, x5, x6, x7, x8, x9, x10⟩ ⟨f, fg, fl⟩
  have f1 := f.lo
  have f2 := f.hi
  simp only at f1 f2
  refine W.bind ((P9 f 2 l (by (try simp only); omega) fg).mono ?_)
  rintro ⟨x46, x47, x48⟩ hr
  have r1 := hr.lo
  simp only at r1
  exact W.ret ⟨hr.s_, by (try simp only); omega, hr.hi, hr.nd, hr.got⟩
theorem UE {s : List UInt8} (hl : s.length ≤ 8192) {S : A9} {k : Nat} (B : P1 s S k) (w : AF) (h : Wk s 0 w) (hk : s.length - w.at_.toNat ≤ k) : W (C0 S w) (R3 s w.at_ True) := by
 have h0 := h.lo
 unfold C0
 refine W.bind (W.mono (W.loop (fun (l, x1, x2, x3, x4, x5, x6, x7, x8, x9) => Wk s w.at_ ⟨x1, x2, x3, ⟨x9, x4⟩, x5, x6, x7, x8⟩ ∧ (l.length : Int) ≤ x2) (fun x => (s.length - x.2.2.1).toNat) ⟨⟨h.s_, Int.le_refl _, h.hi, h.nd⟩, h0⟩ ?_ (Q := fun (l, x1, x2, x3, x4, x5, x6, x7, x8, x9) => Wk s w.at_ ⟨x1, x2, x3, ⟨x9, x4⟩, x5, x6, x7, x8⟩ ∧ l.length ≤ 10000 ∧ Pk x8 x9)) ?_)
 ·rintro ⟨l, x2, x3, x4, x5, x6, x7, x8, x9, x10⟩ ⟨f, fl⟩
  have f1 := f.lo
  have f2 := f.hi
  simp only at f1 f2
  have fw : Wk s 0 ⟨x2, x3, x4, ⟨x10, x5⟩, x6, x7, x8, x9⟩ := ⟨f.s_, by (try simp only); omega, f2, f.nd⟩
  unfold EE
  refine W.bind ((B _ fw (by (try simp only); omega)).mono ?_)
  rintro ⟨x21, x22, x23⟩ hr
  have r1 := hr.lo
  have r2 := hr.hi
  simp only at r1 r2
  have hgot : Pk x22.Ay x23 := hr.got trivial
  refine W.Cm (Em (by simp; omega) (by simp; omega)) (W.bind (W.ret (W.bind (W.mono (Q := fun (x25, x26, x27, x28, x29, x30, x31, x32, x33) => Wk s w.at_ ⟨x25, x26, x27, ⟨x23, x28⟩, x29, x30, x31, x32⟩ ∧ Pk x32 x23 ∧ (x33 = false → x3 < x26)) (W.ite (fun _ => W.ret ⟨⟨hr.s_, by (try simp only); omega, hr.hi, hr.nd⟩, hgot, fun e => absurd e (by simp)⟩) fun _ => ?_) ?_))))
  ·refine W.bind ((IL hl (by (try simp only); omega) hr.wk [124] (by simp)).mono ?_)
   rintro ⟨b, y⟩ hr2
   rcases hr2 with ⟨e1, e2⟩ | ⟨e1, i, e2, g1, g2⟩ <;> simp only at e1 e2 <;> subst e1 <;> subst e2
   ·exact W.ret ⟨⟨hr.s_, by (try simp only); omega, hr.hi, hr.nd⟩, hgot, fun e => absurd e (by simp)⟩
   ·simp only [List.length_cons, List.length_nil] at g1
    exact W.ret ⟨⟨hr.s_, by (try simp only); omega, g2, hr.nd⟩, hgot, fun _ => by (try simp only); omega⟩
  ·rintro ⟨x25, x26, x27, x28, x29, x30, x31, x32, x33⟩ ⟨g1, g2, g3⟩
   have c1 := g1.lo
   have c2 := g1.hi
   simp only at c1 c2
   refine W.ite (fun _ => W.ret ⟨g1, by simp; omega, g2⟩) fun e => W.ret ⟨⟨g1, ?_⟩, ?_⟩
   ·have := g3 e
    simp only [List.length_append, List.length_singleton]; omega
   ·have := g3 e
    simp only; omega
 ·rintro ⟨l, x2, x3, x4, x5, x6, x7, x8, x9, x10⟩ ⟨f, fl, fg⟩
  have f1 := f.lo
  simp only at f1
  refine W.bind ((P9 f 3 l (by (try simp only); omega) (fun _ => fg)).mono ?_)
  rintro ⟨x36, x37, x38⟩ hr
  have r1 := hr.lo
  simp only at r1
  exact W.ret ⟨hr.s_, by (try simp only); omega, hr.hi, hr.nd, hr.got⟩
theorem S5 {s : List UInt8} (hl : s.length ≤ 8192) {S : A9} {k : Nat} (E : Rl s S k) (w : AF) (h : Wk s 0 w) (hk : s.length - w.at_.toNat ≤ k) : W (Dy S w) (R3 s w.at_ True) := by
 have h0 := h.lo
 unfold Dy
 refine W.any (W.ite (fun _ => W.ret trivial) fun _ => W.ret trivial) fun x1 => ?_
 refine W.bind ((E ⟨w.s_, w.at_, w.AX, w.t_, _, _, w.BB, x1⟩ ⟨h.s_, h.lo, h.hi, h.nd⟩ hk).mono ?_)
 rintro ⟨x2, x3, x4⟩ hr
 have r1 := hr.lo
 simp only at r1
 have e3 : Wk s w.at_ ⟨x3.s_, x3.at_, x3.AX, ⟨x4, x3.t_.Bf⟩, x3.An, IntKind.i64.wrap (x3.BC - 1), x3.BB, x3.Ay⟩ := ⟨hr.s_, hr.lo, hr.hi, hr.nd⟩
 let Q : (List UInt8) × Int × Bool × Int × Int × Int × Int × Bool → Prop := fun (x1, x2, x3, x5, x6, x7, x8, x9) => Wk s w.at_ ⟨x1, x2, x3, ⟨x4, x5⟩, x6, x7, x8, x9⟩
 refine W.bind (W.mono (Q := Q) (W.bind (W.ret (W.bind (W.mono (Q := fun (x14, x15, x16, x17, x18, x19, x20, x21, x22) => Q (x14, x15, x16, x17, x18, x19, x20, x21)) (W.ite (fun _ => ?_) fun _ => W.ret e3) ?_)))) ?_)
 ·refine W.bind ((IL hl h0 e3 [41] (by simp)).mono ?_)
  rintro ⟨b, y⟩ hr2
  rcases hr2 with ⟨e1, e2⟩ | ⟨e1, i, e2, g1, g2⟩ <;> simp only at e1 e2 <;> subst e1 <;> subst e2
  ·exact W.ret e3
  ·simp only [List.length_cons, List.length_nil] at g1
   exact W.ret ⟨hr.s_, by (try simp only); omega, g2, hr.nd⟩
 ·rintro ⟨x14, x15, x16, x17, x18, x19, x20, x21, x22⟩ f
  refine W.ite (fun _ => W.bind ((JT _ _).mono ?_)) fun _ => W.ret f
  rintro _ ⟨q, rfl⟩
  exact W.ret ⟨f.s_, f.lo, f.hi, f.nd⟩
 ·rintro ⟨x5, x6, x7, x8, x9, x10, x11, x12⟩ f
  refine W.bind ((Ix f _).mono ?_)
  rintro ⟨x26, x27, x28⟩ hr
  have r1 := hr.lo
  have r2 := f.lo
  simp only at r1 r2
  exact W.ret ⟨hr.s_, by (try simp only); omega, hr.hi, hr.nd, hr.got⟩
theorem TR {s : List UInt8} (hl : s.length ≤ 8192) : ∀ (k n : Nat), 4 * k + 4 ≤ n → R7 s (BP n) k ∧ Rl s (BP n) k := by
 intro k
 induction k using Nat.strongRecOn with
 | ind k ih =>
  have atom : ∀ n, 4 * k + 1 ≤ n → T4 s (BP n) k := by
   intro n hn
   obtain ⟨m, rfl⟩ : ∃ m, n = m + 1 := ⟨n - 1, by omega⟩
   exact fun w g h1 h2 h3 h4 => Tp hl (fun q hq => (ih q hq m (by (try simp only); omega)).1) w g h1 h2 h3 h4
  have branch : ∀ n, 4 * k + 2 ≤ n → P1 s (BP n) k := by
   intro n hn
   obtain ⟨m, rfl⟩ : ∃ m, n = m + 1 := ⟨n - 1, by omega⟩
   exact fun w h1 h2 => Rc hl (atom m (by (try simp only); omega)) w h1 h2
  have expr : ∀ n, 4 * k + 3 ≤ n → Rl s (BP n) k := by
   intro n hn
   obtain ⟨m, rfl⟩ : ∃ m, n = m + 1 := ⟨n - 1, by omega⟩
   exact fun w h1 h2 => UE hl (branch m (by (try simp only); omega)) w h1 h2
  intro n hn
  refine ⟨?_, expr n (by (try simp only); omega)⟩
  obtain ⟨m, rfl⟩ : ∃ m, n = m + 1 := ⟨n - 1, by omega⟩
  exact fun w h1 h2 => S5 hl (expr m (by (try simp only); omega)) w h1 h2
theorem T6 {nodes : List AJ} {root : Int} (h : PY nodes root) (h0 : 0 < nodes.length) : CC ⟨nodes, root⟩ = some true := by
 have hn := h.len
 have hr := h.root
 refine W.eq ?_
 unfold CC
 refine W.ite (fun hb => ?_) fun _ => ?_
 ·simp only [Bool.or_eq_true, decide_eq_true_eq] at hb; omega
 refine W.bind (W.mono (W.list (l := nodes) (fun (_ : Unit) (i : Nat) => (i : Int)) (fun _ _ => True) ?_ ?_ () trivial (Q := fun o => o = .inl ())) fun o ho => by subst ho; exact W.ret rfl)
 ·intro _ _
  unfold D4
  exact W.Di (fun h => by simp only at h; omega) fun _ => W.ret rfl
 ·intro _ i hi _
  unfold D4
  refine W.Di (fun _ => ?_) fun h => by simp only at h; omega
  simp only []
  rw [DM hi, Option.bind_some, h.ok i _ (List.getElem?_eq_getElem hi), Option.bind_some]
  exact W.ret ⟨(), Ha (by (try simp only); omega), trivial⟩
theorem Tg (s : List UInt8) (e : Bool) : W (D2 s e) fun r => r.2.2 = 0 → CC r.1 = some true := by
 unfold D2
 refine W.Di (fun _ => W.ret fun e => absurd e (by simp)) fun hl => ?_
 have hl : s.length ≤ 8192 := by omega
 have h0 : Wk s 0 ⟨s, 0, e, ⟨[], 0⟩, 0, 0, -1, false⟩ := ⟨rfl, Int.le_refl _, Int.natCast_nonneg _, fun i n hn => by simp at hn, by simp, by simp⟩
 refine W.bind (((TR hl s.length J8 (by rw [Rw]; omega)).2 _ h0 (by simp)).mono ?_)
 rintro ⟨x1, x2, x3⟩ hr
 refine W.bind (W.mono (Q := fun x => x.2.2.2.1 = x2.t_.Bf ∧ x.2.2.2.2.2.2.2 = x2.Ay) (W.bind (W.ret (W.ite (fun _ => W.bind ((JT _ _).mono ?_)) fun _ => W.ret ⟨rfl, rfl⟩))) ?_)
 ·rintro _ ⟨q, rfl⟩
  exact W.ret ⟨rfl, rfl⟩
 ·rintro ⟨x4, x5, x6, x7, x8, x9, x10, x11⟩ ⟨e1, e2⟩
  simp only at e1 e2
  subst e1 e2
  refine W.bind (W.ret (W.ite (fun _ => W.ret fun e => absurd e (by simp)) fun _ => W.ite (fun _ => W.ret fun e => absurd e (by simp)) fun hf => W.ret fun _ => ?_))
  exact T6 hr.nd ((hr.got trivial).resolve_left (by simp [hf]))
end Go.Av.L
