/-
 A part.
-/
import Derived.Test.YtdjbadhilkmiiaaGreatDoorNwD
namespace Go.Av.L
open Go.Av Go.Lib
set_option linter.unusedVariables false
set_option linter.unusedSimpArgs false
theorem XU (a b : Int) : ∃ y, TG (G9 .u8 a b) = some y := by
 unfold G9
 exact ⟨_, Un (Int.natCast_nonneg _)⟩
theorem UB (x : Int) : decide (0 ≤ Br .i64 x 7) = true := by
 unfold Br
 have h : (BitVec.ofInt IntKind.i64.bits x &&& BitVec.ofInt IntKind.i64.bits 7).toNat ≤ 7 := by
  rw [BitVec.toNat_and]
  exact Nat.le_trans Nat.and_le_right (by decide)
 rw [J4 (by omega) (by omega)]
 exact decide_eq_true (by omega)
theorem TS (n : Nat) : By .i64 (n : Int) 3 = ((n / 8 : Nat) : Int) := by
 unfold By
 rw [show (2 : Int) ^ (min (3 : Int).toNat IntKind.i64.bits) = 8 from rfl, Int.fdiv_eq_ediv_of_nonneg _ (by omega)]
 omega
theorem Tk (s : Ad) {b : Int} (h0 : 0 ≤ b) (h1 : b ≤ 255) : W (Em s b) fun _ => True := by
 obtain ⟨n, rfl⟩ := Int.eq_ofNat_of_zero_le h0
 obtain ⟨e1, e2, e3⟩ := Qw ⟨n, by omega⟩
 simp only at e1 e2 e3
 unfold Em
 obtain ⟨k, hk⟩ := Int.eq_ofNat_of_zero_le e1
 rw [hk] at e2 ⊢
 obtain ⟨v, hv⟩ := Vk s.w0 s.w1 s.w2 s.w3 (k := k) (by omega)
 rw [hv, Option.bind_some, decide_eq_true e3, DZ]
 exact W.ret trivial
theorem VA (f : C3) (x : AM) {c : Int} (h0 : 0 ≤ c) (h1 : c ≤ 255) : W (FA f x c) fun _ => True := by
 unfold FA
 refine W.ite (fun _ => W.any (W.ite (fun _ => W.ret trivial) fun _ => W.any (W.ite (fun _ => W.any ?_ fun _ => W.ret trivial) fun _ => W.ret trivial) fun _ => W.ret trivial) fun _ => W.ret trivial) fun _ => ?_
 ·unfold HW
  exact W.ite (fun _ => W.ret trivial) fun _ => W.ret trivial
 refine W.ite (fun _ => W.any (W.ret trivial) fun _ => W.ret trivial) fun _ => W.ite (fun _ => ?_) fun _ => W.ret trivial
 refine W.any (W.ret trivial) fun x5 => W.any (W.ite (fun _ => W.any (Tk _ h0 h1) fun _ => W.any (W.ite (fun _ => W.ret trivial) fun _ => W.any (W.ite (fun _ => ?_) fun _ => W.ret trivial) fun _ => W.ret trivial) fun _ => W.ret trivial) fun _ => W.ret trivial) fun _ => W.ret trivial
 refine W.any (Q := fun _ => True) ?_ fun z => W.any (Tk _ h0 h1) fun _ => W.ret trivial
 unfold Fx
 exact W.ret trivial
theorem WA (f : C3) (x : AM) (b : UInt8) : W (Er [x] f [b]) fun _ => True := by
 have i0 : HO [x] (0 : Int) = some x := rfl
 have j0 : KW [b] 0 = some (b.toNat : Int) := UT
 have hb := Gy b
 unfold Er
 refine W.bind (W.mono (Q := fun _ => True) (W.MH ?_) fun r _ => W.ret trivial)
 rw [DM, show decide ((0 : Int) < (([x] : List AM).length : Int)) = true from rfl, BT, i0, Option.bind_some, Option.bind_some]
 refine W.ite (fun _ => W.ret (W.MH ?_)) fun _ => ?_
 ·rw [show IntKind.i64.wrap ((0 : Int) + 1) = 1 from rfl, DM, show decide ((1 : Int) < (([x] : List AM).length : Int)) = false from rfl, AX, Option.bind_some, AX, show ((0 : Int) == (([b] : List UInt8).length : Int)) = false from rfl, Bool.false_and, AX, Bool.false_and, AX, Option.bind_some, AX, show decide ((0 : Int) < 0) = false from rfl, show decide ((0 : Int) ≥ (([b] : List UInt8).length : Int)) = false from rfl, Bool.or_false, AX, j0, Option.bind_some]
  refine W.any (W.any (W.ret trivial) fun _ => W.ret trivial) fun _ => W.ite (fun _ => W.ret trivial) fun _ => W.ret (W.MH ?_)
  rw [show IntKind.i64.wrap ((0 : Int) + 1) = 1 from rfl, DM, show decide ((1 : Int) < (([x] : List AM).length : Int)) = false from rfl, AX, Option.bind_some, AX, show ((1 : Int) == (([b] : List UInt8).length : Int)) = true from rfl, show ((1 : Int) == (([x] : List AM).length : Int)) = true from rfl]
  exact W.ret trivial
 ·rw [show ((0 : Int) == (([b] : List UInt8).length : Int)) = false from rfl, Bool.false_and, AX, show decide ((0 : Int) < (([b] : List UInt8).length : Int)) = true from rfl, Bool.and_self, BT, Option.bind_some, j0, Option.bind_some]
  refine W.any (W.any (VA f x hb.1 hb.2) fun _ => W.ret trivial) fun _ => W.ite (fun _ => W.ret (W.MH ?_)) fun _ => ?_
  ·rw [show IntKind.i64.wrap ((0 : Int) + 1) = 1 from rfl, DM, show decide ((1 : Int) < (([x] : List AM).length : Int)) = false from rfl, AX, Option.bind_some, AX, show ((1 : Int) == (([b] : List UInt8).length : Int)) = true from rfl, show ((1 : Int) == (([x] : List AM).length : Int)) = true from rfl]
   exact W.ret trivial
  ·rw [show decide ((-1 : Int) < 0) = true from rfl, Bool.true_or, BT, Option.bind_some]
   exact W.ret trivial
theorem UG (m : Bj) (x : AM) {c : Int} (h0 : 0 ≤ c) (h1 : c ≤ 255) : W (CK m x c) fun _ => True := by
 unfold CK
 rw [show TG c = some (UInt8.ofNat c.toNat) from if_pos ⟨h0, h1⟩, Option.bind_some]
 exact W.any (WA _ _ _) fun _ => W.ret trivial
theorem Tz {m : Bj} (hl : m.l_.length ≤ 1000) (hb : m.DU = []) : W (Cb m) fun r => r.2.length ≤ 256 := by
 unfold Cb
 refine W.bind (W.mono (W.loop (fun s => 0 ≤ s.2.2.2 ∧ s.2.2.2 ≤ 256 ∧ (s.2.2.1.length : Int) ≤ s.2.2.2) (fun s => (256 - s.2.2.2).toNat) ⟨by simp, by simp, by rw [hb]; simp⟩ ?_ (Q := fun r => r.2.2.length ≤ 256)) ?_)
 ·rintro ⟨x1, x2, x3, x4⟩ ⟨h0, h1, h3⟩
  simp only at h0 h1 h3
  unfold DV
  refine W.Mu (fun hlt => ?_) fun _ => W.ret (by simp only; omega)
  rw [J4 (x := (m.l_.length : Int) + 1) (by omega) (by omega), show ((m.l_.length : Int) + 1).toNat = m.l_.length + 1 by omega]
  refine W.Ca (decide_eq_true ⟨by omega, by omega, by omega⟩) ?_
  refine W.bind (W.mono (W.list (l := m.l_) (enc := fun (x : List UInt8) i => (x, (i : Int))) (P := fun x i => x.length = m.l_.length + 1) (Q := fun r => r.length = m.l_.length + 1) ?_ ?_ (List.replicate (m.l_.length + 1) 0) List.length_replicate) ?_)
  ·intro x hx
   rw [Cq, BH, if_neg (by omega)]
   exact W.ret hx
  ·intro x i hi hx
   rw [Cq, BH, if_pos (by omega), Fh hi, Option.bind_some, Xv (x := x4) (by omega) (by omega)]
   refine W.bind (W.mono (Q := fun y => y.length = m.l_.length + 1) (W.any (UG _ _ (by omega) (by omega)) fun b => W.ite (fun _ => ?_) fun _ => W.ret hx) fun y hy => W.ret ⟨y, by rw [Ff (by omega)], hy⟩)
   rw [Fh (by omega), Option.bind_some]
   exact W.ret (by rw [List.length_set, hx])
  ·intro x10 hx
   refine W.any (W.ite (fun _ => ?_) fun _ => W.ret trivial) fun x15 => ?_
   ·rw [Fh (by omega), Option.bind_some]
    exact W.ret trivial
   ·refine W.bind (W.mono (Q := fun y => (y.2.1.length : Int) ≤ x4 + 1) (W.ite (fun _ => ?_) fun _ => W.ret (by simp only; omega)) ?_)
    ·rw [Un h0, Option.bind_some]
     refine W.Ca (Im (by simp only [List.length_cons, List.length_nil]; omega) (by simp only [List.length_cons, List.length_nil]; omega)) (W.ret ?_)
     simp only [List.length_append, List.length_cons, List.length_nil]
     omega
    ·rintro ⟨x17, x18, x19⟩ hy
     simp only at hy
     dsimp only
     rw [show Ss 256 x2 x4 = some (x2 x4.toNat) from if_pos ⟨by omega, by omega⟩, Option.bind_some]
     refine W.ret ?_
     simp only
     rw [J4 (by omega) (by omega)]
     omega
 ·rintro ⟨x5, x6, x7⟩ h
  exact W.ret h
theorem Qp {m : Bj} (hl : m.l_.length ≤ 1000) {t : List UInt8} (ht : t.length = m.l_.length / 8 + 1) : W (CE m t) fun r => r.1.length = m.l_.length / 8 + 1 := by
 unfold CE
 refine W.bind (W.mono (W.list (l := m.l_) (enc := fun (x : List UInt8) i => (x, (i : Int))) (P := fun x i => x.length = m.l_.length / 8 + 1) (Q := fun r => r.length = m.l_.length / 8 + 1) ?_ ?_ t ht) fun r hr => W.ret hr)
 ·intro x hx
  rw [Ci, BH, if_neg (by omega)]
  exact W.ret hx
 ·intro x i hi hx
  rw [Ci, BH, if_pos (by omega), Fh hi, Option.bind_some, Ff (by omega), TS, TS, UB, UB]
  simp only [DZ]
  refine W.bind (W.mono (Q := fun y => y.length = m.l_.length / 8 + 1) (W.any (W.ite (fun _ => ?_) fun _ => W.ret trivial) fun b => W.ite (fun _ => ?_) fun _ => W.ret hx) fun y hy => W.ret ⟨y, rfl, hy⟩)
  ·rw [Fh (by omega), Option.bind_some]
   exact W.ret trivial
  ·rw [Fh (i := (i + 1) / 8) (by omega), Option.bind_some, Option.bind_some]
   obtain ⟨y, hy⟩ := XU (x[(i + 1) / 8].toNat : Int) (Fk .u8 1 (Br .i64 ((i + 1 : Nat) : Int) 7))
   rw [hy, Option.bind_some]
   exact W.ret (by rw [List.length_set, hx])
theorem VM {s : List UInt8} (hs : s.length ≤ 1000000) : W (EZ s) fun _ => True := by
 unfold EZ
 refine W.ite (fun _ => W.ret trivial) fun _ => W.bind (W.mono (Q := fun r => r.length ≤ 1000000) ?_ fun r hr => W.any ?_ fun _ => W.ret trivial)
 ·unfold DK
  refine W.bind (W.mono (W.loop (fun x => x.length ≤ 1000000) (fun x => x.length) hs ?_ (Q := fun r => r.length ≤ 1000000)) fun r hr => W.ret hr)
  intro x hx
  unfold EX
  refine W.bind (W.mono (Q := fun b => b = true → 0 < x.length) (W.Mu (fun h => ?_) fun _ => W.ret fun e => by cases e) fun b hb => W.ite (fun e => ?_) fun _ => W.ret hx)
  ·rw [J4 (by omega) (by omega), show (x.length : Int) - 1 = ((x.length - 1 : Nat) : Int) by omega, CP (by omega), Option.bind_some]
   exact W.ret fun _ => by omega
  ·have := hb e
   rw [J4 (by omega) (by omega), show (x.length : Int) - 1 = ((x.length - 1 : Nat) : Int) by omega, SU (by omega), Option.bind_some]
   exact W.ret ⟨by rw [List.length_take]; omega, by rw [List.length_take]; omega⟩
 ·unfold DW
  refine W.bind (W.mono (W.loop (fun x => x.length ≤ 1000000) (fun x => x.length) hr ?_ (Q := fun _ => True)) fun r _ => W.ret trivial)
  intro x hx
  unfold Ek
  refine W.bind (W.mono (Q := fun b => b = true → 0 < x.length) (W.Mu (fun h => ?_) fun _ => W.ret fun e => by cases e) fun b hb => W.ite (fun e => ?_) fun _ => W.ret trivial)
  ·rw [show (0 : Int) = ((0 : Nat) : Int) from rfl, CP (by omega), Option.bind_some]
   exact W.ret fun _ => by omega
  ·have := hb e
   rw [show (1 : Int) = ((1 : Nat) : Int) from rfl, L4 (by omega), Option.bind_some]
   exact W.ret ⟨by rw [List.length_drop]; omega, by rw [List.length_drop]; omega⟩
structure St (n : Nat) (Ha : Int) (ends : List Bool) (todo : List (List UInt8)) : Prop where
 len : ends.length = todo.length
 Ha : (todo.length : Int) ≤ Ha
 Wc : ∀ t ∈ todo, t.length = n / 8 + 1
theorem RP {m : Bj} (hl : m.l_.length ≤ 1000) (h0 : m.EG ≤ 4096) (h : St m.l_.length m.EG m.t_.BM m.B9) {t : List UInt8} (ht : t.length = m.l_.length / 8 + 1) : W (CD m t) fun r => St m.l_.length m.EG r.2.2.1 r.2.2.2.2 ∧ m.B9.length ≤ r.2.2.2.2.length := by
 have hlen := h.len
 have hmost := h.Ha
 unfold CD
 refine W.any (VM (by omega)) fun x1 => W.ite (fun _ => W.ret ⟨h, Nat.le_refl _⟩) fun _ => W.ite (fun _ => W.ret ⟨h, Nat.le_refl _⟩) fun _ => ?_
 rw [Np]
 split
 ·exact W.ret ⟨h, Nat.le_refl _⟩
 ·rw [TS, CP (by omega), Option.bind_some, UB, DZ]
  refine W.Ca (Im (by simp only [List.length_cons, List.length_nil]; omega) (by simp only [List.length_cons, List.length_nil]; omega)) (W.Ca (Im (by simp only [List.length_cons, List.length_nil]; omega) (by simp only [List.length_cons, List.length_nil]; omega)) (W.ret ⟨⟨?_, ?_, ?_⟩, ?_⟩))
  ·simp only [List.length_append, List.length_cons, List.length_nil]; omega
  ·simp only [List.length_append, List.length_cons, List.length_nil]; omega
  ·intro x hx
   rcases List.mem_append.1 hx with hx | hx
   ·exact h.Wc x hx
   ·rw [List.mem_singleton] at hx
    subst hx
    exact ht
  ·simp only [List.length_append, List.length_cons, List.length_nil]; omega
theorem step_ok {m : Bj} (hl : m.l_.length ≤ 1000) {t : List UInt8} (ht : t.length = m.l_.length / 8 + 1) {c : Int} (h0 : 0 ≤ c) (h1 : c ≤ 255) : W (CW m t c) fun r => r.length = m.l_.length / 8 + 1 := by
 unfold CW
 refine W.Ca (decide_eq_true ⟨by omega, by omega, by omega⟩) ?_
 rw [Int.toNat_natCast]
 refine W.bind (W.mono (W.list (l := m.l_) (enc := fun (x : List UInt8) i => (x, (i : Int))) (P := fun x i => x.length = m.l_.length / 8 + 1) (Q := fun r => r.length = m.l_.length / 8 + 1) ?_ ?_ (List.replicate t.length 0) (by rw [List.length_replicate, ht])) fun r hr => W.bind ((Qp hl hr).mono fun y hy => W.ret hy))
 ·intro x hx
  rw [Cj, BH, if_neg (by omega)]
  exact W.ret hx
 ·intro x i hi hx
  rw [Cj, BH, if_pos (by omega), Fh hi, Option.bind_some, Ff (by omega), TS, TS, UB, UB]
  simp only [DZ]
  rw [CP (by omega), Option.bind_some]
  refine W.bind (W.mono (Q := fun y => y.length = m.l_.length / 8 + 1) (W.ite (fun _ => W.ret hx) fun _ => W.ite (fun _ => ?_) fun _ => W.any (W.ite (fun _ => W.any (UG _ _ h0 h1) fun _ => W.ret trivial) fun _ => W.ret trivial) fun b => W.ite (fun _ => ?_) fun _ => W.ret hx) fun y hy => W.ret ⟨y, rfl, hy⟩)
  ·rw [Fh (i := i / 8) (by omega), Option.bind_some, Option.bind_some]
   obtain ⟨y, hy⟩ := XU (x[i / 8].toNat : Int) (Fk .u8 1 (Br .i64 (i : Int) 7))
   rw [hy, Option.bind_some]
   exact W.ret (by rw [List.length_set, hx])
  ·rw [Fh (i := (i + 1) / 8) (by omega), Option.bind_some, Option.bind_some]
   obtain ⟨y, hy⟩ := XU (x[(i + 1) / 8].toNat : Int) (Fk .u8 1 (Br .i64 ((i + 1 : Nat) : Int) 7))
   rw [hy, Option.bind_some]
   exact W.ret (by rw [List.length_set, hx])
theorem R0 {l : List AM} (hl : l.length ≤ 1000) (f : C3) {Ha : Int} (h1 : 1 ≤ Ha) (h2 : Ha ≤ 4096) : W (Dg l f Ha) fun r => (∃ T, r = (some T, 0)) ∨ r = (none, 7) := by
 unfold Dg
 rw [decide_eq_false (by omega), decide_eq_false (by omega), Bool.or_false, AX, decide_eq_false (by omega), AX]
 refine W.bind ((Tz (by exact hl) rfl).mono ?_)
 rintro ⟨x1, x2⟩ hx2
 simp only at hx2
 rw [TS, Ff (by omega), Int.toNat_natCast]
 refine W.Ca (decide_eq_true ⟨by omega, by omega, by omega⟩) ?_
 rw [show (0 : Int) = ((0 : Nat) : Int) from rfl, Fh (by rw [List.length_replicate]; omega), Option.bind_some]
 refine W.bind ((Qp (by exact hl) (by rw [List.length_set, List.length_replicate])).mono ?_)
 rintro ⟨x4, x5⟩ hx4
 simp only at hx4
 refine W.bind ((RP (by exact hl) (by exact h2) ⟨rfl, by simp only [List.length_nil]; omega, by simp⟩ hx4).mono ?_)
 rintro ⟨x6, x7, x8, x9, x10⟩ ⟨g1, _⟩
 simp only at g1
 refine W.bind (W.mono (W.loop (fun s => 0 ≤ s.2.2.2.2 ∧ St l.length Ha s.2.1 s.2.2.2.1 ∧ s.2.2.2.2 ≤ (s.2.2.2.1.length : Int) ∧ (s.1.length : Int) ≤ 256 * s.2.2.2.2) (fun s => (4097 - s.2.2.2.2).toNat) ⟨by simp, g1, by simp, by simp⟩ ?_ (Q := fun r => match r with | .inl _ => True | .inr r => r.2.2.2.2 = 7)) ?_)
 ·rintro ⟨x11, x12, x13, x14, x15⟩ ⟨i1, i2, i3, i4⟩
  simp only at i1 i2 i3 i4
  have hmost := i2.Ha
  unfold Ew
  refine W.Mu (fun hlt => ?_) fun _ => W.ret trivial
  obtain ⟨k, rfl⟩ := Int.eq_ofNat_of_zero_le i1
  refine W.bind (W.mono (W.list (l := x2) (enc := fun (s : List Int × List Bool × List (List UInt8 × Int) × List (List UInt8)) i => (s.1, s.2.1, s.2.2.1, s.2.2.2, (i : Int))) (P := fun s i => St l.length Ha s.2.1 s.2.2.2 ∧ k < s.2.2.2.length ∧ s.1.length ≤ 256 * k + i) (Q := fun r => match r with | .inl s => St l.length Ha s.2.1 s.2.2.2 ∧ k < s.2.2.2.length ∧ s.1.length ≤ 256 * k + 256 | .inr r => r.2.2.2.2 = 7) ?_ ?_ (x11, x12, x13, x14) ⟨i2, by simp only; omega, by simp only; omega⟩) ?_)
  ·rintro ⟨a, b, c, d⟩ ⟨j1, j2, j3⟩
   simp only at j1 j2 j3
   rw [Dr, BH, if_neg (by omega)]
   exact W.ret ⟨j1, j2, by simp only; omega⟩
  ·rintro ⟨a, b, c, d⟩ i hi ⟨j1, j2, j3⟩
   simp only at j1 j2 j3
   have jm := j1.Ha
   have hb := Gy x2[i]
   rw [Dr, BH, if_pos (by omega), Fh hi, Option.bind_some, Fh j2, Option.bind_some]
   refine W.bind ((step_ok (by exact hl) (by exact j1.Wc _ (List.getElem_mem j2)) hb.1 hb.2).mono fun x41 h41 => W.bind ((RP (by exact hl) (by exact h2) (by exact j1) (by exact h41)).mono ?_))
   rintro ⟨x42, x43, x44, x45, x46⟩ ⟨q1, q2⟩
   simp only at q1 q2
   refine W.ite (fun _ => W.ret rfl) fun _ => W.Ca (Im (by simp only [List.length_cons, List.length_nil]; omega) (by simp only [List.length_cons, List.length_nil]; omega)) (W.ret ⟨(a ++ [x42], x44, x45, x46), by rw [Ff (by omega)], q1, by simp only; omega, by simp only [List.length_append, List.length_cons, List.length_nil]; omega⟩)
  ·rintro (⟨a, b, c, d⟩ | ⟨a, b, c, d, e⟩) hr
   ·obtain ⟨j1, j2, j3⟩ := hr
    simp only at j1 j2 j3
    refine W.ret ?_
    simp only
    rw [Ff (by omega)]
    refine ⟨⟨by omega, j1, by omega, by omega⟩, ?_⟩
    have : (k : Int) ≤ 4096 := by omega
    rw [Int.toNat_lt (by omega)]
    omega
   ·exact W.ret hr
 ·rintro (⟨a, b, c, d⟩ | ⟨a, b, c, d, e⟩) hr
  ·exact W.ret (.inl ⟨_, rfl⟩)
  ·simp only at hr
   subst hr
   exact W.ret (.inr rfl)
end Go.Av.L
