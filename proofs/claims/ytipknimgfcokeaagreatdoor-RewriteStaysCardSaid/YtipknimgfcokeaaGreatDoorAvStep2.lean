/-
  ABS, 17: what one operation tells, by what its operands are.
-/
import Derived.Test.YtipknimgfcokeaaGreatDoorAvLift
namespace Go.Av
section
variable {C : IJ} {S : Self} {g : Gd} {h h1 : AH} {fr : Fr} {op : Op}
theorem Ho (hc : BS C.P op ≠ 3) : Bq C S g h fr op = Hy C.P C.EY g h fr op := Gx hc
theorem YD {v : AB} (hs : W6 C.P fr op = some v) : Bq C S g h fr op = some (v, h) := by
 unfold W6 at hs
 split at hs
 ·rename_i hc
  rw [Ho (by rw [hc]; simp)]
  simp [Hy, hc, hs]
 ·cases hs
theorem YF {v : AB} {ob : CR} (hs : Wb C.P fr op h.size = some (v, ob)) : Bq C S g h fr op = some (v, h.push ob) := by
 unfold Wb at hs
 split at hs
 ·rename_i hc
  rw [Ho (by rw [hc]; simp)]
  simp only [Option.map_eq_some_iff, Prod.mk.injEq] at hs
  obtain ⟨x, h1, rfl, rfl⟩ := hs
  simp [Hy, hc, h1]
 ·cases hs
theorem Uq {a : Nat × Nat} {v : AB} (hl : O7 h a = some v) : C5 (h.get a.1) a.2 1 = some [v] ∧ ∃ ob, h.get a.1 = some ob := by
 unfold O7 at hl
 split at hl
 ·rename_i u hu
  injection hl with hl
  subst hl
  refine ⟨hu, ?_⟩
  cases hg : h.get a.1 with
  | none => rw [hg] at hu; simp [C5] at hu
  | some ob => exact ⟨ob, rfl⟩
 ·cases hl
theorem Dd {a : Nat × Nat} {v : AB} (hs : MN C.P fr op = some (a, none)) (hl : O7 h a = some v) : Bq C S g h fr op = some (v, h) := by
 unfold MN at hs
 split at hs
 ·rename_i t x
  obtain ⟨h1, ob, h2⟩ := Uq hl
  rw [h2] at h1
  split at hs
  ·simp only [Option.map_eq_some_iff, Prod.mk.injEq] at hs
   obtain ⟨_, _, _, hc⟩ := hs
   cases hc
  ·rename_i he ha
   simp only [Option.some.injEq, Prod.mk.injEq, and_true] at hs
   subst hs
   simp [Bq, Hy, BS, Du, he, E4, h2, KF, Gl, ha, h1]
  ·cases hs
 ·cases hs
theorem CD {a : Nat × Nat} {n : Nat} {cs : List AB} (hs : MN C.P fr op = some (a, some n)) (hl : GX h a n = some cs) : Bq C S g h fr op = some (.agg cs, h) := by
 unfold MN at hs
 split at hs
 ·rename_i t x
  unfold GX at hl
  cases hg : h.get a.1 with
  | none => rw [hg] at hl; simp [C5] at hl
  | some ob =>
   rw [hg] at hl
   split at hs
   ·rename_i he ha
    simp only [Option.map_eq_some_iff, Prod.mk.injEq, Option.some.injEq] at hs
    obtain ⟨m, h1, rfl, rfl⟩ := hs
    simp [Bq, Hy, BS, Du, he, E4, hg, KF, Gl, ha, h1, hl]
   ·simp at hs
   ·cases hs
 ·cases hs
theorem MS {a : Nat × Nat} {v : AB} (hs : Ia C.P fr op = some (a, 1, v)) (hc : v.cells? = some [v]) (hl : st g h a [v] = some h1) : Bq C S g h fr op = some (.tuple [], h1) := by
 unfold Ia at hs
 split at hs
 ·split at hs
  ·rename_i he
   simp only [Option.map_eq_some_iff, Prod.mk.injEq] at hs
   obtain ⟨n, h2, rfl, rfl, hv⟩ := hs
   unfold st at hl
   simp [Bq, Hy, BS, KH, he, Ki, hv, hc, h2, hl]
  ·cases hs
 ·cases hs
theorem K4 {a : Nat × Nat} {n : Nat} {cs : List AB} (hs : Ia C.P fr op = some (a, n, .agg cs)) (hl : XG n g h a cs = some h1) : Bq C S g h fr op = some (.tuple [], h1) := by
 unfold Ia at hs
 split at hs
 ·split at hs
  ·rename_i he
   simp only [Option.map_eq_some_iff, Prod.mk.injEq] at hs
   obtain ⟨m, h2, rfl, rfl, hv⟩ := hs
   unfold XG at hl
   split at hl
   ·rename_i hn
    simp [Bq, Hy, BS, KH, he, Ki, hv, AB.cells?, h2, hn, hl]
   ·cases hl
  ·cases hs
 ·cases hs
theorem J4 {a b : Nat × Nat} {n z : Nat} {i : Int} (hs : VT C.P fr op = some (a, n, z, i)) (hl : UW a n z i = some b) : Bq C S g h fr op = some (.ptr (some b), h) := by
 unfold VT at hs
 split at hs
 ·split at hs
  ·rename_i hu hx hi
   simp only [Option.map_eq_some_iff, Prod.mk.injEq] at hs
   obtain ⟨m, h2, rfl, rfl, rfl, rfl⟩ := hs
   unfold UW at hl
   split at hl
   ·rename_i hb
    injection hl with hl
    subst hl
    simp [Bq, Hy, BS, IX, GM, hu, hx, hi, hb, h2]
   ·cases hl
  ·cases hs
 ·cases hs
theorem FI {s : Sl} {b : Nat × Nat} {z : Nat} {i : Int} (hs : VP C.P fr op = some (s.r, s.n, z, i)) (hl : WQ s z i = some b) : Bq C S g h fr op = some (.ptr (some b), h) := by
 unfold VP at hs
 split at hs
 ·split at hs
  ·rename_i hu hx hi
   simp only [Option.map_eq_some_iff, Prod.mk.injEq] at hs
   obtain ⟨m, h2, e1, e2, rfl, rfl⟩ := hs
   unfold WQ UW at hl
   rw [← e1, ← e2] at hl
   split at hl
   ·split at hl
    ·rename_i hb
     injection hl with hl
     subst hl
     simp [Bq, Hy, BS, IX, GM, hu, hx, hi, hb, h2]
    ·cases hl
   ·cases hl
  ·cases hs
 ·cases hs
theorem EL {s : List UInt8} {i n : Int} (hs : VU C.P fr op = some (s, i)) (hl : Jf s i = some n) : Bq C S g h fr op = some (.int .u8 n, h) := by
 unfold VU at hs
 split at hs
 ·split at hs
  ·rename_i hu hx hi
   simp only [Option.some.injEq, Prod.mk.injEq] at hs
   obtain ⟨rfl, rfl⟩ := hs
   unfold Jf at hl
   split at hl
   ·rename_i hb
    simp only [Option.map_eq_some_iff] at hl
    obtain ⟨b, h3, rfl⟩ := hl
    simp [Bq, Hy, BS, IX, O9, hu, hx, hi, hb, h3]
   ·cases hl
  ·cases hs
 ·cases hs
theorem Gp {s t : List UInt8} {k k' : IntKind} {lo hi : Option Int} (hs : Tt C.P fr op = some (s, lo.map (.int k ·), hi.map (.int k' ·))) (hl : IB s lo hi = some t) : Bq C S g h fr op = some (.str t, h) := by
 unfold Tt at hs
 split at hs
 ·split at hs
  ·rename_i hu hx
   simp only [Option.some.injEq, Prod.mk.injEq] at hs
   obtain ⟨rfl, h1, h2⟩ := hs
   unfold IB at hl
   simp only [Option.map_eq_some_iff] at hl
   obtain ⟨p, h3, rfl⟩ := hl
   simp [Bq, Hy, BS, IX, Pb, hu, hx, h1, h2, RU, h3]
  ·cases hs
 ·cases hs
theorem Wo {s : Sl} {t : List UInt8} (hs : UF C.P fr op = some (s.r, s.n)) (hl : XV h s = some t) : Bq C S g h fr op = some (.str t, h) := by
 unfold UF at hs
 split at hs
 ·split at hs
  ·rename_i hu hd hx
   split at hs
   ·rename_i he
    simp only [Option.some.injEq, Prod.mk.injEq] at hs
    obtain ⟨e1, e2⟩ := hs
    unfold XV at hl
    rw [← e1, ← e2] at hl
    split at hl
    ·injection hl with hl
     subst hl
     simp [Bq, Hy, BS, Du, E4, KF, Oy, hu, hd, hx, he]
    ·rename_i a
     cases hg : h.get a.1 with
     | none =>
      rw [hg] at hl
      split at hl
      ·simp at hl
      ·simp [C5] at hl
     | some ob =>
      split at hl
      ·rename_i hn
       rw [hg] at hl
       injection hl with hl
       subst hl
       simp [Bq, Hy, BS, Du, E4, KF, Oy, hu, hd, hx, he, hg, hn]
      ·rename_i hn
       obtain ⟨cs, h3, h4⟩ := bind_some hl
       rw [hg] at h3
       simp [Bq, Hy, BS, Du, E4, KF, Oy, hu, hd, hx, he, hg, hn, h3, h4]
   ·cases hs
  ·cases hs
 ·cases hs
theorem Xk {e : TypeId} {bytes : Nat} {z cs : List AB} {l c : Int} (hs : UX C.P fr op = some (e, bytes, z, l, c)) (hl : XC bytes z l c = some cs) : Bq C S g h fr op = some (.slice (some (h.size, 0)) l.toNat, h.push (.cells (some e) 2 cs)) := by
 unfold UX at hs
 split at hs
 ·split at hs
  ·rename_i hu hx hy
   split at hs
   ·rename_i i hi
    split at hs
    ·rename_i z' hz
     split at hs
     ·rename_i zc hzc
      split at hs
      ·rename_i hb
       simp only [Option.some.injEq, Prod.mk.injEq] at hs
       obtain ⟨rfl, rfl, rfl, rfl, rfl⟩ := hs
       unfold XC at hl
       split at hl
       ·rename_i hq
        injection hl with hl
        subst hl
        obtain ⟨q1, q2, q3, q4⟩ := hq
        simp only [Bq, Hy, BS, OG, Ju, hu, hx, hy, hi, hz, hzc]
        rw [if_pos ⟨q1, q2, q3, q4, hb.1, hb.2⟩]
        rfl
       ·cases hl
      ·cases hs
     ·cases hs
    ·cases hs
   ·cases hs
  ·cases hs
 ·cases hs
theorem Vr {f : FuncId} {args : List AB} {v : AB} (hs : LN fr op = some (f, args)) (hl : S.call g h f args = some (v, h1)) : Bq C S g h fr op = some (v, h1) := by
 unfold LN at hs
 split at hs
 ·split at hs
  ·rename_i he
   simp only [Option.some.injEq, Prod.mk.injEq] at hs
   obtain ⟨rfl, rfl⟩ := hs
   simp only [Bq, he]
   exact hl
  ·cases hs
 ·cases hs
theorem Er {e : TypeId} {sz bytes n : Nat} {s t : Sl} {x : AB} (hs : VJ C.P fr op = some (e, sz, bytes, s.r, s.n, n, x)) (hl : app e sz bytes g h s n x = some (t, h1)) : Bq C S g h fr op = some (.slice t.r t.n, h1) := by
 unfold VJ at hs
 split at hs
 ·split at hs
  ·rename_i hx ht0 ht1
   split at hs
   ·rename_i hu hd hn
    split at hs
    ·rename_i i hi
     split at hs
     ·rename_i hb
      simp only [Option.some.injEq, Prod.mk.injEq] at hs
      obtain ⟨rfl, rfl, rfl, e1, e2, rfl, rfl⟩ := hs
      unfold app at hl
      simp only [Bq, Hy, BS, KH, hx, L6, ht0, ht1, hu, hd, hn, hi, hb.1, if_true, appendCore]
      rw [e1, e2]
      split at hl
      ·rename_i h0
       simp only [Option.some.injEq, Prod.mk.injEq] at hl
       obtain ⟨rfl, rfl⟩ := hl
       rw [if_pos h0]
      ·rename_i h0
       rw [if_neg h0]
       split at hl
       ·rename_i hq
        rw [if_pos ⟨hb.2.1, hq.1, hq.2, hb.2.2⟩]
        split at hl
        ·rename_i new old h3 h4
         simp only [Option.map_eq_some_iff] at h3
         obtain ⟨new0, h3, rfl⟩ := h3
         simp only [h3, h4, Option.map_some]
         split at hl
         ·rename_i ho
          rw [if_pos ho]
          split at hl
          ·rename_i hr
           simp only [Option.some.injEq, Prod.mk.injEq] at hl
           obtain ⟨rfl, rfl⟩ := hl
           simp [hr]
          ·rename_i a hr
           split at hl
           ·rename_i hg
            split at hl
            ·rename_i hm
             simp only [Option.some.injEq, Prod.mk.injEq] at hl
             obtain ⟨rfl, rfl⟩ := hl
             simp [hr, hg, hm]
            ·cases hl
           ·cases hl
         ·cases hl
        ·cases hl
       ·cases hl
     ·cases hs
    ·cases hs
   ·cases hs
  ·cases hs
 ·cases hs
theorem OQ {v : AB} {ob : CR} (hs : Wb C.P fr op h.size = some (v, ob)) (hh : some (h.push ob) = some h1) : Bq C S g h fr op = some (v, h1) := by
 injection hh with hh
 rw [← hh]; exact YF hs
theorem Wg {e : TypeId} {bytes : Nat} {z cs : List AB} {l c : Int} (hs : UX C.P fr op = some (e, bytes, z, l, c)) (hl : XC bytes z l c = some cs) (hh : some (h.push (.cells (some e) 2 cs)) = some h1) : Bq C S g h fr op = some (.slice (some (h.size, 0)) l.toNat, h1) := by
 injection hh with hh
 rw [← hh]; exact Xk hs hl
theorem Wx {k : IntKind} {a b : Int} (hs : M9 fr op = some (true, k, a, b)) (hb : decide (0 ≤ b) = true) : Bq C S g h fr op = some (.int k (Ke k a b), h) := by
 unfold M9 at hs
 split at hs
 ·split at hs
  ·rename_i hx hy
   simp only [Option.some.injEq, Prod.mk.injEq, true_and] at hs
   obtain ⟨rfl, rfl, rfl⟩ := hs
   have hb' := of_decide_eq_true hb
   simp [Bq, Hy, BS, IX, Qm, Q7, hx, hy, Ng, Int.not_lt.2 hb', Ke]
  ·simp at hs
  ·cases hs
 ·cases hs
theorem Wv {k : IntKind} {a b : Int} (hs : M9 fr op = some (false, k, a, b)) (hb : decide (0 ≤ b) = true) : Bq C S g h fr op = some (.int k (GZ k a b), h) := by
 unfold M9 at hs
 split at hs
 ·split at hs
  ·simp at hs
  ·rename_i hx hy
   simp only [Option.some.injEq, Prod.mk.injEq, true_and] at hs
   obtain ⟨rfl, rfl, rfl⟩ := hs
   have hb' := of_decide_eq_true hb
   simp [Bq, Hy, BS, IX, Qm, Q7, hx, hy, Ng, Int.not_lt.2 hb', GZ]
  ·cases hs
 ·cases hs
theorem TI {a b : List UInt8} (hs : VL fr op = some (a, b)) (hb : decide (a.length + b.length ≤ 9223372036854775807) = true) : Bq C S g h fr op = some (.str (a ++ b), h) := by
 unfold VL at hs
 split at hs
 ·split at hs
  ·rename_i hx hy
   simp only [Option.some.injEq, Prod.mk.injEq] at hs
   obtain ⟨rfl, rfl⟩ := hs
   have hb' := of_decide_eq_true hb
   simp [Bq, Hy, BS, IX, Qm, Q7, hx, hy, PO, hb']
  ·cases hs
 ·cases hs
theorem Wu {e : TypeId} {t : List UInt8} (hs : VG C.P fr op = some (e, t)) (hb : decide (t.length ≤ 1099511627776) = true) (hh : some (h.push (.cells (some e) 2 (t.map fun b => .int .u8 b.toNat))) = some h1) : Bq C S g h fr op = some (.slice (some (h.size, 0)) t.length, h1) := by
 unfold VG at hs
 split at hs
 ·split at hs
  ·rename_i hu hd hx
   split at hs
   ·rename_i he hz
    simp only [Option.some.injEq, Prod.mk.injEq] at hs
    obtain ⟨rfl, rfl⟩ := hs
    have hb' := of_decide_eq_true hb
    injection hh with hh
    rw [← hh]
    simp [Bq, Hy, BS, OG, R0, hu, hd, hx, he, hz, hb']
   ·cases hs
  ·cases hs
 ·cases hs
end
end Go.Av
