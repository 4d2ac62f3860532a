/-
  ABS, 17: what one operation tells, by what its operands are.
-/
import Derived.Test.YthnnciphldbmeaaGreatDoorAvLift
namespace Go.Av
section
variable {C : Hc} {S : Self} {g : Gd} {h h1 : AH} {fr : Fr} {op : Op}
theorem FP (hc : BC C.P op ≠ 3) : Bb C S g h fr op = IV C.P C.D4 g h fr op := HX hc
theorem ZW {v : AA} (hs : Xu C.P fr op = some v) : Bb C S g h fr op = some (v, h) := by
 unfold Xu at hs
 split at hs
 ·rename_i hc
  rw [FP (by rw [hc]; simp)]
  simp [IV, hc, hs]
 ·cases hs
theorem ZU {v : AA} {ob : Bz} (hs : YS C.P fr op h.size = some (v, ob)) : Bb C S g h fr op = some (v, h.push ob) := by
 unfold YS at hs
 split at hs
 ·rename_i hc
  rw [FP (by rw [hc]; simp)]
  simp only [Option.map_eq_some_iff, Prod.mk.injEq] at hs
  obtain ⟨x, h1, rfl, rfl⟩ := hs
  simp [IV, hc, h1]
 ·cases hs
theorem WV {a : Nat × Nat} {v : AA} (hl : OI h a = some v) : Cx (h.get a.1) a.2 1 = some [v] ∧ ∃ ob, h.get a.1 = some ob := by
 unfold OI at hl
 split at hl
 ·rename_i u hu
  injection hl with hl
  subst hl
  refine ⟨hu, ?_⟩
  cases hg : h.get a.1 with
  | none => rw [hg] at hu; simp [Cx] at hu
  | some ob => exact ⟨ob, rfl⟩
 ·cases hl
theorem Da {a : Nat × Nat} {v : AA} (hs : NU C.P fr op = some (a, none)) (hl : OI h a = some v) : Bb C S g h fr op = some (v, h) := by
 unfold NU at hs
 split at hs
 ·rename_i t x
  obtain ⟨h1, ob, h2⟩ := WV hl
  rw [h2] at h1
  split at hs
  ·simp only [Option.map_eq_some_iff, Prod.mk.injEq] at hs
   obtain ⟨_, _, _, hc⟩ := hs
   cases hc
  ·rename_i he ha
   simp only [Option.some.injEq, Prod.mk.injEq, and_true] at hs
   subst hs
   simp [Bb, IV, BC, DW, he, Er, h2, Kh, Gp, ha, h1]
  ·cases hs
 ·cases hs
theorem CG {a : Nat × Nat} {n : Nat} {cs : List AA} (hs : NU C.P fr op = some (a, some n)) (hl : HG h a n = some cs) : Bb C S g h fr op = some (.agg cs, h) := by
 unfold NU at hs
 split at hs
 ·rename_i t x
  unfold HG at hl
  cases hg : h.get a.1 with
  | none => rw [hg] at hl; simp [Cx] at hl
  | some ob =>
   rw [hg] at hl
   split at hs
   ·rename_i he ha
    simp only [Option.map_eq_some_iff, Prod.mk.injEq, Option.some.injEq] at hs
    obtain ⟨m, h1, rfl, rfl⟩ := hs
    simp [Bb, IV, BC, DW, he, Er, hg, Kh, Gp, ha, h1, hl]
   ·simp at hs
   ·cases hs
 ·cases hs
theorem OU {a : Nat × Nat} {v : AA} (hs : JL C.P fr op = some (a, 1, v)) (hc : v.cells? = some [v]) (hl : st g h a [v] = some h1) : Bb C S g h fr op = some (.tuple [], h1) := by
 unfold JL at hs
 split at hs
 ·split at hs
  ·rename_i he
   simp only [Option.map_eq_some_iff, Prod.mk.injEq] at hs
   obtain ⟨n, h2, rfl, rfl, hv⟩ := hs
   unfold st at hl
   simp [Bb, IV, BC, Km, he, LR, hv, hc, h2, hl]
  ·cases hs
 ·cases hs
theorem Tv {a : Nat × Nat} {n : Nat} {cs : List AA} (hs : JL C.P fr op = some (a, n, .agg cs)) (hl : Yc n g h a cs = some h1) : Bb C S g h fr op = some (.tuple [], h1) := by
 unfold JL at hs
 split at hs
 ·split at hs
  ·rename_i he
   simp only [Option.map_eq_some_iff, Prod.mk.injEq] at hs
   obtain ⟨m, h2, rfl, rfl, hv⟩ := hs
   unfold Yc at hl
   split at hl
   ·rename_i hn
    simp [Bb, IV, BC, Km, he, LR, hv, AA.cells?, h2, hn, hl]
   ·cases hl
  ·cases hs
 ·cases hs
theorem QS {a b : Nat × Nat} {n z : Nat} {i : Int} (hs : Wt C.P fr op = some (a, n, z, i)) (hl : WC a n z i = some b) : Bb C S g h fr op = some (.ptr (some b), h) := by
 unfold Wt at hs
 split at hs
 ·split at hs
  ·rename_i hu hx hi
   simp only [Option.map_eq_some_iff, Prod.mk.injEq] at hs
   obtain ⟨m, h2, rfl, rfl, rfl, rfl⟩ := hs
   unfold WC at hl
   split at hl
   ·rename_i hb
    injection hl with hl
    subst hl
    simp [Bb, IV, BC, Iz, Gk, hu, hx, hi, hb, h2]
   ·cases hl
  ·cases hs
 ·cases hs
theorem Dc {s : Sl} {b : Nat × Nat} {z : Nat} {i : Int} (hs : Wi C.P fr op = some (s.r, s.n, z, i)) (hl : Yb s z i = some b) : Bb C S g h fr op = some (.ptr (some b), h) := by
 unfold Wi at hs
 split at hs
 ·split at hs
  ·rename_i hu hx hi
   simp only [Option.map_eq_some_iff, Prod.mk.injEq] at hs
   obtain ⟨m, h2, e1, e2, rfl, rfl⟩ := hs
   unfold Yb WC at hl
   rw [← e1, ← e2] at hl
   split at hl
   ·split at hl
    ·rename_i hb
     injection hl with hl
     subst hl
     simp [Bb, IV, BC, Iz, Gk, hu, hx, hi, hb, h2]
    ·cases hl
   ·cases hl
  ·cases hs
 ·cases hs
theorem JG {s : List UInt8} {i n : Int} (hs : Ww C.P fr op = some (s, i)) (hl : RD s i = some n) : Bb C S g h fr op = some (.int .u8 n, h) := by
 unfold Ww at hs
 split at hs
 ·split at hs
  ·rename_i hu hx hi
   simp only [Option.some.injEq, Prod.mk.injEq] at hs
   obtain ⟨rfl, rfl⟩ := hs
   unfold RD at hl
   split at hl
   ·rename_i hb
    simp only [Option.map_eq_some_iff] at hl
    obtain ⟨b, h3, rfl⟩ := hl
    simp [Bb, IV, BC, Iz, Qx, hu, hx, hi, hb, h3]
   ·cases hl
  ·cases hs
 ·cases hs
theorem Ib {s t : List UInt8} {k k' : IntKind} {lo hi : Option Int} (hs : Uq C.P fr op = some (s, lo.map (.int k ·), hi.map (.int k' ·))) (hl : Jx s lo hi = some t) : Bb C S g h fr op = some (.str t, h) := by
 unfold Uq at hs
 split at hs
 ·split at hs
  ·rename_i hu hx
   simp only [Option.some.injEq, Prod.mk.injEq] at hs
   obtain ⟨rfl, h1, h2⟩ := hs
   unfold Jx at hl
   simp only [Option.map_eq_some_iff] at hl
   obtain ⟨p, h3, rfl⟩ := hl
   simp [Bb, IV, BC, Iz, Qy, hu, hx, h1, h2, Of, h3]
  ·cases hs
 ·cases hs
theorem Xo {s : Sl} {t : List UInt8} (hs : VF C.P fr op = some (s.r, s.n)) (hl : Yt h s = some t) : Bb C S g h fr op = some (.str t, h) := by
 unfold VF at hs
 split at hs
 ·split at hs
  ·rename_i hu hd hx
   split at hs
   ·rename_i he
    simp only [Option.some.injEq, Prod.mk.injEq] at hs
    obtain ⟨e1, e2⟩ := hs
    unfold Yt at hl
    rw [← e1, ← e2] at hl
    split at hl
    ·injection hl with hl
     subst hl
     simp [Bb, IV, BC, DW, Er, Kh, QP, hu, hd, hx, he]
    ·rename_i a
     cases hg : h.get a.1 with
     | none =>
      rw [hg] at hl
      split at hl
      ·simp at hl
      ·simp [Cx] at hl
     | some ob =>
      split at hl
      ·rename_i hn
       rw [hg] at hl
       injection hl with hl
       subst hl
       simp [Bb, IV, BC, DW, Er, Kh, QP, hu, hd, hx, he, hg, hn]
      ·rename_i hn
       obtain ⟨cs, h3, h4⟩ := bind_some hl
       rw [hg] at h3
       simp [Bb, IV, BC, DW, Er, Kh, QP, hu, hd, hx, he, hg, hn, h3, h4]
   ·cases hs
  ·cases hs
 ·cases hs
theorem Yo {e : TypeId} {bytes : Nat} {z cs : List AA} {l c : Int} (hs : Vz C.P fr op = some (e, bytes, z, l, c)) (hl : YX bytes z l c = some cs) : Bb C S g h fr op = some (.slice (some (h.size, 0)) l.toNat, h.push (.cells (some e) 2 cs)) := by
 unfold Vz at hs
 split at hs
 ·split at hs
  ·rename_i hu hx hy
   split at hs
   ·rename_i i hi
    split at hs
    ·rename_i z' hz
     split at hs
     ·rename_i zc hzc
      split at hs
      ·rename_i hb
       simp only [Option.some.injEq, Prod.mk.injEq] at hs
       obtain ⟨rfl, rfl, rfl, rfl, rfl⟩ := hs
       unfold YX at hl
       split at hl
       ·rename_i hq
        injection hl with hl
        subst hl
        obtain ⟨q1, q2, q3, q4⟩ := hq
        simp only [Bb, IV, BC, Pa, KV, hu, hx, hy, hi, hz, hzc]
        rw [if_pos ⟨q1, q2, q3, q4, hb.1, hb.2⟩]
        rfl
       ·cases hl
      ·cases hs
     ·cases hs
    ·cases hs
   ·cases hs
  ·cases hs
 ·cases hs
theorem W5 {f : FuncId} {args : List AA} {v : AA} (hs : MQ fr op = some (f, args)) (hl : S.call g h f args = some (v, h1)) : Bb C S g h fr op = some (v, h1) := by
 unfold MQ at hs
 split at hs
 ·split at hs
  ·rename_i he
   simp only [Option.some.injEq, Prod.mk.injEq] at hs
   obtain ⟨rfl, rfl⟩ := hs
   simp only [Bb, he]
   exact hl
  ·cases hs
 ·cases hs
theorem Hh {e : TypeId} {sz bytes n : Nat} {s t : Sl} {x : AA} (hs : Wx C.P fr op = some (e, sz, bytes, s.r, s.n, n, x)) (hl : app e sz bytes g h s n x = some (t, h1)) : Bb C S g h fr op = some (.slice t.r t.n, h1) := by
 unfold Wx at hs
 split at hs
 ·split at hs
  ·rename_i hx ht0 ht1
   split at hs
   ·rename_i hu hd hn
    split at hs
    ·rename_i i hi
     split at hs
     ·rename_i hb
      simp only [Option.some.injEq, Prod.mk.injEq] at hs
      obtain ⟨rfl, rfl, rfl, e1, e2, rfl, rfl⟩ := hs
      unfold app at hl
      simp only [Bb, IV, BC, Km, hx, Ma, ht0, ht1, hu, hd, hn, hi, hb.1, if_true, appendCore]
      rw [e1, e2]
      split at hl
      ·rename_i h0
       simp only [Option.some.injEq, Prod.mk.injEq] at hl
       obtain ⟨rfl, rfl⟩ := hl
       rw [if_pos h0]
      ·rename_i h0
       rw [if_neg h0]
       split at hl
       ·rename_i hq
        rw [if_pos ⟨hb.2.1, hq.1, hq.2, hb.2.2⟩]
        split at hl
        ·rename_i new old h3 h4
         simp only [Option.map_eq_some_iff] at h3
         obtain ⟨new0, h3, rfl⟩ := h3
         simp only [h3, h4, Option.map_some]
         split at hl
         ·rename_i ho
          rw [if_pos ho]
          split at hl
          ·rename_i hr
           simp only [Option.some.injEq, Prod.mk.injEq] at hl
           obtain ⟨rfl, rfl⟩ := hl
           simp [hr]
          ·rename_i a hr
           split at hl
           ·rename_i hg
            split at hl
            ·rename_i hm
             simp only [Option.some.injEq, Prod.mk.injEq] at hl
             obtain ⟨rfl, rfl⟩ := hl
             simp [hr, hg, hm]
            ·cases hl
           ·cases hl
         ·cases hl
        ·cases hl
       ·cases hl
     ·cases hs
    ·cases hs
   ·cases hs
  ·cases hs
 ·cases hs
theorem VT {v : AA} {ob : Bz} (hs : YS C.P fr op h.size = some (v, ob)) (hh : some (h.push ob) = some h1) : Bb C S g h fr op = some (v, h1) := by
 injection hh with hh
 rw [← hh]; exact ZU hs
theorem X7 {e : TypeId} {bytes : Nat} {z cs : List AA} {l c : Int} (hs : Vz C.P fr op = some (e, bytes, z, l, c)) (hl : YX bytes z l c = some cs) (hh : some (h.push (.cells (some e) 2 cs)) = some h1) : Bb C S g h fr op = some (.slice (some (h.size, 0)) l.toNat, h1) := by
 injection hh with hh
 rw [← hh]; exact Yo hs hl
theorem VJ {k : IntKind} {a b : Int} (hs : OP fr op = some (true, k, a, b)) (hb : decide (0 ≤ b) = true) : Bb C S g h fr op = some (.int k (Ki k a b), h) := by
 unfold OP at hs
 split at hs
 ·split at hs
  ·rename_i hx hy
   simp only [Option.some.injEq, Prod.mk.injEq, true_and] at hs
   obtain ⟨rfl, rfl, rfl⟩ := hs
   have hb' := of_decide_eq_true hb
   simp [Bb, IV, BC, Iz, Rm, Rt, hx, hy, Oe, Int.not_lt.2 hb', Ki]
  ·simp at hs
  ·cases hs
 ·cases hs
theorem Tc {k : IntKind} {a b : Int} (hs : OP fr op = some (false, k, a, b)) (hb : decide (0 ≤ b) = true) : Bb C S g h fr op = some (.int k (B3 k a b), h) := by
 unfold OP at hs
 split at hs
 ·split at hs
  ·simp at hs
  ·rename_i hx hy
   simp only [Option.some.injEq, Prod.mk.injEq, true_and] at hs
   obtain ⟨rfl, rfl, rfl⟩ := hs
   have hb' := of_decide_eq_true hb
   simp [Bb, IV, BC, Iz, Rm, Rt, hx, hy, Oe, Int.not_lt.2 hb', B3]
  ·cases hs
 ·cases hs
theorem Wj {a b : List UInt8} (hs : Wp fr op = some (a, b)) (hb : decide (a.length + b.length ≤ 9223372036854775807) = true) : Bb C S g h fr op = some (.str (a ++ b), h) := by
 unfold Wp at hs
 split at hs
 ·split at hs
  ·rename_i hx hy
   simp only [Option.some.injEq, Prod.mk.injEq] at hs
   obtain ⟨rfl, rfl⟩ := hs
   have hb' := of_decide_eq_true hb
   simp [Bb, IV, BC, Iz, Rm, Rt, hx, hy, RC, hb']
  ·cases hs
 ·cases hs
end
end Go.Av
