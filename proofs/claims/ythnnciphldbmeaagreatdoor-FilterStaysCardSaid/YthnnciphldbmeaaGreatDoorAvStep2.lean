/-
  ABS, 17: what one operation tells, by what its operands are.
-/
import Derived.Test.YthnnciphldbmeaaGreatDoorAvLift
namespace Go.Av
section
variable {C : Hj} {S : Self} {g : Gd} {h h1 : AM} {fr : Fr} {op : Op}
theorem Fo (hc : BI C.P op ≠ 3) : Bl C S g h fr op = Il C.P C.EN g h fr op := He hc
theorem Ym {v : AD} (hs : Xs C.P fr op = some v) : Bl C S g h fr op = some (v, h) := by
 unfold Xs at hs
 split at hs
 ·rename_i hc
  rw [Fo (by rw [hc]; simp)]
  simp [Il, hc, hs]
 ·cases hs
theorem Yj {v : AD} {ob : CB} (hs : XW C.P fr op h.size = some (v, ob)) : Bl C S g h fr op = some (v, h.push ob) := by
 unfold XW at hs
 split at hs
 ·rename_i hc
  rw [Fo (by rw [hc]; simp)]
  simp only [Option.map_eq_some_iff, Prod.mk.injEq] at hs
  obtain ⟨x, h1, rfl, rfl⟩ := hs
  simp [Il, hc, h1]
 ·cases hs
theorem Vp {a : Nat × Nat} {v : AD} (hl : N6 h a = some v) : C8 (h.get a.1) a.2 1 = some [v] ∧ ∃ ob, h.get a.1 = some ob := by
 unfold N6 at hl
 split at hl
 ·rename_i u hu
  injection hl with hl
  subst hl
  refine ⟨hu, ?_⟩
  cases hg : h.get a.1 with
  | none => rw [hg] at hu; simp [C8] at hu
  | some ob => exact ⟨ob, rfl⟩
 ·cases hl
theorem DU {a : Nat × Nat} {v : AD} (hs : NR C.P fr op = some (a, none)) (hl : N6 h a = some v) : Bl C S g h fr op = some (v, h) := by
 unfold NR at hs
 split at hs
 ·rename_i t x
  obtain ⟨h1, ob, h2⟩ := Vp hl
  rw [h2] at h1
  split at hs
  ·simp only [Option.map_eq_some_iff, Prod.mk.injEq] at hs
   obtain ⟨_, _, _, hc⟩ := hs
   cases hc
  ·rename_i he ha
   simp only [Option.some.injEq, Prod.mk.injEq, and_true] at hs
   subst hs
   simp [Bl, Il, BI, Dj, he, FB, h2, Kk, Gp, ha, h1]
  ·cases hs
 ·cases hs
theorem B5 {a : Nat × Nat} {n : Nat} {cs : List AD} (hs : NR C.P fr op = some (a, some n)) (hl : GQ h a n = some cs) : Bl C S g h fr op = some (.agg cs, h) := by
 unfold NR at hs
 split at hs
 ·rename_i t x
  unfold GQ at hl
  cases hg : h.get a.1 with
  | none => rw [hg] at hl; simp [C8] at hl
  | some ob =>
   rw [hg] at hl
   split at hs
   ·rename_i he ha
    simp only [Option.map_eq_some_iff, Prod.mk.injEq, Option.some.injEq] at hs
    obtain ⟨m, h1, rfl, rfl⟩ := hs
    simp [Bl, Il, BI, Dj, he, FB, hg, Kk, Gp, ha, h1, hl]
   ·simp at hs
   ·cases hs
 ·cases hs
theorem MT {a : Nat × Nat} {v : AD} (hs : JN C.P fr op = some (a, 1, v)) (hc : v.cells? = some [v]) (hl : st g h a [v] = some h1) : Bl C S g h fr op = some (.tuple [], h1) := by
 unfold JN at hs
 split at hs
 ·split at hs
  ·rename_i he
   simp only [Option.map_eq_some_iff, Prod.mk.injEq] at hs
   obtain ⟨n, h2, rfl, rfl, hv⟩ := hs
   unfold st at hl
   simp [Bl, Il, BI, Kp, he, LM, hv, hc, h2, hl]
  ·cases hs
 ·cases hs
theorem TH {a : Nat × Nat} {n : Nat} {cs : List AD} (hs : JN C.P fr op = some (a, n, .agg cs)) (hl : X4 n g h a cs = some h1) : Bl C S g h fr op = some (.tuple [], h1) := by
 unfold JN at hs
 split at hs
 ·split at hs
  ·rename_i he
   simp only [Option.map_eq_some_iff, Prod.mk.injEq] at hs
   obtain ⟨m, h2, rfl, rfl, hv⟩ := hs
   unfold X4 at hl
   split at hl
   ·rename_i hn
    simp [Bl, Il, BI, Kp, he, LM, hv, AD.cells?, h2, hn, hl]
   ·cases hl
  ·cases hs
 ·cases hs
theorem QE {a b : Nat × Nat} {n z : Nat} {i : Int} (hs : WI C.P fr op = some (a, n, z, i)) (hl : Va a n z i = some b) : Bl C S g h fr op = some (.ptr (some b), h) := by
 unfold WI at hs
 split at hs
 ·split at hs
  ·rename_i hu hx hi
   simp only [Option.map_eq_some_iff, Prod.mk.injEq] at hs
   obtain ⟨m, h2, rfl, rfl, rfl, rfl⟩ := hs
   unfold Va at hl
   split at hl
   ·rename_i hb
    injection hl with hl
    subst hl
    simp [Bl, Il, BI, I4, Gk, hu, hx, hi, hb, h2]
   ·cases hl
  ·cases hs
 ·cases hs
theorem D7 {s : Sl} {b : Nat × Nat} {z : Nat} {i : Int} (hs : WT C.P fr op = some (s.r, s.n, z, i)) (hl : X3 s z i = some b) : Bl C S g h fr op = some (.ptr (some b), h) := by
 unfold WT at hs
 split at hs
 ·split at hs
  ·rename_i hu hx hi
   simp only [Option.map_eq_some_iff, Prod.mk.injEq] at hs
   obtain ⟨m, h2, e1, e2, rfl, rfl⟩ := hs
   unfold X3 Va at hl
   rw [← e1, ← e2] at hl
   split at hl
   ·split at hl
    ·rename_i hb
     injection hl with hl
     subst hl
     simp [Bl, Il, BI, I4, Gk, hu, hx, hi, hb, h2]
    ·cases hl
   ·cases hl
  ·cases hs
 ·cases hs
theorem Iy {s : List UInt8} {i n : Int} (hs : WO C.P fr op = some (s, i)) (hl : P1 s i = some n) : Bl C S g h fr op = some (.int .u8 n, h) := by
 unfold WO at hs
 split at hs
 ·split at hs
  ·rename_i hu hx hi
   simp only [Option.some.injEq, Prod.mk.injEq] at hs
   obtain ⟨rfl, rfl⟩ := hs
   unfold P1 at hl
   split at hl
   ·rename_i hb
    simp only [Option.map_eq_some_iff] at hl
    obtain ⟨b, h3, rfl⟩ := hl
    simp [Bl, Il, BI, I4, Qv, hu, hx, hi, hb, h3]
   ·cases hl
  ·cases hs
 ·cases hs
theorem JV {s t : List UInt8} {k k' : IntKind} {lo hi : Option Int} (hs : VD C.P fr op = some (s, lo.map (.int k ·), hi.map (.int k' ·))) (hl : Ln s lo hi = some t) : Bl C S g h fr op = some (.str t, h) := by
 unfold VD at hs
 split at hs
 ·split at hs
  ·rename_i hu hx
   simp only [Option.some.injEq, Prod.mk.injEq] at hs
   obtain ⟨rfl, h1, h2⟩ := hs
   unfold Ln at hl
   simp only [Option.map_eq_some_iff] at hl
   obtain ⟨p, h3, rfl⟩ := hl
   simp [Bl, Il, BI, I4, Qg, hu, hx, h1, h2, ON, h3]
  ·cases hs
 ·cases hs
theorem Xp {s : Sl} {t : List UInt8} (hs : U9 C.P fr op = some (s.r, s.n)) (hl : YN h s = some t) : Bl C S g h fr op = some (.str t, h) := by
 unfold U9 at hs
 split at hs
 ·split at hs
  ·rename_i hu hd hx
   split at hs
   ·rename_i he
    simp only [Option.some.injEq, Prod.mk.injEq] at hs
    obtain ⟨e1, e2⟩ := hs
    unfold YN at hl
    rw [← e1, ← e2] at hl
    split at hl
    ·injection hl with hl
     subst hl
     simp [Bl, Il, BI, Dj, FB, Kk, Pv, hu, hd, hx, he]
    ·rename_i a
     cases hg : h.get a.1 with
     | none =>
      rw [hg] at hl
      split at hl
      ·simp at hl
      ·simp [C8] at hl
     | some ob =>
      split at hl
      ·rename_i hn
       rw [hg] at hl
       injection hl with hl
       subst hl
       simp [Bl, Il, BI, Dj, FB, Kk, Pv, hu, hd, hx, he, hg, hn]
      ·rename_i hn
       obtain ⟨cs, h3, h4⟩ := bind_some hl
       rw [hg] at h3
       simp [Bl, Il, BI, Dj, FB, Kk, Pv, hu, hd, hx, he, hg, hn, h3, h4]
   ·cases hs
  ·cases hs
 ·cases hs
theorem YM {e : TypeId} {bytes : Nat} {z cs : List AD} {l c : Int} (hs : VX C.P fr op = some (e, bytes, z, l, c)) (hl : X1 bytes z l c = some cs) : Bl C S g h fr op = some (.slice (some (h.size, 0)) l.toNat, h.push (.cells (some e) 2 cs)) := by
 unfold VX at hs
 split at hs
 ·split at hs
  ·rename_i hu hx hy
   split at hs
   ·rename_i i hi
    split at hs
    ·rename_i z' hz
     split at hs
     ·rename_i zc hzc
      split at hs
      ·rename_i hb
       simp only [Option.some.injEq, Prod.mk.injEq] at hs
       obtain ⟨rfl, rfl, rfl, rfl, rfl⟩ := hs
       unfold X1 at hl
       split at hl
       ·rename_i hq
        injection hl with hl
        subst hl
        obtain ⟨q1, q2, q3, q4⟩ := hq
        simp only [Bl, Il, BI, PH, KU, hu, hx, hy, hi, hz, hzc]
        rw [if_pos ⟨q1, q2, q3, q4, hb.1, hb.2⟩]
        rfl
       ·cases hl
      ·cases hs
     ·cases hs
    ·cases hs
   ·cases hs
  ·cases hs
 ·cases hs
theorem Wg {f : FuncId} {args : List AD} {v : AD} (hs : MP fr op = some (f, args)) (hl : S.call g h f args = some (v, h1)) : Bl C S g h fr op = some (v, h1) := by
 unfold MP at hs
 split at hs
 ·split at hs
  ·rename_i he
   simp only [Option.some.injEq, Prod.mk.injEq] at hs
   obtain ⟨rfl, rfl⟩ := hs
   simp only [Bl, he]
   exact hl
  ·cases hs
 ·cases hs
theorem IE {e : TypeId} {sz bytes n : Nat} {s t : Sl} {x : AD} (hs : WU C.P fr op = some (e, sz, bytes, s.r, s.n, n, x)) (hl : app e sz bytes g h s n x = some (t, h1)) : Bl C S g h fr op = some (.slice t.r t.n, h1) := by
 unfold WU at hs
 split at hs
 ·split at hs
  ·rename_i hx ht0 ht1
   split at hs
   ·rename_i hu hd hn
    split at hs
    ·rename_i i hi
     split at hs
     ·rename_i hb
      simp only [Option.some.injEq, Prod.mk.injEq] at hs
      obtain ⟨rfl, rfl, rfl, e1, e2, rfl, rfl⟩ := hs
      unfold app at hl
      simp only [Bl, Il, BI, Kp, hx, M4, ht0, ht1, hu, hd, hn, hi, hb.1, if_true, appendCore]
      rw [e1, e2]
      split at hl
      ·rename_i h0
       simp only [Option.some.injEq, Prod.mk.injEq] at hl
       obtain ⟨rfl, rfl⟩ := hl
       rw [if_pos h0]
      ·rename_i h0
       rw [if_neg h0]
       split at hl
       ·rename_i hq
        rw [if_pos ⟨hb.2.1, hq.1, hq.2, hb.2.2⟩]
        split at hl
        ·rename_i new old h3 h4
         simp only [Option.map_eq_some_iff] at h3
         obtain ⟨new0, h3, rfl⟩ := h3
         simp only [h3, h4, Option.map_some]
         split at hl
         ·rename_i ho
          rw [if_pos ho]
          split at hl
          ·rename_i hr
           simp only [Option.some.injEq, Prod.mk.injEq] at hl
           obtain ⟨rfl, rfl⟩ := hl
           simp [hr]
          ·rename_i a hr
           split at hl
           ·rename_i hg
            split at hl
            ·rename_i hm
             simp only [Option.some.injEq, Prod.mk.injEq] at hl
             obtain ⟨rfl, rfl⟩ := hl
             simp [hr, hg, hm]
            ·cases hl
           ·cases hl
         ·cases hl
        ·cases hl
       ·cases hl
     ·cases hs
    ·cases hs
   ·cases hs
  ·cases hs
 ·cases hs
theorem VS {v : AD} {ob : CB} (hs : XW C.P fr op h.size = some (v, ob)) (hh : some (h.push ob) = some h1) : Bl C S g h fr op = some (v, h1) := by
 injection hh with hh
 rw [← hh]; exact Yj hs
theorem XQ {e : TypeId} {bytes : Nat} {z cs : List AD} {l c : Int} (hs : VX C.P fr op = some (e, bytes, z, l, c)) (hl : X1 bytes z l c = some cs) (hh : some (h.push (.cells (some e) 2 cs)) = some h1) : Bl C S g h fr op = some (.slice (some (h.size, 0)) l.toNat, h1) := by
 injection hh with hh
 rw [← hh]; exact YM hs hl
theorem UR {k : IntKind} {a b : Int} (hs : OC fr op = some (true, k, a, b)) (hb : decide (0 ≤ b) = true) : Bl C S g h fr op = some (.int k (Kh k a b), h) := by
 unfold OC at hs
 split at hs
 ·split at hs
  ·rename_i hx hy
   simp only [Option.some.injEq, Prod.mk.injEq, true_and] at hs
   obtain ⟨rfl, rfl, rfl⟩ := hs
   have hb' := of_decide_eq_true hb
   simp [Bl, Il, BI, I4, Ss, SX, hx, hy, OT, Int.not_lt.2 hb', Kh]
  ·simp at hs
  ·cases hs
 ·cases hs
theorem TE {k : IntKind} {a b : Int} (hs : OC fr op = some (false, k, a, b)) (hb : decide (0 ≤ b) = true) : Bl C S g h fr op = some (.int k (CE k a b), h) := by
 unfold OC at hs
 split at hs
 ·split at hs
  ·simp at hs
  ·rename_i hx hy
   simp only [Option.some.injEq, Prod.mk.injEq, true_and] at hs
   obtain ⟨rfl, rfl, rfl⟩ := hs
   have hb' := of_decide_eq_true hb
   simp [Bl, Il, BI, I4, Ss, SX, hx, hy, OT, Int.not_lt.2 hb', CE]
  ·cases hs
 ·cases hs
end
end Go.Av
