/-
 A part.
-/
import Derived.Test.YtdjbadhilkmiiaaGreatDoorAvLift
namespace Go.Av
section
variable {C : HS} {S : Self} {g : Gd} {h h1 : AJ} {fr : Fr} {op : Op}
theorem Ft (hc : BX C.P op ≠ 3) : Bs C S g h fr op = Iw C.P C.D9 g h fr op := HK hc
theorem X1 {v : AB} (hs : Wq C.P fr op = some v) : Bs C S g h fr op = some (v, h) := by
 unfold Wq at hs
 split at hs
 ·rename_i hc
  rw [Ft (by rw [hc]; simp)]
  simp [Iw, hc, hs]
 ·cases hs
theorem YG {v : AB} {ob : CY} (hs : Wh C.P fr op h.size = some (v, ob)) : Bs C S g h fr op = some (v, h.push ob) := by
 unfold Wh at hs
 split at hs
 ·rename_i hc
  rw [Ft (by rw [hc]; simp)]
  simp only [Option.map_eq_some_iff, Prod.mk.injEq] at hs
  obtain ⟨x, h1, rfl, rfl⟩ := hs
  simp [Iw, hc, h1]
 ·cases hs
theorem U3 {a : Nat × Nat} {v : AB} (hl : Ni h a = some v) : DF (h.get a.1) a.2 1 = some [v] ∧ ∃ ob, h.get a.1 = some ob := by
 unfold Ni at hl
 split at hl
 ·rename_i u hu
  injection hl with hl
  subst hl
  refine ⟨hu, ?_⟩
  cases hg : h.get a.1 with
  | none => rw [hg] at hu; simp [DF] at hu
  | some ob => exact ⟨ob, rfl⟩
 ·cases hl
theorem EP {a : Nat × Nat} {v : AB} (hs : M9 C.P fr op = some (a, none)) (hl : Ni h a = some v) : Bs C S g h fr op = some (v, h) := by
 unfold M9 at hs
 split at hs
 ·rename_i t x
  obtain ⟨h1, ob, h2⟩ := U3 hl
  rw [h2] at h1
  split at hs
  ·simp only [Option.map_eq_some_iff, Prod.mk.injEq] at hs
   obtain ⟨_, _, _, hc⟩ := hs
   cases hc
  ·rename_i he ha
   simp only [Option.some.injEq, Prod.mk.injEq, and_true] at hs
   subst hs
   simp [Bs, Iw, BX, Dw, he, FE, h2, KK, Gb, ha, h1]
  ·cases hs
 ·cases hs
theorem B3 {a : Nat × Nat} {n : Nat} {cs : List AB} (hs : M9 C.P fr op = some (a, some n)) (hl : F5 h a n = some cs) : Bs C S g h fr op = some (.agg cs, h) := by
 unfold M9 at hs
 split at hs
 ·rename_i t x
  unfold F5 at hl
  cases hg : h.get a.1 with
  | none => rw [hg] at hl; simp [DF] at hl
  | some ob =>
   rw [hg] at hl
   split at hs
   ·rename_i he ha
    simp only [Option.map_eq_some_iff, Prod.mk.injEq, Option.some.injEq] at hs
    obtain ⟨m, h1, rfl, rfl⟩ := hs
    simp [Bs, Iw, BX, Dw, he, FE, hg, KK, Gb, ha, h1, hl]
   ·simp at hs
   ·cases hs
 ·cases hs
theorem N5 {a : Nat × Nat} {v : AB} (hs : I1 C.P fr op = some (a, 1, v)) (hc : v.cells? = some [v]) (hl : st g h a [v] = some h1) : Bs C S g h fr op = some (.tuple [], h1) := by
 unfold I1 at hs
 split at hs
 ·split at hs
  ·rename_i he
   simp only [Option.map_eq_some_iff, Prod.mk.injEq] at hs
   obtain ⟨n, h2, rfl, rfl, hv⟩ := hs
   unfold st at hl
   simp [Bs, Iw, BX, KJ, he, K3, hv, hc, h2, hl]
  ·cases hs
 ·cases hs
theorem LZ {a : Nat × Nat} {n : Nat} {cs : List AB} (hs : I1 C.P fr op = some (a, n, .agg cs)) (hl : XK n g h a cs = some h1) : Bs C S g h fr op = some (.tuple [], h1) := by
 unfold I1 at hs
 split at hs
 ·split at hs
  ·rename_i he
   simp only [Option.map_eq_some_iff, Prod.mk.injEq] at hs
   obtain ⟨m, h2, rfl, rfl, hv⟩ := hs
   unfold XK at hl
   split at hl
   ·rename_i hn
    simp [Bs, Iw, BX, KJ, he, K3, hv, AB.cells?, h2, hn, hl]
   ·cases hl
  ·cases hs
 ·cases hs
theorem Hv {a b : Nat × Nat} {n z : Nat} {i : Int} (hs : Vf C.P fr op = some (a, n, z, i)) (hl : Ul a n z i = some b) : Bs C S g h fr op = some (.ptr (some b), h) := by
 unfold Vf at hs
 split at hs
 ·split at hs
  ·rename_i hu hx hi
   simp only [Option.map_eq_some_iff, Prod.mk.injEq] at hs
   obtain ⟨m, h2, rfl, rfl, rfl, rfl⟩ := hs
   unfold Ul at hl
   split at hl
   ·rename_i hb
    injection hl with hl
    subst hl
    simp [Bs, Iw, BX, Iz, GX, hu, hx, hi, hb, h2]
   ·cases hl
  ·cases hs
 ·cases hs
theorem Fg {s : Sl} {b : Nat × Nat} {z : Nat} {i : Int} (hs : VV C.P fr op = some (s.r, s.n, z, i)) (hl : XI s z i = some b) : Bs C S g h fr op = some (.ptr (some b), h) := by
 unfold VV at hs
 split at hs
 ·split at hs
  ·rename_i hu hx hi
   simp only [Option.map_eq_some_iff, Prod.mk.injEq] at hs
   obtain ⟨m, h2, e1, e2, rfl, rfl⟩ := hs
   unfold XI Ul at hl
   rw [← e1, ← e2] at hl
   split at hl
   ·split at hl
    ·rename_i hb
     injection hl with hl
     subst hl
     simp [Bs, Iw, BX, Iz, GX, hu, hx, hi, hb, h2]
    ·cases hl
   ·cases hl
  ·cases hs
 ·cases hs
theorem E5 {s : List UInt8} {i n : Int} (hs : Vb C.P fr op = some (s, i)) (hl : KW s i = some n) : Bs C S g h fr op = some (.int .u8 n, h) := by
 unfold Vb at hs
 split at hs
 ·split at hs
  ·rename_i hu hx hi
   simp only [Option.some.injEq, Prod.mk.injEq] at hs
   obtain ⟨rfl, rfl⟩ := hs
   unfold KW at hl
   split at hl
   ·rename_i hb
    simp only [Option.map_eq_some_iff] at hl
    obtain ⟨b, h3, rfl⟩ := hl
    simp [Bs, Iw, BX, Iz, QN, hu, hx, hi, hb, h3]
   ·cases hl
  ·cases hs
 ·cases hs
theorem GA {s t : List UInt8} {k k' : IntKind} {lo hi : Option Int} (hs : US C.P fr op = some (s, lo.map (.int k ·), hi.map (.int k' ·))) (hl : HX s lo hi = some t) : Bs C S g h fr op = some (.str t, h) := by
 unfold US at hs
 split at hs
 ·split at hs
  ·rename_i hu hx
   simp only [Option.some.injEq, Prod.mk.injEq] at hs
   obtain ⟨rfl, h1, h2⟩ := hs
   unfold HX at hl
   simp only [Option.map_eq_some_iff] at hl
   obtain ⟨p, h3, rfl⟩ := hl
   simp [Bs, Iw, BX, Iz, QJ, hu, hx, h1, h2, SB, h3]
  ·cases hs
 ·cases hs
theorem W2 {s : Sl} {t : List UInt8} (hs : UP C.P fr op = some (s.r, s.n)) (hl : Xq h s = some t) : Bs C S g h fr op = some (.str t, h) := by
 unfold UP at hs
 split at hs
 ·split at hs
  ·rename_i hu hd hx
   split at hs
   ·rename_i he
    simp only [Option.some.injEq, Prod.mk.injEq] at hs
    obtain ⟨e1, e2⟩ := hs
    unfold Xq at hl
    rw [← e1, ← e2] at hl
    split at hl
    ·injection hl with hl
     subst hl
     simp [Bs, Iw, BX, Dw, FE, KK, PT, hu, hd, hx, he]
    ·rename_i a
     cases hg : h.get a.1 with
     | none =>
      rw [hg] at hl
      split at hl
      ·simp at hl
      ·simp [DF] at hl
     | some ob =>
      split at hl
      ·rename_i hn
       rw [hg] at hl
       injection hl with hl
       subst hl
       simp [Bs, Iw, BX, Dw, FE, KK, PT, hu, hd, hx, he, hg, hn]
      ·rename_i hn
       obtain ⟨cs, h3, h4⟩ := bind_some hl
       rw [hg] at h3
       simp [Bs, Iw, BX, Dw, FE, KK, PT, hu, hd, hx, he, hg, hn, h3, h4]
   ·cases hs
  ·cases hs
 ·cases hs
theorem Xb {e : TypeId} {bytes : Nat} {z cs : List AB} {l c : Int} (hs : Ut C.P fr op = some (e, bytes, z, l, c)) (hl : XP bytes z l c = some cs) : Bs C S g h fr op = some (.slice (some (h.size, 0)) l.toNat, h.push (.cells (some e) 2 cs)) := by
 unfold Ut at hs
 split at hs
 ·split at hs
  ·rename_i hu hx hy
   split at hs
   ·rename_i i hi
    split at hs
    ·rename_i z' hz
     split at hs
     ·rename_i zc hzc
      split at hs
      ·rename_i hb
       simp only [Option.some.injEq, Prod.mk.injEq] at hs
       obtain ⟨rfl, rfl, rfl, rfl, rfl⟩ := hs
       unfold XP at hl
       split at hl
       ·rename_i hq
        injection hl with hl
        subst hl
        obtain ⟨q1, q2, q3, q4⟩ := hq
        simp only [Bs, Iw, BX, Om, Jq, hu, hx, hy, hi, hz, hzc]
        rw [if_pos ⟨q1, q2, q3, q4, hb.1, hb.2⟩]
        rfl
       ·cases hl
      ·cases hs
     ·cases hs
    ·cases hs
   ·cases hs
  ·cases hs
 ·cases hs
theorem Vp {f : FuncId} {args : List AB} {v : AB} (hs : Lx fr op = some (f, args)) (hl : S.call g h f args = some (v, h1)) : Bs C S g h fr op = some (v, h1) := by
 unfold Lx at hs
 split at hs
 ·split at hs
  ·rename_i he
   simp only [Option.some.injEq, Prod.mk.injEq] at hs
   obtain ⟨rfl, rfl⟩ := hs
   simp only [Bs, he]
   exact hl
  ·cases hs
 ·cases hs
theorem G3 {e : TypeId} {sz bytes n : Nat} {s t : Sl} {x : AB} (hs : Vc C.P fr op = some (e, sz, bytes, s.r, s.n, n, x)) (hl : app e sz bytes g h s n x = some (t, h1)) : Bs C S g h fr op = some (.slice t.r t.n, h1) := by
 unfold Vc at hs
 split at hs
 ·split at hs
  ·rename_i hx ht0 ht1
   split at hs
   ·rename_i hu hd hn
    split at hs
    ·rename_i i hi
     split at hs
     ·rename_i hb
      simp only [Option.some.injEq, Prod.mk.injEq] at hs
      obtain ⟨rfl, rfl, rfl, e1, e2, rfl, rfl⟩ := hs
      unfold app at hl
      simp only [Bs, Iw, BX, KJ, hx, MV, ht0, ht1, hu, hd, hn, hi, hb.1, if_true, appendCore]
      rw [e1, e2]
      split at hl
      ·rename_i h0
       simp only [Option.some.injEq, Prod.mk.injEq] at hl
       obtain ⟨rfl, rfl⟩ := hl
       rw [if_pos h0]
      ·rename_i h0
       rw [if_neg h0]
       split at hl
       ·rename_i hq
        rw [if_pos ⟨hb.2.1, hq.1, hq.2, hb.2.2⟩]
        split at hl
        ·rename_i new old h3 h4
         simp only [Option.map_eq_some_iff] at h3
         obtain ⟨new0, h3, rfl⟩ := h3
         simp only [h3, h4, Option.map_some]
         split at hl
         ·rename_i ho
          rw [if_pos ho]
          split at hl
          ·rename_i hr
           simp only [Option.some.injEq, Prod.mk.injEq] at hl
           obtain ⟨rfl, rfl⟩ := hl
           simp [hr]
          ·rename_i a hr
           split at hl
           ·rename_i hg
            split at hl
            ·rename_i hm
             simp only [Option.some.injEq, Prod.mk.injEq] at hl
             obtain ⟨rfl, rfl⟩ := hl
             simp [hr, hg, hm]
            ·cases hl
           ·cases hl
         ·cases hl
        ·cases hl
       ·cases hl
     ·cases hs
    ·cases hs
   ·cases hs
  ·cases hs
 ·cases hs
theorem TQ {v : AB} {ob : CY} (hs : Wh C.P fr op h.size = some (v, ob)) (hh : some (h.push ob) = some h1) : Bs C S g h fr op = some (v, h1) := by
 injection hh with hh
 rw [← hh]; exact YG hs
theorem W9 {e : TypeId} {bytes : Nat} {z cs : List AB} {l c : Int} (hs : Ut C.P fr op = some (e, bytes, z, l, c)) (hl : XP bytes z l c = some cs) (hh : some (h.push (.cells (some e) 2 cs)) = some h1) : Bs C S g h fr op = some (.slice (some (h.size, 0)) l.toNat, h1) := by
 injection hh with hh
 rw [← hh]; exact Xb hs hl
theorem SN {k : IntKind} {a b : Int} (hs : Nh fr op = some (true, k, a, b)) (hb : decide (0 ≤ b) = true) : Bs C S g h fr op = some (.int k (Fk k a b), h) := by
 unfold Nh at hs
 split at hs
 ·split at hs
  ·rename_i hx hy
   simp only [Option.some.injEq, Prod.mk.injEq, true_and] at hs
   obtain ⟨rfl, rfl, rfl⟩ := hs
   have hb' := of_decide_eq_true hb
   simp [Bs, Iw, BX, Iz, Rl, Rr, hx, hy, OV, Int.not_lt.2 hb', Fk]
  ·simp at hs
  ·cases hs
 ·cases hs
theorem Sp {k : IntKind} {a b : Int} (hs : Nh fr op = some (false, k, a, b)) (hb : decide (0 ≤ b) = true) : Bs C S g h fr op = some (.int k (By k a b), h) := by
 unfold Nh at hs
 split at hs
 ·split at hs
  ·simp at hs
  ·rename_i hx hy
   simp only [Option.some.injEq, Prod.mk.injEq, true_and] at hs
   obtain ⟨rfl, rfl, rfl⟩ := hs
   have hb' := of_decide_eq_true hb
   simp [Bs, Iw, BX, Iz, Rl, Rr, hx, hy, OV, Int.not_lt.2 hb', By]
  ·cases hs
 ·cases hs
theorem J9 {a b : List UInt8} (hs : VU fr op = some (a, b)) (hb : decide (a.length + b.length ≤ 9223372036854775807) = true) : Bs C S g h fr op = some (.str (a ++ b), h) := by
 unfold VU at hs
 split at hs
 ·split at hs
  ·rename_i hx hy
   simp only [Option.some.injEq, Prod.mk.injEq] at hs
   obtain ⟨rfl, rfl⟩ := hs
   have hb' := of_decide_eq_true hb
   simp [Bs, Iw, BX, Iz, Rl, Rr, hx, hy, Pm, hb']
  ·cases hs
 ·cases hs
end
end Go.Av
