/-
 A part.
-/
import Derived.Test.YtlljeoogceblmaaGreatDoorAvLift
namespace Go.Av
section
variable {C : FY} {S : Self} {g : Gd} {h h1 : AD} {fr : Fr} {op : Op}
theorem Gu (hc : As C.P op ≠ 3) : A0 C S g h fr op = G3 C.P C.Bt g h fr op := GI hc
theorem bq {v : AA} (hs : Zu C.P fr op = some v) : A0 C S g h fr op = some (v, h) := by
 unfold Zu at hs
 split at hs
 ·rename_i hc
  rw [Gu (by rw [hc]; simp)]
  simp [G3, hc, hs]
 ·cases hs
theorem bm {v : AA} {ob : BY} (hs : ZQ C.P fr op h.size = some (v, ob)) : A0 C S g h fr op = some (v, h.push ob) := by
 unfold ZQ at hs
 split at hs
 ·rename_i hc
  rw [Gu (by rw [hc]; simp)]
  simp only [Option.map_eq_some_iff, Prod.mk.injEq] at hs
  obtain ⟨x, h1, rfl, rfl⟩ := hs
  simp [G3, hc, h1]
 ·cases hs
theorem Xa {a : Nat × Nat} {v : AA} (hl : ld1 h a = some v) : Bx (h.get a.1) a.2 1 = some [v] ∧ ∃ ob, h.get a.1 = some ob := by
 unfold ld1 at hl
 split at hl
 ·rename_i u hu
  injection hl with hl
  subst hl
  refine ⟨hu, ?_⟩
  cases hg : h.get a.1 with
  | none => rw [hg] at hu; simp [Bx] at hu
  | some ob => exact ⟨ob, rfl⟩
 ·cases hl
theorem O0 {a : Nat × Nat} {v : AA} (hs : L9 C.P fr op = some (a, none)) (hl : ld1 h a = some v) : A0 C S g h fr op = some (v, h) := by
 unfold L9 at hs
 split at hs
 ·rename_i t x
  obtain ⟨h1, ob, h2⟩ := Xa hl
  rw [h2] at h1
  split at hs
  ·simp only [Option.map_eq_some_iff, Prod.mk.injEq] at hs
   obtain ⟨_, _, _, hc⟩ := hs
   cases hc
  ·rename_i he ha
   simp only [Option.some.injEq, Prod.mk.injEq, and_true] at hs
   subst hs
   simp [A0, G3, As, Ci, he, Dn, h2, JQ, Fw, ha, h1]
  ·cases hs
 ·cases hs
theorem BM {a : Nat × Nat} {n : Nat} {cs : List AA} (hs : L9 C.P fr op = some (a, some n)) (hl : Eh h a n = some cs) : A0 C S g h fr op = some (.agg cs, h) := by
 unfold L9 at hs
 split at hs
 ·rename_i t x
  unfold Eh at hl
  cases hg : h.get a.1 with
  | none => rw [hg] at hl; simp [Bx] at hl
  | some ob =>
   rw [hg] at hl
   split at hs
   ·rename_i he ha
    simp only [Option.map_eq_some_iff, Prod.mk.injEq, Option.some.injEq] at hs
    obtain ⟨m, h1, rfl, rfl⟩ := hs
    simp [A0, G3, As, Ci, he, Dn, hg, JQ, Fw, ha, h1, hl]
   ·simp at hs
   ·cases hs
 ·cases hs
theorem Wq {a : Nat × Nat} {v : AA} (hs : Ho C.P fr op = some (a, 1, v)) (hc : v.cells? = some [v]) (hl : st g h a [v] = some h1) : A0 C S g h fr op = some (.tuple [], h1) := by
 unfold Ho at hs
 split at hs
 ·split at hs
  ·rename_i he
   simp only [Option.map_eq_some_iff, Prod.mk.injEq] at hs
   obtain ⟨n, h2, rfl, rfl, hv⟩ := hs
   unfold st at hl
   simp [A0, G3, As, JP, he, Jk, hv, hc, h2, hl]
  ·cases hs
 ·cases hs
theorem RV {a : Nat × Nat} {n : Nat} {cs : List AA} (hs : Ho C.P fr op = some (a, n, .agg cs)) (hl : aL n g h a cs = some h1) : A0 C S g h fr op = some (.tuple [], h1) := by
 unfold Ho at hs
 split at hs
 ·split at hs
  ·rename_i he
   simp only [Option.map_eq_some_iff, Prod.mk.injEq] at hs
   obtain ⟨m, h2, rfl, rfl, hv⟩ := hs
   unfold aL at hl
   split at hl
   ·rename_i hn
    simp [A0, G3, As, JP, he, Jk, hv, AA.cells?, h2, hn, hl]
   ·cases hl
  ·cases hs
 ·cases hs
theorem LP {s : Sl} {b : Nat × Nat} {z : Nat} {i : Int} (hs : X0 C.P fr op = some (s.r, s.n, z, i)) (hl : aO s z i = some b) : A0 C S g h fr op = some (.ptr (some b), h) := by
 unfold X0 at hs
 split at hs
 ·split at hs
  ·rename_i hu hx hi
   simp only [Option.map_eq_some_iff, Prod.mk.injEq] at hs
   obtain ⟨m, h2, e1, e2, rfl, rfl⟩ := hs
   unfold aO al at hl
   rw [← e1, ← e2] at hl
   split at hl
   ·split at hl
    ·rename_i hb
     injection hl with hl
     subst hl
     simp [A0, G3, As, Ha, G8, hu, hx, hi, hb, h2]
    ·cases hl
   ·cases hl
  ·cases hs
 ·cases hs
theorem EW {s : List UInt8} {i n : Int} (hs : Xk C.P fr op = some (s, i)) (hl : LN s i = some n) : A0 C S g h fr op = some (.int .u8 n, h) := by
 unfold Xk at hs
 split at hs
 ·split at hs
  ·rename_i hu hx hi
   simp only [Option.some.injEq, Prod.mk.injEq] at hs
   obtain ⟨rfl, rfl⟩ := hs
   unfold LN at hl
   split at hl
   ·rename_i hb
    simp only [Option.map_eq_some_iff] at hl
    obtain ⟨b, h3, rfl⟩ := hl
    simp [A0, G3, As, Ha, L3, hu, hx, hi, hb, h3]
   ·cases hl
  ·cases hs
 ·cases hs
theorem Fe {s t : List UInt8} {k k' : IntKind} {lo hi : Option Int} (hs : Vw C.P fr op = some (s, lo.map (.int k ·), hi.map (.int k' ·))) (hl : FF s lo hi = some t) : A0 C S g h fr op = some (.str t, h) := by
 unfold Vw at hs
 split at hs
 ·split at hs
  ·rename_i hu hx
   simp only [Option.some.injEq, Prod.mk.injEq] at hs
   obtain ⟨rfl, h1, h2⟩ := hs
   unfold FF at hl
   simp only [Option.map_eq_some_iff] at hl
   obtain ⟨p, h3, rfl⟩ := hl
   simp [A0, G3, As, Ha, QP, hu, hx, h1, h2, Ih, h3]
  ·cases hs
 ·cases hs
theorem TA {s t : Sl} {z : Nat} {k k' : IntKind} {lo hi : Option Int} (hs : WB C.P fr op = some (s.r, s.n, z, lo.map (.int k ·), hi.map (.int k' ·))) (hl : Wu C.P h s z lo hi = some t) : A0 C S g h fr op = some (.slice t.r t.n, h) := by
 unfold WB at hs
 split at hs
 ·split at hs
  ·rename_i hu hx
   simp only [Option.map_eq_some_iff, Prod.mk.injEq] at hs
   obtain ⟨m, hm, e1, e2, rfl, h1, h2⟩ := hs
   unfold Wu at hl
   rw [← e1, ← e2] at hl
   split at hl
   ·split at hl
    ·rename_i hn
     simp only [Option.map_eq_some_iff] at hl
     obtain ⟨p, h3, rfl⟩ := hl
     subst hn
     simp [A0, G3, As, Ci, Dn, JQ, MM, hu, hx, h1, h2, Ih, h3, hm]
    ·cases hl
   ·split at hl
    ·rename_i hg
     simp only [Option.map_eq_some_iff] at hl
     obtain ⟨p, h3, rfl⟩ := hl
     simp [A0, G3, As, Ci, Dn, JQ, MM, hu, hx, h1, h2, Ih, h3, hg, hm]
    ·rename_i hg
     split at hl
     ·rename_i hz
      simp only [Option.map_eq_some_iff] at hl
      obtain ⟨p, h3, rfl⟩ := hl
      simp [A0, G3, As, Ci, Dn, JQ, MM, hu, hx, h1, h2, Ih, h3, hg, hm, hz]
     ·cases hl
    ·cases hl
  ·cases hs
 ·cases hs
theorem ZV {s : Sl} {t : List UInt8} (hs : Wj C.P fr op = some (s.r, s.n)) (hl : aj h s = some t) : A0 C S g h fr op = some (.str t, h) := by
 unfold Wj at hs
 split at hs
 ·split at hs
  ·rename_i hu hd hx
   split at hs
   ·rename_i he
    simp only [Option.some.injEq, Prod.mk.injEq] at hs
    obtain ⟨e1, e2⟩ := hs
    unfold aj at hl
    rw [← e1, ← e2] at hl
    split at hl
    ·injection hl with hl
     subst hl
     simp [A0, G3, As, Ci, Dn, JQ, PA, hu, hd, hx, he]
    ·rename_i a
     cases hg : h.get a.1 with
     | none =>
      rw [hg] at hl
      split at hl
      ·simp at hl
      ·simp [Bx] at hl
     | some ob =>
      split at hl
      ·rename_i hn
       rw [hg] at hl
       injection hl with hl
       subst hl
       simp [A0, G3, As, Ci, Dn, JQ, PA, hu, hd, hx, he, hg, hn]
      ·rename_i hn
       obtain ⟨cs, h3, h4⟩ := bind_some hl
       rw [hg] at h3
       simp [A0, G3, As, Ci, Dn, JQ, PA, hu, hd, hx, he, hg, hn, h3, h4]
   ·cases hs
  ·cases hs
 ·cases hs
theorem aY {e : TypeId} {bytes : Nat} {z cs : List AA} {l c : Int} (hs : Xe C.P fr op = some (e, bytes, z, l, c)) (hl : aP bytes z l c = some cs) : A0 C S g h fr op = some (.slice (some (h.size, 0)) l.toNat, h.push (.cells (some e) 2 cs)) := by
 unfold Xe at hs
 split at hs
 ·split at hs
  ·rename_i hu hx hy
   split at hs
   ·rename_i i hi
    split at hs
    ·rename_i z' hz
     split at hs
     ·rename_i zc hzc
      split at hs
      ·rename_i hb
       simp only [Option.some.injEq, Prod.mk.injEq] at hs
       obtain ⟨rfl, rfl, rfl, rfl, rfl⟩ := hs
       unfold aP at hl
       split at hl
       ·rename_i hq
        injection hl with hl
        subst hl
        obtain ⟨q1, q2, q3, q4⟩ := hq
        simp only [A0, G3, As, Ot, It, hu, hx, hy, hi, hz, hzc]
        rw [if_pos ⟨q1, q2, q3, q4, hb.1, hb.2⟩]
        rfl
       ·cases hl
      ·cases hs
     ·cases hs
    ·cases hs
   ·cases hs
  ·cases hs
 ·cases hs
theorem Ym {f : FuncId} {args : List AA} {v : AA} (hs : L7 fr op = some (f, args)) (hl : S.call g h f args = some (v, h1)) : A0 C S g h fr op = some (v, h1) := by
 unfold L7 at hs
 split at hs
 ·split at hs
  ·rename_i he
   simp only [Option.some.injEq, Prod.mk.injEq] at hs
   obtain ⟨rfl, rfl⟩ := hs
   simp only [A0, he]
   exact hl
  ·cases hs
 ·cases hs
theorem IT {e : TypeId} {sz bytes n : Nat} {s t : Sl} {x : AA} (hs : X4 C.P fr op = some (e, sz, bytes, s.r, s.n, n, x)) (hl : app e sz bytes g h s n x = some (t, h1)) : A0 C S g h fr op = some (.slice t.r t.n, h1) := by
 unfold X4 at hs
 split at hs
 ·split at hs
  ·rename_i hx ht0 ht1
   split at hs
   ·rename_i hu hd hn
    split at hs
    ·rename_i i hi
     split at hs
     ·rename_i hb
      simp only [Option.some.injEq, Prod.mk.injEq] at hs
      obtain ⟨rfl, rfl, rfl, e1, e2, rfl, rfl⟩ := hs
      unfold app at hl
      simp only [A0, G3, As, JP, hx, Le, ht0, ht1, hu, hd, hn, hi, hb.1, if_true, appendCore]
      rw [e1, e2]
      split at hl
      ·rename_i h0
       simp only [Option.some.injEq, Prod.mk.injEq] at hl
       obtain ⟨rfl, rfl⟩ := hl
       rw [if_pos h0]
      ·rename_i h0
       rw [if_neg h0]
       split at hl
       ·rename_i hq
        rw [if_pos ⟨hb.2.1, hq.1, hq.2, hb.2.2⟩]
        split at hl
        ·rename_i new Fq h3 h4
         simp only [Option.map_eq_some_iff] at h3
         obtain ⟨new0, h3, rfl⟩ := h3
         simp only [h3, h4, Option.map_some]
         split at hl
         ·rename_i ho
          rw [if_pos ho]
          split at hl
          ·rename_i hr
           simp only [Option.some.injEq, Prod.mk.injEq] at hl
           obtain ⟨rfl, rfl⟩ := hl
           simp [hr]
          ·rename_i a hr
           split at hl
           ·rename_i hg
            split at hl
            ·rename_i hm
             simp only [Option.some.injEq, Prod.mk.injEq] at hl
             obtain ⟨rfl, rfl⟩ := hl
             simp [hr, hg, hm]
            ·cases hl
           ·cases hl
         ·cases hl
        ·cases hl
       ·cases hl
     ·cases hs
    ·cases hs
   ·cases hs
  ·cases hs
 ·cases hs
theorem U5 {z n : Nat} {d : Sl} {x : AA} {k : Int} (hs : Xu C.P fr op = some (z, d.r, d.n, n, x)) (hl : aK z g h d n x = some (k, h1)) : A0 C S g h fr op = some (.int .i64 k, h1) := by
 unfold Xu at hs
 split at hs
 ·split at hs
  ·rename_i hx ht0
   split at hs
   ·rename_i hu hn
    simp only [Option.map_eq_some_iff, Prod.mk.injEq] at hs
    obtain ⟨z', hz, rfl, e1, e2, rfl, rfl⟩ := hs
    unfold aK at hl
    simp only [A0, G3, As, JP, hx, Qs, ht0, hu, hn, hz]
    rw [e1, e2]
    split at hl
    ·rename_i new h3
     simp only [h3]
     split at hl
     ·rename_i h0
      simp only [Option.some.injEq, Prod.mk.injEq] at hl
      obtain ⟨rfl, rfl⟩ := hl
      cases d.r with
      | none => simp [h0]
      | some a => simp [h0]
     ·rename_i h0
      split at hl
      ·rename_i a hr
       simp only [Option.map_eq_some_iff, Prod.mk.injEq] at hl
       obtain ⟨h4, h5, rfl, rfl⟩ := hl
       simp [hr, h0, h5]
      ·cases hl
    ·cases hl
   ·cases hs
  ·cases hs
 ·cases hs
theorem Ye {v : AA} {ob : BY} (hs : ZQ C.P fr op h.size = some (v, ob)) (hh : some (h.push ob) = some h1) : A0 C S g h fr op = some (v, h1) := by
 injection hh with hh
 rw [← hh]; exact bm hs
theorem aA {e : TypeId} {bytes : Nat} {z cs : List AA} {l c : Int} (hs : Xe C.P fr op = some (e, bytes, z, l, c)) (hl : aP bytes z l c = some cs) (hh : some (h.push (.cells (some e) 2 cs)) = some h1) : A0 C S g h fr op = some (.slice (some (h.size, 0)) l.toNat, h1) := by
 injection hh with hh
 rw [← hh]; exact aY hs hl
theorem Zx {k : IntKind} {a b : Int} (hs : T8 fr op = some (true, k, a, b)) (hb : decide (0 ≤ b) = true) : A0 C S g h fr op = some (.int k (HB k a b), h) := by
 unfold T8 at hs
 split at hs
 ·split at hs
  ·rename_i hx hy
   simp only [Option.some.injEq, Prod.mk.injEq, true_and] at hs
   obtain ⟨rfl, rfl, rfl⟩ := hs
   have hb' := of_decide_eq_true hb
   simp [A0, G3, As, Ha, Sa, SH, hx, hy, QI, Int.not_lt.2 hb', HB]
  ·simp at hs
  ·cases hs
 ·cases hs
theorem Lq {a b : List UInt8} (hs : X2 fr op = some (a, b)) (hb : decide (a.length + b.length ≤ 9223372036854775807) = true) : A0 C S g h fr op = some (.str (a ++ b), h) := by
 unfold X2 at hs
 split at hs
 ·split at hs
  ·rename_i hx hy
   simp only [Option.some.injEq, Prod.mk.injEq] at hs
   obtain ⟨rfl, rfl⟩ := hs
   have hb' := of_decide_eq_true hb
   simp [A0, G3, As, Ha, Sa, SH, hx, hy, QZ, hb']
  ·cases hs
 ·cases hs
end
end Go.Av
