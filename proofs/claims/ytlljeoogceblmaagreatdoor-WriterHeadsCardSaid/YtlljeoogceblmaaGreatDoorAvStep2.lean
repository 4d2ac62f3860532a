/-
 A part.
-/
import Derived.Test.YtlljeoogceblmaaGreatDoorAvLift
namespace Go.Av
section
variable {C : Ft} {S : Self} {g : Gd} {h h1 : AD} {fr : Fr} {op : Op}
theorem HY (hc : As C.P op ≠ 3) : A7 C S g h fr op = HR C.P C.Cd g h fr op := Gg hc
theorem bI {v : AB} (hs : ZT C.P fr op = some v) : A7 C S g h fr op = some (v, h) := by
 unfold ZT at hs
 split at hs
 ·rename_i hc
  rw [HY (by rw [hc]; simp)]
  simp [HR, hc, hs]
 ·cases hs
theorem bH {v : AB} {ob : Bm} (hs : aA C.P fr op h.size = some (v, ob)) : A7 C S g h fr op = some (v, h.push ob) := by
 unfold aA at hs
 split at hs
 ·rename_i hc
  rw [HY (by rw [hc]; simp)]
  simp only [Option.map_eq_some_iff, Prod.mk.injEq] at hs
  obtain ⟨x, h1, rfl, rfl⟩ := hs
  simp [HR, hc, h1]
 ·cases hs
theorem X7 {a : Nat × Nat} {v : AB} (hl : ld1 h a = some v) : CM (h.get a.1) a.2 1 = some [v] ∧ ∃ ob, h.get a.1 = some ob := by
 unfold ld1 at hl
 split at hl
 ·rename_i u hu
  injection hl with hl
  subst hl
  refine ⟨hu, ?_⟩
  cases hg : h.get a.1 with
  | none => rw [hg] at hu; simp [CM] at hu
  | some ob => exact ⟨ob, rfl⟩
 ·cases hl
theorem GN {a : Nat × Nat} {v : AB} (hs : Mx C.P fr op = some (a, none)) (hl : ld1 h a = some v) : A7 C S g h fr op = some (v, h) := by
 unfold Mx at hs
 split at hs
 ·rename_i t x
  obtain ⟨h1, ob, h2⟩ := X7 hl
  rw [h2] at h1
  split at hs
  ·simp only [Option.map_eq_some_iff, Prod.mk.injEq] at hs
   obtain ⟨_, _, _, hc⟩ := hs
   cases hc
  ·rename_i he ha
   simp only [Option.some.injEq, Prod.mk.injEq, and_true] at hs
   subst hs
   simp [A7, HR, As, C3, he, EI, h2, Jn, Gc, ha, h1]
  ·cases hs
 ·cases hs
theorem BD {a : Nat × Nat} {n : Nat} {cs : List AB} (hs : Mx C.P fr op = some (a, some n)) (hl : ET h a n = some cs) : A7 C S g h fr op = some (.agg cs, h) := by
 unfold Mx at hs
 split at hs
 ·rename_i t x
  unfold ET at hl
  cases hg : h.get a.1 with
  | none => rw [hg] at hl; simp [CM] at hl
  | some ob =>
   rw [hg] at hl
   split at hs
   ·rename_i he ha
    simp only [Option.map_eq_some_iff, Prod.mk.injEq, Option.some.injEq] at hs
    obtain ⟨m, h1, rfl, rfl⟩ := hs
    simp [A7, HR, As, C3, he, EI, hg, Jn, Gc, ha, h1, hl]
   ·simp at hs
   ·cases hs
 ·cases hs
theorem ZZ {a : Nat × Nat} {v : AB} (hs : IT C.P fr op = some (a, 1, v)) (hc : v.cells? = some [v]) (hl : st g h a [v] = some h1) : A7 C S g h fr op = some (.tuple [], h1) := by
 unfold IT at hs
 split at hs
 ·split at hs
  ·rename_i he
   simp only [Option.map_eq_some_iff, Prod.mk.injEq] at hs
   obtain ⟨n, h2, rfl, rfl, hv⟩ := hs
   unfold st at hl
   simp [A7, HR, As, Jw, he, KM, hv, hc, h2, hl]
  ·cases hs
 ·cases hs
theorem VM {a : Nat × Nat} {n : Nat} {cs : List AB} (hs : IT C.P fr op = some (a, n, .agg cs)) (hl : aK n g h a cs = some h1) : A7 C S g h fr op = some (.tuple [], h1) := by
 unfold IT at hs
 split at hs
 ·split at hs
  ·rename_i he
   simp only [Option.map_eq_some_iff, Prod.mk.injEq] at hs
   obtain ⟨m, h2, rfl, rfl, hv⟩ := hs
   unfold aK at hl
   split at hl
   ·rename_i hn
    simp [A7, HR, As, Jw, he, KM, hv, AB.cells?, h2, hn, hl]
   ·cases hl
  ·cases hs
 ·cases hs
theorem HN {s : Sl} {b : Nat × Nat} {z : Nat} {i : Int} (hs : YG C.P fr op = some (s.r, s.n, z, i)) (hl : aM s z i = some b) : A7 C S g h fr op = some (.ptr (some b), h) := by
 unfold YG at hs
 split at hs
 ·split at hs
  ·rename_i hu hx hi
   simp only [Option.map_eq_some_iff, Prod.mk.injEq] at hs
   obtain ⟨m, h2, e1, e2, rfl, rfl⟩ := hs
   unfold aM aP at hl
   rw [← e1, ← e2] at hl
   split at hl
   ·split at hl
    ·rename_i hb
     injection hl with hl
     subst hl
     simp [A7, HR, As, IF, Hp, hu, hx, hi, hb, h2]
    ·cases hl
   ·cases hl
  ·cases hs
 ·cases hs
theorem FK {s : List UInt8} {i n : Int} (hs : YK C.P fr op = some (s, i)) (hl : MZ s i = some n) : A7 C S g h fr op = some (.int .u8 n, h) := by
 unfold YK at hs
 split at hs
 ·split at hs
  ·rename_i hu hx hi
   simp only [Option.some.injEq, Prod.mk.injEq] at hs
   obtain ⟨rfl, rfl⟩ := hs
   unfold MZ at hl
   split at hl
   ·rename_i hb
    simp only [Option.map_eq_some_iff] at hl
    obtain ⟨b, h3, rfl⟩ := hl
    simp [A7, HR, As, IF, Mf, hu, hx, hi, hb, h3]
   ·cases hl
  ·cases hs
 ·cases hs
theorem Cs {s t : List UInt8} {k k' : IntKind} {lo hi : Option Int} (hs : V6 C.P fr op = some (s, lo.map (.int k ·), hi.map (.int k' ·))) (hl : D7 s lo hi = some t) : A7 C S g h fr op = some (.str t, h) := by
 unfold V6 at hs
 split at hs
 ·split at hs
  ·rename_i hu hx
   simp only [Option.some.injEq, Prod.mk.injEq] at hs
   obtain ⟨rfl, h1, h2⟩ := hs
   unfold D7 at hl
   simp only [Option.map_eq_some_iff] at hl
   obtain ⟨p, h3, rfl⟩ := hl
   simp [A7, HR, As, IF, Qv, hu, hx, h1, h2, H3, h3]
  ·cases hs
 ·cases hs
theorem Vk {a : Nat × Nat} {n z : Nat} {t : Sl} {k k' : IntKind} {lo hi : Option Int} (hs : V5 C.P fr op = some (a, n, z, lo.map (.int k ·), hi.map (.int k' ·))) (hl : X6 h a n z lo hi = some t) : A7 C S g h fr op = some (.slice t.r t.n, h) := by
 unfold V5 at hs
 split at hs
 ·split at hs
  ·rename_i hu hx
   simp only [Option.map_eq_some_iff, Prod.mk.injEq] at hs
   obtain ⟨m, hm, rfl, rfl, rfl, h1, h2⟩ := hs
   unfold X6 at hl
   split at hl
   ·rename_i hg
    simp only [Option.map_eq_some_iff] at hl
    obtain ⟨p, h3, rfl⟩ := hl
    simp [A7, HR, As, C3, EI, Jn, Ln, hu, hx, h1, h2, H3, h3, hg, hm]
   ·cases hl
  ·cases hs
 ·cases hs
theorem Sr {s t : Sl} {z : Nat} {k k' : IntKind} {lo hi : Option Int} (hs : Ws C.P fr op = some (s.r, s.n, z, lo.map (.int k ·), hi.map (.int k' ·))) (hl : XJ C.P h s z lo hi = some t) : A7 C S g h fr op = some (.slice t.r t.n, h) := by
 unfold Ws at hs
 split at hs
 ·split at hs
  ·rename_i hu hx
   simp only [Option.map_eq_some_iff, Prod.mk.injEq] at hs
   obtain ⟨m, hm, e1, e2, rfl, h1, h2⟩ := hs
   unfold XJ at hl
   rw [← e1, ← e2] at hl
   split at hl
   ·split at hl
    ·rename_i hn
     simp only [Option.map_eq_some_iff] at hl
     obtain ⟨p, h3, rfl⟩ := hl
     subst hn
     simp [A7, HR, As, C3, EI, Jn, Ln, hu, hx, h1, h2, H3, h3, hm]
    ·cases hl
   ·split at hl
    ·rename_i hg
     simp only [Option.map_eq_some_iff] at hl
     obtain ⟨p, h3, rfl⟩ := hl
     simp [A7, HR, As, C3, EI, Jn, Ln, hu, hx, h1, h2, H3, h3, hg, hm]
    ·rename_i hg
     split at hl
     ·rename_i hz
      simp only [Option.map_eq_some_iff] at hl
      obtain ⟨p, h3, rfl⟩ := hl
      simp [A7, HR, As, C3, EI, Jn, Ln, hu, hx, h1, h2, H3, h3, hg, hm, hz]
     ·cases hl
    ·cases hl
  ·cases hs
 ·cases hs
theorem Zj {s : Sl} {t : List UInt8} (hs : Vy C.P fr op = some (s.r, s.n)) (hl : au h s = some t) : A7 C S g h fr op = some (.str t, h) := by
 unfold Vy at hs
 split at hs
 ·split at hs
  ·rename_i hu hd hx
   split at hs
   ·rename_i he
    simp only [Option.some.injEq, Prod.mk.injEq] at hs
    obtain ⟨e1, e2⟩ := hs
    unfold au at hl
    rw [← e1, ← e2] at hl
    split at hl
    ·injection hl with hl
     subst hl
     simp [A7, HR, As, C3, EI, Jn, P3, hu, hd, hx, he]
    ·rename_i a
     cases hg : h.get a.1 with
     | none =>
      rw [hg] at hl
      split at hl
      ·simp at hl
      ·simp [CM] at hl
     | some ob =>
      split at hl
      ·rename_i hn
       rw [hg] at hl
       injection hl with hl
       subst hl
       simp [A7, HR, As, C3, EI, Jn, P3, hu, hd, hx, he, hg, hn]
      ·rename_i hn
       obtain ⟨cs, h3, h4⟩ := bind_some hl
       rw [hg] at h3
       simp [A7, HR, As, C3, EI, Jn, P3, hu, hd, hx, he, hg, hn, h3, h4]
   ·cases hs
  ·cases hs
 ·cases hs
theorem aQ {e : TypeId} {bytes : Nat} {z cs : List AB} {l c : Int} (hs : Xe C.P fr op = some (e, bytes, z, l, c)) (hl : aI bytes z l c = some cs) : A7 C S g h fr op = some (.slice (some (h.size, 0)) l.toNat, h.push (.cells (some e) 2 cs)) := by
 unfold Xe at hs
 split at hs
 ·split at hs
  ·rename_i hu hx hy
   split at hs
   ·rename_i i hi
    split at hs
    ·rename_i z' hz
     split at hs
     ·rename_i zc hzc
      split at hs
      ·rename_i hb
       simp only [Option.some.injEq, Prod.mk.injEq] at hs
       obtain ⟨rfl, rfl, rfl, rfl, rfl⟩ := hs
       unfold aI at hl
       split at hl
       ·rename_i hq
        injection hl with hl
        subst hl
        obtain ⟨q1, q2, q3, q4⟩ := hq
        simp only [A7, HR, As, O4, Jd, hu, hx, hy, hi, hz, hzc]
        rw [if_pos ⟨q1, q2, q3, q4, hb.1, hb.2⟩]
        rfl
       ·cases hl
      ·cases hs
     ·cases hs
    ·cases hs
   ·cases hs
  ·cases hs
 ·cases hs
theorem Yk {f : FuncId} {args : List AB} {v : AB} (hs : Mw fr op = some (f, args)) (hl : S.call g h f args = some (v, h1)) : A7 C S g h fr op = some (v, h1) := by
 unfold Mw at hs
 split at hs
 ·split at hs
  ·rename_i he
   simp only [Option.some.injEq, Prod.mk.injEq] at hs
   obtain ⟨rfl, rfl⟩ := hs
   simp only [A7, he]
   exact hl
  ·cases hs
 ·cases hs
theorem GY {e : TypeId} {sz bytes n : Nat} {s t : Sl} {x : AB} (hs : YN C.P fr op = some (e, sz, bytes, s.r, s.n, n, x)) (hl : app e sz bytes g h s n x = some (t, h1)) : A7 C S g h fr op = some (.slice t.r t.n, h1) := by
 unfold YN at hs
 split at hs
 ·split at hs
  ·rename_i hx ht0 ht1
   split at hs
   ·rename_i hu hd hn
    split at hs
    ·rename_i i hi
     split at hs
     ·rename_i hb
      simp only [Option.some.injEq, Prod.mk.injEq] at hs
      obtain ⟨rfl, rfl, rfl, e1, e2, rfl, rfl⟩ := hs
      unfold app at hl
      simp only [A7, HR, As, Jw, hx, MA, ht0, ht1, hu, hd, hn, hi, hb.1, if_true, appendCore]
      rw [e1, e2]
      split at hl
      ·rename_i h0
       simp only [Option.some.injEq, Prod.mk.injEq] at hl
       obtain ⟨rfl, rfl⟩ := hl
       rw [if_pos h0]
      ·rename_i h0
       rw [if_neg h0]
       split at hl
       ·rename_i hq
        rw [if_pos ⟨hb.2.1, hq.1, hq.2, hb.2.2⟩]
        split at hl
        ·rename_i new Gp h3 h4
         simp only [Option.map_eq_some_iff] at h3
         obtain ⟨new0, h3, rfl⟩ := h3
         simp only [h3, h4, Option.map_some]
         split at hl
         ·rename_i ho
          rw [if_pos ho]
          split at hl
          ·rename_i hr
           simp only [Option.some.injEq, Prod.mk.injEq] at hl
           obtain ⟨rfl, rfl⟩ := hl
           simp [hr]
          ·rename_i a hr
           split at hl
           ·rename_i hg
            split at hl
            ·rename_i hm
             simp only [Option.some.injEq, Prod.mk.injEq] at hl
             obtain ⟨rfl, rfl⟩ := hl
             simp [hr, hg, hm]
            ·cases hl
           ·cases hl
         ·cases hl
        ·cases hl
       ·cases hl
     ·cases hs
    ·cases hs
   ·cases hs
  ·cases hs
 ·cases hs
theorem Wr {z n : Nat} {d : Sl} {x : AB} {k : Int} (hs : YF C.P fr op = some (z, d.r, d.n, n, x)) (hl : aG z g h d n x = some (k, h1)) : A7 C S g h fr op = some (.int .i64 k, h1) := by
 unfold YF at hs
 split at hs
 ·split at hs
  ·rename_i hx ht0
   split at hs
   ·rename_i hu hn
    simp only [Option.map_eq_some_iff, Prod.mk.injEq] at hs
    obtain ⟨z', hz, rfl, e1, e2, rfl, rfl⟩ := hs
    unfold aG at hl
    simp only [A7, HR, As, Jw, hx, Rg, ht0, hu, hn, hz]
    rw [e1, e2]
    split at hl
    ·rename_i new h3
     simp only [h3]
     split at hl
     ·rename_i h0
      simp only [Option.some.injEq, Prod.mk.injEq] at hl
      obtain ⟨rfl, rfl⟩ := hl
      cases d.r with
      | none => simp [h0]
      | some a => simp [h0]
     ·rename_i h0
      split at hl
      ·rename_i a hr
       simp only [Option.map_eq_some_iff, Prod.mk.injEq] at hl
       obtain ⟨h4, h5, rfl, rfl⟩ := hl
       simp [hr, h0, h5]
      ·cases hl
    ·cases hl
   ·cases hs
  ·cases hs
 ·cases hs
theorem ZW {v : AB} {ob : Bm} (hs : aA C.P fr op h.size = some (v, ob)) (hh : some (h.push ob) = some h1) : A7 C S g h fr op = some (v, h1) := by
 injection hh with hh
 rw [← hh]; exact bH hs
theorem Zm {e : TypeId} {bytes : Nat} {z cs : List AB} {l c : Int} (hs : Xe C.P fr op = some (e, bytes, z, l, c)) (hl : aI bytes z l c = some cs) (hh : some (h.push (.cells (some e) 2 cs)) = some h1) : A7 C S g h fr op = some (.slice (some (h.size, 0)) l.toNat, h1) := by
 injection hh with hh
 rw [← hh]; exact aQ hs hl
theorem Z6 {k : IntKind} {a b : Int} (hs : Ta fr op = some (true, k, a, b)) (hb : (b != 0) = true) : A7 C S g h fr op = some (.int k (k.wrap (a.tdiv b)), h) := by
 unfold Ta at hs
 split at hs
 ·split at hs
  ·rename_i hx hy
   split at hs
   ·rename_i hk
    simp only [Option.some.injEq, Prod.mk.injEq, true_and] at hs
    obtain ⟨rfl, rfl, rfl⟩ := hs
    subst hk
    have hb' := bne_iff_ne.1 hb
    simp [A7, HR, As, IF, SZ, TO, hx, hy, Ld, hb']
   ·cases hs
  ·split at hs
   ·simp at hs
   ·cases hs
  ·cases hs
 ·cases hs
theorem Zp {k : IntKind} {a b : Int} (hs : Ta fr op = some (false, k, a, b)) (hb : (b != 0) = true) : A7 C S g h fr op = some (.int k (a.tmod b), h) := by
 unfold Ta at hs
 split at hs
 ·split at hs
  ·split at hs
   ·simp at hs
   ·cases hs
  ·rename_i hx hy
   split at hs
   ·rename_i hk
    simp only [Option.some.injEq, Prod.mk.injEq, true_and] at hs
    obtain ⟨rfl, rfl, rfl⟩ := hs
    subst hk
    have hb' := bne_iff_ne.1 hb
    simp [A7, HR, As, IF, SZ, TO, hx, hy, Ld, hb']
   ·cases hs
  ·cases hs
 ·cases hs
theorem Z2 {k : IntKind} {a b : Int} (hs : UH fr op = some (true, k, a, b)) (hb : decide (0 ≤ b) = true) : A7 C S g h fr op = some (.int k (Ud k a b), h) := by
 unfold UH at hs
 split at hs
 ·split at hs
  ·rename_i hx hy
   simp only [Option.some.injEq, Prod.mk.injEq, true_and] at hs
   obtain ⟨rfl, rfl, rfl⟩ := hs
   have hb' := of_decide_eq_true hb
   simp [A7, HR, As, IF, SZ, TO, hx, hy, Ql, Int.not_lt.2 hb', Ud]
  ·simp at hs
  ·cases hs
 ·cases hs
theorem B1 {a b : List UInt8} (hs : YP fr op = some (a, b)) (hb : decide (a.length + b.length ≤ 9223372036854775807) = true) : A7 C S g h fr op = some (.str (a ++ b), h) := by
 unfold YP at hs
 split at hs
 ·split at hs
  ·rename_i hx hy
   simp only [Option.some.injEq, Prod.mk.injEq] at hs
   obtain ⟨rfl, rfl⟩ := hs
   have hb' := of_decide_eq_true hb
   simp [A7, HR, As, IF, SZ, TO, hx, hy, QZ, hb']
  ·cases hs
 ·cases hs
end
end Go.Av
