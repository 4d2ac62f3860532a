/-
  ABS, 17: what one operation tells, by what its operands are.
-/
import Derived.Test.YthnnciphldbmeaaGreatDoorAvLift
namespace Go.Av
section
variable {C : HU} {S : Self} {g : Gd} {h h1 : AH} {fr : Fr} {op : Op}
theorem FQ (hc : BE C.P op ≠ 3) : Bc C S g h fr op = Ih C.P C.Dw g h fr op := HN hc
theorem YC {v : AA} (hs : Wn C.P fr op = some v) : Bc C S g h fr op = some (v, h) := by
 unfold Wn at hs
 split at hs
 ·rename_i hc
  rw [FQ (by rw [hc]; simp)]
  simp [Ih, hc, hs]
 ·cases hs
theorem YB {v : AA} {ob : B4} (hs : Wt C.P fr op h.size = some (v, ob)) : Bc C S g h fr op = some (v, h.push ob) := by
 unfold Wt at hs
 split at hs
 ·rename_i hc
  rw [FQ (by rw [hc]; simp)]
  simp only [Option.map_eq_some_iff, Prod.mk.injEq] at hs
  obtain ⟨x, h1, rfl, rfl⟩ := hs
  simp [Ih, hc, h1]
 ·cases hs
theorem VM {a : Nat × Nat} {v : AA} (hl : NX h a = some v) : Cz (h.get a.1) a.2 1 = some [v] ∧ ∃ ob, h.get a.1 = some ob := by
 unfold NX at hl
 split at hl
 ·rename_i u hu
  injection hl with hl
  subst hl
  refine ⟨hu, ?_⟩
  cases hg : h.get a.1 with
  | none => rw [hg] at hu; simp [Cz] at hu
  | some ob => exact ⟨ob, rfl⟩
 ·cases hl
theorem Dj {a : Nat × Nat} {v : AA} (hs : MW C.P fr op = some (a, none)) (hl : NX h a = some v) : Bc C S g h fr op = some (v, h) := by
 unfold MW at hs
 split at hs
 ·rename_i t x
  obtain ⟨h1, ob, h2⟩ := VM hl
  rw [h2] at h1
  split at hs
  ·simp only [Option.map_eq_some_iff, Prod.mk.injEq] at hs
   obtain ⟨_, _, _, hc⟩ := hs
   cases hc
  ·rename_i he ha
   simp only [Option.some.injEq, Prod.mk.injEq, and_true] at hs
   subst hs
   simp [Bc, Ih, BE, DX, he, Ew, h2, KJ, Gb, ha, h1]
  ·cases hs
 ·cases hs
theorem Bs {a : Nat × Nat} {n : Nat} {cs : List AA} (hs : MW C.P fr op = some (a, some n)) (hl : GA h a n = some cs) : Bc C S g h fr op = some (.agg cs, h) := by
 unfold MW at hs
 split at hs
 ·rename_i t x
  unfold GA at hl
  cases hg : h.get a.1 with
  | none => rw [hg] at hl; simp [Cz] at hl
  | some ob =>
   rw [hg] at hl
   split at hs
   ·rename_i he ha
    simp only [Option.map_eq_some_iff, Prod.mk.injEq, Option.some.injEq] at hs
    obtain ⟨m, h1, rfl, rfl⟩ := hs
    simp [Bc, Ih, BE, DX, he, Ew, hg, KJ, Gb, ha, h1, hl]
   ·simp at hs
   ·cases hs
 ·cases hs
theorem RG {a : Nat × Nat} {v : AA} (hs : JF C.P fr op = some (a, 1, v)) (hc : v.cells? = some [v]) (hl : st g h a [v] = some h1) : Bc C S g h fr op = some (.tuple [], h1) := by
 unfold JF at hs
 split at hs
 ·split at hs
  ·rename_i he
   simp only [Option.map_eq_some_iff, Prod.mk.injEq] at hs
   obtain ⟨n, h2, rfl, rfl, hv⟩ := hs
   unfold st at hl
   simp [Bc, Ih, BE, KP, he, K1, hv, hc, h2, hl]
  ·cases hs
 ·cases hs
theorem Nr {a : Nat × Nat} {n : Nat} {cs : List AA} (hs : JF C.P fr op = some (a, n, .agg cs)) (hl : XI n g h a cs = some h1) : Bc C S g h fr op = some (.tuple [], h1) := by
 unfold JF at hs
 split at hs
 ·split at hs
  ·rename_i he
   simp only [Option.map_eq_some_iff, Prod.mk.injEq] at hs
   obtain ⟨m, h2, rfl, rfl, hv⟩ := hs
   unfold XI at hl
   split at hl
   ·rename_i hn
    simp [Bc, Ih, BE, KP, he, K1, hv, AA.cells?, h2, hn, hl]
   ·cases hl
  ·cases hs
 ·cases hs
theorem PZ {a b : Nat × Nat} {n z : Nat} {i : Int} (hs : VU C.P fr op = some (a, n, z, i)) (hl : VN a n z i = some b) : Bc C S g h fr op = some (.ptr (some b), h) := by
 unfold VU at hs
 split at hs
 ·split at hs
  ·rename_i hu hx hi
   simp only [Option.map_eq_some_iff, Prod.mk.injEq] at hs
   obtain ⟨m, h2, rfl, rfl, rfl, rfl⟩ := hs
   unfold VN at hl
   split at hl
   ·rename_i hb
    injection hl with hl
    subst hl
    simp [Bc, Ih, BE, Iv, GU, hu, hx, hi, hb, h2]
   ·cases hl
  ·cases hs
 ·cases hs
theorem Fa {s : Sl} {b : Nat × Nat} {z : Nat} {i : Int} (hs : VW C.P fr op = some (s.r, s.n, z, i)) (hl : XH s z i = some b) : Bc C S g h fr op = some (.ptr (some b), h) := by
 unfold VW at hs
 split at hs
 ·split at hs
  ·rename_i hu hx hi
   simp only [Option.map_eq_some_iff, Prod.mk.injEq] at hs
   obtain ⟨m, h2, e1, e2, rfl, rfl⟩ := hs
   unfold XH VN at hl
   rw [← e1, ← e2] at hl
   split at hl
   ·split at hl
    ·rename_i hb
     injection hl with hl
     subst hl
     simp [Bc, Ih, BE, Iv, GU, hu, hx, hi, hb, h2]
    ·cases hl
   ·cases hl
  ·cases hs
 ·cases hs
theorem G4 {s : List UInt8} {i n : Int} (hs : Vg C.P fr op = some (s, i)) (hl : Nb s i = some n) : Bc C S g h fr op = some (.int .u8 n, h) := by
 unfold Vg at hs
 split at hs
 ·split at hs
  ·rename_i hu hx hi
   simp only [Option.some.injEq, Prod.mk.injEq] at hs
   obtain ⟨rfl, rfl⟩ := hs
   unfold Nb at hl
   split at hl
   ·rename_i hb
    simp only [Option.map_eq_some_iff] at hl
    obtain ⟨b, h3, rfl⟩ := hl
    simp [Bc, Ih, BE, Iv, Pq, hu, hx, hi, hb, h3]
   ·cases hl
  ·cases hs
 ·cases hs
theorem JN {s t : List UInt8} {k k' : IntKind} {lo hi : Option Int} (hs : Ue C.P fr op = some (s, lo.map (.int k ·), hi.map (.int k' ·))) (hl : LP s lo hi = some t) : Bc C S g h fr op = some (.str t, h) := by
 unfold Ue at hs
 split at hs
 ·split at hs
  ·rename_i hu hx
   simp only [Option.some.injEq, Prod.mk.injEq] at hs
   obtain ⟨rfl, h1, h2⟩ := hs
   unfold LP at hl
   simp only [Option.map_eq_some_iff] at hl
   obtain ⟨p, h3, rfl⟩ := hl
   simp [Bc, Ih, BE, Iv, QU, hu, hx, h1, h2, OE, h3]
  ·cases hs
 ·cases hs
theorem XA {s : Sl} {t : List UInt8} (hs : Tx C.P fr op = some (s.r, s.n)) (hl : XQ h s = some t) : Bc C S g h fr op = some (.str t, h) := by
 unfold Tx at hs
 split at hs
 ·split at hs
  ·rename_i hu hd hx
   split at hs
   ·rename_i he
    simp only [Option.some.injEq, Prod.mk.injEq] at hs
    obtain ⟨e1, e2⟩ := hs
    unfold XQ at hl
    rw [← e1, ← e2] at hl
    split at hl
    ·injection hl with hl
     subst hl
     simp [Bc, Ih, BE, DX, Ew, KJ, PJ, hu, hd, hx, he]
    ·rename_i a
     cases hg : h.get a.1 with
     | none =>
      rw [hg] at hl
      split at hl
      ·simp at hl
      ·simp [Cz] at hl
     | some ob =>
      split at hl
      ·rename_i hn
       rw [hg] at hl
       injection hl with hl
       subst hl
       simp [Bc, Ih, BE, DX, Ew, KJ, PJ, hu, hd, hx, he, hg, hn]
      ·rename_i hn
       obtain ⟨cs, h3, h4⟩ := bind_some hl
       rw [hg] at h3
       simp [Bc, Ih, BE, DX, Ew, KJ, PJ, hu, hd, hx, he, hg, hn, h3, h4]
   ·cases hs
  ·cases hs
 ·cases hs
theorem Xi {e : TypeId} {bytes : Nat} {z cs : List AA} {l c : Int} (hs : Uu C.P fr op = some (e, bytes, z, l, c)) (hl : XD bytes z l c = some cs) : Bc C S g h fr op = some (.slice (some (h.size, 0)) l.toNat, h.push (.cells (some e) 2 cs)) := by
 unfold Uu at hs
 split at hs
 ·split at hs
  ·rename_i hu hx hy
   split at hs
   ·rename_i i hi
    split at hs
    ·rename_i z' hz
     split at hs
     ·rename_i zc hzc
      split at hs
      ·rename_i hb
       simp only [Option.some.injEq, Prod.mk.injEq] at hs
       obtain ⟨rfl, rfl, rfl, rfl, rfl⟩ := hs
       unfold XD at hl
       split at hl
       ·rename_i hq
        injection hl with hl
        subst hl
        obtain ⟨q1, q2, q3, q4⟩ := hq
        simp only [Bc, Ih, BE, O4, Jz, hu, hx, hy, hi, hz, hzc]
        rw [if_pos ⟨q1, q2, q3, q4, hb.1, hb.2⟩]
        rfl
       ·cases hl
      ·cases hs
     ·cases hs
    ·cases hs
   ·cases hs
  ·cases hs
 ·cases hs
theorem V6 {f : FuncId} {args : List AA} {v : AA} (hs : Ly fr op = some (f, args)) (hl : S.call g h f args = some (v, h1)) : Bc C S g h fr op = some (v, h1) := by
 unfold Ly at hs
 split at hs
 ·split at hs
  ·rename_i he
   simp only [Option.some.injEq, Prod.mk.injEq] at hs
   obtain ⟨rfl, rfl⟩ := hs
   simp only [Bc, he]
   exact hl
  ·cases hs
 ·cases hs
theorem KF {e : TypeId} {sz bytes n : Nat} {s t : Sl} {x : AA} (hs : Vj C.P fr op = some (e, sz, bytes, s.r, s.n, n, x)) (hl : app e sz bytes g h s n x = some (t, h1)) : Bc C S g h fr op = some (.slice t.r t.n, h1) := by
 unfold Vj at hs
 split at hs
 ·split at hs
  ·rename_i hx ht0 ht1
   split at hs
   ·rename_i hu hd hn
    split at hs
    ·rename_i i hi
     split at hs
     ·rename_i hb
      simp only [Option.some.injEq, Prod.mk.injEq] at hs
      obtain ⟨rfl, rfl, rfl, e1, e2, rfl, rfl⟩ := hs
      unfold app at hl
      simp only [Bc, Ih, BE, KP, hx, L3, ht0, ht1, hu, hd, hn, hi, hb.1, if_true, appendCore]
      rw [e1, e2]
      split at hl
      ·rename_i h0
       simp only [Option.some.injEq, Prod.mk.injEq] at hl
       obtain ⟨rfl, rfl⟩ := hl
       rw [if_pos h0]
      ·rename_i h0
       rw [if_neg h0]
       split at hl
       ·rename_i hq
        rw [if_pos ⟨hb.2.1, hq.1, hq.2, hb.2.2⟩]
        split at hl
        ·rename_i new old h3 h4
         simp only [Option.map_eq_some_iff] at h3
         obtain ⟨new0, h3, rfl⟩ := h3
         simp only [h3, h4, Option.map_some]
         split at hl
         ·rename_i ho
          rw [if_pos ho]
          split at hl
          ·rename_i hr
           simp only [Option.some.injEq, Prod.mk.injEq] at hl
           obtain ⟨rfl, rfl⟩ := hl
           simp [hr]
          ·rename_i a hr
           split at hl
           ·rename_i hg
            split at hl
            ·rename_i hm
             simp only [Option.some.injEq, Prod.mk.injEq] at hl
             obtain ⟨rfl, rfl⟩ := hl
             simp [hr, hg, hm]
            ·cases hl
           ·cases hl
         ·cases hl
        ·cases hl
       ·cases hl
     ·cases hs
    ·cases hs
   ·cases hs
  ·cases hs
 ·cases hs
theorem Qk {v : AA} {ob : B4} (hs : Wt C.P fr op h.size = some (v, ob)) (hh : some (h.push ob) = some h1) : Bc C S g h fr op = some (v, h1) := by
 injection hh with hh
 rw [← hh]; exact YB hs
theorem Wr {e : TypeId} {bytes : Nat} {z cs : List AA} {l c : Int} (hs : Uu C.P fr op = some (e, bytes, z, l, c)) (hl : XD bytes z l c = some cs) (hh : some (h.push (.cells (some e) 2 cs)) = some h1) : Bc C S g h fr op = some (.slice (some (h.size, 0)) l.toNat, h1) := by
 injection hh with hh
 rw [← hh]; exact Xi hs hl
theorem Tc {k : IntKind} {a b : Int} (hs : NY fr op = some (true, k, a, b)) (hb : decide (0 ≤ b) = true) : Bc C S g h fr op = some (.int k (KH k a b), h) := by
 unfold NY at hs
 split at hs
 ·split at hs
  ·rename_i hx hy
   simp only [Option.some.injEq, Prod.mk.injEq, true_and] at hs
   obtain ⟨rfl, rfl, rfl⟩ := hs
   have hb' := of_decide_eq_true hb
   simp [Bc, Ih, BE, Iv, Rt, Rh, hx, hy, OI, Int.not_lt.2 hb', KH]
  ·simp at hs
  ·cases hs
 ·cases hs
theorem Su {k : IntKind} {a b : Int} (hs : NY fr op = some (false, k, a, b)) (hb : decide (0 ≤ b) = true) : Bc C S g h fr op = some (.int k (B7 k a b), h) := by
 unfold NY at hs
 split at hs
 ·split at hs
  ·simp at hs
  ·rename_i hx hy
   simp only [Option.some.injEq, Prod.mk.injEq, true_and] at hs
   obtain ⟨rfl, rfl, rfl⟩ := hs
   have hb' := of_decide_eq_true hb
   simp [Bc, Ih, BE, Iv, Rt, Rh, hx, hy, OI, Int.not_lt.2 hb', B7]
  ·cases hs
 ·cases hs
end
end Go.Av
