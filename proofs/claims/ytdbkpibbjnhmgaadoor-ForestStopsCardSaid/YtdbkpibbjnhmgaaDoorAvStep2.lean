/-
 A part.
-/
import Derived.Test.YtdbkpibbjnhmgaaDoorAvLift
namespace Go.Av
section
variable {C : EB} {S : Self} {g : Gd} {h h1 : AB} {fr : Fr} {op : Op}
theorem EA (hc : AS C.P op ≠ 3) : Al C S g h fr op = Fh C.P C.B4 g h fr op := Eb hc
theorem WR {v : AA} (hs : Us C.P fr op = some v) : Al C S g h fr op = some (v, h) := by
 unfold Us at hs
 split at hs
 ·rename_i hc
  rw [EA (by rw [hc]; simp)]
  simp [Fh, hc, hs]
 ·cases hs
theorem WQ {v : AA} {ob : Am} (hs : VF C.P fr op h.size = some (v, ob)) : Al C S g h fr op = some (v, h.push ob) := by
 unfold VF at hs
 split at hs
 ·rename_i hc
  rw [EA (by rw [hc]; simp)]
  simp only [Option.map_eq_some_iff, Prod.mk.injEq] at hs
  obtain ⟨x, h1, rfl, rfl⟩ := hs
  simp [Fh, hc, h1]
 ·cases hs
theorem SP {a : Nat × Nat} {v : AA} (hl : Oh h a = some v) : Bo (h.get a.1) a.2 1 = some [v] ∧ ∃ ob, h.get a.1 = some ob := by
 unfold Oh at hl
 split at hl
 ·rename_i u hu
  injection hl with hl
  subst hl
  refine ⟨hu, ?_⟩
  cases hg : h.get a.1 with
  | none => rw [hg] at hu; simp [Bo] at hu
  | some ob => exact ⟨ob, rfl⟩
 ·cases hl
theorem ES {a : Nat × Nat} {v : AA} (hs : JZ C.P fr op = some (a, none)) (hl : Oh h a = some v) : Al C S g h fr op = some (v, h) := by
 unfold JZ at hs
 split at hs
 ·rename_i t x
  obtain ⟨h1, ob, h2⟩ := SP hl
  rw [h2] at h1
  split at hs
  ·simp only [Option.map_eq_some_iff, Prod.mk.injEq] at hs
   obtain ⟨_, _, _, hc⟩ := hs
   cases hc
  ·rename_i he ha
   simp only [Option.some.injEq, Prod.mk.injEq, and_true] at hs
   subst hs
   simp [Al, Fh, AS, B9, he, Ct, h2, Gv, EO, ha, h1]
  ·cases hs
 ·cases hs
theorem Q8 {a : Nat × Nat} {n : Nat} {cs : List AA} (hs : JZ C.P fr op = some (a, some n)) (hl : SJ h a n = some cs) : Al C S g h fr op = some (.agg cs, h) := by
 unfold JZ at hs
 split at hs
 ·rename_i t x
  unfold SJ at hl
  cases hg : h.get a.1 with
  | none => rw [hg] at hl; simp [Bo] at hl
  | some ob =>
   rw [hg] at hl
   split at hs
   ·rename_i he ha
    simp only [Option.map_eq_some_iff, Prod.mk.injEq, Option.some.injEq] at hs
    obtain ⟨m, h1, rfl, rfl⟩ := hs
    simp [Al, Fh, AS, B9, he, Ct, hg, Gv, EO, ha, h1, hl]
   ·simp at hs
   ·cases hs
 ·cases hs
theorem QI {a : Nat × Nat} {v : AA} (hs : Fg C.P fr op = some (a, 1, v)) (hc : v.cells? = some [v]) (hl : st g h a [v] = some h1) : Al C S g h fr op = some (.tuple [], h1) := by
 unfold Fg at hs
 split at hs
 ·split at hs
  ·rename_i he
   simp only [Option.map_eq_some_iff, Prod.mk.injEq] at hs
   obtain ⟨n, h2, rfl, rfl, hv⟩ := hs
   unfold st at hl
   simp [Al, Fh, AS, GK, he, HT, hv, hc, h2, hl]
  ·cases hs
 ·cases hs
theorem TL {a : Nat × Nat} {n : Nat} {cs : List AA} (hs : Fg C.P fr op = some (a, n, .agg cs)) (hl : VO n g h a cs = some h1) : Al C S g h fr op = some (.tuple [], h1) := by
 unfold Fg at hs
 split at hs
 ·split at hs
  ·rename_i he
   simp only [Option.map_eq_some_iff, Prod.mk.injEq] at hs
   obtain ⟨m, h2, rfl, rfl, hv⟩ := hs
   unfold VO at hl
   split at hl
   ·rename_i hn
    simp [Al, Fh, AS, GK, he, HT, hv, AA.cells?, h2, hn, hl]
   ·cases hl
  ·cases hs
 ·cases hs
theorem Ey {s : Sl} {b : Nat × Nat} {z : Nat} {i : Int} (hs : TR C.P fr op = some (s.r, s.n, z, i)) (hl : VN s z i = some b) : Al C S g h fr op = some (.ptr (some b), h) := by
 unfold TR at hs
 split at hs
 ·split at hs
  ·rename_i hu hx hi
   simp only [Option.map_eq_some_iff, Prod.mk.injEq] at hs
   obtain ⟨m, h2, e1, e2, rfl, rfl⟩ := hs
   unfold VN V2 at hl
   rw [← e1, ← e2] at hl
   split at hl
   ·split at hl
    ·rename_i hb
     injection hl with hl
     subst hl
     simp [Al, Fh, AS, GL, FF, hu, hx, hi, hb, h2]
    ·cases hl
   ·cases hl
  ·cases hs
 ·cases hs
theorem Um {s : List UInt8} {i n : Int} (hs : Tb C.P fr op = some (s, i)) (hl : UY s i = some n) : Al C S g h fr op = some (.int .u8 n, h) := by
 unfold Tb at hs
 split at hs
 ·split at hs
  ·rename_i hu hx hi
   simp only [Option.some.injEq, Prod.mk.injEq] at hs
   obtain ⟨rfl, rfl⟩ := hs
   unfold UY at hl
   split at hl
   ·rename_i hb
    simp only [Option.map_eq_some_iff] at hl
    obtain ⟨b, h3, rfl⟩ := hl
    simp [Al, Fh, AS, GL, Mn, hu, hx, hi, hb, h3]
   ·cases hl
  ·cases hs
 ·cases hs
theorem On {s t : List UInt8} {k k' : IntKind} {lo hi : Option Int} (hs : Qj C.P fr op = some (s, lo.map (.int k ·), hi.map (.int k' ·))) (hl : Kt s lo hi = some t) : Al C S g h fr op = some (.str t, h) := by
 unfold Qj at hs
 split at hs
 ·split at hs
  ·rename_i hu hx
   simp only [Option.some.injEq, Prod.mk.injEq] at hs
   obtain ⟨rfl, h1, h2⟩ := hs
   unfold Kt at hl
   simp only [Option.map_eq_some_iff] at hl
   obtain ⟨p, h3, rfl⟩ := hl
   simp [Al, Fh, AS, GL, Ml, hu, hx, h1, h2, FV, h3]
  ·cases hs
 ·cases hs
theorem Rn {s t : Sl} {z : Nat} {k k' : IntKind} {lo hi : Option Int} (hs : Q3 C.P fr op = some (s.r, s.n, z, lo.map (.int k ·), hi.map (.int k' ·))) (hl : Ra C.P h s z lo hi = some t) : Al C S g h fr op = some (.slice t.r t.n, h) := by
 unfold Q3 at hs
 split at hs
 ·split at hs
  ·rename_i hu hx
   simp only [Option.map_eq_some_iff, Prod.mk.injEq] at hs
   obtain ⟨m, hm, e1, e2, rfl, h1, h2⟩ := hs
   unfold Ra at hl
   rw [← e1, ← e2] at hl
   split at hl
   ·split at hl
    ·rename_i hn
     simp only [Option.map_eq_some_iff] at hl
     obtain ⟨p, h3, rfl⟩ := hl
     subst hn
     simp [Al, Fh, AS, B9, Ct, Gv, Gk, hu, hx, h1, h2, FV, h3, hm]
    ·cases hl
   ·split at hl
    ·rename_i hg
     simp only [Option.map_eq_some_iff] at hl
     obtain ⟨p, h3, rfl⟩ := hl
     simp [Al, Fh, AS, B9, Ct, Gv, Gk, hu, hx, h1, h2, FV, h3, hg, hm]
    ·rename_i hg
     split at hl
     ·rename_i hz
      simp only [Option.map_eq_some_iff] at hl
      obtain ⟨p, h3, rfl⟩ := hl
      simp [Al, Fh, AS, B9, Ct, Gv, Gk, hu, hx, h1, h2, FV, h3, hg, hm, hz]
     ·cases hl
    ·cases hl
  ·cases hs
 ·cases hs
theorem Tv {f : FuncId} {args : List AA} {v : AA} (hs : JN fr op = some (f, args)) (hl : S.call g h f args = some (v, h1)) : Al C S g h fr op = some (v, h1) := by
 unfold JN at hs
 split at hs
 ·split at hs
  ·rename_i he
   simp only [Option.some.injEq, Prod.mk.injEq] at hs
   obtain ⟨rfl, rfl⟩ := hs
   simp only [Al, he]
   exact hl
  ·cases hs
 ·cases hs
theorem Ka {e : TypeId} {sz bytes n : Nat} {s t : Sl} {x : AA} (hs : TZ C.P fr op = some (e, sz, bytes, s.r, s.n, n, x)) (hl : app e sz bytes g h s n x = some (t, h1)) : Al C S g h fr op = some (.slice t.r t.n, h1) := by
 unfold TZ at hs
 split at hs
 ·split at hs
  ·rename_i hx ht0 ht1
   split at hs
   ·rename_i hu hd hn
    split at hs
    ·rename_i i hi
     split at hs
     ·rename_i hb
      simp only [Option.some.injEq, Prod.mk.injEq] at hs
      obtain ⟨rfl, rfl, rfl, e1, e2, rfl, rfl⟩ := hs
      unfold app at hl
      simp only [Al, Fh, AS, GK, hx, JC, ht0, ht1, hu, hd, hn, hi, hb.1, if_true, appendCore]
      rw [e1, e2]
      split at hl
      ·rename_i h0
       simp only [Option.some.injEq, Prod.mk.injEq] at hl
       obtain ⟨rfl, rfl⟩ := hl
       rw [if_pos h0]
      ·rename_i h0
       rw [if_neg h0]
       split at hl
       ·rename_i hq
        rw [if_pos ⟨hb.2.1, hq.1, hq.2, hb.2.2⟩]
        split at hl
        ·rename_i new FA h3 h4
         simp only [Option.map_eq_some_iff] at h3
         obtain ⟨new0, h3, rfl⟩ := h3
         simp only [h3, h4, Option.map_some]
         split at hl
         ·rename_i ho
          rw [if_pos ho]
          split at hl
          ·rename_i hr
           simp only [Option.some.injEq, Prod.mk.injEq] at hl
           obtain ⟨rfl, rfl⟩ := hl
           simp [hr]
          ·rename_i a hr
           split at hl
           ·rename_i hg
            split at hl
            ·rename_i hm
             simp only [Option.some.injEq, Prod.mk.injEq] at hl
             obtain ⟨rfl, rfl⟩ := hl
             simp [hr, hg, hm]
            ·cases hl
           ·cases hl
         ·cases hl
        ·cases hl
       ·cases hl
     ·cases hs
    ·cases hs
   ·cases hs
  ·cases hs
 ·cases hs
theorem VC {v : AA} {ob : Am} (hs : VF C.P fr op h.size = some (v, ob)) (hh : some (h.push ob) = some h1) : Al C S g h fr op = some (v, h1) := by
 injection hh with hh
 rw [← hh]; exact WQ hs
theorem N3 {a b : List UInt8} (hs : Ti fr op = some (a, b)) (hb : decide (a.length + b.length ≤ 9223372036854775807) = true) : Al C S g h fr op = some (.str (a ++ b), h) := by
 unfold Ti at hs
 split at hs
 ·split at hs
  ·rename_i hx hy
   simp only [Option.some.injEq, Prod.mk.injEq] at hs
   obtain ⟨rfl, rfl⟩ := hs
   have hb' := of_decide_eq_true hb
   simp [Al, Fh, AS, K1, GL, Si, SB, hx, hy, M5, hb']
  ·cases hs
 ·cases hs
end
end Go.Av
