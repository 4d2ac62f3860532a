/-
 A part.
-/
import Derived.Test.YtdbkpibbjnhmgaaDoorAvLift
namespace Go.Av
section
variable {C : En} {S : Self} {g : Gd} {h h1 : AB} {fr : Fr} {op : Op}
theorem Eg (hc : AZ C.P op ≠ 3) : Ap C S g h fr op = GO C.P C.CP g h fr op := Eu hc
theorem XE {v : AA} (hs : VK C.P fr op = some v) : Ap C S g h fr op = some (v, h) := by
 unfold VK at hs
 split at hs
 ·rename_i hc
  rw [Eg (by rw [hc]; simp)]
  simp [GO, hc, hs]
 ·cases hs
theorem W4 {v : AA} {ob : A7} (hs : Vt C.P fr op h.size = some (v, ob)) : Ap C S g h fr op = some (v, h.push ob) := by
 unfold Vt at hs
 split at hs
 ·rename_i hc
  rw [Eg (by rw [hc]; simp)]
  simp only [Option.map_eq_some_iff, Prod.mk.injEq] at hs
  obtain ⟨x, h1, rfl, rfl⟩ := hs
  simp [GO, hc, h1]
 ·cases hs
theorem TE {a : Nat × Nat} {v : AA} (hl : P6 h a = some v) : CC (h.get a.1) a.2 1 = some [v] ∧ ∃ ob, h.get a.1 = some ob := by
 unfold P6 at hl
 split at hl
 ·rename_i u hu
  injection hl with hl
  subst hl
  refine ⟨hu, ?_⟩
  cases hg : h.get a.1 with
  | none => rw [hg] at hu; simp [CC] at hu
  | some ob => exact ⟨ob, rfl⟩
 ·cases hl
theorem DN {a : Nat × Nat} {v : AA} (hs : KA C.P fr op = some (a, none)) (hl : P6 h a = some v) : Ap C S g h fr op = some (v, h) := by
 unfold KA at hs
 split at hs
 ·rename_i t x
  obtain ⟨h1, ob, h2⟩ := TE hl
  rw [h2] at h1
  split at hs
  ·simp only [Option.map_eq_some_iff, Prod.mk.injEq] at hs
   obtain ⟨_, _, _, hc⟩ := hs
   cases hc
  ·rename_i he ha
   simp only [Option.some.injEq, Prod.mk.injEq, and_true] at hs
   subst hs
   simp [Ap, GO, AZ, CT, he, DM, h2, Hj, GC, ha, h1]
  ·cases hs
 ·cases hs
theorem Qf {a : Nat × Nat} {n : Nat} {cs : List AA} (hs : KA C.P fr op = some (a, some n)) (hl : S5 h a n = some cs) : Ap C S g h fr op = some (.agg cs, h) := by
 unfold KA at hs
 split at hs
 ·rename_i t x
  unfold S5 at hl
  cases hg : h.get a.1 with
  | none => rw [hg] at hl; simp [CC] at hl
  | some ob =>
   rw [hg] at hl
   split at hs
   ·rename_i he ha
    simp only [Option.map_eq_some_iff, Prod.mk.injEq, Option.some.injEq] at hs
    obtain ⟨m, h1, rfl, rfl⟩ := hs
    simp [Ap, GO, AZ, CT, he, DM, hg, Hj, GC, ha, h1, hl]
   ·simp at hs
   ·cases hs
 ·cases hs
theorem Q3 {a : Nat × Nat} {v : AA} (hs : GV C.P fr op = some (a, 1, v)) (hc : v.cells? = some [v]) (hl : st g h a [v] = some h1) : Ap C S g h fr op = some (.tuple [], h1) := by
 unfold GV at hs
 split at hs
 ·split at hs
  ·rename_i he
   simp only [Option.map_eq_some_iff, Prod.mk.injEq] at hs
   obtain ⟨n, h2, rfl, rfl, hv⟩ := hs
   unfold st at hl
   simp [Ap, GO, AZ, G2, he, Hp, hv, hc, h2, hl]
  ·cases hs
 ·cases hs
theorem UK {a : Nat × Nat} {n : Nat} {cs : List AA} (hs : GV C.P fr op = some (a, n, .agg cs)) (hl : V6 n g h a cs = some h1) : Ap C S g h fr op = some (.tuple [], h1) := by
 unfold GV at hs
 split at hs
 ·split at hs
  ·rename_i he
   simp only [Option.map_eq_some_iff, Prod.mk.injEq] at hs
   obtain ⟨m, h2, rfl, rfl, hv⟩ := hs
   unfold V6 at hl
   split at hl
   ·rename_i hn
    simp [Ap, GO, AZ, G2, he, Hp, hv, AA.cells?, h2, hn, hl]
   ·cases hl
  ·cases hs
 ·cases hs
theorem Db {s : Sl} {b : Nat × Nat} {z : Nat} {i : Int} (hs : UO C.P fr op = some (s.r, s.n, z, i)) (hl : WB s z i = some b) : Ap C S g h fr op = some (.ptr (some b), h) := by
 unfold UO at hs
 split at hs
 ·split at hs
  ·rename_i hu hx hi
   simp only [Option.map_eq_some_iff, Prod.mk.injEq] at hs
   obtain ⟨m, h2, e1, e2, rfl, rfl⟩ := hs
   unfold WB WU at hl
   rw [← e1, ← e2] at hl
   split at hl
   ·split at hl
    ·rename_i hb
     injection hl with hl
     subst hl
     simp [Ap, GO, AZ, G6, Fu, hu, hx, hi, hb, h2]
    ·cases hl
   ·cases hl
  ·cases hs
 ·cases hs
theorem VV {s : List UInt8} {i n : Int} (hs : Tw C.P fr op = some (s, i)) (hl : VG s i = some n) : Ap C S g h fr op = some (.int .u8 n, h) := by
 unfold Tw at hs
 split at hs
 ·split at hs
  ·rename_i hu hx hi
   simp only [Option.some.injEq, Prod.mk.injEq] at hs
   obtain ⟨rfl, rfl⟩ := hs
   unfold VG at hl
   split at hl
   ·rename_i hb
    simp only [Option.map_eq_some_iff] at hl
    obtain ⟨b, h3, rfl⟩ := hl
    simp [Ap, GO, AZ, G6, NS, hu, hx, hi, hb, h3]
   ·cases hl
  ·cases hs
 ·cases hs
theorem O2 {s t : List UInt8} {k k' : IntKind} {lo hi : Option Int} (hs : R8 C.P fr op = some (s, lo.map (.int k ·), hi.map (.int k' ·))) (hl : LF s lo hi = some t) : Ap C S g h fr op = some (.str t, h) := by
 unfold R8 at hs
 split at hs
 ·split at hs
  ·rename_i hu hx
   simp only [Option.some.injEq, Prod.mk.injEq] at hs
   obtain ⟨rfl, h1, h2⟩ := hs
   unfold LF at hl
   simp only [Option.map_eq_some_iff] at hl
   obtain ⟨p, h3, rfl⟩ := hl
   simp [Ap, GO, AZ, G6, Nl, hu, hx, h1, h2, Fv, h3]
  ·cases hs
 ·cases hs
theorem Ss {s t : Sl} {z : Nat} {k k' : IntKind} {lo hi : Option Int} (hs : Rz C.P fr op = some (s.r, s.n, z, lo.map (.int k ·), hi.map (.int k' ·))) (hl : Sj C.P h s z lo hi = some t) : Ap C S g h fr op = some (.slice t.r t.n, h) := by
 unfold Rz at hs
 split at hs
 ·split at hs
  ·rename_i hu hx
   simp only [Option.map_eq_some_iff, Prod.mk.injEq] at hs
   obtain ⟨m, hm, e1, e2, rfl, h1, h2⟩ := hs
   unfold Sj at hl
   rw [← e1, ← e2] at hl
   split at hl
   ·split at hl
    ·rename_i hn
     simp only [Option.map_eq_some_iff] at hl
     obtain ⟨p, h3, rfl⟩ := hl
     subst hn
     simp [Ap, GO, AZ, CT, DM, Hj, G9, hu, hx, h1, h2, Fv, h3, hm]
    ·cases hl
   ·split at hl
    ·rename_i hg
     simp only [Option.map_eq_some_iff] at hl
     obtain ⟨p, h3, rfl⟩ := hl
     simp [Ap, GO, AZ, CT, DM, Hj, G9, hu, hx, h1, h2, Fv, h3, hg, hm]
    ·rename_i hg
     split at hl
     ·rename_i hz
      simp only [Option.map_eq_some_iff] at hl
      obtain ⟨p, h3, rfl⟩ := hl
      simp [Ap, GO, AZ, CT, DM, Hj, G9, hu, hx, h1, h2, Fv, h3, hg, hm, hz]
     ·cases hl
    ·cases hl
  ·cases hs
 ·cases hs
theorem Uc {f : FuncId} {args : List AA} {v : AA} (hs : J1 fr op = some (f, args)) (hl : S.call g h f args = some (v, h1)) : Ap C S g h fr op = some (v, h1) := by
 unfold J1 at hs
 split at hs
 ·split at hs
  ·rename_i he
   simp only [Option.some.injEq, Prod.mk.injEq] at hs
   obtain ⟨rfl, rfl⟩ := hs
   simp only [Ap, he]
   exact hl
  ·cases hs
 ·cases hs
theorem JS {e : TypeId} {sz bytes n : Nat} {s t : Sl} {x : AA} (hs : UG C.P fr op = some (e, sz, bytes, s.r, s.n, n, x)) (hl : app e sz bytes g h s n x = some (t, h1)) : Ap C S g h fr op = some (.slice t.r t.n, h1) := by
 unfold UG at hs
 split at hs
 ·split at hs
  ·rename_i hx ht0 ht1
   split at hs
   ·rename_i hu hd hn
    split at hs
    ·rename_i i hi
     split at hs
     ·rename_i hb
      simp only [Option.some.injEq, Prod.mk.injEq] at hs
      obtain ⟨rfl, rfl, rfl, e1, e2, rfl, rfl⟩ := hs
      unfold app at hl
      simp only [Ap, GO, AZ, G2, hx, Jd, ht0, ht1, hu, hd, hn, hi, hb.1, if_true, appendCore]
      rw [e1, e2]
      split at hl
      ·rename_i h0
       simp only [Option.some.injEq, Prod.mk.injEq] at hl
       obtain ⟨rfl, rfl⟩ := hl
       rw [if_pos h0]
      ·rename_i h0
       rw [if_neg h0]
       split at hl
       ·rename_i hq
        rw [if_pos ⟨hb.2.1, hq.1, hq.2, hb.2.2⟩]
        split at hl
        ·rename_i new Fq h3 h4
         simp only [Option.map_eq_some_iff] at h3
         obtain ⟨new0, h3, rfl⟩ := h3
         simp only [h3, h4, Option.map_some]
         split at hl
         ·rename_i ho
          rw [if_pos ho]
          split at hl
          ·rename_i hr
           simp only [Option.some.injEq, Prod.mk.injEq] at hl
           obtain ⟨rfl, rfl⟩ := hl
           simp [hr]
          ·rename_i a hr
           split at hl
           ·rename_i hg
            split at hl
            ·rename_i hm
             simp only [Option.some.injEq, Prod.mk.injEq] at hl
             obtain ⟨rfl, rfl⟩ := hl
             simp [hr, hg, hm]
            ·cases hl
           ·cases hl
         ·cases hl
        ·cases hl
       ·cases hl
     ·cases hs
    ·cases hs
   ·cases hs
  ·cases hs
 ·cases hs
theorem Vh {v : AA} {ob : A7} (hs : Vt C.P fr op h.size = some (v, ob)) (hh : some (h.push ob) = some h1) : Ap C S g h fr op = some (v, h1) := by
 injection hh with hh
 rw [← hh]; exact W4 hs
theorem Ii {a b : List UInt8} (hs : T0 fr op = some (a, b)) (hb : decide (a.length + b.length ≤ 9223372036854775807) = true) : Ap C S g h fr op = some (.str (a ++ b), h) := by
 unfold T0 at hs
 split at hs
 ·split at hs
  ·rename_i hx hy
   simp only [Option.some.injEq, Prod.mk.injEq] at hs
   obtain ⟨rfl, rfl⟩ := hs
   have hb' := of_decide_eq_true hb
   simp [Ap, GO, AZ, KM, G6, TU, TY, hx, hy, Nr, hb']
  ·cases hs
 ·cases hs
end
end Go.Av
