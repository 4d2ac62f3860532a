/-
 A part.
-/
import Derived.Test.YtdbkpibbjnhmgaaDoorAvLift
namespace Go.Av
section
variable {C : EP} {S : Self} {g : Gd} {h h1 : AB} {fr : Fr} {op : Op}
theorem EZ (hc : AZ C.P op ≠ 3) : Aw C S g h fr op = GA C.P C.CM g h fr op := En hc
theorem X4 {v : AA} (hs : Wi C.P fr op = some v) : Aw C S g h fr op = some (v, h) := by
 unfold Wi at hs
 split at hs
 ·rename_i hc
  rw [EZ (by rw [hc]; simp)]
  simp [GA, hc, hs]
 ·cases hs
theorem X0 {v : AA} {ob : A9} (hs : WB C.P fr op h.size = some (v, ob)) : Aw C S g h fr op = some (v, h.push ob) := by
 unfold WB at hs
 split at hs
 ·rename_i hc
  rw [EZ (by rw [hc]; simp)]
  simp only [Option.map_eq_some_iff, Prod.mk.injEq] at hs
  obtain ⟨x, h1, rfl, rfl⟩ := hs
  simp [GA, hc, h1]
 ·cases hs
theorem T6 {a : Nat × Nat} {v : AA} (hl : PK h a = some v) : CB (h.get a.1) a.2 1 = some [v] ∧ ∃ ob, h.get a.1 = some ob := by
 unfold PK at hl
 split at hl
 ·rename_i u hu
  injection hl with hl
  subst hl
  refine ⟨hu, ?_⟩
  cases hg : h.get a.1 with
  | none => rw [hg] at hu; simp [CB] at hu
  | some ob => exact ⟨ob, rfl⟩
 ·cases hl
theorem Dk {a : Nat × Nat} {v : AA} (hs : KK C.P fr op = some (a, none)) (hl : PK h a = some v) : Aw C S g h fr op = some (v, h) := by
 unfold KK at hs
 split at hs
 ·rename_i t x
  obtain ⟨h1, ob, h2⟩ := T6 hl
  rw [h2] at h1
  split at hs
  ·simp only [Option.map_eq_some_iff, Prod.mk.injEq] at hs
   obtain ⟨_, _, _, hc⟩ := hs
   cases hc
  ·rename_i he ha
   simp only [Option.some.injEq, Prod.mk.injEq, and_true] at hs
   subst hs
   simp [Aw, GA, AZ, CJ, he, DD, h2, HB, Ek, ha, h1]
  ·cases hs
 ·cases hs
theorem QW {a : Nat × Nat} {n : Nat} {cs : List AA} (hs : KK C.P fr op = some (a, some n)) (hl : UJ h a n = some cs) : Aw C S g h fr op = some (.agg cs, h) := by
 unfold KK at hs
 split at hs
 ·rename_i t x
  unfold UJ at hl
  cases hg : h.get a.1 with
  | none => rw [hg] at hl; simp [CB] at hl
  | some ob =>
   rw [hg] at hl
   split at hs
   ·rename_i he ha
    simp only [Option.map_eq_some_iff, Prod.mk.injEq, Option.some.injEq] at hs
    obtain ⟨m, h1, rfl, rfl⟩ := hs
    simp [Aw, GA, AZ, CJ, he, DD, hg, HB, Ek, ha, h1, hl]
   ·simp at hs
   ·cases hs
 ·cases hs
theorem Rg {a : Nat × Nat} {v : AA} (hs : F7 C.P fr op = some (a, 1, v)) (hc : v.cells? = some [v]) (hl : st g h a [v] = some h1) : Aw C S g h fr op = some (.tuple [], h1) := by
 unfold F7 at hs
 split at hs
 ·split at hs
  ·rename_i he
   simp only [Option.map_eq_some_iff, Prod.mk.injEq] at hs
   obtain ⟨n, h2, rfl, rfl, hv⟩ := hs
   unfold st at hl
   simp [Aw, GA, AZ, Gk, he, IT, hv, hc, h2, hl]
  ·cases hs
 ·cases hs
theorem U2 {a : Nat × Nat} {n : Nat} {cs : List AA} (hs : F7 C.P fr op = some (a, n, .agg cs)) (hl : W5 n g h a cs = some h1) : Aw C S g h fr op = some (.tuple [], h1) := by
 unfold F7 at hs
 split at hs
 ·split at hs
  ·rename_i he
   simp only [Option.map_eq_some_iff, Prod.mk.injEq] at hs
   obtain ⟨m, h2, rfl, rfl, hv⟩ := hs
   unfold W5 at hl
   split at hl
   ·rename_i hn
    simp [Aw, GA, AZ, Gk, he, IT, hv, AA.cells?, h2, hn, hl]
   ·cases hl
  ·cases hs
 ·cases hs
theorem EG {s : Sl} {b : Nat × Nat} {z : Nat} {i : Int} (hs : U6 C.P fr op = some (s.r, s.n, z, i)) (hl : W3 s z i = some b) : Aw C S g h fr op = some (.ptr (some b), h) := by
 unfold U6 at hs
 split at hs
 ·split at hs
  ·rename_i hu hx hi
   simp only [Option.map_eq_some_iff, Prod.mk.injEq] at hs
   obtain ⟨m, h2, e1, e2, rfl, rfl⟩ := hs
   unfold W3 W9 at hl
   rw [← e1, ← e2] at hl
   split at hl
   ·split at hl
    ·rename_i hb
     injection hl with hl
     subst hl
     simp [Aw, GA, AZ, GR, Fq, hu, hx, hi, hb, h2]
    ·cases hl
   ·cases hl
  ·cases hs
 ·cases hs
theorem Wn {s : List UInt8} {i n : Int} (hs : Up C.P fr op = some (s, i)) (hl : Vx s i = some n) : Aw C S g h fr op = some (.int .u8 n, h) := by
 unfold Up at hs
 split at hs
 ·split at hs
  ·rename_i hu hx hi
   simp only [Option.some.injEq, Prod.mk.injEq] at hs
   obtain ⟨rfl, rfl⟩ := hs
   unfold Vx at hl
   split at hl
   ·rename_i hb
    simp only [Option.map_eq_some_iff] at hl
    obtain ⟨b, h3, rfl⟩ := hl
    simp [Aw, GA, AZ, GR, NK, hu, hx, hi, hb, h3]
   ·cases hl
  ·cases hs
 ·cases hs
theorem P4 {s t : List UInt8} {k k' : IntKind} {lo hi : Option Int} (hs : Sw C.P fr op = some (s, lo.map (.int k ·), hi.map (.int k' ·))) (hl : L1 s lo hi = some t) : Aw C S g h fr op = some (.str t, h) := by
 unfold Sw at hs
 split at hs
 ·split at hs
  ·rename_i hu hx
   simp only [Option.some.injEq, Prod.mk.injEq] at hs
   obtain ⟨rfl, h1, h2⟩ := hs
   unfold L1 at hl
   simp only [Option.map_eq_some_iff] at hl
   obtain ⟨p, h3, rfl⟩ := hl
   simp [Aw, GA, AZ, GR, Nj, hu, hx, h1, h2, Ft, h3]
  ·cases hs
 ·cases hs
theorem Sg {s t : Sl} {z : Nat} {k k' : IntKind} {lo hi : Option Int} (hs : S4 C.P fr op = some (s.r, s.n, z, lo.map (.int k ·), hi.map (.int k' ·))) (hl : TN C.P h s z lo hi = some t) : Aw C S g h fr op = some (.slice t.r t.n, h) := by
 unfold S4 at hs
 split at hs
 ·split at hs
  ·rename_i hu hx
   simp only [Option.map_eq_some_iff, Prod.mk.injEq] at hs
   obtain ⟨m, hm, e1, e2, rfl, h1, h2⟩ := hs
   unfold TN at hl
   rw [← e1, ← e2] at hl
   split at hl
   ·split at hl
    ·rename_i hn
     simp only [Option.map_eq_some_iff] at hl
     obtain ⟨p, h3, rfl⟩ := hl
     subst hn
     simp [Aw, GA, AZ, CJ, DD, HB, G4, hu, hx, h1, h2, Ft, h3, hm]
    ·cases hl
   ·split at hl
    ·rename_i hg
     simp only [Option.map_eq_some_iff] at hl
     obtain ⟨p, h3, rfl⟩ := hl
     simp [Aw, GA, AZ, CJ, DD, HB, G4, hu, hx, h1, h2, Ft, h3, hg, hm]
    ·rename_i hg
     split at hl
     ·rename_i hz
      simp only [Option.map_eq_some_iff] at hl
      obtain ⟨p, h3, rfl⟩ := hl
      simp [Aw, GA, AZ, CJ, DD, HB, G4, hu, hx, h1, h2, Ft, h3, hg, hm, hz]
     ·cases hl
    ·cases hl
  ·cases hs
 ·cases hs
theorem U9 {f : FuncId} {args : List AA} {v : AA} (hs : KP fr op = some (f, args)) (hl : S.call g h f args = some (v, h1)) : Aw C S g h fr op = some (v, h1) := by
 unfold KP at hs
 split at hs
 ·split at hs
  ·rename_i he
   simp only [Option.some.injEq, Prod.mk.injEq] at hs
   obtain ⟨rfl, rfl⟩ := hs
   simp only [Aw, he]
   exact hl
  ·cases hs
 ·cases hs
theorem Jo {e : TypeId} {sz bytes n : Nat} {s t : Sl} {x : AA} (hs : Ur C.P fr op = some (e, sz, bytes, s.r, s.n, n, x)) (hl : app e sz bytes g h s n x = some (t, h1)) : Aw C S g h fr op = some (.slice t.r t.n, h1) := by
 unfold Ur at hs
 split at hs
 ·split at hs
  ·rename_i hx ht0 ht1
   split at hs
   ·rename_i hu hd hn
    split at hs
    ·rename_i i hi
     split at hs
     ·rename_i hb
      simp only [Option.some.injEq, Prod.mk.injEq] at hs
      obtain ⟨rfl, rfl, rfl, e1, e2, rfl, rfl⟩ := hs
      unfold app at hl
      simp only [Aw, GA, AZ, Gk, hx, JX, ht0, ht1, hu, hd, hn, hi, hb.1, if_true, appendCore]
      rw [e1, e2]
      split at hl
      ·rename_i h0
       simp only [Option.some.injEq, Prod.mk.injEq] at hl
       obtain ⟨rfl, rfl⟩ := hl
       rw [if_pos h0]
      ·rename_i h0
       rw [if_neg h0]
       split at hl
       ·rename_i hq
        rw [if_pos ⟨hb.2.1, hq.1, hq.2, hb.2.2⟩]
        split at hl
        ·rename_i new FY h3 h4
         simp only [Option.map_eq_some_iff] at h3
         obtain ⟨new0, h3, rfl⟩ := h3
         simp only [h3, h4, Option.map_some]
         split at hl
         ·rename_i ho
          rw [if_pos ho]
          split at hl
          ·rename_i hr
           simp only [Option.some.injEq, Prod.mk.injEq] at hl
           obtain ⟨rfl, rfl⟩ := hl
           simp [hr]
          ·rename_i a hr
           split at hl
           ·rename_i hg
            split at hl
            ·rename_i hm
             simp only [Option.some.injEq, Prod.mk.injEq] at hl
             obtain ⟨rfl, rfl⟩ := hl
             simp [hr, hg, hm]
            ·cases hl
           ·cases hl
         ·cases hl
        ·cases hl
       ·cases hl
     ·cases hs
    ·cases hs
   ·cases hs
  ·cases hs
 ·cases hs
theorem Wt {v : AA} {ob : A9} (hs : WB C.P fr op h.size = some (v, ob)) (hh : some (h.push ob) = some h1) : Aw C S g h fr op = some (v, h1) := by
 injection hh with hh
 rw [← hh]; exact X0 hs
theorem L7 {a b : List UInt8} (hs : UZ fr op = some (a, b)) (hb : decide (a.length + b.length ≤ 9223372036854775807) = true) : Aw C S g h fr op = some (.str (a ++ b), h) := by
 unfold UZ at hs
 split at hs
 ·split at hs
  ·rename_i hx hy
   simp only [Option.some.injEq, Prod.mk.injEq] at hs
   obtain ⟨rfl, rfl⟩ := hs
   have hb' := of_decide_eq_true hb
   simp [Aw, GA, AZ, LM, GR, UN, UP, hx, hy, M6, hb']
  ·cases hs
 ·cases hs
end
end Go.Av
