/-
  ABS, 17: what one operation tells, by what its operands are.
-/
import Derived.Test.YtdpebdaplhfbjaaGreatDoorAvLift
namespace Go.Av
section
variable {C : Cfg} {S : Self} {g : Gd} {h h1 : AHeap} {fr : Fr} {op : Op}
theorem stepA_of_cls (hc : clsOf C.P op ≠ 3) : stepA C S g h fr op = opA C.P C.glob g h fr op := stepA_cls hc
theorem s_p {v : AVal} (hs : spP C.P fr op = some v) : stepA C S g h fr op = some (v, h) := by
 unfold spP at hs
 split at hs
 ·rename_i hc
  rw [stepA_of_cls (by rw [hc]; simp)]
  simp [opA, hc, hs]
 ·cases hs
theorem s_n {v : AVal} {ob : AObj} (hs : spN C.P fr op h.size = some (v, ob)) : stepA C S g h fr op = some (v, h.push ob) := by
 unfold spN at hs
 split at hs
 ·rename_i hc
  rw [stepA_of_cls (by rw [hc]; simp)]
  simp only [Option.map_eq_some_iff, Prod.mk.injEq] at hs
  obtain ⟨x, h1, rfl, rfl⟩ := hs
  simp [opA, hc, h1]
 ·cases hs
theorem ld1_get {a : Nat × Nat} {v : AVal} (hl : ld1 h a = some v) : cellsAt (h.get a.1) a.2 1 = some [v] ∧ ∃ ob, h.get a.1 = some ob := by
 unfold ld1 at hl
 split at hl
 ·rename_i u hu
  injection hl with hl
  subst hl
  refine ⟨hu, ?_⟩
  cases hg : h.get a.1 with
  | none => rw [hg] at hu; simp [cellsAt] at hu
  | some ob => exact ⟨ob, rfl⟩
 ·cases hl
theorem s_ld {a : Nat × Nat} {v : AVal} (hs : spLoad C.P fr op = some (a, none)) (hl : ld1 h a = some v) : stepA C S g h fr op = some (v, h) := by
 unfold spLoad at hs
 split at hs
 ·rename_i t x
  obtain ⟨h1, ob, h2⟩ := ld1_get hl
  rw [h2] at h1
  split at hs
  ·simp only [Option.map_eq_some_iff, Prod.mk.injEq] at hs
   obtain ⟨_, _, _, hc⟩ := hs
   cases hc
  ·rename_i he ha
   simp only [Option.some.injEq, Prod.mk.injEq, and_true] at hs
   subst hs
   simp [stepA, opA, clsOf, touchA, he, refOf, h2, opR, loadA, ha, h1]
  ·cases hs
 ·cases hs
theorem s_ldA {a : Nat × Nat} {n : Nat} {cs : List AVal} (hs : spLoad C.P fr op = some (a, some n)) (hl : ldA h a n = some cs) : stepA C S g h fr op = some (.agg cs, h) := by
 unfold spLoad at hs
 split at hs
 ·rename_i t x
  unfold ldA at hl
  cases hg : h.get a.1 with
  | none => rw [hg] at hl; simp [cellsAt] at hl
  | some ob =>
   rw [hg] at hl
   split at hs
   ·rename_i he ha
    simp only [Option.map_eq_some_iff, Prod.mk.injEq, Option.some.injEq] at hs
    obtain ⟨m, h1, rfl, rfl⟩ := hs
    simp [stepA, opA, clsOf, touchA, he, refOf, hg, opR, loadA, ha, h1, hl]
   ·simp at hs
   ·cases hs
 ·cases hs
theorem s_st {a : Nat × Nat} {v : AVal} (hs : spStore C.P fr op = some (a, 1, v)) (hc : v.cells? = some [v]) (hl : st g h a [v] = some h1) : stepA C S g h fr op = some (.tuple [], h1) := by
 unfold spStore at hs
 split at hs
 ·split at hs
  ·rename_i he
   simp only [Option.map_eq_some_iff, Prod.mk.injEq] at hs
   obtain ⟨n, h2, rfl, rfl, hv⟩ := hs
   unfold st at hl
   simp [stepA, opA, clsOf, opW, he, storeA, hv, hc, h2, hl]
  ·cases hs
 ·cases hs
theorem s_stG {a : Nat × Nat} {n : Nat} {cs : List AVal} (hs : spStore C.P fr op = some (a, n, .agg cs)) (hl : stG n g h a cs = some h1) : stepA C S g h fr op = some (.tuple [], h1) := by
 unfold spStore at hs
 split at hs
 ·split at hs
  ·rename_i he
   simp only [Option.map_eq_some_iff, Prod.mk.injEq] at hs
   obtain ⟨m, h2, rfl, rfl, hv⟩ := hs
   unfold stG at hl
   split at hl
   ·rename_i hn
    simp [stepA, opA, clsOf, opW, he, storeA, hv, AVal.cells?, h2, hn, hl]
   ·cases hl
  ·cases hs
 ·cases hs
theorem s_ixL {s : Sl} {b : Nat × Nat} {z : Nat} {i : Int} (hs : spIxL C.P fr op = some (s.r, s.n, z, i)) (hl : ixL s z i = some b) : stepA C S g h fr op = some (.ptr (some b), h) := by
 unfold spIxL at hs
 split at hs
 ·split at hs
  ·rename_i hu hx hi
   simp only [Option.map_eq_some_iff, Prod.mk.injEq] at hs
   obtain ⟨m, h2, e1, e2, rfl, rfl⟩ := hs
   unfold ixL ixA at hl
   rw [← e1, ← e2] at hl
   split at hl
   ·split at hl
    ·rename_i hb
     injection hl with hl
     subst hl
     simp [stepA, opA, clsOf, opP, indexAddrA, hu, hx, hi, hb, h2]
    ·cases hl
   ·cases hl
  ·cases hs
 ·cases hs
theorem s_ixS {s : List UInt8} {i n : Int} (hs : spIxS C.P fr op = some (s, i)) (hl : ixS s i = some n) : stepA C S g h fr op = some (.int .u8 n, h) := by
 unfold spIxS at hs
 split at hs
 ·split at hs
  ·rename_i hu hx hi
   simp only [Option.some.injEq, Prod.mk.injEq] at hs
   obtain ⟨rfl, rfl⟩ := hs
   unfold ixS at hl
   split at hl
   ·rename_i hb
    simp only [Option.map_eq_some_iff] at hl
    obtain ⟨b, h3, rfl⟩ := hl
    simp [stepA, opA, clsOf, opP, indexA, hu, hx, hi, hb, h3]
   ·cases hl
  ·cases hs
 ·cases hs
theorem s_subS {s t : List UInt8} {k k' : IntKind} {lo hi : Option Int} (hs : spSubS C.P fr op = some (s, lo.map (.int k ·), hi.map (.int k' ·))) (hl : subS s lo hi = some t) : stepA C S g h fr op = some (.str t, h) := by
 unfold spSubS at hs
 split at hs
 ·split at hs
  ·rename_i hu hx
   simp only [Option.some.injEq, Prod.mk.injEq] at hs
   obtain ⟨rfl, h1, h2⟩ := hs
   unfold subS at hl
   simp only [Option.map_eq_some_iff] at hl
   obtain ⟨p, h3, rfl⟩ := hl
   simp [stepA, opA, clsOf, opP, sliceP, hu, hx, h1, h2, boundsA_eq, h3]
  ·cases hs
 ·cases hs
theorem s_call {f : FuncId} {args : List AVal} {v : AVal} (hs : spCall fr op = some (f, args)) (hl : S.call g h f args = some (v, h1)) : stepA C S g h fr op = some (v, h1) := by
 unfold spCall at hs
 split at hs
 ·split at hs
  ·rename_i he
   simp only [Option.some.injEq, Prod.mk.injEq] at hs
   obtain ⟨rfl, rfl⟩ := hs
   simp only [stepA, he]
   exact hl
  ·cases hs
 ·cases hs
theorem s_app {e : TypeId} {sz bytes n : Nat} {s t : Sl} {x : AVal} (hs : spApp C.P fr op = some (e, sz, bytes, s.r, s.n, n, x)) (hl : app e sz bytes g h s n x = some (t, h1)) : stepA C S g h fr op = some (.slice t.r t.n, h1) := by
 unfold spApp at hs
 split at hs
 ·split at hs
  ·rename_i hx ht0 ht1
   split at hs
   ·rename_i hu hd hn
    split at hs
    ·rename_i i hi
     split at hs
     ·rename_i hb
      simp only [Option.some.injEq, Prod.mk.injEq] at hs
      obtain ⟨rfl, rfl, rfl, e1, e2, rfl, rfl⟩ := hs
      unfold app at hl
      simp only [stepA, opA, clsOf, opW, hx, appendA, ht0, ht1, hu, hd, hn, hi, hb.1, if_true, appendCore]
      rw [e1, e2]
      split at hl
      ·rename_i h0
       simp only [Option.some.injEq, Prod.mk.injEq] at hl
       obtain ⟨rfl, rfl⟩ := hl
       rw [if_pos h0]
      ·rename_i h0
       rw [if_neg h0]
       split at hl
       ·rename_i hq
        rw [if_pos ⟨hb.2.1, hq.1, hq.2, hb.2.2⟩]
        split at hl
        ·rename_i new old h3 h4
         simp only [Option.map_eq_some_iff] at h3
         obtain ⟨new0, h3, rfl⟩ := h3
         simp only [h3, h4, Option.map_some]
         split at hl
         ·rename_i ho
          rw [if_pos ho]
          split at hl
          ·rename_i hr
           simp only [Option.some.injEq, Prod.mk.injEq] at hl
           obtain ⟨rfl, rfl⟩ := hl
           simp [hr]
          ·rename_i a hr
           split at hl
           ·rename_i hg
            split at hl
            ·rename_i hm
             simp only [Option.some.injEq, Prod.mk.injEq] at hl
             obtain ⟨rfl, rfl⟩ := hl
             simp [hr, hg, hm]
            ·cases hl
           ·cases hl
         ·cases hl
        ·cases hl
       ·cases hl
     ·cases hs
    ·cases hs
   ·cases hs
  ·cases hs
 ·cases hs
theorem s_n' {v : AVal} {ob : AObj} (hs : spN C.P fr op h.size = some (v, ob)) (hh : some (h.push ob) = some h1) : stepA C S g h fr op = some (v, h1) := by
 injection hh with hh
 rw [← hh]; exact s_n hs
theorem s_cat {a b : List UInt8} (hs : spCat fr op = some (a, b)) (hb : decide (a.length + b.length ≤ 9223372036854775807) = true) : stepA C S g h fr op = some (.str (a ++ b), h) := by
 unfold spCat at hs
 split at hs
 ·split at hs
  ·rename_i hx hy
   simp only [Option.some.injEq, Prod.mk.injEq] at hs
   obtain ⟨rfl, rfl⟩ := hs
   have hb' := of_decide_eq_true hb
   simp [stepA, opA, clsOf, opP, binN, binA, hx, hy, strBin, hb']
  ·cases hs
 ·cases hs
end
end Go.Av
