/-
 A part.
-/
import Derived.Test.YtlljeoogceblmaaGreatDoorAvLift
namespace Go.Av
section
variable {C : E8} {S : Self} {g : Gd} {h h1 : AF} {fr : Fr} {op : Op}
theorem E6 (hc : BA C.P op ≠ 3) : BO C S g h fr op = Gp C.P C.Ca g h fr op := GN hc
theorem Zl {v : AB} (B : Xn C.P fr op = some v) : BO C S g h fr op = some (v, h) := by
 unfold Xn at B
 split at B
 ·rename_i hc
  rw [E6 (by rw [hc]; simp)]
  simp [Gp, hc, B]
 ·cases B
theorem Zv {v : AB} {ob : CJ} (B : Xe C.P fr op h.size = some (v, ob)) : BO C S g h fr op = some (v, h.push ob) := by
 unfold Xe at B
 split at B
 ·rename_i hc
  rw [E6 (by rw [hc]; simp)]
  simp only [Option.map_eq_some_iff, Prod.mk.injEq] at B
  obtain ⟨x, h1, rfl, rfl⟩ := B
  simp [Gp, hc, h1]
 ·cases B
theorem VO {a : Nat × Nat} {v : AB} (D : ld1 h a = some v) : CP (h.get a.1) a.2 1 = some [v] ∧ ∃ ob, h.get a.1 = some ob := by
 unfold ld1 at D
 split at D
 ·rename_i u hu
  injection D with D
  subst D
  refine ⟨hu, ?_⟩
  cases G : h.get a.1 with
  | none => rw [G] at hu; simp [CP] at hu
  | some ob => exact ⟨ob, rfl⟩
 ·cases D
theorem Ib {a : Nat × Nat} {v : AB} (B : MO C.P fr op = some (a, none)) (D : ld1 h a = some v) : BO C S g h fr op = some (v, h) := by
 unfold MO at B
 split at B
 ·rename_i t x
  obtain ⟨h1, ob, h2⟩ := VO D
  rw [h2] at h1
  split at B
  ·simp only [Option.map_eq_some_iff, Prod.mk.injEq] at B
   obtain ⟨_, _, _, hc⟩ := B
   cases hc
  ·rename_i he U
   simp only [Option.some.injEq, Prod.mk.injEq, and_true] at B
   subst B
   simp [BO, Gp, BA, Cq, he, Dd, h2, Ih, GH, U, h1]
  ·cases B
 ·cases B
theorem BX {a : Nat × Nat} {n : Nat} {cs : List AB} (B : MO C.P fr op = some (a, some n)) (D : Ef h a n = some cs) : BO C S g h fr op = some (.agg cs, h) := by
 unfold MO at B
 split at B
 ·rename_i t x
  unfold Ef at D
  cases G : h.get a.1 with
  | none => rw [G] at D; simp [CP] at D
  | some ob =>
   rw [G] at D
   split at B
   ·rename_i he U
    simp only [Option.map_eq_some_iff, Prod.mk.injEq, Option.some.injEq] at B
    obtain ⟨m, h1, rfl, rfl⟩ := B
    simp [BO, Gp, BA, Cq, he, Dd, G, Ih, GH, U, h1, D]
   ·simp at B
   ·cases B
 ·cases B
theorem Sr {a : Nat × Nat} {v : AB} (B : IC C.P fr op = some (a, 1, v)) (hc : v.cells? = some [v]) (D : st g h a [v] = some h1) : BO C S g h fr op = some (.tuple [], h1) := by
 unfold IC at B
 split at B
 ·split at B
  ·rename_i he
   simp only [Option.map_eq_some_iff, Prod.mk.injEq] at B
   obtain ⟨n, h2, rfl, rfl, T⟩ := B
   unfold st at D
   simp [BO, Gp, BA, Ji, he, KL, T, hc, h2, D]
  ·cases B
 ·cases B
theorem Nj {a : Nat × Nat} {n : Nat} {cs : List AB} (B : IC C.P fr op = some (a, n, .agg cs)) (D : YZ n g h a cs = some h1) : BO C S g h fr op = some (.tuple [], h1) := by
 unfold IC at B
 split at B
 ·split at B
  ·rename_i he
   simp only [Option.map_eq_some_iff, Prod.mk.injEq] at B
   obtain ⟨m, h2, rfl, rfl, T⟩ := B
   unfold YZ at D
   split at D
   ·rename_i I
    simp [BO, Gp, BA, Ji, he, KL, T, AB.cells?, h2, I, D]
   ·cases D
  ·cases B
 ·cases B
theorem G1 {s : Sl} {b : Nat × Nat} {z : Nat} {i : Int} (B : WC C.P fr op = some (s.r, s.n, z, i)) (D : XV s z i = some b) : BO C S g h fr op = some (.ptr (some b), h) := by
 unfold WC at B
 split at B
 ·split at B
  ·rename_i hu E hi
   simp only [Option.map_eq_some_iff, Prod.mk.injEq] at B
   obtain ⟨m, h2, e1, e2, rfl, rfl⟩ := B
   unfold XV Yg at D
   rw [← e1, ← e2] at D
   split at D
   ·split at D
    ·rename_i H
     injection D with D
     subst D
     simp [BO, Gp, BA, IP, HQ, hu, E, hi, H, h2]
    ·cases D
   ·cases D
  ·cases B
 ·cases B
theorem Mf {s : List UInt8} {i n : Int} (B : WR C.P fr op = some (s, i)) (D : U9 s i = some n) : BO C S g h fr op = some (.int .u8 n, h) := by
 unfold WR at B
 split at B
 ·split at B
  ·rename_i hu E hi
   simp only [Option.some.injEq, Prod.mk.injEq] at B
   obtain ⟨rfl, rfl⟩ := B
   unfold U9 at D
   split at D
   ·rename_i H
    simp only [Option.map_eq_some_iff] at D
    obtain ⟨b, F, rfl⟩ := D
    simp [BO, Gp, BA, IP, MJ, hu, E, hi, H, F]
   ·cases D
  ·cases B
 ·cases B
theorem HW {s t : List UInt8} {k k' : IntKind} {lo hi : Option Int} (B : UP C.P fr op = some (s, lo.map (.int k ·), hi.map (.int k' ·))) (D : IX s lo hi = some t) : BO C S g h fr op = some (.str t, h) := by
 unfold UP at B
 split at B
 ·split at B
  ·rename_i hu E
   simp only [Option.some.injEq, Prod.mk.injEq] at B
   obtain ⟨rfl, h1, h2⟩ := B
   unfold IX at D
   simp only [Option.map_eq_some_iff] at D
   obtain ⟨p, F, rfl⟩ := D
   simp [BO, Gp, BA, IP, PQ, hu, E, h1, h2, HU, F]
  ·cases B
 ·cases B
theorem Rg {s t : Sl} {z : Nat} {k k' : IntKind} {lo hi : Option Int} (B : Te C.P fr op = some (s.r, s.n, z, lo.map (.int k ·), hi.map (.int k' ·))) (D : Vj C.P h s z lo hi = some t) : BO C S g h fr op = some (.slice t.r t.n, h) := by
 unfold Te at B
 split at B
 ·split at B
  ·rename_i hu E
   simp only [Option.map_eq_some_iff, Prod.mk.injEq] at B
   obtain ⟨m, hm, e1, e2, rfl, h1, h2⟩ := B
   unfold Vj at D
   rw [← e1, ← e2] at D
   split at D
   ·split at D
    ·rename_i I
     simp only [Option.map_eq_some_iff] at D
     obtain ⟨p, F, rfl⟩ := D
     subst I
     simp [BO, Gp, BA, Cq, Dd, Ih, JM, hu, E, h1, h2, HU, F, hm]
    ·cases D
   ·split at D
    ·rename_i G
     simp only [Option.map_eq_some_iff] at D
     obtain ⟨p, F, rfl⟩ := D
     simp [BO, Gp, BA, Cq, Dd, Ih, JM, hu, E, h1, h2, HU, F, G, hm]
    ·rename_i G
     split at D
     ·rename_i L
      simp only [Option.map_eq_some_iff] at D
      obtain ⟨p, F, rfl⟩ := D
      simp [BO, Gp, BA, Cq, Dd, Ih, JM, hu, E, h1, h2, HU, F, G, hm, L]
     ·cases D
    ·cases D
  ·cases B
 ·cases B
theorem Tv {s : Sl} {t : List UInt8} (B : Q3 C.P fr op = some (s.r, s.n)) (D : Yb h s = some t) : BO C S g h fr op = some (.str t, h) := by
 unfold Q3 at B
 split at B
 ·split at B
  ·rename_i hu hd E
   split at B
   ·rename_i he
    simp only [Option.some.injEq, Prod.mk.injEq] at B
    obtain ⟨e1, e2⟩ := B
    unfold Yb at D
    rw [← e1, ← e2] at D
    split at D
    ·injection D with D
     subst D
     simp [BO, Gp, BA, Cq, Dd, Ih, N5, hu, hd, E, he]
    ·rename_i a
     cases G : h.get a.1 with
     | none =>
      rw [G] at D
      split at D
      ·simp at D
      ·simp [CP] at D
     | some ob =>
      split at D
      ·rename_i I
       rw [G] at D
       injection D with D
       subst D
       simp [BO, Gp, BA, Cq, Dd, Ih, N5, hu, hd, E, he, G, I]
      ·rename_i I
       obtain ⟨cs, F, R⟩ := bind_some D
       rw [G] at F
       simp [BO, Gp, BA, Cq, Dd, Ih, N5, hu, hd, E, he, G, I, F, R]
   ·cases B
  ·cases B
 ·cases B
theorem ZS {e : TypeId} {bytes : Nat} {z cs : List AB} {l c : Int} (B : TX C.P fr op = some (e, bytes, z, l, c)) (D : Xd bytes z l c = some cs) : BO C S g h fr op = some (.slice (some (h.size, 0)) l.toNat, h.push (.cells (some e) 2 cs)) := by
 unfold TX at B
 split at B
 ·split at B
  ·rename_i hu E N
   split at B
   ·rename_i i hi
    split at B
    ·rename_i z' L
     split at B
     ·rename_i zc hzc
      split at B
      ·rename_i H
       simp only [Option.some.injEq, Prod.mk.injEq] at B
       obtain ⟨rfl, rfl, rfl, rfl, rfl⟩ := B
       unfold Xd at D
       split at D
       ·rename_i Q
        injection D with D
        subst D
        obtain ⟨q1, q2, q3, q4⟩ := Q
        simp only [BO, Gp, BA, OG, JB, hu, E, N, hi, L, hzc]
        rw [if_pos ⟨q1, q2, q3, q4, H.1, H.2⟩]
        rfl
       ·cases D
      ·cases B
     ·cases B
    ·cases B
   ·cases B
  ·cases B
 ·cases B
theorem XK {f : FuncId} {args : List AB} {v : AB} (B : K7 fr op = some (f, args)) (D : S.call g h f args = some (v, h1)) : BO C S g h fr op = some (v, h1) := by
 unfold K7 at B
 split at B
 ·split at B
  ·rename_i he
   simp only [Option.some.injEq, Prod.mk.injEq] at B
   obtain ⟨rfl, rfl⟩ := B
   simp only [BO, he]
   exact D
  ·cases B
 ·cases B
theorem DU {e : TypeId} {sz bytes n : Nat} {s t : Sl} {x : AB} (B : WT C.P fr op = some (e, sz, bytes, s.r, s.n, n, x)) (D : app e sz bytes g h s n x = some (t, h1)) : BO C S g h fr op = some (.slice t.r t.n, h1) := by
 unfold WT at B
 split at B
 ·split at B
  ·rename_i E M ht1
   split at B
   ·rename_i hu hd I
    split at B
    ·rename_i i hi
     split at B
     ·rename_i H
      simp only [Option.some.injEq, Prod.mk.injEq] at B
      obtain ⟨rfl, rfl, rfl, e1, e2, rfl, rfl⟩ := B
      unfold app at D
      simp only [BO, Gp, BA, Ji, E, LX, M, ht1, hu, hd, I, hi, H.1, if_true, appendCore]
      rw [e1, e2]
      split at D
      ·rename_i h0
       simp only [Option.some.injEq, Prod.mk.injEq] at D
       obtain ⟨rfl, rfl⟩ := D
       rw [if_pos h0]
      ·rename_i h0
       rw [if_neg h0]
       split at D
       ·rename_i Q
        rw [if_pos ⟨H.2.1, Q.1, Q.2, H.2.2⟩]
        split at D
        ·rename_i new GV F R
         simp only [Option.map_eq_some_iff] at F
         obtain ⟨new0, F, rfl⟩ := F
         simp only [F, R, Option.map_some]
         split at D
         ·rename_i ho
          rw [if_pos ho]
          split at D
          ·rename_i O
           simp only [Option.some.injEq, Prod.mk.injEq] at D
           obtain ⟨rfl, rfl⟩ := D
           simp [O]
          ·rename_i a O
           split at D
           ·rename_i G
            split at D
            ·rename_i hm
             simp only [Option.some.injEq, Prod.mk.injEq] at D
             obtain ⟨rfl, rfl⟩ := D
             simp [O, G, hm]
            ·cases D
           ·cases D
         ·cases D
        ·cases D
       ·cases D
     ·cases B
    ·cases B
   ·cases B
  ·cases B
 ·cases B
theorem Uz {z n : Nat} {d : Sl} {x : AB} {k : Int} (B : WL C.P fr op = some (z, d.r, d.n, n, x)) (D : Yc z g h d n x = some (k, h1)) : BO C S g h fr op = some (.int .i64 k, h1) := by
 unfold WL at B
 split at B
 ·split at B
  ·rename_i E M
   split at B
   ·rename_i hu I
    simp only [Option.map_eq_some_iff, Prod.mk.injEq] at B
    obtain ⟨z', L, rfl, e1, e2, rfl, rfl⟩ := B
    unfold Yc at D
    simp only [BO, Gp, BA, Ji, E, Qc, M, hu, I, L]
    rw [e1, e2]
    split at D
    ·rename_i new F
     simp only [F]
     split at D
     ·rename_i h0
      simp only [Option.some.injEq, Prod.mk.injEq] at D
      obtain ⟨rfl, rfl⟩ := D
      cases d.r with
      | none => simp [h0]
      | some a => simp [h0]
     ·rename_i h0
      split at D
      ·rename_i a O
       simp only [Option.map_eq_some_iff, Prod.mk.injEq] at D
       obtain ⟨R, h5, rfl, rfl⟩ := D
       simp [O, h0, h5]
      ·cases D
    ·cases D
   ·cases B
  ·cases B
 ·cases B
theorem TQ {v : AB} {ob : CJ} (B : Xe C.P fr op h.size = some (v, ob)) (J : some (h.push ob) = some h1) : BO C S g h fr op = some (v, h1) := by
 injection J with J
 rw [← J]; exact Zv B
theorem WB {e : TypeId} {bytes : Nat} {z cs : List AB} {l c : Int} (B : TX C.P fr op = some (e, bytes, z, l, c)) (D : Xd bytes z l c = some cs) (J : some (h.push (.cells (some e) 2 cs)) = some h1) : BO C S g h fr op = some (.slice (some (h.size, 0)) l.toNat, h1) := by
 injection J with J
 rw [← J]; exact ZS B D
theorem Xl {k : IntKind} {a b : Int} (B : SE fr op = some (true, k, a, b)) (H : decide (0 ≤ b) = true) : BO C S g h fr op = some (.int k (OI k a b), h) := by
 unfold SE at B
 split at B
 ·split at B
  ·rename_i E N
   simp only [Option.some.injEq, Prod.mk.injEq, true_and] at B
   obtain ⟨rfl, rfl, rfl⟩ := B
   have K := of_decide_eq_true H
   simp [BO, Gp, BA, IP, Ub, T0, E, N, Pm, Int.not_lt.2 K, OI]
  ·simp at B
  ·cases B
 ·cases B
theorem Mp {a b : List UInt8} (B : WG fr op = some (a, b)) (H : decide (a.length + b.length ≤ 9223372036854775807) = true) : BO C S g h fr op = some (.str (a ++ b), h) := by
 unfold WG at B
 split at B
 ·split at B
  ·rename_i E N
   simp only [Option.some.injEq, Prod.mk.injEq] at B
   obtain ⟨rfl, rfl⟩ := B
   have K := of_decide_eq_true H
   simp [BO, Gp, BA, IP, Ub, T0, E, N, PY, K]
  ·cases B
 ·cases B
theorem WI {e : TypeId} {t : List UInt8} (B : WQ C.P fr op = some (e, t)) (H : decide (t.length ≤ 1099511627776) = true) (J : some (h.push (.cells (some e) 2 (t.map fun b => .int .u8 b.toNat))) = some h1) : BO C S g h fr op = some (.slice (some (h.size, 0)) t.length, h1) := by
 unfold WQ at B
 split at B
 ·split at B
  ·rename_i hu hd E
   split at B
   ·rename_i he L
    simp only [Option.some.injEq, Prod.mk.injEq] at B
    obtain ⟨rfl, rfl⟩ := B
    have K := of_decide_eq_true H
    injection J with J
    rw [← J]
    simp [BO, Gp, BA, OG, Sc, hu, hd, E, he, L, K]
   ·cases B
  ·cases B
 ·cases B
end
end Go.Av
