/-
  Several texts in one.
-/
import Derived.Test.YtlljeoogceblmaaGreatDoorWhG
import Derived.Test.YtlljeoogceblmaaGreatDoorAvIn
import Derived.Test.YtlljeoogceblmaaGreatDoorAvMore
import Derived.Lib.LaidTab
/-
 A part.
-/
section
namespace Go.Av.L
open Go.Av Go.Lib
set_option linter.unusedVariables false
set_option linter.unusedSimpArgs false
set_option maxRecDepth 10000
theorem T8 : DV = some true := by kernel_rfl
theorem Ny (k : Nat) (hk : k ≤ 2000) : Cg (List.replicate k 0) = some true := by
 have hs : ∀ i : Nat, i < k → Br (List.replicate k 0) (i : Int) = some (if (fun _ : Nat => true) i = true then .inl ((i + 1 : Nat) : Int) else .inr (.inr false)) := fun i hi => by
  unfold Br
  dsimp only
  rw [List.length_replicate, decide_eq_true (by omega), AU, UC (b := 0) (by rw [List.getElem?_replicate, if_pos hi]), Option.bind_some, FY (by omega)]
  rfl
 have hend : Br (List.replicate k 0) (k : Int) = some (.inr (.inl ())) := by
  unfold Br
  dsimp only
  rw [List.length_replicate, decide_eq_false (by omega), AL]
 unfold Cg
 rw [Kl hend hs, if_pos (by rw [List.all_eq_true]; exact fun _ _ => rfl)]
 rfl
structure Alike (w : Ar) (x : BD) : Prop where
 b : w.EL = x.EW
 c : w.Ed = x.Closed
 o : x.EW = true → x.Closed = false ∧ w.DF = x.DE ∧ w.IC = x.Left ∧ 0 ≤ x.Left ∧ 0 ≤ x.DE ∧ x.DE ≤ 1099511627776 ∧ x.Left ≤ 1099511627776
theorem Y2 {w : Ar} {x : BD} {o : Bn} (A : Alike w x) (B : Rv o.M) (hs : o.S.length ≤ 2000) : W (D4 w x o) fun r => r.2.2.1 = true ∧ Alike r.2.2.2 r.1 := by
 have hb := A.b
 have hc := A.c
 unfold D4
 refine W.ite (fun _ => ?_) fun _ => W.ite (fun _ => ?_) fun _ => W.ite (fun _ => ?_) fun _ => W.ite (fun _ => ?_) fun _ => W.ret ⟨rfl, A⟩
 ·unfold C4
  rw [hb, hc]
  cases hbc : (x.EW || x.Closed) with
  | true =>
   rw [AU, Option.bind_some]
   exact W.ret ⟨rfl, A⟩
  | false =>
   rw [Bool.or_eq_false_iff] at hbc
   obtain ⟨⟨s, e⟩, h1, h2, h3⟩ := WH (n := o.N) B
   rw [AL, h1, Option.bind_some]
   dsimp only at h3 ⊢
   by_cases he : e = 0
   ·obtain ⟨_, n1, n2⟩ := h3 he
    subst he
    rw [show ((0 : Int) != 0) = false from rfl, AL, Option.bind_some]
    dsimp only
    rw [AL, h2, Option.bind_some]
    dsimp only
    rw [show ((0 : Int) != 0) = false from rfl, AL]
    exact W.ret ⟨by simp, rfl, hbc.2, fun _ => ⟨rfl, rfl, rfl, n1, n1, n2, n2⟩⟩
   ·rw [show (e != 0) = true from bne_iff_ne.2 he, AU, Option.bind_some]
    dsimp only
    rw [AL, h2, Option.bind_some]
    dsimp only
    rw [show (e != 0) = true from bne_iff_ne.2 he, AU]
    exact W.ret ⟨by simp, A⟩
 ·unfold DL
  rw [hb]
  cases hbb : x.EW with
  | false =>
   rw [Bool.not_false, AU, Option.bind_some]
   dsimp only
   rw [AU]
   exact W.ret ⟨rfl, A⟩
  | true =>
   obtain ⟨o1, o2, o3, o4, o5, o6, o7⟩ := A.o hbb
   rw [Bool.not_true, AL, o3]
   by_cases hl : (o.S.length : Int) > x.Left
   ·rw [decide_eq_true hl, AU, Option.bind_some]
    dsimp only
    rw [AL, AU]
    exact W.ret ⟨rfl, A⟩
   ·rw [decide_eq_false hl, AL, Option.bind_some]
    dsimp only
    rw [AL, AL]
    refine W.ret ⟨by simp, rfl, hc, fun _ => ⟨o1, o2, rfl, ?_, o5, o6, ?_⟩⟩
    ·dsimp only; rw [GA (by omega) (by omega)]; omega
    ·dsimp only; rw [GA (by omega) (by omega)]; omega
 ·unfold DH
  rw [hb]
  cases hbb : x.EW with
  | false =>
   rw [Bool.not_false, AU, Option.bind_some]
   dsimp only
   rw [AU]
   exact W.ret ⟨rfl, A⟩
  | true =>
   obtain ⟨o1, o2, o3, o4, o5, o6, o7⟩ := A.o hbb
   rw [Bool.not_true, AL, o3]
   by_cases hl : x.Left > 0
   ·rw [decide_eq_true hl, AU, Option.bind_some]
    dsimp only
    rw [AL, AU]
    exact W.ret ⟨rfl, A⟩
   ·obtain ⟨z, hz⟩ : ∃ z : Nat, x.DE = (z : Int) := ⟨x.DE.toNat, by omega⟩
    have hrest : E9 w.DF = some ((((512 - z % 512) % 512 : Nat) : Int), 0) := by
     unfold E9 HR Fy
     rw [o2, hz, decide_eq_true (by omega), decide_eq_true (by omega), Option.bind_some]
     have e : Int.tmod (IntKind.i64.wrap ((512 : Int) - (Int.tmod (z : Int) (512 : Int)))) (512 : Int) = (((512 - z % 512) % 512 : Nat) : Int) := by
      rw [show (512 : Int) = ((512 : Nat) : Int) from rfl, NF]
      have := Nat.mod_lt z (show 0 < 512 by decide)
      generalize z % 512 = r at *
      rw [GA (by omega) (by omega), show ((512 : Nat) : Int) - (r : Int) = ((512 - r : Nat) : Int) by omega, NF]
     rw [e]
     rfl
    have hlt := Nat.mod_lt (512 - z % 512) (show 0 < 512 by decide)
    have hbl : C8 x.DE = some ((((z + 511) / 512 : Nat)) : Int) := by
     unfold C8
     rw [hz, show (512 : Int) = ((512 : Nat) : Int) from rfl, NF, YI, GA (x := ((z / 512 : Nat) : Int)) (by omega) (by omega)]
     by_cases hm : z % 512 > 0
     ·rw [decide_eq_true (by omega), AU, Option.bind_some, FY (by omega)]
      congr 2; omega
     ·rw [decide_eq_false (by omega), AL, Option.bind_some]
      congr 2; omega
    rw [decide_eq_false hl, AL, hrest, Option.bind_some]
    dsimp only
    rw [show X6 1 ((((512 - z % 512) % 512 : Nat) : Int)) = true from by unfold X6; exact decide_eq_true (by omega), Ad, Int.toNat_natCast, Option.bind_some]
    dsimp only
    rw [AL, AL, hbl, Option.bind_some, List.length_replicate, hz, GA (x := (512 : Int) * (((z + 511) / 512 : Nat) : Int)) (by omega) (by omega), GA (by omega) (by omega), show ((((512 - z % 512) % 512 : Nat) : Int) == (512 : Int) * (((z + 511) / 512 : Nat) : Int) - (z : Int)) = true from by rw [beq_iff_eq]; omega, AU, Ny _ (by omega), Option.bind_some, Option.bind_some]
    exact W.ret ⟨rfl, rfl, by show w.Ed = false; rw [hc, o1], fun h => by cases h⟩
 ·unfold C7
  rw [hb, hc]
  cases hbc : (x.EW || x.Closed) with
  | true =>
   rw [AU, Option.bind_some]
   exact W.ret ⟨rfl, A⟩
  | false =>
   rw [Bool.or_eq_false_iff] at hbc
   have he : Hx = some (List.replicate 1024 0) := by
    unfold Hx
    rw [show OW ([0] : List UInt8) (1024 : Int) = true from by unfold OW; exact decide_eq_true ⟨by omega, by omega, by decide⟩, Ad, Tf]
    rfl
   rw [AL, he, Option.bind_some, Option.bind_some]
   dsimp only
   rw [AL, List.length_replicate, show (((1024 : Nat) : Int) == 1024) = true from rfl, AU, Ny _ (by omega), Option.bind_some, Option.bind_some]
   exact W.ret ⟨rfl, hbc.1, rfl, fun h => by cases h⟩
theorem left_eq {w : Ar} {x : BD} (A : Alike w x) : ∃ v, DM w = some v ∧ (Af x.EW (some x.Left) (some (0 : Int)) : Option ((Int))) = some v := by
 unfold DM
 rw [A.b]
 cases hbb : x.EW with
 | false => exact ⟨0, rfl, rfl⟩
 | true => exact ⟨x.Left, by rw [(A.o hbb).2.2.1]; rfl, rfl⟩
theorem N3 (x0 : List Bn) {R0 : Prop} (k0 : R0) : Ct x0 = some true := by
 refine W.eq ?_
 unfold Ct GJ
 rw [Option.bind_some]
 refine W.bind (W.mono (Q := fun o => match o with | .inl _ => True | .inr r => r.2.2.2.2.2.2.2.2 = true) ?_ fun o ho => ?_)
 ·refine W.loop (fun s => ∃ k : Nat, s.2.2.2.2.2.2.2.2 = (k : Int) ∧ k ≤ 40 ∧ Alike ⟨s.2.2.2.2.1, s.2.2.2.2.2.1, s.2.2.2.2.2.2.1, s.2.2.2.2.2.2.2.1⟩ ⟨s.1, s.2.1, s.2.2.1, s.2.2.2.1⟩) (fun s => 40 - s.2.2.2.2.2.2.2.2.toNat) ⟨0, rfl, by omega, rfl, rfl, fun h => by cases h⟩ fun s hs => ?_
  obtain ⟨y1, y2, y3, y4, w1, w2, w3, w4, i⟩ := s
  obtain ⟨k, hk, hk40, A⟩ := hs
  dsimp only at hk A
  subst hk
  unfold DS
  dsimp only
  by_cases hin : k < x0.length ∧ k < 40
  ·obtain ⟨i1, i2⟩ := hin
   rw [decide_eq_true (show (k : Int) < (x0.length : Int) by omega), decide_eq_true (show (k : Int) < 40 by omega), Bool.and_true, AU, FI i1, Option.bind_some]
   generalize x0[k] = o
   obtain ⟨b, eb, hb⟩ := XL o.M
   rw [eb, Option.bind_some, Option.bind_some, TR, Option.bind_some]
   cases hl : (b || decide ((o.S.length : Int) > 2000)) with
   | true =>
    rw [AU, T8, Option.bind_some]
    exact W.ret rfl
   | false =>
    rw [Bool.or_eq_false_iff, decide_eq_false_iff_not] at hl
    rw [AL, Option.bind_some]
    refine W.bind ((Y2 A (hb hl.1) (by omega)).mono fun r hr => ?_)
    obtain ⟨x', s', ok, w'⟩ := r
    obtain ⟨hok, A'⟩ := hr
    dsimp only at hok A' ⊢
    subst hok
    obtain ⟨v, v1, v2⟩ := left_eq A'
    rw [v2, Option.bind_some, Bool.not_true, AL, v1, Option.bind_some, show (v != v) = false from by simp, Option.bind_some, AL, FY (by omega)]
    exact W.ret ⟨⟨k + 1, rfl, by omega, A'⟩, by simp only [Int.toNat_natCast]; omega⟩
  ·rw [show (decide ((k : Int) < (x0.length : Int)) && decide ((k : Int) < 40)) = false from by
    rw [Bool.and_eq_false_iff, decide_eq_false_iff_not, decide_eq_false_iff_not]; omega, AL]
   exact W.ret trivial
 ·rcases o with o | o
  ·dsimp only
   rw [T8, Option.bind_some]
   exact W.ret rfl
  ·obtain ⟨_, _, _, _, _, _, _, _, b⟩ := o
   dsimp only at ho ⊢
   exact W.ret ho
end Go.Av.L
end
/-
 A part.
-/
section
namespace Go.Av
open Go
theorem JH {P : Program} {x : String × DataW Unit} {r : List (String × DataW Unit)} {w : World} (h : laidMet P (x :: r) w) : laidMet P r w := by
 obtain ⟨ps, hv, hnd, hrows⟩ := h
 obtain ⟨n, d⟩ := x
 obtain ⟨g, t, cs, fuel, p, q, _, _, _, _, hq, rfl⟩ := hv
 exact ⟨q, hq, List.Nodup.sublist (List.sublist_append_right _ _) hnd, fun b off hm => hrows b off (List.mem_append_right _ hm)⟩
def Qk (W : World) (g : Nat) (cs : List AB) : Prop :=
 g < W.heap.size ∧ ∃ cur e fz, W.heap[g]? = some (.cells cur e fz) ∧ (cs ≠ [] → cur.size = cs.length) ∧ ∀ (j : Nat) (a : AB), cs[j]? = some a → a.one = true ∧ Av.El a = true ∧ ∃ c, cur[j]? = some c ∧ VR ⟨fun _ => none, fun _ _ => none, fun _ _ => False⟩ a c
theorem IA {P : Program} {W : World} {name : String} {k : IntKind} {zs : List Int} {g : Nat} (hg : P.globalNamed name = some g) (h : Lib.TabIs P W name k zs) : Qk W g (zs.map fun z => AB.int k z) := by
 unfold Lib.TabIs World.var? at h
 rw [hg] at h
 simp only [Option.bind_some] at h
 split at h
 ·rename_i cs e fz hc
  injection h with h
  have hlt : g < W.heap.size := by
   by_cases hlt : g < W.heap.size
   ·exact hlt
   ·rw [Array.getElem?_eq_none (by omega)] at hc; cases hc
  refine ⟨hlt, cs, e, fz, hc, fun _ => by rw [h]; simp, fun j a ha => ?_⟩
  rw [List.getElem?_map, Option.map_eq_some_iff] at ha
  obtain ⟨z, hz, rfl⟩ := ha
  refine ⟨rfl, rfl, .int k z, ?_, VR.int k z⟩
  rw [h]
  simp [hz]
 ·cases h
theorem ME {W : World} {g : Nat} {cs : List AB} {l : List (Nat × List AB)} (h : Qk W g cs) (hn : cs = [] → ∃ n : Int, W.cell? ⟨g, 0, none⟩ = some (.int .i64 n)) (hl : BX (KX l) W) : BX (KX ((g, cs) :: l)) W := ⟨fun g' cs' e => by
 unfold KX at e
 rw [HQ] at e
 by_cases hx : g = g'
 ·rw [if_pos hx] at e
  have := Option.some.inj e
  subst this; subst hx
  exact h
 ·rw [if_neg hx] at e
  exact hl.1 g' cs' e, fun g' e => by
 unfold KX at e
 rw [HQ] at e
 by_cases hx : g = g'
 ·rw [if_pos hx] at e
  have := Option.some.inj e
  subst hx
  exact hn this
 ·rw [if_neg hx] at e
  exact hl.2 g' e⟩
theorem KU {W : World} {g : Nat} {a : AB} {cs : List AB} {l : List (Nat × List AB)} (h : Qk W g (a :: cs)) (hl : BX (KX l) W) : BX (KX ((g, a :: cs) :: l)) W := ME h (fun h => by cases h) hl
theorem Sp {W : World} {g : Nat} {l : List (Nat × List AB)} (h : ∃ n : Int, W.cell? ⟨g, 0, none⟩ = some (.int .i64 n)) (hl : BX (KX l) W) : BX (KX ((g, []) :: l)) W := by
 refine ME ?_ (fun _ => h) hl
 obtain ⟨n, hn⟩ := h
 unfold World.cell? at hn
 split at hn
 ·rename_i cs e fz hc
  have hc' : W.heap[g]? = some (.cells cs e fz) := hc
  refine ⟨?_, cs, e, fz, hc', fun h => absurd rfl h, fun j a ha => by simp at ha⟩
  by_cases hlt : g < W.heap.size
  ·exact hlt
  ·rw [Array.getElem?_eq_none (by omega)] at hc'; cases hc'
 ·cases hn
theorem TF (W : World) : BX (KX []) W := ⟨fun g cs e => (by cases e), fun g e => (by cases e)⟩
end Go.Av
end
