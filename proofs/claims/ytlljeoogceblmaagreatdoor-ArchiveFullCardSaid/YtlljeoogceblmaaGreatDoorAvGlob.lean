/-
  Several texts in one.
-/
import Derived.Test.YtlljeoogceblmaaGreatDoorFuD
import Derived.Test.YtlljeoogceblmaaGreatDoorAvMap
import Derived.Test.YtlljeoogceblmaaGreatDoorAvMore
import Derived.Lib.LaidTab
/-
 A part.
-/
section
namespace Go.Av.L
open Go.Av Go.Lib
set_option maxRecDepth 100000
set_option linter.unusedVariables false
set_option linter.unusedSimpArgs false
def Su : AG := ⟨[], [], 0, 0, 0, 0, [], [], 0, 0, ⟨0, 0⟩, [], []⟩
def Yi (p : Int) : Int := IntKind.i64.wrap ((4094 : Int) + (Int.tmod (IntKind.i64.wrap p) (4 : Int)))
theorem XH {p : Int} (h : 0 ≤ p ∧ p ≤ 255) : ∃ k : Nat, Yi p = (k : Int) ∧ 4094 ≤ k ∧ k ≤ 4097 := by
 unfold Yi
 rw [RC (x := p) (by omega) (by omega)]
 have h1 : Int.tmod p 4 = p % 4 := Int.tmod_eq_emod_of_nonneg h.1
 rw [h1, RC (by omega) (by omega)]
 exact ⟨(4094 + p % 4).toNat, by omega, by omega, by omega⟩
theorem fill {p : Int} {k : Nat} (hk : Yi p = (k : Int)) (h2 : k ≤ 4097) : ∀ (n i : Nat), i + n = k → loop (Bn p) (List.replicate i EK ++ List.replicate n Su, (i : Int)) = some (List.replicate k EK)
 | 0, i, h => by
  obtain rfl : i = k := by omega
  refine De ?_
  unfold Bn
  simp only
  rw [show (IntKind.i64.wrap ((4094 : Int) + (Int.tmod (IntKind.i64.wrap p) (4 : Int)))) = (i : Int) from hk]
  rw [show decide ((i : Int) < ((List.replicate ((i : Int)).toNat (⟨[], [], 0, 0, 0, 0, [], [], 0, 0, ⟨0, 0⟩, [], []⟩ : AG)).length : Int)) = false from decide_eq_false (by rw [List.length_replicate]; omega), B8]
  simp
 | n + 1, i, h => by
  have e : Bn p (List.replicate i EK ++ List.replicate (n + 1) Su, (i : Int)) = some (.inl (List.replicate (i + 1) EK ++ List.replicate n Su, ((i + 1 : Nat) : Int))) := by
   unfold Bn
   simp only
   rw [show (IntKind.i64.wrap ((4094 : Int) + (Int.tmod (IntKind.i64.wrap p) (4 : Int)))) = (k : Int) from hk]
   rw [show decide ((i : Int) < ((List.replicate ((k : Int)).toNat (⟨[], [], 0, 0, 0, 0, [], [], 0, 0, ⟨0, 0⟩, [], []⟩ : AG)).length : Int)) = true from decide_eq_true (by rw [List.length_replicate]; omega), Bw]
   rw [G5 (x := Su) (by rw [List.getElem?_append_right (by simp), List.length_replicate, Nat.sub_self]; rfl), UB (by omega)]
   simp only [Option.bind_some, Int.toNat_natCast]
   have e2 : (List.replicate i EK ++ List.replicate (n + 1) Su).set i EK = List.replicate (i + 1) EK ++ List.replicate n Su := by
    rw [List.set_append_right _ _ (by simp), List.length_replicate, Nat.sub_self, List.replicate_succ, List.set_cons_zero, List.replicate_succ', List.append_assoc]
    rfl
   exact congrArg (fun l => some (Sum.inl (l, ((i + 1 : Nat) : Int)))) e2
  rw [B9 e]
  exact fill hk h2 n (i + 1) (by omega)
theorem ZU : IX (aB ++ (aZ ++ aZ)) none (some (512 : Int)) = some aB := by
 rw [show (512 : Int) = ((512 : Nat) : Int) from rfl, SS (by simp only [List.length_append, Fv]; omega), List.take_left' Fv]
theorem ZF : IX (aB ++ (aZ ++ aZ)) (some (512 : Int)) none = some (aZ ++ aZ) := by
 rw [show (512 : Int) = ((512 : Nat) : Int) from rfl, SY (by simp only [List.length_append, Fv]; omega), List.drop_left' Fv]
theorem YM {p : Int} {k : Nat} (hk : Yi p = (k : Int)) (h2 : k ≤ 4097) : ∀ (n i : Nat), i + n = k → loop (Bl p (aB ++ (aZ ++ aZ))) (Jl i, (i : Int)) = some (Jl k)
 | 0, i, h => by
  obtain rfl : i = k := by omega
  refine De ?_
  unfold Bl
  simp only
  rw [show (IntKind.i64.wrap ((4094 : Int) + (Int.tmod (IntKind.i64.wrap p) (4 : Int)))) = (i : Int) from hk, show decide ((i : Int) < (i : Int)) = false from decide_eq_false (by omega), B8]
 | n + 1, i, h => by
  have e : Bl p (aB ++ (aZ ++ aZ)) (Jl i, (i : Int)) = some (.inl (Jl (i + 1), ((i + 1 : Nat) : Int))) := by
   unfold Bl
   simp only
   rw [show (IntKind.i64.wrap ((4094 : Int) + (Int.tmod (IntKind.i64.wrap p) (4 : Int)))) = (k : Int) from hk, show decide ((i : Int) < (k : Int)) = true from decide_eq_true (by omega), Bw, ZU, UB (by omega)]
   simp only [Option.bind_some]
   rw [Jt (by rw [EL, Fv]; omega) (by rw [EL, Fv]; omega), Qz]
   rfl
  rw [B9 e]
  exact YM hk h2 n (i + 1) (by omega)
theorem Ny (p : Int) (kp : Yl .u8 p) : C4 p = some true := by
 have hp : 0 ≤ p ∧ p ≤ 255 := by
  have := kp
  unfold Yl at this
  exact this
 obtain ⟨k, hk, h1, h2⟩ := XH hp
 unfold C4
 have hk' : (IntKind.i64.wrap ((4094 : Int) + (Int.tmod (IntKind.i64.wrap p) (4 : Int)))) = (k : Int) := hk
 rw [hk']
 rw [show TH 168 (k : Int) = true from by unfold TH; exact decide_eq_true (by omega)]
 have hfill := fill hk h2 k 0 (by omega)
 refine (Hr (show loop (Bn p) _ = _ from hfill)).trans ?_
 have C : ∃ s e, CC (List.replicate k EK) = some (s, e) ∧ ((k ≤ 4096 ∧ s = Jl k ++ (aZ ++ aZ) ∧ e = 0) ∨ (k = 4097 ∧ s = [] ∧ e = 8)) := by
  by_cases h : k ≤ 4096
  ·exact ⟨_, _, ZI h, .inl ⟨h, rfl, rfl⟩⟩
  ·exact ⟨_, _, Yt (by omega), .inr ⟨by omega, rfl, rfl⟩⟩
 obtain ⟨s5, e6, C, hcase⟩ := C
 refine (Hr C).trans ?_
 have hone : Kd (List.replicate k EK) none (some (1 : Int)) = some [EK] := by
  rw [show (1 : Int) = ((1 : Nat) : Int) from rfl, SJ (by rw [List.length_replicate]; omega), List.take_replicate, Nat.min_eq_left (by omega)]
  rfl
 refine (Hr hone).trans ?_
 refine (Hr ZL).trans ?_
 simp only
 rw [show (((0 : Int) != 0) || (((aB ++ (aZ ++ aZ)).length : Int) != 1536)) = false from by
  rw [List.length_append, List.length_append, Fv, FT]; rfl, B8]
 rw [show TH 1 (IntKind.i64.wrap ((512 : Int) * (IntKind.i64.wrap ((k : Int) + 2)))) = true from by
  rw [RC (x := (k : Int) + 2) (by omega) (by omega), RC (by omega) (by omega)]
  unfold TH
  exact decide_eq_true (by omega)]
 refine (Hr (show loop (Bl p (aB ++ (aZ ++ aZ))) ([], 0) = _ from YM hk h2 k 0 (by omega))).trans ?_
 refine (Hr ZF).trans ?_
 rw [Jt (by simp only [List.length_append, EL, FT]; omega) (by simp only [List.length_append, EL, FT]; omega)]
 show (Ce (Jl k ++ (aZ ++ aZ)) ⟨1, 1⟩).bind _ = _
 rcases hcase with ⟨h, rfl, rfl⟩ | ⟨h, rfl, rfl⟩
 ·rw [VV (by omega) h]
  simp only [Option.bind_some]
  rw [show decide ((k : Int) > 4096) = false from decide_eq_false (by omega), B8]
  rw [show (((((0 : Int) == 0) && ((Jl k ++ (aZ ++ aZ)) == (Jl k ++ (aZ ++ aZ)))) && ((0 : Int) == 0)) && (((List.replicate k EK).length : Int) == (k : Int))) = true from by
   rw [List.length_replicate]; simp, Bw, SZ]
  rfl
 ·rw [Vl h]
  simp only [Option.bind_some]
  rw [show decide ((k : Int) > 4096) = true from decide_eq_true (by omega), Bw]
  rw [SZ]
  rfl
end Go.Av.L
end
/-
 A part.
-/
section
namespace Go.Av
open Go
theorem Im {P : Program} {x : String × DataW Unit} {r : List (String × DataW Unit)} {w : World} (h : laidMet P (x :: r) w) : laidMet P r w := by
 obtain ⟨ps, hv, hnd, hrows⟩ := h
 obtain ⟨n, d⟩ := x
 obtain ⟨g, t, cs, fuel, p, q, _, _, _, _, hq, rfl⟩ := hv
 exact ⟨q, hq, List.Nodup.sublist (List.sublist_append_right _ _) hnd, fun b off hm => hrows b off (List.mem_append_right _ hm)⟩
def PK (W : World) (g : Nat) (cs : List AB) : Prop :=
 g < W.heap.size ∧ ∃ cur e fz, W.heap[g]? = some (.cells cur e fz) ∧ (cs ≠ [] → cur.size = cs.length) ∧ ∀ (j : Nat) (a : AB), cs[j]? = some a → a.one = true ∧ Av.Eh a = true ∧ ∃ c, cur[j]? = some c ∧ VR ⟨fun _ => none, fun _ _ => none, fun _ _ => False⟩ a c
theorem Hd {P : Program} {W : World} {name : String} {k : IntKind} {zs : List Int} {g : Nat} (hg : P.globalNamed name = some g) (h : Lib.TabIs P W name k zs) : PK W g (zs.map fun z => AB.int k z) := by
 unfold Lib.TabIs World.var? at h
 rw [hg] at h
 simp only [Option.bind_some] at h
 split at h
 ·rename_i cs e fz hc
  injection h with h
  have B : g < W.heap.size := by
   by_cases B : g < W.heap.size
   ·exact B
   ·rw [Array.getElem?_eq_none (by omega)] at hc; cases hc
  refine ⟨B, cs, e, fz, hc, fun _ => by rw [h]; simp, fun j a H => ?_⟩
  rw [List.getElem?_map, Option.map_eq_some_iff] at H
  obtain ⟨z, hz, rfl⟩ := H
  refine ⟨rfl, rfl, .int k z, ?_, VR.int k z⟩
  rw [h]
  simp [hz]
 ·cases h
theorem Le {W : World} {g : Nat} {cs : List AB} {l : List (Nat × List AB)} (h : PK W g cs) (G : cs = [] → ∃ n : Int, W.cell? ⟨g, 0, none⟩ = some (.int .i64 n)) (F : Bt (Jq l) W) : Bt (Jq ((g, cs) :: l)) W := ⟨fun g' cs' e => by
 unfold Jq at e
 rw [G6] at e
 by_cases D : g = g'
 ·rw [if_pos D] at e
  have := Option.some.inj e
  subst this; subst D
  exact h
 ·rw [if_neg D] at e
  exact F.1 g' cs' e, fun g' e => by
 unfold Jq at e
 rw [G6] at e
 by_cases D : g = g'
 ·rw [if_pos D] at e
  have := Option.some.inj e
  subst D
  exact G this
 ·rw [if_neg D] at e
  exact F.2 g' e⟩
theorem KK {W : World} {g : Nat} {a : AB} {cs : List AB} {l : List (Nat × List AB)} (h : PK W g (a :: cs)) (F : Bt (Jq l) W) : Bt (Jq ((g, a :: cs) :: l)) W := Le h (fun h => by cases h) F
theorem Rz {W : World} {g : Nat} {l : List (Nat × List AB)} (h : ∃ n : Int, W.cell? ⟨g, 0, none⟩ = some (.int .i64 n)) (F : Bt (Jq l) W) : Bt (Jq ((g, []) :: l)) W := by
 refine Le ?_ (fun _ => h) F
 obtain ⟨n, G⟩ := h
 unfold World.cell? at G
 split at G
 ·rename_i cs e fz hc
  have E : W.heap[g]? = some (.cells cs e fz) := hc
  refine ⟨?_, cs, e, fz, E, fun h => absurd rfl h, fun j a H => by simp at H⟩
  by_cases B : g < W.heap.size
  ·exact B
  ·rw [Array.getElem?_eq_none (by omega)] at E; cases E
 ·cases G
theorem Rk (W : World) : Bt (Jq []) W := ⟨fun g cs e => (by cases e), fun g e => (by cases e)⟩
end Go.Av
end
