/-
  Several texts in one.
-/
import Derived.Test.YthnnciphldbmeaaGreatDoorFiB
import Derived.Test.YthnnciphldbmeaaGreatDoorFiL
import Derived.Test.YthnnciphldbmeaaGreatDoorFsA
import Derived.Test.YthnnciphldbmeaaGreatDoorAvNum
import Derived.Test.YthnnciphldbmeaaGreatDoorK0
import Derived.Test.YthnnciphldbmeaaGreatDoorK1
import Derived.Test.YthnnciphldbmeaaGreatDoorK2
import Derived.Test.YthnnciphldbmeaaGreatDoorK3
import Derived.Test.YthnnciphldbmeaaGreatDoorK4
import Derived.Test.YthnnciphldbmeaaGreatDoorK5
import Derived.Test.YthnnciphldbmeaaGreatDoorK6
import Derived.Test.YthnnciphldbmeaaGreatDoorK7
import Derived.Test.YthnnciphldbmeaaGreatDoorK8
import Derived.Test.YthnnciphldbmeaaGreatDoorK9
import Derived.Test.YthnnciphldbmeaaGreatDoorAvUp
import Derived.Test.YthnnciphldbmeaaGreatDoorAvIn
import Derived.Test.YthnnciphldbmeaaGreatDoorAvMore
import Derived.Lib.LaidTab
/-
  An index of the directories that members tag.
-/
section
namespace Go.Av.L
open Go.Av Go.Lib
set_option linter.unusedVariables false
set_option linter.unusedSimpArgs false
theorem put_eq {m : Bw} {d : GO} (hb : d.length < 800000000) : Dl m d = some (HB m.DT (pj (Hi d)) true) := by
 have hl := PD d
 have hj := Qw d
 unfold Dl
 rw [Ns (by omega), Option.bind_some, TM (fun x hx => TP hx) (by omega) (by omega), Option.bind_some]
end Go.Av.L
end
/-
  With the default config right members stay, in their order; their names are told.
-/
section
namespace Go.Av.L
open Go.Av Go.Lib
set_option linter.unusedVariables false
set_option linter.unusedSimpArgs false
theorem Na (b c : Bool) : Ae b (some c) (some false) = some (b && c) := by cases b <;> rfl
theorem Tv (a b c d : GO) : SZ cfg.P 90 [.str a, .str b] [.str c, .str d] = some (a == c && b == d) := by
 have e : SZ cfg.P 90 [.str a, .str b] [.str c, .str d] = Ae (a == c) (Ae (b == d) (some true) (some false)) (some false) := by kernel_rfl
 rw [e, Na, Na, Bool.and_true]
theorem S9 (a b c d : Int) : SZ cfg.P 23 [.int .i64 a, .int .i64 b] [.int .i64 c, .int .i64 d] = some (a == c && b == d) := by
 have e : SZ cfg.P 23 [.int .i64 a, .int .i64 b] [.int .i64 c, .int .i64 d] = Ae (a == c) (Ae (b == d) (some true) (some false)) (some false) := by kernel_rfl
 rw [e, Na, Na, Bool.and_true]
theorem Tz (x y : Am) : ∃ r, SZ cfg.P 90 [.str x.Key, .str x.Value] [.str y.Key, .str y.Value] = some r ∧ (r = true ↔ x = y) :=
 ⟨_, Tv _ _ _ _, by cases x; cases y; simp⟩
theorem WR (a b : List Am) (hb : a.length < 4611686018427387904) : ∃ r, Dx a b = some r ∧ (r = true ↔ a = b) := by
 unfold Dx
 rw [US]
 by_cases h : (a.length : Int) = (b.length : Int)
 ·rw [if_pos h]
  exact UT (same := fun x y => SZ cfg.P 90 [.str x.Key, .str x.Value] [.str y.Key, .str y.Value]) (fun x _ => Tz x) (by omega) hb (fun x1 => rfl)
 ·rw [if_neg h]
  exact ⟨false, rfl, by simp; intro e; subst e; exact h rfl⟩
theorem Vo (x : Mb) (hb : x.Extra.length < 4611686018427387904) : DM x x = some true := by
 unfold DM
 obtain ⟨r, h1, h2⟩ := WR x.Extra x.Extra hb
 have hr : r = true := h2.2 rfl
 subst hr
 rw [S9, h1]
 simp
end Go.Av.L
end
/-
  The chapter's example holds.
-/
section
namespace Go.Av.L
open Go.Av Go.Lib
set_option maxRecDepth 100000
theorem Pn : CI = some true := by kernel_rfl
end Go.Av.L
end
/-
  ChooseAll.
-/
section
namespace Go.Av.L
open Go.Av Go.Lib
set_option linter.unusedVariables false
set_option linter.unusedSimpArgs false
theorem U9 {l : List GO} (hl : l.length < 1000000) (h : ∀ d ∈ l, d.length < 800000000) : ∃ x, C8 l = some x := by
 unfold C8 Gw
 rw [Option.bind_some]
 have := Wy (step := DD l) (l := l) (enc := fun (m : List (GO × Bool)) i => (m, (i : Int))) (f := fun m _ d => HB m (pj (Hi d)) true) (P := fun _ _ => True) (fin := fun m => m)
  (fun s _ => by rw [DD, CP, if_neg (by omega)])
  (fun s i hi _ => by
   have hx := h _ (List.getElem_mem hi)
   refine ⟨?_, trivial⟩
   rw [DD, CP, if_pos (by omega), Gv hi, Option.bind_some, put_eq hx, Rw (by omega)]
   rfl) [] trivial
 rw [show (0 : Int) = ((0 : Nat) : Int) from rfl, this.1, Option.bind_some]
 exact ⟨_, rfl⟩
theorem RR {m : Mb} (h : UX m) : Small m := by
 obtain ⟨h1, h2, h3, h4, h5, h6⟩ := h
 exact ⟨by omega, by omega, by omega, by omega, h5, fun p hp => by have := h6 p hp; omega⟩
theorem Pu (x0 : Mb) {Q0 : Prop} (k0 : Q0) (x1 : List GO) (k1 : UM JU x1) : Db x0 x1 = some true := by
 have h : ∀ d ∈ x1, d.length < 800000000 := fun d hd => by have := k1.2 d hd; unfold JU at this; omega
 unfold Db
 rw [RB, Option.bind_some]
 cases hc : ((Sf x0 || (decide ((x1.length : Int) > 4))) || (decide ((x0.Name.length : Int) > 4096))) || (decide ((x0.Bf.length : Int) > 4096)) with
 | true => rw [HJ, Pn]; rfl
 | false =>
  simp only [Bool.or_eq_false_iff, decide_eq_false_iff_not] at hc
  obtain ⟨⟨⟨h1, h2⟩, h3⟩, h4⟩ := hc
  have hs := RR (Q4 h1)
  obtain ⟨v, hv, hne⟩ := Uq hs
  obtain ⟨x, hx⟩ := U9 (l := x1) (by omega) h
  have hN := XU
  unfold VC at hN
  rw [CK, UJ, Option.bind_some, hN, Option.bind_some]
  dsimp only
  rw [bne_self_eq_false, Bool.or_false, CK, hv, Option.bind_some]
  cases hv0 : (v != 0) with
  | true => rw [HJ, Pn]; rfl
  | false =>
   have e0 : v = 0 := by simpa using hv0
   obtain ⟨Y, hY⟩ := XT hs (hne e0) (by omega) (by omega) Oe x
   have hx' := hs.extra
   rw [CK, hx, Option.bind_some, hY]
   simp only [Option.bind_some, beq_self_eq_true, Bool.and_self, HJ]
   rw [Vo x0 (by omega)]
   simp only [Option.bind_some, HJ]
   rw [Pn]
   rfl
end Go.Av.L
end
/-
  From a row's list of package variables to what the run reads of them.
-/
section
namespace Go.Av
open Go
theorem HL {P : Program} {x : String × DataW Unit} {r : List (String × DataW Unit)} {w : World} (h : laidMet P (x :: r) w) : laidMet P r w := by
 obtain ⟨ps, hv, hnd, hrows⟩ := h
 obtain ⟨n, d⟩ := x
 obtain ⟨g, t, cs, fuel, p, q, _, _, _, _, hq, rfl⟩ := hv
 exact ⟨q, hq, List.Nodup.sublist (List.sublist_append_right _ _) hnd, fun b off hm => hrows b off (List.mem_append_right _ hm)⟩
def Pl (W : World) (g : Nat) (cs : List AA) : Prop :=
 g < W.heap.size ∧ ∃ cur e fz, W.heap[g]? = some (.cells cur e fz) ∧ ∀ (j : Nat) (a : AA), cs[j]? = some a → a.one = true ∧ Av.Fq a = true ∧ ∃ c, cur[j]? = some c ∧ VR ⟨fun _ => none, fun _ _ => none, fun _ => False⟩ a c
theorem Io {P : Program} {W : World} {name : String} {k : IntKind} {zs : List Int} {g : Nat} (hg : P.globalNamed name = some g) (h : Lib.TabIs P W name k zs) : Pl W g (zs.map fun z => AA.int k z) := by
 unfold Lib.TabIs World.var? at h
 rw [hg] at h
 simp only [Option.bind_some] at h
 split at h
 ·rename_i cs e fz hc
  injection h with h
  have hlt : g < W.heap.size := by
   by_cases hlt : g < W.heap.size
   ·exact hlt
   ·rw [Array.getElem?_eq_none (by omega)] at hc; cases hc
  refine ⟨hlt, cs, e, fz, hc, fun j a ha => ?_⟩
  rw [List.getElem?_map, Option.map_eq_some_iff] at ha
  obtain ⟨z, hz, rfl⟩ := ha
  refine ⟨rfl, rfl, .int k z, ?_, VR.int k z⟩
  rw [h]
  simp [hz]
 ·cases h
theorem L8 {W : World} {g : Nat} {cs : List AA} {l : List (Nat × List AA)} (h : Pl W g cs) (hn : cs = [] → ∃ n : Int, W.cell? ⟨g, 0, none⟩ = some (.int .i64 n)) (hl : CU (KE l) W) : CU (KE ((g, cs) :: l)) W := ⟨fun g' cs' e => by
 unfold KE at e
 rw [IM] at e
 by_cases hx : g = g'
 ·rw [if_pos hx] at e
  have := Option.some.inj e
  subst this; subst hx
  exact h
 ·rw [if_neg hx] at e
  exact hl.1 g' cs' e, fun g' e => by
 unfold KE at e
 rw [IM] at e
 by_cases hx : g = g'
 ·rw [if_pos hx] at e
  have := Option.some.inj e
  subst hx
  exact hn this
 ·rw [if_neg hx] at e
  exact hl.2 g' e⟩
theorem Ki {W : World} {g : Nat} {a : AA} {cs : List AA} {l : List (Nat × List AA)} (h : Pl W g (a :: cs)) (hl : CU (KE l) W) : CU (KE ((g, a :: cs) :: l)) W := L8 h (fun h => by cases h) hl
theorem Rf {W : World} {g : Nat} {l : List (Nat × List AA)} (h : ∃ n : Int, W.cell? ⟨g, 0, none⟩ = some (.int .i64 n)) (hl : CU (KE l) W) : CU (KE ((g, []) :: l)) W := by
 refine L8 ?_ (fun _ => h) hl
 obtain ⟨n, hn⟩ := h
 unfold World.cell? at hn
 split at hn
 ·rename_i cs e fz hc
  have hc' : W.heap[g]? = some (.cells cs e fz) := hc
  refine ⟨?_, cs, e, fz, hc', fun j a ha => by simp at ha⟩
  by_cases hlt : g < W.heap.size
  ·exact hlt
  ·rw [Array.getElem?_eq_none (by omega)] at hc'; cases hc'
 ·cases hn
theorem R7 (W : World) : CU (KE []) W := ⟨fun g cs e => (by cases e), fun g e => (by cases e)⟩
end Go.Av
end
