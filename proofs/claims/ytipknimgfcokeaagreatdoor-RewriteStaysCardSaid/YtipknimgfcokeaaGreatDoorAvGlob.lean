/-
  Several texts in one.
-/
import Derived.Test.YtipknimgfcokeaaGreatDoorRwS
import Derived.Test.YtipknimgfcokeaaGreatDoorAvMap
import Derived.Test.YtipknimgfcokeaaGreatDoorAvMore
import Derived.Lib.LaidTab
/-
  RewriteStays: the law.
-/
section
namespace Go.Av.L
open Go.Av Go.Lib
set_option linter.unusedVariables false
set_option linter.unusedSimpArgs false
set_option maxRecDepth 100000 in
theorem Xy : EX [38] = some ([⟨1, 0, []⟩], 0, 0) := by kernel_rfl
set_option maxRecDepth 100000 in
theorem YC : EX [91, 120, 93] = some ([⟨0, 0, [91, 120, 93]⟩], 0, 0) := by kernel_rfl
theorem WC : Cq [⟨0, 0, [91, 120, 93]⟩] = some 0 := by kernel_rfl
theorem U2 {x : Bc} {t : AI} {x2 x3 : Int} (hP : D2 x.Re x.Es = some (t, x2, x3)) (h3 : x3 ≠ 0) : CP x 4096 = some (none, 1, x3) := by
 unfold CP
 rw [hP, Option.bind_some]
 simp only []
 rw [HF, if_neg h3]
theorem TE {x : Bc} (hF : x.Fold = false) (hN : 1 ≤ x.Number) {parts : List AY} (hT : EX x.CU = some (parts, 0, 0)) (hH : Cq parts = some 0) {t : AI} {x2 : Int} (hP : D2 x.Re x.Es = some (t, x2, 0)) {gn : Int} (hg : Ct t = some gn) (h0 : 0 ≤ gn) {d : Option Bu} {e : Int} (hC : DI t 4096 = some (d, e)) :
  CP x 4096 = (match (generalizing := false) d with | some x9 => Af (e != (0 : Int)) (some (none, (1 : Int), e)) (some (some (⟨x, t, x9, parts⟩ : CW), (0 : Int), (0 : Int))) | none => Af (e != (0 : Int)) (some (none, (1 : Int), e)) (none)) := by
 unfold CP
 rw [hP, Option.bind_some]
 simp only []
 rw [HF, if_pos rfl, hT, Option.bind_some]
 simp only []
 rw [HF, if_pos rfl, hH, Option.bind_some, hg, Option.bind_some, decide_eq_false (show ¬ (0 : Int) > gn by omega), C3, decide_eq_false (show ¬ x.Number < 1 by omega), C3, hF, C3, Option.bind_some, hC, Option.bind_some]
 cases d <;> rfl
theorem QH {x : Bc} (hF : x.Fold = false) (hN : 1 ≤ x.Number) {parts : List AY} (hT : EX x.CU = some (parts, 0, 0)) (hH : Cq parts = some 0) {t : AI} {x2 : Int} (hP : D2 x.Re x.Es = some (t, x2, 0)) {gn : Int} (hg : Ct t = some gn) (h0 : 0 ≤ gn) {d : Bu} (hC : DI t 4096 = some (some d, 0)) :
  CP x 4096 = some (some ⟨x, t, d, parts⟩, 0, 0) := TE hF hN hT hH hP hg h0 hC
theorem Ts {x : Bc} (hF : x.Fold = false) (hN : 1 ≤ x.Number) {parts : List AY} (hT : EX x.CU = some (parts, 0, 0)) (hH : Cq parts = some 0) {t : AI} {x2 : Int} (hP : D2 x.Re x.Es = some (t, x2, 0)) {gn : Int} (hg : Ct t = some gn) (h0 : 0 ≤ gn) (hC : DI t 4096 = some (none, 7)) :
  CP x 4096 = some (none, 1, 7) := TE hF hN hT hH hP hg h0 hC
theorem Xj (p : Int) : 1 ≤ mx p 1 := by unfold mx; split <;> omega
theorem M6 (p0 : List UInt8) {Q0 : Prop} (k0 : Q0) (p1 : Bool) {Q1 : Prop} (k1 : Q1) (p2 : Int) {Q2 : Prop} (k2 : Q2) (p3 : Bool) {Q3 : Prop} (k3 : Q3) (p4 : List UInt8) {Q4 : Prop} (k4 : Q4) : DV p0 p1 p2 p3 p4 = some true := by
 refine W.eq ?_
 unfold DV
 refine W.ite (fun _ => aw rfl) fun hs => ?_
 simp only [Bool.or_eq_false_iff, decide_eq_false_iff_not] at hs
 have hn : p4.length ≤ 60 := by have := hs.2; omega
 obtain ⟨⟨t, x2, x3⟩, hP, hR⟩ := Tg p0 p1
 by_cases h3 : x3 = 0
 ·subst h3
  have hr := hR rfl
  obtain ⟨gn, hg, h0⟩ := Sn hr
  obtain ⟨⟨w, e⟩, hB, hBq⟩ := Px t hr
  obtain ⟨⟨d, f⟩, hC, hCq⟩ := Qo t hr (n := 4096) (by omega) (by omega) hB
  have none7 : d = none → W ((CP (⟨p0, ([38] : List UInt8), p3, false, p1, mx p2 (1 : Int), false, false, false⟩ : Bc) (4096 : Int))) fun r => r = (none, 1, 7) := by
   rintro rfl
   have hf : f = 7 := by
    cases w with
    | none =>
     have : ((none, f) : Option Bu × Int) = (none, 7) := hCq
     cases this
     rfl
    | some a =>
     rcases hCq with ⟨h, _⟩ | ⟨d', _, _, h, _⟩
     ·cases h; rfl
     ·cases h
   subst hf
   exact W.of (Ts rfl (Xj p2) Xy Pr hP hg h0 hC) rfl
  cases d with
  | none =>
   rw [(none7 rfl).eq, Option.bind_some]
   simp only []
   rw [show ((7 : Int) != 0) = true from rfl, FX]
   exact aw rfl
  | some d =>
   have hD : f = 0 ∧ ∃ a todo bs, Vc a todo bs d := by
    cases w with
    | none =>
     have : ((some d, f) : Option Bu × Int) = (none, 7) := hCq
     cases this
    | some a =>
     rcases hCq with ⟨h, _⟩ | ⟨d', todo, bs, h, _, D⟩
     ·cases h
     ·cases h; exact ⟨rfl, a, todo, bs, D⟩
   obtain ⟨rfl, a, todo, bs, D⟩ := hD
   rw [QH (x := ⟨p0, ([38] : List UInt8), p3, false, p1, mx p2 (1 : Int), false, false, false⟩) rfl (Xj p2) Xy Pr hP hg h0 hC, Option.bind_some]
   simp only []
   rw [show ((0 : Int) != 0) = false from rfl, C3, QH (x := ⟨p0, ([91, 120, 93] : List UInt8), p3, false, p1, mx p2 (1 : Int), false, false, false⟩) rfl (Xj p2) YC WC hP hg h0 hC, Option.bind_some]
   simp only []
   rw [T9 (r := ⟨⟨p0, ([38] : List UInt8), p3, false, p1, mx p2 (1 : Int), false, false, false⟩, t, d, [⟨1, 0, []⟩]⟩) D rfl p4 (by omega)]
   rw [show ((((0 : Int) != 0) || false) || false) = false from rfl, C3, Option.bind_some, Option.bind_some, beq_self_eq_true, Bool.not_true, C3, hP, Option.bind_some]
   simp only []
   rw [show DI t 4096 = some (some d, 0) from hC, Option.bind_some]
   simp only []
   rw [show (((0 : Int) == 0) || false) = true from rfl, FX]
   have hH : W (EW d p4) fun _ => True := by
    unfold EW
    refine W.bind ((Pa D p4 (by omega) 0).mono ?_)
    rintro ⟨y1, y2, y3⟩ _
    exact W.ret trivial
   obtain ⟨b, hH, _⟩ := hH
   rw [hH, Option.bind_some]
   cases b with
   | true =>
    rw [FX, Option.bind_some, Option.bind_some, FX]
    exact W.bind (aw (W.ret rfl))
   | false =>
    rw [C3, RG (r := ⟨⟨p0, ([91, 120, 93] : List UInt8), p3, false, p1, mx p2 (1 : Int), false, false, false⟩, t, d, [⟨0, 0, [91, 120, 93]⟩]⟩) D p4 (by omega) hH, Option.bind_some, beq_self_eq_true, Option.bind_some, Option.bind_some, FX]
    exact W.bind (aw (W.ret rfl))
 ·rw [U2 (x := ⟨p0, ([38] : List UInt8), p3, false, p1, mx p2 (1 : Int), false, false, false⟩) hP h3, Option.bind_some]
  simp only []
  rw [HF, if_neg h3]
  exact aw rfl
end Go.Av.L
end
/-
  From a row's list of package variables to what the run reads of them.
-/
section
namespace Go.Av
open Go
theorem JS {P : Program} {x : String × DataW Unit} {r : List (String × DataW Unit)} {w : World} (h : laidMet P (x :: r) w) : laidMet P r w := by
 obtain ⟨ps, hv, hnd, hrows⟩ := h
 obtain ⟨n, d⟩ := x
 obtain ⟨g, t, cs, fuel, p, q, _, _, _, _, hq, rfl⟩ := hv
 exact ⟨q, hq, List.Nodup.sublist (List.sublist_append_right _ _) hnd, fun b off hm => hrows b off (List.mem_append_right _ hm)⟩
def PZ (W : World) (g : Nat) (cs : List AB) : Prop :=
 g < W.heap.size ∧ ∃ cur e fz, W.heap[g]? = some (.cells cur e fz) ∧ ∀ (j : Nat) (a : AB), cs[j]? = some a → a.one = true ∧ Av.IA a = true ∧ ∃ c, cur[j]? = some c ∧ VR ⟨fun _ => none, fun _ _ => none, fun _ => False⟩ a c
theorem IU {P : Program} {W : World} {name : String} {k : IntKind} {zs : List Int} {g : Nat} (hg : P.globalNamed name = some g) (h : Lib.TabIs P W name k zs) : PZ W g (zs.map fun z => AB.int k z) := by
 unfold Lib.TabIs World.var? at h
 rw [hg] at h
 simp only [Option.bind_some] at h
 split at h
 ·rename_i cs e fz hc
  injection h with h
  have hlt : g < W.heap.size := by
   by_cases hlt : g < W.heap.size
   ·exact hlt
   ·rw [Array.getElem?_eq_none (by omega)] at hc; cases hc
  refine ⟨hlt, cs, e, fz, hc, fun j a ha => ?_⟩
  rw [List.getElem?_map, Option.map_eq_some_iff] at ha
  obtain ⟨z, hz, rfl⟩ := ha
  refine ⟨rfl, rfl, .int k z, ?_, VR.int k z⟩
  rw [h]
  simp [hz]
 ·cases h
theorem Ls {W : World} {g : Nat} {cs : List AB} {l : List (Nat × List AB)} (h : PZ W g cs) (hn : cs = [] → ∃ n : Int, W.cell? ⟨g, 0, none⟩ = some (.int .i64 n)) (hl : Ch (KN l) W) : Ch (KN ((g, cs) :: l)) W := ⟨fun g' cs' e => by
 unfold KN at e
 rw [Hr] at e
 by_cases hx : g = g'
 ·rw [if_pos hx] at e
  have := Option.some.inj e
  subst this; subst hx
  exact h
 ·rw [if_neg hx] at e
  exact hl.1 g' cs' e, fun g' e => by
 unfold KN at e
 rw [Hr] at e
 by_cases hx : g = g'
 ·rw [if_pos hx] at e
  have := Option.some.inj e
  subst hx
  exact hn this
 ·rw [if_neg hx] at e
  exact hl.2 g' e⟩
theorem KO {W : World} {g : Nat} {a : AB} {cs : List AB} {l : List (Nat × List AB)} (h : PZ W g (a :: cs)) (hl : Ch (KN l) W) : Ch (KN ((g, a :: cs) :: l)) W := Ls h (fun h => by cases h) hl
theorem Qz {W : World} {g : Nat} {l : List (Nat × List AB)} (h : ∃ n : Int, W.cell? ⟨g, 0, none⟩ = some (.int .i64 n)) (hl : Ch (KN l) W) : Ch (KN ((g, []) :: l)) W := by
 refine Ls ?_ (fun _ => h) hl
 obtain ⟨n, hn⟩ := h
 unfold World.cell? at hn
 split at hn
 ·rename_i cs e fz hc
  have hc' : W.heap[g]? = some (.cells cs e fz) := hc
  refine ⟨?_, cs, e, fz, hc', fun j a ha => by simp at ha⟩
  by_cases hlt : g < W.heap.size
  ·exact hlt
  ·rw [Array.getElem?_eq_none (by omega)] at hc'; cases hc'
 ·cases hn
theorem Ra (W : World) : Ch (KN []) W := ⟨fun g cs e => (by cases e), fun g e => (by cases e)⟩
end Go.Av
end
