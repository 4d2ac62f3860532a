/-
  Several texts in one.
-/
import Derived.Test.YtiodcbipjnmpgaaDfaS
import Derived.Test.YtiodcbipjnmpgaaDfaF
import Derived.Test.YtiodcbipjnmpgaaAvIn
import Derived.Test.YtiodcbipjnmpgaaAvMore
import Derived.Lib.LaidTab
/-
  DfaRex: of any expression as it is typed the table finds in any text what its automaton does.
-/
section
namespace Go.Av.L
open Go.Av Go.Lib
set_option linter.unusedVariables false
set_option linter.unusedSimpArgs false
set_option maxRecDepth 100000 in
theorem awake_eq : M_boulterlaw21_awake = some true := by kernel_rfl
theorem aw {Q : Bool → Prop} (h : Q true) : W ((M_boulterlaw21_awake).bind fun x => some x) Q := W.bind (W.of awake_eq (W.ret h))
theorem lawDfaRex (p0 : List UInt8) {Q0 : Prop} (k0 : Q0) (p1 : Bool) {Q1 : Prop} (k1 : Q1) (p2 : List UInt8) {Q2 : Prop} (k2 : Q2) (p3 : Int) {Q3 : Prop} (k3 : Q3) : M_boulterlaw21_DfaRex p0 p1 p2 p3 = some true := by
 refine W.eq ?_
 unfold M_boulterlaw21_DfaRex
 refine W.ite (fun _ => aw rfl) fun hs => ?_
 simp only [Bool.or_eq_false_iff, decide_eq_false_iff_not] at hs
 have hn : p2.length ≤ 60 := by have := hs.2; omega
 refine W.bind ((parse_ok p0 p1).mono ?_)
 rintro ⟨t, x3, x4⟩ hp
 simp only [iteB_bne] at hp ⊢
 split
 ·rename_i e
  have hr := hp e
  obtain ⟨⟨w, g⟩, hb, hB⟩ := build_ok t hr
  refine W.bind ((compile_ok t hr (n := 4096) (by omega) (by omega) hb).mono ?_)
  rintro ⟨d, f⟩ hc
  cases w with
  | none =>
   simp only at hB
   subst hB
   cases hc
   simp only [hb, Option.bind_some]
   exact W.bind (aw (W.ret rfl))
  | some a =>
   simp only at hB
   obtain ⟨rfl, A⟩ := hB
   rcases hc with hc | ⟨d', todo, bs, hc, _, D⟩
   ·cases hc
    simp only [hb, Option.bind_some]
    exact W.bind (aw (W.ret rfl))
   ·cases hc
    simp only [hb, Option.bind_some]
    show W ((M_dfa_Dfa_Find d' p2 p3).bind _) _
    refine W.bind ((find_ok D p2 (by omega) p3).mono ?_)
    rintro ⟨x12, x13, x14⟩ hf
    simp only []
    have h0 : 0 ≤ mx p3 0 := by unfold mx; split <;> omega
    refine W.bind (W.mono (W.loop (fun x => ∃ k : Nat, x = (k : Int) ∧ mx p3 0 ≤ k ∧ ∀ q : Nat, mx p3 0 ≤ q → q < k → endsV a p2 q = []) (fun x => ((p2.length : Int) + 1 - x).toNat) ⟨(mx p3 0).toNat, by omega, by omega, fun q h1 h2 => by omega⟩ ?_ (Q := fun o => match o with
     | .inl _ => ∀ k : Nat, mx p3 0 ≤ k → k ≤ p2.length → endsV a p2 k = []
     | .inr r => r = true)) fun o ho => ?_)
    ·rintro _ ⟨k, rfl, h1, h2⟩
     unfold M_boulterlaw21_DfaRex_L0
     refine W.iteP (fun hle => ?_) fun hgt => W.ret fun q h3 h4 => h2 q h3 (by omega)
     have hk : k ≤ p2.length := by omega
     rw [ends_all A p2 (by omega) k hk, Option.bind_some]
     refine W.iteP (fun hpos => ?_) fun hz => W.ret ⟨⟨k + 1, ek64 (by omega), by omega, fun q h3 h4 => ?_⟩, by rw [ek64 (by omega)]; omega⟩
     ·have hne : endsV a p2 k ≠ [] := fun e => by rw [e] at hpos; simp at hpos
      rcases hf with ⟨_, hf⟩ | ⟨q, hq, hf, q1, q2, q3⟩
      ·exact absurd (hf k h1 hk) hne
      ·obtain rfl : q = k := by
        rcases Nat.lt_trichotomy q k with h | h | h
        ·exact absurd (h2 q q1 h) hq
        ·exact h
        ·exact absurd (q3 k h1 h) hne
       cases hf
       have hlen : 0 < (endsV a p2 q).length := by omega
       have hg := gotF_len a.l_ (p2.drop q) (cl a.l_ (decide (q = 0)) false [a.first_]) q
       have hlen2 : (endsV a p2 q).length ≤ 100 := by
        unfold endsV
        split
        ·split <;> simp
        ·rw [List.length_drop] at hg; omega
       rw [w64 (by omega) (by omega), show ((endsV a p2 q).length : Int) - 1 = (((endsV a p2 q).length - 1 : Nat) : Int) by omega, ixV_get (show (endsV a p2 q).length - 1 < (endsV a p2 q).length by omega), ← List.getLast_eq_getElem hq]
       simp only [beq_self_eq_true, Bool.and_true, iteB_true, Option.bind_some]
       exact W.bind (aw (W.ret rfl))
     ·by_cases e : q = k
      ·subst e
       exact List.eq_nil_of_length_eq_zero (by omega)
      ·exact h2 q h3 (by omega)
    ·cases o with
     | inl _ =>
      rcases hf with ⟨hf, _⟩ | ⟨q, hq, _, q1, q2, _⟩
      ·cases hf
       exact W.bind (W.mono (Q := fun b => b = true) (aw rfl) fun b hb => by subst hb; exact W.ret rfl)
      ·exact absurd (ho q q1 q2) hq
     | inr r =>
      simp only at ho
      subst ho
      exact W.ret rfl
 ·exact aw rfl
end Go.Av.L
end
/-
  From a row's list of package variables to what the run reads of them.
-/
section
namespace Go.Av
open Go
def GlobEnt (W : World) (g : Nat) (cs : List AVal) : Prop :=
 g < W.heap.size ∧ ∃ cur e fz, W.heap[g]? = some (.cells cur e fz) ∧ ∀ (j : Nat) (a : AVal), cs[j]? = some a → a.one = true ∧ Av.flat1 a = true ∧ ∃ c, cur[j]? = some c ∧ VR ⟨fun _ => none, fun _ _ => none, fun _ => False⟩ a c
theorem globEnt_of_tab {P : Program} {W : World} {name : String} {k : IntKind} {zs : List Int} {g : Nat} (hg : P.globalNamed name = some g) (h : Lib.TabIs P W name k zs) : GlobEnt W g (zs.map fun z => AVal.int k z) := by
 unfold Lib.TabIs World.var? at h
 rw [hg] at h
 simp only [Option.bind_some] at h
 split at h
 ·rename_i cs e fz hc
  injection h with h
  have hlt : g < W.heap.size := by
   by_cases hlt : g < W.heap.size
   ·exact hlt
   ·rw [Array.getElem?_eq_none (by omega)] at hc; cases hc
  refine ⟨hlt, cs, e, fz, hc, fun j a ha => ?_⟩
  rw [List.getElem?_map, Option.map_eq_some_iff] at ha
  obtain ⟨z, hz, rfl⟩ := ha
  refine ⟨rfl, rfl, .int k z, ?_, VR.int k z⟩
  rw [h]
  simp [hz]
 ·cases h
theorem globOk_cons' {W : World} {g : Nat} {cs : List AVal} {l : List (Nat × List AVal)} (h : GlobEnt W g cs) (hn : cs = [] → ∃ n : Int, W.cell? ⟨g, 0, none⟩ = some (.int .i64 n)) (hl : GlobOk (lookG l) W) : GlobOk (lookG ((g, cs) :: l)) W := ⟨fun g' cs' e => by
 unfold lookG at e
 rw [bif_beq] at e
 by_cases hx : g = g'
 ·rw [if_pos hx] at e
  have := Option.some.inj e
  subst this; subst hx
  exact h
 ·rw [if_neg hx] at e
  exact hl.1 g' cs' e, fun g' e => by
 unfold lookG at e
 rw [bif_beq] at e
 by_cases hx : g = g'
 ·rw [if_pos hx] at e
  have := Option.some.inj e
  subst hx
  exact hn this
 ·rw [if_neg hx] at e
  exact hl.2 g' e⟩
theorem globOk_int {W : World} {g : Nat} {l : List (Nat × List AVal)} (h : ∃ n : Int, W.cell? ⟨g, 0, none⟩ = some (.int .i64 n)) (hl : GlobOk (lookG l) W) : GlobOk (lookG ((g, []) :: l)) W := by
 refine globOk_cons' ?_ (fun _ => h) hl
 obtain ⟨n, hn⟩ := h
 unfold World.cell? at hn
 split at hn
 ·rename_i cs e fz hc
  have hc' : W.heap[g]? = some (.cells cs e fz) := hc
  refine ⟨?_, cs, e, fz, hc', fun j a ha => by simp at ha⟩
  by_cases hlt : g < W.heap.size
  ·exact hlt
  ·rw [Array.getElem?_eq_none (by omega)] at hc'; cases hc'
 ·cases hn
theorem globOk_nil (W : World) : GlobOk (lookG []) W := ⟨fun g cs e => (by cases e), fun g e => (by cases e)⟩
end Go.Av
end
