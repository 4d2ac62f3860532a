/-
  Several texts in one.
-/
import Derived.Test.YtiodcbipjnmpgaaCapB
import Derived.Test.YtiodcbipjnmpgaaAvIn
import Derived.Test.YtiodcbipjnmpgaaAvMore
import Derived.Lib.LaidTab
/-
  DfaCaps: a table has no more states than may be; where the document says that they are enough, it is told.
-/
section
namespace Go.Av.L
open Go.Av Go.Lib
set_option linter.unusedVariables false
set_option linter.unusedSimpArgs false
set_option maxRecDepth 100000 in
theorem awake_eq : M_boulterlaw21_awake = some true := by kernel_rfl
theorem awB {Q : Bool → Prop} (h : Q true) : W ((M_boulterlaw21_awake).bind fun x => some x) Q := W.bind (W.of awake_eq (W.ret h))
def okNode (x : S_tree_Node) : Prop := (okI .i64) x.Kind ∧ (okI .i64) x.A ∧ (okI .i64) x.B ∧ (okI .i64) x.Min ∧ (okI .i64) x.Max ∧ (okI .i64) x.Group ∧ (fun x : A4_uint64 => (okI .u64) x.w0 ∧ (okI .u64) x.w1 ∧ (okI .u64) x.w2 ∧ (okI .u64) x.w3 ∧ True) x.Set ∧ True
theorem okNode.set {x : S_tree_Node} (h : okNode x) : OkS x.Set := by
 have hs := h.2.2.2.2.2.2.1
 have h0 : (0 : Int) ≤ x.Set.w0 ∧ x.Set.w0 ≤ 18446744073709551615 := hs.1
 have h1 : (0 : Int) ≤ x.Set.w1 ∧ x.Set.w1 ≤ 18446744073709551615 := hs.2.1
 have h2 : (0 : Int) ≤ x.Set.w2 ∧ x.Set.w2 ≤ 18446744073709551615 := hs.2.2.1
 have h3 : (0 : Int) ≤ x.Set.w3 ∧ x.Set.w3 ≤ 18446744073709551615 := hs.2.2.2.1
 intro w hw
 simp only [wordsS, List.mem_cons, List.not_mem_nil, or_false] at hw
 rcases hw with rfl | rfl | rfl | rfl
 ·exact h0
 ·exact h1
 ·exact h2
 ·exact h3
theorem full_ok {w most : Int} (hw : 1 ≤ w) (h : w ≤ 5 → most < bShl .i64 1 (IntKind.i64.wrap ((IntKind.i64.wrap (2 * w)) + 2))) {Q : Bool → Prop} (hq : Q true) :
  W ((iteB (decide (w > 5)) (some true) (need (decide (0 ≤ (IntKind.i64.wrap ((IntKind.i64.wrap (2 * w)) + 2)))) <| some (decide (most < (bShl .i64 1 (IntKind.i64.wrap ((IntKind.i64.wrap (2 * w)) + 2))))))).bind fun x => some x) Q := by
 refine W.bind (W.iteP (fun _ => W.ret (W.ret hq)) fun h5 => ?_)
 have h5 : w ≤ 5 := by omega
 rw [decide_eq_true (h h5)]
 refine W.need (decide_eq_true ?_) (W.ret (W.ret hq))
 rw [w64 (x := 2 * w) (by omega) (by omega), w64 (by omega) (by omega)]
 omega
theorem small_pow {w : Nat} (h1 : 1 ≤ w) (h5 : w ≤ 5) {n m : Nat} (hm : m ≤ w + 1) (hn : n < 2 ^ m) : (n : Int) < bShl .i64 1 (IntKind.i64.wrap ((IntKind.i64.wrap (2 * (w : Int))) + 2)) := by
 have h2 : n < 2 ^ (w + 1) := Nat.lt_of_lt_of_le hn (Nat.pow_le_pow_right (by omega) hm)
 have : w = 1 ∨ w = 2 ∨ w = 3 ∨ w = 4 ∨ w = 5 := by omega
 rcases this with rfl | rfl | rfl | rfl | rfl
 ·rw [show bShl .i64 1 (IntKind.i64.wrap ((IntKind.i64.wrap (2 * ((1 : Nat) : Int))) + 2)) = 16 from by decide +kernel]; omega
 ·rw [show bShl .i64 1 (IntKind.i64.wrap ((IntKind.i64.wrap (2 * ((2 : Nat) : Int))) + 2)) = 64 from by decide +kernel]; omega
 ·rw [show bShl .i64 1 (IntKind.i64.wrap ((IntKind.i64.wrap (2 * ((3 : Nat) : Int))) + 2)) = 256 from by decide +kernel]; omega
 ·rw [show bShl .i64 1 (IntKind.i64.wrap ((IntKind.i64.wrap (2 * ((4 : Nat) : Int))) + 2)) = 1024 from by decide +kernel]; omega
 ·rw [show bShl .i64 1 (IntKind.i64.wrap ((IntKind.i64.wrap (2 * ((5 : Nat) : Int))) + 2)) = 4096 from by decide +kernel]; omega
theorem lawDfaCaps (p0 : S_tree_Tree) {Q0 : Prop} (k0 : okLu okNode p0.Nodes ∧ Q0) (p1 : Int) {Q1 : Prop} (k1 : Q1) : M_boulterlaw21_DfaCaps p0 p1 = some true := by
 refine W.eq ?_
 unfold M_boulterlaw21_DfaCaps
 obtain ⟨p, hp, P⟩ := plain_ok p0 k0.1.1 fun n hn => (k0.1.2 n hn).set
 rw [hp, Option.bind_some]
 refine W.bind ((small_ok p).mono fun x2 _ => W.ite (fun _ => awB rfl) fun _ => ?_)
 rw [Option.bind_some]
 by_cases hm : p1 < 1 ∨ p1 > 4096
 ·have hb : ((decide (p1 < (1 : Int))) || (decide (p1 > (4096 : Int)))) = true := by simpa using hm
  have hC : M_dfa_Compile p0 p1 = some (none, 6) := by unfold M_dfa_Compile; rw [hb]; rfl
  rw [hC, Option.bind_some]
  simp only [hb, iteB_true]
  exact W.bind (awB (W.ret rfl))
 have hb : ((decide (p1 < (1 : Int))) || (decide (p1 > (4096 : Int)))) = false := by simpa using hm
 obtain ⟨n, rfl⟩ := Int.eq_ofNat_of_zero_le (show 0 ≤ p1 by omega)
 obtain ⟨b, hR, hRb⟩ := right_iff p0
 obtain ⟨b', hR', hRb'⟩ := refRight_iff P
 have hbb : b' = b := by rw [Bool.eq_iff_iff, hRb, hRb']
 subst hbb
 cases b' with
 | false =>
  have hB : M_auto_Build p0 4096 = some (none, 1) := by unfold M_auto_Build; rw [hR]; rfl
  have hC : M_dfa_Compile p0 (n : Int) = some (none, 1) := by unfold M_dfa_Compile; rw [hb, hB]; rfl
  rw [hC, Option.bind_some]
  simp only [hb, iteB_false]
  rw [hR', Option.bind_some]
  simp only [Bool.not_false, iteB_true]
  exact W.bind (awB (W.ret rfl))
 | true =>
  have hRP := hRb.1 rfl
  obtain ⟨w, hW, g, G, hw⟩ := weight_ok P hRP
  have hg1 : 1 ≤ g p0.Root := by
   have := G.pos p0.Root.toNat (Nat.le_refl _)
   rwa [Int.toNat_of_nonneg hRP.2.1] at this
  obtain ⟨⟨a, e⟩, hB, hBq⟩ := build_ok p0 hR
  obtain ⟨⟨d, f⟩, hC, hCq⟩ := compile_ok p0 hR (n := n) (by omega) (by omega) hB
  rw [hC, Option.bind_some]
  cases d with
  | none =>
   simp only [hb, iteB_false]
   rw [hR', Option.bind_some, Bool.not_true, iteB_false, hW, Option.bind_some]
   have hf : f = 7 ∧ (w ≤ 5 → (n : Int) < bShl .i64 1 (IntKind.i64.wrap ((IntKind.i64.wrap (2 * w)) + 2))) := by
    have few : w ≤ 5 → ∃ a', a = some a' ∧ a'.l_.length ≤ g p0.Root + 1 := by
     intro h5
     obtain ⟨r, hr, a', ha, hl⟩ := build_cap p0 hR G (by omega)
     rw [hB] at hr
     cases hr
     cases ha
     exact ⟨a', rfl, hl⟩
    cases a with
    | none =>
     have : ((none, f) : Option S_dfa_Dfa × Int) = (none, 7) := hCq
     cases this
     refine ⟨rfl, fun h5 => ?_⟩
     obtain ⟨a', ha, _⟩ := few h5
     cases ha
    | some a =>
     rcases hCq with ⟨h, hlt⟩ | ⟨d', _, _, h, _⟩
     ·cases h
      refine ⟨rfl, fun h5 => ?_⟩
      obtain ⟨a', ha, hl⟩ := few h5
      cases ha
      rw [hw]
      exact small_pow hg1 (by omega) hl hlt
     ·cases h
   obtain ⟨rfl, hf⟩ := hf
   rw [show ((7 : Int) != 0) = true from rfl, iteB_true, show (((7 : Int) == 7) || false) = true from rfl, iteB_true]
   refine W.bind (W.mono (Q := fun b => b = true) (full_ok (by omega) hf rfl) fun b hb => ?_)
   subst hb
   exact W.bind (awB (W.ret rfl))
  | some d =>
   simp only [hb, iteB_false]
   rw [hR', Option.bind_some, Bool.not_true, iteB_false, hW, Option.bind_some]
   cases a with
   | none =>
    have : ((some d, f) : Option S_dfa_Dfa × Int) = (none, 7) := hCq
    cases this
   | some a =>
    rcases hCq with ⟨h, _⟩ | ⟨d', todo, bs, h, hl, D⟩
    ·cases h
    ·cases h
     rw [show ((0 : Int) != 0) = false from rfl, iteB_false]
     unfold M_dfa_Dfa_States
     rw [Option.bind_some, D.ends, List.length_map]
     refine W.bind (W.iteP (fun _ => awB (W.ret rfl)) fun h => by omega)
end Go.Av.L
end
/-
  From a row's list of package variables to what the run reads of them.
-/
section
namespace Go.Av
open Go
theorem globOk_nil (W : World) : GlobOk (lookG []) W := ⟨fun g cs e => (by cases e), fun g e => (by cases e)⟩
end Go.Av
end
