/-
  SUBST: what a template with a match's parts is by the document; the law.
-/
import Derived.Test.YtklabpnclemmoaaSubstExp
import Derived.Test.YtklabpnclemmoaaLlaw23x1
namespace Go.Abs.L
open Go.Abs
set_option linter.unusedVariables false
set_option linter.unusedSimpArgs false

theorem big_eq (h : AHeap) (b : UInt8) : M_boulterref23_big h b.toNat = some ((if 97 ≤ (b.toNat : Int) ∧ (b.toNat : Int) ≤ 122 then UInt8.ofNat (b.toNat - 32) else b).toNat : Int) := by
  have hb := byte_lt b
  unfold M_boulterref23_big
  by_cases h1 : 97 ≤ (b.toNat : Int) ∧ (b.toNat : Int) ≤ 122
  · rw [if_pos h1, show (decide ((b.toNat : Int) ≥ 97) && decide ((b.toNat : Int) ≤ 122)) = true from by simp; omega, wu8 (by omega) (by omega), ofNat_toNat (by omega)]
    simp only [iteB_true]
    congr 1
    omega
  · rw [if_neg h1, show (decide ((b.toNat : Int) ≥ 97) && decide ((b.toNat : Int) ≤ 122)) = false from by rw [Bool.eq_false_iff]; simp; omega]; rfl
theorem small_eq (h : AHeap) (b : UInt8) : M_boulterref23_small h b.toNat = some ((if 65 ≤ (b.toNat : Int) ∧ (b.toNat : Int) ≤ 90 then UInt8.ofNat (b.toNat + 32) else b).toNat : Int) := by
  have hb := byte_lt b
  unfold M_boulterref23_small
  by_cases h1 : 65 ≤ (b.toNat : Int) ∧ (b.toNat : Int) ≤ 90
  · rw [if_pos h1, show (decide ((b.toNat : Int) ≥ 65) && decide ((b.toNat : Int) ≤ 90)) = true from by simp; omega, wu8 (by omega) (by omega), ofNat_toNat (by omega)]
    simp only [iteB_true]
    congr 1
  · rw [if_neg h1, show (decide ((b.toNat : Int) ≥ 65) && decide ((b.toNat : Int) ≤ 90)) = false from by rw [Bool.eq_false_iff]; simp; omega]; rfl
/-- states that occur -/
def OkSt (all nx : Int) : Prop := 2 ≤ all ∧ all ≤ 4 ∧ (nx = 0 ∨ nx = 5 ∨ nx = 6)
theorem rcase (h : AHeap) {all nx : Int} (ok : OkSt all nx) (b : UInt8) :
    ((iteB ((nx == (5 : Int)) || ((nx == (0 : Int)) && (all == (2 : Int)))) ((M_boulterref23_big h (b.toNat : Int)).bind fun x33 => some x33) (some (b.toNat : Int)) : Option Int).bind fun x32 => (iteB ((nx == (6 : Int)) || ((nx == (0 : Int)) && (all == (3 : Int)))) ((M_boulterref23_small h x32).bind fun x35 => some x35) (some x32) : Option Int)) = some ((caseF (kindOf all nx) b).toNat : Int) := by
  obtain ⟨h1, h2, h3⟩ := ok
  by_cases hbig : nx = 5 ∨ (nx = 0 ∧ all = 2)
  · rw [show ((nx == (5 : Int)) || ((nx == (0 : Int)) && (all == (2 : Int)))) = true from by simpa using hbig, show ((nx == (6 : Int)) || ((nx == (0 : Int)) && (all == (3 : Int)))) = false from by rw [Bool.eq_false_iff]; simp; omega, big_eq]
    simp only [iteB_true, Option.bind_some, iteB_false]
    unfold caseF
    have hk : kindOf all nx = 2 ∨ kindOf all nx = 5 := by unfold kindOf; split <;> omega
    by_cases hb : 97 ≤ (b.toNat : Int) ∧ (b.toNat : Int) ≤ 122
    · rw [if_pos hb, if_pos ⟨hk, hb⟩]
    · rw [if_neg hb, if_neg (fun hx => hb hx.2), if_neg (by omega)]
  · rw [show ((nx == (5 : Int)) || ((nx == (0 : Int)) && (all == (2 : Int)))) = false from by rw [Bool.eq_false_iff]; simpa using hbig]
    simp only [iteB_false, Option.bind_some]
    by_cases hsm : nx = 6 ∨ (nx = 0 ∧ all = 3)
    · rw [show ((nx == (6 : Int)) || ((nx == (0 : Int)) && (all == (3 : Int)))) = true from by simpa using hsm, small_eq]
      simp only [iteB_true, Option.bind_some]
      unfold caseF
      have hk : kindOf all nx = 3 ∨ kindOf all nx = 6 := by unfold kindOf; split <;> omega
      have hnk : ¬ ((kindOf all nx = 2 ∨ kindOf all nx = 5) ∧ 97 ≤ (b.toNat : Int) ∧ (b.toNat : Int) ≤ 122) := by omega
      rw [if_neg hnk]
      by_cases hb : 65 ≤ (b.toNat : Int) ∧ (b.toNat : Int) ≤ 90
      · rw [if_pos hb, if_pos ⟨hk, hb⟩]
      · rw [if_neg hb, if_neg (fun hx => hb hx.2)]
    · rw [show ((nx == (6 : Int)) || ((nx == (0 : Int)) && (all == (3 : Int)))) = false from by rw [Bool.eq_false_iff]; simpa using hsm]
      simp only [iteB_false]
      have hk : kindOf all nx = 4 := by unfold kindOf; split <;> omega
      unfold caseF
      rw [if_neg (by omega), if_neg (by omega)]

theorem inner_spec {all nx : Int} (ok : OkSt all nx) (t acc : List UInt8) (h : AHeap) (hb : acc.length + t.length ≤ 1000000000) :
    W (loop (M_boulterref23_Expand_L1 all t) (acc, nx, 0, h)) fun r => r.1 = acc ++ emitF all nx t ∧ r.2.1 = nextF nx t ∧ Only none h r.2.2 := by
  refine W.loop (fun st => ∃ i : Nat, st.2.2.1 = i ∧ i ≤ t.length ∧ OkSt all st.2.1 ∧ acc ++ emitF all nx t = st.1 ++ emitF all st.2.1 (t.drop i) ∧ nextF nx t = nextF st.2.1 (t.drop i) ∧ Only none h st.2.2.2 ∧ st.1.length ≤ acc.length + i) (fun st => t.length - st.2.2.1.toNat) ⟨0, rfl, by omega, ok, by simp, by simp, Only.refl _ _, by simp⟩ ?_
  rintro ⟨ac, n1, _, h2⟩ ⟨i, rfl, hi, ok1, e1, e2, k, hac⟩
  dsimp only at ok1 e1 e2 k hac
  unfold M_boulterref23_Expand_L1
  dsimp only
  refine W.iteP (fun hlt => ?_) (fun hge => ?_)
  · have hlt : i < t.length := by omega
    rw [drop_cons hlt, emitF] at e1
    rw [drop_cons hlt] at e2
    rw [ixS_nat (List.getElem?_eq_getElem hlt)]
    simp only [Option.bind_some]
    have rc := rcase h2 ok1 t[i]
    rw [← Option.bind_assoc, rc]
    simp only [Option.bind_some]
    rw [byL_one, ek64 (by omega)]
    simp only [Option.bind_some]
    have eb : UInt8.ofNat ((caseF (kindOf all n1) t[i]).toNat : Int).toNat = caseF (kindOf all n1) t[i] := by simp
    rw [eb]
    refine W.need (by simp; omega) (W.ret ⟨⟨i + 1, rfl, by omega, ⟨ok1.1, ok1.2.1, .inl rfl⟩, ?_, ?_, k.trans (Only.push _ _ _), by simp; omega⟩, by dsimp only; omega⟩)
    · rw [e1]; simp
    · rw [e2]; unfold nextF; rw [if_neg (List.cons_ne_nil _ _)]; split <;> rfl
  · have : i = t.length := by omega
    subst this
    rw [List.drop_length] at e1 e2
    refine W.ret ⟨?_, ?_, k⟩
    · rw [e1]; simp [emitF]
    · rw [e2]; simp [nextF]

theorem rexpand_eq {h : AHeap} {sl ss : Sl} {l : List Part} {spans : List Span} (s : List UInt8) (vl : View cfg.P (· < h.size) h 3 sl (l.flatMap partC)) (vs : View cfg.P (· < h.size) h 3 ss (spans.flatMap spanC)) (hl : l.length ≤ 1000) (hs : s.length ≤ 1000) (hp : ∀ p ∈ l, p.2.2.length ≤ 1000) :
    M_boulterref23_Expand h sl s ss = some (expF s spans 4 0 l) := by
  have nl : sl.n = l.length := by have := vl.1; rw [chunk_length partC_len] at this; omega
  have ns : ss.n = spans.length := by have := vs.1; rw [chunk_length spanC_len] at this; omega
  unfold M_boulterref23_Expand
  refine W.eq (W.bind (W.mono (Q := fun r => r.1 = expF s spans 4 0 l) ?_ (by rintro ⟨_, h5⟩ rfl; exact W.ret rfl)))
  refine W.loop (fun st => ∃ i : Nat, st.2.2.2.1 = i ∧ i ≤ l.length ∧ OkSt st.2.1 st.2.2.1 ∧ expF s spans 4 0 l = st.1 ++ expF s spans st.2.1 st.2.2.1 (l.drop i) ∧ Only none h st.2.2.2.2 ∧ st.1.length ≤ 1000 * i) (fun st => l.length - st.2.2.2.1.toNat) ⟨0, rfl, by omega, ⟨by simp, by simp, .inl rfl⟩, by simp, Only.refl _ _, by simp⟩ ?_
  rintro ⟨acc, all, next, _, h1⟩ ⟨i, rfl, hi, ok, e1, k, hac⟩
  dsimp only at ok e1 k hac
  unfold M_boulterref23_Expand_L0
  dsimp only
  refine W.iteP (fun hlt => ?_) (fun hge => ?_)
  · have hlt : i < l.length := by omega
    obtain ⟨p, ep⟩ : ∃ p, l[i] = p := ⟨_, rfl⟩
    have hx : l[i]? = some p := by rw [List.getElem?_eq_getElem hlt, ep]
    have hpl := hp p (by rw [← ep]; exact List.getElem_mem hlt)
    rw [drop_cons hlt, ep, expF] at e1
    obtain ⟨a, ea, lf, _⟩ := (vl.onl k).fld (i := i) (by omega)
    have l0 : ldI h1 (a.1, a.2 + 0) .i64 = some p.1 := ldI_ld (lf 0 (by omega) _ (by rw [chunk_get partC_len l i p hx 0 (by omega)]; rfl))
    have l1 : ldI h1 (a.1, a.2 + 1) .i64 = some p.2.1 := ldI_ld (lf 1 (by omega) _ (by rw [chunk_get partC_len l i p hx 1 (by omega)]; rfl))
    have l2 : ldS h1 (a.1, a.2 + 2) = some p.2.2 := ldS_ld (lf 2 (by omega) _ (by rw [chunk_get partC_len l i p hx 2 (by omega)]; rfl))
    rw [ea]
    simp only [Option.bind_some, l0, l1, l2]
    have hall : iteB (decide (p.1 ≥ 2) && decide (p.1 ≤ 4)) (some p.1) (some all) = some (allF all p) := by
      unfold allF
      by_cases hc : 2 ≤ p.1 ∧ p.1 ≤ 4
      · rw [if_pos hc, show (decide (p.1 ≥ 2) && decide (p.1 ≤ 4)) = true from by simp; omega]; rfl
      · rw [if_neg hc, show (decide (p.1 ≥ 2) && decide (p.1 ≤ 4)) = false from by rw [Bool.eq_false_iff]; simp; omega]; rfl
    have hnx : iteB ((p.1 == 5) || (p.1 == 6)) (some p.1) (some next) = some (nxtF next p) := by
      unfold nxtF
      by_cases hc : p.1 = 5 ∨ p.1 = 6
      · rw [if_pos hc, show ((p.1 == 5) || (p.1 == 6)) = true from by simpa using hc]; rfl
      · rw [if_neg hc, show ((p.1 == 5) || (p.1 == 6)) = false from by rw [Bool.eq_false_iff]; simpa using hc]; rfl
    rw [hall, hnx]
    simp only [Option.bind_some]
    have ok' : OkSt (allF all p) (nxtF next p) := by
      obtain ⟨o1, o2, o3⟩ := ok
      unfold allF nxtF
      refine ⟨?_, ?_, ?_⟩
      · split <;> omega
      · split <;> omega
      · split <;> omega
    have hlen : (partF s spans p).length ≤ 1000 := by
      unfold partF
      split
      · exact hpl
      · split
        · split
          · exact Nat.le_trans (spanF_length _ _) hs
          · simp
        · simp
    have fin : ∀ h4 : AHeap, Only none h1 h4 → (∃ j : Nat, ((i + 1 : Nat) : Int) = j ∧ j ≤ l.length ∧ OkSt (allF all p) (nextF (nxtF next p) (partF s spans p)) ∧ expF s spans 4 0 l = (acc ++ emitF (allF all p) (nxtF next p) (partF s spans p)) ++ expF s spans (allF all p) (nextF (nxtF next p) (partF s spans p)) (l.drop j) ∧ Only none h h4 ∧ (acc ++ emitF (allF all p) (nxtF next p) (partF s spans p)).length ≤ 1000 * j) ∧ l.length - ((i + 1 : Nat) : Int).toNat < l.length - (i : Int).toNat := by
      intro h4 r3
      refine ⟨⟨i + 1, rfl, by omega, ⟨ok'.1, ok'.2.1, ?_⟩, by rw [e1, List.append_assoc], k.trans r3, by simp [emitF_length]; omega⟩, by omega⟩
      unfold nextF
      split
      · exact ok'.2.2
      · exact .inl rfl
    have rest : ∀ t, t = partF s spans p → ∀ Q : ((List UInt8 × Int × Int × Int × AHeap) ⊕ (List UInt8 × AHeap)) → Prop, (∀ h4 : AHeap, Only none h1 h4 → Q (.inl (acc ++ emitF (allF all p) (nxtF next p) (partF s spans p), allF all p, nextF (nxtF next p) (partF s spans p), ((i + 1 : Nat) : Int), h4))) → W ((loop (M_boulterref23_Expand_L1 (allF all p) t) (acc, nxtF next p, 0, h1)).bind fun x => (some (.inl (x.1, allF all p, x.2.1, IntKind.i64.wrap ((i : Int) + 1), x.2.2)) : Option ((List UInt8 × Int × Int × Int × AHeap) ⊕ (List UInt8 × AHeap)))) Q := by
      rintro t rfl Q hQ
      refine W.bind (W.mono (inner_spec ok' (partF s spans p) acc h1 (by omega)) ?_)
      rintro ⟨o, n', h4⟩ ⟨r1, r2, r3⟩
      dsimp only at r1 r2 r3
      subst r1
      subst r2
      rw [ek64 (by omega)]
      exact W.ret (hQ h4 r3)
    by_cases h0 : p.1 = 0
    · rw [show (p.1 == 0) = true from by simpa using h0, show (p.1 == 1) = false from by rw [h0]; rfl]
      simp only [iteB_true, iteB_false, Option.bind_some]
      exact rest p.2.2 (by unfold partF; rw [if_pos h0]) _ fun h4 r3 => fin h4 r3
    · rw [show (p.1 == 0) = false from by simpa using h0]
      simp only [iteB_false, Option.bind_some]
      by_cases h1' : p.1 = 1
      · rw [show (p.1 == 1) = true from by simpa using h1']
        simp only [iteB_true, Option.bind_some]
        by_cases hg : 0 ≤ p.2.1 ∧ p.2.1 < spans.length
        · have hgl : p.2.1.toNat < spans.length := by omega
          rw [show decide (p.2.1 ≥ 0) = true from decide_eq_true hg.1, show decide (p.2.1 < ((ss.n : Nat) : Int)) = true from decide_eq_true (by omega)]
          simp only [iteB_true, Option.bind_some]
          obtain ⟨b, eb, _, lb⟩ := (vs.onl k).fld (i := p.2.1.toNat) (by omega)
          rw [chunk_take spanC_len (List.getElem?_eq_getElem hgl)] at lb
          have ei : ixL ss 3 p.2.1 = some b := by rw [← eb]; congr 1; omega
          rw [ei]
          simp only [Option.bind_some, lb, rspan_eq]
          exact rest (spanF s spans[p.2.1.toNat]) (by unfold partF; rw [if_neg h0, if_pos h1', if_pos hg, List.getD_eq_getElem?_getD, List.getElem?_eq_getElem hgl, Option.getD_some]) _ fun h4 r3 => fin h4 r3
        · have ef : [] = partF s spans p := by unfold partF; rw [if_neg h0, if_pos h1', if_neg hg]
          by_cases hz : p.2.1 ≥ 0
          · rw [show decide (p.2.1 ≥ 0) = true from decide_eq_true hz, show decide (p.2.1 < ((ss.n : Nat) : Int)) = false from decide_eq_false (by omega)]
            simp only [iteB_true, iteB_false, Option.bind_some]
            exact rest _ ef _ fun h4 r3 => fin h4 r3
          · rw [show decide (p.2.1 ≥ 0) = false from decide_eq_false hz]
            simp only [iteB_true, iteB_false, Option.bind_some]
            exact rest _ ef _ fun h4 r3 => fin h4 r3
      · rw [show (p.1 == 1) = false from by simpa using h1']
        simp only [iteB_false, Option.bind_some]
        exact rest _ (by unfold partF; rw [if_neg h0, if_neg h1']) _ fun h4 r3 => fin h4 r3
  · have : i = l.length := by omega
    subst this
    rw [List.drop_length, expF, List.append_nil] at e1
    exact W.ret e1.symm

/-! ### the law -/
noncomputable abbrev RPart : RT cfg.P Part := RIso (RProd (RInt cfg.P .i64) (RProd (RInt cfg.P .i64) (RProd (RStr cfg.P) (RUnit cfg.P)))) (fun p : Part => (p.1, p.2.1, p.2.2, ()))
noncomputable abbrev RSpan : RT cfg.P Span := RIso (RProd (RInt cfg.P .i64) (RProd (RInt cfg.P .i64) (RProd (RBool cfg.P) (RUnit cfg.P)))) (fun p : Span => (p.1, p.2.1, p.2.2, ()))
theorem reps_part {S : Nat → Prop} {h : AHeap} : ∀ {xs : List Part} {cs : List AVal}, reps RPart S h xs cs → cs = xs.flatMap partC
  | [], cs, hr => hr
  | x :: xs, cs, ⟨a, b, e, ⟨a1, a2, e1, r1, a3, a4, e2, r2, a5, a6, e3, r3, r4⟩, h2⟩ => by
    rw [e, reps_part h2, List.flatMap_cons]
    have r1 : a1 = [.int .i64 x.1] := r1
    have r2 : a3 = [.int .i64 x.2.1] := r2
    have r3 : a5 = [.str x.2.2] := r3
    have r4 : a6 = [] := r4
    rw [e1, e2, e3, r1, r2, r3, r4]; rfl
theorem reps_span {S : Nat → Prop} {h : AHeap} : ∀ {xs : List Span} {cs : List AVal}, reps RSpan S h xs cs → cs = xs.flatMap spanC
  | [], cs, hr => hr
  | x :: xs, cs, ⟨a, b, e, ⟨a1, a2, e1, r1, a3, a4, e2, r2, a5, a6, e3, r3, r4⟩, h2⟩ => by
    rw [e, reps_span h2, List.flatMap_cons]
    have r1 : a1 = [.int .i64 x.1] := r1
    have r2 : a3 = [.int .i64 x.2.1] := r2
    have r3 : a5 = [.bool x.2.2] := r3
    have r4 : a6 = [] := r4
    rw [e1, e2, e3, r1, r2, r3, r4]; rfl
theorem szPart2 : szOf cfg.P 51 = some 3 := by kernel_rfl
theorem szSpan2 : szOf cfg.P 55 = some 3 := by kernel_rfl

theorem lawSubstExpands (h : AHeap) (x0 : List Part) (k0 : (RSlice RPart).ok x0) (c0 : Sl) (m0 : c0.n = x0.length) (u0 : ∃ cells, View cfg.P (· < h.size) h RPart.sz c0 cells ∧ reps RPart (· < h.size) h x0 cells) (x1 : List UInt8) (k1 : (RStr cfg.P).ok x1)
    (x2 : List Span) (k2 : (RSlice RSpan).ok x2) (c2 : Sl) (m2 : c2.n = x2.length) (u2 : ∃ cells, View cfg.P (· < h.size) h RSpan.sz c2 cells ∧ reps RSpan (· < h.size) h x2 cells) : M_boulterlaw23_SubstExpands h c0 x1 c2 = some true := by
  obtain ⟨cells, v0, r0⟩ := u0
  have e0 := reps_part r0
  subst e0
  obtain ⟨cells, v2, r2⟩ := u2
  have e2 := reps_span r2
  subst e2
  have v0 : View cfg.P (· < h.size) h 3 c0 (x0.flatMap partC) := v0
  have v2 : View cfg.P (· < h.size) h 3 c2 (x2.flatMap spanC) := v2
  clear r0 r2
  unfold M_boulterlaw23_SubstExpands
  by_cases hc : c0.n > 20 ∨ x1.length > 100 ∨ c2.n > 20
  · rw [show ((decide ((c0.n : Int) > 20) || decide ((x1.length : Int) > 100)) || decide ((c2.n : Int) > 20)) = true from by simp; omega]; rfl
  rw [show ((decide ((c0.n : Int) > 20) || decide ((x1.length : Int) > 100)) || decide ((c2.n : Int) > 20)) = false from by rw [Bool.eq_false_iff]; simp; omega]
  simp only [iteB_false]
  refine W.eq (W.bind (W.mono (Q := fun o => (∃ x4 h6, o = .inl (x4, h6) ∧ Grow ⟨h.size, []⟩ h h6 51 3 x4 (x0.flatMap partC) ∧ ∀ p ∈ x0, p.2.2.length ≤ 50) ∨ ∃ h6, o = .inr (true, h6)) ?_ ?_))
  · refine W.loop (fun s => ∃ k : Nat, s.2.1 = k ∧ k ≤ x0.length ∧ Grow ⟨h.size, []⟩ h s.2.2 51 3 s.1 ((x0.take k).flatMap partC) ∧ s.1.n = k ∧ ∀ p ∈ x0.take k, p.2.2.length ≤ 50) (fun s => x0.length - s.2.1.toNat) ⟨0, rfl, by omega, Grow.nil (Only.refl _ _), rfl, by simp⟩ ?_
    rintro ⟨x6, _, h1⟩ ⟨k, rfl, hk, w, hn, hall⟩
    dsimp only at w hn
    unfold M_boulterlaw23_SubstExpands_L0
    dsimp only
    refine W.iteP (fun hlt => ?_) (fun hge => ?_)
    · have hlt : k < x0.length := by omega
      obtain ⟨p, ep⟩ : ∃ p, x0[k] = p := ⟨_, rfl⟩
      have hx : x0[k]? = some p := by rw [List.getElem?_eq_getElem hlt, ep]
      obtain ⟨a, ea, _, la⟩ := (v0.onl w.only).fld (i := k) (by omega)
      rw [chunk_take partC_len hx] at la
      have hsz := w.only.size
      obtain ⟨h3, e3, g3, k3, z3⟩ := var_st (h := h1) (g := ⟨h.size, []⟩) (z := [.int .i64 (0 : Int), .int .i64 (0 : Int), .str ([] : List UInt8)]) (cs := partC p) (n := 3) (may_ge hsz) rfl rfl rfl
      have lb : ldS h3 (h1.size, 2) = some p.2.2 := ldS_of g3 (by simp) rfl
      have lA : ldA h3 (h1.size, 0) 3 = some (partC p) := by rw [ldA_of g3 (by simp) (Nat.le_refl 3)]; rfl
      rw [ea]
      simp only [Option.bind_some, la, e3, lb, lA]
      refine W.iteP (fun hb => ?_) (fun hb => ?_)
      · exact W.ret (.inr ⟨h3, rfl⟩)
      · refine W.need rfl ?_
        refine W.bind (W.mono ((w.keep k3).app1 (e' := 51) (new := partC p) rfl rfl (by omega) (by omega) (Nat.le_refl _) rfl) ?_)
        rintro ⟨s', h'⟩ ⟨w', n'⟩
        dsimp only at w' n'
        rw [ek64 (by omega)]
        refine W.ret ⟨⟨k + 1, rfl, by omega, ?_, by dsimp only; omega, ?_⟩, by dsimp only; omega⟩
        · rw [take_snoc hx, List.flatMap_append]
          simpa using w'
        · intro q hq
          rw [take_snoc hx] at hq
          rcases List.mem_append.1 hq with h1 | h1
          · exact hall q h1
          · simp at h1
            rw [h1]; omega
    · have : k = x0.length := by omega
      subst this
      rw [List.take_length] at w hall
      exact W.ret (.inl ⟨x6, h1, rfl, w, hall⟩)
  · rintro o (⟨x4, h6, rfl, w, hall⟩ | ⟨h6, rfl⟩)
    rotate_left
    · exact W.ret rfl
    dsimp only
    have hs6 := w.only.size
    refine W.bind (W.mono (Q := fun r => Grow ⟨h.size, []⟩ h6 r.2 55 3 r.1 (x2.flatMap spanC)) ?_ ?_)
    · refine W.loop (fun s => ∃ k : Nat, s.2.1 = k ∧ k ≤ x2.length ∧ Grow ⟨h.size, []⟩ h6 s.2.2 55 3 s.1 ((x2.take k).flatMap spanC) ∧ s.1.n = k) (fun s => x2.length - s.2.1.toNat) ⟨0, rfl, by omega, Grow.nil (Only.refl _ _), rfl⟩ ?_
      rintro ⟨x16, _, h7⟩ ⟨k, rfl, hk, w7, hn⟩
      dsimp only at w7 hn
      unfold M_boulterlaw23_SubstExpands_L1
      dsimp only
      refine W.iteP (fun hlt => ?_) (fun hge => ?_)
      · have hlt : k < x2.length := by omega
        obtain ⟨p, ep⟩ : ∃ p, x2[k] = p := ⟨_, rfl⟩
        have hx : x2[k]? = some p := by rw [List.getElem?_eq_getElem hlt, ep]
        obtain ⟨a, ea, _, la⟩ := (v2.onl (w.only.trans w7.only)).fld (i := k) (by omega)
        rw [chunk_take spanC_len hx] at la
        have hsz := w7.only.size
        obtain ⟨h3, e3, g3, k3, z3⟩ := var_st (h := h7) (g := ⟨h.size, []⟩) (z := [.int .i64 (0 : Int), .int .i64 (0 : Int), .bool false]) (cs := spanC p) (n := 3) (may_ge (by omega)) rfl rfl rfl
        have lA : ldA h3 (h7.size, 0) 3 = some (spanC p) := by rw [ldA_of g3 (by simp) (Nat.le_refl 3)]; rfl
        rw [ea]
        simp only [Option.bind_some, la, e3, lA]
        refine W.need rfl ?_
        refine W.bind (W.mono ((w7.keep k3).app1 (e' := 55) (new := spanC p) rfl rfl (by omega) (by omega) (by dsimp only; omega) rfl) ?_)
        rintro ⟨s', h'⟩ ⟨w', n'⟩
        dsimp only at w' n'
        rw [ek64 (by omega)]
        refine W.ret ⟨⟨k + 1, rfl, by omega, ?_, by dsimp only; omega⟩, by dsimp only; omega⟩
        rw [take_snoc hx, List.flatMap_append]
        simpa using w'
      · have : k = x2.length := by omega
        subst this
        rw [List.take_length] at w7
        exact W.ret w7
    · rintro ⟨x15, h12⟩ w12
      dsimp only at w12 ⊢
      have o12 := w.only.trans w12.only
      have low : ∀ {sz s cs}, View cfg.P (· < h.size) h sz s cs → View cfg.P (· < h12.size) h12 sz s cs := fun v => v.keep (o12.same fun id hi => ⟨hi, by simp⟩) fun id hi => by have := o12.size; omega
      have hp : ∀ p ∈ x0, p.2.2.length ≤ 1000 := fun p hp => by have := hall p hp; omega
      rw [expand_eq x1 (low v0) (low v2) (by omega) (by omega) hp, rexpand_eq x1 ((w.keep w12.only).vw szPart2) (w12.vw szSpan2) (by omega) (by omega) hp]
      simp [M_boulterlaw23_awake]
      exact W.ret rfl
end Go.Abs.L
