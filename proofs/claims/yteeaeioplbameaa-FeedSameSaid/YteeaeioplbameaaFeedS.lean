/-
  Feed: what is taken is what was put.
-/
import Derived.Test.YteeaeioplbameaaFeedA
namespace Go.Av.L
open Go.Av Go.Lib
set_option linter.unusedVariables false
set_option linter.unusedSimpArgs false

theorem same0 (p c : List UInt8) (hp : p.length ≤ 400) (hc : c.length ≤ 40) : W (loop (M_boulterlaw08_FeedSame_L0 p c) (([] : List UInt8), (0 : Int), false, ([] : List (List UInt8)), (0 : Int), (0 : Int)))
    (fun r => ∃ now size closed wait, ∃ k : Nat, r = .inl (now, size, closed, wait, (k : Int)) ∧ k ≤ p.length ∧ OkF ⟨wait, now, size, closed⟩ ∧ (chs now wait).flatten = p.take k) := by
  refine W.loop (fun s => ∃ now size closed wait, ∃ k i : Nat, s = (now, size, closed, wait, (k : Int), (i : Int)) ∧ k ≤ p.length ∧ i ≤ 41 ∧ OkF ⟨wait, now, size, closed⟩ ∧ closed = false ∧ (chs now wait).length ≤ i ∧ (chs now wait).flatten = p.take k ∧ (c.length < i → k = p.length)) (fun s => (60 - s.2.2.2.2.2).toNat)
    ⟨[], 0, false, [], 0, 0, rfl, by omega, by omega, ⟨by simp, by simp [S_feed_Feed.cs, chs], by simp [S_feed_Feed.cs, chs], by simp [S_feed_Feed.cs, chs]⟩, rfl, by simp [chs], by simp [chs], by omega⟩ ?_
  rintro _ ⟨now, size, closed, wait, k, i, rfl, hk, hi, hok, rfl, hl, hf, hlast⟩
  unfold M_boulterlaw08_FeedSame_L0
  refine W.ite (fun hb => ?_) fun hb => W.ret ⟨now, size, false, wait, k, rfl, hk, hok, hf⟩
  simp only [Bool.and_eq_true, decide_eq_true_eq] at hb
  have hki : k < p.length := by omega
  have hi40 : i ≤ c.length := by
    rcases Nat.lt_or_ge c.length i with h | h
    · have := hlast h; omega
    · exact h
  have hm : ∃ m : Nat, (iteB (decide ((i : Int) < (c.length : Int))) ((ixV c (i : Int)).bind fun x20 => some (mn (IntKind.i64.wrap ((p.length : Int) - (k : Int))) (Int.tmod (IntKind.i64.wrap (x20.toNat : Int)) (50 : Int)))) (some (IntKind.i64.wrap ((p.length : Int) - (k : Int)))) : Option Int) = some (m : Int) ∧ k + m ≤ p.length ∧ (c.length < i + 1 → k + m = p.length) := by
    rw [iteB_dec]
    split
    · rename_i h
      have h' : i < c.length := by omega
      rw [ixV_get h', Option.bind_some]
      have hb := byte_lt c[i]
      rw [w64 (by omega) (by omega), w64 (by omega) (by omega)]
      have h1 : 0 ≤ Int.tmod (c[i].toNat : Int) 50 := Int.tmod_nonneg _ hb.1
      refine ⟨(mn ((p.length : Int) - (k : Int)) (Int.tmod (c[i].toNat : Int) 50)).toNat, ?_, ?_, by omega⟩
      · congr 1; unfold mn; split <;> omega
      · unfold mn; split <;> omega
    · rename_i h
      rw [w64 (by omega) (by omega)]
      exact ⟨p.length - k, by congr 1; omega, by omega, by omega⟩
  obtain ⟨m, em, hm1, hm2⟩ := hm
  rw [em, Option.bind_some, w64 (by omega) (by omega), show ((k : Int) + (m : Int)) = ((k + m : Nat) : Int) by omega, subS_both (by omega) hm1, Option.bind_some]
  have hpl : ((p.drop k).take (k + m - k)).length = m := by simp; omega
  refine W.need (by rw [hpl]; exact decide_eq_true (by omega)) ?_
  refine W.bind ((putL _ _ hok).mono ?_)
  rintro ⟨e, f', w⟩ ⟨hw, hq⟩
  simp only at hw hq
  subst hw
  rw [if_neg (by rw [hpl]; omega), if_neg (by simp)] at hq
  have hcl : (S_feed_Feed.cs ⟨wait, now, size, false⟩).length ≤ 40 := by show (chs now wait).length ≤ 40; omega
  have e2 : IntKind.i64.wrap ((i : Int) + 1) = ((i + 1 : Nat) : Int) := ek64 (by omega)
  simp only
  rw [e2]
  split at hq
  · rename_i hnil
    obtain ⟨rfl, rfl⟩ := hq
    have hm0 : m = 0 := by rw [← hpl, hnil]; rfl
    subst hm0
    rw [show ((0 : Int) != 0) = false from rfl, iteB_false]
    refine W.ret ⟨⟨now, size, false, wait, k + 0, i + 1, rfl, hm1, by omega, hok, rfl, by omega, hf, hm2⟩, ?_⟩
    simp only; omega
  · rename_i hnil
    rw [if_neg (by omega)] at hq
    obtain ⟨rfl, hcl', hcs, hok'⟩ := hq
    rw [show ((0 : Int) != 0) = false from rfl, iteB_false]
    refine W.ret ⟨⟨f'.now_, f'.size_, f'.closed_, f'.wait_, k + m, i + 1, rfl, hm1, by omega, hok', hcl', ?_, ?_, hm2⟩, ?_⟩
    · show f'.cs.length ≤ i + 1
      rw [hcs]; simp; show (chs now wait).length ≤ i; exact hl
    · show f'.cs.flatten = p.take (k + m)
      rw [hcs]
      show ((chs now wait) ++ _).flatten = _
      rw [List.flatten_append, hf]
      simp only [List.flatten_cons, List.flatten_nil, List.append_nil]
      rw [show k + m - k = m by omega, List.take_add]
    · simp only; omega

theorem same1 (p t : List UInt8) (k : Nat) (hp : p.length ≤ 400) (ht : t.length ≤ 400) (now : List UInt8) (size : Int) (closed : Bool) (wait : List (List UInt8)) (hok : OkF ⟨wait, now, size, closed⟩) (hf : (chs now wait).flatten = p.take k) :
    W (loop (M_boulterlaw08_FeedSame_L1 t) (now, size, closed, wait, ([] : List UInt8), (0 : Int)))
    (fun r => ∃ now size closed wait got, r = (now, size, closed, wait, got) ∧ OkF ⟨wait, now, size, closed⟩ ∧ got ++ (chs now wait).flatten = p.take k) := by
  refine W.loop (fun s => ∃ now size closed wait got, ∃ j : Nat, s = (now, size, closed, wait, got, (j : Int)) ∧ j ≤ t.length ∧ OkF ⟨wait, now, size, closed⟩ ∧ got ++ (chs now wait).flatten = p.take k) (fun s => ((t.length : Int) - s.2.2.2.2.2).toNat)
    ⟨now, size, closed, wait, [], 0, rfl, by omega, hok, by simpa using hf⟩ ?_
  rintro _ ⟨now, size, closed, wait, got, j, rfl, hj, hok, hf⟩
  unfold M_boulterlaw08_FeedSame_L1
  refine W.iteP (fun hb => ?_) fun hb => W.ret ⟨now, size, closed, wait, got, rfl, hok, hf⟩
  have hj' : j < t.length := by omega
  rw [ixV_get hj', Option.bind_some]
  have hbt := byte_lt t[j]
  rw [w64 (by omega) (by omega)]
  have h1 : 0 ≤ Int.tmod (t[j].toNat : Int) 20 := Int.tmod_nonneg _ hbt.1
  have h2 : Int.tmod (t[j].toNat : Int) 20 < 20 := Int.tmod_lt_of_pos _ (by omega)
  refine W.bind ((someL _ _ hok (by omega)).mono ?_)
  rintro ⟨q, f', w⟩ ⟨hw, hq, hc, hcs, hok'⟩
  simp only at hw hq hc hcs hok'
  subst hw
  have hcsF : (S_feed_Feed.cs ⟨wait, now, size, closed⟩) = chs now wait := rfl
  rw [hcsF] at hq hcs
  have hgl := congrArg List.length hf
  simp only [List.length_append, List.length_take] at hgl
  have hql : q.length ≤ (chs now wait).flatten.length := by rw [hq]; simp; omega
  refine W.need (decide_eq_true (by omega)) ?_
  have e2 : IntKind.i64.wrap ((j : Int) + 1) = ((j + 1 : Nat) : Int) := ek64 (by omega)
  rw [e2]
  refine W.ret ⟨⟨f'.now_, f'.size_, f'.closed_, f'.wait_, got ++ q, j + 1, rfl, by omega, hok', ?_⟩, by simp only; omega⟩
  show (got ++ q) ++ f'.cs.flatten = _
  rw [hcs, dropL_flat, hq, List.append_assoc, List.take_append_drop, hf]

theorem lawFeedSame (p : List UInt8) {P : Prop} (_ : P) (c : List UInt8) {Q : Prop} (_ : Q) (t : List UInt8) {R : Prop} (_ : R) : M_boulterlaw08_FeedSame p c t = some true := by
  refine W.eq ?_
  unfold M_boulterlaw08_FeedSame M_feed_New
  simp only [Option.bind_some]
  refine W.ite (fun _ => W.ret rfl) fun hb => ?_
  simp only [Bool.or_eq_false_iff, decide_eq_false_iff_not] at hb
  obtain ⟨⟨h1, h2⟩, h3⟩ := hb
  refine W.bind ((same0 p c (by omega) (by omega)).mono ?_)
  rintro _ ⟨now, size, closed, wait, k, rfl, hk, hok, hf⟩
  refine W.bind ((same1 p t k (by omega) (by omega) now size closed wait hok hf).mono ?_)
  rintro _ ⟨now, size, closed, wait, got, rfl, hok, hf⟩
  refine W.bind ((someL _ _ hok (by omega)).mono ?_)
  rintro ⟨q, f', w⟩ ⟨hw, hq, hc, hcs, hok'⟩
  simp only at hw hq hc hcs hok'
  subst hw
  have hcsF : (S_feed_Feed.cs ⟨wait, now, size, closed⟩) = chs now wait := rfl
  rw [hcsF] at hq hcs
  have hgl := congrArg List.length hf
  simp only [List.length_append, List.length_take] at hgl
  have hqa : q = (chs now wait).flatten := by rw [hq, List.take_of_length_le (by rw [Int.toNat_natCast]; omega)]
  have hcs0 : f'.cs = [] := by rw [hcs]; exact dropL_all _ _ (by show (chs now wait).flatten.length ≤ _; rw [Int.toNat_natCast]; omega) hok.chNe
  refine W.need (by rw [hqa]; exact decide_eq_true (by simp only; omega)) ?_
  rw [subS_hi hk, Option.bind_some, hqa, hf]
  have hf' : (⟨f'.wait_, f'.now_, f'.size_, f'.closed_⟩ : S_feed_Feed) = f' := rfl
  have hs := hok'.sz
  rw [hcs0] at hs
  have hch := chunksL f' hok'
  rw [hcs0] at hch
  rw [beq_self_eq_true, iteB_true, hf', M_feed_Feed_Len_sPCH, hs]
  simp only [Option.bind_some, List.flatten_nil, List.length_nil]
  rw [show (((0 : Nat) : Int) == 0) = true from rfl, iteB_true, hch]
  simp only [Option.bind_some, List.length_nil]
  exact W.ret rfl
end Go.Av.L
