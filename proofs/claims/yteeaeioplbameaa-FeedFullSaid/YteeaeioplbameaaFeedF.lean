/-
  Feed: as many chunks wait as may.
-/
import Derived.Test.YteeaeioplbameaaFeedA
namespace Go.Av.L
open Go.Av Go.Lib
set_option linter.unusedVariables false
set_option linter.unusedSimpArgs false

theorem dropL_ab : ∀ (m g : Nat), g ≤ 2 * m → (dropL (List.replicate m [97, 98]) g).length = m - g / 2
  | 0, g, h => by simp [dropL]
  | m + 1, g, h => by
    rw [List.replicate_succ]
    simp only [dropL, List.length_cons, List.length_nil]
    split
    · rw [List.length_cons, List.length_replicate]; omega
    · rw [dropL_ab m (g - 2) (by omega)]; omega
theorem flat_ab : ∀ m : Nat, (List.replicate m ([97, 98] : List UInt8)).flatten.length = 2 * m
  | 0 => rfl
  | m + 1 => by rw [List.replicate_succ, List.flatten_cons, List.length_append, flat_ab m]; simp; omega

theorem full0 (p K : Int) (hK : IntKind.i64.wrap ((60 : Int) + (Int.tmod (IntKind.i64.wrap p) (10 : Int))) = K) (h1 : 60 ≤ K) (h2 : K ≤ 69) : W (loop (M_boulterlaw08_FeedFull_L0 p) (([] : List UInt8), (0 : Int), false, ([] : List (List UInt8)), (0 : Int)))
    (fun r => ∃ now size closed wait, r = .inl (now, size, closed, wait) ∧ OkF ⟨wait, now, size, closed⟩ ∧ closed = false ∧ chs now wait = List.replicate (min K.toNat 64) [97, 98]) := by
  refine W.loop (fun s => ∃ now size closed wait, ∃ i : Nat, s = (now, size, closed, wait, (i : Int)) ∧ i ≤ K ∧ OkF ⟨wait, now, size, closed⟩ ∧ closed = false ∧ chs now wait = List.replicate (min i 64) [97, 98]) (fun s => (K - s.2.2.2.2).toNat)
    ⟨[], 0, false, [], 0, rfl, by omega, ⟨by simp, by simp [S_feed_Feed.cs, chs], by simp [S_feed_Feed.cs, chs], by simp [S_feed_Feed.cs, chs]⟩, rfl, by simp [chs]⟩ ?_
  rintro _ ⟨now, size, closed, wait, i, rfl, hi, hok, rfl, hcs⟩
  unfold M_boulterlaw08_FeedFull_L0
  simp only [hK]
  refine W.iteP (fun hb => ?_) fun hb => W.ret ⟨now, size, false, wait, rfl, hok, rfl, by rw [hcs]; congr 1; omega⟩
  refine W.bind ((putL _ _ hok).mono ?_)
  rintro ⟨e, f', w⟩ ⟨hw, hq⟩
  simp only at hw hq
  subst hw
  rw [if_neg (by simp), if_neg (by simp), if_neg (by simp)] at hq
  have hcl : (S_feed_Feed.cs ⟨wait, now, size, false⟩) = List.replicate (min i 64) [97, 98] := hcs
  rw [hcl, List.length_replicate] at hq
  have e2 : IntKind.i64.wrap ((i : Int) + 1) = ((i + 1 : Nat) : Int) := ek64 (by omega)
  simp only
  rw [e2]
  split at hq
  · rename_i h64
    obtain ⟨rfl, rfl⟩ := hq
    rw [show decide ((i : Int) < 64) = false from decide_eq_false (by omega)]
    refine W.ite (fun h => by cases h) fun _ => W.ret ⟨⟨now, size, false, wait, i + 1, rfl, by omega, hok, rfl, ?_⟩, by simp only; omega⟩
    rw [hcs]; congr 1; omega
  · rename_i h64
    obtain ⟨rfl, hc, hcs', hok'⟩ := hq
    rw [show decide ((i : Int) < 64) = true from decide_eq_true (by omega)]
    refine W.ite (fun h => by cases h) fun _ => W.ret ⟨⟨f'.now_, f'.size_, f'.closed_, f'.wait_, i + 1, rfl, by omega, hok', hc, ?_⟩, by simp only; omega⟩
    show f'.cs = _
    rw [hcs', show min (i + 1) 64 = min i 64 + 1 by omega, List.replicate_succ']

theorem putGreat (f4 : Fd) (h4 : OkF f4) (z : List UInt8) (hz : 65536 < z.length) : W (M_feed_Feed_Put_sPCHO f4 z) (fun r => r.1 = 12) := by
  refine (putL f4 z h4).mono ?_
  rintro ⟨e5, f5, w5⟩ ⟨_, hq5⟩
  simp only at hq5
  rw [if_pos hz] at hq5
  exact hq5.1
theorem putGreat2 (f4 : Fd) (h4 : OkF f4) (z : List UInt8) (hz : 65536 < z.length) : W ((M_feed_Feed_Put_sPCHO f4 z).bind fun (x40, x41, x42) => some (x41.now_, x41.size_, x41.closed_, x42, x40 == (12 : Int))) (fun r => r.2.2.2.2 = true) := by
  refine W.bind ((putGreat f4 h4 z hz).mono ?_)
  rintro ⟨e5, f5, w5⟩ h5
  simp only at h5
  subst h5
  exact W.ret rfl
theorem zeros_len : 65536 < (List.replicate (65537 : Int).toNat (0 : UInt8)).length := by
  rw [List.length_replicate]; omega
theorem fullEnd (r : List UInt8 × Int × Bool × List (List UInt8) × Bool) (h : r.2.2.2.2 = true) : W (match r with | (x35, x36, x37, x38, x39) => (iteB x39 ((M_boulterlaw08_awake).bind fun x44 => some x44) (some false) : Option (Bool)).bind fun x43 => some x43) (fun r => r = true) := by
  obtain ⟨a, b, c, d, e⟩ := r
  simp only at h
  subst h
  exact W.ret rfl
theorem mk65 : mkN 1 (65537 : Int) = true := by decide
theorem lawFeedFull (p : Int) (kp : okI .u8 p) (t : Int) (kt : okI .u8 t) : M_boulterlaw08_FeedFull p t = some true := by
  have kp1 : 0 ≤ p := kp.1
  have kp2 : p ≤ 255 := kp.2
  have kt1 : 0 ≤ t := kt.1
  have kt2 : t ≤ 255 := kt.2
  refine W.eq ?_
  unfold M_boulterlaw08_FeedFull M_feed_New
  simp only [Option.bind_some]
  have hp0 : 0 ≤ Int.tmod p 10 := Int.tmod_nonneg _ kp1
  have hp1 : Int.tmod p 10 < 10 := Int.tmod_lt_of_pos _ (by omega)
  have hK : IntKind.i64.wrap ((60 : Int) + (Int.tmod (IntKind.i64.wrap p) (10 : Int))) = 60 + Int.tmod p 10 := by
    rw [w64 (x := p) (by omega) (by omega), w64 (by omega) (by omega)]
  generalize hKd : 60 + Int.tmod p 10 = K at hK
  refine W.bind ((full0 p K hK (by omega) (by omega)).mono ?_)
  rintro _ ⟨now, size, closed, wait, rfl, hok, rfl, hcs⟩
  simp only [hK]
  have ht0 : 0 ≤ Int.tmod t 5 := Int.tmod_nonneg _ kt1
  have ht1 : Int.tmod t 5 < 5 := Int.tmod_lt_of_pos _ (by omega)
  rw [w64 (x := t) (by omega) (by omega)]
  obtain ⟨g, hg⟩ : ∃ g : Nat, Int.tmod t 5 = (g : Int) := ⟨(Int.tmod t 5).toNat, by omega⟩
  rw [hg] at ht0 ht1 ⊢
  refine W.bind ((someL _ _ hok (by omega)).mono ?_)
  rintro ⟨q, f', w⟩ ⟨hw, hq, hc, hcs', hok'⟩
  simp only at hw hq hc hcs' hok'
  subst hw
  have hcsF : (S_feed_Feed.cs ⟨wait, now, size, false⟩) = List.replicate (min K.toNat 64) [97, 98] := hcs
  rw [hcsF, Int.toNat_natCast] at hq hcs'
  have hql : q.length = g := by rw [hq, List.length_take, flat_ab]; omega
  have hf' : (⟨f'.wait_, f'.now_, f'.size_, f'.closed_⟩ : S_feed_Feed) = f' := rfl
  have hch := chunksL f' hok'
  have hcl : f'.cs.length = min K.toNat 64 - g / 2 := by rw [hcs', dropL_ab _ _ (by omega)]
  have hleft : IntKind.i64.wrap (mn K 64 - IntKind.i64.wrap (Int.tdiv (g : Int) 2)) = (f'.cs.length : Int) := by
    rw [hcl]
    have hd : Int.tdiv (g : Int) 2 = ((g / 2 : Nat) : Int) := by
      rw [Int.tdiv_eq_ediv_of_nonneg (by omega)]; omega
    rw [hd, w64 (x := ((g / 2 : Nat) : Int)) (by omega) (by omega)]
    unfold mn
    split
    · rw [w64 (by omega) (by omega)]; omega
    · rw [w64 (by omega) (by omega)]; omega
  simp only [hleft, hf', hql, hch, Option.bind_some]
  rw [show (((g : Nat) : Int) != ((g : Nat) : Int)) = false by simp, iteB_false]
  simp only [Option.bind_some]
  rw [show (((f'.cs.length : Nat) : Int) != ((f'.cs.length : Nat) : Int)) = false by simp, iteB_false]
  refine W.bind (W.bind ((putL f' [] hok').mono ?_))
  rintro ⟨e2, f2, w2⟩ ⟨hw2, hq2⟩
  simp only at hw2 hq2
  subst hw2
  rw [if_neg (by simp), if_neg (by rw [hc]; simp), if_pos trivial] at hq2
  obtain ⟨rfl, rfl⟩ := hq2
  refine W.ret ?_
  simp only
  rw [show ((0 : Int) != 0) = false from rfl, iteB_false, hf']
  refine W.bind ((putL f2 [99] hok').mono ?_)
  rintro ⟨e3, f3, w3⟩ ⟨hw3, hq3⟩
  simp only at hw3 hq3
  subst hw3
  rw [if_neg (by simp), if_neg (by rw [hc]; simp), if_neg (by simp)] at hq3
  split at hq3
  · rename_i h64
    obtain ⟨rfl, rfl⟩ := hq3
    rw [show decide (((f3.cs.length : Nat) : Int) < 64) = false from decide_eq_false (by omega)]
    refine W.bind ?_
    rw [show (((((8 : Int) == 0) == false) && (((8 : Int) == 0) || ((8 : Int) == 8)))) = true from rfl, iteB_true, hf']
    exact (W.need mk65 (putGreat2 f3 hok' _ zeros_len)).mono fullEnd
  · rename_i h64
    obtain ⟨rfl, hc3, hcs3, hok3⟩ := hq3
    rw [show decide (((f2.cs.length : Nat) : Int) < 64) = true from decide_eq_true (by omega)]
    refine W.bind ?_
    rw [show (((((0 : Int) == 0) == true) && (((0 : Int) == 0) || ((0 : Int) == 8)))) = true from rfl, iteB_true]
    exact (W.need mk65 (putGreat2 f3 hok3 _ zeros_len)).mono fullEnd
end Go.Av.L
