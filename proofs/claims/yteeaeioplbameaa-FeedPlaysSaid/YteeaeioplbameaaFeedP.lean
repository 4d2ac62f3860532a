/-
  Feed: a feed answers as a list of chunks.
-/
import Derived.Test.YteeaeioplbameaaFeedA
namespace Go.Av.L
open Go.Av Go.Lib
set_option linter.unusedVariables false
set_option linter.unusedSimpArgs false

abbrev St8 := S_boulterref08_State
theorem allL (x : St8) (h : x.L.flatten.length ≤ 4194304) (hl : x.L.length ≤ 64) : M_boulterref08_All x = some x.L.flatten := by
  refine W.eq ?_
  unfold M_boulterref08_All
  refine W.bind (W.loop (fun s => ∃ i : Nat, s = ((x.L.take i).flatten, (i : Int)) ∧ i ≤ x.L.length) (fun s => (64 - s.2).toNat) ⟨0, rfl, by omega⟩ ?_)
  rintro _ ⟨i, rfl, hi⟩
  unfold M_boulterref08_All_L0
  refine W.iteP (fun hb => ?_) fun hb => W.ret (W.ret ?_)
  · have hi' : i < x.L.length := by omega
    have e := take_snoc (List.getElem?_eq_getElem hi')
    have hfl : (x.L.take (i + 1)).flatten.length ≤ x.L.flatten.length := by
      conv => rhs; rw [← List.take_append_drop (i + 1) x.L, List.flatten_append]
      simp
    rw [ixV_get hi', Option.bind_some]
    have e3 : (x.L.take i).flatten ++ x.L[i] = (x.L.take (i + 1)).flatten := by rw [e, List.flatten_append]; simp
    refine W.need (decide_eq_true ?_) (W.ret ⟨⟨i + 1, ?_, by omega⟩, ?_⟩)
    · rw [← List.length_append, e3]; omega
    · rw [e3, ek64 (by omega)]
    · simp only; rw [ek64 (by omega)]; omega
  · rw [List.take_of_length_le (by omega)]
theorem dropRef (x : St8) (n : Nat) (hne : ∀ y ∈ x.L, y ≠ []) (hl : x.L.length ≤ 64) (hb : ∀ y ∈ x.L, y.length ≤ 65536) (hn : n ≤ 1000000000) : M_boulterref08_Drop x (n : Int) = some ⟨dropL x.L n, x.Closed⟩ := by
  refine W.eq ?_
  unfold M_boulterref08_Drop
  refine W.bind (W.loop (fun s => ∃ acc, ∃ k i : Nat, s = (acc, (k : Int), (i : Int)) ∧ i ≤ x.L.length ∧ k ≤ 1000000000 ∧ acc.length ≤ i ∧ acc ++ dropL (x.L.drop i) k = dropL x.L n) (fun s => (64 - s.2.2).toNat) ⟨[], n, 0, rfl, by omega, hn, by simp, by simp⟩ ?_)
  rintro _ ⟨acc, k, i, rfl, hi, hk, hal, hacc⟩
  unfold M_boulterref08_Drop_L0
  refine W.iteP (fun hlt => ?_) fun hlt => W.ret (W.ret ?_)
  · have hi' : i < x.L.length := by omega
    have hm := List.getElem_mem hi'
    have hbi := hb _ hm
    rw [ixV_get hi']
    simp only [Option.bind_some]
    rw [drop_cons hi'] at hacc
    have hne' : ∀ y ∈ x.L.drop (i + 1), y ≠ [] := fun y hy => hne y (List.mem_of_mem_drop hy)
    have e2 : IntKind.i64.wrap ((i : Int) + 1) = ((i + 1 : Nat) : Int) := ek64 (by omega)
    rw [e2]
    by_cases hlt2 : k < x.L[i].length
    · have hmn : mn (k : Int) (x.L[i].length : Int) = (k : Int) := by unfold mn; rw [if_neg (by omega)]
      rw [hmn, show decide ((k : Int) < (x.L[i].length : Int)) = true from decide_eq_true (by omega), iteB_true, subS_lo (by omega)]
      simp only [Option.bind_some]
      refine W.bind (W.need (okN_of (by simp; omega) (by simp; omega)) (W.ret (W.ret ⟨⟨acc ++ [x.L[i].drop k], 0, i + 1, ?_, by omega, by omega, ?_, ?_⟩, ?_⟩)))
      · rw [show (k : Int) - (k : Int) = 0 by omega]; rfl
      · simp; omega
      · rw [dropL_zero _ hne', ← hacc]
        simp only [dropL, if_pos hlt2, List.append_assoc, List.singleton_append]
      · simp only; omega
    · have hmn : mn (k : Int) (x.L[i].length : Int) = (x.L[i].length : Int) := by
        unfold mn; split <;> omega
      rw [hmn, show decide ((x.L[i].length : Int) < (x.L[i].length : Int)) = false from decide_eq_false (by omega), iteB_false]
      simp only [Option.bind_some]
      refine W.ret ⟨⟨acc, k - x.L[i].length, i + 1, ?_, by omega, by omega, by omega, ?_⟩, ?_⟩
      · rw [w64 (by omega) (by omega)]
        congr 2; omega
      · rw [← hacc]
        simp only [dropL, if_neg hlt2]
      · simp only; omega
  · have : x.L.drop i = [] := List.drop_eq_nil_of_le (by omega)
    rw [this] at hacc
    rw [← hacc]
    simp [dropL]
theorem putRef (x : St8) (p : List UInt8) (hl : x.L.length ≤ 64) : W (M_boulterref08_Put x p) (fun r =>
    if 65536 < p.length then r.2 = 12 ∧ r.1 = x else if x.Closed = true then r.2 = 10 ∧ r.1 = x else if p = [] then r.2 = 0 ∧ r.1 = x else if 64 ≤ x.L.length then r.2 = 8 ∧ r.1 = x
    else r.2 = 0 ∧ r.1 = ⟨x.L ++ [p], false⟩) := by
  unfold M_boulterref08_Put
  refine W.iteP (fun h1 => W.ret ?_) fun h1 => W.ite (fun h2 => W.ret ?_) fun h2 => W.ite (fun h3 => W.ret ?_) fun h3 => W.iteP (fun h4 => W.ret ?_) fun h4 => ?_
  · rw [if_pos (by omega)]; exact ⟨rfl, rfl⟩
  · rw [if_neg (by omega), if_pos h2]; exact ⟨rfl, rfl⟩
  · rw [if_neg (by omega), if_neg (by rw [h2]; simp), if_pos (by simpa using h3)]; exact ⟨rfl, rfl⟩
  · rw [if_neg (by omega), if_neg (by rw [h2]; simp), if_neg (by simpa using h3), if_pos (by omega)]; exact ⟨rfl, rfl⟩
  · refine W.need (okN_of (by simp; omega) (by simp; omega)) (W.need (okN_of (by simp; omega) (by simp; omega)) (W.ret ?_))
    rw [if_neg (by omega), if_neg (by rw [h2]; simp), if_neg (by simpa using h3), if_neg (by omega)]
    exact ⟨rfl, by simp⟩

/-- both are told alike -/
def Like (f : Fd) (x : St8) : Prop := OkF f ∧ f.cs = x.L ∧ f.closed_ = x.Closed
theorem oneL (f : Fd) (x : St8) (o : S_boulterlaw08_Op) (h : Like f x) (hs : o.S.length ≤ 200) (hN : o.N ≤ 9223372036854775807) :
    W (M_boulterlaw08_one_sPCHRR f x o) (fun r => r.2.1 = true ∧ r.2.2.2 = r.2.2.1.wait_ ∧ Like r.2.2.1 r.1) := by
  obtain ⟨hok, hcs, hcl⟩ := h
  have hlen := hok.len
  have htot := hok.tot
  have hne := hok.chNe
  have hbig := hok.big
  rw [hcs] at hlen htot hne hbig
  have hall := allL x htot hlen
  unfold M_boulterlaw08_one_sPCHRR
  refine W.ite (fun hk => ?_) fun hk => W.ite (fun hk2 => ?_) fun hk2 => W.ite (fun hk3 => ?_) fun hk3 => W.ite (fun hk4 => ?_) fun hk4 => W.ret ⟨rfl, rfl, hok, hcs, hcl⟩
  · refine W.bind ((putRef x o.S hlen).mono ?_)
    rintro ⟨x1, e1⟩ h1
    simp only at h1
    refine W.need (decide_eq_true (by omega)) (W.bind ((putL f o.S hok).mono ?_))
    rintro ⟨e2, f2, w2⟩ ⟨hw, h2⟩
    simp only at hw h2
    subst hw
    refine W.ret ?_
    rw [hcl, hcs] at h2
    have hf2 : (⟨f2.wait_, f2.now_, f2.size_, f2.closed_⟩ : S_feed_Feed) = f2 := rfl
    rw [hf2]
    rw [if_neg (by omega)] at h1 h2
    by_cases hc : x.Closed = true
    · rw [if_pos hc] at h1 h2
      obtain ⟨rfl, rfl⟩ := h1; obtain ⟨rfl, rfl⟩ := h2
      exact ⟨rfl, rfl, hok, hcs, hcl⟩
    · rw [if_neg hc] at h1 h2
      by_cases hp : o.S = []
      · rw [if_pos hp] at h1 h2
        obtain ⟨rfl, rfl⟩ := h1; obtain ⟨rfl, rfl⟩ := h2
        exact ⟨rfl, rfl, hok, hcs, hcl⟩
      · rw [if_neg hp] at h1 h2
        by_cases h64 : 64 ≤ x.L.length
        · rw [if_pos h64] at h1 h2
          obtain ⟨rfl, rfl⟩ := h1; obtain ⟨rfl, rfl⟩ := h2
          exact ⟨rfl, rfl, hok, hcs, hcl⟩
        · rw [if_neg h64] at h1 h2
          obtain ⟨rfl, rfl⟩ := h1; obtain ⟨rfl, hc2, hcs2, hok2⟩ := h2
          exact ⟨rfl, rfl, hok2, hcs2, by rw [hc2]; simpa using hc⟩
  · unfold M_feed_Feed_Take_sPCHI
    have hsz := hok.sz
    rw [hcs] at hsz
    rw [hsz]
    by_cases hout : o.N < 0 ∨ o.N > (x.L.flatten.length : Int)
    · have hb : ((decide (o.N < (0 : Int))) || (decide (o.N > (x.L.flatten.length : Int)))) = true := by simpa using hout
      rw [hb, iteB_true]
      simp only [Option.bind_some, hall, hb, iteB_true]
      exact W.ret ⟨rfl, rfl, hok, hcs, hcl⟩
    · have hb : ((decide (o.N < (0 : Int))) || (decide (o.N > (x.L.flatten.length : Int)))) = false := by
        simp only [Bool.or_eq_false_iff, decide_eq_false_iff_not]; omega
      rw [hb, iteB_false]
      refine W.bind (W.bind ((someL f o.N hok hN).mono ?_))
      rintro ⟨q, f2, w2⟩ ⟨hw, hq, hc2, hcs2, hok2⟩
      simp only at hw hq hc2 hcs2 hok2
      subst hw
      rw [hcs] at hq hcs2
      refine W.ret ?_
      simp only
      rw [hall, Option.bind_some, hb, iteB_false]
      obtain ⟨k, hk⟩ : ∃ k : Nat, o.N = (k : Int) := ⟨o.N.toNat, by omega⟩
      rw [hk] at hq hcs2 ⊢
      rw [Int.toNat_natCast] at hq hcs2
      rw [dropRef x k hne hlen hbig (by omega), Option.bind_some, iteB_true, subS_hi (by omega), Option.bind_some]
      refine W.ret ⟨by rw [hq]; simp, rfl, hok2, hcs2, by rw [← hcl]; exact hc2⟩
  · rw [hall, Option.bind_some]
    obtain ⟨k, hk, hk2⟩ : ∃ k : Nat, mx (mn o.N (x.L.flatten.length : Int)) 0 = (k : Int) ∧ k ≤ x.L.flatten.length ∧ (k = o.N.toNat ∨ (k = x.L.flatten.length ∧ k ≤ o.N.toNat)) := by
      refine ⟨(mx (mn o.N (x.L.flatten.length : Int)) 0).toNat, ?_, ?_, ?_⟩
      · unfold mx mn; split <;> split <;> omega
      · unfold mx mn; split <;> split <;> omega
      · unfold mx mn; split <;> split <;> omega
    rw [hk, dropRef x k hne hlen hbig (by omega), Option.bind_some]
    refine W.bind ((someL f o.N hok hN).mono ?_)
    rintro ⟨q, f2, w2⟩ ⟨hw, hq, hc2, hcs2, hok2⟩
    simp only at hw hq hc2 hcs2 hok2
    subst hw
    rw [hcs] at hq hcs2
    dsimp only
    rw [subS_hi hk2.1, Option.bind_some]
    have e1 : x.L.flatten.take o.N.toNat = x.L.flatten.take k := by
      rcases hk2.2 with rfl | ⟨h1, h2⟩
      · rfl
      · rw [List.take_of_length_le (by omega), List.take_of_length_le (by omega)]
    have e2 : dropL x.L o.N.toNat = dropL x.L k := by
      rcases hk2.2 with rfl | ⟨h1, h2⟩
      · rfl
      · rw [dropL_all _ _ (by omega) hne, dropL_all _ _ (by omega) hne]
    refine W.ret ⟨by rw [hq, e1]; simp, rfl, hok2, by rw [← e2]; exact hcs2, by rw [← hcl]; exact hc2⟩
  · unfold M_feed_Feed_Close_sPCH
    by_cases hc : f.closed_ = true
    · rw [hc, iteB_true, Option.bind_some]
      simp only
      rw [show x.Closed = true by rw [← hcl]; exact hc, iteB_true]
      exact W.ret ⟨rfl, rfl, hok, hcs, by rw [← hcl]⟩
    · have hc' : f.closed_ = false := by simpa using hc
      rw [hc', iteB_false, Option.bind_some]
      simp only
      rw [show x.Closed = false by rw [← hcl]; exact hc', iteB_false]
      exact W.ret ⟨rfl, rfl, ⟨hok.ne, hok.sz, hok.len, hok.big⟩, hcs, rfl⟩

abbrev PS := (Bool × (List UInt8) × Int × Bool × (List (List UInt8)) × Int) ⊕ ((List (List UInt8)) × Bool × (List UInt8) × Int × Bool × (List (List UInt8)) × Int)
def okOut : (Bool × (List UInt8) × Int × Bool × (List (List UInt8))) ⊕ ((List (List UInt8)) × Bool × (List UInt8) × Int × Bool × (List (List UInt8))) ⊕ (Bool × (List UInt8) × Int × Bool × (List (List UInt8)) × Bool) ⊕ ((List (List UInt8)) × Bool × (List UInt8) × Int × Bool × (List (List UInt8)) × Bool) → Prop
  | .inl _ => True
  | .inr (.inl _) => True
  | .inr (.inr (.inl t)) => t.2.2.2.2.2 = true
  | .inr (.inr (.inr t)) => t.2.2.2.2.2.2 = true
theorem playsLoop (l : List S_boulterlaw08_Op) (kl : okL (fun x : S_boulterlaw08_Op => okI .i64 x.Kind ∧ okI .i64 x.N ∧ okT x.S ∧ True) l) : W (loop (M_boulterlaw08_FeedPlays_L0 l) (Sum.inl (false, ([] : List UInt8), (0 : Int), false, ([] : List (List UInt8)), (0 : Int)))) okOut := by
  refine W.loop (Q := okOut) (fun s : PS => ∃ x : St8, ∃ f : Fd, ∃ i : Nat, i ≤ 100 ∧ Like f x ∧ (s = Sum.inl (x.Closed, f.now_, f.size_, f.closed_, f.wait_, (i : Int)) ∧ x.L = [] ∨ s = Sum.inr (x.L, x.Closed, f.now_, f.size_, f.closed_, f.wait_, (i : Int))))
    (fun s : PS => match s with | Sum.inl t => (100 - t.2.2.2.2.2).toNat | Sum.inr t => (100 - t.2.2.2.2.2.2).toNat) ⟨⟨[], false⟩, ⟨[], [], 0, false⟩, 0, by omega, ⟨⟨by simp, by simp [S_feed_Feed.cs, chs], by simp [S_feed_Feed.cs, chs], by simp [S_feed_Feed.cs, chs]⟩, by simp [S_feed_Feed.cs, chs], rfl⟩, .inl ⟨rfl, rfl⟩⟩ ?_
  have round : ∀ (x : St8) (f : Fd) (i : Nat), i < l.length → i < 100 → Like f x → ∀ o, l[i]? = some o → o.S.length ≤ 200 →
      W ((M_boulterlaw08_one_sPCHRR f x o).bind fun (x53, x54, x55, x56) => iteB (!x54) (some (.inr (.inr (.inr (.inr (x53.L, x53.Closed, x55.now_, x55.size_, x55.closed_, x56, false)))))) ((M_feed_Feed_Len_sPCH (⟨x56, x55.now_, x55.size_, x55.closed_⟩ : S_feed_Feed)).bind fun x57 => (M_boulterref08_All x53).bind fun x58 => iteB (x57 != (x58.length : Int)) (some (.inr (.inr (.inr (.inr (x53.L, x53.Closed, x55.now_, x55.size_, x55.closed_, x56, false)))))) ((M_feed_Feed_Chunks_sPCH (⟨x56, x55.now_, x55.size_, x55.closed_⟩ : S_feed_Feed)).bind fun x59 => (iteB (x59 != (x53.L.length : Int)) (some true) ((M_feed_Feed_Closed_sPCH (⟨x56, x55.now_, x55.size_, x55.closed_⟩ : S_feed_Feed)).bind fun x61 => some (!(x61 == x53.Closed))) : Option (Bool)).bind fun x60 => iteB x60 (some (.inr (.inr (.inr (.inr (x53.L, x53.Closed, x55.now_, x55.size_, x55.closed_, x56, false)))))) (some (.inl (.inr (x53.L, x53.Closed, x55.now_, x55.size_, x55.closed_, x56, IntKind.i64.wrap ((i : Int) + (1 : Int)))) : ((Bool × (List UInt8) × Int × Bool × (List (List UInt8)) × Int) ⊕ ((List (List UInt8)) × Bool × (List UInt8) × Int × Bool × (List (List UInt8)) × Int)) ⊕ ((Bool × (List UInt8) × Int × Bool × (List (List UInt8))) ⊕ ((List (List UInt8)) × Bool × (List UInt8) × Int × Bool × (List (List UInt8))) ⊕ (Bool × (List UInt8) × Int × Bool × (List (List UInt8)) × Bool) ⊕ ((List (List UInt8)) × Bool × (List UInt8) × Int × Bool × (List (List UInt8)) × Bool)))))))
      (fun r => ∃ x' : St8, ∃ f' : Fd, Like f' x' ∧ r = .inl (.inr (x'.L, x'.Closed, f'.now_, f'.size_, f'.closed_, f'.wait_, ((i + 1 : Nat) : Int)))) := by
    intro x f i hi hi2 hlk o ho hs
    refine W.bind ((oneL f x o hlk hs (kl.2 o (List.mem_of_getElem? ho)).2.1.2).mono ?_)
    rintro ⟨x2, b2, f2, w2⟩ ⟨hb, hw, hlk2⟩
    simp only at hb hw hlk2
    subst hb; subst hw
    obtain ⟨hok, hcs, hcl⟩ := hlk2
    have hf2 : (⟨f2.wait_, f2.now_, f2.size_, f2.closed_⟩ : S_feed_Feed) = f2 := rfl
    have htot := hok.tot
    have hlen := hok.len
    have hsz := hok.sz
    have hch := chunksL f2 hok
    rw [hcs] at htot hlen hsz hch
    simp only [hf2, Bool.not_true, iteB_false, M_feed_Feed_Len_sPCH, Option.bind_some, allL x2 htot hlen, hch, M_feed_Feed_Closed_sPCH]
    rw [show (f2.size_ != (x2.L.flatten.length : Int)) = false by rw [hsz]; simp, iteB_false, show ((x2.L.length : Int) != (x2.L.length : Int)) = false by simp, iteB_false]
    simp only [Option.bind_some]
    rw [show (!(f2.closed_ == x2.Closed)) = false by rw [hcl]; simp, iteB_false]
    refine W.ret ⟨x2, f2, ⟨hok, hcs, hcl⟩, ?_⟩
    rw [ek64 (by omega)]
  rintro s ⟨x, f, i, hi, hlk, hs⟩
  rcases hs with ⟨rfl, hL⟩ | rfl
  · unfold M_boulterlaw08_FeedPlays_L0
    refine W.ite (fun hb => ?_) fun hb => W.ret trivial
    simp only [Bool.and_eq_true, decide_eq_true_eq] at hb
    have hil : i < l.length := by omega
    simp only [ixV_get hil, Option.bind_some]
    refine W.iteP (fun h => W.ret rfl) fun h => ?_
    have hx : (⟨([] : List (List UInt8)), x.Closed⟩ : St8) = x := by rw [← hL]
    rw [hx]
    refine (round x f i hil (by omega) hlk l[i] (List.getElem?_eq_getElem hil) (by omega)).mono ?_
    rintro _ ⟨x', f', hl', rfl⟩
    exact ⟨⟨x', f', i + 1, by omega, hl', .inr rfl⟩, by simp only; omega⟩
  · unfold M_boulterlaw08_FeedPlays_L0
    refine W.ite (fun hb => ?_) fun hb => W.ret trivial
    simp only [Bool.and_eq_true, decide_eq_true_eq] at hb
    have hil : i < l.length := by omega
    simp only [ixV_get hil, Option.bind_some]
    refine W.iteP (fun h => W.ret rfl) fun h => ?_
    refine (round x f i hil (by omega) hlk l[i] (List.getElem?_eq_getElem hil) (by omega)).mono ?_
    rintro _ ⟨x', f', hl', rfl⟩
    exact ⟨⟨x', f', i + 1, by omega, hl', .inr rfl⟩, by simp only; omega⟩
theorem lawFeedPlays (l : List S_boulterlaw08_Op) (kl : okL (fun x : S_boulterlaw08_Op => okI .i64 x.Kind ∧ okI .i64 x.N ∧ okT x.S ∧ True) l) : M_boulterlaw08_FeedPlays l = some true := by
  refine W.eq ?_
  unfold M_boulterlaw08_FeedPlays M_feed_New
  simp only [Option.bind_some]
  refine W.bind ((playsLoop l kl).mono ?_)
  intro r hr
  rcases r with t | t | t | t
  · exact W.ret rfl
  · exact W.ret rfl
  · obtain ⟨a, b, c, d, e, g⟩ := t
    exact W.ret hr
  · obtain ⟨a, b, c, d, e, g, k⟩ := t
    exact W.ret hr
end Go.Av.L
