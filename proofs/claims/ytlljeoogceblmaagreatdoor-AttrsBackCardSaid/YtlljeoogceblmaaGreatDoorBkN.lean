/-
  Several texts in one.
-/
import Derived.Test.YtlljeoogceblmaaGreatDoorHdC
import Derived.Test.YtlljeoogceblmaaGreatDoorAvMap
import Derived.Test.YtlljeoogceblmaaGreatDoorAvMore
import Derived.Test.YtlljeoogceblmaaGreatDoorK0
import Derived.Test.YtlljeoogceblmaaGreatDoorK1
import Derived.Test.YtlljeoogceblmaaGreatDoorK2
import Derived.Test.YtlljeoogceblmaaGreatDoorK3
import Derived.Test.YtlljeoogceblmaaGreatDoorK4
import Derived.Test.YtlljeoogceblmaaGreatDoorK5
import Derived.Test.YtlljeoogceblmaaGreatDoorK6
import Derived.Lib.ItoaMem
/-
 A part.
-/
section
namespace Go.Av.L
open Go.Av Go.Lib
set_option linter.unusedVariables false
set_option linter.unusedSimpArgs false
set_option maxRecDepth 10000
theorem QW (s : List UInt8) : Dr s = false ↔ (0 : UInt8) ∉ s := by unfold Dr; rw [decide_eq_false_iff_not, MS]
theorem LK {s : List UInt8} (h : Dr s = false) : (0 : UInt8) ∉ s := (QW s).1 h
theorem NW : ∀ (k v i : Nat), i < k → (Gz v k)[i]? = some (UInt8.ofNat (48 + v / 8 ^ (k - 1 - i) % 8))
 | 0, v, i, h => by omega
 | k + 1, v, i, h => by
  unfold Gz
  by_cases hi : i < k
  ·rw [List.getElem?_append_left (by rw [D7]; exact hi), NW k (v / 8) i hi, Nat.div_div_eq_div_mul, show k + 1 - 1 - i = (k - 1 - i) + 1 by omega, Nat.pow_succ, Nat.mul_comm 8]
  ·obtain rfl : i = k := by omega
   rw [List.getElem?_append_right (by rw [D7]; exact Nat.le_refl _), D7]
   simp
theorem d8 (n : Nat) : ((UInt8.ofNat (48 + n % 8)).toNat : Int) = 48 + ((n % 8 : Nat) : Int) := by
 rw [UInt8.toNat_ofNat_of_lt' (by show 48 + n % 8 < 256; omega)]
 omega
theorem ER {L : List (List UInt8)} (hL : Shape L) {i : Nat} (hi : i < 16) :
  ((FF L.flatten (some ((K6 i : Nat) : Int)) (some (IntKind.i64.wrap (((K6 i : Nat) : Int) + ((Da.getD i 0 : Nat) : Int))))).bind fun x3 => some x3) = some (L.getD i []) := by
 obtain ⟨x, e, hx, hlen⟩ := hL.at_ hi
 have ho := hL.take i
 have hf := hL.flat
 rw [hx]
 have hb : K6 i + Da.getD i 0 ≤ 512 := by
  rw [← hf, e, List.flatten_append, List.flatten_cons, List.length_append, List.length_append, ho, hlen]; omega
 rw [show ((K6 i : Nat) : Int) + ((Da.getD i 0 : Nat) : Int) = ((K6 i + Da.getD i 0 : Nat) : Int) by omega, JK (by omega) (by omega), UU (by omega) (by omega), Option.bind_some, Nat.add_sub_cancel_left]
 rw [e, List.flatten_append, List.flatten_cons, ← ho, List.drop_left, ← hlen, List.take_left]
theorem byte_at {L : List (List UInt8)} (hL : Shape L) {i : Nat} (hi : i < 16) {b : UInt8} {r : List UInt8} (hx : L.getD i [] = b :: r) : L.flatten[K6 i]? = some b := by
 obtain ⟨x, e, hx', hlen⟩ := hL.at_ hi
 have ho := hL.take i
 rw [e, List.flatten_append, List.flatten_cons, List.getElem?_append_right (by omega), ho, Nat.sub_self, ← hx', hx]
 rfl
def AH (h : AJ) (q : List UInt8) : List UInt8 := [pd q 100, BZ h.Mode.toNat 8, BZ h.BP.toNat 8, BZ h.BQ.toNat 8, BZ h.BU.toNat 12, BZ h.Time.toNat 12].flatten
def ZH (h : AJ) (p : List UInt8) : List UInt8 := [[JG h.Kind], pd h.AU 100, Ml, pd h.AN 32, pd h.AO 32, BZ h.Aa.toNat 8, BZ h.Ag.toNat 8, pd p 155, List.replicate 12 0].flatten
theorem Kp (h : AJ) (p q m : List UInt8) : (Kk h p q m).flatten = AH h q ++ (m ++ ZH h p) := by
 unfold Kk AH ZH
 simp only [List.flatten_cons, List.flatten_nil, List.append_assoc, List.append_nil]
def MB (h : AJ) (p q : List UInt8) : Nat := Ib (AH h q) (ZH h p)
def EP (h : AJ) (p q : List UInt8) : List (List UInt8) := Kk h p q (BZ (MB h p q) 7 ++ [32])
structure Fit (h : AJ) (p q : List UInt8) : Prop where
 pt : Cy h.Name = some (p, q, true)
 pq : Hl h.Name (p, q, true)
 bX : R1 h = false
 t : h.AU.length ≤ 100 ∧ h.AN.length ≤ 32 ∧ h.AO.length ≤ 32
 n : (Qa h).all Ii = true
 k : 0 ≤ h.Kind ∧ h.Kind ≤ 255
theorem Fit.fits {h : AJ} {p q : List UInt8} (F : Fit h p q) : LR h true = 0 := by
 unfold LR
 rw [F.bX, if_neg (by simp), if_pos, if_pos F.n]
 unfold Qb
 simp only [Bool.true_and, Bool.and_eq_true, decide_eq_true_eq]
 exact F.t
theorem Fit.lens {h : AJ} {p q : List UInt8} (F : Fit h p q) : (AH h q).length = 148 ∧ (ZH h p).length = 356 := by
 obtain ⟨l1, l2⟩ := F.pq.len
 unfold AH ZH
 simp only [List.flatten_cons, List.flatten_nil, List.length_append, List.length_nil, Cb (show 1 ≤ 8 by omega), Cb (show 1 ≤ 12 by omega)]
 rw [Du l2, Du F.t.1, Du F.t.2.1, Du F.t.2.2, Du l1]
 exact ⟨rfl, rfl⟩
theorem Fit.sum {h : AJ} {p q : List UInt8} (F : Fit h p q) : MB h p q < 262144 := Q2 F.lens.1 F.lens.2
theorem Fit.shape {h : AJ} {p q : List UInt8} (F : Fit h p q) : Shape (EP h p q) :=
 MX F.pq.len.1 F.pq.len.2 (by rw [List.length_append, Cb (by omega)]; rfl) F.t
theorem WK {h : AJ} {p q : List UInt8} (F : Fit h p q) : Dw h = some ((EP h p q).flatten, 0) := by
 rw [(Uk F.pt F.pq F.fits F.k).1, Kp, XX F.lens.1 (by simp) F.lens.2]
 unfold EP
 rw [Kp]
 rfl
theorem VW {s : List UInt8} (h : Dr s = false) (i : Nat) : Dr (s.take i) = false := (QW _).2 fun hm => LK h (List.mem_of_mem_take hm)
theorem Vs {s : List UInt8} (h : Dr s = false) (i : Nat) : Dr (s.drop i) = false := (QW _).2 fun hm => LK h (List.mem_of_mem_drop hm)
theorem U4 {s p q : List UInt8} (h : Hl s (p, q, true)) (hn : Dr s = false) : Dr p = false ∧ Dr q = false := by
 rcases h with ⟨h1, e⟩ | ⟨h1, ⟨e, _⟩ | ⟨i, c, _, e⟩⟩
 ·cases e; exact ⟨rfl, hn⟩
 ·cases e
 ·cases e; exact ⟨VW hn i, Vs hn (i + 1)⟩
end Go.Av.L
end
/-
 A part.
-/
section
namespace Go.Av.L
open Go.Av
set_option linter.unusedVariables false
set_option linter.unusedSimpArgs false
def J9 (P : Program) : Nat → TypeId → AA → AA → Bool
 | 0, _, _, _ => false
 | d + 1, t, x, y =>
  match P.underlying t, x, y with
  | some .bool, .bool _, .bool _ => true
  | some (.int _), .int k _, .int k' _ => decide (k = k')
  | some .string, .str _, .str _ => true
  | some (.struct fs), .agg xs, .agg ys => !P.stoodInHeld t && fs.toList.all fun f => decide (f.name = "_") || (match Dp P f.type xs f.offset, Dp P f.type ys f.offset with | some a, some b => J9 P d f.type a b | _, _ => false)
  | some (.array n e), .agg xs, .agg ys => match Bq P e with | some z => (List.range n).all fun i => (match Dp P e xs (i * z), Dp P e ys (i * z) with | some a, some b => J9 P d e a b | _, _ => false) | none => false
  | _, _, _ => false
theorem Mr {P : Program} {eq : TypeId → AA → AA → Option Bool} {sm : TypeId → AA → AA → Bool} (h : ∀ t a b, sm t a b = true → ∃ v, eq t a b = some v) {xs ys : List AA} : ∀ fs : List Field, (fs.all fun f => decide (f.name = "_") || (match Dp P f.type xs f.offset, Dp P f.type ys f.offset with | some a, some b => sm f.type a b | _, _ => false)) = true → ∃ v, eqFields P eq xs ys fs = some v
 | [], _ => ⟨true, rfl⟩
 | f :: fs, hs => by
  simp only [List.all_cons, Bool.and_eq_true] at hs
  obtain ⟨v, hv⟩ := Mr h fs hs.2
  unfold eqFields
  by_cases hn : f.name = "_"
  ·rw [if_pos hn]; exact ⟨v, hv⟩
  ·rw [if_neg hn]
   have h1 := hs.1
   simp only [hn, decide_false, Bool.false_or] at h1
   split at h1
   ·rename_i a b ha hb
    rw [ha, hb]
    obtain ⟨u, hu⟩ := h _ _ _ h1
    simp only [hu]
    cases u
    ·exact ⟨false, rfl⟩
    ·exact ⟨v, hv⟩
   ·cases h1
theorem Nq {P : Program} {eq : TypeId → AA → AA → Option Bool} {sm : TypeId → AA → AA → Bool} (h : ∀ t a b, sm t a b = true → ∃ v, eq t a b = some v) {e : TypeId} {z : Nat} {xs ys : List AA} : ∀ n i : Nat, (∀ j, i ≤ j → j < i + n → (match Dp P e xs (j * z), Dp P e ys (j * z) with | some a, some b => sm e a b | _, _ => false) = true) → ∃ v, G0 P eq e z xs ys n i = some v
 | 0, i, _ => ⟨true, rfl⟩
 | n + 1, i, hs => by
  obtain ⟨v, hv⟩ := Nq h (e := e) (z := z) (xs := xs) (ys := ys) n (i + 1) (fun j h1 h2 => hs j (by omega) (by omega))
  have h1 := hs i (Nat.le_refl _) (by omega)
  unfold G0
  split at h1
  ·rename_i a b ha hb
   rw [ha, hb]
   obtain ⟨u, hu⟩ := h _ _ _ h1
   simp only [hu]
   cases u
   ·exact ⟨false, rfl⟩
   ·exact ⟨v, hv⟩
  ·cases h1
theorem YJ {P : Program} : ∀ (d : Nat) (t : TypeId) (x y : AA), J9 P d t x y = true → ∃ v, Fb P d t x y = some v
 | 0, _, _, _, h => by cases h
 | d + 1, t, x, y, h => by
  have ih := YJ (P := P) d
  unfold J9 at h
  split at h
  ·rename_i hu; unfold Fb; rw [hu]; exact ⟨_, rfl⟩
  ·rename_i hu; unfold Fb; rw [hu]; simp only [decide_eq_true_eq] at h; exact ⟨_, if_pos h⟩
  ·rename_i hu; unfold Fb; rw [hu]; exact ⟨_, rfl⟩
  ·rename_i hu
   simp only [Bool.and_eq_true, Bool.not_eq_true'] at h
   unfold Fb; rw [hu]
   simp only [h.1]
   exact Mr (sm := J9 P d) ih _ h.2
  ·rename_i hu
   split at h
   ·rename_i z hz
    unfold Fb; rw [hu]
    simp only [hz, Option.bind_some]
    refine Nq (sm := J9 P d) ih _ 0 fun j _ hj => ?_
    exact List.all_eq_true.1 h j (List.mem_range.2 (by omega))
   ·cases h
  ·cases h
theorem Kf {P : Program} {eq : TypeId → AA → AA → Option Bool} {sm : TypeId → AA → AA → Bool} (h : ∀ t a, sm t a a = true → eq t a a = some true) {xs : List AA} : ∀ fs : List Field, (fs.all fun f => decide (f.name = "_") || (match Dp P f.type xs f.offset, Dp P f.type xs f.offset with | some a, some b => sm f.type a b | _, _ => false)) = true → eqFields P eq xs xs fs = some true
 | [], _ => rfl
 | f :: fs, hs => by
  simp only [List.all_cons, Bool.and_eq_true] at hs
  have hv := Kf h fs hs.2
  unfold eqFields
  by_cases hn : f.name = "_"
  ·rw [if_pos hn]; exact hv
  ·rw [if_neg hn]
   have h1 := hs.1
   simp only [hn, decide_false, Bool.false_or] at h1
   cases ha : Dp P f.type xs f.offset with
   | none => rw [ha] at h1; cases h1
   | some a =>
    rw [ha] at h1
    simp only at h1 ⊢
    rw [h _ _ h1]
    exact hv
theorem La {P : Program} {eq : TypeId → AA → AA → Option Bool} {sm : TypeId → AA → AA → Bool} (h : ∀ t a, sm t a a = true → eq t a a = some true) {e : TypeId} {z : Nat} {xs : List AA} : ∀ n i : Nat, (∀ j, i ≤ j → j < i + n → (match Dp P e xs (j * z), Dp P e xs (j * z) with | some a, some b => sm e a b | _, _ => false) = true) → G0 P eq e z xs xs n i = some true
 | 0, i, _ => rfl
 | n + 1, i, hs => by
  have hv := La h (e := e) (z := z) (xs := xs) n (i + 1) (fun j h1 h2 => hs j (by omega) (by omega))
  have h1 := hs i (Nat.le_refl _) (by omega)
  unfold G0
  cases ha : Dp P e xs (i * z) with
  | none => rw [ha] at h1; cases h1
  | some a =>
   rw [ha] at h1
   simp only at h1 ⊢
   rw [h _ _ h1]
   exact hv
theorem R2 {P : Program} : ∀ (d : Nat) (t : TypeId) (x : AA), J9 P d t x x = true → Fb P d t x x = some true
 | 0, _, _, h => by cases h
 | d + 1, t, x, h => by
  have ih := R2 (P := P) d
  unfold J9 at h
  split at h
  ·rename_i hu hx; rename_i b c; unfold Fb; rw [hu]; cases hx; simp
  ·rename_i hu hx; unfold Fb; rw [hu]; cases hx; simp
  ·rename_i hu hx; unfold Fb; rw [hu]; cases hx; simp
  ·rename_i hu hx
   cases hx
   simp only [Bool.and_eq_true, Bool.not_eq_true'] at h
   unfold Fb; rw [hu]
   simp only [h.1]
   exact Kf (sm := J9 P d) ih _ h.2
  ·rename_i hu hx
   cases hx
   split at h
   ·rename_i z hz
    unfold Fb; rw [hu]
    simp only [hz, Option.bind_some]
    refine La (sm := J9 P d) ih _ 0 fun j _ hj => ?_
    exact List.all_eq_true.1 h j (List.mem_range.2 (by omega))
   ·cases h
  ·cases h
theorem RU {P : Program} {t : TypeId} {xs : List AA} (h : P.eqGuardType P.depth t = false) (h3 : J9 P 10000 t (.agg xs) (.agg xs) = true) : Wf P t xs xs = some true := by
 unfold Wf
 rw [if_neg (by rw [h]; decide)]
 exact R2 _ _ _ h3
end Go.Av.L
end
/-
 A part.
-/
section
namespace Go.Av.L
open Go.Av Go.Lib
set_option linter.unusedVariables false
set_option linter.unusedSimpArgs false
set_option maxRecDepth 10000
abbrev Pr := AB
abbrev Gh := List UInt8
def PZ (l : List Pr) : Prop := l.Pairwise fun a b => a.Key < b.Key
theorem Ps : ∀ {l l' : List Pr}, PZ l → PZ l' → (∀ q, q ∈ l ↔ q ∈ l') → l = l'
 | [], l', _, _, h => by
  cases l' with
  | nil => rfl
  | cons a l' => exact absurd ((h a).2 (by simp)) (by simp)
 | a :: l, [], _, _, h => absurd ((h a).1 (by simp)) (by simp)
 | a :: l, b :: l', s, s', h => by
  obtain ⟨s1, s2⟩ := List.pairwise_cons.1 s
  obtain ⟨s3, s4⟩ := List.pairwise_cons.1 s'
  have hab : a = b := by
   rcases List.mem_cons.1 ((h a).1 (by simp)) with h1 | h1
   ·exact h1
   ·rcases List.mem_cons.1 ((h b).2 (by simp)) with h2 | h2
    ·exact h2.symm
    ·exact absurd (List.lt_trans (s3 a h1) (s1 b h2)) (List.lt_irrefl _)
  subst hab
  refine congrArg (a :: ·) (Ps s2 s4 fun q => ?_)
  constructor
  ·intro hq
   rcases List.mem_cons.1 ((h q).1 (by simp [hq])) with h1 | h1
   ·subst h1; exact absurd (s1 q hq) (List.lt_irrefl _)
   ·exact h1
  ·intro hq
   rcases List.mem_cons.1 ((h q).2 (by simp [hq])) with h1 | h1
   ·subst h1; exact absurd (s3 q hq) (List.lt_irrefl _)
   ·exact h1
def K9 (c : UInt8) : Bool := decide (48 ≤ c.toNat) && decide (c.toNat ≤ 57)
def R3 (v : Nat) (c : UInt8) : Nat := 10 * v + (c.toNat - 48)
def Fs (s : List UInt8) : Nat := s.foldl R3 0
theorem KF (s : List UInt8) (c : UInt8) : Fs (s ++ [c]) = 10 * Fs s + (c.toNat - 48) := by unfold Fs; rw [List.foldl_append]; rfl
theorem TH : ∀ (s : List UInt8) (v : Nat), s.all K9 = true → s.foldl R3 v < (v + 1) * 10 ^ s.length
 | [], v, _ => by simp
 | c :: s, v, h => by
  simp only [List.all_cons, Bool.and_eq_true] at h
  have ih := TH s (R3 v c) h.2
  have hc := h.1
  unfold K9 at hc
  simp only [Bool.and_eq_true, decide_eq_true_eq] at hc
  rw [List.foldl_cons, List.length_cons, Nat.pow_succ]
  refine Nat.lt_of_lt_of_le ih ?_
  have e : (v + 1) * (10 ^ s.length * 10) = ((v + 1) * 10) * 10 ^ s.length := by rw [Nat.mul_comm (10 ^ s.length) 10, Nat.mul_assoc]
  rw [e]
  refine Nat.mul_le_mul_right _ ?_
  unfold R3
  omega
theorem Pz {s : List UInt8} (h : s.all K9 = true) {n : Nat} (hn : s.length ≤ n) : Fs s < 10 ^ n := by
 have := TH s 0 h
 rw [Nat.zero_add, Nat.one_mul] at this
 exact Nat.lt_of_lt_of_le this (Nat.pow_le_pow_right (by decide) hn)
theorem VK {s : List UInt8} (h : s.all K9 = true) (hn : s.length ≤ 16) : Fs s < 10000000000000000 := Pz h hn
theorem Za (c : UInt8) : (decide ((c.toNat : Int) < 48) || decide ((c.toNat : Int) > 57)) = !K9 c := by
 unfold K9
 by_cases h1 : 48 ≤ c.toNat <;> by_cases h2 : c.toNat ≤ 57
 ·rw [decide_eq_true h1, decide_eq_true h2, decide_eq_false (by omega), decide_eq_false (by omega)]; rfl
 ·rw [decide_eq_true h1, decide_eq_false h2, decide_eq_false (by omega), decide_eq_true (by omega)]; rfl
 ·rw [decide_eq_false h1, decide_eq_true h2, decide_eq_true (by omega), decide_eq_false (by omega)]; rfl
 ·rw [decide_eq_false h1, decide_eq_false h2, decide_eq_true (by omega), decide_eq_true (by omega)]; rfl
theorem Vt {c : UInt8} (h : K9 c = true) : 48 ≤ c.toNat ∧ c.toNat ≤ 57 := by
 unfold K9 at h
 simpa using h
theorem OV {s : List UInt8} {i : Nat} (hi : i < s.length) (ha : (s.take i).all K9 = true) (hd : K9 s[i] = true) : (s.take (i + 1)).all K9 = true := by
 rw [FQ (List.getElem?_eq_getElem hi), List.all_append, ha]
 simp [hd]
theorem TZ {s : List UInt8} {i : Nat} (hi : i < s.length) (hd : K9 s[i] = false) : s.all K9 = false := by
 rw [List.all_eq_false]
 exact ⟨s[i], List.getElem_mem hi, by rw [hd]; decide⟩
theorem Nx (x : List UInt8) : ∀ k, Fs (x ++ List.replicate k 48) = Fs x * 10 ^ k
 | 0 => by simp
 | k + 1 => by
  rw [List.replicate_succ', ← List.append_assoc, KF, Nx x k, Nat.pow_succ]
  show 10 * (Fs x * 10 ^ k) + 0 = Fs x * (10 ^ k * 10)
  rw [Nat.add_zero, Nat.mul_comm 10, Nat.mul_assoc]
theorem NQ : ∀ (s : List UInt8) (v : Nat), s.foldl R3 v = v * 10 ^ s.length + Fs s
 | [], v => by simp [Fs]
 | c :: s, v => by
  have h1 := NQ s (R3 v c)
  have h2 := NQ s (R3 0 c)
  unfold Fs at *
  rw [List.foldl_cons, List.foldl_cons, h1, h2, List.length_cons, Nat.pow_succ]
  unfold R3
  rw [Nat.add_mul, Nat.add_mul, Nat.mul_zero, Nat.zero_mul, Nat.zero_add, ← Nat.add_assoc]
  congr 2
  rw [Nat.mul_comm 10 v, Nat.mul_assoc, Nat.mul_comm 10]
theorem UD (c : UInt8) (s : List UInt8) : Fs (c :: s) = (c.toNat - 48) * 10 ^ s.length + Fs s := by
 have := NQ s (R3 0 c)
 unfold Fs at *
 rw [List.foldl_cons, this]
 unfold R3
 rw [Nat.mul_zero, Nat.zero_add]
theorem Ly {k : Nat} (h : k < 10) : (UInt8.ofNat (48 + k)).toNat = 48 + k := UInt8.toNat_ofNat_of_lt' (by show 48 + k < 256; omega)
theorem VE {k : Nat} (h : k < 10) : K9 (UInt8.ofNat (48 + k)) = true := by
 unfold K9
 rw [Ly h, decide_eq_true (by omega), decide_eq_true (by omega)]; rfl
theorem IU (u : Nat) : (decDigits u).all K9 = true ∧ Fs (decDigits u) = u ∧ 1 ≤ (decDigits u).length := by
 induction u using Nat.strongRecOn with
 | ind u ih =>
  rw [decDigits]
  by_cases h : u < 10
  ·rw [dif_pos h]
   refine ⟨by rw [List.all_cons, List.all_nil, VE h]; rfl, ?_, by rw [List.length_cons]; omega⟩
   show R3 0 (UInt8.ofNat (48 + u)) = u
   unfold R3
   rw [Ly h]
   omega
  ·rw [dif_neg h]
   obtain ⟨h1, h2, h3⟩ := ih (u / 10) (by omega)
   refine ⟨?_, ?_, by simp⟩
   ·rw [List.all_append, h1, List.all_cons, List.all_nil, VE (show u % 10 < 10 by omega)]; rfl
   ·rw [KF, h2, Ly (by omega)]; omega
theorem KG : ∀ (k u : Nat), 1 ≤ k → u < 10 ^ k → (decDigits u).length ≤ k
 | 0, u, h, _ => by omega
 | k + 1, u, _, h => by
  rw [decDigits]
  by_cases h0 : u < 10
  ·rw [dif_pos h0]; simp
  ·rw [dif_neg h0, List.length_append]
   cases k with
   | zero => rw [Nat.zero_add, Nat.pow_one] at h; omega
   | succ k =>
    have := KG (k + 1) (u / 10) (by omega) (by rw [Nat.pow_succ] at h; omega)
    simp; omega
theorem LY {n : Int} (h : 0 ≤ n) : Lib.itoa n = decDigits n.toNat := by unfold Lib.itoa; rw [if_neg (by omega)]
theorem OM {n : Int} (h : 0 ≤ n) (h2 : n ≤ 9007199254740991) : 1 ≤ (Lib.itoa n).length ∧ (Lib.itoa n).length ≤ 16 := by
 rw [LY h]
 exact ⟨(IU n.toNat).2.2, KG 16 n.toNat (by omega) (by rw [show 10 ^ 16 = 10000000000000000 from rfl]; omega)⟩
theorem XE (s : List UInt8) (hs : s.length ≤ 1000) : W (CO s) fun r => ∃ k, s = r ++ List.replicate k 48 := by
 unfold CO
 refine W.ite (fun _ => W.ret ⟨0, by simp⟩) fun _ => ?_
 unfold C1
 refine W.bind (W.bind (W.loop (fun x : List UInt8 => ∃ k, s = x ++ List.replicate k 48) (fun x => x.length) ⟨0, by simp⟩ fun x hx => ?_))
 obtain ⟨k, hk⟩ := hx
 have hxl : x.length ≤ 1000 := by have := congrArg List.length hk; rw [List.length_append] at this; omega
 unfold DS
 dsimp only
 rw [EH]
 by_cases h0 : (x.length : Int) > 0
 ·rw [if_pos h0, JK (by omega) (by omega), show (x.length : Int) - 1 = ((x.length - 1 : Nat) : Int) by omega, KI (by omega), Option.bind_some, Option.bind_some, show (48 : Int) = ((48 : Nat) : Int) from rfl, Tk (by omega)]
  by_cases hb : x[x.length - 1]'(by omega) = 48
  ·rw [show (x[x.length - 1]'(by omega) == UInt8.ofNat 48) = true from by rw [hb]; rfl, Ah, Is (by omega), Option.bind_some]
   refine W.ret ⟨⟨k + 1, ?_⟩, by rw [List.length_take]; omega⟩
   have hne : x ≠ [] := by intro e; rw [e] at h0; simp at h0
   have e1 : x = x.take (x.length - 1) ++ [48] := by
    conv => lhs; rw [← List.take_append_drop (x.length - 1) x, List.drop_eq_getElem_cons (show x.length - 1 < x.length by omega), hb]
    rw [List.drop_eq_nil_of_le (by omega)]
   rw [hk]
   conv => lhs; rw [e1]
   rw [List.append_assoc, List.replicate_succ]; rfl
  ·rw [show (x[x.length - 1]'(by omega) == UInt8.ofNat 48) = false from beq_eq_false_iff_ne.2 hb, AQ]
   exact W.ret (W.ret (W.ret ⟨k, hk⟩))
 ·rw [if_neg h0, Option.bind_some, AQ]
  exact W.ret (W.ret (W.ret ⟨k, hk⟩))
theorem Tl {ns : Nat} (h : ns < 1000000000) : ∃ r, decDigits (1000000000 + ns) = 49 :: r ∧ r.length = 9 ∧ r.all K9 = true ∧ Fs r = ns := by
 obtain ⟨f1, f2, f3⟩ := IU (1000000000 + ns)
 have h1 := KG 10 (1000000000 + ns) (by omega) (by rw [show 10 ^ 10 = 10000000000 from rfl]; omega)
 cases hd : decDigits (1000000000 + ns) with
 | nil => rw [hd] at f3; simp at f3
 | cons c r =>
  rw [hd] at f1 f2 h1
  rw [List.all_cons, Bool.and_eq_true] at f1
  obtain ⟨c1, c2⟩ := Vt f1.1
  have hlt := Pz f1.2 (Nat.le_refl r.length)
  have hl9 : r.length = 9 := by
   rw [List.length_cons] at h1
   rcases Nat.lt_or_ge r.length 9 with h9 | h9
   ·have hb : Fs (c :: r) < 10 ^ (r.length + 1) := Pz (by rw [List.all_cons, f1.1, f1.2]; rfl) (by simp)
    have : 10 ^ (r.length + 1) ≤ 10 ^ 9 := Nat.pow_le_pow_right (by decide) (by omega)
    rw [show 10 ^ 9 = 1000000000 from rfl] at this
    omega
   ·omega
  rw [UD, hl9, show 10 ^ 9 = 1000000000 from rfl] at f2
  rw [hl9, show 10 ^ 9 = 1000000000 from rfl] at hlt
  have hc : c.toNat = 49 := by omega
  refine ⟨r, ?_, hl9, f1.2, by omega⟩
  rw [← UInt8.toNat_inj.1 (show c.toNat = (49 : UInt8).toNat from hc)]
def N1 (t : Ac) : Prop := -9007199254740991 ≤ t.B6 ∧ t.B6 ≤ 9007199254740991 ∧ 0 ≤ t.BA ∧ t.BA < 1000000000
theorem XS {t : Ac} (h : N1 t) : Ct t = some true := by
 obtain ⟨h1, h2, h3, h4⟩ := h
 unfold Ct
 rw [decide_eq_true (by omega), decide_eq_true h2, decide_eq_true h3, decide_eq_true h4]; rfl
end Go.Av.L
end
