/-
  Several texts in one.
-/
import Derived.Test.YtlljeoogceblmaaGreatDoorBkA
import Derived.Test.YtlljeoogceblmaaGreatDoorBkN
/-
 A part.
-/
section
namespace Go.Av.L
open Go.Av Go.Lib
set_option linter.unusedVariables false
set_option linter.unusedSimpArgs false
set_option maxRecDepth 10000
theorem Ia {n : Int} (h : 0 ≤ n) (h2 : n ≤ 9007199254740991) : GU (Lib.itoa n) = (n, 0) := by
 obtain ⟨f1, f2, f3⟩ := IU n.toNat
 have hl := KG 16 n.toNat (by omega) (by rw [show 10 ^ 16 = 10000000000000000 from rfl]; omega)
 unfold GU
 rw [LY h, if_neg (by omega), if_pos f1, f2, if_neg (by omega)]
 congr 1
 omega
theorem Zm {s : List UInt8} (h : s.all K9 = true) : (46 : UInt8) ∉ s := fun hm => by
 rw [List.all_eq_true] at h
 exact absurd (h _ hm) (by decide)
theorem UX {s : List UInt8} (h : s.all K9 = true) (h1 : 1 ≤ s.length) (t : List UInt8) : TU (s ++ t) = (s ++ t, false) := by
 cases s with
 | nil => simp at h1
 | cons c s =>
  have hc : c ≠ 45 := fun e => by subst e; rw [List.all_cons, Bool.and_eq_true] at h; exact absurd h.1 (by decide)
  show (if c = 45 then (s ++ t, true) else (c :: (s ++ t), false)) = _
  rw [if_neg hc]; rfl
def ZO (sec ns : Nat) (body : List UInt8) : Prop := (ns = 0 ∧ body = decDigits sec) ∨ (0 < ns ∧ ∃ pt k, body = decDigits sec ++ 46 :: pt ∧ (decDigits (1000000000 + ns)).drop 1 = pt ++ List.replicate k 48)
def Wl (sign : Bool) (sec ns : Nat) : Option (Ac × Int) :=
 (Ad sign ((Cr (⟨(sec : Int), (ns : Int)⟩ : Ac)).bind fun x14 => some (x14.B6, x14.BA)) (some ((sec : Int), (ns : Int))) : Option ((Int × Int))).bind fun (x12, x13) => (Ct (⟨x12, x13⟩ : Ac)).bind fun x15 => Ad (!x15) (some ((⟨(0 : Int), (0 : Int)⟩ : Ac), (6 : Int))) (some ((⟨x12, x13⟩ : Ac), (0 : Int)))
theorem Q0 {sign : Bool} {sec ns : Nat} {body : List UInt8} (h1 : sec ≤ 9007199254740991) (h2 : ns < 1000000000) (hb : ZO sec ns body) : CC ((bif sign then [45] else []) ++ body) = Wl sign sec ns := by
 obtain ⟨f1, f2, f3⟩ := IU sec
 have hl := KG 16 sec (by omega) (by rw [show 10 ^ 16 = 10000000000000000 from rfl]; omega)
 have hm : TU ((bif sign then [45] else []) ++ body) = (body, sign) := by
  have e : ∃ t, body = decDigits sec ++ t := by
   rcases hb with ⟨_, e⟩ | ⟨_, pt, k, e, _⟩
   ·exact ⟨[], by rw [e, List.append_nil]⟩
   ·exact ⟨_, e⟩
  obtain ⟨t, rfl⟩ := e
  cases sign with
  | true => rfl
  | false => exact UX f1 f3 t
 have hds : Mo (decDigits sec) 16 = ((sec : Int), true) := by
  unfold Mo
  rw [if_neg (by omega), if_pos f1, List.take_of_length_le (by omega), f2]
 unfold CC
 rw [XM, hm, Option.bind_some]
 dsimp only
 rcases hb with ⟨rfl, rfl⟩ | ⟨h0, pt, k, rfl, hk⟩
 ·rw [decide_eq_true (by omega), BO, bM (Zm f1)]
  dsimp only
  rw [show (16 : Int) = ((16 : Nat) : Int) from rfl, NP _ _ (by omega), hds, Option.bind_some]
  dsimp only
  rw [Bool.not_true, AQ, AQ, Option.bind_some]
  rfl
 ·obtain ⟨r, hr, r1, r2, r3⟩ := Tl h2
  rw [hr, List.drop_succ_cons, List.drop_zero] at hk
  subst hk
  rw [List.length_append, List.length_replicate] at r1
  rw [List.all_append, Bool.and_eq_true] at r2
  have hp1 : 1 ≤ pt.length := by
   rcases Nat.eq_zero_or_pos pt.length with e | e
   ·have : pt = [] := List.eq_nil_of_length_eq_zero e
    subst this
    have := Nx [] k
    rw [this] at r3
    simp [Fs] at r3
    omega
   ·exact e
  rw [decide_eq_true (by rw [List.length_append, List.length_cons]; omega), BO, ZY (Zm f1)]
  dsimp only
  rw [show (16 : Int) = ((16 : Nat) : Int) from rfl, NP _ _ (by omega), hds, Option.bind_some]
  dsimp only
  rw [Bool.not_true, AQ, Ah, show (40 : Int) = ((40 : Nat) : Int) from rfl, NP _ _ (by omega)]
  have hd40 : Mo pt 40 = ((Fs (pt.take 16) : Int), true) := by unfold Mo; rw [if_neg (by omega), if_pos r2.1]
  rw [hd40, Option.bind_some]
  dsimp only
  rw [Bool.not_true, AQ, decide_eq_true (by simp; omega), BO, show (9 : Int) = ((9 : Nat) : Int) from rfl, Is (by simp; omega), Option.bind_some]
  have e9 : (pt ++ ([48, 48, 48, 48, 48, 48, 48, 48] : List UInt8)).take 9 = pt ++ List.replicate k 48 := by
   rw [show ([48, 48, 48, 48, 48, 48, 48, 48] : List UInt8) = List.replicate 8 48 from rfl, List.take_append, List.take_of_length_le (by omega), List.take_replicate]
   congr 2
   omega
  rw [e9, NP _ _ (by rw [List.length_append, List.length_replicate]; omega)]
  have hd9 : Mo (pt ++ List.replicate k 48) 9 = ((ns : Int), true) := by
   unfold Mo
   rw [if_neg (by rw [List.length_append, List.length_replicate]; omega), if_pos (by rw [List.all_append, r2.1, r2.2]; rfl), List.take_of_length_le (by rw [List.length_append, List.length_replicate]; omega), r3]
  rw [hd9, Option.bind_some]
  dsimp only
  rw [Option.bind_some]
  rfl
theorem XN {t : Ac} (h : N1 t) : W (ED t) fun r => r.2 = 0 ∧ 1 ≤ r.1.length ∧ r.1.length ≤ 60 ∧ CC r.1 = some (t, 0) := by
 have hr := XS h
 obtain ⟨h1, h2, h3, h4⟩ := h
 unfold ED
 rw [hr, Option.bind_some, Bool.not_true, AQ]
 obtain ⟨sec, ns, sign, hsec, hns, hmid, hend⟩ : ∃ (sec ns : Nat) (sign : Bool), sec ≤ 9007199254740991 ∧ ns < 1000000000 ∧
   (Ad (decide (t.B6 < 0)) ((Cr t).bind fun x5 => some (x5.B6, x5.BA, ([45] : List UInt8))) (some (t.B6, t.BA, ([] : List UInt8))) : Option ((Int × Int × (List UInt8)))) = some ((sec : Int), (ns : Int), bif sign then [45] else []) ∧ Wl sign sec ns = some (t, 0) := by
  by_cases hs : t.B6 < 0
  ·by_cases hn : t.BA = 0
   ·refine ⟨(-t.B6).toNat, 0, true, by omega, by omega, ?_, ?_⟩
    ·rw [decide_eq_true hs, Ah]
     unfold Cr
     rw [show (t.BA == 0) = true from by rw [hn]; rfl, Ah, Option.bind_some, JK (by omega) (by omega)]
     simp only [cond_true]
     rw [show (0 : Int) - t.B6 = (((-t.B6).toNat : Nat) : Int) by omega]
     rfl
    ·unfold Wl Cr
     rw [Ah, show ((((0 : Nat) : Int)) == 0) = true from rfl, Ah, Option.bind_some, Option.bind_some]
     dsimp only
     rw [JK (by omega) (by omega), show (0 : Int) - (((-t.B6).toNat : Nat) : Int) = t.B6 by omega, show (⟨t.B6, 0⟩ : Ac) = t from by rw [← hn], hr]
     rfl
   ·refine ⟨(-t.B6 - 1).toNat, (1000000000 - t.BA).toNat, true, by omega, by omega, ?_, ?_⟩
    ·rw [decide_eq_true hs, Ah]
     unfold Cr
     rw [show (t.BA == 0) = false from beq_eq_false_iff_ne.2 hn, AQ, Option.bind_some, JK (x := 0 - t.B6) (by omega) (by omega), JK (by omega) (by omega), JK (by omega) (by omega)]
     simp only [cond_true]
     have e1 : (0 : Int) - t.B6 - 1 = (((-t.B6 - 1).toNat : Nat) : Int) := by omega
     have e2 : (1000000000 : Int) - t.BA = (((1000000000 - t.BA).toNat : Nat) : Int) := by omega
     rw [← e1, ← e2]
    ·unfold Wl Cr
     rw [Ah]
     dsimp only
     rw [show ((((1000000000 - t.BA).toNat : Nat) : Int) == 0) = false from by rw [beq_eq_false_iff_ne]; omega, AQ, Option.bind_some, Option.bind_some, JK (x := 0 - (((-t.B6 - 1).toNat : Nat) : Int)) (by omega) (by omega), JK (by omega) (by omega), JK (by omega) (by omega)]
     dsimp only
     rw [show (0 : Int) - (((-t.B6 - 1).toNat : Nat) : Int) - 1 = t.B6 by omega, show (1000000000 : Int) - (((1000000000 - t.BA).toNat : Nat) : Int) = t.BA by omega, show (⟨t.B6, t.BA⟩ : Ac) = t from rfl, hr]
     rfl
  ·refine ⟨t.B6.toNat, t.BA.toNat, false, by omega, by omega, ?_, ?_⟩
   ·rw [decide_eq_false hs, AQ]
    simp only [cond_false]
    rw [show t.B6 = ((t.B6.toNat : Nat) : Int) by omega, show t.BA = ((t.BA.toNat : Nat) : Int) by omega]
    simp
   ·unfold Wl
    rw [AQ, Option.bind_some]
    dsimp only
    rw [show ((t.B6.toNat : Nat) : Int) = t.B6 by omega, show ((t.BA.toNat : Nat) : Int) = t.BA by omega, show (⟨t.B6, t.BA⟩ : Ac) = t from rfl, hr]
    rfl
 obtain ⟨f1, f2, f3⟩ := IU sec
 have hl := KG 16 sec (by omega) (by rw [show 10 ^ 16 = 10000000000000000 from rfl]; omega)
 have hsl : (bif sign then ([45] : List UInt8) else []).length ≤ 1 := by cases sign <;> simp
 rw [hmid, Option.bind_some]
 dsimp only
 have hit : Lib.itoa (sec : Int) = decDigits sec := by rw [LY (by omega), Int.toNat_natCast]
 rw [decide_eq_true (by omega), BO, hit, decide_eq_true (by omega), BO]
 by_cases h0 : ns = 0
 ·subst h0
  rw [show ((((0 : Nat) : Int)) == 0) = true from rfl, Ah]
  refine W.ret ⟨rfl, by rw [List.length_append]; omega, by rw [List.length_append]; omega, ?_⟩
  rw [Q0 hsec hns (.inl ⟨rfl, rfl⟩), hend]
 ·rw [show ((ns : Int) == 0) = false from by rw [beq_eq_false_iff_ne]; omega, AQ]
  have hw : IntKind.i64.wrap ((1000000000 : Int) + (ns : Int)) = ((1000000000 + ns : Nat) : Int) := by rw [JK (by omega) (by omega)]; omega
  obtain ⟨r, hr9, r1, r2, r3⟩ := Tl hns
  have hit2 : Lib.itoa ((1000000000 + ns : Nat) : Int) = decDigits (1000000000 + ns) := by rw [LY (by omega), Int.toNat_natCast]
  rw [hw, decide_eq_true (by omega), BO, hit2, hr9, show (1 : Int) = ((1 : Nat) : Int) from rfl, NF (by simp), Option.bind_some, List.drop_succ_cons, List.drop_zero]
  rw [decide_eq_true (by simp only [List.length_append, List.length_cons, List.length_nil]; omega), BO]
  refine W.bind ((XE r (by omega)).mono fun pt hpt => ?_)
  obtain ⟨k, hk⟩ := hpt
  have hptl : pt.length ≤ 9 := by have := congrArg List.length hk; rw [List.length_append] at this; omega
  rw [decide_eq_true (by simp only [List.length_append, List.length_cons, List.length_nil]; omega), BO]
  refine W.ret ⟨rfl, by simp only [List.length_append, List.length_cons]; omega, by simp only [List.length_append, List.length_cons, List.length_nil]; omega, ?_⟩
  dsimp only
  rw [List.append_assoc, List.append_assoc, show decDigits sec ++ ([46] ++ pt) = decDigits sec ++ 46 :: pt from rfl, Q0 hsec hns (.inr ⟨by omega, pt, k, rfl, by rw [hr9]; exact hk⟩), hend]
end Go.Av.L
end
/-
 A part.
-/
section
namespace Go.Av.L
open Go.Av Go.Lib
set_option linter.unusedVariables false
set_option linter.unusedSimpArgs false
section
variable {K V : Type} [DecidableEq K]
theorem SL (m : List (K × V)) (k : K) (v : V) (n : K) : C3 (Bb m k v) n = if n = k then some v else C3 m n := by
 induction m with
 | nil => simp only [Bb, C3]
 | cons p m ih =>
  obtain ⟨k', v'⟩ := p
  unfold Bb
  by_cases h : k = k'
  ·subst h; rw [if_pos rfl]; simp only [C3]; split <;> rfl
  ·rw [if_neg h]; simp only [C3, ih]
   by_cases h1 : n = k'
   ·subst h1; simp [Ne.symm h]
   ·simp [h1]
theorem mem_keys {m : List (K × V)} {n : K} : n ∈ m.map Prod.fst ↔ (C3 m n).isSome = true := by
 induction m with
 | nil => simp [C3]
 | cons p m ih =>
  obtain ⟨k', v'⟩ := p
  simp only [List.map_cons, List.mem_cons, C3, ih]
  by_cases h : n = k' <;> simp [h]
theorem PU (m : List (K × V)) (k : K) (v : V) : (Bb m k v).map Prod.fst = if k ∈ m.map Prod.fst then m.map Prod.fst else m.map Prod.fst ++ [k] := by
 induction m with
 | nil => simp [Bb]
 | cons p m ih =>
  obtain ⟨k', v'⟩ := p
  unfold Bb
  by_cases h : k = k'
  ·subst h; simp
  ·rw [if_neg h, List.map_cons, ih, List.map_cons]
   by_cases h1 : k ∈ m.map Prod.fst
   ·rw [if_pos h1, if_pos (by simp [h1])]
   ·rw [if_neg h1, if_neg (by simp only [List.mem_cons, not_or]; exact ⟨h, h1⟩)]; rfl
theorem SO {m : List (K × V)} (h : (m.map Prod.fst).Nodup) (k : K) (v : V) : ((Bb m k v).map Prod.fst).Nodup := by
 rw [PU]
 split
 ·exact h
 ·rename_i hk
  rw [List.nodup_append]
  exact ⟨h, by simp, fun a ha b hb => by simp only [List.mem_singleton] at hb; subst hb; exact fun e => hk (e ▸ ha)⟩
end
abbrev Mp := List (Gh × Gh)
def JM (m : Mp) (p : Pr) : Mp := Bb m p.Key p.Value
def mapOf (l : List Pr) : Mp := l.foldl JM []
def Md (l : List Pr) (k : Gh) : Option Gh := C3 (mapOf l) k
theorem SF (l : List Pr) (p : Pr) (k : Gh) : Md (l ++ [p]) k = if k = p.Key then some p.Value else Md l k := by
 unfold Md mapOf
 rw [List.foldl_append]
 exact SL _ _ _ _
theorem ML : ∀ (l : List Pr) (m : Mp), (m.map Prod.fst).Nodup → ((l.foldl JM m).map Prod.fst).Nodup ∧ (l.foldl JM m).length ≤ m.length + l.length ∧ ∀ k ∈ (l.foldl JM m).map Prod.fst, k ∈ m.map Prod.fst ∨ ∃ p ∈ l, p.Key = k
 | [], m, h => ⟨h, by simp, fun k hk => .inl hk⟩
 | p :: l, m, h => by
  obtain ⟨h1, h2, h3⟩ := ML l (JM m p) (SO h _ _)
  have hk := PU m p.Key p.Value
  have hl : (JM m p).length ≤ m.length + 1 := by
   have := congrArg List.length hk
   rw [List.length_map] at this
   unfold JM
   rw [this]
   split <;> simp
  refine ⟨h1, by simp only [List.length_cons]; simp only [List.foldl_cons]; omega, fun k hk' => ?_⟩
  rcases h3 k hk' with h4 | ⟨q, hq, h4⟩
  ·have h4 : k ∈ (Bb m p.Key p.Value).map Prod.fst := h4
   rw [hk] at h4
   split at h4
   ·exact .inl h4
   ·rcases List.mem_append.1 h4 with h5 | h5
    ·exact .inl h5
    ·exact .inr ⟨p, by simp, (List.mem_singleton.1 h5).symm⟩
  ·exact .inr ⟨q, by simp [hq], h4⟩
structure Good (l r : List Pr) : Prop where
 bt : PZ r
 mem : ∀ q, q ∈ r ↔ q.Value ≠ [] ∧ Md l q.Key = some q.Value
 len : r.length ≤ l.length
def aX (l : List Pr) : Prop := l.length ≤ 24 ∧ ∀ p ∈ l, p.Key.length ≤ 300
def TJ (m : Mp) (k : Gh) : Gh := (C3 m k).getD []
def M1 (m : Mp) (ks : List Gh) : List Pr := ks.flatMap fun k => if TJ m k = [] then [] else [⟨k, TJ m k⟩]
theorem Ug (m : Mp) (ks : List Gh) (k : Gh) : M1 m (ks ++ [k]) = M1 m ks ++ if TJ m k = [] then [] else [⟨k, TJ m k⟩] := by
 unfold M1; rw [List.flatMap_append]; simp
theorem Rx {m : Mp} {ks : List Gh} {q : Pr} : q ∈ M1 m ks ↔ q.Key ∈ ks ∧ q.Value = TJ m q.Key ∧ q.Value ≠ [] := by
 unfold M1
 rw [List.mem_flatMap]
 constructor
 ·rintro ⟨k, hk, hq⟩
  split at hq
  ·simp at hq
  ·rename_i hv
   rw [List.mem_singleton] at hq
   subst hq
   exact ⟨hk, rfl, hv⟩
 ·rintro ⟨h1, h2, h3⟩
  refine ⟨q.Key, h1, ?_⟩
  rw [if_neg (by rw [← h2]; exact h3), ← h2]
  exact List.mem_singleton.2 rfl
theorem Q6 {m : Mp} : ∀ {ks : List Gh}, ks.Pairwise (· < ·) → PZ (M1 m ks)
 | [], _ => .nil
 | k :: ks, h => by
  obtain ⟨h1, h2⟩ := List.pairwise_cons.1 h
  have ih := Q6 (m := m) h2
  show PZ ((if TJ m k = [] then [] else ([⟨k, TJ m k⟩] : List Pr)) ++ M1 m ks)
  split
  ·exact ih
  ·exact List.pairwise_cons.2 ⟨fun q hq => h1 _ (Rx.1 hq).1, ih⟩
theorem NS (m : Mp) : ∀ ks : List Gh, (M1 m ks).length ≤ ks.length
 | [] => Nat.le_refl _
 | k :: ks => by
  have := NS m ks
  show ((if TJ m k = [] then [] else ([⟨k, TJ m k⟩] : List Pr)) ++ M1 m ks).length ≤ _
  rw [List.length_append]
  split <;> simp <;> omega
theorem We (l : List Pr) (m : Mp) (hl : l.length ≤ 24) : loop (Cj l) (m, (0 : Int)) = some (l.foldl JM m) := by
 refine W.eq (W.list (l := l) (fun (x : Mp) (i : Nat) => (x, (i : Int))) (fun x i => x = (l.take i).foldl JM m) ?_ ?_ m rfl)
 ·intro x hx
  unfold Cj
  refine W.QC (fun h => by omega) fun _ => W.ret ?_
  rw [hx, List.take_length]
 ·intro x i hi hx
  unfold Cj
  refine W.QC (fun _ => ?_) fun h => by omega
  try simp only []
  rw [Gv hi, Option.bind_some]
  refine W.ret ⟨_, by rw [HM (by omega)], ?_⟩
  rw [FQ (List.getElem?_eq_getElem hi), List.foldl_append, ← hx]
  rfl
theorem YR (a b : List Pr) (ha : a.length ≤ 24) (hb : b.length ≤ 24) : loop (DP a b) (([] : Mp), (0 : Int)) = some (mapOf (a ++ b)) := by
 have e0 : DP a b (([] : Mp), (0 : Int)) = some (.inl (a.foldl JM [], (1 : Int))) := by
  show ((loop (Cj a) (([] : Mp), (0 : Int))).bind fun x7 => some (Sum.inl (x7, IntKind.i64.wrap ((0 : Int) + (1 : Int))) : (Mp × Int) ⊕ Mp)) = _
  rw [We a [] ha]; rfl
 have e1 : DP a b (a.foldl JM [], (1 : Int)) = some (.inl (b.foldl JM (a.foldl JM []), (2 : Int))) := by
  show ((loop (Cj b) (a.foldl JM [], (0 : Int))).bind fun x7 => some (Sum.inl (x7, IntKind.i64.wrap ((1 : Int) + (1 : Int))) : (Mp × Int) ⊕ Mp)) = _
  rw [We b _ hb]; rfl
 have e2 : DP a b (b.foldl JM (a.foldl JM []), (2 : Int)) = some (.inr (b.foldl JM (a.foldl JM []))) := rfl
 rw [Eo e0, Eo e1, E5 e2, mapOf, List.foldl_append]
theorem XL {l : List Pr} (h : aX l) : MN ((mapOf l).map Prod.fst) = true := by
 obtain ⟨_, h2, h3⟩ := ML l [] (by simp)
 have h2 : (mapOf l).length ≤ 0 + l.length := h2
 unfold MN
 rw [Bool.and_eq_true, decide_eq_true_eq, List.all_eq_true]
 refine ⟨by rw [List.length_map]; have := h.1; omega, fun k hk => decide_eq_true ?_⟩
 rcases h3 k hk with h4 | ⟨p, hp, rfl⟩
 ·simp at h4
 ·have := h.2 p hp; omega
theorem Sm (a b : List Pr) (ha : aX (a ++ b)) : W (E3 a b) (Good (a ++ b)) := by
 have hl := ha.1
 rw [List.length_append] at hl
 unfold E3
 rw [YR a b (by omega) (by omega), Option.bind_some]
 refine W.D3 (XL ha) ?_
 obtain ⟨m, hm⟩ : ∃ m, mapOf (a ++ b) = m := ⟨_, rfl⟩
 obtain ⟨n1, n2, n3⟩ := ML (a ++ b) [] (by simp)
 have n1 : ((mapOf (a ++ b)).map Prod.fst).Nodup := n1
 have n2 : (mapOf (a ++ b)).length ≤ 0 + (a ++ b).length := n2
 rw [hm] at n1 n2 ⊢
 obtain ⟨ks, hks⟩ : ∃ ks, Dv (m.map Prod.fst) = ks := ⟨_, rfl⟩
 have hp : ks.Perm (m.map Prod.fst) := by rw [← hks]; exact Iz _
 have hs : ks.Pairwise (· < ·) := by
  have h1 : ks.Pairwise fun a b : List UInt8 => a ≤ b := by rw [← hks]; exact Iq _
  have h2 : ks.Pairwise (· ≠ ·) := hp.nodup_iff.2 n1
  refine (h1.and h2).imp fun {x y} h => ?_
  rcases List.le_iff_lt_or_eq.1 h.1 with h3 | h3
  ·exact h3
  ·exact absurd h3 h.2
 have hkl : ks.length ≤ (a ++ b).length := by rw [hp.length_eq, List.length_map]; omega
 rw [List.length_append] at hkl
 refine W.bind (W.mono (W.list (l := ks) (fun (x : List Pr) (i : Nat) => (x, (i : Int))) (fun x i => x = M1 m (ks.take i)) ?_ ?_ [] rfl (Q := fun r => r = M1 m ks)) ?_)
 ·intro x hx
  unfold Ei
  rw [hks]
  refine W.QC (fun h => by omega) fun _ => W.ret ?_
  rw [hx, List.take_length]
 ·intro x i hi hx
  have hxl : x.length ≤ 24 := by
   have := NS m (ks.take i)
   rw [hx]; rw [List.length_take] at this; omega
  unfold Ei
  rw [hks]
  refine W.QC (fun _ => ?_) fun h => by omega
  try simp only []
  rw [Gv hi, Option.bind_some]
  have ev : ∀ k, (C3 m k).getD ([] : List UInt8) = TJ m k := fun _ => rfl
  simp only [ev]
  refine W.bind (W.mono (Q := fun r => r = M1 m (ks.take (i + 1))) ?_ fun r hr => W.ret ⟨r, by rw [HM (by omega)], hr⟩)
  rw [FQ (List.getElem?_eq_getElem hi), Ug, ← hx]
  refine W.ite (fun h => ?_) fun h => W.ret ?_
  ·have h0 : TJ m ks[i] ≠ [] := by simpa using h
   rw [if_neg h0]
   exact W.D3 (QE (by simp; omega) (by simp; omega)) (W.ret rfl)
  ·have h0 : TJ m ks[i] = [] := by simpa using h
   rw [if_pos h0, List.append_nil]
 ·rintro _ rfl
  refine W.ret ⟨Q6 hs, fun q => ?_, ?_⟩
  ·rw [Rx]
   unfold Md
   rw [hm]
   constructor
   ·rintro ⟨h1, h2, h3⟩
    refine ⟨h3, ?_⟩
    have h4 := mem_keys.1 (hp.mem_iff.1 h1)
    obtain ⟨v, hv⟩ := Option.isSome_iff_exists.1 h4
    rw [h2, TJ, hv]; rfl
   ·rintro ⟨h1, h2⟩
    exact ⟨hp.mem_iff.2 (mem_keys.2 (by rw [h2]; rfl)), by rw [TJ, h2]; rfl, h1⟩
  ·have := NS m ks
   rw [List.length_append]
   omega
end Go.Av.L
end
