/-
  An index of the directories that members tag has what the document says.
-/
import Derived.Test.YthnnciphldbmeaaGreatDoorFiW
namespace Go.Av.L
open Go.Av Go.Lib
set_option linter.unusedVariables false
set_option linter.unusedSimpArgs false
theorem Sc (p : CT) : ∀ (k i : Nat), i + k = p.length → p.length < 900000000 → loop (CD p) (i : Int) = some ((i + Cm (p.drop i) : Nat) : Int)
 | 0, i, h, hp => by
  refine CJ ?_
  rw [CD, BT, if_neg (by omega), List.drop_eq_nil_of_le (by omega)]
  rfl
 | k + 1, i, h, hp => by
  have hi : i < p.length := by omega
  rw [drop_cons hi, Cm]
  by_cases hb : p[i] = 47
  ·rw [if_pos hb]
   refine CJ ?_
   rw [CD, BT, if_pos (by omega), ON hi, hb]
   rfl
  ·rw [if_neg hb]
   have hne : ((p[i].toNat : Int) != 47) = true := by
    rw [bne_iff_ne]
    intro e
    exact hb (UInt8.toNat_inj.1 (by show p[i].toNat = 47; omega))
   have step : CD p (i : Int) = some (.inl ((i + 1 : Nat) : Int)) := by
    rw [CD, BT, if_pos (by omega), ON hi, Option.bind_some, hne, Option.bind_some, Dm, Md (by omega)]
   rw [Ey step, Sc p k (i + 1) (by omega) hp]
   congr 2
   omega
theorem Jw {p : CT} (hp : p.length < 900000000) : Bp p = some (Ae p) := by
 have key : ∀ (n i : Nat) (acc : List CT), p.length + 1 - i ≤ n → i ≤ p.length + 1 → acc.length ≤ i → acc ++ Ae (p.drop i) = Ae p → loop (CC p) (acc, (i : Int)) = some (Ae p) := by
  intro n
  induction n with
  | zero =>
   intro i acc h1 h2 h3 h4
   refine CJ ?_
   rw [CC, BT, if_neg (by omega)]
   rw [List.drop_eq_nil_of_le (by omega), HZ, List.append_nil] at h4
   rw [h4]
  | succ n ih =>
   intro i acc h1 h2 h3 h4
   by_cases hi : i < p.length
   ·have hle := OH (p.drop i)
    rw [List.length_drop] at hle
    have hc := IU (p.drop i)
    rw [List.drop_drop] at hc
    have step : CC p (acc, (i : Int)) = some (.inl (acc ++ (bif (p.drop i).take (Cm (p.drop i)) == [] then [] else [(p.drop i).take (Cm (p.drop i))]), ((i + Cm (p.drop i) + 1 : Nat) : Int))) := by
     rw [CC, BT, if_pos (by omega), Sc p (p.length - i) i (by omega) hp, Option.bind_some, BT]
     have e1 : IntKind.i64.wrap (((i + Cm (p.drop i) : Nat) : Int) + 1) = ((i + Cm (p.drop i) + 1 : Nat) : Int) := by rw [Ti (by omega) (by omega)]; omega
     by_cases hz : Cm (p.drop i) = 0
     ·rw [if_neg (by omega), Option.bind_some, e1, hz]
      simp
     ·rw [if_pos (by omega), UH (by omega) (by omega), Option.bind_some, La (by simp; omega) (by simp; omega), EJ, Option.bind_some, e1]
      have e2 : i + Cm (p.drop i) - i = Cm (p.drop i) := by omega
      have e3 : ((p.drop i).take (Cm (p.drop i)) == ([] : CT)) = false := by
       rw [beq_eq_false_iff_ne]
       intro e
       have := congrArg List.length e
       rw [List.length_take, List.length_drop] at this
       simp at this
       omega
      rw [e2, e3]; rfl
    rw [Ey step]
    refine ih _ _ (by omega) (by omega) ?_ ?_
    ·rw [List.length_append]
     have : (bif (p.drop i).take (Cm (p.drop i)) == [] then ([] : List CT) else [(p.drop i).take (Cm (p.drop i))]).length ≤ 1 := by cases ((p.drop i).take (Cm (p.drop i)) == []) <;> simp
     omega
    ·rw [← h4, hc, List.append_assoc, Nat.add_assoc]
   ·refine CJ ?_
    rw [CC, BT, if_neg (by omega)]
    rw [List.drop_eq_nil_of_le (by omega), HZ, List.append_nil] at h4
    rw [h4]
 unfold Bp
 rw [show (0 : Int) = ((0 : Nat) : Int) from rfl, key (p.length + 1) 0 [] (by omega) (by omega) (by simp) (by simp), Option.bind_some]
theorem T2 {l : List CT} (h : ∀ x ∈ l, NC x) (hl : l.length < 900000000) (hj : (pj l).length < 900000000) : DN l = some (pj l) := by
 refine W.eq ?_
 unfold DN
 refine W.bind ?_
 refine (W.list (l := l) (enc := fun (s : CT) i => (s, (i : Int))) (P := fun s i => s = pj (l.take i)) (Q := fun r => r = pj l) ?_ ?_ [] (by simp [NY])).mono ?_
 ·rintro s rfl
  rw [D2, BT, if_neg (by omega)]
  exact W.ret (by rw [List.take_length])
 ·rintro s i hi rfl
  have hx := h _ (List.getElem_mem hi)
  have ht := KT l (i + 1)
  have et : l.take (i + 1) = l.take i ++ [l[i]] := UZ (List.getElem?_eq_getElem hi)
  rw [et] at ht
  rw [D2, BT, if_pos (by omega), Eh hi, Option.bind_some, beq_eq_false_iff_ne.2 hx.1, B5]
  by_cases h0 : i = 0
  ·subst h0
   rw [List.take_zero, NY] at *
   rw [List.nil_append, KF] at ht
   rw [show (!(([] : CT) == [])) = false from rfl, B5, Option.bind_some, Option.bind_some, decide_eq_true (by simp; omega), EJ, Option.bind_some, List.nil_append]
   refine W.ret ⟨pj (l.take 1), ?_, rfl⟩
   rw [et, List.nil_append, KF]
   rfl
  ·have hne : l.take i ≠ [] := by
    intro e
    have := congrArg List.length e
    rw [List.length_take, List.length_nil] at this
    omega
   have hpn := Xz (l := l.take i) (fun x hx => h x (List.mem_of_mem_take hx)) hne
   rw [RO _ _ hne, List.length_append, List.length_cons] at ht
   rw [beq_eq_false_iff_ne.2 hpn, Bool.not_false, Dm, decide_eq_true (by simp; omega), EJ, Option.bind_some, Option.bind_some, decide_eq_true (by simp; omega), EJ, Option.bind_some, Md (by omega)]
   refine W.ret ⟨pj (l.take (i + 1)), ?_, rfl⟩
   rw [et, RO _ _ hne]
   simp
 ·rintro r rfl
  exact W.ret rfl
theorem Xe {n p : CT} {k : Int} (hb : n.length < 800000000) : EP n k p = some (bif tagged n k p then ((Ae n).dropLast, true) else ([], false)) := by
 have hl := Ez n
 unfold EP tagged
 rw [Jw (by omega), Option.bind_some]
 have e1 : (Aa ((k != 48) || (((Ae n).length : Int) == 0)) (some true) ((Fc (Ae n) (IntKind.i64.wrap (((Ae n).length : Int) - 1))).bind fun x3 => some (!(x3 == ([67, 65, 67, 72, 69, 68, 73, 82, 46, 84, 65, 71] : List UInt8)))) : Option Bool) = some (!(k == 48 && (Ae n).getLast? == some G4)) := by
  have : (k != 48) = !(k == 48) := rfl
  rw [this]
  cases k == 48 with
  | false => rfl
  | true =>
   by_cases h0 : Ae n = []
   ·rw [h0]; rfl
   ·have hpos : 0 < (Ae n).length := List.length_pos_iff.2 h0
    have : (((Ae n).length : Int) == 0) = false := beq_eq_false_iff_ne.2 (by omega)
    have e : IntKind.i64.wrap (((Ae n).length : Int) - 1) = (((Ae n).length - 1 : Nat) : Int) := by rw [Ti (by omega) (by omega)]; omega
    rw [this, Bool.not_true, Bool.or_false, B5, e, Eh (by omega), Option.bind_some]
    congr 2
    rw [List.getLast?_eq_getElem?, List.getElem?_eq_getElem (by omega), Bool.true_and]
    rfl
 rw [e1, Option.bind_some]
 have e2 : (Aa ((!(k == 48 && (Ae n).getLast? == some G4)) || (decide ((p.length : Int) < 43))) (some true) ((Jx p none (some (43 : Int))).bind fun x5 => some (!(x5 == ([83, 105, 103, 110, 97, 116, 117, 114, 101, 58, 32, 56, 97, 52, 55, 55, 102, 53, 57, 55, 100, 50, 56, 100, 49, 55, 50, 55, 56, 57, 102, 48, 54, 56, 56, 54, 56, 48, 54, 98, 99, 53, 53] : List UInt8)))) : Option Bool) = some (!(k == 48 && (Ae n).getLast? == some G4 && p.take 43 == TJ)) := by
  cases (k == 48 && (Ae n).getLast? == some G4) with
  | false => rfl
  | true =>
   by_cases h : (p.length : Int) < 43
   ·rw [decide_eq_true h]
    have : (p.take 43 == TJ) = false := by
     rw [beq_eq_false_iff_ne]
     intro e
     have := congrArg List.length e
     rw [List.length_take] at this
     have h2 : TJ.length = 43 := rfl
     omega
    rw [this]; rfl
   ·rw [decide_eq_false h]
    have := OL (s := p) (i := 43) (by omega)
    rw [show ((43 : Nat) : Int) = 43 from rfl] at this
    rw [this]; rfl
 rw [e2, Option.bind_some]
 cases hc : (k == 48 && (Ae n).getLast? == some G4 && p.take 43 == TJ) with
 | false => rfl
 | true =>
  simp only [Bool.and_eq_true, beq_iff_eq] at hc
  have hpos : 0 < (Ae n).length := by
   rcases Nat.eq_zero_or_pos (Ae n).length with q | q
   ·have := List.length_eq_zero_iff.1 q
    rw [this] at hc; simp at hc
   ·exact q
  have e : IntKind.i64.wrap (((Ae n).length : Int) - 1) = (((Ae n).length - 1 : Nat) : Int) := by rw [Ti (by omega) (by omega)]; omega
  rw [Bool.not_true, B5, e, Qw (by omega), Option.bind_some, ← List.dropLast_eq_take]
  rfl
theorem V8 {l : List CT} {d : CT} (hl : l.length < 100000000) : ∃ acc done, loop (CL l d) ([], false, 0) = some (acc, done) ∧ acc.length ≤ 2 * l.length ∧ (acc ++ (bif done then [] else [d])) = MW d l := by
 have h := (W.list (step := CL l d) (l := l) (enc := fun (s : List CT × Bool) i => (s.1, s.2, (i : Int))) (P := fun s i => s.1.length ≤ 2 * i ∧ s.1 ++ Lt d (l.drop i) s.2 = MW d l) (Q := fun r => r.1.length ≤ 2 * l.length ∧ (r.1 ++ (bif r.2 then [] else [d])) = MW d l) ?_ ?_ ([], false) ⟨by simp, by simp [MW]⟩)
 ·obtain ⟨⟨acc, done⟩, e, q1, q2⟩ := h
  exact ⟨acc, done, e, q1, q2⟩
 ·rintro ⟨acc, done⟩ ⟨h1, h2⟩
  rw [CL, BT, if_neg (by omega)]
  refine W.ret ⟨h1, ?_⟩
  rw [List.drop_length, Lt] at h2
  exact h2
 ·rintro ⟨acc, done⟩ i hi ⟨h1, h2⟩
  dsimp only at h1 h2
  rw [drop_cons hi, Lt] at h2
  rw [CL, BT, if_pos (by omega), Eh hi]
  simp only [Option.bind_some]
  generalize l[i] = y at h2 ⊢
  have hq : (Op.bytesLess d y || d == y) = (Op.bytesLess d y || d == y) := rfl
  cases done with
  | true =>
   rw [Bool.not_true, B5, Option.bind_some, B5, Option.bind_some]
   cases hy : (y == d) with
   | true =>
    rw [hy] at h2
    rw [Bool.not_true, B5, Option.bind_some, Md (by omega)]
    exact W.ret ⟨(acc, true), rfl, by dsimp only; omega, by simpa using h2⟩
   | false =>
    rw [hy] at h2
    rw [Bool.not_false, Dm, La (by simp; omega) (by simp; omega), EJ, Option.bind_some, Md (by omega)]
    exact W.ret ⟨(acc ++ [y], true), rfl, by simp; omega, by simpa using h2⟩
  | false =>
   rw [Bool.not_false, Dm, Option.bind_some]
   cases hq : (Op.bytesLess d y || d == y) with
   | true =>
    rw [hq] at h2
    rw [Dm, La (by simp; omega) (by simp; omega), EJ, Option.bind_some]
    dsimp only
    cases hy : (y == d) with
    | true =>
     rw [hy] at h2
     rw [Bool.not_true, B5, Option.bind_some, Md (by omega)]
     exact W.ret ⟨(acc ++ [d], true), rfl, by simp; omega, by simpa using h2⟩
    | false =>
     rw [hy] at h2
     rw [Bool.not_false, Dm, La (by simp; omega) (by simp; omega), EJ, Option.bind_some, Md (by omega)]
     exact W.ret ⟨(acc ++ [d] ++ [y], true), rfl, by simp; omega, by simpa using h2⟩
   | false =>
    rw [hq] at h2
    rw [B5, Option.bind_some]
    dsimp only
    cases hy : (y == d) with
    | true =>
     rw [hy] at h2
     rw [Bool.not_true, B5, Option.bind_some, Md (by omega)]
     exact W.ret ⟨(acc, false), rfl, by dsimp only; omega, by simpa using h2⟩
    | false =>
     rw [hy] at h2
     rw [Bool.not_false, Dm, La (by simp; omega) (by simp; omega), EJ, Option.bind_some, Md (by omega)]
     exact W.ret ⟨(acc ++ [y], false), rfl, by simp; omega, by simpa using h2⟩
theorem W9 {l : List CT} {d : CT} (hb : d.length < 800000000) (hl : l.length < 100000000) : DH l d = some (MW (pj (Ae d)) l) := by
 have hl2 := Ez d
 have hj := Fp d
 obtain ⟨acc, done, h1, h2, h3⟩ := V8 (l := l) (d := pj (Ae d)) hl
 unfold DH
 rw [Jw (by omega), Option.bind_some, T2 (fun x hx => KC hx) (by omega) (by omega), Option.bind_some, h1, Option.bind_some]
 dsimp only
 rw [← h3]
 cases done with
 | true => simp
 | false => simp [La (b := 16) (n := acc.length + 1) (by omega) (by omega)]
theorem PC (d : CT) : ∀ (l : List CT) (done : Bool), (Lt d l done).length ≤ 2 * l.length + 1
 | [], done => by cases done <;> simp [Lt]
 | y :: l, done => by
  have := PC d l (done || (Op.bytesLess d y || d == y))
  unfold Lt
  rw [List.length_append, List.length_append, List.length_cons]
  have h1 : (bif !done && (Op.bytesLess d y || d == y) then [d] else []).length ≤ 1 := by cases (!done && (Op.bytesLess d y || d == y)) <;> simp
  have h2 : (bif !(y == d) then [y] else []).length ≤ 1 := by cases (!(y == d)) <;> simp
  omega
structure Ng (m : List (CT × Bool)) (l : List CT) : Prop where
 X5 : l.Pairwise fun a b : CT => a < b
 canon : ∀ z ∈ l, ∃ c : List CT, (∀ x ∈ c, NC x) ∧ z = pj c ∧ c.length < 1000000 ∧ z.length < 1000000
 nodup : (m.map Prod.fst).Nodup
 mem : ∀ z, z ∈ m.map Prod.fst ↔ z ∈ l
 find : ∀ z, (Di m z).getD false = decide (z ∈ l)
theorem Ng.nil : Ng [] [] := ⟨.nil, (fun z h => by cases h), List.nodup_nil, fun z => Iff.rfl, fun z => rfl⟩
theorem Ng.put {m : List (CT × Bool)} {l : List CT} (h : Ng m l) {c : List CT} (hc : ∀ x ∈ c, NC x) (h1 : c.length < 1000000) (h2 : (pj c).length < 1000000) : Ng (F7 m (pj c) true) (MW (pj c) l) := by
 refine ⟨Rw h.X5, fun z hz => ?_, S9 h.nodup _ _, fun z => ?_, fun z => ?_⟩
 ·rcases Mp.1 hz with rfl | hz
  ·exact ⟨c, hc, rfl, h1, h2⟩
  ·exact h.canon z hz
 ·rw [NN, Mp, ← h.mem z]
  split
  ·rename_i hk
   constructor
   ·exact .inr
   ·rintro (rfl | q)
    ·exact hk
    ·exact q
  ·rw [List.mem_append, List.mem_singleton, or_comm]
 ·rw [Sm]
  by_cases hz : z = pj c
  ·rw [if_pos hz, decide_eq_true (Mp.2 (.inl hz))]; rfl
  ·rw [if_neg hz, h.find z]
   rw [decide_eq_decide, Mp]
   simp [hz]
def Ot (l : List Mb) : List CT := l.foldl (fun m x => bif tagged x.Name x.Kind x.Data then MW (pj (Ae x.Name).dropLast) m else m) []
theorem WE (l : List Mb) (h : ∀ m ∈ l, m.Name.length < 10000) : Ng (mapOf l) (Ot l) := by
 have key : ∀ (l : List Mb) (a : List (CT × Bool)) (b : List CT), (∀ m ∈ l, m.Name.length < 10000) → Ng a b → Ng (l.foldl (fun m x => bif tagged x.Name x.Kind x.Data then F7 m (pj (Ae x.Name).dropLast) true else m) a) (l.foldl (fun m x => bif tagged x.Name x.Kind x.Data then MW (pj (Ae x.Name).dropLast) m else m) b) := by
  intro l
  induction l with
  | nil => intro a b _ h; exact h
  | cons x l ih =>
   intro a b hl h
   refine ih _ _ (fun m hm => hl m (by simp [hm])) ?_
   have hx := hl x (by simp)
   have h1 := Ez x.Name
   have h2 := JV (Ae x.Name)
   have h3 := Fp x.Name
   dsimp only
   cases tagged x.Name x.Kind x.Data with
   | false => exact h
   | true => exact h.put (fun y hy => GM hy) (by rw [List.length_dropLast]; omega) (by omega)
 exact key l [] [] h .nil
theorem Ur (l : List Mb) : ∀ (b : List CT), (l.foldl (fun m x => bif tagged x.Name x.Kind x.Data then MW (pj (Ae x.Name).dropLast) m else m) b).length + 1 ≤ 2 ^ l.length * (b.length + 1) := by
 induction l with
 | nil => intro b; simp
 | cons x l ih =>
  intro b
  rw [List.foldl_cons, List.length_cons, Nat.pow_succ]
  refine Nat.le_trans (ih _) ?_
  rw [Nat.mul_assoc]
  refine Nat.mul_le_mul_left _ ?_
  cases tagged x.Name x.Kind x.Data with
  | false => simp only [cond_false]; omega
  | true =>
   have := PC (pj (Ae x.Name).dropLast) b false
   simp only [cond_true]
   unfold MW
   omega
theorem WA {l : List Mb} (hl : l.length ≤ 20) (h : ∀ m ∈ l, m.Name.length < 10000) : Dy l = some (Ot l) := by
 unfold Dy
 have := Wm (step := DL l) (l := l) (enc := fun (m : List CT) i => (m, (i : Int))) (f := fun m _ x => bif tagged x.Name x.Kind x.Data then MW (pj (Ae x.Name).dropLast) m else m) (P := fun s i => s.length + 1 ≤ 2 ^ i) (fin := fun m => m)
  (fun s _ => by rw [DL, BT, if_neg (by omega)])
  (fun s i hi hs => by
   have hx := h _ (List.getElem_mem hi)
   have h1 := Ez l[i].Name
   have h2 := JV (Ae l[i].Name)
   have h3 := Fp l[i].Name
   have h4 : 2 ^ i ≤ 2 ^ 20 := Nat.pow_le_pow_right (by omega) (by omega)
   have h5 : (2 : Nat) ^ 20 = 1048576 := rfl
   have h6 : (2 : Nat) ^ (i + 1) = 2 ^ i * 2 := Nat.pow_succ ..
   refine ⟨?_, ?_⟩
   ·rw [DL, BT, if_pos (by omega), Eh hi]
    simp only [Option.bind_some]
    rw [Xe (by omega), Md (by omega)]
    cases tagged l[i].Name l[i].Kind l[i].Data with
    | false => rfl
    | true =>
     simp only [cond_true, Option.bind_some, Dm]
     rw [T2 (fun y hy => GM hy) (by rw [List.length_dropLast]; omega) (by omega), Option.bind_some, W9 (by omega) (by omega), Ir _ (fun y hy => GM hy)]
     rfl
   ·cases tagged l[i].Name l[i].Kind l[i].Data with
    | false => simp only [cond_false]; omega
    | true =>
     have := PC (pj (Ae l[i].Name).dropLast) s false
     simp only [cond_true]
     unfold MW
     omega) [] (by simp)
 rw [show (0 : Int) = ((0 : Nat) : Int) from rfl, this.1, Option.bind_some, LY]
 rfl
theorem Ng.sorted {m : List (CT × Bool)} {l : List CT} (h : Ng m l) (hm : m.length < 1000000) : DT (⟨m⟩ : Ay) = some l := by
 unfold DT
 have hk : NH (m.map Prod.fst) = true := by
  unfold NH
  rw [Bool.and_eq_true, List.all_eq_true]
  refine ⟨decide_eq_true (by rw [List.length_map]; omega), fun s hs => ?_⟩
  obtain ⟨c, _, _, _, h4⟩ := h.canon s ((h.mem s).1 hs)
  exact decide_eq_true (by omega)
 rw [hk, EJ]
 congr 1
 refine TE (KK _) ((Ih _).nodup_iff.2 h.nodup) h.X5 fun z => ?_
 rw [(Ih _).mem_iff]
 exact h.mem z
def XA (D l : List CT) (mode : Int) : Bool := (List.range l.length).any (fun n => decide (pj (l.take n) ∈ D) && (mode != 1 || !(n == l.length - 1 && l[n]? == some G4))) || (mode == 3 && decide (0 < l.length) && decide (pj l ∈ D))
def XB (D l : List CT) (mode : Int) : Bool := D.any fun d => (decide ((Ae d).length < l.length) && l.take (Ae d).length == Ae d && (decide (mode > 1) || !(l.getLast? == some G4) || l.length != (Ae d).length + 1)) || (mode == 3 && decide (0 < l.length) && l == Ae d)
theorem VK {m : List (CT × Bool)} {D : List CT} (h : Ng m D) {l : List CT} (hl : ∀ x ∈ l, NC x) {mode : Int} (hm : 1 ≤ mode) : XA D l mode = XB D l mode := by
 have can : ∀ d ∈ D, (∀ x ∈ Ae d, NC x) ∧ pj (Ae d) = d := by
  intro d hd
  obtain ⟨c, h1, h2, _⟩ := h.canon d hd
  subst h2
  rw [Ir c h1]
  exact ⟨h1, rfl⟩
 have tk : ∀ n, ∀ x ∈ l.take n, NC x := fun n x hx => hl x (List.mem_of_mem_take hx)
 rw [Bool.eq_iff_iff]
 unfold XA XB
 rw [Bool.or_eq_true, List.any_eq_true, List.any_eq_true]
 constructor
 ·rintro (⟨n, hn, hq⟩ | hq)
  ·rw [List.mem_range] at hn
   rw [Bool.and_eq_true, decide_eq_true_iff] at hq
   obtain ⟨hD, hq⟩ := hq
   refine ⟨_, hD, ?_⟩
   have e := Ir (l.take n) (tk n)
   have el : (l.take n).length = n := by rw [List.length_take]; omega
   rw [e, el]
   rw [decide_eq_true hn, beq_self_eq_true, Bool.true_and, Bool.true_and, Bool.or_eq_true]
   refine .inl ?_
   by_cases h1 : mode > 1
   ·rw [decide_eq_true h1]; rfl
   ·have : mode = 1 := by omega
    subst this
    rw [decide_eq_false h1, Bool.false_or]
    have hq : (!(n == l.length - 1 && l[n]? == some G4)) = true := hq
    by_cases hnl : n = l.length - 1
    ·subst hnl
     rw [beq_self_eq_true, Bool.true_and] at hq
     rw [List.getLast?_eq_getElem?, hq]; rfl
    ·have : (l.length != n + 1) = true := by rw [bne_iff_ne]; omega
     rw [this, Bool.or_true]
  ·rw [Bool.and_eq_true, Bool.and_eq_true, decide_eq_true_iff, decide_eq_true_iff] at hq
   obtain ⟨⟨h1, h2⟩, h3⟩ := hq
   refine ⟨_, h3, ?_⟩
   rw [Ir l hl, h1, decide_eq_true h2, beq_self_eq_true]
   simp
 ·rintro ⟨d, hd, hq⟩
  obtain ⟨c1, c2⟩ := can d hd
  rw [Bool.or_eq_true] at hq
  rcases hq with hq | hq
  ·rw [Bool.and_eq_true, Bool.and_eq_true, decide_eq_true_iff, beq_iff_eq] at hq
   obtain ⟨⟨h1, h2⟩, h3⟩ := hq
   refine .inl ⟨(Ae d).length, List.mem_range.2 h1, ?_⟩
   rw [h2, c2, decide_eq_true hd, Bool.true_and]
   by_cases hm1 : mode = 1
   ·subst hm1
    have h3 : ((!(l.getLast? == some G4)) || l.length != (Ae d).length + 1) = true := h3
    show (!((Ae d).length == l.length - 1 && l[(Ae d).length]? == some G4)) = true
    by_cases hnl : (Ae d).length = l.length - 1
    ·have : (l.length != (Ae d).length + 1) = false := by rw [bne_eq_false_iff_eq]; omega
     rw [this, Bool.or_false, List.getLast?_eq_getElem?, ← hnl] at h3
     rw [beq_iff_eq.2 hnl, Bool.true_and]
     exact h3
    ·rw [beq_eq_false_iff_ne.2 hnl]; rfl
   ·have : (mode != 1) = true := bne_iff_ne.2 hm1
    rw [this]; rfl
  ·rw [Bool.and_eq_true, Bool.and_eq_true, beq_iff_eq (a := l)] at hq
   obtain ⟨⟨h1, h2⟩, h3⟩ := hq
   refine .inr ?_
   rw [h1, h2, h3, c2, decide_eq_true hd]; rfl
theorem TL {l : List CT} (h : 0 < l.length) : Fc l (IntKind.i64.wrap ((l.length : Int) - 1)) = some (l.getLast?.getD []) ∨ l.length ≥ 900000000 := by
 by_cases hb : l.length ≥ 900000000
 ·exact .inr hb
 ·refine .inl ?_
  have e : IntKind.i64.wrap ((l.length : Int) - 1) = ((l.length - 1 : Nat) : Int) := by rw [Ti (by omega) (by omega)]; omega
  rw [e, Eh (by omega), List.getLast?_eq_getElem?, List.getElem?_eq_getElem (by omega)]
  rfl
theorem W8 {m : List (CT × Bool)} {D : List CT} (h : Ng m D) {name : CT} (hn : name.length < 10000) {mode : Int} (h1 : 1 ≤ mode) (h3 : mode ≤ 3) : CF (⟨m⟩ : Ay) name mode = some (XA D (Ae name) mode) := by
 have hl := Ez name
 have hj := Fp name
 unfold CF
 have e0 : (decide (mode < 1) || decide (mode > 3)) = false := by simp; omega
 rw [e0, B5, MH (by omega), Option.bind_some]
 generalize hL : Ae name = l at hl hj
 have hC : ∀ x ∈ l, NC x := fun x hx => KC (s := name) (by rw [hL]; exact hx)
 have joinT : ∀ n, EE (l.take n) = some (pj (l.take n)) := fun n => by
  have := KT l n
  exact NT (fun x hx => hC x (List.mem_of_mem_take hx)) (by rw [List.length_take]; omega) (by omega)
 let p : Nat → Bool := fun n => decide (pj (l.take n) ∈ D) && (mode != 1 || !(n == l.length - 1 && l[n]? == some G4))
 have hstep : ∀ i (hi : i < (List.range l.length).length), B8 (⟨m⟩ : Ay) mode l (i : Int) = bif p (List.range l.length)[i] then some (.inr (.inr true)) else some (.inl (IntKind.i64.wrap ((i : Int) + 1))) := by
  intro i hi
  rw [List.length_range] at hi
  rw [List.getElem_range]
  rw [B8, BT, if_pos (by omega), Qw (by omega), Option.bind_some, joinT, Option.bind_some, h.find]
  show _ = bif (decide (pj (l.take i) ∈ D) && (mode != 1 || !(i == l.length - 1 && l[i]? == some G4))) then _ else _
  cases hd : decide (pj (l.take i) ∈ D) with
  | false => rfl
  | true =>
   rw [Bool.not_true, B5]
   have e : IntKind.i64.wrap ((l.length : Int) - 1) = ((l.length - 1 : Nat) : Int) := by rw [Ti (by omega) (by omega)]; omega
   have e2 : ((i : Int) == ((l.length - 1 : Nat) : Int)) = (i == l.length - 1) := by rw [Bool.eq_iff_iff, beq_iff_eq, beq_iff_eq]; omega
   have e3 : (l[i]? == some G4) = (l[i] == G4) := by rw [List.getElem?_eq_getElem hi]; rfl
   rw [e, e2, Eh hi, e3]
   show ((((Aa (i == l.length - 1) (some (l[i] == G4)) (some false)).bind fun x7 => Aa ((mode != 1) || (!x7)) (some (.inr true)) (some (.inl ()))) : Option (Unit ⊕ Bool)).bind _) = _
   rw [NB, Option.bind_some, Bool.true_and]
   cases ((mode != 1) || (!(i == l.length - 1 && l[i] == G4))) <;> rfl
 have hend : B8 (⟨m⟩ : Ay) mode l ((List.range l.length).length : Int) = some (.inr (.inl ())) := by
  rw [List.length_range, B8, BT, if_neg (by omega)]
 have := OQ (l := List.range l.length) (step := B8 (⟨m⟩ : Ay) mode l) p (.inr true) (.inl ()) (by rw [List.length_range]; omega) hend hstep
 rw [this, Option.bind_some]
 show _ = some ((List.range l.length).any p || (mode == 3 && decide (0 < l.length) && decide (pj l ∈ D)))
 cases (List.range l.length).any p with
 | true => rfl
 | false =>
  dsimp only [cond_false]
  rw [Bool.false_or]
  cases (mode == 3) with
  | false => rfl
  | true =>
   rw [Dm]
   have e1 : decide ((l.length : Int) > 0) = decide (0 < l.length) := by rw [decide_eq_decide]; omega
   have e2 := joinT l.length
   rw [List.take_length] at e2
   rw [e1, e2, Option.bind_some, h.find, NB]
   rfl
theorem Rz (a b : List CT) (ha : a.length < 1000000) : C0 a b = some (a == b) := by
 unfold C0
 rw [Uz]
 by_cases h : (a.length : Int) = (b.length : Int)
 ·rw [if_pos h]
  obtain ⟨r, h1, h2⟩ := VD (a := a) (b := b) (step := EO a b) (same := fun x y => some (x == y)) (fun x _ y => ⟨_, rfl, beq_iff_eq⟩) (by omega) (by omega) (fun x1 => rfl)
  refine h1.trans (congrArg some ?_)
  rw [Bool.eq_iff_iff, h2, beq_iff_eq]
 ·rw [if_neg h]
  congr 1
  symm
  rw [beq_eq_false_iff_ne]
  rintro rfl
  exact h rfl
theorem T8 (a b : List CT) (ha : a.length < 1000000) : Et a b = some (a == b) := Rz a b ha
theorem U4 {a b : CT} (ha : a.length < 10000) (hb : b.length < 1000000) : C5 a b = some (decide ((Ae b).length < (Ae a).length) && (Ae a).take (Ae b).length == Ae b) := by
 have hla := Ez a
 have hlb := Ez b
 unfold C5
 rw [Jw (by omega), Option.bind_some, Jw (by omega), Option.bind_some, BT]
 generalize Ae a = x at hla ⊢
 generalize Ae b = y at hlb ⊢
 by_cases h : x.length ≤ y.length
 ·rw [if_pos (by omega), decide_eq_false (by omega)]; rfl
 ·rw [if_neg (by omega), decide_eq_true (by omega), Bool.true_and]
  have key : ∀ (n i : Nat), i + n = y.length → (loop (B9 x y) (i : Int)).bind (fun o1 => (match o1 with | .inl _ => some true | .inr x4 => some x4)) = some ((x.drop i).take (y.length - i) == y.drop i) := by
   intro n
   induction n with
   | zero =>
    intro i hi
    rw [CJ (r := .inl ()) (by rw [B9, BT, if_neg (by omega)])]
    rw [show y.drop i = [] from List.drop_eq_nil_of_le (by omega), show y.length - i = 0 by omega, List.take_zero]
    rfl
   | succ n ih =>
    intro i hi
    have hx : i < x.length := by omega
    have hy : i < y.length := by omega
    rw [drop_cons hx, drop_cons hy, show y.length - i = (y.length - (i + 1)) + 1 by omega, List.take_succ_cons]
    by_cases hq : x[i] = y[i]
    ·have step : B9 x y (i : Int) = some (.inl ((i + 1 : Nat) : Int)) := by
      rw [B9, BT, if_pos (by omega), Eh hx, Option.bind_some, Eh hy, Option.bind_some, beq_iff_eq.2 hq, Bool.not_true, B5, Md (by omega)]
     rw [Ey step, ih (i + 1) (by omega), hq]
     congr 1
     rw [Bool.eq_iff_iff, beq_iff_eq, beq_iff_eq, List.cons.injEq]
     simp
    ·rw [CJ (r := .inr false) (by rw [B9, BT, if_pos (by omega), Eh hx, Option.bind_some, Eh hy, Option.bind_some, beq_eq_false_iff_ne.2 hq]; rfl)]
     show some false = some _
     congr 1
     symm
     rw [beq_eq_false_iff_ne]
     intro e
     exact hq (List.cons.inj e).1
  have := key y.length 0 (by omega)
  rw [List.drop_zero, List.drop_zero, Nat.sub_zero] at this
  exact this
theorem XD {m : List (CT × Bool)} {D : List CT} (h : Ng m D) (hD : D.length < 1000000) {name : CT} (hn : name.length < 10000) {mode : Int} (h1 : 1 ≤ mode) (h3 : mode ≤ 3) : CE D name mode = some (XB D (Ae name) mode) := by
 have hl := Ez name
 unfold CE
 have e0 : (decide (mode < 1) || decide (mode > 3)) = false := by simp; omega
 rw [e0, B5, Jw (by omega), Option.bind_some]
 have e1 : (Aa (decide (((Ae name).length : Int) > 0)) ((Fc (Ae name) (IntKind.i64.wrap (((Ae name).length : Int) - 1))).bind fun x3 => some (x3 == ([67, 65, 67, 72, 69, 68, 73, 82, 46, 84, 65, 71] : List UInt8))) (some false) : Option Bool) = some ((Ae name).getLast? == some G4) := by
  rw [BT]
  by_cases h0 : Ae name = []
  ·rw [h0]; rfl
  ·have hpos : 0 < (Ae name).length := List.length_pos_iff.2 h0
   rw [if_pos (by omega)]
   rcases TL hpos with e | e
   ·rw [e, Option.bind_some, ← Rj]; rfl
   ·omega
 rw [e1, Option.bind_some]
 have hu : ∀ d, d ∈ D → C5 name d = some (decide ((Ae d).length < (Ae name).length) && (Ae name).take (Ae d).length == Ae d) := by
  intro d hd
  obtain ⟨c, _, _, _, h4⟩ := h.canon d hd
  exact U4 hn (by omega)
 let p : CT → Bool := fun d => (decide ((Ae d).length < (Ae name).length) && (Ae name).take (Ae d).length == Ae d && (decide (mode > 1) || !((Ae name).getLast? == some G4) || (Ae name).length != (Ae d).length + 1)) || (mode == 3 && decide (0 < (Ae name).length) && Ae name == Ae d)
 have hend : Bu D name mode (Ae name) ((Ae name).getLast? == some G4) (D.length : Int) = some (.inr (.inl ())) := by
  rw [Bu, BT, if_neg (by omega)]
 have hstep : ∀ i (hi : i < D.length), Bu D name mode (Ae name) ((Ae name).getLast? == some G4) (i : Int) = bif p D[i] then some (.inr (.inr true)) else some (.inl (IntKind.i64.wrap ((i : Int) + 1))) := by
  intro i hi
  have hd : D[i] ∈ D := List.getElem_mem hi
  obtain ⟨c, _, _, _, h4⟩ := h.canon _ hd
  have hlc := Ez D[i]
  rw [Bu, BT, if_pos (by omega), Eh hi]
  simp only [Option.bind_some]
  rw [Jw (by omega)]
  simp only [Option.bind_some]
  rw [hu _ hd]
  simp only [Option.bind_some]
  rw [T8 (Ae name) (Ae D[i]) (by omega)]
  simp only [Option.bind_some]
  have e2 : ((((Ae name).length : Int)) != (IntKind.i64.wrap (((Ae D[i]).length : Int) + 1))) = ((Ae name).length != (Ae D[i]).length + 1) := by
   rw [Md (by omega), Bool.eq_iff_iff, bne_iff_ne, bne_iff_ne]; omega
  have e3 : decide (((Ae name).length : Int) > 0) = decide (0 < (Ae name).length) := by rw [decide_eq_decide]; omega
  rw [e2, e3]
  show _ = bif ((decide ((Ae D[i]).length < (Ae name).length) && (Ae name).take (Ae D[i]).length == Ae D[i] && (decide (mode > 1) || !((Ae name).getLast? == some G4) || (Ae name).length != (Ae D[i]).length + 1)) || (mode == 3 && decide (0 < (Ae name).length) && Ae name == Ae D[i])) then _ else _
  cases (decide ((Ae D[i]).length < (Ae name).length) && (Ae name).take (Ae D[i]).length == Ae D[i]) with
  | true =>
   rw [Dm, Bool.true_and]
   cases (decide (mode > 1) || !((Ae name).getLast? == some G4) || (Ae name).length != (Ae D[i]).length + 1) with
   | true => rfl
   | false =>
    rw [B5, Option.bind_some, Bool.false_or]
    dsimp only
    rw [NB, Option.bind_some]
    cases ((mode == 3 && decide (0 < (Ae name).length)) && Ae name == Ae D[i]) <;> rfl
  | false =>
   rw [B5, Option.bind_some, Bool.false_and, Bool.false_or]
   dsimp only
   rw [NB, Option.bind_some]
   cases ((mode == 3 && decide (0 < (Ae name).length)) && Ae name == Ae D[i]) <;> rfl
 have := OQ (l := D) (step := Bu D name mode (Ae name) ((Ae name).getLast? == some G4)) p (.inr true) (.inl ()) (by omega) hend hstep
 rw [this, Option.bind_some]
 show _ = some (D.any p)
 cases D.any p <;> rfl
theorem V9 (l : List Mb) : ∀ (b : List (CT × Bool)), (l.foldl (fun m x => bif tagged x.Name x.Kind x.Data then F7 m (pj (Ae x.Name).dropLast) true else m) b).length ≤ b.length + l.length := by
 induction l with
 | nil => intro b; simp
 | cons x l ih =>
  intro b
  rw [List.foldl_cons, List.length_cons]
  refine Nat.le_trans (ih _) ?_
  cases tagged x.Name x.Kind x.Data with
  | false => simp only [cond_false]; omega
  | true =>
   simp only [cond_true]
   have : (F7 b (pj (Ae x.Name).dropLast) true).length ≤ b.length + 1 := by
    have := congrArg List.length (NN b (pj (Ae x.Name).dropLast) true)
    rw [List.length_map] at this
    rw [this]
    split <;> simp
   omega
theorem OT (x0 : List Mb) {Q0 : Prop} (k0 : Q0) (x1 : CT) {Q1 : Prop} (k1 : Q1) (x2 : Int) {Q2 : Prop} (k2 : Q2) : DJ x0 x1 x2 = some true := by
 unfold DJ
 cases hc : (decide ((x0.length : Int) > 10) || decide ((x1.length : Int) > 200)) with
 | true => rw [Dm, RJ]; rfl
 | false =>
  rw [B5]
  simp only [Bool.or_eq_false_iff, decide_eq_false_iff_not] at hc
  have hl := OQ (l := x0) (step := CI x0) QL (.inr true) (.inl ()) (by omega)
   (by rw [CI, BT, if_neg (by omega)])
   (fun i hi => by
    rw [CI, BT, if_pos (by omega), Eh hi, Option.bind_some, SQ, Option.bind_some, RJ]
    cases QL x0[i] <;> rfl)
  rw [hl, Option.bind_some]
  cases hb : x0.any QL with
  | true => rfl
  | false =>
   dsimp only [cond_false]
   have hs : ∀ m ∈ x0, m.Name.length < 10000 := fun m hm => by have := (UL (fun m h => Rs h) hb m hm).1; omega
   have hS := WE x0 hs
   have hm := V9 x0 []
   have hd := Ur x0 []
   have hp : 2 ^ x0.length ≤ 2 ^ 10 := Nat.pow_le_pow_right (by omega) (by omega)
   have hp2 : (2 : Nat) ^ 10 = 1024 := rfl
   have hm' : (mapOf x0).length < 1000000 := by
    have : (mapOf x0).length ≤ ([] : List (CT × Bool)).length + x0.length := hm
    simp at this; omega
   have hd' : (Ot x0).length < 1000000 := by
    have : (Ot x0).length + 1 ≤ 2 ^ x0.length * (([] : List CT).length + 1) := hd
    simp at this; omega
   rw [U3 (by omega) hs, Option.bind_some, WA (by omega) hs, Option.bind_some, hS.sorted hm', Option.bind_some, Rz _ _ hd', Option.bind_some, beq_self_eq_true, Dm]
   have : ((CF (⟨mapOf x0⟩ : Ay) x1 x2).bind fun x10 => (CE (Ot x0) x1 x2).bind fun x11 => some (x10 == x11)) = some true := by
    by_cases hmode : 1 ≤ x2 ∧ x2 ≤ 3
    ·rw [W8 hS (by omega) hmode.1 hmode.2, Option.bind_some, XD hS hd' (by omega) hmode.1 hmode.2, Option.bind_some, VK hS (fun x hx => KC hx) hmode.1, beq_self_eq_true]
    ·have e0 : (decide (x2 < 1) || decide (x2 > 3)) = true := by simp; omega
     unfold CF CE
     rw [e0]; rfl
   rw [this, RJ]
   rfl
end Go.Av.L
