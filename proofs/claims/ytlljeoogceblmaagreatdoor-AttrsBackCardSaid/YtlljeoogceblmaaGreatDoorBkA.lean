/-
 A part.
-/
import Derived.Test.YtlljeoogceblmaaGreatDoorBkN
namespace Go.Av.L
open Go.Av Go.Lib
set_option linter.unusedVariables false
set_option linter.unusedSimpArgs false
def GU (s : List UInt8) : Int × Int := if s.length = 0 ∨ s.length > 16 then (0, 2) else if s.all K9 = true then (if Fs s > 9007199254740991 then (0, 6) else ((Fs s : Int), 0)) else (0, 2)
theorem VZ {s : List UInt8} (hs : s.length ≤ 16) : Av.loop (BS s) ((0 : Int), (0 : Int)) = some (if s.all K9 = true then .inl (Fs s : Int) else .inr 2) := by
 refine W.eq (W.list (l := s) (fun (v : Nat) (i : Nat) => ((v : Int), (i : Int))) (fun v i => v = Fs (s.take i) ∧ (s.take i).all K9 = true) ?_ ?_ 0 ⟨rfl, rfl⟩)
 ·rintro v ⟨hv, ha⟩
  unfold BS
  refine W.QC (fun h => by omega) fun _ => W.ret ?_
  rw [List.take_length] at hv ha
  rw [if_pos ha, hv]
 ·rintro v i hi ⟨hv, ha⟩
  unfold BS
  refine W.QC (fun _ => ?_) fun h => by omega
  try simp only []
  rw [KI hi]
  simp only [Option.bind_some]
  rw [Tj, Option.bind_some, Za]
  cases hd : K9 s[i] with
  | false =>
   rw [Bool.not_false, Ah]
   refine W.ret ?_
   rw [if_neg (by rw [TZ hi hd]; decide)]
  | true =>
   rw [Bool.not_true, AQ]
   have hb := Vt hd
   have hlt := VK ha (by rw [List.length_take]; omega)
   rw [← hv] at hlt
   refine W.ret ⟨R3 v s[i], ?_, ?_, OV hi ha hd⟩
   ·rw [HM (by omega), JK (x := (10 : Int) * (v : Int)) (by omega) (by omega), aS (by omega) (by omega), JK (x := (s[i].toNat : Int) - 48) (by omega) (by omega), JK (by omega) (by omega)]
    unfold R3
    refine Prod.ext ?_ rfl
    show (10 : Int) * v + (s[i].toNat - 48) = ((10 * v + (s[i].toNat - 48) : Nat) : Int)
    omega
   ·rw [FQ (List.getElem?_eq_getElem hi), KF, ← hv]
    rfl
def Rn {α : Type} (s : List UInt8) (m : α) (f : Int → α) : Int × α := if (GU s).2 = 0 then (0, f (GU s).1) else ((GU s).2, m)
theorem QJ {α : Type} (s : List UInt8) (m : α) (f : Int → α) :
  Ad (((s.length : Int) == 0) || (decide ((s.length : Int) > 16))) (some ((2 : Int), m)) ((Av.loop (BS s) ((0 : Int), (0 : Int))).bind fun o1 => (match o1 with | .inl x3 => Ad (decide (x3 > 9007199254740991)) (some ((6 : Int), m)) (some ((0 : Int), f x3)) | .inr x4 => some (x4, m))) = some (Rn s m f) := by
 unfold Rn GU
 by_cases h : s.length = 0 ∨ s.length > 16
 ·rw [if_pos h, show (((s.length : Int) == 0) || decide ((s.length : Int) > 16)) = true from by rw [Bool.or_eq_true, beq_iff_eq, decide_eq_true_eq]; omega, Ah]
  rfl
 ·rw [if_neg h, show (((s.length : Int) == 0) || decide ((s.length : Int) > 16)) = false from by rw [Bool.or_eq_false_iff, beq_eq_false_iff_ne, decide_eq_false_iff_not]; omega, AQ, VZ (by omega), Option.bind_some]
  by_cases ha : s.all K9 = true
  ·rw [if_pos ha, if_pos ha]
   simp only []
   by_cases hv : Fs s > 9007199254740991
   ·rw [if_pos hv, decide_eq_true (by omega), Ah]
    rfl
   ·rw [if_neg hv, decide_eq_false (by omega), AQ]
    rfl
  ·rw [if_neg ha, if_neg ha]
   rfl
theorem ah (s : List UInt8) (m : AL) : C8 s m = some (Rn s m fun v => ⟨m.Name, m.AU, m.Kind, m.Mode, m.BP, v, m.AN, m.AO, m.Aa, m.Ag, m.Time, m.Extra, m.Data⟩) := QJ s m _
theorem aV (s : List UInt8) (m : AL) : C7 s m = some (Rn s m fun v => ⟨m.Name, m.AU, m.Kind, m.Mode, v, m.BQ, m.AN, m.AO, m.Aa, m.Ag, m.Time, m.Extra, m.Data⟩) := QJ s m _
theorem ae (s : List UInt8) (n : Int) : Dc s n = some (Rn s n fun v => v) := QJ s n _
def Rc (s : List UInt8) : Bool := s.contains 0
theorem Se (s : List UInt8) : ∃ n, Au s (0 : Int) = some n ∧ decide (n ≥ 0) = Rc s := by
 unfold Au Bi FP
 rw [if_pos (by decide)]
 refine ⟨_, rfl, ?_⟩
 have := MS s (UInt8.ofNat (0 : Int).toNat)
 unfold Rc
 by_cases h : (0 : UInt8) ∈ s
 ·rw [show s.contains 0 = true from by rw [List.contains_iff_mem]; exact h]
  exact decide_eq_true (this.2 h)
 ·rw [show s.contains 0 = false from by
   cases e : s.contains 0 with
   | false => rfl
   | true => exact absurd (List.contains_iff_mem.1 e) h]
  exact decide_eq_false fun e => h (this.1 e)
def O4 {α : Type} (s : List UInt8) (m m' : α) : Int × α := if Rc s = true then (2, m) else (0, m')
theorem KH {α : Type} (s : List UInt8) (m m' : α) : ((Au s (0 : Int)).bind fun x1 => Ad (decide (x1 ≥ 0)) (some ((2 : Int), m)) (some ((0 : Int), m'))) = some (O4 s m m') := by
 obtain ⟨n, e, h⟩ := Se s
 rw [e, Option.bind_some, h]
 unfold O4
 cases Rc s <;> rfl
theorem Yo (s : List UInt8) (m : AL) : DK s m = some (O4 s m ⟨m.Name, m.AU, m.Kind, m.Mode, m.BP, m.BQ, m.AN, s, m.Aa, m.Ag, m.Time, m.Extra, m.Data⟩) := KH s m _
theorem Y5 (s : List UInt8) (m : AL) : DL s m = some (O4 s m ⟨m.Name, m.AU, m.Kind, m.Mode, m.BP, m.BQ, s, m.AO, m.Aa, m.Ag, m.Time, m.Extra, m.Data⟩) := KH s m _
theorem Yg (s : List UInt8) (m : AL) : Dd s m = some (O4 s m ⟨s, m.AU, m.Kind, m.Mode, m.BP, m.BQ, m.AN, m.AO, m.Aa, m.Ag, m.Time, m.Extra, m.Data⟩) := KH s m _
theorem Yu (s : List UInt8) (m : AL) : DJ s m = some (O4 s m ⟨m.Name, s, m.Kind, m.Mode, m.BP, m.BQ, m.AN, m.AO, m.Aa, m.Ag, m.Time, m.Extra, m.Data⟩) := KH s m _
def TU : List UInt8 → List UInt8 × Bool
 | [] => ([], false)
 | c :: t => if c = 45 then (t, true) else (c :: t, false)
theorem XM (s : List UInt8) : DE s ([45] : List UInt8) = some (TU s) := by
 unfold DE C2 C5
 cases s with
 | nil => rfl
 | cons c t =>
  have e1 : FF (c :: t) none (some ((([45] : List UInt8).length : Nat) : Int)) = some [c] := Is (s := c :: t) (i := 1) (by simp)
  have e2 : FF (c :: t) (some ((([45] : List UInt8).length : Nat) : Int)) none = some t := NF (s := c :: t) (i := 1) (by simp)
  rw [decide_eq_true (show (((c :: t).length : Nat) : Int) ≥ (([45] : List UInt8).length : Int) by simp only [List.length_cons, List.length_nil]; omega), Ah, e1, e2]
  simp only [Option.bind_some]
  have hm : TU (c :: t) = if c = 45 then (t, true) else (c :: t, false) := rfl
  rw [hm]
  by_cases h : c = 45
  ·subst h; rfl
  ·rw [if_neg h, show (([c] : List UInt8) == [45]) = false from by rw [beq_eq_false_iff_ne]; intro e; exact h (by injection e)]
   rfl
theorem ZY {a r : List UInt8} (h : (46 : UInt8) ∉ a) : Lib.cut (a ++ 46 :: r) [46] = (a, r, true) := by
 have hi : Lib.index (a ++ 46 :: r) [46] = (a.length : Int) := by
  refine Lib.index_first (by simp) ?_ fun j hj => ?_
  ·unfold Lib.occAt
   simp [List.isPrefixOf]
  ·unfold Lib.occAt
   rw [List.drop_append_of_le_length (by omega), List.drop_eq_getElem_cons hj]
   have : (46 : UInt8) ≠ a[j] := fun e => h (by rw [e]; exact List.getElem_mem hj)
   rw [List.cons_append]
   simp [List.isPrefixOf, this]
 unfold Lib.cut
 rw [hi, if_pos (by omega)]
 simp
theorem index_none : ∀ {s : List UInt8}, (46 : UInt8) ∉ s → Lib.index s [46] = -1
 | [], _ => rfl
 | b :: s, h => by
  have h1 : (46 : UInt8) ≠ b := fun e => h (by rw [e]; exact .head _)
  have ih := index_none (s := s) fun e => h (.tail _ e)
  unfold Lib.index
  rw [ih]
  simp [List.isPrefixOf, h1]
theorem bM {s : List UInt8} (h : (46 : UInt8) ∉ s) : Lib.cut s [46] = (s, [], false) := by
 unfold Lib.cut
 rw [index_none h, if_neg (by decide)]
def Mo (s : List UInt8) (most : Nat) : Int × Bool := if s.length = 0 ∨ s.length > most then (0, false) else if s.all K9 = true then ((Fs (s.take 16) : Int), true) else (0, false)
theorem Uj {s : List UInt8} (hs : s.length ≤ 1000) : Av.loop (Dl s) ((0 : Int), (0 : Int)) = some (if s.all K9 = true then .inl (Fs (s.take 16) : Int) else .inr ((0 : Int), false)) := by
 refine W.eq (W.list (l := s) (fun (v : Nat) (i : Nat) => ((v : Int), (i : Int))) (fun v i => v = Fs ((s.take i).take 16) ∧ (s.take i).all K9 = true) ?_ ?_ 0 ⟨rfl, rfl⟩)
 ·rintro v ⟨hv, ha⟩
  unfold Dl
  refine W.QC (fun h => by omega) fun _ => W.ret ?_
  rw [List.take_length] at hv ha
  rw [if_pos ha, hv]
 ·rintro v i hi ⟨hv, ha⟩
  unfold Dl
  refine W.QC (fun _ => ?_) fun h => by omega
  try simp only []
  rw [KI hi]
  simp only [Option.bind_some]
  rw [Tj, Option.bind_some, Za]
  cases hd : K9 s[i] with
  | false =>
   rw [Bool.not_false, Ah, Option.bind_some]
   refine W.ret ?_
   rw [if_neg (by rw [TZ hi hd]; decide)]
  | true =>
   rw [Bool.not_true, AQ]
   have hb := Vt hd
   have ha16 : ((s.take i).take 16).all K9 = true := by
    rw [List.all_eq_true] at ha ⊢
    exact fun x hx => ha x (List.mem_of_mem_take hx)
   by_cases h16 : i < 16
   ·have htt : (s.take i).take 16 = s.take i := List.take_of_length_le (by rw [List.length_take]; omega)
    rw [htt] at hv
    have hlt := VK ha (by rw [List.length_take]; omega)
    rw [← hv] at hlt
    rw [decide_eq_true (by omega), Ah, Option.bind_some]
    refine W.ret ⟨R3 v s[i], ?_, ?_, OV hi ha hd⟩
    ·rw [HM (by omega), JK (x := (10 : Int) * (v : Int)) (by omega) (by omega), aS (by omega) (by omega), JK (x := (s[i].toNat : Int) - 48) (by omega) (by omega), JK (by omega) (by omega)]
     unfold R3
     refine Prod.ext ?_ rfl
     show (10 : Int) * v + (s[i].toNat - 48) = ((10 * v + (s[i].toNat - 48) : Nat) : Int)
     omega
    ·rw [List.take_of_length_le (l := s.take (i + 1)) (by rw [List.length_take]; omega), FQ (List.getElem?_eq_getElem hi), KF, ← hv]
     rfl
   ·rw [decide_eq_false (by omega), AQ, Option.bind_some]
    refine W.ret ⟨v, by rw [HM (by omega)], ?_, OV hi ha hd⟩
    rw [hv, List.take_take, List.take_take]
    congr 1
    rw [Nat.min_eq_left (by omega), Nat.min_eq_left (by omega)]
theorem NP (s : List UInt8) (most : Nat) (hs : s.length ≤ 1000) : DW s (most : Int) = some (Mo s most) := by
 unfold DW Mo
 by_cases h : s.length = 0 ∨ s.length > most
 ·rw [if_pos h, show (((s.length : Int) == 0) || decide ((s.length : Int) > (most : Int))) = true from by rw [Bool.or_eq_true, beq_iff_eq, decide_eq_true_eq]; omega, Ah]
 ·rw [if_neg h, show (((s.length : Int) == 0) || decide ((s.length : Int) > (most : Int))) = false from by rw [Bool.or_eq_false_iff, beq_eq_false_iff_ne, decide_eq_false_iff_not]; omega, AQ, Uj hs, Option.bind_some]
  by_cases ha : s.all K9 = true
  ·rw [if_pos ha, if_pos ha]
  ·rw [if_neg ha, if_neg ha]
end Go.Av.L
