/-
  Several texts in one.
-/
import Derived.Test.YthnnciphldbmeaaGreatDoorFiB
import Derived.Test.YthnnciphldbmeaaGreatDoorFiL
import Derived.Test.YthnnciphldbmeaaGreatDoorFsA
import Derived.Test.YthnnciphldbmeaaGreatDoorAvNum
import Derived.Test.YthnnciphldbmeaaGreatDoorK0
import Derived.Test.YthnnciphldbmeaaGreatDoorK1
import Derived.Test.YthnnciphldbmeaaGreatDoorK2
import Derived.Test.YthnnciphldbmeaaGreatDoorK3
import Derived.Test.YthnnciphldbmeaaGreatDoorK4
import Derived.Test.YthnnciphldbmeaaGreatDoorK5
import Derived.Test.YthnnciphldbmeaaGreatDoorK6
import Derived.Test.YthnnciphldbmeaaGreatDoorK7
import Derived.Test.YthnnciphldbmeaaGreatDoorK8
import Derived.Test.YthnnciphldbmeaaGreatDoorK9
/-
  Directories that members tag: what the program and the document tell.
-/
section
namespace Go.Av.L
open Go.Av Go.Lib
set_option linter.unusedVariables false
set_option linter.unusedSimpArgs false
theorem Qj : ∀ (u cur v : Em), QC cur (u ++ 47 :: v) = QC cur u ++ QC [] v
 | [], cur, v => by simp [QC]
 | b :: u, cur, v => by
  rw [List.cons_append, QC, QC]
  split
  ·rw [Qj u [] v]; rfl
  ·exact Qj u _ v
theorem VN (a b : List Em) : full (a ++ b) = full a ++ full b := by unfold full; exact List.filter_append _ _
theorem NS (u v : Em) : Cj (u ++ 47 :: v) = Cj u ++ Cj v := by unfold Cj; rw [Qj, VN]
theorem Pb (t : Em) : ∀ k, Cj (t ++ List.replicate k 47) = Cj t
 | 0 => by simp
 | k + 1 => by
  have h : ∀ k, Cj (List.replicate k 47) = [] := by
   intro k
   induction k with
   | zero => rfl
   | succ k ih =>
    have := NS [] (List.replicate k 47)
    rw [List.nil_append] at this
    rw [List.replicate_succ, this, ih]; rfl
  rw [List.replicate_succ, NS, h, List.append_nil]
theorem UA {v : Em} (h : UP v) : Cj v = [v] := by
 have := Od [v] (by simpa using h)
 rwa [QZ] at this
theorem WY : ∀ (n : Nat) (s : Em), s.length ≤ n → s.length < 900000000 → ∃ (t : Em) (k : Nat), loop (CL 47) s = some t ∧ s = t ++ List.replicate k 47 ∧ (t = [] ∨ ∃ u b, t = u ++ [b] ∧ b ≠ 47)
 | 0, s, h, _ => by
  have : s = [] := List.length_eq_zero_iff.1 (by omega)
  subst this
  exact ⟨[], 0, Bo rfl, rfl, .inl rfl⟩
 | n + 1, s, h, hb => by
  by_cases hs : s = []
  ·subst hs; exact ⟨[], 0, Bo rfl, rfl, .inl rfl⟩
  obtain ⟨u, b, rfl⟩ : ∃ u b, s = u ++ [b] := ⟨_, _, (List.dropLast_concat_getLast hs).symm⟩
  have hl : (u ++ [b]).length = u.length + 1 := by simp
  have e : IntKind.i64.wrap (((u ++ [b]).length : Int) - 1) = (u.length : Int) := by rw [hl, UB (by omega) (by omega)]; omega
  have e2 : (u ++ [b])[u.length]? = some b := by simp
  by_cases hq : b = 47
  ·subst hq
   have step : CL 47 (u ++ [47]) = some (.inl u) := by
    rw [CL, Ba, if_pos (by omega), e, QV e2, Option.bind_some]
    show (Option.bind (some true) _) = _
    rw [Option.bind_some, FU, OD (by simp), List.take_left]; rfl
   obtain ⟨t, k, h1, h2, h3⟩ := WY n u (by omega) (by omega)
   exact ⟨t, k + 1, by rw [Dl step]; exact h1, by rw [List.replicate_succ', ← List.append_assoc, ← h2], h3⟩
  ·refine ⟨u ++ [b], 0, Bo ?_, by simp, .inr ⟨u, b, rfl, hq⟩⟩
   have hne : ((b.toNat : Int) == 47) = false := by
    rw [beq_eq_false_iff_ne]
    intro e
    exact hq (UInt8.toNat_inj.1 (by show b.toNat = 47; omega))
   rw [CL, Ba, if_pos (by omega), e, QV e2, Option.bind_some, hne]
   rfl
theorem T1 (t : Em) (hb : t.length < 900000000) : ∃ (r : Int) (v : Em), DO t 47 = some r ∧ -1 ≤ r ∧ r < t.length ∧ t.drop (r + 1).toNat = v ∧ (47 : UInt8) ∉ v ∧ ((r = -1 ∧ t = v) ∨ ∃ u, t = u ++ 47 :: v) := by
 have key : ∀ (n : Nat), n ≤ t.length → (47 : UInt8) ∉ t.drop n → ∃ (r : Int) (v : Em), (loop (Bg t 47) ((n : Int) - 1)).bind (fun o1 => (match o1 with | .inl _ => some (-1 : Int) | .inr x2 => some x2)) = some r ∧ -1 ≤ r ∧ r < t.length ∧ t.drop (r + 1).toNat = v ∧ (47 : UInt8) ∉ v ∧ ((r = -1 ∧ t = v) ∨ ∃ u, t = u ++ 47 :: v) := by
  intro n
  induction n with
  | zero =>
   intro _ h
   refine ⟨-1, t, ?_, by omega, by omega, rfl, by simpa using h, .inl ⟨rfl, rfl⟩⟩
   rw [Bo (r := .inl ()) (by rw [Bg, Ba, if_neg (by omega)])]
   rfl
  | succ n ih =>
   intro hn h
   have hlt : n < t.length := by omega
   have e : ((n + 1 : Nat) : Int) - 1 = (n : Int) := by omega
   rw [e]
   by_cases hq : t[n] = 47
   ·refine ⟨n, t.drop (n + 1), ?_, by omega, by omega, ?_, h, .inr ⟨t.take n, ?_⟩⟩
    ·rw [Bo (r := .inr (n : Int)) (by rw [Bg, Ba, if_pos (by omega), My hlt, hq]; rfl)]
     rfl
    ·congr 1
    ·have := List.take_append_drop n t
     rw [drop_cons hlt, hq] at this
     exact this.symm
   ·have hne : ((t[n].toNat : Int) == 47) = false := by
     rw [beq_eq_false_iff_ne]
     intro e
     exact hq (UInt8.toNat_inj.1 (by show t[n].toNat = 47; omega))
    have step : Bg t 47 (n : Int) = some (.inl ((n : Int) - 1)) := by
     rw [Bg, Ba, if_pos (by omega), My hlt, Option.bind_some, hne, B0, UB (by omega) (by omega)]
    rw [Dl step]
    refine ih (by omega) ?_
    rw [drop_cons hlt]
    simp only [List.mem_cons, not_or]
    exact ⟨fun e => hq e.symm, h⟩
 obtain ⟨r, v, h1, h2⟩ := key t.length (Nat.le_refl _) (by simp)
 refine ⟨r, v, ?_, h2⟩
 unfold DO C4
 rw [UB (by omega) (by omega)]
 exact congrArg (fun q => Option.bind q fun x1 => some x1) h1
theorem Td {s : Em} (hb : s.length < 900000000) : GJ s = some ((Cj s).getLast?.getD []) := by
 obtain ⟨t, k, h1, h2, h3⟩ := WY s.length s (Nat.le_refl _) hb
 have ht : t.length ≤ s.length := by rw [h2, List.length_append]; omega
 have hT : Ce s = some t := by
  unfold Ce DH
  rw [show (([47] : List UInt8) == ([] : List UInt8)) = false from rfl, Bool.or_false]
  by_cases hs : s = []
  ·subst hs
   have : t = [] := by
    have := congrArg List.length h2
    simp at this
    exact List.length_eq_zero_iff.1 (by omega)
   subst this; rfl
  ·rw [beq_eq_false_iff_ne.2 hs, B0, h1]
   rfl
 obtain ⟨r, v, g1, g2, g3, g4, g5, g6⟩ := T1 t (by omega)
 have e : IntKind.i64.wrap (r + 1) = (((r + 1).toNat : Nat) : Int) := by rw [UB (by omega) (by omega)]; omega
 unfold GJ
 rw [hT, Option.bind_some, g1, Option.bind_some, e, Tb (by omega), g4, Option.bind_some]
 congr 1
 have hc : Cj s = Cj t := by rw [h2]; exact Pb t k
 rw [hc]
 rcases h3 with rfl | ⟨u, b, hu, hbne⟩
 ·rcases g6 with ⟨_, rfl⟩ | ⟨u, hu⟩
  ·rfl
  ·cases u <;> simp at hu
 ·have hv : v ≠ [] := by
   rintro rfl
   rcases g6 with ⟨_, e⟩ | ⟨u', hu'⟩
   ·rw [e] at hu; simp at hu
   ·rw [hu] at hu'
    have := List.append_inj_right' hu' rfl
    simp at this
    exact hbne this
  have hcv := UA ⟨hv, g5⟩
  rcases g6 with ⟨_, rfl⟩ | ⟨u', hu'⟩
  ·rw [hcv]; rfl
  ·rw [hu', NS, hcv]; simp
theorem hasPrefix (p q : Em) : Cv p q = some (p.take q.length == q) := by
 simp only [Cv, D2]
 rw [Ba]
 by_cases h : q.length ≤ p.length
 ·rw [if_pos (by omega), OD h]; rfl
 ·rw [if_neg (by omega)]
  have : (p.take q.length == q) = false := by
   rw [beq_eq_false_iff_ne]
   intro he
   have := congrArg List.length he
   rw [List.length_take] at this
   omega
  rw [this]; rfl
def Tj : Em := [67, 65, 67, 72, 69, 68, 73, 82, 46, 84, 65, 71]
def Wp : Em := [83, 105, 103, 110, 97, 116, 117, 114, 101, 58, 32, 56, 97, 52, 55, 55, 102, 53, 57, 55, 100, 50, 56, 100, 49, 55, 50, 55, 56, 57, 102, 48, 54, 56, 56, 54, 56, 48, 54, 98, 99, 53, 53]
def tagged (n : Em) (k : Int) (p : Em) : Bool := k == 48 && (Cj n).getLast? == some Tj && p.take 43 == Wp
theorem Ur (n : Em) : ((Cj n).getLast?.getD [] == Tj) = ((Cj n).getLast? == some Tj) := by
 cases (Cj n).getLast? with
 | none => rfl
 | some x => rfl
theorem Lv {s x : Em} (h : x ∈ (Cj s).dropLast) : UP x := Pw (List.dropLast_subset _ h)
theorem Nu (l : List Em) : (pj l.dropLast).length ≤ (pj l).length := by rw [List.dropLast_eq_take]; exact Ow l _
theorem RV {s : Em} (hb : s.length < 800000000) : ∃ b, GC s = some (pj (Cj s).dropLast, b) := by
 have hl := NB s
 unfold GC
 rw [MC (by omega), Option.bind_some, Ba]
 by_cases h : (Cj s).length < 2
 ·rw [if_pos (by omega)]
  refine ⟨false, ?_⟩
  have : (Cj s).dropLast = [] := List.length_eq_zero_iff.1 (by rw [List.length_dropLast]; omega)
  rw [this]; rfl
 ·rw [if_neg (by omega)]
  have e : IntKind.i64.wrap (((Cj s).length : Int) - 1) = (((Cj s).length - 1 : Nat) : Int) := by rw [UB (by omega) (by omega)]; omega
  have h1 := Nu (Cj s)
  have h2 := LF s
  rw [e, Vl (by omega), Option.bind_some, ← List.dropLast_eq_take, Px (fun x hx => Lv hx) (by rw [List.length_dropLast]; omega) (by omega), Option.bind_some]
  exact ⟨true, rfl⟩
theorem Wu {n p : Em} {k : Int} (hb : n.length < 800000000) : FQ n k p = some (bif tagged n k p then (pj (Cj n).dropLast, true) else ([], false)) := by
 obtain ⟨b, hp⟩ := RV hb
 unfold FQ tagged
 rw [Td (by omega), Option.bind_some]
 show (Af (k != 48) (some true) (some (!((Cj n).getLast?.getD [] == Tj)))).bind _ = _
 rw [Ur, hasPrefix, Option.bind_some]
 show ((Af (k != 48) (some true) (some (!((Cj n).getLast? == some Tj)))).bind fun x1 => (Af x1 (some true) (some (!(p.take 43 == Wp)))).bind _) = _
 rw [hp]
 have : (k != 48) = !(k == 48) := rfl
 rw [this]
 cases (k == 48) <;> cases ((Cj n).getLast? == some Tj) <;> cases (p.take 43 == Wp) <;> rfl
end Go.Av.L
end
/-
  Several texts in one.
-/
section
/-
  An index of the directories that members tag.
-/
section
namespace Go.Av.L
open Go.Av Go.Lib
set_option linter.unusedVariables false
set_option linter.unusedSimpArgs false
theorem put_eq {m : BA} {d : Em} (hb : d.length < 800000000) : DJ m d = some (It m.DD (pj (Cj d)) true) := by
 have hl := NB d
 have hj := LF d
 unfold DJ
 rw [MC (by omega), Option.bind_some, Px (fun x hx => Pw hx) (by omega) (by omega), Option.bind_some]
end Go.Av.L
end
/-
  What a list's members tag.
-/
section
namespace Go.Av.L
open Go.Av Go.Lib
set_option linter.unusedVariables false
set_option linter.unusedSimpArgs false
def mapOf (l : List Mb) : List (Em × Bool) := l.foldl (fun m x => bif tagged x.Name x.Kind x.Data then It m (pj (Cj x.Name).dropLast) true else m) []
theorem UQ {l : List Mb} (hl : l.length < 1000000) (h : ∀ m ∈ l, m.Name.length < 10000) : F9 l = some (⟨mapOf l⟩ : BA) := by
 unfold F9 F6
 rw [Option.bind_some]
 have := Xv (step := Ex l) (l := l) (enc := fun (m : List (Em × Bool)) i => (m, (i : Int))) (f := fun m _ x => bif tagged x.Name x.Kind x.Data then It m (pj (Cj x.Name).dropLast) true else m) (P := fun _ _ => True) (fin := fun m => m)
  (fun s _ => by rw [Ex, Ba, if_neg (by omega)])
  (fun s i hi _ => by
   have hx := h _ (List.getElem_mem hi)
   have h2 := Nu (Cj l[i].Name)
   have h3 := LF l[i].Name
   refine ⟨?_, trivial⟩
   rw [Ex, Ba, if_pos (by omega), Fm hi, Option.bind_some, Wu (by omega), OI (by omega)]
   cases tagged l[i].Name l[i].Kind l[i].Data with
   | false => rfl
   | true =>
    simp only [cond_true, Option.bind_some, FU]
    rw [put_eq (by omega), Od _ (fun y hy => Lv hy)]
    rfl) [] trivial
 rw [show (0 : Int) = ((0 : Nat) : Int) from rfl, this.1, Option.bind_some, Ns]
 rfl
end Go.Av.L
end
/-
  With the default config right members stay, in their order; their names are told.
-/
section
namespace Go.Av.L
open Go.Av Go.Lib
set_option linter.unusedVariables false
set_option linter.unusedSimpArgs false
theorem OF (b c : Bool) : Af b (some c) (some false) = some (b && c) := by cases b <;> rfl
theorem Up (a b c d : Em) : TB cfg.P 90 [.str a, .str b] [.str c, .str d] = some (a == c && b == d) := by
 have e : TB cfg.P 90 [.str a, .str b] [.str c, .str d] = Af (a == c) (Af (b == d) (some true) (some false)) (some false) := by kernel_rfl
 rw [e, OF, OF, Bool.and_true]
theorem Te (a b c d : Int) : TB cfg.P 23 [.int .i64 a, .int .i64 b] [.int .i64 c, .int .i64 d] = some (a == c && b == d) := by
 have e : TB cfg.P 23 [.int .i64 a, .int .i64 b] [.int .i64 c, .int .i64 d] = Af (a == c) (Af (b == d) (some true) (some false)) (some false) := by kernel_rfl
 rw [e, OF, OF, Bool.and_true]
theorem Uy (x y : Am) : ∃ r, TB cfg.P 90 [.str x.Key, .str x.Value] [.str y.Key, .str y.Value] = some r ∧ (r = true ↔ x = y) :=
 ⟨_, Up _ _ _ _, by cases x; cases y; simp⟩
theorem W3 (a b : List Am) (hb : a.length < 4611686018427387904) : ∃ r, D9 a b = some r ∧ (r = true ↔ a = b) := by
 unfold D9
 rw [SE]
 by_cases h : (a.length : Int) = (b.length : Int)
 ·rw [if_pos h]
  exact Ry (same := fun x y => TB cfg.P 90 [.str x.Key, .str x.Value] [.str y.Key, .str y.Value]) (fun x _ => Uy x) (by omega) hb (fun x1 => rfl)
 ·rw [if_neg h]
  exact ⟨false, rfl, by simp; intro e; subst e; exact h rfl⟩
theorem We (x : Mb) (hb : x.Extra.length < 4611686018427387904) : EC x x = some true := by
 unfold EC
 obtain ⟨r, h1, h2⟩ := W3 x.Extra x.Extra hb
 have hr : r = true := h2.2 rfl
 subst hr
 rw [Te, h1]
 simp
end Go.Av.L
end
/-
  The chapter's example holds.
-/
section
namespace Go.Av.L
open Go.Av Go.Lib
set_option maxRecDepth 100000
theorem OB : DQ = some true := by kernel_rfl
end Go.Av.L
end
end
