/-
  Several texts in one.
-/
import Derived.Test.YtlljeoogceblmaaGreatDoorAvMap
import Derived.Test.YtlljeoogceblmaaGreatDoorK0
import Derived.Test.YtlljeoogceblmaaGreatDoorK1
import Derived.Test.YtlljeoogceblmaaGreatDoorK2
import Derived.Test.YtlljeoogceblmaaGreatDoorK3
import Derived.Test.YtlljeoogceblmaaGreatDoorK4
import Derived.Test.YtlljeoogceblmaaGreatDoorK5
import Derived.Test.YtlljeoogceblmaaGreatDoorK6
import Derived.Test.YtlljeoogceblmaaGreatDoorK7
import Derived.Test.YtlljeoogceblmaaGreatDoorK8
import Derived.Test.YtlljeoogceblmaaGreatDoorK9
/-
 A part.
-/
section
namespace Go.Av.L
open Go.Av Go.Lib
open IntKind (i64)
set_option maxRecDepth 100000
set_option linter.unusedVariables false
set_option linter.unusedSimpArgs false
def EK : AG := ⟨[97], [], 53, 0, 0, 0, [], [], 0, 0, ⟨0, 0⟩, [], []⟩
def aB : List UInt8 :=
 let z := fun n => List.replicate n (0 : UInt8)
 let o := fun n => List.replicate n (48 : UInt8)
 [97] ++ (z 99 ++ (o 7 ++ (z 1 ++ (o 7 ++ (z 1 ++ (o 7 ++ (z 1 ++ (o 11 ++ (z 1 ++ (o 11 ++ (z 1 ++ (o 2 ++ ([55, 51, 50, 53, 0, 32, 53] ++ (z 100 ++ ([117, 115, 116, 97, 114, 0, 48, 48] ++ (z 64 ++ (o 7 ++ (z 1 ++ (o 7 ++ z 168)))))))))))))))))))
def aZ : List UInt8 := List.replicate 512 0
theorem Fv : aB.length = 512 := by kernel_rfl
theorem FT : aZ.length = 512 := by kernel_rfl
theorem SZ : DW = some true := by kernel_rfl
theorem XY : GQ EK 0 = some (aB, 0) := by kernel_rfl
theorem W3 : CM ⟨false, false, 0, 0⟩ EK 0 = some (aB, 0, ⟨true, false, 0, 0⟩) := by
 unfold CM
 rw [XY]
 rfl
theorem X6 : Cx ⟨true, false, 0, 0⟩ [] = some ([], 0, ⟨true, false, 0, 0⟩) := by kernel_rfl
theorem X1 : DV ⟨true, false, 0, 0⟩ = some ([], 0, ⟨false, false, 0, 0⟩) := by kernel_rfl
theorem Wz : DK ⟨false, false, 0, 0⟩ = some (aZ ++ aZ, 0, ⟨false, true, 0, 0⟩) := by kernel_rfl
def S0 : AL := ⟨[97], [], 53, 0, 0, 0, 0, 0, [], [], 0, 0, 2⟩
theorem XM : F1 aB = some (S0, 0) := by kernel_rfl
theorem XE : F4 aB = some false := by kernel_rfl
theorem T6 : F4 aZ = some true := by kernel_rfl
abbrev O9 : Ap := ⟨[], [], [], false, false, false⟩
theorem WK : DP O9 = some false := by kernel_rfl
theorem YK : G4 ⟨1, 1⟩ = some (some ⟨⟨1, 1⟩, ⟨[], [], 0, false⟩, 0, 0, 0, false, 0, 0, ⟨[], [], 0, 0, 0, 0, 0, 0, [], [], 0, 0, 0⟩, 0, [], O9, []⟩, 0) := by kernel_rfl
end Go.Av.L
end
/-
 A part.
-/
section
namespace Go.Av.L
open Go.Av Go.Lib
open IntKind (i64)
set_option linter.unusedVariables false
set_option linter.unusedSimpArgs false
abbrev Fd := AU
def Mv (now : List UInt8) (wait : List (List UInt8)) : List (List UInt8) := if now = [] then wait else now :: wait
abbrev AU.cs (f : AU) : List (List UInt8) := Mv f.Bz f.BL
structure VD (f : Fd) : Prop where
 ne : ∀ x ∈ f.BL, x ≠ []
 sz : f.Ar = (f.cs.flatten.length : Int)
 len : f.cs.length ≤ 64
 ZC : ∀ x ∈ f.cs, x.length ≤ 65536
theorem Q6 (now : List UInt8) (wait : List (List UInt8)) : (Mv now wait).flatten = now ++ wait.flatten := by
 unfold Mv; split
 ·rename_i h; rw [h]; rfl
 ·rfl
theorem Vd (l : List (List UInt8)) (h : ∀ x ∈ l, x.length ≤ 65536) : l.flatten.length ≤ l.length * 65536 := by
 induction l with
 | nil => simp
 | cons x l ih =>
  have h1 := h x (by simp)
  have h2 := ih fun y G => h y (by simp [G])
  simp only [List.flatten_cons, List.length_append, List.length_cons]
  omega
theorem VD.WH {f : Fd} (h : VD f) : f.cs.flatten.length ≤ 4194304 := by
 have := Vd f.cs h.ZC
 have := h.len
 omega
theorem VD.Xm {f : Fd} (h : VD f) : ∀ x ∈ f.cs, x ≠ [] := by
 intro x B
 unfold AU.cs Mv at B
 split at B
 ·exact h.ne x B
 ·rename_i F
  rcases List.mem_cons.1 B with rfl | B
  ·exact F
  ·exact h.ne x B
theorem Vz (f : Fd) (h : VD f) : Cv f = some (f.cs.length : Int) := by
 have M := h.len
 unfold Cv
 cases F : f.Bz with
 | nil =>
  simp only [beq_self_eq_true, Bool.not_true, B8, Option.bind_some, AU.cs, Mv, F, if_true]
 | cons b t =>
  have : ((b :: t) == ([] : List UInt8)) = false := rfl
  simp only [this, Bool.not_false, Bw, Option.bind_some, AU.cs, Mv, F, if_neg (List.cons_ne_nil b t), List.length_cons]
  simp only [AU.cs, Mv, F, if_neg (List.cons_ne_nil b t), List.length_cons] at M
  rw [RC (by omega) (by omega)]
  simp
def ZG (f : Fd) (p : List UInt8) (r : Int × AU × List (List UInt8)) : Prop :=
 r.2.2 = r.2.1.BL ∧
 if 65536 < p.length then r.1 = 12 ∧ r.2.1 = f else if f.AY = true then r.1 = 10 ∧ r.2.1 = f else if p = [] then r.1 = 0 ∧ r.2.1 = f else if 64 ≤ f.cs.length then r.1 = 8 ∧ r.2.1 = f
 else r.1 = 0 ∧ r.2.1.AY = f.AY ∧ r.2.1.cs = f.cs ++ [p] ∧ VD r.2.1
theorem Yw (f : Fd) (p : List UInt8) (h : VD f) : W (CA f p) (ZG f p) := by
 unfold CA
 refine W.Wb (fun h1 => W.ret ⟨rfl, ?_⟩) fun h1 => W.ite (fun h2 => W.ret ⟨rfl, ?_⟩) fun h2 => W.ite (fun M => W.ret ⟨rfl, ?_⟩) fun M => ?_
 ·rw [if_pos (by omega)]; exact ⟨rfl, rfl⟩
 ·rw [if_neg (by omega), if_pos h2]; exact ⟨rfl, rfl⟩
 ·have I : p = [] := by
   have : (p.length : Int) = 0 := by simpa using M
   exact List.eq_nil_of_length_eq_zero (by omega)
  rw [if_neg (by omega), if_neg (by rw [h2]; simp), if_pos I]; exact ⟨rfl, rfl⟩
 ·have I : p ≠ [] := by
   intro e; subst e; simp at M
  rw [Vz f h, Option.bind_some]
  refine W.Wb (fun h4 => W.ret ⟨rfl, ?_⟩) fun h4 => ?_
  ·rw [if_neg (by omega), if_neg (by rw [h2]; simp), if_neg I, if_pos (by omega)]; exact ⟨rfl, rfl⟩
  ·have hlen : f.cs.length < 64 := by omega
   have hw : f.BL.length ≤ f.cs.length := by unfold AU.cs Mv; split <;> simp
   have hb : Nat.blt f.BL.length 64 = true := by rw [Nat.blt_eq]; omega
   rw [hb, Bw]
   refine W.ret ⟨rfl, ?_⟩
   have C : (Mv f.Bz (f.BL ++ [p])) = f.cs ++ [p] := by
    unfold AU.cs Mv; split <;> simp
   have H := h.WH
   rw [if_neg (by omega), if_neg (by rw [h2]; simp), if_neg I, if_neg (by omega)]
   refine ⟨rfl, rfl, C, ⟨fun x B => ?_, ?_, ?_, fun x B => ?_⟩⟩
   ·rcases List.mem_append.1 B with B | B
    ·exact h.ne x B
    ·rw [List.mem_singleton.1 B]; exact I
   ·show i64.wrap (f.Ar + (p.length : Int)) = ((Mv f.Bz (f.BL ++ [p])).flatten.length : Int)
    rw [C, h.sz, RC (by omega) (by omega)]
    simp
   ·show (Mv f.Bz (f.BL ++ [p])).length ≤ 64
    rw [C]; simp; omega
   ·have B : x ∈ f.cs ++ [p] := by rw [← C]; exact B
    rcases List.mem_append.1 B with B | B
    ·exact h.ZC x B
    ·rw [List.mem_singleton.1 B]; omega
def D9 : List (List UInt8) → Nat → List (List UInt8)
 | [], _ => []
 | x :: l, n => if n < x.length then x.drop n :: l else D9 l (n - x.length)
theorem N2 : ∀ (l : List (List UInt8)), (∀ x ∈ l, x ≠ []) → D9 l 0 = l
 | [], _ => rfl
 | x :: l, h => by
  have : 0 < x.length := List.length_pos_iff.2 (h x (by simp))
  simp [D9, this]
theorem O6 : ∀ (l : List (List UInt8)), (∀ x ∈ l, x ≠ []) → ∀ a b, D9 (D9 l a) b = D9 l (a + b)
 | [], _, a, b => rfl
 | x :: l, h, a, b => by
  have ih := O6 l (fun y G => h y (by simp [G]))
  by_cases h1 : a < x.length
  ·simp only [D9, if_pos h1]
   by_cases h2 : a + b < x.length
   ·rw [if_pos (by simp; omega), if_pos h2, List.drop_drop]
   ·rw [if_neg (by simp; omega), if_neg h2]
    congr 1; simp; omega
  ·simp only [D9, if_neg h1, if_neg (show ¬ a + b < x.length by omega)]
   rw [ih]; congr 1; omega
theorem MA : ∀ (l : List (List UInt8)) (n : Nat), l.flatten.length ≤ n → (∀ x ∈ l, x ≠ []) → D9 l n = []
 | [], _, _, _ => rfl
 | x :: l, n, h, F => by
  simp only [List.flatten_cons, List.length_append] at h
  have : 0 < x.length := List.length_pos_iff.2 (F x (by simp))
  simp only [D9, if_neg (show ¬ n < x.length by omega)]
  exact MA l _ (by omega) fun y G => F y (by simp [G])
theorem N0 : ∀ (l : List (List UInt8)) (n : Nat), (D9 l n).flatten = l.flatten.drop n
 | [], n => by simp [D9]
 | x :: l, n => by
  unfold D9
  split
  ·rename_i h; rw [List.flatten_cons, List.flatten_cons, List.drop_append_of_le_length (by omega)]
  ·rename_i h
   rw [N0 l, List.flatten_cons, List.drop_append, List.drop_eq_nil_of_le (show x.length ≤ n by omega), List.nil_append]
theorem Of : ∀ (l : List (List UInt8)) (n : Nat), (D9 l n).length ≤ l.length
 | [], n => by simp [D9]
 | x :: l, n => by
  unfold D9
  split
  ·simp
  ·have := Of l (n - x.length); simp; omega
theorem Oh : ∀ (l : List (List UInt8)) (n : Nat), (∀ x ∈ l, x.length ≤ 65536) → ∀ x ∈ D9 l n, x.length ≤ 65536
 | [], _, _ => fun x B => by simp [D9] at B
 | y :: l, n, h => by
  unfold D9
  split
  ·intro x B
   rcases List.mem_cons.1 B with rfl | B
   ·have := h y (by simp); simp; omega
   ·exact h x (by simp [B])
  ·exact Oh l _ fun z hz => h z (by simp [hz])
def UE (f : Fd) (n : Int) (r : List UInt8 × AU × List (List UInt8)) : Prop :=
 r.2.2 = r.2.1.BL ∧ r.1 = f.cs.flatten.take n.toNat ∧ r.2.1.AY = f.AY ∧ r.2.1.cs = D9 f.cs n.toNat ∧ VD r.2.1
theorem YT (f : Fd) (n : Int) (h : VD f) (F : n ≤ 9223372036854775807) : W (A6 f n) (UE f n) := by
 unfold A6
 have H := h.WH
 have E := h.Xm
 generalize K : f.cs.flatten = T at H
 refine W.bind (W.loop (fun s => s.1 ++ (s.2.1 ++ s.2.2.2.2.flatten) = T ∧ (s.1.length : Int) ≤ max n 0 ∧ Mv s.2.1 s.2.2.2.2 = D9 f.cs s.1.length ∧ s.2.2.1 = f.Ar ∧ s.2.2.2.1 = f.AY ∧ ∀ x ∈ s.2.2.2.2, x ≠ []) (fun s => (n - s.1.length).toNat)
  ⟨by simp only [List.nil_append]; rw [← Q6]; exact K, by simp; omega, (N2 _ E).symm, rfl, rfl, h.ne⟩ ?_)
 rintro ⟨out, now, size, closed, wait⟩ ⟨i1, i2, i3, i4, i5, i6⟩
 simp only at i1 i2 i3 i4 i5 i6
 have hol : out.length ≤ T.length := by rw [← i1]; simp
 have fin : ∀ (now' : List UInt8) (wait' : List (List UInt8)), out ++ (now' ++ wait'.flatten) = T → Mv now' wait' = D9 f.cs out.length → (∀ x ∈ wait', x ≠ []) → (n ≤ out.length ∨ (now' = [] ∧ wait' = [])) →
   W (some (out, (⟨wait', now', i64.wrap (size - (out.length : Int)), closed⟩ : AU), wait')) (UE f n) := by
  intro now' wait' j1 j2 j3 j4
  have C : Mv now' wait' = D9 f.cs n.toNat := by
   rcases j4 with j4 | ⟨rfl, rfl⟩
   ·rw [j2]; congr 1; omega
   ·have e : out = T := by simpa using j1
    have e2 : D9 f.cs out.length = [] := MA _ _ (by rw [K, e]; omega) E
    by_cases O : (out.length : Int) ≤ n
    ·rw [j2, e2, MA _ _ (by rw [K]; rw [e] at O; omega) E]
    ·rw [j2]; congr 1; omega
  refine W.ret ⟨rfl, ?_, i5, C, ⟨j3, ?_, ?_, ?_⟩⟩
  ·rw [K, ← j1]
   rcases j4 with j4 | ⟨rfl, rfl⟩
   ·have : n.toNat = out.length := by omega
    rw [this, List.take_left]
   ·simp only [List.flatten_nil, List.append_nil]
    by_cases O : (out.length : Int) ≤ n
    ·rw [List.take_of_length_le (by omega)]
    ·have : n.toNat = out.length := by omega
     rw [this, List.take_length]
  ·show i64.wrap (size - (out.length : Int)) = ((Mv now' wait').flatten.length : Int)
   have N := h.sz
   rw [K] at N
   rw [Q6, i4, N, RC (by omega) (by omega)]
   have := congrArg List.length j1
   simp only [List.length_append] at this ⊢
   omega
  ·show (Mv now' wait').length ≤ 64
   rw [C]; exact Nat.le_trans (Of _ _) h.len
  ·show ∀ x ∈ Mv now' wait', x.length ≤ 65536
   rw [C]; exact Oh _ _ h.ZC
 unfold D3
 refine W.Wb (fun hlt => ?_) fun hge => W.ret (fin now wait i1 i3 i6 (.inl (by omega)))
 have next : ∀ (now' : List UInt8) (wait' : List (List UInt8)), now' ≠ [] → out ++ (now' ++ wait'.flatten) = T → Mv now' wait' = D9 f.cs out.length → (∀ x ∈ wait', x ≠ []) →
   W ((IX now' none (some (mn (i64.wrap (n - (out.length : Int))) (now'.length : Int)))).bind fun x19 => Cl (Hs 1 (out.length + x19.length)) <| (IX now' (some (mn (i64.wrap (n - (out.length : Int))) (now'.length : Int))) none).bind fun x20 =>
    some (.inl ((out ++ x19), x20, size, closed, wait') : (List UInt8 × List UInt8 × Int × Bool × List (List UInt8)) ⊕ (List UInt8 × List UInt8 × Int × Bool × List (List UInt8)))) (fun r => match r with
     | .inl s' => (s'.1 ++ (s'.2.1 ++ s'.2.2.2.2.flatten) = T ∧ (s'.1.length : Int) ≤ max n 0 ∧ Mv s'.2.1 s'.2.2.2.2 = D9 f.cs s'.1.length ∧ s'.2.2.1 = f.Ar ∧ s'.2.2.2.1 = f.AY ∧ ∀ x ∈ s'.2.2.2.2, x ≠ []) ∧ (n - s'.1.length).toNat < (n - out.length).toNat
     | .inr r => W (match r with | (x6, x7, x8, x9, x10) => some (x6, (⟨x10, x7, i64.wrap (x8 - (x6.length : Int)), x9⟩ : AU), x10)) (UE f n)) := by
  intro now' wait' J j1 j2 j3
  have hl := congrArg List.length j1
  simp only [List.length_append] at hl
  have hnl : 0 < now'.length := List.length_pos_iff.2 J
  obtain ⟨k, hk⟩ : ∃ k : Nat, mn (i64.wrap (n - (out.length : Int))) (now'.length : Int) = (k : Int) ∧ k ≤ now'.length ∧ 0 < k ∧ (out.length + k : Int) ≤ n ∧ (k = now'.length ∨ (out.length + k : Int) = n) := by
   rw [RC (by omega) (by omega)]
   unfold mn
   split
   ·exact ⟨now'.length, by omega⟩
   ·exact ⟨(n - (out.length : Int)).toNat, by omega⟩
  obtain ⟨hk, k1, k2, k3, k4⟩ := hk
  rw [hk, SS k1, SY k1]
  simp only [Option.bind_some]
  have C : Mv (now'.drop k) wait' = D9 f.cs (out.length + k) := by
   rw [← O6 _ E, ← j2]
   unfold Mv
   rw [if_neg J]
   by_cases e : k = now'.length
   ·subst e
    rw [List.drop_length, if_pos rfl]
    simp only [D9, if_neg (Nat.lt_irrefl _), Nat.sub_self]
    exact (N2 _ j3).symm
   ·rw [if_neg (fun e2 => by have := congrArg List.length e2; simp at this; omega)]
    simp only [D9, if_pos (show k < now'.length by omega)]
  have e1 : (out ++ now'.take k).length = out.length + k := by simp; omega
  refine W.Cl (Jt (by rw [List.length_take]; omega) (by rw [List.length_take]; omega)) (W.ret ⟨⟨?_, ?_, ?_, i4, i5, j3⟩, ?_⟩)
  ·simp only [List.append_assoc]
   rw [← j1]
   congr 1
   rw [← List.append_assoc, List.take_append_drop]
  ·simp only [e1]; omega
  ·simp only [e1]; exact C
  ·simp only [e1]; omega
 by_cases D : now = []
 ·subst D
  rw [show (([] : List UInt8) == []) = true from rfl, Bw]
  unfold Du
  cases wait with
  | nil =>
   simp only [List.isEmpty_nil, Bw, Option.bind_some, Bool.not_false]
   exact W.ret (fin [] [] i1 i3 (by simp) (.inr ⟨rfl, rfl⟩))
  | cons y ys =>
   simp only [List.isEmpty_cons, B8, Yj, Option.bind_some, Bool.not_true]
   have G := i6 y (by simp)
   refine (next y ys G (by simpa using i1) ?_ fun x B => i6 x (by simp [B])).mono fun r h => by cases r <;> exact h
   rw [← i3]; unfold Mv; rw [if_neg G, if_pos rfl]
 ·have : (now == ([] : List UInt8)) = false := by cases now; exact absurd rfl D; rfl
  rw [this, B8]
  simp only [Option.bind_some, B8]
  exact (next now wait D i1 i3 i6).mono fun r h => by cases r <;> exact h
end Go.Av.L
end
