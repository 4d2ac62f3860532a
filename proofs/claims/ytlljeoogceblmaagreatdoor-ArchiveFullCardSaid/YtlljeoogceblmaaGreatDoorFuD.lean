/-
 A part.
-/
import Derived.Test.YtlljeoogceblmaaGreatDoorFuC
namespace Go.Av.L
open Go.Av Go.Lib
set_option maxRecDepth 100000
set_option linter.unusedVariables false
set_option linter.unusedSimpArgs false
abbrev Ng (k : Nat) : List AI := ME k ++ [eE]
theorem L1 (k : Nat) : (Ng k).length = 2 * k + 1 := by rw [List.length_append, H0]; rfl
theorem Rv : ∀ (k j : Nat), j < k → (ME k)[2 * j]? = some eB ∧ (ME k)[2 * j + 1]? = some eD
 | 0, j, h => by omega
 | k + 1, 0, h => ⟨rfl, rfl⟩
 | k + 1, j + 1, h => by
  have := Rv k j (by omega)
  rw [show ME (k + 1) = eB :: eD :: ME k from rfl, show 2 * (j + 1) = 2 * j + 1 + 1 by omega]
  exact this
theorem WV {k j : Nat} (h : j < k) : (Ng k)[2 * j]? = some eB := by
 rw [List.getElem?_append_left (by rw [H0]; omega)]; exact (Rv k j h).1
theorem V4 {k j : Nat} (h : j < k) : (Ng k)[2 * j + 1]? = some eD := by
 rw [List.getElem?_append_left (by rw [H0]; omega)]; exact (Rv k j h).2
theorem Xb (k : Nat) : (Ng k)[2 * k]? = some eE := by
 rw [List.getElem?_append_right (by rw [H0]; omega), H0, Nat.sub_self]; rfl
abbrev DA := (List AG) × (List UInt8) × (List UInt8) × Int × Int × Int × Int × (List UInt8) × (List UInt8) × Int × Int × Int × Int × (List UInt8) × (List UInt8) × Int
abbrev DB := (List AG) × (List UInt8) × (List UInt8) × Int × Int × Int × Int × (List UInt8) × (List UInt8) × Int × Int × Int × Int × (List AA) × (List UInt8) × (List UInt8) × Int
def dA : DA ⊕ DB := .inl ([], [], [], 0, 0, 0, 0, [], [], 0, 0, 0, 0, [], [], 0)
def dB (out : List AG) (i : Int) : DA ⊕ DB := .inr (out, [97], [], 53, 0, 0, 0, [], [], 0, 0, 0, 0, [], [], [], i)
theorem d0 {k : Nat} (h : 0 < k) : A7 (Ng k) dA = some (.inl (dB [] ((1 : Nat) : Int))) := by
 unfold A7 dA
 simp only
 rw [show decide ((0 : Int) < ((Ng k).length : Int)) = true from decide_eq_true (by rw [L1]; omega), Bw, show Ii (Ng k) 0 = some eB from G5 (i := 0) (WV (j := 0) h)]
 rfl
theorem d1 {k j : Nat} (h : j < k) (h2 : k ≤ 100000) (out : List AG) : A7 (Ng k) (dB out ((2 * j : Nat) : Int)) = some (.inl (dB out ((2 * j + 1 : Nat) : Int))) := by
 unfold A7 dB
 simp only
 rw [show decide (((2 * j : Nat) : Int) < ((Ng k).length : Int)) = true from decide_eq_true (by rw [L1]; omega), Bw, G5 (WV h), UB (by omega)]
 rfl
theorem d2 {k j : Nat} (h : j < k) (h2 : k ≤ 100000) (out : List AG) (C : out.length ≠ 4096) (hl : out.length ≤ 100000) : A7 (Ng k) (dB out ((2 * j + 1 : Nat) : Int)) = some (.inl (dB (out ++ [EK]) ((2 * (j + 1) : Nat) : Int))) := by
 unfold A7 dB
 simp only
 rw [show decide (((2 * j + 1 : Nat) : Int) < ((Ng k).length : Int)) = true from decide_eq_true (by rw [L1]; omega), Bw, G5 (V4 h), UB (by omega)]
 simp only [Option.bind_some]
 rw [show (eD.Kind == 1) = false from rfl, show (eD.Kind == 2) = false from rfl, show (eD.Kind == 3) = true from rfl, show ((out.length : Int) == 4096) = false from by simp; omega]
 simp only [B8, Bw]
 rw [show Hs 168 (out.length + [(⟨[97], [], 53, 0, 0, 0, [], [], 0, 0, ⟨0, 0⟩, [], []⟩ : AG)].length) = true from Jt (by simp; omega) (by simp; omega)]
 rfl
theorem Z0 {k j : Nat} (h : j < k) (h2 : k ≤ 100000) (out : List AG) (C : out.length = 4096) : A7 (Ng k) (dB out ((2 * j + 1 : Nat) : Int)) = some (.inr (.inr (.inr (.inr ([97], [], 53, 0, 0, 0, [], [], 0, 0, 0, 0, [], [], 7, 0))))) := by
 unfold A7 dB
 simp only
 rw [show decide (((2 * j + 1 : Nat) : Int) < ((Ng k).length : Int)) = true from decide_eq_true (by rw [L1]; omega), Bw, G5 (V4 h)]
 simp only [Option.bind_some]
 rw [show (eD.Kind == 1) = false from rfl, show (eD.Kind == 2) = false from rfl, show (eD.Kind == 3) = true from rfl, C]
 rfl
theorem d3 {k : Nat} (out : List AG) : A7 (Ng k) (dB out ((2 * k : Nat) : Int)) = some (.inr (.inr (.inl (out, [97], [], 53, 0, 0, 0, [], [], 0, 0, 0, 0, [], [])))) := by
 unfold A7 dB
 simp only
 rw [show decide (((2 * k : Nat) : Int) < ((Ng k).length : Int)) = true from decide_eq_true (by rw [L1]; omega), Bw, G5 (Xb k)]
 rfl
theorem dN {k : Nat} (hk : k ≤ 100000) : ∀ (n j : Nat), j + n ≤ k → j + n ≤ 4096 → loop (A7 (Ng k)) (dB (List.replicate j EK) ((2 * j : Nat) : Int)) = loop (A7 (Ng k)) (dB (List.replicate (j + n) EK) ((2 * (j + n) : Nat) : Int))
 | 0, j, h, h2 => rfl
 | n + 1, j, h, h2 => by
  rw [B9 (d1 (by omega) hk _), B9 (d2 (by omega) hk _ (by rw [List.length_replicate]; omega) (by rw [List.length_replicate]; omega))]
  rw [show List.replicate j EK ++ [EK] = List.replicate (j + 1) EK from (List.replicate_succ' ..).symm, dN hk n (j + 1) (by omega) (by omega), show j + 1 + n = j + (n + 1) by omega]
theorem UW {k : Nat} (h : 0 < k) (hk : k ≤ 100000) : loop (A7 (Ng k)) dA = loop (A7 (Ng k)) (dB (List.replicate 1 EK) ((2 * 1 : Nat) : Int)) := by
 rw [B9 (d0 h)]
 exact B9 (d2 (j := 0) h hk [] (by simp) (by simp))
theorem ZX {k : Nat} (h : 0 < k) (hk : k ≤ 4096) : loop (A7 (Ng k)) dA = some (.inr (.inl (List.replicate k EK, [97], [], 53, 0, 0, 0, [], [], 0, 0, 0, 0, [], []))) := by
 rw [UW h (by omega), dN (by omega) (k - 1) 1 (by omega) (by omega), show 1 + (k - 1) = k by omega]
 exact De (d3 _)
theorem ZA {k : Nat} (h : k = 4097) : loop (A7 (Ng k)) dA = some (.inr (.inr (.inr ([97], [], 53, 0, 0, 0, [], [], 0, 0, 0, 0, [], [], 7, 0)))) := by
 rw [UW (by omega) (by omega), dN (by omega) 4095 1 (by omega) (by omega), B9 (d1 (j := 4096) (by omega) (by omega) _)]
 exact De (Z0 (j := 4096) (by omega) (by omega) _ (by rw [List.length_replicate]))
theorem SX (f : AU) (l at_ : Int) (hd : AL) : Bx (RI f 4 l at_ true hd 0) = some (0, RI f 4 l at_ true hd 0, []) := rfl
theorem Wl (f : AU) (l at_ : Int) (hd : AL) : By (RI f 4 l at_ true hd 0) = some (0, 0) := rfl
theorem VV {k : Nat} (h : 0 < k) (hk : k ≤ 4096) : Ce (Jl k ++ (aZ ++ aZ)) ⟨1, 1⟩ = some (List.replicate k EK, 0, 0) := by
 obtain ⟨f', l', a', B, e⟩ := Xx k (by omega)
 unfold Ce
 rw [YK]
 simp only [Option.bind_some]
 rw [show ((0 : Int) != 0) = false from rfl, B8, show decide ((Jl k ++ (aZ ++ aZ)).length ≤ 1099511627776) = true from decide_eq_true (by simp only [List.length_append, EL, FT]; omega)]
 refine (Hr (show Bo _ _ = _ from e)).trans ?_
 refine (Hr (show Bx _ = _ from SX f' l' a' B)).trans ?_
 refine (Hr (show loop (A7 (Ng k)) _ = _ from ZX h hk)).trans ?_
 exact (Hr (show By _ = _ from Wl f' l' a' B)).trans rfl
theorem Vl {k : Nat} (h : k = 4097) : Ce (Jl k ++ (aZ ++ aZ)) ⟨1, 1⟩ = some ([], 7, 0) := by
 obtain ⟨f', l', a', B, e⟩ := Xx k (by omega)
 unfold Ce
 rw [YK]
 simp only [Option.bind_some]
 rw [show ((0 : Int) != 0) = false from rfl, B8, show decide ((Jl k ++ (aZ ++ aZ)).length ≤ 1099511627776) = true from decide_eq_true (by simp only [List.length_append, EL, FT]; omega)]
 refine (Hr (show Bo _ _ = _ from e)).trans ?_
 refine (Hr (show Bx _ = _ from SX f' l' a' B)).trans ?_
 exact (Hr (show loop (A7 (Ng k)) _ = _ from ZA h)).trans rfl
theorem Qz (j : Nat) : Jl j ++ aB = Jl (j + 1) := by rw [R9]; rfl
theorem encS {k i : Nat} (h : i < k) (hk : k ≤ 100000) : CI (List.replicate k EK) (Jl i, false, false, 0, 0, (i : Int)) = some (.inl (Jl (i + 1), false, false, 0, 0, ((i + 1 : Nat) : Int))) := by
 unfold CI
 simp only
 rw [show decide ((i : Int) < ((List.replicate k EK).length : Int)) = true from decide_eq_true (by rw [List.length_replicate]; omega), Bw, G5 (by rw [List.getElem?_replicate, if_pos h]), UB (by omega)]
 simp only [Option.bind_some]
 rw [show CM ⟨false, false, 0, 0⟩ EK (EK.Data.length : Int) = _ from W3]
 simp only [Option.bind_some]
 rw [show ((0 : Int) != 0) = false from rfl, B8, show Cx ⟨true, false, 0, 0⟩ EK.Data = _ from X6]
 simp only [Option.bind_some]
 rw [X1]
 simp only [Option.bind_some, List.append_nil, List.length_nil, Nat.add_zero]
 rw [Jt (by rw [EL, Fv]; omega) (by rw [EL, Fv]; omega), Jt (by rw [List.length_append, EL, Fv]; omega) (by rw [List.length_append, EL, Fv]; omega), Qz]
 rfl
theorem Xg {k : Nat} (hk : k ≤ 100000) : ∀ (n i : Nat), i + n = k → loop (CI (List.replicate k EK)) (Jl i, false, false, 0, 0, (i : Int)) = some (.inl (Jl k, false, false, 0, 0))
 | 0, i, h => by
  obtain rfl : i = k := by omega
  refine De ?_
  unfold CI
  simp only
  rw [show decide ((i : Int) < ((List.replicate i EK).length : Int)) = false from decide_eq_false (by rw [List.length_replicate]; omega), B8]
 | n + 1, i, h => by rw [B9 (encS (by omega) hk)]; exact Xg hk n (i + 1) (by omega)
theorem ZI {k : Nat} (hk : k ≤ 4096) : CC (List.replicate k EK) = some (Jl k ++ (aZ ++ aZ), 0) := by
 unfold CC
 rw [show decide (((List.replicate k EK).length : Int) > 4096) = false from decide_eq_false (by rw [List.length_replicate]; omega), B8]
 rw [show Fw = some ⟨false, false, 0, 0⟩ from rfl]
 simp only [Option.bind_some]
 rw [show loop (CI (List.replicate k EK)) ([], false, false, 0, 0, 0) = _ from Xg (by omega) k 0 (by omega)]
 simp only [Option.bind_some]
 rw [Wz]
 simp only [Option.bind_some]
 rw [Jt (by simp only [List.length_append, EL, FT]; omega) (by simp only [List.length_append, EL, FT]; omega)]
 rfl
theorem Yt {k : Nat} (hk : 4096 < k) : CC (List.replicate k EK) = some ([], 8) := by
 unfold CC
 rw [show decide (((List.replicate k EK).length : Int) > 4096) = true from decide_eq_true (by rw [List.length_replicate]; omega), Bw]
theorem ZL : EA [EK] = some (aB ++ (aZ ++ aZ), 0, [EK]) := by kernel_rfl
end Go.Av.L
