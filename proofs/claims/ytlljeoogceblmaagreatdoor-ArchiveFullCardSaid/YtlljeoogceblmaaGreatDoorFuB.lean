/-
 A part.
-/
import Derived.Test.YtlljeoogceblmaaGreatDoorFuF
namespace Go.Av.L
open Go.Av Go.Lib
open IntKind (i64)
set_option maxRecDepth 100000
set_option linter.unusedVariables false
set_option linter.unusedSimpArgs false
theorem Uy : DX O9 S0 [] = some (EK, 0, 0) := by kernel_rfl
theorem UZ : EV EK 0 = some true := by kernel_rfl
def eB : AI := ⟨1, EK, 0, []⟩
def YP : AG := ⟨[], [], 0, 0, 0, 0, [], [], 0, 0, ⟨0, 0⟩, [], []⟩
def eD : AI := ⟨3, YP, 0, []⟩
def eE : AI := ⟨4, YP, 0, []⟩
abbrev RI (f : AU) (st l at_ : Int) (bl : Bool) (hd : AL) (en : Int) : AV := ⟨⟨1, 1⟩, f, st, l, at_, bl, 0, 0, hd, en, [], O9, []⟩
theorem Ta {n : Nat} (h : n ≤ 1000000000) : Hs 200 (n + 1) = true := Jt (by omega) (by omega)
theorem V3 (f : AU) (st l at_ : Int) (hd : AL) (en : Int) (evs : List AI) (h : evs.length ≤ 1000000000) :
  Bk (RI f st l at_ false hd en) evs S0 = some (RI f 1 0 at_ false S0 en, [], evs ++ [eB]) := by
 unfold Bk
 rw [show DX _ S0 [] = some (EK, 0, 0) from Uy]
 simp only [Option.bind_some]
 rw [show EV EK 0 = some true from UZ]
 rw [show Hs 200 (evs.length + [(⟨1, EK, 0, []⟩ : AI)].length) = true from Ta h]
 rfl
theorem XD (f : AU) (st l at_ : Int) (hd : AL) (en : Int) (evs : List AI) (h : evs.length ≤ 1000000000) :
  Ax (RI f st l at_ false hd en) evs aB = some (RI f 1 0 at_ false S0 en, [], evs ++ [eB]) := by
 unfold Ax
 rw [XE, XM]
 have e := V3 f st l at_ hd en evs h
 simp only [Option.bind_some, B8]
 rw [show ((0 : Int) != 0) = false from rfl, B8, show Bk _ evs S0 = _ from e]
 rfl
theorem Wg (f : AU) (st l at_ : Int) (hd : AL) (en : Int) (evs : List AI) :
  Ax (RI f st l at_ false hd en) evs aZ = some (RI f st l at_ true hd en, [], evs) := by
 unfold Ax
 rw [T6]
 rw [show DP _ = some false from WK]
 rfl
theorem VK (f : AU) (st l at_ : Int) (hd : AL) (en : Int) (evs : List AI) (h : evs.length ≤ 1000000000) :
  Ax (RI f st l at_ true hd en) evs aZ = some (RI f 4 l at_ true hd en, [], evs ++ [eE]) := by
 unfold Ax
 rw [T6]
 rw [show DP _ = some false from WK]
 rw [show Hs 200 (evs.length + [(⟨4, ⟨[], [], 0, 0, 0, 0, [], [], 0, 0, ⟨0, 0⟩, [], []⟩, 0, []⟩ : AI)].length) = true from Ta h]
 rfl
abbrev RS := Int × Int × Int × Int × Int × Bool × Int × Int × (List UInt8) × (List UInt8) × Int × Int × Int × Int × Int × Int × (List UInt8) × (List UInt8) × Int × Int × Int × Int × (List UInt8) × (List UInt8) × Bool × Bool × Bool × (List UInt8) × Int × Bool × (List (List UInt8)) × (List AI) × (List UInt8)
def KT (st l at_ : Int) (bl : Bool) (hd : AL) (en : Int) (f : AU) (evs : List AI) : RS :=
 (1, 1, st, l, at_, bl, 0, 0, hd.Name, hd.A9, hd.Kind, hd.Mode, hd.Cz, hd.Ct, hd.Bg, hd.Time, hd.Ah, hd.Aj, hd.Au, hd.As, hd.Form, en, [], [], false, false, false, f.Bz, f.Ar, f.AY, f.BL, evs, [])
structure KE (f : AU) : Prop where
 ok : VD f
 op : f.AY = false
theorem Qw {f : AU} (B : KE f) {n : Nat} (hn : n ≤ 1000000000) : ∃ f', A6 f (n : Int) = some (f.cs.flatten.take n, f', f'.BL) ∧ KE f' ∧ f'.cs.flatten = f.cs.flatten.drop n := by
 obtain ⟨⟨o, f', w⟩, e, h1, h2, F, E, h5⟩ := YT f n B.ok (by omega)
 simp only [Int.toNat_natCast] at h1 h2 F E
 refine ⟨f', by rw [e, h2, ← h1], ⟨h5, F.trans B.op⟩, ?_⟩
 rw [E, N0]
theorem Vr : i64.wrap ((512 : Int) - (([] : List UInt8).length : Int)) = ((512 : Nat) : Int) := by kernel_rfl
theorem rB {f : AU} (B : KE f) {D : List UInt8} (C : f.cs.flatten = aB ++ D) (l at_ : Int) (hd : AL) (en : Int) (evs : List AI) (h : evs.length ≤ 1000000000) :
  ∃ f' at', AR (KT 0 l at_ false hd en f evs) = some (.inl (KT 1 0 at' false S0 en f' (evs ++ [eB]))) ∧ KE f' ∧ f'.cs.flatten = D := by
 obtain ⟨f', e, h1, h2⟩ := Qw B (n := 512) (by omega)
 rw [C, List.take_left' Fv] at e
 rw [C, List.drop_left' Fv] at h2
 refine ⟨f', i64.wrap (at_ + 1), ?_, h1, h2⟩
 unfold AR KT
 simp only [show ((0 : Int) == 0) = true from rfl, Bw]
 rw [Vr, show A6 ⟨f.BL, f.Bz, f.Ar, f.AY⟩ ((512 : Nat) : Int) = some (aB, f', f'.BL) from e]
 simp only [Option.bind_some, List.nil_append]
 rw [show Hs 1 (([] : List UInt8).length + aB.length) = true from by kernel_rfl, show decide ((aB.length : Int) < 512) = false from by kernel_rfl]
 rw [show Ax _ evs aB = _ from XD f' 0 l at_ hd en evs h]
 rfl
theorem Yq (r : AV) (h1 : r.AM = O9) (h2 : r.Vi = []) : CG r 0 = some ⟨r.Aw, r.Az, 3, 0, i64.wrap (r.at_ + 0), r.BD, r.BG, r.BH, r.AD, r.BI, r.DR, O9, []⟩ := by
 unfold CG
 rw [show FG 0 = some (0, 0) from by kernel_rfl, show Et 0 = some (0, 0) from by kernel_rfl, h1]
 rfl
theorem Ud {f : AU} (B : KE f) : ∃ f', A6 f 0 = some ([], f', f'.BL) ∧ KE f' ∧ f'.cs.flatten = f.cs.flatten := by
 obtain ⟨f', e, h1, h2⟩ := Qw B (n := 0) (by omega)
 exact ⟨f', e, h1, h2⟩
theorem rD {f : AU} (B : KE f) (at_ : Int) (en : Int) (evs : List AI) (h : evs.length ≤ 1000000000) :
  ∃ f' at', AR (KT 1 0 at_ false S0 en f evs) = some (.inl (KT 3 0 at' false S0 en f' (evs ++ [eD]))) ∧ KE f' ∧ f'.cs.flatten = f.cs.flatten := by
 obtain ⟨f', e, h1, h2⟩ := Ud B
 refine ⟨f', i64.wrap (at_ + 0), ?_, h1, h2⟩
 unfold AR KT
 simp only [show ((1 : Int) == 0) = false from rfl, B8, show ((1 : Int) == 1) = true from rfl, Bw]
 rw [show A6 ⟨f.BL, f.Bz, f.Ar, f.AY⟩ 0 = some ([], f', f'.BL) from e]
 simp only [Option.bind_some]
 simp only [show (([] : List UInt8) == []) = true from rfl, Bool.not_true, B8, show ((0 : Int) > 0) = False from by simp, decide_false, Bool.and_false, Option.bind_some]
 rw [show decide ((i64.wrap (0 - (([] : List UInt8).length : Int))) > 0) = false from by kernel_rfl, B8]
 rw [show Hs 200 (evs.length + [(⟨3, ⟨[], [], 0, 0, 0, 0, [], [], 0, 0, ⟨0, 0⟩, [], []⟩, 0, []⟩ : AI)].length) = true from Ta h]
 rw [show S0.Bg = 0 from rfl]
 rw [Yq _ rfl rfl]
 rfl
theorem rS {f : AU} (B : KE f) (at_ : Int) (hd : AL) (en : Int) (evs : List AI) :
  ∃ f', AR (KT 3 0 at_ false hd en f evs) = some (.inl (KT 0 0 at_ false hd en f' evs)) ∧ KE f' ∧ f'.cs.flatten = f.cs.flatten := by
 obtain ⟨f', e, h1, h2⟩ := Ud B
 refine ⟨f', ?_, h1, h2⟩
 unfold AR KT
 simp only [show ((3 : Int) == 0) = false from rfl, B8, show ((3 : Int) == 1) = false from rfl, show ((3 : Int) == 2) = false from rfl, show ((3 : Int) == 3) = true from rfl, Bw]
 rw [show A6 ⟨f.BL, f.Bz, f.Ar, f.AY⟩ 0 = some ([], f', f'.BL) from e]
 rfl
theorem rE {f : AU} (B : KE f) (C : f.cs.flatten = []) (l at_ : Int) (bl : Bool) (hd : AL) (en : Int) (evs : List AI) :
  ∃ f', AR (KT 0 l at_ bl hd en f evs) = some (.inr (KT 0 l at_ bl hd en f' evs)) ∧ KE f' ∧ f'.cs.flatten = [] := by
 obtain ⟨f', e, h1, h2⟩ := Qw B (n := 512) (by omega)
 rw [C] at e h2
 refine ⟨f', ?_, h1, h2⟩
 unfold AR KT
 simp only [show ((0 : Int) == 0) = true from rfl, Bw]
 rw [Vr, show A6 ⟨f.BL, f.Bz, f.Ar, f.AY⟩ ((512 : Nat) : Int) = some ([], f', f'.BL) from e]
 rfl
theorem rZ {f : AU} (B : KE f) {D : List UInt8} (C : f.cs.flatten = aZ ++ D) (l at_ : Int) (hd : AL) (en : Int) (evs : List AI) :
  ∃ f' at', AR (KT 0 l at_ false hd en f evs) = some (.inl (KT 0 l at' true hd en f' evs)) ∧ KE f' ∧ f'.cs.flatten = D := by
 obtain ⟨f', e, h1, h2⟩ := Qw B (n := 512) (by omega)
 rw [C, List.take_left' FT] at e
 rw [C, List.drop_left' FT] at h2
 refine ⟨f', i64.wrap (at_ + 1), ?_, h1, h2⟩
 unfold AR KT
 simp only [show ((0 : Int) == 0) = true from rfl, Bw]
 rw [Vr, show A6 ⟨f.BL, f.Bz, f.Ar, f.AY⟩ ((512 : Nat) : Int) = some (aZ, f', f'.BL) from e]
 simp only [Option.bind_some, List.nil_append]
 rw [show Hs 1 (([] : List UInt8).length + aZ.length) = true from by kernel_rfl, show decide ((aZ.length : Int) < 512) = false from by kernel_rfl]
 rw [show Ax _ evs aZ = _ from Wg f' 0 l at_ hd en evs]
 rfl
theorem Zf {f : AU} (B : KE f) {D : List UInt8} (C : f.cs.flatten = aZ ++ D) (l at_ : Int) (hd : AL) (en : Int) (evs : List AI) (h : evs.length ≤ 1000000000) :
  ∃ f' at', AR (KT 0 l at_ true hd en f evs) = some (.inl (KT 4 l at' true hd en f' (evs ++ [eE]))) ∧ KE f' ∧ f'.cs.flatten = D := by
 obtain ⟨f', e, h1, h2⟩ := Qw B (n := 512) (by omega)
 rw [C, List.take_left' FT] at e
 rw [C, List.drop_left' FT] at h2
 refine ⟨f', i64.wrap (at_ + 1), ?_, h1, h2⟩
 unfold AR KT
 simp only [show ((0 : Int) == 0) = true from rfl, Bw]
 rw [Vr, show A6 ⟨f.BL, f.Bz, f.Ar, f.AY⟩ ((512 : Nat) : Int) = some (aZ, f', f'.BL) from e]
 simp only [Option.bind_some, List.nil_append]
 rw [show Hs 1 (([] : List UInt8).length + aZ.length) = true from by kernel_rfl, show decide ((aZ.length : Int) < 512) = false from by kernel_rfl]
 rw [show Ax _ evs aZ = _ from VK f' 0 l at_ hd en evs h]
 rfl
theorem r4 (f : AU) (l at_ : Int) (bl : Bool) (hd : AL) (en : Int) (evs : List AI) : AR (KT 4 l at_ bl hd en f evs) = some (.inr (KT 4 l at_ bl hd en f evs)) := rfl
def ME (n : Nat) : List AI := (List.replicate n [eB, eD]).flatten
theorem H0 (n : Nat) : (ME n).length = 2 * n := by
 induction n with
 | zero => rfl
 | succ n ih => unfold ME at ih ⊢; rw [List.replicate_succ, List.flatten_cons, List.length_append, ih]; simp; omega
def Jl (n : Nat) : List UInt8 := (List.replicate n aB).flatten
theorem RB (n : Nat) : Jl (n + 1) = aB ++ Jl n := rfl
theorem EL (n : Nat) : (Jl n).length = 512 * n := by
 induction n with
 | zero => rfl
 | succ n ih => rw [RB, List.length_append, ih, Fv]; omega
theorem rN : ∀ (n : Nat) {f : AU} (B : KE f) {D : List UInt8} (C : f.cs.flatten = Jl n ++ D) (l at_ : Int) (hd : AL) (en : Int) (evs : List AI) (h : evs.length + 2 * n ≤ 1000000000),
  ∃ f' l' at' hd', loop AR (KT 0 l at_ false hd en f evs) = loop AR (KT 0 l' at' false hd' en f' (evs ++ ME n)) ∧ KE f' ∧ f'.cs.flatten = D
 | 0, f, B, D, C, l, at_, hd, en, evs, h => ⟨f, l, at_, hd, by rw [show ME 0 = [] from rfl, List.append_nil], B, C⟩
 | n + 1, f, B, D, C, l, at_, hd, en, evs, h => by
  rw [RB, List.append_assoc] at C
  obtain ⟨f1, a1, e1, k1, d1⟩ := rB B C l at_ hd en evs (by omega)
  obtain ⟨f2, a2, e2, k2, d2⟩ := rD k1 a1 en (evs ++ [eB]) (by rw [List.length_append]; simp; omega)
  obtain ⟨f3, e3, k3, d3⟩ := rS k2 a2 S0 en (evs ++ [eB] ++ [eD])
  obtain ⟨f4, l4, a4, E, e4, k4, d4⟩ := rN n k3 (D := D) (by rw [d3, d2, d1]) 0 a2 S0 en (evs ++ [eB] ++ [eD]) (by simp only [List.length_append, List.length_cons, List.length_nil]; omega)
  refine ⟨f4, l4, a4, E, ?_, k4, d4⟩
  rw [B9 e1, B9 e2, B9 e3, e4]
  congr 2
  unfold ME
  rw [List.replicate_succ, List.flatten_cons]
  simp
end Go.Av.L
