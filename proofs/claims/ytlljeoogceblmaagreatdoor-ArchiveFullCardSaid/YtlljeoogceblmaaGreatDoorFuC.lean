/-
 A part.
-/
import Derived.Test.YtlljeoogceblmaaGreatDoorFuB
namespace Go.Av.L
open Go.Av Go.Lib
set_option maxRecDepth 100000
set_option linter.unusedVariables false
set_option linter.unusedSimpArgs false
theorem Hr {α β : Type} {m : Option α} {x : α} (h : m = some x) {k : α → Option β} : m.bind k = k x := by rw [h]; rfl
theorem SF {st l at_ st' l' at' : Int} {bl bl' : Bool} {hd B : AL} {en en' : Int} {f f' : AU} {evs evs' : List AI}
  (h : loop AR (KT st l at_ bl hd en f evs) = some (KT st' l' at' bl' B en' f' evs')) :
  Bh (RI f st l at_ bl hd en) evs = some (RI f' st' l' at' bl' B en', f', f'.BL, [], evs') := by
 unfold Bh
 exact (Hr h).trans rfl
theorem R9 (a b : Nat) : Jl (a + b) = Jl a ++ Jl b := by
 unfold Jl
 rw [← List.replicate_append_replicate, List.flatten_append]
theorem YR (n : Nat) {f : AU} (C : KE f) (E : f.cs.flatten = Jl n) (l at_ : Int) (hd : AL) (en : Int) (evs : List AI) (h : evs.length + 2 * n ≤ 1000000000) :
  ∃ f' l' at' B, loop AR (KT 0 l at_ false hd en f evs) = some (KT 0 l' at' false B en f' (evs ++ ME n)) ∧ KE f' ∧ f'.cs.flatten = [] := by
 obtain ⟨f1, l1, a1, h1, e1, k1, d1⟩ := rN n C (D := []) (by rw [E, List.append_nil]) l at_ hd en evs h
 obtain ⟨f2, e2, k2, d2⟩ := rE k1 d1 l1 a1 false h1 en (evs ++ ME n)
 exact ⟨f2, l1, a1, h1, by rw [e1, De e2], k2, d2⟩
theorem Wd (n : Nat) {f : AU} (C : KE f) (E : f.cs.flatten = Jl n ++ aZ) (l at_ : Int) (hd : AL) (en : Int) (evs : List AI) (h : evs.length + 2 * n ≤ 1000000000) :
  ∃ f' l' at' B, loop AR (KT 0 l at_ false hd en f evs) = some (KT 0 l' at' true B en f' (evs ++ ME n)) ∧ KE f' ∧ f'.cs.flatten = [] := by
 obtain ⟨f1, l1, a1, h1, e1, k1, d1⟩ := rN n C (D := aZ) E l at_ hd en evs h
 obtain ⟨f2, a2, e2, k2, d2⟩ := rZ k1 (D := []) (by rw [d1, List.append_nil]) l1 a1 h1 en (evs ++ ME n)
 obtain ⟨f3, e3, k3, d3⟩ := rE k2 d2 l1 a2 true h1 en (evs ++ ME n)
 exact ⟨f3, l1, a2, h1, by rw [e1, B9 e2, De e3], k3, d3⟩
theorem W5 (n : Nat) {f : AU} (C : KE f) (E : f.cs.flatten = Jl n ++ (aZ ++ aZ)) (l at_ : Int) (hd : AL) (en : Int) (evs : List AI) (h : evs.length + 2 * n ≤ 1000000000) :
  ∃ f' l' at' B, loop AR (KT 0 l at_ false hd en f evs) = some (KT 4 l' at' true B en f' (evs ++ ME n ++ [eE])) ∧ KE f' ∧ f'.cs.flatten = [] := by
 obtain ⟨f1, l1, a1, h1, e1, k1, d1⟩ := rN n C (D := aZ ++ aZ) E l at_ hd en evs h
 obtain ⟨f2, a2, e2, k2, d2⟩ := rZ k1 (D := aZ) d1 l1 a1 h1 en (evs ++ ME n)
 obtain ⟨f3, a3, e3, k3, d3⟩ := Zf k2 (D := []) (by rw [d2, List.append_nil]) l1 a2 h1 en (evs ++ ME n) (by rw [List.length_append, H0]; exact h)
 exact ⟨f3, l1, a3, h1, by rw [e1, B9 e2, B9 e3, De (r4 _ _ _ _ _ _ _)], k3, d3⟩
theorem Xi {f : AU} (C : KE f) (E : f.cs.flatten = aZ) (l at_ : Int) (hd : AL) (en : Int) (evs : List AI) (h : evs.length ≤ 1000000000) :
  ∃ f' l' at' B, loop AR (KT 0 l at_ true hd en f evs) = some (KT 4 l' at' true B en f' (evs ++ [eE])) ∧ KE f' ∧ f'.cs.flatten = [] := by
 obtain ⟨f3, a3, e3, k3, d3⟩ := Zf C (D := []) (by rw [E, List.append_nil]) l at_ hd en evs h
 exact ⟨f3, l, a3, hd, by rw [B9 e3, De (r4 _ _ _ _ _ _ _)], k3, d3⟩
abbrev PS := (List AI) × Int × Int × Int × Int × Int × Bool × Int × Int × (List UInt8) × (List UInt8) × Int × Int × Int × Int × Int × Int × (List UInt8) × (List UInt8) × Int × Int × Int × Int × (List UInt8) × (List UInt8) × Bool × Bool × Bool × (List UInt8) × Int × Bool × (List (List UInt8)) × (List UInt8) × (List UInt8)
def Wy (st l at_ : Int) (bl : Bool) (hd : AL) (en : Int) (f : AU) (evs : List AI) (c : List UInt8) : PS :=
 (evs, 1, 1, st, l, at_, bl, 0, 0, hd.Name, hd.A9, hd.Kind, hd.Mode, hd.Cz, hd.Ct, hd.Bg, hd.Time, hd.Ah, hd.Aj, hd.Au, hd.As, hd.Form, en, [], [], false, false, false, f.Bz, f.Ar, f.AY, f.BL, [], c)
theorem Wp {f : AU} (C : KE f) (h : f.cs.flatten = []) : f.cs = [] := by
 have J := C.ok.Xm
 cases e : f.cs with
 | nil => rfl
 | cons x t =>
  rw [e] at h J
  exfalso
  rw [List.flatten_cons] at h
  exact J x (by simp) (List.append_eq_nil_iff.1 h).1
theorem Y5 {f : AU} (C : KE f) (h : f.cs.flatten = []) {c : List UInt8} (hc : c ≠ []) (hl : c.length ≤ 65536) :
  ∃ f', CA f c = some (0, f', f'.BL) ∧ KE f' ∧ f'.cs.flatten = c := by
 obtain ⟨⟨o, f', w⟩, e, h1, h2⟩ := Yw f c C.ok
 simp only at h1 h2
 rw [if_neg (by omega), if_neg (by rw [C.op]; simp), if_neg hc, Wp C h, if_neg (by simp)] at h2
 obtain ⟨rfl, h3, H, h5⟩ := h2
 exact ⟨f', by rw [e, h1], ⟨h5, h3.trans C.op⟩, by rw [H]; simp⟩
theorem NG {f : AU} (C : KE f) (E : f.cs.flatten = []) {l at_ : Int} {bl : Bool} {hd : AL} {en : Int} {evs evs' : List AI} {D1 D2 : List UInt8} {st' : Int} {bl' : Bool}
  (h1 : D1 ≠ []) (h2 : D1.length = 65536 ∨ D1.length ≤ 65536 ∧ D2 = [])
  (hr : ∀ f1, KE f1 → f1.cs.flatten = D1 → ∃ f' l' at' B, loop AR (KT 0 l at_ bl hd en f1 evs) = some (KT st' l' at' bl' B en f' evs') ∧ KE f' ∧ f'.cs.flatten = []) :
  ∃ f' l' at' B, BN (Wy 0 l at_ bl hd en f evs (D1 ++ D2)) = some (.inl (Wy st' l' at' bl' B en f' evs' D2)) ∧ KE f' ∧ f'.cs.flatten = [] := by
 obtain ⟨f1, e1, k1, d1⟩ := Y5 C E h1 (by omega)
 obtain ⟨f2, l2, a2, F, e2, k2, d2⟩ := hr f1 k1 d1
 have hp : 0 < D1.length := List.length_pos_iff.2 h1
 have hm : mn ((D1 ++ D2).length : Int) (65536 : Int) = (D1.length : Int) := by
  unfold mn
  rw [List.length_append]
  rcases h2 with h2 | ⟨h2, rfl⟩
  ·split <;> omega
  ·simp only [List.length_nil]; split <;> omega
 have s1 : Kd (D1 ++ D2) none (some (mn ((D1 ++ D2).length : Int) (65536 : Int))) = some D1 := by
  rw [hm, SJ (by simp), List.take_left]
 have s2 : Kd (D1 ++ D2) (some (mn ((D1 ++ D2).length : Int) (65536 : Int))) none = some D2 := by
  rw [hm, Vo (by simp), List.drop_left]
 by_cases H : st' = 4
 ·subst H
  have I : f2.Ar = 0 := by rw [k2.ok.sz, d2]; rfl
  obtain ⟨f3, e3, k3, d3⟩ := Ud k2
  refine ⟨f3, l2, a2, F, ?_, k3, by rw [d3, d2]⟩
  unfold BN Wy
  simp only
  rw [show decide (((D1 ++ D2).length : Int) > 0) = true from decide_eq_true (by simp only [List.length_append]; omega)]
  simp only [show ((0 : Int) != 4) = true from rfl, Bool.and_self, Bw]
  rw [s1, s2]
  simp only [Option.bind_some]
  rw [show CA ⟨f.BL, f.Bz, f.Ar, f.AY⟩ D1 = _ from e1]
  simp only [Option.bind_some]
  rw [show Bh _ evs = _ from SF e2]
  simp only [Option.bind_some]
  rw [show ((4 : Int) == 4) = true from rfl, Bw]
  unfold EC
  simp only [Option.bind_some]
  rw [I, show A6 ⟨f2.BL, f2.Bz, 0, f2.AY⟩ 0 = some ([], f3, f3.BL) from by rw [← e3, ← I]]
  rfl
 ·refine ⟨f2, l2, a2, F, ?_, k2, d2⟩
  unfold BN Wy
  simp only
  rw [show decide (((D1 ++ D2).length : Int) > 0) = true from decide_eq_true (by simp only [List.length_append]; omega)]
  simp only [show ((0 : Int) != 4) = true from rfl, Bool.and_self, Bw]
  rw [s1, s2]
  simp only [Option.bind_some]
  rw [show CA ⟨f.BL, f.Bz, f.Ar, f.AY⟩ D1 = _ from e1]
  simp only [Option.bind_some]
  rw [show Bh _ evs = _ from SF e2]
  simp only [Option.bind_some]
  rw [show (st' == (4 : Int)) = false from by simpa using H, B8]
theorem Wk (st l at_ : Int) (bl : Bool) (hd : AL) (en : Int) (f : AU) (evs : List AI) : BN (Wy st l at_ bl hd en f evs []) =
  some (.inr (evs, 1, 1, st, l, at_, bl, 0, 0, hd.Name, hd.A9, hd.Kind, hd.Mode, hd.Cz, hd.Ct, hd.Bg, hd.Time, hd.Ah, hd.Aj, hd.Au, hd.As, hd.Form, en, [], [], false, false, false, f.Bz, f.Ar, f.AY, f.BL, [])) := rfl
theorem VI (a b : Nat) : ME (a + b) = ME a ++ ME b := by
 unfold ME
 rw [← List.replicate_append_replicate, List.flatten_append]
theorem UY : aZ ≠ [] := by intro h; have := congrArg List.length h; rw [FT] at this; simp at this
theorem T5 : ∀ (m k : Nat), k ≤ m → ∀ {f : AU} (C : KE f) (E : f.cs.flatten = []) (l at_ : Int) (hd : AL) (en : Int) (evs : List AI) (h : evs.length + 2 * k ≤ 1000000000),
  ∃ f' l' at' B, loop BN (Wy 0 l at_ false hd en f evs (Jl k ++ (aZ ++ aZ))) = loop BN (Wy 4 l' at' true B en f' (evs ++ ME k ++ [eE]) []) ∧ KE f' ∧ f'.cs.flatten = []
 | m, k, hm, f, C, E, l, at_, hd, en, evs, h => by
  by_cases h1 : k ≤ 126
  ·obtain ⟨f1, l1, a1, G, e1, k1, d1⟩ := NG C E (D1 := Jl k ++ (aZ ++ aZ)) (D2 := []) (l := l) (at_ := at_) (bl := false) (hd := hd) (en := en) (evs := evs) (by simp [UY])
    (.inr ⟨by simp only [List.length_append, EL, FT]; omega, rfl⟩) fun f1 k1 d1 => W5 k k1 d1 l at_ hd en evs h
   rw [List.append_nil] at e1
   exact ⟨f1, l1, a1, G, by rw [B9 e1], k1, d1⟩
  ·by_cases h2 : k = 127
   ·subst h2
    obtain ⟨f1, l1, a1, G, e1, k1, d1⟩ := NG C E (D1 := Jl 127 ++ aZ) (D2 := aZ) (l := l) (at_ := at_) (bl := false) (hd := hd) (en := en) (evs := evs) (by simp [UY])
     (.inl (by simp only [List.length_append, EL, FT])) fun f1 k1 d1 => Wd 127 k1 d1 l at_ hd en evs h
    obtain ⟨f2, l2, a2, F, e2, k2, d2⟩ := NG k1 d1 (D1 := aZ) (D2 := []) (l := l1) (at_ := a1) (bl := true) (hd := G) (en := en) (evs := evs ++ ME 127) UY
     (.inr ⟨by rw [FT]; omega, rfl⟩) fun f1 k1 d1 => Xi k1 d1 l1 a1 G en (evs ++ ME 127) (by rw [List.length_append, H0]; omega)
    rw [List.append_nil] at e2
    exact ⟨f2, l2, a2, F, by rw [← List.append_assoc, B9 e1, B9 e2], k2, d2⟩
   ·obtain ⟨j, rfl⟩ : ∃ j, k = 128 + j := ⟨k - 128, by omega⟩
    obtain ⟨f1, l1, a1, G, e1, k1, d1⟩ := NG C E (D1 := Jl 128) (D2 := Jl j ++ (aZ ++ aZ)) (l := l) (at_ := at_) (bl := false) (hd := hd) (en := en) (evs := evs) (by intro e; have := congrArg List.length e; rw [EL] at this; simp at this)
     (.inl (by rw [EL])) fun f1 k1 d1 => YR 128 k1 d1 l at_ hd en evs (by omega)
    cases m with
    | zero => omega
    | succ m =>
     obtain ⟨f2, l2, a2, F, e2, k2, d2⟩ := T5 m j (by omega) k1 d1 l1 a1 G en (evs ++ ME 128) (by rw [List.length_append, H0]; omega)
     refine ⟨f2, l2, a2, F, ?_, k2, d2⟩
     rw [R9, List.append_assoc, B9 e1, e2, VI, ← List.append_assoc evs]
theorem Xx (k : Nat) (h : k ≤ 100000) : ∃ f' l' at' B, Bo (RI ⟨[], [], 0, false⟩ 0 0 0 false ⟨[], [], 0, 0, 0, 0, 0, 0, [], [], 0, 0, 0⟩ 0) (Jl k ++ (aZ ++ aZ)) = some (ME k ++ [eE], 0, RI f' 4 l' at' true B 0, f', f'.BL, []) := by
 obtain ⟨f', l', at', B, e, _, _⟩ := T5 k k (Nat.le_refl _) (f := ⟨[], [], 0, false⟩) ⟨⟨by simp, rfl, by simp [Mv], by simp [Mv]⟩, rfl⟩ rfl 0 0 ⟨[], [], 0, 0, 0, 0, 0, 0, [], [], 0, 0, 0⟩ 0 [] (by simp; omega)
 rw [De (Wk 4 l' at' true B 0 f' _), List.nil_append] at e
 refine ⟨f', l', at', B, ?_⟩
 unfold Bo
 exact (Hr e).trans rfl
end Go.Av.L
