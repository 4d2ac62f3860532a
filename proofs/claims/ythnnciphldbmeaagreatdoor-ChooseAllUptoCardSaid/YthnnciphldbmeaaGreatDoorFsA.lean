/-
  With the default config each right member, whose names aren't too long, is taken as it is.
-/
import Derived.Test.YthnnciphldbmeaaGreatDoorFiB
import Derived.Test.YthnnciphldbmeaaGreatDoorFiL
namespace Go.Av.L
open Go.Av Go.Lib
set_option linter.unusedVariables false
set_option linter.unusedSimpArgs false
theorem QK {s : GO} (hs : s.length < 900000000) : ∃ v, CS s = some v := by
 have key : ∀ (k i : Nat), i + k = s.length → ∃ r : Nat, loop (Ci s) (i : Int) = some (r : Int) ∧ r ≤ s.length := by
  intro k
  induction k with
  | zero =>
   intro i hi
   exact ⟨i, CR (by rw [Ci, CP, if_neg (by omega)]; rfl), by omega⟩
  | succ k ih =>
   intro i hi
   have hlt : i < s.length := by omega
   cases hq : ((s[i].toNat : Int) != 0) with
   | true =>
    obtain ⟨r, h1, h2⟩ := ih (i + 1) (by omega)
    refine ⟨r, ?_, h2⟩
    rw [Fb (s' := ((i + 1 : Nat) : Int)) (by rw [Ci, CP, if_pos (by omega), P1 hlt, Option.bind_some, hq, Option.bind_some, HJ, Rw (by omega)])]
    exact h1
   | false => exact ⟨i, CR (by rw [Ci, CP, if_pos (by omega), P1 hlt, Option.bind_some, hq]; rfl), by omega⟩
 obtain ⟨r, h1, h2⟩ := key s.length 0 (by omega)
 unfold CS
 rw [show (0 : Int) = ((0 : Nat) : Int) from rfl, h1, Option.bind_some, Sc h2]
 exact ⟨_, rfl⟩
theorem U4 {p : Am} (hp : p.Key.length < 900000000) : ∃ b, Df p = some b := by
 unfold Df
 have := SU (l := p.Key) (step := C5 p) (fun b => (b.toNat : Int) == 61) (.inr false) (.inl ()) (by omega)
  (by rw [C5, CP, if_neg (by omega)])
  (fun i hi => by
   rw [C5, CP, if_pos (by omega), P1 hi, Option.bind_some]
   cases ((p.Key[i].toNat : Int) == 61) <;> rfl)
 rw [this, Option.bind_some]
 cases p.Key.any fun b => (b.toNat : Int) == 61 with
 | true => exact ⟨_, rfl⟩
 | false => exact ⟨_, rfl⟩
theorem WJ {m : Mb} (hl : m.Extra.length ≤ 12) (hk : ∀ p ∈ m.Extra, p.Key.length < 900000000) : ∃ o, loop (CG m) 0 = some o := by
 have key : ∀ (k i : Nat), i + k = m.Extra.length → ∃ o, loop (CG m) (i : Int) = some o := by
  intro k
  induction k with
  | zero =>
   intro i hi
   exact ⟨_, CR (by rw [CG, CP, if_neg (by omega)])⟩
  | succ k ih =>
   intro i hi
   have hlt : i < m.Extra.length := by omega
   obtain ⟨b, hb⟩ := U4 (hk _ (List.getElem_mem hlt))
   have e1 : ∃ c, (Ae (decide ((i : Int) > 0)) ((HR m.Extra (IntKind.i64.wrap ((i : Int) - 1))).bind fun x14 => some (!(Op.bytesLess x14.Key m.Extra[i].Key))) (some false) : Option Bool) = some c := by
    rw [CP]
    by_cases h0 : i = 0
    ·rw [if_neg (by omega)]; exact ⟨_, rfl⟩
    ·have e : IntKind.i64.wrap ((i : Int) - 1) = ((i - 1 : Nat) : Int) := by rw [Vt (by omega) (by omega)]; omega
     rw [if_pos (by omega), e, Gv (by omega)]; exact ⟨_, rfl⟩
   obtain ⟨c, hc⟩ := e1
   have step : ∃ d : Bool, CG m (i : Int) = bif d then some (.inr (.inr 2)) else some (.inl ((i + 1 : Nat) : Int)) := by
    rw [CG, CP, if_pos (by omega), Gv hlt, Option.bind_some, hb, Option.bind_some, Rw (by omega), hc, Ee, Option.bind_some, Option.bind_some, LG, Option.bind_some, LG, Option.bind_some]
    have e : ∀ d : Bool, (Ae d (some (.inr (.inr 2))) (some (.inl ((i + 1 : Nat) : Int))) : Option (Int ⊕ (Unit ⊕ Int))) = bif d then some (.inr (.inr 2)) else some (.inl ((i + 1 : Nat) : Int)) := by intro d; cases d <;> rfl
    exact ⟨_, e _⟩
   obtain ⟨d, hd⟩ := step
   cases d with
   | true => exact ⟨_, CR hd⟩
   | false => rw [Fb hd]; exact ih (i + 1) (by omega)
 exact key m.Extra.length 0 (by omega)
structure Small (m : Mb) : Prop where
 name : m.Name.length < 900000000
 link : m.Bf.length < 900000000
 uname : m.CB.length < 900000000
 We : m.Ca.length < 900000000
 extra : m.Extra.length ≤ 12
 keys : ∀ p ∈ m.Extra, p.Key.length < 900000000
theorem Uq {m : Mb} (h : Small m) : ∃ v, C7 m = some v ∧ (v = 0 → m.Name ≠ []) := by
 obtain ⟨a, ha⟩ := QK h.name
 obtain ⟨b, hb⟩ := QK h.link
 obtain ⟨c, hc⟩ := QK h.uname
 obtain ⟨d, hd⟩ := QK h.We
 obtain ⟨o, ho⟩ := WJ h.extra h.keys
 unfold C7
 rw [ha, Option.bind_some]
 cases (!(a == m.Name)) with
 | true => exact ⟨2, rfl, by simp⟩
 | false =>
  rw [CK, hb, Option.bind_some]
  cases (!(b == m.Bf)) with
  | true => exact ⟨2, rfl, by simp⟩
  | false =>
   rw [CK, hc, Option.bind_some, hd, Option.bind_some, LG, Option.bind_some]
   by_cases hn : m.Name = []
   ·rw [hn]
    simp only [beq_self_eq_true, Bool.or_true, HJ]
    exact ⟨2, rfl, by simp⟩
   ·cases ((!(c == m.CB)) || (!(d == m.Ca))) || (m.Name == ([] : GO)) with
    | true => exact ⟨2, rfl, by simp⟩
    | false =>
     rw [CK, ho, Option.bind_some]
     rcases o with _ | v
     ·dsimp only
      rw [Ek, Option.bind_some, LG, Option.bind_some]
      generalize (_ || (!_) : Bool) = q
      cases q <;> exact ⟨_, rfl, fun _ => hn⟩
     ·exact ⟨v, rfl, fun _ => hn⟩
theorem XP {a : Nat} (h : a < 1000000) : IntKind.i64.wrap (B7 .u64 (IntKind.u64.wrap (a : Int)) 1) = ((a / 2 : Nat) : Int) := by
 have e : IntKind.u64.wrap (a : Int) = (a : Int) := by rw [IntKind.wrap_u64]; omega
 rw [e]
 show IntKind.i64.wrap (Int.fdiv (a : Int) (2 ^ (min (1 : Int).toNat 64))) = _
 have : (2 : Int) ^ (min (1 : Int).toNat 64) = 2 := rfl
 rw [this, Int.fdiv_eq_ediv_of_nonneg _ (by omega), Vt (by omega) (by omega)]
 omega
theorem R0 {l : List GO} {x : GO} (hl : l.length < 100000) : ∃ v, Bj l x = some v := by
 have key : ∀ (n i j : Nat), j - i ≤ n → i ≤ j → j ≤ l.length → ∃ r : Nat, loop (BA l x) ((i : Int), (j : Int)) = some (r : Int) ∧ r ≤ l.length := by
  intro n
  induction n with
  | zero =>
   intro i j h1 h2 h3
   exact ⟨i, CR (by rw [BA, CP, if_neg (by omega)]), by omega⟩
  | succ n ih =>
   intro i j h1 h2 h3
   by_cases hij : i < j
   ·have e1 : IntKind.i64.wrap ((i : Int) + (j : Int)) = ((i + j : Nat) : Int) := by rw [Vt (by omega) (by omega)]; omega
    have hm : (i + j) / 2 < l.length := by omega
    have e2 : ((i + j) / 2 : Nat) = (i + j) / 2 := rfl
    have step : ∃ d : Bool, BA l x ((i : Int), (j : Int)) = bif d then some (.inl (((((i + j) / 2 + 1 : Nat) : Int)), (j : Int))) else some (.inl ((i : Int), (((i + j) / 2 : Nat) : Int))) := by
     rw [BA, CP, if_pos (by omega), e1, XP (by omega), Gv hm, Option.bind_some]
     obtain ⟨d, hd⟩ : ∃ d, Ej l[(i + j) / 2] x = some d := by
      unfold Ej EM
      rw [Option.bind_some, Option.bind_some, OR, Option.bind_some]
      exact ⟨_, rfl⟩
     rw [hd, Option.bind_some, Rw (by omega)]
     refine ⟨d, ?_⟩
     cases d <;> rfl
    obtain ⟨d, hd⟩ := step
    cases d with
    | true =>
     rw [cond_true] at hd
     rw [Fb hd]
     exact ih _ _ (by omega) (by omega) h3
    | false =>
     rw [cond_false] at hd
     rw [Fb hd]
     exact ih _ _ (by omega) (by omega) (by omega)
   ·exact ⟨i, CR (by rw [BA, CP, if_neg (by omega)]), by omega⟩
 obtain ⟨r, h1, h2⟩ := key l.length 0 l.length (by omega) (by omega) (Nat.le_refl _)
 unfold Bj
 rw [show (0 : Int) = ((0 : Nat) : Int) from rfl, h1, Option.bind_some, CP]
 by_cases hr : r < l.length
 ·rw [if_pos (by omega), Gv hr]
  simp only [Option.bind_some, DS, OR, LG]
  exact ⟨_, rfl⟩
 ·rw [if_neg (by omega)]; exact ⟨_, rfl⟩
theorem S5 (x : GO) : ∃ b, Hl x = some b := by
 unfold Hl
 obtain ⟨l, hl, hlen⟩ : ∃ l, Iy = some l ∧ l.length < 100000 := ⟨_, rfl, by decide⟩
 rw [hl, Option.bind_some]
 obtain ⟨v, hv⟩ := R0 (x := x) hlen
 rw [hv, Option.bind_some]
 exact ⟨_, rfl⟩
theorem S1 {s : GO} (h : s.length < 900000000) : ∃ a b, Hj s = some (a, b) := by
 have hl := PD s
 unfold Hj
 rw [Ns h, Option.bind_some]
 generalize Hi s = l at hl ⊢
 have key : ∀ (k i : Nat), i + k = l.length → ∃ o, loop (FK l) (i : Int) = some o := by
  intro k
  induction k with
  | zero =>
   intro i hi
   exact ⟨_, CR (by rw [FK, CP, if_neg (by omega)])⟩
  | succ k ih =>
   intro i hi
   have hlt : i < l.length := by omega
   obtain ⟨b, hb⟩ := S5 l[i]
   cases b with
   | true => exact ⟨_, CR (by rw [FK, CP, if_pos (by omega), Gv hlt, Option.bind_some, hb, Option.bind_some, HJ])⟩
   | false =>
    rw [Fb (s' := ((i + 1 : Nat) : Int)) (by rw [FK, CP, if_pos (by omega), Gv hlt, Option.bind_some, hb, Option.bind_some, CK, Rw (by omega)])]
    exact ih (i + 1) (by omega)
 obtain ⟨o, ho⟩ := key l.length 0 (by omega)
 rw [show (0 : Int) = ((0 : Nat) : Int) from rfl, ho, Option.bind_some]
 rcases o with _ | ⟨a, b⟩
 ·exact ⟨_, _, rfl⟩
 ·exact ⟨a, b, rfl⟩
def VC : Bb := ⟨[], [], [], false, false, 0, false, ⟨0, 0⟩, 0, 0, 4096, 65536, 4096⟩
def Gx (X : Nat → Int) : Bg := ⟨VC, [], [], ⟨[], 4096⟩, ⟨0, 1, X⟩⟩
theorem UJ : FE = some () := rfl
theorem XU : G2 VC = some (some (Gx Oe), 0) := by kernel_rfl
theorem SI (s : GO) : DH s 0 = some (s, !(s == ([] : GO))) := by
 unfold DH
 rw [show decide ((0 : Int) < 0) = false from rfl, CK, CR (r := .inl s) (by rw [HP]; rfl)]
 rfl
theorem indexB (s : GO) (c : Int) (h : 0 ≤ c ∧ c ≤ 255) : Cq s c = some (idxOf s (UInt8.ofNat c.toNat)) := by
 simp [Cq, Du, I9, h]
theorem RZ (s : GO) : Cx s s = some false := by
 unfold Cx
 rw [indexB s 0 (by omega), Option.bind_some, Option.bind_some, OR, Option.bind_some]
 congr 1
 rw [Bool.and_eq_false_iff]
 by_cases h : idxOf s (UInt8.ofNat (0 : Int).toNat) ≥ 0
 ·exact .inr (decide_eq_false (by omega))
 ·exact .inl (decide_eq_false h)
theorem Ll {s : GO} (h : s.length ≤ 4096) : Cn ⟨[], 4096⟩ s = some (s, 0) ∧ CX ⟨[], 4096⟩ s = some (s, 0) ∧ CV ⟨[], 4096⟩ s = some (s, 0) := by
 have e : decide ((s.length : Int) > 4096) = false := decide_eq_false (by omega)
 unfold Cn CX CV
 dsimp only
 rw [e, CK, CK, CK, CR (step := C0 ⟨[], 4096⟩) (r := s) (by rw [C0]; rfl), CR (step := Cd ⟨[], 4096⟩) (r := s) (by rw [Cd]; rfl), CR (step := Cg ⟨[], 4096⟩) (r := s) (by rw [Cg]; rfl)]
 exact ⟨rfl, rfl, rfl⟩
theorem Up {m : Mb} (h : Small m) (hn : m.Name ≠ []) (h1 : m.Name.length ≤ 4096) (h2 : m.Bf.length ≤ 4096) : CJ ⟨[], 4096⟩ m = some (m, 0) := by
 have hx := h.extra
 unfold CJ Dq
 rw [(Ll h1).1]
 simp only [Option.bind_some]
 rw [(Ll h2).2.1, (Ll h2).2.2, beq_eq_false_iff_ne.2 hn]
 simp only [Option.bind_some, CK, RZ, bne_self_eq_false, Ri (b := 32) (n := m.Extra.length) (by omega) (by omega), Je]
 cases m.Kind == 50 with
 | true => rfl
 | false => cases m.Kind == 49 <;> rfl
theorem XT {m : Mb} (h : Small m) (hn : m.Name ≠ []) (h1 : m.Name.length ≤ 4096) (h2 : m.Bf.length ≤ 4096) (X : Nat → Int) (x : Bw) : ∃ Y, CO (Gx X) m x = some (m, 0, 0, ⟨0, 1, Y⟩) := by
 obtain ⟨a, b, hm⟩ := S1 h.name
 have e1 : B5 (Gx X) m = some 0 := by
  unfold B5 Dz Gx VC
  dsimp only
  rw [CR (step := EE [] m.Name) (r := .inl ()) (by rw [EE]; rfl), Option.bind_some]
  simp only [Option.bind_some]
  rw [CK, hm]
  simp only [Option.bind_some]
  rw [Bool.and_false]; rfl
 have e2 : B6 m x (Gx X) = some 0 := by
  unfold B6 Em; rfl
 have e3 : CW (Gx X) m = some 0 := rfl
 obtain ⟨Y, e4⟩ : ∃ Y, Bv (Gx X) m = some (0, ⟨0, 1, Y⟩) := by
  unfold Bv E4 Fk Gx
  have e : Rk 257 X 0 = some (X 0) := by unfold Rk; rw [if_pos ⟨by omega, by decide⟩]; rfl
  dsimp only
  rw [show decide (((([] : List Ag).length : Int)) > 0) = false from rfl, CK]
  simp only [Option.bind_some]
  rw [show (!(decide ((0 : Int) ≥ 0) && decide ((0 : Int) < 1))) = false from rfl, CK, e]
  simp only [Option.bind_some]
  cases decide (X 0 < 9007199254740991) with
  | true => exact ⟨_, rfl⟩
  | false => exact ⟨_, rfl⟩
 have hne : (!(m.Name == ([] : GO))) = true := by simp [hn]
 refine ⟨Y, ?_⟩
 unfold CO
 rw [e1, e2, e3, e4]
 simp only [Option.bind_some, bne_self_eq_false, CK]
 have e5 : B1 (⟨(Gx X).c_, (Gx X).AZ, (Gx X).Ac, (Gx X).Ad, (⟨0, 1, Y⟩ : CF)⟩ : Bg) m = some 0 := by
  unfold B1
  show (DH m.Name 0).bind _ = _
  rw [SI]
  simp only [Option.bind_some]
  rw [hne]; rfl
 rw [e5]
 simp only [Option.bind_some, bne_self_eq_false, CK]
 have e6 : (Gx X).c_.B3 = 0 := rfl
 have e7 : (Gx X).Ad = ⟨[], 4096⟩ := rfl
 rw [e6, e7, SI, SI]
 simp only [Option.bind_some]
 have e8 : (Ae ((!(m.Bf == ([] : GO))) && (m.Kind == 49)) (some m.Bf) (some m.Bf) : Option GO) = some m.Bf := by
  cases ((!(m.Bf == ([] : GO))) && (m.Kind == 49)) <;> rfl
 rw [e8]
 simp only [Option.bind_some]
 have e9 : (⟨m.Name, m.Bf, m.Kind, m.Mode, m.Dm, m.Eb, m.CB, m.Ca, m.CY, m.EX, m.Time, m.Extra, m.Data⟩ : AV) = m := rfl
 rw [e9, Up h hn h1 h2]
 rfl
end Go.Av.L
