/-
  With the default config each right member, whose names aren't too long, is taken as it is.
-/
import Derived.Test.YthnnciphldbmeaaGreatDoorFiB
import Derived.Test.YthnnciphldbmeaaGreatDoorFiL
namespace Go.Av.L
open Go.Av Go.Lib
set_option linter.unusedVariables false
set_option linter.unusedSimpArgs false
theorem RD {s : Em} (hs : s.length < 900000000) : ∃ v, CV s = some v := by
 have key : ∀ (k i : Nat), i + k = s.length → ∃ r : Nat, loop (Cl s) (i : Int) = some (r : Int) ∧ r ≤ s.length := by
  intro k
  induction k with
  | zero =>
   intro i hi
   exact ⟨i, Bo (by rw [Cl, Ba, if_neg (by omega)]; rfl), by omega⟩
  | succ k ih =>
   intro i hi
   have hlt : i < s.length := by omega
   cases hq : ((s[i].toNat : Int) != 0) with
   | true =>
    obtain ⟨r, h1, h2⟩ := ih (i + 1) (by omega)
    refine ⟨r, ?_, h2⟩
    rw [Dl (s' := ((i + 1 : Nat) : Int)) (by rw [Cl, Ba, if_pos (by omega), My hlt, Option.bind_some, hq, Option.bind_some, FU, OI (by omega)])]
    exact h1
   | false => exact ⟨i, Bo (by rw [Cl, Ba, if_pos (by omega), My hlt, Option.bind_some, hq]; rfl), by omega⟩
 obtain ⟨r, h1, h2⟩ := key s.length 0 (by omega)
 unfold CV
 rw [show (0 : Int) = ((0 : Nat) : Int) from rfl, h1, Option.bind_some, OD h2]
 exact ⟨_, rfl⟩
theorem Vz {p : Am} (hp : p.Key.length < 900000000) : ∃ b, Dt p = some b := by
 unfold Dt
 have := TZ (l := p.Key) (step := DI p) (fun b => (b.toNat : Int) == 61) (.inr false) (.inl ()) (by omega)
  (by rw [DI, Ba, if_neg (by omega)])
  (fun i hi => by
   rw [DI, Ba, if_pos (by omega), My hi, Option.bind_some]
   cases ((p.Key[i].toNat : Int) == 61) <;> rfl)
 rw [this, Option.bind_some]
 cases p.Key.any fun b => (b.toNat : Int) == 61 with
 | true => exact ⟨_, rfl⟩
 | false => exact ⟨_, rfl⟩
theorem Wt {m : Mb} (hl : m.Extra.length ≤ 12) (hk : ∀ p ∈ m.Extra, p.Key.length < 900000000) : ∃ o, loop (CN m) 0 = some o := by
 have key : ∀ (k i : Nat), i + k = m.Extra.length → ∃ o, loop (CN m) (i : Int) = some o := by
  intro k
  induction k with
  | zero =>
   intro i hi
   exact ⟨_, Bo (by rw [CN, Ba, if_neg (by omega)])⟩
  | succ k ih =>
   intro i hi
   have hlt : i < m.Extra.length := by omega
   obtain ⟨b, hb⟩ := Vz (hk _ (List.getElem_mem hlt))
   have e1 : ∃ c, (Af (decide ((i : Int) > 0)) ((GP m.Extra (IntKind.i64.wrap ((i : Int) - 1))).bind fun x14 => some (!(Op.bytesLess x14.Key m.Extra[i].Key))) (some false) : Option Bool) = some c := by
    rw [Ba]
    by_cases h0 : i = 0
    ·rw [if_neg (by omega)]; exact ⟨_, rfl⟩
    ·have e : IntKind.i64.wrap ((i : Int) - 1) = ((i - 1 : Nat) : Int) := by rw [UB (by omega) (by omega)]; omega
     rw [if_pos (by omega), e, Fm (by omega)]; exact ⟨_, rfl⟩
   obtain ⟨c, hc⟩ := e1
   have step : ∃ d : Bool, CN m (i : Int) = bif d then some (.inr (.inr 2)) else some (.inl ((i + 1 : Nat) : Int)) := by
    rw [CN, Ba, if_pos (by omega), Fm hlt, Option.bind_some, hb, Option.bind_some, OI (by omega), hc, Es, Option.bind_some, Option.bind_some, Lh, Option.bind_some, Lh, Option.bind_some]
    have e : ∀ d : Bool, (Af d (some (.inr (.inr 2))) (some (.inl ((i + 1 : Nat) : Int))) : Option (Int ⊕ (Unit ⊕ Int))) = bif d then some (.inr (.inr 2)) else some (.inl ((i + 1 : Nat) : Int)) := by intro d; cases d <;> rfl
    exact ⟨_, e _⟩
   obtain ⟨d, hd⟩ := step
   cases d with
   | true => exact ⟨_, Bo hd⟩
   | false => rw [Dl hd]; exact ih (i + 1) (by omega)
 exact key m.Extra.length 0 (by omega)
structure Small (m : Mb) : Prop where
 name : m.Name.length < 900000000
 link : m.Be.length < 900000000
 uname : m.B1.length < 900000000
 Xq : m.CI.length < 900000000
 extra : m.Extra.length ≤ 12
 keys : ∀ p ∈ m.Extra, p.Key.length < 900000000
theorem Vf {m : Mb} (h : Small m) : ∃ v, Dz m = some v ∧ (v = 0 → m.Name ≠ []) := by
 obtain ⟨a, ha⟩ := RD h.name
 obtain ⟨b, hb⟩ := RD h.link
 obtain ⟨c, hc⟩ := RD h.uname
 obtain ⟨d, hd⟩ := RD h.Xq
 obtain ⟨o, ho⟩ := Wt h.extra h.keys
 unfold Dz
 rw [ha, Option.bind_some]
 cases (!(a == m.Name)) with
 | true => exact ⟨2, rfl, by simp⟩
 | false =>
  rw [B0, hb, Option.bind_some]
  cases (!(b == m.Be)) with
  | true => exact ⟨2, rfl, by simp⟩
  | false =>
   rw [B0, hc, Option.bind_some, hd, Option.bind_some, Lh, Option.bind_some]
   by_cases hn : m.Name = []
   ·rw [hn]
    simp only [beq_self_eq_true, Bool.or_true, FU]
    exact ⟨2, rfl, by simp⟩
   ·cases ((!(c == m.B1)) || (!(d == m.CI))) || (m.Name == ([] : Em)) with
    | true => exact ⟨2, rfl, by simp⟩
    | false =>
     rw [B0, ho, Option.bind_some]
     rcases o with _ | v
     ·dsimp only
      rw [E1, Option.bind_some, Lh, Option.bind_some]
      generalize (_ || (!_) : Bool) = q
      cases q <;> exact ⟨_, rfl, fun _ => hn⟩
     ·exact ⟨v, rfl, fun _ => hn⟩
theorem YZ {a : Nat} (h : a < 1000000) : IntKind.i64.wrap (CE .u64 (IntKind.u64.wrap (a : Int)) 1) = ((a / 2 : Nat) : Int) := by
 have e : IntKind.u64.wrap (a : Int) = (a : Int) := by rw [IntKind.wrap_u64]; omega
 rw [e]
 show IntKind.i64.wrap (Int.fdiv (a : Int) (2 ^ (min (1 : Int).toNat 64))) = _
 have : (2 : Int) ^ (min (1 : Int).toNat 64) = 2 := rfl
 rw [this, Int.fdiv_eq_ediv_of_nonneg _ (by omega), UB (by omega) (by omega)]
 omega
theorem SM {l : List Em} {x : Em} (hl : l.length < 100000) : ∃ v, Bp l x = some v := by
 have key : ∀ (n i j : Nat), j - i ≤ n → i ≤ j → j ≤ l.length → ∃ r : Nat, loop (BB l x) ((i : Int), (j : Int)) = some (r : Int) ∧ r ≤ l.length := by
  intro n
  induction n with
  | zero =>
   intro i j h1 h2 h3
   exact ⟨i, Bo (by rw [BB, Ba, if_neg (by omega)]), by omega⟩
  | succ n ih =>
   intro i j h1 h2 h3
   by_cases hij : i < j
   ·have e1 : IntKind.i64.wrap ((i : Int) + (j : Int)) = ((i + j : Nat) : Int) := by rw [UB (by omega) (by omega)]; omega
    have hm : (i + j) / 2 < l.length := by omega
    have e2 : ((i + j) / 2 : Nat) = (i + j) / 2 := rfl
    have step : ∃ d : Bool, BB l x ((i : Int), (j : Int)) = bif d then some (.inl (((((i + j) / 2 + 1 : Nat) : Int)), (j : Int))) else some (.inl ((i : Int), (((i + j) / 2 : Nat) : Int))) := by
     rw [BB, Ba, if_pos (by omega), e1, YZ (by omega), Fm hm, Option.bind_some]
     obtain ⟨d, hd⟩ : ∃ d, E5 l[(i + j) / 2] x = some d := by
      unfold E5 Ec
      rw [Option.bind_some, Option.bind_some, O9, Option.bind_some]
      exact ⟨_, rfl⟩
     rw [hd, Option.bind_some, OI (by omega)]
     refine ⟨d, ?_⟩
     cases d <;> rfl
    obtain ⟨d, hd⟩ := step
    cases d with
    | true =>
     rw [cond_true] at hd
     rw [Dl hd]
     exact ih _ _ (by omega) (by omega) h3
    | false =>
     rw [cond_false] at hd
     rw [Dl hd]
     exact ih _ _ (by omega) (by omega) (by omega)
   ·exact ⟨i, Bo (by rw [BB, Ba, if_neg (by omega)]), by omega⟩
 obtain ⟨r, h1, h2⟩ := key l.length 0 l.length (by omega) (by omega) (Nat.le_refl _)
 unfold Bp
 rw [show (0 : Int) = ((0 : Nat) : Int) from rfl, h1, Option.bind_some, Ba]
 by_cases hr : r < l.length
 ·rw [if_pos (by omega), Fm hr]
  simp only [Option.bind_some, Df, O9, Lh]
  exact ⟨_, rfl⟩
 ·rw [if_neg (by omega)]; exact ⟨_, rfl⟩
theorem Tt (x : Em) : ∃ b, H0 x = some b := by
 unfold H0
 obtain ⟨l, hl, hlen⟩ : ∃ l, JM = some l ∧ l.length < 100000 := ⟨_, rfl, by decide⟩
 rw [hl, Option.bind_some]
 obtain ⟨v, hv⟩ := SM (x := x) hlen
 rw [hv, Option.bind_some]
 exact ⟨_, rfl⟩
theorem Tu {s : Em} (h : s.length < 900000000) : ∃ a b, Hm s = some (a, b) := by
 have hl := NB s
 unfold Hm
 rw [MC h, Option.bind_some]
 generalize Cj s = l at hl ⊢
 have key : ∀ (k i : Nat), i + k = l.length → ∃ o, loop (FN l) (i : Int) = some o := by
  intro k
  induction k with
  | zero =>
   intro i hi
   exact ⟨_, Bo (by rw [FN, Ba, if_neg (by omega)])⟩
  | succ k ih =>
   intro i hi
   have hlt : i < l.length := by omega
   obtain ⟨b, hb⟩ := Tt l[i]
   cases b with
   | true => exact ⟨_, Bo (by rw [FN, Ba, if_pos (by omega), Fm hlt, Option.bind_some, hb, Option.bind_some, FU])⟩
   | false =>
    rw [Dl (s' := ((i + 1 : Nat) : Int)) (by rw [FN, Ba, if_pos (by omega), Fm hlt, Option.bind_some, hb, Option.bind_some, B0, OI (by omega)])]
    exact ih (i + 1) (by omega)
 obtain ⟨o, ho⟩ := key l.length 0 (by omega)
 rw [show (0 : Int) = ((0 : Nat) : Int) from rfl, ho, Option.bind_some]
 rcases o with _ | ⟨a, b⟩
 ·exact ⟨_, _, rfl⟩
 ·exact ⟨a, b, rfl⟩
def VM : Bq := ⟨[], [], [], false, false, 0, false, ⟨0, 0⟩, 0, 0, 4096, 65536, 4096⟩
def Ef (X : Nat → Int) : BO := ⟨VM, [], [], ⟨[], 4096⟩, ⟨0, 1, X⟩⟩
theorem UU : Fa = some () := rfl
theorem YK : HD VM = some (some (Ef J6), 0) := by kernel_rfl
theorem Sg (s : Em) : EW s 0 = some (s, !(s == ([] : Em))) := by
 unfold EW
 rw [show decide ((0 : Int) < 0) = false from rfl, B0, Bo (r := .inl s) (by rw [Hc]; rfl)]
 rfl
theorem indexB (s : Em) (c : Int) (h : 0 ≤ c ∧ c ≤ 255) : Cu s c = some (idxOf s (UInt8.ofNat c.toNat)) := by
 simp [Cu, D5, JK, h]
theorem R2 (s : Em) : C6 s s = some false := by
 unfold C6
 rw [indexB s 0 (by omega), Option.bind_some, Option.bind_some, O9, Option.bind_some]
 congr 1
 rw [Bool.and_eq_false_iff]
 by_cases h : idxOf s (UInt8.ofNat (0 : Int).toNat) ≥ 0
 ·exact .inr (decide_eq_false (by omega))
 ·exact .inl (decide_eq_false h)
theorem MN {s : Em} (h : s.length ≤ 4096) : Cr ⟨[], 4096⟩ s = some (s, 0) ∧ CZ ⟨[], 4096⟩ s = some (s, 0) ∧ Ca ⟨[], 4096⟩ s = some (s, 0) := by
 have e : decide ((s.length : Int) > 4096) = false := decide_eq_false (by omega)
 unfold Cr CZ Ca
 dsimp only
 rw [e, B0, B0, B0, Bo (step := C7 ⟨[], 4096⟩) (r := s) (by rw [C7]; rfl), Bo (step := Co ⟨[], 4096⟩) (r := s) (by rw [Co]; rfl), Bo (step := Cp ⟨[], 4096⟩) (r := s) (by rw [Cp]; rfl)]
 exact ⟨rfl, rfl, rfl⟩
theorem Vx {m : Mb} (h : Small m) (hn : m.Name ≠ []) (h1 : m.Name.length ≤ 4096) (h2 : m.Be.length ≤ 4096) : Cs ⟨[], 4096⟩ m = some (m, 0) := by
 have hx := h.extra
 unfold Cs D3
 rw [(MN h1).1]
 simp only [Option.bind_some]
 rw [(MN h2).2.1, (MN h2).2.2, beq_eq_false_iff_ne.2 hn]
 simp only [Option.bind_some, B0, R2, bne_self_eq_false, NT (b := 32) (n := m.Extra.length) (by omega) (by omega), Gy]
 cases m.Kind == 50 with
 | true => rfl
 | false => cases m.Kind == 49 <;> rfl
theorem YE {m : Mb} (h : Small m) (hn : m.Name ≠ []) (h1 : m.Name.length ≤ 4096) (h2 : m.Be.length ≤ 4096) (X : Nat → Int) (x : BA) : ∃ Y, Bw (Ef X) m x = some (m, 0, 0, ⟨0, 1, Y⟩) := by
 obtain ⟨a, b, hm⟩ := Tu h.name
 have e1 : CS (Ef X) m = some 0 := by
  unfold CS EA Ef VM
  dsimp only
  rw [Bo (step := EL [] m.Name) (r := .inl ()) (by rw [EL]; rfl), Option.bind_some]
  simp only [Option.bind_some]
  rw [B0, hm]
  simp only [Option.bind_some]
  rw [Bool.and_false]; rfl
 have e2 : CC m x (Ef X) = some 0 := by
  unfold CC Ey; rfl
 have e3 : DS (Ef X) m = some 0 := rfl
 obtain ⟨Y, e4⟩ : ∃ Y, CK (Ef X) m = some (0, ⟨0, 1, Y⟩) := by
  unfold CK FI F3 Ef
  have e : Sv 257 X 0 = some (X 0) := by unfold Sv; rw [if_pos ⟨by omega, by decide⟩]; rfl
  dsimp only
  rw [show decide (((([] : List Al).length : Int)) > 0) = false from rfl, B0]
  simp only [Option.bind_some]
  rw [show (!(decide ((0 : Int) ≥ 0) && decide ((0 : Int) < 1))) = false from rfl, B0, e]
  simp only [Option.bind_some]
  cases decide (X 0 < 9007199254740991) with
  | true => exact ⟨_, rfl⟩
  | false => exact ⟨_, rfl⟩
 have hne : (!(m.Name == ([] : Em))) = true := by simp [hn]
 refine ⟨Y, ?_⟩
 unfold Bw
 rw [e1, e2, e3, e4]
 simp only [Option.bind_some, bne_self_eq_false, B0]
 have e5 : CQ (⟨(Ef X).c_, (Ef X).AR, (Ef X).AU, (Ef X).AX, (⟨0, 1, Y⟩ : BS)⟩ : BO) m = some 0 := by
  unfold CQ
  show (EW m.Name 0).bind _ = _
  rw [Sg]
  simp only [Option.bind_some]
  rw [hne]; rfl
 rw [e5]
 simp only [Option.bind_some, bne_self_eq_false, B0]
 have e6 : (Ef X).c_.Bz = 0 := rfl
 have e7 : (Ef X).AX = ⟨[], 4096⟩ := rfl
 rw [e6, e7, Sg, Sg]
 simp only [Option.bind_some]
 have e8 : (Af ((!(m.Be == ([] : Em))) && (m.Kind == 49)) (some m.Be) (some m.Be) : Option Em) = some m.Be := by
  cases ((!(m.Be == ([] : Em))) && (m.Kind == 49)) <;> rfl
 rw [e8]
 simp only [Option.bind_some]
 have e9 : (⟨m.Name, m.Be, m.Kind, m.Mode, m.De, m.ET, m.B1, m.CI, m.CG, m.Da, m.Time, m.Extra, m.Data⟩ : AK) = m := rfl
 rw [e9, Vx h hn h1 h2]
 rfl
end Go.Av.L
