/-
 A part.
-/
import Derived.Test.YtlljeoogceblmaaGreatDoorBkB
import Derived.Test.YtlljeoogceblmaaGreatDoorAvTold
namespace Go.Av.L
open Go.Av Go.Lib
set_option linter.unusedVariables false
set_option linter.unusedSimpArgs false
set_option maxRecDepth 10000
abbrev Mem := AL
def JJ : Gh := [103, 105, 100]
def JN : Gh := [117, 105, 100]
def F9 : Gh := [115, 105, 122, 101]
def EO : Gh := [103, 110, 97, 109, 101]
def Eu : Gh := [117, 110, 97, 109, 101]
def Fz : Gh := [112, 97, 116, 104]
def Fu : Gh := [108, 105, 110, 107, 112, 97, 116, 104]
def Fy : Gh := [109, 116, 105, 109, 101]
noncomputable def VP (s : Gh) : Bool := ((Cy s).getD ([], [], false)).2.2
theorem MF {s : Gh} (hs : s.length ≤ 1000000) : (∃ p q, Hl s (p, q, true)) ↔ VP s = true := by
 obtain ⟨⟨p, q, b⟩, e, hq⟩ := Qk s hs
 unfold VP
 rw [e]
 constructor
 ·rintro ⟨p', q', h⟩
  have := hq.uniq h
  cases this
  rfl
 ·intro hb
  have hb : b = true := hb
  subst hb
  exact ⟨p, q, hq⟩
abbrev c1 (m : Mem) : Prop := 0 ≤ m.BQ ∧ m.BQ < 2097152
abbrev c2 (m : Mem) : Prop := m.AO.length ≤ 32
abbrev c3 (m : Mem) : Prop := m.AU.length ≤ 100
abbrev c4 (m : Mem) : Prop := m.Time.BA = 0 ∧ 0 ≤ m.Time.B6 ∧ m.Time.B6 < 8589934592
abbrev c5 (m : Mem) : Prop := VP m.Name = true
abbrev c6 (n : Int) : Prop := 0 ≤ n ∧ n < 8589934592
abbrev c7 (m : Mem) : Prop := 0 ≤ m.BP ∧ m.BP < 2097152
abbrev c8 (m : Mem) : Prop := m.AN.length ≤ 32
noncomputable def hB (m : Mem) (n : Int) : AJ :=
 ⟨if c5 m then m.Name else [], if c3 m then m.AU else [], m.Kind, m.Mode, if c7 m then m.BP else 0, if c1 m then m.BQ else 0, if c6 n then n else 0, if c4 m then m.Time.B6 else 0, if c8 m then m.AN else [], if c2 m then m.AO else [], m.Aa, m.Ag, 2⟩
noncomputable def lB (m : Mem) (n : Int) (ts : Gh) : List Pr :=
 ((((((([] ++ if c1 m then [] else [⟨JJ, Lib.itoa m.BQ⟩]) ++ if c2 m then [] else [⟨EO, m.AO⟩]) ++ if c3 m then [] else [⟨Fu, m.AU⟩]) ++ if c4 m then [] else [⟨Fy, ts⟩]) ++ if c5 m then [] else [⟨Fz, m.Name⟩]) ++ if c6 n then [] else [⟨F9, Lib.itoa n⟩]) ++ if c7 m then [] else [⟨JN, Lib.itoa m.BP⟩]) ++ if c8 m then [] else [⟨Eu, m.AN⟩]
theorem Ir {c : Prop} [Decidable c] {x : Pr} : (if c then [] else [x] : List Pr).length ≤ 1 := by split <;> simp
section
variable {h : AJ} {k v : Gh} {l : List Pr} {m : Mem}
theorem s1 (F : Hd h) (hn : h.Name.length ≤ 1000000) (hl : l.length ≤ 100) : ∃ h', CM k v m h l = some (h', l ++ if c1 m then [] else [⟨k, v⟩]) ∧ Hd h' ∧ h' = { h with BQ := if c1 m then m.BQ else h.BQ } := by
 refine ⟨_, Hs (w := { h with BQ := m.BQ }) (c := c1 m) ⟨fun F' => F'.gi, fun hc => { F with gi := hc }⟩ hn hl, ?_, ?_⟩
 ·split
  ·rename_i hc; exact { F with gi := hc }
  ·exact F
 ·split <;> rfl
theorem s2 (F : Hd h) (hn : h.Name.length ≤ 1000000) (hl : l.length ≤ 100) (hz : Dr m.AO = false) : ∃ h', B0 k v m h l = some (h', l ++ if c2 m then [] else [⟨k, v⟩]) ∧ Hd h' ∧ h' = { h with AO := if c2 m then m.AO else h.AO } := by
 refine ⟨_, Hs (w := { h with AO := m.AO }) (c := c2 m) ⟨fun F' => F'.gn, fun hc => { F with gn := hc, nG := hz }⟩ hn hl, ?_, ?_⟩
 ·split
  ·rename_i hc; exact { F with gn := hc, nG := hz }
  ·exact F
 ·split <;> rfl
theorem s3 (F : Hd h) (hn : h.Name.length ≤ 1000000) (hl : l.length ≤ 100) (hz : Dr m.AU = false) : ∃ h', B3 k v m h l = some (h', l ++ if c3 m then [] else [⟨k, v⟩]) ∧ Hd h' ∧ h' = { h with AU := if c3 m then m.AU else h.AU } := by
 refine ⟨_, Hs (w := { h with AU := m.AU }) (c := c3 m) ⟨fun F' => F'.lk, fun hc => { F with lk := hc, nL := hz }⟩ hn hl, ?_, ?_⟩
 ·split
  ·rename_i hc; exact { F with lk := hc, nL := hz }
  ·exact F
 ·split <;> rfl
theorem s4 (F : Hd h) (hn : h.Name.length ≤ 1000000) (hl : l.length ≤ 100) : ∃ h', BW k v m h l = some (h', l ++ if c4 m then [] else [⟨k, v⟩]) ∧ Hd h' ∧ h' = { h with Time := if c4 m then m.Time.B6 else h.Time } := by
 have e : DY h m = some { h with Time := if m.Time.BA = 0 then m.Time.B6 else -1 } := by
  unfold DY
  rw [VT]
  split <;> rfl
 unfold BW
 rw [e, Option.bind_some]
 refine ⟨_, Hs (w := { h with Time := if m.Time.BA = 0 then m.Time.B6 else -1 }) (c := c4 m) ⟨fun F' => ?_, fun hc => { F with ti := ?_ }⟩ hn hl, ?_, ?_⟩
 ·have := F'.ti
  dsimp only at this
  split at this
  ·exact ⟨by assumption, this⟩
  ·omega
 ·dsimp only
  rw [if_pos hc.1]; exact hc.2
 ·split
  ·rename_i hc
   exact { F with ti := by dsimp only; rw [if_pos hc.1]; exact hc.2 }
  ·exact F
 ·split
  ·rename_i hc
   rw [if_pos hc.1]
  ·rfl
theorem s5 (F : Hd h) (hn : h.Name.length ≤ 1000000) (hl : l.length ≤ 100) (hz : Dr m.Name = false) (hm : m.Name.length ≤ 1000000) : ∃ h', Bz k v m h l = some (h', l ++ if c5 m then [] else [⟨k, v⟩]) ∧ Hd h' ∧ h' = { h with Name := if c5 m then m.Name else h.Name } := by
 refine ⟨_, Hs (w := { h with Name := m.Name }) (c := c5 m) ⟨fun F' => (MF hm).1 F'.pt, fun hc => { F with pt := (MF hm).2 hc, nN := hz }⟩ hm hl, ?_, ?_⟩
 ·split
  ·rename_i hc; exact { F with pt := (MF hm).2 hc, nN := hz }
  ·exact F
 ·split <;> rfl
theorem s6 {n : Int} (F : Hd h) (hn : h.Name.length ≤ 1000000) (hl : l.length ≤ 100) : ∃ h', B1 k v n h l = some (h', l ++ if c6 n then [] else [⟨k, v⟩]) ∧ Hd h' ∧ h' = { h with BU := if c6 n then n else h.BU } := by
 refine ⟨_, Hs (w := { h with BU := n }) (c := c6 n) ⟨fun F' => F'.si, fun hc => { F with si := hc }⟩ hn hl, ?_, ?_⟩
 ·split
  ·rename_i hc; exact { F with si := hc }
  ·exact F
 ·split <;> rfl
theorem s7 (F : Hd h) (hn : h.Name.length ≤ 1000000) (hl : l.length ≤ 100) : ∃ h', By k v m h l = some (h', l ++ if c7 m then [] else [⟨k, v⟩]) ∧ Hd h' ∧ h' = { h with BP := if c7 m then m.BP else h.BP } := by
 refine ⟨_, Hs (w := { h with BP := m.BP }) (c := c7 m) ⟨fun F' => F'.ui, fun hc => { F with ui := hc }⟩ hn hl, ?_, ?_⟩
 ·split
  ·rename_i hc; exact { F with ui := hc }
  ·exact F
 ·split <;> rfl
theorem s8 (F : Hd h) (hn : h.Name.length ≤ 1000000) (hl : l.length ≤ 100) (hz : Dr m.AN = false) : ∃ h', B2 k v m h l = some (h', l ++ if c8 m then [] else [⟨k, v⟩]) ∧ Hd h' ∧ h' = { h with AN := if c8 m then m.AN else h.AN } := by
 refine ⟨_, Hs (w := { h with AN := m.AN }) (c := c8 m) ⟨fun F' => F'.un, fun hc => { F with un := hc, nU := hz }⟩ hn hl, ?_, ?_⟩
 ·split
  ·rename_i hc; exact { F with un := hc, nU := hz }
  ·exact F
 ·split <;> rfl
end
theorem Tf {m : Mem} {n : Int} {ts : Gh} (R : H6 m) (hm : m.Name.length ≤ 1000000) (hn : 0 ≤ n ∧ n < 9007199254740992) (ht : ED m.Time = some (ts, 0)) : Ek m n = some (hB m n, lB m n ts) ∧ Hd (hB m n) := by
 have gi := R.gi
 have ui := R.ui
 have F0 : Hd (⟨[], [], m.Kind, m.Mode, 0, 0, 0, 0, [], [], m.Aa, m.Ag, 2⟩ : AJ) :=
  ⟨rfl, rfl, rfl, rfl, ⟨[], [], .inl ⟨by simp, rfl⟩⟩, by simp, by simp, by simp, R.mo, by simp, by simp, by simp, by simp, R.ma, R.mi⟩
 have ll : ∀ a b : List Pr, (a ++ b).length = a.length + b.length := fun a b => List.length_append
 unfold Ek
 rw [decide_eq_true (by omega), BO]
 obtain ⟨h1, e1, F1, x1⟩ := s1 (k := JJ) (v := Lib.itoa m.BQ) (l := []) (m := m) F0 (by simp) (by simp)
 rw [show CM ([103, 105, 100] : List UInt8) (Lib.itoa m.BQ) m _ ([] : List AB) = _ from e1, Option.bind_some]
 dsimp only
 have z1 : ([] ++ if c1 m then [] else [(⟨JJ, Lib.itoa m.BQ⟩ : Pr)]).length ≤ 1 := by rw [ll]; have := Ir (c := c1 m) (x := ⟨JJ, Lib.itoa m.BQ⟩); simpa using this
 generalize hq1 : ([] ++ if c1 m then [] else [(⟨JJ, Lib.itoa m.BQ⟩ : Pr)]) = l1 at *
 obtain ⟨h2, e2, F2, x2⟩ := s2 (k := EO) (v := m.AO) (l := l1) (m := m) F1 (by rw [x1]; simp) (by omega) R.nG
 rw [show B0 ([103, 110, 97, 109, 101] : List UInt8) m.AO m h1 l1 = _ from e2, Option.bind_some]
 dsimp only
 have z2 : (l1 ++ if c2 m then [] else [(⟨EO, m.AO⟩ : Pr)]).length ≤ 2 := by rw [ll]; have := Ir (c := c2 m) (x := ⟨EO, m.AO⟩); omega
 generalize hq2 : (l1 ++ if c2 m then [] else [(⟨EO, m.AO⟩ : Pr)]) = l2 at *
 obtain ⟨h3, e3, F3, x3⟩ := s3 (k := Fu) (v := m.AU) (l := l2) (m := m) F2 (by rw [x2, x1]; simp) (by omega) R.nL
 rw [show B3 ([108, 105, 110, 107, 112, 97, 116, 104] : List UInt8) m.AU m h2 l2 = _ from e3, Option.bind_some]
 dsimp only
 have z3 : (l2 ++ if c3 m then [] else [(⟨Fu, m.AU⟩ : Pr)]).length ≤ 3 := by rw [ll]; have := Ir (c := c3 m) (x := ⟨Fu, m.AU⟩); omega
 generalize hq3 : (l2 ++ if c3 m then [] else [(⟨Fu, m.AU⟩ : Pr)]) = l3 at *
 rw [ht, Option.bind_some]
 dsimp only
 obtain ⟨h4, e4, F4, x4⟩ := s4 (k := Fy) (v := ts) (l := l3) (m := m) F3 (by rw [x3, x2, x1]; simp) (by omega)
 rw [show BW ([109, 116, 105, 109, 101] : List UInt8) ts m h3 l3 = _ from e4, Option.bind_some]
 dsimp only
 have z4 : (l3 ++ if c4 m then [] else [(⟨Fy, ts⟩ : Pr)]).length ≤ 4 := by rw [ll]; have := Ir (c := c4 m) (x := ⟨Fy, ts⟩); omega
 generalize hq4 : (l3 ++ if c4 m then [] else [(⟨Fy, ts⟩ : Pr)]) = l4 at *
 obtain ⟨h5, e5, F5, x5⟩ := s5 (k := Fz) (v := m.Name) (l := l4) (m := m) F4 (by rw [x4, x3, x2, x1]; simp) (by omega) R.nN hm
 rw [show Bz ([112, 97, 116, 104] : List UInt8) m.Name m h4 l4 = _ from e5, Option.bind_some]
 dsimp only
 have z5 : (l4 ++ if c5 m then [] else [(⟨Fz, m.Name⟩ : Pr)]).length ≤ 5 := by rw [ll]; have := Ir (c := c5 m) (x := ⟨Fz, m.Name⟩); omega
 generalize hq5 : (l4 ++ if c5 m then [] else [(⟨Fz, m.Name⟩ : Pr)]) = l5 at *
 have hn5 : h5.Name.length ≤ 1000000 := by rw [x5]; dsimp only; split; exact hm; rw [x4, x3, x2, x1]; simp
 rw [decide_eq_true (by omega), BO]
 obtain ⟨h6, e6, F6, x6⟩ := s6 (k := F9) (v := Lib.itoa n) (l := l5) (n := n) F5 hn5 (by omega)
 rw [show B1 ([115, 105, 122, 101] : List UInt8) (Lib.itoa n) n h5 l5 = _ from e6, Option.bind_some]
 dsimp only
 have z6 : (l5 ++ if c6 n then [] else [(⟨F9, Lib.itoa n⟩ : Pr)]).length ≤ 6 := by rw [ll]; have := Ir (c := c6 n) (x := ⟨F9, Lib.itoa n⟩); omega
 generalize hq6 : (l5 ++ if c6 n then [] else [(⟨F9, Lib.itoa n⟩ : Pr)]) = l6 at *
 rw [decide_eq_true (by omega), BO]
 obtain ⟨h7, e7, F7, x7⟩ := s7 (k := JN) (v := Lib.itoa m.BP) (l := l6) (m := m) F6 (by rw [x6]; exact hn5) (by omega)
 rw [show By ([117, 105, 100] : List UInt8) (Lib.itoa m.BP) m h6 l6 = _ from e7, Option.bind_some]
 dsimp only
 have z7 : (l6 ++ if c7 m then [] else [(⟨JN, Lib.itoa m.BP⟩ : Pr)]).length ≤ 7 := by rw [ll]; have := Ir (c := c7 m) (x := ⟨JN, Lib.itoa m.BP⟩); omega
 generalize hq7 : (l6 ++ if c7 m then [] else [(⟨JN, Lib.itoa m.BP⟩ : Pr)]) = l7 at *
 obtain ⟨h8, e8, F8, x8⟩ := s8 (k := Eu) (v := m.AN) (l := l7) (m := m) F7 (by rw [x7, x6]; exact hn5) (by omega) R.nU
 rw [show B2 ([117, 110, 97, 109, 101] : List UInt8) m.AN m h7 l7 = _ from e8, Option.bind_some]
 dsimp only
 have hh : h8 = hB m n := by
  rw [x8, x7, x6, x5, x4, x3, x2, x1]
  rfl
 have hlB : (l7 ++ if c8 m then [] else [(⟨Eu, m.AN⟩ : Pr)]) = lB m n ts := by
  rw [← hq7, ← hq6, ← hq5, ← hq4, ← hq3, ← hq2, ← hq1]
  rfl
 rw [hlB, hh]
 exact ⟨rfl, by rw [← hh]; exact F8⟩
theorem W9 {c : Prop} [Decidable c] {x p : Pr} : p ∈ (if c then [] else [x] : List Pr) ↔ ¬ c ∧ p = x := by
 split
 ·rename_i h; simp [h]
 ·rename_i h; simp [h]
theorem EC {m : Mem} {n : Int} {ts : Gh} {p : Pr} : p ∈ lB m n ts ↔ (¬ c1 m ∧ p = ⟨JJ, Lib.itoa m.BQ⟩) ∨ (¬ c2 m ∧ p = ⟨EO, m.AO⟩) ∨ (¬ c3 m ∧ p = ⟨Fu, m.AU⟩) ∨ (¬ c4 m ∧ p = ⟨Fy, ts⟩) ∨ (¬ c5 m ∧ p = ⟨Fz, m.Name⟩) ∨ (¬ c6 n ∧ p = ⟨F9, Lib.itoa n⟩) ∨ (¬ c7 m ∧ p = ⟨JN, Lib.itoa m.BP⟩) ∨ (¬ c8 m ∧ p = ⟨Eu, m.AN⟩) := by
 unfold lB
 simp only [List.mem_append, W9, List.not_mem_nil, false_or, or_assoc]
def K8 : List Gh := [JJ, EO, Fu, Fy, Fz, F9, JN, Eu]
theorem Hj {c : Prop} [Decidable c] {k v : Gh} : ((if c then [] else [(⟨k, v⟩ : Pr)] : List Pr).map AB.Key).Sublist [k] := by
 split
 ·exact List.nil_sublist _
 ·exact List.Sublist.refl _
theorem LW (m : Mem) (n : Int) (ts : Gh) : ((lB m n ts).map AB.Key).Nodup ∧ (lB m n ts).length ≤ 8 ∧ ∀ p ∈ lB m n ts, Fm p.Key = true := by
 have hs : ((lB m n ts).map AB.Key).Sublist K8 := by
  unfold lB
  simp only [List.map_append, List.map_nil, List.nil_append, List.append_assoc]
  exact Hj.append (Hj.append (Hj.append (Hj.append (Hj.append (Hj.append (Hj.append Hj))))))
 refine ⟨hs.nodup (by decide), by simpa [K8] using hs.length_le, fun p hp => ?_⟩
 have hk : ∀ k ∈ K8, Fm k = true := by decide
 exact hk _ (hs.subset (List.mem_map_of_mem hp))
theorem Tq : ∀ {l : List Pr}, (l.map AB.Key).Nodup → LX (l.map fun x => ((x.Key, x.Value) : IF)) = true
 | [], _ => rfl
 | x :: l, h => by
  rw [List.map_cons, List.nodup_cons] at h
  rw [List.map_cons, LX, Bool.and_eq_true, List.all_eq_true]
  refine ⟨fun y hy => ?_, Tq h.2⟩
  obtain ⟨z, hz, rfl⟩ := List.mem_map.1 hy
  rw [bne_iff_ne]
  intro e
  exact h.1 (by rw [← show z.Key = x.Key from e]; exact List.mem_map_of_mem hz)
noncomputable def lW (m : Mem) (n : Int) (ts : Gh) : List Pr := (E7 ((lB m n ts ++ m.Extra).map fun x => ((x.Key, x.Value) : IF))).map fun p => (⟨p.1, p.2⟩ : AB)
theorem Up {l : List Pr} (h : PZ l) : (l.map AB.Key).Nodup := by
 rw [List.nodup_iff_pairwise_ne, List.pairwise_map]
 exact h.imp fun hab e => by rw [e] at hab; exact absurd hab (List.lt_irrefl _)
theorem Q8 {m : Mem} (R : H6 m) (n : Int) (ts : Gh) : ((lB m n ts ++ m.Extra).map AB.Key).Nodup := by
 obtain ⟨k1, k2, k3⟩ := LW m n ts
 rw [List.map_append, List.nodup_append]
 refine ⟨k1, Up R.ex.1, fun a ha b hb e => ?_⟩
 obtain ⟨p, hp, rfl⟩ := List.mem_map.1 ha
 obtain ⟨q, hq, rfl⟩ := List.mem_map.1 hb
 have h1 := k3 p hp
 have h2 := (R.ex.2 q hq).1
 rw [e, h2] at h1
 cases h1
theorem QG (m : Mem) (n : Int) (ts : Gh) : (lW m n ts).Perm (lB m n ts ++ m.Extra) := by
 unfold lW
 refine ((GH _).map _).trans ?_
 rw [List.map_map]
 rw [show ((fun p => (⟨p.1, p.2⟩ : AB)) ∘ fun x : AB => ((x.Key, x.Value) : IF)) = id from rfl, List.map_id]
theorem SS {m : Mem} (R : H6 m) (n : Int) (ts : Gh) : PZ (lW m n ts) := by
 have h1 : (lW m n ts).Pairwise fun a b => a.Key ≤ b.Key := by
  unfold lW
  rw [List.pairwise_map]
  exact MP _
 have h2 : ((lW m n ts).map AB.Key).Nodup := ((QG m n ts).map _).nodup_iff.2 (Q8 R n ts)
 rw [List.nodup_iff_pairwise_ne, List.pairwise_map] at h2
 refine (h1.and h2).imp fun {a b} h => ?_
 rcases List.le_iff_lt_or_eq.1 h.1 with h3 | h3
 ·exact h3
 ·exact absurd h3 h.2
theorem head_eq {m : Mem} {n : Int} {ts : Gh} (hr : Ja m n = 0) (R : H6 m) (hm : m.Name.length ≤ 1000000) (hx : m.Extra.length ≤ 1000) (hn : 0 ≤ n ∧ n < 9007199254740992) (ht : ED m.Time = some (ts, 0)) : Di m n = some (hB m n, 0) ∧ C0 m n = some (lW m n ts, 0) := by
 obtain ⟨e, _⟩ := Tf R hm hn ht
 obtain ⟨k1, k2, k3⟩ := LW m n ts
 constructor
 ·unfold Di
  rw [OP m n (by omega), hr, Option.bind_some, show ((0 : Int) != 0) = false from rfl, AQ, e, Option.bind_some]
 ·unfold C0
  rw [OP m n (by omega), hr, Option.bind_some, show ((0 : Int) != 0) = false from rfl, AQ, e, Option.bind_some]
  dsimp only
  rw [QE (by omega) (by omega), BO, Tq (Q8 R n ts), BO, decide_eq_true (by rw [List.length_append]; omega), BO]
  rfl
end Go.Av.L
