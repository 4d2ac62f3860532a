/-
 A part.
-/
import Derived.Test.YtlljeoogceblmaaGreatDoorBkB
import Derived.Test.YtlljeoogceblmaaGreatDoorAvTold
namespace Go.Av.L
open Go.Av Go.Lib
set_option linter.unusedVariables false
set_option linter.unusedSimpArgs false
set_option maxRecDepth 10000
abbrev Mem := AR
def Ls : LM := [103, 105, 100]
def Lq : LM := [117, 105, 100]
def I1 : LM := [115, 105, 122, 101]
def FV : LM := [103, 110, 97, 109, 101]
def Fv : LM := [117, 110, 97, 109, 101]
def GW : LM := [112, 97, 116, 104]
def GV : LM := [108, 105, 110, 107, 112, 97, 116, 104]
def Jk : LM := [109, 116, 105, 109, 101]
noncomputable def RI (s : LM) : Bool := ((DN s).getD ([], [], false)).2.2
theorem M0 {s : LM} (hs : s.length ≤ 1000000) : (∃ p q, Ie s (p, q, true)) ↔ RI s = true := by
 obtain ⟨⟨p, q, b⟩, e, hq⟩ := Nn s hs
 unfold RI
 rw [e]
 constructor
 ·rintro ⟨p', q', h⟩
  have := hq.uniq h
  cases this
  rfl
 ·intro hb
  have hb : b = true := hb
  subst hb
  exact ⟨p, q, hq⟩
abbrev c1 (m : Mem) : Prop := 0 ≤ m.CH ∧ m.CH < 2097152
abbrev c2 (m : Mem) : Prop := m.Aj.length ≤ 32
abbrev c3 (m : Mem) : Prop := m.Az.length ≤ 100
abbrev c4 (m : Mem) : Prop := m.Time.BV = 0 ∧ 0 ≤ m.Time.Cn ∧ m.Time.Cn < 8589934592
abbrev c5 (m : Mem) : Prop := RI m.Name = true
abbrev c6 (n : Int) : Prop := 0 ≤ n ∧ n < 8589934592
abbrev c7 (m : Mem) : Prop := 0 ≤ m.Br ∧ m.Br < 2097152
abbrev c8 (m : Mem) : Prop := m.Ah.length ≤ 32
noncomputable def hB (m : Mem) (n : Int) : AK :=
 ⟨if c5 m then m.Name else [], if c3 m then m.Az else [], m.Kind, m.Mode, if c7 m then m.Br else 0, if c1 m then m.CH else 0, if c6 n then n else 0, if c4 m then m.Time.Cn else 0, if c8 m then m.Ah else [], if c2 m then m.Aj else [], m.An, m.A2, 2⟩
noncomputable def lB (m : Mem) (n : Int) (ts : LM) : List Pr :=
 ((((((([] ++ if c1 m then [] else [⟨Ls, Lib.itoa m.CH⟩]) ++ if c2 m then [] else [⟨FV, m.Aj⟩]) ++ if c3 m then [] else [⟨GV, m.Az⟩]) ++ if c4 m then [] else [⟨Jk, ts⟩]) ++ if c5 m then [] else [⟨GW, m.Name⟩]) ++ if c6 n then [] else [⟨I1, Lib.itoa n⟩]) ++ if c7 m then [] else [⟨Lq, Lib.itoa m.Br⟩]) ++ if c8 m then [] else [⟨Fv, m.Ah⟩]
theorem Jc {c : Prop} [Decidable c] {x : Pr} : (if c then [] else [x] : List Pr).length ≤ 1 := by split <;> simp
section
variable {h : AK} {k v : LM} {l : List Pr} {m : Mem}
theorem s1 (F : Hc h) (hn : h.Name.length ≤ 1000000) (hl : l.length ≤ 100) : ∃ h', Ch k v m h l = some (h', l ++ if c1 m then [] else [⟨k, v⟩]) ∧ Hc h' ∧ h' = { h with CH := if c1 m then m.CH else h.CH } := by
 refine ⟨_, IN (w := { h with CH := m.CH }) (c := c1 m) ⟨fun F' => F'.gi, fun hc => { F with gi := hc }⟩ hn hl, ?_, ?_⟩
 ·split
  ·rename_i hc; exact { F with gi := hc }
  ·exact F
 ·split <;> rfl
theorem s2 (F : Hc h) (hn : h.Name.length ≤ 1000000) (hl : l.length ≤ 100) (hz : DZ m.Aj = false) : ∃ h', CC k v m h l = some (h', l ++ if c2 m then [] else [⟨k, v⟩]) ∧ Hc h' ∧ h' = { h with Aj := if c2 m then m.Aj else h.Aj } := by
 refine ⟨_, IN (w := { h with Aj := m.Aj }) (c := c2 m) ⟨fun F' => F'.gn, fun hc => { F with gn := hc, nG := hz }⟩ hn hl, ?_, ?_⟩
 ·split
  ·rename_i hc; exact { F with gn := hc, nG := hz }
  ·exact F
 ·split <;> rfl
theorem s3 (F : Hc h) (hn : h.Name.length ≤ 1000000) (hl : l.length ≤ 100) (hz : DZ m.Az = false) : ∃ h', CD k v m h l = some (h', l ++ if c3 m then [] else [⟨k, v⟩]) ∧ Hc h' ∧ h' = { h with Az := if c3 m then m.Az else h.Az } := by
 refine ⟨_, IN (w := { h with Az := m.Az }) (c := c3 m) ⟨fun F' => F'.lk, fun hc => { F with lk := hc, nL := hz }⟩ hn hl, ?_, ?_⟩
 ·split
  ·rename_i hc; exact { F with lk := hc, nL := hz }
  ·exact F
 ·split <;> rfl
theorem s4 (F : Hc h) (hn : h.Name.length ≤ 1000000) (hl : l.length ≤ 100) : ∃ h', Bh k v m h l = some (h', l ++ if c4 m then [] else [⟨k, v⟩]) ∧ Hc h' ∧ h' = { h with Time := if c4 m then m.Time.Cn else h.Time } := by
 have e : D6 h m = some { h with Time := if m.Time.BV = 0 then m.Time.Cn else -1 } := by
  unfold D6
  rw [WZ]
  split <;> rfl
 unfold Bh
 rw [e, Option.bind_some]
 refine ⟨_, IN (w := { h with Time := if m.Time.BV = 0 then m.Time.Cn else -1 }) (c := c4 m) ⟨fun F' => ?_, fun hc => { F with ti := ?_ }⟩ hn hl, ?_, ?_⟩
 ·have := F'.ti
  dsimp only at this
  split at this
  ·exact ⟨by assumption, this⟩
  ·omega
 ·dsimp only
  rw [if_pos hc.1]; exact hc.2
 ·split
  ·rename_i hc
   exact { F with ti := by dsimp only; rw [if_pos hc.1]; exact hc.2 }
  ·exact F
 ·split
  ·rename_i hc
   rw [if_pos hc.1]
  ·rfl
theorem s5 (F : Hc h) (hn : h.Name.length ≤ 1000000) (hl : l.length ≤ 100) (hz : DZ m.Name = false) (hm : m.Name.length ≤ 1000000) : ∃ h', CF k v m h l = some (h', l ++ if c5 m then [] else [⟨k, v⟩]) ∧ Hc h' ∧ h' = { h with Name := if c5 m then m.Name else h.Name } := by
 refine ⟨_, IN (w := { h with Name := m.Name }) (c := c5 m) ⟨fun F' => (M0 hm).1 F'.pt, fun hc => { F with pt := (M0 hm).2 hc, nN := hz }⟩ hm hl, ?_, ?_⟩
 ·split
  ·rename_i hc; exact { F with pt := (M0 hm).2 hc, nN := hz }
  ·exact F
 ·split <;> rfl
theorem s6 {n : Int} (F : Hc h) (hn : h.Name.length ≤ 1000000) (hl : l.length ≤ 100) : ∃ h', CB k v n h l = some (h', l ++ if c6 n then [] else [⟨k, v⟩]) ∧ Hc h' ∧ h' = { h with Eu := if c6 n then n else h.Eu } := by
 refine ⟨_, IN (w := { h with Eu := n }) (c := c6 n) ⟨fun F' => F'.si, fun hc => { F with si := hc }⟩ hn hl, ?_, ?_⟩
 ·split
  ·rename_i hc; exact { F with si := hc }
  ·exact F
 ·split <;> rfl
theorem s7 (F : Hc h) (hn : h.Name.length ≤ 1000000) (hl : l.length ≤ 100) : ∃ h', CA k v m h l = some (h', l ++ if c7 m then [] else [⟨k, v⟩]) ∧ Hc h' ∧ h' = { h with Br := if c7 m then m.Br else h.Br } := by
 refine ⟨_, IN (w := { h with Br := m.Br }) (c := c7 m) ⟨fun F' => F'.ui, fun hc => { F with ui := hc }⟩ hn hl, ?_, ?_⟩
 ·split
  ·rename_i hc; exact { F with ui := hc }
  ·exact F
 ·split <;> rfl
theorem s8 (F : Hc h) (hn : h.Name.length ≤ 1000000) (hl : l.length ≤ 100) (hz : DZ m.Ah = false) : ∃ h', CG k v m h l = some (h', l ++ if c8 m then [] else [⟨k, v⟩]) ∧ Hc h' ∧ h' = { h with Ah := if c8 m then m.Ah else h.Ah } := by
 refine ⟨_, IN (w := { h with Ah := m.Ah }) (c := c8 m) ⟨fun F' => F'.un, fun hc => { F with un := hc, nU := hz }⟩ hn hl, ?_, ?_⟩
 ·split
  ·rename_i hc; exact { F with un := hc, nU := hz }
  ·exact F
 ·split <;> rfl
end
theorem Tv {m : Mem} {n : Int} {ts : LM} (R : Km m) (hm : m.Name.length ≤ 1000000) (hn : 0 ≤ n ∧ n < 9007199254740992) (ht : EJ m.Time = some (ts, 0)) : FF m n = some (hB m n, lB m n ts) ∧ Hc (hB m n) := by
 have gi := R.gi
 have ui := R.ui
 have F0 : Hc (⟨[], [], m.Kind, m.Mode, 0, 0, 0, 0, [], [], m.An, m.A2, 2⟩ : AK) :=
  ⟨rfl, rfl, rfl, rfl, ⟨[], [], .inl ⟨by simp, rfl⟩⟩, by simp, by simp, by simp, R.mo, by simp, by simp, by simp, by simp, R.ma, R.mi⟩
 have ll : ∀ a b : List Pr, (a ++ b).length = a.length + b.length := fun a b => List.length_append
 unfold FF
 rw [decide_eq_true (by omega), Af]
 obtain ⟨h1, e1, F1, x1⟩ := s1 (k := Ls) (v := Lib.itoa m.CH) (l := []) (m := m) F0 (by simp) (by simp)
 rw [show Ch ([103, 105, 100] : List UInt8) (Lib.itoa m.CH) m _ ([] : List AA) = _ from e1, Option.bind_some]
 dsimp only
 have z1 : ([] ++ if c1 m then [] else [(⟨Ls, Lib.itoa m.CH⟩ : Pr)]).length ≤ 1 := by rw [ll]; have := Jc (c := c1 m) (x := ⟨Ls, Lib.itoa m.CH⟩); simpa using this
 generalize hq1 : ([] ++ if c1 m then [] else [(⟨Ls, Lib.itoa m.CH⟩ : Pr)]) = l1 at *
 obtain ⟨h2, e2, F2, x2⟩ := s2 (k := FV) (v := m.Aj) (l := l1) (m := m) F1 (by rw [x1]; simp) (by omega) R.nG
 rw [show CC ([103, 110, 97, 109, 101] : List UInt8) m.Aj m h1 l1 = _ from e2, Option.bind_some]
 dsimp only
 have z2 : (l1 ++ if c2 m then [] else [(⟨FV, m.Aj⟩ : Pr)]).length ≤ 2 := by rw [ll]; have := Jc (c := c2 m) (x := ⟨FV, m.Aj⟩); omega
 generalize hq2 : (l1 ++ if c2 m then [] else [(⟨FV, m.Aj⟩ : Pr)]) = l2 at *
 obtain ⟨h3, e3, F3, x3⟩ := s3 (k := GV) (v := m.Az) (l := l2) (m := m) F2 (by rw [x2, x1]; simp) (by omega) R.nL
 rw [show CD ([108, 105, 110, 107, 112, 97, 116, 104] : List UInt8) m.Az m h2 l2 = _ from e3, Option.bind_some]
 dsimp only
 have z3 : (l2 ++ if c3 m then [] else [(⟨GV, m.Az⟩ : Pr)]).length ≤ 3 := by rw [ll]; have := Jc (c := c3 m) (x := ⟨GV, m.Az⟩); omega
 generalize hq3 : (l2 ++ if c3 m then [] else [(⟨GV, m.Az⟩ : Pr)]) = l3 at *
 rw [ht, Option.bind_some]
 dsimp only
 obtain ⟨h4, e4, F4, x4⟩ := s4 (k := Jk) (v := ts) (l := l3) (m := m) F3 (by rw [x3, x2, x1]; simp) (by omega)
 rw [show Bh ([109, 116, 105, 109, 101] : List UInt8) ts m h3 l3 = _ from e4, Option.bind_some]
 dsimp only
 have z4 : (l3 ++ if c4 m then [] else [(⟨Jk, ts⟩ : Pr)]).length ≤ 4 := by rw [ll]; have := Jc (c := c4 m) (x := ⟨Jk, ts⟩); omega
 generalize hq4 : (l3 ++ if c4 m then [] else [(⟨Jk, ts⟩ : Pr)]) = l4 at *
 obtain ⟨h5, e5, F5, x5⟩ := s5 (k := GW) (v := m.Name) (l := l4) (m := m) F4 (by rw [x4, x3, x2, x1]; simp) (by omega) R.nN hm
 rw [show CF ([112, 97, 116, 104] : List UInt8) m.Name m h4 l4 = _ from e5, Option.bind_some]
 dsimp only
 have z5 : (l4 ++ if c5 m then [] else [(⟨GW, m.Name⟩ : Pr)]).length ≤ 5 := by rw [ll]; have := Jc (c := c5 m) (x := ⟨GW, m.Name⟩); omega
 generalize hq5 : (l4 ++ if c5 m then [] else [(⟨GW, m.Name⟩ : Pr)]) = l5 at *
 have hn5 : h5.Name.length ≤ 1000000 := by rw [x5]; dsimp only; split; exact hm; rw [x4, x3, x2, x1]; simp
 rw [decide_eq_true (by omega), Af]
 obtain ⟨h6, e6, F6, x6⟩ := s6 (k := I1) (v := Lib.itoa n) (l := l5) (n := n) F5 hn5 (by omega)
 rw [show CB ([115, 105, 122, 101] : List UInt8) (Lib.itoa n) n h5 l5 = _ from e6, Option.bind_some]
 dsimp only
 have z6 : (l5 ++ if c6 n then [] else [(⟨I1, Lib.itoa n⟩ : Pr)]).length ≤ 6 := by rw [ll]; have := Jc (c := c6 n) (x := ⟨I1, Lib.itoa n⟩); omega
 generalize hq6 : (l5 ++ if c6 n then [] else [(⟨I1, Lib.itoa n⟩ : Pr)]) = l6 at *
 rw [decide_eq_true (by omega), Af]
 obtain ⟨h7, e7, F7, x7⟩ := s7 (k := Lq) (v := Lib.itoa m.Br) (l := l6) (m := m) F6 (by rw [x6]; exact hn5) (by omega)
 rw [show CA ([117, 105, 100] : List UInt8) (Lib.itoa m.Br) m h6 l6 = _ from e7, Option.bind_some]
 dsimp only
 have z7 : (l6 ++ if c7 m then [] else [(⟨Lq, Lib.itoa m.Br⟩ : Pr)]).length ≤ 7 := by rw [ll]; have := Jc (c := c7 m) (x := ⟨Lq, Lib.itoa m.Br⟩); omega
 generalize hq7 : (l6 ++ if c7 m then [] else [(⟨Lq, Lib.itoa m.Br⟩ : Pr)]) = l7 at *
 obtain ⟨h8, e8, F8, x8⟩ := s8 (k := Fv) (v := m.Ah) (l := l7) (m := m) F7 (by rw [x7, x6]; exact hn5) (by omega) R.nU
 rw [show CG ([117, 110, 97, 109, 101] : List UInt8) m.Ah m h7 l7 = _ from e8, Option.bind_some]
 dsimp only
 have hh : h8 = hB m n := by
  rw [x8, x7, x6, x5, x4, x3, x2, x1]
  rfl
 have hlB : (l7 ++ if c8 m then [] else [(⟨Fv, m.Ah⟩ : Pr)]) = lB m n ts := by
  rw [← hq7, ← hq6, ← hq5, ← hq4, ← hq3, ← hq2, ← hq1]
  rfl
 rw [hlB, hh]
 exact ⟨rfl, by rw [← hh]; exact F8⟩
theorem Xu {c : Prop} [Decidable c] {x p : Pr} : p ∈ (if c then [] else [x] : List Pr) ↔ ¬ c ∧ p = x := by
 split
 ·rename_i h; simp [h]
 ·rename_i h; simp [h]
theorem WU {m : Mem} {n : Int} {ts : LM} {p : Pr} : p ∈ lB m n ts ↔ (¬ c1 m ∧ p = ⟨Ls, Lib.itoa m.CH⟩) ∨ (¬ c2 m ∧ p = ⟨FV, m.Aj⟩) ∨ (¬ c3 m ∧ p = ⟨GV, m.Az⟩) ∨ (¬ c4 m ∧ p = ⟨Jk, ts⟩) ∨ (¬ c5 m ∧ p = ⟨GW, m.Name⟩) ∨ (¬ c6 n ∧ p = ⟨I1, Lib.itoa n⟩) ∨ (¬ c7 m ∧ p = ⟨Lq, Lib.itoa m.Br⟩) ∨ (¬ c8 m ∧ p = ⟨Fv, m.Ah⟩) := by
 unfold lB
 simp only [List.mem_append, Xu, List.not_mem_nil, false_or, or_assoc]
def K8 : List LM := [Ls, FV, GV, Jk, GW, I1, Lq, Fv]
theorem Ig {c : Prop} [Decidable c] {k v : LM} : ((if c then [] else [(⟨k, v⟩ : Pr)] : List Pr).map AA.Key).Sublist [k] := by
 split
 ·exact List.nil_sublist _
 ·exact List.Sublist.refl _
theorem QK (m : Mem) (n : Int) (ts : LM) : ((lB m n ts).map AA.Key).Nodup ∧ (lB m n ts).length ≤ 8 ∧ ∀ p ∈ lB m n ts, EL p.Key = true := by
 have hs : ((lB m n ts).map AA.Key).Sublist K8 := by
  unfold lB
  simp only [List.map_append, List.map_nil, List.nil_append, List.append_assoc]
  exact Ig.append (Ig.append (Ig.append (Ig.append (Ig.append (Ig.append (Ig.append Ig))))))
 refine ⟨hs.nodup (by decide), by simpa [K8] using hs.length_le, fun p hp => ?_⟩
 have hk : ∀ k ∈ K8, EL k = true := by decide
 exact hk _ (hs.subset (List.mem_map_of_mem hp))
theorem Tg : ∀ {l : List Pr}, (l.map AA.Key).Nodup → L8 (l.map fun x => ((x.Key, x.Value) : Ik)) = true
 | [], _ => rfl
 | x :: l, h => by
  rw [List.map_cons, List.nodup_cons] at h
  rw [List.map_cons, L8, Bool.and_eq_true, List.all_eq_true]
  refine ⟨fun y hy => ?_, Tg h.2⟩
  obtain ⟨z, hz, rfl⟩ := List.mem_map.1 hy
  rw [bne_iff_ne]
  intro e
  exact h.1 (by rw [← show z.Key = x.Key from e]; exact List.mem_map_of_mem hz)
noncomputable def lW (m : Mem) (n : Int) (ts : LM) : List Pr := (FZ ((lB m n ts ++ m.Extra).map fun x => ((x.Key, x.Value) : Ik))).map fun p => (⟨p.1, p.2⟩ : AA)
theorem Ui {l : List Pr} (h : XD l) : (l.map AA.Key).Nodup := by
 rw [List.nodup_iff_pairwise_ne, List.pairwise_map]
 exact h.imp fun hab e => by rw [e] at hab; exact absurd hab (List.lt_irrefl _)
theorem Q2 {m : Mem} (R : Km m) (n : Int) (ts : LM) : ((lB m n ts ++ m.Extra).map AA.Key).Nodup := by
 obtain ⟨k1, k2, k3⟩ := QK m n ts
 rw [List.map_append, List.nodup_append]
 refine ⟨k1, Ui R.ex.1, fun a ha b hb e => ?_⟩
 obtain ⟨p, hp, rfl⟩ := List.mem_map.1 ha
 obtain ⟨q, hq, rfl⟩ := List.mem_map.1 hb
 have h1 := k3 p hp
 have h2 := (R.ex.2 q hq).1
 rw [e, h2] at h1
 cases h1
theorem Qk (m : Mem) (n : Int) (ts : LM) : (lW m n ts).Perm (lB m n ts ++ m.Extra) := by
 unfold lW
 refine ((Gm _).map _).trans ?_
 rw [List.map_map]
 rw [show ((fun p => (⟨p.1, p.2⟩ : AA)) ∘ fun x : AA => ((x.Key, x.Value) : Ik)) = id from rfl, List.map_id]
theorem Yl {m : Mem} (R : Km m) (n : Int) (ts : LM) : XD (lW m n ts) := by
 have h1 : (lW m n ts).Pairwise fun a b => a.Key ≤ b.Key := by
  unfold lW
  rw [List.pairwise_map]
  exact Mc _
 have h2 : ((lW m n ts).map AA.Key).Nodup := ((Qk m n ts).map _).nodup_iff.2 (Q2 R n ts)
 rw [List.nodup_iff_pairwise_ne, List.pairwise_map] at h2
 refine (h1.and h2).imp fun {a b} h => ?_
 rcases List.le_iff_lt_or_eq.1 h.1 with h3 | h3
 ·exact h3
 ·exact absurd h3 h.2
theorem head_eq {m : Mem} {n : Int} {ts : LM} (hr : Om m n = 0) (R : Km m) (hm : m.Name.length ≤ 1000000) (hx : m.Extra.length ≤ 1000) (hn : 0 ≤ n ∧ n < 9007199254740992) (ht : EJ m.Time = some (ts, 0)) : GR m n = some (hB m n, 0) ∧ Ex m n = some (lW m n ts, 0) := by
 obtain ⟨e, _⟩ := Tv R hm hn ht
 obtain ⟨k1, k2, k3⟩ := QK m n ts
 constructor
 ·unfold GR
  rw [R1 m n (by omega), hr, Option.bind_some, show ((0 : Int) != 0) = false from rfl, AM, e, Option.bind_some]
 ·unfold Ex
  rw [R1 m n (by omega), hr, Option.bind_some, show ((0 : Int) != 0) = false from rfl, AM, e, Option.bind_some]
  dsimp only
  rw [IB (by omega) (by omega), Af, Tg (Q2 R n ts), Af, decide_eq_true (by rw [List.length_append]; omega), Af]
  rfl
end Go.Av.L
