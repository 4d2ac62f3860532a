/-
 A part.
-/
import Derived.Test.YtlljeoogceblmaaGreatDoorBkB
import Derived.Test.YtlljeoogceblmaaGreatDoorAvTold
namespace Go.Av.L
open Go.Av Go.Lib
set_option linter.unusedVariables false
set_option linter.unusedSimpArgs false
set_option maxRecDepth 10000
abbrev Mem := AS
def L6 : LI := [103, 105, 100]
def Lg : LI := [117, 105, 100]
def I0 : LI := [115, 105, 122, 101]
def FQ : LI := [103, 110, 97, 109, 101]
def Fl : LI := [117, 110, 97, 109, 101]
def GZ : LI := [112, 97, 116, 104]
def Ga : LI := [108, 105, 110, 107, 112, 97, 116, 104]
def Jg : LI := [109, 116, 105, 109, 101]
noncomputable def R2 (s : LI) : Bool := ((DJ s).getD ([], [], false)).2.2
theorem M4 {s : LI} (hs : s.length ≤ 1000000) : (∃ p q, IN s (p, q, true)) ↔ R2 s = true := by
 obtain ⟨⟨p, q, b⟩, e, hq⟩ := Np s hs
 unfold R2
 rw [e]
 constructor
 ·rintro ⟨p', q', h⟩
  have := hq.uniq h
  cases this
  rfl
 ·intro hb
  have hb : b = true := hb
  subst hb
  exact ⟨p, q, hq⟩
abbrev c1 (m : Mem) : Prop := 0 ≤ m.B3 ∧ m.B3 < 2097152
abbrev c2 (m : Mem) : Prop := m.Al.length ≤ 32
abbrev c3 (m : Mem) : Prop := m.Ax.length ≤ 100
abbrev c4 (m : Mem) : Prop := m.Time.BQ = 0 ∧ 0 ≤ m.Time.Ci ∧ m.Time.Ci < 8589934592
abbrev c5 (m : Mem) : Prop := R2 m.Name = true
abbrev c6 (n : Int) : Prop := 0 ≤ n ∧ n < 8589934592
abbrev c7 (m : Mem) : Prop := 0 ≤ m.Bm ∧ m.Bm < 2097152
abbrev c8 (m : Mem) : Prop := m.Aj.length ≤ 32
noncomputable def hB (m : Mem) (n : Int) : AN :=
 ⟨if c5 m then m.Name else [], if c3 m then m.Ax else [], m.Kind, m.Mode, if c7 m then m.Bm else 0, if c1 m then m.B3 else 0, if c6 n then n else 0, if c4 m then m.Time.Ci else 0, if c8 m then m.Aj else [], if c2 m then m.Al else [], m.Ap, m.Ay, 2⟩
noncomputable def lB (m : Mem) (n : Int) (ts : LI) : List Pr :=
 ((((((([] ++ if c1 m then [] else [⟨L6, Lib.itoa m.B3⟩]) ++ if c2 m then [] else [⟨FQ, m.Al⟩]) ++ if c3 m then [] else [⟨Ga, m.Ax⟩]) ++ if c4 m then [] else [⟨Jg, ts⟩]) ++ if c5 m then [] else [⟨GZ, m.Name⟩]) ++ if c6 n then [] else [⟨I0, Lib.itoa n⟩]) ++ if c7 m then [] else [⟨Lg, Lib.itoa m.Bm⟩]) ++ if c8 m then [] else [⟨Fl, m.Aj⟩]
theorem JP {c : Prop} [Decidable c] {x : Pr} : (if c then [] else [x] : List Pr).length ≤ 1 := by split <;> simp
section
variable {h : AN} {k v : LI} {l : List Pr} {m : Mem}
theorem s1 (F : Hj h) (hn : h.Name.length ≤ 1000000) (hl : l.length ≤ 100) : ∃ h', Cf k v m h l = some (h', l ++ if c1 m then [] else [⟨k, v⟩]) ∧ Hj h' ∧ h' = { h with B3 := if c1 m then m.B3 else h.B3 } := by
 refine ⟨_, Ii (w := { h with B3 := m.B3 }) (c := c1 m) ⟨fun F' => F'.gi, fun hc => { F with gi := hc }⟩ hn hl, ?_, ?_⟩
 ·split
  ·rename_i hc; exact { F with gi := hc }
  ·exact F
 ·split <;> rfl
theorem s2 (F : Hj h) (hn : h.Name.length ≤ 1000000) (hl : l.length ≤ 100) (hz : De m.Al = false) : ∃ h', B5 k v m h l = some (h', l ++ if c2 m then [] else [⟨k, v⟩]) ∧ Hj h' ∧ h' = { h with Al := if c2 m then m.Al else h.Al } := by
 refine ⟨_, Ii (w := { h with Al := m.Al }) (c := c2 m) ⟨fun F' => F'.gn, fun hc => { F with gn := hc, nG := hz }⟩ hn hl, ?_, ?_⟩
 ·split
  ·rename_i hc; exact { F with gn := hc, nG := hz }
  ·exact F
 ·split <;> rfl
theorem s3 (F : Hj h) (hn : h.Name.length ≤ 1000000) (hl : l.length ≤ 100) (hz : De m.Ax = false) : ∃ h', B7 k v m h l = some (h', l ++ if c3 m then [] else [⟨k, v⟩]) ∧ Hj h' ∧ h' = { h with Ax := if c3 m then m.Ax else h.Ax } := by
 refine ⟨_, Ii (w := { h with Ax := m.Ax }) (c := c3 m) ⟨fun F' => F'.lk, fun hc => { F with lk := hc, nL := hz }⟩ hn hl, ?_, ?_⟩
 ·split
  ·rename_i hc; exact { F with lk := hc, nL := hz }
  ·exact F
 ·split <;> rfl
theorem s4 (F : Hj h) (hn : h.Name.length ≤ 1000000) (hl : l.length ≤ 100) : ∃ h', Bd k v m h l = some (h', l ++ if c4 m then [] else [⟨k, v⟩]) ∧ Hj h' ∧ h' = { h with Time := if c4 m then m.Time.Ci else h.Time } := by
 have e : Dv h m = some { h with Time := if m.Time.BQ = 0 then m.Time.Ci else -1 } := by
  unfold Dv
  rw [Vj]
  split <;> rfl
 unfold Bd
 rw [e, Option.bind_some]
 refine ⟨_, Ii (w := { h with Time := if m.Time.BQ = 0 then m.Time.Ci else -1 }) (c := c4 m) ⟨fun F' => ?_, fun hc => { F with ti := ?_ }⟩ hn hl, ?_, ?_⟩
 ·have := F'.ti
  dsimp only at this
  split at this
  ·exact ⟨by assumption, this⟩
  ·omega
 ·dsimp only
  rw [if_pos hc.1]; exact hc.2
 ·split
  ·rename_i hc
   exact { F with ti := by dsimp only; rw [if_pos hc.1]; exact hc.2 }
  ·exact F
 ·split
  ·rename_i hc
   rw [if_pos hc.1]
  ·rfl
theorem s5 (F : Hj h) (hn : h.Name.length ≤ 1000000) (hl : l.length ≤ 100) (hz : De m.Name = false) (hm : m.Name.length ≤ 1000000) : ∃ h', CA k v m h l = some (h', l ++ if c5 m then [] else [⟨k, v⟩]) ∧ Hj h' ∧ h' = { h with Name := if c5 m then m.Name else h.Name } := by
 refine ⟨_, Ii (w := { h with Name := m.Name }) (c := c5 m) ⟨fun F' => (M4 hm).1 F'.pt, fun hc => { F with pt := (M4 hm).2 hc, nN := hz }⟩ hm hl, ?_, ?_⟩
 ·split
  ·rename_i hc; exact { F with pt := (M4 hm).2 hc, nN := hz }
  ·exact F
 ·split <;> rfl
theorem s6 {n : Int} (F : Hj h) (hn : h.Name.length ≤ 1000000) (hl : l.length ≤ 100) : ∃ h', CB k v n h l = some (h', l ++ if c6 n then [] else [⟨k, v⟩]) ∧ Hj h' ∧ h' = { h with DE := if c6 n then n else h.DE } := by
 refine ⟨_, Ii (w := { h with DE := n }) (c := c6 n) ⟨fun F' => F'.si, fun hc => { F with si := hc }⟩ hn hl, ?_, ?_⟩
 ·split
  ·rename_i hc; exact { F with si := hc }
  ·exact F
 ·split <;> rfl
theorem s7 (F : Hj h) (hn : h.Name.length ≤ 1000000) (hl : l.length ≤ 100) : ∃ h', CC k v m h l = some (h', l ++ if c7 m then [] else [⟨k, v⟩]) ∧ Hj h' ∧ h' = { h with Bm := if c7 m then m.Bm else h.Bm } := by
 refine ⟨_, Ii (w := { h with Bm := m.Bm }) (c := c7 m) ⟨fun F' => F'.ui, fun hc => { F with ui := hc }⟩ hn hl, ?_, ?_⟩
 ·split
  ·rename_i hc; exact { F with ui := hc }
  ·exact F
 ·split <;> rfl
theorem s8 (F : Hj h) (hn : h.Name.length ≤ 1000000) (hl : l.length ≤ 100) (hz : De m.Aj = false) : ∃ h', B9 k v m h l = some (h', l ++ if c8 m then [] else [⟨k, v⟩]) ∧ Hj h' ∧ h' = { h with Aj := if c8 m then m.Aj else h.Aj } := by
 refine ⟨_, Ii (w := { h with Aj := m.Aj }) (c := c8 m) ⟨fun F' => F'.un, fun hc => { F with un := hc, nU := hz }⟩ hn hl, ?_, ?_⟩
 ·split
  ·rename_i hc; exact { F with un := hc, nU := hz }
  ·exact F
 ·split <;> rfl
end
theorem TU {m : Mem} {n : Int} {ts : LI} (R : J1 m) (hm : m.Name.length ≤ 1000000) (hn : 0 ≤ n ∧ n < 9007199254740992) (ht : EE m.Time = some (ts, 0)) : FJ m n = some (hB m n, lB m n ts) ∧ Hj (hB m n) := by
 have gi := R.gi
 have ui := R.ui
 have F0 : Hj (⟨[], [], m.Kind, m.Mode, 0, 0, 0, 0, [], [], m.Ap, m.Ay, 2⟩ : AN) :=
  ⟨rfl, rfl, rfl, rfl, ⟨[], [], .inl ⟨by simp, rfl⟩⟩, by simp, by simp, by simp, R.mo, by simp, by simp, by simp, by simp, R.ma, R.mi⟩
 have ll : ∀ a b : List Pr, (a ++ b).length = a.length + b.length := fun a b => List.length_append
 unfold FJ
 rw [decide_eq_true (by omega), Ad]
 obtain ⟨h1, e1, F1, x1⟩ := s1 (k := L6) (v := Lib.itoa m.B3) (l := []) (m := m) F0 (by simp) (by simp)
 rw [show Cf ([103, 105, 100] : List UInt8) (Lib.itoa m.B3) m _ ([] : List AA) = _ from e1, Option.bind_some]
 dsimp only
 have z1 : ([] ++ if c1 m then [] else [(⟨L6, Lib.itoa m.B3⟩ : Pr)]).length ≤ 1 := by rw [ll]; have := JP (c := c1 m) (x := ⟨L6, Lib.itoa m.B3⟩); simpa using this
 generalize hq1 : ([] ++ if c1 m then [] else [(⟨L6, Lib.itoa m.B3⟩ : Pr)]) = l1 at *
 obtain ⟨h2, e2, F2, x2⟩ := s2 (k := FQ) (v := m.Al) (l := l1) (m := m) F1 (by rw [x1]; simp) (by omega) R.nG
 rw [show B5 ([103, 110, 97, 109, 101] : List UInt8) m.Al m h1 l1 = _ from e2, Option.bind_some]
 dsimp only
 have z2 : (l1 ++ if c2 m then [] else [(⟨FQ, m.Al⟩ : Pr)]).length ≤ 2 := by rw [ll]; have := JP (c := c2 m) (x := ⟨FQ, m.Al⟩); omega
 generalize hq2 : (l1 ++ if c2 m then [] else [(⟨FQ, m.Al⟩ : Pr)]) = l2 at *
 obtain ⟨h3, e3, F3, x3⟩ := s3 (k := Ga) (v := m.Ax) (l := l2) (m := m) F2 (by rw [x2, x1]; simp) (by omega) R.nL
 rw [show B7 ([108, 105, 110, 107, 112, 97, 116, 104] : List UInt8) m.Ax m h2 l2 = _ from e3, Option.bind_some]
 dsimp only
 have z3 : (l2 ++ if c3 m then [] else [(⟨Ga, m.Ax⟩ : Pr)]).length ≤ 3 := by rw [ll]; have := JP (c := c3 m) (x := ⟨Ga, m.Ax⟩); omega
 generalize hq3 : (l2 ++ if c3 m then [] else [(⟨Ga, m.Ax⟩ : Pr)]) = l3 at *
 rw [ht, Option.bind_some]
 dsimp only
 obtain ⟨h4, e4, F4, x4⟩ := s4 (k := Jg) (v := ts) (l := l3) (m := m) F3 (by rw [x3, x2, x1]; simp) (by omega)
 rw [show Bd ([109, 116, 105, 109, 101] : List UInt8) ts m h3 l3 = _ from e4, Option.bind_some]
 dsimp only
 have z4 : (l3 ++ if c4 m then [] else [(⟨Jg, ts⟩ : Pr)]).length ≤ 4 := by rw [ll]; have := JP (c := c4 m) (x := ⟨Jg, ts⟩); omega
 generalize hq4 : (l3 ++ if c4 m then [] else [(⟨Jg, ts⟩ : Pr)]) = l4 at *
 obtain ⟨h5, e5, F5, x5⟩ := s5 (k := GZ) (v := m.Name) (l := l4) (m := m) F4 (by rw [x4, x3, x2, x1]; simp) (by omega) R.nN hm
 rw [show CA ([112, 97, 116, 104] : List UInt8) m.Name m h4 l4 = _ from e5, Option.bind_some]
 dsimp only
 have z5 : (l4 ++ if c5 m then [] else [(⟨GZ, m.Name⟩ : Pr)]).length ≤ 5 := by rw [ll]; have := JP (c := c5 m) (x := ⟨GZ, m.Name⟩); omega
 generalize hq5 : (l4 ++ if c5 m then [] else [(⟨GZ, m.Name⟩ : Pr)]) = l5 at *
 have hn5 : h5.Name.length ≤ 1000000 := by rw [x5]; dsimp only; split; exact hm; rw [x4, x3, x2, x1]; simp
 rw [decide_eq_true (by omega), Ad]
 obtain ⟨h6, e6, F6, x6⟩ := s6 (k := I0) (v := Lib.itoa n) (l := l5) (n := n) F5 hn5 (by omega)
 rw [show CB ([115, 105, 122, 101] : List UInt8) (Lib.itoa n) n h5 l5 = _ from e6, Option.bind_some]
 dsimp only
 have z6 : (l5 ++ if c6 n then [] else [(⟨I0, Lib.itoa n⟩ : Pr)]).length ≤ 6 := by rw [ll]; have := JP (c := c6 n) (x := ⟨I0, Lib.itoa n⟩); omega
 generalize hq6 : (l5 ++ if c6 n then [] else [(⟨I0, Lib.itoa n⟩ : Pr)]) = l6 at *
 rw [decide_eq_true (by omega), Ad]
 obtain ⟨h7, e7, F7, x7⟩ := s7 (k := Lg) (v := Lib.itoa m.Bm) (l := l6) (m := m) F6 (by rw [x6]; exact hn5) (by omega)
 rw [show CC ([117, 105, 100] : List UInt8) (Lib.itoa m.Bm) m h6 l6 = _ from e7, Option.bind_some]
 dsimp only
 have z7 : (l6 ++ if c7 m then [] else [(⟨Lg, Lib.itoa m.Bm⟩ : Pr)]).length ≤ 7 := by rw [ll]; have := JP (c := c7 m) (x := ⟨Lg, Lib.itoa m.Bm⟩); omega
 generalize hq7 : (l6 ++ if c7 m then [] else [(⟨Lg, Lib.itoa m.Bm⟩ : Pr)]) = l7 at *
 obtain ⟨h8, e8, F8, x8⟩ := s8 (k := Fl) (v := m.Aj) (l := l7) (m := m) F7 (by rw [x7, x6]; exact hn5) (by omega) R.nU
 rw [show B9 ([117, 110, 97, 109, 101] : List UInt8) m.Aj m h7 l7 = _ from e8, Option.bind_some]
 dsimp only
 have hh : h8 = hB m n := by
  rw [x8, x7, x6, x5, x4, x3, x2, x1]
  rfl
 have hlB : (l7 ++ if c8 m then [] else [(⟨Fl, m.Aj⟩ : Pr)]) = lB m n ts := by
  rw [← hq7, ← hq6, ← hq5, ← hq4, ← hq3, ← hq2, ← hq1]
  rfl
 rw [hlB, hh]
 exact ⟨rfl, by rw [← hh]; exact F8⟩
theorem XW {c : Prop} [Decidable c] {x p : Pr} : p ∈ (if c then [] else [x] : List Pr) ↔ ¬ c ∧ p = x := by
 split
 ·rename_i h; simp [h]
 ·rename_i h; simp [h]
theorem VG {m : Mem} {n : Int} {ts : LI} {p : Pr} : p ∈ lB m n ts ↔ (¬ c1 m ∧ p = ⟨L6, Lib.itoa m.B3⟩) ∨ (¬ c2 m ∧ p = ⟨FQ, m.Al⟩) ∨ (¬ c3 m ∧ p = ⟨Ga, m.Ax⟩) ∨ (¬ c4 m ∧ p = ⟨Jg, ts⟩) ∨ (¬ c5 m ∧ p = ⟨GZ, m.Name⟩) ∨ (¬ c6 n ∧ p = ⟨I0, Lib.itoa n⟩) ∨ (¬ c7 m ∧ p = ⟨Lg, Lib.itoa m.Bm⟩) ∨ (¬ c8 m ∧ p = ⟨Fl, m.Aj⟩) := by
 unfold lB
 simp only [List.mem_append, XW, List.not_mem_nil, false_or, or_assoc]
def K8 : List LI := [L6, FQ, Ga, Jg, GZ, I0, Lg, Fl]
theorem IL {c : Prop} [Decidable c] {k v : LI} : ((if c then [] else [(⟨k, v⟩ : Pr)] : List Pr).map AA.Key).Sublist [k] := by
 split
 ·exact List.nil_sublist _
 ·exact List.Sublist.refl _
theorem Qr (m : Mem) (n : Int) (ts : LI) : ((lB m n ts).map AA.Key).Nodup ∧ (lB m n ts).length ≤ 8 ∧ ∀ p ∈ lB m n ts, EP p.Key = true := by
 have hs : ((lB m n ts).map AA.Key).Sublist K8 := by
  unfold lB
  simp only [List.map_append, List.map_nil, List.nil_append, List.append_assoc]
  exact IL.append (IL.append (IL.append (IL.append (IL.append (IL.append (IL.append IL))))))
 refine ⟨hs.nodup (by decide), by simpa [K8] using hs.length_le, fun p hp => ?_⟩
 have hk : ∀ k ∈ K8, EP k = true := by decide
 exact hk _ (hs.subset (List.mem_map_of_mem hp))
theorem TO : ∀ {l : List Pr}, (l.map AA.Key).Nodup → MD (l.map fun x => ((x.Key, x.Value) : It)) = true
 | [], _ => rfl
 | x :: l, h => by
  rw [List.map_cons, List.nodup_cons] at h
  rw [List.map_cons, MD, Bool.and_eq_true, List.all_eq_true]
  refine ⟨fun y hy => ?_, TO h.2⟩
  obtain ⟨z, hz, rfl⟩ := List.mem_map.1 hy
  rw [bne_iff_ne]
  intro e
  exact h.1 (by rw [← show z.Key = x.Key from e]; exact List.mem_map_of_mem hz)
noncomputable def lW (m : Mem) (n : Int) (ts : LI) : List Pr := (FV ((lB m n ts ++ m.Extra).map fun x => ((x.Key, x.Value) : It))).map fun p => (⟨p.1, p.2⟩ : AA)
theorem Uo {l : List Pr} (h : Wx l) : (l.map AA.Key).Nodup := by
 rw [List.nodup_iff_pairwise_ne, List.pairwise_map]
 exact h.imp fun hab e => by rw [e] at hab; exact absurd hab (List.lt_irrefl _)
theorem Q2 {m : Mem} (R : J1 m) (n : Int) (ts : LI) : ((lB m n ts ++ m.Extra).map AA.Key).Nodup := by
 obtain ⟨k1, k2, k3⟩ := Qr m n ts
 rw [List.map_append, List.nodup_append]
 refine ⟨k1, Uo R.ex.1, fun a ha b hb e => ?_⟩
 obtain ⟨p, hp, rfl⟩ := List.mem_map.1 ha
 obtain ⟨q, hq, rfl⟩ := List.mem_map.1 hb
 have h1 := k3 p hp
 have h2 := (R.ex.2 q hq).1
 rw [e, h2] at h1
 cases h1
theorem QW (m : Mem) (n : Int) (ts : LI) : (lW m n ts).Perm (lB m n ts ++ m.Extra) := by
 unfold lW
 refine ((Gi _).map _).trans ?_
 rw [List.map_map]
 rw [show ((fun p => (⟨p.1, p.2⟩ : AA)) ∘ fun x : AA => ((x.Key, x.Value) : It)) = id from rfl, List.map_id]
theorem YY {m : Mem} (R : J1 m) (n : Int) (ts : LI) : Wx (lW m n ts) := by
 have h1 : (lW m n ts).Pairwise fun a b => a.Key ≤ b.Key := by
  unfold lW
  rw [List.pairwise_map]
  exact Ms _
 have h2 : ((lW m n ts).map AA.Key).Nodup := ((QW m n ts).map _).nodup_iff.2 (Q2 R n ts)
 rw [List.nodup_iff_pairwise_ne, List.pairwise_map] at h2
 refine (h1.and h2).imp fun {a b} h => ?_
 rcases List.le_iff_lt_or_eq.1 h.1 with h3 | h3
 ·exact h3
 ·exact absurd h3 h.2
theorem head_eq {m : Mem} {n : Int} {ts : LI} (hr : Ob m n = 0) (R : J1 m) (hm : m.Name.length ≤ 1000000) (hx : m.Extra.length ≤ 1000) (hn : 0 ≤ n ∧ n < 9007199254740992) (ht : EE m.Time = some (ts, 0)) : GR m n = some (hB m n, 0) ∧ E6 m n = some (lW m n ts, 0) := by
 obtain ⟨e, _⟩ := TU R hm hn ht
 obtain ⟨k1, k2, k3⟩ := Qr m n ts
 constructor
 ·unfold GR
  rw [R8 m n (by omega), hr, Option.bind_some, show ((0 : Int) != 0) = false from rfl, AL, e, Option.bind_some]
 ·unfold E6
  rw [R8 m n (by omega), hr, Option.bind_some, show ((0 : Int) != 0) = false from rfl, AL, e, Option.bind_some]
  dsimp only
  rw [H4 (by omega) (by omega), Ad, TO (Q2 R n ts), Ad, decide_eq_true (by rw [List.length_append]; omega), Ad]
  rfl
end Go.Av.L
