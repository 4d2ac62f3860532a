/-
  OCCUR: what the document's functions do with counts.
-/
import Derived.Test.YtimjggadeingjaaLref30
import Derived.Test.YtimjggadeingjaaLref16
import Derived.Test.YtimjggadeingjaaOccurMiss
namespace Go.Abs.L
open Go.Abs
set_option linter.unusedVariables false
set_option linter.unusedSimpArgs false
theorem szInt : szOf cfg.P 3 = some 1 := by kernel_rfl

/-- one more of a row -/
def more (l : List Int) (row : Nat) : List Int := l.set row (l.getD row 0 + 1)
theorem rtake_spec {g : Gd} {h : AHeap} {s : Sl} {l : List Int} (v : View cfg.P (· < h.size) h 1 s (arr .i64 l)) {row : Nat} (hlen : l.length ≤ 1000) (hl : ∀ c ∈ l, 0 ≤ c ∧ c ≤ 1000) (hfl : g.floor ≤ h.size) (hpr : g.prot = []) :
    W (M_boulterref30_Take g h s row) fun r => Grow g h r.2 3 1 r.1 (arr .i64 (more l row)) := by
  have hn := v.nums
  unfold M_boulterref30_Take
  simp only [Option.bind_some]
  refine W.bind (W.mono (Q := fun r => Grow g h r.2 3 1 r.1 (arr .i64 (more l row))) ?_ (fun r hr => W.ret hr))
  refine W.loop (fun s => ∃ k : Nat, s.2.1 = k ∧ k ≤ l.length ∧ Grow g h s.2.2 3 1 s.1 (arr .i64 ((more l row).take k)) ∧ s.1.n = k) (fun s => l.length - s.2.1.toNat) ⟨0, rfl, by omega, Grow.mk_ (Only.refl _ _) rfl rfl hfl hpr, rfl⟩ ?_
  rintro ⟨x4, i, h2⟩ ⟨k, ei, hk, w, hx⟩
  dsimp only at ei w hx
  subst ei
  unfold M_boulterref30_Take_L0
  dsimp only
  refine W.iteP (fun hlt => ?_) (fun hge => ?_)
  · have hlt : k < l.length := by omega
    obtain ⟨a, ea, la⟩ := (v.onl w.only).num (List.getElem?_eq_getElem hlt)
    have hc := hl _ (List.getElem_mem hlt)
    have em : (more l row)[k]? = some (if (k : Int) = row then l[k] + 1 else l[k]) := by
      unfold more
      rw [List.getElem?_set]
      by_cases e : row = k
      · subst e
        simp [hlt, List.getD_eq_getElem?_getD, List.getElem?_eq_getElem hlt]
      · have : ¬ (k : Int) = row := by omega
        simp [e, this, List.getElem?_eq_getElem hlt]
    rw [ea]
    simp only [Option.bind_some, la]
    have e1 : (iteB ((k : Int) == (row : Int)) (some (IntKind.i64.wrap (l[k] + 1))) (some l[k])) = some (if (k : Int) = row then l[k] + 1 else l[k]) := by
      rw [w64 (by omega) (by omega), iteB_beq]
      split <;> rfl
    rw [e1, ek64 (by omega)]
    simp only [Option.bind_some]
    refine W.bind (W.mono (w.app1 (e' := 3) (new := [.int .i64 (if (k : Int) = row then l[k] + 1 else l[k])]) rfl rfl (by omega) (by omega) hfl hpr) ?_)
    rintro ⟨s', h'⟩ ⟨w', n'⟩
    dsimp only at w' n'
    refine W.ret ⟨⟨k + 1, rfl, by omega, ?_, by dsimp only; omega⟩, by dsimp only; omega⟩
    rw [take_snoc em, arr_app]
    exact w'
  · have : k = l.length := by omega
    subst this
    have e : (more l row).take l.length = more l row := List.take_of_length_le (by simp [more])
    rw [e] at w
    exact W.ret w

theorem rmiss_spec {g : Gd} {h : AHeap} {s : Sl} {l : List Int} {n : Int} (v : View cfg.P (· < h.size) h 1 s (arr .i64 l)) (hlen : l.length ≤ 1000) (hl : ∀ c ∈ l, 0 ≤ c ∧ c ≤ 1000) (hfl : g.floor ≤ h.size) (hpr : g.prot = []) :
    W (M_boulterref30_Missing g h s n) fun r => Grow g h r.2 3 1 r.1 (arr .i64 (missing l (max n 1) l.length)) := by
  have hn := v.nums
  unfold M_boulterref30_Missing
  simp only [Option.bind_some]
  refine W.bind (W.mono (Q := fun r => Grow g h r.2 3 1 r.1 (arr .i64 (missing l (max n 1) l.length))) ?_ (fun r hr => W.ret hr))
  refine W.loop (fun s => ∃ k : Nat, s.2.1 = k ∧ k ≤ l.length ∧ Grow g h s.2.2 3 1 s.1 (arr .i64 (missing l (max n 1) k)) ∧ s.1.n ≤ k) (fun s => l.length - s.2.1.toNat) ⟨0, rfl, by omega, Grow.mk_ (Only.refl _ _) rfl rfl hfl hpr, Nat.le_refl _⟩ ?_
  rintro ⟨x4, i, h2⟩ ⟨k, ei, hk, w, hx⟩
  dsimp only at ei w hx
  subst ei
  unfold M_boulterref30_Missing_L0
  dsimp only
  refine W.iteP (fun hlt => ?_) (fun hge => ?_)
  · have hlt : k < l.length := by omega
    obtain ⟨a, ea, la⟩ := (v.onl w.only).num (List.getElem?_eq_getElem hlt)
    have hc := hl _ (List.getElem_mem hlt)
    have hgd : l.getD k 0 = l[k] := by simp [List.getD_eq_getElem?_getD, List.getElem?_eq_getElem hlt]
    rw [ea]
    simp only [Option.bind_some, la]
    have e1 : (iteB (l[k] == 0) (some true) (some (decide (l[k] < n)))) = some (decide (l[k] < max n 1)) := by
      by_cases e : l[k] = 0
      · simp [e]; omega
      · have : (l[k] == 0) = false := by simpa using e
        simp [this]
        omega
    rw [e1, ek64 (by omega)]
    simp only [Option.bind_some]
    refine W.bind (W.iteP (fun hm => ?_) (fun hm => ?_))
    · refine W.bind (W.mono (w.app1 (e' := 3) (new := [.int .i64 (k : Int)]) rfl rfl (by omega) (by omega) hfl hpr) ?_)
      rintro ⟨s', h'⟩ ⟨w', n'⟩
      dsimp only at w' n'
      refine W.ret (W.ret ⟨⟨k + 1, rfl, by omega, ?_, by dsimp only; omega⟩, by dsimp only; omega⟩)
      rw [missing, hgd, if_pos hm, arr_app]
      exact w'
    · refine W.ret (W.ret ⟨⟨k + 1, rfl, by omega, ?_, by dsimp only; omega⟩, by dsimp only; omega⟩)
      rw [missing, hgd, if_neg hm, List.append_nil]
      exact w
  · have : k = l.length := by omega
    subst this
    exact W.ret w

theorem rsame_spec {S S' : Nat → Prop} {h : AHeap} {s s' : Sl} {l : List Int} (v : View cfg.P S h 1 s (arr .i64 l)) (v' : View cfg.P S' h 1 s' (arr .i64 l)) (hlen : l.length ≤ 4611686018427387000) : M_boulterref16_Same h s s' = some true := by
  have hn := v.nums
  have hn' := v'.nums
  unfold M_boulterref16_Same
  rw [show (((s.n : Nat) : Int) != ((s'.n : Nat) : Int)) = false from by simp; omega]
  simp only [iteB_false]
  refine W.eq (W.bind (W.mono (Q := fun o => o = .inl ()) ?_ (fun o ho => by rw [ho]; exact W.ret rfl)))
  refine W.loop (fun s => ∃ k : Nat, s = k ∧ k ≤ l.length) (fun s => l.length - s.toNat) ⟨0, rfl, by omega⟩ ?_
  rintro _ ⟨k, rfl, hk⟩
  unfold M_boulterref16_Same_L0
  refine W.iteP (fun hlt => ?_) (fun hge => ?_)
  · have hlt : k < l.length := by omega
    obtain ⟨a, ea, la⟩ := v.num (List.getElem?_eq_getElem hlt)
    obtain ⟨b, eb, lb⟩ := v'.num (List.getElem?_eq_getElem hlt)
    rw [ea, eb, ek64 (by omega)]
    simp only [Option.bind_some, la, lb, bne_self_eq_false, iteB_false]
    exact W.ret ⟨⟨k + 1, rfl, by omega⟩, by omega⟩
  · exact W.ret rfl

theorem reset_spec {g : Gd} {h : AHeap} {id : Nat} {n rows : Int} {cnt : List Int} (p : Pick h id n rows cnt) (hm : g.may id = true) (hr : 1 ≤ rows ∧ rows ≤ 257) :
    W (M_occur_Picker_Reset g h (some (id, 0))) fun r => Pick r.2 id n rows (List.replicate rows.toNat 0 ++ cnt.drop rows.toNat) ∧ Only (some id) h r.2 := by
  have hlt := h.lt_of_get p.1
  unfold M_occur_Picker_Reset
  simp only [Option.bind_some]
  rw [show zc 43 = arr .i64 zer from by kernel_rfl]
  obtain ⟨h1, e1⟩ : ∃ h1, h1 = h.push (.cells none 2 (arr .i64 zer)) := ⟨_, rfl⟩
  have g1 : h1.get h.size = some (.cells none 2 (arr .i64 zer)) := by rw [e1]; exact AHeap.get_push_new _ _
  have p1 : Pick h1 id n rows cnt := ⟨by rw [e1, AHeap.get_push_old _ _ hlt]; exact p.1, p.2⟩
  rw [← e1]
  have s1 : subA h1 (id, 0 + 2) 257 1 none none = some ⟨some (id, 0 + 2 + 0 * 1), 257 - 0⟩ := by
    unfold subA; simp only [p1.1, bnd_all]; rfl
  have s2 : subA h1 (h.size, 0) 257 1 none (some rows) = some ⟨some (h.size, 0 + 0 * 1), rows.toNat - 0⟩ := by
    unfold subA; simp only [g1]; rw [bnd_hi (by omega)]; rfl
  rw [s1]
  simp only [Option.bind_some, p1.rows_, s2]
  have hmin : min (rows.toNat - 0) (257 - 0) = rows.toNat := by omega
  have hf : firstA h1 1 rows.toNat (.slice (some (h.size, 0 + 0 * 1)) (rows.toNat - 0)) = some (arr .i64 (List.replicate rows.toNat 0)) := by
    unfold firstA
    simp only
    rw [if_neg (by omega), g1, cellsAt_of (by simp) (by simp [zer_length]; omega)]
    simp only [Nat.zero_mul, Nat.add_zero, List.drop_zero, Nat.mul_one]
    rw [← zer_take (by omega)]
    simp [arr, List.map_take]
  unfold cpy
  simp only [hmin, hf]
  rw [if_neg (by omega)]
  have hst := st_of (g := g) (o := 0 + 2 + 0 * 1) p1.1 hm (new := arr .i64 (List.replicate rows.toNat 0)) (by simp [pk, p.2]; omega) (arr_one _ _)
  unfold st at hst
  rw [hst]
  simp only [Option.map_some, Option.bind_some]
  refine W.ret ⟨⟨?_, ?_⟩, ?_⟩
  · rw [AHeap.get_set_same _ _ (h1.lt_of_get p1.1)]
    have : splice (pk n rows cnt) (0 + 2 + 0 * 1) (arr .i64 (List.replicate rows.toNat 0)) = pk n rows (List.replicate rows.toNat 0 ++ cnt.drop rows.toNat) := by
      rw [show 0 + 2 + 0 * 1 = 2 from rfl]
      unfold splice pk
      rw [arr_length, List.length_replicate, show 2 + rows.toNat = rows.toNat + 2 from by omega]
      simp [arr, List.map_drop]
    rw [this]
  · have := p.2
    simp
    omega
  · refine Only.trans (b := h1) ?_ (Only.set p1.1)
    rw [e1]; exact Only.push _ _ _
end Go.Abs.L
