/-
  OCCUR: a picker answers every sequence of calls as counts do: plain Lean, no program in sight.
-/
import Derived.Test.YtimjggadeingjaaLlaw30x1
import Derived.Test.YtimjggadeingjaaOccurRef
namespace Go.Abs.L
open Go.Abs
set_option linter.unusedVariables false
set_option linter.unusedSimpArgs false

noncomputable abbrev ROp : RT cfg.P (Int × Int × Unit) := RProd (RInt cfg.P .i64) (RProd (RInt cfg.P .i64) (RUnit cfg.P))

structure PlayInv (h : AHeap) (n : Int) (rows : Nat) (x9 : Sl) (h3 : AHeap) (k : Nat) (cnt : List Int) : Prop where
  le : k ≤ 81
  same : Same (· < h.size) h h3
  pick : Pick h3 h.size n rows cnt
  own : Own ⟨h.size, []⟩ h3 3 1 x9 (arr .i64 (cnt.take rows))
  new : ∀ id, x9.id? = some id → h.size < id
  pos : ∀ c ∈ cnt, 0 ≤ c ∧ c ≤ k

theorem PlayInv.le_size {h : AHeap} {n : Int} {rows : Nat} {x9 : Sl} {h3 : AHeap} {k : Nat} {cnt : List Int} (v : PlayInv h n rows x9 h3 k cnt) : h.size < h3.size := h3.lt_of_get v.pick.1
theorem missing_take (cnt : List Int) (m : Int) (r : Nat) : ∀ k, k ≤ r → missing (cnt.take r) m k = missing cnt m k
  | 0, _ => rfl
  | k + 1, hk => by
    rw [missing, missing, missing_take cnt m r k (by omega)]
    have : (cnt.take r).getD k 0 = cnt.getD k 0 := by
      rw [List.getD_eq_getElem?_getD, List.getElem?_take, if_pos (by omega), ← List.getD_eq_getElem?_getD]
    rw [this]

/-- the end of a round: both tell the same rows -/
theorem round_end {h : AHeap} {n : Int} {rows : Nat} {x9 : Sl} {h3 : AHeap} {k : Nat} {cnt : List Int} (v : PlayInv h n rows x9 h3 k cnt) (hr : 1 ≤ rows ∧ rows ≤ 257) {Q : ((Sl × AHeap) ⊕ (Bool × AHeap)) → Prop} (hQ : ∀ h12, PlayInv h n rows x9 h12 k cnt → Q (.inl (x9, h12))) :
    W ((M_occur_Picker_Missing (⟨h.size, []⟩ : Gd) h3 (some (h.size, 0))).bind fun (x36, h11) => (M_boulterref30_Missing (⟨h.size, []⟩ : Gd) h11 x9 n).bind fun (x37, h12) => (M_boulterref16_Same h12 x36 x37).bind fun x38 => (iteB (!x38) (some true) ((M_occur_Picker_Rows h12 (some (h.size, 0))).bind fun x40 => some (x40 != (rows : Int))) : Option (Bool)).bind fun x39 => iteB x39 (some (.inr (false, h12))) (some (.inl (x9, h12)))) Q := by
  have hls := v.le_size
  have hcl := v.pick.2
  refine W.bind (W.mono (missing_spec v.pick (by omega) (by dsimp only; omega) rfl) ?_)
  rintro ⟨x36, h11⟩ ⟨w1, n1⟩
  dsimp only at w1 n1 ⊢
  rw [Int.toNat_natCast] at w1 n1
  have o11 : Own ⟨h.size, []⟩ h11 3 1 x9 (arr .i64 (cnt.take rows)) := v.own.keep fun id hi => w1.only.get id (v.own.lt hi) (by simp)
  have htl : (cnt.take rows).length = rows := by simp; omega
  have hbd : ∀ c ∈ cnt.take rows, 0 ≤ c ∧ c ≤ 1000 := fun c hc => by
    have := v.pos c (List.mem_of_mem_take hc)
    have := v.le
    omega
  have hs1 := w1.only.size
  refine W.bind (W.mono (rmiss_spec (n := n) (o11.view szInt fun id hi => o11.lt hi) (by omega) hbd (by dsimp only; omega) rfl) ?_)
  rintro ⟨x37, h12⟩ w2
  dsimp only at w2 ⊢
  rw [htl, missing_take cnt _ rows rows (Nat.le_refl _)] at w2
  have hml := missing_length cnt (max n 1) rows
  rw [rsame_spec ((w1.keep w2.only).vw szInt) (w2.vw szInt) (by omega)]
  have p12 : Pick h12 h.size n rows cnt := ⟨w2.only.keep (w1.only.keep v.pick.1 (by simp)) (by simp), v.pick.2⟩
  have hrows : M_occur_Picker_Rows h12 (some (h.size, 0)) = some (rows : Int) := by
    unfold M_occur_Picker_Rows
    simp [p12.rows_]
  simp only [Option.bind_some, Bool.not_true, iteB_false, hrows, bne_self_eq_false]
  refine W.ret (hQ h12 ⟨v.le, ?_, p12, o11.keep fun id hi => w2.only.get id (o11.lt hi) (by simp), v.new, v.pos⟩)
  exact (v.same.trans (w1.only.same fun id hi => ⟨by omega, by simp⟩)).trans (w2.only.same fun id hi => ⟨by omega, by simp⟩)

theorem mem_more {l : List Int} {row : Nat} {k : Nat} (h : ∀ c ∈ l, 0 ≤ c ∧ c ≤ (k : Int)) : ∀ c ∈ more l row, 0 ≤ c ∧ c ≤ ((k + 1 : Nat) : Int) := by
  intro c hc
  rcases List.mem_or_eq_of_mem_set hc with h1 | h1
  · have := h c h1; omega
  · rw [h1, List.getD_eq_getElem?_getD]
    cases e : l[row]? with
    | none => simp; omega
    | some x => have := h x (List.mem_of_getElem? e); simp; omega

theorem lawOccurPlays (h : AHeap) (x0 : Int) (k0 : (RInt cfg.P .i64).ok x0) (x1 : Int) (k1 : (RInt cfg.P .i64).ok x1) (x2 : List (Int × Int × Unit)) (k2 : (RSlice ROp).ok x2) (c2 : Sl) (m2 : c2.n = x2.length)
    (u2 : ∃ cells, View cfg.P (· < h.size) h ROp.sz c2 cells ∧ reps ROp (· < h.size) h x2 cells) : M_boulterlaw30_OccurPlays h x0 x1 c2 = some true := by
  unfold M_boulterlaw30_OccurPlays
  by_cases hbad : x0 < 0 ∨ x0 > 9007199254740991 ∨ x1 < 1 ∨ x1 > 257
  · have e : (((decide (x0 < 0) || decide (x0 > 9007199254740991)) || decide (x1 < 1)) || decide (x1 > 257)) = true := by simp; omega
    rw [new_bad hbad, e]
    simp [M_boulterlaw30_awake]
  have e : (((decide (x0 < 0) || decide (x0 > 9007199254740991)) || decide (x1 < 1)) || decide (x1 > 257)) = false := by simp; omega
  obtain ⟨rows, hrows⟩ : ∃ rows : Nat, x1 = rows := ⟨x1.toNat, by omega⟩
  subst hrows
  have hr : 1 ≤ rows ∧ rows ≤ 257 := by omega
  rw [e, new_ok (by omega) (by omega)]
  simp only [Option.bind_some, iteB_false]
  rw [show (((0 : Int) != 0) || (some (h.size, 0) : Option (Nat × Nat)).isNone) = false from rfl]
  simp only [iteB_false, mkL_num (k := .i64) (b := 8) (n := rows) (c := 0) ⟨by omega, by omega⟩, Option.bind_some]
  obtain ⟨h1, eh1⟩ : ∃ h1, h1 = h.push (.cells none 2 (pk x0 rows zer)) := ⟨_, rfl⟩
  rw [← eh1]
  have z1 : h1.size = h.size + 1 := by rw [eh1]; rfl
  refine W.eq (W.bind (W.mono (Q := fun o => ∃ h14, o = .inl h14) ?_ (by rintro o ⟨h14, rfl⟩; exact W.ret rfl)))
  refine W.loop (fun s => ∃ k cnt, s.2.1 = ((k : Nat) : Int) ∧ k ≤ 80 ∧ PlayInv h x0 rows s.1 s.2.2 k cnt) (fun s => 80 - s.2.1.toNat) ⟨0, zer, rfl, by omega, by omega, ?_, ⟨?_, zer_length⟩, ⟨?_, arr_one _ _, .inr ⟨h1.size, [], rfl, ?_, may_ge (by omega)⟩⟩, ?_, ?_⟩ ?_
  · intro id hi
    dsimp only
    rw [AHeap.get_push_old _ _ (by omega), eh1, AHeap.get_push_old _ _ hi]
  · dsimp only
    rw [AHeap.get_push_old _ _ (by omega), eh1, AHeap.get_push_new]
  · rw [zer_take (by omega)]; simp
  · dsimp only
    rw [zer_take (by omega), List.append_nil, AHeap.get_push_new]
  · intro id hi
    simp [Sl.id?] at hi
    omega
  · intro c hc; have := zer_mem hc; omega
  rintro ⟨x9, i, h3⟩ ⟨k, cnt, ei, hk, v⟩
  dsimp only at ei v
  subst ei
  have hls := v.le_size
  have hcl := v.pick.2
  have htl : (cnt.take rows).length = rows := by simp; omega
  unfold M_boulterlaw30_OccurPlays_L0
  dsimp only
  refine W.ite (fun hlt => ?_) (fun hge => W.ret ⟨h3, rfl⟩)
  simp only [Bool.and_eq_true, decide_eq_true_eq] at hlt
  have hkl : k < x2.length := by omega
  obtain ⟨a, cs, ea, la, ra⟩ := slice_ldA (R := ROp) (slice_keep u2 v.same fun _ x => x) m2 (List.getElem?_eq_getElem hkl)
  obtain ⟨⟨kind, N, _⟩, eop⟩ : ∃ o, x2[k] = o := ⟨_, rfl⟩
  have hcs : cs = [.int .i64 kind, .int .i64 N] := by
    obtain ⟨c1, c2, rfl, r1, c3, c4, rfl, r2, r3⟩ := ra
    rw [eop] at r1 r2
    have r1 : c1 = [.int .i64 kind] := r1
    have r2 : c3 = [.int .i64 N] := r2
    have r3 : c4 = [] := r3
    rw [r1, r2, r3]; rfl
  subst hcs
  have ea : ixL c2 2 (k : Int) = some a := ea
  have la : ldA h3 (a.1, a.2) 2 = some [.int .i64 kind, .int .i64 N] := la
  have hst := stG_of (g := (⟨h.size, []⟩ : Gd)) (o := 0) (n := 2) (h3.get_push_new (.cells none 2 [.int .i64 (0 : Int), .int .i64 (0 : Int)])) (may_ge (by omega)) (new := [.int .i64 kind, .int .i64 N]) rfl (by simp) rfl
  rw [splice_all (by rfl)] at hst
  obtain ⟨h5, e5⟩ : ∃ h5, h5 = (h3.push (.cells none 2 [.int .i64 (0 : Int), .int .i64 (0 : Int)])).set h3.size (.cells none 2 [.int .i64 kind, .int .i64 N]) := ⟨_, rfl⟩
  rw [← e5] at hst
  have g5 : h5.get h3.size = some (.cells none 2 [.int .i64 kind, .int .i64 N]) := by rw [e5, AHeap.get_set_same _ _ (by simp)]
  have o5 : Only none h3 h5 := ⟨by rw [e5]; simp, fun id hi _ => by rw [e5, AHeap.get_set_ne _ _ (by simp) (by omega), AHeap.get_push_old _ _ hi]⟩
  have z5 : h5.size = h3.size + 1 := by rw [e5]; rfl
  have v5 : PlayInv h x0 rows x9 h5 k cnt := ⟨v.le, v.same.trans (o5.same fun id hi => ⟨by omega, by simp⟩), ⟨o5.keep v.pick.1 (by simp), v.pick.2⟩, v.own.keep fun id hi => o5.get id (v.own.lt hi) (by simp), v.new, v.pos⟩
  have up : ∀ {x h3 cnt}, PlayInv h x0 rows x h3 k cnt → PlayInv h x0 rows x h3 (k + 1) cnt := fun v => ⟨by omega, v.same, v.pick, v.own, v.new, fun c hc => by have := v.pos c hc; omega⟩
  have lN : ldI h5 (h3.size, 1) .i64 = some N := ldI_of g5 (by simp) rfl
  have lK : ldI h5 (h3.size, 0) .i64 = some kind := ldI_of g5 (by simp) rfl
  rw [ea]
  simp only [Option.bind_some, la, hst, lN, lK]
  have eis : iteB (decide (N ≥ 0)) (some (decide (N < (rows : Int)))) (some false) = some (decide (0 ≤ N ∧ N < (rows : Int))) := by
    by_cases h0 : N ≥ 0
    · simp [h0]
    · simp [h0]
  rw [eis]
  simp only [Option.bind_some]
  refine W.bind (W.mono (Q := fun o => ∃ x17 h10 cnt', PlayInv h x0 rows x17 h10 (k + 1) cnt' ∧ o = .inl (x17, h10)) ?_ ?_)
  rotate_left
  · rintro o ⟨x17, h10, cnt', v', rfl⟩
    dsimp only
    rw [ek64 (by omega)]
    exact W.ret ⟨⟨k + 1, cnt', rfl, by omega, v'⟩, by dsimp only; omega⟩
  refine W.bind (W.mono (Q := fun o => ∃ x17 h10 cnt', PlayInv h x0 rows x17 h10 (k + 1) cnt' ∧ (o = .inl (x17, h10) ∨ o = .inr (.inl (x17, h10)))) ?_ ?_)
  rotate_left
  · rintro o ⟨x17, h10, cnt', v', rfl | rfl⟩
    · exact round_end v' hr fun h12 v'' => ⟨x17, h12, cnt', v'', rfl⟩
    · exact W.ret ⟨x17, h10, cnt', v', rfl⟩
  rw [iteB_beq]
  split
  · -- Take
    by_cases his : 0 ≤ N ∧ N < (rows : Int)
    · obtain ⟨row, rfl⟩ : ∃ row : Nat, N = row := ⟨N.toNat, by omega⟩
      have hrl : row < cnt.length := by omega
      have hgd : cnt.getD row 0 = cnt[row] := by simp [List.getD_eq_getElem?_getD, List.getElem?_eq_getElem hrl]
      have hc := v.pos _ (List.getElem_mem hrl)
      have hbump : bump cnt row = more cnt row := by unfold bump more; rw [if_pos (by omega)]
      obtain ⟨h6, t1, t2, t3, t4⟩ := take_spec (g := ⟨h.size, []⟩) v5.pick (may_ge (Nat.le_refl _)) (row := row) (by omega) (by omega) (by omega)
      have own6 : Own ⟨h.size, []⟩ h6 3 1 x9 (arr .i64 (cnt.take rows)) := v5.own.keep fun id hi => t3.get id (v5.own.lt hi) (by have := v5.new id hi; simp; omega)
      have lN6 : ldI h6 (h3.size, 1) .i64 = some (row : Int) := ldI_of (t3.keep g5 (by simp; omega)) (by simp) rfl
      have hbd : ∀ c ∈ cnt.take rows, 0 ≤ c ∧ c ≤ 1000 := fun c hc => by
        have := v.pos c (List.mem_of_mem_take hc)
        omega
      rw [t1]
      simp only [his, decide_true, Bool.not_true, iteB_false, Option.bind_some, lN6]
      refine W.bind (W.mono (rtake_spec (g := ⟨h.size, []⟩) (own6.view szInt fun id hi => own6.lt hi) (row := row) (by omega) hbd (by dsimp only; omega) rfl) ?_)
      rintro ⟨x25, h7⟩ w
      dsimp only at w ⊢
      have hmt : more (cnt.take rows) row = (more cnt row).take rows := by
        unfold more
        rw [List.take_set]
        congr 2
        rw [List.getD_eq_getElem?_getD, List.getElem?_take, if_pos (by omega), ← List.getD_eq_getElem?_getD]
      rw [hmt] at w
      have hmr : ((more cnt row).take rows)[row]? = some (cnt[row] + 1) := by
        rw [List.getElem?_take, if_pos (by omega), more, List.getElem?_set, if_pos rfl, if_pos hrl, hgd]
      obtain ⟨b, eb, lb⟩ := (w.vw szInt).num hmr
      have lN7 : ldI h7 (h3.size, 1) .i64 = some (row : Int) := ldI_of (w.only.keep (t3.keep g5 (by simp; omega)) (by simp)) (by simp) rfl
      have ebd : (bump cnt row).getD row 0 = cnt[row] + 1 := by
        rw [hbump, more, List.getD_eq_getElem?_getD, List.getElem?_set, if_pos rfl, if_pos hrl, hgd]; rfl
      simp only [bne_self_eq_false, iteB_false, lN7, Option.bind_some, eb, lb, ebd]
      have e27 : (iteB (x0 == 0) (some true) (some (cnt[row] + 1 == x0))) = some (decide (x0 = 0) || decide (cnt[row] + 1 = x0)) := by
        rw [iteB_beq]
        split
        · rename_i hz; simp [hz]
        · rename_i hz; simp [hz]; rfl
      rw [e27]
      simp only [Option.bind_some, beq_self_eq_true, Bool.not_true, iteB_false]
      refine W.ret ⟨x25, h7, more cnt row, ⟨by omega, ?_, ?_, w.own, ?_, mem_more v.pos⟩, .inl rfl⟩
      · exact (v5.same.trans (t3.same fun id hi => ⟨by omega, by simp; omega⟩)).trans (w.only.same fun id hi => ⟨by omega, by simp⟩)
      · rw [← hbump]
        exact ⟨w.only.keep t2.1 (by simp), t2.2⟩
      · intro id hi
        have := w.new id hi
        omega
    · rw [take_none v5.pick his]
      simp only [his, decide_false, Bool.not_false, iteB_true, Option.bind_some, bne_self_eq_false, Bool.or_false, iteB_false]
      exact W.ret ⟨x9, h5, cnt, up v5, .inr rfl⟩
  · rw [iteB_beq]
    split
    · -- Count
      by_cases his : 0 ≤ N ∧ N < (rows : Int)
      · obtain ⟨row, rfl⟩ : ∃ row : Nat, N = row := ⟨N.toNat, by omega⟩
        have hrl : row < cnt.length := by omega
        have hgd : cnt.getD row 0 = cnt[row] := by simp [List.getD_eq_getElem?_getD, List.getElem?_eq_getElem hrl]
        have hmr : (cnt.take rows)[row]? = some (cnt[row]) := by rw [List.getElem?_take, if_pos (by omega), List.getElem?_eq_getElem hrl]
        obtain ⟨b, eb, lb⟩ := (v5.own.view szInt fun id hi => v5.own.lt hi).num hmr
        rw [count_spec v5.pick (by omega) (by omega), hgd]
        simp only [his, and_self, decide_true, iteB_true, Option.bind_some, eb, lb, bne_self_eq_false, iteB_false]
        exact W.ret ⟨x9, h5, cnt, up v5, .inl rfl⟩
      · rw [count_none v5.pick his]
        simp only [his, decide_false, iteB_false, Option.bind_some, bne_self_eq_false]
        exact W.ret ⟨x9, h5, cnt, up v5, .inl rfl⟩
    · rw [iteB_beq]
      split
      · -- Reset
        refine W.bind (W.mono (reset_spec (g := ⟨h.size, []⟩) v5.pick (may_ge (Nat.le_refl _)) (by omega)) ?_)
        rintro ⟨_, h8⟩ ⟨p8, o8⟩
        dsimp only at p8 o8 ⊢
        rw [Int.toNat_natCast] at p8
        have s8 := o8.size
        rw [mkL_num (k := .i64) (b := 8) (n := rows) (c := 0) ⟨by omega, by omega⟩]
        simp only [Option.bind_some, Int.toNat_natCast]
        have et : (List.replicate rows (0 : Int) ++ cnt.drop rows).take rows = List.replicate rows 0 := by simp
        refine W.ret ⟨_, _, List.replicate rows 0 ++ cnt.drop rows, ⟨by omega, ?_, ⟨?_, p8.2⟩, ⟨?_, arr_one _ _, .inr ⟨h8.size, [], rfl, ?_, may_ge (by omega)⟩⟩, ?_, ?_⟩, .inl rfl⟩
        · exact (v5.same.trans (o8.same fun id hi => ⟨by omega, by simp; omega⟩)).trans fun id hi => AHeap.get_push_old _ _ (by omega)
        · rw [AHeap.get_push_old _ _ (by omega)]; exact p8.1
        · rw [et]; simp
        · rw [et, List.append_nil, AHeap.get_push_new]
        · intro id hi
          simp [Sl.id?] at hi
          omega
        · intro c hc
          rcases List.mem_append.1 hc with h1 | h1
          · have := List.eq_of_mem_replicate h1; omega
          · have := v.pos c (List.mem_of_mem_drop h1); omega
      · exact W.ret ⟨x9, h5, cnt, up v5, .inl rfl⟩
end Go.Abs.L
