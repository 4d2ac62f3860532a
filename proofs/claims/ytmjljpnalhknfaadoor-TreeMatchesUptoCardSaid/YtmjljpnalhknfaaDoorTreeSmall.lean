/-
  TREE: the document's words 'right' and 'small' tell of any tree.
-/
import Derived.Test.YtmjljpnalhknfaaDoorTreePlain
namespace Go.Abs.L
open Go.Abs
set_option linter.unusedVariables false
set_option linter.unusedSimpArgs false

theorem refRight_tot {h : AHeap} {s : Sl} {ns : List Nd} {root : Int} (v : View cfg.P (· < h.size) h 7 s (ns.flatMap refC)) (oks : ∀ n ∈ ns, OkS n) (hl : ns.length ≤ 1048576) :
    W (M_boulterref18_Right h [s.v, .int .i64 root]) fun _ => True := by
  have nl : s.n = ns.length := by have := v.1; rw [chunk_length refC_len] at this; omega
  unfold M_boulterref18_Right
  refine W.need rfl ?_
  simp only [Option.bind_some]
  obtain ⟨h1, e1⟩ : ∃ h1, h1 = h.push (.cells none 2 [s.v, .int .i64 root]) := ⟨_, rfl⟩
  rw [← e1]
  have k1 : Only none h h1 := by rw [e1]; exact Only.push _ _ _
  have g1 : h1.get h.size = some (.cells none 2 [s.v, .int .i64 root]) := by rw [e1, AHeap.get_push_new]
  have ls : ldL h1 (h.size, 0) = some s := ldL_of g1 (by simp) rfl
  have lr : ldI h1 (h.size, 1) .i64 = some root := ldI_of g1 (by simp) rfl
  simp only [ls, lr, Option.bind_some, iteB_or]
  refine W.ite (fun _ => W.ret trivial) (fun _ => ?_)
  refine W.bind (W.mono (Q := fun _ => True) ?_ ?_)
  · refine W.loop (fun st => ∃ i : Nat, st = i ∧ i ≤ ns.length) (fun st => ns.length - st.toNat) ⟨0, rfl, by omega⟩ ?_
    rintro _ ⟨i, rfl, hi⟩
    unfold M_boulterref18_Right_L0
    dsimp only
    simp only [ls, Option.bind_some]
    refine W.iteP (fun hlt => ?_) (fun hge => W.ret trivial)
    have hlt : i < ns.length := by omega
    obtain ⟨n, en⟩ : ∃ n, ns[i] = n := ⟨_, rfl⟩
    have hx : ns[i]? = some n := by rw [List.getElem?_eq_getElem hlt, en]
    have okn := oks n (List.mem_of_getElem? hx)
    obtain ⟨a, ea, _, la⟩ := (v.onl k1).fld (i := i) (by omega)
    rw [chunk_take refC_len hx] at la
    rw [ea]
    simp only [Option.bind_some, la, refMay_eq h1 n okn]
    refine W.ite (fun _ => W.ret trivial) (fun _ => ?_)
    rw [ek64 (by omega)]
    exact W.ret ⟨⟨i + 1, rfl, by omega⟩, by omega⟩
  · rintro o -
    cases o <;> exact W.ret trivial

theorem size_at {h0 h h5 : AHeap} {g : Gd} {e : TypeId} {sl : Sl} {l : List Int} (w : Grow g h0 h e 1 sl (arr .i64 l)) (k : Only none h h5) (z x : Int) :
    ∃ c, iteB (decide (x ≥ 0) && decide (x < (l.length : Int))) ((ixL sl 1 x).bind fun a => (ldI h5 (a.1, a.2) .i64).bind fun v => some (IntKind.i64.wrap (z + v))) (some z) = some c := by
  by_cases hx : x ≥ 0 ∧ x < (l.length : Int)
  · rw [decide_eq_true hx.1, decide_eq_true hx.2]
    simp only [Bool.and_self, iteB_true]
    obtain ⟨i, rfl⟩ : ∃ i : Nat, x = i := ⟨x.toNat, by omega⟩
    have hi : i < l.length := by omega
    have hn : sl.n = l.length := by have := w.own.1; simp [arr] at this; omega
    have o5 := (w.keep k).own
    rcases o5.2.2 with ⟨_, h0'⟩ | ⟨id, rest, hr, hg, hm⟩
    · omega
    · have e1 : ixL sl 1 (i : Int) = some (id, 0 + i * 1) := by unfold ixL; rw [hr]; exact ixA_nat (by omega)
      have e2 : ldI h5 (id, 0 + i * 1) .i64 = some l[i] := ldI_of hg (by simp) (by
        rw [List.getElem?_append_left (by simp [arr]; omega), Nat.zero_add, Nat.mul_one]
        simp [arr, hi])
      rw [e1]
      simp only [Option.bind_some, e2]
      exact ⟨_, rfl⟩
  · have : (decide (x ≥ 0) && decide (x < (l.length : Int))) = false := by
      rw [Bool.and_eq_false_imp]; intro h1; have := of_decide_eq_true h1; exact decide_eq_false (by omega)
    rw [this]
    exact ⟨_, rfl⟩

theorem small_tot {h : AHeap} {s : Sl} {ns : List Nd} {root : Int} (v : View cfg.P (· < h.size) h 7 s (ns.flatMap refC)) (hl : ns.length ≤ 1048576) :
    W (M_boulterref18_Small h [s.v, .int .i64 root]) fun b => b = true → ns.length ≤ 12 := by
  have nl : s.n = ns.length := by have := v.1; rw [chunk_length refC_len] at this; omega
  unfold M_boulterref18_Small
  refine W.need rfl ?_
  simp only [Option.bind_some]
  obtain ⟨h1, e1⟩ : ∃ h1, h1 = h.push (.cells none 2 [s.v, .int .i64 root]) := ⟨_, rfl⟩
  rw [← e1]
  have k1 : Only none h h1 := by rw [e1]; exact Only.push _ _ _
  have z1 : h1.size = h.size + 1 := by rw [e1]; rfl
  have g1 : h1.get h.size = some (.cells none 2 [s.v, .int .i64 root]) := by rw [e1, AHeap.get_push_new]
  have ls : ldL h1 (h.size, 0) = some s := ldL_of g1 (by simp) rfl
  simp only [ls, Option.bind_some]
  refine W.iteP (fun _ => W.ret (by simp)) (fun hsm => ?_)
  have hsm : ns.length ≤ 12 := by omega
  refine W.bind (W.mono (Q := fun _ => True) ?_ ?_)
  · refine W.loop (fun st => ∃ (i : Nat) (l : List Int), st.2.2.1 = i ∧ i ≤ ns.length ∧ l.length = i ∧ Grow ⟨h.size, []⟩ h1 st.2.2.2 3 1 st.1 (arr .i64 l)) (fun st => ns.length - st.2.2.1.toNat)
      ⟨0, [], rfl, by omega, rfl, Grow.mk_ (cs := []) (n := 0) (Only.refl _ _) rfl rfl (by show h.size ≤ h1.size; omega) rfl⟩ ?_
    rintro ⟨sl, reps, _, h3⟩ ⟨i, l, rfl, hi, hll, w⟩
    dsimp only at w
    have k3 := w.only
    have ls3 : ldL h3 (h.size, 0) = some s := ldL_of (k3.keep g1 (by simp)) (by simp) rfl
    unfold M_boulterref18_Small_L0
    dsimp only
    simp only [ls3, Option.bind_some]
    refine W.iteP (fun hlt => ?_) (fun hge => W.ret trivial)
    have hlt : i < ns.length := by omega
    obtain ⟨n, en⟩ : ∃ n, ns[i] = n := ⟨_, rfl⟩
    have hx : ns[i]? = some n := by rw [List.getElem?_eq_getElem hlt, en]
    obtain ⟨a, ea, _, la⟩ := (v.onl (k1.trans k3)).fld (i := i) (by omega)
    rw [chunk_take refC_len hx] at la
    have hsz := k3.size
    obtain ⟨h5, e5, g5, k5, z5⟩ := var_st (h := h3) (g := ⟨h.size, []⟩) (z := [.int .i64 (0 : Int), .int .i64 (0 : Int), .int .i64 (0 : Int), .int .i64 (0 : Int), .int .i64 (0 : Int), .int .i64 (0 : Int), .str ([] : List UInt8)]) (cs := refC n) (n := 7) (may_ge (by omega)) rfl rfl rfl
    have l0 : ldI h5 (h3.size, 0) .i64 = some n.k := ldI_of g5 (by simp) rfl
    have l1 : ldI h5 (h3.size, 1) .i64 = some n.a := ldI_of g5 (by simp) rfl
    have l2 : ldI h5 (h3.size, 2) .i64 = some n.b := ldI_of g5 (by simp) rfl
    have l3 : ldI h5 (h3.size, 3) .i64 = some n.mi := ldI_of g5 (by simp) rfl
    have l4 : ldI h5 (h3.size, 4) .i64 = some n.ma := ldI_of g5 (by simp) rfl
    rw [ea]
    simp only [Option.bind_some, la, e5, l0, l1, l2, l3, l4]
    obtain ⟨c, ec⟩ : ∃ c, (iteB (n.k == (4 : Int)) (some (IntKind.i64.wrap (reps + (1 : Int)))) (some reps)) = some c := by cases (n.k == (4 : Int)) <;> exact ⟨_, rfl⟩
    rw [ec]
    simp only [Option.bind_some]
    refine W.ite (fun _ => W.ret trivial) (fun _ => ?_)
    simp only [iteB_or, iteB_and, Option.bind_some]
    refine W.ite (fun _ => W.ret trivial) (fun _ => ?_)
    have sa := size_at w k5
    rw [hll] at sa
    obtain ⟨c1, ec1⟩ := sa 1 n.a
    rw [ec1]
    simp only [Option.bind_some]
    obtain ⟨c2, ec2⟩ := sa c1 n.b
    rw [ec2]
    simp only [Option.bind_some]
    refine W.ite (fun _ => W.ret trivial) (fun _ => ?_)
    have hn : sl.n = l.length := by have := w.own.1; simp [arr] at this; omega
    refine W.bind (W.mono ((w.keep k5).app1 (e' := 3) (bytes := 8) (new := [.int .i64 c2]) rfl rfl (by omega) (by omega) (by show h.size ≤ h1.size; omega) rfl) ?_)
    rintro ⟨s', h7⟩ ⟨w7, n7⟩
    dsimp only at w7 ⊢
    rw [ek64 (by omega)]
    refine W.ret ⟨⟨i + 1, l ++ [c2], rfl, by omega, by simp [hll], ?_⟩, by dsimp only; omega⟩
    dsimp only
    rw [arr_app]; exact w7
  · rintro o -
    cases o with
    | inl h8 => exact W.ret fun _ => hsm
    | inr p => exact W.ret fun _ => hsm
end Go.Abs.L
