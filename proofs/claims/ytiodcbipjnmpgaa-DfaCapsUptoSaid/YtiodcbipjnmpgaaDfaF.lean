/-
  Dfa: what Compile lays; what Longest and Find tell of it.
-/
import Derived.Test.YtiodcbipjnmpgaaDfaE
namespace Go.Av.L
open Go.Av Go.Lib
set_option linter.unusedVariables false
set_option linter.unusedSimpArgs false
structure DOk (a : S_auto_Auto) (todo : List (List Int)) (bs : List UInt8) (d : S_dfa_Dfa) : Prop where
 n : todo.length ≤ 4096
 c : bs.length ≤ 256
 cols : d.columns_ = bs.length
 col : ∀ b : Nat, b < 256 → colV a.l_ bs b (d.column_ b)
 ends : d.ends_ = todo.map fun s => decide ((0 : Int) ∈ cl a.l_ false false s)
 last : d.last_ = todo.map fun s => decide ((0 : Int) ∈ cl a.l_ false true s)
 next : ∀ (k j : Nat) (s : List Int) (y : UInt8), todo[k]? = some s → bs[j]? = some y → ∃ v, d.next_[k * bs.length + j]? = some v ∧ numV todo (stp a.l_ s y.toNat) v
 first : numV todo (cl a.l_ true false [a.first_]) d.first_
 later : numV todo (cl a.l_ false false [a.first_]) d.later_
 empty : d.empty_ = decide ((0 : Int) ∈ cl a.l_ true true [a.first_])
def rowsV (a : S_auto_Auto) (todo : List (List Int)) (bs : List UInt8) (i : Nat) (nx : List Int) : Prop :=
 ∀ (k j : Nat) (s : List Int) (y : UInt8), k < i → todo[k]? = some s → bs[j]? = some y → ∃ v, nx[k * bs.length + j]? = some v ∧ numV todo (stp a.l_ s y.toNat) v
theorem rowsV.up {a : S_auto_Auto} {todo : List (List Int)} {bs : List UInt8} {i : Nat} {nx : List Int} (h : rowsV a todo bs i nx) (hi : i ≤ todo.length) (z : List (List Int)) (w : List Int) : rowsV a (todo ++ z) bs i (nx ++ w) := by
 intro k j s y hk hs hy
 rw [List.getElem?_append_left (by omega)] at hs
 obtain ⟨v, hv, hn⟩ := h k j s y hk hs hy
 exact ⟨v, by rw [List.getElem?_append_left (List.getElem?_eq_some_iff.1 hv).1]; exact hv, hn.up z⟩
theorem compileRow {t : S_tree_Tree} {a : S_auto_Auto} (h : LOk t a.l_) {n : Nat} (hn : n ≤ 4096) (d : S_dfa_Dfa) (bs : List UInt8) (hb : bs.length ≤ 256) (x7 x14 : Int) (i : Nat) (nx : List Int) (en la : List Bool) (se : List (List UInt8 × Int)) (todo : List (List Int)) (hi : i < todo.length) (T : TOk a todo se en la) (hl : todo.length ≤ n) (hx : nx.length = i * bs.length) (R : rowsV a todo bs i nx) :
  W (loop (M_dfa_Compile_L1 (n : Int) a d bs x7 x14 (i : Int)) (nx, en, la, se, todo, (0 : Int))) fun o => match o with
   | .inl (nx', en', la', se', todo') => (∃ z, todo' = todo ++ z) ∧ TOk a todo' se' en' la' ∧ todo'.length ≤ n ∧ nx'.length = (i + 1) * bs.length ∧ rowsV a todo' bs (i + 1) nx'
   | .inr (_, _, _, _, _, e) => e = 7 ∧ n < 2 ^ a.l_.length := by
 let P : (List Int × List Bool × List Bool × List (List UInt8 × Int) × List (List Int)) → Nat → Prop := fun s j =>
  (∃ z, s.2.2.2.2 = todo ++ z) ∧ TOk a s.2.2.2.2 s.2.2.2.1 s.2.1 s.2.2.1 ∧ s.2.2.2.2.length ≤ n ∧ s.1.length = i * bs.length + j ∧ rowsV a s.2.2.2.2 bs i s.1 ∧
  ∀ (q : Nat) (u : List Int) (y : UInt8), q < j → s.2.2.2.2[i]? = some u → bs[q]? = some y → ∃ v, s.1[i * bs.length + q]? = some v ∧ numV s.2.2.2.2 (stp a.l_ u y.toNat) v
 have him : i * bs.length ≤ 4096 * 256 := Nat.mul_le_mul (by omega) hb
 refine W.list (l := bs) (fun s (j : Nat) => (s.1, s.2.1, s.2.2.1, s.2.2.2.1, s.2.2.2.2, (j : Int))) P ?_ ?_ (nx, en, la, se, todo) ⟨⟨[], by simp⟩, T, hl, hx, R, fun q u y hq => by omega⟩
 ·rintro ⟨x1, x2, x3, x4, x5⟩ ⟨p1, p2, p3, p4, p5, p6⟩
  unfold M_dfa_Compile_L1
  have p4 : x1.length = i * bs.length + bs.length := p4
  refine W.iteP (fun h => by omega) fun _ => W.ret ⟨p1, p2, p3, ?_, ?_⟩
  ·rw [Nat.add_mul]; omega
  ·intro k j s y hk hs hy
   by_cases e : k = i
   ·subst e; exact p6 j s y (List.getElem?_eq_some_iff.1 hy).1 hs hy
   ·exact p5 k j s y (by omega) hs hy
 ·rintro ⟨x1, x2, x3, x4, x5⟩ j hj ⟨⟨z0, hz0⟩, p2, p3, p4, p5, p6⟩
  simp only at hz0 p2 p3 p4 p5 p6
  have hil : i < x5.length := by rw [hz0, List.length_append]; omega
  unfold M_dfa_Compile_L1
  refine W.iteP (fun _ => ?_) fun h => by omega
  have hs := (p2.set i _ (List.getElem?_eq_getElem hil)).1
  rw [ixV_get hj, Option.bind_some, ixV_get hil, Option.bind_some, step_ok h hs (byte_lt _), Option.bind_some]
  refine W.bind ((state_ok (m := ⟨a, ⟨d.column_, d.columns_, x1, x2, x3, x7, x14, d.empty_⟩, (n : Int), bs, x4, x5⟩) h p2 rfl hn p3 (s := stp a.l_ x5[i] (bs[j].toNat : Int)) (cl_ok h) (cl_shp _ _ _ _)).mono ?_)
  rintro ⟨v, ok, en', la', se', todo'⟩ ⟨q1, ⟨z, q2⟩, q3, q4, q5⟩
  simp only at q1 q2 q3 q4 q5 ⊢
  refine W.ite (fun hno => W.ret ⟨rfl, q5 (by simpa using hno)⟩) fun hok => ?_
  have hv := q4 (by simpa using hok)
  refine W.need (okN_of (by simp; omega) (by simp; omega)) (W.ret ⟨(x1 ++ [v], en', la', se', todo'), by simp only; rw [ek64 (by omega)], ⟨z0 ++ z, by simp only; rw [q2, hz0, List.append_assoc]⟩, q1, q3, by simp; omega, ?_, ?_⟩)
  ·simp only; rw [q2]; exact p5.up (by omega) z [v]
  ·intro q u y hq hu hy
   simp only at hu ⊢
   have hu5 : x5[i]? = some u := by rw [q2, List.getElem?_append_left hil] at hu; exact hu
   by_cases e : q = j
   ·subst e
    refine ⟨v, by rw [List.getElem?_append_right (by omega), p4, Nat.sub_self]; rfl, ?_⟩
    rw [List.getElem?_eq_getElem hil] at hu5
    rw [List.getElem?_eq_getElem hj] at hy
    cases hu5; cases hy
    exact hv
   ·obtain ⟨v', a1, a2⟩ := p6 q u y (by omega) hu5 hy
    exact ⟨v', by rw [List.getElem?_append_left (List.getElem?_eq_some_iff.1 a1).1]; exact a1, by rw [q2]; exact a2.up z⟩
def cmpQ (n : Nat) (w : Option S_auto_Auto) (r : Option S_dfa_Dfa × Int) : Prop := match w with
 | none => r = (none, 7)
 | some a => (r = (none, 7) ∧ n < 2 ^ a.l_.length) ∨ ∃ d todo bs, r = (some d, 0) ∧ todo.length ≤ n ∧ DOk a todo bs d
theorem compile_ok (t : S_tree_Tree) (hr : M_tree_Tree_Right t = some true) {n : Nat} (h1 : 1 ≤ n) (hn : n ≤ 4096) {w : Option S_auto_Auto} {e : Int} (hb : M_auto_Build t 4096 = some (w, e)) :
  W (M_dfa_Compile t n) (cmpQ n w) := by
 obtain ⟨r0, e0, hB⟩ := build_ok t hr
 rw [hb] at e0
 cases e0
 unfold M_dfa_Compile
 refine W.ite (fun h => ?_) fun _ => ?_
 ·simp only [Bool.or_eq_true, decide_eq_true_eq] at h; omega
 rw [hb, Option.bind_some]
 cases w with
 | none =>
  simp only at hB ⊢
  subst hB
  exact W.ret rfl
 | some a =>
  simp only at hB ⊢
  obtain ⟨rfl, A⟩ := hB
  rw [iteB_bne, if_pos rfl, ends_nil A, Option.bind_some]
  have ee : decide ((((if (0 : Int) ∈ cl a.l_ true true [a.first_] then [0] else []) : List Int).length : Int) > (0 : Int)) = decide ((0 : Int) ∈ cl a.l_ true true [a.first_]) := by
   split
   ·rename_i hz; simp [hz]
   ·rename_i hz; simp [hz]
  rw [ee]
  refine W.bind ((split_ok (m := ⟨a, ⟨big0, 0, [], [], [], 0, 0, decide ((0 : Int) ∈ cl a.l_ true true [a.first_])⟩, (n : Int), [], [], []⟩) A.l rfl).mono ?_)
  rintro ⟨x4, x5⟩ ⟨s1, s2, s3, s4, s5, s6⟩
  simp only at s1 s2 s3 s4 s5 s6 ⊢
  rw [start_ok A, Option.bind_some]
  have T0 : TOk a [] [] [] [] := ⟨fun k s h => by simp at h, fun x v h => (by cases h), rfl, rfl, fun s hs => by cases hs⟩
  refine W.bind ((state_ok (m := ⟨a, ⟨x4.column_, x4.columns_, [], [], [], x4.first_, x4.later_, x4.empty_⟩, (n : Int), x5, [], []⟩) A.l T0 rfl hn (Nat.zero_le _) (s := cl a.l_ true false [a.first_]) (cl_ok A.l) (cl_shp _ _ _ _)).mono ?_)
  rintro ⟨x7, x8, x9, x10, x11, x12⟩ ⟨T1, ⟨z1, _⟩, l1, f1, g1⟩
  simp only at T1 l1 f1 g1 ⊢
  rw [start_ok A, Option.bind_some]
  refine W.bind ((state_ok (m := ⟨a, ⟨x4.column_, x4.columns_, [], x9, x10, x7, x4.later_, x4.empty_⟩, (n : Int), x5, x11, x12⟩) A.l T1 rfl hn l1 (s := cl a.l_ false false [a.first_]) (cl_ok A.l) (cl_shp _ _ _ _)).mono ?_)
  rintro ⟨x14, x15, x16, x17, x18, x19⟩ ⟨T2, ⟨z2, e2⟩, l2, f2, g2⟩
  simp only at T2 e2 l2 f2 g2 ⊢
  refine W.ite (fun hno => W.ret (.inl ⟨rfl, ?_⟩)) fun hok => ?_
  ·cases h8 : x8 with
   | false => exact g1 h8
   | true => cases h15 : x15 with
    | false => exact g2 h15
    | true => rw [h8, h15] at hno; cases hno
  simp only [Bool.or_eq_false_iff, Bool.not_eq_false'] at hok
  have F1 : numV x19 (cl a.l_ true false [a.first_]) x7 := by rw [e2]; exact (f1 hok.1).up z2
  have F2 := f2 hok.2
  let I : (List Int × List Bool × List Bool × List (List UInt8 × Int) × List (List Int)) → Prop := fun s => (∃ z, s.2.2.2.2 = x19 ++ z) ∧ TOk a s.2.2.2.2 s.2.2.2.1 s.2.1 s.2.2.1 ∧ s.2.2.2.2.length ≤ n
  refine W.bind (W.mono (W.loop (fun s => I (s.1, s.2.1, s.2.2.1, s.2.2.2.1, s.2.2.2.2.1) ∧ ∃ i : Nat, s.2.2.2.2.2 = (i : Int) ∧ i ≤ s.2.2.2.2.1.length ∧ s.1.length = i * x5.length ∧ rowsV a s.2.2.2.2.1 x5 i s.1) (fun s => (n - s.2.2.2.2.2).toNat) ⟨⟨⟨[], by simp⟩, T2, l2⟩, 0, rfl, Nat.zero_le _, by simp, fun k j s y hk => by omega⟩ ?_ (Q := fun o => match o with
   | .inl s => I s ∧ rowsV a s.2.2.2.2 x5 s.2.2.2.2.length s.1
   | .inr s => s.2.2.2.2.2 = 7 ∧ n < 2 ^ a.l_.length)) ?_)
  ·rintro ⟨y1, y2, y3, y4, y5, y6⟩ ⟨⟨⟨z, hz⟩, p2, p3⟩, i, hi, p4, p5, p6⟩
   simp only at hz p2 p3 hi p4 p5 p6
   subst hi
   unfold M_dfa_Compile_L0
   refine W.iteP (fun hlt => ?_) fun hge => W.ret ?_
   ·refine W.bind ((compileRow A.l hn x4 x5 s2 x7 x14 i y1 y2 y3 y4 y5 (by omega) p2 p3 p5 p6).mono ?_)
    rintro o ho
    cases o with
    | inl s =>
     obtain ⟨v1, v2, v3, v4, v5⟩ := s
     obtain ⟨⟨z', hz'⟩, q2, q3, q4, q5⟩ := ho
     refine W.ret ⟨⟨⟨⟨z ++ z', by simp only; rw [hz', hz, List.append_assoc]⟩, q2, q3⟩, i + 1, by simp only; exact ek64 (by omega), ?_, q4, q5⟩, ?_⟩
     ·simp only; rw [hz', List.length_append]; omega
     ·simp only; rw [ek64 (by omega)]; omega
    | inr s =>
     obtain ⟨v1, v2, v3, v4, v5, v6⟩ := s
     exact W.ret ho
   ·obtain rfl : i = y5.length := by omega
    exact ⟨⟨⟨z, hz⟩, p2, p3⟩, p6⟩
  ·intro o ho
   cases o with
   | inr s =>
    obtain ⟨v1, v2, v3, v4, v5, v6⟩ := s
    obtain ⟨ho, hlt⟩ := ho
    simp only at ho
    subst ho
    exact W.ret (.inl ⟨rfl, hlt⟩)
   | inl s =>
    obtain ⟨v1, v2, v3, v4, v5⟩ := s
    obtain ⟨⟨⟨z, hz⟩, q2, q3⟩, q4⟩ := ho
    simp only at hz q2 q3 q4 ⊢
    refine W.ret (.inr ⟨_, v5, x5, rfl, q3, ⟨by omega, s2, s3, s1, q2.ends, q2.last, fun k j s y hk hj => q4 k j s y (List.getElem?_eq_some_iff.1 hk).1 hk hj, by rw [hz]; exact F1.up z, by rw [hz]; exact F2.up z, s6⟩⟩)
end Go.Av.L
