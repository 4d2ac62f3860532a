/-
  Dfa: what Compile lays; what Longest and Find tell of it.
-/
import Derived.Test.YtiodcbipjnmpgaaDfaE
namespace Go.Av.L
open Go.Av Go.Lib
set_option linter.unusedVariables false
set_option linter.unusedSimpArgs false
structure DOk (a : S_auto_Auto) (todo : List (List Int)) (bs : List UInt8) (d : S_dfa_Dfa) : Prop where
 n : todo.length ≤ 4096
 c : bs.length ≤ 256
 cols : d.columns_ = bs.length
 col : ∀ b : Nat, b < 256 → colV a.l_ bs b (d.column_ b)
 ends : d.ends_ = todo.map fun s => decide ((0 : Int) ∈ cl a.l_ false false s)
 last : d.last_ = todo.map fun s => decide ((0 : Int) ∈ cl a.l_ false true s)
 next : ∀ (k j : Nat) (s : List Int) (y : UInt8), todo[k]? = some s → bs[j]? = some y → ∃ v, d.next_[k * bs.length + j]? = some v ∧ numV todo (stp a.l_ s y.toNat) v
 first : numV todo (cl a.l_ true false [a.first_]) d.first_
 later : numV todo (cl a.l_ false false [a.first_]) d.later_
 empty : d.empty_ = decide ((0 : Int) ∈ cl a.l_ true true [a.first_])
def rowsV (a : S_auto_Auto) (todo : List (List Int)) (bs : List UInt8) (i : Nat) (nx : List Int) : Prop :=
 ∀ (k j : Nat) (s : List Int) (y : UInt8), k < i → todo[k]? = some s → bs[j]? = some y → ∃ v, nx[k * bs.length + j]? = some v ∧ numV todo (stp a.l_ s y.toNat) v
theorem rowsV.up {a : S_auto_Auto} {todo : List (List Int)} {bs : List UInt8} {i : Nat} {nx : List Int} (h : rowsV a todo bs i nx) (hi : i ≤ todo.length) (z : List (List Int)) (w : List Int) : rowsV a (todo ++ z) bs i (nx ++ w) := by
 intro k j s y hk hs hy
 rw [List.getElem?_append_left (by omega)] at hs
 obtain ⟨v, hv, hn⟩ := h k j s y hk hs hy
 exact ⟨v, by rw [List.getElem?_append_left (List.getElem?_eq_some_iff.1 hv).1]; exact hv, hn.up z⟩
theorem compileRow {t : S_tree_Tree} {a : S_auto_Auto} (h : LOk t a.l_) {n : Nat} (hn : n ≤ 4096) (d : S_dfa_Dfa) (bs : List UInt8) (hb : bs.length ≤ 256) (x7 x14 : Int) (i : Nat) (nx : List Int) (en la : List Bool) (se : List (List UInt8 × Int)) (todo : List (List Int)) (hi : i < todo.length) (T : TOk a todo se en la) (hl : todo.length ≤ n) (hx : nx.length = i * bs.length) (R : rowsV a todo bs i nx) :
  W (loop (M_dfa_Compile_L1 (n : Int) a d bs x7 x14 (i : Int)) (nx, en, la, se, todo, (0 : Int))) fun o => match o with
   | .inl (nx', en', la', se', todo') => (∃ z, todo' = todo ++ z) ∧ TOk a todo' se' en' la' ∧ todo'.length ≤ n ∧ nx'.length = (i + 1) * bs.length ∧ rowsV a todo' bs (i + 1) nx'
   | .inr (_, _, _, _, _, e) => e = 7 := by
 let P : (List Int × List Bool × List Bool × List (List UInt8 × Int) × List (List Int)) → Nat → Prop := fun s j =>
  (∃ z, s.2.2.2.2 = todo ++ z) ∧ TOk a s.2.2.2.2 s.2.2.2.1 s.2.1 s.2.2.1 ∧ s.2.2.2.2.length ≤ n ∧ s.1.length = i * bs.length + j ∧ rowsV a s.2.2.2.2 bs i s.1 ∧
  ∀ (q : Nat) (u : List Int) (y : UInt8), q < j → s.2.2.2.2[i]? = some u → bs[q]? = some y → ∃ v, s.1[i * bs.length + q]? = some v ∧ numV s.2.2.2.2 (stp a.l_ u y.toNat) v
 have him : i * bs.length ≤ 4096 * 256 := Nat.mul_le_mul (by omega) hb
 refine W.list (l := bs) (fun s (j : Nat) => (s.1, s.2.1, s.2.2.1, s.2.2.2.1, s.2.2.2.2, (j : Int))) P ?_ ?_ (nx, en, la, se, todo) ⟨⟨[], by simp⟩, T, hl, hx, R, fun q u y hq => by omega⟩
 ·rintro ⟨x1, x2, x3, x4, x5⟩ ⟨p1, p2, p3, p4, p5, p6⟩
  unfold M_dfa_Compile_L1
  have p4 : x1.length = i * bs.length + bs.length := p4
  refine W.iteP (fun h => by omega) fun _ => W.ret ⟨p1, p2, p3, ?_, ?_⟩
  ·rw [Nat.add_mul]; omega
  ·intro k j s y hk hs hy
   by_cases e : k = i
   ·subst e; exact p6 j s y (List.getElem?_eq_some_iff.1 hy).1 hs hy
   ·exact p5 k j s y (by omega) hs hy
 ·rintro ⟨x1, x2, x3, x4, x5⟩ j hj ⟨⟨z0, hz0⟩, p2, p3, p4, p5, p6⟩
  simp only at hz0 p2 p3 p4 p5 p6
  have hil : i < x5.length := by rw [hz0, List.length_append]; omega
  unfold M_dfa_Compile_L1
  refine W.iteP (fun _ => ?_) fun h => by omega
  have hs := (p2.set i _ (List.getElem?_eq_getElem hil)).1
  rw [ixV_get hj, Option.bind_some, ixV_get hil, Option.bind_some, step_ok h hs (byte_lt _), Option.bind_some]
  refine W.bind ((state_ok (m := ⟨a, ⟨d.column_, d.columns_, x1, x2, x3, x7, x14, d.empty_⟩, (n : Int), bs, x4, x5⟩) h p2 rfl hn p3 (s := stp a.l_ x5[i] (bs[j].toNat : Int)) (cl_ok h)).mono ?_)
  rintro ⟨v, ok, en', la', se', todo'⟩ ⟨q1, ⟨z, q2⟩, q3, q4⟩
  simp only at q1 q2 q3 q4 ⊢
  refine W.ite (fun _ => W.ret rfl) fun hok => ?_
  have hv := q4 (by simpa using hok)
  refine W.need (okN_of (by simp; omega) (by simp; omega)) (W.ret ⟨(x1 ++ [v], en', la', se', todo'), by simp only; rw [ek64 (by omega)], ⟨z0 ++ z, by simp only; rw [q2, hz0, List.append_assoc]⟩, q1, q3, by simp; omega, ?_, ?_⟩)
  ·simp only; rw [q2]; exact p5.up (by omega) z [v]
  ·intro q u y hq hu hy
   simp only at hu ⊢
   have hu5 : x5[i]? = some u := by rw [q2, List.getElem?_append_left hil] at hu; exact hu
   by_cases e : q = j
   ·subst e
    refine ⟨v, by rw [List.getElem?_append_right (by omega), p4, Nat.sub_self]; rfl, ?_⟩
    rw [List.getElem?_eq_getElem hil] at hu5
    rw [List.getElem?_eq_getElem hj] at hy
    cases hu5; cases hy
    exact hv
   ·obtain ⟨v', a1, a2⟩ := p6 q u y (by omega) hu5 hy
    exact ⟨v', by rw [List.getElem?_append_left (List.getElem?_eq_some_iff.1 a1).1]; exact a1, by rw [q2]; exact a2.up z⟩
def cmpQ (n : Nat) (w : Option S_auto_Auto) (r : Option S_dfa_Dfa × Int) : Prop := match w with
 | none => r = (none, 7)
 | some a => r = (none, 7) ∨ ∃ d todo bs, r = (some d, 0) ∧ todo.length ≤ n ∧ DOk a todo bs d
theorem compile_ok (t : S_tree_Tree) (hr : M_tree_Tree_Right t = some true) {n : Nat} (h1 : 1 ≤ n) (hn : n ≤ 4096) {w : Option S_auto_Auto} {e : Int} (hb : M_auto_Build t 4096 = some (w, e)) :
  W (M_dfa_Compile t n) (cmpQ n w) := by
 obtain ⟨r0, e0, hB⟩ := build_ok t hr
 rw [hb] at e0
 cases e0
 unfold M_dfa_Compile
 refine W.ite (fun h => ?_) fun _ => ?_
 ·simp only [Bool.or_eq_true, decide_eq_true_eq] at h; omega
 rw [hb, Option.bind_some]
 cases w with
 | none =>
  simp only at hB ⊢
  subst hB
  exact W.ret rfl
 | some a =>
  simp only at hB ⊢
  obtain ⟨rfl, A⟩ := hB
  rw [iteB_bne, if_pos rfl, ends_nil A, Option.bind_some]
  have ee : decide ((((if (0 : Int) ∈ cl a.l_ true true [a.first_] then [0] else []) : List Int).length : Int) > (0 : Int)) = decide ((0 : Int) ∈ cl a.l_ true true [a.first_]) := by
   split
   ·rename_i hz; simp [hz]
   ·rename_i hz; simp [hz]
  rw [ee]
  refine W.bind ((split_ok (m := ⟨a, ⟨big0, 0, [], [], [], 0, 0, decide ((0 : Int) ∈ cl a.l_ true true [a.first_])⟩, (n : Int), [], [], []⟩) A.l rfl).mono ?_)
  rintro ⟨x4, x5⟩ ⟨s1, s2, s3, s4, s5, s6⟩
  simp only at s1 s2 s3 s4 s5 s6 ⊢
  rw [start_ok A, Option.bind_some]
  have T0 : TOk a [] [] [] [] := ⟨fun k s h => by simp at h, fun x v h => (by cases h), rfl, rfl⟩
  refine W.bind ((state_ok (m := ⟨a, ⟨x4.column_, x4.columns_, [], [], [], x4.first_, x4.later_, x4.empty_⟩, (n : Int), x5, [], []⟩) A.l T0 rfl hn (Nat.zero_le _) (s := cl a.l_ true false [a.first_]) (cl_ok A.l)).mono ?_)
  rintro ⟨x7, x8, x9, x10, x11, x12⟩ ⟨T1, ⟨z1, _⟩, l1, f1⟩
  simp only at T1 l1 f1 ⊢
  rw [start_ok A, Option.bind_some]
  refine W.bind ((state_ok (m := ⟨a, ⟨x4.column_, x4.columns_, [], x9, x10, x7, x4.later_, x4.empty_⟩, (n : Int), x5, x11, x12⟩) A.l T1 rfl hn l1 (s := cl a.l_ false false [a.first_]) (cl_ok A.l)).mono ?_)
  rintro ⟨x14, x15, x16, x17, x18, x19⟩ ⟨T2, ⟨z2, e2⟩, l2, f2⟩
  simp only at T2 e2 l2 f2 ⊢
  refine W.ite (fun _ => W.ret (.inl rfl)) fun hok => ?_
  simp only [Bool.or_eq_false_iff, Bool.not_eq_false'] at hok
  have F1 : numV x19 (cl a.l_ true false [a.first_]) x7 := by rw [e2]; exact (f1 hok.1).up z2
  have F2 := f2 hok.2
  let I : (List Int × List Bool × List Bool × List (List UInt8 × Int) × List (List Int)) → Prop := fun s => (∃ z, s.2.2.2.2 = x19 ++ z) ∧ TOk a s.2.2.2.2 s.2.2.2.1 s.2.1 s.2.2.1 ∧ s.2.2.2.2.length ≤ n
  refine W.bind (W.mono (W.loop (fun s => I (s.1, s.2.1, s.2.2.1, s.2.2.2.1, s.2.2.2.2.1) ∧ ∃ i : Nat, s.2.2.2.2.2 = (i : Int) ∧ i ≤ s.2.2.2.2.1.length ∧ s.1.length = i * x5.length ∧ rowsV a s.2.2.2.2.1 x5 i s.1) (fun s => (n - s.2.2.2.2.2).toNat) ⟨⟨⟨[], by simp⟩, T2, l2⟩, 0, rfl, Nat.zero_le _, by simp, fun k j s y hk => by omega⟩ ?_ (Q := fun o => match o with
   | .inl s => I s ∧ rowsV a s.2.2.2.2 x5 s.2.2.2.2.length s.1
   | .inr s => s.2.2.2.2.2 = 7)) ?_)
  ·rintro ⟨y1, y2, y3, y4, y5, y6⟩ ⟨⟨⟨z, hz⟩, p2, p3⟩, i, hi, p4, p5, p6⟩
   simp only at hz p2 p3 hi p4 p5 p6
   subst hi
   unfold M_dfa_Compile_L0
   refine W.iteP (fun hlt => ?_) fun hge => W.ret ?_
   ·refine W.bind ((compileRow A.l hn x4 x5 s2 x7 x14 i y1 y2 y3 y4 y5 (by omega) p2 p3 p5 p6).mono ?_)
    rintro o ho
    cases o with
    | inl s =>
     obtain ⟨v1, v2, v3, v4, v5⟩ := s
     obtain ⟨⟨z', hz'⟩, q2, q3, q4, q5⟩ := ho
     refine W.ret ⟨⟨⟨⟨z ++ z', by simp only; rw [hz', hz, List.append_assoc]⟩, q2, q3⟩, i + 1, by simp only; exact ek64 (by omega), ?_, q4, q5⟩, ?_⟩
     ·simp only; rw [hz', List.length_append]; omega
     ·simp only; rw [ek64 (by omega)]; omega
    | inr s =>
     obtain ⟨v1, v2, v3, v4, v5, v6⟩ := s
     exact W.ret ho
   ·obtain rfl : i = y5.length := by omega
    exact ⟨⟨⟨z, hz⟩, p2, p3⟩, p6⟩
  ·intro o ho
   cases o with
   | inr s =>
    obtain ⟨v1, v2, v3, v4, v5, v6⟩ := s
    simp only at ho
    subst ho
    exact W.ret (.inl rfl)
   | inl s =>
    obtain ⟨v1, v2, v3, v4, v5⟩ := s
    obtain ⟨⟨⟨z, hz⟩, q2, q3⟩, q4⟩ := ho
    simp only at hz q2 q3 q4 ⊢
    refine W.ret (.inr ⟨_, v5, x5, rfl, q3, ⟨by omega, s2, s3, s1, q2.ends, q2.last, fun k j s y hk hj => q4 k j s y (List.getElem?_eq_some_iff.1 hk).1 hk hj, by rw [hz]; exact F1.up z, by rw [hz]; exact F2.up z, s6⟩⟩)
def lastOf (g : List Int) (p : Int × Bool) : Int × Bool := match g.getLast? with
 | some x => (x, true)
 | none => p
theorem lastOf_nil (p : Int × Bool) : lastOf [] p = p := rfl
theorem lastOf_append (g h : List Int) (p : Int × Bool) : lastOf (g ++ h) p = lastOf h (lastOf g p) := by
 unfold lastOf
 rw [List.getLast?_append]
 cases h.getLast? <;> cases g.getLast? <;> rfl
theorem longLoop {a : S_auto_Auto} {todo : List (List Int)} {bs : List UInt8} {d : S_dfa_Dfa} (D : DOk a todo bs d) (s : List UInt8) (hn : s.length ≤ 1073741824) : ∀ (k i : Nat) (set : List Int) (now best : Int) (sm : Bool), i + k = s.length → numV todo set now →
  W (loop (M_dfa_Dfa_Longest_L0 d s) (now, best, sm, (i : Int))) fun r => r = lastOf (gotF a.l_ set (s.drop i) i) (best, sm) := by
 have at_ : ∀ {k : Nat} {set : List Int} (f : List Int → Bool), todo[k]? = some set → ixV (todo.map f) (k : Int) = some (f set) := by
  intro k set f hk
  refine ixV_nat ?_
  rw [List.getElem?_map, hk]; rfl
 intro k
 induction k with
 | zero =>
  intro i set now best sm hi hv
  obtain rfl : i = s.length := by omega
  refine W.turn ?_
  unfold M_dfa_Dfa_Longest_L0
  rcases hv with ⟨rfl, rfl⟩ | ⟨q, rfl, hq⟩
  ·refine W.iteP (fun h => absurd h (by decide)) fun _ => W.ret ?_
   simp only [turnQ]; rw [gotF_nil]; rfl
  ·refine W.iteP (fun _ => ?_) fun h => by omega
   rw [beqN, decide_eq_true rfl, iteB_true, D.last, at_ _ hq, Option.bind_some, List.drop_length]
   refine W.iteP (fun h0 => W.ret ?_) fun h0 => W.ret ?_
   ·simp only [turnQ, gotF]; rw [if_pos h0]; rfl
   ·simp only [turnQ, gotF]; rw [if_neg h0]; rfl
 | succ k ih =>
  intro i set now best sm hi hv
  have hil : i < s.length := by omega
  refine W.turn ?_
  rw [M_dfa_Dfa_Longest_L0]
  rcases hv with ⟨rfl, rfl⟩ | ⟨q, rfl, hq⟩
  ·refine W.iteP (fun h => absurd h (by decide)) fun _ => W.ret ?_
   simp only [turnQ]; rw [gotF_nil]; rfl
  ·refine W.iteP (fun _ => ?_) fun h => by omega
   have hb := byte_lt s[i]
   obtain ⟨j, y, ec, hj, hap⟩ := D.col s[i].toNat (by omega)
   obtain ⟨v, hnx, hnv⟩ := D.next q j set y hq hj
   have hq1 : q < 4096 := by have := (List.getElem?_eq_some_iff.1 hq).1; have := D.n; omega
   have hj1 : j < 256 := by have := (List.getElem?_eq_some_iff.1 hj).1; have := D.c; omega
   have hm : q * bs.length ≤ 4096 * 256 := Nat.mul_le_mul (by omega) D.c
   have ex : ixB 256 d.column_ (s[i].toNat : Int) = some (j : Int) := by unfold ixB; rw [if_pos ⟨by omega, by omega⟩, Int.toNat_natCast, ec]
   have ei : IntKind.i64.wrap ((IntKind.i64.wrap ((IntKind.i64.wrap (q : Int)) * d.columns_)) + (IntKind.i64.wrap (j : Int))) = ((q * bs.length + j : Nat) : Int) := by
    rw [D.cols, w64 (x := (q : Int)) (by omega) (by omega), w64 (x := (j : Int)) (by omega) (by omega), show (q : Int) * (bs.length : Int) = ((q * bs.length : Nat) : Int) from (Int.natCast_mul _ _).symm, w64 (x := ((q * bs.length : Nat) : Int)) (by omega) (by omega), w64 (by omega) (by omega)]
    omega
   rw [beqN, decide_eq_false (by omega), iteB_false, D.ends, at_ _ hq, Option.bind_some]
   have key : ∀ (x9 : Int) (x10 : Bool), (x9, x10) = lastOf (if (0 : Int) ∈ cl a.l_ false false set then [(i : Int)] else []) (best, sm) → W ((ixS s (i : Int)).bind fun x12 => (ixB 256 d.column_ x12).bind fun x13 => (ixV d.next_ (IntKind.i64.wrap ((IntKind.i64.wrap ((IntKind.i64.wrap (q : Int)) * d.columns_)) + (IntKind.i64.wrap x13)))).bind fun x14 => some (Sum.inl (x14, x9, x10, IntKind.i64.wrap ((i : Int) + (1 : Int))) : (Int × Int × Bool × Int) ⊕ (Int × Bool))) (turnQ (M_dfa_Dfa_Longest_L0 d s) fun r => r = lastOf (gotF a.l_ set (s.drop i) i) (best, sm)) := by
    intro x9 x10 hp
    rw [ixS_get hil, Option.bind_some, ex, Option.bind_some, ei, ixV_nat hnx, Option.bind_some]
    refine W.ret ?_
    simp only [turnQ]
    rw [ek64 (by omega)]
    refine (ih (i + 1) (stp a.l_ set y.toNat) v x9 x10 (by omega) hnv).mono fun r hr => ?_
    rw [hr, hp, drop_cons hil, gotF, lastOf_append, stp_same hap]
   refine W.bind (W.iteP (fun h0 => W.ret (key _ _ ?_)) fun h0 => W.ret (key _ _ ?_))
   ·rw [if_pos h0]; rfl
   ·rw [if_neg h0]; rfl
noncomputable def endsV (a : S_auto_Auto) (s : List UInt8) (i : Nat) : List Int := if i = 0 ∧ s = [] then (if (0 : Int) ∈ cl a.l_ true true [a.first_] then [0] else []) else gotF a.l_ (cl a.l_ (decide (i = 0)) false [a.first_]) (s.drop i) i
theorem ends_all {t : S_tree_Tree} {a : S_auto_Auto} (h : AOk t a) (s : List UInt8) (hn : s.length ≤ 1073741824) (i : Nat) (hi : i ≤ s.length) : M_auto_Auto_Ends a s (i : Int) = some (endsV a s i) := by
 unfold endsV
 split
 ·rename_i h0
  obtain ⟨rfl, rfl⟩ := h0
  exact ends_nil h
 ·rename_i h0
  exact ends_ok h s hn i hi h0
theorem longest_ok {a : S_auto_Auto} {todo : List (List Int)} {bs : List UInt8} {d : S_dfa_Dfa} (D : DOk a todo bs d) (s : List UInt8) (hn : s.length ≤ 1073741824) (i : Nat) (hi : i ≤ s.length) : M_dfa_Dfa_Longest d s (i : Int) = some (lastOf (endsV a s i) (0, false)) := by
 refine W.eq ?_
 unfold M_dfa_Dfa_Longest endsV
 refine W.ite (fun hb => ?_) fun _ => ?_
 ·simp only [Bool.or_eq_true, decide_eq_true_eq] at hb; omega
 rw [show ((i : Int) == 0) = decide (i = 0) from beqN i 0, show (s == ([] : List UInt8)) = decide (s = []) from by cases s <;> simp]
 refine W.iteP (fun h0 => ?_) fun h0 => ?_
 ·subst h0
  obtain rfl : i = 0 := by simpa using hi
  rw [if_pos ⟨rfl, rfl⟩, D.empty]
  refine W.ret ?_
  split
  ·rename_i hz; rw [decide_eq_true hz]; rfl
  ·rename_i hz; rw [decide_eq_false hz]; rfl
 ·rw [if_neg (fun e => h0 e.2)]
  refine W.bind (W.mono (Q := fun v => numV todo (cl a.l_ (decide (i = 0)) false [a.first_]) v) (W.iteP (fun e => W.ret ?_) fun e => W.ret ?_) fun v hv => ?_)
  ·rw [decide_eq_true e]; exact D.first
  ·rw [decide_eq_false e]; exact D.later
  ·refine W.bind ((longLoop D s hn (s.length - i) i _ v 0 false (by omega) hv).mono ?_)
   rintro ⟨x6, x7⟩ hr
   exact W.ret hr
theorem lastOf_cons {g : List Int} (h : g ≠ []) (p : Int × Bool) : lastOf g p = (g.getLast h, true) := by
 unfold lastOf
 rw [List.getLast?_eq_some_getLast h]
theorem find_ok {a : S_auto_Auto} {todo : List (List Int)} {bs : List UInt8} {d : S_dfa_Dfa} (D : DOk a todo bs d) (s : List UInt8) (hn : s.length ≤ 1073741824) (from_ : Int) :
  W (M_dfa_Dfa_Find d s from_) fun r => (r = (0, 0, false) ∧ ∀ k : Nat, mx from_ 0 ≤ k → k ≤ s.length → endsV a s k = []) ∨
   (∃ (k : Nat) (h : endsV a s k ≠ []), r = ((k : Int), (endsV a s k).getLast h, true) ∧ mx from_ 0 ≤ k ∧ k ≤ s.length ∧ ∀ q : Nat, mx from_ 0 ≤ q → q < k → endsV a s q = []) := by
 have h0 : 0 ≤ mx from_ 0 := by unfold mx; split <;> omega
 unfold M_dfa_Dfa_Find
 refine W.bind (W.mono (W.loop (fun x => ∃ k : Nat, x = (k : Int) ∧ mx from_ 0 ≤ k ∧ ∀ q : Nat, mx from_ 0 ≤ q → q < k → endsV a s q = []) (fun x => ((s.length : Int) + 1 - x).toNat) ⟨(mx from_ 0).toNat, by omega, by omega, fun q h1 h2 => by omega⟩ ?_ (Q := fun o => match o with
  | .inl _ => ∀ k : Nat, mx from_ 0 ≤ k → k ≤ s.length → endsV a s k = []
  | .inr r => ∃ (k : Nat) (h : endsV a s k ≠ []), r = ((k : Int), (endsV a s k).getLast h, true) ∧ mx from_ 0 ≤ k ∧ k ≤ s.length ∧ ∀ q : Nat, mx from_ 0 ≤ q → q < k → endsV a s q = [])) fun o ho => ?_)
 ·rintro _ ⟨k, rfl, h1, h2⟩
  unfold M_dfa_Dfa_Find_L0
  refine W.iteP (fun hle => ?_) fun hgt => W.ret fun q h3 h4 => h2 q h3 (by omega)
  have hk : k ≤ s.length := by omega
  rw [longest_ok D s hn k hk, Option.bind_some]
  by_cases he : endsV a s k = []
  ·rw [he, lastOf_nil]
   refine W.ret ⟨⟨k + 1, ek64 (by omega), by omega, fun q h3 h4 => ?_⟩, by rw [ek64 (by omega)]; omega⟩
   by_cases e : q = k
   ·subst e; exact he
   ·exact h2 q h3 (by omega)
  ·rw [lastOf_cons he]
   exact W.ret ⟨k, he, rfl, h1, hk, h2⟩
 ·cases o with
  | inl _ => exact W.ret (.inl ⟨rfl, ho⟩)
  | inr r =>
   obtain ⟨x2, x3, x4⟩ := r
   exact W.ret (.inr ho)
end Go.Av.L
