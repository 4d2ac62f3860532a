/-
  Dfa: what Compile lays; what Longest and Find tell of it.
-/
import Derived.Test.YtipknimgfcokeaaGreatDoorDfaE
namespace Go.Av.L
open Go.Av Go.Lib
set_option linter.unusedVariables false
set_option linter.unusedSimpArgs false
structure Vc (a : Ak) (todo : List (List Int)) (bs : List UInt8) (d : Bu) : Prop where
 n : todo.length ≤ 4096
 c : bs.length ≤ 256
 Xo : d.Al = bs.length
 YG : ∀ b : Nat, b < 256 → Nv a.l_ bs b (d.Az b)
 ends : d.BX = todo.map fun s => decide ((0 : Int) ∈ cl a.l_ false false s)
 last : d.BV = todo.map fun s => decide ((0 : Int) ∈ cl a.l_ false true s)
 next : ∀ (k j : Nat) (s : List Int) (y : UInt8), todo[k]? = some s → bs[j]? = some y → ∃ v, d.Ba[k * bs.length + j]? = some v ∧ M4 todo (TP a.l_ s y.toNat) v
 first : M4 todo (cl a.l_ true false [a.Aj]) d.Aj
 later : M4 todo (cl a.l_ false false [a.Aj]) d.BN
 empty : d.BE = decide ((0 : Int) ∈ cl a.l_ true true [a.Aj])
def Mh (a : Ak) (todo : List (List Int)) (bs : List UInt8) (i : Nat) (nx : List Int) : Prop :=
 ∀ (k j : Nat) (s : List Int) (y : UInt8), k < i → todo[k]? = some s → bs[j]? = some y → ∃ v, nx[k * bs.length + j]? = some v ∧ M4 todo (TP a.l_ s y.toNat) v
theorem Mh.up {a : Ak} {todo : List (List Int)} {bs : List UInt8} {i : Nat} {nx : List Int} (h : Mh a todo bs i nx) (hi : i ≤ todo.length) (z : List (List Int)) (w : List Int) : Mh a (todo ++ z) bs i (nx ++ w) := by
 intro k j s y hk hs hy
 rw [List.getElem?_append_left (by omega)] at hs
 obtain ⟨v, hv, hn⟩ := h k j s y hk hs hy
 exact ⟨v, by rw [List.getElem?_append_left (List.getElem?_eq_some_iff.1 hv).1]; exact hv, hn.up z⟩
theorem Rh {t : AI} {a : Ak} (h : Mp t a.l_) {n : Nat} (hn : n ≤ 4096) (d : Bu) (bs : List UInt8) (hb : bs.length ≤ 256) (x7 x14 : Int) (i : Nat) (nx : List Int) (en la : List Bool) (se : List (List UInt8 × Int)) (todo : List (List Int)) (hi : i < todo.length) (T : VC a todo se en la) (hl : todo.length ≤ n) (hx : nx.length = i * bs.length) (R : Mh a todo bs i nx) :
  W (loop (FB (n : Int) a d bs x7 x14 (i : Int)) (nx, en, la, se, todo, (0 : Int))) fun o => match o with
   | .inl (nx', en', la', se', todo') => (∃ z, todo' = todo ++ z) ∧ VC a todo' se' en' la' ∧ todo'.length ≤ n ∧ nx'.length = (i + 1) * bs.length ∧ Mh a todo' bs (i + 1) nx'
   | .inr (_, _, _, _, _, e) => e = 7 ∧ n < 2 ^ a.l_.length := by
 let P : (List Int × List Bool × List Bool × List (List UInt8 × Int) × List (List Int)) → Nat → Prop := fun s j =>
  (∃ z, s.2.2.2.2 = todo ++ z) ∧ VC a s.2.2.2.2 s.2.2.2.1 s.2.1 s.2.2.1 ∧ s.2.2.2.2.length ≤ n ∧ s.1.length = i * bs.length + j ∧ Mh a s.2.2.2.2 bs i s.1 ∧
  ∀ (q : Nat) (u : List Int) (y : UInt8), q < j → s.2.2.2.2[i]? = some u → bs[q]? = some y → ∃ v, s.1[i * bs.length + q]? = some v ∧ M4 s.2.2.2.2 (TP a.l_ u y.toNat) v
 have him : i * bs.length ≤ 4096 * 256 := Nat.mul_le_mul (by omega) hb
 refine W.list (l := bs) (fun s (j : Nat) => (s.1, s.2.1, s.2.2.1, s.2.2.2.1, s.2.2.2.2, (j : Int))) P ?_ ?_ (nx, en, la, se, todo) ⟨⟨[], by simp⟩, T, hl, hx, R, fun q u y hq => by omega⟩
 ·rintro ⟨x1, x2, x3, x4, x5⟩ ⟨p1, p2, p3, p4, p5, p6⟩
  unfold FB
  have p4 : x1.length = i * bs.length + bs.length := p4
  refine W.Di (fun h => by omega) fun _ => W.ret ⟨p1, p2, p3, ?_, ?_⟩
  ·rw [Nat.add_mul]; omega
  ·intro k j s y hk hs hy
   by_cases e : k = i
   ·subst e; exact p6 j s y (List.getElem?_eq_some_iff.1 hy).1 hs hy
   ·exact p5 k j s y (by omega) hs hy
 ·rintro ⟨x1, x2, x3, x4, x5⟩ j hj ⟨⟨z0, hz0⟩, p2, p3, p4, p5, p6⟩
  simp only at hz0 p2 p3 p4 p5 p6
  have hil : i < x5.length := by rw [hz0, List.length_append]; omega
  unfold FB
  refine W.Di (fun _ => ?_) fun h => by omega
  have hs := (p2.set i _ (List.getElem?_eq_getElem hil)).1
  rw [DM hj, Option.bind_some, DM hil, Option.bind_some, step_ok h hs (L4 _), Option.bind_some]
  refine W.bind ((NL (m := ⟨a, ⟨d.Az, d.Al, x1, x2, x3, x7, x14, d.BE⟩, (n : Int), bs, x4, x5⟩) h p2 rfl hn p3 (s := TP a.l_ x5[i] (bs[j].toNat : Int)) (Qc h) (RF _ _ _ _)).mono ?_)
  rintro ⟨v, ok, en', la', se', todo'⟩ ⟨q1, ⟨z, q2⟩, q3, q4, q5⟩
  simp only at q1 q2 q3 q4 q5 ⊢
  refine W.ite (fun hno => W.ret ⟨rfl, q5 (by simpa using hno)⟩) fun hok => ?_
  have hv := q4 (by simpa using hok)
  refine W.Cm (Em (by simp; omega) (by simp; omega)) (W.ret ⟨(x1 ++ [v], en', la', se', todo'), by simp only; rw [Ha (by omega)], ⟨z0 ++ z, by simp only; rw [q2, hz0, List.append_assoc]⟩, q1, q3, by simp; omega, ?_, ?_⟩)
  ·simp only; rw [q2]; exact p5.up (by omega) z [v]
  ·intro q u y hq hu hy
   simp only at hu ⊢
   have hu5 : x5[i]? = some u := by rw [q2, List.getElem?_append_left hil] at hu; exact hu
   by_cases e : q = j
   ·subst e
    refine ⟨v, by rw [List.getElem?_append_right (by omega), p4, Nat.sub_self]; rfl, ?_⟩
    rw [List.getElem?_eq_getElem hil] at hu5
    rw [List.getElem?_eq_getElem hj] at hy
    cases hu5; cases hy
    exact hv
   ·obtain ⟨v', a1, a2⟩ := p6 q u y (by omega) hu5 hy
    exact ⟨v', by rw [List.getElem?_append_left (List.getElem?_eq_some_iff.1 a1).1]; exact a1, by rw [q2]; exact a2.up z⟩
def Xc (n : Nat) (w : Option Ak) (r : Option Bu × Int) : Prop := match w with
 | none => r = (none, 7)
 | some a => (r = (none, 7) ∧ n < 2 ^ a.l_.length) ∨ ∃ d todo bs, r = (some d, 0) ∧ todo.length ≤ n ∧ Vc a todo bs d
theorem Qo (t : AI) (hr : CC t = some true) {n : Nat} (h1 : 1 ≤ n) (hn : n ≤ 4096) {w : Option Ak} {e : Int} (hb : Fo t 4096 = some (w, e)) :
  W (DI t n) (Xc n w) := by
 obtain ⟨r0, e0, hB⟩ := Px t hr
 rw [hb] at e0
 cases e0
 unfold DI
 refine W.ite (fun h => ?_) fun _ => ?_
 ·simp only [Bool.or_eq_true, decide_eq_true_eq] at h; omega
 rw [hb, Option.bind_some]
 cases w with
 | none =>
  simp only at hB ⊢
  subst hB
  exact W.ret rfl
 | some a =>
  simp only at hB ⊢
  obtain ⟨rfl, A⟩ := hB
  rw [HF, if_pos rfl, TH A, Option.bind_some]
  have ee : decide ((((if (0 : Int) ∈ cl a.l_ true true [a.Aj] then [0] else []) : List Int).length : Int) > (0 : Int)) = decide ((0 : Int) ∈ cl a.l_ true true [a.Aj]) := by
   split
   ·rename_i hz; simp [hz]
   ·rename_i hz; simp [hz]
  rw [ee]
  refine W.bind ((Te (m := ⟨a, ⟨Qw, 0, [], [], [], 0, 0, decide ((0 : Int) ∈ cl a.l_ true true [a.Aj])⟩, (n : Int), [], [], []⟩) A.l rfl).mono ?_)
  rintro ⟨x4, x5⟩ ⟨s1, s2, s3, s4, s5, s6⟩
  simp only at s1 s2 s3 s4 s5 s6 ⊢
  rw [NJ A, Option.bind_some]
  have T0 : VC a [] [] [] [] := ⟨fun k s h => by simp at h, fun x v h => (by cases h), rfl, rfl, fun s hs => by cases hs⟩
  refine W.bind ((NL (m := ⟨a, ⟨x4.Az, x4.Al, [], [], [], x4.Aj, x4.BN, x4.BE⟩, (n : Int), x5, [], []⟩) A.l T0 rfl hn (Nat.zero_le _) (s := cl a.l_ true false [a.Aj]) (Qc A.l) (RF _ _ _ _)).mono ?_)
  rintro ⟨x7, x8, x9, x10, x11, x12⟩ ⟨T1, ⟨z1, _⟩, l1, f1, g1⟩
  simp only at T1 l1 f1 g1 ⊢
  rw [NJ A, Option.bind_some]
  refine W.bind ((NL (m := ⟨a, ⟨x4.Az, x4.Al, [], x9, x10, x7, x4.BN, x4.BE⟩, (n : Int), x5, x11, x12⟩) A.l T1 rfl hn l1 (s := cl a.l_ false false [a.Aj]) (Qc A.l) (RF _ _ _ _)).mono ?_)
  rintro ⟨x14, x15, x16, x17, x18, x19⟩ ⟨T2, ⟨z2, e2⟩, l2, f2, g2⟩
  simp only at T2 e2 l2 f2 g2 ⊢
  refine W.ite (fun hno => W.ret (.inl ⟨rfl, ?_⟩)) fun hok => ?_
  ·cases h8 : x8 with
   | false => exact g1 h8
   | true => cases h15 : x15 with
    | false => exact g2 h15
    | true => rw [h8, h15] at hno; cases hno
  simp only [Bool.or_eq_false_iff, Bool.not_eq_false'] at hok
  have F1 : M4 x19 (cl a.l_ true false [a.Aj]) x7 := by rw [e2]; exact (f1 hok.1).up z2
  have F2 := f2 hok.2
  let I : (List Int × List Bool × List Bool × List (List UInt8 × Int) × List (List Int)) → Prop := fun s => (∃ z, s.2.2.2.2 = x19 ++ z) ∧ VC a s.2.2.2.2 s.2.2.2.1 s.2.1 s.2.2.1 ∧ s.2.2.2.2.length ≤ n
  refine W.bind (W.mono (W.loop (fun s => I (s.1, s.2.1, s.2.2.1, s.2.2.2.1, s.2.2.2.2.1) ∧ ∃ i : Nat, s.2.2.2.2.2 = (i : Int) ∧ i ≤ s.2.2.2.2.1.length ∧ s.1.length = i * x5.length ∧ Mh a s.2.2.2.2.1 x5 i s.1) (fun s => (n - s.2.2.2.2.2).toNat) ⟨⟨⟨[], by simp⟩, T2, l2⟩, 0, rfl, Nat.zero_le _, by simp, fun k j s y hk => by omega⟩ ?_ (Q := fun o => match o with
   | .inl s => I s ∧ Mh a s.2.2.2.2 x5 s.2.2.2.2.length s.1
   | .inr s => s.2.2.2.2.2 = 7 ∧ n < 2 ^ a.l_.length)) ?_)
  ·rintro ⟨y1, y2, y3, y4, y5, y6⟩ ⟨⟨⟨z, hz⟩, p2, p3⟩, i, hi, p4, p5, p6⟩
   simp only at hz p2 p3 hi p4 p5 p6
   subst hi
   unfold G7
   refine W.Di (fun hlt => ?_) fun hge => W.ret ?_
   ·refine W.bind ((Rh A.l hn x4 x5 s2 x7 x14 i y1 y2 y3 y4 y5 (by omega) p2 p3 p5 p6).mono ?_)
    rintro o ho
    cases o with
    | inl s =>
     obtain ⟨v1, v2, v3, v4, v5⟩ := s
     obtain ⟨⟨z', hz'⟩, q2, q3, q4, q5⟩ := ho
     refine W.ret ⟨⟨⟨⟨z ++ z', by simp only; rw [hz', hz, List.append_assoc]⟩, q2, q3⟩, i + 1, by simp only; exact Ha (by omega), ?_, q4, q5⟩, ?_⟩
     ·simp only; rw [hz', List.length_append]; omega
     ·simp only; rw [Ha (by omega)]; omega
    | inr s =>
     obtain ⟨v1, v2, v3, v4, v5, v6⟩ := s
     exact W.ret ho
   ·obtain rfl : i = y5.length := by omega
    exact ⟨⟨⟨z, hz⟩, p2, p3⟩, p6⟩
  ·intro o ho
   cases o with
   | inr s =>
    obtain ⟨v1, v2, v3, v4, v5, v6⟩ := s
    obtain ⟨ho, hlt⟩ := ho
    simp only at ho
    subst ho
    exact W.ret (.inl ⟨rfl, hlt⟩)
   | inl s =>
    obtain ⟨v1, v2, v3, v4, v5⟩ := s
    obtain ⟨⟨⟨z, hz⟩, q2, q3⟩, q4⟩ := ho
    simp only at hz q2 q3 q4 ⊢
    refine W.ret (.inr ⟨_, v5, x5, rfl, q3, ⟨by omega, s2, s3, s1, q2.ends, q2.last, fun k j s y hk hj => q4 k j s y (List.getElem?_eq_some_iff.1 hk).1 hk hj, by rw [hz]; exact F1.up z, by rw [hz]; exact F2.up z, s6⟩⟩)
def ID (g : List Int) (p : Int × Bool) : Int × Bool := match g.getLast? with
 | some x => (x, true)
 | none => p
theorem Qx (p : Int × Bool) : ID [] p = p := rfl
theorem OS (g h : List Int) (p : Int × Bool) : ID (g ++ h) p = ID h (ID g p) := by
 unfold ID
 rw [List.getLast?_append]
 cases h.getLast? <;> cases g.getLast? <;> rfl
theorem TZ {a : Ak} {todo : List (List Int)} {bs : List UInt8} {d : Bu} (D : Vc a todo bs d) (s : List UInt8) (hn : s.length ≤ 1073741824) : ∀ (k i : Nat) (set : List Int) (now best : Int) (sm : Bool), i + k = s.length → M4 todo set now →
  W (loop (DQ d s) (now, best, sm, (i : Int))) fun r => r = ID (MA a.l_ set (s.drop i) i) (best, sm) := by
 have at_ : ∀ {k : Nat} {set : List Int} (f : List Int → Bool), todo[k]? = some set → Ff (todo.map f) (k : Int) = some (f set) := by
  intro k set f hk
  refine M8 ?_
  rw [List.getElem?_map, hk]; rfl
 intro k
 induction k with
 | zero =>
  intro i set now best sm hi hv
  obtain rfl : i = s.length := by omega
  refine W.Vl ?_
  unfold DQ
  rcases hv with ⟨rfl, rfl⟩ | ⟨q, rfl, hq⟩
  ·refine W.Di (fun h => absurd h (by decide)) fun _ => W.ret ?_
   simp only [Le]; rw [Nz]; rfl
  ·refine W.Di (fun _ => ?_) fun h => by omega
   rw [SS, decide_eq_true rfl, FX, D.last, at_ _ hq, Option.bind_some, List.drop_length]
   refine W.Di (fun h0 => W.ret ?_) fun h0 => W.ret ?_
   ·simp only [Le, MA]; rw [if_pos h0]; rfl
   ·simp only [Le, MA]; rw [if_neg h0]; rfl
 | succ k ih =>
  intro i set now best sm hi hv
  have hil : i < s.length := by omega
  refine W.Vl ?_
  rw [DQ]
  rcases hv with ⟨rfl, rfl⟩ | ⟨q, rfl, hq⟩
  ·refine W.Di (fun h => absurd h (by decide)) fun _ => W.ret ?_
   simp only [Le]; rw [Nz]; rfl
  ·refine W.Di (fun _ => ?_) fun h => by omega
   have hb := L4 s[i]
   obtain ⟨j, y, ec, hj, hap⟩ := D.YG s[i].toNat (by omega)
   obtain ⟨v, hnx, hnv⟩ := D.next q j set y hq hj
   have hq1 : q < 4096 := by have := (List.getElem?_eq_some_iff.1 hq).1; have := D.n; omega
   have hj1 : j < 256 := by have := (List.getElem?_eq_some_iff.1 hj).1; have := D.c; omega
   have hm : q * bs.length ≤ 4096 * 256 := Nat.mul_le_mul (by omega) D.c
   have ex : SW 256 d.Az (s[i].toNat : Int) = some (j : Int) := by unfold SW; rw [if_pos ⟨by omega, by omega⟩, Int.toNat_natCast, ec]
   have ei : IntKind.i64.wrap ((IntKind.i64.wrap ((IntKind.i64.wrap (q : Int)) * d.Al)) + (IntKind.i64.wrap (j : Int))) = ((q * bs.length + j : Nat) : Int) := by
    rw [D.Xo, IW (x := (q : Int)) (by omega) (by omega), IW (x := (j : Int)) (by omega) (by omega), show (q : Int) * (bs.length : Int) = ((q * bs.length : Nat) : Int) from (Int.natCast_mul _ _).symm, IW (x := ((q * bs.length : Nat) : Int)) (by omega) (by omega), IW (by omega) (by omega)]
    omega
   rw [SS, decide_eq_false (by omega), C3, D.ends, at_ _ hq, Option.bind_some]
   have key : ∀ (x9 : Int) (x10 : Bool), (x9, x10) = ID (if (0 : Int) ∈ cl a.l_ false false set then [(i : Int)] else []) (best, sm) → W ((Jf s (i : Int)).bind fun x12 => (SW 256 d.Az x12).bind fun x13 => (Ff d.Ba (IntKind.i64.wrap ((IntKind.i64.wrap ((IntKind.i64.wrap (q : Int)) * d.Al)) + (IntKind.i64.wrap x13)))).bind fun x14 => some (Sum.inl (x14, x9, x10, IntKind.i64.wrap ((i : Int) + (1 : Int))) : (Int × Int × Bool × Int) ⊕ (Int × Bool))) (Le (DQ d s) fun r => r = ID (MA a.l_ set (s.drop i) i) (best, sm)) := by
    intro x9 x10 hp
    rw [NG hil, Option.bind_some, ex, Option.bind_some, ei, M8 hnx, Option.bind_some]
    refine W.ret ?_
    simp only [Le]
    rw [Ha (by omega)]
    refine (ih (i + 1) (TP a.l_ set y.toNat) v x9 x10 (by omega) hnv).mono fun r hr => ?_
    rw [hr, hp, drop_cons hil, MA, OS, TW hap]
   refine W.bind (W.Di (fun h0 => W.ret (key _ _ ?_)) fun h0 => W.ret (key _ _ ?_))
   ·rw [if_pos h0]; rfl
   ·rw [if_neg h0]; rfl
noncomputable def IK (a : Ak) (s : List UInt8) (i : Nat) : List Int := if i = 0 ∧ s = [] then (if (0 : Int) ∈ cl a.l_ true true [a.Aj] then [0] else []) else MA a.l_ (cl a.l_ (decide (i = 0)) false [a.Aj]) (s.drop i) i
theorem Rk {a : Ak} {todo : List (List Int)} {bs : List UInt8} {d : Bu} (D : Vc a todo bs d) (s : List UInt8) (hn : s.length ≤ 1073741824) (i : Nat) (hi : i ≤ s.length) : Ew d s (i : Int) = some (ID (IK a s i) (0, false)) := by
 refine W.eq ?_
 unfold Ew IK
 refine W.ite (fun hb => ?_) fun _ => ?_
 ·simp only [Bool.or_eq_true, decide_eq_true_eq] at hb; omega
 rw [show ((i : Int) == 0) = decide (i = 0) from SS i 0, show (s == ([] : List UInt8)) = decide (s = []) from by cases s <;> simp]
 refine W.Di (fun h0 => ?_) fun h0 => ?_
 ·subst h0
  obtain rfl : i = 0 := by simpa using hi
  rw [if_pos ⟨rfl, rfl⟩, D.empty]
  refine W.ret ?_
  split
  ·rename_i hz; rw [decide_eq_true hz]; rfl
  ·rename_i hz; rw [decide_eq_false hz]; rfl
 ·rw [if_neg (fun e => h0 e.2)]
  refine W.bind (W.mono (Q := fun v => M4 todo (cl a.l_ (decide (i = 0)) false [a.Aj]) v) (W.Di (fun e => W.ret ?_) fun e => W.ret ?_) fun v hv => ?_)
  ·rw [decide_eq_true e]; exact D.first
  ·rw [decide_eq_false e]; exact D.later
  ·refine W.bind ((TZ D s hn (s.length - i) i _ v 0 false (by omega) hv).mono ?_)
   rintro ⟨x6, x7⟩ hr
   exact W.ret hr
theorem P3 {g : List Int} (h : g ≠ []) (p : Int × Bool) : ID g p = (g.getLast h, true) := by
 unfold ID
 rw [List.getLast?_eq_some_getLast h]
theorem Pa {a : Ak} {todo : List (List Int)} {bs : List UInt8} {d : Bu} (D : Vc a todo bs d) (s : List UInt8) (hn : s.length ≤ 1073741824) (from_ : Int) :
  W (D5 d s from_) fun r => (r = (0, 0, false) ∧ ∀ k : Nat, mx from_ 0 ≤ k → k ≤ s.length → IK a s k = []) ∨
   (∃ (k : Nat) (h : IK a s k ≠ []), r = ((k : Int), (IK a s k).getLast h, true) ∧ mx from_ 0 ≤ k ∧ k ≤ s.length ∧ ∀ q : Nat, mx from_ 0 ≤ q → q < k → IK a s q = []) := by
 have h0 : 0 ≤ mx from_ 0 := by unfold mx; split <;> omega
 unfold D5
 refine W.bind (W.mono (W.loop (fun x => ∃ k : Nat, x = (k : Int) ∧ mx from_ 0 ≤ k ∧ ∀ q : Nat, mx from_ 0 ≤ q → q < k → IK a s q = []) (fun x => ((s.length : Int) + 1 - x).toNat) ⟨(mx from_ 0).toNat, by omega, by omega, fun q h1 h2 => by omega⟩ ?_ (Q := fun o => match o with
  | .inl _ => ∀ k : Nat, mx from_ 0 ≤ k → k ≤ s.length → IK a s k = []
  | .inr r => ∃ (k : Nat) (h : IK a s k ≠ []), r = ((k : Int), (IK a s k).getLast h, true) ∧ mx from_ 0 ≤ k ∧ k ≤ s.length ∧ ∀ q : Nat, mx from_ 0 ≤ q → q < k → IK a s q = [])) fun o ho => ?_)
 ·rintro _ ⟨k, rfl, h1, h2⟩
  unfold Gr
  refine W.Di (fun hle => ?_) fun hgt => W.ret fun q h3 h4 => h2 q h3 (by omega)
  have hk : k ≤ s.length := by omega
  rw [Rk D s hn k hk, Option.bind_some]
  by_cases he : IK a s k = []
  ·rw [he, Qx]
   refine W.ret ⟨⟨k + 1, Ha (by omega), by omega, fun q h3 h4 => ?_⟩, by rw [Ha (by omega)]; omega⟩
   by_cases e : q = k
   ·subst e; exact he
   ·exact h2 q h3 (by omega)
  ·rw [P3 he]
   exact W.ret ⟨k, he, rfl, h1, hk, h2⟩
 ·cases o with
  | inl _ => exact W.ret (.inl ⟨rfl, ho⟩)
  | inr r =>
   obtain ⟨x2, x3, x4⟩ := r
   exact W.ret (.inr ho)
end Go.Av.L
