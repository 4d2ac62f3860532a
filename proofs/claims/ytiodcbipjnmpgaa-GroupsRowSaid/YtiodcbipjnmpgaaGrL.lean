/-
  GroupsRow: the law.
-/
import Derived.Test.YtiodcbipjnmpgaaGrK
import Derived.Test.YtiodcbipjnmpgaaGrP
import Derived.Test.YtiodcbipjnmpgaaAvSm
namespace Go.Av.L
open Go.Av Go.Lib
set_option linter.unusedVariables false
set_option linter.unusedSimpArgs false
def bitO (b : UInt8) : Bool := decide (b.toNat % 2 = 1)
theorem mod2 : ∀ n : Fin 256, IntKind.u8.wrap (97 + Int.tmod (n.1 : Int) 2) = if n.1 % 2 = 1 then 98 else 97 := by decide +kernel
theorem letter_ok (b : UInt8) : IntKind.u8.wrap (97 + Int.tmod (b.toNat : Int) 2) = ((letter (bitO b)).toNat : Int) := by
 have h := mod2 ⟨b.toNat, by have := b.toNat_lt; omega⟩
 simp only at h
 rw [h]
 unfold bitO
 by_cases e : b.toNat % 2 = 1
 ·rw [if_pos e, decide_eq_true e]; rfl
 ·rw [if_neg e, decide_eq_false e]; rfl
theorem letter_Y (b : UInt8) : toY (IntKind.u8.wrap (97 + Int.tmod (b.toNat : Int) 2)) = some (letter (bitO b)) := by
 rw [letter_ok]
 unfold letter
 cases bitO b <;> rfl
theorem typed_snoc (l : List Bool) (b : Bool) : typed (l ++ [b]) = typed l ++ [40, 91, letter b, 99, 93, 42, 41] := by
 unfold typed
 rw [List.flatMap_append, List.flatMap_singleton]
theorem typed_len (l : List Bool) : (typed l).length = 7 * l.length := by
 induction l with
 | nil => rfl
 | cons b l ih =>
  show ([40, 91, letter b, 99, 93, 42, 41] ++ typed l).length = _
  rw [List.length_append, ih, List.length_cons]
  simp only [List.length_cons, List.length_nil]
  omega
theorem l0_ok {p0 : List UInt8} (h : p0.length ≤ 6) : Av.loop (M_boulterlaw22_GroupsRow_L0 p0) ([], 0) = some (typed (p0.map bitO)) := by
 refine W.eq (W.loop (fun u => ∃ i : Nat, i ≤ p0.length ∧ u = (typed ((p0.take i).map bitO), (i : Int))) (fun u => (p0.length - u.2).toNat) ⟨0, by omega, rfl⟩ ?_)
 rintro _ ⟨i, hi, rfl⟩
 unfold M_boulterlaw22_GroupsRow_L0
 simp only []
 refine W.iteP (fun hlt => ?_) fun hge => W.ret ?_
 ·have hi' : i < p0.length := by omega
  have hl := typed_len ((p0.take i).map bitO)
  rw [List.length_map, List.length_take] at hl
  rw [ixS_get hi', Option.bind_some, letter_Y, Option.bind_some]
  refine W.need (decide_eq_true (by simp)) (W.need (decide_eq_true (by simp)) (W.need (decide_eq_true ?_) (W.ret ⟨⟨i + 1, by omega, ?_⟩, ?_⟩)))
  ·rw [List.length_append, hl] ; simp; omega
  ·rw [take_snoc (List.getElem?_eq_getElem hi'), List.map_append, List.map_singleton, typed_snoc, ek64 (by omega)]
   rfl
  ·simp only []
   rw [ek64 (by omega)]
   omega
 ·obtain rfl : i = p0.length := by omega
  rw [List.take_length]
def setG (p0 : List UInt8) (i : Nat) (c : UInt8) : Bool := (c == letter (bitO (p0.getD i 0))) || c == 99
theorem l2_ok {p0 p1 : List UInt8} (h1 : p1.length ≤ 30) {i : Nat} (hi : i < p0.length) {p : Nat} (hp : p ≤ p1.length) : Av.loop (M_boulterlaw22_GroupsRow_L2 p0 p1 (i : Int)) (p : Int) = some (far (setG p0 i) p1 p : Int) := by
 refine W.eq (W.loop (fun u => ∃ q : Nat, u = (q : Int) ∧ q ≤ p1.length ∧ far (setG p0 i) p1 q = far (setG p0 i) p1 p) (fun u => (p1.length - u).toNat) ⟨p, rfl, hp, rfl⟩ ?_)
 rintro _ ⟨q, rfl, hq, hf⟩
 unfold M_boulterlaw22_GroupsRow_L2
 simp only []
 by_cases hlt : q < p1.length
 ·rw [decide_eq_true (show (q : Int) < (p1.length : Int) by omega), iteB_true, ixS_get hlt, Option.bind_some, ixS_get hi, Option.bind_some, Option.bind_some, letter_ok, iteB_or, Option.bind_some, Option.bind_some]
  have e : (((p1[q].toNat : Int) == ((letter (bitO p0[i])).toNat : Int)) || ((p1[q].toNat : Int) == 99)) = setG p0 i p1[q] := by
   have e1 := byte_eq (b := p1[q]) (n := (letter (bitO p0[i])).toNat) (by have := (letter (bitO p0[i])).toNat_lt; omega)
   have e2 := byte_eq (b := p1[q]) (n := 99) (by omega)
   rw [e1, show ((99 : Int)) = ((99 : Nat) : Int) from rfl, e2, UInt8.ofNat_toNat]
   unfold setG
   rw [List.getD_eq_getElem?_getD, List.getElem?_eq_getElem hi]
   rfl
  rw [e]
  have hd := drop_cons hlt
  refine W.ite (fun hb => W.ret ⟨⟨q + 1, ek64 (by omega), by omega, ?_⟩, ?_⟩) fun hb => W.ret ?_
  ·rw [← hf]
   unfold far
   rw [hd, List.takeWhile_cons_of_pos hb, List.length_cons]
   omega
  ·rw [ek64 (by omega)]; omega
  ·rw [← hf]
   unfold far
   rw [hd, List.takeWhile_cons_of_neg (by rw [hb]; decide)]
   simp
 ·rw [decide_eq_false (show ¬ (q : Int) < (p1.length : Int) by omega), iteB_false, Option.bind_some, iteB_false]
  refine W.ret ?_
  rw [← hf]
  unfold far
  rw [List.drop_of_length_le (by omega)]
  rfl
def wants (S : Nat → UInt8 → Bool) (x : List UInt8) (m : Nat) : List S_groups_Span := (List.range m).map fun i => ⟨(plc S x i : Int), (plc S x (i + 1) : Int), true⟩
theorem l1_ok {p0 p1 : List UInt8} (h : p0.length ≤ 6) (h1 : p1.length ≤ 30) : Av.loop (M_boulterlaw22_GroupsRow_L1 p0 p1) ([], 0, 0) = some (wants (setG p0) p1 p0.length, (plc (setG p0) p1 p0.length : Int)) := by
 refine W.eq (W.loop (fun u => ∃ i : Nat, i ≤ p0.length ∧ u = (wants (setG p0) p1 i, (plc (setG p0) p1 i : Int), (i : Int))) (fun u => (p0.length - u.2.2).toNat) ⟨0, by omega, rfl⟩ ?_)
 rintro _ ⟨i, hi, rfl⟩
 unfold M_boulterlaw22_GroupsRow_L1
 simp only []
 refine W.iteP (fun hlt => ?_) fun hge => W.ret ?_
 ·have hi' : i < p0.length := by omega
  rw [l2_ok h1 hi' (plc_le i), Option.bind_some]
  refine W.need (okN_of (by simp [wants]; omega) (by simp [wants]; omega)) (W.ret ⟨⟨i + 1, by omega, ?_⟩, ?_⟩)
  ·rw [ek64 (by omega)]
   unfold wants
   rw [List.range_succ, List.map_append, List.map_singleton]
   rfl
  ·simp only []
   rw [ek64 (by omega)]
   omega
 ·obtain rfl : i = p0.length := by omega
  rfl
theorem tk_mem {S : Nat → UInt8 → Bool} {x : List UInt8} : ∀ (d i : Nat), ∀ g ∈ tk S x d i, (i : Int) + 1 ≤ g.1 ∧ g.1 ≤ ((i + d : Nat) : Int)
 | 0, i, g, h => by cases h
 | d + 1, i, g, h => by
  rcases List.mem_cons.1 h with rfl | h
  ·simp only []; omega
  ·have := tk_mem d (i + 1) g h
   omega
theorem puts_tk {S : Nat → UInt8 → Bool} {x : List UInt8} : ∀ (d i : Nat) (out : List S_groups_Span), i + d < out.length → ∀ k, i ≤ k → k < i + d → (puts out (tk S x d i))[k + 1]? = some ⟨(plc S x k : Int), (plc S x (k + 1) : Int), true⟩
 | 0, i, out, ho, k, h1, h2 => by omega
 | d + 1, i, out, ho, k, h1, h2 => by
  show (puts (out.set ((i : Int) + 1).toNat ⟨(plc S x i : Int), (plc S x (i + 1) : Int), true⟩) (tk S x d (i + 1)))[k + 1]? = _
  by_cases e : k = i
  ·subst e
   rw [puts_out d (k + 1) _ (k + 1) (by omega), show ((k : Int) + 1).toNat = k + 1 from by omega, List.getElem?_set_self (by omega)]
  ·exact puts_tk d (i + 1) _ (by rw [List.length_set]; omega) k (by omega) (by omega)
where
 puts_out {S : Nat → UInt8 → Bool} {x : List UInt8} : ∀ (d i : Nat) (out : List S_groups_Span) (k : Nat), k ≤ i → (puts out (tk S x d i))[k]? = out[k]?
 | 0, i, out, k, h => rfl
 | d + 1, i, out, k, h => by
  show (puts (out.set ((i : Int) + 1).toNat _) (tk S x d (i + 1)))[k]? = _
  rw [puts_out d (i + 1) _ k (by omega), List.getElem?_set_ne (by omega)]
theorem spans_row {p0 p1 : List UInt8} (h : p0.length ≤ 6) (h1 : p1.length ≤ 30) (he : plc (setG p0) p1 p0.length = p1.length) {t : S_tree_Tree} (hk : RowOk t (p0.map bitO)) :
  ∃ l, M_groups_Spans t p1 0 (p1.length : Int) = some (l, true) ∧ l.length = p0.length + 1 ∧ ∀ k, k < p0.length → l[k + 1]? = some ⟨(plc (setG p0) p1 k : Int), (plc (setG p0) p1 (k + 1) : Int), true⟩ := by
 obtain ⟨ns, r⟩ := t
 obtain ⟨hr, hg, a, ha, hrow⟩ := hk
 simp only at ha
 subst ha
 rw [List.length_map] at hg hrow
 by_cases h0 : p0.length = 0
 ·rcases hrow with ⟨_, n, hn, hn0⟩ | ⟨hm, _⟩
  rotate_left
  ·omega
  have hx : p1.length = 0 := by rw [← he, h0]; rfl
  have e := spans_ok hr (s := p1) (by omega) hg (by omega) (i := 0) (j := p1.length) (by omega) (by omega) ((inv0 hn hn0).2 (by omega)) (l := []) (.leaf hn (by omega) (by omega) (by omega) (by omega)) (fun g hg => by cases hg)
  exact ⟨_, e, by rw [puts_len, List.length_set, List.length_replicate], fun k hk => by omega⟩
 ·rcases hrow with ⟨hm, _⟩ | ⟨_, ha, T⟩
  ·exact (h0 hm).elim
  have T' : RowT ns p0.length (setG p0) := by
   have e : ∀ i, i < p0.length → ∀ c, (fun i c => setL ((p0.map bitO).getD i false) c) i c = setG p0 i c := by
    intro i hi c
    unfold setL setG
    simp [List.getD_eq_getElem?_getD, List.getElem?_eq_getElem hi]
   exact ⟨fun i hi => by
    obtain ⟨n, a1, a2, a3⟩ := T.one i hi
    exact ⟨n, a1, a2, fun b => (a3 b).trans (e i hi b)⟩, T.rep, T.grp, T.cat⟩
  have hmt := row_mt T' he (p0.length - 1) 0 (by omega) 0
  have hlg := row_lg T' he (p0.length - 1) 0 (by omega) 0
  rw [show p0.length - 1 + 1 = p0.length from by omega] at hlg
  rw [← ha] at hmt hlg
  have hpl : plc (setG p0) p1 0 = 0 := rfl
  rw [hpl] at hmt hlg
  have e := spans_ok hr (s := p1) (by omega) hg (by omega) (i := 0) (j := p1.length) (by omega) (by omega) hmt hlg (fun g hgm => by have := tk_mem _ _ g hgm; omega)
  refine ⟨_, e, by rw [puts_len, List.length_set, List.length_replicate], fun k hk => ?_⟩
  exact puts_tk p0.length 0 _ (by rw [List.length_set, List.length_replicate]; omega) k (by omega) (by omega)
theorem awake_ok : M_boulterlaw22_awake = some true := by kernel_rfl
theorem row_law (p0 p1 : List UInt8) : M_boulterlaw22_GroupsRow p0 p1 = some true := by
 refine W.eq ?_
 unfold M_boulterlaw22_GroupsRow
 rw [awake_ok]
 refine W.ite (fun _ => W.ret rfl) fun hb => ?_
 simp only [Bool.or_eq_false_iff, decide_eq_false_iff_not] at hb
 have h : p0.length ≤ 6 := by omega
 have h1 : p1.length ≤ 30 := by omega
 rw [l0_ok h, Option.bind_some]
 obtain ⟨t, e, hk⟩ := typed_ok (p0.map bitO) (by rw [List.length_map]; exact h)
 rw [e, Option.bind_some]
 simp only []
 rw [show ((0 : Int) != 0) = false from rfl, iteB_false, l1_ok h h1, Option.bind_some]
 simp only []
 by_cases he : plc (setG p0) p1 p0.length = p1.length
 ·rw [he, show (((p1.length : Nat) : Int) != (p1.length : Int)) = false from by simp, iteB_false]
  obtain ⟨l, e2, hl, hg⟩ := spans_row h h1 he hk
  rw [e2, Option.bind_some]
  simp only []
  rw [hl, ek64 (by omega), Bool.not_true, Bool.false_or, show (((p0.length + 1 : Nat) : Int) != ((p0.length + 1 : Nat) : Int)) = false from by simp, iteB_false]
  refine W.bind (W.mono (W.loop (fun u => ∃ i : Nat, i ≤ p0.length ∧ u = (i : Int)) (fun u => (p0.length - u).toNat) ⟨0, by omega, rfl⟩ ?_ (Q := fun o => o = .inl ())) fun o ho => by subst ho; exact W.ret rfl)
  rintro _ ⟨i, hi, rfl⟩
  unfold M_boulterlaw22_GroupsRow_L3
  simp only []
  have hw : (wants (setG p0) p1 p0.length).length = p0.length := by simp [wants]
  rw [hw]
  refine W.iteP (fun hlt => ?_) fun _ => W.ret rfl
  have hi' : i < p0.length := by omega
  rw [ixV_nat (show (wants (setG p0) p1 p0.length)[i]? = some ⟨(plc (setG p0) p1 i : Int), (plc (setG p0) p1 (i + 1) : Int), true⟩ from by simp [wants, hi']), Option.bind_some, ek64 (by omega), ixV_nat (hg i hi'), Option.bind_some, eqG_self (by kernel_rfl) (by kernel_rfl), Option.bind_some]
  exact W.ret ⟨⟨i + 1, by omega, rfl⟩, by omega⟩
 ·rw [show (((plc (setG p0) p1 p0.length : Nat) : Int) != (p1.length : Int)) = true from bne_iff_ne.2 (by omega), iteB_true]
  exact W.ret rfl
theorem lawGroupsRow (p0 : List UInt8) {Q0 : Prop} (k0 : Q0) (p1 : List UInt8) {Q1 : Prop} (k1 : Q1) : M_boulterlaw22_GroupsRow p0 p1 = some true := row_law p0 p1
end Go.Av.L
