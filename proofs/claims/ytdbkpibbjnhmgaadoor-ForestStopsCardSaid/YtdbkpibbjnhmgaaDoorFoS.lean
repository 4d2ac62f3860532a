/-
 A part.
-/
import Derived.Test.YtdbkpibbjnhmgaaDoorFoH
namespace Go.Av.L
open Go.Av Go.Lib
set_option linter.unusedVariables false
set_option linter.unusedSimpArgs false
theorem Np {A : List Nd} {Ps : List Pa} {SY RY : Type} {Y : SY → Bu × Int → Option (SY ⊕ RY)} : ∀ (ks : List Nat), (∀ k ∈ ks, ∃ x, A[k]? = some x ∧ x.at_ = La A k) → ∀ (y y' : SY ⊕ RY) (b : Bool), feed Y (ks.map fun k => (pj (M9 Ps k), La A k)) y = some (b, y') →
  feed (Ao Y A) (ks.map (UJ Ps)) (.inl y) = some (b, bif b then .inl y' else .inr y')
 | [], _, y, y', b, h => by
  simp only [List.map_nil, feed, Option.some.injEq, Prod.mk.injEq] at h
  obtain ⟨rfl, rfl⟩ := h
  rfl
 | k :: ks, hk, y, y', b, h => by
  obtain ⟨x, hx, ha⟩ := hk k (by simp)
  simp only [List.map_cons, feed] at h ⊢
  cases hy : M7 Y y (pj (M9 Ps k), La A k) with
  | none => rw [hy] at h; cases h
  | some o =>
   obtain ⟨b1, y1⟩ := o
   rw [hy] at h
   simp only [Option.bind_some] at h
   have e0 : Ao Y A y (UJ Ps k) = some (bif b1 then .inl y1 else .inr y1) := by
    rw [Ao]
    show (A[k]?).bind _ = _
    rw [hx, Option.bind_some, ha, hy, Option.bind_some]
    cases b1 <;> rfl
   cases b1 with
   | false =>
    simp only [cond_false, Option.some.injEq, Prod.mk.injEq] at h
    obtain ⟨rfl, rfl⟩ := h
    rw [IZ e0]
    rfl
   | true =>
    simp only [cond_true] at h
    rw [IZ e0]
    exact Np ks (fun k' hk' => hk k' (by simp [hk'])) y1 y' b h
theorem all_some {l : List Mb} (hs : Small l) {A : List Nd} {Ps : List Pa} (h : J8 l l.length A Ps) {f : A9} (hf : f.Bv = 0) {SY RY : Type} {Y : SY → Bu × Int → Option (SY ⊕ RY)} {y y' : SY ⊕ RY} {b : Bool} (hy : feed Y ((QS A).map fun k => (pj (M9 Ps k), La A k)) y = some (b, y')) :
  BU Y y f A = some y' := by
 unfold BU B3
 rw [Option.bind_some, O0 hs h hf (Np (Ps := Ps) _ (fun k hk => by
  obtain ⟨x, h1, _, _, h4, _⟩ := Mv hs h hk
  exact ⟨x, h1, h4⟩) y y' b hy), Option.bind_some]
 cases b <;> rfl
theorem N8 {R : List Rw} (hR : ∀ x ∈ R, (∀ c ∈ x.L, N6 c) ∧ x.L.length < 900000000 ∧ (pj x.L).length < 900000000) (hl : R.length < 100000) {p : Int} (hp : 0 ≤ p ∧ p ≤ 255) : ∀ (n i : Nat), i + n = R.length → (p = 0 ∨ (i : Int) < p) →
  ∃ b, feed (Ae p R) ((R.drop i).map fun x => (pj x.L, x.At)) (.inl (i : Int)) = some (b, if p = 0 ∨ (R.length : Int) < p then .inl (R.length : Int) else .inr (.inl p)) := by
 intro n
 induction n with
 | zero =>
  intro i hi hp2
  have e : i = R.length := by omega
  subst e
  rw [List.drop_length, if_pos (by omega)]
  exact ⟨true, rfl⟩
 | succ n ih =>
  intro i hi hp2
  have hlt : i < R.length := by omega
  obtain ⟨h1, h2, h3⟩ := hR _ (List.getElem_mem hlt)
  rw [drop_cons hlt, List.map_cons]
  have ew : IntKind.i64.wrap p = p := T0 (by omega) (by omega)
  have st : Ae p R (i : Int) (pj R[i].L, R[i].At) = some (if (((i + 1 : Nat) : Int)) = p then .inr (.inl ((i + 1 : Nat) : Int)) else .inl ((i + 1 : Nat) : Int)) := by
   rw [Ae, AU, if_neg (by omega), CD hlt, Option.bind_some, SR h1 h2 h3, Option.bind_some, beq_self_eq_true, Bool.not_true, Option.bind_some, BK, E6 (by omega), ew, Ry]
   split <;> rfl
  simp only [feed]
  rw [IZ st]
  by_cases he : ((i + 1 : Nat) : Int) = p
  ·rw [if_pos he]
   refine ⟨false, ?_⟩
   rw [if_neg (by omega)]
   rw [he]
   rfl
  ·rw [if_neg he]
   obtain ⟨b, hb⟩ := ih (i + 1) (by omega) (by omega)
   exact ⟨b, hb⟩
theorem P3 {l : List Mb} (hs : Small l) {R : List Rw} (hr : MS (paths l) l.length R) : (∀ x ∈ R, (∀ c ∈ x.L, N6 c) ∧ x.L.length < 900000000 ∧ (pj x.L).length < 900000000) ∧ R.length < 100000 := by
 refine ⟨fun x hx => ?_, by have := hr.len; have := hs.OS; omega⟩
 obtain ⟨_, j, hj, q, hq, m, hm⟩ := (hr.keys x.L).1 (List.mem_map.2 ⟨x, hx, rfl⟩)
 obtain ⟨mb, hmb, rfl⟩ := List.mem_map.1 (List.mem_of_getElem? hq)
 have a1 := GZ (JB mb.Name) m
 have a2 := Hn mb.Name
 have a3 := hs.names mb hmb
 have a4 := hs.JB _ (List.mem_of_getElem? hq)
 rw [hm]
 refine ⟨fun c hc => M6 (List.mem_of_mem_take hc), by rw [List.length_take]; omega, by omega⟩
theorem KX (x0 : List Mb) {Q0 : Prop} (k0 : Q0) (x1 : Int) (k1 : LQ .u8 x1) : Bx x0 x1 = some true := by
 have hp : 0 ≤ x1 ∧ x1 ≤ 255 := k1
 unfold Bx
 rcases SZ x0 with h | ⟨h, hs⟩
 ·rw [h, Option.bind_some, Bj, MI]; rfl
 ·rw [h, Option.bind_some, BK]
  refine W.eq (W.bind ((RI hs).mono ?_))
  rintro ⟨f, A⟩ ⟨hf, hn, Ps, hb⟩
  simp only at hf hn hb
  refine W.bind ((Qg hs).mono fun R hR => ?_)
  obtain ⟨g1, g2⟩ := P3 hs hR
  have hrow := Sf hs hb hR
  obtain ⟨b, hfeed⟩ := N8 g1 g2 hp R.length 0 (by omega) (by omega)
  rw [List.drop_zero] at hfeed
  have e1 : (R.map fun x => (pj x.L, x.At)) = (QS A).map fun k => (pj (M9 Ps k), La A k) := by
   conv => lhs; rw [hrow]
   rw [List.map_map]; rfl
  rw [e1] at hfeed
  have hall := all_some hs hb hf (Y := Ae x1 R) hfeed
  rw [show ((0 : Nat) : Int) = 0 from rfl] at hall
  have ew : IntKind.i64.wrap x1 = x1 := T0 (by omega) (by omega)
  show W ((_ : Option (Int ⊕ Int)).bind _) _
  unfold Cv
  rw [Option.bind_some, hall, Option.bind_some]
  by_cases h0 : x1 = 0 ∨ (R.length : Int) < x1
  ·rw [if_pos h0]
   simp only [Option.bind_some]
   have hx : (BG (decide (x1 > 0)) (some (mn (R.length : Int) (IntKind.i64.wrap x1))) (some (R.length : Int)) : Option Int) = some (R.length : Int) := by
    rw [AU]
    split
    ·rw [ew]
     unfold mn
     simp
     omega
    ·rfl
   rw [hx, Option.bind_some, beq_self_eq_true, Bj, MI]
   exact W.ret rfl
  ·rw [if_neg h0]
   simp only [Option.bind_some]
   have hx : (BG (decide (x1 > 0)) (some (mn (R.length : Int) (IntKind.i64.wrap x1))) (some (R.length : Int)) : Option Int) = some x1 := by
    rw [AU, if_pos (by omega), ew]
    unfold mn
    simp
    omega
   rw [hx, Option.bind_some, beq_self_eq_true, Bj, MI]
   exact W.ret rfl
end Go.Av.L
