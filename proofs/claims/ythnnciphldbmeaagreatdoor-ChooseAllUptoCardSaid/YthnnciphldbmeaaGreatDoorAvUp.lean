/-
  The second form: what is read is of bulk at most so much. Then each text and each row is short.
-/
import Derived.Test.YthnnciphldbmeaaGreatDoorRows
import Derived.Test.YthnnciphldbmeaaGreatDoorAvIn
namespace Go.Av
open Go.Proofs.YthnnciphldbmeaaGreatDoor Go.RowKit Go.ChangeShapes Go.WideShapes
set_option linter.unusedVariables false
set_option linter.unusedSimpArgs false
namespace Bulk
theorem one_le {H : Type} (d : DataW H) : 1 ≤ Rows.uptoBulk d := by
 cases d with
 | lit l => cases l <;> simp [Rows.uptoBulk]
 | _ => simp [Rows.uptoBulk]
theorem NW {H : Type} {d : DataW H} : ∀ {l : List (DataW H)}, d ∈ l → Rows.uptoBulk d ≤ Rows.uptoBulkAll l
 | [], h => by cases h
 | x :: r, h => by
  simp only [Rows.uptoBulkAll]
  rcases List.mem_cons.1 h with rfl | h
  ·omega
  ·have := NW h; omega
theorem length_le {H : Type} : ∀ l : List (DataW H), l.length ≤ Rows.uptoBulkAll l
 | [] => by simp [Rows.uptoBulkAll]
 | x :: r => by have := one_le x; have := length_le r; simp only [Rows.uptoBulkAll, List.length_cons]; omega
theorem T8 {H : Type} (elems spare : List (DataW H)) : elems.length + spare.length + 1 ≤ Rows.uptoBulk (.slice elems spare) := by
 have h1 := length_le elems
 have h2 := length_le spare
 simp only [Rows.uptoBulk]; omega
theorem RU {H : Type} (elems spare : List (DataW H)) : Rows.uptoBulkAll elems + 1 ≤ Rows.uptoBulk (.slice elems spare) := by simp only [Rows.uptoBulk]; omega
theorem RA {H : Type} {d : DataW H} {l : List (DataW H)} (h : Rows.uptoSmall H l = true) (hd : d ∈ l) : Rows.uptoBulk d ≤ 1048576 := Nat.le_trans (NW hd) (of_decide_eq_true h)
end Bulk
structure Qc (P : Program) {α : Type} (t : TypeId) (e : α → List AA) (ok : α → Prop) : Prop where
 h : ∀ {H : Type} {enc : TypeId × Value → H} {W : World} {held : Bool} (fuel : Nat) (cs : List Value) (d : DataW H) (ps : List MemPlace), DataW.trod enc P W 0 (fun _ => true) held fuel t cs = some (d, ps) → Rows.uptoBulk d ≤ 1048576 → ∃ x, CT (mW W) (e x) cs ∧ ok x
section
variable {P : Program}
theorem uI {t : TypeId} {k : IntKind} (hu : P.underlying t = some (.int k)) : Qc P t (eI k) (P6 k) := .mk fun {H enc W held} fuel cs d ps ht hu1 => by
 cases fuel with
 | zero => simp [DataW.trod] at ht
 | succ fuel =>
  unfold DataW.trod at ht
  rw [hu] at ht
  split at ht <;> first | contradiction | cases ‹(some (_ : TypeDesc)) = some _›
  rename_i k2 n
  split at ht <;> try contradiction
  rename_i hk
  refine ⟨n, ?_, ?_⟩
  ·rw [hk.1]; exact .cons (.int _ _) (.nil _)
  ·have := hk.2
   simp only [Lit.wf, Bool.and_eq_true, decide_eq_true_eq] at this
   exact this
def JU (x : List UInt8) : Prop := x.length ≤ 1048576
theorem uS {t : TypeId} (hu : P.underlying t = some .string) : Qc P t eS JU := .mk fun {H enc W held} fuel cs d ps ht hu1 => by
 cases fuel with
 | zero => simp [DataW.trod] at ht
 | succ fuel =>
  unfold DataW.trod at ht
  rw [hu] at ht
  split at ht <;> first | contradiction | cases ‹(some (_ : TypeDesc)) = some _›
  rename_i s
  split at ht <;> try contradiction
  rename_i hk
  simp only [Option.some.injEq, Prod.mk.injEq] at ht
  obtain ⟨rfl, _⟩ := ht
  simp only [Rows.uptoBulk] at hu1
  exact ⟨s.data.toList, .cons (.str _) (.nil _), by unfold JU; omega⟩
def UM {α : Type} (ok : α → Prop) (xs : List α) : Prop := xs.length ≤ 1048576 ∧ ∀ x ∈ xs, ok x
theorem uL {α : Type} {t el : TypeId} {e : α → List AA} {z : Nat} {ok : α → Prop} (E : LM e z) (hu : P.underlying t = some (.slice el)) (hz : P.cellsOf el = z) (hz0 : 0 < z) (a : Qc P el e ok) : Qc P t (eL e) (UM ok) := .mk fun {H enc W held} fuel cs d ps ht hu1 => by
 cases fuel with
 | zero => simp [DataW.trod] at ht
 | succ fuel =>
  unfold DataW.trod at ht
  rw [hu] at ht
  split at ht <;> first | contradiction | cases ‹(some (_ : TypeDesc)) = some _›
  ·exact ⟨[], .cons (.IK _ _) (.nil _), by simp, by simp⟩
  ·rename_i ad len cap
   simp only at ht
   split at ht <;> try contradiction
   rename_i hb
   obtain ⟨elems, he, ht⟩ := bind_some ht
   have hlen : elems.length = len := by simpa using mapM_some_length he
   rw [Option.map_eq_some_iff] at ht
   obtain ⟨rest, _, ht⟩ := ht
   simp only [Prod.mk.injEq] at ht
   obtain ⟨rfl, _⟩ := ht
   have hbk := Bulk.T8 (elems.map (·.1)) (rest.map (·.1))
   have hbe := Bulk.RU (elems.map (·.1)) (rest.map (·.1))
   rw [List.length_map] at hbk
   have hel : ∀ i, i < len → ∃ c x, W.cells? 0 (ad.add (i * z)) z = some c ∧ CT (mW W) (e x) c ∧ ok x := by
    intro i hi
    have := mapM_some_get he i i (by simp [hi])
    rw [List.getElem?_eq_getElem (by omega)] at this
    obtain ⟨c, hc, h2⟩ := bind_some this
    rw [hz] at hc
    obtain ⟨x, hx, hk⟩ := a.h fuel c _ _ h2 (Nat.le_trans (Bulk.NW (l := elems.map (·.1)) (List.mem_map.2 ⟨_, List.getElem_mem (by omega), rfl⟩)) (by omega))
    exact ⟨c, x, hc, hx, hk⟩
   have hxs : ∀ n, n ≤ len → ∃ xs : List α, xs.length = n ∧ ∀ i x, xs[i]? = some x → ok x ∧ ∃ c, W.cells? 0 (ad.add (i * z)) z = some c ∧ CT (mW W) (e x) c := by
    intro n
    induction n with
    | zero => intro _; exact ⟨[], rfl, fun i x h => by simp at h⟩
    | succ n ih =>
     intro hn
     obtain ⟨xs, h1, h2⟩ := ih (by omega)
     obtain ⟨c, x, hc, hx, hk⟩ := hel n (by omega)
     refine ⟨xs ++ [x], by simp [h1], fun i y hy => ?_⟩
     by_cases hi : i < xs.length
     ·rw [List.getElem?_append_left hi] at hy; exact h2 i y hy
     ·have hi2 : i = n := by
       have := (List.getElem?_eq_some_iff.1 hy).1
       simp at this; omega
      subst hi2
      rw [List.getElem?_append_right (by omega), h1] at hy
      simp at hy
      subst hy
      exact ⟨hk, c, hc, hx⟩
   obtain ⟨xs, hl, hall⟩ := hxs len (Nat.le_refl _)
   refine ⟨xs, .cons ?_ (.nil _), by omega, fun x hx => ?_⟩
   ·by_cases h0 : len = 0
    ·have : xs = [] := List.eq_nil_of_length_eq_zero (by omega)
     subst this
     subst h0
     exact .IK _ _
    ·obtain ⟨_, c0, hc0, _⟩ := hall 0 _ (List.getElem?_eq_getElem (by omega))
     simp only [Nat.zero_mul, add_zero] at hc0
     obtain ⟨cur, et, fz, b1, b2, b3, b4⟩ := Pb hc0 hz0
     have ea : ad = ⟨ad.block, ad.off, none⟩ := by cases ad; simp_all
     have key : ∀ q v, (AL e xs)[q]? = some v → ∃ u, cur[ad.off + q]? = some u ∧ VR (mW W) v u := by
      intro q v hv
      rw [VS E hz0] at hv
      obtain ⟨x, hx, hv⟩ := bind_some hv
      obtain ⟨_, c, hc, hvr⟩ := hall _ x hx
      obtain ⟨cur', et', fz', d1, d2, d3, d4⟩ := Pb hc hz0
      rw [S8] at d1
      rw [b1] at d1
      injection d1 with d1
      injection d1 with d1
      subst d1
      obtain ⟨u, hu', hvu⟩ := hvr.at_ hv
      refine ⟨u, ?_, hvu⟩
      have hm := d4 (q % z) (Nat.mod_lt _ hz0)
      rw [Us] at hm
      have ej : q / z * z + q % z = q := by rw [Nat.mul_comm]; exact Nat.div_add_mod _ _
      rw [Nat.add_assoc, ej] at hm
      rw [hm]; exact hu'
     rw [ea, ← hl]
     refine .G7 xs.length cap ad.block ad.off (AL e xs) (fun i => (cur[ad.off + i]?).getD undef) (by omega) (fun i hi => ?_) (fun i x hx => ?_)
     ·obtain ⟨u, hu', _⟩ := key i _ (List.getElem?_eq_getElem hi)
      simp only [mW, b1, hu', Option.getD_some]
     ·obtain ⟨u, hu', hvu⟩ := key i x hx
      rw [hu']; exact hvu
   ·obtain ⟨i, hi, rfl⟩ := List.getElem_of_mem hx
    exact (hall i _ (List.getElem?_eq_getElem hi)).1
structure SV (P : Program) {α : Type} (ts : List TypeId) (e : α → List AA) (ok : α → Prop) : Prop where
 h : ∀ {H : Type} {enc : TypeId × Value → H} {W : World} {held : Bool} (fuel : Nat) (css : List (List Value)), css.length = ts.length → (∀ (i : Nat) c t, css[i]? = some c → ts[i]? = some t → ∃ (d : DataW H) (ps : List MemPlace), DataW.trod enc P W 0 (fun _ => true) held fuel t c = some (d, ps) ∧ Rows.uptoBulk d ≤ 1048576) → ∃ x, CT (mW W) (e x) css.flatten ∧ ok x
theorem Ty : SV P (α := Unit) [] (fun _ => []) (fun _ => True) := .mk fun {H enc W held} fuel css hl _ => by
 have : css = [] := List.length_eq_zero_iff.1 hl
 subst this
 exact ⟨(), .nil _, trivial⟩
theorem Ft {α β : Type} {t : TypeId} {ts : List TypeId} {e : α → List AA} {e' : β → List AA} {ok : α → Prop} {ok' : β → Prop} (a : Qc P t e ok) (b : SV P ts e' ok') : SV P (t :: ts) (fun x : α × β => e x.1 ++ e' x.2) (fun x => ok x.1 ∧ ok' x.2) := .mk fun {H enc W held} fuel css hl hd => by
 cases css with
 | nil => simp at hl
 | cons c css =>
  obtain ⟨d, ps, ht, hu1⟩ := hd 0 c t rfl rfl
  obtain ⟨x, hx, k1⟩ := a.h fuel c d ps ht hu1
  obtain ⟨y, hy, k2⟩ := b.h fuel css (by simpa using hl) (fun i c t hd' ht' => hd (i + 1) c t (by simpa using hd') (by simpa using ht'))
  exact ⟨(x, y), by rw [List.flatten_cons]; exact hx.app hy, k1, k2⟩
theorem uR {α β : Type} {t : TypeId} {ts : List TypeId} {e : α → List AA} {ok : α → Prop} {e' : β → List AA} {ok' : β → Prop} (hs : Qr P t ts = true) (f : α → β) (he : ∀ x, e' (f x) = e x) (hk : ∀ x, ok x → ok' (f x)) (a : SV P ts e ok) : Qc P t e' ok' := .mk fun {H enc W held} fuel cs d ps ht hu1 => by
 unfold Qr at hs
 split at hs
 ·rename_i fs hu
  simp only [Bool.and_eq_true, beq_iff_eq] at hs
  cases fuel with
  | zero => simp [DataW.trod] at ht
  | succ fuel =>
   unfold DataW.trod at ht
   rw [hu] at ht
   split at ht <;> first | contradiction | cases ‹(some (_ : TypeDesc)) = some _› | exact absurd rfl (‹∀ fs_1 : Array Field, (some (TypeDesc.struct fs) : Option TypeDesc) = some (TypeDesc.struct fs_1) → False› fs)
   split at ht <;> try contradiction
   rename_i cs _ _ hl
   simp only [Option.map_eq_some_iff, Prod.mk.injEq] at ht
   obtain ⟨xs, hx, rfl, _⟩ := ht
   have hbp : Rows.uptoBulkAll (xs.map (·.1)) + 1 ≤ 1048576 := by simpa only [Rows.uptoBulk] using hu1
   obtain ⟨x, h1, h2⟩ := a.h fuel (fs.toList.map fun f => (cs.drop f.offset).take (P.cellsOf f.type)) (by rw [← hs.2]; simp) (fun i c t hc ht => by
    rw [← hs.2] at ht
    rw [List.getElem?_map, Option.map_eq_some_iff] at hc ht
    obtain ⟨f1, hf1, rfl⟩ := hc
    obtain ⟨f2, hf2, rfl⟩ := ht
    have : f1 = f2 := Option.some.inj (hf1.symm.trans hf2)
    subst this
    have hg := mapM_some_get hx i f1 hf1
    have hi : i < xs.length := by rw [mapM_some_length hx]; exact (List.getElem?_eq_some_iff.1 hf1).1
    rw [List.getElem?_eq_getElem hi] at hg
    exact ⟨_, _, hg, Nat.le_trans (Bulk.NW (l := xs.map (·.1)) (List.mem_map.2 ⟨_, List.getElem_mem (by omega), rfl⟩)) (by omega)⟩)
   rw [(KQ (P := P) fs.toList 0 cs hs.1 hl (Nat.zero_le _)).1, List.drop_zero] at h1
   exact ⟨f x, by rw [he]; exact h1, hk x h2⟩
 ·cases hs
end
end Go.Av
