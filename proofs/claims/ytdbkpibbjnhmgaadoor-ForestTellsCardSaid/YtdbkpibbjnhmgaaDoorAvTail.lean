/-
 A part.
-/
import Derived.Test.YtdbkpibbjnhmgaaDoorAvTy
namespace Go.Av
set_option linter.unusedVariables false
set_option linter.unusedSimpArgs false
def Sj (P : Program) (fr : Fr) : Op → Option (Option (Nat × Nat) × Nat × Nat × Option AA × Option AA)
 | .slice t x lo hi none =>
  match P.underlying t, ev fr x with
  | some (.slice e), .slice r n => (Bf P e).map fun z => (r, n, z, lo.map (ev fr), hi.map (ev fr))
  | _, _ => none
 | _ => none
section
variable {α : Type} {e : α → List AA} {z : Nat} {g : Gd} {h : AB} {L F : List Ck}
theorem HH.W1 (a : HH g h L F) (k : Nat) {r : Option Nat} {t : TypeId} {xs : List α} (hk : L[k]? = some (.AL r t (AL e xs))) : HH g h (L.set k (.AL r t (AL e (xs ++ [])))) F := by
 rw [List.append_nil, Es hk, ← D6 hk]; exact a
theorem HH.WD (a : HH g h L F) (k : Nat) {r : Option Nat} {t : TypeId} {xs tl ys : List α} {u : Int} (hk : L[k]? = some (.AL r t (AL e (xs ++ tl)))) (hs : Jg xs none (some u) = some ys) : ∃ tl', HH g h (L.set k (.AL r t (AL e (ys ++ tl')))) F := by
 refine ⟨xs.drop u.toNat ++ tl, ?_⟩
 unfold Jg NZ at hs
 simp only at hs
 split at hs
 ·simp only [Option.map_some, List.drop_zero, Nat.sub_zero, Option.some.injEq] at hs
  rw [← hs, ← List.append_assoc, List.take_append_drop, Es hk, ← D6 hk]; exact a
 ·cases hs
theorem TG {C : EP} {S : Self} {fr : Fr} {op : Op} (E : J0 e z) (hz : z ≠ 0) (a : HH g h L F) (k : Nat) {r : Option Nat} {t : TypeId} {xs tl ys : List α} {k' : IntKind} {u : Int} (hk : L[k]? = some (.AL r t (AL e (xs ++ tl))))
  (hs : Sj C.P fr op = some ((DC r xs.length).r, xs.length, z, none, some (.int k' u))) (ht : Bf C.P t = some z) (hl : Jg xs none (some u) = some ys) : Aw C S g h fr op = some (AJ r ys.length, h) := by
 unfold Sj at hs
 split at hs
 ·rename_i t0 x lo hi
  split at hs
  ·rename_i el r0 n hu hx
   obtain ⟨z', hz', he⟩ := Option.map_eq_some_iff.1 hs
   simp only [Prod.mk.injEq] at he
   obtain ⟨rfl, rfl, rfl, e1, e2⟩ := he
   unfold Jg NZ at hl
   simp only at hl
   split at hl
   ·rename_i hb
    simp only [Option.map_some, List.drop_zero, Nat.sub_zero, Option.some.injEq] at hl
    have hyl : ys.length = u.toNat := by rw [← hl, List.length_take]; omega
    have hc : AZ C.P (.slice t0 x lo hi none) = 1 := by simp only [AZ, hu]
    have hbd : Co xs.length (lo.map (ev fr)) (hi.map (ev fr)) = some (0, u.toNat) := by rw [e1, e2]; simp only [Co]; rw [if_pos hb]
    show GA C.P C.CM g h fr (.slice t0 x lo hi none) = _
    cases r with
    | none =>
     have hn : AL e (xs ++ tl) = [] := a.mem hk
     have h1 := E.Kv (xs ++ tl)
     rw [hn] at h1
     have h2 : (xs ++ tl).length * z' = 0 := by simpa using h1.symm
     have h3 : xs = [] := by
      rcases Nat.mul_eq_zero.1 h2 with h | h
      ·rw [List.length_append] at h; exact List.eq_nil_of_length_eq_zero (by omega)
      ·exact absurd h hz
     subst h3
     have hys : ys = [] := by rw [← hl]; simp
     subst hys
     have hx' : ev fr x = .slice none 0 := by rw [hx]; rfl
     simp only [GA, hc, CJ, hx', DD, HB, G4, hu, hz', Option.bind_some]
     rw [show Co 0 (lo.map (ev fr)) (hi.map (ev fr)) = some (0, u.toNat) from hbd]
     rfl
    | some id =>
     have hg : h.get id = some (.cells (some t) 2 (AL e (xs ++ tl))) := a.mem hk
     have hx' : ev fr x = .slice (some (id, 0)) xs.length := by rw [hx]; rfl
     simp only [GA, hc, CJ, hx', DD, hg, HB, G4, hu, hz', ht, if_true, hbd, Option.map_some, Nat.zero_mul, Nat.add_zero, Nat.sub_zero, AJ, hyl]
   ·cases hl
  ·cases hs
 ·cases hs
end
end Go.Av
