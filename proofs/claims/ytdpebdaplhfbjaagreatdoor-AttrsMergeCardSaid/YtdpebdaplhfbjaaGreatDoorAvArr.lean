/-
  AV: arrays of one's own, at places that are reckoned.
-/
import Derived.Test.YtdpebdaplhfbjaaGreatDoorAvTy
namespace Go.Av
set_option linter.unusedVariables false
set_option linter.unusedSimpArgs false
section
variable {α : Type} {g : Gd} {h : AHeap} {L F : List Ck}
theorem ixV_lt {ws : List α} {i : Int} {x : α} (hx : ixV ws i = some x) : 0 ≤ i ∧ i.toNat < ws.length ∧ ws[i.toNat]? = some x := by
 unfold ixV at hx
 split at hx
 ·exact ⟨by omega, (List.getElem?_eq_some_iff.1 hx).1, hx⟩
 ·cases hx
end
section
variable {C : Cfg} {S : Self} {g : Gd} {h : AHeap} {fr : Fr} {op : Op}
def spIxAg (P : Program) (fr : Fr) : Op → Option (List AVal × Nat × Int)
 | .index t x i =>
  match P.underlying t, ev fr x, ev fr i with
  | some (.array n e), .agg cs, .int _ i =>
   match isAggT P e, szOf P e with
   | some false, some 1 => some (cs, n, i)
   | _, _ => none
  | _, _, _ => none
 | _ => none
theorem s_ixAg {α : Type} (f : α → AVal) (ws : List α) {cs : List AVal} {n : Nat} {i : Int} {x : α} (hs : spIxAg C.P fr op = some (cs, n, i)) (hcs : cs = ws.map f) (hn : ws.length = n) (hx : ixV ws i = some x) : stepA C S g h fr op = some (f x, h) := by
 obtain ⟨h1, h2, h3⟩ := ixV_lt hx
 unfold spIxAg at hs
 split at hs
 ·split at hs
  ·rename_i hu hv hi
   split at hs
   ·rename_i ha hz
    simp only [Option.some.injEq, Prod.mk.injEq] at hs
    have e : ∀ j : Nat, ws[j]? = some x → (ws.map f)[j]? = some (f x) := fun j hj => by rw [List.getElem?_map, hj]; rfl
    obtain ⟨e1, e2, e3⟩ := hs
    subst e1 e2 e3
    simp only [stepA, opA, clsOf, opP, indexA, hu, hv, hi, hz, Option.bind_some, Nat.mul_one]
    rw [if_pos ⟨h1, by omega⟩]
    simp only [partA, ha, hcs, e _ h3, Option.map_some]
   ·cases hs
  ·cases hs
 ·cases hs
end
end Go.Av
