/-
 A part.
-/
import Derived.Test.YtdbkpibbjnhmgaaDoorAvLib
import Derived.Test.YtdbkpibbjnhmgaaDoorAvArena
import Derived.Test.YtdbkpibbjnhmgaaDoorAvDeep
namespace Go.Av
open Go.RowKit
set_option linter.unusedVariables false
set_option linter.unusedSimpArgs false
theorem PM (G : Nat → Option (List AA)) : EI Go.Proofs.Tryd.prog G 31 fun g h args => Js h args := by
 refine EI.of fun g h args v h' hc => ?_
 unfold Js at hc
 split at hc
 ·rename_i id
  simp only [Option.map_eq_some_iff, Prod.mk.injEq] at hc
  obtain ⟨d, hd, rfl, rfl⟩ := hc
  refine ⟨AN.refl _ _, fun w0 m w cargs rel hv => (Deep.TO Rr hd rel hv).mono ?_⟩
  rintro v' w' ⟨hb, rfl⟩
  exact ⟨m, AU.ext.refl _ _, rel.later hb, .int _ _⟩
 ·cases hc
def Rm (f : Nat → Option Int) : List (List UInt8 × Nat) → Int → Option Int
 | [], m => some m
 | q :: l, m =>
  match f q.2 with
  | some d => Rm f l (RQ m (IntKind.i64.wrap (d + 1)))
  | none => none
def Jc {α : Type} (kd : α → List (List UInt8 × Nat)) (A : List α) : Nat → Nat → Option Int
 | 0, _ => none
 | n + 1, j => (A[j]?).bind fun x => Rm (Jc kd A n) (kd x) 0
theorem TY {f : Nat → Option Int} {e : AA → Option Int} {ev : Nat → AA} {ek : List UInt8 → AA} (h : ∀ j d, f j = some d → e (ev j) = some d) : ∀ (l : List (List UInt8 × Nat)) (m d : Int), Rm f l m = some d → Hs e (Ei ek ev l) m = some d
 | [], m, d, hd => hd
 | q :: l, m, d, hd => by
  unfold Rm at hd
  cases hq : f q.2 with
  | none => rw [hq] at hd; cases hd
  | some x =>
   rw [hq] at hd
   have := TY (ek := ek) h l _ _ hd
   show Hs e ((ek q.1, ev q.2) :: Ei ek ev l) m = some d
   simp only [Hs, h _ _ hq]
   exact this
theorem TV {α : Type} {N : SB α} {I : HR} {A : List α} {h : AB} (k : (EH N I A).ok h) (hp : ∀ x, ∃ a b, N.pre x = [a, b]) : ∀ (n j : Nat) (d : Int), Jc N.kd A n j = some d → Oi h n (A8 I j) = some d
 | 0, j, d, hd => by cases hd
 | n + 1, j, d, hd => by
  simp only [Jc, Option.bind_eq_some_iff] at hd
  obtain ⟨x, hx, hd⟩ := hd
  obtain ⟨h1, h2⟩ := JD k hx
  obtain ⟨a, b, hab⟩ := hp x
  have hk : N5 h (A8 I j) = some (Cz I j, Ei (fun k : List UInt8 => AA.str k) (fun v : Nat => AA.ptr (some (A8 I v, 0))) (N.kd x)) := by
   unfold N5
   rw [h1]
   simp only [MD, hab, List.cons_append, List.nil_append, h2, JF]
  simp only [Oi, hk, Option.bind_some]
  exact TY (fun i e he => by simp only [T9]; exact TV k hp n i e he) _ _ _ hd
theorem TH {C : EP} {km : VY} {l : List (Nat × Nat × Nat × Nat)} {g : Gd} {h : AB} {f : Nat} {α : Type} {N : SB α} {I : HR} {A : List α} {j : Nat} {d : Int} (hk : C.kind f = 3) (hx : C.ext = MH C.P km l) (hl : HC l f = some (41, 0, 0)) (k : (EH N I A).ok h) (hp : ∀ x, ∃ a b, N.pre x = [a, b])
  (hd : Jc N.kd A Rr j = some d) : CC C g h f [.ptr (some (A8 I j, 0))] (.int .i64 d) h := by
 have he : Js h [.ptr (some (A8 I j, 0))] = some (.int .i64 d, h) := by
  simp only [Js, TV k hp _ _ _ hd, Option.map_some]
 exact LR (c := (41, 0, 0)) hk hx hl he
end Go.Av
