/-
 A part.
-/
import Derived.Test.YtdbkpibbjnhmgaaDoorAvTail
import Derived.Test.YtdbkpibbjnhmgaaDoorAvLib
namespace Go.Av
open Go.RowKit
set_option linter.unusedVariables false
set_option linter.unusedSimpArgs false
def U1 (n : Nat) (lo : Int) : Option Nat := if 0 ≤ lo ∧ lo.toNat ≤ n then some lo.toNat else none
theorem Iw {n : Nat} {lo : Int} {o : Nat} (h : U1 n lo = some o) : 0 ≤ lo ∧ o = lo.toNat ∧ o ≤ n := by
 unfold U1 at h
 split at h
 ·rename_i hc; cases h; exact ⟨hc.1, rfl, hc.2⟩
 ·cases h
def FT (xs : List (List UInt8)) (o : Nat) : List (List UInt8) := xs.take o ++ List.replicate (xs.length - o) []
theorem Ey {xs : List (List UInt8)} {o : Nat} (h : o ≤ xs.length) : (FT xs o).length = xs.length := by
 simp only [FT, List.length_append, List.length_take, List.length_replicate]; omega
section
variable {C : EP} {S : Self} {g : Gd} {h h1 : AB} {L F : List Ck} {P : Program} {fr : Fr} {op : Op}
theorem HH.Xo (A : HH g h L F) (k : Nat) {r : Option Nat} {t : TypeId} {xs : List (List UInt8)} (hk : L[k]? = some (.AL r t (AL eS xs))) {lo : Int} {o : Nat} (hx : U1 xs.length lo = some o) (hz : Bf P t = some 1) :
  TN P h (DC r xs.length) 1 (some lo) none = some ⟨r.map fun i => (i, o), xs.length - o⟩ := by
 obtain ⟨h1, rfl, h2⟩ := Iw hx
 cases r with
 | none =>
  have h0 : AL eS xs = [] := A.mem hk
  rw [JJ] at h0
  have hx0 : xs = [] := by simpa using h0
  subst hx0
  have : lo = 0 := by simp at h2; omega
  subst this
  unfold TN DC NZ
  simp
 | some rid =>
  have hg : h.get rid = some (.cells (some t) 2 (AL eS xs)) := A.mem hk
  unfold TN DC NZ
  simp only [Option.map_some, hg, hz, if_true]
  have : 0 ≤ lo ∧ lo ≤ (xs.length : Int) := ⟨h1, by omega⟩
  simp [this]
theorem LW : ∀ n : Nat, Cq [AA.str []] n = (List.replicate n ([] : List UInt8)).map .str
 | 0 => rfl
 | n + 1 => by
  rw [Cq, LW n, List.replicate_succ]; rfl
theorem HH.Xn (A : HH g h L F) (k : Nat) {r : Option Nat} {t : TypeId} {xs : List (List UInt8)} (hk : L[k]? = some (.AL r t (AL eS xs))) {o : Nat} (ho : o ≤ xs.length) {ts : Array TypeId} {tt e : TypeId} (ht : ts[0]? = some tt) (hu : P.underlying tt = some (.slice e)) (hz : Ec P e = some (.str [])) :
  ∃ h', IQ P g h ts (.slice (r.map fun i => (i, o)) (xs.length - o)) = some h' ∧ HH g h' (L.set k (.AL r t (AL eS (FT xs o)))) F := by
 unfold IQ
 rw [ht]
 dsimp only
 rw [hu]
 dsimp only
 by_cases h0 : xs.length - o = 0
 ·refine ⟨h, by rw [if_pos h0], ?_⟩
  have e0 : FT xs o = xs := by
   unfold FT
   rw [h0, List.take_of_length_le (by omega)]; simp
  rw [e0, Es hk, ← D6 hk]
  exact A
 ·rw [if_neg h0]
  cases r with
  | none =>
   have h0' : AL eS xs = [] := A.mem hk
   rw [JJ] at h0'
   have hx0 : xs = [] := by simpa using h0'
   subst hx0
   simp at h0
  | some id =>
   have hg : h.get id = some (.cells (some t) 2 (AL eS xs)) := A.mem hk
   have hid := h.An hg
   have hm : g.may id = true := A.Ns hk (by simp [Ck.ids])
   have hn : (Cq [AA.str []] (xs.length - o)).length = xs.length - o := by rw [LW]; simp
   refine ⟨h.set id (.cells (some t) 2 (AL eS (FT xs o))), ?_, ?_⟩
   ·simp only [Option.map_some, hz, Option.bind_some, AA.cells?]
    unfold Bq
    simp only [hg]
    have hone : (Cq [AA.str []] (xs.length - o)).all AA.one = true := by
     rw [LW, List.all_map, List.all_eq_true]; intro x _; rfl
    rw [if_pos ⟨hm, by rw [hn, JJ, List.length_map]; omega, hone⟩]
    congr 3
    have hc : JR (some t) (Cq [AA.str []] (xs.length - o)) = Cq [AA.str []] (xs.length - o) := by
     rw [LW]
     simp [JR, Dl]
    rw [hc]
    unfold C1
    rw [hn, JJ, JJ, LW]
    unfold FT
    rw [List.map_append, List.map_take, List.drop_eq_nil_of_le (by rw [List.length_map]; omega), List.append_nil]
   ·exact A.Rp hk (by simp) (fun i _ hi => h.Ar _ hid (by simpa [Ck.ids] using hi)) (h.get_set_same _ hid) (fun i hi => .inl hi) (fun i hi => A.Ns hk hi)
def Um (fr : Fr) : Op → Option (Array TypeId × AA)
 | .call { callee := .builtin .clear, args := aa, argTypes := ts } =>
  match aa.toList with
  | [m] => some (ts, ev fr m)
  | _ => none
 | _ => none
theorem Uu {ts : Array TypeId} {m : AA} (hs : Um fr op = some (ts, m)) (hl : IQ C.P g h ts m = some h1) : Aw C S g h fr op = some (.tuple [], h1) := by
 unfold Um at hs
 split at hs
 ·rename_i aa ts'
  split at hs
  ·rename_i m' hx
   simp only [Option.some.injEq, Prod.mk.injEq] at hs
   obtain ⟨rfl, rfl⟩ := hs
   simp [Aw, GA, AZ, Gk, hx, hl]
  ·cases hs
 ·cases hs
theorem HH.SU {α : Type} {e : α → List AA} {z : Nat} (E : J0 e z) (A : HH g h L F) (k : Nat) {r : Option Nat} {t : TypeId} {xs tl : List α} (hk : L[k]? = some (.AL r t (AL e (xs ++ tl)))) (hz : z ≠ 0) : Cp h z xs.length (AJ r xs.length) = some (AL e xs) := by
 have hok := A.mem hk
 unfold AJ Cp
 have hl : (AL e xs).length = xs.length * z := E.Kv xs
 have ha : AL e (xs ++ tl) = AL e xs ++ AL e tl := by simp [AL]
 cases r with
 | none =>
  have h0 : AL e (xs ++ tl) = [] := hok
  rw [ha] at h0
  have h1 : AL e xs = [] := (List.append_eq_nil_iff.1 h0).1
  have h2 : xs.length = 0 := by
   have := hl
   rw [h1, List.length_nil] at this
   rcases Nat.mul_eq_zero.1 this.symm with h | h
   ·exact h
   ·exact absurd h hz
  have h3 : xs = [] := List.eq_nil_of_length_eq_zero h2
  subst h3
  simp [AL]
 | some id =>
  have hg : h.get id = some (.cells (some t) 2 (AL e (xs ++ tl))) := hok
  simp only [Option.map_some]
  by_cases h0 : xs.length = 0
  ·rw [if_pos h0]
   have : xs = [] := List.eq_nil_of_length_eq_zero h0
   subst this
   rfl
  ·rw [if_neg h0]
   unfold CB
   simp only [hg]
   rw [ha, if_pos ⟨by simp, by rw [List.length_append, hl]; omega⟩, List.drop_zero, ← hl, List.take_left]
end
end Go.Av
