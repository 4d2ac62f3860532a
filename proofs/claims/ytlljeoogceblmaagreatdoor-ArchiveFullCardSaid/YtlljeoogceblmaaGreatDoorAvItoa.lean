/-
  Several texts in one.
-/
import Derived.Test.YtlljeoogceblmaaGreatDoorAvMap
import Derived.Test.YtlljeoogceblmaaGreatDoorAvLib
import Derived.Shelf.Strconv.Itoa3
import Derived.Lib.LaidTab
/-
 A part.
-/
section
namespace Go.Av
set_option linter.unusedVariables false
set_option linter.unusedSimpArgs false
def TJ (xs : List UInt8) (lo : Int) : Option Nat := if 0 ≤ lo ∧ lo.toNat ≤ xs.length then some lo.toNat else none
def putAt (xs : List UInt8) (o : Nat) (s : List UInt8) : List UInt8 := xs.take o ++ (s.take (xs.length - o) ++ xs.drop (o + s.length))
theorem KP {xs : List UInt8} {lo : Int} {o : Nat} (h : TJ xs lo = some o) : 0 ≤ lo ∧ o = lo.toNat ∧ o ≤ xs.length := by
 unfold TJ at h
 split at h
 ·rename_i hc; cases h; exact ⟨hc.1, rfl, hc.2⟩
 ·cases h
theorem Cs {xs s : List UInt8} {o : Nat} (h : o ≤ xs.length) : (putAt xs o s).length = xs.length := by
 simp only [putAt, List.length_append, List.length_take, List.length_drop]
 omega
section
variable {C : E8} {f : FuncId} {g : Gd} {h : AF} {L F : List Ck} {P : Program}
theorem HH.vw (A : HH g h L F) (k : Nat) {rid : Nat} {e : TypeId} {xs : List UInt8} (hk : L[k]? = some (.AQ (some rid) e (AQ eY xs))) {lo : Int} {o : Nat} (H : TJ xs lo = some o) (E : CQ P e = some 1) :
  Vj P h (CF (some rid) xs.length) 1 (some lo) none = some ⟨some (rid, o), xs.length - o⟩ := by
 obtain ⟨h1, rfl, h2⟩ := KP H
 have D : h.get rid = some (.cells (some e) 2 (AQ eY xs)) := A.mem hk
 unfold Vj CF RD
 simp only [Option.map_some, D, E, if_true]
 have : 0 ≤ lo ∧ lo ≤ (xs.length : Int) := ⟨h1, by omega⟩
 simp [this]
theorem RG (xs : List UInt8) : AQ eY xs = xs.map fun b => AB.int .u8 b.toNat := by
 induction xs with
 | nil => rfl
 | cons x r ih =>
  have : AQ eY (x :: r) = (.int .u8 x.toNat) :: AQ eY r := rfl
  rw [this, ih]; rfl
theorem HH.Wi (A : HH g h L F) (k : Nat) {rid : Nat} {e : TypeId} {xs : List UInt8} (hk : L[k]? = some (.AQ (some rid) e (AQ eY xs))) {lo : Int} {o : Nat} (H : TJ xs lo = some o) (s : List UInt8) :
  ∃ h', Yc 1 g h ⟨some (rid, o), xs.length - o⟩ s.length (.str s) = some (((min s.length (xs.length - o) : Nat) : Int), h') ∧ HH g h' (L.set k (.AQ (some rid) e (AQ eY (putAt xs o s)))) F := by
 obtain ⟨_, _, ho⟩ := KP H
 have D : h.get rid = some (.cells (some e) 2 (AQ eY xs)) := A.mem hk
 have hid := h.BV D
 have hm : g.may rid = true := A.Jf hk (by simp [Ck.ids])
 unfold Yc Cg
 simp only [if_true]
 by_cases h0 : min s.length (xs.length - o) = 0
 ·refine ⟨h, ?_, ?_⟩
  ·rw [if_pos h0, h0]; rfl
  ·have e0 : putAt xs o s = xs := by
    unfold putAt
    rcases Nat.min_eq_zero_iff.1 h0 with I | I
    ·rw [List.eq_nil_of_length_eq_zero I]; simp
    ·rw [I, List.take_zero, List.nil_append, List.take_of_length_le (by omega), List.drop_eq_nil_of_le (by omega), List.append_nil]
   rw [e0, HG hk, ← FJ hk]
   exact A
 ·rw [if_neg h0]
  have K : ((s.take (min s.length (xs.length - o))).map fun b => AB.int .u8 b.toNat).length = min s.length (xs.length - o) := by simp
  have hst : Ci g h rid o ((s.take (min s.length (xs.length - o))).map fun b => AB.int .u8 b.toNat) = some (h.set rid (.cells (some e) 2 (AQ eY (putAt xs o s)))) := by
   unfold Ci
   simp only [D]
   rw [if_pos ⟨hm, by rw [K, RG, List.length_map]; omega, by
    rw [List.all_eq_true]
    intro x hx'
    obtain ⟨b, _, rfl⟩ := List.mem_map.1 hx'
    rfl⟩]
   rw [show LU (some e) ((s.take (min s.length (xs.length - o))).map fun b => AB.int .u8 b.toNat) = ((s.take (min s.length (xs.length - o))).map fun b => AB.int .u8 b.toNat) from by
    show List.map Em (List.map _ _) = _
    rw [List.map_map]
    rfl]
   congr 2
   unfold Ds
   rw [K, RG, RG, ← List.map_take, ← List.map_drop]
   unfold putAt
   rw [List.map_append, List.map_append]
   congr 2
   have e1 : s.take (min s.length (xs.length - o)) = s.take (xs.length - o) := by
    rw [Nat.min_comm, ← List.take_take, List.take_of_length_le (Nat.le_refl s.length)]
   rw [e1]
   congr 1
   rcases Nat.le_total s.length (xs.length - o) with hle | hle
   ·rw [Nat.min_eq_left hle]
   ·rw [Nat.min_eq_right hle, List.drop_eq_nil_of_le (by omega), List.drop_eq_nil_of_le (by omega)]
  refine ⟨h.set rid (.cells (some e) 2 (AQ eY (putAt xs o s))), ?_, ?_⟩
  ·simp only [hst, Option.map_some]
  ·exact A.Mz hk (by simp) (fun j _ B => h.Bc _ hid (by simpa [Ck.ids] using B)) (h.get_set_same _ hid) (fun j B => .inl B) (fun j B => A.Jf hk B)
end
end Go.Av
end
/-
 A part.
-/
section
namespace Go.Av
open Go.RowKit Go.Shelf Go.Proofs Go.Lib
set_option linter.unusedVariables false
set_option linter.unusedSimpArgs false
theorem Wn {P : Program} {G : Nat → Option (List AB)} {w : World} (E : Bt G w) {name : String} {g : Nat} {k : IntKind} {zs : List Int} (D : P.globalNamed name = some g) (O : G g = some (zs.map fun z => AB.int k z)) (h0 : zs ≠ []) : Lib.TabIs P w name k zs := by
 obtain ⟨hlt, cur, e, fz, hc, K, N⟩ := E.1 g _ O
 have I : cur.size = zs.length := by rw [K (by simpa using h0)]; simp
 unfold Lib.TabIs World.var?
 rw [D, Option.bind_some, hc]
 dsimp only
 congr 1
 refine Array.ext (by simpa using I) fun j h1 h2 => ?_
 have B : j < zs.length := by omega
 obtain ⟨_, _, c, J, hr⟩ := N j (.int k zs[j]) (by simp [B])
 rw [hr.Cd, Array.getElem?_eq_getElem h1] at J
 have := Option.some.inj J
 simp [this]
theorem Ve {P : Program} {ρ : Ren} (L : LaysM.n171 P ρ) {G : Nat → Option (List AB)} {gn : Nat} (D : P.globalNamed "internal/strconv.uint64pow10" = some gn) (O : G gn = some (Lib.pow10Tab.map fun z => AB.int .u64 z)) : En P G (ρ.f 171) fun g h args => Lt h args := by
 refine En.ZY fun g h args v h' hc => ?_
 have en : ∀ args w, (callFunc (ρ.f 171) args).run P w = .ok (.enter (ρ.f 171) args) w := enters_of L.f171 (by kernel_rfl) rfl
 unfold Lt at hc
 split at hc
 ·rename_i n
  split at hc
  ·rename_i M
   simp only [Option.some.injEq, Prod.mk.injEq] at hc
   obtain ⟨rfl, rfl⟩ := hc
   refine ⟨BF.refl _ _, fun w0 m w cargs E r N => ?_⟩
   obtain ⟨a, rfl, ha⟩ := QR N
   obtain rfl := ha.Cd
   refine Dj en ((Any.strconv_Itoa L n M.1 M.2 w (Wn E D O (by intro e; have := congrArg List.length e; rw [Lib.pow10Tab_length] at this; simp at this))).mono ?_)
   rintro e w' ⟨rfl, k, os, rfl⟩
   refine ⟨_, rfl, m, BK.ext.refl _ _, r.later ⟨rfl, rfl, rfl, ?_, fun j B => ?_⟩, VR.str ⟨(Lib.itoa n).toArray⟩⟩
   ·show w.heap.size ≤ (w.heap ++ os).size
    simp
   ·show (w.heap ++ os)[j]? = _
    rw [Array.getElem?_append_left B]
  ·cases hc
 ·cases hc
section
variable {C : E8} {km : WD} {l : List (Nat × Nat × Nat × Nat)} {g : Gd} {h : AF} {f : Nat}
theorem J7 {n : Int} (hk : C.kind f = 3) (H : C.ext = MM C.P km l) (hl : Hg l f = some (12, 0, 0)) (M : decide (-9223372036854775808 ≤ n ∧ n ≤ 9223372036854775807) = true) : BZ C g h f [.int .i64 n] (.str (Lib.itoa n)) h := by
 refine K1 hk H hl ?_
 show Lt h [.int .i64 n] = _
 unfold Lt
 dsimp only
 rw [if_pos (of_decide_eq_true M)]
end
end Go.Av
end
