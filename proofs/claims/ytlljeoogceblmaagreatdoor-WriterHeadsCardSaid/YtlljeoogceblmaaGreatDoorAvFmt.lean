/-
  Several texts in one.
-/
import Derived.Test.YtlljeoogceblmaaGreatDoorAvMap
import Derived.Test.YtlljeoogceblmaaGreatDoorAvLib
import Derived.Shelf.Strconv.Itoa3
import Derived.Lib.LaidTab
import Derived.Shelf.Strconv.Itoa1
import Derived.Shelf.Strconv.Itoa2
/-
 A part.
-/
section
namespace Go.Av
set_option linter.unusedVariables false
set_option linter.unusedSimpArgs false
def U7 (xs : List UInt8) (lo : Int) : Option Nat := if 0 ≤ lo ∧ lo.toNat ≤ xs.length then some lo.toNat else none
def putAt (xs : List UInt8) (o : Nat) (s : List UInt8) : List UInt8 := xs.take o ++ (s.take (xs.length - o) ++ xs.drop (o + s.length))
theorem KH {xs : List UInt8} {lo : Int} {o : Nat} (h : U7 xs lo = some o) : 0 ≤ lo ∧ o = lo.toNat ∧ o ≤ xs.length := by
 unfold U7 at h
 split at h
 ·rename_i hc; cases h; exact ⟨hc.1, rfl, hc.2⟩
 ·cases h
theorem CY {xs s : List UInt8} {o : Nat} (h : o ≤ xs.length) : (putAt xs o s).length = xs.length := by
 simp only [putAt, List.length_append, List.length_take, List.length_drop]
 omega
section
variable {C : Ft} {f : FuncId} {g : Gd} {h : AD} {L F : List Ck} {P : Program}
theorem HH.vw (A : HH g h L F) (k : Nat) {rid : Nat} {e : TypeId} {xs : List UInt8} (hk : L[k]? = some (.Ag (some rid) e (Ag eY xs))) {lo : Int} {o : Nat} (hx : U7 xs lo = some o) (hz : CE P e = some 1) :
  XJ P h (DT (some rid) xs.length) 1 (some lo) none = some ⟨some (rid, o), xs.length - o⟩ := by
 obtain ⟨h1, rfl, h2⟩ := KH hx
 have hg : h.get rid = some (.cells (some e) 2 (Ag eY xs)) := A.mem hk
 unfold XJ DT Tj
 simp only [Option.map_some, hg, hz, if_true]
 have : 0 ≤ lo ∧ lo ≤ (xs.length : Int) := ⟨h1, by omega⟩
 simp [this]
theorem HF (xs : List UInt8) : Ag eY xs = xs.map fun b => AB.int .u8 b.toNat := by
 induction xs with
 | nil => rfl
 | cons x r ih =>
  have : Ag eY (x :: r) = (.int .u8 x.toNat) :: Ag eY r := rfl
  rw [this, ih]; rfl
theorem HH.ZO (A : HH g h L F) (k : Nat) {rid : Nat} {e : TypeId} {xs : List UInt8} (hk : L[k]? = some (.Ag (some rid) e (Ag eY xs))) {lo : Int} {o : Nat} (hx : U7 xs lo = some o) (s : List UInt8) :
  ∃ h', aG 1 g h ⟨some (rid, o), xs.length - o⟩ s.length (.str s) = some (((min s.length (xs.length - o) : Nat) : Int), h') ∧ HH g h' (L.set k (.Ag (some rid) e (Ag eY (putAt xs o s)))) F := by
 obtain ⟨_, _, ho⟩ := KH hx
 have hg : h.get rid = some (.cells (some e) 2 (Ag eY xs)) := A.mem hk
 have hid := h.BC hg
 have hm : g.may rid = true := A.ML hk (by simp [Ck.ids])
 unfold aG Db
 simp only [if_true]
 by_cases h0 : min s.length (xs.length - o) = 0
 ·refine ⟨h, ?_, ?_⟩
  ·rw [if_pos h0, h0]; rfl
  ·have e0 : putAt xs o s = xs := by
    unfold putAt
    rcases Nat.min_eq_zero_iff.1 h0 with hs | hs
    ·rw [List.eq_nil_of_length_eq_zero hs]; simp
    ·rw [hs, List.take_zero, List.nil_append, List.take_of_length_le (by omega), List.drop_eq_nil_of_le (by omega), List.append_nil]
   rw [e0, M4 hk, ← Hs hk]
   exact A
 ·rw [if_neg h0]
  have hn : ((s.take (min s.length (xs.length - o))).map fun b => AB.int .u8 b.toNat).length = min s.length (xs.length - o) := by simp
  have hst : CN g h rid o ((s.take (min s.length (xs.length - o))).map fun b => AB.int .u8 b.toNat) = some (h.set rid (.cells (some e) 2 (Ag eY (putAt xs o s)))) := by
   unfold CN
   simp only [hg]
   rw [if_pos ⟨hm, by rw [hn, HF, List.length_map]; omega, by
    rw [List.all_eq_true]
    intro x hx'
    obtain ⟨b, _, rfl⟩ := List.mem_map.1 hx'
    rfl⟩]
   rw [show Nb (some e) ((s.take (min s.length (xs.length - o))).map fun b => AB.int .u8 b.toNat) = ((s.take (min s.length (xs.length - o))).map fun b => AB.int .u8 b.toNat) from by
    show List.map FC (List.map _ _) = _
    rw [List.map_map]
    rfl]
   congr 2
   unfold ER
   rw [hn, HF, HF, ← List.map_take, ← List.map_drop]
   unfold putAt
   rw [List.map_append, List.map_append]
   congr 2
   have e1 : s.take (min s.length (xs.length - o)) = s.take (xs.length - o) := by
    rw [Nat.min_comm, ← List.take_take, List.take_of_length_le (Nat.le_refl s.length)]
   rw [e1]
   congr 1
   rcases Nat.le_total s.length (xs.length - o) with hle | hle
   ·rw [Nat.min_eq_left hle]
   ·rw [Nat.min_eq_right hle, List.drop_eq_nil_of_le (by omega), List.drop_eq_nil_of_le (by omega)]
  refine ⟨h.set rid (.cells (some e) 2 (Ag eY (putAt xs o s))), ?_, ?_⟩
  ·simp only [hst, Option.map_some]
  ·exact A.RN hk (by simp) (fun j _ hj => h.BL _ hid (by simpa [Ck.ids] using hj)) (h.get_set_same _ hid) (fun j hj => .inl hj) (fun j hj => A.ML hk hj)
end
end Go.Av
end
/-
 A part.
-/
section
namespace Go.Av
open Go.RowKit Go.Shelf Go.Proofs Go.Lib
set_option linter.unusedVariables false
set_option linter.unusedSimpArgs false
theorem VF {P : Program} {G : Nat → Option (List AB)} {w : World} (hz : BY G w) {name : String} {g : Nat} {k : IntKind} {zs : List Int} (hg : P.globalNamed name = some g) (hG : G g = some (zs.map fun z => AB.int k z)) (h0 : zs ≠ []) : Lib.TabIs P w name k zs := by
 obtain ⟨hlt, cur, e, fz, hc, hn, hv⟩ := hz.1 g _ hG
 have hs : cur.size = zs.length := by rw [hn (by simpa using h0)]; simp
 unfold Lib.TabIs World.var?
 rw [hg, Option.bind_some, hc]
 dsimp only
 congr 1
 refine Array.ext (by simpa using hs) fun j h1 h2 => ?_
 have hj : j < zs.length := by omega
 obtain ⟨_, _, c, hcj, hr⟩ := hv j (.int k zs[j]) (by simp [hj])
 rw [hr.Bo, Array.getElem?_eq_getElem h1] at hcj
 have := Option.some.inj hcj
 simp [this]
theorem Xv {P : Program} {ρ : Ren} (L : LaysM.n171 P ρ) {G : Nat → Option (List AB)} {gn : Nat} (hg : P.globalNamed "internal/strconv.uint64pow10" = some gn) (hG : G gn = some (Lib.pow10Tab.map fun z => AB.int .u64 z)) : Es P G (ρ.f 171) fun g h args => MF h args := by
 refine Es.az fun g h args v h' hc => ?_
 have en : ∀ args w, (callFunc (ρ.f 171) args).run P w = .ok (.enter (ρ.f 171) args) w := enters_of L.f171 (by kernel_rfl) rfl
 unfold MF at hc
 split at hc
 ·rename_i n
  split at hc
  ·rename_i hb
   simp only [Option.some.injEq, Prod.mk.injEq] at hc
   obtain ⟨rfl, rfl⟩ := hc
   refine ⟨A6.refl _ _, fun w0 m w cargs hz r hv => ?_⟩
   obtain ⟨a, rfl, ha⟩ := SE hv
   obtain rfl := ha.Bo
   refine Dt en ((Any.strconv_Itoa L n hb.1 hb.2 w (VF hz hg hG (by intro e; have := congrArg List.length e; rw [Lib.pow10Tab_length] at this; simp at this))).mono ?_)
   rintro e w' ⟨rfl, k, os, rfl⟩
   refine ⟨_, rfl, m, A4.ext.refl _ _, r.later ⟨rfl, rfl, rfl, ?_, fun j hj => ?_⟩, VR.str ⟨(Lib.itoa n).toArray⟩⟩
   ·show w.heap.size ≤ (w.heap ++ os).size
    simp
   ·show (w.heap ++ os)[j]? = _
    rw [Array.getElem?_append_left hj]
  ·cases hc
 ·cases hc
section
variable {C : Ft} {km : XG} {l : List (Nat × Nat × Nat × Nat)} {g : Gd} {h : AD} {f : Nat}
theorem Hx {n : Int} (hk : C.kind f = 3) (hx : C.ext = Ms C.P km l) (hl : Hm l f = some (12, 0, 0)) (hb : decide (-9223372036854775808 ≤ n ∧ n ≤ 9223372036854775807) = true) : BB C g h f [.int .i64 n] (.str (Lib.itoa n)) h := by
 refine MJ hk hx hl ?_
 show MF h [.int .i64 n] = _
 unfold MF
 dsimp only
 rw [if_pos (of_decide_eq_true hb)]
end
end Go.Av
end
/-
 A part.
-/
section
namespace Go.Av
open Go.RowKit Go.Shelf Go.Proofs Go.Lib Go.Sort
set_option linter.unusedVariables false
set_option linter.unusedSimpArgs false
theorem Yy {P : Program} {ρ : Ren} (L : LaysM.n284 P ρ) {G : Nat → Option (List AB)} {gn : Nat} (hg : P.globalNamed "internal/strconv.uint64pow10" = some gn) (hG : G gn = some (Lib.pow10Tab.map fun z => AB.int .u64 z)) : Es P G (ρ.f 284) fun g h args => OM h args := by
 refine Es.az fun g h args v h' hc => ?_
 have en : ∀ args w, (callFunc (ρ.f 284) args).run P w = .ok (.enter (ρ.f 284) args) w := enters_of L.f284 (by kernel_rfl) rfl
 unfold OM at hc
 split at hc
 ·rename_i u
  split at hc
  ·rename_i hb
   simp only [Option.some.injEq, Prod.mk.injEq] at hc
   obtain ⟨rfl, rfl⟩ := hc
   refine ⟨A6.refl _ _, fun w0 m w cargs hz r hv => ?_⟩
   obtain ⟨a, rfl, ha⟩ := SE hv
   obtain rfl := ha.Bo
   have hu : ((u.toNat : Nat) : Int) = u := Int.toNat_of_nonneg (by omega)
   refine Dt en ?_
   have hk := Any.internal_strconv_numDigits L u.toNat (by omega) (by omega) w (VF hz hg hG (by intro e; have := congrArg List.length e; rw [Lib.pow10Tab_length] at this; simp at this))
   rw [hu] at hk
   refine hk.mono ?_
   rintro e w' ⟨rfl, rfl⟩
   exact ⟨_, rfl, m, A4.ext.refl _ _, r, VR.int _ _⟩
  ·cases hc
 ·cases hc
theorem Yw {a : AB} (h : aL a = true) : ∃ b : UInt8, a = .int .u8 (b.toNat : Int) := by
 unfold aL at h
 split at h
 ·rename_i k
  have h := of_decide_eq_true h
  refine ⟨UInt8.ofNat k.toNat, ?_⟩
  rw [UInt8.toNat_ofNat_of_lt' (by show k.toNat < 256; omega), Int.toNat_of_nonneg h.1]
 ·cases h
theorem ZD {P : Program} {ρ : Ren} (L : Lays.n285 P ρ) (G : Nat → Option (List AB)) : Es P G (ρ.f 285) fun g h args => OU g h args := by
 refine Es.of fun g h args v h' hc => ?_
 have en : ∀ args w, (callFunc (ρ.f 285) args).run P w = .ok (.enter (ρ.f 285) args) w := enters_of L.f285 (by kernel_rfl) rfl
 unfold OU at hc
 split at hc
 ·rename_i id n u
  split at hc
  ·rename_i hf
   unfold Pu at hf
   obtain ⟨hn0, hn24, hu0, hu64, hun⟩ := of_decide_eq_true hf
   split at hc
   ·rename_i gr cs ho
    split at hc
    ·rename_i hg
     obtain ⟨hmay, hlen, hy⟩ := hg
     simp only [Option.some.injEq, Prod.mk.injEq] at hc
     obtain ⟨rfl, rfl⟩ := hc
     have hu64' : u.toNat < 18446744073709551616 := by omega
     refine ⟨A6.set ho hmay, fun w0 m w cargs rr hv => ?_⟩
     obtain ⟨x', y', rfl, hx, hy'⟩ := Kd hv
     obtain rfl := hy'.Bo
     refine Dt en ?_
     cases hx with
     | slice _ _ _ cap E a hE hle hcp =>
      obtain ⟨rfl, _⟩ := hcp (by omega)
      obtain ⟨hb1, hb2⟩ := rr.obj id E _ hE ho
      obtain ⟨cur, e, fz, g1, g2, g3, g4⟩ := hb2 (by omega)
      have hfz := g4 rfl
      have hat : ∀ j, j < n → ∃ b : UInt8, cur[E.base + j]? = some (.int .u8 (b.toNat : Int)) := fun j hj => by
       have hj' : j < cs.length := by omega
       rw [List.all_eq_true] at hy
       obtain ⟨b, hb⟩ := Yw (hy cs[j] (by rw [List.mem_iff_getElem]; exact ⟨j, by rw [List.length_take]; omega, by rw [List.getElem_take]⟩))
       obtain ⟨_, c, c1, c2⟩ := g3 j _ (List.getElem?_eq_getElem hj')
       rw [hb] at c2
       rw [c1, c2.Bo]
       exact ⟨b, rfl⟩
      obtain ⟨d, hd, hdat⟩ : ∃ d : Array UInt8, d.size = n ∧ ∀ j, j < n → cur[E.base + j]? = some (.int .u8 ((d[j]!).toNat : Int)) := by
       refine ⟨Array.ofFn fun j : Fin n => (hat j.1 j.2).choose, by simp, fun j hj => ?_⟩
       rw [getElem!_pos _ j (by simpa using hj), Array.getElem_ofFn]
       exact (hat j hj).choose_spec
      have hH : Holds (fun (b : UInt8) => Value.int .u8 (b.toNat : Int)) w E.g (E.base + 0) d := by
       intro j hj
       rw [hd] at hj
       have hc := hdat j hj
       have hlt := (Array.getElem?_eq_some_iff.1 hc).1
       refine ⟨?_, ?_⟩
       ·simp only [World.cell?, g1, Option.isSome_none, Bool.false_eq_true, if_false, Nat.add_zero]
        exact hc
       ·simp only [World.frozen?, g1, Nat.add_zero]
        have := hfz.no (E.base + j) (by omega)
        simp only [Bool.and_eq_false_iff, decide_eq_false_iff_not]
        omega
      have hk := Any.internal_strconv_formatBase10 L E.g (E.base + 0) cap u.toNat d w hH (by rw [hd]; exact hun) hu64' (by rw [hd]; exact Nat.lt_of_le_of_lt hn24 (by decide))
      rw [hd, Int.toNat_of_nonneg hu0] at hk
      refine hk.mono ?_
      rintro e' w' ⟨rfl, n', v', dk, rfl, inv⟩
      have hsz := inv.size
      have hdg : ∀ j, j < n → dk[j]! = Lib.dg u.toNat (n - 1 - j) := fun j hj => inv.done j (Nat.zero_le _) hj
      refine ⟨_, rfl, m, A4.ext.refl _ _, ?_, .tuple [] #[] rfl (fun i x y hx => by simp at hx)⟩
      have hheap : ((putRow (fun (b : UInt8) => Value.int .u8 (b.toNat : Int)) w E.g (E.base + 0) dk).drewN n').heap[E.g]? = some (.cells (putCells (fun (b : UInt8) => Value.int .u8 (b.toNat : Int)) (E.base + 0) dk cur) e fz) := by
       show (w.heap.modify E.g _)[E.g]? = _
       rw [Array.getElem?_modify, if_pos rfl, g1]
       rfl
      refine rr.write hE ho rfl rfl ⟨rfl, rfl, rfl, ?_, fun k hk hne => ?_⟩ ⟨⟨⟨hb1.1.1, fun h => by omega⟩, hb1.2⟩, fun _ => ⟨_, e, fz, hheap, ?_, fun j a ha => ?_, fun _ => hfz⟩⟩
      ·show w.heap.size ≤ (w.heap.modify E.g _).size
       simp
      ·show (w.heap.modify E.g _)[k]? = _
       rw [Array.getElem?_modify, if_neg (fun e => hne e.symm)]
      ·simp [putCells, g2]
      ·by_cases hj : j < n
       ·rw [List.getElem?_append_left (by simp [I3]; exact hj)] at ha
        rw [List.getElem?_map] at ha
        have hg : (I3 n u.toNat)[j]? = some (Lib.dg u.toNat (n - 1 - j)) := by
         unfold I3
         rw [List.getElem?_map, List.getElem?_range hj]; rfl
        rw [hg, Option.map_some] at ha
        injection ha with ha
        subst ha
        refine ⟨rfl, .int .u8 ((Lib.dg u.toNat (n - 1 - j)).toNat : Int), ?_, .int _ _⟩
        have hlt := (Array.getElem?_eq_some_iff.1 (hdat j hj)).1
        unfold putCells
        rw [Array.getElem?_mapIdx, Array.getElem?_eq_getElem hlt, Option.map_some, if_pos ⟨by omega, by omega⟩]
        rw [show E.base + j - (E.base + 0) = j by omega, hdg j hj]
       ·have hlen2 : ((I3 n u.toNat).map (fun b => AB.int .u8 (b.toNat : Int))).length = n := by simp [I3]
        rw [List.getElem?_append_right (by omega), hlen2, List.getElem?_drop, show n + (j - n) = j by omega] at ha
        obtain ⟨a1, c, c1, c2⟩ := g3 j a ha
        refine ⟨a1, c, ?_, c2⟩
        unfold putCells
        rw [Array.getElem?_mapIdx, c1, Option.map_some, if_neg (by omega)]
    ·cases hc
   ·cases hc
  ·cases hc
 ·cases hc
def Ur (n : Nat) (i : Int) : Option Nat := if 0 ≤ i ∧ i ≤ n then some i.toNat else none
section
variable {C : Ft} {km : XG} {l : List (Nat × Nat × Nat × Nat)} {g : Gd} {h : AD} {f : Nat} {L F : List Ck}
theorem X9 {u : Int} (hk : C.kind f = 3) (hx : C.ext = Ms C.P km l) (hl : Hm l f = some (13, 0, 0)) (hb : decide (1 ≤ u ∧ u < 18446744073709551616) = true) : BB C g h f [.int .u64 u] (.int .i64 (Lib.nDigits u.toNat : Nat)) h := by
 refine MJ hk hx hl ?_
 show OM h [.int .u64 u] = _
 unfold OM
 dsimp only
 rw [if_pos (of_decide_eq_true hb)]
theorem HH.Zs (A : HH g h L F) (k : Nat) {id n : Nat} {cs : List AB} (hk : L[k]? = some (.obj id (.cells none 2 cs))) {i : Int} {x : Nat} (hx : Ur n i = some x) : X6 h (id, 0) n 1 none (some i) = some ⟨some (id, 0), x⟩ := by
 unfold Ur at hx
 split at hx
 ·rename_i hi
  cases hx
  unfold X6 Tj
  rw [A.get k hk]
  simp [hi]
 ·cases hx
theorem Xz (xs : List UInt8) : (Ag eY xs).all aL = true := by
 rw [HF, List.all_eq_true]
 intro a ha
 obtain ⟨b, _, rfl⟩ := List.mem_map.1 ha
 have := b.toNat_lt
 exact decide_eq_true ⟨by omega, by omega⟩
theorem PU (xs : List UInt8) (n : Nat) : (Ag eY xs).take n = Ag eY (xs.take n) := by rw [HF, HF, List.map_take]
theorem Un (xs : List UInt8) (n : Nat) : (Ag eY xs).drop n = Ag eY (xs.drop n) := by rw [HF, HF, List.map_drop]
theorem HH.fmt {id x : Nat} {u : Int} {xs : List UInt8} (A : HH g h (.obj id (.cells none 2 (Ag eY xs)) :: L) F) (hk : C.kind f = 3) (hx : C.ext = Ms C.P km l) (hl : Hm l f = some (14, 0, 0)) (hf : (Pu x u && decide (x ≤ xs.length)) = true) :
  ∃ h', BB C g h f [.slice (some (id, 0)) x, .int .u64 u] (.tuple []) h' ∧ HH g h' (.obj id (.cells none 2 (Ag eY (I3 x u.toNat ++ xs.drop x))) :: L) F := by
 rw [Bool.and_eq_true] at hf
 have hg : h.get id = some (.cells none 2 (Ag eY xs)) := A.get 0 rfl
 have hm : g.may id = true := A.ML (k := 0) rfl (by simp [Ck.ids])
 have hl2 : (Ag eY xs).length = xs.length := by rw [HF, List.length_map]
 have e : (I3 x u.toNat).map (fun b => AB.int .u8 (b.toNat : Int)) ++ (Ag eY xs).drop x = Ag eY (I3 x u.toNat ++ xs.drop x) := by
  rw [Un, HF, HF, List.map_append]
 refine ⟨_, MJ hk hx hl (h' := h.set id (.cells none 2 (Ag eY (I3 x u.toNat ++ xs.drop x)))) ?_, A.set 0 _ rfl⟩
 show OU g h [.slice (some (id, 0)) x, .int .u64 u] = _
 unfold OU
 simp only [hf.1, hg, if_true]
 rw [if_pos ⟨hm, by rw [hl2]; exact of_decide_eq_true hf.2, by rw [PU]; exact Xz _⟩, e]
theorem HH.Y2 (A : HH g h L F) (k : Nat) {id x : Nat} {xs : List UInt8} (hk : L[k]? = some (.obj id (.cells none 2 (Ag eY xs)))) (hx : x ≤ xs.length) : Db h 1 (xs.take x).length (.slice (some (id, 0)) (xs.take x).length) = some (Ag eY (xs.take x)) := by
 have hn : (xs.take x).length = x := by rw [List.length_take]; omega
 have hg := A.get k hk
 unfold Db
 rw [hn]
 by_cases h0 : x = 0
 ·subst h0; simp [hg, Ag]
 ·simp only [if_neg h0, hg]
  unfold CM
  simp only [Nat.mul_one]
  rw [if_pos ⟨by omega, by rw [HF, List.length_map]; omega⟩, List.drop_zero, PU]
end
end Go.Av
end
