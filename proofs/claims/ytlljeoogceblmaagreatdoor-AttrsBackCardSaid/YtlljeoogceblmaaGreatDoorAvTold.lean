/-
  Several texts in one.
-/
import Derived.Test.YtlljeoogceblmaaGreatDoorAvMap
import Derived.Test.YtlljeoogceblmaaGreatDoorAvLib
import Derived.Shelf.Strconv.Itoa3
import Derived.Lib.LaidTab
import Derived.Shelf.SlSortCmp.NoneTotal
import Derived.Shelf.Small.Strs
import Derived.Test.YtlljeoogceblmaaGreatDoorAvWalk
/-
 A part.
-/
section
namespace Go.Av
set_option linter.unusedVariables false
set_option linter.unusedSimpArgs false
def Ut (xs : List UInt8) (lo : Int) : Option Nat := if 0 ≤ lo ∧ lo.toNat ≤ xs.length then some lo.toNat else none
def putAt (xs : List UInt8) (o : Nat) (s : List UInt8) : List UInt8 := xs.take o ++ (s.take (xs.length - o) ++ xs.drop (o + s.length))
theorem Jx {xs : List UInt8} {lo : Int} {o : Nat} (h : Ut xs lo = some o) : 0 ≤ lo ∧ o = lo.toNat ∧ o ≤ xs.length := by
 unfold Ut at h
 split at h
 ·rename_i hc; cases h; exact ⟨hc.1, rfl, hc.2⟩
 ·cases h
theorem CG {xs s : List UInt8} {o : Nat} (h : o ≤ xs.length) : (putAt xs o s).length = xs.length := by
 simp only [putAt, List.length_append, List.length_take, List.length_drop]
 omega
section
variable {C : FY} {f : FuncId} {g : Gd} {h : AD} {L F : List Ck} {P : Program}
theorem HH.vw (A : HH g h L F) (k : Nat) {rid : Nat} {e : TypeId} {xs : List UInt8} (hk : L[k]? = some (.Ak (some rid) e (Ak eY xs))) {lo : Int} {o : Nat} (hx : Ut xs lo = some o) (hz : Bq P e = some 1) :
  Wu P h (EF (some rid) xs.length) 1 (some lo) none = some ⟨some (rid, o), xs.length - o⟩ := by
 obtain ⟨h1, rfl, h2⟩ := Jx hx
 have hg : h.get rid = some (.cells (some e) 2 (Ak eY xs)) := A.mem hk
 unfold Wu EF Ua
 simp only [Option.map_some, hg, hz, if_true]
 have : 0 ≤ lo ∧ lo ≤ (xs.length : Int) := ⟨h1, by omega⟩
 simp [this]
theorem Sj (xs : List UInt8) : Ak eY xs = xs.map fun b => AA.int .u8 b.toNat := by
 induction xs with
 | nil => rfl
 | cons x r ih =>
  have : Ak eY (x :: r) = (.int .u8 x.toNat) :: Ak eY r := rfl
  rw [this, ih]; rfl
theorem HH.Y7 (A : HH g h L F) (k : Nat) {rid : Nat} {e : TypeId} {xs : List UInt8} (hk : L[k]? = some (.Ak (some rid) e (Ak eY xs))) {lo : Int} {o : Nat} (hx : Ut xs lo = some o) (s : List UInt8) :
  ∃ h', aK 1 g h ⟨some (rid, o), xs.length - o⟩ s.length (.str s) = some (((min s.length (xs.length - o) : Nat) : Int), h') ∧ HH g h' (L.set k (.Ak (some rid) e (Ak eY (putAt xs o s)))) F := by
 obtain ⟨_, _, ho⟩ := Jx hx
 have hg : h.get rid = some (.cells (some e) 2 (Ak eY xs)) := A.mem hk
 have hid := h.Ay hg
 have hm : g.may rid = true := A.K5 hk (by simp [Ck.ids])
 unfold aK DC
 simp only [if_true]
 by_cases h0 : min s.length (xs.length - o) = 0
 ·refine ⟨h, ?_, ?_⟩
  ·rw [if_pos h0, h0]; rfl
  ·have e0 : putAt xs o s = xs := by
    unfold putAt
    rcases Nat.min_eq_zero_iff.1 h0 with hs | hs
    ·rw [List.eq_nil_of_length_eq_zero hs]; simp
    ·rw [hs, List.take_zero, List.nil_append, List.take_of_length_le (by omega), List.drop_eq_nil_of_le (by omega), List.append_nil]
   rw [e0, MQ hk, ← HO hk]
   exact A
 ·rw [if_neg h0]
  have hn : ((s.take (min s.length (xs.length - o))).map fun b => AA.int .u8 b.toNat).length = min s.length (xs.length - o) := by simp
  have hst : CA g h rid o ((s.take (min s.length (xs.length - o))).map fun b => AA.int .u8 b.toNat) = some (h.set rid (.cells (some e) 2 (Ak eY (putAt xs o s)))) := by
   unfold CA
   simp only [hg]
   rw [if_pos ⟨hm, by rw [hn, Sj, List.length_map]; omega, by
    rw [List.all_eq_true]
    intro x hx'
    obtain ⟨b, _, rfl⟩ := List.mem_map.1 hx'
    rfl⟩]
   rw [show Kw (some e) ((s.take (min s.length (xs.length - o))).map fun b => AA.int .u8 b.toNat) = ((s.take (min s.length (xs.length - o))).map fun b => AA.int .u8 b.toNat) from by
    show List.map EV (List.map _ _) = _
    rw [List.map_map]
    rfl]
   congr 2
   unfold DT
   rw [hn, Sj, Sj, ← List.map_take, ← List.map_drop]
   unfold putAt
   rw [List.map_append, List.map_append]
   congr 2
   have e1 : s.take (min s.length (xs.length - o)) = s.take (xs.length - o) := by
    rw [Nat.min_comm, ← List.take_take, List.take_of_length_le (Nat.le_refl s.length)]
   rw [e1]
   congr 1
   rcases Nat.le_total s.length (xs.length - o) with hle | hle
   ·rw [Nat.min_eq_left hle]
   ·rw [Nat.min_eq_right hle, List.drop_eq_nil_of_le (by omega), List.drop_eq_nil_of_le (by omega)]
  refine ⟨h.set rid (.cells (some e) 2 (Ak eY (putAt xs o s))), ?_, ?_⟩
  ·simp only [hst, Option.map_some]
  ·exact A.Ov hk (by simp) (fun j _ hj => h.A8 _ hid (by simpa [Ck.ids] using hj)) (h.get_set_same _ hid) (fun j hj => .inl hj) (fun j hj => A.K5 hk hj)
end
end Go.Av
end
/-
 A part.
-/
section
namespace Go.Av
open Go.RowKit Go.Shelf Go.Proofs Go.Lib
set_option linter.unusedVariables false
set_option linter.unusedSimpArgs false
theorem Yq {P : Program} {G : Nat → Option (List AA)} {w : World} (hz : BE G w) {name : String} {g : Nat} {k : IntKind} {zs : List Int} (hg : P.globalNamed name = some g) (hG : G g = some (zs.map fun z => AA.int k z)) (h0 : zs ≠ []) : Lib.TabIs P w name k zs := by
 obtain ⟨hlt, cur, e, fz, hc, hn, hv⟩ := hz.1 g _ hG
 have hs : cur.size = zs.length := by rw [hn (by simpa using h0)]; simp
 unfold Lib.TabIs World.var?
 rw [hg, Option.bind_some, hc]
 dsimp only
 congr 1
 refine Array.ext (by simpa using hs) fun j h1 h2 => ?_
 have hj : j < zs.length := by omega
 obtain ⟨_, _, c, hcj, hr⟩ := hv j (.int k zs[j]) (by simp [hj])
 rw [hr.B8, Array.getElem?_eq_getElem h1] at hcj
 have := Option.some.inj hcj
 simp [this]
theorem Wz {P : Program} {ρ : Ren} (L : LaysM.n171 P ρ) {G : Nat → Option (List AA)} {gn : Nat} (hg : P.globalNamed "internal/strconv.uint64pow10" = some gn) (hG : G gn = some (Lib.pow10Tab.map fun z => AA.int .u64 z)) : Er P G (ρ.f 171) fun g h args => Ls h args := by
 refine Er.bZ fun g h args v h' hc => ?_
 have en : ∀ args w, (callFunc (ρ.f 171) args).run P w = .ok (.enter (ρ.f 171) args) w := enters_of L.f171 (by kernel_rfl) rfl
 unfold Ls at hc
 split at hc
 ·rename_i n
  split at hc
  ·rename_i hb
   simp only [Option.some.injEq, Prod.mk.injEq] at hc
   obtain ⟨rfl, rfl⟩ := hc
   refine ⟨Ap.refl _ _, fun w0 m w cargs hz r hv => ?_⟩
   obtain ⟨a, rfl, ha⟩ := RL hv
   obtain rfl := ha.B8
   refine Dz en ((Any.strconv_Itoa L n hb.1 hb.2 w (Yq hz hg hG (by intro e; have := congrArg List.length e; rw [Lib.pow10Tab_length] at this; simp at this))).mono ?_)
   rintro e w' ⟨rfl, k, os, rfl⟩
   refine ⟨_, rfl, m, Aq.ext.refl _ _, r.later ⟨rfl, rfl, rfl, ?_, fun j hj => ?_⟩, VR.str ⟨(Lib.itoa n).toArray⟩⟩
   ·show w.heap.size ≤ (w.heap ++ os).size
    simp
   ·show (w.heap ++ os)[j]? = _
    rw [Array.getElem?_append_left hj]
  ·cases hc
 ·cases hc
section
variable {C : FY} {km : Xx} {l : List (Nat × Nat × Nat × Nat)} {g : Gd} {h : AD} {f : Nat}
theorem J7 {n : Int} (hk : C.kind f = 3) (hx : C.ext = M5 C.P km l) (hl : Hn l f = some (12, 0, 0)) (hb : decide (-9223372036854775808 ≤ n ∧ n ≤ 9223372036854775807) = true) : BH C g h f [.int .i64 n] (.str (Lib.itoa n)) h := by
 refine LJ hk hx hl ?_
 show Ls h [.int .i64 n] = _
 unfold Ls
 dsimp only
 rw [if_pos (of_decide_eq_true hb)]
end
end Go.Av
end
/-
 A part.
-/
section
namespace Go.Av
open Go.RowKit Go.Shelf Go.Proofs Go.Lib Go.Sort
set_option linter.unusedVariables false
set_option linter.unusedSimpArgs false
theorem Ud {P : Program} {f : FuncId} {fn : Func} {c : Code} (hf : P.funcs[f]? = some fn) (hname : (fn.name == "runtime.NumGoroutine") = false) (hb : fn.body = some c) : ∀ args w, (callFunc f args).run P w = .ok (.enter f args) w := enters_of hf hname hb
theorem U8 : ∀ a b : List UInt8, compareBytes a b < 0 ↔ a < b
 | [], [] => by simp [compareBytes]
 | [], _ :: _ => by simp [compareBytes]
 | _ :: _, [] => by simp [compareBytes]
 | a :: x, b :: y => by
  unfold compareBytes
  rw [List.cons_lt_cons_iff]
  by_cases h1 : a < b
  ·simp [h1]
  ·rw [if_neg h1]
   by_cases h2 : b < a
   ·rw [if_pos h2]
    have h3 : ¬ a = b := by rintro rfl; exact h1 h2
    simp [h1, h3]
   ·rw [if_neg h2, U8 x y]
    have h3 : a = b := UInt8.le_antisymm (UInt8.not_lt.1 h2) (UInt8.not_lt.1 h1)
    simp [h1, h3]
abbrev aN : IF → IF → Int := fun x y => compareBytes x.1 y.1
theorem aR (x y : IF) : ltOf aN x y = decide (x.1 < y.1) := by
 unfold ltOf aN
 rw [decide_eq_decide]
 exact U8 _ _
theorem az : SWO (ltOf aN) where
 irrefl x := by rw [aR]; simp
 trans x y z h1 h2 := by rw [aR] at *; simp only [decide_eq_true_eq] at *; exact List.lt_trans h1 h2
 ntrans x y z h1 h2 := by rw [aR] at *; simp only [decide_eq_false_iff_not, List.not_lt] at *; exact List.le_trans h2 h1
theorem MV (x : IF) : ∀ l, (R7 x l).Perm (x :: l)
 | [] => .refl _
 | y :: l => by
  unfold R7
  split
  ·exact .refl _
  ·exact ((MV x l).cons y).trans (.swap x y l)
theorem GH : ∀ l, (E7 l).Perm l
 | [] => .refl _
 | x :: l => (MV x _).trans ((GH l).cons x)
theorem Ra (x : IF) : ∀ {l}, l.Pairwise (fun a b : IF => a.1 ≤ b.1) → (R7 x l).Pairwise fun a b : IF => a.1 ≤ b.1
 | [], _ => by simp [R7]
 | y :: l, h => by
  obtain ⟨h1, h2⟩ := List.pairwise_cons.1 h
  unfold R7
  split
  ·rename_i hx
   refine List.pairwise_cons.2 ⟨fun z hz => ?_, h⟩
   rcases List.mem_cons.1 hz with rfl | hz
   ·exact hx
   ·exact List.le_trans hx (h1 z hz)
  ·rename_i hx
   refine List.pairwise_cons.2 ⟨fun z hz => ?_, Ra x h2⟩
   rcases List.mem_cons.1 ((MV x l).mem_iff.1 hz) with rfl | hz
   ·exact (List.le_total _ _).resolve_left hx
   ·exact h1 z hz
theorem MP : ∀ l, (E7 l).Pairwise fun a b : IF => a.1 ≤ b.1
 | [] => .nil
 | x :: l => Ra x (MP l)
theorem Rr : ∀ {l : List IF}, LX l = true → ∀ x ∈ l, ∀ y ∈ l, x.1 = y.1 → x = y
 | [], _, x, hx, _, _, _ => by cases hx
 | z :: l, h, x, hx, y, hy, e => by
  unfold LX at h
  rw [Bool.and_eq_true, List.all_eq_true] at h
  have no : ∀ u ∈ l, u.1 ≠ z.1 := fun u hu e => by have := h.1 u hu; rw [e] at this; simp at this
  rcases List.mem_cons.1 hx with hx1 | hx1
  ·rcases List.mem_cons.1 hy with hy1 | hy1
   ·rw [hx1, hy1]
   ·exact absurd (e.symm.trans (by rw [hx1])) (no y hy1)
  ·rcases List.mem_cons.1 hy with hy1 | hy1
   ·exact absurd (e.trans (by rw [hy1])) (no x hx1)
   ·exact Rr h.2 x hx1 y hy1 e
theorem Uv {l d : List IF} (hp : d.Perm l) (hs : d.Pairwise fun a b : IF => ¬ b.1 < a.1) (hd : LX l = true) : d = E7 l := by
 refine List.Perm.eq_of_pairwise (le := fun a b : IF => a.1 ≤ b.1) (fun a b ha hb h1 h2 => ?_) (hs.imp fun h => List.not_lt.1 h) (MP l) (hp.trans (GH l).symm)
 exact Rr hd a (hp.mem_iff.1 ha) b ((GH l).mem_iff.1 hb) (List.le_antisymm h1 h2)
theorem PY {α : Type} (fw : α → IF) (bw : IF → α) (xs : List α) : ((E7 (xs.map fw)).map bw).length = xs.length := by rw [List.length_map, (GH _).length_eq, List.length_map]
def OL (x : IF) : List Value := [.string ⟨⟨x.1⟩⟩, .string ⟨⟨x.2⟩⟩]
theorem RA : ∀ {cs : List AA} {l : List IF}, Lg cs = some l → cs = Ej l
 | [], l, h => by unfold Lg at h; injection h with h; subst h; rfl
 | [_], l, h => by unfold Lg at h; split at h <;> simp_all
 | a :: b :: r, l, h => by
  unfold Lg at h
  split at h
  ·rename_i he; cases he
  ·rename_i k v r' he
   cases he
   cases hr : Lg r with
   | none => rw [hr] at h; cases h
   | some l' =>
    rw [hr] at h
    injection h with h
    subst h
    rw [RA hr]; rfl
  ·cases h
theorem Ec : ∀ l : List IF, (Ej l).length = l.length * 2
 | [] => rfl
 | x :: l => by
  have := Ec l
  simp only [Ej, List.flatMap_cons, List.length_append, List.length_cons, List.length_nil] at this ⊢
  omega
theorem K2 : ∀ (l : List IF) (j : Nat), j < l.length * 2 → ∃ s, (Ej l)[j]? = some (.str s) ∧ (OL (l.toArray[j / 2]!))[j % 2]! = .string ⟨⟨s⟩⟩
 | [], j, h => by simp at h
 | x :: l, 0, h => ⟨x.1, rfl, rfl⟩
 | x :: l, 1, h => ⟨x.2, rfl, rfl⟩
 | x :: l, j + 2, h => by
  obtain ⟨s, h1, h2⟩ := K2 l j (by simp at h; omega)
  refine ⟨s, h1, ?_⟩
  rw [show (j + 2) / 2 = j / 2 + 1 by omega, show (j + 2) % 2 = j % 2 by omega]
  have : (x :: l).toArray[j / 2 + 1]! = l.toArray[j / 2]! := by simp
  rw [this, h2]
section
variable {P : Program} {w0 : World} {m : Aq} {h : AD} {w : World}
theorem V9 {ρ : Ren} (L : SlLaysF0.n6 P ρ) {c : FuncId} (aE : ∀ w, (isAgg (ρ.t 24)).run P w = .ok true w) (zE : ∀ w, (Go.sizeOf (ρ.t 24)).run P w = .ok 2 w) (ec : ∀ args w, (callFunc c args).run P w = .ok (.enter c args) w)
  (hcl : ∀ (a b : IF) (W : World), Calls P c #[.agg #[.string ⟨⟨a.1⟩⟩, .string ⟨⟨a.2⟩⟩], .agg #[.string ⟨⟨b.1⟩⟩, .string ⟨⟨b.2⟩⟩]] W fun e w' => e = .returned (.int .i64 (compareBytes a.1 b.1)) ∧ ∃ q os', w' = grow (W.drewN q) os')
  (G : Nat → Option (List AA)) : Er P G (ρ.f 6) fun g h args => Fh c g h args := by
 refine Er.of fun g h args v h' hc => ?_
 have en := L.f6.enters rfl
 unfold Fh at hc
 split at hc
 ·rename_i r n f
  split at hc
  ·rename_i hf
   subst hf
   split at hc
   ·rename_i hn
    subst hn
    simp only [Option.some.injEq, Prod.mk.injEq] at hc
    obtain ⟨rfl, rfl⟩ := hc
    refine ⟨Ap.refl _ _, fun w0 m w cargs rr hv => ?_⟩
    obtain ⟨x', y', rfl, hx, hy⟩ := LA hv
    obtain ⟨a, cap, rfl⟩ := XC hx rfl
    refine Dz en ?_
    refine (AnyF.slices_SortFunc_none L a cap y' w).mono ?_
    rintro e w' ⟨rfl, rfl⟩
    exact ⟨_, rfl, m, Aq.ext.refl _ _, rr, .tuple [] #[] rfl (fun i x y hx => by simp at hx)⟩
   ·rename_i hn
    split at hc
    ·rename_i id
     split at hc
     ·rename_i gr cs ho
      split at hc
      ·rename_i hg
       obtain ⟨hlen, hbig, hmay⟩ := hg
       split at hc
       ·rename_i l hl
        split at hc
        ·rename_i hd
         simp only [Option.some.injEq, Prod.mk.injEq] at hc
         obtain ⟨rfl, rfl⟩ := hc
         have hcs := RA hl
         subst hcs
         rw [Ec] at hlen
         have hln : l.length = n := by omega
         subst hln
         refine ⟨Ap.set ho hmay, fun w0 m w cargs rr hv => ?_⟩
         obtain ⟨x', y', rfl, hx, hy⟩ := LA hv
         refine Dz en ?_
         cases hx with
         | slice _ _ _ cap E a hE hle hcp =>
          obtain ⟨rfl, _⟩ := hcp (by omega)
          have hob := rr.obj id E _ hE ho
          obtain ⟨hb1, hb2⟩ := hob
          obtain ⟨cur, e, fz, g1, g2, g3, g4⟩ := hb2 (by omega)
          have hnf : y' = .func (.func f) #[] #[] := by
           cases hy with
           | func _ _ _ c' d' h1 _ h2 _ =>
            have e1 : c' = #[] := Array.eq_empty_of_size_eq_zero (by simpa using h1.symm)
            have e2 : d' = #[] := Array.eq_empty_of_size_eq_zero (by simpa using h2.symm)
            rw [e1, e2]
          subst hnf
          have hfz := g4 rfl
          have at_ : ∀ j, j < l.length * 2 → cur[E.base + j]? = some ((OL (l.toArray[j / 2]!))[j % 2]!) := fun j hj => by
           obtain ⟨s, s1, s2⟩ := K2 l j hj
           obtain ⟨_, u, u1, u2⟩ := g3 j _ s1
           rw [u1, s2, u2.Cv]
          have hH : HoldsK OL 2 w E.g (E.base + 0) l.toArray := by
           intro j hj
           rw [size_flatK] at hj
           have hj' : j < l.length * 2 := by simpa using hj
           have hc := at_ j hj'
           have hlt := (Array.getElem?_eq_some_iff.1 hc).1
           refine ⟨?_, ?_⟩
           ·simp only [World.cell?, g1, Option.isSome_none, Bool.false_eq_true, if_false, Nat.add_zero]
            rw [hc, get_flatK _ _ _ _ hj]
            rfl
           ·simp only [World.frozen?, g1, Nat.add_zero]
            have := hfz.no (E.base + j) (by omega)
            simp only [Bool.and_eq_false_iff, decide_eq_false_iff_not]
            omega
          refine (AnyQ.slices_SortFunc L 2 aE zE OL (fun _ => rfl) (fun x v hv => by simp [OL] at hv; rcases hv with rfl | rfl <;> rfl) aN az f #[] E.g (E.base + 0) cap l.toArray w ec (fun _ _ _ _ x y => hcl x y _) hH (Array.getElem?_eq_some_iff.1 g1).1 ?_).mono ?_
          ·simp; omega
          ·rintro e' w' ⟨rfl, d', n', os, hp, hs, rfl⟩
           have hsz : d'.size = l.length := by simpa using hp.1
           have hd' : d'.toList = E7 l := by
            refine Uv ?_ ?_ hd
            ·have := hp.2.2
             have e1 : d'.extract 0 l.toArray.size = d' := by rw [← hp.1]; exact Array.extract_size
             rw [e1, Array.extract_size] at this
             simpa using this
            ·rw [List.pairwise_iff_getElem]
             intro i j hi hj hij
             have := hs i j (Nat.zero_le _) hij (by simp at hj ⊢; omega)
             rw [aR, decide_eq_false_iff_not] at this
             rw [getElem!_pos d' j (by simpa using hj), getElem!_pos d' i (by simpa using hi)] at this
             simpa using this
           obtain ⟨d2, rfl⟩ : ∃ d2, d' = List.toArray d2 := ⟨d'.toList, by simp⟩
           simp only at hd'
           subst hd'
           have hsl : (E7 l).length = l.length := (GH l).length_eq
           refine ⟨_, rfl, m, Aq.ext.refl _ _, ?_, .tuple [] #[] rfl (fun i x y hx => by simp at hx)⟩
           have hheap : (sortWorldK OL 2 w E.g (E.base + 0) n' (E7 l).toArray os).heap[E.g]? = some (.cells (putCells _root_.id (E.base + 0) (flatK OL 2 (E7 l).toArray) cur) e fz) := by
            have hlt := (Array.getElem?_eq_some_iff.1 g1).1
            show ((w.heap.modify E.g _) ++ os)[E.g]? = _
            rw [Array.getElem?_append_left (by simpa using hlt), Array.getElem?_modify, if_pos rfl, g1]
            rfl
           refine rr.write hE ho rfl rfl ⟨rfl, rfl, rfl, ?_, fun k hk hne => ?_⟩ ⟨⟨⟨hb1.1.1, fun h => by omega⟩, hb1.2⟩, fun _ => ⟨_, e, fz, hheap, ?_, fun j a ha => ?_, fun _ => hfz⟩⟩
           ·show w.heap.size ≤ ((w.heap.modify E.g _) ++ os).size
            simp
           ·show ((w.heap.modify E.g _) ++ os)[k]? = _
            rw [Array.getElem?_append_left (by simpa using hk), Array.getElem?_modify, if_neg (fun e => hne e.symm)]
           ·simp [putCells, g2]
           ·have hj := (List.getElem?_eq_some_iff.1 ha).1
            rw [Ec, hsl] at hj
            obtain ⟨s, s1, s2⟩ := K2 (E7 l) j (by omega)
            rw [ha] at s1
            injection s1 with s1
            subst s1
            refine ⟨rfl, .string ⟨⟨s⟩⟩, ?_, .str ⟨⟨s⟩⟩⟩
            have hlt := (Array.getElem?_eq_some_iff.1 (at_ j hj)).1
            unfold putCells
            rw [Array.getElem?_mapIdx, Array.getElem?_eq_getElem hlt, Option.map_some, size_flatK]
            rw [if_pos ⟨by omega, by simp; omega⟩]
            have e0 : E.base + j - (E.base + 0) = j := by omega
            rw [e0, get_flatK _ _ _ _ (by simp; omega), s2]
            rfl
        ·cases hc
       ·cases hc
      ·cases hc
     ·cases hc
    ·cases hc
  ·cases hc
 ·cases hc
end
section
variable {C : FY} {km : Xx} {l : List (Nat × Nat × Nat × Nat)} {g : Gd} {h : AD} {f c : Nat} {L F : List Ck}
theorem UQ (hk : C.kind f = 3) (hx : C.ext = M5 C.P km l) (hl : Hn l f = some (11, c, 0)) : BH C g h f [.slice none 0, .func (.func c) [] []] (.tuple []) h := by
 refine LJ hk hx hl ?_
 show Fh c g h [.slice none 0, .func (.func c) [] []] = _
 unfold Fh
 dsimp only
 rw [if_pos rfl, if_pos rfl]
theorem Mm : ∀ l : List IF, Lg (Ej l) = some l
 | [] => rfl
 | (k, v) :: l => by
  show (Lg (Ej l)).map ((k, v) :: ·) = _
  rw [Mm l]; rfl
theorem QL {α : Type} {e : α → List AA} (fw : α → IF) (he : ∀ x, e x = [.str (fw x).1, .str (fw x).2]) : ∀ xs : List α, Ak e xs = Ej (xs.map fw)
 | [] => rfl
 | x :: xs => by
  have := QL fw he xs
  simp only [Ak, Ej, List.flatMap_cons, List.map_cons] at *
  rw [this, he]
theorem HH.Zi {α : Type} {e : α → List AA} {fw : α → IF} {bw : IF → α} {t : TypeId} {r : Option Nat} {xs : List α} (he : ∀ x, e x = [.str (fw x).1, .str (fw x).2]) (hr : ∀ p, fw (bw p) = p) (A : HH g h (.Ak r t (Ak e xs) :: L) F)
  (hk : C.kind f = 3) (hx : C.ext = M5 C.P km l) (hl : Hn l f = some (11, c, 0)) (hd : LX (xs.map fw) = true) (hb : decide (xs.length ≤ 1099511627776) = true) :
  ∃ h', BH C g h f [Af r xs.length, .func (.func c) [] []] (.tuple []) h' ∧ HH g h' (.Ak r t (Ak e ((E7 (xs.map fw)).map bw)) :: L) F := by
 have hn : Ak e ((E7 (xs.map fw)).map bw) = Ej (E7 (xs.map fw)) := by
  rw [QL fw he, List.map_map]
  congr 1
  rw [show fw ∘ bw = id from funext hr, List.map_id]
 rw [hn]
 rw [QL fw he] at A
 cases r with
 | none =>
  have h0 : Ej (xs.map fw) = [] := A.mem (k := 0) rfl
  have hx0 : xs = [] := by
   have := congrArg List.length h0
   rw [Ec, List.length_map, List.length_nil] at this
   exact List.eq_nil_of_length_eq_zero (by omega)
  subst hx0
  exact ⟨h, UQ hk hx hl, A⟩
 | some id =>
  have hg : h.get id = some (.cells (some t) 2 (Ej (xs.map fw))) := A.mem (k := 0) rfl
  have hm : g.may id = true := A.K5 (k := 0) rfl (by simp [Ck.ids])
  cases hq : Nat.beq xs.length 0 with
  | true =>
   have hx0 := List.length_eq_zero_iff.1 (Nat.eq_of_beq_eq_true hq)
   subst hx0
   refine ⟨h, LJ hk hx hl ?_, A⟩
   show Fh c g h [.slice (some (id, 0)) 0, .func (.func c) [] []] = _
   unfold Fh
   dsimp only
   rw [if_pos rfl, if_pos rfl]
  | false =>
   have hne : xs.length ≠ 0 := fun e => by rw [e] at hq; exact absurd hq (by decide)
   refine ⟨_, LJ hk hx hl (h' := h.set id (.cells (some t) 2 (Ej (E7 (xs.map fw))))) ?_, A.Ov (k := 0) rfl (by simp) (fun i hi hni => ?_) (h.get_set_same _ (h.Ay hg)) ?_ ?_⟩
   ·show Fh c g h [.slice (some (id, 0)) xs.length, .func (.func c) [] []] = _
    unfold Fh
    dsimp only
    rw [if_pos rfl, if_neg hne]
    simp only [hg]
    rw [if_pos ⟨by rw [Ec, List.length_map], of_decide_eq_true hb, hm⟩, Mm]
    dsimp only
    rw [if_pos hd]
   ·exact h.A8 _ (h.Ay hg) (by simpa [Ck.ids] using hni)
   ·intro i hi; exact .inl hi
   ·intro i hi; exact A.K5 (k := 0) rfl hi
end
end Go.Av
end
/-
 A part.
-/
section
namespace Go.Av
open Go.RowKit
set_option linter.unusedVariables false
set_option linter.unusedSimpArgs false
section
variable {C : FY}
variable {km : Xx} {l : List (Nat × Nat × Nat × Nat)} {g : Gd} {h : AD} {f : Nat}
theorem Vi {j n : Nat} {args : List AA} {es : List (AA × AA)} (hk : C.kind f = 3) (hx : C.ext = M5 C.P km l) (hl : Hn l f = some (33, j, n)) (hn : (Nat.beq args.length n && args.all PE) = true) (he : Vg args (km.getD j []) = some es) : BH C g h f args (.map (some h.size)) (h.push (.map 3 es)) := by
 refine LJ hk hx hl ?_
 show Pd (km.getD j []) n h args = _
 unfold Pd
 rw [hn, he]
 rfl
end
end Go.Av
end
