/-
  Several texts in one.
-/
import Derived.Test.YtlljeoogceblmaaGreatDoorAvLib
import Derived.Shelf.SlSortCmp.NoneTotal
import Derived.Shelf.Small.Strs
/-
 A part.
-/
section
namespace Go.Av
open Go.RowKit Go.Shelf Go.Proofs Go.Lib Go.Sort
set_option linter.unusedVariables false
set_option linter.unusedSimpArgs false
theorem Ub {P : Program} {f : FuncId} {fn : Func} {c : Code} (hf : P.funcs[f]? = some fn) (hname : (fn.name == "runtime.NumGoroutine") = false) (hb : fn.body = some c) : ∀ args w, (callFunc f args).run P w = .ok (.enter f args) w := enters_of hf hname hb
theorem Vs : ∀ a b : List UInt8, compareBytes a b < 0 ↔ a < b
 | [], [] => by simp [compareBytes]
 | [], _ :: _ => by simp [compareBytes]
 | _ :: _, [] => by simp [compareBytes]
 | a :: x, b :: y => by
  unfold compareBytes
  rw [List.cons_lt_cons_iff]
  by_cases h1 : a < b
  ·simp [h1]
  ·rw [if_neg h1]
   by_cases h2 : b < a
   ·rw [if_pos h2]
    have h3 : ¬ a = b := by rintro rfl; exact h1 h2
    simp [h1, h3]
   ·rw [if_neg h2, Vs x y]
    have h3 : a = b := UInt8.le_antisymm (UInt8.not_lt.1 h2) (UInt8.not_lt.1 h1)
    simp [h1, h3]
abbrev aF : Ik → Ik → Int := fun x y => compareBytes x.1 y.1
theorem aD (x y : Ik) : ltOf aF x y = decide (x.1 < y.1) := by
 unfold ltOf aF
 rw [decide_eq_decide]
 exact Vs _ _
theorem aO : SWO (ltOf aF) where
 irrefl x := by rw [aD]; simp
 trans x y z h1 h2 := by rw [aD] at *; simp only [decide_eq_true_eq] at *; exact List.lt_trans h1 h2
 ntrans x y z h1 h2 := by rw [aD] at *; simp only [decide_eq_false_iff_not, List.not_lt] at *; exact List.le_trans h2 h1
theorem Mj (x : Ik) : ∀ l, (TI x l).Perm (x :: l)
 | [] => .refl _
 | y :: l => by
  unfold TI
  split
  ·exact .refl _
  ·exact ((Mj x l).cons y).trans (.swap x y l)
theorem Gm : ∀ l, (FZ l).Perm l
 | [] => .refl _
 | x :: l => (Mj x _).trans ((Gm l).cons x)
theorem Q5 (x : Ik) : ∀ {l}, l.Pairwise (fun a b : Ik => a.1 ≤ b.1) → (TI x l).Pairwise fun a b : Ik => a.1 ≤ b.1
 | [], _ => by simp [TI]
 | y :: l, h => by
  obtain ⟨h1, h2⟩ := List.pairwise_cons.1 h
  unfold TI
  split
  ·rename_i hx
   refine List.pairwise_cons.2 ⟨fun z hz => ?_, h⟩
   rcases List.mem_cons.1 hz with rfl | hz
   ·exact hx
   ·exact List.le_trans hx (h1 z hz)
  ·rename_i hx
   refine List.pairwise_cons.2 ⟨fun z hz => ?_, Q5 x h2⟩
   rcases List.mem_cons.1 ((Mj x l).mem_iff.1 hz) with rfl | hz
   ·exact (List.le_total _ _).resolve_left hx
   ·exact h1 z hz
theorem Mc : ∀ l, (FZ l).Pairwise fun a b : Ik => a.1 ≤ b.1
 | [] => .nil
 | x :: l => Q5 x (Mc l)
theorem Rc : ∀ {l : List Ik}, L8 l = true → ∀ x ∈ l, ∀ y ∈ l, x.1 = y.1 → x = y
 | [], _, x, hx, _, _, _ => by cases hx
 | z :: l, h, x, hx, y, hy, e => by
  unfold L8 at h
  rw [Bool.and_eq_true, List.all_eq_true] at h
  have no : ∀ u ∈ l, u.1 ≠ z.1 := fun u hu e => by have := h.1 u hu; rw [e] at this; simp at this
  rcases List.mem_cons.1 hx with hx1 | hx1
  ·rcases List.mem_cons.1 hy with hy1 | hy1
   ·rw [hx1, hy1]
   ·exact absurd (e.symm.trans (by rw [hx1])) (no y hy1)
  ·rcases List.mem_cons.1 hy with hy1 | hy1
   ·exact absurd (e.trans (by rw [hy1])) (no x hx1)
   ·exact Rc h.2 x hx1 y hy1 e
theorem W9 {l d : List Ik} (hp : d.Perm l) (hs : d.Pairwise fun a b : Ik => ¬ b.1 < a.1) (hd : L8 l = true) : d = FZ l := by
 refine List.Perm.eq_of_pairwise (le := fun a b : Ik => a.1 ≤ b.1) (fun a b ha hb h1 h2 => ?_) (hs.imp fun h => List.not_lt.1 h) (Mc l) (hp.trans (Gm l).symm)
 exact Rc hd a (hp.mem_iff.1 ha) b ((Gm l).mem_iff.1 hb) (List.le_antisymm h1 h2)
theorem Pv {α : Type} (fw : α → Ik) (bw : Ik → α) (xs : List α) : ((FZ (xs.map fw)).map bw).length = xs.length := by rw [List.length_map, (Gm _).length_eq, List.length_map]
def OC (x : Ik) : List Value := [.string ⟨⟨x.1⟩⟩, .string ⟨⟨x.2⟩⟩]
theorem RG : ∀ {cs : List AB} {l : List Ik}, MS cs = some l → cs = FE l
 | [], l, h => by unfold MS at h; injection h with h; subst h; rfl
 | [_], l, h => by unfold MS at h; split at h <;> simp_all
 | a :: b :: r, l, h => by
  unfold MS at h
  split at h
  ·rename_i he; cases he
  ·rename_i k v r' he
   cases he
   cases hr : MS r with
   | none => rw [hr] at h; cases h
   | some l' =>
    rw [hr] at h
    injection h with h
    subst h
    rw [RG hr]; rfl
  ·cases h
theorem E9 : ∀ l : List Ik, (FE l).length = l.length * 2
 | [] => rfl
 | x :: l => by
  have := E9 l
  simp only [FE, List.flatMap_cons, List.length_append, List.length_cons, List.length_nil] at this ⊢
  omega
theorem Li : ∀ (l : List Ik) (j : Nat), j < l.length * 2 → ∃ s, (FE l)[j]? = some (.str s) ∧ (OC (l.toArray[j / 2]!))[j % 2]! = .string ⟨⟨s⟩⟩
 | [], j, h => by simp at h
 | x :: l, 0, h => ⟨x.1, rfl, rfl⟩
 | x :: l, 1, h => ⟨x.2, rfl, rfl⟩
 | x :: l, j + 2, h => by
  obtain ⟨s, h1, h2⟩ := Li l j (by simp at h; omega)
  refine ⟨s, h1, ?_⟩
  rw [show (j + 2) / 2 = j / 2 + 1 by omega, show (j + 2) % 2 = j % 2 by omega]
  have : (x :: l).toArray[j / 2 + 1]! = l.toArray[j / 2]! := by simp
  rw [this, h2]
section
variable {P : Program} {w0 : World} {m : A4} {h : AD} {w : World}
theorem Wl {ρ : Ren} (L : SlLaysF0.n6 P ρ) {c : FuncId} (aE : ∀ w, (isAgg (ρ.t 24)).run P w = .ok true w) (zE : ∀ w, (Go.sizeOf (ρ.t 24)).run P w = .ok 2 w) (ec : ∀ args w, (callFunc c args).run P w = .ok (.enter c args) w)
  (hcl : ∀ (a b : Ik) (W : World), Calls P c #[.agg #[.string ⟨⟨a.1⟩⟩, .string ⟨⟨a.2⟩⟩], .agg #[.string ⟨⟨b.1⟩⟩, .string ⟨⟨b.2⟩⟩]] W fun e w' => e = .returned (.int .i64 (compareBytes a.1 b.1)) ∧ ∃ q os', w' = grow (W.drewN q) os')
  (G : Nat → Option (List AB)) : Es P G (ρ.f 6) fun g h args => GI c g h args := by
 refine Es.of fun g h args v h' hc => ?_
 have en := L.f6.enters rfl
 unfold GI at hc
 split at hc
 ·rename_i r n f
  split at hc
  ·rename_i hf
   subst hf
   split at hc
   ·rename_i hn
    subst hn
    simp only [Option.some.injEq, Prod.mk.injEq] at hc
    obtain ⟨rfl, rfl⟩ := hc
    refine ⟨A6.refl _ _, fun w0 m w cargs rr hv => ?_⟩
    obtain ⟨x', y', rfl, hx, hy⟩ := Kd hv
    obtain ⟨a, cap, rfl⟩ := Xx hx rfl
    refine Dt en ?_
    refine (AnyF.slices_SortFunc_none L a cap y' w).mono ?_
    rintro e w' ⟨rfl, rfl⟩
    exact ⟨_, rfl, m, A4.ext.refl _ _, rr, .tuple [] #[] rfl (fun i x y hx => by simp at hx)⟩
   ·rename_i hn
    split at hc
    ·rename_i id
     split at hc
     ·rename_i gr cs ho
      split at hc
      ·rename_i hg
       obtain ⟨hlen, hbig, hmay⟩ := hg
       split at hc
       ·rename_i l hl
        split at hc
        ·rename_i hd
         simp only [Option.some.injEq, Prod.mk.injEq] at hc
         obtain ⟨rfl, rfl⟩ := hc
         have hcs := RG hl
         subst hcs
         rw [E9] at hlen
         have hln : l.length = n := by omega
         subst hln
         refine ⟨A6.set ho hmay, fun w0 m w cargs rr hv => ?_⟩
         obtain ⟨x', y', rfl, hx, hy⟩ := Kd hv
         refine Dt en ?_
         cases hx with
         | slice _ _ _ cap E a hE hle hcp =>
          obtain ⟨rfl, _⟩ := hcp (by omega)
          have hob := rr.obj id E _ hE ho
          obtain ⟨hb1, hb2⟩ := hob
          obtain ⟨cur, e, fz, g1, g2, g3, g4⟩ := hb2 (by omega)
          have hnf : y' = .func (.func f) #[] #[] := by
           cases hy with
           | func _ _ _ c' d' h1 _ h2 _ =>
            have e1 : c' = #[] := Array.eq_empty_of_size_eq_zero (by simpa using h1.symm)
            have e2 : d' = #[] := Array.eq_empty_of_size_eq_zero (by simpa using h2.symm)
            rw [e1, e2]
          subst hnf
          have hfz := g4 rfl
          have at_ : ∀ j, j < l.length * 2 → cur[E.base + j]? = some ((OC (l.toArray[j / 2]!))[j % 2]!) := fun j hj => by
           obtain ⟨s, s1, s2⟩ := Li l j hj
           obtain ⟨_, u, u1, u2⟩ := g3 j _ s1
           rw [u1, s2, u2.Dk]
          have hH : HoldsK OC 2 w E.g (E.base + 0) l.toArray := by
           intro j hj
           rw [size_flatK] at hj
           have hj' : j < l.length * 2 := by simpa using hj
           have hc := at_ j hj'
           have hlt := (Array.getElem?_eq_some_iff.1 hc).1
           refine ⟨?_, ?_⟩
           ·simp only [World.cell?, g1, Option.isSome_none, Bool.false_eq_true, if_false, Nat.add_zero]
            rw [hc, get_flatK _ _ _ _ hj]
            rfl
           ·simp only [World.frozen?, g1, Nat.add_zero]
            have := hfz.no (E.base + j) (by omega)
            simp only [Bool.and_eq_false_iff, decide_eq_false_iff_not]
            omega
          refine (AnyQ.slices_SortFunc L 2 aE zE OC (fun _ => rfl) (fun x v hv => by simp [OC] at hv; rcases hv with rfl | rfl <;> rfl) aF aO f #[] E.g (E.base + 0) cap l.toArray w ec (fun _ _ _ _ x y => hcl x y _) hH (Array.getElem?_eq_some_iff.1 g1).1 ?_).mono ?_
          ·simp; omega
          ·rintro e' w' ⟨rfl, d', n', os, hp, hs, rfl⟩
           have hsz : d'.size = l.length := by simpa using hp.1
           have hd' : d'.toList = FZ l := by
            refine W9 ?_ ?_ hd
            ·have := hp.2.2
             have e1 : d'.extract 0 l.toArray.size = d' := by rw [← hp.1]; exact Array.extract_size
             rw [e1, Array.extract_size] at this
             simpa using this
            ·rw [List.pairwise_iff_getElem]
             intro i j hi hj hij
             have := hs i j (Nat.zero_le _) hij (by simp at hj ⊢; omega)
             rw [aD, decide_eq_false_iff_not] at this
             rw [getElem!_pos d' j (by simpa using hj), getElem!_pos d' i (by simpa using hi)] at this
             simpa using this
           obtain ⟨d2, rfl⟩ : ∃ d2, d' = List.toArray d2 := ⟨d'.toList, by simp⟩
           simp only at hd'
           subst hd'
           have hsl : (FZ l).length = l.length := (Gm l).length_eq
           refine ⟨_, rfl, m, A4.ext.refl _ _, ?_, .tuple [] #[] rfl (fun i x y hx => by simp at hx)⟩
           have hheap : (sortWorldK OC 2 w E.g (E.base + 0) n' (FZ l).toArray os).heap[E.g]? = some (.cells (putCells _root_.id (E.base + 0) (flatK OC 2 (FZ l).toArray) cur) e fz) := by
            have hlt := (Array.getElem?_eq_some_iff.1 g1).1
            show ((w.heap.modify E.g _) ++ os)[E.g]? = _
            rw [Array.getElem?_append_left (by simpa using hlt), Array.getElem?_modify, if_pos rfl, g1]
            rfl
           refine rr.write hE ho rfl rfl ⟨rfl, rfl, rfl, ?_, fun k hk hne => ?_⟩ ⟨⟨⟨hb1.1.1, fun h => by omega⟩, hb1.2⟩, fun _ => ⟨_, e, fz, hheap, ?_, fun j a ha => ?_, fun _ => hfz⟩⟩
           ·show w.heap.size ≤ ((w.heap.modify E.g _) ++ os).size
            simp
           ·show ((w.heap.modify E.g _) ++ os)[k]? = _
            rw [Array.getElem?_append_left (by simpa using hk), Array.getElem?_modify, if_neg (fun e => hne e.symm)]
           ·simp [putCells, g2]
           ·have hj := (List.getElem?_eq_some_iff.1 ha).1
            rw [E9, hsl] at hj
            obtain ⟨s, s1, s2⟩ := Li (FZ l) j (by omega)
            rw [ha] at s1
            injection s1 with s1
            subst s1
            refine ⟨rfl, .string ⟨⟨s⟩⟩, ?_, .str ⟨⟨s⟩⟩⟩
            have hlt := (Array.getElem?_eq_some_iff.1 (at_ j hj)).1
            unfold putCells
            rw [Array.getElem?_mapIdx, Array.getElem?_eq_getElem hlt, Option.map_some, size_flatK]
            rw [if_pos ⟨by omega, by simp; omega⟩]
            have e0 : E.base + j - (E.base + 0) = j := by omega
            rw [e0, get_flatK _ _ _ _ (by simp; omega), s2]
            rfl
        ·cases hc
       ·cases hc
      ·cases hc
     ·cases hc
    ·cases hc
  ·cases hc
 ·cases hc
end
section
variable {C : Ft} {km : XG} {l : List (Nat × Nat × Nat × Nat)} {g : Gd} {h : AD} {f c : Nat} {L F : List Ck}
theorem Ut (hk : C.kind f = 3) (hx : C.ext = Ms C.P km l) (hl : Hm l f = some (11, c, 0)) : BB C g h f [.slice none 0, .func (.func c) [] []] (.tuple []) h := by
 refine MJ hk hx hl ?_
 show GI c g h [.slice none 0, .func (.func c) [] []] = _
 unfold GI
 dsimp only
 rw [if_pos rfl, if_pos rfl]
theorem NL : ∀ l : List Ik, MS (FE l) = some l
 | [] => rfl
 | (k, v) :: l => by
  show (MS (FE l)).map ((k, v) :: ·) = _
  rw [NL l]; rfl
theorem Qh {α : Type} {e : α → List AB} (fw : α → Ik) (he : ∀ x, e x = [.str (fw x).1, .str (fw x).2]) : ∀ xs : List α, Ag e xs = FE (xs.map fw)
 | [] => rfl
 | x :: xs => by
  have := Qh fw he xs
  simp only [Ag, FE, List.flatMap_cons, List.map_cons] at *
  rw [this, he]
theorem HH.Z9 {α : Type} {e : α → List AB} {fw : α → Ik} {bw : Ik → α} {t : TypeId} {r : Option Nat} {xs : List α} (he : ∀ x, e x = [.str (fw x).1, .str (fw x).2]) (hr : ∀ p, fw (bw p) = p) (A : HH g h (.Ag r t (Ag e xs) :: L) F)
  (hk : C.kind f = 3) (hx : C.ext = Ms C.P km l) (hl : Hm l f = some (11, c, 0)) (hd : L8 (xs.map fw) = true) (hb : decide (xs.length ≤ 1099511627776) = true) :
  ∃ h', BB C g h f [AP r xs.length, .func (.func c) [] []] (.tuple []) h' ∧ HH g h' (.Ag r t (Ag e ((FZ (xs.map fw)).map bw)) :: L) F := by
 have hn : Ag e ((FZ (xs.map fw)).map bw) = FE (FZ (xs.map fw)) := by
  rw [Qh fw he, List.map_map]
  congr 1
  rw [show fw ∘ bw = id from funext hr, List.map_id]
 rw [hn]
 rw [Qh fw he] at A
 cases r with
 | none =>
  have h0 : FE (xs.map fw) = [] := A.mem (k := 0) rfl
  have hx0 : xs = [] := by
   have := congrArg List.length h0
   rw [E9, List.length_map, List.length_nil] at this
   exact List.eq_nil_of_length_eq_zero (by omega)
  subst hx0
  exact ⟨h, Ut hk hx hl, A⟩
 | some id =>
  have hg : h.get id = some (.cells (some t) 2 (FE (xs.map fw))) := A.mem (k := 0) rfl
  have hm : g.may id = true := A.ML (k := 0) rfl (by simp [Ck.ids])
  cases hq : Nat.beq xs.length 0 with
  | true =>
   have hx0 := List.length_eq_zero_iff.1 (Nat.eq_of_beq_eq_true hq)
   subst hx0
   refine ⟨h, MJ hk hx hl ?_, A⟩
   show GI c g h [.slice (some (id, 0)) 0, .func (.func c) [] []] = _
   unfold GI
   dsimp only
   rw [if_pos rfl, if_pos rfl]
  | false =>
   have hne : xs.length ≠ 0 := fun e => by rw [e] at hq; exact absurd hq (by decide)
   refine ⟨_, MJ hk hx hl (h' := h.set id (.cells (some t) 2 (FE (FZ (xs.map fw))))) ?_, A.RN (k := 0) rfl (by simp) (fun i hi hni => ?_) (h.get_set_same _ (h.BC hg)) ?_ ?_⟩
   ·show GI c g h [.slice (some (id, 0)) xs.length, .func (.func c) [] []] = _
    unfold GI
    dsimp only
    rw [if_pos rfl, if_neg hne]
    simp only [hg]
    rw [if_pos ⟨by rw [E9, List.length_map], of_decide_eq_true hb, hm⟩, NL]
    dsimp only
    rw [if_pos hd]
   ·exact h.BL _ (h.BC hg) (by simpa [Ck.ids] using hni)
   ·intro i hi; exact .inl hi
   ·intro i hi; exact A.ML (k := 0) rfl hi
end
end Go.Av
end
/-
 A part.
-/
section
namespace Go.Av
open Go.RowKit
set_option linter.unusedVariables false
set_option linter.unusedSimpArgs false
section
variable {C : Ft} {km : XG} {l : List (Nat × Nat × Nat × Nat)} {g : Gd} {h : AD} {f : Nat}
theorem Y6 {j n : Nat} {args : List AB} {es : List (AB × AB)} (hk : C.kind f = 3) (hx : C.ext = Ms C.P km l) (hl : Hm l f = some (33, j, n)) (hn : (Nat.beq args.length n && args.all Ph) = true) (he : VW args (km.getD j []) = some es) : BB C g h f args (.map (some h.size)) (h.push (.map 3 es)) := by
 refine MJ hk hx hl ?_
 show PZ (km.getD j []) n h args = _
 unfold PZ
 rw [hn, he]
 rfl
end
end Go.Av
end
