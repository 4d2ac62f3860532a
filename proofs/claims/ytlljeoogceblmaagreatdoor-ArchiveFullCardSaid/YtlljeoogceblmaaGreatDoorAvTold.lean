/-
  Several texts in one.
-/
import Derived.Test.YtlljeoogceblmaaGreatDoorAvLib
import Derived.Shelf.SlSortCmp.NoneTotal
import Derived.Shelf.Small.Strs
/-
 A part.
-/
section
namespace Go.Av
open Go.RowKit Go.Shelf Go.Proofs Go.Lib Go.Sort
set_option linter.unusedVariables false
set_option linter.unusedSimpArgs false
theorem Ss {P : Program} {f : FuncId} {fn : Func} {c : Code} (hf : P.funcs[f]? = some fn) (hname : (fn.name == "runtime.NumGoroutine") = false) (hb : fn.body = some c) : ∀ args w, (callFunc f args).run P w = .ok (.enter f args) w := enters_of hf hname hb
theorem TR : ∀ a b : List UInt8, compareBytes a b < 0 ↔ a < b
 | [], [] => by simp [compareBytes]
 | [], _ :: _ => by simp [compareBytes]
 | _ :: _, [] => by simp [compareBytes]
 | a :: x, b :: y => by
  unfold compareBytes
  rw [List.cons_lt_cons_iff]
  by_cases h1 : a < b
  ·simp [h1]
  ·rw [if_neg h1]
   by_cases h2 : b < a
   ·rw [if_pos h2]
    have h3 : ¬ a = b := by rintro rfl; exact h1 h2
    simp [h1, h3]
   ·rw [if_neg h2, TR x y]
    have h3 : a = b := UInt8.le_antisymm (UInt8.not_lt.1 h2) (UInt8.not_lt.1 h1)
    simp [h1, h3]
abbrev Yf : I4 → I4 → Int := fun x y => compareBytes x.1 y.1
theorem Ye (x y : I4) : ltOf Yf x y = decide (x.1 < y.1) := by
 unfold ltOf Yf
 rw [decide_eq_decide]
 exact TR _ _
theorem ZW : SWO (ltOf Yf) where
 irrefl x := by rw [Ye]; simp
 trans x y z h1 h2 := by rw [Ye] at *; simp only [decide_eq_true_eq] at *; exact List.lt_trans h1 h2
 ntrans x y z h1 h2 := by rw [Ye] at *; simp only [decide_eq_false_iff_not, List.not_lt] at *; exact List.le_trans h2 h1
theorem MU (x : I4) : ∀ l, (R2 x l).Perm (x :: l)
 | [] => .refl _
 | y :: l => by
  unfold R2
  split
  ·exact .refl _
  ·exact ((MU x l).cons y).trans (.swap x y l)
theorem HN : ∀ l, (Fj l).Perm l
 | [] => .refl _
 | x :: l => (MU x _).trans ((HN l).cons x)
theorem Qa (x : I4) : ∀ {l}, l.Pairwise (fun a b : I4 => a.1 ≤ b.1) → (R2 x l).Pairwise fun a b : I4 => a.1 ≤ b.1
 | [], _ => by simp [R2]
 | y :: l, h => by
  obtain ⟨h1, h2⟩ := List.pairwise_cons.1 h
  unfold R2
  split
  ·rename_i B
   refine List.pairwise_cons.2 ⟨fun z M => ?_, h⟩
   rcases List.mem_cons.1 M with rfl | M
   ·exact B
   ·exact List.le_trans B (h1 z M)
  ·rename_i B
   refine List.pairwise_cons.2 ⟨fun z M => ?_, Qa x h2⟩
   rcases List.mem_cons.1 ((MU x l).mem_iff.1 M) with rfl | M
   ·exact (List.le_total _ _).resolve_left B
   ·exact h1 z M
theorem PH : ∀ l, (Fj l).Pairwise fun a b : I4 => a.1 ≤ b.1
 | [] => .nil
 | x :: l => Qa x (PH l)
theorem QC : ∀ {l : List I4}, Nc l = true → ∀ x ∈ l, ∀ y ∈ l, x.1 = y.1 → x = y
 | [], _, x, B, _, _, _ => by cases B
 | z :: l, h, x, B, y, T, e => by
  unfold Nc at h
  rw [Bool.and_eq_true, List.all_eq_true] at h
  have no : ∀ u ∈ l, u.1 ≠ z.1 := fun u hu e => by have := h.1 u hu; rw [e] at this; simp at this
  rcases List.mem_cons.1 B with H | H
  ·rcases List.mem_cons.1 T with D | D
   ·rw [H, D]
   ·exact absurd (e.symm.trans (by rw [H])) (no y D)
  ·rcases List.mem_cons.1 T with D | D
   ·exact absurd (e.trans (by rw [D])) (no x H)
   ·exact QC h.2 x H y D e
theorem T8 {l d : List I4} (R : d.Perm l) (hs : d.Pairwise fun a b : I4 => ¬ b.1 < a.1) (hd : Nc l = true) : d = Fj l := by
 refine List.Perm.eq_of_pairwise (le := fun a b : I4 => a.1 ≤ b.1) (fun a b ha hb h1 h2 => ?_) (hs.imp fun h => List.not_lt.1 h) (PH l) (R.trans (HN l).symm)
 exact QC hd a (R.mem_iff.1 ha) b ((HN l).mem_iff.1 hb) (List.le_antisymm h1 h2)
theorem Oe {α : Type} (fw : α → I4) (bw : I4 → α) (xs : List α) : ((Fj (xs.map fw)).map bw).length = xs.length := by rw [List.length_map, (HN _).length_eq, List.length_map]
def NT (x : I4) : List Value := [.string ⟨⟨x.1⟩⟩, .string ⟨⟨x.2⟩⟩]
theorem Q4 : ∀ {cs : List AB} {l : List I4}, Lf cs = some l → cs = E4 l
 | [], l, h => by unfold Lf at h; injection h with h; subst h; rfl
 | [_], l, h => by unfold Lf at h; split at h <;> simp_all
 | a :: b :: r, l, h => by
  unfold Lf at h
  split at h
  ·rename_i he; cases he
  ·rename_i k v r' he
   cases he
   cases U : Lf r with
   | none => rw [U] at h; cases h
   | some l' =>
    rw [U] at h
    injection h with h
    subst h
    rw [Q4 U]; rfl
  ·cases h
theorem Ex : ∀ l : List I4, (E4 l).length = l.length * 2
 | [] => rfl
 | x :: l => by
  have := Ex l
  simp only [E4, List.flatMap_cons, List.length_append, List.length_cons, List.length_nil] at this ⊢
  omega
theorem K8 : ∀ (l : List I4) (j : Nat), j < l.length * 2 → ∃ s, (E4 l)[j]? = some (.str s) ∧ (NT (l.toArray[j / 2]!))[j % 2]! = .string ⟨⟨s⟩⟩
 | [], j, h => by simp at h
 | x :: l, 0, h => ⟨x.1, rfl, rfl⟩
 | x :: l, 1, h => ⟨x.2, rfl, rfl⟩
 | x :: l, j + 2, h => by
  obtain ⟨s, h1, h2⟩ := K8 l j (by simp at h; omega)
  refine ⟨s, h1, ?_⟩
  rw [show (j + 2) / 2 = j / 2 + 1 by omega, show (j + 2) % 2 = j % 2 by omega]
  have : (x :: l).toArray[j / 2 + 1]! = l.toArray[j / 2]! := by simp
  rw [this, h2]
section
variable {P : Program} {w0 : World} {m : BK} {h : AF} {w : World}
theorem T7 {ρ : Ren} (L : SlLaysF0.n6 P ρ) {c : FuncId} (aE : ∀ w, (isAgg (ρ.t 24)).run P w = .ok true w) (zE : ∀ w, (Go.sizeOf (ρ.t 24)).run P w = .ok 2 w) (ec : ∀ args w, (callFunc c args).run P w = .ok (.enter c args) w)
  (hcl : ∀ (a b : I4) (W : World), Calls P c #[.agg #[.string ⟨⟨a.1⟩⟩, .string ⟨⟨a.2⟩⟩], .agg #[.string ⟨⟨b.1⟩⟩, .string ⟨⟨b.2⟩⟩]] W fun e w' => e = .returned (.int .i64 (compareBytes a.1 b.1)) ∧ ∃ q os', w' = grow (W.drewN q) os')
  (G : Nat → Option (List AB)) : En P G (ρ.f 6) fun g h args => Fq c g h args := by
 refine En.of fun g h args v h' hc => ?_
 have en := L.f6.enters rfl
 unfold Fq at hc
 split at hc
 ·rename_i r n f
  split at hc
  ·rename_i hf
   subst hf
   split at hc
   ·rename_i S
    subst S
    simp only [Option.some.injEq, Prod.mk.injEq] at hc
    obtain ⟨rfl, rfl⟩ := hc
    refine ⟨BF.refl _ _, fun w0 m w cargs rr Q => ?_⟩
    obtain ⟨x', y', rfl, B, T⟩ := KM Q
    obtain ⟨a, cap, rfl⟩ := Vk B rfl
    refine Dj en ?_
    refine (AnyF.slices_SortFunc_none L a cap y' w).mono ?_
    rintro e w' ⟨rfl, rfl⟩
    exact ⟨_, rfl, m, BK.ext.refl _ _, rr, .tuple [] #[] rfl (fun i x y B => by simp at B)⟩
   ·rename_i S
    split at hc
    ·rename_i id
     split at hc
     ·rename_i gr cs ho
      split at hc
      ·rename_i V
       obtain ⟨hlen, hbig, hmay⟩ := V
       split at hc
       ·rename_i l K
        split at hc
        ·rename_i hd
         simp only [Option.some.injEq, Prod.mk.injEq] at hc
         obtain ⟨rfl, rfl⟩ := hc
         have hcs := Q4 K
         subst hcs
         rw [Ex] at hlen
         have hln : l.length = n := by omega
         subst hln
         refine ⟨BF.set ho hmay, fun w0 m w cargs rr Q => ?_⟩
         obtain ⟨x', y', rfl, B, T⟩ := KM Q
         refine Dj en ?_
         cases B with
         | slice _ _ _ cap E a hE hle hcp =>
          obtain ⟨rfl, _⟩ := hcp (by omega)
          have hob := rr.obj id E _ hE ho
          obtain ⟨Z, hb2⟩ := hob
          obtain ⟨cur, e, fz, g1, g2, g3, g4⟩ := hb2 (by omega)
          have hnf : y' = .func (.func f) #[] #[] := by
           cases T with
           | func _ _ _ c' d' h1 _ h2 _ =>
            have e1 : c' = #[] := Array.eq_empty_of_size_eq_zero (by simpa using h1.symm)
            have e2 : d' = #[] := Array.eq_empty_of_size_eq_zero (by simpa using h2.symm)
            rw [e1, e2]
          subst hnf
          have X := g4 rfl
          have at_ : ∀ j, j < l.length * 2 → cur[E.base + j]? = some ((NT (l.toArray[j / 2]!))[j % 2]!) := fun j I => by
           obtain ⟨s, s1, s2⟩ := K8 l j I
           obtain ⟨_, u, u1, u2⟩ := g3 j _ s1
           rw [u1, s2, u2.DJ]
          have hH : HoldsK NT 2 w E.g (E.base + 0) l.toArray := by
           intro j I
           rw [size_flatK] at I
           have hj' : j < l.length * 2 := by simpa using I
           have hc := at_ j hj'
           have J := (Array.getElem?_eq_some_iff.1 hc).1
           refine ⟨?_, ?_⟩
           ·simp only [World.cell?, g1, Option.isSome_none, Bool.false_eq_true, if_false, Nat.add_zero]
            rw [hc, get_flatK _ _ _ _ I]
            rfl
           ·simp only [World.frozen?, g1, Nat.add_zero]
            have := X.no (E.base + j) (by omega)
            simp only [Bool.and_eq_false_iff, decide_eq_false_iff_not]
            omega
          refine (AnyQ.slices_SortFunc L 2 aE zE NT (fun _ => rfl) (fun x v Q => by simp [NT] at Q; rcases Q with rfl | rfl <;> rfl) Yf ZW f #[] E.g (E.base + 0) cap l.toArray w ec (fun _ _ _ _ x y => hcl x y _) hH (Array.getElem?_eq_some_iff.1 g1).1 ?_).mono ?_
          ·simp; omega
          ·rintro e' w' ⟨rfl, d', n', os, R, hs, rfl⟩
           have hsz : d'.size = l.length := by simpa using R.1
           have Y : d'.toList = Fj l := by
            refine T8 ?_ ?_ hd
            ·have := R.2.2
             have e1 : d'.extract 0 l.toArray.size = d' := by rw [← R.1]; exact Array.extract_size
             rw [e1, Array.extract_size] at this
             simpa using this
            ·rw [List.pairwise_iff_getElem]
             intro i j hi I hij
             have := hs i j (Nat.zero_le _) hij (by simp at I ⊢; omega)
             rw [Ye, decide_eq_false_iff_not] at this
             rw [getElem!_pos d' j (by simpa using I), getElem!_pos d' i (by simpa using hi)] at this
             simpa using this
           obtain ⟨d2, rfl⟩ : ∃ d2, d' = List.toArray d2 := ⟨d'.toList, by simp⟩
           simp only at Y
           subst Y
           have hsl : (Fj l).length = l.length := (HN l).length_eq
           refine ⟨_, rfl, m, BK.ext.refl _ _, ?_, .tuple [] #[] rfl (fun i x y B => by simp at B)⟩
           have hheap : (sortWorldK NT 2 w E.g (E.base + 0) n' (Fj l).toArray os).heap[E.g]? = some (.cells (putCells _root_.id (E.base + 0) (flatK NT 2 (Fj l).toArray) cur) e fz) := by
            have J := (Array.getElem?_eq_some_iff.1 g1).1
            show ((w.heap.modify E.g _) ++ os)[E.g]? = _
            rw [Array.getElem?_append_left (by simpa using J), Array.getElem?_modify, if_pos rfl, g1]
            rfl
           refine rr.write hE ho rfl rfl ⟨rfl, rfl, rfl, ?_, fun k hk O => ?_⟩ ⟨⟨⟨Z.1.1, fun h => by omega⟩, Z.2⟩, fun _ => ⟨_, e, fz, hheap, ?_, fun j a ha => ?_, fun _ => X⟩⟩
           ·show w.heap.size ≤ ((w.heap.modify E.g _) ++ os).size
            simp
           ·show ((w.heap.modify E.g _) ++ os)[k]? = _
            rw [Array.getElem?_append_left (by simpa using hk), Array.getElem?_modify, if_neg (fun e => O e.symm)]
           ·simp [putCells, g2]
           ·have I := (List.getElem?_eq_some_iff.1 ha).1
            rw [Ex, hsl] at I
            obtain ⟨s, s1, s2⟩ := K8 (Fj l) j (by omega)
            rw [ha] at s1
            injection s1 with s1
            subst s1
            refine ⟨rfl, .string ⟨⟨s⟩⟩, ?_, .str ⟨⟨s⟩⟩⟩
            have J := (Array.getElem?_eq_some_iff.1 (at_ j I)).1
            unfold putCells
            rw [Array.getElem?_mapIdx, Array.getElem?_eq_getElem J, Option.map_some, size_flatK]
            rw [if_pos ⟨by omega, by simp; omega⟩]
            have e0 : E.base + j - (E.base + 0) = j := by omega
            rw [e0, get_flatK _ _ _ _ (by simp; omega), s2]
            rfl
        ·cases hc
       ·cases hc
      ·cases hc
     ·cases hc
    ·cases hc
  ·cases hc
 ·cases hc
end
section
variable {C : E8} {km : WD} {l : List (Nat × Nat × Nat × Nat)} {g : Gd} {h : AF} {f c : Nat} {L F : List Ck}
theorem Sz (hk : C.kind f = 3) (B : C.ext = MM C.P km l) (K : Hg l f = some (11, c, 0)) : BZ C g h f [.slice none 0, .func (.func c) [] []] (.tuple []) h := by
 refine K1 hk B K ?_
 show Fq c g h [.slice none 0, .func (.func c) [] []] = _
 unfold Fq
 dsimp only
 rw [if_pos rfl, if_pos rfl]
theorem Mi : ∀ l : List I4, Lf (E4 l) = some l
 | [] => rfl
 | (k, v) :: l => by
  show (Lf (E4 l)).map ((k, v) :: ·) = _
  rw [Mi l]; rfl
theorem PZ {α : Type} {e : α → List AB} (fw : α → I4) (he : ∀ x, e x = [.str (fw x).1, .str (fw x).2]) : ∀ xs : List α, AQ e xs = E4 (xs.map fw)
 | [] => rfl
 | x :: xs => by
  have := PZ fw he xs
  simp only [AQ, E4, List.flatMap_cons, List.map_cons] at *
  rw [this, he]
theorem HH.YN {α : Type} {e : α → List AB} {fw : α → I4} {bw : I4 → α} {t : TypeId} {r : Option Nat} {xs : List α} (he : ∀ x, e x = [.str (fw x).1, .str (fw x).2]) (U : ∀ p, fw (bw p) = p) (A : HH g h (.AQ r t (AQ e xs) :: L) F)
  (hk : C.kind f = 3) (B : C.ext = MM C.P km l) (K : Hg l f = some (11, c, 0)) (hd : Nc (xs.map fw) = true) (hb : decide (xs.length ≤ 1099511627776) = true) :
  ∃ h', BZ C g h f [AP r xs.length, .func (.func c) [] []] (.tuple []) h' ∧ HH g h' (.AQ r t (AQ e ((Fj (xs.map fw)).map bw)) :: L) F := by
 have S : AQ e ((Fj (xs.map fw)).map bw) = E4 (Fj (xs.map fw)) := by
  rw [PZ fw he, List.map_map]
  congr 1
  rw [show fw ∘ bw = id from funext U, List.map_id]
 rw [S]
 rw [PZ fw he] at A
 cases r with
 | none =>
  have h0 : E4 (xs.map fw) = [] := A.mem (k := 0) rfl
  have N : xs = [] := by
   have := congrArg List.length h0
   rw [Ex, List.length_map, List.length_nil] at this
   exact List.eq_nil_of_length_eq_zero (by omega)
  subst N
  exact ⟨h, Sz hk B K, A⟩
 | some id =>
  have V : h.get id = some (.cells (some t) 2 (E4 (xs.map fw))) := A.mem (k := 0) rfl
  have hm : g.may id = true := A.Jf (k := 0) rfl (by simp [Ck.ids])
  cases hq : Nat.beq xs.length 0 with
  | true =>
   have N := List.length_eq_zero_iff.1 (Nat.eq_of_beq_eq_true hq)
   subst N
   refine ⟨h, K1 hk B K ?_, A⟩
   show Fq c g h [.slice (some (id, 0)) 0, .func (.func c) [] []] = _
   unfold Fq
   dsimp only
   rw [if_pos rfl, if_pos rfl]
  | false =>
   have O : xs.length ≠ 0 := fun e => by rw [e] at hq; exact absurd hq (by decide)
   refine ⟨_, K1 hk B K (h' := h.set id (.cells (some t) 2 (E4 (Fj (xs.map fw))))) ?_, A.Mz (k := 0) rfl (by simp) (fun i hi hni => ?_) (h.get_set_same _ (h.BV V)) ?_ ?_⟩
   ·show Fq c g h [.slice (some (id, 0)) xs.length, .func (.func c) [] []] = _
    unfold Fq
    dsimp only
    rw [if_pos rfl, if_neg O]
    simp only [V]
    rw [if_pos ⟨by rw [Ex, List.length_map], of_decide_eq_true hb, hm⟩, Mi]
    dsimp only
    rw [if_pos hd]
   ·exact h.Bc _ (h.BV V) (by simpa [Ck.ids] using hni)
   ·intro i hi; exact .inl hi
   ·intro i hi; exact A.Jf (k := 0) rfl hi
end
end Go.Av
end
/-
 A part.
-/
section
namespace Go.Av
open Go.RowKit
set_option linter.unusedVariables false
set_option linter.unusedSimpArgs false
section
variable {C : E8} {km : WD} {l : List (Nat × Nat × Nat × Nat)} {g : Gd} {h : AF} {f : Nat}
theorem Tb {j n : Nat} {args : List AB} {es : List (AB × AB)} (hk : C.kind f = 3) (B : C.ext = MM C.P km l) (K : Hg l f = some (33, j, n)) (S : (Nat.beq args.length n && args.all PG) = true) (he : U8 args (km.getD j []) = some es) : BZ C g h f args (.map (some h.size)) (h.push (.map 3 es)) := by
 refine K1 hk B K ?_
 show Ox (km.getD j []) n h args = _
 unfold Ox
 rw [S, he]
 rfl
end
end Go.Av
end
