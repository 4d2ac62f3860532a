/-
 A part.
-/
import Derived.Test.YtdbkpibbjnhmgaaDoorFoR
namespace Go.Av.L
open Go.Av Go.Lib
set_option linter.unusedVariables false
set_option linter.unusedSimpArgs false
def Js (a p : Pa) : Bool := decide (a.take p.length = p)
theorem Gg {a p : Pa} : Js a p = true ↔ ∃ d, a = p ++ d := by
 unfold Js
 rw [decide_eq_true_iff]
 constructor
 ·intro h
  exact ⟨a.drop p.length, by conv => lhs; rw [← List.take_append_drop p.length a, h]⟩
 ·rintro ⟨d, rfl⟩
  simp
theorem Oh {a p : Pa} (ha : a.length < 1000000) (hp : p.length < 1000000) : BW a p = some (Js a p) := by
 unfold BW
 by_cases hlen : a.length < p.length
 ·rw [AQ, if_pos (by omega)]
  have : Js a p = false := by
   unfold Js
   rw [decide_eq_false_iff_not]
   intro h
   have := congrArg List.length h
   rw [List.length_take] at this
   omega
  rw [this]
 ·rw [AQ, if_neg (by omega)]
  have key : ∀ (n i : Nat), i + n = p.length → a.take i = p.take i →
    loop (BS a p) (i : Int) = some (bif Js a p then .inl () else .inr false) := by
   intro n
   induction n with
   | zero =>
    intro i hi ht
    have hb : Js a p = true := by
     unfold Js
     rw [decide_eq_true_iff, ← show i = p.length by omega, ht]
     exact List.take_of_length_le (by omega)
    rw [hb]
    refine BY ?_
    rw [BS, AQ, if_neg (by omega)]
    rfl
   | succ n ih =>
    intro i hi ht
    have h1 : i < p.length := by omega
    have h2 : i < a.length := by omega
    by_cases he : a[i] = p[i]
    ·have st : BS a p (i : Int) = some (.inl ((i + 1 : Nat) : Int)) := by
      rw [BS, AQ, if_pos (by omega), BO h2, Option.bind_some, BO h1, Option.bind_some, beq_iff_eq.2 he, Bool.not_true, Ay, D5 (by omega)]
     rw [CR st]
     refine ih (i + 1) (by omega) ?_
     rw [B0 (List.getElem?_eq_getElem h2), B0 (List.getElem?_eq_getElem h1), ht, he]
    ·have hb : Js a p = false := by
      unfold Js
      rw [decide_eq_false_iff_not]
      intro h
      refine he ?_
      have h3 := congrArg (fun z : Pa => z[i]?) h
      simp only [List.getElem?_take, if_pos h1, List.getElem?_eq_getElem h1, List.getElem?_eq_getElem h2] at h3
      exact Option.some.inj h3
     rw [hb]
     refine BY ?_
     rw [BS, AQ, if_pos (by omega), BO h2, Option.bind_some, BO h1, Option.bind_some, beq_eq_false_iff_ne.2 he, Bool.not_false, BE]
     rfl
  have k0 := key p.length 0 (by omega) (by simp)
  rw [show ((0 : Nat) : Int) = 0 from rfl] at k0
  rw [k0, Option.bind_some]
  cases Js a p <;> rfl
theorem Kj {α : Type} {l : List α} {i : Nat} (h : i < l.length) (f : α → Bool) : (l.drop i).filter f = (bif f l[i] then [l[i]] else []) ++ (l.drop (i + 1)).filter f := by
 rw [drop_cons h, List.filter_cons]
 cases f l[i] <;> rfl
def J3 (p : Pa) (x : Rw) : Bool := decide (x.L.length = p.length + 1) && Js x.L p
theorem QY {R : List Rw} (hR : ∀ x ∈ R, (∀ c ∈ x.L, NV c) ∧ x.L.length < 900000 ∧ (pj x.L).length < 900000000) (hl : R.length < 100000) {p : Pa} (hp : p.length < 900000) :
  BN R p = some ((R.filter (J3 p)).map fun x => pj x.L) := by
 have key : ∀ (n i : Nat) (acc : List B9), i + n = R.length → acc.length ≤ i →
   loop (Aa R p) (acc, (i : Int)) = some (acc ++ ((R.drop i).filter (J3 p)).map fun x => pj x.L) := by
  intro n
  induction n with
  | zero =>
   intro i acc hi ha
   refine BY ?_
   rw [Aa, AQ, if_neg (by omega), List.drop_of_length_le (by omega)]
   simp
  | succ n ih =>
   intro i acc hi ha
   have hlt : i < R.length := by omega
   obtain ⟨h1, h2, h3⟩ := hR _ (List.getElem_mem hlt)
   have ew : IntKind.i64.wrap ((p.length : Int) + 1) = ((p.length + 1 : Nat) : Int) := D5 (by omega)
   have hc : (Ax ((R[i].L.length : Int) == (IntKind.i64.wrap ((p.length : Int) + 1))) ((Em R (i : Int)).bind fun x7 => (BW x7.L p).bind fun x8 => some x8) (some false) : Option Bool) = some (J3 p R[i]) := by
    rw [ew, SH]
    unfold J3
    by_cases he : R[i].L.length = p.length + 1
    ·rw [if_pos (by omega), BO hlt, Option.bind_some, Oh (by omega) (by omega), Option.bind_some, decide_eq_true he, Bool.true_and]
    ·rw [if_neg (by omega), decide_eq_false he, Bool.false_and]
   have hw : (i : Int) + 1 = ((i + 1 : Nat) : Int) := by omega
   rw [Kj hlt, List.map_append, ← List.append_assoc]
   cases hk : J3 p R[i] with
   | true =>
    have st : Aa R p (acc, (i : Int)) = some (.inl (acc ++ [pj R[i].L], ((i + 1 : Nat) : Int))) := by
     rw [Aa, AQ, if_pos (by omega), BO hlt, Option.bind_some]
     rw [BO hlt] at hc
     rw [hc, Option.bind_some, hk, BE, Option.bind_some, S2 h1 (by omega) h3, Option.bind_some, GB (by simp; omega) (by simp; omega), BF, Option.bind_some, D5 (by omega)]
    rw [CR st, ih (i + 1) _ (by omega) (by simp; omega)]
    simp
   | false =>
    have st : Aa R p (acc, (i : Int)) = some (.inl (acc, ((i + 1 : Nat) : Int))) := by
     rw [Aa, AQ, if_pos (by omega), BO hlt, Option.bind_some]
     rw [BO hlt] at hc
     rw [hc, Option.bind_some, hk, Ay, Option.bind_some, D5 (by omega)]
    rw [CR st, ih (i + 1) _ (by omega) (by omega)]
    simp
 unfold BN
 have := key R.length 0 [] (by omega) (by simp)
 rw [show ((0 : Nat) : Int) = 0 from rfl] at this
 rw [this, Option.bind_some, List.drop_zero, List.nil_append]
theorem SC {front : B9} {x : Nd} (hf : front.length ≤ 100000) (hk : ∀ c ∈ x.AP.map Prod.fst, c.length ≤ 100000) (hn : (x.AP.map Prod.fst).length ≤ 100000) :
  loop (Au front x) (([] : List B9), (0 : Int)) = some ((Az (x.AP.map Prod.fst)).map fun c => front ++ c) := by
 obtain ⟨S, hS⟩ : ∃ S, S = Az (x.AP.map Prod.fst) := ⟨_, rfl⟩
 have hSl : S.length ≤ 100000 := by rw [hS, (EM _).length_eq]; exact hn
 have hSk : ∀ c ∈ S, c.length ≤ 100000 := fun c hc => hk c (by rw [hS] at hc; exact Fp.1 hc)
 have key : ∀ (n i : Nat) (acc : List B9), i + n = S.length → acc.length ≤ i →
   loop (Au front x) (acc, (i : Int)) = some (acc ++ (S.drop i).map fun c => front ++ c) := by
  intro n
  induction n with
  | zero =>
   intro i acc hi ha
   refine BY ?_
   rw [Au, ← hS, AQ, if_neg (by omega), List.drop_of_length_le (by omega)]
   simp
  | succ n ih =>
   intro i acc hi ha
   have hlt : i < S.length := by omega
   have hc := hSk _ (List.getElem_mem hlt)
   have st : Au front x (acc, (i : Int)) = some (.inl (acc ++ [front ++ S[i]], ((i + 1 : Nat) : Int))) := by
    rw [Au, ← hS, AQ, if_pos (by omega), BO hlt, Option.bind_some, decide_eq_true (by omega), BF, GB (by simp; omega) (by simp; omega), BF, D5 (by omega)]
   rw [CR st, ih (i + 1) _ (by omega) (by simp; omega), drop_cons hlt, List.map_cons, List.append_assoc]
   rfl
 have := key S.length 0 [] (by omega) (by simp)
 rw [show ((0 : Nat) : Int) = 0 from rfl] at this
 rw [this, List.drop_zero, List.nil_append, hS]
theorem I7 {l : List Mb} (hs : Small l) {R : List Rw} (hr : Jl (paths l) l.length R) : ∀ x ∈ R, (∀ c ∈ x.L, NV c) ∧ x.L.length < 900000 ∧ (pj x.L).length < 900000000 := fun x hx => by
 obtain ⟨g1, _⟩ := RI hs hr
 obtain ⟨h1, h2, h3⟩ := g1 x hx
 refine ⟨h1, ?_, h3⟩
 have := Mp ((hr.keys x.L).1 (List.mem_map.2 ⟨x, hx, rfl⟩)).2 hs.Dd
 omega
theorem Tu {c d : B9} (h : c < d) : Hh [c] [d] := by
 unfold Hh
 exact .inl h
theorem OJ {s : B9} (hs : s.length ≤ 200) : ((DK s).bind fun x2 => (Ax (!(x2 == ([] : List UInt8))) (DW (decide (x2.length + ([47] : List UInt8).length ≤ 9223372036854775807)) <| some (x2 ++ ([47] : List UInt8))) (some x2) : Option (((List UInt8))))) = some (Fe (Dd s)) := by
 rw [OR (by omega), Option.bind_some]
 have hl := Fl s
 unfold Fe
 by_cases h : Dd s = []
 ·rw [if_pos h, h, HY]; rfl
 ·rw [if_neg h, beq_eq_false_iff_ne.2 (UQ (fun x hx => K2 hx) h), Bool.not_false, BE, decide_eq_true (by simp; omega), BF]
theorem OA {l : List Mb} (hs : Small l) {A : List Nd} {Ps : List Pa} (h : JC l l.length A Ps) {R : List Rw} (hr : Jl (paths l) l.length R) {f : Aj} (hf : f.Bb = 0) {s : B9} (hl : s.length ≤ 200) :
  B3 f s A = BN R (Dd s) := by
 have hsm := h.WA hs
 have hpl := IU s
 have hrl : R.length < 100000 := by have := hr.len; have := hs.Mh; omega
 rw [QY (I7 hs hr) hrl (by omega)]
 unfold B3
 rcases find_eq hs h hf hl with ⟨k, h1, h2⟩ | ⟨h1, h2⟩
 ·rw [h1, Option.bind_some]
  dsimp only
  obtain ⟨x, hx⟩ := h.ai.node h2
  have hc := OJ hl
  obtain ⟨fr, hfr⟩ : ∃ fr, fr = Fe (Dd s) := ⟨_, rfl⟩
  rw [← Option.bind_assoc, hc, Option.bind_some, hx, Option.bind_some, NW h.ai hsm hx, BF]
  have hkey : ∀ c ∈ x.AP.map Prod.fst, ∃ k', Cb x.AP c = some k' ∧ Ps[k']? = some (Dd s ++ [c]) ∧ (Fe (Dd s) ++ c).length ≤ 100000 := fun c hc => by
   obtain ⟨P, k', e1, e2, e3, e4⟩ := J4 h.ai hsm hx hc
   rw [h2] at e1
   cases e1
   exact ⟨k', e2, e3, e4⟩
  have hn : (x.AP.map Prod.fst).length ≤ 100000 := by
   have hn := h.ai.keys x (List.mem_of_getElem? hx)
   have := Kt (l := (x.AP.map Prod.fst).map fun c => Dd s ++ [c]) (m := Ps) (by
    rw [List.Nodup, List.pairwise_map]
    exact hn.imp fun hne e => hne (Hx e).2) (fun q hq => by
    obtain ⟨c, hc, rfl⟩ := List.mem_map.1 hq
    obtain ⟨k', _, e, _⟩ := hkey c hc
    exact List.mem_of_getElem? e)
   rw [List.length_map, ← h.ai.len] at this
   have := hsm.Mh
   omega
  have hfl : (Fe (Dd s)).length ≤ 100000 := by
   have := Fl s
   unfold Fe
   split
   ·simp
   ·simp; omega
  rw [SC hfl (fun c hc => by obtain ⟨_, _, _, e⟩ := hkey c hc; rw [List.length_append] at e; omega) hn, Option.bind_some]
  congr 1
  have e1 : (Az (x.AP.map Prod.fst)).map (fun c => Dd s ++ [c]) = (R.filter (J3 (Dd s))).map (·.L) := by
   refine N2 ?_ ?_ fun q => ?_
   ·rw [List.pairwise_map]
    exact (Jv (h.ai.keys x (List.mem_of_getElem? hx))).imp fun hlt => (Ib _ _ _).2 (Tu hlt)
   ·exact List.Pairwise.sublist (List.Sublist.map _ List.filter_sublist) hr.Ty
   ·constructor
    ·intro hq
     obtain ⟨c, hc, rfl⟩ := List.mem_map.1 hq
     obtain ⟨k', _, e, _⟩ := hkey c (Fp.1 hc)
     have hq2 : Dd s ++ [c] ∈ R.map (·.L) := (hr.keys _).2 ⟨by simp, by
      rcases (h.all _).1 (List.mem_of_getElem? e) with e | e
      ·simp at e
      ·exact e⟩
     obtain ⟨y, hy, hyl⟩ := List.mem_map.1 hq2
     refine List.mem_map.2 ⟨y, List.mem_filter.2 ⟨hy, ?_⟩, hyl⟩
     unfold J3
     rw [hyl, Bool.and_eq_true, decide_eq_true_iff]
     exact ⟨by simp, Gg.2 ⟨_, rfl⟩⟩
    ·intro hq
     obtain ⟨y, hy, rfl⟩ := List.mem_map.1 hq
     obtain ⟨hy1, hy2⟩ := List.mem_filter.1 hy
     unfold J3 at hy2
     rw [Bool.and_eq_true, decide_eq_true_iff] at hy2
     obtain ⟨d, hd⟩ := Gg.1 hy2.2
     have hdl : d.length = 1 := by have := hy2.1; rw [hd, List.length_append] at this; omega
     obtain ⟨c, rfl⟩ := List.length_eq_one_iff.1 hdl
     have hk2 := ((hr.keys y.L).1 (List.mem_map.2 ⟨y, hy1, rfl⟩)).2
     obtain ⟨k', hk'⟩ := List.mem_iff_getElem?.1 ((h.all y.L).2 (.inr hk2))
     rw [hd] at hk'
     have := (h.ai.Pu k x _ hx h2 c k').2 hk'
     show y.L ∈ _
     rw [hd]
     exact List.mem_map.2 ⟨c, Fp.2 (Fs.2 ⟨k', this⟩), rfl⟩
  have e2 := congrArg (List.map pj) e1
  rw [List.map_map, List.map_map] at e2
  rw [← show (R.filter (J3 (Dd s))).map (pj ∘ fun x : Rw => x.L) = (R.filter (J3 (Dd s))).map fun x => pj x.L from rfl, ← e2]
  exact List.map_congr_left fun c _ => Jp _ _
 ·rw [h1, Option.bind_some]
  dsimp only
  have : R.filter (J3 (Dd s)) = [] := by
   rw [List.filter_eq_nil_iff]
   intro y hy hk
   unfold J3 at hk
   rw [Bool.and_eq_true] at hk
   obtain ⟨d, hd⟩ := Gg.1 hk.2
   have hk2 := ((hr.keys y.L).1 (List.mem_map.2 ⟨y, hy, rfl⟩)).2
   obtain ⟨k', hk'⟩ := List.mem_iff_getElem?.1 ((h.all y.L).2 (.inr hk2))
   rw [hd] at hk'
   obtain ⟨j, hj⟩ := h.ai.front d hk'
   exact h2 (List.mem_of_getElem? hj)
  rw [this]; rfl
end Go.Av.L
