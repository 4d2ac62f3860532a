/-
 A part.
-/
import Derived.Test.YtdbkpibbjnhmgaaDoorAvPlan
namespace Go.Av
open Go.RowKit
section
variable {C : EP} {S : Self} {g : Gd} {ops : Array Oper} {pl : List (Nat × List Nat)} {F : Nat → Fr} {H : Nat → AB} {T : Nat → List (Nat × Nat)}
def Bl (pl : List (Nat × List Nat)) (listed : Array Bool) (p : Nat) : Bool := listed.getD (Ae pl p) false
def kW (C : EP) (ops : Array Oper) (pl : List (Nat × List Nat)) (listed : Array Bool) : Nat := FL (fun p => (AZ C.P (Am ops pl p).op == 3) && !Bl pl listed p) 0 pl.length
def qS (ops : Array Oper) (pl : List (Nat × List Nat)) (listed : Array Bool) (t : Nat) : Nat := FL (fun p => ((Am ops pl p).dst == some t) && !Bl pl listed p) 0 pl.length
theorem IK (C : EP) (ops : Array Oper) (pl : List (Nat × List Nat)) (listed : Array Bool) : kW C ops pl listed ≤ pl.length := by
 have := (C4 (fun p => (AZ C.P (Am ops pl p).op == 3) && !Bl pl listed p) pl.length 0).2.1; unfold kW; omega
theorem EJ {p : Nat} {listed : Array Bool} (h : p < kW C ops pl listed) (hc : AZ C.P (Am ops pl p).op = 3) : Bl pl listed p = true := by
 have := (C4 (fun p => (AZ C.P (Am ops pl p).op == 3) && !Bl pl listed p) pl.length 0).2.2.1 p (Nat.zero_le _) h
 simpa [hc] using this
theorem Lr {listed : Array Bool} (h : kW C ops pl listed < pl.length) : AZ C.P (Am ops pl (kW C ops pl listed)).op = 3 ∧ Bl pl listed (kW C ops pl listed) = false := by
 have := (C4 (fun p => (AZ C.P (Am ops pl p).op == 3) && !Bl pl listed p) pl.length 0).2.2.2 (by unfold kW at h; omega)
 simpa [kW] using this
theorem Jr (ops : Array Oper) (pl : List (Nat × List Nat)) (listed : Array Bool) (t : Nat) : qS ops pl listed t ≤ pl.length := by
 have := (C4 (fun p => ((Am ops pl p).dst == some t) && !Bl pl listed p) pl.length 0).2.1; unfold qS; omega
theorem KV {p t : Nat} {listed : Array Bool} (h : p < qS ops pl listed t) (hc : (Am ops pl p).dst = some t) : Bl pl listed p = true := by
 have := (C4 (fun p => ((Am ops pl p).dst == some t) && !Bl pl listed p) pl.length 0).2.2.1 p (Nat.zero_le _) h
 simpa [hc] using this
theorem QL {t : Nat} {listed : Array Bool} (h : qS ops pl listed t < pl.length) : (Am ops pl (qS ops pl listed t)).dst = some t ∧ Bl pl listed (qS ops pl listed t) = false := by
 have := (C4 (fun p => ((Am ops pl p).dst == some t) && !Bl pl listed p) pl.length 0).2.2.2 (by unfold qS at h; omega)
 simpa [qS] using this
def KA (ops : Array Oper) (listed : Array Bool) (i : Nat) : Prop := ∀ o, ops[i]? = some o → ∀ e ∈ o.after.toList, Region.binds .any e = true → listed.getD e.on false = true
def Closed (ops : Array Oper) (listed : Array Bool) : Prop := ∀ i, i < ops.size → listed.getD i false = true → KA ops listed i
theorem L8 {listed : Array Bool} (hc : Closed ops listed) {j : Nat} : ∀ (i : Nat), i < ops.size → KA ops listed i → dep (closure ops.toList []) j i = true → listed.getD j false = true := by
 intro i
 induction i using Nat.strongRecOn with
 | _ i ih =>
  intro hi hp hd
  have ho : ops[i]? = some ops[i] := Array.getElem?_eq_getElem hi
  have Jt := (G2 ops.toList [] i ops[i] j (by simp [hi])).1 (by simpa [dep] using hd)
  obtain ⟨e, he, hb, h | ⟨hlt, h⟩⟩ := Jt
  ·rw [h]; exact hp _ ho e he hb
  ·have hl := hp _ ho e he hb
   simp only [List.length_nil, Nat.zero_add] at hlt
   exact ih e.on hlt (by omega) (hc e.on (by omega) hl) (by simpa [dep] using h)
structure Inv (C : EP) (ops : Array Oper) (pl : List (Nat × List Nat)) (F : Nat → Fr) (H : Nat → AB) (w0 : World) (m0 : AU) (d0 : List Deferred) (listed : Array Bool) (a : Act) (w : World) : Prop where
 sz : listed.size = ops.size
 closed : Closed ops listed
 defers : a.defers = d0
 tmps : a.tmps.size = (F 0).length
 rel : ∃ m : AU, (m0.ext (H 0).size m) ∧ Rel C.P w0 m (H (kW C ops pl listed)) w ∧ (∀ t, VR m (nth (F (qS ops pl listed t)) t) (a.tmps.getD t undef)) ∧
  (∀ p, p < pl.length → AZ C.P (Am ops pl p).op = 2 → Bl pl listed p = false → Bv ops (F p) (Am ops pl p) = some true → m (H p).size = none)
theorem Inv.start (hrun : Ir C S g ops pl F H T) (hp : JM C.P ops pl) (hS : Fe C.P C.CM S) {w0 : World} {m0 : AU} {a : Act} {w : World} (r : Rel C.P w0 m0 (H 0) w) (hf : FR m0 (F 0) a) :
  Inv C ops pl F H w0 m0 a.defers (Array.replicate ops.size false) a w := by
 have hl : ∀ i, (Array.replicate ops.size false).getD i false = false := fun i => by
  simp only [Array.getD_eq_getD_getElem?, Array.getElem?_replicate]; split <;> rfl
 have hlst : ∀ p, Bl pl (Array.replicate ops.size false) p = false := fun p => hl _
 refine ⟨by simp, (fun i _ h => by rw [hl] at h; cases h), rfl, hf.1.symm, m0, AU.ext.refl _ _, ?_, fun t => ?_, fun p hpn _ _ _ => ?_⟩
 ·refine hrun.NM hp r _ (Nat.zero_le _) (IK _ _ _ _) fun x _ hx hc => ?_
  have := EJ hx hc
  rw [hlst] at this
  cases this
 ·rw [hrun.slot hp (p := 0) _ (Nat.zero_le _) (Jr _ _ _ _) fun x _ hx hc => ?_]
  ·exact hf.2 t
  ·have := KV hx hc
   rw [hlst] at this
   cases this
 ·exact r.fresh (hrun.size hp hS p (Nat.zero_le _) (by omega))
theorem Hg (hrun : Ir C S g ops pl F H T) (hp : JM C.P ops pl) {listed : Array Bool} {p : Nat} (hpn : p < pl.length)
  (hb : ∀ q, q < p → (Am ops pl q).dst = (Am ops pl p).dst → (Am ops pl q).dst ≠ none → Bl pl listed q = true)
  (ha : ∀ q, p < q → q < pl.length → (Am ops pl q).dst = (Am ops pl p).dst → (Am ops pl q).dst ≠ none → Bl pl listed q = false)
  (hl' : ∀ q, q < pl.length → Bl pl (listed.setIfInBounds (Ae pl p) true) q = (Bl pl listed q || decide (q = p)))
  {m m' : AU} (hm : m.le m') {a : Act} (htm : a.tmps.size = (F 0).length) (hv : ∀ t, VR m (nth (F (qS ops pl listed t)) t) (a.tmps.getD t undef)) {x : AA} {v : Value} (hx : VR m' x v) (hF : F (p + 1) = put (F p) (Am ops pl p).dst x) (t : Nat) :
  VR m' (nth (F (qS ops pl (listed.setIfInBounds (Ae pl p) true) t)) t) ((a.put (Am ops pl p).dst v).tmps.getD t undef) := by
 by_cases hd : (Am ops pl p).dst = some t
 ·-- the slot that the step writes
  have hq' : p < qS ops pl (listed.setIfInBounds (Ae pl p) true) t := by
   rcases Nat.lt_or_ge p (qS ops pl (listed.setIfInBounds (Ae pl p) true) t) with h | h
   ·exact h
   ·exfalso
    obtain ⟨c1, c2⟩ := QL (ops := ops) (pl := pl) (listed := listed.setIfInBounds (Ae pl p) true) (t := t) (by omega)
    rw [hl' _ (by omega)] at c2
    simp only [Bool.or_eq_false_iff, decide_eq_false_iff_not] at c2
    have := hb _ (by omega) (c1.trans hd.symm) (by rw [c1]; simp)
    rw [c2.1] at this
    cases this
  have e1 : nth (F (qS ops pl (listed.setIfInBounds (Ae pl p) true) t)) t = nth (F (p + 1)) t := by
   refine hrun.slot hp _ (by omega) (Jr _ _ _ _) fun y h1 h2 hc => ?_
   have h3 := KV h2 hc
   have hyn : y < pl.length := Nat.lt_of_lt_of_le h2 (Jr _ _ _ _)
   rw [hl' y hyn] at h3
   have h4 := ha y (by omega) hyn (hc.trans hd.symm) (by rw [hc]; simp)
   rw [h4] at h3
   simp at h3
   omega
  rw [e1, hF, hd]
  show VR m' (nth ((F p).set t x) t) ((a.tmps.setIfInBounds t v).getD t undef)
  rw [Bu]
  by_cases ht : t < (F p).length
  ·rw [if_pos ⟨rfl, ht⟩]
   have : t < a.tmps.size := by rw [htm, ← hrun.len hp p (by omega)]; exact ht
   simpa [Array.getD_eq_getD_getElem?, this] using hx
  ·rw [if_neg (by rintro ⟨_, h⟩; exact ht h)]
   have h1 : nth (F p) t = .tuple [] := by rw [FE, List.getD_eq_getElem?_getD, List.getElem?_eq_none (by omega)]; rfl
   have h2 : ¬ t < a.tmps.size := by rw [htm, ← hrun.len hp p (by omega)]; exact ht
   rw [h1]
   have : (a.tmps.setIfInBounds t v).getD t undef = undef := by simp [Array.getD_eq_getD_getElem?, h2]
   rw [this]
   exact VR.Dr m'
 ·-- another slot
  have e1 : qS ops pl (listed.setIfInBounds (Ae pl p) true) t = qS ops pl listed t := by
   obtain ⟨a1, a2, a3, a4⟩ := C4 (fun p => ((Am ops pl p).dst == some t) && !Bl pl listed p) pl.length 0
   refine Jm _ (Jr _ _ _ _) (fun y hy => ?_) (fun hlt => ?_)
   ·have := a3 y (Nat.zero_le _) hy
    have hyn : y < pl.length := Nat.lt_of_lt_of_le hy (Jr _ _ _ _)
    simp only [hl' y hyn]
    rcases Bool.and_eq_false_iff.1 this with h | h
    ·simp [h]
    ·simp only [Bool.not_eq_false'] at h; simp [h]
   ·obtain ⟨c1, c2⟩ := QL hlt
    rw [hl' _ hlt]
    have hne : qS ops pl listed t ≠ p := fun e => hd (by rw [← e]; exact c1)
    simp [c1, c2, hne]
  rw [e1]
  have : (a.put (Am ops pl p).dst v).tmps.getD t undef = a.tmps.getD t undef := by
   cases hdd : (Am ops pl p).dst with
   | none => rfl
   | some d =>
    have hne : d ≠ t := fun e => hd (by rw [hdd, e])
    simp [Act.put, Array.getD_eq_getD_getElem?, Array.getElem?_setIfInBounds_ne hne]
  rw [this]
  exact (hv t).mono hm
theorem size_put (a : Act) (d : Option Tmp) (v : Value) : (a.put d v).tmps.size = a.tmps.size := by cases d <;> simp [Act.put]
theorem Inv.step (hrun : Ir C S g ops pl F H T) (hp : JM C.P ops pl) (hS : Fe C.P C.CM S) {w0 : World} (hz : BO C.CM w0) {m0 : AU} {d0 : List Deferred} {listed : Array Bool} {a : Act} {w : World}
  (inv : Inv C ops pl F H w0 m0 d0 listed a w) {i : Nat} (hi : i ∈ Region.ready .any ops listed) {K : Act → World → Prop} {Q : Exit → Act → World → Prop}
  (hK : ∀ a' w', Inv C ops pl F H w0 m0 d0 (listed.setIfInBounds i true) a' w' → K a' w') (rd : Option Nat) : wpOpIn (FW rd) 0 C.P ops Q i K a w := by
 obtain ⟨hin, hnl0, hpre⟩ : i < ops.size ∧ listed.getD i true = false ∧ KA ops listed i := by
  simp only [Region.ready, List.mem_filter, List.mem_range, Bool.and_eq_true, Bool.not_eq_true'] at hi
  refine ⟨hi.1, hi.2.1, fun o ho e he hb => ?_⟩
  have := hi.2.2
  rw [ho] at this
  simp only [Option.map_some, Option.getD_some] at this
  rw [← Array.all_toList] at this
  have := List.all_eq_true.1 this e he
  rw [hb] at this
  simpa using this
 obtain ⟨p, hpn, rfl⟩ := hp.Xj i hin
 have hsz := inv.sz
 have hnl : Bl pl listed p = false := by
  unfold Bl
  have h1 : Ae pl p < listed.size := by rw [hsz]; exact hin
  simp only [Array.getD_eq_getD_getElem?, Array.getElem?_eq_getElem h1, Option.getD_some] at hnl0 ⊢
  exact hnl0
 have before_ : ∀ q, q < p → dep (closure ops.toList []) (Ae pl q) (Ae pl p) = true → Bl pl listed q = true := fun q _ hd => L8 inv.closed _ hin hpre hd
 have behind : ∀ q, p < q → q < pl.length → dep (closure ops.toList []) (Ae pl p) (Ae pl q) = true → Bl pl listed q = false := fun q _ hq hd => by
  cases hl : Bl pl listed q with
  | false => rfl
  | true =>
   have hql : Ae pl q < ops.size := (Array.getElem?_eq_some_iff.1 (hp.lt q hq)).1
   have := L8 inv.closed _ hql (inv.closed _ hql hl) hd
   unfold Bl at hnl
   rw [hnl] at this
   cases this
 have ord : ∀ q, q < pl.length → q ≠ p → (q < p → dep (closure ops.toList []) (Ae pl q) (Ae pl p) = true) → (p < q → dep (closure ops.toList []) (Ae pl p) (Ae pl q) = true) → Bl pl listed q = decide (q < p) := by
  intro q hq hne h1 h2
  rcases Nat.lt_or_gt_of_ne hne with h | h
  ·rw [before_ q h (h1 h)]; simp [h]
  ·rw [behind q h hq (h2 h)]; simp; omega
 have looks : ∀ t ∈ (Am ops pl p).looksAt ops, nth (F (qS ops pl listed t)) t = nth (F p) t := by
  intro t ht
  have wr : ∀ q, q < pl.length → q ≠ p → (Am ops pl q).dst = some t → Bl pl listed q = decide (q < p) := by
   intro q hq hne hd
   refine ord q hq hne (fun hlt => ?_) (fun hlt => ?_)
   ·rcases hp.pair q p hlt hpn with h | ⟨h, _⟩
    ·exact h
    ·exact absurd ht ((Oper.apart_spec h).1 t hd)
   ·rcases hp.pair p q hlt hq with h | ⟨h, _⟩
    ·exact h
    ·exact absurd ht ((Oper.apart_spec h).2.2 t hd)
  have hge : p ≤ qS ops pl listed t := by
   rcases Nat.lt_or_ge (qS ops pl listed t) p with h | h
   ·obtain ⟨c1, c2⟩ := QL (ops := ops) (pl := pl) (listed := listed) (t := t) (by omega)
    rw [wr _ (by omega) (by omega) c1] at c2
    simp at c2
    omega
   ·exact h
  refine hrun.slot hp _ hge (Jr _ _ _ _) fun x h1 h2 hd => ?_
  have hl := KV h2 hd
  have hxn : x < pl.length := Nat.lt_of_lt_of_le h2 (Jr _ _ _ _)
  by_cases hxp : x = p
  ·rw [hxp, hnl] at hl; cases hl
  ·rw [wr x hxn hxp hd] at hl; simp at hl; omega
 have wrB : ∀ q, q < p → (Am ops pl q).dst = (Am ops pl p).dst → (Am ops pl q).dst ≠ none → Bl pl listed q = true := by
  intro q hlt hd hn
  rcases hp.pair q p hlt hpn with h | ⟨h, _⟩
  ·exact before_ q hlt h
  ·cases hq : (Am ops pl q).dst with
   | none => exact absurd hq hn
   | some d => exact absurd (hd.symm.trans hq) ((Oper.apart_spec h).2.1 d hq)
 have wrA : ∀ q, p < q → q < pl.length → (Am ops pl q).dst = (Am ops pl p).dst → (Am ops pl q).dst ≠ none → Bl pl listed q = false := by
  intro q hlt hq hd hn
  rcases hp.pair p q hlt hq with h | ⟨h, _⟩
  ·exact behind q hlt hq h
  ·cases hq' : (Am ops pl p).dst with
   | none => rw [hq'] at hd; exact absurd hd hn
   | some d => exact absurd (hd.trans hq') ((Oper.apart_spec h).2.1 d hq')
 have hl' : ∀ q, q < pl.length → Bl pl (listed.setIfInBounds (Ae pl p) true) q = (Bl pl listed q || decide (q = p)) := by
  intro q hq
  unfold Bl
  simp only [Array.getD_eq_getD_getElem?]
  by_cases e : q = p
  ·subst e
   have h1 : Ae pl q < listed.size := by rw [hsz]; exact hin
   simp [h1]
  ·have hne : Ae pl p ≠ Ae pl q := by
    rcases Nat.lt_or_gt_of_ne e with h | h
    ·exact fun hh => hp.ne q p h hpn hh.symm
    ·exact hp.ne p q h hq
   simp [Array.getElem?_setIfInBounds_ne hne, e]
 have closed' : Closed ops (listed.setIfInBounds (Ae pl p) true) := by
  have mono : ∀ j, listed.getD j false = true → (listed.setIfInBounds (Ae pl p) true).getD j false = true := by
   intro j hj
   by_cases e : Ae pl p = j
   ·subst e
    have h1 : Ae pl p < listed.size := by rw [hsz]; exact hin
    simp [Array.getD_eq_getD_getElem?, h1]
   ·simpa [Array.getD_eq_getD_getElem?, Array.getElem?_setIfInBounds_ne e] using hj
  intro j hj hlj o ho e he hb
  by_cases ej : Ae pl p = j
  ·subst ej
   exact mono _ (hpre o ho e he hb)
  ·have : listed.getD j false = true := by simpa [Array.getD_eq_getD_getElem?, Array.getElem?_setIfInBounds_ne ej] using hlj
   exact mono _ (inv.closed j hj this o ho e he hb)
 obtain ⟨m, hm0, rel, hv, hgh⟩ := inv.rel
 obtain ⟨FD, hFD⟩ : ∃ FD : Fr, FD = (List.range (F 0).length).map fun t => nth (F (qS ops pl listed t)) t := ⟨_, rfl⟩
 have hFDn : ∀ t, nth FD t = nth (F (qS ops pl listed t)) t := by
  intro t
  rw [hFD, FE, List.getD_eq_getElem?_getD, List.getElem?_map]
  by_cases ht : t < (F 0).length
  ·simp [List.getElem?_range ht]
  ·rw [List.getElem?_eq_none (by simp; omega)]
   rw [FE, List.getD_eq_getElem?_getD, List.getElem?_eq_none (by rw [hrun.len hp _ (Jr _ _ _ _)]; omega)]
   rfl
 have hfr : FR m FD a := ⟨by rw [hFD]; simp [inv.tmps], fun t => by rw [hFDn]; exact hv t⟩
 have hsame : ∀ t ∈ (Am ops pl p).looksAt ops, nth FD t = nth (F p) t := fun t ht => by rw [hFDn]; exact looks t ht
 have hso := Md hsame
 unfold wpOpIn
 rw [hp.lt p hpn]
 simp only
 have kcmp : AZ C.P (Am ops pl p).op ≠ 0 → p ≤ kW C ops pl listed := by
  intro hc
  rcases Nat.lt_or_ge (kW C ops pl listed) p with h | h
  ·obtain ⟨c1, c2⟩ := Lr (C := C) (ops := ops) (pl := pl) (listed := listed) (by omega)
   rcases hp.pair _ p h hpn with hd | ⟨_, hd⟩
   ·have := before_ _ h hd
    rw [c2] at this
    cases this
   ·rcases hd with hd | hd | ⟨hd, _⟩
    ·exact absurd hd hc
    ·rw [c1] at hd; cases hd
    ·exact absurd c1 hd
  ·exact h
 have prot1 : AZ C.P (Am ops pl p).op = 1 ∨ AZ C.P (Am ops pl p).op = 2 → ∀ x, p < x → x < kW C ops pl listed → AZ C.P (Am ops pl x).op = 3 → (Hp pl x).any (Nat.beq (Ae pl p)) = true ∨ (AZ C.P (Am ops pl p).op = 1 ∧ (Hp pl x).any (Nat.beq (Ae pl p + 10000)) = true ∧ Jx ops (closure ops.toList []) (Ae pl p) = true) := by
  intro hc x h1 h2 hx
  have hxn : x < pl.length := Nat.lt_of_lt_of_le h2 (IK _ _ _ _)
  have hl := EJ h2 hx
  rcases hp.pair p x h1 hxn with hd | ⟨_, hd⟩
  ·rw [behind x h1 hxn hd] at hl; cases hl
  ·rcases hd with hd | hd | ⟨_, hd | hd⟩
   ·rw [hx] at hd; cases hd
   ·rcases hc with h | h <;> rw [h] at hd <;> cases hd
   ·exact absurd hx hd
   ·exact hd
 have Bg : AZ C.P (Am ops pl p).op = 2 → ∀ x, p < x → x < kW C ops pl listed → AZ C.P (Am ops pl x).op = 3 → (Hp pl x).any (Nat.beq (Ae pl p)) = true := by
  intro hc x h1 h2 hx
  rcases prot1 (.inr hc) x h1 h2 hx with h | ⟨h, _⟩
  ·exact h
  ·rw [hc] at h; cases h
 have kSame : AZ C.P (Am ops pl p).op ≠ 3 → kW C ops pl (listed.setIfInBounds (Ae pl p) true) = kW C ops pl listed := by
  intro hc
  obtain ⟨a1, a2, a3, a4⟩ := C4 (fun p => (AZ C.P (Am ops pl p).op == 3) && !Bl pl listed p) pl.length 0
  refine Jm _ (IK _ _ _ _) (fun y hy => ?_) (fun hlt => ?_)
  ·have := a3 y (Nat.zero_le _) hy
   have hyn : y < pl.length := Nat.lt_of_lt_of_le hy (IK _ _ _ _)
   simp only [hl' y hyn]
   rcases Bool.and_eq_false_iff.1 this with h | h
   ·simp [h]
   ·simp only [Bool.not_eq_false'] at h; simp [h]
  ·obtain ⟨c1, c2⟩ := Lr hlt
   rw [hl' _ hlt]
   have hne : kW C ops pl listed ≠ p := fun e => hc (by rw [← e]; exact c1)
   simp [c1, c2, hne]
 have ghosts' : ∀ {m' : AU}, (∀ q, q < pl.length → q ≠ p → AZ C.P (Am ops pl q).op = 2 → Bl pl listed q = false → Bv ops (F q) (Am ops pl q) = some true → m' (H q).size = none) →
   ∀ q, q < pl.length → AZ C.P (Am ops pl q).op = 2 → Bl pl (listed.setIfInBounds (Ae pl p) true) q = false → Bv ops (F q) (Am ops pl q) = some true → m' (H q).size = none := by
  intro m' h q hq hc hl hw
  rw [hl' q hq] at hl
  simp only [Bool.or_eq_false_iff, decide_eq_false_iff_not] at hl
  exact h q hq hl.2 hc hl.1 hw
 rcases hrun.at_ hp hpn with ⟨hw, hF, hH, _⟩ | ⟨hw, x, hs, hF, hT, _⟩
 ·-- it is not wanted
  have hwant := DZ hfr (by rw [G3 hsame]; exact hw)
  rw [if_neg (by rw [hwant]; simp)]
  refine ⟨fun _ _ => trivial, hK _ _ ⟨by simp [hsz], closed', by rw [BD]; exact inv.defers, by rw [size_put]; exact inv.tmps, m, hm0, ?_, fun t => Hg hrun hp hpn wrB wrA hl' (AU.le_refl m) inv.tmps hv (VR.Dr m) hF t, ghosts' fun q hq _ hc hl hw => hgh q hq hc hl hw⟩⟩
  by_cases hc : AZ C.P (Am ops pl p).op = 3
  ·-- a writing operation that is passed over
   have hkp : kW C ops pl listed = p := by
    have h1 := kcmp (by rw [hc]; simp)
    rcases Nat.lt_or_ge p (kW C ops pl listed) with h | h
    ·have := EJ h hc; rw [hnl] at this; cases this
    ·omega
   have hk' : p + 1 ≤ kW C ops pl (listed.setIfInBounds (Ae pl p) true) := by
    rcases Nat.lt_or_ge (kW C ops pl (listed.setIfInBounds (Ae pl p) true)) (p + 1) with h | h
    ·exfalso
     obtain ⟨c1, c2⟩ := Lr (C := C) (ops := ops) (pl := pl) (listed := listed.setIfInBounds (Ae pl p) true) (by omega)
     rw [hl' _ (by omega)] at c2
     simp only [Bool.or_eq_false_iff, decide_eq_false_iff_not] at c2
     have := EJ (C := C) (ops := ops) (pl := pl) (listed := listed) (p := kW C ops pl (listed.setIfInBounds (Ae pl p) true)) (by omega) c1
     rw [c2.1] at this
     cases this
    ·exact h
   rw [hkp, ← hH] at rel
   refine hrun.NM hp rel _ hk' (IK _ _ _ _) fun y h1 h2 hy => ?_
   have hyn : y < pl.length := Nat.lt_of_lt_of_le h2 (IK _ _ _ _)
   have h3 := EJ h2 hy
   rw [hl' y hyn] at h3
   have h4 : Bl pl listed y = false := by
    rcases hp.pair p y (by omega) hyn with hd | ⟨_, hd⟩
    ·exact behind y (by omega) hyn hd
    ·rcases hd with hd | hd | ⟨hd, _⟩
     ·rw [hy] at hd; cases hd
     ·rw [hc] at hd; cases hd
     ·exact absurd hc hd
   rw [h4] at h3
   simp at h3
   omega
  ·rw [kSame hc]; exact rel
 ·-- it is run
  have hwant := DZ hfr (by rw [G3 hsame]; exact hw)
  rw [if_pos hwant]
  by_cases hc3 : AZ C.P (Am ops pl p).op = 3
  ·-- a writing operation: the heap is the plan's own
   have hkp : kW C ops pl listed = p := by
    have h1 := kcmp (by rw [hc3]; simp)
    rcases Nat.lt_or_ge p (kW C ops pl listed) with h | h
    ·have := EJ h hc3; rw [hnl] at this; cases this
    ·omega
   rw [hkp] at rel
   rw [← PN hso] at hs
   refine HT hS hz rel hfr hs (fun m' v' w' e1 e2 e3 => hK _ _ ?_) rd
   have hle := rel.Jh e1
   have hk' : p + 1 ≤ kW C ops pl (listed.setIfInBounds (Ae pl p) true) := by
    rcases Nat.lt_or_ge (kW C ops pl (listed.setIfInBounds (Ae pl p) true)) (p + 1) with h | h
    ·exfalso
     obtain ⟨c1, c2⟩ := Lr (C := C) (ops := ops) (pl := pl) (listed := listed.setIfInBounds (Ae pl p) true) (by omega)
     rw [hl' _ (by omega)] at c2
     simp only [Bool.or_eq_false_iff, decide_eq_false_iff_not] at c2
     have := EJ (C := C) (ops := ops) (pl := pl) (listed := listed) (p := kW C ops pl (listed.setIfInBounds (Ae pl p) true)) (by omega) c1
     rw [c2.1] at this
     cases this
    ·exact h
   have notdone : ∀ y, p < y → y < pl.length → AZ C.P (Am ops pl y).op ≠ 0 → Bl pl listed y = false := by
    intro y h1 hyn hy
    rcases hp.pair p y h1 hyn with hd | ⟨_, hd⟩
    ·exact behind y h1 hyn hd
    ·rcases hd with hd | hd | ⟨hd, _⟩
     ·exact absurd hd hy
     ·rw [hc3] at hd; cases hd
     ·exact absurd hc3 hd
   refine ⟨by simp [hsz], closed', by rw [BD]; exact inv.defers, by rw [size_put]; exact inv.tmps, m', hm0.trans e1 (hrun.size hp hS p (Nat.zero_le _) (by omega)), ?_, fun t => Hg hrun hp hpn wrB wrA hl' hle inv.tmps hv e3 hF t, ghosts' fun q hq hne hc hl hw => ?_⟩
   ·refine hrun.NM hp e2 _ hk' (IK _ _ _ _) fun y h1 h2 hy => ?_
    have hyn : y < pl.length := Nat.lt_of_lt_of_le h2 (IK _ _ _ _)
    have h3 := EJ h2 hy
    rw [hl' y hyn, notdone y (by omega) hyn (by rw [hy]; simp)] at h3
    simp at h3
    omega
   ·rcases Nat.lt_or_gt_of_ne hne with h | h
    ·-- it makes an object at a place ahead of ours
     have hlt : (H q).size < (H p).size := by
      have h1 : (H (q + 1)).size = (H q).size + 1 := by
       rcases hrun.at_ hp hq with ⟨hw2, _⟩ | ⟨_, u, hs2, _, _⟩
       ·rw [hw] at hw2; cases hw2
       ·rw [En (by rw [hc]; simp)] at hs2
        unfold GA at hs2
        rw [hc] at hs2
        simp only [Option.map_eq_some_iff, Prod.mk.injEq] at hs2
        obtain ⟨_, _, _, e⟩ := hs2
        rw [← e]; simp
      have h2 := hrun.size hp hS (p := q + 1) p (by omega) (by omega)
      omega
     rw [e1.i _ hlt]
     exact hgh q hq hc hl hw
    ·exact e2.fresh (hrun.size hp hS (p := p + 1) q (by omega) (by omega))
  ·-- no writing operation: by its class
   have hkS := kSame hc3
   rw [En hc3] at hs
   have hnd : ∀ c, (Am ops pl p).op ≠ .defer c := fun c e => hc3 (by rw [e]; rfl)
   have fin : ∀ {m' : AU} {v' : Value} {w' : World}, m.le m' → (m0.ext (H 0).size m') → Rel C.P w0 m' (H (kW C ops pl listed)) w' → VR m' x v' →
     (∀ q, q < pl.length → q ≠ p → AZ C.P (Am ops pl q).op = 2 → Bl pl listed q = false → Bv ops (F q) (Am ops pl q) = some true → m' (H q).size = none) →
     K (a.put (Am ops pl p).dst v') w' := by
    intro m' v' w' h1 h2 h3 h4 h5
    exact hK _ _ ⟨by simp [hsz], closed', by rw [BD]; exact inv.defers, by rw [size_put]; exact inv.tmps, m', h2, by rw [hkS]; exact h3, fun t => Hg hrun hp hpn wrB wrA hl' h1 inv.tmps hv h4 hF t, ghosts' h5⟩
   unfold GA at hs
   split at hs
   ·-- slots alone
    rename_i hc
    simp only [Option.map_eq_some_iff, Prod.mk.injEq] at hs
    obtain ⟨x', hx', rfl, _⟩ := hs
    rw [← OL hso] at hx'
    obtain ⟨v', h1, h2⟩ := J3 (P := C.P) w hfr hx'
    refine ⟨fun _ _ => trivial, ?_⟩
    rw [Oper.semAt_eq _ _ _ hnd, h1]
    exact fin (AU.le_refl m) hm0 rel h2 fun q hq _ hc hl hw => hgh q hq hc hl hw
   ·-- it reads one object
    rename_i hc
    have hkp := kcmp (by rw [hc]; simp)
    have hkne : kW C ops pl listed ≠ p := fun e => by
     have := (Lr (C := C) (ops := ops) (pl := pl) (listed := listed) (by omega)).1
     rw [e, hc] at this
     cases this
    have go : ∀ ob, (CJ (F p) (Am ops pl p).op).bind (H (kW C ops pl listed)).get = ob → HB C.P C.CM (F p) ob (Am ops pl p).op = some x → Oper.wpIn (FW rd) 0 C.P (Am ops pl p) a w K Q := by
     intro ob hob hx'
     rw [← JT hso, ← hob, ← ID hso] at hx'
     obtain ⟨v', h1, h2⟩ := KN hz rel hfr hx'
     refine ⟨fun _ _ => trivial, ?_⟩
     rw [Oper.semAt_eq _ _ _ hnd, h1]
     exact fin (AU.le_refl m) hm0 rel h2 fun q hq _ hc hl hw => hgh q hq hc hl hw
    split at hs
    ·rename_i ht
     simp only [Option.map_eq_some_iff, Prod.mk.injEq] at hs
     obtain ⟨x', hx', rfl, _⟩ := hs
     exact go none (by rw [ht]; rfl) hx'
    ·rename_i id ht
     split at hs
     ·rename_i ob hg
      have hmem : (Ae pl p, id) ∈ T (p + 1) := by
       rw [hT]; unfold EC; rw [hc]; simp only [ht]; exact List.mem_cons_self
      simp only [Option.map_eq_some_iff, Prod.mk.injEq] at hs
      obtain ⟨x', hx', rfl, hHp⟩ := hs
      obtain ⟨ob2, g1, g2⟩ := hrun.reads hp hS hpn hw ht (by rw [← hHp]; exact hg) hx' hF hmem (kW C ops pl listed) (by omega) (IK _ _ _ _) fun y h1 h2 hy => by
       rcases prot1 (.inl hc) y h1 h2 hy with h | ⟨_, h⟩
       ·exact .inl h
       ·exact .inr h
      exact go (some ob2) (by rw [ht]; exact g1) g2
     ·cases hs
   ·-- it makes one object
    rename_i hc
    have hkp := kcmp (by rw [hc]; simp)
    have hkne : kW C ops pl listed ≠ p := fun e => by
     have := (Lr (C := C) (ops := ops) (pl := pl) (listed := listed) (by omega)).1
     rw [e, hc] at this
     cases this
    simp only [Option.map_eq_some_iff, Prod.mk.injEq] at hs
    obtain ⟨nw, hnw, rfl, hHp⟩ := hs
    rw [← OB hso] at hnw
    obtain ⟨v', w', E, h1, t1, t2, _, t4⟩ := MY (P := C.P) w hfr hnw
    have hnone := hgh p hpn hc hnl hw
    have hle := AU.GN (m := m) E hnone
    obtain ⟨q1, q2⟩ := t4 (m.upd (H p).size E) hle (H p).size (AU.Ci m _ E)
    have hmem : (Ae pl p, (H p).size) ∈ T (p + 1) := by
     rw [hT]; unfold EC; rw [hc]; exact List.mem_cons_self
    have hget1 : (H (p + 1)).get (H p).size = some nw.2 := by rw [← hHp]; exact AB.Cv _ _
    have hget : (H (kW C ops pl listed)).get (H p).size = some nw.2 := by
     rw [← hget1]
     exact hrun.same hp hS hmem (by rw [← hHp]; simp) _ (by omega) (IK _ _ _ _) fun y h1 h2 hy => Bg hc y (by omega) h2 hy
    refine ⟨fun _ _ => trivial, ?_⟩
    rw [Oper.semAt_eq _ _ _ hnd, h1]
    refine fin hle (hm0.trans (AU.G8 m E (by have := hrun.size hp hS (p := 0) p (Nat.zero_le _) (by omega); omega)) (Nat.le_refl _)) (rel.place t1 (by rw [t2]; exact rel.size) (fun id2 E2 o2 hm2 ho2 hl2 => ?_) (rel.Pp (by omega)) (fun x hd => by have := rel.IU hd; omega) hnone hget q2) q1 fun q hq hne hcq hl hwq => ?_
    ·have := (rel.obj id2 E2 o2 hm2 ho2).lt hl2; omega
    ·have hszq : ∀ y, y < pl.length → AZ C.P (Am ops pl y).op = 2 → Bv ops (F y) (Am ops pl y) = some true → (H (y + 1)).size = (H y).size + 1 := by
      intro y hy hcy hwy
      rcases hrun.at_ hp hy with ⟨hw2, _⟩ | ⟨_, u, hs2, _, _⟩
      ·rw [hwy] at hw2; cases hw2
      ·rw [En (by rw [hcy]; simp)] at hs2
       unfold GA at hs2
       rw [hcy] at hs2
       simp only [Option.map_eq_some_iff, Prod.mk.injEq] at hs2
       obtain ⟨_, _, _, e⟩ := hs2
       rw [← e]; simp
     rw [AU.JI m E ?_]
     ·exact hgh q hq hcq hl hwq
     ·rcases Nat.lt_or_gt_of_ne hne with h | h
      ·have h1 := hszq q hq hcq hwq
       have h2 := hrun.size hp hS (p := q + 1) p (by omega) (by omega)
       omega
      ·have h1 := hszq p hpn hc hw
       have h2 := hrun.size hp hS (p := p + 1) q (by omega) (by omega)
       omega
   ·rename_i h0 h1 h2
    exfalso
    have : ∀ op, AZ C.P op = 0 ∨ AZ C.P op = 1 ∨ AZ C.P op = 2 ∨ AZ C.P op = 3 := by
     intro op
     exact Gq op
    rcases this (Am ops pl p).op with h | h | h | h
    ·exact h0 h
    ·exact h1 h
    ·exact h2 h
    ·exact hc3 h
theorem Ka : ∀ (l : List Nat) (f g : Nat → Bool), (∀ j, g j = true → f j = true) → (∃ i ∈ l, f i = true ∧ g i = false) → (l.filter g).length < (l.filter f).length
 | [], f, g, _, ⟨i, hi, _⟩ => by simp at hi
 | x :: l, f, g, hfg, ⟨i, hi, h1, h2⟩ => by
  have le : (l.filter g).length ≤ (l.filter f).length := by
   clear hi
   induction l with
   | nil => simp
   | cons y l ih =>
    simp only [List.filter_cons]
    cases hg : g y
    ·cases hf : f y <;> simp <;> omega
    ·rw [hfg y hg]; simp; exact ih
  simp only [List.filter_cons]
  by_cases e : i = x
  ·subst e
   rw [h1, h2]; simp; omega
  ·have hi' : i ∈ l := by cases hi with | head => exact absurd rfl e | tail _ h => exact h
   have ih := Ka l f g hfg ⟨i, hi', h1, h2⟩
   cases hg : g x
   ·cases hf : f x <;> simp <;> omega
   ·rw [hfg x hg]; simp; exact ih
theorem Inv.done (hrun : Ir C S g ops pl F H T) (hp : JM C.P ops pl) {w0 : World} {m0 : AU} {d0 : List Deferred} {listed : Array Bool} {a : Act} {w : World} (inv : Inv C ops pl F H w0 m0 d0 listed a w)
  (hall : ∀ i, i < ops.size → listed.getD i false = true) :
  ∃ m, (m0.ext (H 0).size m) ∧ Rel C.P w0 m (H pl.length) w ∧ FR m (F pl.length) a ∧ a.defers = d0 := by
 obtain ⟨m, h1, h2, h3, _⟩ := inv.rel
 have hl : ∀ p, p < pl.length → Bl pl listed p = true := fun p hpn => hall _ (Array.getElem?_eq_some_iff.1 (hp.lt p hpn)).1
 have hk : kW C ops pl listed = pl.length := by
  rcases Nat.lt_or_ge (kW C ops pl listed) pl.length with h | h
  ·have := (Lr h).2; rw [hl _ h] at this; cases this
  ·have := IK C ops pl listed; omega
 have hq : ∀ t, qS ops pl listed t = pl.length := fun t => by
  rcases Nat.lt_or_ge (qS ops pl listed t) pl.length with h | h
  ·have := (QL h).2; rw [hl _ h] at this; cases this
  ·have := Jr ops pl listed t; omega
 exact ⟨m, h1, by rw [← hk]; exact h2, ⟨by rw [hrun.len hp _ (Nat.le_refl _)]; exact inv.tmps.symm, fun t => by have := h3 t; rwa [hq t] at this⟩, inv.defers⟩
theorem Inv.any (hrun : Ir C S g ops pl F H T) (hp : JM C.P ops pl) (hS : Fe C.P C.CM S) {w0 : World} (hz : BO C.CM w0) {m0 : AU} {d0 : List Deferred} {Q : Exit → Act → World → Prop}
  (hQ : ∀ m a w, (m0.ext (H 0).size m) → Rel C.P w0 m (H pl.length) w → FR m (F pl.length) a → a.defers = d0 → Q .normal a w) :
  ∀ (fuel : Nat) (listed : Array Bool) (a : Act) (w : World), Inv C ops pl F H w0 m0 d0 listed a w → ((List.range ops.size).filter fun i => !listed.getD i false).length ≤ fuel → ∀ rd : Option Nat, wpAnyIn (FW rd) 0 C.P .any ops Q fuel listed a w := by
 have fin : ∀ {listed : Array Bool} {a : Act} {w : World}, Inv C ops pl F H w0 m0 d0 listed a w → (∀ i, i < ops.size → listed.getD i false = true) → Q .normal a w := by
  intro listed a w inv hall
  obtain ⟨m, h1, h2, h3, h4⟩ := inv.done hrun hp hall
  exact hQ m a w h1 h2 h3 h4
 intro fuel
 induction fuel with
 | zero =>
  intro listed a w inv hc rd
  have hall : ∀ i, i < ops.size → listed.getD i false = true := by
   intro i hi
   cases hl : listed.getD i false with
   | true => rfl
   | false =>
    have hm : i ∈ (List.range ops.size).filter fun i => !listed.getD i false := List.mem_filter.2 ⟨by simpa using hi, by rw [hl]; rfl⟩
    have : ((List.range ops.size).filter fun i => !listed.getD i false) = [] := List.eq_nil_of_length_eq_zero (by omega)
    rw [this] at hm
    cases hm
  refine ⟨?_, fin inv hall⟩
  apply List.filter_eq_nil_iff.2
  intro i hi
  have hi' : i < ops.size := by simpa using hi
  have := hall i hi'
  have h1 : i < listed.size := by rw [inv.sz]; exact hi'
  simp only [Array.getD_eq_getD_getElem?, Array.getElem?_eq_getElem h1, Option.getD_some] at this ⊢
  simp [this]
 | succ fuel ih =>
  intro listed a w inv hc rd
  refine ⟨fun hr => fin inv ?_, fun i hi => ?_⟩
  ·-- nothing is ready: all is done
   apply Classical.byContradiction
   intro hno
   obtain ⟨a1, a2, a3, a4⟩ := C4 (fun p => !Bl pl listed p) pl.length 0
   have hlt : FL (fun p => !Bl pl listed p) 0 pl.length < 0 + pl.length := by
    rcases Nat.lt_or_ge (FL (fun p => !Bl pl listed p) 0 pl.length) (0 + pl.length) with h | h
    ·exact h
    ·exfalso
     apply hno
     intro i hi
     obtain ⟨p, hpn, rfl⟩ := hp.Xj i hi
     have := a3 p (Nat.zero_le _) (by omega)
     simpa [Bl] using this
   have hn := a4 hlt
   generalize FL (fun p => !Bl pl listed p) 0 pl.length = p at a1 a2 a3 hlt hn
   have hpn : p < pl.length := by omega
   have hin : Ae pl p < ops.size := (Array.getElem?_eq_some_iff.1 (hp.lt p hpn)).1
   have hready : Ae pl p ∈ Region.ready .any ops listed := by
    simp only [Region.ready, List.mem_filter, List.mem_range, Bool.and_eq_true, Bool.not_eq_true']
    refine ⟨hin, ?_, ?_⟩
    ·have h1 : Ae pl p < listed.size := by rw [inv.sz]; exact hin
     simp only [Bl, Array.getD_eq_getD_getElem?, Array.getElem?_eq_getElem h1, Option.getD_some, Bool.not_eq_true'] at hn ⊢
     exact hn
    ·rw [hp.lt p hpn]
     simp only [Option.map_some, Option.getD_some]
     rw [← Array.all_toList]
     refine List.all_eq_true.2 fun e he => ?_
     cases hb : Region.binds .any e with
     | false => rfl
     | true =>
      simp only [Bool.not_true, Bool.false_or]
      have hdep : dep (closure ops.toList []) e.on (Ae pl p) = true := by
       have Jt := (G2 ops.toList [] (Ae pl p) (Am ops pl p) e.on (by simpa using hp.lt p hpn)).2 ⟨e, he, hb, .inl rfl⟩
       simpa [dep] using Jt
      have hon := hp.XY p hpn e he hb
      obtain ⟨q, hq, hqe⟩ := hp.Xj e.on (by omega)
      rw [← hqe] at hdep ⊢
      rcases Nat.lt_trichotomy q p with h | h | h
      ·have := a3 q (Nat.zero_le _) h
       simpa [Bl] using this
      ·subst h
       omega
      ·rw [hp.Uj p q h hq] at hdep; cases hdep
   rw [hr] at hready
   cases hready
  ·refine Inv.step hrun hp hS hz inv hi (fun a' w' inv' => ih _ a' w' inv' ?_ rd) rd
   have hi2 : i < ops.size ∧ listed.getD i true = false := by
    simp only [Region.ready, List.mem_filter, List.mem_range, Bool.and_eq_true, Bool.not_eq_true'] at hi
    exact ⟨hi.1, hi.2.1⟩
   have h1 : i < listed.size := by rw [inv.sz]; exact hi2.1
   have := Ka (List.range ops.size) (fun j => !listed.getD j false) (fun j => !(listed.setIfInBounds i true).getD j false) (fun j hj => by
    by_cases e : i = j
    ·subst e; simp [Array.getD_eq_getD_getElem?, h1] at hj
    ·simpa [Array.getD_eq_getD_getElem?, Array.getElem?_setIfInBounds_ne e] using hj)
    ⟨i, by simpa using hi2.1, by
     have := hi2.2
     simp only [Array.getD_eq_getD_getElem?, Array.getElem?_eq_getElem h1, Option.getD_some] at this ⊢
     simp [this], by simp [Array.getD_eq_getD_getElem?, h1]⟩
   omega
theorem MQ (hmix : C.P.follows .mixedOrders = true) (hok : Lf C.P ops pl = true) (hS : Fe C.P C.CM S) {w0 : World} (hz : BO C.CM w0) {m : AU} {h h' : AB} {w : World} {fr fr' : Fr} {a : Act} {id : Nat} {Q : Exit → Act → World → Prop}
  (r : Rel C.P w0 m h w) (hf : FR m fr a) (hr : Bt C S g ops pl [] fr h = some (fr', h'))
  (hQ : ∀ m' a' w', (m.ext h.size m') → Rel C.P w0 m' h' w' → FR m' fr' a' → a'.defers = a.defers → Q .normal a' w') : ∀ rd : Option Nat, (Code.region id ops true).wpIn (FW rd) 0 C.P Q a w := by
 intro rd
 have hp := Q5 hok
 obtain ⟨F, H, T, hrun, rfl, rfl, _, rfl, rfl⟩ := Hq pl [] fr h fr' h' hr
 refine wpIn_region_any hmix ?_
 have r' : Rel C.P w0 m (H 0) { w with drawn := w.drawn + 1 } := r.drew
 refine Inv.any hrun hp hS hz (m0 := m) (d0 := a.defers) hQ ops.size _ a _ (Inv.start hrun hp hS r' hf) ?_ rd
 exact Nat.le_trans (List.length_filter_le _ _) (by simp)
theorem MM (hok : Lf C.P ops pl = true) (hS : Fe C.P C.CM S) {h h' : AB} {fr fr' : Fr} (hr : Bt C S g ops pl [] fr h = some (fr', h')) : AN g h h' ∧ fr'.length = fr.length := by
 have hp := Q5 hok
 obtain ⟨F, H, T, hrun, rfl, rfl, _, rfl, rfl⟩ := Hq pl [] fr h fr' h' hr
 refine ⟨?_, hrun.len hp _ (Nat.le_refl _)⟩
 have all : ∀ p, p ≤ pl.length → AN g (H 0) (H p) := by
  intro p
  induction p with
  | zero => intro _; exact AN.refl _ _
  | succ p ih =>
   intro hpn
   exact (ih (by omega)).trans ((hrun.keeps hp hS (p := p) (by omega)).weaken fun id hid => Pg id hid)
 exact all _ (Nat.le_refl _)
end
end Go.Av
