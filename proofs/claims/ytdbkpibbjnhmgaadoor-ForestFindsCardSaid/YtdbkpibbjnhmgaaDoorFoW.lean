/-
 A part.
-/
import Derived.Test.YtdbkpibbjnhmgaaDoorFoU
import Derived.Test.YtdbkpibbjnhmgaaDoorFoT
namespace Go.Av.L
open Go.Av Go.Lib
set_option linter.unusedVariables false
set_option linter.unusedSimpArgs false
def De {α : Type} (f : α → Int) : List α → Int
 | [] => 0
 | x :: l => f x + De f l
theorem Lq {α : Type} (f : α → Int) : ∀ (l r : List α), De f (l ++ r) = De f l + De f r
 | [], r => by simp [De]
 | x :: l, r => by simp only [List.cons_append, De, Lq f l r]; omega
theorem Qu {α : Type} (f : α → Int) {l r : List α} (h : l.Perm r) : De f l = De f r := by
 induction h with
 | nil => rfl
 | cons x _ ih => simp only [De, ih]
 | swap x y l => simp only [De]; omega
 | trans _ _ a b => exact a.trans b
theorem Lt {α : Type} {f g : α → Int} : ∀ {l : List α}, (∀ x ∈ l, f x = g x) → De f l = De g l
 | [], _ => rfl
 | x :: l, h => by rw [De, De, h x (by simp), Lt (l := l) fun y hy => h y (List.mem_cons_of_mem _ hy)]
theorem Nz {α β : Type} (f : β → Int) (g : α → β) : ∀ l : List α, De f (l.map g) = De (fun x => f (g x)) l
 | [] => rfl
 | x :: l => by simp only [List.map_cons, De, Nz f g l]
theorem O0 {α : Type} {f : α → Int} {b : Int} : ∀ {l : List α}, (∀ x ∈ l, 0 ≤ f x ∧ f x ≤ b) → 0 ≤ De f l ∧ De f l ≤ b * (l.length : Int)
 | [], _ => by simp [De]
 | x :: l, h => by
  have h1 := h x (by simp)
  have h2 := O0 (l := l) fun y hy => h y (by simp [hy])
  simp only [De, List.length_cons]
  have : b * ((l.length + 1 : Nat) : Int) = b * (l.length : Int) + b := by rw [Int.natCast_add, Int.mul_add]; simp
  omega
def Lx (A : List Nd) (k : Nat) : Int := ((A[k]?).map (·.CW)).getD 0
theorem MX {l : List Mb} (hs : Small l) (a : Int) : 0 ≤ Ep l a ∧ Ep l a ≤ 2000 := by
 unfold Ep
 split
 ·omega
 ·cases h : l[a.toNat]? with
  | none => simp
  | some m =>
   have := hs.UC m (List.mem_of_getElem? h)
   simp only [Option.map_some, Option.getD_some]
   omega
theorem N0 {A : List Nd} {Ps : List Pa} (h : AI A Ps) (hs : Vi A Ps) (hz : ∀ k, 0 ≤ Lx A k) : ∀ (m j : Nat) (P : Pa), Ps[j]? = some P → A.length - j ≤ m → ∀ (front : B9) (n : Int), front.length + 100002 * (A.length - j) ≤ 100000000000 → 0 ≤ n → n + De (Lx A) (MH A m j) ≤ 1000000000000000 →
  (Ar m).Ah j front n A = some (true, n + De (Lx A) (MH A m j))
 | 0, j, P, hj, hm, _, _, _, _, _ => by
  have := (List.getElem?_eq_some_iff.1 hj).1
  rw [← h.len] at this
  omega
 | m + 1, j, P, hj, hm, front, n, hfr, hn, hsum => by
  obtain ⟨x, hx⟩ := h.node hj
  have ih := N0 h hs hz m
  have hfew := SN h hs hx
  have nonneg : ∀ l : List Nat, 0 ≤ De (Lx A) l := fun l => by
   induction l with
   | nil => simp [De]
   | cons k l ih => simp only [De]; have := hz k; omega
  unfold MH at hsum ⊢
  rw [hx] at hsum ⊢
  simp only at hsum ⊢
  show Bt (Ar m) j front n A = _
  unfold Bt
  rw [hx, Option.bind_some, NW h hs hx, BF]
  obtain ⟨ks, hks⟩ : ∃ ks, ks = Az (x.AP.map Prod.fst) := ⟨_, rfl⟩
  rw [← hks] at hsum hfew ⊢
  have key : ∀ (r i : Nat) (n : Int), i + r = ks.length → 0 ≤ n → n + De (Lx A) ((ks.drop i).flatMap fun c => match Cb x.AP c with | none => [] | some k => k :: MH A m k) ≤ 1000000000000000 →
    loop (BG (Ar m) j front A x) (n, (i : Int)) = some (.inl (n + De (Lx A) ((ks.drop i).flatMap fun c => match Cb x.AP c with | none => [] | some k => k :: MH A m k))) := by
   intro r
   induction r with
   | zero =>
    intro i n hi hn hsum
    rw [List.drop_eq_nil_of_le (by omega)]
    refine BY ?_
    rw [BG, ← hks, AQ, if_neg (by omega)]
    simp [De]
   | succ r ih2 =>
    intro i n hi hn hsum
    have hlt : i < ks.length := by omega
    have hc : ks[i] ∈ x.AP.map Prod.fst := Fp.1 (by rw [← hks]; exact List.getElem_mem hlt)
    obtain ⟨P', k, hP', hk, h2, h3⟩ := J4 h hs hx hc
    have eP : P' = P := by rw [hj] at hP'; injection hP' with e; exact e.symm
    subst eP
    have hgt := h.gt hj h2
    have hklt : k < A.length := by rw [h.len]; exact (List.getElem?_eq_some_iff.1 h2).1
    rw [List.length_append] at h3
    rw [drop_cons hlt, List.flatMap_cons, hk, Lq] at hsum ⊢
    simp only [De] at hsum ⊢
    obtain ⟨y, hy⟩ := h.node h2
    have hsz : Lx A k = y.CW := by unfold Lx; rw [hy]; rfl
    have n1 := hz k
    have n2 := nonneg (MH A m k)
    have n3 := nonneg ((ks.drop (i + 1)).flatMap fun c => match Cb x.AP c with | none => [] | some k => k :: MH A m k)
    have ew : IntKind.i64.wrap (n + y.CW) = n + Lx A k := by rw [hsz, Ur (by omega) (by omega)]
    have hrec := ih k _ h2 (by omega) ((front ++ ks[i]) ++ [47]) (n + Lx A k) (by simp only [List.length_append, List.length_singleton]; omega) (by omega) (by omega)
    have hlen : decide ((front ++ ks[i]).length + ([47] : List UInt8).length ≤ 9223372036854775807) = true := decide_eq_true (by simp only [List.length_append, List.length_singleton]; omega)
    have st : BG (Ar m) j front A x (n, (i : Int)) = some (.inl (n + Lx A k + De (Lx A) (MH A m k), ((i + 1 : Nat) : Int))) := by
     rw [BG, ← hks, AQ, if_pos (by omega), BO hlt, Option.bind_some, decide_eq_true (by omega), BF, hx, Option.bind_some, hk]
     simp only [Kq]
     unfold B6
     rw [hy, Option.bind_some, Option.bind_some, ew]
     simp only [Bool.not_true, Ay, Option.bind_some, hk]
     rw [hlen, BF, hrec]
     simp only [Option.bind_some, Bool.not_true, Ay]
     rw [D5 (by omega)]
    rw [CR st, ih2 (i + 1) _ (by omega) (by omega) (by omega)]
    congr 2
    omega
  have := key ks.length 0 n (by omega) hn (by rw [List.drop_zero]; exact hsum)
  rw [show ((0 : Nat) : Int) = 0 from rfl] at this
  rw [this, List.drop_zero]
  rfl
theorem QE {l : List Mb} (hs : Small l) {R : List Rw} (hr : Jl (paths l) l.length R) {p : Pa} (hp : p.length < 900000) :
  Bd R l p = some (De (fun x => Ep l x.At) (R.filter fun x => Js x.L p)) := by
 have hRs := I7 hs hr
 have hrl : R.length < 100000 := by have := hr.len; have := hs.Mh; omega
 have key : ∀ (n i : Nat) (acc : Int), i + n = R.length → 0 ≤ acc → acc ≤ 2000 * (i : Int) →
   loop (BM R l p) (acc, (i : Int)) = some (acc + De (fun x => Ep l x.At) ((R.drop i).filter fun x => Js x.L p)) := by
  intro n
  induction n with
  | zero =>
   intro i acc hi h0 h1
   refine BY ?_
   rw [BM, AQ, if_neg (by omega), List.drop_of_length_le (by omega)]
   simp [De]
  | succ n ih =>
   intro i acc hi h0 h1
   have hlt : i < R.length := by omega
   obtain ⟨_, h2, _⟩ := hRs _ (List.getElem_mem hlt)
   have hat := hr.Gx _ (List.getElem_mem hlt)
   have hat2 := Mv (paths l) l.length R[i].L
   have hb := MX hs R[i].At
   have hc : (Ax (decide (R[i].At ≥ 0)) ((Em R (i : Int)).bind fun x7 => (BW x7.L p).bind fun x8 => some x8) (some false) : Option Bool) = some (decide (R[i].At ≥ 0) && Js R[i].L p) := by
    rw [AQ]
    by_cases he : R[i].At ≥ 0
    ·rw [if_pos he, BO hlt, Option.bind_some, Oh (by omega) (by omega), Option.bind_some, decide_eq_true he, Bool.true_and]
    ·rw [if_neg he, decide_eq_false he, Bool.false_and]
   have st : BM R l p (acc, (i : Int)) = some (.inl (acc + (bif Js R[i].L p then Ep l R[i].At else 0), ((i + 1 : Nat) : Int))) := by
    rw [BM, AQ, if_pos (by omega), BO hlt, Option.bind_some]
    rw [BO hlt] at hc
    rw [hc, Option.bind_some]
    by_cases he : R[i].At ≥ 0
    ·rw [decide_eq_true he, Bool.true_and]
     cases hbl : Js R[i].L p with
     | false => rw [Ay, Option.bind_some, D5 (by omega)]; simp
     | true =>
      have hlt2 : R[i].At.toNat < l.length := by omega
      have hixG : ∀ a : Int, 0 ≤ a → (hh : a.toNat < l.length) → Em l a = some l[a.toNat] := fun a ha hh => by
       unfold Em
       rw [if_pos ha]
       exact List.getElem?_eq_getElem hh
      have hix := hixG R[i].At (by omega) hlt2
      have O1 : Ep l R[i].At = (l[R[i].At.toNat].Data.length : Int) := by
       unfold Ep
       rw [if_neg (by omega), List.getElem?_eq_getElem hlt2]; rfl
      rw [BE, Option.bind_some, hix, Option.bind_some, Option.bind_some, D5 (by omega), O1, Ur (by omega) (by omega)]
      rfl
    ·rw [decide_eq_false he, Bool.false_and, Ay, Option.bind_some, D5 (by omega)]
     have : Ep l R[i].At = 0 := by unfold Ep; rw [if_pos (by omega)]
     rw [this]
     cases Js R[i].L p <;> simp
   have hbb : 0 ≤ (bif Js R[i].L p then Ep l R[i].At else 0) ∧ (bif Js R[i].L p then Ep l R[i].At else 0) ≤ 2000 := by cases Js R[i].L p <;> simp <;> omega
   rw [CR st, ih (i + 1) _ (by omega) (by omega) (by omega), Kj hlt, Lq]
   congr 1
   cases Js R[i].L p <;> simp [De] <;> omega
 unfold Bd
 have := key R.length 0 0 (by omega) (by omega) (by omega)
 rw [show ((0 : Nat) : Int) = 0 from rfl] at this
 rw [this, Option.bind_some, List.drop_zero, Int.zero_add]
theorem Ov {A : List Nd} {Ps : List Pa} (h : AI A Ps) {m j : Nat} {P : Pa} (hj : Ps[j]? = some P) (hm : A.length - j ≤ m) : (MH A m j).Nodup :=
 (List.pairwise_map.1 (NI h m j P hj hm)).imp fun q e => Nj q (congrArg (PQ Ps) e)
theorem Tf {l : List Mb} (hs : Small l) {A : List Nd} {Ps : List Pa} (h : JC l l.length A Ps) {R : List Rw} (hr : Jl (paths l) l.length R) {f : Aj} (hf : f.Bb = 0) {s : B9} (hl : s.length ≤ 200) :
  Ci f s A = Bd R l (Dd s) := by
 have hsm := h.WA hs
 have hpl := IU s
 have hfewA : A.length ≤ 2401 := by have := h.Mh; have := hs.Mh; omega
 have hbig : ∀ j, A.length - j ≤ Fb := fun j => NQ (by omega)
 have hsz : ∀ k, Lx A k = Ep l (MA A k) := fun k => by
  unfold Lx MA
  cases hk : A[k]? with
  | none => rfl
  | some x =>
   obtain ⟨P, hP⟩ := h.ai.at_ hk
   exact (h.Gx k x P hk hP).2
 have hz : ∀ k, 0 ≤ Lx A k ∧ Lx A k ≤ 2000 := fun k => by rw [hsz]; exact MX hs _
 rw [QE hs hr (by omega)]
 have hrow := S9 hs h hr
 have e1 : De (fun x : Rw => Ep l x.At) (R.filter fun x => Js x.L (Dd s)) = De (Lx A) ((Pc A).filter fun k => Js (PQ Ps k) (Dd s)) := by
  rw [hrow, List.filter_map, Nz]
  refine Lt fun k _ => ?_
  rw [hsz]
 rw [e1]
 unfold Ci
 rcases find_eq hs h hf hl with ⟨k, h1, h2⟩ | ⟨h1, h2⟩
 ·rw [h1, Option.bind_some]
  dsimp only
  obtain ⟨x, hx⟩ := h.ai.node h2
  have hxs : Lx A k = x.CW := by unfold Lx; rw [hx]; rfl
  have hnd := Ov h.ai (m := Fb) h2 (hbig k)
  have hlen : (MH A Fb k).length ≤ 2401 := by
   have := Kt (m := List.range A.length) hnd fun k' hk' => by
    obtain ⟨d, _, e⟩ := (E3 h.ai Fb k _ h2 (hbig k) k').1 hk'
    rw [List.mem_range, h.ai.len]
    exact (List.getElem?_eq_some_iff.1 e).1
   rw [List.length_range] at this
   omega
  have hbnd := O0 (f := Lx A) (b := 2000) (l := MH A Fb k) fun y _ => hz y
  have hzk := hz k
  have hw := N0 h.ai hsm (fun k => (hz k).1) Fb k _ h2 (hbig k) [] x.CW (by simp; omega) (by omega) (by omega)
  rw [hx, Option.bind_some]
  show (Ah k [] x.CW A).bind _ = _
  unfold Ah
  rw [hw, Option.bind_some]
  show some (x.CW + De (Lx A) (MH A Fb k)) = _
  congr 1
  rw [← hxs]
  by_cases hp : Dd s = []
  ·have hk0 : k = 0 := by rw [hp] at h2; exact El h.ai.RQ h2 h.ai.root
   subst hk0
   have e0 : Lx A 0 = 0 := by
    have hv := h.Gx 0 x _ hx h2
    rw [if_pos hp] at hv
    rw [hxs, hv.2, hv.1]; rfl
   have : ((Pc A).filter fun k => Js (PQ Ps k) (Dd s)) = Pc A := by
    rw [List.filter_eq_self]
    intro y _
    rw [hp]
    exact Gg.2 ⟨_, rfl⟩
   rw [this, e0, Int.zero_add]
  ·refine Qu (Lx A) (l := k :: MH A Fb k) ?_
   have hnk : k ∉ MH A Fb k := fun hk => by
    obtain ⟨d, hd, e⟩ := (E3 h.ai Fb k _ h2 (hbig k) k).1 hk
    rw [h2] at e
    have := congrArg List.length (Option.some.inj e)
    rw [List.length_append] at this
    exact hd (List.eq_nil_of_length_eq_zero (by omega))
   refine (List.perm_ext_iff_of_nodup (List.nodup_cons.2 ⟨hnk, hnd⟩) ((Ov h.ai (m := Fb) h.ai.root (hbig 0)).filter _)).2 fun k' => ?_
   rw [List.mem_cons, List.mem_filter, E3 h.ai Fb k _ h2 (hbig k), E3 h.ai Fb 0 _ h.ai.root (hbig 0)]
   constructor
   ·rintro (rfl | ⟨d, hd, e⟩)
    ·exact ⟨⟨Dd s, hp, h2⟩, Gg.2 ⟨[], by rw [HM h2, List.append_nil]⟩⟩
    ·exact ⟨⟨Dd s ++ d, by simp [hd], e⟩, Gg.2 ⟨d, by rw [HM e]⟩⟩
   ·rintro ⟨⟨d, hd, e⟩, hb⟩
    rw [List.nil_append] at e
    rw [HM e] at hb
    obtain ⟨d', rfl⟩ := Gg.1 hb
    by_cases hd' : d' = []
    ·subst hd'
     rw [List.append_nil] at e
     exact .inl (El h.ai.RQ e h2)
    ·exact .inr ⟨d', hd', e⟩
 ·rw [h1, Option.bind_some]
  dsimp only
  have : ((Pc A).filter fun k => Js (PQ Ps k) (Dd s)) = [] := by
   rw [List.filter_eq_nil_iff]
   intro k' hk' hb
   obtain ⟨x, _, e, _⟩ := NT hs h hk'
   obtain ⟨d, hd⟩ := Gg.1 hb
   rw [hd] at e
   obtain ⟨j, hj⟩ := h.ai.front d e
   exact h2 (List.mem_of_getElem? hj)
  rw [this]; rfl
theorem LV (x0 : List Mb) {Q0 : Prop} (k0 : Q0) (x1 : List UInt8) {Q1 : Prop} (k1 : Q1) : CI x0 x1 = some true := by
 unfold CI
 rcases Tn x0 with h | ⟨h, hs⟩
 ·rw [h, Option.bind_some, Bool.true_or, BE, Ns]; rfl
 ·rw [h, Option.bind_some, Bool.false_or]
  by_cases hl : (x1.length : Int) > 100
  ·rw [decide_eq_true hl, BE, Ns]; rfl
  ·rw [decide_eq_false hl, Ay]
   have hl2 : x1.length ≤ 200 := by omega
   refine W.eq (W.bind ((Sn hs).mono ?_))
   rintro ⟨f, A⟩ ⟨hf, hn, Ps, hb⟩
   simp only at hf hn hb
   refine W.bind ((Rf hs).mono fun R hR => ?_)
   have g1 := I7 hs hR
   have hrl : R.length < 100000 := by have := hR.len; have := hs.Mh; omega
   have hpl := IU x1
   rw [QW (by omega), Option.bind_some, Tc hs hb hf hl2, Option.bind_some, PT hs hb hR hrl (fun x hx => by have := (g1 x hx).2.1; omega) (Dd x1)]
   generalize placeOf A Ps (Dd x1) = q
   obtain ⟨q1, q2⟩ := q
   simp only [Option.bind_some, beq_self_eq_true, Bool.and_self, BE]
   rw [OA hs hb hR hf hl2, QY g1 hrl (by omega), Option.bind_some, Option.bind_some, Q2 _ _ (by
    rw [List.length_map]
    have := List.length_filter_le (J3 (Dd x1)) R
    omega)]
   simp only [beq_self_eq_true, Option.bind_some, BE]
   rw [Tf hs hb hR hf hl2, QE hs hR (by omega)]
   simp only [Option.bind_some, beq_self_eq_true, BE]
   rw [Ns]
   exact W.ret rfl
end Go.Av.L
