/-
 A part.
-/
import Derived.Test.YtdjbadhilkmiiaaGreatDoorAvLib
import Derived.Test.YtdjbadhilkmiiaaGreatDoorAvWalk
namespace Go.Av
open Go.RowKit
set_option linter.unusedVariables false
set_option linter.unusedSimpArgs false
def NU (n : Nat) : List AB := (List.range n).map fun i => .ptr (some (i, 0))
def Jk : Nat → AJ
 | 0 => ⟨0, .leaf⟩
 | n + 1 => (Jk n).push (.cells none 0 [])
theorem Lq : ∀ n, (Jk n).size = n
 | 0 => rfl
 | n + 1 => by rw [Jk, AJ.size_push, Lq n]
theorem NH : ∀ {n i : Nat} {o : CY}, (Jk n).get i = some o → o = .cells none 0 []
 | 0, i, o, h => by
  have := (Jk 0).Ct h
  simp [Jk] at this
 | n + 1, i, o, h => by
  rw [Jk, AJ.KS] at h
  split at h
  ·exact (Option.some.inj h).symm
  ·exact NH h
def O1 (N : Nat) (h : AJ) : Nat → AB → Option AB
 | 0, _ => none
 | n + 1, v =>
  match v with
  | .ptr (some (id, o)) =>
   bif Nat.blt id N then some (.ptr (some (id, o))) else bif Nat.beq o 0 then (match h.get id with | some (.cells none 2 cs) => (Ln (O1 N h n) cs).map .BR | _ => none) else none
  | .agg cs => (Ln (O1 N h n) cs).map .agg
  | .func fn a b => match Ln (O1 N h n) a, Ln (O1 N h n) b with | some a', some b' => some (.func fn a' b') | _, _ => none
  | v => bif Fp v then some v else none
def SJ (N : Nat) (h : AJ) : List (AB × AB) → Option (List (AB × AB))
 | [] => some []
 | (k, v) :: es =>
  match Fp k, O1 N h 10 v, SJ N h es with
  | true, some v', some r => some ((k, v') :: r)
  | _, _, _ => none
def Ua (N : Nat) (h : AJ) : AB → Option (List (AB × AB))
 | .map (some id) => match h.get id with | some (.map 2 es) => SJ N h es | _ => none
 | _ => none
theorem Mh {f : AB → Option AB} : ∀ {l l' : List AB}, Ln f l = some l' → l.length = l'.length ∧ ∀ (i : Nat) (x : AB), l[i]? = some x → ∃ x', l'[i]? = some x' ∧ f x = some x'
 | [], l', h => by cases h; exact ⟨rfl, fun i x hx => by simp at hx⟩
 | v :: vs, l', h => by
  unfold Ln at h
  split at h
  ·rename_i v' vs' h1 h2
   cases h
   obtain ⟨a, b⟩ := Mh h2
   refine ⟨by simp [a], fun i x hx => ?_⟩
   cases i with
   | zero => simp only [List.getElem?_cons_zero, Option.some.injEq] at hx; subst hx; exact ⟨v', rfl, h1⟩
   | succ i => exact b i x (by simpa using hx)
  ·cases h
section
variable {N : Nat} {h1 : AJ} {m2 m4 : Bc} {args : List AB}
theorem RC (hArg : ∀ i o v'' u, i < N → T7 args i o = some v'' → VR m2 (.ptr (some (i, o))) u → VR m4 v'' u)
  (hBox : ∀ id cs E, ¬ id < N → h1.get id = some (.cells none 2 cs) → m2 id = some E → E.base = 0 ∧ ∃ c : Nat → Value, (∀ i, i < cs.length → m4.fz E.g i = some (c i)) ∧ ∀ i x, cs[i]? = some x → VR m2 x (c i)) :
  ∀ (n : Nat) (v v0 : AB), O1 N h1 n v = some v0 → ∀ (n' : Nat) (v' : AB), LM args n' v0 = some v' → ∀ u, VR m2 v u → VR m4 v' u
 | 0, v, v0, h, n', v', h', u, hv => by cases h
 | n + 1, v, v0, h, 0, v', h', u, hv => by cases h'
 | n + 1, v, v0, h, n' + 1, v', h', u, hv => by
  have ih := RC hArg hBox n
  have row : ∀ {cs cs0 cs' : List AB}, Ln (O1 N h1 n) cs = some cs0 → Ln (LM args n') cs0 = some cs' → cs.length = cs'.length ∧ ∀ (i : Nat) (x' : AB), cs'[i]? = some x' → ∃ x, cs[i]? = some x ∧ ∀ u, VR m2 x u → VR m4 x' u := by
   intro cs cs0 cs' g1 g2
   obtain ⟨a1, b1⟩ := Mh g1
   obtain ⟨a2, b2⟩ := Mh g2
   refine ⟨by omega, fun i x' hx' => ?_⟩
   have hi := (List.getElem?_eq_some_iff.1 hx').1
   have hi0 : i < cs.length := by omega
   obtain ⟨x0, c1, c2⟩ := b1 i _ (List.getElem?_eq_getElem hi0)
   obtain ⟨x1, d1, d2⟩ := b2 i x0 c1
   rw [hx'] at d1
   cases d1
   exact ⟨_, List.getElem?_eq_getElem hi0, fun u hu => ih _ _ c2 n' _ d2 u hu⟩
  have flat : (bif Fp v then some v else none) = some v0 → (∀ r, v ≠ .ptr (some r)) → (∀ cs, v ≠ .BR cs) → VR m4 v' u := by
   intro hf hne hne2
   cases hfl : Fp v with
   | false => rw [hfl] at hf; cases hf
   | true =>
    rw [hfl] at hf
    cases hf
    have : LM args (n' + 1) v = some v := by
     unfold LM
     split <;> first | (exfalso; exact hne _ rfl) | (exfalso; exact hne2 _ rfl) | (simp [Fp] at hfl; done) | (rw [hfl]; rfl)
    rw [this] at h'
    cases h'
    exact hv.Fp hfl
  unfold O1 at h
  split at h
  ·rename_i id o
   by_cases hid : id < N
   ·have hb : Nat.blt id N = true := by rw [Nat.blt_eq]; exact hid
    rw [hb] at h
    cases h
    exact hArg id o v' u hid h' hv
   ·have hb : Nat.blt id N = false := by rw [← Bool.not_eq_true, Nat.blt_eq]; exact hid
    rw [hb] at h
    simp only [cond_false] at h
    cases ho : Nat.beq o 0 with
    | false => rw [ho] at h; cases h
    | true =>
     rw [ho] at h
     obtain rfl := Nat.eq_of_beq_eq_true ho
     simp only [cond_true] at h
     split at h
     ·rename_i cs hg
      simp only [Option.map_eq_some_iff] at h
      obtain ⟨cs0, g1, rfl⟩ := h
      unfold LM at h'
      simp only [Option.map_eq_some_iff] at h'
      obtain ⟨cs', g2, rfl⟩ := h'
      cases hv with
      | ptr _ _ E hE =>
       obtain ⟨hb0, c, hc1, hc2⟩ := hBox id cs E hid hg hE
       obtain ⟨hl, hr⟩ := row g1 g2
       rw [hb0]
       refine .BR _ _ _ c (fun i hi => by simpa using hc1 i (by omega)) fun i x' hx' => ?_
       obtain ⟨x, q1, q2⟩ := hr i x' hx'
       exact q2 _ (hc2 i x q1)
     ·cases h
  ·rename_i cs
   simp only [Option.map_eq_some_iff] at h
   obtain ⟨cs0, g1, rfl⟩ := h
   unfold LM at h'
   simp only [Option.map_eq_some_iff] at h'
   obtain ⟨cs', g2, rfl⟩ := h'
   obtain ⟨hl, hr⟩ := row g1 g2
   obtain ⟨c, rfl, vc⟩ := hv.Fi
   refine Cr.agg ⟨by rw [← hl]; exact vc.1, fun i x' y hx' hy => ?_⟩
   obtain ⟨x, q1, q2⟩ := hr i x' hx'
   exact q2 _ (vc.2 i x y q1 hy)
  ·rename_i fn a b
   split at h
   ·rename_i a0 b0 ga gb
    cases h
    rw [show LM args (n' + 1) (.func fn a0 b0) = (match Ln (LM args n') a0, Ln (LM args n') b0 with | some a', some b' => some (.func fn a' b') | _, _ => none) from rfl] at h'
    split at h'
    ·rename_i a' b' ga' gb'
     cases h'
     obtain ⟨la, ra⟩ := row ga ga'
     obtain ⟨lb, rb⟩ := row gb gb'
     cases hv with
     | func _ _ _ c d k1 k2 k3 k4 =>
      refine .func fn a' b' c d (by omega) (fun i x' y hx' hy => ?_) (by omega) (fun i x' y hx' hy => ?_)
      ·obtain ⟨x, q1, q2⟩ := ra i x' hx'
       exact q2 _ (k2 i x y q1 hy)
      ·obtain ⟨x, q1, q2⟩ := rb i x' hx'
       exact q2 _ (k4 i x y q1 hy)
    ·cases h'
   ·cases h
  ·rename_i w0 n1 n2 n3
   refine flat h (fun r e => ?_) (fun cs e => ?_)
   ·subst e; exact n1 _ _ rfl
   ·subst e; simp [Fp] at h
end
def cellOf (w : World) (g o : Nat) : Option Value :=
 match w.heap[g]? with
 | some (.cells cur _ _) => cur[o]?
 | _ => none
theorem ON {N : Nat} {h1 : AJ} {m2 m4 : Bc} {args : List AB} (key : ∀ (n : Nat) (v v0 : AB), O1 N h1 n v = some v0 → ∀ (n' : Nat) (v' : AB), LM args n' v0 = some v' → ∀ u, VR m2 v u → VR m4 v' u) :
  ∀ {es0 es es' : List (AB × AB)}, SJ N h1 es0 = some es → S5 args es = some es' → es0.length = es'.length ∧
   ∀ (i : Nat) (k v : AB), es'[i]? = some (k, v) → ∃ k0 v0, es0[i]? = some (k0, v0) ∧ ∀ uk uv, VR m2 k0 uk → VR m2 v0 uv → VR m4 k uk ∧ VR m4 v uv
 | [], es, es', h, h' => by
  cases h
  cases h'
  exact ⟨rfl, fun i k v hx => by simp at hx⟩
 | (k, v) :: es0, es, es', h, h' => by
  unfold SJ at h
  split at h
  ·rename_i v1 r hk hv hr
   cases h
   unfold S5 at h'
   split at h'
   ·rename_i v2 r' hv' hr'
    cases h'
    obtain ⟨a, b⟩ := ON key hr hr'
    refine ⟨by simp [a], fun i k' v' hx => ?_⟩
    cases i with
    | zero =>
     simp only [List.getElem?_cons_zero, Option.some.injEq, Prod.mk.injEq] at hx
     obtain ⟨rfl, rfl⟩ := hx
     exact ⟨k, v, rfl, fun uk uv q1 q2 => ⟨q1.Fp hk, key _ _ _ hv _ _ hv' _ q2⟩⟩
    | succ i => exact b i k' v' (by simpa using hx)
   ·cases h'
  ·cases h
theorem Su {C1 : HS} (hC : Hy C1) {f : FuncId} {n : Nat} {es : List (AB × AB)} (hk : C1.kind f = 1) (hst : C1.still f = []) (hb : ∃ v h', Jn C1 ⟨n, []⟩ (Jk n) f (NU n) v h' ∧ Ua n h' v = some es) :
  HD C1.P C1.D9 f fun _ h args => RT es n h args := by
 obtain ⟨v1, h1, ⟨k, hn⟩, hfr⟩ := hb
 intro g h f' args v h' hc
 dsimp only at hc
 split at hc
 ·rename_i e
  subst e
  unfold RT at hc
  cases hbq : (Nat.beq args.length n && args.all Qi) with
  | false => rw [hbq] at hc; cases hc
  | true =>
   rw [hbq] at hc
   simp only [Bool.and_eq_true] at hbq
   have hlen := Nat.eq_of_beq_eq_true hbq.1
   simp only [cond_true, Option.map_eq_some_iff, Prod.mk.injEq] at hc
   obtain ⟨es', hren, rfl, rfl⟩ := hc
   refine ⟨BY.push _ _ _, fun w0 m w cargs hz r hv => ?_⟩
   obtain ⟨m0, hm0⟩ : ∃ m0 : Bc, m0 = ⟨fun i => match args[i]? with | some (.ptr (some (id, b))) => (m.i id).map fun E => ⟨E.g, E.base + b, I2 C1.P none, E.total⟩ | _ => none, fun _ _ => none, fun _ => False⟩ := ⟨_, rfl⟩
   have ptrAt : ∀ i, i < n → ∃ id b, args[i]? = some (.ptr (some (id, b))) := by
    intro i hi
    have hi' : i < args.length := by omega
    have := List.all_eq_true.1 hbq.2 args[i] (List.getElem_mem hi')
    rw [List.getElem?_eq_getElem hi']
    generalize args[i] = x at this
    unfold Qi at this
    split at this
    ·rename_i r; exact ⟨r.1, r.2, rfl⟩
    ·cases this
   have m0lt : ∀ i E, m0.i i = some E → i < n := by
    intro i E hE
    rw [hm0] at hE
    simp only at hE
    rcases Nat.lt_or_ge i n with hi | hi
    ·exact hi
    ·rw [List.getElem?_eq_none (by omega)] at hE; cases hE
   have m0esz : ∀ i E, m0.i i = some E → E.Rn = I2 C1.P none := by
    intro i E hE
    obtain ⟨id, b, ha⟩ := ptrAt i (m0lt i E hE)
    rw [hm0] at hE
    simp only [ha, Option.map_eq_some_iff] at hE
    obtain ⟨E', _, rfl⟩ := hE
    rfl
   have r0 : Rel C1.P w m0 (Jk n) w := by
    refine ⟨Below.refl _ _, fun id E hE => by rw [Lq]; exact m0lt id E hE, fun id E o hE ho => ?_, fun id E o hE ho hw => ?_, fun id id' E E' o o' _ hE hE' ho ho' hw => ?_, fun g o v hv => (by rw [hm0] at hv; cases hv), fun id E o hE ho hw => ?_, fun g hg => (by rw [hm0] at hg; exact hg.elim), fun id E o hE ho hw => ?_⟩
    ·rw [NH ho]
     exact ⟨⟨⟨m0esz id E hE, fun _ => Uj.nil⟩, fun _ h => by cases h⟩, fun h => absurd rfl h⟩
    all_goals (rw [NH ho] at hw; simp [CY.own, CY.live] at hw)
   have hv0 : Cr m0 (NU n) cargs.toList := by
    have hcl : cargs.toList.length = n := by rw [← hv.1]; exact hlen
    refine ⟨by simp only [NU, List.length_map, List.length_range]; exact hcl.symm, fun i x y hx hy => ?_⟩
    have hi : i < n := by rw [← hcl]; exact (List.getElem?_eq_some_iff.1 hy).1
    unfold NU at hx
    rw [List.getElem?_map, List.getElem?_range hi] at hx
    cases hx
    obtain ⟨id, b, ha⟩ := ptrAt i hi
    have hvr := hv.2 i _ y ha hy
    cases hvr with
    | ptr _ _ E hE =>
     have hE0 : m0.i i = some ⟨E.g, E.base + b, I2 C1.P none, E.total⟩ := by
      rw [hm0]
      simp only [ha, hE, Option.map_some]
     exact VR.ptr i 0 _ hE0
   have hcall : (Da C1 (k + 1)).call ⟨n, []⟩ (Jk n) f' (NU n) = some (v1, h1) := by
    show H0 C1 (Da C1 k) _ _ f' _ = _
    unfold H0
    rw [hk, hst]
    exact hn
   obtain ⟨_, k2⟩ := (Nz hC (k + 1)).sub.call _ _ f' _ _ _ hcall
   refine (k2 w m0 w cargs (hz.later r.below) r0 hv0).mono fun v' w' ⟨m2, g1, g2, g3⟩ => ?_
   unfold Ua at hfr
   split at hfr
   ·rename_i id
    split at hfr
    ·rename_i es0 hget
     cases g3 with
     | map _ E hE =>
      have hown : w.heap.size ≤ E.g := g2.own _ E _ hE hget rfl
      obtain ⟨hEb, hmp⟩ := g2.obj _ E _ hE hget
      obtain ⟨ents, clock, q1, q2, q3, q4⟩ := LP.two (hmp (by decide)) (by decide)
      have r' := r.later g2.below
      obtain ⟨m4, hm4⟩ : ∃ m4 : Bc, m4 = ⟨fun i => if i = h.size then some E else m.i i, fun g o => match m.fz g o with | some v => some v | none => if w.heap.size ≤ g ∧ g ≠ E.g then cellOf w' g o else none, m.df⟩ := ⟨_, rfl⟩
      have h4i : m4.i h.size = some E := by rw [hm4]; simp
      have h4o : ∀ {i F}, m4.i i = some F → i ≠ h.size → m.i i = some F := by
       intro i F hF hne
       rw [hm4] at hF
       simpa [hne] using hF
      have h4new : ∀ g o, w.heap.size ≤ g → m4.fz g o = if g ≠ E.g then cellOf w' g o else none := by
       intro g o hg
       rw [hm4]
       simp only [r.Mg hg o]
       by_cases e : g = E.g <;> simp [e, hg]
      have h4old : ∀ g o, g < w.heap.size → m4.fz g o = m.fz g o := by
       intro g o hg
       rw [hm4]
       simp only
       cases m.fz g o with
       | some v => rfl
       | none => simp; omega
      have hle : m.le m4 := ⟨fun i F hF => by
       have := r.O9 i F hF
       rw [hm4]
       simp only
       rw [if_neg (by omega)]
       exact hF, fun g o v hv => by rw [hm4]; simp only [hv]⟩
      have key : ∀ (n' : Nat) (v v0 : AB), O1 n h1 n' v = some v0 → ∀ (n'' : Nat) (v' : AB), LM args n'' v0 = some v' → ∀ u, VR m2 v u → VR m4 v' u := by
       refine RC (fun i o v'' u hi ha hu => ?_) (fun id' cs E' hid' hg' hE' => ?_)
       ·obtain ⟨id, b, hai⟩ := ptrAt i hi
        unfold T7 at ha
        rw [hai] at ha
        cases ha
        cases hu with
        | ptr _ _ F hF =>
         rw [g1.i i (by rw [Lq]; exact hi), hm0] at hF
         simp only [hai, Option.map_eq_some_iff] at hF
         obtain ⟨E0, hE0, rfl⟩ := hF
         have := VR.ptr (m := m4) id (b + o) E0 (hle.i _ _ hE0)
         rw [← Nat.add_assoc] at this
         exact this
       ·obtain ⟨⟨_, hb0⟩, hcs⟩ := g2.obj id' E' _ hE' hg'
        obtain ⟨cur, e, fz, p1, p2, p3, p4⟩ := hcs (by decide)
        have hbase := hb0 rfl rfl
        have hgE : w.heap.size ≤ E'.g := g2.own id' E' _ hE' hg' rfl
        have hne : E'.g ≠ E.g := by
         intro e
         rw [e] at p1
         rw [q1] at p1
         cases p1
        refine ⟨hbase, fun i => (cur[i]?).getD undef, fun i hi => ?_, fun i x hx => ?_⟩
        ·obtain ⟨_, c, c1, _⟩ := p3 i _ (List.getElem?_eq_getElem hi)
         rw [hbase, Nat.zero_add] at c1
         rw [h4new _ _ hgE, if_pos hne]
         unfold cellOf
         rw [p1]
         simp [c1]
        ·obtain ⟨_, c, c1, c2⟩ := p3 i x hx
         rw [hbase, Nat.zero_add] at c1
         show VR m2 x ((cur[i]?).getD undef)
         rw [c1]
         exact c2
      obtain ⟨el, er⟩ := ON key hfr hren
      have get' : ∀ {i o}, (h.push (.map 2 es')).get i = some o → i ≠ h.size → h.get i = some o := by
       intro i o ho hne
       rw [h.KS, if_neg hne] at ho
       exact ho
      have getN : ∀ {o}, (h.push (.map 2 es')).get h.size = some o → o = .map 2 es' := by
       intro o ho
       rw [h.Ds] at ho
       exact (Option.some.inj ho).symm
      have oldlt : ∀ {i F o}, m4.i i = some F → (h.push (.map 2 es')).get i = some o → i ≠ h.size → o.live = true → F.g < w.heap.size := by
       intro i F o hF ho hne hl
       exact (r.obj i F o (h4o hF hne) (get' ho hne)).lt hl
      refine ⟨m4, ⟨fun i hi => ?_, hle.fz, fun g hg => by rw [hm4]; exact hg⟩, ⟨r'.below, fun i F hF => ?_, fun i F o hF ho => ?_, fun i F o hF ho hw => ?_, fun i i' F F' o o' hne hF hF' ho ho' hw hl => ?_, fun g o v hv => ?_, fun i F o hF ho hw j => ?_, fun g hg => ?_, fun i F o hF ho hl => ?_⟩, ?_⟩
      ·rw [hm4]
       simp only
       rw [if_neg (by omega)]
      ·by_cases e : i = h.size
       ·simp [e]
       ·have := r.O9 i F (h4o hF e)
        simp; omega
      ·by_cases e : i = h.size
       ·subst e
        rw [h4i] at hF
        cases hF
        obtain rfl := getN ho
        refine ⟨hEb, fun _ => LP.of ⟨ents, clock, q1, by omega, fun i k v e hi he => ?_, q4⟩ (by decide)⟩
        obtain ⟨k0, v0, s1, s2⟩ := er i k v hi
        obtain ⟨t1, t2⟩ := q3 i k0 v0 e s1 he
        exact s2 _ _ t1 t2
       ·exact (r'.obj i F o (h4o hF e) (get' ho e)).mono hle fun _ => rfl
      ·by_cases e : i = h.size
       ·subst e
        rw [h4i] at hF
        cases hF
        exact Nat.le_trans r.size hown
       ·exact r.own i F o (h4o hF e) (get' ho e) hw
      ·by_cases e : i = h.size
       ·subst e
        rw [h4i] at hF
        cases hF
        have := oldlt hF' ho' (fun e => hne e.symm) hl
        omega
       ·by_cases e' : i' = h.size
        ·subst e'
         rw [h4i] at hF'
         cases hF'
         have := oldlt hF ho e (CY.FM hw)
         omega
        ·exact r.sep i i' F F' o o' hne (h4o hF e) (h4o hF' e') (get' ho e) (get' ho' e') hw hl
      ·rcases Nat.lt_or_ge g w.heap.size with hg | hg
       ·rw [h4old g o hg] at hv
        exact r'.fz g o v hv
       ·rw [h4new g o hg] at hv
        split at hv
        ·unfold cellOf at hv
         split at hv
         ·rename_i cur e z hh
          exact ⟨cur, e, z, hh, hv⟩
         ·cases hv
        ·cases hv
      ·by_cases e : i = h.size
       ·subst e
        rw [h4i] at hF
        cases hF
        rw [h4new _ _ hown, if_neg (by simp)]
       ·have := oldlt hF ho e (CY.FM hw)
        rw [h4old _ _ this]
        exact r.Kx i F o (h4o hF e) (get' ho e) hw j
      ·rw [hm4] at hg
       exact r'.df g hg
      ·by_cases e : i = h.size
       ·subst e
        rw [h4i] at hF
        cases hF
        intro hd
        rw [hm4] at hd
        have := r.LQ hd
        omega
       ·intro hd
        rw [hm4] at hd
        exact r.RB i F o (h4o hF e) (get' ho e) hl hd
      ·exact .map _ E h4i
    ·cases hfr
   ·cases hfr
 ·cases hc
section
variable {C : HS}
theorem TJ {f : FuncId} {es : List (AB × AB)} {N : Nat} (n : Nat) (hr : (match Il C (Da C n) ⟨N, []⟩ (Jk N) f (NU N) with | some (v, h) => Ua N h v | none => none) = some es) :
  ∃ v h', Jn C ⟨N, []⟩ (Jk N) f (NU N) v h' ∧ Ua N h' v = some es := by
 split at hr
 ·rename_i v h' e
  exact ⟨v, h', ⟨n, e⟩, hr⟩
 ·cases hr
variable {km : Vt} {l : List (Nat × Nat × Nat × Nat)} {g : Gd} {h : AJ} {f : Nat}
theorem Vq {j n : Nat} {args : List AB} {es : List (AB × AB)} (hk : C.kind f = 3) (hx : C.ext = OO C.P km l) (hl : KB l f = some (32, j, n)) (hn : (Nat.beq args.length n && args.all Qi) = true) (he : S5 args (km.getD j []) = some es) : Bi C g h f args (.map (some h.size)) (h.push (.map 2 es)) := by
 refine Qd hk hx hl ?_
 show RT (km.getD j []) n h args = _
 unfold RT
 rw [hn, he]
 rfl
end
end Go.Av
