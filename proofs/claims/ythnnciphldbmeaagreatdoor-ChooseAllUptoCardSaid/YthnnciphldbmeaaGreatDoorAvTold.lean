/-
  ABS, 40: what a configuration of its own tells of closed calls: that they tell true; that they come back.
-/
import Derived.Test.YthnnciphldbmeaaGreatDoorAvLib
import Derived.Test.YthnnciphldbmeaaGreatDoorAvFast
namespace Go.Av
open Go.RowKit
set_option linter.unusedVariables false
set_option linter.unusedSimpArgs false
def NA (n : Nat) : List AA := (List.range n).map fun i => .ptr (some (i, 0))
def Jq : Nat → AH
 | 0 => ⟨0, .leaf⟩
 | n + 1 => (Jq n).push (.cells none 0 [])
theorem Lf : ∀ n, (Jq n).size = n
 | 0 => rfl
 | n + 1 => by rw [Jq, AH.size_push, Lf n]
theorem Mw : ∀ {n i : Nat} {o : B4}, (Jq n).get i = some o → o = .cells none 0 []
 | 0, i, o, h => by
  have := (Jq 0).CZ h
  simp [Jq] at this
 | n + 1, i, o, h => by
  rw [Jq, AH.Kq] at h
  split at h
  ·exact (Option.some.inj h).symm
  ·exact Mw h
def Oo (N : Nat) (h : AH) : Nat → AA → Option AA
 | 0, _ => none
 | n + 1, v =>
  match v with
  | .ptr (some (id, o)) =>
   bif Nat.blt id N then some (.ptr (some (id, o))) else bif Nat.beq o 0 then (match h.get id with | some (.cells none 2 cs) => (Lv (Oo N h n) cs).map .A7 | _ => none) else none
  | .agg cs => (Lv (Oo N h n) cs).map .agg
  | .func fn a b => match Lv (Oo N h n) a, Lv (Oo N h n) b with | some a', some b' => some (.func fn a' b') | _, _ => none
  | v => bif Fq v then some v else none
def Sv (N : Nat) (h : AH) : List (AA × AA) → Option (List (AA × AA))
 | [] => some []
 | (k, v) :: es =>
  match Fq k, Oo N h 10 v, Sv N h es with
  | true, some v', some r => some ((k, v') :: r)
  | _, _, _ => none
def UP (N : Nat) (h : AH) : AA → Option (List (AA × AA))
 | .map (some id) => match h.get id with | some (.map 2 es) => Sv N h es | _ => none
 | _ => none
theorem Mc {f : AA → Option AA} : ∀ {l l' : List AA}, Lv f l = some l' → l.length = l'.length ∧ ∀ (i : Nat) (x : AA), l[i]? = some x → ∃ x', l'[i]? = some x' ∧ f x = some x'
 | [], l', h => by cases h; exact ⟨rfl, fun i x hx => by simp at hx⟩
 | v :: vs, l', h => by
  unfold Lv at h
  split at h
  ·rename_i v' vs' h1 h2
   cases h
   obtain ⟨a, b⟩ := Mc h2
   refine ⟨by simp [a], fun i x hx => ?_⟩
   cases i with
   | zero => simp only [List.getElem?_cons_zero, Option.some.injEq] at hx; subst hx; exact ⟨v', rfl, h1⟩
   | succ i => exact b i x (by simpa using hx)
  ·cases h
section
variable {N : Nat} {h1 : AH} {m2 m4 : BK} {args : List AA}
theorem RE (hArg : ∀ i o v'' u, i < N → TV args i o = some v'' → VR m2 (.ptr (some (i, o))) u → VR m4 v'' u)
  (hBox : ∀ id cs E, ¬ id < N → h1.get id = some (.cells none 2 cs) → m2 id = some E → E.base = 0 ∧ ∃ c : Nat → Value, (∀ i, i < cs.length → m4.fz E.g i = some (c i)) ∧ ∀ i x, cs[i]? = some x → VR m2 x (c i)) :
  ∀ (n : Nat) (v v0 : AA), Oo N h1 n v = some v0 → ∀ (n' : Nat) (v' : AA), LK args n' v0 = some v' → ∀ u, VR m2 v u → VR m4 v' u
 | 0, v, v0, h, n', v', h', u, hv => by cases h
 | n + 1, v, v0, h, 0, v', h', u, hv => by cases h'
 | n + 1, v, v0, h, n' + 1, v', h', u, hv => by
  have ih := RE hArg hBox n
  have row : ∀ {cs cs0 cs' : List AA}, Lv (Oo N h1 n) cs = some cs0 → Lv (LK args n') cs0 = some cs' → cs.length = cs'.length ∧ ∀ (i : Nat) (x' : AA), cs'[i]? = some x' → ∃ x, cs[i]? = some x ∧ ∀ u, VR m2 x u → VR m4 x' u := by
   intro cs cs0 cs' g1 g2
   obtain ⟨a1, b1⟩ := Mc g1
   obtain ⟨a2, b2⟩ := Mc g2
   refine ⟨by omega, fun i x' hx' => ?_⟩
   have hi := (List.getElem?_eq_some_iff.1 hx').1
   have hi0 : i < cs.length := by omega
   obtain ⟨x0, c1, c2⟩ := b1 i _ (List.getElem?_eq_getElem hi0)
   obtain ⟨x1, d1, d2⟩ := b2 i x0 c1
   rw [hx'] at d1
   cases d1
   exact ⟨_, List.getElem?_eq_getElem hi0, fun u hu => ih _ _ c2 n' _ d2 u hu⟩
  have flat : (bif Fq v then some v else none) = some v0 → (∀ r, v ≠ .ptr (some r)) → (∀ cs, v ≠ .A7 cs) → VR m4 v' u := by
   intro hf hne hne2
   cases hfl : Fq v with
   | false => rw [hfl] at hf; cases hf
   | true =>
    rw [hfl] at hf
    cases hf
    have : LK args (n' + 1) v = some v := by
     unfold LK
     split <;> first | (exfalso; exact hne _ rfl) | (exfalso; exact hne2 _ rfl) | (simp [Fq] at hfl; done) | (rw [hfl]; rfl)
    rw [this] at h'
    cases h'
    exact hv.Fq hfl
  unfold Oo at h
  split at h
  ·rename_i id o
   by_cases hid : id < N
   ·have hb : Nat.blt id N = true := by rw [Nat.blt_eq]; exact hid
    rw [hb] at h
    cases h
    exact hArg id o v' u hid h' hv
   ·have hb : Nat.blt id N = false := by rw [← Bool.not_eq_true, Nat.blt_eq]; exact hid
    rw [hb] at h
    simp only [cond_false] at h
    cases ho : Nat.beq o 0 with
    | false => rw [ho] at h; cases h
    | true =>
     rw [ho] at h
     obtain rfl := Nat.eq_of_beq_eq_true ho
     simp only [cond_true] at h
     split at h
     ·rename_i cs hg
      simp only [Option.map_eq_some_iff] at h
      obtain ⟨cs0, g1, rfl⟩ := h
      unfold LK at h'
      simp only [Option.map_eq_some_iff] at h'
      obtain ⟨cs', g2, rfl⟩ := h'
      cases hv with
      | ptr _ _ E hE =>
       obtain ⟨hb0, c, hc1, hc2⟩ := hBox id cs E hid hg hE
       obtain ⟨hl, hr⟩ := row g1 g2
       rw [hb0]
       refine .A7 _ _ _ c (fun i hi => by simpa using hc1 i (by omega)) fun i x' hx' => ?_
       obtain ⟨x, q1, q2⟩ := hr i x' hx'
       exact q2 _ (hc2 i x q1)
     ·cases h
  ·rename_i cs
   simp only [Option.map_eq_some_iff] at h
   obtain ⟨cs0, g1, rfl⟩ := h
   unfold LK at h'
   simp only [Option.map_eq_some_iff] at h'
   obtain ⟨cs', g2, rfl⟩ := h'
   obtain ⟨hl, hr⟩ := row g1 g2
   obtain ⟨c, rfl, vc⟩ := hv.Fj
   refine CT.agg ⟨by rw [← hl]; exact vc.1, fun i x' y hx' hy => ?_⟩
   obtain ⟨x, q1, q2⟩ := hr i x' hx'
   exact q2 _ (vc.2 i x y q1 hy)
  ·rename_i fn a b
   split at h
   ·rename_i a0 b0 ga gb
    cases h
    rw [show LK args (n' + 1) (.func fn a0 b0) = (match Lv (LK args n') a0, Lv (LK args n') b0 with | some a', some b' => some (.func fn a' b') | _, _ => none) from rfl] at h'
    split at h'
    ·rename_i a' b' ga' gb'
     cases h'
     obtain ⟨la, ra⟩ := row ga ga'
     obtain ⟨lb, rb⟩ := row gb gb'
     cases hv with
     | func _ _ _ c d k1 k2 k3 k4 =>
      refine .func fn a' b' c d (by omega) (fun i x' y hx' hy => ?_) (by omega) (fun i x' y hx' hy => ?_)
      ·obtain ⟨x, q1, q2⟩ := ra i x' hx'
       exact q2 _ (k2 i x y q1 hy)
      ·obtain ⟨x, q1, q2⟩ := rb i x' hx'
       exact q2 _ (k4 i x y q1 hy)
    ·cases h'
   ·cases h
  ·rename_i w0 n1 n2 n3
   refine flat h (fun r e => ?_) (fun cs e => ?_)
   ·subst e; exact n1 _ _ rfl
   ·subst e; simp [Fq] at h
end
def cellOf (w : World) (g o : Nat) : Option Value :=
 match w.heap[g]? with
 | some (.cells cur _ _) => cur[o]?
 | _ => none
theorem OG {N : Nat} {h1 : AH} {m2 m4 : BK} {args : List AA} (key : ∀ (n : Nat) (v v0 : AA), Oo N h1 n v = some v0 → ∀ (n' : Nat) (v' : AA), LK args n' v0 = some v' → ∀ u, VR m2 v u → VR m4 v' u) :
  ∀ {es0 es es' : List (AA × AA)}, Sv N h1 es0 = some es → TR args es = some es' → es0.length = es'.length ∧
   ∀ (i : Nat) (k v : AA), es'[i]? = some (k, v) → ∃ k0 v0, es0[i]? = some (k0, v0) ∧ ∀ uk uv, VR m2 k0 uk → VR m2 v0 uv → VR m4 k uk ∧ VR m4 v uv
 | [], es, es', h, h' => by
  cases h
  cases h'
  exact ⟨rfl, fun i k v hx => by simp at hx⟩
 | (k, v) :: es0, es, es', h, h' => by
  unfold Sv at h
  split at h
  ·rename_i v1 r hk hv hr
   cases h
   unfold TR at h'
   split at h'
   ·rename_i v2 r' hv' hr'
    cases h'
    obtain ⟨a, b⟩ := OG key hr hr'
    refine ⟨by simp [a], fun i k' v' hx => ?_⟩
    cases i with
    | zero =>
     simp only [List.getElem?_cons_zero, Option.some.injEq, Prod.mk.injEq] at hx
     obtain ⟨rfl, rfl⟩ := hx
     exact ⟨k, v, rfl, fun uk uv q1 q2 => ⟨q1.Fq hk, key _ _ _ hv _ _ hv' _ q2⟩⟩
    | succ i => exact b i k' v' (by simpa using hx)
   ·cases h'
  ·cases h
theorem TQ {C1 : HU} (hC : ID C1) {f : FuncId} {n : Nat} {es : List (AA × AA)} (hk : C1.kind f = 1) (hst : C1.still f = []) (hb : ∃ v h', KB C1 ⟨n, []⟩ (Jq n) f (NA n) v h' ∧ UP n h' v = some es) :
  Gh C1.P C1.Dw f fun _ h args => RW es n h args := by
 obtain ⟨v1, h1, ⟨k, hn⟩, hfr⟩ := hb
 intro g h f' args v h' hc
 dsimp only at hc
 split at hc
 ·rename_i e
  subst e
  unfold RW at hc
  cases hbq : (Nat.beq args.length n && args.all Qs) with
  | false => rw [hbq] at hc; cases hc
  | true =>
   rw [hbq] at hc
   simp only [Bool.and_eq_true] at hbq
   have hlen := Nat.eq_of_beq_eq_true hbq.1
   simp only [cond_true, Option.map_eq_some_iff, Prod.mk.injEq] at hc
   obtain ⟨es', hren, rfl, rfl⟩ := hc
   refine ⟨BF.push _ _ _, fun w0 m w cargs hz r hv => ?_⟩
   obtain ⟨m0, hm0⟩ : ∃ m0 : BK, m0 = ⟨fun i => match args[i]? with | some (.ptr (some (id, b))) => (m.i id).map fun E => ⟨E.g, E.base + b, I1 C1.P none, E.total⟩ | _ => none, fun _ _ => none, fun _ => False⟩ := ⟨_, rfl⟩
   have ptrAt : ∀ i, i < n → ∃ id b, args[i]? = some (.ptr (some (id, b))) := by
    intro i hi
    have hi' : i < args.length := by omega
    have := List.all_eq_true.1 hbq.2 args[i] (List.getElem_mem hi')
    rw [List.getElem?_eq_getElem hi']
    generalize args[i] = x at this
    unfold Qs at this
    split at this
    ·rename_i r; exact ⟨r.1, r.2, rfl⟩
    ·cases this
   have m0lt : ∀ i E, m0.i i = some E → i < n := by
    intro i E hE
    rw [hm0] at hE
    simp only at hE
    rcases Nat.lt_or_ge i n with hi | hi
    ·exact hi
    ·rw [List.getElem?_eq_none (by omega)] at hE; cases hE
   have m0esz : ∀ i E, m0.i i = some E → E.SF = I1 C1.P none := by
    intro i E hE
    obtain ⟨id, b, ha⟩ := ptrAt i (m0lt i E hE)
    rw [hm0] at hE
    simp only [ha, Option.map_eq_some_iff] at hE
    obtain ⟨E', _, rfl⟩ := hE
    rfl
   have r0 : Rel C1.P w m0 (Jq n) w := by
    refine ⟨Below.refl _ _, fun id E hE => by rw [Lf]; exact m0lt id E hE, fun id E o hE ho => ?_, fun id E o hE ho hw => ?_, fun id id' E E' o o' _ hE hE' ho ho' hw => ?_, fun g o v hv => (by rw [hm0] at hv; cases hv), fun id E o hE ho hw => ?_, fun g hg => (by rw [hm0] at hg; exact hg.elim), fun id E o hE ho hw => ?_⟩
    ·rw [Mw ho]
     exact ⟨⟨⟨m0esz id E hE, fun _ => Uh.nil⟩, fun _ h => by cases h⟩, fun h => absurd rfl h⟩
    all_goals (rw [Mw ho] at hw; simp [B4.own, B4.live] at hw)
   have hv0 : CT m0 (NA n) cargs.toList := by
    have hcl : cargs.toList.length = n := by rw [← hv.1]; exact hlen
    refine ⟨by simp only [NA, List.length_map, List.length_range]; exact hcl.symm, fun i x y hx hy => ?_⟩
    have hi : i < n := by rw [← hcl]; exact (List.getElem?_eq_some_iff.1 hy).1
    unfold NA at hx
    rw [List.getElem?_map, List.getElem?_range hi] at hx
    cases hx
    obtain ⟨id, b, ha⟩ := ptrAt i hi
    have hvr := hv.2 i _ y ha hy
    cases hvr with
    | ptr _ _ E hE =>
     have hE0 : m0.i i = some ⟨E.g, E.base + b, I1 C1.P none, E.total⟩ := by
      rw [hm0]
      simp only [ha, hE, Option.map_some]
     exact VR.ptr i 0 _ hE0
   have hcall : (DN C1 (k + 1)).call ⟨n, []⟩ (Jq n) f' (NA n) = some (v1, h1) := by
    show IA C1 (DN C1 k) _ _ f' _ = _
    unfold IA
    rw [hk, hst]
    exact hn
   obtain ⟨_, k2⟩ := (N4 hC (k + 1)).sub.call _ _ f' _ _ _ hcall
   refine (k2 w m0 w cargs (hz.later r.below) r0 hv0).mono fun v' w' ⟨m2, g1, g2, g3⟩ => ?_
   unfold UP at hfr
   split at hfr
   ·rename_i id
    split at hfr
    ·rename_i es0 Nu
     cases g3 with
     | map _ E hE =>
      have hown : w.heap.size ≤ E.g := g2.own _ E _ hE Nu rfl
      obtain ⟨hEb, hmp⟩ := g2.obj _ E _ hE Nu
      obtain ⟨ents, clock, q1, q2, q3, q4⟩ := LO.two (hmp (by decide)) (by decide)
      have r' := r.later g2.below
      obtain ⟨m4, hm4⟩ : ∃ m4 : BK, m4 = ⟨fun i => if i = h.size then some E else m.i i, fun g o => match m.fz g o with | some v => some v | none => if w.heap.size ≤ g ∧ g ≠ E.g then cellOf w' g o else none, m.df⟩ := ⟨_, rfl⟩
      have h4i : m4.i h.size = some E := by rw [hm4]; simp
      have h4o : ∀ {i F}, m4.i i = some F → i ≠ h.size → m.i i = some F := by
       intro i F hF hne
       rw [hm4] at hF
       simpa [hne] using hF
      have h4new : ∀ g o, w.heap.size ≤ g → m4.fz g o = if g ≠ E.g then cellOf w' g o else none := by
       intro g o hg
       rw [hm4]
       simp only [r.Mm hg o]
       by_cases e : g = E.g <;> simp [e, hg]
      have h4old : ∀ g o, g < w.heap.size → m4.fz g o = m.fz g o := by
       intro g o hg
       rw [hm4]
       simp only
       cases m.fz g o with
       | some v => rfl
       | none => simp; omega
      have hle : m.le m4 := ⟨fun i F hF => by
       have := r.Pc i F hF
       rw [hm4]
       simp only
       rw [if_neg (by omega)]
       exact hF, fun g o v hv => by rw [hm4]; simp only [hv]⟩
      have key : ∀ (n' : Nat) (v v0 : AA), Oo n h1 n' v = some v0 → ∀ (n'' : Nat) (v' : AA), LK args n'' v0 = some v' → ∀ u, VR m2 v u → VR m4 v' u := by
       refine RE (fun i o v'' u hi ha hu => ?_) (fun id' cs E' hid' hg' hE' => ?_)
       ·obtain ⟨id, b, hai⟩ := ptrAt i hi
        unfold TV at ha
        rw [hai] at ha
        cases ha
        cases hu with
        | ptr _ _ F hF =>
         rw [g1.i i (by rw [Lf]; exact hi), hm0] at hF
         simp only [hai, Option.map_eq_some_iff] at hF
         obtain ⟨E0, hE0, rfl⟩ := hF
         have := VR.ptr (m := m4) id (b + o) E0 (hle.i _ _ hE0)
         rw [← Nat.add_assoc] at this
         exact this
       ·obtain ⟨⟨_, hb0⟩, hcs⟩ := g2.obj id' E' _ hE' hg'
        obtain ⟨cur, e, fz, p1, p2, p3, p4⟩ := hcs (by decide)
        have hbase := hb0 rfl rfl
        have hgE : w.heap.size ≤ E'.g := g2.own id' E' _ hE' hg' rfl
        have hne : E'.g ≠ E.g := by
         intro e
         rw [e] at p1
         rw [q1] at p1
         cases p1
        refine ⟨hbase, fun i => (cur[i]?).getD undef, fun i hi => ?_, fun i x hx => ?_⟩
        ·obtain ⟨_, c, c1, _⟩ := p3 i _ (List.getElem?_eq_getElem hi)
         rw [hbase, Nat.zero_add] at c1
         rw [h4new _ _ hgE, if_pos hne]
         unfold cellOf
         rw [p1]
         simp [c1]
        ·obtain ⟨_, c, c1, c2⟩ := p3 i x hx
         rw [hbase, Nat.zero_add] at c1
         show VR m2 x ((cur[i]?).getD undef)
         rw [c1]
         exact c2
      obtain ⟨el, er⟩ := OG key hfr hren
      have get' : ∀ {i o}, (h.push (.map 2 es')).get i = some o → i ≠ h.size → h.get i = some o := by
       intro i o ho hne
       rw [h.Kq, if_neg hne] at ho
       exact ho
      have getN : ∀ {o}, (h.push (.map 2 es')).get h.size = some o → o = .map 2 es' := by
       intro o ho
       rw [h.Dc] at ho
       exact (Option.some.inj ho).symm
      have oldlt : ∀ {i F o}, m4.i i = some F → (h.push (.map 2 es')).get i = some o → i ≠ h.size → o.live = true → F.g < w.heap.size := by
       intro i F o hF ho hne hl
       exact (r.obj i F o (h4o hF hne) (get' ho hne)).lt hl
      refine ⟨m4, ⟨fun i hi => ?_, hle.fz, fun g hg => by rw [hm4]; exact hg⟩, ⟨r'.below, fun i F hF => ?_, fun i F o hF ho => ?_, fun i F o hF ho hw => ?_, fun i i' F F' o o' hne hF hF' ho ho' hw hl => ?_, fun g o v hv => ?_, fun i F o hF ho hw j => ?_, fun g hg => ?_, fun i F o hF ho hl => ?_⟩, ?_⟩
      ·rw [hm4]
       simp only
       rw [if_neg (by omega)]
      ·by_cases e : i = h.size
       ·simp [e]
       ·have := r.Pc i F (h4o hF e)
        simp; omega
      ·by_cases e : i = h.size
       ·subst e
        rw [h4i] at hF
        cases hF
        obtain rfl := getN ho
        refine ⟨hEb, fun _ => LO.of ⟨ents, clock, q1, by omega, fun i k v e hi he => ?_, q4⟩ (by decide)⟩
        obtain ⟨k0, v0, s1, s2⟩ := er i k v hi
        obtain ⟨t1, t2⟩ := q3 i k0 v0 e s1 he
        exact s2 _ _ t1 t2
       ·exact (r'.obj i F o (h4o hF e) (get' ho e)).mono hle fun _ => rfl
      ·by_cases e : i = h.size
       ·subst e
        rw [h4i] at hF
        cases hF
        exact Nat.le_trans r.size hown
       ·exact r.own i F o (h4o hF e) (get' ho e) hw
      ·by_cases e : i = h.size
       ·subst e
        rw [h4i] at hF
        cases hF
        have := oldlt hF' ho' (fun e => hne e.symm) hl
        omega
       ·by_cases e' : i' = h.size
        ·subst e'
         rw [h4i] at hF'
         cases hF'
         have := oldlt hF ho e (B4.FN hw)
         omega
        ·exact r.sep i i' F F' o o' hne (h4o hF e) (h4o hF' e') (get' ho e) (get' ho' e') hw hl
      ·rcases Nat.lt_or_ge g w.heap.size with hg | hg
       ·rw [h4old g o hg] at hv
        exact r'.fz g o v hv
       ·rw [h4new g o hg] at hv
        split at hv
        ·unfold cellOf at hv
         split at hv
         ·rename_i cur e z hh
          exact ⟨cur, e, z, hh, hv⟩
         ·cases hv
        ·cases hv
      ·by_cases e : i = h.size
       ·subst e
        rw [h4i] at hF
        cases hF
        rw [h4new _ _ hown, if_neg (by simp)]
       ·have := oldlt hF ho e (B4.FN hw)
        rw [h4old _ _ this]
        exact r.K7 i F o (h4o hF e) (get' ho e) hw j
      ·rw [hm4] at hg
       exact r'.df g hg
      ·by_cases e : i = h.size
       ·subst e
        rw [h4i] at hF
        cases hF
        intro hd
        rw [hm4] at hd
        have := r.Ld hd
        omega
       ·intro hd
        rw [hm4] at hd
        exact r.Q3 i F o (h4o hF e) (get' ho e) hl hd
      ·exact .map _ E h4i
    ·cases hfr
   ·cases hfr
 ·cases hc
section
variable {C : HU}
theorem TE {f : FuncId} {es : List (AA × AA)} {N : Nat} (n : Nat) (hr : (match IZ C (DN C n) ⟨N, []⟩ (Jq N) f (NA N) with | some (v, h) => UP N h v | none => none) = some es) :
  ∃ v h', KB C ⟨N, []⟩ (Jq N) f (NA N) v h' ∧ UP N h' v = some es := by
 split at hr
 ·rename_i v h' e
  exact ⟨v, h', ⟨n, e⟩, hr⟩
 ·cases hr
variable {km : Vk} {l : List (Nat × Nat × Nat × Nat)} {g : Gd} {h : AH} {f : Nat}
theorem Vl {j n : Nat} {args : List AA} {es : List (AA × AA)} (hk : C.kind f = 3) (hx : C.ext = NK C.P km l) (hl : Jc l f = some (32, j, n)) (hn : (Nat.beq args.length n && args.all Qs) = true) (he : TR args (km.getD j []) = some es) : BL C g h f args (.map (some h.size)) (h.push (.map 2 es)) := by
 refine PV hk hx hl ?_
 show RW (km.getD j []) n h args = _
 unfold RW
 rw [hn, he]
 rfl
end
end Go.Av
