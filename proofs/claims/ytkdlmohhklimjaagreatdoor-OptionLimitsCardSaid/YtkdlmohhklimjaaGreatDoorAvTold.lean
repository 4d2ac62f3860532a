/-
  ABS, 40: what a configuration of its own tells of closed calls: that they tell true; that they come back.
-/
import Derived.Test.YtkdlmohhklimjaaGreatDoorAvLib
import Derived.Test.YtkdlmohhklimjaaGreatDoorAvFast
namespace Go.Av
open Go.RowKit
set_option linter.unusedVariables false
set_option linter.unusedSimpArgs false

/-- a closed call that tells true, by its own configuration -/
theorem tellTrue_ok {C1 : Cfg} (hC : CfgOk C1) {f : FuncId} (hk : C1.kind f = 4) (hb : ∃ h', Bodies C1 ⟨0, []⟩ ⟨0, .leaf⟩ f [] (.bool true) h') : ExtOk C1.P C1.glob f fun _ h args => extTrue h args := by
  obtain ⟨h1, n, hn⟩ := hb
  intro g h f' args v h' hc
  dsimp only at hc
  split at hc
  · rename_i e
    subst e
    unfold extTrue at hc
    split at hc
    · simp only [Option.some.injEq, Prod.mk.injEq] at hc
      obtain ⟨rfl, rfl⟩ := hc
      have hcall : (selfN C1 (n + 1)).call g h f' [] = some (.bool true, h) := by
        show callA C1 (selfN C1 n) g h f' [] = _
        unfold callA
        rw [hk]
        simp [hn, flat3, flat2, flat1]
      exact (selfN_ok hC (n + 1)).sub.call g h f' [] _ _ hcall
    · cases hc
  · cases hc
/-! ### a map of known keys -/
def ptrsN (n : Nat) : List AVal := (List.range n).map fun i => .ptr (some (i, 0))
/-- so many things that nobody looks at -/
def tinyH : Nat → AHeap
  | 0 => ⟨0, .leaf⟩
  | n + 1 => (tinyH n).push (.cells none 0 [])
theorem tinyH_size : ∀ n, (tinyH n).size = n
  | 0 => rfl
  | n + 1 => by rw [tinyH, AHeap.size_push, tinyH_size n]
theorem tinyH_get : ∀ {n i : Nat} {o : AObj}, (tinyH n).get i = some o → o = .cells none 0 []
  | 0, i, o, h => by
    have := (tinyH 0).lt_of_get h
    simp [tinyH] at this
  | n + 1, i, o, h => by
    rw [tinyH, AHeap.get_push] at h
    split at h
    · exact (Option.some.inj h).symm
    · exact tinyH_get h
/-- a value of which nobody writes what it leads to -/
def frzR (N : Nat) (h : AHeap) : Nat → AVal → Option AVal
  | 0, _ => none
  | n + 1, v =>
    match v with
    | .ptr (some (id, o)) =>
      bif Nat.blt id N then some (.ptr (some (id, o))) else bif Nat.beq o 0 then (match h.get id with | some (.cells none 2 cs) => (optL (frzR N h n) cs).map .vptr | _ => none) else none
    | .agg cs => (optL (frzR N h n) cs).map .agg
    | .func fn a b => match optL (frzR N h n) a, optL (frzR N h n) b with | some a', some b' => some (.func fn a' b') | _, _ => none
    | v => bif flat1 v then some v else none
def frzEs (N : Nat) (h : AHeap) : List (AVal × AVal) → Option (List (AVal × AVal))
  | [] => some []
  | (k, v) :: es =>
    match flat1 k, frzR N h 10 v, frzEs N h es with
    | true, some v', some r => some ((k, v') :: r)
    | _, _, _ => none
def frzM (N : Nat) (h : AHeap) : AVal → Option (List (AVal × AVal))
  | .map (some id) => match h.get id with | some (.map 2 es) => frzEs N h es | _ => none
  | _ => none

theorem optL_spec {f : AVal → Option AVal} : ∀ {l l' : List AVal}, optL f l = some l' → l.length = l'.length ∧ ∀ (i : Nat) (x : AVal), l[i]? = some x → ∃ x', l'[i]? = some x' ∧ f x = some x'
  | [], l', h => by cases h; exact ⟨rfl, fun i x hx => by simp at hx⟩
  | v :: vs, l', h => by
    unfold optL at h
    split at h
    · rename_i v' vs' h1 h2
      cases h
      obtain ⟨a, b⟩ := optL_spec h2
      refine ⟨by simp [a], fun i x hx => ?_⟩
      cases i with
      | zero => simp only [List.getElem?_cons_zero, Option.some.injEq] at hx; subst hx; exact ⟨v', rfl, h1⟩
      | succ i => exact b i x (by simpa using hx)
    · cases h
section
variable {N : Nat} {h1 : AHeap} {m2 m4 : Inj} {args : List AVal}
/-- what is told of a value by its own map is told of the turned one by another map -/
theorem frz_told (hArg : ∀ i o v'' u, i < N → argAt args i o = some v'' → VR m2 (.ptr (some (i, o))) u → VR m4 v'' u)
    (hBox : ∀ id cs E, ¬ id < N → h1.get id = some (.cells none 2 cs) → m2 id = some E → E.base = 0 ∧ ∃ c : Nat → Value, (∀ i, i < cs.length → m4.fz E.g i = some (c i)) ∧ ∀ i x, cs[i]? = some x → VR m2 x (c i)) :
    ∀ (n : Nat) (v v0 : AVal), frzR N h1 n v = some v0 → ∀ (n' : Nat) (v' : AVal), renV args n' v0 = some v' → ∀ u, VR m2 v u → VR m4 v' u
  | 0, v, v0, h, n', v', h', u, hv => by cases h
  | n + 1, v, v0, h, 0, v', h', u, hv => by cases h'
  | n + 1, v, v0, h, n' + 1, v', h', u, hv => by
    have ih := frz_told hArg hBox n
    have row : ∀ {cs cs0 cs' : List AVal}, optL (frzR N h1 n) cs = some cs0 → optL (renV args n') cs0 = some cs' → cs.length = cs'.length ∧ ∀ (i : Nat) (x' : AVal), cs'[i]? = some x' → ∃ x, cs[i]? = some x ∧ ∀ u, VR m2 x u → VR m4 x' u := by
      intro cs cs0 cs' g1 g2
      obtain ⟨a1, b1⟩ := optL_spec g1
      obtain ⟨a2, b2⟩ := optL_spec g2
      refine ⟨by omega, fun i x' hx' => ?_⟩
      have hi := (List.getElem?_eq_some_iff.1 hx').1
      have hi0 : i < cs.length := by omega
      obtain ⟨x0, c1, c2⟩ := b1 i _ (List.getElem?_eq_getElem hi0)
      obtain ⟨x1, d1, d2⟩ := b2 i x0 c1
      rw [hx'] at d1
      cases d1
      exact ⟨_, List.getElem?_eq_getElem hi0, fun u hu => ih _ _ c2 n' _ d2 u hu⟩
    have flat : (bif flat1 v then some v else none) = some v0 → (∀ r, v ≠ .ptr (some r)) → (∀ cs, v ≠ .vptr cs) → VR m4 v' u := by
      intro hf hne hne2
      cases hfl : flat1 v with
      | false => rw [hfl] at hf; cases hf
      | true =>
        rw [hfl] at hf
        cases hf
        have : renV args (n' + 1) v = some v := by
          unfold renV
          split <;> first | (exfalso; exact hne _ rfl) | (exfalso; exact hne2 _ rfl) | (simp [flat1] at hfl; done) | (rw [hfl]; rfl)
        rw [this] at h'
        cases h'
        exact hv.flat1 hfl
    unfold frzR at h
    split at h
    · rename_i id o
      by_cases hid : id < N
      · have hb : Nat.blt id N = true := by rw [Nat.blt_eq]; exact hid
        rw [hb] at h
        cases h
        exact hArg id o v' u hid h' hv
      · have hb : Nat.blt id N = false := by rw [← Bool.not_eq_true, Nat.blt_eq]; exact hid
        rw [hb] at h
        simp only [cond_false] at h
        cases ho : Nat.beq o 0 with
        | false => rw [ho] at h; cases h
        | true =>
          rw [ho] at h
          obtain rfl := Nat.eq_of_beq_eq_true ho
          simp only [cond_true] at h
          split at h
          · rename_i cs hg
            simp only [Option.map_eq_some_iff] at h
            obtain ⟨cs0, g1, rfl⟩ := h
            unfold renV at h'
            simp only [Option.map_eq_some_iff] at h'
            obtain ⟨cs', g2, rfl⟩ := h'
            cases hv with
            | ptr _ _ E hE =>
              obtain ⟨hb0, c, hc1, hc2⟩ := hBox id cs E hid hg hE
              obtain ⟨hl, hr⟩ := row g1 g2
              rw [hb0]
              refine .vptr _ _ _ c (fun i hi => by simpa using hc1 i (by omega)) fun i x' hx' => ?_
              obtain ⟨x, q1, q2⟩ := hr i x' hx'
              exact q2 _ (hc2 i x q1)
          · cases h
    · rename_i cs
      simp only [Option.map_eq_some_iff] at h
      obtain ⟨cs0, g1, rfl⟩ := h
      unfold renV at h'
      simp only [Option.map_eq_some_iff] at h'
      obtain ⟨cs', g2, rfl⟩ := h'
      obtain ⟨hl, hr⟩ := row g1 g2
      obtain ⟨c, rfl, vc⟩ := hv.inv_agg
      refine VRs.agg ⟨by rw [← hl]; exact vc.1, fun i x' y hx' hy => ?_⟩
      obtain ⟨x, q1, q2⟩ := hr i x' hx'
      exact q2 _ (vc.2 i x y q1 hy)
    · rename_i fn a b
      split at h
      · rename_i a0 b0 ga gb
        cases h
        rw [show renV args (n' + 1) (.func fn a0 b0) = (match optL (renV args n') a0, optL (renV args n') b0 with | some a', some b' => some (.func fn a' b') | _, _ => none) from rfl] at h'
        split at h'
        · rename_i a' b' ga' gb'
          cases h'
          obtain ⟨la, ra⟩ := row ga ga'
          obtain ⟨lb, rb⟩ := row gb gb'
          cases hv with
          | func _ _ _ c d k1 k2 k3 k4 =>
            refine .func fn a' b' c d (by omega) (fun i x' y hx' hy => ?_) (by omega) (fun i x' y hx' hy => ?_)
            · obtain ⟨x, q1, q2⟩ := ra i x' hx'
              exact q2 _ (k2 i x y q1 hy)
            · obtain ⟨x, q1, q2⟩ := rb i x' hx'
              exact q2 _ (k4 i x y q1 hy)
        · cases h'
      · cases h
    · rename_i w0 n1 n2 n3
      refine flat h (fun r e => ?_) (fun cs e => ?_)
      · subst e; exact n1 _ _ rfl
      · subst e; simp [flat1] at h
end
def cellOf (w : World) (g o : Nat) : Option Value :=
  match w.heap[g]? with
  | some (.cells cur _ _) => cur[o]?
  | _ => none
theorem frzEs_told {N : Nat} {h1 : AHeap} {m2 m4 : Inj} {args : List AVal} (key : ∀ (n : Nat) (v v0 : AVal), frzR N h1 n v = some v0 → ∀ (n' : Nat) (v' : AVal), renV args n' v0 = some v' → ∀ u, VR m2 v u → VR m4 v' u) :
    ∀ {es0 es es' : List (AVal × AVal)}, frzEs N h1 es0 = some es → renE args es = some es' → es0.length = es'.length ∧
      ∀ (i : Nat) (k v : AVal), es'[i]? = some (k, v) → ∃ k0 v0, es0[i]? = some (k0, v0) ∧ ∀ uk uv, VR m2 k0 uk → VR m2 v0 uv → VR m4 k uk ∧ VR m4 v uv
  | [], es, es', h, h' => by
    cases h
    cases h'
    exact ⟨rfl, fun i k v hx => by simp at hx⟩
  | (k, v) :: es0, es, es', h, h' => by
    unfold frzEs at h
    split at h
    · rename_i v1 r hk hv hr
      cases h
      unfold renE at h'
      split at h'
      · rename_i v2 r' hv' hr'
        cases h'
        obtain ⟨a, b⟩ := frzEs_told key hr hr'
        refine ⟨by simp [a], fun i k' v' hx => ?_⟩
        cases i with
        | zero =>
          simp only [List.getElem?_cons_zero, Option.some.injEq, Prod.mk.injEq] at hx
          obtain ⟨rfl, rfl⟩ := hx
          exact ⟨k, v, rfl, fun uk uv q1 q2 => ⟨q1.flat1 hk, key _ _ _ hv _ _ hv' _ q2⟩⟩
        | succ i => exact b i k' v' (by simpa using hx)
      · cases h'
    · cases h
theorem tellKM_ok {C1 : Cfg} (hC : CfgOk C1) {f : FuncId} {n : Nat} {es : List (AVal × AVal)} (hk : C1.kind f = 1) (hst : C1.still f = []) (hb : ∃ v h', Bodies C1 ⟨n, []⟩ (tinyH n) f (ptrsN n) v h' ∧ frzM n h' v = some es) :
    ExtOk C1.P C1.glob f fun _ h args => extKM es n h args := by
  obtain ⟨v1, h1, ⟨k, hn⟩, hfr⟩ := hb
  intro g h f' args v h' hc
  dsimp only at hc
  split at hc
  · rename_i e
    subst e
    unfold extKM at hc
    cases hbq : (Nat.beq args.length n && args.all isPtr) with
    | false => rw [hbq] at hc; cases hc
    | true =>
      rw [hbq] at hc
      simp only [Bool.and_eq_true] at hbq
      have hlen := Nat.eq_of_beq_eq_true hbq.1
      simp only [cond_true, Option.map_eq_some_iff, Prod.mk.injEq] at hc
      obtain ⟨es', hren, rfl, rfl⟩ := hc
      refine ⟨Keeps.push _ _ _, fun w0 m w cargs hz r hv => ?_⟩
      -- the little map
      obtain ⟨m0, hm0⟩ : ∃ m0 : Inj, m0 = ⟨fun i => match args[i]? with | some (.ptr (some (id, b))) => (m.i id).map fun E => ⟨E.g, E.base + b, eszOf C1.P none, E.total⟩ | _ => none, fun _ _ => none, fun _ => False⟩ := ⟨_, rfl⟩
      have ptrAt : ∀ i, i < n → ∃ id b, args[i]? = some (.ptr (some (id, b))) := by
        intro i hi
        have hi' : i < args.length := by omega
        have := List.all_eq_true.1 hbq.2 args[i] (List.getElem_mem hi')
        rw [List.getElem?_eq_getElem hi']
        generalize args[i] = x at this
        unfold isPtr at this
        split at this
        · rename_i r; exact ⟨r.1, r.2, rfl⟩
        · cases this
      have m0lt : ∀ i E, m0.i i = some E → i < n := by
        intro i E hE
        rw [hm0] at hE
        simp only at hE
        rcases Nat.lt_or_ge i n with hi | hi
        · exact hi
        · rw [List.getElem?_eq_none (by omega)] at hE; cases hE
      have m0esz : ∀ i E, m0.i i = some E → E.esz = eszOf C1.P none := by
        intro i E hE
        obtain ⟨id, b, ha⟩ := ptrAt i (m0lt i E hE)
        rw [hm0] at hE
        simp only [ha, Option.map_eq_some_iff] at hE
        obtain ⟨E', _, rfl⟩ := hE
        rfl
      have r0 : Rel C1.P w m0 (tinyH n) w := by
        refine ⟨Below.refl _ _, fun id E hE => by rw [tinyH_size]; exact m0lt id E hE, fun id E o hE ho => ?_, fun id E o hE ho hw => ?_, fun id id' E E' o o' _ hE hE' ho ho' hw => ?_, fun g o v hv => (by rw [hm0] at hv; cases hv), fun id E o hE ho hw => ?_, fun g hg => (by rw [hm0] at hg; exact hg.elim), fun id E o hE ho hw => ?_⟩
        · rw [tinyH_get ho]
          exact ⟨⟨m0esz id E hE, fun _ h => by cases h⟩, fun h => absurd rfl h⟩
        all_goals (rw [tinyH_get ho] at hw; simp [AObj.own, AObj.live] at hw)
      have hv0 : VRs m0 (ptrsN n) cargs.toList := by
        have hcl : cargs.toList.length = n := by rw [← hv.1]; exact hlen
        refine ⟨by simp only [ptrsN, List.length_map, List.length_range]; exact hcl.symm, fun i x y hx hy => ?_⟩
        have hi : i < n := by rw [← hcl]; exact (List.getElem?_eq_some_iff.1 hy).1
        unfold ptrsN at hx
        rw [List.getElem?_map, List.getElem?_range hi] at hx
        cases hx
        obtain ⟨id, b, ha⟩ := ptrAt i hi
        have hvr := hv.2 i _ y ha hy
        cases hvr with
        | ptr _ _ E hE =>
          have hE0 : m0.i i = some ⟨E.g, E.base + b, eszOf C1.P none, E.total⟩ := by
            rw [hm0]
            simp only [ha, hE, Option.map_some]
          exact VR.ptr i 0 _ hE0
      have hcall : (selfN C1 (k + 1)).call ⟨n, []⟩ (tinyH n) f' (ptrsN n) = some (v1, h1) := by
        show callA C1 (selfN C1 k) _ _ f' _ = _
        unfold callA
        rw [hk, hst]
        exact hn
      obtain ⟨_, k2⟩ := (selfN_ok hC (k + 1)).sub.call _ _ f' _ _ _ hcall
      refine (k2 w m0 w cargs (hz.later r.below) r0 hv0).mono fun v' w' ⟨m2, g1, g2, g3⟩ => ?_
      -- the map
      unfold frzM at hfr
      split at hfr
      · rename_i id
        split at hfr
        · rename_i es0 hget
          cases g3 with
          | map _ E hE =>
            have hown : w.heap.size ≤ E.g := g2.own _ E _ hE hget rfl
            obtain ⟨hEb, hmp⟩ := g2.obj _ E _ hE hget
            obtain ⟨ents, clock, q1, q2, q3, q4⟩ := hmp (by decide)
            have r' := r.later g2.below
            obtain ⟨m4, hm4⟩ : ∃ m4 : Inj, m4 = ⟨fun i => if i = h.size then some E else m.i i, fun g o => match m.fz g o with | some v => some v | none => if w.heap.size ≤ g ∧ g ≠ E.g then cellOf w' g o else none, m.df⟩ := ⟨_, rfl⟩
            have h4i : m4.i h.size = some E := by rw [hm4]; simp
            have h4o : ∀ {i F}, m4.i i = some F → i ≠ h.size → m.i i = some F := by
              intro i F hF hne
              rw [hm4] at hF
              simpa [hne] using hF
            have h4new : ∀ g o, w.heap.size ≤ g → m4.fz g o = if g ≠ E.g then cellOf w' g o else none := by
              intro g o hg
              rw [hm4]
              simp only [r.fz_new hg o]
              by_cases e : g = E.g <;> simp [e, hg]
            have h4old : ∀ g o, g < w.heap.size → m4.fz g o = m.fz g o := by
              intro g o hg
              rw [hm4]
              simp only
              cases m.fz g o with
              | some v => rfl
              | none => simp; omega
            have hle : m.le m4 := ⟨fun i F hF => by
              have := r.dom i F hF
              rw [hm4]
              simp only
              rw [if_neg (by omega)]
              exact hF, fun g o v hv => by rw [hm4]; simp only [hv]⟩
            have key : ∀ (n' : Nat) (v v0 : AVal), frzR n h1 n' v = some v0 → ∀ (n'' : Nat) (v' : AVal), renV args n'' v0 = some v' → ∀ u, VR m2 v u → VR m4 v' u := by
              refine frz_told (fun i o v'' u hi ha hu => ?_) (fun id' cs E' hid' hg' hE' => ?_)
              · obtain ⟨id, b, hai⟩ := ptrAt i hi
                unfold argAt at ha
                rw [hai] at ha
                cases ha
                cases hu with
                | ptr _ _ F hF =>
                  rw [g1.i i (by rw [tinyH_size]; exact hi), hm0] at hF
                  simp only [hai, Option.map_eq_some_iff] at hF
                  obtain ⟨E0, hE0, rfl⟩ := hF
                  have := VR.ptr (m := m4) id (b + o) E0 (hle.i _ _ hE0)
                  rw [← Nat.add_assoc] at this
                  exact this
              · obtain ⟨⟨_, hb0⟩, hcs⟩ := g2.obj id' E' _ hE' hg'
                obtain ⟨cur, e, fz, p1, p2, p3, p4⟩ := hcs (by decide)
                have hbase := hb0 rfl rfl
                have hgE : w.heap.size ≤ E'.g := g2.own id' E' _ hE' hg' rfl
                have hne : E'.g ≠ E.g := by
                  intro e
                  rw [e] at p1
                  rw [q1] at p1
                  cases p1
                refine ⟨hbase, fun i => (cur[i]?).getD undef, fun i hi => ?_, fun i x hx => ?_⟩
                · obtain ⟨_, c, c1, _⟩ := p3 i _ (List.getElem?_eq_getElem hi)
                  rw [hbase, Nat.zero_add] at c1
                  rw [h4new _ _ hgE, if_pos hne]
                  unfold cellOf
                  rw [p1]
                  simp [c1]
                · obtain ⟨_, c, c1, c2⟩ := p3 i x hx
                  rw [hbase, Nat.zero_add] at c1
                  show VR m2 x ((cur[i]?).getD undef)
                  rw [c1]
                  exact c2
            obtain ⟨el, er⟩ := frzEs_told key hfr hren
            have get' : ∀ {i o}, (h.push (.map 2 es')).get i = some o → i ≠ h.size → h.get i = some o := by
              intro i o ho hne
              rw [h.get_push, if_neg hne] at ho
              exact ho
            have getN : ∀ {o}, (h.push (.map 2 es')).get h.size = some o → o = .map 2 es' := by
              intro o ho
              rw [h.get_push_new] at ho
              exact (Option.some.inj ho).symm
            have oldlt : ∀ {i F o}, m4.i i = some F → (h.push (.map 2 es')).get i = some o → i ≠ h.size → o.live = true → F.g < w.heap.size := by
              intro i F o hF ho hne hl
              exact (r.obj i F o (h4o hF hne) (get' ho hne)).lt hl
            refine ⟨m4, ⟨fun i hi => ?_, hle.fz, fun g hg => by rw [hm4]; exact hg⟩, ⟨r'.below, fun i F hF => ?_, fun i F o hF ho => ?_, fun i F o hF ho hw => ?_, fun i i' F F' o o' hne hF hF' ho ho' hw hl => ?_, fun g o v hv => ?_, fun i F o hF ho hw j => ?_, fun g hg => ?_, fun i F o hF ho hl => ?_⟩, ?_⟩
            · rw [hm4]
              simp only
              rw [if_neg (by omega)]
            · by_cases e : i = h.size
              · simp [e]
              · have := r.dom i F (h4o hF e)
                simp; omega
            · by_cases e : i = h.size
              · subst e
                rw [h4i] at hF
                cases hF
                obtain rfl := getN ho
                refine ⟨hEb, fun _ => ⟨ents, clock, q1, by omega, fun i k v e hi he => ?_, q4⟩⟩
                obtain ⟨k0, v0, s1, s2⟩ := er i k v hi
                obtain ⟨t1, t2⟩ := q3 i k0 v0 e s1 he
                exact s2 _ _ t1 t2
              · exact (r'.obj i F o (h4o hF e) (get' ho e)).mono hle fun _ => rfl
            · by_cases e : i = h.size
              · subst e
                rw [h4i] at hF
                cases hF
                exact Nat.le_trans r.size hown
              · exact r.own i F o (h4o hF e) (get' ho e) hw
            · by_cases e : i = h.size
              · subst e
                rw [h4i] at hF
                cases hF
                have := oldlt hF' ho' (fun e => hne e.symm) hl
                omega
              · by_cases e' : i' = h.size
                · subst e'
                  rw [h4i] at hF'
                  cases hF'
                  have := oldlt hF ho e (AObj.live_of_own hw)
                  omega
                · exact r.sep i i' F F' o o' hne (h4o hF e) (h4o hF' e') (get' ho e) (get' ho' e') hw hl
            · rcases Nat.lt_or_ge g w.heap.size with hg | hg
              · rw [h4old g o hg] at hv
                exact r'.fz g o v hv
              · rw [h4new g o hg] at hv
                split at hv
                · unfold cellOf at hv
                  split at hv
                  · rename_i cur e z hh
                    exact ⟨cur, e, z, hh, hv⟩
                  · cases hv
                · cases hv
            · by_cases e : i = h.size
              · subst e
                rw [h4i] at hF
                cases hF
                rw [h4new _ _ hown, if_neg (by simp)]
              · have := oldlt hF ho e (AObj.live_of_own hw)
                rw [h4old _ _ this]
                exact r.fown i F o (h4o hF e) (get' ho e) hw j
            · rw [hm4] at hg
              exact r'.df g hg
            · by_cases e : i = h.size
              · subst e
                rw [h4i] at hF
                cases hF
                intro hd
                rw [hm4] at hd
                have := r.df_lt hd
                omega
              · intro hd
                rw [hm4] at hd
                exact r.dfo i F o (h4o hF e) (get' ho e) hl hd
            · exact .map _ E h4i
        · cases hfr
      · cases hfr
  · cases hc
def flatE : List (AVal × AVal) → List AVal
  | [] => []
  | (k, v) :: es => k :: v :: flatE es
theorem flatE_inj : ∀ {a b : List (AVal × AVal)}, flatE a = flatE b → a = b
  | [], [], _ => rfl
  | [], (k, v) :: b, h => by cases h
  | (k, v) :: a, [], h => by cases h
  | (k, v) :: a, (k', v') :: b, h => by
    simp only [flatE, List.cons.injEq] at h
    obtain ⟨rfl, rfl, h⟩ := h
    rw [flatE_inj h]
section
variable {C : Cfg}
/-- a closed call that tells a map of known keys, reckoned fast -/
theorem closedKM {f : FuncId} {es : List (AVal × AVal)} {args : List FV} {N : Nat} (ha : args.map FV.toA = ptrsN N) (n : Nat) (hr : (bodyB C false f).f (selfF C n) ⟨N, []⟩ (tinyH N) args (fun x h => match frzM N h x.toA with | some es => some (.tuple (flatE es), ⟨0, .leaf⟩) | none => none) = some (.tuple (flatE es), ⟨0, .leaf⟩)) :
    ∃ v h', Bodies C ⟨N, []⟩ (tinyH N) f (ptrsN N) v h' ∧ frzM N h' v = some es := by
  obtain ⟨x, h', h1, h2⟩ := body_ok (selfF_ok n) hr
  split at h2
  · rename_i es' h3
    simp only [Option.some.injEq, Prod.mk.injEq, AVal.tuple.injEq, and_true] at h2
    rw [flatE_inj h2] at h3
    exact ⟨_, h', ⟨n, by rw [← ha]; exact h1⟩, h3⟩
  · cases h2
variable {km : KMs} {l : List (Nat × Nat × Nat × Nat)} {g : Gd} {h : AHeap} {f : Nat}
theorem runsTrue (hk : C.kind f = 3) (hx : C.ext = extL C.P km l) (hl : lookE l f = some (30, 0, 0)) : Runs C g h f [] (.bool true) h := runsX hk hx hl rfl
theorem runsKM {j n : Nat} {args : List AVal} {es : List (AVal × AVal)} (hk : C.kind f = 3) (hx : C.ext = extL C.P km l) (hl : lookE l f = some (32, j, n)) (hn : (Nat.beq args.length n && args.all isPtr) = true) (he : renE args (km.getD j []) = some es) : Runs C g h f args (.map (some h.size)) (h.push (.map 2 es)) := by
  refine runsX hk hx hl ?_
  show extKM (km.getD j []) n h args = _
  unfold extKM
  rw [hn, he]
  rfl
end
end Go.Av
