/-
 A part.
-/
import Derived.Test.YtdbkpibbjnhmgaaDoorAvApp
namespace Go.Av
open Go.RowKit
def AN (g : Gd) (h h' : AB) : Prop := h.size ≤ h'.size ∧ ∀ id, id < h.size → g.may id = false → h'.get id = h.get id
theorem AN.refl (g : Gd) (h : AB) : AN g h h := ⟨Nat.le_refl _, fun _ _ _ => rfl⟩
theorem AN.trans {g : Gd} {a b c : AB} (h : AN g a b) (k : AN g b c) : AN g a c :=
 ⟨Nat.le_trans h.1 k.1, fun id hi hm => (k.2 id (Nat.lt_of_lt_of_le hi h.1) hm).trans (h.2 id hi hm)⟩
theorem AN.weaken {g g' : Gd} (hg : ∀ id, g.may id = false → g'.may id = false) {a b : AB} (h : AN g' a b) : AN g a b := ⟨h.1, fun id hi hm => h.2 id hi (hg id hm)⟩
theorem AN.push (g : Gd) (h : AB) (o : A9) : AN g h (h.push o) := ⟨by simp, fun id hi _ => h.CF o hi⟩
theorem AN.set {g : Gd} {h : AB} {id : Nat} {o o' : A9} (ho : h.get id = some o') (hm : g.may id = true) : AN g h (h.set id o) := by
 refine ⟨by simp, fun i hi hi' => h.Ar o (h.An ho) ?_⟩
 rintro rfl
 rw [hm] at hi'
 cases hi'
section
variable {P : Program} {g : Gd} {h h' : AB}
theorem F4 {id o : Nat} {new : List AA} (hs : Bq g h id o new = some h') : AN g h h' := by
 unfold Bq at hs
 split at hs
 ·rename_i hg
  split at hs
  ·rename_i hb
   injection hs with hs
   subst hs
   exact AN.set hg hb.1
  ·cases hs
 ·cases hs
theorem Lv {g : Gd} {h : AB} {v v' : AA} {h' : AB} (hf : Fm g h v = some (v', h')) : AN g h h' := by
 unfold Fm at hf
 split at hf
 ·injection hf with hf; injection hf with e1 e2; subst e2; exact AN.refl _ _
 ·rename_i id n
  by_cases hn : n = 0
  ·subst hn
   simp only [Nat.beq_refl, cond_true, Option.some.injEq, Prod.mk.injEq] at hf
   obtain ⟨rfl, rfl⟩ := hf
   exact AN.refl _ _
  ·have : Nat.beq n 0 = false := by cases n; exact absurd rfl hn; rfl
   rw [this] at hf
   simp only [cond_false] at hf
   split at hf
   ·rename_i gr cs hg
    cases hm : g.may id with
    | false => rw [hm] at hf; cases hf
    | true =>
     rw [hm] at hf
     simp only [cond_true, Option.some.injEq, Prod.mk.injEq] at hf
     obtain ⟨rfl, rfl⟩ := hf
     exact AN.set hg hm
   ·simp only [Option.some.injEq, Prod.mk.injEq] at hf
    obtain ⟨rfl, rfl⟩ := hf
    exact AN.refl _ _
   ·cases hf
 ·injection hf with hf; injection hf with e1 e2; subst e2; exact AN.refl _ _
theorem RR {fr : Fr} {op : Op} {v : AA} (ho : Gk P g h fr op = some (v, h')) : AN g h h' := by
 have mapk0 : ∀ {h : AB} {t x k y}, Gm P g h t x k y = some h' → AN g h h' := by
  intro h t x k y hs
  unfold Gm at hs
  split at hs
  ·split at hs
   ·rename_i hb
    split at hs
    ·rename_i es hg
     split at hs
     ·split at hs
      ·split at hs
       ·injection hs with hs; subst hs; exact AN.set hg hb.2
       ·cases hs
      ·cases hs
     ·injection hs with hs; subst hs; exact AN.set hg hb.2
     ·cases hs
    ·cases hs
   ·cases hs
  ·cases hs
 have mapk : ∀ {t x k y}, EY P g h t x k y = some h' → AN g h h' := by
  intro t x k y hs
  unfold EY at hs
  cases hz : Fm g h y with
  | none => rw [hz] at hs; cases hs
  | some q =>
   rw [hz] at hs
   exact (Lv hz).trans (mapk0 hs)
 cases op with
 | convert s d x =>
  simp only [Gk] at ho
  unfold QX at ho
  split at ho
  ·rename_i e0 e id o n hs hd hxx
   split at ho
   ·rename_i gr cs he hg
    cases hb : (Nat.beq s d && (g.may id && !(Nat.beq n 0))) with
    | false => rw [hb] at ho; cases ho
    | true =>
     rw [hb] at ho
     simp only [cond_true, Option.some.injEq, Prod.mk.injEq] at ho
     obtain ⟨_, rfl⟩ := ho
     simp only [Bool.and_eq_true] at hb
     exact AN.set hg hb.2.1
   ·cases ho
  ·cases ho
 | store t x y =>
  simp only [Gk] at ho
  split at ho
  ·rename_i id o hx
   cases hs : IT P g h t id o (ev fr y) with
   | none => simp [hs] at ho
   | some h2 =>
    simp only [hs, Option.map_some, Option.some.injEq, Prod.mk.injEq] at ho
    obtain ⟨rfl, rfl⟩ := ho
    unfold IT at hs
    split at hs
    ·split at hs
     ·exact F4 hs
     ·cases hs
    ·cases hs
  ·cases ho
 | mapUpdate t x k y =>
  simp only [Gk] at ho
  cases hs : EY P g h t (ev fr x) (ev fr k) (ev fr y) with
  | none => simp [hs] at ho
  | some h2 =>
   simp only [hs, Option.map_some, Option.some.injEq, Prod.mk.injEq] at ho
   obtain ⟨rfl, rfl⟩ := ho
   exact mapk hs
 | insert t x k y =>
  simp only [Gk] at ho
  cases hs : EY P g h t (ev fr x) (ev fr k) (ev fr y) with
  | none => simp [hs] at ho
  | some h2 =>
   simp only [hs, Option.map_some, Option.some.injEq, Prod.mk.injEq] at ho
   obtain ⟨rfl, rfl⟩ := ho
   exact mapk hs
 | next it s =>
  cases s with
  | false => simp [Gk] at ho
  | true =>
   simp only [Gk] at ho
   split at ho
   ·rename_i id hx
    split at ho
    ·rename_i s pos hg
     split at ho
     ·rename_i hm
      split at ho
      ·injection ho with ho; injection ho with e1 e2; subst e2; exact AN.set hg hm
      ·injection ho with ho; injection ho with e1 e2; subst e2; exact AN.refl _ _
     ·cases ho
    ·cases ho
   ·cases ho
 | call c =>
  obtain ⟨callee, as, ts⟩ := c
  cases callee with
  | value f => simp [Gk] at ho
  | invoke r mth => simp [Gk] at ho
  | builtin b =>
   simp only [Gk] at ho
   split at ho
   ·unfold JX at ho
    split at ho
    ·split at ho
     ·split at ho
      ·split at ho
       ·unfold appendCore at ho
        split at ho
        ·injection ho with ho; injection ho with e1 e2; subst e2; exact AN.refl _ _
        ·split at ho
         ·split at ho
          ·split at ho
           ·split at ho
            ·injection ho with ho; injection ho with e1 e2; subst e2; exact AN.push _ _ _
            ·split at ho
             ·rename_i hg
              split at ho
              ·rename_i hb
               injection ho with ho; injection ho with e1 e2; subst e2
               exact (AN.set hg hb.1).trans (AN.push _ _ _)
              ·cases ho
             ·cases ho
           ·cases ho
          ·cases ho
         ·cases ho
       ·cases ho
      ·cases ho
     ·cases ho
    ·cases ho
   ·unfold Qm at ho
    split at ho
    ·split at ho
     ·split at ho
      ·split at ho
       ·split at ho
        ·injection ho with ho; injection ho with e1 e2; subst e2; exact AN.refl _ _
        ·simp only [Option.map_eq_some_iff, Prod.mk.injEq] at ho
         obtain ⟨h2, hsc, _, rfl⟩ := ho
         exact F4 hsc
       ·split at ho
        ·injection ho with ho; injection ho with e1 e2; subst e2; exact AN.refl _ _
        ·cases ho
       ·cases ho
      ·cases ho
     ·cases ho
    ·cases ho
   ·rename_i s x heq
    cases hs : IV P g h ts s x with
    | none => simp [hs] at ho
    | some h2 =>
     simp only [hs, Option.map_some, Option.some.injEq, Prod.mk.injEq] at ho
     obtain ⟨rfl, rfl⟩ := ho
     unfold IV at hs
     split at hs
     ·cases hs
     ·split at hs
      ·split at hs
       ·rename_i hb
        split at hs
        ·rename_i hg
         split at hs
         ·injection hs with hs; subst hs; exact AN.set hg hb.2
         ·injection hs with hs; subst hs; exact AN.refl _ _
         ·cases hs
        ·cases hs
       ·cases hs
      ·cases hs
   ·simp only [Option.map_eq_some_iff, Prod.mk.injEq] at ho
    obtain ⟨h2, hc, _, rfl⟩ := ho
    unfold IQ at hc
    split at hc
    ·split at hc
     ·split at hc
      ·injection hc with hc; subst hc; exact AN.refl _ _
      ·split at hc
       ·unfold Bq at hc
        split at hc
        ·rename_i hg
         split at hc
         ·rename_i hb
          injection hc with hc
          subst hc
          exact AN.set hg hb.1
         ·cases hc
        ·cases hc
       ·cases hc
     ·cases hc
    ·cases hc
   ·cases ho
 | binOp op t x y yt =>
  simp only [Gk] at ho
  split at ho
  ·simp only [Option.map_eq_some_iff, Prod.mk.injEq] at ho; obtain ⟨_, _, _, rfl⟩ := ho; exact AN.refl _ _
  ·simp only [Option.map_eq_some_iff, Prod.mk.injEq] at ho; obtain ⟨_, _, _, rfl⟩ := ho; exact AN.refl _ _
  ·cases ho
 | _ => simp [Gk] at ho
theorem RZ {G : Nat → Option (List AA)} {fr : Fr} {op : Op} {v : AA} (ho : GA P G g h fr op = some (v, h')) : AN g h h' := by
 unfold GA at ho
 split at ho
 ·cases hp : GR P fr op with
  | none => simp [hp] at ho
  | some x => simp only [hp, Option.map_some, Option.some.injEq, Prod.mk.injEq] at ho; obtain ⟨_, rfl⟩ := ho; exact AN.refl _ _
 ·split at ho
  ·simp only [Option.map_eq_some_iff, Prod.mk.injEq] at ho; obtain ⟨_, _, _, rfl⟩ := ho; exact AN.refl _ _
  ·split at ho
   ·simp only [Option.map_eq_some_iff, Prod.mk.injEq] at ho; obtain ⟨_, _, _, rfl⟩ := ho; exact AN.refl _ _
   ·cases ho
 ·cases hp : Mq P fr op with
  | none => simp [hp] at ho
  | some x => simp only [hp, Option.map_some, Option.some.injEq, Prod.mk.injEq] at ho; obtain ⟨_, rfl⟩ := ho; exact AN.push _ _ _
 ·exact RR ho
end
section
variable {P : Program} {w0 : World} {m : AU} {h : AB} {w : World}
theorem RU {G : Nat → Option (List AA)} (hz : BO G w0) (r : Rel P w0 m h w) {g : Gd} {fr : Fr} {a : Act} (hf : FR m fr a) {o : Oper} {v : AA} {h' : AB} (ho : GA P G g h fr o.op = some (v, h')) :
    ∃ m' n v' w', (execOp a.eval o).run P w = .ok n w' ∧ Qs n v' ∧ (m.ext h.size m') ∧ Rel P w0 m' h' w' ∧ VR m' v v' := by
  unfold GA at ho
  split at ho
  · cases hp : GR P fr o.op with
    | none => simp [hp] at ho
    | some x =>
      simp only [hp, Option.map_some, Option.some.injEq, Prod.mk.injEq] at ho
      obtain ⟨rfl, rfl⟩ := ho
      obtain ⟨v', h1, h2⟩ := J3 (P := P) w hf hp
      exact ⟨m, _, v', w, h1, .inl rfl, AU.ext.refl _ _, r, h2⟩
  · have key : ∀ ob, (CJ fr o.op).bind h.get = ob → (HB P G fr ob o.op).map (·, h) = some (v, h') →
        ∃ m' n v' w', (execOp a.eval o).run P w = .ok n w' ∧ Qs n v' ∧ (m.ext h.size m') ∧ Rel P w0 m' h' w' ∧ VR m' v v' := by
      intro ob hob hm
      simp only [Option.map_eq_some_iff, Prod.mk.injEq] at hm
      obtain ⟨x, hp, rfl, rfl⟩ := hm
      rw [← hob] at hp
      obtain ⟨v', h1, h2⟩ := KN hz r hf hp
      exact ⟨m, _, v', w, h1, .inl rfl, AU.ext.refl _ _, r, h2⟩
    split at ho
    · rename_i ht; exact key none (by rw [ht]; rfl) ho
    · rename_i id ht
      split at ho
      · rename_i ob hg; exact key (some ob) (by rw [ht]; exact hg) ho
      · cases ho
  · cases hp : Mq P fr o.op with
    | none => simp [hp] at ho
    | some x =>
      simp only [hp, Option.map_some, Option.some.injEq, Prod.mk.injEq] at ho
      obtain ⟨rfl, rfl⟩ := ho
      obtain ⟨v', w', E, h1, t1, t2, _, t4⟩ := MY (P := P) w hf hp
      have hle := AU.GN (m := m) E (r.fresh (Nat.le_refl h.size))
      obtain ⟨q1, q2⟩ := t4 (m.upd h.size E) hle h.size (AU.Ci m _ E)
      exact ⟨m.upd h.size E, _, v', w', h1, .inl rfl, AU.G8 m _ (by omega), r.new t1 t2 q2, q1⟩
  · exact RP r hf ho
theorem Rel.Jh (r : Rel P w0 m h w) {m' : AU} (hm : m.ext h.size m') : m.le m' := ⟨fun id E hE => by rw [hm.i id (r.Ku id E hE)]; exact hE, hm.fz⟩
theorem G9.back {m m' : AU} {w w' : World} {E : HQ} {o : A9} (hm : m.le m') (h0 : G9 P m w E o) (h1 : G9 P m' w' E o) : G9 P (m.with m') w' E o := by
 cases o with
 | cells gr st cs =>
  refine ⟨⟨⟨h1.1.1.1, fun hz => Tf.mono (m := m) (m' := m.with m') ⟨fun _ _ h => h, hm.fz⟩ (h0.1.1.2 hz)⟩, h1.1.2⟩, fun hst => ?_⟩
  obtain ⟨_, _, _, _, _, a3, _⟩ := h0.2 hst
  obtain ⟨cur, e, fz, b1, b2, b3, b4⟩ := h1.2 hst
  refine ⟨cur, e, fz, b1, b2, fun j a ha => ?_, b4⟩
  obtain ⟨_, c0, _, v0⟩ := a3 j a ha
  obtain ⟨o1, c, hc, v1⟩ := b3 j a ha
  exact ⟨o1, c, hc, v0.back hm v1⟩
 | map st es =>
  refine ⟨h1.1, fun hst => ?_⟩
  obtain ⟨es0, a0, en0, c0, a1, a2, a3, _⟩ := h0.2 hst
  obtain ⟨es', b0, en, clock, b1, b2, b3, b4⟩ := h1.2 hst
  refine ⟨es', b0, en, clock, b1, b2, fun i k v e hi he => ?_, b4⟩
  have hm0 : (k, v) ∈ es0 := a0.mem.2 (b0.mem.1 (List.mem_of_getElem? hi))
  obtain ⟨j, hj, hjv⟩ := List.mem_iff_getElem.1 hm0
  obtain ⟨k0, v0⟩ := a3 j k v _ ((List.getElem?_eq_getElem hj).trans (congrArg some hjv)) (Array.getElem?_eq_getElem (by omega))
  obtain ⟨k1, v1⟩ := b3 i k v e hi he
  exact ⟨k0.back hm k1, v0.back hm v1⟩
 | iter s pos => exact h1
 | loop st pend f fr ps a b =>
  obtain ⟨t0, d0, _, _, a2, a3⟩ := h0
  obtain ⟨t1, d1, f1, b1, b2, b3⟩ := h1
  exact ⟨t1, d1, f1, b1, b2, fun i => (a3 i).back hm (b3 i)⟩
 | chan cap buf =>
  obtain ⟨_, _, _, _, a2⟩ := h0
  obtain ⟨bs, sn, rc, b1, b2⟩ := h1
  exact ⟨bs, sn, rc, b1, b2.1, fun i x y hx hy => by
   obtain ⟨y0, _, k0⟩ := a2.at_ hx
   exact k0.back hm (b2.2 i x y hx hy)⟩
theorem Rel.back (r : Rel P w0 m h w) {m' : AU} {h' : AB} {w' : World} (hm : m.ext h.size m') (hh : ∀ id, id < h.size → h'.get id = h.get id) (r' : Rel P w0 m' h' w') : Rel P w0 (m.with m') h w' := by
 have hle := r.Jh hm
 have up : ∀ {id E}, m id = some E → m' id = some E := fun h => hle.i _ _ h
 have get : ∀ {id E o}, m id = some E → h.get id = some o → h'.get id = some o := fun hE ho => by rw [hh _ (r.Ku _ _ hE)]; exact ho
 exact ⟨r'.below, r.Ku, fun id E o hE ho => (r.obj id E o hE ho).back hle (r'.obj id E o (up hE) (get hE ho)),
  fun id E o hE ho => r'.own id E o (up hE) (get hE ho), fun id id' E E' o o' hne h1 h2 g1 g2 => r'.sep id id' E E' o o' hne (up h1) (up h2) (get h1 g1) (get h2 g2), r'.fz, fun id E o hE ho => r'.GX id E o (up hE) (get hE ho), r'.df, fun id E o hE ho => r'.ME id E o (up hE) (get hE ho)⟩
theorem AU.TJ {m m' : AU} {n : Nat} (h : m.ext n m') (k : Nat) : m.ext k (m.with m') := ⟨fun _ _ => rfl, h.fz, h.df⟩
theorem Rel.later (r : Rel P w0 m h w) {w' : World} (hb : Below w.heap.size w w') : Rel P w0 m h w' :=
 ⟨r.below.trans (hb.mono r.size), r.Ku, fun id E o hE ho => (r.obj id E o hE ho).mono (AU.le_refl m) fun hl => hb.block _ ((r.obj id E o hE ho).lt hl), r.own, r.sep, fun g o v hv => by
  obtain ⟨cur, e, z, h1, h2⟩ := r.fz g o v hv
  exact ⟨cur, e, z, by rw [hb.block g (r.Ml hv)]; exact h1, h2⟩, r.GX, fun g x hg => ⟨(r.df g x hg).1, by rw [hb.block g (r.IU hg)]; exact (r.df g x hg).2⟩, r.ME⟩
end
end Go.Av
