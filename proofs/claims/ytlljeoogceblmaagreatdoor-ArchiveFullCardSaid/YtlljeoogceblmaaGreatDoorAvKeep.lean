/-
 A part.
-/
import Derived.Test.YtlljeoogceblmaaGreatDoorAvApp
namespace Go.Av
open Go.RowKit
def BF (g : Gd) (h h' : AF) : Prop := h.size ≤ h'.size ∧ ∀ id, id < h.size → g.may id = false → h'.get id = h.get id
theorem BF.refl (g : Gd) (h : AF) : BF g h h := ⟨Nat.le_refl _, fun _ _ _ => rfl⟩
theorem BF.trans {g : Gd} {a b c : AF} (h : BF g a b) (k : BF g b c) : BF g a c :=
 ⟨Nat.le_trans h.1 k.1, fun id hi hm => (k.2 id (Nat.lt_of_lt_of_le hi h.1) hm).trans (h.2 id hi hm)⟩
theorem BF.weaken {g g' : Gd} (F : ∀ id, g.may id = false → g'.may id = false) {a b : AF} (h : BF g' a b) : BF g a b := ⟨h.1, fun id hi hm => h.2 id hi (F id hm)⟩
theorem BF.push (g : Gd) (h : AF) (o : CJ) : BF g h (h.push o) := ⟨by simp, fun id hi _ => h.B1 o hi⟩
theorem BF.set {g : Gd} {h : AF} {id : Nat} {o o' : CJ} (B : h.get id = some o') (hm : g.may id = true) : BF g h (h.set id o) := by
 refine ⟨by simp, fun i hi M => h.Bc o (h.BV B) ?_⟩
 rintro rfl
 rw [hm] at M
 cases M
section
variable {P : Program} {g : Gd} {h h' : AF}
theorem Hz {id o : Nat} {new : List AB} (C : Ci g h id o new = some h') : BF g h h' := by
 unfold Ci at C
 split at C
 ·rename_i F
  split at C
  ·rename_i I
   injection C with C
   subst C
   exact BF.set F I.1
  ·cases C
 ·cases C
theorem Nw {g : Gd} {h : AF} {v v' : AB} {h' : AF} (D : HT g h v = some (v', h')) : BF g h h' := by
 unfold HT at D
 split at D
 ·injection D with D; injection D with e1 e2; subst e2; exact BF.refl _ _
 ·rename_i id n
  by_cases R : n = 0
  ·subst R
   simp only [Nat.beq_refl, cond_true, Option.some.injEq, Prod.mk.injEq] at D
   obtain ⟨rfl, rfl⟩ := D
   exact BF.refl _ _
  ·have : Nat.beq n 0 = false := by cases n; exact absurd rfl R; rfl
   rw [this] at D
   simp only [cond_false] at D
   split at D
   ·rename_i gr cs F
    cases hm : g.may id with
    | false => rw [hm] at D; cases D
    | true =>
     rw [hm] at D
     simp only [cond_true, Option.some.injEq, Prod.mk.injEq] at D
     obtain ⟨rfl, rfl⟩ := D
     exact BF.set F hm
   ·simp only [Option.some.injEq, Prod.mk.injEq] at D
    obtain ⟨rfl, rfl⟩ := D
    exact BF.refl _ _
   ·cases D
 ·injection D with D; injection D with e1 e2; subst e2; exact BF.refl _ _
theorem S9 {fr : Fr} {op : Op} {v : AB} (B : Ji P g h fr op = some (v, h')) : BF g h h' := by
 have mapk0 : ∀ {h : AF} {t x k y}, HA P g h t x k y = some h' → BF g h h' := by
  intro h t x k y C
  unfold HA at C
  split at C
  ·split at C
   ·rename_i I
    split at C
    ·rename_i es F
     split at C
     ·split at C
      ·split at C
       ·injection C with C; subst C; exact BF.set F I.2
       ·cases C
      ·cases C
     ·injection C with C; subst C; exact BF.set F I.2
     ·cases C
    ·cases C
   ·cases C
  ·cases C
 have mapk : ∀ {t x k y}, E3 P g h t x k y = some h' → BF g h h' := by
  intro t x k y C
  unfold E3 at C
  cases L : HT g h y with
  | none => rw [L] at C; cases C
  | some q =>
   rw [L] at C
   exact (Nw L).trans (mapk0 C)
 cases op with
 | convert s d x =>
  simp only [Ji] at B
  unfold SG at B
  split at B
  ·rename_i e0 e id o n C hd hxx
   split at B
   ·rename_i gr cs he F
    cases I : (Nat.beq s d && (g.may id && !(Nat.beq n 0))) with
    | false => rw [I] at B; cases B
    | true =>
     rw [I] at B
     simp only [cond_true, Option.some.injEq, Prod.mk.injEq] at B
     obtain ⟨_, rfl⟩ := B
     simp only [Bool.and_eq_true] at I
     exact BF.set F I.2.1
   ·cases B
  ·cases B
 | store t x y =>
  simp only [Ji] at B
  split at B
  ·rename_i id o N
   cases C : KL P g h t id o (ev fr y) with
   | none => simp [C] at B
   | some h2 =>
    simp only [C, Option.map_some, Option.some.injEq, Prod.mk.injEq] at B
    obtain ⟨rfl, rfl⟩ := B
    unfold KL at C
    split at C
    ·split at C
     ·exact Hz C
     ·cases C
    ·cases C
  ·cases B
 | mapUpdate t x k y =>
  simp only [Ji] at B
  cases C : E3 P g h t (ev fr x) (ev fr k) (ev fr y) with
  | none => simp [C] at B
  | some h2 =>
   simp only [C, Option.map_some, Option.some.injEq, Prod.mk.injEq] at B
   obtain ⟨rfl, rfl⟩ := B
   exact mapk C
 | insert t x k y =>
  simp only [Ji] at B
  cases C : E3 P g h t (ev fr x) (ev fr k) (ev fr y) with
  | none => simp [C] at B
  | some h2 =>
   simp only [C, Option.map_some, Option.some.injEq, Prod.mk.injEq] at B
   obtain ⟨rfl, rfl⟩ := B
   exact mapk C
 | next it s =>
  cases s with
  | false => simp [Ji] at B
  | true =>
   simp only [Ji] at B
   split at B
   ·rename_i id N
    split at B
    ·rename_i s pos F
     split at B
     ·rename_i hm
      split at B
      ·injection B with B; injection B with e1 e2; subst e2; exact BF.set F hm
      ·injection B with B; injection B with e1 e2; subst e2; exact BF.refl _ _
     ·cases B
    ·cases B
   ·cases B
 | call c =>
  obtain ⟨callee, as, ts⟩ := c
  cases callee with
  | value f => simp [Ji] at B
  | invoke r mth => simp [Ji] at B
  | builtin b =>
   simp only [Ji] at B
   split at B
   ·unfold LX at B
    split at B
    ·split at B
     ·split at B
      ·split at B
       ·unfold appendCore at B
        split at B
        ·injection B with B; injection B with e1 e2; subst e2; exact BF.refl _ _
        ·split at B
         ·split at B
          ·split at B
           ·split at B
            ·injection B with B; injection B with e1 e2; subst e2; exact BF.push _ _ _
            ·split at B
             ·rename_i F
              split at B
              ·rename_i I
               injection B with B; injection B with e1 e2; subst e2
               exact (BF.set F I.1).trans (BF.push _ _ _)
              ·cases B
             ·cases B
           ·cases B
          ·cases B
         ·cases B
       ·cases B
      ·cases B
     ·cases B
    ·cases B
   ·unfold Qc at B
    split at B
    ·split at B
     ·split at B
      ·split at B
       ·split at B
        ·injection B with B; injection B with e1 e2; subst e2; exact BF.refl _ _
        ·simp only [Option.map_eq_some_iff, Prod.mk.injEq] at B
         obtain ⟨h2, hsc, _, rfl⟩ := B
         exact Hz hsc
       ·split at B
        ·injection B with B; injection B with e1 e2; subst e2; exact BF.refl _ _
        ·cases B
       ·cases B
      ·cases B
     ·cases B
    ·cases B
   ·rename_i s x heq
    cases C : KS P g h ts s x with
    | none => simp [C] at B
    | some h2 =>
     simp only [C, Option.map_some, Option.some.injEq, Prod.mk.injEq] at B
     obtain ⟨rfl, rfl⟩ := B
     unfold KS at C
     split at C
     ·cases C
     ·split at C
      ·split at C
       ·rename_i I
        split at C
        ·rename_i F
         split at C
         ·injection C with C; subst C; exact BF.set F I.2
         ·injection C with C; subst C; exact BF.refl _ _
         ·cases C
        ·cases C
       ·cases C
      ·cases C
   ·cases B
 | _ => simp [Ji] at B
theorem St {G : Nat → Option (List AB)} {fr : Fr} {op : Op} {v : AB} (B : Gp P G g h fr op = some (v, h')) : BF g h h' := by
 unfold Gp at B
 split at B
 ·cases J : IP P fr op with
  | none => simp [J] at B
  | some x => simp only [J, Option.map_some, Option.some.injEq, Prod.mk.injEq] at B; obtain ⟨_, rfl⟩ := B; exact BF.refl _ _
 ·split at B
  ·simp only [Option.map_eq_some_iff, Prod.mk.injEq] at B; obtain ⟨_, _, _, rfl⟩ := B; exact BF.refl _ _
  ·split at B
   ·simp only [Option.map_eq_some_iff, Prod.mk.injEq] at B; obtain ⟨_, _, _, rfl⟩ := B; exact BF.refl _ _
   ·cases B
 ·cases J : OG P fr op with
  | none => simp [J] at B
  | some x => simp only [J, Option.map_some, Option.some.injEq, Prod.mk.injEq] at B; obtain ⟨_, rfl⟩ := B; exact BF.push _ _ _
 ·exact S9 B
end
section
variable {P : Program} {w0 : World} {m : BK} {h : AF} {w : World}
theorem S3 {G : Nat → Option (List AB)} (L : Bt G w0) (r : Rel P w0 m h w) {g : Gd} {fr : Fr} {a : Act} (D : FR m fr a) {o : Oper} {v : AB} {h' : AF} (B : Gp P G g h fr o.op = some (v, h')) :
    ∃ m' n v' w', (execOp a.eval o).run P w = .ok n w' ∧ Ue n v' ∧ (m.ext h.size m') ∧ Rel P w0 m' h' w' ∧ VR m' v v' := by
  unfold Gp at B
  split at B
  · cases J : IP P fr o.op with
    | none => simp [J] at B
    | some x =>
      simp only [J, Option.map_some, Option.some.injEq, Prod.mk.injEq] at B
      obtain ⟨rfl, rfl⟩ := B
      obtain ⟨v', h1, h2⟩ := O2 (P := P) w D J
      exact ⟨m, _, v', w, h1, .inl rfl, BK.ext.refl _ _, r, h2⟩
  · have key : ∀ ob, (Cq fr o.op).bind h.get = ob → (Ih P G fr ob o.op).map (·, h) = some (v, h') →
        ∃ m' n v' w', (execOp a.eval o).run P w = .ok n w' ∧ Ue n v' ∧ (m.ext h.size m') ∧ Rel P w0 m' h' w' ∧ VR m' v v' := by
      intro ob hob hm
      simp only [Option.map_eq_some_iff, Prod.mk.injEq] at hm
      obtain ⟨x, J, rfl, rfl⟩ := hm
      rw [← hob] at J
      obtain ⟨v', h1, h2⟩ := Od L r D J
      exact ⟨m, _, v', w, h1, .inl rfl, BK.ext.refl _ _, r, h2⟩
    split at B
    · rename_i O; exact key none (by rw [O]; rfl) B
    · rename_i id O
      split at B
      · rename_i ob F; exact key (some ob) (by rw [O]; exact F) B
      · cases B
  · cases J : OG P fr o.op with
    | none => simp [J] at B
    | some x =>
      simp only [J, Option.map_some, Option.some.injEq, Prod.mk.injEq] at B
      obtain ⟨rfl, rfl⟩ := B
      obtain ⟨v', w', E, h1, t1, t2, _, t4⟩ := Oj (P := P) w D J
      have hle := BK.LP (m := m) E (r.fresh (Nat.le_refl h.size))
      obtain ⟨q1, q2⟩ := t4 (m.upd h.size E) hle h.size (BK.EU m _ E)
      exact ⟨m.upd h.size E, _, v', w', h1, .inl rfl, BK.JE m _ (by omega), r.new t1 t2 q2, q1⟩
  · exact TA r D B
theorem Rel.Kz (r : Rel P w0 m h w) {m' : BK} (hm : m.ext h.size m') : m.le m' := ⟨fun id E H => by rw [hm.i id (r.Mr id E H)]; exact H, hm.fz⟩
theorem JJ.back {m m' : BK} {w w' : World} {E : Km} {o : CJ} (hm : m.le m') (h0 : JJ P m w E o) (h1 : JJ P m' w' E o) : JJ P (m.with m') w' E o := by
 cases o with
 | cells gr st cs =>
  refine ⟨⟨⟨h1.1.1.1, fun L => VB.mono (m := m) (m' := m.with m') ⟨fun _ _ h => h, hm.fz⟩ (h0.1.1.2 L)⟩, h1.1.2⟩, fun K => ?_⟩
  obtain ⟨_, _, _, _, _, a3, _⟩ := h0.2 K
  obtain ⟨cur, e, fz, b1, b2, b3, b4⟩ := h1.2 K
  refine ⟨cur, e, fz, b1, b2, fun j a S => ?_, b4⟩
  obtain ⟨_, c0, _, v0⟩ := a3 j a S
  obtain ⟨o1, c, hc, v1⟩ := b3 j a S
  exact ⟨o1, c, hc, v0.back hm v1⟩
 | map st es =>
  refine ⟨h1.1, fun K => ?_⟩
  obtain ⟨es0, a0, en0, c0, a1, a2, a3, _⟩ := h0.2 K
  obtain ⟨es', b0, en, clock, b1, b2, b3, b4⟩ := h1.2 K
  refine ⟨es', b0, en, clock, b1, b2, fun i k v e hi he => ?_, b4⟩
  have hm0 : (k, v) ∈ es0 := a0.mem.2 (b0.mem.1 (List.mem_of_getElem? hi))
  obtain ⟨j, hj, hjv⟩ := List.mem_iff_getElem.1 hm0
  obtain ⟨k0, v0⟩ := a3 j k v _ ((List.getElem?_eq_getElem hj).trans (congrArg some hjv)) (Array.getElem?_eq_getElem (by omega))
  obtain ⟨k1, v1⟩ := b3 i k v e hi he
  exact ⟨k0.back hm k1, v0.back hm v1⟩
 | iter s pos => exact h1
 | loop st pend f fr ps a b =>
  obtain ⟨t0, d0, _, _, a2, a3⟩ := h0
  obtain ⟨t1, d1, f1, b1, b2, b3⟩ := h1
  exact ⟨t1, d1, f1, b1, b2, fun i => (a3 i).back hm (b3 i)⟩
 | chan cap buf =>
  obtain ⟨_, _, _, _, a2⟩ := h0
  obtain ⟨bs, sn, rc, b1, b2⟩ := h1
  exact ⟨bs, sn, rc, b1, b2.1, fun i x y N hy => by
   obtain ⟨y0, _, k0⟩ := a2.at_ N
   exact k0.back hm (b2.2 i x y N hy)⟩
theorem Rel.back (r : Rel P w0 m h w) {m' : BK} {h' : AF} {w' : World} (hm : m.ext h.size m') (hh : ∀ id, id < h.size → h'.get id = h.get id) (r' : Rel P w0 m' h' w') : Rel P w0 (m.with m') h w' := by
 have hle := r.Kz hm
 have up : ∀ {id E}, m id = some E → m' id = some E := fun h => hle.i _ _ h
 have get : ∀ {id E o}, m id = some E → h.get id = some o → h'.get id = some o := fun H B => by rw [hh _ (r.Mr _ _ H)]; exact B
 exact ⟨r'.below, r.Mr, fun id E o H B => (r.obj id E o H B).back hle (r'.obj id E o (up H) (get H B)),
  fun id E o H B => r'.own id E o (up H) (get H B), fun id id' E E' o o' hne h1 h2 g1 g2 => r'.sep id id' E E' o o' hne (up h1) (up h2) (get h1 g1) (get h2 g2), r'.fz, fun id E o H B => r'.Ht id E o (up H) (get H B), r'.df, fun id E o H B => r'.NA id E o (up H) (get H B)⟩
theorem BK.Ut {m m' : BK} {n : Nat} (h : m.ext n m') (k : Nat) : m.ext k (m.with m') := ⟨fun _ _ => rfl, h.fz, h.df⟩
theorem Rel.later (r : Rel P w0 m h w) {w' : World} (I : Below w.heap.size w w') : Rel P w0 m h w' :=
 ⟨r.below.trans (I.mono r.size), r.Mr, fun id E o H B => (r.obj id E o H B).mono (BK.le_refl m) fun hl => I.block _ ((r.obj id E o H B).lt hl), r.own, r.sep, fun g o v Q => by
  obtain ⟨cur, e, z, h1, h2⟩ := r.fz g o v Q
  exact ⟨cur, e, z, by rw [I.block g (r.QK Q)]; exact h1, h2⟩, r.Ht, fun g x F => ⟨(r.df g x F).1, by rw [I.block g (r.Mn F)]; exact (r.df g x F).2⟩, r.NA⟩
end
end Go.Av
