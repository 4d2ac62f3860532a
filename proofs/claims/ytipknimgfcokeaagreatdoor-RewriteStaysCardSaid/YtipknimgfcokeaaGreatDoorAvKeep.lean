/-
  ABS, 10: what an operation may not write stays as it is; an operation, in a world that stands to the abstract heap.
-/
import Derived.Test.YtipknimgfcokeaaGreatDoorAvApp
namespace Go.Av
open Go.RowKit
def Bb (g : Gd) (h h' : AH) : Prop := h.size ≤ h'.size ∧ ∀ id, id < h.size → g.may id = false → h'.get id = h.get id
theorem Bb.refl (g : Gd) (h : AH) : Bb g h h := ⟨Nat.le_refl _, fun _ _ _ => rfl⟩
theorem Bb.trans {g : Gd} {a b c : AH} (h : Bb g a b) (k : Bb g b c) : Bb g a c :=
 ⟨Nat.le_trans h.1 k.1, fun id hi hm => (k.2 id (Nat.lt_of_lt_of_le hi h.1) hm).trans (h.2 id hi hm)⟩
theorem Bb.weaken {g g' : Gd} (hg : ∀ id, g.may id = false → g'.may id = false) {a b : AH} (h : Bb g' a b) : Bb g a b := ⟨h.1, fun id hi hm => h.2 id hi (hg id hm)⟩
theorem Bb.push (g : Gd) (h : AH) (o : CR) : Bb g h (h.push o) := ⟨by simp, fun id hi _ => h.De o hi⟩
theorem Bb.set {g : Gd} {h : AH} {id : Nat} {o o' : CR} (ho : h.get id = some o') (hm : g.may id = true) : Bb g h (h.set id o) := by
 refine ⟨by simp, fun i hi hi' => h.Ed o (h.DG ho) ?_⟩
 rintro rfl
 rw [hm] at hi'
 cases hi'
section
variable {P : Program} {g : Gd} {h h' : AH}
theorem Im {id o : Nat} {new : List AB} (hs : Dn g h id o new = some h') : Bb g h h' := by
 unfold Dn at hs
 split at hs
 ·rename_i hg
  split at hs
  ·rename_i hb
   injection hs with hs
   subst hs
   exact Bb.set hg hb.1
  ·cases hs
 ·cases hs
theorem Se {fr : Fr} {op : Op} {v : AB} (ho : KH P g h fr op = some (v, h')) : Bb g h h' := by
 have mapk : ∀ {t x k y}, Gk P g h t x k y = some h' → Bb g h h' := by
  intro t x k y hs
  unfold Gk at hs
  split at hs
  ·split at hs
   ·rename_i hb
    split at hs
    ·rename_i es hg
     split at hs
     ·split at hs
      ·split at hs
       ·injection hs with hs; subst hs; exact Bb.set hg hb.2
       ·cases hs
      ·cases hs
     ·injection hs with hs; subst hs; exact Bb.set hg hb.2
     ·cases hs
    ·cases hs
   ·cases hs
  ·cases hs
 cases op with
 | convert s d x =>
  simp only [KH] at ho
  unfold Ry at ho
  split at ho
  ·rename_i e0 e id o n hs hd hxx
   split at ho
   ·rename_i gr cs he hg
    cases hb : (Nat.beq s d && (g.may id && !(Nat.beq n 0))) with
    | false => rw [hb] at ho; cases ho
    | true =>
     rw [hb] at ho
     simp only [cond_true, Option.some.injEq, Prod.mk.injEq] at ho
     obtain ⟨_, rfl⟩ := ho
     simp only [Bool.and_eq_true] at hb
     exact Bb.set hg hb.2.1
   ·cases ho
  ·cases ho
 | store t x y =>
  simp only [KH] at ho
  split at ho
  ·rename_i id o hx
   cases hs : Ki P g h t id o (ev fr y) with
   | none => simp [hs] at ho
   | some h2 =>
    simp only [hs, Option.map_some, Option.some.injEq, Prod.mk.injEq] at ho
    obtain ⟨rfl, rfl⟩ := ho
    unfold Ki at hs
    split at hs
    ·split at hs
     ·exact Im hs
     ·cases hs
    ·cases hs
  ·cases ho
 | mapUpdate t x k y =>
  simp only [KH] at ho
  cases hs : Gk P g h t (ev fr x) (ev fr k) (ev fr y) with
  | none => simp [hs] at ho
  | some h2 =>
   simp only [hs, Option.map_some, Option.some.injEq, Prod.mk.injEq] at ho
   obtain ⟨rfl, rfl⟩ := ho
   exact mapk hs
 | insert t x k y =>
  simp only [KH] at ho
  cases hs : Gk P g h t (ev fr x) (ev fr k) (ev fr y) with
  | none => simp [hs] at ho
  | some h2 =>
   simp only [hs, Option.map_some, Option.some.injEq, Prod.mk.injEq] at ho
   obtain ⟨rfl, rfl⟩ := ho
   exact mapk hs
 | next it s =>
  cases s with
  | false => simp [KH] at ho
  | true =>
   simp only [KH] at ho
   split at ho
   ·rename_i id hx
    split at ho
    ·rename_i s pos hg
     split at ho
     ·rename_i hm
      split at ho
      ·injection ho with ho; injection ho with e1 e2; subst e2; exact Bb.set hg hm
      ·injection ho with ho; injection ho with e1 e2; subst e2; exact Bb.refl _ _
     ·cases ho
    ·cases ho
   ·cases ho
 | call c =>
  obtain ⟨callee, as, ts⟩ := c
  cases callee with
  | value f => simp [KH] at ho
  | invoke r mth => simp [KH] at ho
  | builtin b =>
   simp only [KH] at ho
   split at ho
   ·unfold L6 at ho
    split at ho
    ·split at ho
     ·split at ho
      ·split at ho
       ·unfold appendCore at ho
        split at ho
        ·injection ho with ho; injection ho with e1 e2; subst e2; exact Bb.refl _ _
        ·split at ho
         ·split at ho
          ·split at ho
           ·split at ho
            ·injection ho with ho; injection ho with e1 e2; subst e2; exact Bb.push _ _ _
            ·split at ho
             ·rename_i hg
              split at ho
              ·rename_i hb
               injection ho with ho; injection ho with e1 e2; subst e2
               exact (Bb.set hg hb.1).trans (Bb.push _ _ _)
              ·cases ho
             ·cases ho
           ·cases ho
          ·cases ho
         ·cases ho
       ·cases ho
      ·cases ho
     ·cases ho
    ·cases ho
   ·unfold SL at ho
    split at ho
    ·split at ho
     ·split at ho
      ·split at ho
       ·split at ho
        ·injection ho with ho; injection ho with e1 e2; subst e2; exact Bb.refl _ _
        ·simp only [Option.map_eq_some_iff, Prod.mk.injEq] at ho
         obtain ⟨h2, hsc, _, rfl⟩ := ho
         exact Im hsc
       ·split at ho
        ·injection ho with ho; injection ho with e1 e2; subst e2; exact Bb.refl _ _
        ·cases ho
       ·cases ho
      ·cases ho
     ·cases ho
    ·cases ho
   ·rename_i s x heq
    cases hs : Kx P g h ts s x with
    | none => simp [hs] at ho
    | some h2 =>
     simp only [hs, Option.map_some, Option.some.injEq, Prod.mk.injEq] at ho
     obtain ⟨rfl, rfl⟩ := ho
     unfold Kx at hs
     split at hs
     ·cases hs
     ·split at hs
      ·split at hs
       ·rename_i hb
        split at hs
        ·rename_i hg
         split at hs
         ·injection hs with hs; subst hs; exact Bb.set hg hb.2
         ·injection hs with hs; subst hs; exact Bb.refl _ _
         ·cases hs
        ·cases hs
       ·cases hs
      ·cases hs
   ·cases ho
 | _ => simp [KH] at ho
theorem Sx {G : Nat → Option (List AB)} {fr : Fr} {op : Op} {v : AB} (ho : Hy P G g h fr op = some (v, h')) : Bb g h h' := by
 unfold Hy at ho
 split at ho
 ·cases hp : IX P fr op with
  | none => simp [hp] at ho
  | some x => simp only [hp, Option.map_some, Option.some.injEq, Prod.mk.injEq] at ho; obtain ⟨_, rfl⟩ := ho; exact Bb.refl _ _
 ·split at ho
  ·simp only [Option.map_eq_some_iff, Prod.mk.injEq] at ho; obtain ⟨_, _, _, rfl⟩ := ho; exact Bb.refl _ _
  ·split at ho
   ·simp only [Option.map_eq_some_iff, Prod.mk.injEq] at ho; obtain ⟨_, _, _, rfl⟩ := ho; exact Bb.refl _ _
   ·cases ho
 ·cases hp : OG P fr op with
  | none => simp [hp] at ho
  | some x => simp only [hp, Option.map_some, Option.some.injEq, Prod.mk.injEq] at ho; obtain ⟨_, rfl⟩ := ho; exact Bb.push _ _ _
 ·exact Se ho
end
section
variable {P : Program} {w0 : World} {m : Bh} {h : AH} {w : World}
theorem Sz {G : Nat → Option (List AB)} (hz : Ch G w0) (r : Rel P w0 m h w) {g : Gd} {fr : Fr} {a : Act} (hf : FR m fr a) {o : Oper} {v : AB} {h' : AH} (ho : Hy P G g h fr o.op = some (v, h')) :
    ∃ m' n v' w', (execOp a.eval o).run P w = .ok n w' ∧ Tv n v' ∧ (m.ext h.size m') ∧ Rel P w0 m' h' w' ∧ VR m' v v' := by
  unfold Hy at ho
  split at ho
  · cases hp : IX P fr o.op with
    | none => simp [hp] at ho
    | some x =>
      simp only [hp, Option.map_some, Option.some.injEq, Prod.mk.injEq] at ho
      obtain ⟨rfl, rfl⟩ := ho
      obtain ⟨v', h1, h2⟩ := Ow (P := P) w hf hp
      exact ⟨m, _, v', w, h1, .inl rfl, Bh.ext.refl _ _, r, h2⟩
  · have key : ∀ ob, (Du fr o.op).bind h.get = ob → (KF P G fr ob o.op).map (·, h) = some (v, h') →
        ∃ m' n v' w', (execOp a.eval o).run P w = .ok n w' ∧ Tv n v' ∧ (m.ext h.size m') ∧ Rel P w0 m' h' w' ∧ VR m' v v' := by
      intro ob hob hm
      simp only [Option.map_eq_some_iff, Prod.mk.injEq] at hm
      obtain ⟨x, hp, rfl, rfl⟩ := hm
      rw [← hob] at hp
      obtain ⟨v', h1, h2⟩ := Oz hz r hf hp
      exact ⟨m, _, v', w, h1, .inl rfl, Bh.ext.refl _ _, r, h2⟩
    split at ho
    · rename_i ht; exact key none (by rw [ht]; rfl) ho
    · rename_i id ht
      split at ho
      · rename_i ob hg; exact key (some ob) (by rw [ht]; exact hg) ho
      · cases ho
  · cases hp : OG P fr o.op with
    | none => simp [hp] at ho
    | some x =>
      simp only [hp, Option.map_some, Option.some.injEq, Prod.mk.injEq] at ho
      obtain ⟨rfl, rfl⟩ := ho
      obtain ⟨v', w', E, h1, t1, t2, _, t4⟩ := O4 (P := P) w hf hp
      have hle := Bh.KM (m := m) E (r.fresh (Nat.le_refl h.size))
      obtain ⟨q1, q2⟩ := t4 (m.upd h.size E) hle h.size (Bh.Ev m _ E)
      exact ⟨m.upd h.size E, _, v', w', h1, .inl rfl, Bh.Ll m _ (by omega), r.new t1 t2 q2, q1⟩
  · exact Sp r hf ho
theorem Rel.Oa (r : Rel P w0 m h w) {m' : Bh} (hm : m.ext h.size m') : m.le m' := ⟨fun id E hE => by rw [hm.i id (r.Qk id E hE)]; exact hE, hm.fz⟩
theorem KE.back {m m' : Bh} {w w' : World} {E : Lp} {o : CR} (hm : m.le m') (h0 : KE P m w E o) (h1 : KE P m' w' E o) : KE P (m.with m') w' E o := by
 cases o with
 | cells gr st cs =>
  refine ⟨h1.1, fun hst => ?_⟩
  obtain ⟨_, _, _, _, _, a3, _⟩ := h0.2 hst
  obtain ⟨cur, e, fz, b1, b2, b3, b4⟩ := h1.2 hst
  refine ⟨cur, e, fz, b1, b2, fun j a ha => ?_, b4⟩
  obtain ⟨_, c0, _, v0⟩ := a3 j a ha
  obtain ⟨o1, c, hc, v1⟩ := b3 j a ha
  exact ⟨o1, c, hc, v0.back hm v1⟩
 | map st es =>
  refine ⟨h1.1, fun hst => ?_⟩
  obtain ⟨en0, _, _, a2, a3, _⟩ := h0.2 hst
  obtain ⟨en, clock, b1, b2, b3, b4⟩ := h1.2 hst
  refine ⟨en, clock, b1, b2, fun i k v e hi he => ?_, b4⟩
  have hlt : i < en0.size := by rw [← a2]; exact (List.getElem?_eq_some_iff.1 hi).1
  obtain ⟨k0, v0⟩ := a3 i k v _ hi (Array.getElem?_eq_getElem hlt)
  obtain ⟨k1, v1⟩ := b3 i k v e hi he
  exact ⟨k0.back hm k1, v0.back hm v1⟩
 | iter s pos => exact h1
 | loop st pend f fr ps a b =>
  obtain ⟨t0, d0, _, _, a2, a3⟩ := h0
  obtain ⟨t1, d1, f1, b1, b2, b3⟩ := h1
  exact ⟨t1, d1, f1, b1, b2, fun i => (a3 i).back hm (b3 i)⟩
 | chan cap buf =>
  obtain ⟨_, _, _, _, a2⟩ := h0
  obtain ⟨bs, sn, rc, b1, b2⟩ := h1
  exact ⟨bs, sn, rc, b1, b2.1, fun i x y hx hy => by
   obtain ⟨y0, _, k0⟩ := a2.at_ hx
   exact k0.back hm (b2.2 i x y hx hy)⟩
theorem Rel.back (r : Rel P w0 m h w) {m' : Bh} {h' : AH} {w' : World} (hm : m.ext h.size m') (hh : ∀ id, id < h.size → h'.get id = h.get id) (r' : Rel P w0 m' h' w') : Rel P w0 (m.with m') h w' := by
 have hle := r.Oa hm
 have up : ∀ {id E}, m id = some E → m' id = some E := fun h => hle.i _ _ h
 have get : ∀ {id E o}, m id = some E → h.get id = some o → h'.get id = some o := fun hE ho => by rw [hh _ (r.Qk _ _ hE)]; exact ho
 exact ⟨r'.below, r.Qk, fun id E o hE ho => (r.obj id E o hE ho).back hle (r'.obj id E o (up hE) (get hE ho)),
  fun id E o hE ho => r'.own id E o (up hE) (get hE ho), fun id id' E E' o o' hne h1 h2 g1 g2 => r'.sep id id' E E' o o' hne (up h1) (up h2) (get h1 g1) (get h2 g2), r'.fz, fun id E o hE ho => r'.LL id E o (up hE) (get hE ho), r'.df, fun id E o hE ho => r'.RE id E o (up hE) (get hE ho)⟩
theorem Bh.UB {m m' : Bh} {n : Nat} (h : m.ext n m') (k : Nat) : m.ext k (m.with m') := ⟨fun _ _ => rfl, h.fz, h.df⟩
theorem Rel.later (r : Rel P w0 m h w) {w' : World} (hb : Below w.heap.size w w') : Rel P w0 m h w' :=
 ⟨r.below.trans (hb.mono r.size), r.Qk, fun id E o hE ho => (r.obj id E o hE ho).mono (Bh.le_refl m) fun hl => hb.block _ ((r.obj id E o hE ho).lt hl), r.own, r.sep, fun g o v hv => by
  obtain ⟨cur, e, z, h1, h2⟩ := r.fz g o v hv
  exact ⟨cur, e, z, by rw [hb.block g (r.QO hv)]; exact h1, h2⟩, r.LL, fun g hg => ⟨(r.df g hg).1, by rw [hb.block g (r.Lg hg)]; exact (r.df g hg).2⟩, r.RE⟩
end
end Go.Av
