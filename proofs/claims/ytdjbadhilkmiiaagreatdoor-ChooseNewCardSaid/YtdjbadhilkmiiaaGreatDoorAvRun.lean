/-
 A part.
-/
import Derived.Test.YtdjbadhilkmiiaaGreatDoorAvDraw
import Derived.Test.YtdjbadhilkmiiaaGreatDoorAvSel
import Derived.RangeFuncRecord
namespace Go.Av
set_option linter.unusedVariables false
set_option linter.unusedSimpArgs false
open Go.RowKit
def codeOk (C : HS) (f : FuncId) : Code → Bool
 | .region id ops draw => !draw || N7 C.P ops (C.K6 f id)
 | .seq a b => codeOk C f a && codeOk C f b
 | .cond _ a b => codeOk C f a && codeOk C f b
 | .block _ c => codeOk C f c
 | .loop c => codeOk C f c
 | .scope c => codeOk C f c
 | .rangeFunc _ _ a b => codeOk C f a && codeOk C f b
 | _ => true
def Hr : Code → Bool
 | .seq a b => Hr a && Hr b
 | .cond _ a b => Hr a && Hr b
 | .block _ c => Hr c
 | .loop c => Hr c
 | .scope c => Hr c
 | .rangeFunc .. => false
 | _ => true
structure Hy (C : HS) : Prop where
 mix : C.P.follows .mixedOrders = true
 code : ∀ f fn c, (C.kind f = 1 ∨ C.kind f = 2 ∨ C.kind f = 4 ∨ C.kind f = 7 ∨ C.kind f = 8 ∨ C.kind f = 9) → C.P.funcs[f]? = some fn → fn.body = some c → (fn.name == "runtime.NumGoroutine") = false ∧ codeOk C f c = true
 T2 : ∀ f a b, C.T2 f a b = true → codeOk C f a = true ∧ codeOk C f b = true ∧ Hr a = true ∧ Hr b = true
 ext : ∀ f, C.kind f = 3 → Pg C.P C.D9 fun g h f' args => if f' = f then C.ext f g h args else none
def DN.to : DN → Exit
 | .normal => .normal
 | .exit id => .exit id
 | .ret => .ret
def mark (r : Nat) : Deferred := { target := .collected r, args := #[] }
def Mk (mS m : Bc) (ds : List Deferred) : Prop := (∀ g, mS.df g → m.df g) ∧ ∃ rs : List Nat, ds = rs.map mark ∧ rs.Nodup ∧ ∀ r ∈ rs, m.df r ∧ ¬ mS.df r
theorem Mk.nil (m : Bc) : Mk m m [] := ⟨fun _ h => h, [], rfl, List.nodup_nil, fun r h => by cases h⟩
theorem Mk.ext {mS m m' : Bc} {n : Nat} {ds : List Deferred} (h : Mk mS m ds) (k : m.ext n m') : Mk mS m' ds := by
 obtain ⟨h1, rs, h2, h3, h4⟩ := h
 exact ⟨fun g hg => k.df g (h1 g hg), rs, h2, h3, fun r hr => ⟨k.df r (h4 r hr).1, (h4 r hr).2⟩⟩
def LV (P : Program) (w0 : World) (mS m : Bc) (n : Nat) (e : DN) (fr' : Fr) (h' : AJ) (Q : Exit → Act → World → Prop) : Prop :=
 ∀ m' a' w', (m.ext n m') → Rel P w0 m' h' w' → FR m' fr' a' → Mk mS m' a'.defers → Q e.to a' w'
structure Hm (C : HS) (n : Nat) (S : Self) : Prop where
 sub : JF C.P C.D9 S
 keeps : ∀ g f c fr h e fr' h', codeOk C f c = true → S.loop g f c fr h = some (e, fr', h') → BY g h h' ∧ fr'.length = fr.length
 loop : ∀ g f c fr h e fr' h', codeOk C f c = true → S.loop g f c fr h = some (e, fr', h') → ∀ w0 mS m w a Q, Cn C.D9 w0 → Rel C.P w0 m h w → FR m fr a → Mk mS m a.defers → LV C.P w0 mS m h.size e fr' h' Q → ∀ rd : Option Nat, rd = none ∨ Hr c = true → Code.roundsIn (FW rd) 0 C.P c Q n a w
section
variable {C : HS} {S : Self} {n : Nat}
theorem FL (hS : Hm C n S) {f : FuncId} {g : Gd} : ∀ (c : Code), codeOk C f c = true → ∀ {fr : Fr} {h : AJ} {e : DN} {fr' : Fr} {h' : AJ}, Bn C S f g c fr h = some (e, fr', h') → BY g h h' ∧ fr'.length = fr.length := by
 intro c
 induction c with
 | skip => intro _ fr h e fr' h' hx; simp only [Bn, Option.some.injEq, Prod.mk.injEq] at hx; obtain ⟨_, rfl, rfl⟩ := hx; exact ⟨BY.refl _ _, rfl⟩
 | label l => intro _ fr h e fr' h' hx; simp only [Bn, Option.some.injEq, Prod.mk.injEq] at hx; obtain ⟨_, rfl, rfl⟩ := hx; exact ⟨BY.refl _ _, rfl⟩
 | exit id => intro _ fr h e fr' h' hx; simp only [Bn, Option.some.injEq, Prod.mk.injEq] at hx; obtain ⟨_, rfl, rfl⟩ := hx; exact ⟨BY.refl _ _, rfl⟩
 | ret => intro _ fr h e fr' h' hx; simp only [Bn, Option.some.injEq, Prod.mk.injEq] at hx; obtain ⟨_, rfl, rfl⟩ := hx; exact ⟨BY.refl _ _, rfl⟩
 | goto l => intro _ fr h e fr' h' hx; simp [Bn] at hx
 | refuse s => intro _ fr h e fr' h' hx; simp [Bn] at hx
 | rangeFunc x ps a b iha ihb =>
  intro _ fr h e fr' h' hx
  simp only [Bn] at hx
  split at hx
  ·rename_i f' first cap hev
   cases hbd : Mr C.P f' with
   | false => rw [hbd] at hx; cases hx
   | true =>
    rw [hbd] at hx
    simp only [Bool.not_true, cond_false] at hx
    split at hx
    ·rename_i v0 h2 hc
     have k1 := (hS.sub.call _ _ _ _ _ _ hc).1
     split at hx
     ·rename_i st pend f2 fr2 ps2 a2 b2 hg
      cases hst : (Nat.beq st 1 || !g.may h.size) with
      | true => rw [hst] at hx; cases hx
      | false =>
       rw [hst] at hx
       simp only [cond_false] at hx
       simp only [Bool.or_eq_false_iff, Bool.not_eq_false'] at hst
       have k : BY g h (h2.set h.size (.loop 3 pend f2 fr2 ps2 a2 b2)) := ((BY.push g h _).trans k1).trans (BY.set hg hst.2)
       split at hx
       ·injection hx with hx; injection hx with e1 e2; injection e2 with e2 e3; subst e2; subst e3; exact ⟨k, rfl⟩
       ·injection hx with hx; injection hx with e1 e2; injection e2 with e2 e3; subst e2; subst e3; exact ⟨k, rfl⟩
       ·injection hx with hx; injection hx with e1 e2; injection e2 with e2 e3; subst e2; subst e3; exact ⟨k, rfl⟩
       ·cases hx
     ·cases hx
    ·cases hx
  ·cases hx
 | region id ops draw =>
  intro hok fr h e fr' h' hx
  simp only [Bn] at hx
  cases draw with
  | true =>
   simp only [cond_true] at hx
   split at hx
   ·rename_i fr1 h1 hr
    simp only [Option.some.injEq, Prod.mk.injEq] at hx
    obtain ⟨_, rfl, rfl⟩ := hx
    exact Ot (by simpa [codeOk] using hok) hS.sub hr
   ·cases hx
  | false =>
   simp only [cond_false] at hx
   split at hx
   ·rename_i fr1 h1 hr
    simp only [Option.some.injEq, Prod.mk.injEq] at hx
    obtain ⟨_, rfl, rfl⟩ := hx
    exact IE hS.sub _ hr
   ·cases hx
 | seq a b iha ihb =>
  intro hok fr h e fr' h' hx
  simp only [codeOk, Bool.and_eq_true] at hok
  simp only [Bn] at hx
  split at hx
  ·rename_i fr1 h1 ha
   obtain ⟨k1, k2⟩ := iha hok.1 ha
   obtain ⟨k3, k4⟩ := ihb hok.2 hx
   exact ⟨k1.trans k3, k4.trans k2⟩
  ·exact iha hok.1 hx
 | cond c a b iha ihb =>
  intro hok fr h e fr' h' hx
  simp only [codeOk, Bool.and_eq_true] at hok
  simp only [Bn] at hx
  split at hx
  ·exact iha hok.1 hx
  ·exact ihb hok.2 hx
  ·cases hx
 | block id c ih =>
  intro hok fr h e fr' h' hx
  simp only [codeOk] at hok
  simp only [Bn] at hx
  split at hx
  ·rename_i i fr1 h1 ha
   have hk := ih hok ha
   cases hb : Nat.beq i id <;> rw [hb] at hx <;> simp only [cond_true, cond_false, Option.some.injEq, Prod.mk.injEq] at hx <;> obtain ⟨_, rfl, rfl⟩ := hx <;> exact hk
  ·exact ih hok hx
 | loop c ih =>
  intro hok fr h e fr' h' hx
  simp only [codeOk] at hok
  simp only [Bn] at hx
  split at hx
  ·rename_i fr1 h1 ha
   obtain ⟨k1, k2⟩ := ih hok ha
   obtain ⟨k3, k4⟩ := hS.keeps g f c fr1 h1 e fr' h' hok hx
   exact ⟨k1.trans k3, k4.trans k2⟩
  ·exact ih hok hx
 | scope c ih =>
  intro hok fr h e fr' h' hx
  simp only [codeOk] at hok
  simp only [Bn] at hx
  exact ih hok hx
theorem LV.trans {P : Program} {w0 : World} {mS m m1 : Bc} {k k1 : Nat} {e : DN} {fr' : Fr} {h' : AJ} {Q : Exit → Act → World → Prop} (hQ : LV P w0 mS m k e fr' h' Q) (hk : k ≤ k1) (h1 : m.ext k m1) : LV P w0 mS m1 k1 e fr' h' Q :=
 fun m' a' w' g1 g2 g3 g4 => hQ m' a' w' (h1.trans g1 hk) g2 g3 g4
theorem Fs {P : Program} {f : FuncId} {fn : Func} {c : Code} (hf : P.funcs[f]? = some fn) (hn : (fn.name == "runtime.NumGoroutine") = false) (hb : fn.body = some c) (args : Array Value) (w : World) :
  (callFunc f args).run P w = .ok (.enter f args) w := by
 unfold callFunc
 simp only [Sem.run_bind, program, Sem.run, Result.andThen_ok, hf]
 simp [hn, hb]
theorem NS (w : World) (g : Nat) (o : Obj) : Ef w (w.putObj g o) g := ⟨rfl, rfl, rfl, by simp [World.putObj], fun k hk hne => by simp [World.putObj, Ne.symm hne]⟩
theorem Rf {w : World} {g : Nat} (o : Obj) (h : g < w.heap.size) : (w.putObj g o).heap[g]? = some o := by simp [World.putObj, h]
theorem Rel.loop {P : Program} {w0 : World} {m : Bc} {h : AJ} {w : World} (r : Rel P w0 m h w) {l : Nat} {E : Kf} {st : Nat} {pend : Option Code} {f : FuncId} {fr : List AB} {ps : List Tmp} {a b : Code} (hE : m.i l = some E) (hg : h.get l = some (.loop st pend f fr ps a b)) :
  ∃ rec : Loop, w.heap[E.g]? = some (.loop rec) ∧ rec.state = Up st ∧ rec.pending = pend ∧ rec.params = ps.toArray ∧ rec.assign = a ∧ rec.body = b ∧ fr.length = rec.tmps.size ∧ (∀ i, VR m (nth fr i) (rec.tmps.getD i undef)) ∧
   ∀ st' pend' rec', rec'.state = Up st' → rec'.pending = pend' → rec'.params = rec.params → rec'.assign = rec.assign → rec'.body = rec.body → rec'.tmps = rec.tmps → Rel P w0 m (h.set l (.loop st' pend' f fr ps a b)) (w.putObj E.g (.loop rec')) := by
 obtain ⟨tm, d, fn, h1, h2, h3⟩ := r.obj l E _ hE hg
 refine ⟨_, h1, rfl, rfl, rfl, rfl, rfl, h2, h3, fun st' pend' rec' e1 e2 e3 e4 e5 e6 => ?_⟩
 have hlt : E.g < w.heap.size := (Array.getElem?_eq_some_iff.1 h1).1
 refine r.write hE hg rfl rfl (NS w E.g _) ⟨tm, rec'.defers, rec'.fn, ?_, h2, h3⟩
 rw [Rf _ hlt]
 obtain ⟨s, p, f, t, pr, as, bo, de⟩ := rec'
 simp only at e1 e2 e3 e4 e5 e6
 subst e1; subst e2; subst e3; subst e4; subst e5; subst e6
 rfl
def Bc.PM (m : Bc) (g : Nat) : Bc := ⟨m.i, m.fz, fun k => m.df k ∨ k = g⟩
theorem Bc.OM (m : Bc) (g : Nat) : m.le (m.PM g) := ⟨fun _ _ h => h, fun _ _ _ h => h⟩
theorem Rel.Wi {P : Program} {w0 : World} {m : Bc} {h : AJ} {w : World} (r : Rel P w0 m h w) : Rel P w0 (m.PM w.heap.size) h (w.alloc (.deferred (some []))) := by
 have ht := Ef.alloc w (.deferred (some [])) w.heap.size
 have hnew : (w.alloc (.deferred (some []))).heap[w.heap.size]? = some (.deferred (some [])) := heap_alloc_new w _
 have old : ∀ k, k < w.heap.size → (w.alloc (.deferred (some []))).heap[k]? = w.heap[k]? := fun k hk => ht.block k hk (by omega)
 refine ⟨ht.below r.below r.size r.size, r.O9, fun id E o hE ho => (r.obj id E o hE ho).mono (Bc.OM m _) fun hl => old _ ((r.obj id E o hE ho).lt hl), r.own, r.sep, fun g o v hv => ?_, r.Kx, fun g hg => ?_, fun id E o hE ho hl hd => ?_⟩
 ·obtain ⟨cur, e, z, h1, h2⟩ := r.fz g o v hv
  exact ⟨cur, e, z, by rw [old g (r.RQ hv)]; exact h1, h2⟩
 ·rcases hg with hg | rfl
  ·exact ⟨(r.df g hg).1, by rw [old g (r.LQ hg)]; exact (r.df g hg).2⟩
  ·exact ⟨r.size, hnew⟩
 ·rcases hd with hd | hd
  ·exact r.RB id E o hE ho hl hd
  ·have := (r.obj id E o hE ho).lt hl; omega
theorem MR : ∀ (ps : List Tmp) (vs : List AB) (fr : Fr), (KZ ps vs fr).length = fr.length
 | [], _, fr => rfl
 | _ :: _, [], fr => rfl
 | p :: ps, v :: vs, fr => by rw [KZ, MR ps vs]; simp
theorem NO {m : Bc} : ∀ (ps : List Tmp) (vs : List AB) (us : List Value) (fr : Fr) (tmps : Array Value) (d : List Deferred), Cr m vs us → FR m fr { tmps := tmps, defers := d } →
  FR m (KZ ps vs fr) { tmps := (ps.zip us).foldl (fun tmps (t, a) => tmps.setIfInBounds t a) tmps, defers := d }
 | [], vs, us, fr, tmps, d, _, hf => by simpa [KZ] using hf
 | p :: ps, [], us, fr, tmps, d, hv, hf => by
  have : us = [] := List.eq_nil_of_length_eq_zero (by simpa using hv.1.symm)
  subst this
  simpa [KZ] using hf
 | p :: ps, v :: vs, [], fr, tmps, d, hv, hf => by simp [Cr] at hv
 | p :: ps, v :: vs, u :: us, fr, tmps, d, hv, hf => by
  have hc := hv.2 0 v u rfl rfl
  have hv' : Cr m vs us := ⟨by simpa using hv.1, fun i x y hx hy => hv.2 (i + 1) x y (by simpa using hx) (by simpa using hy)⟩
  simp only [KZ, List.zip_cons_cons, List.foldl_cons]
  exact NO ps vs us _ _ d hv' (hf.put (some p) hc)
theorem Gl (hC : Hy C) (hS : Hm C n S) {f : FuncId} {g : Gd} : ∀ (c : Code), codeOk C f c = true → ∀ {fr : Fr} {h : AJ} {e : DN} {fr' : Fr} {h' : AJ}, Bn C S f g c fr h = some (e, fr', h') →
  ∀ {w0 : World} {mS m : Bc} {w : World} {a : Act} {Q : Exit → Act → World → Prop}, Cn C.D9 w0 → Rel C.P w0 m h w → FR m fr a → Mk mS m a.defers → LV C.P w0 mS m h.size e fr' h' Q → ∀ rd : Option Nat, rd = none ∨ Hr c = true → c.wpIn (FW rd) 0 C.P Q a w := by
 intro c
 induction c with
 | skip => intro _ fr h e fr' h' hx w0 mS m w a Q hz r hf hk0 hQ rd hrd; simp only [Bn, Option.some.injEq, Prod.mk.injEq] at hx; obtain ⟨rfl, rfl, rfl⟩ := hx; exact wpIn_skip (hQ m a w (Bc.ext.refl _ _) r hf hk0)
 | label l => intro _ fr h e fr' h' hx w0 mS m w a Q hz r hf hk0 hQ rd hrd; simp only [Bn, Option.some.injEq, Prod.mk.injEq] at hx; obtain ⟨rfl, rfl, rfl⟩ := hx; exact wpIn_label (hQ m a w (Bc.ext.refl _ _) r hf hk0)
 | exit id => intro _ fr h e fr' h' hx w0 mS m w a Q hz r hf hk0 hQ rd hrd; simp only [Bn, Option.some.injEq, Prod.mk.injEq] at hx; obtain ⟨rfl, rfl, rfl⟩ := hx; exact wpIn_exit (hQ m a w (Bc.ext.refl _ _) r hf hk0)
 | ret => intro _ fr h e fr' h' hx w0 mS m w a Q hz r hf hk0 hQ rd hrd; simp only [Bn, Option.some.injEq, Prod.mk.injEq] at hx; obtain ⟨rfl, rfl, rfl⟩ := hx; exact wpIn_ret (hQ m a w (Bc.ext.refl _ _) r hf hk0)
 | goto l => intro _ fr h e fr' h' hx; simp [Bn] at hx
 | refuse s => intro _ fr h e fr' h' hx; simp [Bn] at hx
 | rangeFunc x ps ca cb iha ihb =>
  intro _ fr h e fr' h' hx w0 mS m w a Q hz r hf hk0 hQ rd hrd
  have hrd0 : rd = none := hrd.resolve_right (by simp [Hr])
  subst hrd0
  simp only [Bn] at hx
  split at hx
  ·rename_i f' first cap hev
   cases hbd : Mr C.P f' with
   | false => rw [hbd] at hx; cases hx
   | true =>
    rw [hbd] at hx
    simp only [Bool.not_true, cond_false] at hx
    split at hx
    ·rename_i v0 h2 hc
     split at hx
     ·rename_i st pend f2 fr2 ps2 a2 b2 hg
      cases hst : (Nat.beq st 1 || !g.may h.size) with
      | true => rw [hst] at hx; cases hx
      | false =>
       rw [hst] at hx
       simp only [cond_false] at hx
       simp only [Bool.or_eq_false_iff, Bool.not_eq_false'] at hst
       have hv := hf.ev x
       rw [hev] at hv
       generalize hq : a.eval x = q at hv
       cases hv with
       | func _ _ _ fi ca' h1 h2' h3 h4 =>
        obtain ⟨ck, cs⟩ := hS.sub.call _ _ _ _ _ _ hc
        unfold Mr at hbd
        split at hbd
        ·rename_i fn0 hfn0
         simp only [Bool.and_eq_true, Bool.not_eq_true'] at hbd
         obtain ⟨c0, hc0⟩ := Option.isSome_iff_exists.1 hbd.1
         refine wpIn_rangeFunc fun fn _ => ?_
         obtain ⟨w1, hw1⟩ : ∃ w1, w1 = (w.alloc (.deferred (some []))).alloc (.loop { state := .ready, pending := none, fn, tmps := a.tmps, params := ps, assign := ca, body := cb, defers := w.heap.size }) := ⟨_, rfl⟩
         obtain ⟨E, hE⟩ : ∃ E : Kf, E = ⟨w.heap.size + 1, 0, 0, 0⟩ := ⟨_, rfl⟩
         have r0 := r.Wi
         have hsz : (w.alloc (.deferred (some []))).heap.size = w.heap.size + 1 := World.size_alloc _ _
         have hEg : E.g = w.heap.size + 1 := by rw [hE]
         have hfresh : (m.PM w.heap.size).i h.size = none := r0.fresh (Nat.le_refl _)
         have r1 : Rel C.P w0 ((m.PM w.heap.size).upd h.size E) (h.push (.loop 0 none f fr ps.toList ca cb)) w1 := by
          refine r0.new (by rw [hw1]; exact Ef.alloc _ _ _) (by rw [hEg, hsz]) ⟨a.tmps, w.heap.size, fn, ?_, hf.1, fun i => (hf.2 i).mono (Bc.le_trans (Bc.OM m _) (Bc.Kc E hfresh))⟩
          rw [hw1, hEg, ← hsz]
          exact heap_alloc_new _ _
         have hargs : Cr ((m.PM w.heap.size).upd h.size E) (first ++ ([.M4 h.size] ++ cap)) ((fi ++ #[Value.func (.yield (w.heap.size + 1)) #[] #[]]) ++ ca').toList := by
          have hle := Bc.le_trans (Bc.OM m w.heap.size) (Bc.Kc E hfresh)
          simp only [Array.toList_append, List.append_assoc]
          refine Cr.app ⟨by simpa using h1, fun i x y hx hy => (h2' i x y hx (by simpa using hy)).mono hle⟩ (Cr.app (.cons ?_ (.nil _)) ⟨by simpa using h3, fun i x y hx hy => (h4 i x y hx (by simpa using hy)).mono hle⟩)
          have := VR.M4 (m := (m.PM w.heap.size).upd h.size E) h.size E (Bc.Ep _ _ E)
          rw [hEg] at this
          exact this
         have hi := cs w0 _ w1 _ hz r1 hargs
         unfold Dq at hi
         rw [Fs hfn0 hbd.2 hc0] at hi
         simp only at hi
         refine ⟨w.heap.size + 1, [mark w.heap.size], w1, { target := .fn (.func f') ca', args := fi ++ #[Value.func (.yield (w.heap.size + 1)) #[] #[]] }, w1, f', _, w1, ?_, ?_, fun _ _ => trivial, Fs hfn0 hbd.2 hc0 _ _, fun h => (by cases h), OB (hi.mono fun en w2 hh => ?_)⟩
         ·rw [hw1]; exact run_enterLoop_outer fn a.tmps ps ca cb
         ·simp only [resolve, hq, Deferred.ofValue, Sem.run_pure]
          simp [Act.eval]
         ·obtain ⟨v', rfl, m2, g1, g2, g3⟩ := hh
          have hE2 : m2.i h.size = some E := by rw [g1.i h.size (by simp)]; exact Bc.Ep _ _ E
          obtain ⟨rec, q1, q2, q3, q4, q5, q6, q7, q8, q9⟩ := g2.loop hE2 hg
          have hbusy : rec.state ≠ .busy := by
           rw [q2]
           have : st ≠ 1 := fun e => by rw [e] at hst; simp at hst
           unfold Up
           split <;> simp_all
          have hend := run_endLoop (P := C.P) q1 hbusy
          rw [hEg] at hend
          have r3 := q9 3 pend { rec with state := .exhausted } rfl q3 rfl rfl rfl rfl
          rw [hEg] at r3
          refine ⟨pend, w2.putObj (w.heap.size + 1) (.loop { rec with state := .exhausted }), hend.trans (congrArg (fun j => Result.ok j _) q3), ?_⟩
          have fin : LV C.P w0 mS m h.size e fr' h' Q → ∀ en : DN, (en, fr, h2.set h.size (.loop 3 pend f2 fr2 ps2 a2 b2)) = (e, fr', h') → Q en.to { a with defers := [mark w.heap.size] ++ a.defers } (w2.putObj (w.heap.size + 1) (.loop { rec with state := .exhausted })) := by
           intro hQ en he
           injection he with e1 e2
           injection e2 with e2 e3
           subst e1; subst e2; subst e3
           have hx0 : m.ext h.size m2 := ⟨fun i hi => by rw [g1.i i (by simp; omega), Bc.OX _ _ (by omega)]; rfl, fun g o v hv => g1.fz g o v hv, fun g hg => g1.df g (.inl hg)⟩
           refine hQ m2 _ _ hx0 r3 ⟨hf.1, fun i => (hf.2 i).mono (r.PS hx0)⟩ ?_
           obtain ⟨k1, rs, k2, k3, k4⟩ := hk0
           refine ⟨fun g hg => hx0.df g (k1 g hg), w.heap.size :: rs, by simp [k2], List.nodup_cons.2 ⟨fun hm => ?_, k3⟩, fun r' hr' => ?_⟩
           ·have := r.LQ (k4 _ hm).1; omega
           ·rcases List.mem_cons.1 hr' with rfl | hr'
            ·exact ⟨g1.df _ (.inr rfl), fun hd => by have := r.LQ (k1 _ hd); omega⟩
            ·exact ⟨hx0.df _ (k4 _ hr').1, (k4 _ hr').2⟩
          split at hx
          ·injection hx with hx; exact fin hQ .normal hx
          ·injection hx with hx; exact wpIn_ret (fin hQ .ret hx)
          ·injection hx with hx; exact wpIn_exit (fin hQ (.exit _) hx)
          ·cases hx
        ·cases hbd
     ·cases hx
    ·cases hx
  ·cases hx
 | region id ops draw =>
  intro hok fr h e fr' h' hx w0 mS m w a Q hz r hf hk0 hQ rd hrd
  simp only [Bn] at hx
  cases draw with
  | true =>
   simp only [cond_true] at hx
   split at hx
   ·rename_i fr1 h1 hr
    simp only [Option.some.injEq, Prod.mk.injEq] at hx
    obtain ⟨rfl, rfl, rfl⟩ := hx
    exact O6 hC.mix (by simpa [codeOk] using hok) hS.sub hz r hf hr (fun m' a' w' g1 g2 g3 g4 => hQ m' a' w' g1 g2 g3 (by rw [g4]; exact hk0.ext g1)) rd
   ·cases hx
  | false =>
   simp only [cond_false] at hx
   split at hx
   ·rename_i fr1 h1 hr
    simp only [Option.some.injEq, Prod.mk.injEq] at hx
    obtain ⟨rfl, rfl, rfl⟩ := hx
    exact wpIn_region_list (IH hS.sub hz _ r hf hr (fun m' a' w' g1 g2 g3 g4 => hQ m' a' w' g1 g2 g3 (by rw [g4]; exact hk0.ext g1)) rd)
   ·cases hx
 | seq x y iha ihb =>
  intro hok fr h e fr' h' hx w0 mS m w a Q hz r hf hk0 hQ rd hrd
  simp only [codeOk, Bool.and_eq_true] at hok
  simp only [Bn] at hx
  split at hx
  ·rename_i fr1 h1 ha
   have hk := (FL hS x hok.1 ha).1
   refine wpIn_seq (iha hok.1 ha hz r hf hk0 (fun m1 a1 w1 g1 g2 g3 g4 => ?_) rd (hrd.imp (fun h => h) fun h => by simp only [Hr, Bool.and_eq_true] at h; exact h.1))
   exact ihb hok.2 hx hz g2 g3 g4 (hQ.trans hk.1 g1) rd (hrd.imp (fun h => h) fun h => by simp only [Hr, Bool.and_eq_true] at h; exact h.2)
  ·rename_i hne
   refine wpIn_seq (iha hok.1 hx hz r hf hk0 (fun m1 a1 w1 g1 g2 g3 g4 => ?_) rd (hrd.imp (fun h => h) fun h => by simp only [Hr, Bool.and_eq_true] at h; exact h.1))
   have hq := hQ m1 a1 w1 g1 g2 g3 g4
   cases e with
   | normal => exact absurd hx (hne _ _)
   | exit id => exact hq
   | ret => exact hq
 | cond c x y iha ihb =>
  intro hok fr h e fr' h' hx w0 mS m w a Q hz r hf hk0 hQ rd hrd
  simp only [codeOk, Bool.and_eq_true] at hok
  simp only [Bn] at hx
  have hv := hf.ev c
  split at hx
  ·rename_i hc; rw [hc] at hv; exact wpIn_cond_true hv.JW (iha hok.1 hx hz r hf hk0 hQ rd (hrd.imp (fun h => h) fun h => by simp only [Hr, Bool.and_eq_true] at h; exact h.1))
  ·rename_i hc; rw [hc] at hv; exact wpIn_cond_false hv.JW (ihb hok.2 hx hz r hf hk0 hQ rd (hrd.imp (fun h => h) fun h => by simp only [Hr, Bool.and_eq_true] at h; exact h.2))
  ·cases hx
 | block id c ih =>
  intro hok fr h e fr' h' hx w0 mS m w a Q hz r hf hk0 hQ rd hrd
  simp only [codeOk] at hok
  simp only [Bn] at hx
  split at hx
  ·rename_i i fr1 h1 ha
   refine wpIn_block (ih hok ha hz r hf hk0 (fun m1 a1 w1 g1 g2 g3 g4 => ?_) rd (hrd.imp (fun h => h) fun h => by simpa [Hr] using h))
   show (if i = id then Q .normal a1 w1 else Q (.exit i) a1 w1)
   cases hb : Nat.beq i id with
   | true =>
    rw [hb] at hx
    simp only [cond_true, Option.some.injEq, Prod.mk.injEq] at hx
    obtain ⟨rfl, rfl, rfl⟩ := hx
    rw [if_pos (Nat.eq_of_beq_eq_true hb)]
    exact hQ m1 a1 w1 g1 g2 g3 g4
   | false =>
    rw [hb] at hx
    simp only [cond_false, Option.some.injEq, Prod.mk.injEq] at hx
    obtain ⟨rfl, rfl, rfl⟩ := hx
    rw [if_neg (fun e => by rw [e, Nat.beq_refl] at hb; cases hb)]
    exact hQ m1 a1 w1 g1 g2 g3 g4
  ·rename_i hne
   refine wpIn_block (ih hok hx hz r hf hk0 (fun m1 a1 w1 g1 g2 g3 g4 => ?_) rd (hrd.imp (fun h => h) fun h => by simpa [Hr] using h))
   have hq := hQ m1 a1 w1 g1 g2 g3 g4
   cases e with
   | normal => exact hq
   | exit i => exact absurd hx (hne _ _ _)
   | ret => exact hq
 | loop c ih =>
  intro hok fr h e fr' h' hx w0 mS m w a Q hz r hf hk0 hQ rd hrd
  simp only [codeOk] at hok
  simp only [Bn] at hx
  have hrd' : rd = none ∨ Hr c = true := hrd.imp (fun h => h) fun h => by simpa [Hr] using h
  refine wpIn_loop_rounds (n + 1) ?_
  rw [roundsIn_succ]
  split at hx
  ·rename_i fr1 h1 ha
   have hk := (FL hS c hok ha).1
   refine ih hok ha hz r hf hk0 (fun m1 a1 w1 g1 g2 g3 g4 => ?_) rd hrd'
   exact hS.loop g f c fr1 h1 e fr' h' hok hx w0 mS m1 w1 a1 Q hz g2 g3 g4 (hQ.trans hk.1 g1) rd hrd'
  ·rename_i hne
   refine ih hok hx hz r hf hk0 (fun m1 a1 w1 g1 g2 g3 g4 => ?_) rd hrd'
   have hq := hQ m1 a1 w1 g1 g2 g3 g4
   cases e with
   | normal => exact absurd hx (hne _ _)
   | exit id => exact hq
   | ret => exact hq
 | scope c ih =>
  intro hok fr h e fr' h' hx w0 mS m w a Q hz r hf hk0 hQ rd hrd
  simp only [codeOk] at hok
  simp only [Bn] at hx
  refine SF (ih hok hx hz r hf hk0 (fun m1 a1 w1 g1 g2 g3 g4 => ?_) rd (hrd.imp (fun h => h) fun h => by simpa [Hr] using h))
  have hq := hQ m1 a1 w1 g1 g2 g3 g4
  cases e with
  | normal => exact hq
  | exit i => exact hq
  | ret => exact hq
theorem QD (hC : Hy C) (hS : Hm C n S) {f : FuncId} {g : Gd} {c : Code} (hok : codeOk C f c = true) {fr : Fr} {h : AJ} {e : DN} {fr' : Fr} {h' : AJ} (hx : Bn C S f g (.loop c) fr h = some (e, fr', h'))
  {w0 : World} {mS m : Bc} {w : World} {a : Act} {Q : Exit → Act → World → Prop} (hz : Cn C.D9 w0) (r : Rel C.P w0 m h w) (hf : FR m fr a) (hk0 : Mk mS m a.defers) (hQ : LV C.P w0 mS m h.size e fr' h' Q) (rd : Option Nat) (hrd : rd = none ∨ Hr c = true) : Code.roundsIn (FW rd) 0 C.P c Q (n + 1) a w := by
 simp only [Bn] at hx
 rw [roundsIn_succ]
 split at hx
 ·rename_i fr1 h1 ha
  have hk := (FL hS c hok ha).1
  refine Gl hC hS c hok ha hz r hf hk0 (fun m1 a1 w1 g1 g2 g3 g4 => ?_) rd hrd
  exact hS.loop g f c fr1 h1 e fr' h' hok hx w0 mS m1 w1 a1 Q hz g2 g3 g4 (hQ.trans hk.1 g1) rd hrd
 ·rename_i hne
  refine Gl hC hS c hok hx hz r hf hk0 (fun m1 a1 w1 g1 g2 g3 g4 => ?_) rd hrd
  have hq := hQ m1 a1 w1 g1 g2 g3 g4
  cases e with
  | normal => exact absurd hx (hne _ _)
  | exit id => exact hq
  | ret => exact hq
theorem P8 (hC : Hy C) (hS : Hm C n S) : Sc C.P C.D9 (Kh C S) := by
 intro g h l args v h' hx
 unfold Kh at hx
 split at hx
 ·rename_i pend f fr ps ca cb hg
  cases hb : (Nat.beq args.length ps.length && (g.may l && C.T2 f ca cb)) with
  | false => rw [hb] at hx; cases hx
  | true =>
   rw [hb] at hx
   simp only [cond_true] at hx
   simp only [Bool.and_eq_true] at hb
   obtain ⟨hlen, hmay, hrok⟩ := hb
   have hlen := Nat.eq_of_beq_eq_true hlen
   obtain ⟨ok1, ok2, nr1, nr2⟩ := hC.T2 f ca cb hrok
   split at hx
   ·rename_i fr1 h1 hx1
    have k1 := (FL hS ca ok1 hx1).1
    split at hx
    ·rename_i pend1 f1 frr1 ps1 ca1 cb1 hg1
     have k2 : BY g h1 (h1.set l (.loop 1 pend1 f1 frr1 ps1 ca1 cb1)) := BY.set hg1 hmay
     have main : ∀ (e : DN) (fr2 : Fr) (h3 : AJ) (j : Option Code), Bn C S f g cb fr1 (h1.set l (.loop 1 pend1 f1 frr1 ps1 ca1 cb1)) = some (e, fr2, h3) → Ge g l j h3 = some (v, h') → (e = .normal ∧ j = none ∨ e = .ret ∧ j = some .ret ∨ ∃ i, e = .exit i ∧ j = some (.exit i)) →
       BY g h h' ∧ ∀ w0 m w (cargs : Array Value) E, Cn C.D9 w0 → Rel C.P w0 m h w → Cr m args cargs.toList → m.i l = some E →
        ∃ f tmps a b, (Instr.yield E.g cargs).run C.P w = .ok (.round E.g f tmps a b) w ∧ RoundIn Fence.wide 0 C.P E.g f tmps a b w fun e w' => ∃ v', e = .returned v' ∧ ∃ m' : Bc, (m.ext h.size m') ∧ Rel C.P w0 m' h' w' ∧ VR m' v v' := by
      intro e fr2 h3 j hx2 hend hej
      have k3 := (FL hS cb ok2 hx2).1
      unfold Ge at hend
      split at hend
      ·rename_i st3 pend3 f3 fr3 ps3 ca3 cb3 hg3
       rw [hmay] at hend
       simp only [cond_true, Option.some.injEq, Prod.mk.injEq] at hend
       obtain ⟨rfl, rfl⟩ := hend
       have k4 : BY g h3 (h3.set l (.loop (XN j) j f3 fr3 ps3 ca3 cb3)) := BY.set hg3 hmay
       refine ⟨((k1.trans k2).trans k3).trans k4, fun w0 m w cargs E hz r hv hE => ?_⟩
       obtain ⟨rec, q1, q2, q3, q4, q5, q6, q7, q8, q9⟩ := r.loop hE hg
       have hsz : cargs.size = rec.params.size := by rw [q4]; have := hv.1; simp at this; simp; omega
       refine ⟨rec.fn, _, rec.assign, rec.body, run_yield q1 hsz, roundIn_of_wpIn (F := Fence.wide) trivial ?_⟩
       rw [q5]
       have hfr : FR m (KZ ps args fr) { tmps := (rec.params.zip cargs).foldl (fun tmps (t, a) => tmps.setIfInBounds t a) rec.tmps, defers := [] } := by
        have := NO ps args cargs.toList fr rec.tmps [] hv ⟨q7, q8⟩
        rw [q4, ← Array.foldl_toList, Array.toList_zip]
        exact this
       refine Gl hC hS ca ok1 hx1 hz r hfr (Mk.nil m) (fun m1 a1 w1 g1 g2 g3 g4 => ?_) (some E.g) (.inr nr1)
       have hE1 : m1.i l = some E := by rw [g1.i l (h.Ct hg)]; exact hE
       obtain ⟨rec1, p1, p2, p3, p4, p5, p6, p7, p8, p9⟩ := g2.loop hE1 hg1
       refine ⟨_, run_beginRound p1 p2, ?_⟩
       have r2 := p9 1 pend1 { rec1 with state := .busy } rfl p3 rfl rfl rfl rfl
       rw [q6]
       refine Gl hC hS cb ok2 hx2 hz r2 g3 g4 (fun m3 a3 w3 d1 d2 d3 d4 => ?_) (some E.g) (.inr nr2)
       have hlt1 := h1.Ct hg1
       have hE3 : m3.i l = some E := by rw [d1.i l (by simpa using hlt1)]; exact hE1
       obtain ⟨rec3, s1, s2, s3, s4, s5, s6, s7, s8, s9⟩ := d2.loop hE3 hg3
       have hx0 : m.ext h.size m3 := g1.trans d1 (by simpa using k1.1)
       have fin : ∃ v w', (Instr.endRound E.g j).run C.P w3 = .ok v w' ∧ ∃ v', Ending.returned v = .returned v' ∧ ∃ m' : Bc, (m.ext h.size m') ∧ Rel C.P w0 m' (h3.set l (.loop (XN j) j f3 fr3 ps3 ca3 cb3)) w' ∧ VR m' (.bool j.isNone) v' := by
        refine ⟨_, _, run_endRound j s1, _, rfl, m3, hx0, s9 _ j _ ?_ rfl rfl rfl rfl rfl, .bool _⟩
        cases j <;> rfl
       rcases hej with ⟨rfl, rfl⟩ | ⟨rfl, rfl⟩ | ⟨i, rfl, rfl⟩
       ·exact fin
       ·exact fin
       ·exact fin
      ·cases hend
     split at hx
     ·rename_i fr2 h3 hx2; exact main .normal fr2 h3 none hx2 hx (.inl ⟨rfl, rfl⟩)
     ·rename_i fr2 h3 hx2; exact main .ret fr2 h3 (some .ret) hx2 hx (.inr (.inl ⟨rfl, rfl⟩))
     ·rename_i i fr2 h3 hx2; exact main (.exit i) fr2 h3 (some (.exit i)) hx2 hx (.inr (.inr ⟨i, rfl, rfl⟩))
     ·cases hx
    ·cases hx
   ·cases hx
 ·cases hx
theorem O7 {P : Program} {w0 : World} {m : Bc} {h : AJ} {w : World} (r : Rel P w0 m h w) {fr : Fr} {a : Act} (hf : FR m fr a) {x : ResultVar} {v : AB} (hx : HR P fr h x = some v) :
  ∃ v', (match x with | .tmp t => pure (a.tmps.getD t undef) | .cell c t => do loadVar t (← asAddr (a.tmps.getD c undef)) : Sem Value).run P w = .ok v' w ∧ VR m v v' := by
 cases x with
 | tmp t => simp only [HR, Option.some.injEq] at hx; subst hx; exact ⟨_, rfl, hf.2 t⟩
 | cell c t =>
  simp only [HR] at hx
  split at hx
  ·rename_i id o hc
   have hv := hf.2 c
   rw [hc] at hv
   generalize hq : a.tmps.getD c undef = q at hv
   cases hv with
   | ptr _ _ E hE =>
    obtain ⟨v', h1, h2⟩ := Ky r hE hx
    exact ⟨v', by simp [hq, asAddr, h1], h2⟩
  ·cases hx
theorem MX {P : Program} {w0 : World} {m : Bc} {h : AJ} {w : World} (r : Rel P w0 m h w) {fr : Fr} {a : Act} (hf : FR m fr a) : ∀ (l : List ResultVar) (vs : List AB), l.mapM (HR P fr h) = some vs →
  ∃ vs', (l.mapM (fun | .tmp t => pure (a.tmps.getD t undef) | .cell c t => do loadVar t (← asAddr (a.tmps.getD c undef)) : ResultVar → Sem Value)).run P w = .ok vs' w ∧ Cr m vs vs'
 | [], vs, hl => by simp at hl; subst hl; exact ⟨[], by simp, .nil m⟩
 | x :: l, vs, hl => by
  rw [List.mapM_cons] at hl
  simp only [bind, Option.bind_eq_some_iff, pure, Option.some.injEq] at hl
  obtain ⟨v, hv, us, hus, rfl⟩ := hl
  obtain ⟨v', h1, h2⟩ := O7 r hf hv
  obtain ⟨us', h3, h4⟩ := MX r hf l us hus
  refine ⟨v' :: us', ?_, .cons h2 h4⟩
  rw [List.mapM_cons]
  simp only [Sem.run_bind]
  cases x <;> simp only at h1 <;> rw [h1] <;> simp only [Result.andThen_ok, h3, Sem.run_pure]
theorem K5 {P : Program} {w0 : World} {m : Bc} {h : AJ} {w : World} (r : Rel P w0 m h w) {fn : Func} {fr : Fr} {a : Act} (hf : FR m fr a) {v : AB} (hx : GC P fn fr h = some v) :
  ∃ v', (results fn a.tmps).run P w = .ok v' w ∧ VR m v v' := by
 unfold GC at hx
 have key : ∀ vs, fn.results.toList.mapM (HR P fr h) = some vs → ∃ vs', (results fn a.tmps).run P w = .ok (if hh : vs'.length = 1 then vs'[0] else .tuple vs'.toArray) w ∧ Cr m vs vs' := by
  intro vs hvs
  obtain ⟨vs', h1, h2⟩ := MX r hf _ _ hvs
  refine ⟨vs', ?_, h2⟩
  unfold results
  rw [Array.mapM_eq_mapM_toList]
  simp only [Sem.run_bind, Sem.run_map]
  erw [h1]
  simp
 split at hx
 ·rename_i u hu
  injection hx with hx
  subst hx
  obtain ⟨vs', h1, h2⟩ := key _ hu
  have hl : vs'.length = 1 := by rw [← h2.1]; rfl
  rw [dif_pos hl] at h1
  exact ⟨_, h1, h2.2 0 u _ rfl (by simp [hl])⟩
 ·rename_i us hne hus
  injection hx with hx
  subst hx
  obtain ⟨vs', h1, h2⟩ := key _ hus
  have hl : ¬ vs'.length = 1 := by
   rw [← h2.1]
   intro hl
   match us, hl with
   | [u], _ => exact hne u rfl
  rw [dif_neg hl] at h1
  exact ⟨_, h1, Cr.tuple (by simpa using h2)⟩
 ·cases hx
theorem Js {P : Program} {w0 : World} {h : AJ} {fn : Func} {tmps : Array Value} {R : Ending → World → Prop} : ∀ (rs : List Nat), rs.Nodup → ∀ (m : Bc) (w : World), Rel P w0 m h w → (∀ r ∈ rs, m.df r) →
  (∀ (m' : Bc) w', m'.i = m.i → m'.fz = m.fz → (∀ g, m.df g → g ∉ rs → m'.df g) → Rel P w0 m' h w' → LeavesIn Fence.wide 0 P fn tmps R [] .returning w') → LeavesInM Fence.wide 0 P fn tmps R (rs.map mark) .returning w
 | [], _, m, w, r, _, hk => hk m w rfl rfl (fun _ h _ => h) r
 | r0 :: rs, hn, m, w, r, hd, hk => by
  obtain ⟨hn1, hn2⟩ := List.nodup_cons.1 hn
  have hb := (r.df r0 (hd r0 (by simp))).2
  refine ⟨by simp, .inl ⟨r0, _, rfl, run_takeDeferred hb, ?_⟩⟩
  have ht := NS w r0 (.deferred none)
  have r' : Rel P w0 ⟨m.i, m.fz, fun k => m.df k ∧ k ≠ r0⟩ h (w.putObj r0 (.deferred none)) := by
   refine ⟨ht.below r.below r.size (r.df r0 (hd r0 (by simp))).1, r.O9, fun id E o hE ho => KD.mono (m := m) ⟨fun _ _ h => h, fun _ _ _ h => h⟩ (fun hl => ht.block _ ((r.obj id E o hE ho).lt hl) fun e => ?_) (r.obj id E o hE ho), r.own, r.sep, fun g o v hv => ?_, r.Kx, fun g hg => ⟨(r.df g hg.1).1, ?_⟩, fun id E o hE ho hl hg => r.RB id E o hE ho hl hg.1⟩
   ·exact r.RB id E o hE ho hl (e ▸ hd r0 (by simp))
   ·obtain ⟨cur, e, z, h1, h2⟩ := r.fz g o v hv
    refine ⟨cur, e, z, ?_, h2⟩
    rw [ht.block g (r.RQ hv) (fun e' => by subst e'; rw [hb] at h1; cases h1)]
    exact h1
   ·rw [ht.block g (r.LQ hg.1) hg.2]; exact (r.df g hg.1).2
  refine Js rs hn2 _ _ r' (fun k hk' => ⟨hd k (by simp [hk']), fun e => hn1 (e ▸ hk')⟩) fun m' w' e1 e2 e3 e4 => hk m' w' e1 e2 (fun g hg hno => e3 g ⟨hg, fun e => hno (by simp [e])⟩ fun hm => hno (by simp [hm])) e4
theorem He (hC : Hy C) (hS : Hm C n S) {g : Gd} {h h' : AJ} {f : FuncId} {args : List AB} {v : AB} (hk : C.kind f = 1 ∨ C.kind f = 2 ∨ C.kind f = 4 ∨ C.kind f = 7 ∨ C.kind f = 8 ∨ C.kind f = 9) (hb : Il C S g h f args = some (v, h')) :
  BY g h h' ∧ ∀ w0 m w (cargs : Array Value), Cn C.D9 w0 → Rel C.P w0 m h w → Cr m args cargs.toList → Dq C.P f cargs w fun v' w' => ∃ m' : Bc, (m.ext h.size m') ∧ Rel C.P w0 m' h' w' ∧ VR m' v v' := by
 unfold Il at hb
 split at hb
 ·cases hb
 ·rename_i fn hfn
  split at hb
  ·cases hb
  ·rename_i c hc
   obtain ⟨hn, hok⟩ := hC.code f fn c hk hfn hc
   have main : ∀ e fr1 h1, e = DN.normal ∨ e = DN.ret → Bn C S f g c (args ++ List.replicate (fn.ntmps - args.length) (.tuple [])) h = some (e, fr1, h1) → (GC C.P fn fr1 h1).map (·, h1) = some (v, h') →
     BY g h h' ∧ ∀ w0 m w (cargs : Array Value), Cn C.D9 w0 → Rel C.P w0 m h w → Cr m args cargs.toList → Dq C.P f cargs w fun v' w' => ∃ m' : Bc, (m.ext h.size m') ∧ Rel C.P w0 m' h' w' ∧ VR m' v v' := by
    intro e fr1 h1 he hx hres
    simp only [Option.map_eq_some_iff, Prod.mk.injEq] at hres
    obtain ⟨u, hu, rfl, rfl⟩ := hres
    refine ⟨(FL hS c hok hx).1, fun w0 m w cargs hz r hv => ?_⟩
    unfold Dq
    rw [Fs hfn hn hc]
    simp only
    have hlen : args.length = cargs.size := by rw [hv.1]; simp
    refine (callsIn_wide (n := 0)).1 (callsIn_of_wp_marks hfn hc trivial (Gl hC hS c hok hx hz r ⟨by simp [hlen], fun i => ?_⟩ (Mk.nil m) (fun m1 a1 w1 g1 g2 g3 g4 => ?_) none (.inl rfl)))
    ·rw [KT, List.getD_eq_getElem?_getD]
     simp only [Array.getD_eq_getD_getElem?]
     by_cases hi : i < args.length
     ·rw [List.getElem?_append_left hi, Array.getElem?_append_left (by omega)]
      rw [List.getElem?_eq_getElem hi, Array.getElem?_eq_getElem (by omega)]
      exact hv.2 i _ _ (List.getElem?_eq_getElem hi) (by simp [← hlen, hi])
     ·rw [List.getElem?_append_right (by omega), Array.getElem?_append_right (by omega)]
      rw [List.getElem?_replicate, Array.getElem?_replicate, hlen]
      split
      ·exact VR.IS m
      ·exact VR.IS m
    ·have fin : LeavesInM Fence.wide 0 C.P fn a1.tmps (fun e w' => ∃ v', e = .returned v' ∧ ∃ m' : Bc, (m.ext h.size m') ∧ Rel C.P w0 m' h1 w' ∧ VR m' u v') a1.defers .returning w1 := by
      obtain ⟨_, rs, e1, e2, e3⟩ := g4
      rw [e1]
      refine Js rs e2 m1 w1 g2 (fun r hr => (e3 r hr).1) fun m2 w2 d1 d2 d3 d4 => ?_
      have hle : m1.le m2 := ⟨fun id E hE => by rw [d1]; exact hE, fun g o v hv => by rw [d2]; exact hv⟩
      obtain ⟨v', q1, q2⟩ := K5 d4 (g3.mono hle) hu
      exact ⟨v', q1, v', rfl, m2, ⟨fun id hid => by rw [d1]; exact g1.i id hid, fun g o v hv => by rw [d2]; exact g1.fz g o v hv, fun g hg => d3 g (g1.df g hg) fun hm => (e3 g hm).2 hg⟩, d4, q2⟩
     rcases he with rfl | rfl
     ·exact fin
     ·exact fin
   split at hb
   ·rename_i fr1 h1 hx; exact main .normal fr1 h1 (.inl rfl) hx hb
   ·rename_i fr1 h1 hx; exact main .ret fr1 h1 (.inr rfl) hx hb
   ·cases hb
theorem Ps (hS : Hm C n S) {g : Gd} {c : Code} {fr : Fr} {h : AJ} {e : DN} {fr' : Fr} {h' : AJ} (hx : JL C S g c fr h = some (e, fr', h')) : BY g h h' ∧ fr'.length = fr.length := by
 unfold JL at hx
 split at hx
 ·split at hx
  ·split at hx
   ·rename_i hs
    split at hx
    ·rename_i hr
     simp only [Option.some.injEq, Prod.mk.injEq] at hx
     obtain ⟨_, rfl, rfl⟩ := hx
     obtain ⟨k1, k2⟩ := IE hS.sub _ hr
     exact ⟨(Nr hs).trans k1, by rw [k2, SC]⟩
    ·cases hx
   ·cases hx
  ·cases hx
 ·cases hx
theorem NW (hS : Hm C n S) {f : FuncId} {g : Gd} : ∀ (c : Code), codeOk C f c = true → ∀ {fr : Fr} {h : AJ} {e : DN} {fr' : Fr} {h' : AJ}, JB C S f g c fr h = some (e, fr', h') → BY g h h' ∧ fr'.length = fr.length := by
 have base : ∀ (c : Code), codeOk C f c = true → ∀ {fr : Fr} {h : AJ} {e : DN} {fr' : Fr} {h' : AJ}, (bif K9 c then JL C S g c fr h else Bn C S f g c fr h) = some (e, fr', h') → BY g h h' ∧ fr'.length = fr.length := by
  intro c hok fr h e fr' h' hx
  cases hs : K9 c with
  | true => rw [hs] at hx; exact Ps hS hx
  | false => rw [hs] at hx; exact FL hS c hok hx
 intro c
 induction c with
 | seq a b iha ihb =>
  intro hok fr h e fr' h' hx
  simp only [codeOk, Bool.and_eq_true] at hok
  simp only [JB] at hx
  split at hx
  ·rename_i fr1 h1 ha
   obtain ⟨k1, k2⟩ := iha hok.1 ha
   obtain ⟨k3, k4⟩ := ihb hok.2 hx
   exact ⟨k1.trans k3, k4.trans k2⟩
  ·exact iha hok.1 hx
 | _ => intro hok fr h e fr' h' hx; simp only [JB] at hx; exact base _ hok hx
theorem Pq (hC : Hy C) (hS : Hm C n S) {g : Gd} {c : Code} (hs : K9 c = true) {fr : Fr} {h : AJ} {e : DN} {fr' : Fr} {h' : AJ} (hx : JL C S g c fr h = some (e, fr', h'))
  {w0 : World} {mS m : Bc} {w : World} {a : Act} {Q : Exit → Act → World → Prop} (hz : Cn C.D9 w0) (r : Rel C.P w0 m h w) (hf : FR m fr a) (hk0 : Mk mS m a.defers) (hQ : LV C.P w0 mS m h.size e fr' h' Q) : Uu C.P c Q a w := by
 cases c with
 | region id ops draw =>
  simp only [K9, Bool.and_eq_true, Bool.not_eq_true'] at hs
  obtain ⟨rfl, hs⟩ := hs
  split at hs
  ·rename_i o ho
   split at hs
   ·rename_i cases0 bl hop
    simp only [JL] at hx
    have hol : ∃ rest, ops.toList = o :: rest := by
     cases hl : ops.toList with
     | nil => rw [← Array.getElem?_toList, hl] at ho; cases ho
     | cons o' rest =>
      rw [← Array.getElem?_toList, hl] at ho
      simp only [List.getElem?_cons_zero, Option.some.injEq] at ho
      exact ⟨rest, by rw [ho]⟩
    obtain ⟨rest, hol⟩ := hol
    rw [hol] at hx
    simp only at hx
    split at hx
    ·rename_i v h1 hsel
     split at hx
     ·rename_i fr1 h2 hr
      simp only [Option.some.injEq, Prod.mk.injEq] at hx
      obtain ⟨rfl, rfl, rfl⟩ := hx
      obtain ⟨cases1, v', w', q1, q2, q3, q4⟩ := RW r hf hsel
      have hk := Nr hsel
      have hde : (a.put o.dst v').defers = a.defers := by cases o.dst <;> rfl
      have hx0 : ∀ m' : Bc, m.ext h1.size m' → m.ext h.size m' := fun m' g1 => (Bc.ext.refl m _).trans g1 hk.1
      have hr' := IH hS.sub hz _ q3 (hf.put o.dst q4) hr (Q := Q) (ops := ops) (fun m' a' w' g1 g2 g3 g4 => hQ m' a' w' (hx0 m' g1) g2 g3 (by rw [g4, hde]; exact hk0.ext (hx0 m' g1))) none
      refine OZ ho ?_ q1 q2 ?_
      ·unfold Region.wanted
       cases hg : o.guard with
       | none => rfl
       | some p => rw [hg] at hs; cases hs
      ·rw [hol, List.drop_one, List.tail_cons]
       exact hr'
     ·cases hx
    ·cases hx
   ·cases hs
  ·cases hs
 | _ => simp [K9] at hs
theorem Qa (hC : Hy C) (hS : Hm C n S) {f : FuncId} {g : Gd} : ∀ (c : Code), codeOk C f c = true → ∀ {fr : Fr} {h : AJ} {e : DN} {fr' : Fr} {h' : AJ}, JB C S f g c fr h = some (e, fr', h') →
  ∀ {w0 : World} {mS m : Bc} {w : World} {a : Act} {Q : Exit → Act → World → Prop}, Cn C.D9 w0 → Rel C.P w0 m h w → FR m fr a → Mk mS m a.defers → LV C.P w0 mS m h.size e fr' h' Q → Uu C.P c Q a w := by
 have base : ∀ (c : Code), codeOk C f c = true → ∀ {fr : Fr} {h : AJ} {e : DN} {fr' : Fr} {h' : AJ}, (bif K9 c then JL C S g c fr h else Bn C S f g c fr h) = some (e, fr', h') →
   ∀ {w0 : World} {mS m : Bc} {w : World} {a : Act} {Q : Exit → Act → World → Prop}, Cn C.D9 w0 → Rel C.P w0 m h w → FR m fr a → Mk mS m a.defers → LV C.P w0 mS m h.size e fr' h' Q → Uu C.P c Q a w := by
  intro c hok fr h e fr' h' hx w0 mS m w a Q hz r hf hk0 hQ
  cases hs : K9 c with
  | true => rw [hs] at hx; exact Pq hC hS hs hx hz r hf hk0 hQ
  | false => rw [hs] at hx; exact TD (wpIn_wide.1 (Gl hC hS c hok hx hz r hf hk0 hQ none (.inl rfl)))
 intro c
 induction c with
 | seq x y iha ihb =>
  intro hok fr h e fr' h' hx w0 mS m w a Q hz r hf hk0 hQ
  simp only [codeOk, Bool.and_eq_true] at hok
  simp only [JB] at hx
  split at hx
  ·rename_i fr1 h1 ha
   have hk := (NW hS x hok.1 ha).1
   refine Sk (iha hok.1 ha hz r hf hk0 (fun m1 a1 w1 g1 g2 g3 g4 => ?_))
   exact ihb hok.2 hx hz g2 g3 g4 (hQ.trans hk.1 g1)
  ·rename_i hne
   refine Sk (iha hok.1 hx hz r hf hk0 (fun m1 a1 w1 g1 g2 g3 g4 => ?_))
   have hq := hQ m1 a1 w1 g1 g2 g3 g4
   cases e with
   | normal => exact absurd hx (hne _ _)
   | exit id => exact hq
   | ret => exact hq
 | _ => intro hok fr h e fr' h' hx; simp only [JB] at hx; exact base _ hok hx
theorem QS (hC : Hy C) (hS : Hm C n S) {g : Gd} {h h' : AJ} {f : FuncId} {args : List AB} {v : AB} (hk : C.kind f = 8) (hb : PK C S g h f args = some (v, h')) :
  BY g h h' ∧ ∀ w0 m w (cargs : Array Value), Cn C.D9 w0 → Rel C.P w0 m h w → Cr m args cargs.toList → Dq C.P f cargs w fun v' w' => ∃ m' : Bc, (m.ext h.size m') ∧ Rel C.P w0 m' h' w' ∧ VR m' v v' := by
 unfold PK at hb
 split at hb
 ·cases hb
 ·rename_i fn hfn
  split at hb
  ·cases hb
  ·rename_i c hc
   obtain ⟨hn, hok⟩ := hC.code f fn c (by omega) hfn hc
   have main : ∀ e fr1 h1, e = DN.normal ∨ e = DN.ret → JB C S f g c (args ++ List.replicate (fn.ntmps - args.length) (.tuple [])) h = some (e, fr1, h1) → (GC C.P fn fr1 h1).map (·, h1) = some (v, h') →
     BY g h h' ∧ ∀ w0 m w (cargs : Array Value), Cn C.D9 w0 → Rel C.P w0 m h w → Cr m args cargs.toList → Dq C.P f cargs w fun v' w' => ∃ m' : Bc, (m.ext h.size m') ∧ Rel C.P w0 m' h' w' ∧ VR m' v v' := by
    intro e fr1 h1 he hx hres
    simp only [Option.map_eq_some_iff, Prod.mk.injEq] at hres
    obtain ⟨u, hu, rfl, rfl⟩ := hres
    refine ⟨(NW hS c hok hx).1, fun w0 m w cargs hz r hv => ?_⟩
    unfold Dq
    rw [Fs hfn hn hc]
    simp only
    have hlen : args.length = cargs.size := by rw [hv.1]; simp
    refine Lh hfn hc (Qa hC hS c hok hx hz r ⟨by simp [hlen], fun i => ?_⟩ (Mk.nil m) (fun m1 a1 w1 g1 g2 g3 g4 => ?_))
    ·rw [KT, List.getD_eq_getElem?_getD]
     simp only [Array.getD_eq_getD_getElem?]
     by_cases hi : i < args.length
     ·rw [List.getElem?_append_left hi, Array.getElem?_append_left (by omega)]
      rw [List.getElem?_eq_getElem hi, Array.getElem?_eq_getElem (by omega)]
      exact hv.2 i _ _ (List.getElem?_eq_getElem hi) (by simp [← hlen, hi])
     ·rw [List.getElem?_append_right (by omega), Array.getElem?_append_right (by omega)]
      rw [List.getElem?_replicate, Array.getElem?_replicate, hlen]
      split
      ·exact VR.IS m
      ·exact VR.IS m
    ·have fin : LeavesInM Fence.wide 0 C.P fn a1.tmps (fun e w' => ∃ v', e = .returned v' ∧ ∃ m' : Bc, (m.ext h.size m') ∧ Rel C.P w0 m' h1 w' ∧ VR m' u v') a1.defers .returning w1 := by
      obtain ⟨_, rs, e1, e2, e3⟩ := g4
      rw [e1]
      refine Js rs e2 m1 w1 g2 (fun r hr => (e3 r hr).1) fun m2 w2 d1 d2 d3 d4 => ?_
      have hle : m1.le m2 := ⟨fun id E hE => by rw [d1]; exact hE, fun g o v hv => by rw [d2]; exact hv⟩
      obtain ⟨v', q1, q2⟩ := K5 d4 (g3.mono hle) hu
      exact ⟨v', q1, v', rfl, m2, ⟨fun id hid => by rw [d1]; exact g1.i id hid, fun g o v hv => by rw [d2]; exact g1.fz g o v hv, fun g hg => d3 g (g1.df g hg) fun hm => (e3 g hm).2 hg⟩, d4, q2⟩
     rcases he with rfl | rfl
     ·exact fin
     ·exact fin
   split at hb
   ·rename_i fr1 h1 hx; exact main .normal fr1 h1 (.inl rfl) hx hb
   ·rename_i fr1 h1 hx; exact main .ret fr1 h1 (.inr rfl) hx hb
   ·cases hb
theorem Dq.mono {P : Program} {f : FuncId} {args : Array Value} {w : World} {Q Q' : Value → World → Prop} (h : Dq P f args w Q) (hq : ∀ v w', Q v w' → Q' v w') : Dq P f args w Q' := by
 unfold Dq at *
 split at h
 ·exact hq _ _ h
 ·exact h.mono fun e w'' ⟨v, h1, h2⟩ => ⟨v, h1, hq _ _ h2⟩
 ·exact h.elim
def PC (P : Program) (g : Gd) (f : AJ → AB → Option (AB × AJ)) : Prop := ∀ (h : AJ) (v v' : AB) (h' : AJ), f h v = some (v', h') → BY g h h' ∧ ∀ w0 (m : Bc) w u, Rel P w0 m h w → VR m v u → ∃ m' : Bc, m.ext h.size m' ∧ Rel P w0 m' h' w ∧ VR m' v' u
theorem QL {P : Program} (g : Gd) : PC P g (Fl g) := fun h v v' h' hf => ⟨OF hf, fun w0 m w u r hv => Nv hf w0 m w u r hv⟩
theorem MD {P : Program} {g : Gd} {f : AJ → AB → Option (AB × AJ)} (hf : PC P g f) : ∀ (vs : List AB) (h : AJ) (vs' : List AB) (h' : AJ), Ih f vs h = some (vs', h') →
  BY g h h' ∧ ∀ w0 (m : Bc) w us, Rel P w0 m h w → Cr m vs us → ∃ m' : Bc, m.ext h.size m' ∧ Rel P w0 m' h' w ∧ Cr m' vs' us
 | [], h, vs', h', hx => by
  simp only [Ih, Option.some.injEq, Prod.mk.injEq] at hx
  obtain ⟨rfl, rfl⟩ := hx
  exact ⟨BY.refl _ _, fun w0 m w us r hv => ⟨m, Bc.ext.refl _ _, r, hv⟩⟩
 | v :: vs, h, vs', h', hx => by
  unfold Ih at hx
  split at hx
  ·rename_i v1 h1 h1e
   simp only [Option.map_eq_some_iff, Prod.mk.injEq] at hx
   obtain ⟨⟨l, h2⟩, hl, rfl, rfl⟩ := hx
   obtain ⟨k1, q1⟩ := hf h v v1 h1 h1e
   obtain ⟨k2, q2⟩ := MD hf vs h1 l h2 hl
   refine ⟨k1.trans k2, fun w0 m w us r hv => ?_⟩
   cases us with
   | nil => simp [Cr] at hv
   | cons u us =>
    have hc := hv.2 0 v u rfl rfl
    have hv' : Cr m vs us := ⟨by simpa using hv.1, fun i x y hx hy => hv.2 (i + 1) x y (by simpa using hx) (by simpa using hy)⟩
    obtain ⟨m1, e1, e2, e3⟩ := q1 w0 m w u r hc
    obtain ⟨m2, g1, g2, g3⟩ := q2 w0 m1 w us e2 (hv'.mono (r.PS e1))
    exact ⟨m2, e1.trans g1 k1.1, g2, .cons (e3.mono (e2.PS g1)) g3⟩
  ·cases hx
theorem P1 {P : Program} (g : Gd) : PC P g (Mx g) := by
 intro h v v' h' hf
 unfold Mx at hf
 split at hf
 ·simp only [Option.map_eq_some_iff, Prod.mk.injEq] at hf
  obtain ⟨⟨l, h2⟩, hl, rfl, rfl⟩ := hf
  obtain ⟨k1, q1⟩ := MD (QL g) _ h l h2 hl
  refine ⟨k1, fun w0 m w u r hv => ?_⟩
  obtain ⟨c, rfl, vc⟩ := hv.Fi
  obtain ⟨m1, e1, e2, e3⟩ := q1 w0 m w _ r vc
  exact ⟨m1, e1, e2, Cr.agg e3⟩
 ·exact QL g h v v' h' hf
theorem Sd {P : Program} (g : Gd) : PC P g (Oi g) := by
 intro h v v' h' hf
 unfold Oi at hf
 split at hf
 ·simp only [Option.map_eq_some_iff, Prod.mk.injEq] at hf
  obtain ⟨⟨l, h2⟩, hl, rfl, rfl⟩ := hf
  obtain ⟨k1, q1⟩ := MD (P1 g) _ h l h2 hl
  refine ⟨k1, fun w0 m w u r hv => ?_⟩
  obtain ⟨c, rfl, vc⟩ := hv.LC
  obtain ⟨m1, e1, e2, e3⟩ := q1 w0 m w _ r vc
  exact ⟨m1, e1, e2, Cr.tuple e3⟩
 ·exact P1 g h v v' h' hf
theorem Sn {P : Program} (g : Gd) : PC P g (KU g) := by
 intro h v v' h' hf
 unfold KU at hf
 split at hf
 ·rename_i id
  split at hf
  ·rename_i cs hg
   cases hm : g.may id with
   | false => rw [hm] at hf; cases hf
   | true =>
    rw [hm] at hf
    simp only [cond_true, Option.map_eq_some_iff, Prod.mk.injEq] at hf
    obtain ⟨⟨l, h2⟩, hl, rfl, rfl⟩ := hf
    obtain ⟨k1, q1⟩ := MD (QL g) _ _ l h2 hl
    refine ⟨(BY.set hg hm).trans k1, fun w0 m w u r hv => ?_⟩
    cases hv with
    | ptr _ _ E hE =>
     obtain ⟨cur, r', hle', _, _, hcs⟩ := r.freeze hE hg
     have hus : Cr (m.still E.g cur) cs ((List.range cs.length).map fun i => (cur[E.base + i]?).getD undef) := by
      refine ⟨by simp, fun i x y hx hy => ?_⟩
      have hi : i < cs.length := (List.getElem?_eq_some_iff.1 hx).1
      obtain ⟨c, h1, h3⟩ := hcs i x hx
      simp only [List.getElem?_map, List.getElem?_range hi, Option.map_some, Option.some.injEq] at hy
      rw [← hy, h1]
      exact h3.mono hle'
     obtain ⟨m2, e1, e2, e3⟩ := q1 w0 (m.still E.g cur) w _ r' hus
     have hlen : l.length = cs.length := by rw [e3.1]; simp
     have e0 : m.ext h.size (m.still E.g cur) := ⟨fun _ _ => rfl, hle'.fz, fun _ h => h⟩
     refine ⟨m2, e0.trans e1 (by simp), e2, .BR _ _ l (fun i => (cur[E.base + i]?).getD undef) (fun i hi => e1.fz _ _ _ ?_) (fun i x hx => ?_)⟩
     ·obtain ⟨c, h1, _⟩ := hcs i _ (List.getElem?_eq_getElem (by omega))
      simp [Bc.still, h1]
     ·have hi : i < cs.length := by rw [← hlen]; exact (List.getElem?_eq_some_iff.1 hx).1
      exact e3.2 i x _ hx (by simp [hi])
  ·cases hf
 ·exact P1 g h v v' h' hf
theorem SS {P : Program} (g : Gd) : PC P g (Qy g) := by
 intro h v v' h' hf
 unfold Qy at hf
 split at hf
 ·simp only [Option.map_eq_some_iff, Prod.mk.injEq] at hf
  obtain ⟨⟨l, h2⟩, hl, rfl, rfl⟩ := hf
  obtain ⟨k1, q1⟩ := MD (Sn g) _ h l h2 hl
  refine ⟨k1, fun w0 m w u r hv => ?_⟩
  obtain ⟨c, rfl, vc⟩ := hv.LC
  obtain ⟨m1, e1, e2, e3⟩ := q1 w0 m w _ r vc
  exact ⟨m1, e1, e2, Cr.tuple e3⟩
 ·exact Sn g h v v' h' hf
theorem Qs (hC : Hy C) (hS : Hm C n S) : Pg C.P C.D9 (H0 C S) := by
 intro g h f args v h' hc
 unfold H0 at hc
 split at hc
 ·rename_i hk
  obtain ⟨k1, k2⟩ := He hC hS (.inl hk) hc
  exact ⟨k1, fun w0 m w cargs hz r hv => k2 w0 m w cargs hz r (hv.Ba _)⟩
 ·rename_i hk
  split at hc
  ·rename_i u h1 hb
   obtain ⟨k1, k2⟩ := He hC hS (.inr (.inl hk)) hb
   cases hfl : MW u with
   | false => rw [hfl] at hc; cases hc
   | true =>
    rw [hfl] at hc
    simp only [cond_true, Option.some.injEq, Prod.mk.injEq] at hc
    obtain ⟨rfl, rfl⟩ := hc
    refine ⟨BY.refl _ _, fun w0 m w cargs hz r hv => (k2 w0 m w cargs hz r hv).mono fun v' w' ⟨m', g1, g2, g3⟩ => ?_⟩
    refine ⟨m.with m', Bc.T3 g1 _, r.back g1 (fun id hid => k1.2 id hid ?_) g2, g3.MW hfl⟩
    have : Nat.ble h.size id = false := by
     cases hb : Nat.ble h.size id with
     | false => rfl
     | true => have := Nat.le_of_ble_eq_true hb; omega
    simp [Gd.may, this]
  ·cases hc
 ·rename_i hk
  have := hC.ext f hk g h f args v h' (by simpa using hc)
  exact this
 ·rename_i hk
  cases hfa : args.all Ij with
  | false => rw [hfa] at hc; cases hc
  | true =>
   rw [hfa] at hc
   simp only [cond_true] at hc
   split at hc
   ·rename_i u h1 hb
    obtain ⟨k1, k2⟩ := He hC hS (by omega) hb
    cases hfl : MW u with
    | false => rw [hfl] at hc; cases hc
    | true =>
     rw [hfl] at hc
     simp only [cond_true, Option.some.injEq, Prod.mk.injEq] at hc
     obtain ⟨rfl, rfl⟩ := hc
     refine ⟨BY.refl _ _, fun w0 m w cargs hz r hv => ?_⟩
     have hv0 : Cr ⟨fun _ => none, fun _ _ => none, fun _ => False⟩ args cargs.toList := ⟨hv.1, fun i x y hx hy => (hv.2 i x y hx hy).Ij (List.all_eq_true.1 hfa x (List.mem_of_getElem? hx))⟩
     have r0 : Rel C.P w ⟨fun _ => none, fun _ _ => none, fun _ => False⟩ ⟨0, .leaf⟩ w := ⟨Below.refl _ _, fun id E hE => by simp at hE, fun id E o hE => by simp at hE, fun id E o hE => by simp at hE, fun id id' E E' o o' _ hE => by simp at hE, fun g o v hv => (by cases hv), fun id E o hE => (by simp at hE), fun g hg => hg.elim, fun id E o hE => by simp at hE⟩
     refine (k2 w _ w cargs (hz.later r.below) r0 hv0).mono fun v' w' ⟨m', g1, g2, g3⟩ => ⟨m, Bc.ext.refl _ _, r.later g2.below, g3.MW hfl⟩
   ·cases hc
  done
 ·rename_i hk
  split at hc
  ·rename_i u h1 hb
   obtain ⟨k1, k2⟩ := He hC hS (by omega) hb
   refine ⟨k1.trans (Sd (P := C.P) g h1 u v h' hc).1, fun w0 m w cargs hz r hv => (k2 w0 m w cargs hz r (hv.Ba _)).mono fun v' w' ⟨m', g1, g2, g3⟩ => ?_⟩
   obtain ⟨m2, e1, e2, e3⟩ := (Sd (P := C.P) g h1 u v h' hc).2 _ m' w' v' g2 g3
   exact ⟨m2, g1.trans e1 k1.1, e2, e3⟩
  ·cases hc
 ·rename_i hk
  obtain ⟨k1, k2⟩ := QS hC hS hk hc
  exact ⟨k1, fun w0 m w cargs hz r hv => k2 w0 m w cargs hz r (hv.Ba _)⟩
 ·rename_i hk
  split at hc
  ·rename_i u h1 hb
   obtain ⟨k1, k2⟩ := He hC hS (by omega) hb
   refine ⟨k1.trans (SS (P := C.P) g h1 u v h' hc).1, fun w0 m w cargs hz r hv => (k2 w0 m w cargs hz r (hv.Ba _)).mono fun v' w' ⟨m', g1, g2, g3⟩ => ?_⟩
   obtain ⟨m2, e1, e2, e3⟩ := (SS (P := C.P) g h1 u v h' hc).2 _ m' w' v' g2 g3
   exact ⟨m2, g1.trans e1 k1.1, e2, e3⟩
  ·cases hc
 ·cases hc
theorem Nz (hC : Hy C) : ∀ n, Hm C n (Da C n)
 | 0 => ⟨⟨fun g h f args v h' hc => by simp [Da] at hc, fun g h l args v h' hc => by simp [Da] at hc⟩, fun g f c fr h e fr' h' _ hx => by simp [Da] at hx, fun g f c fr h e fr' h' _ hx => by simp [Da] at hx⟩
 | n + 1 => by
  have ih := Nz hC n
  refine ⟨⟨Qs hC ih, P8 hC ih⟩, fun g f c fr h e fr' h' hok hx => ?_, fun g f c fr h e fr' h' hok hx w0 mS m w a Q hz r hf hk0 hQ rd hrd => ?_⟩
  ·exact FL ih (.loop c) (by simpa [codeOk] using hok) hx
  ·exact QD hC ih hok hx hz r hf hk0 hQ rd hrd
theorem SE (hC : Hy C) {n : Nat} {g : Gd} {h h' : AJ} {f : FuncId} {args : List AB} {v : AB} (hr : Ww C n g h f args = some (v, h')) {w0 : World} {m : Bc} {w : World} {cargs : Array Value} (hz : Cn C.D9 w0) (r : Rel C.P w0 m h w) (hv : Cr m args cargs.toList) :
  Dq C.P f cargs w fun v' w' => ∃ m' : Bc, (m.ext h.size m') ∧ Rel C.P w0 m' h' w' ∧ VR m' v v' :=
 ((Nz hC n).sub.call g h f args v h' hr).2 w0 m w cargs hz r hv
theorem R6 (hC : Hy C) {n : Nat} {g : Gd} {h h' : AJ} {f : FuncId} {args : List AB} {v : AB} (hr : Ww C n g h f args = some (v, h')) {fn : Func} {c : Code} (hfn : C.P.funcs[f]? = some fn) (hn : (fn.name == "runtime.NumGoroutine") = false) (hb : fn.body = some c)
  {w0 : World} {m : Bc} {w : World} {cargs : Array Value} (hz : Cn C.D9 w0) (r : Rel C.P w0 m h w) (hv : Cr m args cargs.toList) :
  Calls C.P f cargs w fun e w' => ∃ v', e = .returned v' ∧ ∃ m' : Bc, (m.ext h.size m') ∧ Rel C.P w0 m' h' w' ∧ VR m' v v' := by
 have := SE hC hr hz r hv
 unfold Dq at this
 rw [Fs hfn hn hb] at this
 exact this
end
end Go.Av
