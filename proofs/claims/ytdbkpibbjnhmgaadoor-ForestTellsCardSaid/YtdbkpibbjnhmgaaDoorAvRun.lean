/-
 A part.
-/
import Derived.Test.YtdbkpibbjnhmgaaDoorAvDraw
import Derived.Test.YtdbkpibbjnhmgaaDoorAvSel
import Derived.Test.YtdbkpibbjnhmgaaDoorAvMs
import Derived.RangeFuncRecord
namespace Go.Av
set_option linter.unusedVariables false
set_option linter.unusedSimpArgs false
open Go.RowKit
def codeOk (C : EP) (f : FuncId) : Code → Bool
 | .region id ops draw => !draw || Lf C.P ops (C.Ib f id)
 | .seq a b => codeOk C f a && codeOk C f b
 | .cond _ a b => codeOk C f a && codeOk C f b
 | .block _ c => codeOk C f c
 | .loop c => codeOk C f c
 | .scope c => codeOk C f c
 | .rangeFunc _ _ a b => codeOk C f a && codeOk C f b
 | _ => true
def FI : Code → Bool
 | .seq a b => FI a && FI b
 | .cond _ a b => FI a && FI b
 | .block _ c => FI c
 | .loop c => FI c
 | .scope c => FI c
 | .rangeFunc .. => false
 | _ => true
structure E9 (C : EP) : Prop where
 mix : C.P.follows .mixedOrders = true
 code : ∀ f fn c, (C.kind f = 1 ∨ C.kind f = 2 ∨ C.kind f = 4 ∨ C.kind f = 7 ∨ C.kind f = 8 ∨ C.kind f = 9 ∨ C.kind f = 10 ∨ C.kind f = 11) → C.P.funcs[f]? = some fn → fn.body = some c → (fn.name == "runtime.NumGoroutine") = false ∧ codeOk C f c = true
 Rs : ∀ f a b, C.Rs f a b = true → codeOk C f a = true ∧ codeOk C f b = true ∧ FI a = true ∧ FI b = true
 ext : ∀ f, C.kind f = 3 → Nn C.P C.CM fun g h f' args => if f' = f then C.ext f g h args else none
def BL.to : BL → Exit
 | .normal => .normal
 | .exit id => .exit id
 | .ret => .ret
def mark (r : Nat) : Deferred := { target := .collected r, args := #[] }
def Mk (mS m : AU) (ds : List Deferred) : Prop := (∀ g x, mS.df g x → m.df g x) ∧ ∃ rs : List Nat, ds = rs.map mark ∧ rs.Nodup ∧ ∀ r ∈ rs, m.df r (.deferred (some [])) ∧ ∀ x, ¬ mS.df r x
theorem Mk.nil (m : AU) : Mk m m [] := ⟨fun _ _ h => h, [], rfl, List.nodup_nil, fun r h => by cases h⟩
theorem Mk.ext {mS m m' : AU} {n : Nat} {ds : List Deferred} (h : Mk mS m ds) (k : m.ext n m') : Mk mS m' ds := by
 obtain ⟨h1, rs, h2, h3, h4⟩ := h
 exact ⟨fun g x hg => k.df g x (h1 g x hg), rs, h2, h3, fun r hr => ⟨k.df r _ (h4 r hr).1, (h4 r hr).2⟩⟩
def HE (P : Program) (w0 : World) (mS m : AU) (n : Nat) (e : BL) (fr' : Fr) (h' : AB) (Q : Exit → Act → World → Prop) : Prop :=
 ∀ m' a' w', (m.ext n m') → Rel P w0 m' h' w' → FR m' fr' a' → Mk mS m' a'.defers → Q e.to a' w'
structure De (C : EP) (n : Nat) (S : Self) : Prop where
 sub : Fe C.P C.CM S
 keeps : ∀ g f c fr h e fr' h', codeOk C f c = true → S.loop g f c fr h = some (e, fr', h') → AN g h h' ∧ fr'.length = fr.length
 loop : ∀ g f c fr h e fr' h', codeOk C f c = true → S.loop g f c fr h = some (e, fr', h') → ∀ w0 mS m w a Q, BO C.CM w0 → Rel C.P w0 m h w → FR m fr a → Mk mS m a.defers → HE C.P w0 mS m h.size e fr' h' Q → ∀ rd : Option Nat, rd = none ∨ FI c = true → Code.roundsIn (FW rd) 0 C.P c Q n a w
section
variable {C : EP} {S : Self} {n : Nat}
theorem Bs (hS : De C n S) {f : FuncId} {g : Gd} : ∀ (c : Code), codeOk C f c = true → ∀ {fr : Fr} {h : AB} {e : BL} {fr' : Fr} {h' : AB}, Aa C S f g c fr h = some (e, fr', h') → AN g h h' ∧ fr'.length = fr.length := by
 intro c
 induction c with
 | skip => intro _ fr h e fr' h' hx; simp only [Aa, Option.some.injEq, Prod.mk.injEq] at hx; obtain ⟨_, rfl, rfl⟩ := hx; exact ⟨AN.refl _ _, rfl⟩
 | label l => intro _ fr h e fr' h' hx; simp only [Aa, Option.some.injEq, Prod.mk.injEq] at hx; obtain ⟨_, rfl, rfl⟩ := hx; exact ⟨AN.refl _ _, rfl⟩
 | exit id => intro _ fr h e fr' h' hx; simp only [Aa, Option.some.injEq, Prod.mk.injEq] at hx; obtain ⟨_, rfl, rfl⟩ := hx; exact ⟨AN.refl _ _, rfl⟩
 | ret => intro _ fr h e fr' h' hx; simp only [Aa, Option.some.injEq, Prod.mk.injEq] at hx; obtain ⟨_, rfl, rfl⟩ := hx; exact ⟨AN.refl _ _, rfl⟩
 | goto l => intro _ fr h e fr' h' hx; simp [Aa] at hx
 | refuse s => intro _ fr h e fr' h' hx; simp [Aa] at hx
 | rangeFunc x ps a b iha ihb =>
  intro _ fr h e fr' h' hx
  simp only [Aa] at hx
  split at hx
  ·rename_i f' first cap hev
   cases hbd : I7 C.P f' with
   | false => rw [hbd] at hx; cases hx
   | true =>
    rw [hbd] at hx
    simp only [Bool.not_true, cond_false] at hx
    split at hx
    ·rename_i v0 h2 hc
     have k1 := (hS.sub.call _ _ _ _ _ _ hc).1
     split at hx
     ·rename_i st pend f2 fr2 ps2 a2 b2 hg
      cases hst : (Nat.beq st 1 || !g.may h.size) with
      | true => rw [hst] at hx; cases hx
      | false =>
       rw [hst] at hx
       simp only [cond_false] at hx
       simp only [Bool.or_eq_false_iff, Bool.not_eq_false'] at hst
       have k : AN g h (h2.set h.size (.loop 3 pend f2 fr2 ps2 a2 b2)) := ((AN.push g h _).trans k1).trans (AN.set hg hst.2)
       split at hx
       ·injection hx with hx; injection hx with e1 e2; injection e2 with e2 e3; subst e2; subst e3; exact ⟨k, rfl⟩
       ·injection hx with hx; injection hx with e1 e2; injection e2 with e2 e3; subst e2; subst e3; exact ⟨k, rfl⟩
       ·injection hx with hx; injection hx with e1 e2; injection e2 with e2 e3; subst e2; subst e3; exact ⟨k, rfl⟩
       ·cases hx
     ·cases hx
    ·cases hx
  ·cases hx
 | region id ops draw =>
  intro hok fr h e fr' h' hx
  simp only [Aa] at hx
  cases draw with
  | true =>
   simp only [cond_true] at hx
   split at hx
   ·rename_i fr1 h1 hr
    simp only [Option.some.injEq, Prod.mk.injEq] at hx
    obtain ⟨_, rfl, rfl⟩ := hx
    exact MM (by simpa [codeOk] using hok) hS.sub hr
   ·cases hx
  | false =>
   simp only [cond_false] at hx
   split at hx
   ·rename_i fr1 h1 hr
    simp only [Option.some.injEq, Prod.mk.injEq] at hx
    obtain ⟨_, rfl, rfl⟩ := hx
    exact CR hS.sub _ hr
   ·cases hx
 | seq a b iha ihb =>
  intro hok fr h e fr' h' hx
  simp only [codeOk, Bool.and_eq_true] at hok
  simp only [Aa] at hx
  split at hx
  ·rename_i fr1 h1 ha
   obtain ⟨k1, k2⟩ := iha hok.1 ha
   obtain ⟨k3, k4⟩ := ihb hok.2 hx
   exact ⟨k1.trans k3, k4.trans k2⟩
  ·exact iha hok.1 hx
 | cond c a b iha ihb =>
  intro hok fr h e fr' h' hx
  simp only [codeOk, Bool.and_eq_true] at hok
  simp only [Aa] at hx
  split at hx
  ·exact iha hok.1 hx
  ·exact ihb hok.2 hx
  ·cases hx
 | block id c ih =>
  intro hok fr h e fr' h' hx
  simp only [codeOk] at hok
  simp only [Aa] at hx
  split at hx
  ·rename_i i fr1 h1 ha
   have hk := ih hok ha
   cases hb : Nat.beq i id <;> rw [hb] at hx <;> simp only [cond_true, cond_false, Option.some.injEq, Prod.mk.injEq] at hx <;> obtain ⟨_, rfl, rfl⟩ := hx <;> exact hk
  ·exact ih hok hx
 | loop c ih =>
  intro hok fr h e fr' h' hx
  simp only [codeOk] at hok
  simp only [Aa] at hx
  split at hx
  ·rename_i fr1 h1 ha
   obtain ⟨k1, k2⟩ := ih hok ha
   obtain ⟨k3, k4⟩ := hS.keeps g f c fr1 h1 e fr' h' hok hx
   exact ⟨k1.trans k3, k4.trans k2⟩
  ·exact ih hok hx
 | scope c ih =>
  intro hok fr h e fr' h' hx
  simp only [codeOk] at hok
  simp only [Aa] at hx
  exact ih hok hx
theorem HE.trans {P : Program} {w0 : World} {mS m m1 : AU} {k k1 : Nat} {e : BL} {fr' : Fr} {h' : AB} {Q : Exit → Act → World → Prop} (hQ : HE P w0 mS m k e fr' h' Q) (hk : k ≤ k1) (h1 : m.ext k m1) : HE P w0 mS m1 k1 e fr' h' Q :=
 fun m' a' w' g1 g2 g3 g4 => hQ m' a' w' (h1.trans g1 hk) g2 g3 g4
theorem C3 {P : Program} {f : FuncId} {fn : Func} {c : Code} (hf : P.funcs[f]? = some fn) (hn : (fn.name == "runtime.NumGoroutine") = false) (hb : fn.body = some c) (args : Array Value) (w : World) :
  (callFunc f args).run P w = .ok (.enter f args) w := by
 unfold callFunc
 simp only [Sem.run_bind, program, Sem.run, Result.andThen_ok, hf]
 simp [hn, hb]
theorem Kb (w : World) (g : Nat) (o : Obj) : Ch w (w.putObj g o) g := ⟨rfl, rfl, rfl, by simp [World.putObj], fun k hk hne => by simp [World.putObj, Ne.symm hne]⟩
theorem Pe {w : World} {g : Nat} (o : Obj) (h : g < w.heap.size) : (w.putObj g o).heap[g]? = some o := by simp [World.putObj, h]
theorem Rel.loop {P : Program} {w0 : World} {m : AU} {h : AB} {w : World} (r : Rel P w0 m h w) {l : Nat} {E : HQ} {st : Nat} {pend : Option Code} {f : FuncId} {fr : List AA} {ps : List Tmp} {a b : Code} (hE : m.i l = some E) (hg : h.get l = some (.loop st pend f fr ps a b)) :
  ∃ rec : Loop, w.heap[E.g]? = some (.loop rec) ∧ rec.state = T4 st ∧ rec.pending = pend ∧ rec.params = ps.toArray ∧ rec.assign = a ∧ rec.body = b ∧ fr.length = rec.tmps.size ∧ (∀ i, VR m (nth fr i) (rec.tmps.getD i undef)) ∧
   ∀ st' pend' rec', rec'.state = T4 st' → rec'.pending = pend' → rec'.params = rec.params → rec'.assign = rec.assign → rec'.body = rec.body → rec'.tmps = rec.tmps → Rel P w0 m (h.set l (.loop st' pend' f fr ps a b)) (w.putObj E.g (.loop rec')) := by
 obtain ⟨tm, d, fn, h1, h2, h3⟩ := r.obj l E _ hE hg
 refine ⟨_, h1, rfl, rfl, rfl, rfl, rfl, h2, h3, fun st' pend' rec' e1 e2 e3 e4 e5 e6 => ?_⟩
 have hlt : E.g < w.heap.size := (Array.getElem?_eq_some_iff.1 h1).1
 refine r.write hE hg rfl rfl (Kb w E.g _) ⟨tm, rec'.defers, rec'.fn, ?_, h2, h3⟩
 rw [Pe _ hlt]
 obtain ⟨s, p, f, t, pr, as, bo, de⟩ := rec'
 simp only at e1 e2 e3 e4 e5 e6
 subst e1; subst e2; subst e3; subst e4; subst e5; subst e6
 rfl
def AU.Mo (m : AU) (g : Nat) : AU := ⟨m.i, m.fz, fun k x => m.df k x ∨ (k = g ∧ x = .deferred (some []))⟩
theorem AU.Lb (m : AU) (g : Nat) : m.le (m.Mo g) := ⟨fun _ _ h => h, fun _ _ _ h => h⟩
theorem Rel.WW {P : Program} {w0 : World} {m : AU} {h : AB} {w : World} (r : Rel P w0 m h w) : Rel P w0 (m.Mo w.heap.size) h (w.alloc (.deferred (some []))) := by
 have ht := Ch.alloc w (.deferred (some [])) w.heap.size
 have hnew : (w.alloc (.deferred (some []))).heap[w.heap.size]? = some (.deferred (some [])) := heap_alloc_new w _
 have FY : ∀ k, k < w.heap.size → (w.alloc (.deferred (some []))).heap[k]? = w.heap[k]? := fun k hk => ht.block k hk (by omega)
 refine ⟨ht.below r.below r.size r.size, r.Ku, fun id E o hE ho => (r.obj id E o hE ho).mono (AU.Lb m _) fun hl => FY _ ((r.obj id E o hE ho).lt hl), r.own, r.sep, fun g o v hv => ?_, r.GX, fun g x hg => ?_, fun id E o hE ho hl x hd => ?_⟩
 ·obtain ⟨cur, e, z, h1, h2⟩ := r.fz g o v hv
  exact ⟨cur, e, z, by rw [FY g (r.Ml hv)]; exact h1, h2⟩
 ·rcases hg with hg | ⟨rfl, rfl⟩
  ·exact ⟨(r.df g x hg).1, by rw [FY g (r.IU hg)]; exact (r.df g x hg).2⟩
  ·exact ⟨r.size, hnew⟩
 ·rcases hd with hd | ⟨hd, _⟩
  ·exact r.ME id E o hE ho hl x hd
  ·have := (r.obj id E o hE ho).lt hl; omega
theorem Gy : ∀ (ps : List Tmp) (vs : List AA) (fr : Fr), (GZ ps vs fr).length = fr.length
 | [], _, fr => rfl
 | _ :: _, [], fr => rfl
 | p :: ps, v :: vs, fr => by rw [GZ, Gy ps vs]; simp
theorem KY {m : AU} : ∀ (ps : List Tmp) (vs : List AA) (us : List Value) (fr : Fr) (tmps : Array Value) (d : List Deferred), BU m vs us → FR m fr { tmps := tmps, defers := d } →
  FR m (GZ ps vs fr) { tmps := (ps.zip us).foldl (fun tmps (t, a) => tmps.setIfInBounds t a) tmps, defers := d }
 | [], vs, us, fr, tmps, d, _, hf => by simpa [GZ] using hf
 | p :: ps, [], us, fr, tmps, d, hv, hf => by
  have : us = [] := List.eq_nil_of_length_eq_zero (by simpa using hv.1.symm)
  subst this
  simpa [GZ] using hf
 | p :: ps, v :: vs, [], fr, tmps, d, hv, hf => by simp [BU] at hv
 | p :: ps, v :: vs, u :: us, fr, tmps, d, hv, hf => by
  have hc := hv.2 0 v u rfl rfl
  have hv' : BU m vs us := ⟨by simpa using hv.1, fun i x y hx hy => hv.2 (i + 1) x y (by simpa using hx) (by simpa using hy)⟩
  simp only [GZ, List.zip_cons_cons, List.foldl_cons]
  exact KY ps vs us _ _ d hv' (hf.put (some p) hc)
theorem DQ (hC : E9 C) (hS : De C n S) {f : FuncId} {g : Gd} : ∀ (c : Code), codeOk C f c = true → ∀ {fr : Fr} {h : AB} {e : BL} {fr' : Fr} {h' : AB}, Aa C S f g c fr h = some (e, fr', h') →
  ∀ {w0 : World} {mS m : AU} {w : World} {a : Act} {Q : Exit → Act → World → Prop}, BO C.CM w0 → Rel C.P w0 m h w → FR m fr a → Mk mS m a.defers → HE C.P w0 mS m h.size e fr' h' Q → ∀ rd : Option Nat, rd = none ∨ FI c = true → c.wpIn (FW rd) 0 C.P Q a w := by
 intro c
 induction c with
 | skip => intro _ fr h e fr' h' hx w0 mS m w a Q hz r hf hk0 hQ rd hrd; simp only [Aa, Option.some.injEq, Prod.mk.injEq] at hx; obtain ⟨rfl, rfl, rfl⟩ := hx; exact wpIn_skip (hQ m a w (AU.ext.refl _ _) r hf hk0)
 | label l => intro _ fr h e fr' h' hx w0 mS m w a Q hz r hf hk0 hQ rd hrd; simp only [Aa, Option.some.injEq, Prod.mk.injEq] at hx; obtain ⟨rfl, rfl, rfl⟩ := hx; exact wpIn_label (hQ m a w (AU.ext.refl _ _) r hf hk0)
 | exit id => intro _ fr h e fr' h' hx w0 mS m w a Q hz r hf hk0 hQ rd hrd; simp only [Aa, Option.some.injEq, Prod.mk.injEq] at hx; obtain ⟨rfl, rfl, rfl⟩ := hx; exact wpIn_exit (hQ m a w (AU.ext.refl _ _) r hf hk0)
 | ret => intro _ fr h e fr' h' hx w0 mS m w a Q hz r hf hk0 hQ rd hrd; simp only [Aa, Option.some.injEq, Prod.mk.injEq] at hx; obtain ⟨rfl, rfl, rfl⟩ := hx; exact wpIn_ret (hQ m a w (AU.ext.refl _ _) r hf hk0)
 | goto l => intro _ fr h e fr' h' hx; simp [Aa] at hx
 | refuse s => intro _ fr h e fr' h' hx; simp [Aa] at hx
 | rangeFunc x ps ca cb iha ihb =>
  intro _ fr h e fr' h' hx w0 mS m w a Q hz r hf hk0 hQ rd hrd
  have hrd0 : rd = none := hrd.resolve_right (by simp [FI])
  subst hrd0
  simp only [Aa] at hx
  split at hx
  ·rename_i f' first cap hev
   cases hbd : I7 C.P f' with
   | false => rw [hbd] at hx; cases hx
   | true =>
    rw [hbd] at hx
    simp only [Bool.not_true, cond_false] at hx
    split at hx
    ·rename_i v0 h2 hc
     split at hx
     ·rename_i st pend f2 fr2 ps2 a2 b2 hg
      cases hst : (Nat.beq st 1 || !g.may h.size) with
      | true => rw [hst] at hx; cases hx
      | false =>
       rw [hst] at hx
       simp only [cond_false] at hx
       simp only [Bool.or_eq_false_iff, Bool.not_eq_false'] at hst
       have hv := hf.ev x
       rw [hev] at hv
       generalize hq : a.eval x = q at hv
       cases hv with
       | func _ _ _ fi ca' h1 h2' h3 h4 =>
        obtain ⟨ck, cs⟩ := hS.sub.call _ _ _ _ _ _ hc
        unfold I7 at hbd
        split at hbd
        ·rename_i fn0 hfn0
         simp only [Bool.and_eq_true, Bool.not_eq_true'] at hbd
         obtain ⟨c0, hc0⟩ := Option.isSome_iff_exists.1 hbd.1
         refine wpIn_rangeFunc fun fn _ => ?_
         obtain ⟨w1, hw1⟩ : ∃ w1, w1 = (w.alloc (.deferred (some []))).alloc (.loop { state := .ready, pending := none, fn, tmps := a.tmps, params := ps, assign := ca, body := cb, defers := w.heap.size }) := ⟨_, rfl⟩
         obtain ⟨E, hE⟩ : ∃ E : HQ, E = ⟨w.heap.size + 1, 0, 0, 0⟩ := ⟨_, rfl⟩
         have r0 := r.WW
         have hsz : (w.alloc (.deferred (some []))).heap.size = w.heap.size + 1 := World.size_alloc _ _
         have hEg : E.g = w.heap.size + 1 := by rw [hE]
         have hfresh : (m.Mo w.heap.size).i h.size = none := r0.fresh (Nat.le_refl _)
         have r1 : Rel C.P w0 ((m.Mo w.heap.size).upd h.size E) (h.push (.loop 0 none f fr ps.toList ca cb)) w1 := by
          refine r0.new (by rw [hw1]; exact Ch.alloc _ _ _) (by rw [hEg, hsz]) ⟨a.tmps, w.heap.size, fn, ?_, hf.1, fun i => (hf.2 i).mono (AU.le_trans (AU.Lb m _) (AU.GN E hfresh))⟩
          rw [hw1, hEg, ← hsz]
          exact heap_alloc_new _ _
         have hargs : BU ((m.Mo w.heap.size).upd h.size E) (first ++ ([.Fw h.size] ++ cap)) ((fi ++ #[Value.func (.yield (w.heap.size + 1)) #[] #[]]) ++ ca').toList := by
          have hle := AU.le_trans (AU.Lb m w.heap.size) (AU.GN E hfresh)
          simp only [Array.toList_append, List.append_assoc]
          refine BU.app ⟨by simpa using h1, fun i x y hx hy => (h2' i x y hx (by simpa using hy)).mono hle⟩ (BU.app (.cons ?_ (.nil _)) ⟨by simpa using h3, fun i x y hx hy => (h4 i x y hx (by simpa using hy)).mono hle⟩)
          have := VR.Fw (m := (m.Mo w.heap.size).upd h.size E) h.size E (AU.Ci _ _ E)
          rw [hEg] at this
          exact this
         have hi := cs w0 _ w1 _ hz r1 hargs
         unfold Bd at hi
         rw [C3 hfn0 hbd.2 hc0] at hi
         simp only at hi
         refine ⟨w.heap.size + 1, [mark w.heap.size], w1, { target := .fn (.func f') ca', args := fi ++ #[Value.func (.yield (w.heap.size + 1)) #[] #[]] }, w1, f', _, w1, ?_, ?_, fun _ _ => trivial, C3 hfn0 hbd.2 hc0 _ _, fun h => (by cases h), I8 (hi.mono fun en w2 hh => ?_)⟩
         ·rw [hw1]; exact run_enterLoop_outer fn a.tmps ps ca cb
         ·simp only [resolve, hq, Deferred.ofValue, Sem.run_pure]
          simp [Act.eval]
         ·obtain ⟨v', rfl, m2, g1, g2, g3⟩ := hh
          have hE2 : m2.i h.size = some E := by rw [g1.i h.size (by simp)]; exact AU.Ci _ _ E
          obtain ⟨rec, q1, q2, q3, q4, q5, q6, q7, q8, q9⟩ := g2.loop hE2 hg
          have hbusy : rec.state ≠ .busy := by
           rw [q2]
           have : st ≠ 1 := fun e => by rw [e] at hst; simp at hst
           unfold T4
           split <;> simp_all
          have hend := run_endLoop (P := C.P) q1 hbusy
          rw [hEg] at hend
          have r3 := q9 3 pend { rec with state := .exhausted } rfl q3 rfl rfl rfl rfl
          rw [hEg] at r3
          refine ⟨pend, w2.putObj (w.heap.size + 1) (.loop { rec with state := .exhausted }), hend.trans (congrArg (fun j => Result.ok j _) q3), ?_⟩
          have fin : HE C.P w0 mS m h.size e fr' h' Q → ∀ en : BL, (en, fr, h2.set h.size (.loop 3 pend f2 fr2 ps2 a2 b2)) = (e, fr', h') → Q en.to { a with defers := [mark w.heap.size] ++ a.defers } (w2.putObj (w.heap.size + 1) (.loop { rec with state := .exhausted })) := by
           intro hQ en he
           injection he with e1 e2
           injection e2 with e2 e3
           subst e1; subst e2; subst e3
           have hx0 : m.ext h.size m2 := ⟨fun i hi => by rw [g1.i i (by simp; omega), AU.JI _ _ (by omega)]; rfl, fun g o v hv => g1.fz g o v hv, fun g x hg => g1.df g x (.inl hg)⟩
           refine hQ m2 _ _ hx0 r3 ⟨hf.1, fun i => (hf.2 i).mono (r.Jh hx0)⟩ ?_
           obtain ⟨k1, rs, k2, k3, k4⟩ := hk0
           refine ⟨fun g x hg => hx0.df g x (k1 g x hg), w.heap.size :: rs, by simp [k2], List.nodup_cons.2 ⟨fun hm => ?_, k3⟩, fun r' hr' => ?_⟩
           ·have := r.IU (k4 _ hm).1; omega
           ·rcases List.mem_cons.1 hr' with rfl | hr'
            ·exact ⟨g1.df _ _ (.inr ⟨rfl, rfl⟩), fun x hd => by have := r.IU (k1 _ _ hd); omega⟩
            ·exact ⟨hx0.df _ _ (k4 _ hr').1, (k4 _ hr').2⟩
          split at hx
          ·injection hx with hx; exact fin hQ .normal hx
          ·injection hx with hx; exact wpIn_ret (fin hQ .ret hx)
          ·injection hx with hx; exact wpIn_exit (fin hQ (.exit _) hx)
          ·cases hx
        ·cases hbd
     ·cases hx
    ·cases hx
  ·cases hx
 | region id ops draw =>
  intro hok fr h e fr' h' hx w0 mS m w a Q hz r hf hk0 hQ rd hrd
  simp only [Aa] at hx
  cases draw with
  | true =>
   simp only [cond_true] at hx
   split at hx
   ·rename_i fr1 h1 hr
    simp only [Option.some.injEq, Prod.mk.injEq] at hx
    obtain ⟨rfl, rfl, rfl⟩ := hx
    exact MQ hC.mix (by simpa [codeOk] using hok) hS.sub hz r hf hr (fun m' a' w' g1 g2 g3 g4 => hQ m' a' w' g1 g2 g3 (by rw [g4]; exact hk0.ext g1)) rd
   ·cases hx
  | false =>
   simp only [cond_false] at hx
   split at hx
   ·rename_i fr1 h1 hr
    simp only [Option.some.injEq, Prod.mk.injEq] at hx
    obtain ⟨rfl, rfl, rfl⟩ := hx
    exact wpIn_region_list (Ed hS.sub hz _ r hf hr (fun m' a' w' g1 g2 g3 g4 => hQ m' a' w' g1 g2 g3 (by rw [g4]; exact hk0.ext g1)) rd)
   ·cases hx
 | seq x y iha ihb =>
  intro hok fr h e fr' h' hx w0 mS m w a Q hz r hf hk0 hQ rd hrd
  simp only [codeOk, Bool.and_eq_true] at hok
  simp only [Aa] at hx
  split at hx
  ·rename_i fr1 h1 ha
   have hk := (Bs hS x hok.1 ha).1
   refine wpIn_seq (iha hok.1 ha hz r hf hk0 (fun m1 a1 w1 g1 g2 g3 g4 => ?_) rd (hrd.imp (fun h => h) fun h => by simp only [FI, Bool.and_eq_true] at h; exact h.1))
   exact ihb hok.2 hx hz g2 g3 g4 (hQ.trans hk.1 g1) rd (hrd.imp (fun h => h) fun h => by simp only [FI, Bool.and_eq_true] at h; exact h.2)
  ·rename_i hne
   refine wpIn_seq (iha hok.1 hx hz r hf hk0 (fun m1 a1 w1 g1 g2 g3 g4 => ?_) rd (hrd.imp (fun h => h) fun h => by simp only [FI, Bool.and_eq_true] at h; exact h.1))
   have hq := hQ m1 a1 w1 g1 g2 g3 g4
   cases e with
   | normal => exact absurd hx (hne _ _)
   | exit id => exact hq
   | ret => exact hq
 | cond c x y iha ihb =>
  intro hok fr h e fr' h' hx w0 mS m w a Q hz r hf hk0 hQ rd hrd
  simp only [codeOk, Bool.and_eq_true] at hok
  simp only [Aa] at hx
  have hv := hf.ev c
  split at hx
  ·rename_i hc; rw [hc] at hv; exact wpIn_cond_true hv.Gc (iha hok.1 hx hz r hf hk0 hQ rd (hrd.imp (fun h => h) fun h => by simp only [FI, Bool.and_eq_true] at h; exact h.1))
  ·rename_i hc; rw [hc] at hv; exact wpIn_cond_false hv.Gc (ihb hok.2 hx hz r hf hk0 hQ rd (hrd.imp (fun h => h) fun h => by simp only [FI, Bool.and_eq_true] at h; exact h.2))
  ·cases hx
 | block id c ih =>
  intro hok fr h e fr' h' hx w0 mS m w a Q hz r hf hk0 hQ rd hrd
  simp only [codeOk] at hok
  simp only [Aa] at hx
  split at hx
  ·rename_i i fr1 h1 ha
   refine wpIn_block (ih hok ha hz r hf hk0 (fun m1 a1 w1 g1 g2 g3 g4 => ?_) rd (hrd.imp (fun h => h) fun h => by simpa [FI] using h))
   show (if i = id then Q .normal a1 w1 else Q (.exit i) a1 w1)
   cases hb : Nat.beq i id with
   | true =>
    rw [hb] at hx
    simp only [cond_true, Option.some.injEq, Prod.mk.injEq] at hx
    obtain ⟨rfl, rfl, rfl⟩ := hx
    rw [if_pos (Nat.eq_of_beq_eq_true hb)]
    exact hQ m1 a1 w1 g1 g2 g3 g4
   | false =>
    rw [hb] at hx
    simp only [cond_false, Option.some.injEq, Prod.mk.injEq] at hx
    obtain ⟨rfl, rfl, rfl⟩ := hx
    rw [if_neg (fun e => by rw [e, Nat.beq_refl] at hb; cases hb)]
    exact hQ m1 a1 w1 g1 g2 g3 g4
  ·rename_i hne
   refine wpIn_block (ih hok hx hz r hf hk0 (fun m1 a1 w1 g1 g2 g3 g4 => ?_) rd (hrd.imp (fun h => h) fun h => by simpa [FI] using h))
   have hq := hQ m1 a1 w1 g1 g2 g3 g4
   cases e with
   | normal => exact hq
   | exit i => exact absurd hx (hne _ _ _)
   | ret => exact hq
 | loop c ih =>
  intro hok fr h e fr' h' hx w0 mS m w a Q hz r hf hk0 hQ rd hrd
  simp only [codeOk] at hok
  simp only [Aa] at hx
  have hrd' : rd = none ∨ FI c = true := hrd.imp (fun h => h) fun h => by simpa [FI] using h
  refine wpIn_loop_rounds (n + 1) ?_
  rw [roundsIn_succ]
  split at hx
  ·rename_i fr1 h1 ha
   have hk := (Bs hS c hok ha).1
   refine ih hok ha hz r hf hk0 (fun m1 a1 w1 g1 g2 g3 g4 => ?_) rd hrd'
   exact hS.loop g f c fr1 h1 e fr' h' hok hx w0 mS m1 w1 a1 Q hz g2 g3 g4 (hQ.trans hk.1 g1) rd hrd'
  ·rename_i hne
   refine ih hok hx hz r hf hk0 (fun m1 a1 w1 g1 g2 g3 g4 => ?_) rd hrd'
   have hq := hQ m1 a1 w1 g1 g2 g3 g4
   cases e with
   | normal => exact absurd hx (hne _ _)
   | exit id => exact hq
   | ret => exact hq
 | scope c ih =>
  intro hok fr h e fr' h' hx w0 mS m w a Q hz r hf hk0 hQ rd hrd
  simp only [codeOk] at hok
  simp only [Aa] at hx
  refine QB (ih hok hx hz r hf hk0 (fun m1 a1 w1 g1 g2 g3 g4 => ?_) rd (hrd.imp (fun h => h) fun h => by simpa [FI] using h))
  have hq := hQ m1 a1 w1 g1 g2 g3 g4
  cases e with
  | normal => exact hq
  | exit i => exact hq
  | ret => exact hq
theorem M8 (hC : E9 C) (hS : De C n S) {f : FuncId} {g : Gd} {c : Code} (hok : codeOk C f c = true) {fr : Fr} {h : AB} {e : BL} {fr' : Fr} {h' : AB} (hx : Aa C S f g (.loop c) fr h = some (e, fr', h'))
  {w0 : World} {mS m : AU} {w : World} {a : Act} {Q : Exit → Act → World → Prop} (hz : BO C.CM w0) (r : Rel C.P w0 m h w) (hf : FR m fr a) (hk0 : Mk mS m a.defers) (hQ : HE C.P w0 mS m h.size e fr' h' Q) (rd : Option Nat) (hrd : rd = none ∨ FI c = true) : Code.roundsIn (FW rd) 0 C.P c Q (n + 1) a w := by
 simp only [Aa] at hx
 rw [roundsIn_succ]
 split at hx
 ·rename_i fr1 h1 ha
  have hk := (Bs hS c hok ha).1
  refine DQ hC hS c hok ha hz r hf hk0 (fun m1 a1 w1 g1 g2 g3 g4 => ?_) rd hrd
  exact hS.loop g f c fr1 h1 e fr' h' hok hx w0 mS m1 w1 a1 Q hz g2 g3 g4 (hQ.trans hk.1 g1) rd hrd
 ·rename_i hne
  refine DQ hC hS c hok hx hz r hf hk0 (fun m1 a1 w1 g1 g2 g3 g4 => ?_) rd hrd
  have hq := hQ m1 a1 w1 g1 g2 g3 g4
  cases e with
  | normal => exact absurd hx (hne _ _)
  | exit id => exact hq
  | ret => exact hq
theorem Nl (hC : E9 C) (hS : De C n S) : Qw C.P C.CM (GS C S) := by
 intro g h l args v h' hx
 unfold GS at hx
 split at hx
 ·rename_i pend f fr ps ca cb hg
  cases hb : (Nat.beq args.length ps.length && (g.may l && C.Rs f ca cb)) with
  | false => rw [hb] at hx; cases hx
  | true =>
   rw [hb] at hx
   simp only [cond_true] at hx
   simp only [Bool.and_eq_true] at hb
   obtain ⟨hlen, hmay, hrok⟩ := hb
   have hlen := Nat.eq_of_beq_eq_true hlen
   obtain ⟨ok1, ok2, nr1, nr2⟩ := hC.Rs f ca cb hrok
   split at hx
   ·rename_i fr1 h1 hx1
    have k1 := (Bs hS ca ok1 hx1).1
    split at hx
    ·rename_i pend1 f1 frr1 ps1 ca1 cb1 hg1
     have k2 : AN g h1 (h1.set l (.loop 1 pend1 f1 frr1 ps1 ca1 cb1)) := AN.set hg1 hmay
     have main : ∀ (e : BL) (fr2 : Fr) (h3 : AB) (j : Option Code), Aa C S f g cb fr1 (h1.set l (.loop 1 pend1 f1 frr1 ps1 ca1 cb1)) = some (e, fr2, h3) → DO g l j h3 = some (v, h') → (e = .normal ∧ j = none ∨ e = .ret ∧ j = some .ret ∨ ∃ i, e = .exit i ∧ j = some (.exit i)) →
       AN g h h' ∧ ∀ w0 m w (cargs : Array Value) E, BO C.CM w0 → Rel C.P w0 m h w → BU m args cargs.toList → m.i l = some E →
        ∃ f tmps a b, (Instr.yield E.g cargs).run C.P w = .ok (.round E.g f tmps a b) w ∧ RoundIn Fence.wide 0 C.P E.g f tmps a b w fun e w' => ∃ v', e = .returned v' ∧ ∃ m' : AU, (m.ext h.size m') ∧ Rel C.P w0 m' h' w' ∧ VR m' v v' := by
      intro e fr2 h3 j hx2 hend hej
      have k3 := (Bs hS cb ok2 hx2).1
      unfold DO at hend
      split at hend
      ·rename_i st3 pend3 f3 fr3 ps3 ca3 cb3 hg3
       rw [hmay] at hend
       simp only [cond_true, Option.some.injEq, Prod.mk.injEq] at hend
       obtain ⟨rfl, rfl⟩ := hend
       have k4 : AN g h3 (h3.set l (.loop (Wu j) j f3 fr3 ps3 ca3 cb3)) := AN.set hg3 hmay
       refine ⟨((k1.trans k2).trans k3).trans k4, fun w0 m w cargs E hz r hv hE => ?_⟩
       obtain ⟨rec, q1, q2, q3, q4, q5, q6, q7, q8, q9⟩ := r.loop hE hg
       have hsz : cargs.size = rec.params.size := by rw [q4]; have := hv.1; simp at this; simp; omega
       refine ⟨rec.fn, _, rec.assign, rec.body, run_yield q1 hsz, roundIn_of_wpIn (F := Fence.wide) trivial ?_⟩
       rw [q5]
       have hfr : FR m (GZ ps args fr) { tmps := (rec.params.zip cargs).foldl (fun tmps (t, a) => tmps.setIfInBounds t a) rec.tmps, defers := [] } := by
        have := KY ps args cargs.toList fr rec.tmps [] hv ⟨q7, q8⟩
        rw [q4, ← Array.foldl_toList, Array.toList_zip]
        exact this
       refine DQ hC hS ca ok1 hx1 hz r hfr (Mk.nil m) (fun m1 a1 w1 g1 g2 g3 g4 => ?_) (some E.g) (.inr nr1)
       have hE1 : m1.i l = some E := by rw [g1.i l (h.An hg)]; exact hE
       obtain ⟨rec1, p1, p2, p3, p4, p5, p6, p7, p8, p9⟩ := g2.loop hE1 hg1
       refine ⟨_, run_beginRound p1 p2, ?_⟩
       have r2 := p9 1 pend1 { rec1 with state := .busy } rfl p3 rfl rfl rfl rfl
       rw [q6]
       refine DQ hC hS cb ok2 hx2 hz r2 g3 g4 (fun m3 a3 w3 d1 d2 d3 d4 => ?_) (some E.g) (.inr nr2)
       have hlt1 := h1.An hg1
       have hE3 : m3.i l = some E := by rw [d1.i l (by simpa using hlt1)]; exact hE1
       obtain ⟨rec3, s1, s2, s3, s4, s5, s6, s7, s8, s9⟩ := d2.loop hE3 hg3
       have hx0 : m.ext h.size m3 := g1.trans d1 (by simpa using k1.1)
       have fin : ∃ v w', (Instr.endRound E.g j).run C.P w3 = .ok v w' ∧ ∃ v', Ending.returned v = .returned v' ∧ ∃ m' : AU, (m.ext h.size m') ∧ Rel C.P w0 m' (h3.set l (.loop (Wu j) j f3 fr3 ps3 ca3 cb3)) w' ∧ VR m' (.bool j.isNone) v' := by
        refine ⟨_, _, run_endRound j s1, _, rfl, m3, hx0, s9 _ j _ ?_ rfl rfl rfl rfl rfl, .bool _⟩
        cases j <;> rfl
       rcases hej with ⟨rfl, rfl⟩ | ⟨rfl, rfl⟩ | ⟨i, rfl, rfl⟩
       ·exact fin
       ·exact fin
       ·exact fin
      ·cases hend
     split at hx
     ·rename_i fr2 h3 hx2; exact main .normal fr2 h3 none hx2 hx (.inl ⟨rfl, rfl⟩)
     ·rename_i fr2 h3 hx2; exact main .ret fr2 h3 (some .ret) hx2 hx (.inr (.inl ⟨rfl, rfl⟩))
     ·rename_i i fr2 h3 hx2; exact main (.exit i) fr2 h3 (some (.exit i)) hx2 hx (.inr (.inr ⟨i, rfl, rfl⟩))
     ·cases hx
    ·cases hx
   ·cases hx
 ·cases hx
theorem MR {P : Program} {w0 : World} {m : AU} {h : AB} {w : World} (r : Rel P w0 m h w) {fr : Fr} {a : Act} (hf : FR m fr a) {x : ResultVar} {v : AA} (hx : Et P fr h x = some v) :
  ∃ v', (match x with | .tmp t => pure (a.tmps.getD t undef) | .cell c t => do loadVar t (← asAddr (a.tmps.getD c undef)) : Sem Value).run P w = .ok v' w ∧ VR m v v' := by
 cases x with
 | tmp t => simp only [Et, Option.some.injEq] at hx; subst hx; exact ⟨_, rfl, hf.2 t⟩
 | cell c t =>
  simp only [Et] at hx
  split at hx
  ·rename_i id o hc
   have hv := hf.2 c
   rw [hc] at hv
   generalize hq : a.tmps.getD c undef = q at hv
   cases hv with
   | ptr _ _ E hE =>
    obtain ⟨v', h1, h2⟩ := IE r hE hx
    exact ⟨v', by simp [hq, asAddr, h1], h2⟩
  ·cases hx
theorem Jd {P : Program} {w0 : World} {m : AU} {h : AB} {w : World} (r : Rel P w0 m h w) {fr : Fr} {a : Act} (hf : FR m fr a) : ∀ (l : List ResultVar) (vs : List AA), l.mapM (Et P fr h) = some vs →
  ∃ vs', (l.mapM (fun | .tmp t => pure (a.tmps.getD t undef) | .cell c t => do loadVar t (← asAddr (a.tmps.getD c undef)) : ResultVar → Sem Value)).run P w = .ok vs' w ∧ BU m vs vs'
 | [], vs, hl => by simp at hl; subst hl; exact ⟨[], by simp, .nil m⟩
 | x :: l, vs, hl => by
  rw [List.mapM_cons] at hl
  simp only [bind, Option.bind_eq_some_iff, pure, Option.some.injEq] at hl
  obtain ⟨v, hv, us, hus, rfl⟩ := hl
  obtain ⟨v', h1, h2⟩ := MR r hf hv
  obtain ⟨us', h3, h4⟩ := Jd r hf l us hus
  refine ⟨v' :: us', ?_, .cons h2 h4⟩
  rw [List.mapM_cons]
  simp only [Sem.run_bind]
  cases x <;> simp only at h1 <;> rw [h1] <;> simp only [Result.andThen_ok, h3, Sem.run_pure]
theorem Fg {P : Program} {w0 : World} {m : AU} {h : AB} {w : World} (r : Rel P w0 m h w) {fn : Func} {fr : Fr} {a : Act} (hf : FR m fr a) {v : AA} (hx : DK P fn fr h = some v) :
  ∃ v', (results fn a.tmps).run P w = .ok v' w ∧ VR m v v' := by
 unfold DK at hx
 have key : ∀ vs, fn.results.toList.mapM (Et P fr h) = some vs → ∃ vs', (results fn a.tmps).run P w = .ok (if hh : vs'.length = 1 then vs'[0] else .tuple vs'.toArray) w ∧ BU m vs vs' := by
  intro vs hvs
  obtain ⟨vs', h1, h2⟩ := Jd r hf _ _ hvs
  refine ⟨vs', ?_, h2⟩
  unfold results
  rw [Array.mapM_eq_mapM_toList]
  simp only [Sem.run_bind, Sem.run_map]
  erw [h1]
  simp
 split at hx
 ·rename_i u hu
  injection hx with hx
  subst hx
  obtain ⟨vs', h1, h2⟩ := key _ hu
  have hl : vs'.length = 1 := by rw [← h2.1]; rfl
  rw [dif_pos hl] at h1
  exact ⟨_, h1, h2.2 0 u _ rfl (by simp [hl])⟩
 ·rename_i us hne hus
  injection hx with hx
  subst hx
  obtain ⟨vs', h1, h2⟩ := key _ hus
  have hl : ¬ vs'.length = 1 := by
   rw [← h2.1]
   intro hl
   match us, hl with
   | [u], _ => exact hne u rfl
  rw [dif_neg hl] at h1
  exact ⟨_, h1, BU.tuple (by simpa using h2)⟩
 ·cases hx
theorem FM {P : Program} {w0 : World} {h : AB} {fn : Func} {tmps : Array Value} {R : Ending → World → Prop} : ∀ (rs : List Nat), rs.Nodup → ∀ (m : AU) (w : World), Rel P w0 m h w → (∀ r ∈ rs, m.df r (.deferred (some []))) →
  (∀ (m' : AU) w', m'.i = m.i → m'.fz = m.fz → (∀ g x, m.df g x → g ∉ rs → m'.df g x) → Rel P w0 m' h w' → LeavesIn Fence.wide 0 P fn tmps R [] .returning w') → LeavesInM Fence.wide 0 P fn tmps R (rs.map mark) .returning w
 | [], _, m, w, r, _, hk => hk m w rfl rfl (fun _ _ h _ => h) r
 | r0 :: rs, hn, m, w, r, hd, hk => by
  obtain ⟨hn1, hn2⟩ := List.nodup_cons.1 hn
  have hb := (r.df r0 _ (hd r0 (by simp))).2
  refine ⟨by simp, .inl ⟨r0, _, rfl, run_takeDeferred hb, ?_⟩⟩
  have ht := Kb w r0 (.deferred none)
  have r' : Rel P w0 ⟨m.i, m.fz, fun k x => m.df k x ∧ k ≠ r0⟩ h (w.putObj r0 (.deferred none)) := by
   refine ⟨ht.below r.below r.size (r.df r0 _ (hd r0 (by simp))).1, r.Ku, fun id E o hE ho => G9.mono (m := m) ⟨fun _ _ h => h, fun _ _ _ h => h⟩ (fun hl => ht.block _ ((r.obj id E o hE ho).lt hl) fun e => ?_) (r.obj id E o hE ho), r.own, r.sep, fun g o v hv => ?_, r.GX, fun g x hg => ⟨(r.df g x hg.1).1, ?_⟩, fun id E o hE ho hl x hg => r.ME id E o hE ho hl x hg.1⟩
   ·exact r.ME id E o hE ho hl _ (e ▸ hd r0 (by simp))
   ·obtain ⟨cur, e, z, h1, h2⟩ := r.fz g o v hv
    refine ⟨cur, e, z, ?_, h2⟩
    rw [ht.block g (r.Ml hv) (fun e' => by subst e'; rw [hb] at h1; cases h1)]
    exact h1
   ·rw [ht.block g (r.IU hg.1) hg.2]; exact (r.df g x hg.1).2
  refine FM rs hn2 _ _ r' (fun k hk' => ⟨hd k (by simp [hk']), fun e => hn1 (e ▸ hk')⟩) fun m' w' e1 e2 e3 e4 => hk m' w' e1 e2 (fun g x hg hno => e3 g x ⟨hg, fun e => hno (by simp [e])⟩ fun hm => hno (by simp [hm])) e4
theorem EF (hC : E9 C) (hS : De C n S) {g : Gd} {h h' : AB} {f : FuncId} {args : List AA} {v : AA} (hk : C.kind f = 1 ∨ C.kind f = 2 ∨ C.kind f = 4 ∨ C.kind f = 7 ∨ C.kind f = 8 ∨ C.kind f = 9 ∨ C.kind f = 10 ∨ C.kind f = 11) (hb : Fc C S g h f args = some (v, h')) :
  AN g h h' ∧ ∀ w0 m w (cargs : Array Value), BO C.CM w0 → Rel C.P w0 m h w → BU m args cargs.toList → Bd C.P f cargs w fun v' w' => ∃ m' : AU, (m.ext h.size m') ∧ Rel C.P w0 m' h' w' ∧ VR m' v v' := by
 unfold Fc at hb
 split at hb
 ·cases hb
 ·rename_i fn Ig
  split at hb
  ·cases hb
  ·rename_i c hc
   obtain ⟨hn, hok⟩ := hC.code f fn c hk Ig hc
   have main : ∀ e fr1 h1, e = BL.normal ∨ e = BL.ret → Aa C S f g c (args ++ List.replicate (fn.ntmps - args.length) (.tuple [])) h = some (e, fr1, h1) → (DK C.P fn fr1 h1).map (·, h1) = some (v, h') →
     AN g h h' ∧ ∀ w0 m w (cargs : Array Value), BO C.CM w0 → Rel C.P w0 m h w → BU m args cargs.toList → Bd C.P f cargs w fun v' w' => ∃ m' : AU, (m.ext h.size m') ∧ Rel C.P w0 m' h' w' ∧ VR m' v v' := by
    intro e fr1 h1 he hx hres
    simp only [Option.map_eq_some_iff, Prod.mk.injEq] at hres
    obtain ⟨u, hu, rfl, rfl⟩ := hres
    refine ⟨(Bs hS c hok hx).1, fun w0 m w cargs hz r hv => ?_⟩
    unfold Bd
    rw [C3 Ig hn hc]
    simp only
    have hlen : args.length = cargs.size := by rw [hv.1]; simp
    refine (callsIn_wide (n := 0)).1 (callsIn_of_wp_marks Ig hc trivial (DQ hC hS c hok hx hz r ⟨by simp [hlen], fun i => ?_⟩ (Mk.nil m) (fun m1 a1 w1 g1 g2 g3 g4 => ?_) none (.inl rfl)))
    ·rw [FE, List.getD_eq_getElem?_getD]
     simp only [Array.getD_eq_getD_getElem?]
     by_cases hi : i < args.length
     ·rw [List.getElem?_append_left hi, Array.getElem?_append_left (by omega)]
      rw [List.getElem?_eq_getElem hi, Array.getElem?_eq_getElem (by omega)]
      exact hv.2 i _ _ (List.getElem?_eq_getElem hi) (by simp [← hlen, hi])
     ·rw [List.getElem?_append_right (by omega), Array.getElem?_append_right (by omega)]
      rw [List.getElem?_replicate, Array.getElem?_replicate, hlen]
      split
      ·exact VR.Dr m
      ·exact VR.Dr m
    ·have fin : LeavesInM Fence.wide 0 C.P fn a1.tmps (fun e w' => ∃ v', e = .returned v' ∧ ∃ m' : AU, (m.ext h.size m') ∧ Rel C.P w0 m' h1 w' ∧ VR m' u v') a1.defers .returning w1 := by
      obtain ⟨_, rs, e1, e2, e3⟩ := g4
      rw [e1]
      refine FM rs e2 m1 w1 g2 (fun r hr => (e3 r hr).1) fun m2 w2 d1 d2 d3 d4 => ?_
      have hle : m1.le m2 := ⟨fun id E hE => by rw [d1]; exact hE, fun g o v hv => by rw [d2]; exact hv⟩
      obtain ⟨v', q1, q2⟩ := Fg d4 (g3.mono hle) hu
      exact ⟨v', q1, v', rfl, m2, ⟨fun id hid => by rw [d1]; exact g1.i id hid, fun g o v hv => by rw [d2]; exact g1.fz g o v hv, fun g x hg => d3 g x (g1.df g x hg) fun hm => (e3 g hm).2 x hg⟩, d4, q2⟩
     rcases he with rfl | rfl
     ·exact fin
     ·exact fin
   split at hb
   ·rename_i fr1 h1 hx; exact main .normal fr1 h1 (.inl rfl) hx hb
   ·rename_i fr1 h1 hx; exact main .ret fr1 h1 (.inr rfl) hx hb
   ·cases hb
theorem Mv (hS : De C n S) {f : FuncId} {q : ON} (hok : codeOk C f q.body = true) {ks rs : List Nat} {it : Nat} {tI te : Tmp} {rest : List Oper} {hh : AB} {ob : N0} {σ : Fr × List AA} {p : AA × AA} {x : Bool × Fr × List AA} (hx : Im C S f q ks rs it tI te rest hh ob σ p = some x) : x.2.1.length = σ.1.length := by
 unfold Im at hx
 split at hx
 ·rename_i fr2 h2 hr
  have k1 := (CR hS.sub _ hr).2
  rw [List.length_set] at k1
  split at hx
  ·rename_i fr h3 he
   have k2 := (Bs hS _ hok he).2
   rw [(F3 (IC hx).2).2.2.1, DE, k2, k1]
  ·rename_i i fr h3 he
   have k2 := (Bs hS _ hok he).2
   rw [(F3 (IC hx).2).2.2.1, DE, k2, k1]
  ·rename_i fr h3 he
   have k2 := (Bs hS _ hok he).2
   rw [(F3 hx).2.2.1, DE, k2, k1]
  ·cases hx
 ·cases hx
theorem JL {rnd : Fr × List AA → AA × AA → Option (Bool × Fr × List AA)} (hr : ∀ {σ p x}, rnd σ p = some x → x.2.1.length = σ.1.length) : ∀ (l : List (AA × AA)) {σ : Fr × List AA} {x : Bool × Fr × List AA}, C9 rnd l σ = some x → x.2.1.length = σ.1.length
 | [], σ, x, h => by simp only [C9, Option.some.injEq] at h; rw [← h]
 | p :: l, σ, x, h => by
  simp only [C9] at h
  cases hp : rnd σ p with
  | none => rw [hp] at h; cases h
  | some y =>
   obtain ⟨b, z⟩ := y
   have := hr hp
   cases b with
   | true => rw [hp] at h; cases h; exact this
   | false => rw [hp] at h; exact (JL hr l h).trans this
structure XH (C : EP) (S : Self) (f : FuncId) (q : ON) (g : Gd) (fr : Fr) (h : AB) (x : BL × Fr × AB) (ks rs : List Nat) (orng : Oper) (fr1 : Fr) (h1 : AB) (tM : TypeId) (y : Operand) (tI : Tmp) (id : Nat) (kt et : TypeId) (tn te : Tmp) (rest : List Oper) (es : List (AA × AA)) (ob : N0) (cs0 : List AA) (ret : Bool) (frE : Fr) (csE : List AA) : Prop where
 last : q.o8.toList = q.o8.toList.dropLast ++ [orng]
 pre : DI C S g q.o8 q.o8.toList.dropLast fr h = some (fr1, h1)
 op : orng.op = .range tM y
 dst : orng.dst = some tI
 gu : orng.guard = none
 ev : ev fr1 y = .map (some id)
 X5 : C.P.underlying tM = some (.map kt et)
 nx : Sr q.o9 tI q.tb = some tn
 en : TL q.Of tI = some (te, rest)
 get : h1.get id = some (.map 2 es)
 may : g.may id = true
 Xl : Sz g ob = true
 Vy : ∀ id' gr, ob = some (id', gr) → h1.get id' = some (.cells gr 2 cs0)
 FY : (DS ks 0 (fr1.set tI (.ptr (some (h1.size, 0))))).all (Lj (h1.size + 1)) = true
 PF : J8 h1.size (nth (DS ks 0 (fr1.set tI (.ptr (some (h1.size, 0))))) tI) = true
 free : M5 ks fr1.length tn q.tb = true
 flat : cs0.all Km = true
 fold : C9 (Im C S f q ks rs h1.size tI te rest ((h1.set id (.map 0 [])).push (.cells none 0 [])) ob) es (DS ks 0 (fr1.set tI (.ptr (some (h1.size, 0)))), cs0) = some (ret, frE, csE)
 perm : C.dec.1 (∀ es', es'.Perm es → C9 (Im C S f q ks rs h1.size tI te rest ((h1.set id (.map 0 [])).push (.cells none 0 [])) ob) es' (DS ks 0 (fr1.set tI (.ptr (some (h1.size, 0)))), cs0) = some (ret, frE, csE)) = true
 out : x = (bif ret then .ret else .normal, frE, DM ((h1.set id (.map 0 [])).push (.cells none 0 [])) ob csE)
theorem S9 {h : AB} {fr : Fr} {ot : Option Tmp} {ob : N0} {cs : List AA} (hx : TM h fr ot = some (ob, cs)) : ∀ id gr, ob = some (id, gr) → h.get id = some (.cells gr 2 cs) := by
 unfold TM at hx
 split at hx
 ·cases hx; intro _ _ e; cases e
 ·split at hx
  ·split at hx
   ·rename_i hg
    cases hx
    intro _ _ e
    cases e
    exact hg
   ·cases hx
  ·cases hx
theorem OT {f : FuncId} {q : ON} {g : Gd} {fr : Fr} {h : AB} {x : BL × Fr × AB} (hx : Kl C S f q g fr h = some x) : ∃ ks rs orng fr1 h1 tM y tI id kt et tn te rest es ob cs0 ret frE csE, XH C S f q g fr h x ks rs orng fr1 h1 tM y tI id kt et tn te rest es ob cs0 ret frE csE := by
 unfold Kl at hx
 split at hx
 rotate_left
 ·cases hx
 rename_i ks rs ot orng fr1 h1 hmk hlast hpre
 unfold N6 at hx
 split at hx
 rotate_left
 ·cases hx
 rename_i tM y tI hop hdst hgu
 split at hx
 rotate_left
 ·cases hx
 rename_i id kt et tn te rest hev hund hnx hen
 split at hx
 rotate_left
 ·cases hx
 rename_i es ob cs0 hget hobj
 cases hc : (g.may id && Sz g ob && (DS ks 0 (fr1.set tI (.ptr (some (h1.size, 0))))).all (Lj (h1.size + 1)) && J8 h1.size (nth (DS ks 0 (fr1.set tI (.ptr (some (h1.size, 0))))) tI) && M5 ks fr1.length tn q.tb && cs0.all Km) with
 | false => rw [hc] at hx; cases hx
 | true =>
  rw [hc] at hx
  simp only [cond_true] at hx
  simp only [Bool.and_eq_true] at hc
  obtain ⟨⟨⟨⟨⟨c1, c2⟩, c3⟩, c4⟩, c5⟩, c6⟩ := hc
  unfold Oe at hx
  split at hx
  ·rename_i ret frE csE hfold
   ·obtain ⟨hd, hx⟩ := IC hx
    cases hx
    exact ⟨ks, rs, orng, fr1, h1, tM, y, tI, id, kt, et, tn, te, rest, es, ob, cs0, ret, frE, csE, ⟨Lo hlast, hpre, hop, hdst, hgu, hev, hund, hnx, hen, hget, c1, c2, S9 hobj, c3, c4, c5, c6, hfold, hd, rfl⟩⟩
  ·cases hx
theorem OW (hS : De C n S) {f : FuncId} {q : ON} {g : Gd} (hok : codeOk C f q.body = true) {fr : Fr} {h : AB} {e : BL} {fr' : Fr} {h' : AB} (hx : Kl C S f q g fr h = some (e, fr', h')) : AN g h h' ∧ fr'.length = fr.length := by
 obtain ⟨ks, rs, orng, fr1, h1, tM, y, tI, id, kt, et, tn, te, rest, es, ob, cs0, ret, frE, csE, k⟩ := OT hx
 have ho := k.out
 injection ho with e1 ho
 injection ho with e2 e3
 obtain ⟨k1, k2⟩ := CR hS.sub _ k.pre
 have hl := JL (fun hr => Mv hS hok hr) _ k.fold
 simp only [DE, List.length_set] at hl
 refine ⟨?_, by rw [e2, hl, k2]⟩
 have k3 : AN g h1 ((h1.set id (.map 0 [])).push (.cells none 0 [])) := (AN.set k.get k.may).trans (AN.push _ _ _)
 rw [e3]
 refine (k1.trans k3).trans ?_
 cases ob with
 | none => exact AN.refl _ _
 | some p =>
  obtain ⟨Vy, gr⟩ := p
  have hg := k.Vy Vy gr rfl
  refine AN.set (o' := .cells gr 2 cs0) ?_ k.Xl
  have hne : Vy ≠ id := by
   intro e
   subst e
   have := k.get.symm.trans hg
   cases this
  rw [AB.CF _ _ (by simpa using h1.An hg), AB.Ar _ _ (h1.An k.get) hne]
  exact hg
open Go.ChangeMaps in
theorem OC (hC : E9 C) (hS : De C n S) {f : FuncId} {g : Gd} {c : Code} {q : ON} (hc : RN c = some q) (hok : codeOk C f q.body = true) {fr : Fr} {h : AB} {e : BL} {fr' : Fr} {h' : AB} (hx : Kl C S f q g fr h = some (e, fr', h'))
  {w0 : World} {mS m : AU} {w : World} {a : Act} {Q : Exit → Act → World → Prop} (hz : BO C.CM w0) (r : Rel C.P w0 m h w) (hf : FR m fr a) (hk0 : Mk mS m a.defers) (hQ : HE C.P w0 mS m h.size e fr' h' Q) : c.wpIn (FW none) 0 C.P Q a w := by
 obtain ⟨hbb, i8, i9, i10, rfl⟩ := K2 hc
 obtain ⟨ks, rs, orng, fr1, h1, tM, y, tI, id, kt, et, tn, te, rest, es, ob, cs0, ret, frE, csE, MK⟩ := OT hx
 have hout := MK.out
 injection hout with oe hout
 injection hout with ofr oh
 have hperm := C.dec.2.1 _ MK.perm
 have hksz := (CR hS.sub _ MK.pre).1.1
 have hlen1 := (CR hS.sub _ MK.pre).2
 obtain ⟨hh, hhe⟩ : ∃ hh, hh = (h1.set id (.map 0 [])).push (.cells none 0 []) := ⟨_, rfl⟩
 have hhsz : hh.size = h1.size + 1 := by rw [hhe]; simp
 obtain ⟨rnd, hrnd⟩ : ∃ rnd, rnd = Im C S f q ks rs h1.size tI te rest hh ob := ⟨_, rfl⟩
 rw [← hhe, ← hrnd] at hperm
 rw [← hhe] at oh
 have hobl : ∀ id' gr, ob = some (id', gr) → id' < hh.size := fun id' gr e => by have := h1.An (MK.Vy id' gr e); omega
 obtain ⟨nx, ex, hl9, nop, ndst, ngu, xop, xdst, xgu, hne1, hne2⟩ := Q3 MK.nx
 obtain ⟨en, hl10, eop, edst, egu⟩ := Qp MK.en
 refine wpIn_seq (wpIn_region_list ?_)
 rw [MK.last]
 refine Hw hS.sub hz _ r hf MK.pre none (fun m1 a1 w1 g1 g2 g3 g4 => ?_)
 have hk1 : Mk mS m1 a1.defers := by rw [g4]; exact hk0.ext g1
 have hvx := g3.ev y
 rw [MK.ev] at hvx
 generalize hqx : a1.eval y = vx at hvx
 cases hvx with
 | map _ E1 hE1 =>
  obtain ⟨hEb, hmo⟩ := g2.obj id E1 _ hE1 MK.get
  obtain ⟨ents, clock, p1, p2, p3, p4⟩ := IM.two (hmo (by decide)) (by decide)
  have hEg0 := g2.own id E1 _ hE1 MK.get rfl
  have hrng := run_range_map (P := C.P) w1 tM kt et E1.g ents clock MK.X5 p1
  refine wpListIn_plain MK.gu fun K' hK => EX (v := .pointer (some ⟨w1.heap.size, 0, none⟩)) (w' := w1.alloc (.mapIter (some E1.g) clock #[] clock)) (by rw [MK.op]; intro c hc; cases hc) (by
   unfold execOp
   rw [MK.op]
   simp only [hqx, Sem.run_bind, hrng, Result.andThen_ok, Sem.run_pure]) none (hK _ _ ?_)
  obtain ⟨it, hit⟩ : ∃ it, it = w1.heap.size := ⟨_, rfl⟩
  obtain ⟨m2, hm2⟩ : ∃ m2, m2 = m1.upd h1.size ⟨it, 0, E5 C.P none, 0⟩ := ⟨_, rfl⟩
  have hEg : E1.g < it := by rw [hit]; exact (Array.getElem?_eq_some_iff.1 p1).1
  have hle12 : m1.le m2 := by rw [hm2]; exact AU.GN _ (g2.fresh (Nat.le_refl _))
  have hd1 : Rel C.P w0 m1 (h1.set id (.map 0 [])) w1 := g2.dead MK.get rfl fun E hE => ⟨by
   have : E1 = E := Option.some.inj (hE1.symm.trans hE)
   rw [← this]; exact hEb, fun hne => absurd rfl hne⟩
  have r2 : Rel C.P w0 m2 hh (w1.alloc (.mapIter (some E1.g) clock #[] clock)) := by
   rw [hm2, hhe]
   exact hd1.new (Ch.alloc _ _ _) hit ⟨⟨⟨rfl, fun _ => Tf.nil⟩, fun _ h => by cases h⟩, fun h => absurd rfl h⟩
  have m2i : m2.i h1.size = some ⟨it, 0, E5 C.P none, 0⟩ := by rw [hm2]; exact AU.Ci _ _ _
  have m2df : ∀ g x, m2.df g x → m1.df g x := fun g x hg => by rw [hm2] at hg; exact hg
  have dfit : ∀ g x, m2.df g x → g ≠ it ∧ g ≠ E1.g := fun g x hg => ⟨by have := g2.IU (m2df g x hg); omega, fun e => g2.ME id E1 _ hE1 MK.get rfl x (e ▸ m2df g x hg)⟩
  have hext2 : m.ext h.size m2 := by rw [hm2]; exact g1.trans (AU.G8 _ _ (Nat.le_refl _)) hksz
  have hhget : ∀ i o, hh.get i = some o → o.live = true → i < h1.size ∧ i ≠ id ∧ h1.get i = some o := fun i o ho hl => by
   rw [hhe, AB.JY] at ho
   split at ho
   ·cases ho; cases hl
   ·rw [AB.GI _ _ _ _ (h1.An MK.get)] at ho
    split at ho
    ·cases ho; cases hl
    ·rename_i h2
     exact ⟨h1.An ho, h2, ho⟩
  have hhob : ∀ id' gr, ob = some (id', gr) → hh.get id' = some (.cells gr 2 cs0) := fun id' gr e => by
   have hg := MK.Vy id' gr e
   have hne : id' ≠ id := by
    intro e
    subst e
    have := MK.get.symm.trans hg
    cases this
   rw [hhe, AB.CF _ _ (by simpa using h1.An hg), AB.Ar _ _ (h1.An MK.get) hne]
   exact hg
  have hh0 : ∀ i, (DM hh ob cs0).get i = hh.get i := fun i => by
   cases ob with
   | none => rfl
   | some p =>
    obtain ⟨id', gr⟩ := p
    show (hh.set id' _).get i = _
    by_cases e : i = id'
    ·subst e
     rw [AB.get_set_same _ _ (hobl _ _ rfl), hhob _ _ rfl]
    ·rw [AB.Ar _ _ (hobl _ _ rfl) e]
  have r2' : Rel C.P w0 m2 (DM hh ob cs0) (w1.alloc (.mapIter (some E1.g) clock #[] clock)) := r2.same (HV _ _ _) hh0
  have hitB : w0.heap.size ≤ it := by rw [hit]; exact g2.size
  obtain ⟨σ0, hσ0⟩ : ∃ σ0 : Fr × List AA, σ0 = (DS ks 0 (fr1.set tI (.ptr (some (h1.size, 0)))), cs0) := ⟨_, rfl⟩
  rw [← hσ0] at hperm
  have hfree := MK.free
  simp only [M5, Bool.and_eq_true, Bool.not_eq_true', Nat.blt_eq] at hfree
  obtain ⟨⟨⟨fr1n, fr2n⟩, htn⟩, htb⟩ := hfree
  have nl2 : ∀ i F o, m2.i i = some F → hh.get i = some o → o.live = true → F.g ≠ it ∧ F.g ≠ E1.g := fun i F o hF ho hl => by
   obtain ⟨q1, q2, q3⟩ := hhget i o ho hl
   have hF' : m1.i i = some F := by rw [hm2, AU.JI _ _ (by omega)] at hF; exact hF
   exact ⟨by have := (g2.obj i F o hF' q3).lt hl; omega, fun e => g2.sep id i E1 F _ o (fun e => q2 e.symm) hE1 hF' MK.get q3 rfl hl e.symm⟩
  obtain ⟨a2, ha2⟩ : ∃ a2, a2 = a1.put orng.dst (.pointer (some ⟨w1.heap.size, 0, none⟩)) := ⟨_, rfl⟩
  have f2 : FR m2 σ0.1 a2 := by
   have q1 : FR m2 (fr1.set tI (.ptr (some (h1.size, 0)))) a2 := by
    rw [ha2, MK.dst]
    have := FR.put (g3.mono hle12) (some tI) (x := .ptr (some (h1.size, 0))) (v := .pointer (some ⟨w1.heap.size, 0, none⟩)) (by
     have := VR.ptr (m := m2) h1.size 0 _ m2i
     rw [← hit]
     exact this)
    exact this
   rw [hσ0]
   exact q1.DS ks
  have hd2 : a2.defers = a1.defers := by rw [ha2, BD]
  show ((Code.block q.b _).wpIn (FW none) 0 C.P Q _ _)
  rw [← ha2]
  have hst1 := p4.1
  have hst2 := p4.2.1
  have lenσ : ∀ l σ, C9 rnd l σ0 = some (false, σ) → σ.1.length = fr1.length := fun l σ hf => by
   have := JL (fun hr => Mv hS hok hr) l (by rw [hrnd] at hf; exact hf)
   rw [hσ0] at this
   simpa [DE] using this
  refine wpIn_block (wpIn_loop (fun a w => ∃ (m' : AU) (vis : List Nat) (σ : Fr × List AA) (seen : Array Nat), m2.ext hh.size m' ∧ Rel C.P w0 m' (DM hh ob σ.2) w ∧ FR m' σ.1 a ∧ Mk mS m' a.defers ∧ (∀ g x, m'.df g x → g ≠ it ∧ g ≠ E1.g) ∧
    w.heap[E1.g]? = some (.map ents clock) ∧ w.heap[it]? = some (.mapIter (some E1.g) clock seen clock) ∧ vis.Nodup ∧ (∀ i ∈ vis, i < ents.size) ∧
    (∀ (i : Nat) (en : MapEntry), ents[i]? = some en → (seen.contains en.born = true ↔ i ∈ vis)) ∧ C9 rnd (vis.map (PF es)) σ0 = some (false, σ) ∧
    nth σ.1 tI = .ptr (some (h1.size, 0)) ∧ nth σ.1 tn = .undef ∧ nth σ.1 q.tb = .undef)
   (fun _ w => w.rangeLeft E1.g it) ⟨m2, [], σ0, #[], AU.ext.refl _ _, ?_, f2, ?_, dfit, ?_, ?_, List.nodup_nil, fun i hi => (by cases hi), fun i en hen => (by simp), rfl, ?_, ?_, ?_⟩ ?_)
  ·rw [hσ0]; exact r2'
  ·rw [hd2, hm2]; exact hk1.ext (AU.G8 _ _ (Nat.le_refl _))
  ·rw [Below.heap_alloc w1 _ _ (by omega)]; exact p1
  ·rw [hit]; exact heap_alloc_new w1 _
  ·rw [hσ0]; exact Nt MK.PF
  ·rw [hσ0]; exact Hj (by simpa using htn) fr1n
  ·rw [hσ0]; exact Hj (by simpa using htb) fr2n
  rintro aa ww ⟨m', vis, σ, seen, jx, rr, ff, jk, jd, hmp, hitr, vn, vl, vs, vf, sI, sn, sb⟩
  have hσl := lenσ _ _ vf
  have hsza : aa.tmps.size = fr1.length := by rw [← ff.1, hσl]
  have m'i : m'.i h1.size = some ⟨it, 0, E5 C.P none, 0⟩ := by rw [jx.i _ (by omega)]; exact m2i
  have hslot : aa.tmps.getD tI undef = .pointer (some ⟨it, 0, none⟩) := by
   have := ff.2 tI
   rw [sI] at this
   obtain ⟨E', hE', hv⟩ := this.MC
   rw [m'i] at hE'
   cases hE'
   exact hv
  have heI : aa.eval (.tmp tI) = .pointer (some ⟨it, 0, none⟩) := hslot
  have hmsz := HV hh ob σ.2
  have nl' : ∀ i F o, m'.i i = some F → (DM hh ob σ.2).get i = some o → o.live = true → F.g ≠ it ∧ F.g ≠ E1.g := fun i F o hF ho hl => by
   obtain ⟨o', h1', h2'⟩ := OK (cs := cs0) hobl ho hl
   rw [hh0] at h1'
   have hi := rr.Ku i F hF
   rw [hmsz] at hi
   exact nl2 i F o' (by rw [← jx.i i hi]; exact hF) h1' h2'
  have hfzit : ∀ g o v, m'.fz g o = some v → g ≠ it := fun g o v hv e => by
   obtain ⟨cur, e', z, c1, _⟩ := rr.fz g o v hv
   rw [e, hitr] at c1
   cases c1
  refine wpIn_seq (wpIn_region_list ?_)
  rw [hl9]
  rcases run_next_at (P := C.P) ww nx.type it E1.g clock clock seen ents clock hitr hmp hst1 (Nat.le_refl _) with ⟨h0, hrun⟩ | ⟨e0, he0, w3, hal, hrun⟩
  ·-- nothing is left
   refine wpListIn_plain ngu fun K hK => EX (v := .tuple #[.bool false]) (w' := ww) (by rw [nop]; intro c hc; cases hc) (by
    unfold execOp
    rw [nop]
    simp only [heI, Sem.run_bind, hrun, Result.andThen_ok, Sem.run_pure]) none (hK _ _ ?_)
   rw [ndst]
   have ff1 := ff.K9 sn (.tuple #[.bool false])
   have hsn : (aa.put (some tn) (.tuple #[.bool false])).eval (.tmp tn) = .tuple #[.bool false] := CS (by rw [hsza]; exact htn)
   refine wpListIn_plain xgu fun K hK => EX (v := .bool false) (w' := ww) (by rw [xop]; intro c hc; cases hc) (by
    unfold execOp
    rw [xop]
    simp only [hsn, Sem.run_bind, Instr.extract]
    rfl) none (hK _ _ ?_)
   rw [xdst]
   have ff2 := ff1.K9 sb (.bool false)
   refine wpIn_seq (wpIn_cond_false (CS (by rw [size_put, hsza]; exact htb)) (wpIn_exit ?_))
   show (if q.b = q.b then Q .normal _ ww else Q (.exit q.b) _ ww)
   rw [if_pos rfl]
   have hpv : vis.Perm (List.range es.length) := JB vn fun i => ⟨fun hi => by rw [p2]; exact vl i hi, fun hi => by
    have hi2 : i < ents.size := by rw [← p2]; exact hi
    exact (vs i _ (Array.getElem?_eq_getElem hi2)).1 (all_seen ents seen h0 _ (by simp))⟩
   have hfin := hperm _ ((hpv.map (PF es)).trans (by rw [M9]))
   rw [vf] at hfin
   simp only [Option.some.injEq, Prod.mk.injEq] at hfin
   obtain ⟨hret, hσe⟩ := hfin
   have hσ1 : σ.1 = frE := by rw [hσe]
   have hσ2 : σ.2 = csE := by rw [hσe]
   rw [hσ2] at rr
   have := hQ m' _ ww (hext2.trans jx (by omega)) (oh ▸ rr) (by rw [ofr, ← hσ1]; exact ff2) (by rw [BD, BD]; exact jk)
   rw [oe, ← hret] at this
   exact this
  ·-- one more
   obtain ⟨hmem, hns⟩ := mem_left he0
   obtain ⟨i0, hi0, hei0⟩ := List.mem_iff_getElem.1 hmem
   have hi0' : i0 < ents.size := by simpa using hi0
   have hent : ents[i0]? = some e0 := by rw [Array.getElem?_eq_getElem hi0']; exact congrArg some (by simpa using hei0)
   obtain ⟨⟨k, v⟩, hkv⟩ : ∃ p, es[i0]? = some p := ⟨_, List.getElem?_eq_getElem (by rw [p2]; exact hi0')⟩
   obtain ⟨hvk, hvv⟩ := p3 i0 k v e0 hkv hent
   have hatI : PF es i0 = (k, v) := by unfold Av.PF; rw [hkv]; rfl
   have hi0v : i0 ∉ vis := fun hi => by
    have := (vs i0 e0 hent).2 hi
    rw [hns] at this
    cases this
   obtain ⟨ww3, hww3⟩ : ∃ x, x = setBlock w3 it (.mapIter (some E1.g) clock (seen.push e0.born) clock) := ⟨_, rfl⟩
   rw [← hww3] at hrun
   have hitlt : it < ww.heap.size := (Array.getElem?_eq_some_iff.1 hitr).1
   have hheap : ww3.heap = ww.heap.setIfInBounds it (.mapIter (some E1.g) clock (seen.push e0.born) clock) := by
    rw [hww3]
    rcases hal with rfl | rfl <;> rfl
   have ht : Ch ww ww3 it := ⟨by rw [hww3]; rcases hal with rfl | rfl <;> rfl, by rw [hww3]; rcases hal with rfl | rfl <;> rfl, by rw [hww3]; rcases hal with rfl | rfl <;> rfl, by rw [hheap]; simp, fun k hk hne => by rw [hheap]; simp [Array.getElem?_setIfInBounds_ne (Ne.symm hne)]⟩
   have hit3 : ww3.heap[it]? = some (.mapIter (some E1.g) clock (seen.push e0.born) clock) := by
    rw [hheap]
    simp [hitlt]
   have hmp3 : ww3.heap[E1.g]? = some (.map ents clock) := by
    rw [ht.block _ (Array.getElem?_eq_some_iff.1 hmp).1 (by omega)]
    exact hmp
   have rr3 : Rel C.P w0 m' (DM hh ob σ.2) ww3 := rr.iter ht hitB (fun i F o hF ho hl => (nl' i F o hF ho hl).1) hfzit (fun g x hg => (jd g x hg).1)
   refine wpListIn_plain ngu fun K hK => EX (v := .tuple #[.bool true, e0.key, e0.val]) (w' := ww3) (by rw [nop]; intro c hc; cases hc) (by
    unfold execOp
    rw [nop]
    simp only [heI, Sem.run_bind, hrun, Result.andThen_ok, Sem.run_pure]) none (hK _ _ ?_)
   rw [ndst]
   have ff1 := ff.K9 sn (.tuple #[.bool true, e0.key, e0.val])
   have hsn : (aa.put (some tn) (.tuple #[.bool true, e0.key, e0.val])).eval (.tmp tn) = .tuple #[.bool true, e0.key, e0.val] := CS (by rw [hsza]; exact htn)
   refine wpListIn_plain xgu fun K hK => EX (v := .bool true) (w' := ww3) (by rw [xop]; intro c hc; cases hc) (by
    unfold execOp
    rw [xop]
    simp only [hsn, Sem.run_bind, Instr.extract]
    rfl) none (hK _ _ ?_)
   rw [xdst]
   have ff2 := ff1.K9 sb (.bool true)
   refine wpIn_seq (wpIn_cond_true (CS (by rw [size_put, hsza]; exact htb)) (wpIn_skip ?_))
   obtain ⟨a4, ha4⟩ : ∃ x, x = (aa.put (some tn) (.tuple #[.bool true, e0.key, e0.val])).put (some q.tb) (.bool true) := ⟨_, rfl⟩
   have hd4 : a4.defers = aa.defers := by rw [ha4, BD, BD]
   rw [← ha4] at ff2
   rw [← ha4]
   show (Code.block q.b2 _).wpIn _ _ _ _ _ _
   refine wpIn_block (wpIn_seq (wpIn_region_list ?_))
   rw [hl10]
   have heI4 : a4.eval (.tmp tI) = .pointer (some ⟨it, 0, none⟩) := by
    have := ff2.2 tI
    rw [sI] at this
    obtain ⟨E', hE', hv⟩ := this.MC
    rw [m'i] at hE'
    cases hE'
    exact hv
   have hent3 := run_entry_at (P := C.P) ww3 it E1.g clock seen ents clock e0 hit3 hmp3 hmem hst2
   refine wpListIn_plain egu fun K hK => EX (v := .tuple #[e0.key, e0.val]) (w' := ww3) (by rw [eop]; intro c hc; cases hc) (by
    unfold execOp
    rw [eop]
    simp only [heI4, Sem.run_bind, hent3, Result.andThen_ok, Sem.run_pure]) none (hK _ _ ?_)
   rw [edst]
   obtain ⟨mp, hmpd⟩ : ∃ mp : AU, mp = ⟨m'.i, m'.fz, fun k x => m'.df k x ∨ (k = it ∧ x = .mapIter (some E1.g) clock (seen.push e0.born) clock) ∨ (k = E1.g ∧ x = .map ents clock)⟩ := ⟨_, rfl⟩
   have rp : Rel C.P w0 mp (DM hh ob σ.2) ww3 := by
    rw [hmpd]
    refine rr3.US _ (fun g x hg => ?_) (fun i F o hF ho hl x hg => ?_)
    ·rcases hg with hg | ⟨rfl, rfl⟩ | ⟨rfl, rfl⟩
     ·exact rr3.df g x hg
     ·exact ⟨hitB, hit3⟩
     ·exact ⟨hEg0, hmp3⟩
    ·rcases hg with hg | ⟨e, _⟩ | ⟨e, _⟩
     ·exact rr3.ME i F o hF ho hl x hg
     ·exact (nl' i F o hF ho hl).1 e
     ·exact (nl' i F o hF ho hl).2 e
   have lep : m'.le mp := by rw [hmpd]; exact ⟨fun _ _ h => h, fun _ _ _ h => h⟩
   have le2 : m1.le mp := AU.le_trans (AU.le_trans hle12 (r2.Jh jx)) lep
   have ff5 : FR mp (σ.1.set te (.tuple [k, v])) (a4.put (some te) (.tuple #[e0.key, e0.val])) :=
    FR.put (ff2.mono lep) (some te) (BU.tuple (.cons (hvk.mono le2) (.cons (hvv.mono le2) (.nil _))))
   have mkp : Mk mS mp (a4.put (some te) (.tuple #[e0.key, e0.val])).defers := by
    rw [BD, hd4]
    obtain ⟨b1, rs', b2, b3, b4⟩ := jk
    exact ⟨fun g x hg => by rw [hmpd]; exact .inl (b1 g x hg), rs', b2, b3, fun r hr => ⟨by rw [hmpd]; exact .inl (b4 r hr).1, (b4 r hr).2⟩⟩
   obtain ⟨os, hos⟩ := Ro vn vl hi0' hi0v
   rw [← p2] at hos
   have hall := hperm _ ((hos.map (PF es)).trans (by rw [M9]))
   rw [List.map_append, It _ _ vf, List.map_cons, hatI] at hall
   obtain ⟨X, hX⟩ : ∃ X, rnd σ (k, v) = some X := by
    cases hX : rnd σ (k, v) with
    | none => simp only [C9, hX] at hall; cases hall
    | some X => exact ⟨X, rfl⟩
   have hX0 := hX
   rw [hrnd] at hX
   unfold Im at hX
   simp only at hX
   split at hX
   rotate_left
   ·cases hX
   rename_i fr5 h5 hro
   have hks5 := (CR hS.sub _ hro).1
   refine Ed hS.sub hz _ rp ff5 hro (fun m5 a6 w6 k1 k2 k3 k4 => ?_) none
   cases hEx : Aa C S f (Rq hh.size ob) q.body fr5 h5 with
   | none => rw [hEx] at hX; cases hX
   | some r6 =>
    obtain ⟨e3, fr3, h3⟩ := r6
    have hks3 := (Bs hS _ hok hEx).1
    show q.body.wpIn _ _ _ _ _ _
    refine DQ hC hS q.body hok hEx hz k2 k3 (by rw [k4]; exact mkp.ext k1) (fun m7 a7 w7 l1 l2 l3 l4 => ?_) none (.inl rfl)
    have hksA := hks5.trans hks3
    have hx7 : mp.ext hh.size m7 := by rw [← hmsz]; exact k1.trans l1 hks5.1
    have hit7 : w7.heap[it]? = some (.mapIter (some E1.g) clock (seen.push e0.born) clock) := (l2.df it _ (hx7.df _ _ (by rw [hmpd]; exact .inr (.inl ⟨rfl, rfl⟩)))).2
    have hmp7 : w7.heap[E1.g]? = some (.map ents clock) := (l2.df E1.g _ (hx7.df _ _ (by rw [hmpd]; exact .inr (.inr ⟨rfl, rfl⟩)))).2
    have key : ∀ ks' (x : Bool × Fr × List AA), QH ks' hh.size ob fr3 h3 x.1 = some x → ∃ m9 : AU, m2.ext hh.size m9 ∧ Rel C.P w0 m9 (DM hh ob x.2.2) w7 ∧ FR m9 x.2.1 a7 ∧ Mk mS m9 a7.defers ∧ (∀ g x, m9.df g x → g ≠ it ∧ g ≠ E1.g) := by
     intro ks' x hx
     obtain ⟨s1, s2, s3, s4⟩ := F3 hx
     obtain ⟨r8, _⟩ := Ti hh hobl rp hx7 hksA s4 l2
     refine ⟨⟨(mp.with m7).i, (mp.with m7).fz, fun k x => m7.df k x ∧ k ≠ it ∧ k ≠ E1.g⟩, ⟨fun i hi => ?_, fun g o v hv => ?_, fun g x hg => ?_⟩, r8.US _ (fun g x hg => r8.df g x hg.1) (fun i F o hF ho hl x hg => r8.ME i F o hF ho hl x hg.1), ?_, ?_, fun g x hg => hg.2⟩
     ·show mp.i i = m2.i i
      rw [hmpd]
      exact jx.i i hi
     ·exact hx7.fz g o v (by rw [hmpd]; exact jx.fz g o v hv)
     ·exact ⟨hx7.df g x (by rw [hmpd]; exact .inl (jx.df g x hg)), dfit g x hg⟩
     ·rw [s3]
      exact FR.US (m := mp.with m7) ((l3.DS ks').FY (m := mp.with m7) (n := hh.size) (fun i hi => hx7.i i hi) s1) _
     ·obtain ⟨b1, rs', b2, b3, b4⟩ := l4
      have fromS : ∀ g x, mS.df g x → m2.df g x := fun g x hg => by rw [hm2]; exact hk1.1 g x hg
      refine ⟨fun g x hg => ⟨b1 g x hg, dfit g x (fromS g x hg)⟩, rs', b2, b3, fun r hr => ⟨⟨(b4 r hr).1, fun e => ?_, fun e => ?_⟩, (b4 r hr).2⟩⟩
      ·have := (l2.df r _ (b4 r hr).1).2
       rw [e, hit7] at this
       cases this
      ·have := (l2.df r _ (b4 r hr).1).2
       rw [e, hmp7] at this
       cases this
    have next : ∀ x : Bool × Fr × List AA, x.1 = false → QH ks hh.size ob fr3 h3 x.1 = some x → some X = some x → J8 h1.size (nth fr3 tI) = true →
      (∃ (m' : AU) (vis : List Nat) (σ : Fr × List AA) (seen : Array Nat), m2.ext hh.size m' ∧ Rel C.P w0 m' (DM hh ob σ.2) w7 ∧ FR m' σ.1 a7 ∧ Mk mS m' a7.defers ∧ (∀ g x, m'.df g x → g ≠ it ∧ g ≠ E1.g) ∧
    w7.heap[E1.g]? = some (.map ents clock) ∧ w7.heap[it]? = some (.mapIter (some E1.g) clock seen clock) ∧ vis.Nodup ∧ (∀ i ∈ vis, i < ents.size) ∧
    (∀ (i : Nat) (en : MapEntry), ents[i]? = some en → (seen.contains en.born = true ↔ i ∈ vis)) ∧ C9 rnd (vis.map (Av.PF es)) σ0 = some (false, σ) ∧
    nth σ.1 tI = .ptr (some (h1.size, 0)) ∧ nth σ.1 tn = .undef ∧ nth σ.1 q.tb = .undef) ∧ w7.rangeLeft E1.g it < ww.rangeLeft E1.g it := by
     intro x hx1 hx hXx hat
     obtain ⟨m9, n1, n2, n3, n4, n5⟩ := key ks x hx
     obtain ⟨s1, s2, s3, s4⟩ := F3 hx
     have hl3 : fr3.length = fr1.length := by
      have e1 := (Bs hS _ hok hEx).2
      have e2 := (CR hS.sub _ hro).2
      rw [List.length_set] at e2
      omega
     have htI : tI < fr3.length := by
      have := MK.PF
      rcases Nat.lt_or_ge tI fr3.length with hlt | hge
      ·exact hlt
      ·have e := Nc hge
       rw [e] at hat
       cases hat
     have hkI : ks.any (Nat.beq tI) = true := by
      have h0 := Nt MK.PF
      cases hk : ks.any (Nat.beq tI) with
      | true => rfl
      | false =>
       rw [Hj (by simpa [hl3] using htI) hk] at h0
       cases h0
     refine ⟨⟨m9, vis ++ [i0], x.2, seen.push e0.born, n1, n2, n3, n4, n5, hmp7, hit7, ?_, fun i hi => ?_, fun i en' hen' => ?_, ?_, ?_, ?_, ?_⟩, ?_⟩
     ·rw [List.nodup_append]
      exact ⟨vn, by simp, fun a ha b hb e => by simp at hb; subst hb; subst e; exact hi0v ha⟩
     ·rcases List.mem_append.1 hi with hi | hi
      ·exact vl i hi
      ·simp at hi; subst hi; exact hi0'
     ·rw [contains_push, Bool.or_eq_true, List.mem_append, List.mem_singleton]
      constructor
      ·rintro (hc | hc)
       ·exact .inl ((vs i en' hen').1 hc)
       ·exact .inr (Qt hst2 hen' hent (eq_of_beq hc))
      ·rintro (hc | rfl)
       ·exact .inl ((vs i en' hen').2 hc)
       ·rw [hent] at hen'
        cases hen'
        exact .inr (by simp)
     ·rw [List.map_append, It _ _ vf, List.map_cons, hatI, List.map_nil]
      have : rnd σ (k, v) = some x := by rw [hX0]; exact hXx
      obtain ⟨x1, x2⟩ := x
      simp only at hx1
      subst hx1
      simp only [C9, this]
     ·rw [s3, IY ks 0 fr3 tI htI, Nat.zero_add, hkI]
      exact Nt hat
     ·rw [s3]; exact Hj (by omega) fr1n
     ·rw [s3]; exact Hj (by omega) fr2n
     ·have := left_shrinks ents seen e0 he0
      unfold World.rangeLeft
      rw [hmp7, hit7, hmp, hitr]
      exact this
    rw [hEx] at hX
    cases e3 with
    | normal =>
     simp only at hX
     cases hat : J8 h1.size (nth fr3 tI) with
     | false => rw [hat] at hX; cases hX
     | true =>
      rw [hat] at hX
      simp only [cond_true] at hX
      have hX1 := (F3 hX).2.1
      exact next X hX1 (by rw [hX1]; exact hX) rfl hat
    | exit i =>
     simp only at hX
     cases hat : (Nat.beq i q.b2 && J8 h1.size (nth fr3 tI)) with
     | false => rw [hat] at hX; cases hX
     | true =>
      rw [hat] at hX
      simp only [cond_true] at hX
      simp only [Bool.and_eq_true] at hat
      have hX1 := (F3 hX).2.1
      have := Nat.eq_of_beq_eq_true hat.1
      subst this
      show (if q.b2 = q.b2 then _ else _)
      rw [if_pos rfl]
      exact next X hX1 (by rw [hX1]; exact hX) rfl hat.2
    | ret =>
     simp only at hX
     have hX1 := (F3 hX).2.1
     obtain ⟨m9, n1, n2, n3, n4, n5⟩ := key rs X (by rw [hX1]; exact hX)
     have hXt : rnd σ (k, v) = some (true, X.2) := by rw [hX0, ← hX1]
     simp only [C9, hXt, Option.some.injEq, Prod.mk.injEq] at hall
     obtain ⟨b1, b2⟩ := hall
     have e1 : X.2.1 = frE := by rw [b2]
     have e2 : X.2.2 = csE := by rw [b2]
     rw [e2] at n2
     rw [e1] at n3
     have := hQ m9 a7 w7 (hext2.trans n1 (by omega)) (oh ▸ n2) (by rw [ofr]; exact n3) n4
     rw [oe, ← b1] at this
     exact this
theorem Kf (hS : De C n S) {f : FuncId} {g : Gd} : ∀ (c : Code), codeOk C f c = true → ∀ {fr : Fr} {h : AB} {e : BL} {fr' : Fr} {h' : AB}, GF C S f g c fr h = some (e, fr', h') → AN g h h' ∧ fr'.length = fr.length := by
 intro c
 induction c with
 | seq a b iha ihb =>
  intro hok fr h e fr' h' hx
  simp only [GF] at hx
  split at hx
  ·rename_i q hq
   obtain ⟨_, i8, i9, i10, hc⟩ := K2 hq
   rw [hc] at hok
   simp only [codeOk, Bool.and_eq_true] at hok
   exact OW hS hok.2.2.2.2 hx
  ·simp only [codeOk, Bool.and_eq_true] at hok
   split at hx
   ·rename_i fr1 h1 ha
    obtain ⟨k1, k2⟩ := iha hok.1 ha
    obtain ⟨k3, k4⟩ := ihb hok.2 hx
    exact ⟨k1.trans k3, k4.trans k2⟩
   ·exact iha hok.1 hx
 | _ => intro hok fr h e fr' h' hx; simp only [GF] at hx; exact Bs hS _ hok hx
theorem Ow (hC : E9 C) (hS : De C n S) {f : FuncId} {g : Gd} : ∀ (c : Code), codeOk C f c = true → ∀ {fr : Fr} {h : AB} {e : BL} {fr' : Fr} {h' : AB}, GF C S f g c fr h = some (e, fr', h') →
  ∀ {w0 : World} {mS m : AU} {w : World} {a : Act} {Q : Exit → Act → World → Prop}, BO C.CM w0 → Rel C.P w0 m h w → FR m fr a → Mk mS m a.defers → HE C.P w0 mS m h.size e fr' h' Q → c.wpIn (FW none) 0 C.P Q a w := by
 intro c
 induction c with
 | seq x y iha ihb =>
  intro hok fr h e fr' h' hx w0 mS m w a Q hz r hf hk0 hQ
  simp only [GF] at hx
  split at hx
  ·rename_i q hq
   have hok' := hok
   obtain ⟨_, i8, i9, i10, hc⟩ := K2 hq
   rw [hc] at hok'
   simp only [codeOk, Bool.and_eq_true] at hok'
   exact OC hC hS hq hok'.2.2.2.2 hx hz r hf hk0 hQ
  ·simp only [codeOk, Bool.and_eq_true] at hok
   split at hx
   ·rename_i fr1 h1 ha
    have hk := (Kf hS x hok.1 ha).1
    refine wpIn_seq (iha hok.1 ha hz r hf hk0 (fun m1 a1 w1 g1 g2 g3 g4 => ?_))
    exact ihb hok.2 hx hz g2 g3 g4 (hQ.trans hk.1 g1)
   ·rename_i hne
    refine wpIn_seq (iha hok.1 hx hz r hf hk0 (fun m1 a1 w1 g1 g2 g3 g4 => ?_))
    have hq := hQ m1 a1 w1 g1 g2 g3 g4
    cases e with
    | normal => exact absurd hx (hne _ _)
    | exit id => exact hq
    | ret => exact hq
 | _ => intro hok fr h e fr' h' hx w0 mS m w a Q hz r hf hk0 hQ; simp only [GF] at hx; exact DQ hC hS _ hok hx hz r hf hk0 hQ none (.inl rfl)
theorem PC (hC : E9 C) (hS : De C n S) {g : Gd} {h h' : AB} {f : FuncId} {args : List AA} {v : AA} (hk : C.kind f = 10) (hb : MZ C S g h f args = some (v, h')) :
  AN g h h' ∧ ∀ w0 m w (cargs : Array Value), BO C.CM w0 → Rel C.P w0 m h w → BU m args cargs.toList → Bd C.P f cargs w fun v' w' => ∃ m' : AU, (m.ext h.size m') ∧ Rel C.P w0 m' h' w' ∧ VR m' v v' := by
 unfold MZ at hb
 split at hb
 ·cases hb
 ·rename_i fn Ig
  split at hb
  ·cases hb
  ·rename_i c hc
   obtain ⟨hn, hok⟩ := hC.code f fn c (by omega) Ig hc
   have main : ∀ e fr1 h1, e = BL.normal ∨ e = BL.ret → GF C S f g c (args ++ List.replicate (fn.ntmps - args.length) (.tuple [])) h = some (e, fr1, h1) → (DK C.P fn fr1 h1).map (·, h1) = some (v, h') →
     AN g h h' ∧ ∀ w0 m w (cargs : Array Value), BO C.CM w0 → Rel C.P w0 m h w → BU m args cargs.toList → Bd C.P f cargs w fun v' w' => ∃ m' : AU, (m.ext h.size m') ∧ Rel C.P w0 m' h' w' ∧ VR m' v v' := by
    intro e fr1 h1 he hx hres
    simp only [Option.map_eq_some_iff, Prod.mk.injEq] at hres
    obtain ⟨u, hu, rfl, rfl⟩ := hres
    refine ⟨(Kf hS c hok hx).1, fun w0 m w cargs hz r hv => ?_⟩
    unfold Bd
    rw [C3 Ig hn hc]
    simp only
    have hlen : args.length = cargs.size := by rw [hv.1]; simp
    refine (callsIn_wide (n := 0)).1 (callsIn_of_wp_marks Ig hc trivial (Ow hC hS c hok hx hz r ⟨by simp [hlen], fun i => ?_⟩ (Mk.nil m) (fun m1 a1 w1 g1 g2 g3 g4 => ?_)))
    ·rw [FE, List.getD_eq_getElem?_getD]
     simp only [Array.getD_eq_getD_getElem?]
     by_cases hi : i < args.length
     ·rw [List.getElem?_append_left hi, Array.getElem?_append_left (by omega)]
      rw [List.getElem?_eq_getElem hi, Array.getElem?_eq_getElem (by omega)]
      exact hv.2 i _ _ (List.getElem?_eq_getElem hi) (by simp [← hlen, hi])
     ·rw [List.getElem?_append_right (by omega), Array.getElem?_append_right (by omega)]
      rw [List.getElem?_replicate, Array.getElem?_replicate, hlen]
      split
      ·exact VR.Dr m
      ·exact VR.Dr m
    ·have fin : LeavesInM Fence.wide 0 C.P fn a1.tmps (fun e w' => ∃ v', e = .returned v' ∧ ∃ m' : AU, (m.ext h.size m') ∧ Rel C.P w0 m' h1 w' ∧ VR m' u v') a1.defers .returning w1 := by
      obtain ⟨_, rs, e1, e2, e3⟩ := g4
      rw [e1]
      refine FM rs e2 m1 w1 g2 (fun r hr => (e3 r hr).1) fun m2 w2 d1 d2 d3 d4 => ?_
      have hle : m1.le m2 := ⟨fun id E hE => by rw [d1]; exact hE, fun g o v hv => by rw [d2]; exact hv⟩
      obtain ⟨v', q1, q2⟩ := Fg d4 (g3.mono hle) hu
      exact ⟨v', q1, v', rfl, m2, ⟨fun id hid => by rw [d1]; exact g1.i id hid, fun g o v hv => by rw [d2]; exact g1.fz g o v hv, fun g x hg => d3 g x (g1.df g x hg) fun hm => (e3 g hm).2 x hg⟩, d4, q2⟩
     rcases he with rfl | rfl
     ·exact fin
     ·exact fin
   split at hb
   ·rename_i fr1 h1 hx; exact main .normal fr1 h1 (.inl rfl) hx hb
   ·rename_i fr1 h1 hx; exact main .ret fr1 h1 (.inr rfl) hx hb
   ·cases hb
theorem Nx (hS : De C n S) {g : Gd} {c : Code} {fr : Fr} {h : AB} {e : BL} {fr' : Fr} {h' : AB} (hx : GP C S g c fr h = some (e, fr', h')) : AN g h h' ∧ fr'.length = fr.length := by
 unfold GP at hx
 split at hx
 ·split at hx
  ·split at hx
   ·rename_i hs
    split at hx
    ·rename_i hr
     simp only [Option.some.injEq, Prod.mk.injEq] at hx
     obtain ⟨_, rfl, rfl⟩ := hx
     obtain ⟨k1, k2⟩ := CR hS.sub _ hr
     exact ⟨(LF hs).trans k1, by rw [k2, C6]⟩
    ·cases hx
   ·cases hx
  ·cases hx
 ·cases hx
theorem Kc (hS : De C n S) {f : FuncId} {g : Gd} : ∀ (c : Code), codeOk C f c = true → ∀ {fr : Fr} {h : AB} {e : BL} {fr' : Fr} {h' : AB}, GJ C S f g c fr h = some (e, fr', h') → AN g h h' ∧ fr'.length = fr.length := by
 have base : ∀ (c : Code), codeOk C f c = true → ∀ {fr : Fr} {h : AB} {e : BL} {fr' : Fr} {h' : AB}, (bif HS c then GP C S g c fr h else Aa C S f g c fr h) = some (e, fr', h') → AN g h h' ∧ fr'.length = fr.length := by
  intro c hok fr h e fr' h' hx
  cases hs : HS c with
  | true => rw [hs] at hx; exact Nx hS hx
  | false => rw [hs] at hx; exact Bs hS c hok hx
 intro c
 induction c with
 | seq a b iha ihb =>
  intro hok fr h e fr' h' hx
  simp only [codeOk, Bool.and_eq_true] at hok
  simp only [GJ] at hx
  split at hx
  ·rename_i fr1 h1 ha
   obtain ⟨k1, k2⟩ := iha hok.1 ha
   obtain ⟨k3, k4⟩ := ihb hok.2 hx
   exact ⟨k1.trans k3, k4.trans k2⟩
  ·exact iha hok.1 hx
 | _ => intro hok fr h e fr' h' hx; simp only [GJ] at hx; exact base _ hok hx
theorem NJ (hC : E9 C) (hS : De C n S) {g : Gd} {c : Code} (hs : HS c = true) {fr : Fr} {h : AB} {e : BL} {fr' : Fr} {h' : AB} (hx : GP C S g c fr h = some (e, fr', h'))
  {w0 : World} {mS m : AU} {w : World} {a : Act} {Q : Exit → Act → World → Prop} (hz : BO C.CM w0) (r : Rel C.P w0 m h w) (hf : FR m fr a) (hk0 : Mk mS m a.defers) (hQ : HE C.P w0 mS m h.size e fr' h' Q) : Ts C.P c Q a w := by
 cases c with
 | region id ops draw =>
  simp only [HS, Bool.and_eq_true, Bool.not_eq_true'] at hs
  obtain ⟨rfl, hs⟩ := hs
  split at hs
  ·rename_i o ho
   split at hs
   ·rename_i cases0 bl hop
    simp only [GP] at hx
    have hol : ∃ rest, ops.toList = o :: rest := by
     cases hl : ops.toList with
     | nil => rw [← Array.getElem?_toList, hl] at ho; cases ho
     | cons o' rest =>
      rw [← Array.getElem?_toList, hl] at ho
      simp only [List.getElem?_cons_zero, Option.some.injEq] at ho
      exact ⟨rest, by rw [ho]⟩
    obtain ⟨rest, hol⟩ := hol
    rw [hol] at hx
    simp only at hx
    split at hx
    ·rename_i v h1 hsel
     split at hx
     ·rename_i fr1 h2 hr
      simp only [Option.some.injEq, Prod.mk.injEq] at hx
      obtain ⟨rfl, rfl, rfl⟩ := hx
      obtain ⟨cases1, v', w', q1, q2, q3, q4⟩ := Pd r hf hsel
      have hk := LF hsel
      have hde : (a.put o.dst v').defers = a.defers := by cases o.dst <;> rfl
      have hx0 : ∀ m' : AU, m.ext h1.size m' → m.ext h.size m' := fun m' g1 => (AU.ext.refl m _).trans g1 hk.1
      have hr' := Ed hS.sub hz _ q3 (hf.put o.dst q4) hr (Q := Q) (ops := ops) (fun m' a' w' g1 g2 g3 g4 => hQ m' a' w' (hx0 m' g1) g2 g3 (by rw [g4, hde]; exact hk0.ext (hx0 m' g1))) none
      refine LV ho ?_ q1 q2 ?_
      ·unfold Region.wanted
       cases hg : o.guard with
       | none => rfl
       | some p => rw [hg] at hs; cases hs
      ·rw [hol, List.drop_one, List.tail_cons]
       exact hr'
     ·cases hx
    ·cases hx
   ·cases hs
  ·cases hs
 | _ => simp [HS] at hs
theorem OQ (hC : E9 C) (hS : De C n S) {f : FuncId} {g : Gd} : ∀ (c : Code), codeOk C f c = true → ∀ {fr : Fr} {h : AB} {e : BL} {fr' : Fr} {h' : AB}, GJ C S f g c fr h = some (e, fr', h') →
  ∀ {w0 : World} {mS m : AU} {w : World} {a : Act} {Q : Exit → Act → World → Prop}, BO C.CM w0 → Rel C.P w0 m h w → FR m fr a → Mk mS m a.defers → HE C.P w0 mS m h.size e fr' h' Q → Ts C.P c Q a w := by
 have base : ∀ (c : Code), codeOk C f c = true → ∀ {fr : Fr} {h : AB} {e : BL} {fr' : Fr} {h' : AB}, (bif HS c then GP C S g c fr h else Aa C S f g c fr h) = some (e, fr', h') →
   ∀ {w0 : World} {mS m : AU} {w : World} {a : Act} {Q : Exit → Act → World → Prop}, BO C.CM w0 → Rel C.P w0 m h w → FR m fr a → Mk mS m a.defers → HE C.P w0 mS m h.size e fr' h' Q → Ts C.P c Q a w := by
  intro c hok fr h e fr' h' hx w0 mS m w a Q hz r hf hk0 hQ
  cases hs : HS c with
  | true => rw [hs] at hx; exact NJ hC hS hs hx hz r hf hk0 hQ
  | false => rw [hs] at hx; exact RF (wpIn_wide.1 (DQ hC hS c hok hx hz r hf hk0 hQ none (.inl rfl)))
 intro c
 induction c with
 | seq x y iha ihb =>
  intro hok fr h e fr' h' hx w0 mS m w a Q hz r hf hk0 hQ
  simp only [codeOk, Bool.and_eq_true] at hok
  simp only [GJ] at hx
  split at hx
  ·rename_i fr1 h1 ha
   have hk := (Kc hS x hok.1 ha).1
   refine Q4 (iha hok.1 ha hz r hf hk0 (fun m1 a1 w1 g1 g2 g3 g4 => ?_))
   exact ihb hok.2 hx hz g2 g3 g4 (hQ.trans hk.1 g1)
  ·rename_i hne
   refine Q4 (iha hok.1 hx hz r hf hk0 (fun m1 a1 w1 g1 g2 g3 g4 => ?_))
   have hq := hQ m1 a1 w1 g1 g2 g3 g4
   cases e with
   | normal => exact absurd hx (hne _ _)
   | exit id => exact hq
   | ret => exact hq
 | _ => intro hok fr h e fr' h' hx; simp only [GJ] at hx; exact base _ hok hx
theorem OF (hC : E9 C) (hS : De C n S) {g : Gd} {h h' : AB} {f : FuncId} {args : List AA} {v : AA} (hk : C.kind f = 8) (hb : MW C S g h f args = some (v, h')) :
  AN g h h' ∧ ∀ w0 m w (cargs : Array Value), BO C.CM w0 → Rel C.P w0 m h w → BU m args cargs.toList → Bd C.P f cargs w fun v' w' => ∃ m' : AU, (m.ext h.size m') ∧ Rel C.P w0 m' h' w' ∧ VR m' v v' := by
 unfold MW at hb
 split at hb
 ·cases hb
 ·rename_i fn Ig
  split at hb
  ·cases hb
  ·rename_i c hc
   obtain ⟨hn, hok⟩ := hC.code f fn c (by omega) Ig hc
   have main : ∀ e fr1 h1, e = BL.normal ∨ e = BL.ret → GJ C S f g c (args ++ List.replicate (fn.ntmps - args.length) (.tuple [])) h = some (e, fr1, h1) → (DK C.P fn fr1 h1).map (·, h1) = some (v, h') →
     AN g h h' ∧ ∀ w0 m w (cargs : Array Value), BO C.CM w0 → Rel C.P w0 m h w → BU m args cargs.toList → Bd C.P f cargs w fun v' w' => ∃ m' : AU, (m.ext h.size m') ∧ Rel C.P w0 m' h' w' ∧ VR m' v v' := by
    intro e fr1 h1 he hx hres
    simp only [Option.map_eq_some_iff, Prod.mk.injEq] at hres
    obtain ⟨u, hu, rfl, rfl⟩ := hres
    refine ⟨(Kc hS c hok hx).1, fun w0 m w cargs hz r hv => ?_⟩
    unfold Bd
    rw [C3 Ig hn hc]
    simp only
    have hlen : args.length = cargs.size := by rw [hv.1]; simp
    refine Iz Ig hc (OQ hC hS c hok hx hz r ⟨by simp [hlen], fun i => ?_⟩ (Mk.nil m) (fun m1 a1 w1 g1 g2 g3 g4 => ?_))
    ·rw [FE, List.getD_eq_getElem?_getD]
     simp only [Array.getD_eq_getD_getElem?]
     by_cases hi : i < args.length
     ·rw [List.getElem?_append_left hi, Array.getElem?_append_left (by omega)]
      rw [List.getElem?_eq_getElem hi, Array.getElem?_eq_getElem (by omega)]
      exact hv.2 i _ _ (List.getElem?_eq_getElem hi) (by simp [← hlen, hi])
     ·rw [List.getElem?_append_right (by omega), Array.getElem?_append_right (by omega)]
      rw [List.getElem?_replicate, Array.getElem?_replicate, hlen]
      split
      ·exact VR.Dr m
      ·exact VR.Dr m
    ·have fin : LeavesInM Fence.wide 0 C.P fn a1.tmps (fun e w' => ∃ v', e = .returned v' ∧ ∃ m' : AU, (m.ext h.size m') ∧ Rel C.P w0 m' h1 w' ∧ VR m' u v') a1.defers .returning w1 := by
      obtain ⟨_, rs, e1, e2, e3⟩ := g4
      rw [e1]
      refine FM rs e2 m1 w1 g2 (fun r hr => (e3 r hr).1) fun m2 w2 d1 d2 d3 d4 => ?_
      have hle : m1.le m2 := ⟨fun id E hE => by rw [d1]; exact hE, fun g o v hv => by rw [d2]; exact hv⟩
      obtain ⟨v', q1, q2⟩ := Fg d4 (g3.mono hle) hu
      exact ⟨v', q1, v', rfl, m2, ⟨fun id hid => by rw [d1]; exact g1.i id hid, fun g o v hv => by rw [d2]; exact g1.fz g o v hv, fun g x hg => d3 g x (g1.df g x hg) fun hm => (e3 g hm).2 x hg⟩, d4, q2⟩
     rcases he with rfl | rfl
     ·exact fin
     ·exact fin
   split at hb
   ·rename_i fr1 h1 hx; exact main .normal fr1 h1 (.inl rfl) hx hb
   ·rename_i fr1 h1 hx; exact main .ret fr1 h1 (.inr rfl) hx hb
   ·cases hb
theorem Bd.mono {P : Program} {f : FuncId} {args : Array Value} {w : World} {Q Q' : Value → World → Prop} (h : Bd P f args w Q) (hq : ∀ v w', Q v w' → Q' v w') : Bd P f args w Q' := by
 unfold Bd at *
 split at h
 ·exact hq _ _ h
 ·exact h.mono fun e w'' ⟨v, h1, h2⟩ => ⟨v, h1, hq _ _ h2⟩
 ·exact h.elim
def Mf (P : Program) (g : Gd) (f : AB → AA → Option (AA × AB)) : Prop := ∀ (h : AB) (v v' : AA) (h' : AB), f h v = some (v', h') → AN g h h' ∧ ∀ w0 (m : AU) w u, Rel P w0 m h w → VR m v u → ∃ m' : AU, m.ext h.size m' ∧ Rel P w0 m' h' w ∧ VR m' v' u
theorem Nq {P : Program} (g : Gd) : Mf P g (Fm g) := fun h v v' h' hf => ⟨Lv hf, fun w0 m w u r hv => Lq hf w0 m w u r hv⟩
theorem Jb {P : Program} {g : Gd} {f : AB → AA → Option (AA × AB)} (hf : Mf P g f) : ∀ (vs : List AA) (h : AB) (vs' : List AA) (h' : AB), JC f vs h = some (vs', h') →
  AN g h h' ∧ ∀ w0 (m : AU) w us, Rel P w0 m h w → BU m vs us → ∃ m' : AU, m.ext h.size m' ∧ Rel P w0 m' h' w ∧ BU m' vs' us
 | [], h, vs', h', hx => by
  simp only [JC, Option.some.injEq, Prod.mk.injEq] at hx
  obtain ⟨rfl, rfl⟩ := hx
  exact ⟨AN.refl _ _, fun w0 m w us r hv => ⟨m, AU.ext.refl _ _, r, hv⟩⟩
 | v :: vs, h, vs', h', hx => by
  unfold JC at hx
  split at hx
  ·rename_i v1 h1 h1e
   simp only [Option.map_eq_some_iff, Prod.mk.injEq] at hx
   obtain ⟨⟨l, h2⟩, hl, rfl, rfl⟩ := hx
   obtain ⟨k1, q1⟩ := hf h v v1 h1 h1e
   obtain ⟨k2, q2⟩ := Jb hf vs h1 l h2 hl
   refine ⟨k1.trans k2, fun w0 m w us r hv => ?_⟩
   cases us with
   | nil => simp [BU] at hv
   | cons u us =>
    have hc := hv.2 0 v u rfl rfl
    have hv' : BU m vs us := ⟨by simpa using hv.1, fun i x y hx hy => hv.2 (i + 1) x y (by simpa using hx) (by simpa using hy)⟩
    obtain ⟨m1, e1, e2, e3⟩ := q1 w0 m w u r hc
    obtain ⟨m2, g1, g2, g3⟩ := q2 w0 m1 w us e2 (hv'.mono (r.Jh e1))
    exact ⟨m2, e1.trans g1 k1.1, g2, .cons (e3.mono (e2.Jh g1)) g3⟩
  ·cases hx
theorem Np {P : Program} (g : Gd) : Mf P g (Ju g) := by
 intro h v v' h' hf
 unfold Ju at hf
 split at hf
 ·simp only [Option.map_eq_some_iff, Prod.mk.injEq] at hf
  obtain ⟨⟨l, h2⟩, hl, rfl, rfl⟩ := hf
  obtain ⟨k1, q1⟩ := Jb (Nq g) _ h l h2 hl
  refine ⟨k1, fun w0 m w u r hv => ?_⟩
  obtain ⟨c, rfl, vc⟩ := hv.Dy
  obtain ⟨m1, e1, e2, e3⟩ := q1 w0 m w _ r vc
  exact ⟨m1, e1, e2, BU.agg e3⟩
 ·exact Nq g h v v' h' hf
theorem No {P : Program} (g : Gd) : Mf P g (Kr g) := by
 intro h v v' h' hf
 unfold Kr at hf
 split at hf
 ·simp only [Option.map_eq_some_iff, Prod.mk.injEq] at hf
  obtain ⟨⟨l, h2⟩, hl, rfl, rfl⟩ := hf
  obtain ⟨k1, q1⟩ := Jb (Np g) _ h l h2 hl
  refine ⟨k1, fun w0 m w u r hv => ?_⟩
  obtain ⟨c, rfl, vc⟩ := hv.FV
  obtain ⟨m1, e1, e2, e3⟩ := q1 w0 m w _ r vc
  exact ⟨m1, e1, e2, BU.tuple e3⟩
 ·exact Np g h v v' h' hf
theorem Q1 {P : Program} (g : Gd) : Mf P g (Tu g) := by
 intro h v v' h' hf
 unfold Tu at hf
 split at hf
 ·rename_i id
  split at hf
  ·rename_i cs hg
   cases hm : g.may id with
   | false => rw [hm] at hf; cases hf
   | true =>
    rw [hm] at hf
    simp only [cond_true, Option.map_eq_some_iff, Prod.mk.injEq] at hf
    obtain ⟨⟨l, h2⟩, hl, rfl, rfl⟩ := hf
    obtain ⟨k1, q1⟩ := Jb (Nq g) _ _ l h2 hl
    refine ⟨(AN.set hg hm).trans k1, fun w0 m w u r hv => ?_⟩
    cases hv with
    | ptr _ _ E hE =>
     obtain ⟨cur, r', hle', _, _, hcs⟩ := r.freeze hE hg
     have hus : BU (m.still E.g cur) cs ((List.range cs.length).map fun i => (cur[E.base + i]?).getD undef) := by
      refine ⟨by simp, fun i x y hx hy => ?_⟩
      have hi : i < cs.length := (List.getElem?_eq_some_iff.1 hx).1
      obtain ⟨c, h1, h3⟩ := hcs i x hx
      simp only [List.getElem?_map, List.getElem?_range hi, Option.map_some, Option.some.injEq] at hy
      rw [← hy, h1]
      exact h3.mono hle'
     obtain ⟨m2, e1, e2, e3⟩ := q1 w0 (m.still E.g cur) w _ r' hus
     have hlen : l.length = cs.length := by rw [e3.1]; simp
     have e0 : m.ext h.size (m.still E.g cur) := ⟨fun _ _ => rfl, hle'.fz, fun _ _ h => h⟩
     refine ⟨m2, e0.trans e1 (by simp), e2, .DF _ _ l (fun i => (cur[E.base + i]?).getD undef) (fun i hi => e1.fz _ _ _ ?_) (fun i x hx => ?_)⟩
     ·obtain ⟨c, h1, _⟩ := hcs i _ (List.getElem?_eq_getElem (by omega))
      simp [AU.still, h1]
     ·have hi : i < cs.length := by rw [← hlen]; exact (List.getElem?_eq_some_iff.1 hx).1
      exact e3.2 i x _ hx (by simp [hi])
  ·cases hf
 ·exact Np g h v v' h' hf
theorem Qf {P : Program} (g : Gd) : Mf P g (Vv g) := by
 intro h v v' h' hf
 unfold Vv at hf
 split at hf
 ·simp only [Option.map_eq_some_iff, Prod.mk.injEq] at hf
  obtain ⟨⟨l, h2⟩, hl, rfl, rfl⟩ := hf
  obtain ⟨k1, q1⟩ := Jb (Q1 g) _ h l h2 hl
  refine ⟨k1, fun w0 m w u r hv => ?_⟩
  obtain ⟨c, rfl, vc⟩ := hv.FV
  obtain ⟨m1, e1, e2, e3⟩ := q1 w0 m w _ r vc
  exact ⟨m1, e1, e2, BU.tuple e3⟩
 ·exact Q1 g h v v' h' hf
theorem N3 (hC : E9 C) (hS : De C n S) : Nn C.P C.CM (HK C S) := by
 intro g h f args v h' hc
 unfold HK at hc
 split at hc
 ·rename_i hk
  obtain ⟨k1, k2⟩ := EF hC hS (.inl hk) hc
  exact ⟨k1, fun w0 m w cargs hz r hv => k2 w0 m w cargs hz r (hv.B3 _)⟩
 ·rename_i hk
  split at hc
  ·rename_i u h1 hb
   obtain ⟨k1, k2⟩ := EF hC hS (.inr (.inl hk)) hb
   cases hfl : JS u with
   | false => rw [hfl] at hc; cases hc
   | true =>
    rw [hfl] at hc
    simp only [cond_true, Option.some.injEq, Prod.mk.injEq] at hc
    obtain ⟨rfl, rfl⟩ := hc
    refine ⟨AN.refl _ _, fun w0 m w cargs hz r hv => (k2 w0 m w cargs hz r hv).mono fun v' w' ⟨m', g1, g2, g3⟩ => ?_⟩
    refine ⟨m.with m', AU.TJ g1 _, r.back g1 (fun id hid => k1.2 id hid ?_) g2, g3.JS hfl⟩
    have : Nat.ble h.size id = false := by
     cases hb : Nat.ble h.size id with
     | false => rfl
     | true => have := Nat.le_of_ble_eq_true hb; omega
    simp [Gd.may, this]
  ·cases hc
 ·rename_i hk
  have := hC.ext f hk g h f args v h' (by simpa using hc)
  exact this
 ·rename_i hk
  cases hfa : args.all Fk with
  | false => rw [hfa] at hc; cases hc
  | true =>
   rw [hfa] at hc
   simp only [cond_true] at hc
   split at hc
   ·rename_i u h1 hb
    obtain ⟨k1, k2⟩ := EF hC hS (by omega) hb
    cases hfl : JS u with
    | false => rw [hfl] at hc; cases hc
    | true =>
     rw [hfl] at hc
     simp only [cond_true, Option.some.injEq, Prod.mk.injEq] at hc
     obtain ⟨rfl, rfl⟩ := hc
     refine ⟨AN.refl _ _, fun w0 m w cargs hz r hv => ?_⟩
     have hv0 : BU ⟨fun _ => none, fun _ _ => none, fun _ _ => False⟩ args cargs.toList := ⟨hv.1, fun i x y hx hy => (hv.2 i x y hx hy).Fk (List.all_eq_true.1 hfa x (List.mem_of_getElem? hx))⟩
     have r0 : Rel C.P w ⟨fun _ => none, fun _ _ => none, fun _ _ => False⟩ ⟨0, .leaf⟩ w := ⟨Below.refl _ _, fun id E hE => by simp at hE, fun id E o hE => by simp at hE, fun id E o hE => by simp at hE, fun id id' E E' o o' _ hE => by simp at hE, fun g o v hv => (by cases hv), fun id E o hE => (by simp at hE), fun g x hg => hg.elim, fun id E o hE => by simp at hE⟩
     refine (k2 w _ w cargs (hz.later r.below) r0 hv0).mono fun v' w' ⟨m', g1, g2, g3⟩ => ⟨m, AU.ext.refl _ _, r.later g2.below, g3.JS hfl⟩
   ·cases hc
  done
 ·rename_i hk
  split at hc
  ·rename_i u h1 hb
   obtain ⟨k1, k2⟩ := EF hC hS (by omega) hb
   refine ⟨k1.trans (No (P := C.P) g h1 u v h' hc).1, fun w0 m w cargs hz r hv => (k2 w0 m w cargs hz r (hv.B3 _)).mono fun v' w' ⟨m', g1, g2, g3⟩ => ?_⟩
   obtain ⟨m2, e1, e2, e3⟩ := (No (P := C.P) g h1 u v h' hc).2 _ m' w' v' g2 g3
   exact ⟨m2, g1.trans e1 k1.1, e2, e3⟩
  ·cases hc
 ·rename_i hk
  obtain ⟨k1, k2⟩ := OF hC hS hk hc
  exact ⟨k1, fun w0 m w cargs hz r hv => k2 w0 m w cargs hz r (hv.B3 _)⟩
 ·rename_i hk
  split at hc
  ·rename_i u h1 hb
   obtain ⟨k1, k2⟩ := EF hC hS (by omega) hb
   refine ⟨k1.trans (Qf (P := C.P) g h1 u v h' hc).1, fun w0 m w cargs hz r hv => (k2 w0 m w cargs hz r (hv.B3 _)).mono fun v' w' ⟨m', g1, g2, g3⟩ => ?_⟩
   obtain ⟨m2, e1, e2, e3⟩ := (Qf (P := C.P) g h1 u v h' hc).2 _ m' w' v' g2 g3
   exact ⟨m2, g1.trans e1 k1.1, e2, e3⟩
  ·cases hc
 ·rename_i hk
  obtain ⟨k1, k2⟩ := PC hC hS hk hc
  exact ⟨k1, fun w0 m w cargs hz r hv => k2 w0 m w cargs hz r (hv.B3 _)⟩
 ·rename_i hk
  split at hc
  ·rename_i args' h1 hf
   obtain ⟨k1, k2⟩ := EF hC hS (by omega) hc
   have hf3 : Kr g h (.tuple args) = some (.tuple args', h1) := by unfold Kr; simp only [hf, Option.map_some]
   obtain ⟨q1, q2⟩ := No (P := C.P) g h _ _ h1 hf3
   refine ⟨q1.trans k1, fun w0 m w cargs hz r hv => ?_⟩
   obtain ⟨m2, e1, e2, e3⟩ := q2 _ m w (.tuple cargs) r (BU.tuple hv)
   obtain ⟨c, hc', hv'⟩ := e3.FV
   cases hc'
   exact (k2 w0 m2 w cargs hz e2 hv').mono fun v' w' ⟨m', g1, g2, g3⟩ => ⟨m', e1.trans g1 q1.1, g2, g3⟩
  ·cases hc
 ·cases hc
theorem Oy (hC : E9 C) : ∀ n, De C n (Ca C n)
 | 0 => ⟨⟨fun g h f args v h' hc => by simp [Ca] at hc, fun g h l args v h' hc => by simp [Ca] at hc⟩, fun g f c fr h e fr' h' _ hx => by simp [Ca] at hx, fun g f c fr h e fr' h' _ hx => by simp [Ca] at hx⟩
 | n + 1 => by
  have ih := Oy hC n
  refine ⟨⟨N3 hC ih, Nl hC ih⟩, fun g f c fr h e fr' h' hok hx => ?_, fun g f c fr h e fr' h' hok hx w0 mS m w a Q hz r hf hk0 hQ rd hrd => ?_⟩
  ·exact Bs ih (.loop c) (by simpa [codeOk] using hok) hx
  ·exact M8 hC ih hok hx hz r hf hk0 hQ rd hrd
theorem PJ (hC : E9 C) {n : Nat} {g : Gd} {h h' : AB} {f : FuncId} {args : List AA} {v : AA} (hr : Wx C n g h f args = some (v, h')) {w0 : World} {m : AU} {w : World} {cargs : Array Value} (hz : BO C.CM w0) (r : Rel C.P w0 m h w) (hv : BU m args cargs.toList) :
  Bd C.P f cargs w fun v' w' => ∃ m' : AU, (m.ext h.size m') ∧ Rel C.P w0 m' h' w' ∧ VR m' v v' :=
 ((Oy hC n).sub.call g h f args v h' hr).2 w0 m w cargs hz r hv
theorem PI (hC : E9 C) {n : Nat} {g : Gd} {h h' : AB} {f : FuncId} {args : List AA} {v : AA} (hr : Wx C n g h f args = some (v, h')) {fn : Func} {c : Code} (Ig : C.P.funcs[f]? = some fn) (hn : (fn.name == "runtime.NumGoroutine") = false) (hb : fn.body = some c)
  {w0 : World} {m : AU} {w : World} {cargs : Array Value} (hz : BO C.CM w0) (r : Rel C.P w0 m h w) (hv : BU m args cargs.toList) :
  Calls C.P f cargs w fun e w' => ∃ v', e = .returned v' ∧ ∃ m' : AU, (m.ext h.size m') ∧ Rel C.P w0 m' h' w' ∧ VR m' v v' := by
 have := PJ hC hr hz r hv
 unfold Bd at this
 rw [C3 Ig hn hb] at this
 exact this
end
end Go.Av
