/-
  ABS, 14: THE ABSTRACT RUN IS SOUND: where it tells a value, the model's call returns one that stands to it, whatever order, capacities and blocks the model draws; nothing that was there ahead of the run has turned.
-/
import Derived.Test.YtmjljpnalhknfaaDoorAbsDraw
import Derived.LoopN
import Derived.Scope
namespace Go.Abs
open Go.RowKit

def codeOk (C : Cfg) (f : FuncId) : Code → Bool
  | .region id ops draw => !draw || planOk C.P ops (C.plan f id)
  | .seq a b => codeOk C f a && codeOk C f b
  | .cond _ a b => codeOk C f a && codeOk C f b
  | .block _ c => codeOk C f c
  | .loop c => codeOk C f c
  | .scope c => codeOk C f c
  | _ => true

structure CfgOk (C : Cfg) : Prop where
  mix : C.P.follows .mixedOrders = true
  code : ∀ f fn c, (C.kind f = 1 ∨ C.kind f = 2 ∨ C.kind f = 4) → C.P.funcs[f]? = some fn → fn.body = some c → (fn.name == "runtime.NumGoroutine") = false ∧ codeOk C f c = true
  ext : ∀ f, C.kind f = 3 → CallOk C.P C.glob fun g h f' args => if f' = f then C.ext f g h args else none

def AExit.to : AExit → Exit
  | .normal => .normal
  | .exit id => .exit id
  | .ret => .ret

/-- what is asked of the exit of a run -/
def After (P : Program) (w0 : World) (m : Inj) (n : Nat) (d : List Deferred) (e : AExit) (fr' : Fr) (h' : AHeap) (Q : Exit → Act → World → Prop) : Prop :=
  ∀ m' a' w', (∀ id, id < n → m' id = m id) → Rel P w0 m' h' w' → FR m' fr' a' → a'.defers = d → Q e.to a' w'

structure SelfOk (C : Cfg) (n : Nat) (S : Self) : Prop where
  call : CallOk C.P C.glob S.call
  keeps : ∀ g f c fr h e fr' h', codeOk C f c = true → S.loop g f c fr h = some (e, fr', h') → Keeps g h h' ∧ fr'.length = fr.length
  loop : ∀ g f c fr h e fr' h', codeOk C f c = true → S.loop g f c fr h = some (e, fr', h') → ∀ w0 m w a Q, GlobOk C.glob w0 → Rel C.P w0 m h w → FR m fr a → After C.P w0 m h.size a.defers e fr' h' Q → Code.rounds C.P c Q n a w

section
variable {C : Cfg} {S : Self} {n : Nat}

theorem execA_keeps (hS : SelfOk C n S) {f : FuncId} {g : Gd} : ∀ (c : Code), codeOk C f c = true → ∀ {fr : Fr} {h : AHeap} {e : AExit} {fr' : Fr} {h' : AHeap}, execA C S f g c fr h = some (e, fr', h') → Keeps g h h' ∧ fr'.length = fr.length := by
  intro c
  induction c with
  | skip => intro _ fr h e fr' h' hx; simp only [execA, Option.some.injEq, Prod.mk.injEq] at hx; obtain ⟨_, rfl, rfl⟩ := hx; exact ⟨Keeps.refl _ _, rfl⟩
  | label l => intro _ fr h e fr' h' hx; simp only [execA, Option.some.injEq, Prod.mk.injEq] at hx; obtain ⟨_, rfl, rfl⟩ := hx; exact ⟨Keeps.refl _ _, rfl⟩
  | exit id => intro _ fr h e fr' h' hx; simp only [execA, Option.some.injEq, Prod.mk.injEq] at hx; obtain ⟨_, rfl, rfl⟩ := hx; exact ⟨Keeps.refl _ _, rfl⟩
  | ret => intro _ fr h e fr' h' hx; simp only [execA, Option.some.injEq, Prod.mk.injEq] at hx; obtain ⟨_, rfl, rfl⟩ := hx; exact ⟨Keeps.refl _ _, rfl⟩
  | goto l => intro _ fr h e fr' h' hx; simp [execA] at hx
  | refuse s => intro _ fr h e fr' h' hx; simp [execA] at hx
  | rangeFunc f ps a b iha ihb => intro _ fr h e fr' h' hx; simp [execA] at hx
  | region id ops draw =>
    intro hok fr h e fr' h' hx
    simp only [execA] at hx
    cases draw with
    | true =>
      simp only [cond_true] at hx
      split at hx
      · rename_i fr1 h1 hr
        simp only [Option.some.injEq, Prod.mk.injEq] at hx
        obtain ⟨_, rfl, rfl⟩ := hx
        exact runPlan_keeps (by simpa [codeOk] using hok) hS.call hr
      · cases hx
    | false =>
      simp only [cond_false] at hx
      split at hx
      · rename_i fr1 h1 hr
        simp only [Option.some.injEq, Prod.mk.injEq] at hx
        obtain ⟨_, rfl, rfl⟩ := hx
        exact runOps_keeps hS.call _ hr
      · cases hx
  | seq a b iha ihb =>
    intro hok fr h e fr' h' hx
    simp only [codeOk, Bool.and_eq_true] at hok
    simp only [execA] at hx
    split at hx
    · rename_i fr1 h1 ha
      obtain ⟨k1, k2⟩ := iha hok.1 ha
      obtain ⟨k3, k4⟩ := ihb hok.2 hx
      exact ⟨k1.trans k3, k4.trans k2⟩
    · exact iha hok.1 hx
  | cond c a b iha ihb =>
    intro hok fr h e fr' h' hx
    simp only [codeOk, Bool.and_eq_true] at hok
    simp only [execA] at hx
    split at hx
    · exact iha hok.1 hx
    · exact ihb hok.2 hx
    · cases hx
  | block id c ih =>
    intro hok fr h e fr' h' hx
    simp only [codeOk] at hok
    simp only [execA] at hx
    split at hx
    · rename_i i fr1 h1 ha
      have hk := ih hok ha
      cases hb : Nat.beq i id <;> rw [hb] at hx <;> simp only [cond_true, cond_false, Option.some.injEq, Prod.mk.injEq] at hx <;> obtain ⟨_, rfl, rfl⟩ := hx <;> exact hk
    · exact ih hok hx
  | loop c ih =>
    intro hok fr h e fr' h' hx
    simp only [codeOk] at hok
    simp only [execA] at hx
    split at hx
    · rename_i fr1 h1 ha
      obtain ⟨k1, k2⟩ := ih hok ha
      obtain ⟨k3, k4⟩ := hS.keeps g f c fr1 h1 e fr' h' hok hx
      exact ⟨k1.trans k3, k4.trans k2⟩
    · exact ih hok hx
  | scope c ih => intro hok fr h e fr' h' hx; simp only [codeOk] at hok; simp only [execA] at hx; exact ih hok hx

theorem After.trans {P : Program} {w0 : World} {m m1 : Inj} {k k1 : Nat} {d d1 : List Deferred} {e : AExit} {fr' : Fr} {h' : AHeap} {Q : Exit → Act → World → Prop} (hQ : After P w0 m k d e fr' h' Q) (hk : k ≤ k1) (h1 : ∀ id, id < k → m1 id = m id) (hd : d1 = d) : After P w0 m1 k1 d1 e fr' h' Q :=
  fun m' a' w' g1 g2 g3 g4 => hQ m' a' w' (fun id hid => (g1 id (Nat.lt_of_lt_of_le hid hk)).trans (h1 id hid)) g2 g3 (g4.trans hd)

theorem execA_sound (hC : CfgOk C) (hS : SelfOk C n S) {f : FuncId} {g : Gd} : ∀ (c : Code), codeOk C f c = true → ∀ {fr : Fr} {h : AHeap} {e : AExit} {fr' : Fr} {h' : AHeap}, execA C S f g c fr h = some (e, fr', h') →
    ∀ {w0 : World} {m : Inj} {w : World} {a : Act} {Q : Exit → Act → World → Prop}, GlobOk C.glob w0 → Rel C.P w0 m h w → FR m fr a → After C.P w0 m h.size a.defers e fr' h' Q → c.wp C.P Q a w := by
  intro c
  induction c with
  | skip => intro _ fr h e fr' h' hx w0 m w a Q hz r hf hQ; simp only [execA, Option.some.injEq, Prod.mk.injEq] at hx; obtain ⟨rfl, rfl, rfl⟩ := hx; exact wp_skip (hQ m a w (fun _ _ => rfl) r hf rfl)
  | label l => intro _ fr h e fr' h' hx w0 m w a Q hz r hf hQ; simp only [execA, Option.some.injEq, Prod.mk.injEq] at hx; obtain ⟨rfl, rfl, rfl⟩ := hx; exact wp_label (hQ m a w (fun _ _ => rfl) r hf rfl)
  | exit id => intro _ fr h e fr' h' hx w0 m w a Q hz r hf hQ; simp only [execA, Option.some.injEq, Prod.mk.injEq] at hx; obtain ⟨rfl, rfl, rfl⟩ := hx; exact wp_exit (hQ m a w (fun _ _ => rfl) r hf rfl)
  | ret => intro _ fr h e fr' h' hx w0 m w a Q hz r hf hQ; simp only [execA, Option.some.injEq, Prod.mk.injEq] at hx; obtain ⟨rfl, rfl, rfl⟩ := hx; exact wp_ret (hQ m a w (fun _ _ => rfl) r hf rfl)
  | goto l => intro _ fr h e fr' h' hx; simp [execA] at hx
  | refuse s => intro _ fr h e fr' h' hx; simp [execA] at hx
  | rangeFunc f ps a b iha ihb => intro _ fr h e fr' h' hx; simp [execA] at hx
  | region id ops draw =>
    intro hok fr h e fr' h' hx w0 m w a Q hz r hf hQ
    simp only [execA] at hx
    cases draw with
    | true =>
      simp only [cond_true] at hx
      split at hx
      · rename_i fr1 h1 hr
        simp only [Option.some.injEq, Prod.mk.injEq] at hx
        obtain ⟨rfl, rfl, rfl⟩ := hx
        exact runPlan_sound hC.mix (by simpa [codeOk] using hok) hS.call hz r hf hr hQ
      · cases hx
    | false =>
      simp only [cond_false] at hx
      split at hx
      · rename_i fr1 h1 hr
        simp only [Option.some.injEq, Prod.mk.injEq] at hx
        obtain ⟨rfl, rfl, rfl⟩ := hx
        exact wp_region_list (runOps_sound hS.call hz _ r hf hr hQ)
      · cases hx
  | seq x y iha ihb =>
    intro hok fr h e fr' h' hx w0 m w a Q hz r hf hQ
    simp only [codeOk, Bool.and_eq_true] at hok
    simp only [execA] at hx
    split at hx
    · rename_i fr1 h1 ha
      have hk := (execA_keeps hS x hok.1 ha).1
      refine wp_seq (iha hok.1 ha hz r hf fun m1 a1 w1 g1 g2 g3 g4 => ?_)
      exact ihb hok.2 hx hz g2 g3 (hQ.trans hk.1 g1 g4)
    · rename_i hne
      refine wp_seq (iha hok.1 hx hz r hf fun m1 a1 w1 g1 g2 g3 g4 => ?_)
      have hq := hQ m1 a1 w1 g1 g2 g3 g4
      cases e with
      | normal => exact absurd hx (hne _ _)
      | exit id => exact hq
      | ret => exact hq
  | cond c x y iha ihb =>
    intro hok fr h e fr' h' hx w0 m w a Q hz r hf hQ
    simp only [codeOk, Bool.and_eq_true] at hok
    simp only [execA] at hx
    have hv := hf.ev c
    split at hx
    · rename_i hc; rw [hc] at hv; exact wp_cond_true hv.inv_bool (iha hok.1 hx hz r hf hQ)
    · rename_i hc; rw [hc] at hv; exact wp_cond_false hv.inv_bool (ihb hok.2 hx hz r hf hQ)
    · cases hx
  | block id c ih =>
    intro hok fr h e fr' h' hx w0 m w a Q hz r hf hQ
    simp only [codeOk] at hok
    simp only [execA] at hx
    split at hx
    · rename_i i fr1 h1 ha
      refine wp_block (ih hok ha hz r hf fun m1 a1 w1 g1 g2 g3 g4 => ?_)
      show (if i = id then Q .normal a1 w1 else Q (.exit i) a1 w1)
      cases hb : Nat.beq i id with
      | true =>
        rw [hb] at hx
        simp only [cond_true, Option.some.injEq, Prod.mk.injEq] at hx
        obtain ⟨rfl, rfl, rfl⟩ := hx
        rw [if_pos (Nat.eq_of_beq_eq_true hb)]
        exact hQ m1 a1 w1 g1 g2 g3 g4
      | false =>
        rw [hb] at hx
        simp only [cond_false, Option.some.injEq, Prod.mk.injEq] at hx
        obtain ⟨rfl, rfl, rfl⟩ := hx
        rw [if_neg (fun e => by rw [e, Nat.beq_refl] at hb; cases hb)]
        exact hQ m1 a1 w1 g1 g2 g3 g4
    · rename_i hne
      refine wp_block (ih hok hx hz r hf fun m1 a1 w1 g1 g2 g3 g4 => ?_)
      have hq := hQ m1 a1 w1 g1 g2 g3 g4
      cases e with
      | normal => exact hq
      | exit i => exact absurd hx (hne _ _ _)
      | ret => exact hq
  | loop c ih =>
    intro hok fr h e fr' h' hx w0 m w a Q hz r hf hQ
    simp only [codeOk] at hok
    simp only [execA] at hx
    refine wp_loop_rounds (n + 1) ?_
    rw [rounds_succ]
    split at hx
    · rename_i fr1 h1 ha
      have hk := (execA_keeps hS c hok ha).1
      refine ih hok ha hz r hf fun m1 a1 w1 g1 g2 g3 g4 => ?_
      exact hS.loop g f c fr1 h1 e fr' h' hok hx w0 m1 w1 a1 Q hz g2 g3 (hQ.trans hk.1 g1 g4)
    · rename_i hne
      refine ih hok hx hz r hf fun m1 a1 w1 g1 g2 g3 g4 => ?_
      have hq := hQ m1 a1 w1 g1 g2 g3 g4
      cases e with
      | normal => exact absurd hx (hne _ _)
      | exit id => exact hq
      | ret => exact hq
  | scope c ih =>
    intro hok fr h e fr' h' hx w0 m w a Q hz r hf hQ
    simp only [codeOk] at hok
    simp only [execA] at hx
    refine wp_scope_straight (ih hok hx hz r hf fun m1 a1 w1 g1 g2 g3 g4 => ?_)
    have hq := hQ m1 a1 w1 g1 g2 g3 g4
    cases e <;> exact hq

/-- the rounds of a loop, with one round more of fuel -/
theorem execA_rounds (hC : CfgOk C) (hS : SelfOk C n S) {f : FuncId} {g : Gd} {c : Code} (hok : codeOk C f c = true) {fr : Fr} {h : AHeap} {e : AExit} {fr' : Fr} {h' : AHeap} (hx : execA C S f g (.loop c) fr h = some (e, fr', h'))
    {w0 : World} {m : Inj} {w : World} {a : Act} {Q : Exit → Act → World → Prop} (hz : GlobOk C.glob w0) (r : Rel C.P w0 m h w) (hf : FR m fr a) (hQ : After C.P w0 m h.size a.defers e fr' h' Q) : Code.rounds C.P c Q (n + 1) a w := by
  simp only [execA] at hx
  rw [rounds_succ]
  split at hx
  · rename_i fr1 h1 ha
    have hk := (execA_keeps hS c hok ha).1
    refine execA_sound hC hS c hok ha hz r hf fun m1 a1 w1 g1 g2 g3 g4 => ?_
    exact hS.loop g f c fr1 h1 e fr' h' hok hx w0 m1 w1 a1 Q hz g2 g3 (hQ.trans hk.1 g1 g4)
  · rename_i hne
    refine execA_sound hC hS c hok hx hz r hf fun m1 a1 w1 g1 g2 g3 g4 => ?_
    have hq := hQ m1 a1 w1 g1 g2 g3 g4
    cases e with
    | normal => exact absurd hx (hne _ _)
    | exit id => exact hq
    | ret => exact hq

/-! ### results and calls -/
theorem result1_sound {P : Program} {w0 : World} {m : Inj} {h : AHeap} {w : World} (r : Rel P w0 m h w) {fr : Fr} {a : Act} (hf : FR m fr a) {x : ResultVar} {v : AVal} (hx : result1 P fr h x = some v) :
    ∃ v', (match x with | .tmp t => pure (a.tmps.getD t undef) | .cell c t => do loadVar t (← asAddr (a.tmps.getD c undef)) : Sem Value).run P w = .ok v' w ∧ VR m v v' := by
  cases x with
  | tmp t => simp only [result1, Option.some.injEq] at hx; subst hx; exact ⟨_, rfl, hf.2 t⟩
  | cell c t =>
    simp only [result1] at hx
    split at hx
    · rename_i id o hc
      have hv := hf.2 c
      rw [hc] at hv
      generalize hq : a.tmps.getD c undef = q at hv
      cases hv with
      | ptr _ _ E hE =>
        obtain ⟨v', h1, h2⟩ := loadA_sound r hE hx
        exact ⟨v', by simp [hq, asAddr, h1], h2⟩
    · cases hx

theorem results_mapM {P : Program} {w0 : World} {m : Inj} {h : AHeap} {w : World} (r : Rel P w0 m h w) {fr : Fr} {a : Act} (hf : FR m fr a) : ∀ (l : List ResultVar) (vs : List AVal), l.mapM (result1 P fr h) = some vs →
    ∃ vs', (l.mapM (fun | .tmp t => pure (a.tmps.getD t undef) | .cell c t => do loadVar t (← asAddr (a.tmps.getD c undef)) : ResultVar → Sem Value)).run P w = .ok vs' w ∧ VRs m vs vs'
  | [], vs, hl => by simp at hl; subst hl; exact ⟨[], by simp, .nil m⟩
  | x :: l, vs, hl => by
    rw [List.mapM_cons] at hl
    simp only [bind, Option.bind_eq_some_iff, pure, Option.some.injEq] at hl
    obtain ⟨v, hv, us, hus, rfl⟩ := hl
    obtain ⟨v', h1, h2⟩ := result1_sound r hf hv
    obtain ⟨us', h3, h4⟩ := results_mapM r hf l us hus
    refine ⟨v' :: us', ?_, .cons h2 h4⟩
    rw [List.mapM_cons]
    simp only [Sem.run_bind]
    cases x <;> simp only at h1 <;> rw [h1] <;> simp only [Result.andThen_ok, h3, Sem.run_pure]

theorem resultsA_sound {P : Program} {w0 : World} {m : Inj} {h : AHeap} {w : World} (r : Rel P w0 m h w) {fn : Func} {fr : Fr} {a : Act} (hf : FR m fr a) {v : AVal} (hx : resultsA P fn fr h = some v) :
    ∃ v', (results fn a.tmps).run P w = .ok v' w ∧ VR m v v' := by
  unfold resultsA at hx
  have key : ∀ vs, fn.results.toList.mapM (result1 P fr h) = some vs → ∃ vs', (results fn a.tmps).run P w = .ok (if hh : vs'.length = 1 then vs'[0] else .tuple vs'.toArray) w ∧ VRs m vs vs' := by
    intro vs hvs
    obtain ⟨vs', h1, h2⟩ := results_mapM r hf _ _ hvs
    refine ⟨vs', ?_, h2⟩
    unfold results
    rw [Array.mapM_eq_mapM_toList]
    simp only [Sem.run_bind, Sem.run_map]
    erw [h1]
    simp
  split at hx
  · rename_i u hu
    injection hx with hx
    subst hx
    obtain ⟨vs', h1, h2⟩ := key _ hu
    have hl : vs'.length = 1 := by rw [← h2.1]; rfl
    rw [dif_pos hl] at h1
    exact ⟨_, h1, h2.2 0 u _ rfl (by simp [hl])⟩
  · rename_i us hne hus
    injection hx with hx
    subst hx
    obtain ⟨vs', h1, h2⟩ := key _ hus
    have hl : ¬ vs'.length = 1 := by
      rw [← h2.1]
      intro hl
      match us, hl with
      | [u], _ => exact hne u rfl
    rw [dif_neg hl] at h1
    exact ⟨_, h1, VRs.tuple (by simpa using h2)⟩
  · cases hx

theorem callFunc_enter {P : Program} {f : FuncId} {fn : Func} {c : Code} (hf : P.funcs[f]? = some fn) (hn : (fn.name == "runtime.NumGoroutine") = false) (hb : fn.body = some c) (args : Array Value) (w : World) :
    (callFunc f args).run P w = .ok (.enter f args) w := by
  unfold callFunc
  simp only [Sem.run_bind, program, Sem.run, Result.andThen_ok, hf]
  simp [hn, hb]

theorem bodyA_sound (hC : CfgOk C) (hS : SelfOk C n S) {g : Gd} {h h' : AHeap} {f : FuncId} {args : List AVal} {v : AVal} (hk : C.kind f = 1 ∨ C.kind f = 2 ∨ C.kind f = 4) (hb : bodyA C S g h f args = some (v, h')) :
    Keeps g h h' ∧ ∀ w0 m w (cargs : Array Value), GlobOk C.glob w0 → Rel C.P w0 m h w → VRs m args cargs.toList → Invokes C.P f cargs w fun v' w' => ∃ m' : Inj, (∀ id, id < h.size → m' id = m id) ∧ Rel C.P w0 m' h' w' ∧ VR m' v v' := by
  unfold bodyA at hb
  split at hb
  · cases hb
  · rename_i fn hfn
    split at hb
    · cases hb
    · rename_i c hc
      obtain ⟨hn, hok⟩ := hC.code f fn c hk hfn hc
      have main : ∀ e fr1 h1, e = AExit.normal ∨ e = AExit.ret → execA C S f g c (args ++ List.replicate (fn.ntmps - args.length) (.tuple [])) h = some (e, fr1, h1) → (resultsA C.P fn fr1 h1).map (·, h1) = some (v, h') →
          Keeps g h h' ∧ ∀ w0 m w (cargs : Array Value), GlobOk C.glob w0 → Rel C.P w0 m h w → VRs m args cargs.toList → Invokes C.P f cargs w fun v' w' => ∃ m' : Inj, (∀ id, id < h.size → m' id = m id) ∧ Rel C.P w0 m' h' w' ∧ VR m' v v' := by
        intro e fr1 h1 he hx hres
        simp only [Option.map_eq_some_iff, Prod.mk.injEq] at hres
        obtain ⟨u, hu, rfl, rfl⟩ := hres
        refine ⟨(execA_keeps hS c hok hx).1, fun w0 m w cargs hz r hv => ?_⟩
        unfold Invokes
        rw [callFunc_enter hfn hn hc]
        simp only
        have hlen : args.length = cargs.size := by rw [hv.1]; simp
        refine calls_of_wp hfn hc (execA_sound hC hS c hok hx hz r ⟨by simp [hlen], fun i => ?_⟩ fun m1 a1 w1 g1 g2 g3 g4 => ?_)
        · rw [nth_eq, List.getD_eq_getElem?_getD]
          simp only [Array.getD_eq_getD_getElem?]
          by_cases hi : i < args.length
          · rw [List.getElem?_append_left hi, Array.getElem?_append_left (by omega)]
            rw [List.getElem?_eq_getElem hi, Array.getElem?_eq_getElem (by omega)]
            exact hv.2 i _ _ (List.getElem?_eq_getElem hi) (by simp [← hlen, hi])
          · rw [List.getElem?_append_right (by omega), Array.getElem?_append_right (by omega)]
            rw [List.getElem?_replicate, Array.getElem?_replicate, hlen]
            split
            · exact VR.undef_ m
            · exact VR.undef_ m
        · obtain ⟨v', h1, h2⟩ := resultsA_sound g2 g3 hu
          rcases he with rfl | rfl
          · exact ⟨g4, v', h1, v', rfl, m1, g1, g2, h2⟩
          · exact ⟨g4, v', h1, v', rfl, m1, g1, g2, h2⟩
      split at hb
      · rename_i fr1 h1 hx; exact main .normal fr1 h1 (.inl rfl) hx hb
      · rename_i fr1 h1 hx; exact main .ret fr1 h1 (.inr rfl) hx hb
      · cases hb

theorem Invokes.mono {P : Program} {f : FuncId} {args : Array Value} {w : World} {Q Q' : Value → World → Prop} (h : Invokes P f args w Q) (hq : ∀ v w', Q v w' → Q' v w') : Invokes P f args w Q' := by
  unfold Invokes at *
  split at h
  · exact hq _ _ h
  · exact h.mono fun e w'' ⟨v, h1, h2⟩ => ⟨v, h1, hq _ _ h2⟩
  · exact h.elim

theorem callA_sound (hC : CfgOk C) (hS : SelfOk C n S) : CallOk C.P C.glob (callA C S) := by
  intro g h f args v h' hc
  unfold callA at hc
  split at hc
  · rename_i hk; exact bodyA_sound hC hS (.inl hk) hc
  · rename_i hk
    split at hc
    · rename_i u h1 hb
      obtain ⟨k1, k2⟩ := bodyA_sound hC hS (.inr (.inl hk)) hb
      cases hfl : flat3 u with
      | false => rw [hfl] at hc; cases hc
      | true =>
        rw [hfl] at hc
        simp only [cond_true, Option.some.injEq, Prod.mk.injEq] at hc
        obtain ⟨rfl, rfl⟩ := hc
        refine ⟨Keeps.refl _ _, fun w0 m w cargs hz r hv => (k2 w0 m w cargs hz r hv).mono fun v' w' ⟨m', g1, g2, g3⟩ => ?_⟩
        refine ⟨m, fun _ _ => rfl, r.back g1 (fun id hid => k1.2 id hid ?_) g2, g3.flat3 hfl⟩
        have : Nat.ble h.size id = false := by
          cases hb : Nat.ble h.size id with
          | false => rfl
          | true => have := Nat.le_of_ble_eq_true hb; omega
        simp [Gd.may, this]
    · cases hc
  · rename_i hk
    have := hC.ext f hk g h f args v h' (by simpa using hc)
    exact this
  · rename_i hk
    cases hfa : args.all flat2 with
    | false => rw [hfa] at hc; cases hc
    | true =>
      rw [hfa] at hc
      simp only [cond_true] at hc
      split at hc
      · rename_i u h1 hb
        obtain ⟨k1, k2⟩ := bodyA_sound hC hS (.inr (.inr hk)) hb
        cases hfl : flat3 u with
        | false => rw [hfl] at hc; cases hc
        | true =>
          rw [hfl] at hc
          simp only [cond_true, Option.some.injEq, Prod.mk.injEq] at hc
          obtain ⟨rfl, rfl⟩ := hc
          refine ⟨Keeps.refl _ _, fun w0 m w cargs hz r hv => ?_⟩
          have hv0 : VRs (fun _ => none) args cargs.toList := ⟨hv.1, fun i x y hx hy => (hv.2 i x y hx hy).flat2 (List.all_eq_true.1 hfa x (List.mem_of_getElem? hx))⟩
          have r0 : Rel C.P w (fun _ => none) ⟨0, .leaf⟩ w := ⟨Below.refl _ _, fun id E hE => by simp at hE, fun id E o hE => by simp at hE, fun id E o hE => by simp at hE, fun id id' E E' o o' _ hE => by simp at hE⟩
          refine (k2 w _ w cargs (hz.later r.below) r0 hv0).mono fun v' w' ⟨m', g1, g2, g3⟩ => ⟨m, fun _ _ => rfl, r.later g2.below, g3.flat3 hfl⟩
      · cases hc
    done
  · cases hc

theorem selfN_ok (hC : CfgOk C) : ∀ n, SelfOk C n (selfN C n)
  | 0 => ⟨fun g h f args v h' hc => by simp [selfN] at hc, fun g f c fr h e fr' h' _ hx => by simp [selfN] at hx, fun g f c fr h e fr' h' _ hx => by simp [selfN] at hx⟩
  | n + 1 => by
    have ih := selfN_ok hC n
    refine ⟨callA_sound hC ih, fun g f c fr h e fr' h' hok hx => ?_, fun g f c fr h e fr' h' hok hx w0 m w a Q hz r hf hQ => ?_⟩
    · exact execA_keeps ih (.loop c) (by simpa [codeOk] using hok) hx
    · exact execA_rounds hC ih hok hx hz r hf hQ

/-- ████ THE ABSTRACT RUN IS SOUND ████ -/
theorem runA_sound (hC : CfgOk C) {n : Nat} {g : Gd} {h h' : AHeap} {f : FuncId} {args : List AVal} {v : AVal} (hr : runA C n g h f args = some (v, h')) {w0 : World} {m : Inj} {w : World} {cargs : Array Value} (hz : GlobOk C.glob w0) (r : Rel C.P w0 m h w) (hv : VRs m args cargs.toList) :
    Invokes C.P f cargs w fun v' w' => ∃ m' : Inj, (∀ id, id < h.size → m' id = m id) ∧ Rel C.P w0 m' h' w' ∧ VR m' v v' :=
  ((selfN_ok hC n).call g h f args v h' hr).2 w0 m w cargs hz r hv

/-- for a function with a body: as a call -/
theorem runA_calls (hC : CfgOk C) {n : Nat} {g : Gd} {h h' : AHeap} {f : FuncId} {args : List AVal} {v : AVal} (hr : runA C n g h f args = some (v, h')) {fn : Func} {c : Code} (hfn : C.P.funcs[f]? = some fn) (hn : (fn.name == "runtime.NumGoroutine") = false) (hb : fn.body = some c)
    {w0 : World} {m : Inj} {w : World} {cargs : Array Value} (hz : GlobOk C.glob w0) (r : Rel C.P w0 m h w) (hv : VRs m args cargs.toList) :
    Calls C.P f cargs w fun e w' => ∃ v', e = .returned v' ∧ ∃ m' : Inj, (∀ id, id < h.size → m' id = m id) ∧ Rel C.P w0 m' h' w' ∧ VR m' v v' := by
  have := runA_sound hC hr hz r hv
  unfold Invokes at this
  rw [callFunc_enter hfn hn hb] at this
  exact this
end
end Go.Abs
