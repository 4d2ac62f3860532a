/-
  ABS, 11: one step of a region, calls among them; what a step hangs on; regions whose order is fixed.
-/
import Derived.Test.YtdpebdaplhfbjaaGreatDoorAvKeep
import Derived.Tactics
import Derived.OrdersIn
import Derived.TacticsIn
import Derived.LoopNIn
import Derived.RangeFuncLeaves
namespace Go.Av
open Go.RowKit
def Invokes (P : Program) (f : FuncId) (args : Array Value) (w : World) (Q : Value → World → Prop) : Prop :=
 match (callFunc f args).run P w with
 | .ok (.value v) w' => Q v w'
 | .ok (.enter f' args') w' => Calls P f' args' w' fun e w'' => ∃ v, e = .returned v ∧ Q v w''
 | _ => False
def CallOk (P : Program) (G : Nat → Option (List AVal)) (call : Gd → AHeap → FuncId → List AVal → Option (AVal × AHeap)) : Prop :=
 ∀ g h f args v h', call g h f args = some (v, h') → Keeps g h h' ∧ ∀ w0 m w (cargs : Array Value), GlobOk G w0 → Rel P w0 m h w → VRs m args cargs.toList →
  Invokes P f cargs w fun v' w' => ∃ m' : Inj, (m.ext h.size m') ∧ Rel P w0 m' h' w' ∧ VR m' v v'
def FW (r : Option Nat) : Fence := { Fence.wide with round := r }
theorem callsIn_FW {rd : Option Nat} {n : Nat} {P : Program} {f : FuncId} {args : Array Value} {w : World} {R : Ending → World → Prop} (h : Calls P f args w R) : CallsIn (FW rd) n P f args w R := (callsIn_wide (n := n)).2 h
def RoundOk (P : Program) (G : Nat → Option (List AVal)) (round : Gd → AHeap → Nat → List AVal → Option (AVal × AHeap)) : Prop :=
 ∀ g h l args v h', round g h l args = some (v, h') → Keeps g h h' ∧ ∀ w0 m w (cargs : Array Value) E, GlobOk G w0 → Rel P w0 m h w → VRs m args cargs.toList → m.i l = some E →
  ∃ f tmps a b, (Instr.yield E.g cargs).run P w = .ok (.round E.g f tmps a b) w ∧ RoundIn Fence.wide 0 P E.g f tmps a b w fun e w' => ∃ v', e = .returned v' ∧ ∃ m' : Inj, (m.ext h.size m') ∧ Rel P w0 m' h' w' ∧ VR m' v v'
structure SubOk (P : Program) (G : Nat → Option (List AVal)) (S : Self) : Prop where
 call : CallOk P G S.call
 round : RoundOk P G S.round
section
variable {C : Cfg} {S : Self} {w0 : World} {m : Inj} {h : AHeap} {w : World}
theorem stepA_keeps (hS : SubOk C.P C.glob S) {g : Gd} {fr : Fr} {op : Op} {v : AVal} {h' : AHeap} (hs : stepA C S g h fr op = some (v, h')) : Keeps g h h' := by
 unfold stepA at hs
 split at hs
 ·split at hs
  ·exact (hS.call _ _ _ _ _ _ hs).1
  ·exact (hS.round _ _ _ _ _ _ hs).1
  ·cases hs
 ·exact opA_keeps hs
theorem opA_noDefer {P : Program} {G : Nat → Option (List AVal)} {g : Gd} {fr : Fr} {op : Op} {x : AVal × AHeap} (ho : opA P G g h fr op = some x) : ∀ c, op ≠ .defer c := by
 rintro c rfl
 simp [opA, clsOf, opW] at ho
theorem stepA_sound (hS : SubOk C.P C.glob S) (hz : GlobOk C.glob w0) (r : Rel C.P w0 m h w) {g : Gd} {fr : Fr} {a : Act} (hf : FR m fr a) {o : Oper} {v : AVal} {h' : AHeap} (hs : stepA C S g h fr o.op = some (v, h'))
  {K : Act → World → Prop} {Q : Exit → Act → World → Prop} (hK : ∀ m' v' w', (m.ext h.size m') → Rel C.P w0 m' h' w' → VR m' v v' → K (a.put o.dst v') w') (rd : Option Nat) : o.wpIn (FW rd) 0 C.P a w K Q := by
 unfold stepA at hs
 split at hs
 ·rename_i x as ts heq
  split at hs
  ·rename_i f first cap hx
   obtain ⟨_, hc⟩ := hS.call _ _ _ _ _ _ hs
   have hv := hf.ev x
   rw [hx] at hv
   generalize hq : a.eval x = q at hv
   cases hv with
   | func _ _ _ fi ca h1 h2 h3 h4 =>
    have hargs : VRs m (first ++ (as.toList.map (ev fr) ++ cap)) ((fi ++ as.map a.eval) ++ ca).toList := by
     simp only [Array.toList_append, List.append_assoc, Array.toList_map]
     refine VRs.app ⟨by simpa using h1, fun i x y hx hy => h2 i x y hx (by simpa using hy)⟩ (VRs.app (hf.evs as.toList) ⟨by simpa using h3, fun i x y hx hy => h4 i x y hx (by simpa using hy)⟩)
    have hi := hc w0 m w _ hz r hargs
    have hrun : (execOp a.eval o).run C.P w = (callFunc f ((fi ++ as.map a.eval) ++ ca)).run C.P w := by
     simp only [execOp, heq, resolve, hq, Deferred.ofValue, Sem.run_bind, Sem.run_pure, Result.andThen_ok, invoke]
    refine ⟨fun _ _ => trivial, ?_⟩
    rw [Oper.semAt_eq _ _ _ (by rw [heq]; intro c hc; cases hc), hrun]
    unfold Invokes at hi
    split at hi
    ·rename_i v' w' he
     obtain ⟨m', a1, a2, a3⟩ := hi
     rw [he]
     exact hK m' v' w' a1 a2 a3
    ·rename_i f' args' w' he
     rw [he]
     refine ⟨fun h => (by cases h), callsIn_FW (hi.mono fun e w'' hh => ?_)⟩
     obtain ⟨v', rfl, m', a1, a2, a3⟩ := hh
     exact hK m' v' w'' a1 a2 a3
    ·exact hi.elim
  ·rename_i l hx
   obtain ⟨_, hc⟩ := hS.round _ _ _ _ _ _ hs
   have hv := hf.ev x
   rw [hx] at hv
   generalize hq : a.eval x = q at hv
   cases hv with
   | yfn _ E hE =>
    obtain ⟨f, tmps, ca, cb, hy, hr⟩ := hc w0 m w (as.map a.eval) E hz r (by simpa using hf.evs as.toList) hE
    have hrun : (execOp a.eval o).run C.P w = (Instr.yield E.g (as.map a.eval)).run C.P w := by
     simp only [execOp, heq, resolve, hq, Deferred.ofValue, Sem.run_bind, Sem.run_pure, Result.andThen_ok, invoke, Array.empty_append]
    refine ⟨fun _ _ => trivial, ?_⟩
    rw [Oper.semAt_eq _ _ _ (by rw [heq]; intro c hc; cases hc), hrun, hy]
    refine ⟨fun h => (by cases h), RoundIn.mono (F := FW rd) hr fun e w'' hh => ?_⟩
    obtain ⟨v', rfl, m', a1, a2, a3⟩ := hh
    exact hK m' v' w'' a1 a2 a3
  ·cases hs
 ·obtain ⟨m', n, v', w', h1, h2, h3, h4, h5⟩ := opA_sound hz r hf hs
  refine ⟨fun _ _ => trivial, ?_⟩
  rw [Oper.semAt_eq _ _ _ (opA_noDefer hs), h1]
  rcases h2 with rfl | ⟨rfl, rfl⟩
  ·exact hK m' v' w' h3 h4 h5
  ·exact hK m' _ w' h3 h4 h5
theorem wantedA_sound {ops : Array Oper} {fr : Fr} {a : Act} (hf : FR m fr a) {o : Oper} {b : Bool} (hw : wantedA ops fr o = some b) : Region.wanted o (yielded ops a.tmps) = b := by
 unfold wantedA at hw
 unfold Region.wanted
 split at hw
 ·rename_i hg; injection hw with hw; subst hw; rw [hg]
 ·rename_i j want hg
  rw [hg]
  simp only
  unfold yielded
  split at hw
  ·rename_i hd; injection hw with hw; subst hw; rw [hd]; rfl
  ·rename_i d hd
   rw [hd, Option.bind_some]
   have hv := hf.2 d
   have hget : a.tmps.getD d undef = (a.tmps[d]?).getD undef := by simp [Array.getD_eq_getD_getElem?]
   rw [hget] at hv
   split at hw
   ·rename_i bb hb
    injection hw with hw
    subst hw
    rw [hb] at hv
    have hv := hv.inv_bool
    cases ht : a.tmps[d]? with
    | none => rw [ht] at hv; cases hv
    | some u => rw [ht] at hv; simp only [Option.getD_some] at hv; subst hv; simp
   ·cases hw
   ·rename_i nb nu
    injection hw with hw
    subst hw
    cases ht : a.tmps[d]? with
    | none => rfl
    | some u =>
     rw [ht] at hv
     simp only [Option.getD_some] at hv
     cases u with
     | bool b =>
      cases hn : nth fr d <;> rw [hn] at hv <;> cases hv
      ·exact absurd hn nu
      ·exact absurd hn (nb _)
     | _ => rfl
theorem runOps_keeps (hS : SubOk C.P C.glob S) {g : Gd} {ops : Array Oper} : ∀ (l : List Oper) {h h' : AHeap} {fr fr' : Fr}, runOps C S g ops l fr h = some (fr', h') → Keeps g h h' ∧ fr'.length = fr.length
 | [], h, h', fr, fr', hr => by
  simp only [runOps, Option.some.injEq, Prod.mk.injEq] at hr
  obtain ⟨rfl, rfl⟩ := hr
  exact ⟨Keeps.refl _ _, rfl⟩
 | o :: rest, h, h', fr, fr', hr => by
  unfold runOps at hr
  split at hr
  ·split at hr
   ·rename_i v h1 hs
    obtain ⟨k1, k2⟩ := runOps_keeps hS rest hr
    exact ⟨(stepA_keeps hS hs).trans k1, by rw [k2]; simp⟩
   ·cases hr
  ·obtain ⟨k1, k2⟩ := runOps_keeps hS rest hr
   exact ⟨k1, by rw [k2]; simp⟩
  ·cases hr
theorem defers_put (a : Act) (d : Option Tmp) (v : Value) : (a.put d v).defers = a.defers := by cases d <;> rfl
theorem runOps_sound (hS : SubOk C.P C.glob S) (hz : GlobOk C.glob w0) {g : Gd} {ops : Array Oper} {Q : Exit → Act → World → Prop} : ∀ (l : List Oper) {m : Inj} {h : AHeap} {w : World} {fr fr' : Fr} {h' : AHeap} {a : Act},
  Rel C.P w0 m h w → FR m fr a → runOps C S g ops l fr h = some (fr', h') →
  (∀ m' a' w', (m.ext h.size m') → Rel C.P w0 m' h' w' → FR m' fr' a' → a'.defers = a.defers → Q .normal a' w') → ∀ rd : Option Nat, wpListIn (FW rd) 0 C.P ops Q l a w
 | [], m, h, w, fr, fr', h', a, r, hf, hr, hQ, rd => by
  simp only [runOps, Option.some.injEq, Prod.mk.injEq] at hr
  obtain ⟨rfl, rfl⟩ := hr
  exact hQ m a w (Inj.ext.refl _ _) r hf rfl
 | o :: rest, m, h, w, fr, fr', h', a, r, hf, hr, hQ, rd => by
  unfold runOps at hr
  split at hr
  ·rename_i hw
   split at hr
   ·rename_i v h1 hs
    have hk := stepA_keeps hS hs
    have hwant := wantedA_sound hf hw
    unfold wpListIn
    rw [if_pos hwant]
    refine stepA_sound hS hz r hf hs (fun m1 v1 w1 e1 e2 e3 => ?_) rd
    refine runOps_sound hS hz rest e2 (FR.put (hf.mono (r.le_of e1)) o.dst e3) hr (fun m' a' w' g1 g2 g3 g4 => hQ m' a' w' (e1.trans g1 hk.1) g2 g3 ?_) rd
    rw [g4, defers_put]
   ·cases hr
  ·rename_i hw
   have hwant := wantedA_sound hf hw
   unfold wpListIn
   rw [if_neg (by rw [hwant]; simp)]
   exact ⟨fun _ _ => trivial, runOps_sound hS hz rest r (FR.put hf o.dst (VR.undef_ m)) hr (fun m' a' w' g1 g2 g3 g4 => hQ m' a' w' g1 g2 g3 (by rw [g4, defers_put])) rd⟩
  ·cases hr
def SameOn (op : Op) (fr fr' : Fr) : Prop := ∀ x ∈ op.operands.toList, ev fr x = ev fr' x
theorem map_same {l : List Operand} {fr fr' : Fr} (h : ∀ x ∈ l, ev fr x = ev fr' x) : l.map (ev fr) = l.map (ev fr') := List.map_congr_left h
theorem parts_same {l : List (Nat × Operand)} {fr fr' : Fr} (h : ∀ x ∈ l.map (·.2), ev fr x = ev fr' x) : (l.map fun (i, x) => (i, ev fr x)) = l.map fun (i, x) => (i, ev fr' x) := by
 apply List.map_congr_left
 rintro ⟨i, x⟩ hx
 simp only [Prod.mk.injEq, true_and]
 exact h x (List.mem_map.2 ⟨_, hx, rfl⟩)
theorem opt_same {o : Option Operand} {fr fr' : Fr} (h : ∀ x, o = some x → ev fr x = ev fr' x) : o.map (ev fr) = o.map (ev fr') := by
 cases o with
 | none => rfl
 | some x => simp [h x rfl]
theorem opP_same {P : Program} {op : Op} {fr fr' : Fr} (h : SameOn op fr fr') : opP P fr op = opP P fr' op := by
 unfold SameOn at h
 cases op <;> simp [Op.operands, Call.operands] at h <;> try (simp [opP, h]; done)
 case build t ps =>
  simp only [opP]
  rw [parts_same (l := ps.toList) (fr := fr) (fr' := fr') (fun x hx => by
   obtain ⟨p, hp, rfl⟩ := List.mem_map.1 hx
   exact h p.2 p.1 (by simpa using hp))]
 case makeFunc fn first cap =>
  simp only [opP]
  rw [map_same (l := first.toList) fun x hx => h x (.inl (by simpa using hx)), map_same (l := cap.toList) fun x hx => h x (.inr (by simpa using hx))]
 case slice t x lo hi mx =>
  cases mx with
  | some y => simp [opP]
  | none =>
   simp only [opP]
   rw [h.1, opt_same (fun x hx => h.2 x (.inl hx)), opt_same (fun x hx => h.2 x (.inr (.inl hx)))]
 case call c =>
  obtain ⟨callee, as, ts⟩ := c
  cases callee with
  | value f => simp [opP]
  | invoke r mth => simp [opP]
  | builtin b => simp only [opP]; rw [map_same (l := as.toList) fun x hx => h x (by simpa using hx)]
theorem touchA_same {op : Op} {fr fr' : Fr} (h : SameOn op fr fr') : touchA fr op = touchA fr' op := by
 unfold SameOn at h
 cases op <;> simp [Op.operands, Call.operands] at h <;> try (simp [touchA, h]; done)
 case call c =>
  obtain ⟨callee, as, ts⟩ := c
  simp only [touchA]
  split
  ·rename_i x hx
   rw [h x (.inr (by rw [← Array.mem_toList_iff, hx]; simp))]
  ·rfl
theorem opR_same {P : Program} {G : Nat → Option (List AVal)} {op : Op} {fr fr' : Fr} (h : SameOn op fr fr') (ob : Option AObj) : opR P G fr ob op = opR P G fr' ob op := by
 unfold SameOn at h
 cases op <;> simp [Op.operands, Call.operands] at h <;> try (simp [opR, h]; done)
 case slice t x lo hi mx =>
  cases mx with
  | some y => simp [opR]
  | none =>
   simp only [opR]
   rw [h.1, opt_same (fun x hx => h.2 x (.inl hx)), opt_same (fun x hx => h.2 x (.inr (.inl hx)))]
 case call c =>
  obtain ⟨callee, as, ts⟩ := c
  cases callee with
  | value f => simp [opR]
  | invoke r mth => simp [opR]
  | builtin b =>
   cases b <;> simp only [opR]
   split
   ·rename_i x hx
    rw [h x (by simp [← Array.mem_toList_iff, hx])]
   ·rfl
theorem opN_same {P : Program} {op : Op} {fr fr' : Fr} (h : SameOn op fr fr') : opN P fr op = opN P fr' op := by
 unfold SameOn at h
 cases op <;> simp [Op.operands, Call.operands] at h <;> try (simp [opN, h]; done)
 case buildSlice t len ps =>
  simp only [opN]
  rw [parts_same (l := ps.toList) (fr := fr) (fr' := fr') (fun x hx => by
   obtain ⟨p, hp, rfl⟩ := List.mem_map.1 hx
   exact h p.2 p.1 (by simpa using hp))]
 case makeMap t r => cases r <;> simp [opN]
theorem opW_same {P : Program} {g : Gd} {h0 : AHeap} {op : Op} {fr fr' : Fr} (h : SameOn op fr fr') : opW P g h0 fr op = opW P g h0 fr' op := by
 unfold SameOn at h
 cases op <;> simp [Op.operands, Call.operands] at h <;> try (simp [opW, h]; done)
 case next it s => cases s <;> simp [opW, h]
 case call c =>
  obtain ⟨callee, as, ts⟩ := c
  cases callee with
  | value f => simp [opW]
  | invoke r mth => simp [opW]
  | builtin b => simp only [opW]; rw [map_same (l := as.toList) fun x hx => h x (by simpa using hx)]
theorem opA_same {P : Program} {G : Nat → Option (List AVal)} {g : Gd} {h0 : AHeap} {op : Op} {fr fr' : Fr} (h : SameOn op fr fr') : opA P G g h0 fr op = opA P G g h0 fr' op := by
 unfold opA
 rw [opP_same h, touchA_same h, opN_same h, opW_same h]
 split
 ·rfl
 ·split
  ·rw [opR_same h]
  ·split
   ·rw [opR_same h]
   ·rfl
 ·rfl
 ·rfl
theorem stepA_same {g : Gd} {h0 : AHeap} {op : Op} {fr fr' : Fr} (h : SameOn op fr fr') : stepA C S g h0 fr op = stepA C S g h0 fr' op := by
 unfold stepA
 split
 ·rename_i x as ts
  unfold SameOn at h
  simp [Op.operands, Call.operands] at h
  rw [h.1, map_same (l := as.toList) fun y hy => h.2 y (by simpa using hy)]
 ·exact opA_same h
theorem stepA_cls {g : Gd} {h0 : AHeap} {op : Op} {fr : Fr} (h : clsOf C.P op ≠ 3) : stepA C S g h0 fr op = opA C.P C.glob g h0 fr op := by
 unfold stepA
 split
 ·simp [clsOf] at h
 ·rfl
theorem wantedA_same {ops : Array Oper} {fr fr' : Fr} {o : Oper} (h : ∀ t ∈ o.looksAt ops, nth fr t = nth fr' t) : wantedA ops fr o = wantedA ops fr' o := by
 unfold wantedA
 cases hg : o.guard with
 | none => rfl
 | some p =>
  obtain ⟨j, want⟩ := p
  simp only
  cases hd : (ops[j]?).bind (·.dst) with
  | none => rfl
  | some d =>
   simp only
   rw [h d (by simp [Oper.looksAt, hg, hd])]
theorem sameOn_of {ops : Array Oper} {fr fr' : Fr} {o : Oper} (h : ∀ t ∈ o.looksAt ops, nth fr t = nth fr' t) : SameOn o.op fr fr' := by
 intro x hx
 cases x with
 | tmp t => exact h t (by unfold Oper.looksAt; exact List.mem_append.2 (.inl (List.mem_filterMap.2 ⟨_, hx, rfl⟩)))
 | _ => rfl
end
end Go.Av
