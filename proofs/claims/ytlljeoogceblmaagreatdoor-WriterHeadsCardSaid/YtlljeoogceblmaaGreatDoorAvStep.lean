/-
 A part.
-/
import Derived.Test.YtlljeoogceblmaaGreatDoorAvKeep
import Derived.Tactics
import Derived.OrdersIn
import Derived.TacticsIn
import Derived.LoopNIn
import Derived.RangeFuncLeaves
namespace Go.Av
open Go.RowKit
def Cq (P : Program) (f : FuncId) (args : Array Value) (w : World) (Q : Value → World → Prop) : Prop :=
 match (callFunc f args).run P w with
 | .ok (.value v) w' => Q v w'
 | .ok (.enter f' args') w' => Calls P f' args' w' fun e w'' => ∃ v, e = .returned v ∧ Q v w''
 | _ => False
def Qz (P : Program) (G : Nat → Option (List AB)) (call : Gd → AD → FuncId → List AB → Option (AB × AD)) : Prop :=
 ∀ g h f args v h', call g h f args = some (v, h') → A6 g h h' ∧ ∀ w0 m w (cargs : Array Value), BY G w0 → Rel P w0 m h w → B4 m args cargs.toList →
  Cq P f cargs w fun v' w' => ∃ m' : A4, (m.ext h.size m') ∧ Rel P w0 m' h' w' ∧ VR m' v v'
def FW (r : Option Nat) : Fence := { Fence.wide with round := r }
theorem TG {rd : Option Nat} {n : Nat} {P : Program} {f : FuncId} {args : Array Value} {w : World} {R : Ending → World → Prop} (h : Calls P f args w R) : CallsIn (FW rd) n P f args w R := (callsIn_wide (n := n)).2 h
def UE (P : Program) (G : Nat → Option (List AB)) (round : Gd → AD → Nat → List AB → Option (AB × AD)) : Prop :=
 ∀ g h l args v h', round g h l args = some (v, h') → A6 g h h' ∧ ∀ w0 m w (cargs : Array Value) E, BY G w0 → Rel P w0 m h w → B4 m args cargs.toList → m.i l = some E →
  ∃ f tmps a b, (Instr.yield E.g cargs).run P w = .ok (.round E.g f tmps a b) w ∧ RoundIn Fence.wide 0 P E.g f tmps a b w fun e w' => ∃ v', e = .returned v' ∧ ∃ m' : A4, (m.ext h.size m') ∧ Rel P w0 m' h' w' ∧ VR m' v v'
structure E3 (P : Program) (G : Nat → Option (List AB)) (S : Self) : Prop where
 call : Qz P G S.call
 round : UE P G S.round
section
variable {C : Ft} {S : Self} {w0 : World} {m : A4} {h : AD} {w : World}
theorem Ia (hS : E3 C.P C.Cd S) {g : Gd} {fr : Fr} {op : Op} {v : AB} {h' : AD} (hs : A7 C S g h fr op = some (v, h')) : A6 g h h' := by
 unfold A7 at hs
 split at hs
 ·split at hs
  ·exact (hS.call _ _ _ _ _ _ hs).1
  ·exact (hS.round _ _ _ _ _ _ hs).1
  ·cases hs
 ·exact Uj hs
theorem Rp {P : Program} {G : Nat → Option (List AB)} {g : Gd} {fr : Fr} {op : Op} {x : AB × AD} (ho : HR P G g h fr op = some x) : ∀ c, op ≠ .defer c := by
 rintro c rfl
 simp [HR, As, Jw] at ho
theorem IS (hS : E3 C.P C.Cd S) (hz : BY C.Cd w0) (r : Rel C.P w0 m h w) {g : Gd} {fr : Fr} {a : Act} (hf : FR m fr a) {o : Oper} {v : AB} {h' : AD} (hs : A7 C S g h fr o.op = some (v, h'))
  {K : Act → World → Prop} {Q : Exit → Act → World → Prop} (hK : ∀ m' v' w', (m.ext h.size m') → Rel C.P w0 m' h' w' → VR m' v v' → K (a.put o.dst v') w') (rd : Option Nat) : o.wpIn (FW rd) 0 C.P a w K Q := by
 unfold A7 at hs
 split at hs
 ·rename_i x as ts heq
  split at hs
  ·rename_i f first cap hx
   obtain ⟨_, hc⟩ := hS.call _ _ _ _ _ _ hs
   have hv := hf.ev x
   rw [hx] at hv
   generalize hq : a.eval x = q at hv
   cases hv with
   | func _ _ _ fi ca h1 h2 h3 h4 =>
    have hargs : B4 m (first ++ (as.toList.map (ev fr) ++ cap)) ((fi ++ as.map a.eval) ++ ca).toList := by
     simp only [Array.toList_append, List.append_assoc, Array.toList_map]
     refine B4.app ⟨by simpa using h1, fun i x y hx hy => h2 i x y hx (by simpa using hy)⟩ (B4.app (hf.ZQ as.toList) ⟨by simpa using h3, fun i x y hx hy => h4 i x y hx (by simpa using hy)⟩)
    have hi := hc w0 m w _ hz r hargs
    have hrun : (execOp a.eval o).run C.P w = (callFunc f ((fi ++ as.map a.eval) ++ ca)).run C.P w := by
     simp only [execOp, heq, resolve, hq, Deferred.ofValue, Sem.run_bind, Sem.run_pure, Result.andThen_ok, invoke]
    refine ⟨fun _ _ => trivial, ?_⟩
    rw [Oper.semAt_eq _ _ _ (by rw [heq]; intro c hc; cases hc), hrun]
    unfold Cq at hi
    split at hi
    ·rename_i v' w' he
     obtain ⟨m', a1, a2, a3⟩ := hi
     rw [he]
     exact hK m' v' w' a1 a2 a3
    ·rename_i f' args' w' he
     rw [he]
     refine ⟨fun h => (by cases h), TG (hi.mono fun e w'' hh => ?_)⟩
     obtain ⟨v', rfl, m', a1, a2, a3⟩ := hh
     exact hK m' v' w'' a1 a2 a3
    ·exact hi.elim
  ·rename_i l hx
   obtain ⟨_, hc⟩ := hS.round _ _ _ _ _ _ hs
   have hv := hf.ev x
   rw [hx] at hv
   generalize hq : a.eval x = q at hv
   cases hv with
   | Xi _ E hE =>
    obtain ⟨f, tmps, ca, cb, hy, hr⟩ := hc w0 m w (as.map a.eval) E hz r (by simpa using hf.ZQ as.toList) hE
    have hrun : (execOp a.eval o).run C.P w = (Instr.yield E.g (as.map a.eval)).run C.P w := by
     simp only [execOp, heq, resolve, hq, Deferred.ofValue, Sem.run_bind, Sem.run_pure, Result.andThen_ok, invoke, Array.empty_append]
    refine ⟨fun _ _ => trivial, ?_⟩
    rw [Oper.semAt_eq _ _ _ (by rw [heq]; intro c hc; cases hc), hrun, hy]
    refine ⟨fun h => (by cases h), RoundIn.mono (F := FW rd) hr fun e w'' hh => ?_⟩
    obtain ⟨v', rfl, m', a1, a2, a3⟩ := hh
    exact hK m' v' w'' a1 a2 a3
  ·cases hs
 ·obtain ⟨m', n, v', w', h1, h2, h3, h4, h5⟩ := Uw hz r hf hs
  refine ⟨fun _ _ => trivial, ?_⟩
  rw [Oper.semAt_eq _ _ _ (Rp hs), h1]
  rcases h2 with rfl | ⟨rfl, rfl⟩
  ·exact hK m' v' w' h3 h4 h5
  ·exact hK m' _ w' h3 h4 h5
theorem Ek {ops : Array Oper} {fr : Fr} {a : Act} (hf : FR m fr a) {o : Oper} {b : Bool} (hw : B7 ops fr o = some b) : Region.wanted o (yielded ops a.tmps) = b := by
 unfold B7 at hw
 unfold Region.wanted
 split at hw
 ·rename_i hg; injection hw with hw; subst hw; rw [hg]
 ·rename_i j want hg
  rw [hg]
  simp only
  unfold yielded
  split at hw
  ·rename_i hd; injection hw with hw; subst hw; rw [hd]; rfl
  ·rename_i d hd
   rw [hd, Option.bind_some]
   have hv := hf.2 d
   have hget : a.tmps.getD d undef = (a.tmps[d]?).getD undef := by simp [Array.getD_eq_getD_getElem?]
   rw [hget] at hv
   split at hw
   ·rename_i bb hb
    injection hw with hw
    subst hw
    rw [hb] at hv
    have hv := hv.I9
    cases ht : a.tmps[d]? with
    | none => rw [ht] at hv; cases hv
    | some u => rw [ht] at hv; simp only [Option.getD_some] at hv; subst hv; simp
   ·cases hw
   ·rename_i nb nu
    injection hw with hw
    subst hw
    cases ht : a.tmps[d]? with
    | none => rfl
    | some u =>
     rw [ht] at hv
     simp only [Option.getD_some] at hv
     cases u with
     | bool b =>
      cases hn : nth fr d <;> rw [hn] at hv <;> cases hv
      ·exact absurd hn nu
      ·exact absurd hn (nb _)
     | _ => rfl
theorem Dp (hS : E3 C.P C.Cd S) {g : Gd} {ops : Array Oper} : ∀ (l : List Oper) {h h' : AD} {fr fr' : Fr}, DR C S g ops l fr h = some (fr', h') → A6 g h h' ∧ fr'.length = fr.length
 | [], h, h', fr, fr', hr => by
  simp only [DR, Option.some.injEq, Prod.mk.injEq] at hr
  obtain ⟨rfl, rfl⟩ := hr
  exact ⟨A6.refl _ _, rfl⟩
 | o :: rest, h, h', fr, fr', hr => by
  unfold DR at hr
  split at hr
  ·split at hr
   ·rename_i v h1 hs
    obtain ⟨k1, k2⟩ := Dp hS rest hr
    exact ⟨(Ia hS hs).trans k1, by rw [k2]; simp⟩
   ·cases hr
  ·obtain ⟨k1, k2⟩ := Dp hS rest hr
   exact ⟨k1, by rw [k2]; simp⟩
  ·cases hr
theorem Cx (a : Act) (d : Option Tmp) (v : Value) : (a.put d v).defers = a.defers := by cases d <;> rfl
theorem FH (hS : E3 C.P C.Cd S) (hz : BY C.Cd w0) {g : Gd} {ops : Array Oper} {Q : Exit → Act → World → Prop} : ∀ (l : List Oper) {m : A4} {h : AD} {w : World} {fr fr' : Fr} {h' : AD} {a : Act},
  Rel C.P w0 m h w → FR m fr a → DR C S g ops l fr h = some (fr', h') →
  (∀ m' a' w', (m.ext h.size m') → Rel C.P w0 m' h' w' → FR m' fr' a' → a'.defers = a.defers → Q .normal a' w') → ∀ rd : Option Nat, wpListIn (FW rd) 0 C.P ops Q l a w
 | [], m, h, w, fr, fr', h', a, r, hf, hr, hQ, rd => by
  simp only [DR, Option.some.injEq, Prod.mk.injEq] at hr
  obtain ⟨rfl, rfl⟩ := hr
  exact hQ m a w (A4.ext.refl _ _) r hf rfl
 | o :: rest, m, h, w, fr, fr', h', a, r, hf, hr, hQ, rd => by
  unfold DR at hr
  split at hr
  ·rename_i hw
   split at hr
   ·rename_i v h1 hs
    have hk := Ia hS hs
    have hwant := Ek hf hw
    unfold wpListIn
    rw [if_pos hwant]
    refine IS hS hz r hf hs (fun m1 v1 w1 e1 e2 e3 => ?_) rd
    refine FH hS hz rest e2 (FR.put (hf.mono (r.LU e1)) o.dst e3) hr (fun m' a' w' g1 g2 g3 g4 => hQ m' a' w' (e1.trans g1 hk.1) g2 g3 ?_) rd
    rw [g4, Cx]
   ·cases hr
  ·rename_i hw
   have hwant := Ek hf hw
   unfold wpListIn
   rw [if_neg (by rw [hwant]; simp)]
   exact ⟨fun _ _ => trivial, FH hS hz rest r (FR.put hf o.dst (VR.Fi m)) hr (fun m' a' w' g1 g2 g3 g4 => hQ m' a' w' g1 g2 g3 (by rw [g4, Cx])) rd⟩
  ·cases hr
def GU (op : Op) (fr fr' : Fr) : Prop := ∀ x ∈ op.operands.toList, ev fr x = ev fr' x
theorem Kg {l : List Operand} {fr fr' : Fr} (h : ∀ x ∈ l, ev fr x = ev fr' x) : l.map (ev fr) = l.map (ev fr') := List.map_congr_left h
theorem Ot {l : List (Nat × Operand)} {fr fr' : Fr} (h : ∀ x ∈ l.map (·.2), ev fr x = ev fr' x) : (l.map fun (i, x) => (i, ev fr x)) = l.map fun (i, x) => (i, ev fr' x) := by
 apply List.map_congr_left
 rintro ⟨i, x⟩ hx
 simp only [Prod.mk.injEq, true_and]
 exact h x (List.mem_map.2 ⟨_, hx, rfl⟩)
theorem MR {o : Option Operand} {fr fr' : Fr} (h : ∀ x, o = some x → ev fr x = ev fr' x) : o.map (ev fr) = o.map (ev fr') := by
 cases o with
 | none => rfl
 | some x => simp [h x rfl]
theorem RE {P : Program} {op : Op} {fr fr' : Fr} (h : GU op fr fr') : IF P fr op = IF P fr' op := by
 unfold GU at h
 cases op <;> simp [Op.operands, Call.operands] at h <;> try (simp [IF, h]; done)
 case build t ps =>
  simp only [IF]
  rw [Ot (l := ps.toList) (fr := fr) (fr' := fr') (fun x hx => by
   obtain ⟨p, hp, rfl⟩ := List.mem_map.1 hx
   exact h p.2 p.1 (by simpa using hp))]
 case makeFunc fn first cap =>
  simp only [IF]
  rw [Kg (l := first.toList) fun x hx => h x (.inl (by simpa using hx)), Kg (l := cap.toList) fun x hx => h x (.inr (by simpa using hx))]
 case slice t x lo hi mx =>
  cases mx with
  | some y => simp [IF]
  | none =>
   simp only [IF]
   rw [h.1, MR (fun x hx => h.2 x (.inl hx)), MR (fun x hx => h.2 x (.inr (.inl hx)))]
 case call c =>
  obtain ⟨callee, as, ts⟩ := c
  cases callee with
  | value f => simp [IF]
  | invoke r mth => simp [IF]
  | builtin b => simp only [IF]; rw [Kg (l := as.toList) fun x hx => h x (by simpa using hx)]
theorem KE {op : Op} {fr fr' : Fr} (h : GU op fr fr') : C3 fr op = C3 fr' op := by
 unfold GU at h
 cases op <;> simp [Op.operands, Call.operands] at h <;> try (simp [C3, h]; done)
 case call c =>
  obtain ⟨callee, as, ts⟩ := c
  simp only [C3]
  split
  ·rename_i x hx
   rw [h x (.inr (by rw [← Array.mem_toList_iff, hx]; simp))]
  ·rfl
theorem MD {P : Program} {G : Nat → Option (List AB)} {op : Op} {fr fr' : Fr} (h : GU op fr fr') (ob : Option Bm) : Jn P G fr ob op = Jn P G fr' ob op := by
 unfold GU at h
 cases op <;> simp [Op.operands, Call.operands] at h <;> try (simp [Jn, h]; done)
 case slice t x lo hi mx =>
  cases mx with
  | some y => simp [Jn]
  | none =>
   simp only [Jn]
   rw [h.1, MR (fun x hx => h.2 x (.inl hx)), MR (fun x hx => h.2 x (.inr (.inl hx)))]
 case call c =>
  obtain ⟨callee, as, ts⟩ := c
  cases callee with
  | value f => simp [Jn]
  | invoke r mth => simp [Jn]
  | builtin b =>
   cases b <;> simp only [Jn]
   split
   ·rename_i x hx
    rw [h x (by simp [← Array.mem_toList_iff, hx])]
   ·rfl
theorem Re {P : Program} {op : Op} {fr fr' : Fr} (h : GU op fr fr') : O4 P fr op = O4 P fr' op := by
 unfold GU at h
 cases op <;> simp [Op.operands, Call.operands] at h <;> try (simp [O4, h]; done)
 case buildSlice t len ps =>
  simp only [O4]
  rw [Ot (l := ps.toList) (fr := fr) (fr' := fr') (fun x hx => by
   obtain ⟨p, hp, rfl⟩ := List.mem_map.1 hx
   exact h p.2 p.1 (by simpa using hp))]
 case makeMap t r => cases r <;> simp [O4]
theorem Vc {P : Program} {g : Gd} {h0 : AD} {op : Op} {fr fr' : Fr} (h : GU op fr fr') : Jw P g h0 fr op = Jw P g h0 fr' op := by
 unfold GU at h
 cases op <;> simp [Op.operands, Call.operands] at h <;> try (simp [Jw, h]; done)
 case next it s => cases s <;> simp [Jw, h]
 case call c =>
  obtain ⟨callee, as, ts⟩ := c
  cases callee with
  | value f => simp [Jw]
  | invoke r mth => simp [Jw]
  | builtin b => simp only [Jw]; rw [Kg (l := as.toList) fun x hx => h x (by simpa using hx)]
theorem WS {P : Program} {G : Nat → Option (List AB)} {g : Gd} {h0 : AD} {op : Op} {fr fr' : Fr} (h : GU op fr fr') : HR P G g h0 fr op = HR P G g h0 fr' op := by
 unfold HR
 rw [RE h, KE h, Re h, Vc h]
 split
 ·rfl
 ·split
  ·rw [MD h]
  ·split
   ·rw [MD h]
   ·rfl
 ·rfl
 ·rfl
theorem Oh {g : Gd} {h0 : AD} {op : Op} {fr fr' : Fr} (h : GU op fr fr') : A7 C S g h0 fr op = A7 C S g h0 fr' op := by
 unfold A7
 split
 ·rename_i x as ts
  unfold GU at h
  simp [Op.operands, Call.operands] at h
  rw [h.1, Kg (l := as.toList) fun y hy => h.2 y (by simpa using hy)]
 ·exact WS h
theorem Gg {g : Gd} {h0 : AD} {op : Op} {fr : Fr} (h : As C.P op ≠ 3) : A7 C S g h0 fr op = HR C.P C.Cd g h0 fr op := by
 unfold A7
 split
 ·simp [As] at h
 ·rfl
theorem JP {ops : Array Oper} {fr fr' : Fr} {o : Oper} (h : ∀ t ∈ o.looksAt ops, nth fr t = nth fr' t) : B7 ops fr o = B7 ops fr' o := by
 unfold B7
 cases hg : o.guard with
 | none => rfl
 | some p =>
  obtain ⟨j, want⟩ := p
  simp only
  cases hd : (ops[j]?).bind (·.dst) with
  | none => rfl
  | some d =>
   simp only
   rw [h d (by simp [Oper.looksAt, hg, hd])]
theorem Mq {ops : Array Oper} {fr fr' : Fr} {o : Oper} (h : ∀ t ∈ o.looksAt ops, nth fr t = nth fr' t) : GU o.op fr fr' := by
 intro x hx
 cases x with
 | tmp t => exact h t (by unfold Oper.looksAt; exact List.mem_append.2 (.inl (List.mem_filterMap.2 ⟨_, hx, rfl⟩)))
 | _ => rfl
end
end Go.Av
