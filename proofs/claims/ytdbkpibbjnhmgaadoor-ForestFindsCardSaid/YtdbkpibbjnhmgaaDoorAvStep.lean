/-
 A part.
-/
import Derived.Test.YtdbkpibbjnhmgaaDoorAvKeep
import Derived.Tactics
import Derived.OrdersIn
import Derived.TacticsIn
import Derived.LoopNIn
import Derived.RangeFuncLeaves
namespace Go.Av
open Go.RowKit
def B5 (P : Program) (f : FuncId) (args : Array Value) (w : World) (Q : Value → World → Prop) : Prop :=
 match (callFunc f args).run P w with
 | .ok (.value v) w' => Q v w'
 | .ok (.enter f' args') w' => Calls P f' args' w' fun e w'' => ∃ v, e = .returned v ∧ Q v w''
 | _ => False
def NM (P : Program) (G : Nat → Option (List AA)) (call : Gd → AB → FuncId → List AA → Option (AA × AB)) : Prop :=
 ∀ g h f args v h', call g h f args = some (v, h') → AU g h h' ∧ ∀ w0 m w (cargs : Array Value), BV G w0 → Rel P w0 m h w → BZ m args cargs.toList →
  B5 P f cargs w fun v' w' => ∃ m' : AV, (m.ext h.size m') ∧ Rel P w0 m' h' w' ∧ VR m' v v'
def FW (r : Option Nat) : Fence := { Fence.wide with round := r }
theorem Lh {rd : Option Nat} {n : Nat} {P : Program} {f : FuncId} {args : Array Value} {w : World} {R : Ending → World → Prop} (h : Calls P f args w R) : CallsIn (FW rd) n P f args w R := (callsIn_wide (n := n)).2 h
def QA (P : Program) (G : Nat → Option (List AA)) (round : Gd → AB → Nat → List AA → Option (AA × AB)) : Prop :=
 ∀ g h l args v h', round g h l args = some (v, h') → AU g h h' ∧ ∀ w0 m w (cargs : Array Value) E, BV G w0 → Rel P w0 m h w → BZ m args cargs.toList → m.i l = some E →
  ∃ f tmps a b, (Instr.yield E.g cargs).run P w = .ok (.round E.g f tmps a b) w ∧ RoundIn Fence.wide 0 P E.g f tmps a b w fun e w' => ∃ v', e = .returned v' ∧ ∃ m' : AV, (m.ext h.size m') ∧ Rel P w0 m' h' w' ∧ VR m' v v'
structure F6 (P : Program) (G : Nat → Option (List AA)) (S : Self) : Prop where
 call : NM P G S.call
 round : QA P G S.round
section
variable {C : En} {S : Self} {w0 : World} {m : AV} {h : AB} {w : World}
theorem G8 {P : Program} (op : Op) : AZ P op = 0 ∨ AZ P op = 1 ∨ AZ P op = 2 ∨ AZ P op = 3 := by
 unfold AZ
 repeat' split
 all_goals first | (simp; done) | (rename_i o t x y z; cases KM P o t x y <;> simp)
theorem GQ (hS : F6 C.P C.CP S) {g : Gd} {fr : Fr} {op : Op} {v : AA} {h' : AB} (hs : Ap C S g h fr op = some (v, h')) : AU g h h' := by
 unfold Ap at hs
 split at hs
 ·split at hs
  ·exact (hS.call _ _ _ _ _ _ hs).1
  ·exact (hS.round _ _ _ _ _ _ hs).1
  ·cases hs
 ·exact Qz hs
theorem N3 {P : Program} {G : Nat → Option (List AA)} {g : Gd} {fr : Fr} {op : Op} {x : AA × AB} (ho : GO P G g h fr op = some x) : ∀ c, op ≠ .defer c := by
 rintro c rfl
 simp [GO, AZ, G2] at ho
theorem Ho (hS : F6 C.P C.CP S) (hz : BV C.CP w0) (r : Rel C.P w0 m h w) {g : Gd} {fr : Fr} {a : Act} (hf : FR m fr a) {o : Oper} {v : AA} {h' : AB} (hs : Ap C S g h fr o.op = some (v, h'))
  {K : Act → World → Prop} {Q : Exit → Act → World → Prop} (hK : ∀ m' v' w', (m.ext h.size m') → Rel C.P w0 m' h' w' → VR m' v v' → K (a.put o.dst v') w') (rd : Option Nat) : o.wpIn (FW rd) 0 C.P a w K Q := by
 unfold Ap at hs
 split at hs
 ·rename_i x as ts heq
  split at hs
  ·rename_i f first cap hx
   obtain ⟨_, hc⟩ := hS.call _ _ _ _ _ _ hs
   have hv := hf.ev x
   rw [hx] at hv
   generalize hq : a.eval x = q at hv
   cases hv with
   | func _ _ _ fi ca h1 h2 h3 h4 =>
    have hargs : BZ m (first ++ (as.toList.map (ev fr) ++ cap)) ((fi ++ as.map a.eval) ++ ca).toList := by
     simp only [Array.toList_append, List.append_assoc, Array.toList_map]
     refine BZ.app ⟨by simpa using h1, fun i x y hx hy => h2 i x y hx (by simpa using hy)⟩ (BZ.app (hf.VE as.toList) ⟨by simpa using h3, fun i x y hx hy => h4 i x y hx (by simpa using hy)⟩)
    have hi := hc w0 m w _ hz r hargs
    have hrun : (execOp a.eval o).run C.P w = (callFunc f ((fi ++ as.map a.eval) ++ ca)).run C.P w := by
     simp only [execOp, heq, resolve, hq, Deferred.ofValue, Sem.run_bind, Sem.run_pure, Result.andThen_ok, invoke]
    refine ⟨fun _ _ => trivial, ?_⟩
    rw [Oper.semAt_eq _ _ _ (by rw [heq]; intro c hc; cases hc), hrun]
    unfold B5 at hi
    split at hi
    ·rename_i v' w' he
     obtain ⟨m', a1, a2, a3⟩ := hi
     rw [he]
     exact hK m' v' w' a1 a2 a3
    ·rename_i f' args' w' he
     rw [he]
     refine ⟨fun h => (by cases h), Lh (hi.mono fun e w'' hh => ?_)⟩
     obtain ⟨v', rfl, m', a1, a2, a3⟩ := hh
     exact hK m' v' w'' a1 a2 a3
    ·exact hi.elim
  ·rename_i l hx
   obtain ⟨_, hc⟩ := hS.round _ _ _ _ _ _ hs
   have hv := hf.ev x
   rw [hx] at hv
   generalize hq : a.eval x = q at hv
   cases hv with
   | IZ _ E hE =>
    obtain ⟨f, tmps, ca, cb, hy, hr⟩ := hc w0 m w (as.map a.eval) E hz r (by simpa using hf.VE as.toList) hE
    have hrun : (execOp a.eval o).run C.P w = (Instr.yield E.g (as.map a.eval)).run C.P w := by
     simp only [execOp, heq, resolve, hq, Deferred.ofValue, Sem.run_bind, Sem.run_pure, Result.andThen_ok, invoke, Array.empty_append]
    refine ⟨fun _ _ => trivial, ?_⟩
    rw [Oper.semAt_eq _ _ _ (by rw [heq]; intro c hc; cases hc), hrun, hy]
    refine ⟨fun h => (by cases h), RoundIn.mono (F := FW rd) hr fun e w'' hh => ?_⟩
    obtain ⟨v', rfl, m', a1, a2, a3⟩ := hh
    exact hK m' v' w'' a1 a2 a3
  ·cases hs
 ·obtain ⟨m', n, v', w', h1, h2, h3, h4, h5⟩ := Qr hz r hf hs
  refine ⟨fun _ _ => trivial, ?_⟩
  rw [Oper.semAt_eq _ _ _ (N3 hs), h1]
  rcases h2 with rfl | ⟨rfl, rfl⟩
  ·exact hK m' v' w' h3 h4 h5
  ·exact hK m' _ w' h3 h4 h5
theorem Dj {ops : Array Oper} {fr : Fr} {a : Act} (hf : FR m fr a) {o : Oper} {b : Bool} (hw : Bw ops fr o = some b) : Region.wanted o (yielded ops a.tmps) = b := by
 unfold Bw at hw
 unfold Region.wanted
 split at hw
 ·rename_i hg; injection hw with hw; subst hw; rw [hg]
 ·rename_i j want hg
  rw [hg]
  simp only
  unfold yielded
  split at hw
  ·rename_i hd; injection hw with hw; subst hw; rw [hd]; rfl
  ·rename_i d hd
   rw [hd, Option.bind_some]
   have hv := hf.2 d
   have hget : a.tmps.getD d undef = (a.tmps[d]?).getD undef := by simp [Array.getD_eq_getD_getElem?]
   rw [hget] at hv
   split at hw
   ·rename_i bb hb
    injection hw with hw
    subst hw
    rw [hb] at hv
    have hv := hv.Gz
    cases ht : a.tmps[d]? with
    | none => rw [ht] at hv; cases hv
    | some u => rw [ht] at hv; simp only [Option.getD_some] at hv; subst hv; simp
   ·cases hw
   ·rename_i nb nu
    injection hw with hw
    subst hw
    cases ht : a.tmps[d]? with
    | none => rfl
    | some u =>
     rw [ht] at hv
     simp only [Option.getD_some] at hv
     cases u with
     | bool b =>
      cases hn : nth fr d <;> rw [hn] at hv <;> cases hv
      ·exact absurd hn nu
      ·exact absurd hn (nb _)
     | _ => rfl
theorem CX (hS : F6 C.P C.CP S) {g : Gd} {ops : Array Oper} : ∀ (l : List Oper) {h h' : AB} {fr fr' : Fr}, DJ C S g ops l fr h = some (fr', h') → AU g h h' ∧ fr'.length = fr.length
 | [], h, h', fr, fr', hr => by
  simp only [DJ, Option.some.injEq, Prod.mk.injEq] at hr
  obtain ⟨rfl, rfl⟩ := hr
  exact ⟨AU.refl _ _, rfl⟩
 | o :: rest, h, h', fr, fr', hr => by
  unfold DJ at hr
  split at hr
  ·split at hr
   ·rename_i v h1 hs
    obtain ⟨k1, k2⟩ := CX hS rest hr
    exact ⟨(GQ hS hs).trans k1, by rw [k2]; simp⟩
   ·cases hr
  ·obtain ⟨k1, k2⟩ := CX hS rest hr
   exact ⟨k1, by rw [k2]; simp⟩
  ·cases hr
theorem CQ (a : Act) (d : Option Tmp) (v : Value) : (a.put d v).defers = a.defers := by cases d <;> rfl
theorem EX (hS : F6 C.P C.CP S) (hz : BV C.CP w0) {g : Gd} {ops : Array Oper} {Q : Exit → Act → World → Prop} : ∀ (l : List Oper) {m : AV} {h : AB} {w : World} {fr fr' : Fr} {h' : AB} {a : Act},
  Rel C.P w0 m h w → FR m fr a → DJ C S g ops l fr h = some (fr', h') →
  (∀ m' a' w', (m.ext h.size m') → Rel C.P w0 m' h' w' → FR m' fr' a' → a'.defers = a.defers → Q .normal a' w') → ∀ rd : Option Nat, wpListIn (FW rd) 0 C.P ops Q l a w
 | [], m, h, w, fr, fr', h', a, r, hf, hr, hQ, rd => by
  simp only [DJ, Option.some.injEq, Prod.mk.injEq] at hr
  obtain ⟨rfl, rfl⟩ := hr
  exact hQ m a w (AV.ext.refl _ _) r hf rfl
 | o :: rest, m, h, w, fr, fr', h', a, r, hf, hr, hQ, rd => by
  unfold DJ at hr
  split at hr
  ·rename_i hw
   split at hr
   ·rename_i v h1 hs
    have hk := GQ hS hs
    have hwant := Dj hf hw
    unfold wpListIn
    rw [if_pos hwant]
    refine Ho hS hz r hf hs (fun m1 v1 w1 e1 e2 e3 => ?_) rd
    refine EX hS hz rest e2 (FR.put (hf.mono (r.Jo e1)) o.dst e3) hr (fun m' a' w' g1 g2 g3 g4 => hQ m' a' w' (e1.trans g1 hk.1) g2 g3 ?_) rd
    rw [g4, CQ]
   ·cases hr
  ·rename_i hw
   have hwant := Dj hf hw
   unfold wpListIn
   rw [if_neg (by rw [hwant]; simp)]
   exact ⟨fun _ _ => trivial, EX hS hz rest r (FR.put hf o.dst (VR.EK m)) hr (fun m' a' w' g1 g2 g3 g4 => hQ m' a' w' g1 g2 g3 (by rw [g4, CQ])) rd⟩
  ·cases hr
def Ef (op : Op) (fr fr' : Fr) : Prop := ∀ x ∈ op.operands.toList, ev fr x = ev fr' x
theorem Hs {l : List Operand} {fr fr' : Fr} (h : ∀ x ∈ l, ev fr x = ev fr' x) : l.map (ev fr) = l.map (ev fr') := List.map_congr_left h
theorem LC {l : List (Nat × Operand)} {fr fr' : Fr} (h : ∀ x ∈ l.map (·.2), ev fr x = ev fr' x) : (l.map fun (i, x) => (i, ev fr x)) = l.map fun (i, x) => (i, ev fr' x) := by
 apply List.map_congr_left
 rintro ⟨i, x⟩ hx
 simp only [Prod.mk.injEq, true_and]
 exact h x (List.mem_map.2 ⟨_, hx, rfl⟩)
theorem Jh {o : Option Operand} {fr fr' : Fr} (h : ∀ x, o = some x → ev fr x = ev fr' x) : o.map (ev fr) = o.map (ev fr') := by
 cases o with
 | none => rfl
 | some x => simp [h x rfl]
theorem Of {P : Program} {op : Op} {fr fr' : Fr} (h : Ef op fr fr') : G6 P fr op = G6 P fr' op := by
 unfold Ef at h
 cases op <;> simp [Op.operands, Call.operands] at h <;> try (simp [G6, h]; done)
 case build t ps =>
  simp only [G6]
  rw [LC (l := ps.toList) (fr := fr) (fr' := fr') (fun x hx => by
   obtain ⟨p, hp, rfl⟩ := List.mem_map.1 hx
   exact h p.2 p.1 (by simpa using hp))]
 case makeFunc fn first cap =>
  simp only [G6]
  rw [Hs (l := first.toList) fun x hx => h x (.inl (by simpa using hx)), Hs (l := cap.toList) fun x hx => h x (.inr (by simpa using hx))]
 case slice t x lo hi mx =>
  cases mx with
  | some y => simp [G6]
  | none =>
   simp only [G6]
   rw [h.1, Jh (fun x hx => h.2 x (.inl hx)), Jh (fun x hx => h.2 x (.inr (.inl hx)))]
 case call c =>
  obtain ⟨callee, as, ts⟩ := c
  cases callee with
  | value f => simp [G6]
  | invoke r mth => simp [G6]
  | builtin b => simp only [G6]; rw [Hs (l := as.toList) fun x hx => h x (by simpa using hx)]
theorem IQ {op : Op} {fr fr' : Fr} (h : Ef op fr fr') : CT fr op = CT fr' op := by
 unfold Ef at h
 cases op <;> simp [Op.operands, Call.operands] at h <;> try (simp [CT, h]; done)
 case call c =>
  obtain ⟨callee, as, ts⟩ := c
  simp only [CT]
  split
  ·rename_i x hx
   rw [h x (.inr (by rw [← Array.mem_toList_iff, hx]; simp))]
  ·rfl
theorem Jw {P : Program} {G : Nat → Option (List AA)} {op : Op} {fr fr' : Fr} (h : Ef op fr fr') (ob : Option A7) : Hj P G fr ob op = Hj P G fr' ob op := by
 unfold Ef at h
 cases op <;> simp [Op.operands, Call.operands] at h <;> try (simp [Hj, h]; done)
 case slice t x lo hi mx =>
  cases mx with
  | some y => simp [Hj]
  | none =>
   simp only [Hj]
   rw [h.1, Jh (fun x hx => h.2 x (.inl hx)), Jh (fun x hx => h.2 x (.inr (.inl hx)))]
 case call c =>
  obtain ⟨callee, as, ts⟩ := c
  cases callee with
  | value f => simp [Hj]
  | invoke r mth => simp [Hj]
  | builtin b =>
   cases b <;> simp only [Hj]
   split
   ·rename_i x hx
    rw [h x (by simp [← Array.mem_toList_iff, hx])]
   ·rfl
theorem Oq {P : Program} {op : Op} {fr fr' : Fr} (h : Ef op fr fr') : Mu P fr op = Mu P fr' op := by
 unfold Ef at h
 cases op <;> simp [Op.operands, Call.operands] at h <;> try (simp [Mu, h]; done)
 case buildSlice t len ps =>
  simp only [Mu]
  rw [LC (l := ps.toList) (fr := fr) (fr' := fr') (fun x hx => by
   obtain ⟨p, hp, rfl⟩ := List.mem_map.1 hx
   exact h p.2 p.1 (by simpa using hp))]
 case makeMap t r => cases r <;> simp [Mu]
theorem RX {P : Program} {g : Gd} {h0 : AB} {op : Op} {fr fr' : Fr} (h : Ef op fr fr') : G2 P g h0 fr op = G2 P g h0 fr' op := by
 unfold Ef at h
 cases op <;> simp [Op.operands, Call.operands] at h <;> try (simp [G2, h]; done)
 case next it s => cases s <;> simp [G2, h]
 case call c =>
  obtain ⟨callee, as, ts⟩ := c
  cases callee with
  | value f => simp [G2]
  | invoke r mth => simp [G2]
  | builtin b => simp only [G2]; rw [Hs (l := as.toList) fun x hx => h x (by simpa using hx)]
theorem Rs {P : Program} {G : Nat → Option (List AA)} {g : Gd} {h0 : AB} {op : Op} {fr fr' : Fr} (h : Ef op fr fr') : GO P G g h0 fr op = GO P G g h0 fr' op := by
 unfold GO
 rw [Of h, IQ h, Oq h, RX h]
 split
 ·rfl
 ·split
  ·rw [Jw h]
  ·split
   ·rw [Jw h]
   ·rfl
 ·rfl
 ·rfl
theorem PJ {g : Gd} {h0 : AB} {op : Op} {fr fr' : Fr} (h : Ef op fr fr') : Ap C S g h0 fr op = Ap C S g h0 fr' op := by
 unfold Ap
 split
 ·rename_i x as ts
  unfold Ef at h
  simp [Op.operands, Call.operands] at h
  rw [h.1, Hs (l := as.toList) fun y hy => h.2 y (by simpa using hy)]
 ·exact Rs h
theorem Eu {g : Gd} {h0 : AB} {op : Op} {fr : Fr} (h : AZ C.P op ≠ 3) : Ap C S g h0 fr op = GO C.P C.CP g h0 fr op := by
 unfold Ap
 split
 ·simp [AZ] at h
 ·rfl
theorem HL {ops : Array Oper} {fr fr' : Fr} {o : Oper} (h : ∀ t ∈ o.looksAt ops, nth fr t = nth fr' t) : Bw ops fr o = Bw ops fr' o := by
 unfold Bw
 cases hg : o.guard with
 | none => rfl
 | some p =>
  obtain ⟨j, want⟩ := p
  simp only
  cases hd : (ops[j]?).bind (·.dst) with
  | none => rfl
  | some d =>
   simp only
   rw [h d (by simp [Oper.looksAt, hg, hd])]
theorem MI {ops : Array Oper} {fr fr' : Fr} {o : Oper} (h : ∀ t ∈ o.looksAt ops, nth fr t = nth fr' t) : Ef o.op fr fr' := by
 intro x hx
 cases x with
 | tmp t => exact h t (by unfold Oper.looksAt; exact List.mem_append.2 (.inl (List.mem_filterMap.2 ⟨_, hx, rfl⟩)))
 | _ => rfl
end
end Go.Av
