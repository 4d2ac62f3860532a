/-
 A part.
-/
import Derived.Test.YtlljeoogceblmaaGreatDoorAvKeep
import Derived.Tactics
import Derived.OrdersIn
import Derived.TacticsIn
import Derived.LoopNIn
import Derived.RangeFuncLeaves
namespace Go.Av
open Go.RowKit
def Cb (P : Program) (f : FuncId) (args : Array Value) (w : World) (Q : Value → World → Prop) : Prop :=
 match (callFunc f args).run P w with
 | .ok (.value v) w' => Q v w'
 | .ok (.enter f' args') w' => Calls P f' args' w' fun e w'' => ∃ v, e = .returned v ∧ Q v w''
 | _ => False
def Pt (P : Program) (G : Nat → Option (List AB)) (call : Gd → AF → FuncId → List AB → Option (AB × AF)) : Prop :=
 ∀ g h f args v h', call g h f args = some (v, h') → BF g h h' ∧ ∀ w0 m w (cargs : Array Value), Bt G w0 → Rel P w0 m h w → CS m args cargs.toList →
  Cb P f cargs w fun v' w' => ∃ m' : BK, (m.ext h.size m') ∧ Rel P w0 m' h' w' ∧ VR m' v v'
def FW (r : Option Nat) : Fence := { Fence.wide with round := r }
theorem Rj {rd : Option Nat} {n : Nat} {P : Program} {f : FuncId} {args : Array Value} {w : World} {R : Ending → World → Prop} (h : Calls P f args w R) : CallsIn (FW rd) n P f args w R := (callsIn_wide (n := n)).2 h
def R6 (P : Program) (G : Nat → Option (List AB)) (round : Gd → AF → Nat → List AB → Option (AB × AF)) : Prop :=
 ∀ g h l args v h', round g h l args = some (v, h') → BF g h h' ∧ ∀ w0 m w (cargs : Array Value) E, Bt G w0 → Rel P w0 m h w → CS m args cargs.toList → m.i l = some E →
  ∃ f tmps a b, (Instr.yield E.g cargs).run P w = .ok (.round E.g f tmps a b) w ∧ RoundIn Fence.wide 0 P E.g f tmps a b w fun e w' => ∃ v', e = .returned v' ∧ ∃ m' : BK, (m.ext h.size m') ∧ Rel P w0 m' h' w' ∧ VR m' v v'
structure Ew (P : Program) (G : Nat → Option (List AB)) (S : Self) : Prop where
 call : Pt P G S.call
 round : R6 P G S.round
section
variable {C : E8} {S : Self} {w0 : World} {m : BK} {h : AF} {w : World}
theorem IJ (M : Ew C.P C.Ca S) {g : Gd} {fr : Fr} {op : Op} {v : AB} {h' : AF} (I : BO C S g h fr op = some (v, h')) : BF g h h' := by
 unfold BO at I
 split at I
 ·split at I
  ·exact (M.call _ _ _ _ _ _ I).1
  ·exact (M.round _ _ _ _ _ _ I).1
  ·cases I
 ·exact St I
theorem Qm {P : Program} {G : Nat → Option (List AB)} {g : Gd} {fr : Fr} {op : Op} {x : AB × AF} (ho : Gp P G g h fr op = some x) : ∀ c, op ≠ .defer c := by
 rintro c rfl
 simp [Gp, BA, Ji] at ho
theorem Hy (M : Ew C.P C.Ca S) (O : Bt C.Ca w0) (r : Rel C.P w0 m h w) {g : Gd} {fr : Fr} {a : Act} (L : FR m fr a) {o : Oper} {v : AB} {h' : AF} (I : BO C S g h fr o.op = some (v, h'))
  {K : Act → World → Prop} {Q : Exit → Act → World → Prop} (V : ∀ m' v' w', (m.ext h.size m') → Rel C.P w0 m' h' w' → VR m' v v' → K (a.put o.dst v') w') (rd : Option Nat) : o.wpIn (FW rd) 0 C.P a w K Q := by
 unfold BO at I
 split at I
 ·rename_i x as ts heq
  split at I
  ·rename_i f first cap B
   obtain ⟨_, hc⟩ := M.call _ _ _ _ _ _ I
   have H := L.ev x
   rw [B] at H
   generalize hq : a.eval x = q at H
   cases H with
   | func _ _ _ fi ca h1 h2 Z Y =>
    have hargs : CS m (first ++ (as.toList.map (ev fr) ++ cap)) ((fi ++ as.map a.eval) ++ ca).toList := by
     simp only [Array.toList_append, List.append_assoc, Array.toList_map]
     refine CS.app ⟨by simpa using h1, fun i x y B T => h2 i x y B (by simpa using T)⟩ (CS.app (L.evs as.toList) ⟨by simpa using Z, fun i x y B T => Y i x y B (by simpa using T)⟩)
    have hi := hc w0 m w _ O r hargs
    have N : (execOp a.eval o).run C.P w = (callFunc f ((fi ++ as.map a.eval) ++ ca)).run C.P w := by
     simp only [execOp, heq, resolve, hq, Deferred.ofValue, Sem.run_bind, Sem.run_pure, Result.andThen_ok, invoke]
    refine ⟨fun _ _ => trivial, ?_⟩
    rw [Oper.semAt_eq _ _ _ (by rw [heq]; intro c hc; cases hc), N]
    unfold Cb at hi
    split at hi
    ·rename_i v' w' he
     obtain ⟨m', a1, a2, a3⟩ := hi
     rw [he]
     exact V m' v' w' a1 a2 a3
    ·rename_i f' args' w' he
     rw [he]
     refine ⟨fun h => (by cases h), Rj (hi.mono fun e w'' hh => ?_)⟩
     obtain ⟨v', rfl, m', a1, a2, a3⟩ := hh
     exact V m' v' w'' a1 a2 a3
    ·exact hi.elim
  ·rename_i l B
   obtain ⟨_, hc⟩ := M.round _ _ _ _ _ _ I
   have H := L.ev x
   rw [B] at H
   generalize hq : a.eval x = q at H
   cases H with
   | VJ _ E hE =>
    obtain ⟨f, tmps, ca, cb, T, D⟩ := hc w0 m w (as.map a.eval) E O r (by simpa using L.evs as.toList) hE
    have N : (execOp a.eval o).run C.P w = (Instr.yield E.g (as.map a.eval)).run C.P w := by
     simp only [execOp, heq, resolve, hq, Deferred.ofValue, Sem.run_bind, Sem.run_pure, Result.andThen_ok, invoke, Array.empty_append]
    refine ⟨fun _ _ => trivial, ?_⟩
    rw [Oper.semAt_eq _ _ _ (by rw [heq]; intro c hc; cases hc), N, T]
    refine ⟨fun h => (by cases h), RoundIn.mono (F := FW rd) D fun e w'' hh => ?_⟩
    obtain ⟨v', rfl, m', a1, a2, a3⟩ := hh
    exact V m' v' w'' a1 a2 a3
  ·cases I
 ·obtain ⟨m', n, v', w', h1, h2, Z, Y, h5⟩ := S3 O r L I
  refine ⟨fun _ _ => trivial, ?_⟩
  rw [Oper.semAt_eq _ _ _ (Qm I), h1]
  rcases h2 with rfl | ⟨rfl, rfl⟩
  ·exact V m' v' w' Z Y h5
  ·exact V m' _ w' Z Y h5
theorem Ei {ops : Array Oper} {fr : Fr} {a : Act} (L : FR m fr a) {o : Oper} {b : Bool} (hw : Cc ops fr o = some b) : Region.wanted o (yielded ops a.tmps) = b := by
 unfold Cc at hw
 unfold Region.wanted
 split at hw
 ·rename_i U; injection hw with hw; subst hw; rw [U]
 ·rename_i j want U
  rw [U]
  simp only
  unfold yielded
  split at hw
  ·rename_i hd; injection hw with hw; subst hw; rw [hd]; rfl
  ·rename_i d hd
   rw [hd, Option.bind_some]
   have H := L.2 d
   have hget : a.tmps.getD d undef = (a.tmps[d]?).getD undef := by simp [Array.getD_eq_getD_getElem?]
   rw [hget] at H
   split at hw
   ·rename_i bb hb
    injection hw with hw
    subst hw
    rw [hb] at H
    have H := H.I3
    cases W : a.tmps[d]? with
    | none => rw [W] at H; cases H
    | some u => rw [W] at H; simp only [Option.getD_some] at H; subst H; simp
   ·cases hw
   ·rename_i nb nu
    injection hw with hw
    subst hw
    cases W : a.tmps[d]? with
    | none => rfl
    | some u =>
     rw [W] at H
     simp only [Option.getD_some] at H
     cases u with
     | bool b =>
      cases hn : nth fr d <;> rw [hn] at H <;> cases H
      ·exact absurd hn nu
      ·exact absurd hn (nb _)
     | _ => rfl
theorem DT (M : Ew C.P C.Ca S) {g : Gd} {ops : Array Oper} : ∀ (l : List Oper) {h h' : AF} {fr fr' : Fr}, DM C S g ops l fr h = some (fr', h') → BF g h h' ∧ fr'.length = fr.length
 | [], h, h', fr, fr', D => by
  simp only [DM, Option.some.injEq, Prod.mk.injEq] at D
  obtain ⟨rfl, rfl⟩ := D
  exact ⟨BF.refl _ _, rfl⟩
 | o :: rest, h, h', fr, fr', D => by
  unfold DM at D
  split at D
  ·split at D
   ·rename_i v h1 I
    obtain ⟨k1, k2⟩ := DT M rest D
    exact ⟨(IJ M I).trans k1, by rw [k2]; simp⟩
   ·cases D
  ·obtain ⟨k1, k2⟩ := DT M rest D
   exact ⟨k1, by rw [k2]; simp⟩
  ·cases D
theorem DC (a : Act) (d : Option Tmp) (v : Value) : (a.put d v).defers = a.defers := by cases d <;> rfl
theorem Eb (M : Ew C.P C.Ca S) (O : Bt C.Ca w0) {g : Gd} {ops : Array Oper} {Q : Exit → Act → World → Prop} : ∀ (l : List Oper) {m : BK} {h : AF} {w : World} {fr fr' : Fr} {h' : AF} {a : Act},
  Rel C.P w0 m h w → FR m fr a → DM C S g ops l fr h = some (fr', h') →
  (∀ m' a' w', (m.ext h.size m') → Rel C.P w0 m' h' w' → FR m' fr' a' → a'.defers = a.defers → Q .normal a' w') → ∀ rd : Option Nat, wpListIn (FW rd) 0 C.P ops Q l a w
 | [], m, h, w, fr, fr', h', a, r, L, D, X, rd => by
  simp only [DM, Option.some.injEq, Prod.mk.injEq] at D
  obtain ⟨rfl, rfl⟩ := D
  exact X m a w (BK.ext.refl _ _) r L rfl
 | o :: rest, m, h, w, fr, fr', h', a, r, L, D, X, rd => by
  unfold DM at D
  split at D
  ·rename_i hw
   split at D
   ·rename_i v h1 I
    have hk := IJ M I
    have J := Ei L hw
    unfold wpListIn
    rw [if_pos J]
    refine Hy M O r L I (fun m1 v1 w1 e1 e2 e3 => ?_) rd
    refine Eb M O rest e2 (FR.put (L.mono (r.Kz e1)) o.dst e3) D (fun m' a' w' g1 g2 g3 g4 => X m' a' w' (e1.trans g1 hk.1) g2 g3 ?_) rd
    rw [g4, DC]
   ·cases D
  ·rename_i hw
   have J := Ei L hw
   unfold wpListIn
   rw [if_neg (by rw [J]; simp)]
   exact ⟨fun _ _ => trivial, Eb M O rest r (FR.put L o.dst (VR.Eu m)) D (fun m' a' w' g1 g2 g3 g4 => X m' a' w' g1 g2 g3 (by rw [g4, DC])) rd⟩
  ·cases D
def Fp (op : Op) (fr fr' : Fr) : Prop := ∀ x ∈ op.operands.toList, ev fr x = ev fr' x
theorem Jy {l : List Operand} {fr fr' : Fr} (h : ∀ x ∈ l, ev fr x = ev fr' x) : l.map (ev fr) = l.map (ev fr') := List.map_congr_left h
theorem Nx {l : List (Nat × Operand)} {fr fr' : Fr} (h : ∀ x ∈ l.map (·.2), ev fr x = ev fr' x) : (l.map fun (i, x) => (i, ev fr x)) = l.map fun (i, x) => (i, ev fr' x) := by
 apply List.map_congr_left
 rintro ⟨i, x⟩ B
 simp only [Prod.mk.injEq, true_and]
 exact h x (List.mem_map.2 ⟨_, B, rfl⟩)
theorem LV {o : Option Operand} {fr fr' : Fr} (h : ∀ x, o = some x → ev fr x = ev fr' x) : o.map (ev fr) = o.map (ev fr') := by
 cases o with
 | none => rfl
 | some x => simp [h x rfl]
theorem QF {P : Program} {op : Op} {fr fr' : Fr} (h : Fp op fr fr') : IP P fr op = IP P fr' op := by
 unfold Fp at h
 cases op <;> simp [Op.operands, Call.operands] at h <;> try (simp [IP, h]; done)
 case build t ps =>
  simp only [IP]
  rw [Nx (l := ps.toList) (fr := fr) (fr' := fr') (fun x B => by
   obtain ⟨p, hp, rfl⟩ := List.mem_map.1 B
   exact h p.2 p.1 (by simpa using hp))]
 case makeFunc fn first cap =>
  simp only [IP]
  rw [Jy (l := first.toList) fun x B => h x (.inl (by simpa using B)), Jy (l := cap.toList) fun x B => h x (.inr (by simpa using B))]
 case slice t x lo hi mx =>
  cases mx with
  | some y => simp [IP]
  | none =>
   simp only [IP]
   rw [h.1, LV (fun x B => h.2 x (.inl B)), LV (fun x B => h.2 x (.inr (.inl B)))]
 case call c =>
  obtain ⟨callee, as, ts⟩ := c
  cases callee with
  | value f => simp [IP]
  | invoke r mth => simp [IP]
  | builtin b => simp only [IP]; rw [Jy (l := as.toList) fun x B => h x (by simpa using B)]
theorem KI {op : Op} {fr fr' : Fr} (h : Fp op fr fr') : Cq fr op = Cq fr' op := by
 unfold Fp at h
 cases op <;> simp [Op.operands, Call.operands] at h <;> try (simp [Cq, h]; done)
 case call c =>
  obtain ⟨callee, as, ts⟩ := c
  simp only [Cq]
  split
  ·rename_i x B
   rw [h x (.inr (by rw [← Array.mem_toList_iff, B]; simp))]
  ·rfl
theorem Lz {P : Program} {G : Nat → Option (List AB)} {op : Op} {fr fr' : Fr} (h : Fp op fr fr') (ob : Option CJ) : Ih P G fr ob op = Ih P G fr' ob op := by
 unfold Fp at h
 cases op <;> simp [Op.operands, Call.operands] at h <;> try (simp [Ih, h]; done)
 case slice t x lo hi mx =>
  cases mx with
  | some y => simp [Ih]
  | none =>
   simp only [Ih]
   rw [h.1, LV (fun x B => h.2 x (.inl B)), LV (fun x B => h.2 x (.inr (.inl B)))]
 case call c =>
  obtain ⟨callee, as, ts⟩ := c
  cases callee with
  | value f => simp [Ih]
  | invoke r mth => simp [Ih]
  | builtin b =>
   cases b <;> simp only [Ih]
   split
   ·rename_i x B
    rw [h x (by simp [← Array.mem_toList_iff, B])]
   ·rfl
theorem Q0 {P : Program} {op : Op} {fr fr' : Fr} (h : Fp op fr fr') : OG P fr op = OG P fr' op := by
 unfold Fp at h
 cases op <;> simp [Op.operands, Call.operands] at h <;> try (simp [OG, h]; done)
 case buildSlice t len ps =>
  simp only [OG]
  rw [Nx (l := ps.toList) (fr := fr) (fr' := fr') (fun x B => by
   obtain ⟨p, hp, rfl⟩ := List.mem_map.1 B
   exact h p.2 p.1 (by simpa using hp))]
 case makeMap t r => cases r <;> simp [OG]
theorem TK {P : Program} {g : Gd} {h0 : AF} {op : Op} {fr fr' : Fr} (h : Fp op fr fr') : Ji P g h0 fr op = Ji P g h0 fr' op := by
 unfold Fp at h
 cases op <;> simp [Op.operands, Call.operands] at h <;> try (simp [Ji, h]; done)
 case next it s => cases s <;> simp [Ji, h]
 case call c =>
  obtain ⟨callee, as, ts⟩ := c
  cases callee with
  | value f => simp [Ji]
  | invoke r mth => simp [Ji]
  | builtin b => simp only [Ji]; rw [Jy (l := as.toList) fun x B => h x (by simpa using B)]
theorem Uc {P : Program} {G : Nat → Option (List AB)} {g : Gd} {h0 : AF} {op : Op} {fr fr' : Fr} (h : Fp op fr fr') : Gp P G g h0 fr op = Gp P G g h0 fr' op := by
 unfold Gp
 rw [QF h, KI h, Q0 h, TK h]
 split
 ·rfl
 ·split
  ·rw [Lz h]
  ·split
   ·rw [Lz h]
   ·rfl
 ·rfl
 ·rfl
theorem NK {g : Gd} {h0 : AF} {op : Op} {fr fr' : Fr} (h : Fp op fr fr') : BO C S g h0 fr op = BO C S g h0 fr' op := by
 unfold BO
 split
 ·rename_i x as ts
  unfold Fp at h
  simp [Op.operands, Call.operands] at h
  rw [h.1, Jy (l := as.toList) fun y T => h.2 y (by simpa using T)]
 ·exact Uc h
theorem GN {g : Gd} {h0 : AF} {op : Op} {fr : Fr} (h : BA C.P op ≠ 3) : BO C S g h0 fr op = Gp C.P C.Ca g h0 fr op := by
 unfold BO
 split
 ·simp [BA] at h
 ·rfl
theorem JH {ops : Array Oper} {fr fr' : Fr} {o : Oper} (h : ∀ t ∈ o.looksAt ops, nth fr t = nth fr' t) : Cc ops fr o = Cc ops fr' o := by
 unfold Cc
 cases U : o.guard with
 | none => rfl
 | some p =>
  obtain ⟨j, want⟩ := p
  simp only
  cases hd : (ops[j]?).bind (·.dst) with
  | none => rfl
  | some d =>
   simp only
   rw [h d (by simp [Oper.looksAt, U, hd])]
theorem L5 {ops : Array Oper} {fr fr' : Fr} {o : Oper} (h : ∀ t ∈ o.looksAt ops, nth fr t = nth fr' t) : Fp o.op fr fr' := by
 intro x B
 cases x with
 | tmp t => exact h t (by unfold Oper.looksAt; exact List.mem_append.2 (.inl (List.mem_filterMap.2 ⟨_, B, rfl⟩)))
 | _ => rfl
end
end Go.Av
