/-
 A part.
-/
import Derived.TacticsIn
import Derived.Scope
import Derived.RangeFuncLeaves
import Derived.Conc.LoneSelect
namespace Go.Av
open Go.RowKit Go.Conc
def Ts (P : Program) (c : Code) (Q : Exit → Act → World → Prop) (a : Act) (w : World) : Prop :=
 ∀ (b : Frame) (k : List Item) (cs : List Frame), b.kind = .normal →
  ∃ e a' w', Q e a' w' ∧ Arrives P (lone (b.at a (.code c :: k)) cs w) b k cs e a' w'
variable {P : Program} {Q : Exit → Act → World → Prop} {a : Act} {w : World}
theorem RF {c : Code} (h : c.wp P Q a w) : Ts P c Q a w := fun b k cs _ => h b k cs
theorem Q4 {x y : Code} (h : Ts P x (Exit.then (Ts P y Q) Q) a w) : Ts P (Code.seq x y) Q a w := by
 intro b k cs hb
 obtain ⟨e, a₁, w₁, hq, harr⟩ := h b (.code y :: k) cs hb
 cases e with
 | normal =>
  obtain ⟨e₂, a₂, w₂, hq₂, harr₂⟩ := hq b k cs hb
  exact ⟨e₂, a₂, w₂, hq₂, .of_steps (.head step_seq harr) harr₂⟩
 | exit id => exact ⟨_, a₁, w₁, hq, .of_steps (.one step_seq) (.pass (x := .code y) rfl (fun _ _ => .inl (by simp)) harr)⟩
 | goto l => exact ⟨_, a₁, w₁, hq, .of_steps (.one step_seq) (.pass (x := .code y) rfl (fun _ _ => .inl (by simp)) harr)⟩
 | ret => exact ⟨_, a₁, w₁, hq, .of_steps (.one step_seq) (.pass (x := .code y) rfl (fun _ _ => .inl (by simp)) harr)⟩
 | panic ch => exact ⟨_, a₁, w₁, hq, .of_steps (.one step_seq) (.pass (x := .code y) rfl (fun _ _ => .inl (by simp)) harr)⟩
 | outgrown => exact ⟨_, a₁, w₁, hq, .of_steps (.one step_seq) (.pass (x := .code y) rfl (fun _ _ => .inl (by simp)) harr)⟩
def QU (P : Program) (o : Oper) (a : Act) (w : World) (v : Value) (w' : World) : Prop :=
 ∀ (fr : Frame) (cs : List Frame) (cases : Array CommCase) (w₁ : World) (es : Array Event), (execOp a.eval o).run P w = .ok (.comm cases false .select) w₁ →
  stepG P true (G fr cs) w = .comm (G fr cs) cases false .select w₁ es → step P (solo (G fr cs) w) = .next (solo (G (fr.finish v) cs) w')
theorem LV {id : Nat} {ops : Array Oper} {o : Oper} {cases : Array CommCase} {w₁ w' : World} {v : Value} (h0 : ops[0]? = some o)
  (hw : Region.wanted o (yielded ops a.tmps) = true) (hr : (execOp a.eval o).run P w = .ok (.comm cases false .select) w₁)
  (hs : QU P o a w v w') (hrest : wpListIn Fence.wide 0 P ops Q (ops.toList.drop 1) (a.put o.dst v) w') : Ts P (Code.region id ops false) Q a w := by
 intro b k cs hb
 have hr1 : wpOpsIn Fence.wide 0 P ops Q (List.range' 1 (ops.size - 1)) (a.put o.dst v) w' := by
  have e1 : ops.size - 1 = (ops.toList.drop 1).length := by simp
  rw [e1, wpOpsIn_eq_wpListIn (ops.toList.drop 1) 1 (fun j => by simp [Nat.add_comm])]
  exact hrest
 obtain ⟨e, a', w2, hq, harr0⟩ := wp_opsIn _ _ _ hr1 { b with roundOf := none } k cs rfl trivial (room_wide _)
 have harr : Arrives P (lone (b.at (a.put o.dst v) (.inRegion ops (List.range' 1 (ops.size - 1)) :: k)) cs w') b k cs e a' w2 := (arrivesIn_iff (b := { b with roundOf := none }) (fun _ _ => stepsIn_wide) rfl).1 harr0
 have hsz : 0 < ops.size := by
  rcases Nat.eq_zero_or_pos ops.size with h | h
  ·rw [Array.getElem?_eq_none (by omega)] at h0; cases h0
  ·exact h
 have hl : List.range ops.size = 0 :: List.range' 1 (ops.size - 1) := by
  rw [List.range_eq_range']
  obtain ⟨n, hn⟩ : ∃ n, ops.size = n + 1 := ⟨ops.size - 1, by omega⟩
  rw [hn, List.range'_succ]; simp
 refine ⟨e, a', w2, hq, .of_steps (.head step_region ?_) harr⟩
 rw [hl]
 have hc := stepG_comm (P := P) (main := true) (b := b) (a := a) (k := k) (cs := cs) (w := w) (rest := List.range' 1 (ops.size - 1)) h0 hw (by rw [hb]; decide) hr
 have h1 := hs _ cs cases w₁ _ hr hc
 have h2 : step P (lone (b.at a (.inRegion ops (0 :: List.range' 1 (ops.size - 1)) :: k)) cs w) = .next (lone (b.at (a.put o.dst v) (.inRegion ops (List.range' 1 (ops.size - 1)) :: k)) cs w') := by
  have hf := Frame.finish_at (b := b) (a := a) (ops := ops) (i := 0) (rest := List.range' 1 (ops.size - 1)) (k := k) (v := v)
  rw [h0] at hf
  simp only [Option.bind_some] at hf
  rw [← hf]
  exact h1
 exact .one h2
theorem Iz {f : FuncId} {fn : Func} {c : Code} {args : Array Value} {w : World} {R : Ending → World → Prop}
  (hf : P.funcs[f]? = some fn) (hb : fn.body = some c)
  (h : Ts P c (bodyPostM Fence.wide 0 P fn R) { tmps := args ++ Array.replicate (fn.ntmps - args.size) undef, defers := [] } w) :
  Calls P f args w R := by
 intro cs
 let b : Frame := { (default : Frame) with fn := f, kind := .normal, roundOf := none }
 have henter : Frame.enter P f args .normal =
   b.at { tmps := args ++ Array.replicate (fn.ntmps - args.size) undef, defers := [] } [.code c] := by
  simp [Frame.enter, Frame.at, hf, hb, b]
 obtain ⟨e, a', w', hq, harr⟩ := h b [] cs rfl
 rw [← henter] at harr
 have fin : ∀ (u : FrameMode) (fr : Frame), fr.mode = u → fr.defers = a'.defers → fr.tmps = a'.tmps → fr.fn = f → fr.kind = .normal → LeavesInM Fence.wide 0 P fn a'.tmps R a'.defers u w' →
   Steps P (lone (Frame.enter P f args .normal) cs w) (lone fr cs w') →
   ∃ e w'' fr', R e w'' ∧ Comes P (lone (Frame.enter P f args .normal) cs w) (lone fr' cs w'') e ∧ fr'.fn = f ∧ fr'.leaving P w'' e := by
  intro u fr h1 h2 h3 h4 h5 hq hs
  obtain ⟨e', w'', fr', hR, hs', Ig, hl⟩ := leaves_stepsInM (F := Fence.wide) (n := 0) a'.defers u w' fr cs h1 h2 h3 (by rw [h4]; exact hf) h5 trivial (room_wide _) hq
  exact ⟨e', w'', fr', hR, comesIn_wide.1 (ComesIn.of_steps (stepsIn_wide.2 hs) hs'), Ig.trans h4, hl⟩
 cases e with
 | normal => exact fin .returning _ rfl rfl rfl rfl rfl hq (Steps.trans harr (.one step_end))
 | ret =>
  obtain ⟨todo, hs⟩ := harr
  exact fin .returning _ rfl rfl rfl rfl rfl hq hs
 | panic chain =>
  obtain ⟨todo, hs⟩ := harr
  exact fin (.panicking chain) _ rfl rfl rfl rfl rfl hq hs
 | exit id => exact hq.elim
 | goto l => exact hq.elim
 | outgrown => exact ⟨.outgrown, w', b, hq, harr.resolve_left (by simp [b]), rfl, trivial⟩
section
variable {F : Fence} {n : Nat} {b : Frame} {k : List Item} {cs : List Frame}
theorem EM {c : Code} : step P (lone (b.atR a (.code (.scope c) :: k)) cs w) = .next (lone (b.atR a (.code c :: .inScope c :: k)) cs w) :=
 step_lone_go (by simp [stepG, stepG.exec, Frame.atR])
theorem MO {c : Code} : step P (lone (b.atR a (.inScope c :: k)) cs w) = .next (lone (b.atR a k) cs w) :=
 step_lone_go (by simp [stepG, stepG.exec, Frame.atR])
theorem QB {c : Code} (h : c.wpIn F n P (Exit.noGoto Q) a w) : (Code.scope c).wpIn F n P Q a w := by
 intro b k cs hro hb hr
 have h0 : (lone (b.atR a (.code (.scope c) :: k)) cs w).fenced P F := fenced_calm hb hr rfl
 obtain ⟨e, a₁, w₁, hq, harr⟩ := h b (.inScope c :: k) cs hro hb hr
 cases e with
 | normal => exact ⟨.normal, a₁, w₁, hq, .head h0 EM (StepsIn.trans harr (.one (fenced_calm hb hr rfl) MO))⟩
 | exit id =>
  have hx : exitTo id (.inScope c :: k) = exitTo id k := by simp [exitTo]
  exact ⟨.exit id, a₁, w₁, hq, fun k' hk => .head h0 EM (harr.1 k' (by rw [hx]; exact hk)),
   fun hr' hk => let ⟨k₁, h1, h2⟩ := harr.2 hr' (by rw [hx]; exact hk); ⟨k₁, h1, .head h0 EM h2⟩⟩
 | goto l => exact hq.elim
 | ret => exact ⟨_, a₁, w₁, hq, .of_steps (.one h0 EM) harr⟩
 | panic ch => exact ⟨_, a₁, w₁, hq, .of_steps (.one h0 EM) harr⟩
 | outgrown => exact ⟨_, a₁, w₁, hq, .of_steps (.one h0 EM) harr⟩
end
end Go.Av
