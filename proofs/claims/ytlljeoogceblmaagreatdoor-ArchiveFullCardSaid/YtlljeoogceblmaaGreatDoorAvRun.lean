/-
 A part.
-/
import Derived.Test.YtlljeoogceblmaaGreatDoorAvDraw
import Derived.Test.YtlljeoogceblmaaGreatDoorAvSel
import Derived.Test.YtlljeoogceblmaaGreatDoorAvMs
import Derived.RangeFuncRecord
namespace Go.Av
set_option linter.unusedVariables false
set_option linter.unusedSimpArgs false
open Go.RowKit
def codeOk (C : E8) (f : FuncId) : Code → Bool
 | .region id ops draw => !draw || Na C.P ops (C.Kk f id)
 | .seq a b => codeOk C f a && codeOk C f b
 | .cond _ a b => codeOk C f a && codeOk C f b
 | .block _ c => codeOk C f c
 | .loop c => codeOk C f c
 | .scope c => codeOk C f c
 | .rangeFunc _ _ a b => codeOk C f a && codeOk C f b
 | _ => true
def HE : Code → Bool
 | .seq a b => HE a && HE b
 | .cond _ a b => HE a && HE b
 | .block _ c => HE c
 | .loop c => HE c
 | .scope c => HE c
 | .rangeFunc .. => false
 | _ => true
structure G2 (C : E8) : Prop where
 mix : C.P.follows .mixedOrders = true
 code : ∀ f fn c, (C.kind f = 1 ∨ C.kind f = 2 ∨ C.kind f = 4 ∨ C.kind f = 7 ∨ C.kind f = 8 ∨ C.kind f = 9 ∨ C.kind f = 10 ∨ C.kind f = 11) → C.P.funcs[f]? = some fn → fn.body = some c → (fn.name == "runtime.NumGoroutine") = false ∧ codeOk C f c = true
 Yk : ∀ f a b, C.Yk f a b = true → codeOk C f a = true ∧ codeOk C f b = true ∧ HE a = true ∧ HE b = true
 ext : ∀ f, C.kind f = 3 → Pt C.P C.Ca fun g h f' args => if f' = f then C.ext f g h args else none
def B2.to : B2 → Exit
 | .normal => .normal
 | .exit id => .exit id
 | .ret => .ret
def mark (r : Nat) : Deferred := { target := .collected r, args := #[] }
def Mk (mS m : BK) (ds : List Deferred) : Prop := (∀ g x, mS.df g x → m.df g x) ∧ ∃ rs : List Nat, ds = rs.map mark ∧ rs.Nodup ∧ ∀ r ∈ rs, m.df r (.deferred (some [])) ∧ ∀ x, ¬ mS.df r x
theorem Mk.nil (m : BK) : Mk m m [] := ⟨fun _ _ h => h, [], rfl, List.nodup_nil, fun r h => by cases h⟩
theorem Mk.ext {mS m m' : BK} {n : Nat} {ds : List Deferred} (h : Mk mS m ds) (k : m.ext n m') : Mk mS m' ds := by
 obtain ⟨h1, rs, h2, h3, h4⟩ := h
 exact ⟨fun g x M => k.df g x (h1 g x M), rs, h2, h3, fun r W => ⟨k.df r _ (h4 r W).1, (h4 r W).2⟩⟩
def Ju (P : Program) (w0 : World) (mS m : BK) (n : Nat) (e : B2) (fr' : Fr) (h' : AF) (Q : Exit → Act → World → Prop) : Prop :=
 ∀ m' a' w', (m.ext n m') → Rel P w0 m' h' w' → FR m' fr' a' → Mk mS m' a'.defers → Q e.to a' w'
structure Es (C : E8) (n : Nat) (S : Self) : Prop where
 sub : Ew C.P C.Ca S
 keeps : ∀ g f c fr h e fr' h', codeOk C f c = true → S.loop g f c fr h = some (e, fr', h') → BF g h h' ∧ fr'.length = fr.length
 loop : ∀ g f c fr h e fr' h', codeOk C f c = true → S.loop g f c fr h = some (e, fr', h') → ∀ w0 mS m w a Q, Bt C.Ca w0 → Rel C.P w0 m h w → FR m fr a → Mk mS m a.defers → Ju C.P w0 mS m h.size e fr' h' Q → ∀ rd : Option Nat, rd = none ∨ HE c = true → Code.roundsIn (FW rd) 0 C.P c Q n a w
section
variable {C : E8} {S : Self} {n : Nat}
theorem DE (L : Es C n S) {f : FuncId} {g : Gd} : ∀ (c : Code), codeOk C f c = true → ∀ {fr : Fr} {h : AF} {e : B2} {fr' : Fr} {h' : AF}, BW C S f g c fr h = some (e, fr', h') → BF g h h' ∧ fr'.length = fr.length := by
 intro c
 induction c with
 | skip => intro _ fr h e fr' h' B; simp only [BW, Option.some.injEq, Prod.mk.injEq] at B; obtain ⟨_, rfl, rfl⟩ := B; exact ⟨BF.refl _ _, rfl⟩
 | label l => intro _ fr h e fr' h' B; simp only [BW, Option.some.injEq, Prod.mk.injEq] at B; obtain ⟨_, rfl, rfl⟩ := B; exact ⟨BF.refl _ _, rfl⟩
 | exit id => intro _ fr h e fr' h' B; simp only [BW, Option.some.injEq, Prod.mk.injEq] at B; obtain ⟨_, rfl, rfl⟩ := B; exact ⟨BF.refl _ _, rfl⟩
 | ret => intro _ fr h e fr' h' B; simp only [BW, Option.some.injEq, Prod.mk.injEq] at B; obtain ⟨_, rfl, rfl⟩ := B; exact ⟨BF.refl _ _, rfl⟩
 | goto l => intro _ fr h e fr' h' B; simp [BW] at B
 | refuse s => intro _ fr h e fr' h' B; simp [BW] at B
 | rangeFunc x ps a b iha ihb => intro _ fr h e fr' h' B; simp [BW] at B
 | region id ops draw =>
  intro D fr h e fr' h' B
  simp only [BW] at B
  cases draw with
  | true =>
   simp only [cond_true] at B
   split at B
   ·rename_i fr1 h1 W
    simp only [Option.some.injEq, Prod.mk.injEq] at B
    obtain ⟨_, rfl, rfl⟩ := B
    exact OR (by simpa [codeOk] using D) L.sub W
   ·cases B
  | false =>
   simp only [cond_false] at B
   split at B
   ·rename_i fr1 h1 W
    simp only [Option.some.injEq, Prod.mk.injEq] at B
    obtain ⟨_, rfl, rfl⟩ := B
    exact DT L.sub _ W
   ·cases B
 | seq a b iha ihb =>
  intro D fr h e fr' h' B
  simp only [codeOk, Bool.and_eq_true] at D
  simp only [BW] at B
  split at B
  ·rename_i fr1 h1 ha
   obtain ⟨k1, k2⟩ := iha D.1 ha
   obtain ⟨k3, k4⟩ := ihb D.2 B
   exact ⟨k1.trans k3, k4.trans k2⟩
  ·exact iha D.1 B
 | cond c a b iha ihb =>
  intro D fr h e fr' h' B
  simp only [codeOk, Bool.and_eq_true] at D
  simp only [BW] at B
  split at B
  ·exact iha D.1 B
  ·exact ihb D.2 B
  ·cases B
 | block id c ih =>
  intro D fr h e fr' h' B
  simp only [codeOk] at D
  simp only [BW] at B
  split at B
  ·rename_i i fr1 h1 ha
   have hk := ih D ha
   cases N : Nat.beq i id <;> rw [N] at B <;> simp only [cond_true, cond_false, Option.some.injEq, Prod.mk.injEq] at B <;> obtain ⟨_, rfl, rfl⟩ := B <;> exact hk
  ·exact ih D B
 | loop c ih =>
  intro D fr h e fr' h' B
  simp only [codeOk] at D
  simp only [BW] at B
  split at B
  ·rename_i fr1 h1 ha
   obtain ⟨k1, k2⟩ := ih D ha
   obtain ⟨k3, k4⟩ := L.keeps g f c fr1 h1 e fr' h' D B
   exact ⟨k1.trans k3, k4.trans k2⟩
  ·exact ih D B
 | scope c ih =>
  intro D fr h e fr' h' B
  simp only [codeOk] at D
  simp only [BW] at B
  exact ih D B
theorem Ju.trans {P : Program} {w0 : World} {mS m m1 : BK} {k k1 : Nat} {e : B2} {fr' : Fr} {h' : AF} {Q : Exit → Act → World → Prop} (T : Ju P w0 mS m k e fr' h' Q) (hk : k ≤ k1) (h1 : m.ext k m1) : Ju P w0 mS m1 k1 e fr' h' Q :=
 fun m' a' w' g1 g2 g3 g4 => T m' a' w' (h1.trans g1 hk) g2 g3 g4
theorem Ey {P : Program} {f : FuncId} {fn : Func} {c : Code} (H : P.funcs[f]? = some fn) (hn : (fn.name == "runtime.NumGoroutine") = false) (N : fn.body = some c) (args : Array Value) (w : World) :
  (callFunc f args).run P w = .ok (.enter f args) w := by
 unfold callFunc
 simp only [Sem.run_bind, program, Sem.run, Result.andThen_ok, H]
 simp [hn, N]
theorem QX (w : World) (g : Nat) (o : Obj) : Dq w (w.putObj g o) g := ⟨rfl, rfl, rfl, by simp [World.putObj], fun k hk U => by simp [World.putObj, Ne.symm U]⟩
theorem Fb (Y : G2 C) (L : Es C n S) {f : FuncId} {g : Gd} : ∀ (c : Code), codeOk C f c = true → ∀ {fr : Fr} {h : AF} {e : B2} {fr' : Fr} {h' : AF}, BW C S f g c fr h = some (e, fr', h') →
  ∀ {w0 : World} {mS m : BK} {w : World} {a : Act} {Q : Exit → Act → World → Prop}, Bt C.Ca w0 → Rel C.P w0 m h w → FR m fr a → Mk mS m a.defers → Ju C.P w0 mS m h.size e fr' h' Q → ∀ rd : Option Nat, rd = none ∨ HE c = true → c.wpIn (FW rd) 0 C.P Q a w := by
 intro c
 induction c with
 | skip => intro _ fr h e fr' h' B w0 mS m w a Q J r H G T rd O; simp only [BW, Option.some.injEq, Prod.mk.injEq] at B; obtain ⟨rfl, rfl, rfl⟩ := B; exact wpIn_skip (T m a w (BK.ext.refl _ _) r H G)
 | label l => intro _ fr h e fr' h' B w0 mS m w a Q J r H G T rd O; simp only [BW, Option.some.injEq, Prod.mk.injEq] at B; obtain ⟨rfl, rfl, rfl⟩ := B; exact wpIn_label (T m a w (BK.ext.refl _ _) r H G)
 | exit id => intro _ fr h e fr' h' B w0 mS m w a Q J r H G T rd O; simp only [BW, Option.some.injEq, Prod.mk.injEq] at B; obtain ⟨rfl, rfl, rfl⟩ := B; exact wpIn_exit (T m a w (BK.ext.refl _ _) r H G)
 | ret => intro _ fr h e fr' h' B w0 mS m w a Q J r H G T rd O; simp only [BW, Option.some.injEq, Prod.mk.injEq] at B; obtain ⟨rfl, rfl, rfl⟩ := B; exact wpIn_ret (T m a w (BK.ext.refl _ _) r H G)
 | goto l => intro _ fr h e fr' h' B; simp [BW] at B
 | refuse s => intro _ fr h e fr' h' B; simp [BW] at B
 | rangeFunc x ps ca cb iha ihb => intro _ fr h e fr' h' B; simp [BW] at B
 | region id ops draw =>
  intro D fr h e fr' h' B w0 mS m w a Q J r H G T rd O
  simp only [BW] at B
  cases draw with
  | true =>
   simp only [cond_true] at B
   split at B
   ·rename_i fr1 h1 W
    simp only [Option.some.injEq, Prod.mk.injEq] at B
    obtain ⟨rfl, rfl, rfl⟩ := B
    exact OW Y.mix (by simpa [codeOk] using D) L.sub J r H W (fun m' a' w' g1 g2 g3 g4 => T m' a' w' g1 g2 g3 (by rw [g4]; exact G.ext g1)) rd
   ·cases B
  | false =>
   simp only [cond_false] at B
   split at B
   ·rename_i fr1 h1 W
    simp only [Option.some.injEq, Prod.mk.injEq] at B
    obtain ⟨rfl, rfl, rfl⟩ := B
    exact wpIn_region_list (Eb L.sub J _ r H W (fun m' a' w' g1 g2 g3 g4 => T m' a' w' g1 g2 g3 (by rw [g4]; exact G.ext g1)) rd)
   ·cases B
 | seq x y iha ihb =>
  intro D fr h e fr' h' B w0 mS m w a Q J r H G T rd O
  simp only [codeOk, Bool.and_eq_true] at D
  simp only [BW] at B
  split at B
  ·rename_i fr1 h1 ha
   have hk := (DE L x D.1 ha).1
   refine wpIn_seq (iha D.1 ha J r H G (fun m1 a1 w1 g1 g2 g3 g4 => ?_) rd (O.imp (fun h => h) fun h => by simp only [HE, Bool.and_eq_true] at h; exact h.1))
   exact ihb D.2 B J g2 g3 g4 (T.trans hk.1 g1) rd (O.imp (fun h => h) fun h => by simp only [HE, Bool.and_eq_true] at h; exact h.2)
  ·rename_i U
   refine wpIn_seq (iha D.1 B J r H G (fun m1 a1 w1 g1 g2 g3 g4 => ?_) rd (O.imp (fun h => h) fun h => by simp only [HE, Bool.and_eq_true] at h; exact h.1))
   have hq := T m1 a1 w1 g1 g2 g3 g4
   cases e with
   | normal => exact absurd B (U _ _)
   | exit id => exact hq
   | ret => exact hq
 | cond c x y iha ihb =>
  intro D fr h e fr' h' B w0 mS m w a Q J r H G T rd O
  simp only [codeOk, Bool.and_eq_true] at D
  simp only [BW] at B
  have I := H.ev c
  split at B
  ·rename_i hc; rw [hc] at I; exact wpIn_cond_true I.I3 (iha D.1 B J r H G T rd (O.imp (fun h => h) fun h => by simp only [HE, Bool.and_eq_true] at h; exact h.1))
  ·rename_i hc; rw [hc] at I; exact wpIn_cond_false I.I3 (ihb D.2 B J r H G T rd (O.imp (fun h => h) fun h => by simp only [HE, Bool.and_eq_true] at h; exact h.2))
  ·cases B
 | block id c ih =>
  intro D fr h e fr' h' B w0 mS m w a Q J r H G T rd O
  simp only [codeOk] at D
  simp only [BW] at B
  split at B
  ·rename_i i fr1 h1 ha
   refine wpIn_block (ih D ha J r H G (fun m1 a1 w1 g1 g2 g3 g4 => ?_) rd (O.imp (fun h => h) fun h => by simpa [HE] using h))
   show (if i = id then Q .normal a1 w1 else Q (.exit i) a1 w1)
   cases N : Nat.beq i id with
   | true =>
    rw [N] at B
    simp only [cond_true, Option.some.injEq, Prod.mk.injEq] at B
    obtain ⟨rfl, rfl, rfl⟩ := B
    rw [if_pos (Nat.eq_of_beq_eq_true N)]
    exact T m1 a1 w1 g1 g2 g3 g4
   | false =>
    rw [N] at B
    simp only [cond_false, Option.some.injEq, Prod.mk.injEq] at B
    obtain ⟨rfl, rfl, rfl⟩ := B
    rw [if_neg (fun e => by rw [e, Nat.beq_refl] at N; cases N)]
    exact T m1 a1 w1 g1 g2 g3 g4
  ·rename_i U
   refine wpIn_block (ih D B J r H G (fun m1 a1 w1 g1 g2 g3 g4 => ?_) rd (O.imp (fun h => h) fun h => by simpa [HE] using h))
   have hq := T m1 a1 w1 g1 g2 g3 g4
   cases e with
   | normal => exact hq
   | exit i => exact absurd B (U _ _ _)
   | ret => exact hq
 | loop c ih =>
  intro D fr h e fr' h' B w0 mS m w a Q J r H G T rd O
  simp only [codeOk] at D
  simp only [BW] at B
  have hrd' : rd = none ∨ HE c = true := O.imp (fun h => h) fun h => by simpa [HE] using h
  refine wpIn_loop_rounds (n + 1) ?_
  rw [roundsIn_succ]
  split at B
  ·rename_i fr1 h1 ha
   have hk := (DE L c D ha).1
   refine ih D ha J r H G (fun m1 a1 w1 g1 g2 g3 g4 => ?_) rd hrd'
   exact L.loop g f c fr1 h1 e fr' h' D B w0 mS m1 w1 a1 Q J g2 g3 g4 (T.trans hk.1 g1) rd hrd'
  ·rename_i U
   refine ih D B J r H G (fun m1 a1 w1 g1 g2 g3 g4 => ?_) rd hrd'
   have hq := T m1 a1 w1 g1 g2 g3 g4
   cases e with
   | normal => exact absurd B (U _ _)
   | exit id => exact hq
   | ret => exact hq
 | scope c ih =>
  intro D fr h e fr' h' B w0 mS m w a Q J r H G T rd O
  simp only [codeOk] at D
  simp only [BW] at B
  refine Ri (ih D B J r H G (fun m1 a1 w1 g1 g2 g3 g4 => ?_) rd (O.imp (fun h => h) fun h => by simpa [HE] using h))
  have hq := T m1 a1 w1 g1 g2 g3 g4
  cases e with
  | normal => exact hq
  | exit i => exact hq
  | ret => exact hq
theorem Po (Y : G2 C) (L : Es C n S) {f : FuncId} {g : Gd} {c : Code} (D : codeOk C f c = true) {fr : Fr} {h : AF} {e : B2} {fr' : Fr} {h' : AF} (B : BW C S f g (.loop c) fr h = some (e, fr', h'))
  {w0 : World} {mS m : BK} {w : World} {a : Act} {Q : Exit → Act → World → Prop} (J : Bt C.Ca w0) (r : Rel C.P w0 m h w) (H : FR m fr a) (G : Mk mS m a.defers) (T : Ju C.P w0 mS m h.size e fr' h' Q) (rd : Option Nat) (O : rd = none ∨ HE c = true) : Code.roundsIn (FW rd) 0 C.P c Q (n + 1) a w := by
 simp only [BW] at B
 rw [roundsIn_succ]
 split at B
 ·rename_i fr1 h1 ha
  have hk := (DE L c D ha).1
  refine Fb Y L c D ha J r H G (fun m1 a1 w1 g1 g2 g3 g4 => ?_) rd O
  exact L.loop g f c fr1 h1 e fr' h' D B w0 mS m1 w1 a1 Q J g2 g3 g4 (T.trans hk.1 g1) rd O
 ·rename_i U
  refine Fb Y L c D B J r H G (fun m1 a1 w1 g1 g2 g3 g4 => ?_) rd O
  have hq := T m1 a1 w1 g1 g2 g3 g4
  cases e with
  | normal => exact absurd B (U _ _)
  | exit id => exact hq
  | ret => exact hq
theorem PU : R6 C.P C.Ca (Uh C S) := fun g h l args v h' W => by cases W
theorem OY {P : Program} {w0 : World} {m : BK} {h : AF} {w : World} (r : Rel P w0 m h w) {fr : Fr} {a : Act} (H : FR m fr a) {x : ResultVar} {v : AB} (B : GS P fr h x = some v) :
  ∃ v', (match x with | .tmp t => pure (a.tmps.getD t undef) | .cell c t => do loadVar t (← asAddr (a.tmps.getD c undef)) : Sem Value).run P w = .ok v' w ∧ VR m v v' := by
 cases x with
 | tmp t => simp only [GS, Option.some.injEq] at B; subst B; exact ⟨_, rfl, H.2 t⟩
 | cell c t =>
  simp only [GS] at B
  split at B
  ·rename_i id o hc
   have I := H.2 c
   rw [hc] at I
   generalize hq : a.tmps.getD c undef = q at I
   cases I with
   | ptr _ _ E hE =>
    obtain ⟨v', h1, h2⟩ := KH r hE B
    exact ⟨v', by simp [hq, asAddr, h1], h2⟩
  ·cases B
theorem Ll {P : Program} {w0 : World} {m : BK} {h : AF} {w : World} (r : Rel P w0 m h w) {fr : Fr} {a : Act} (H : FR m fr a) : ∀ (l : List ResultVar) (vs : List AB), l.mapM (GS P fr h) = some vs →
  ∃ vs', (l.mapM (fun | .tmp t => pure (a.tmps.getD t undef) | .cell c t => do loadVar t (← asAddr (a.tmps.getD c undef)) : ResultVar → Sem Value)).run P w = .ok vs' w ∧ CS m vs vs'
 | [], vs, V => by simp at V; subst V; exact ⟨[], by simp, .nil m⟩
 | x :: l, vs, V => by
  rw [List.mapM_cons] at V
  simp only [bind, Option.bind_eq_some_iff, pure, Option.some.injEq] at V
  obtain ⟨v, I, us, hus, rfl⟩ := V
  obtain ⟨v', h1, h2⟩ := OY r H I
  obtain ⟨us', h3, h4⟩ := Ll r H l us hus
  refine ⟨v' :: us', ?_, .cons h2 h4⟩
  rw [List.mapM_cons]
  simp only [Sem.run_bind]
  cases x <;> simp only at h1 <;> rw [h1] <;> simp only [Result.andThen_ok, h3, Sem.run_pure]
theorem Fx {P : Program} {w0 : World} {m : BK} {h : AF} {w : World} (r : Rel P w0 m h w) {fn : Func} {fr : Fr} {a : Act} (H : FR m fr a) {v : AB} (B : Cw P fn fr h = some v) :
  ∃ v', (results fn a.tmps).run P w = .ok v' w ∧ VR m v v' := by
 unfold Cw at B
 have key : ∀ vs, fn.results.toList.mapM (GS P fr h) = some vs → ∃ vs', (results fn a.tmps).run P w = .ok (if hh : vs'.length = 1 then vs'[0] else .tuple vs'.toArray) w ∧ CS m vs vs' := by
  intro vs hvs
  obtain ⟨vs', h1, h2⟩ := Ll r H _ _ hvs
  refine ⟨vs', ?_, h2⟩
  unfold results
  rw [Array.mapM_eq_mapM_toList]
  simp only [Sem.run_bind, Sem.run_map]
  erw [h1]
  simp
 split at B
 ·rename_i u hu
  injection B with B
  subst B
  obtain ⟨vs', h1, h2⟩ := key _ hu
  have V : vs'.length = 1 := by rw [← h2.1]; rfl
  rw [dif_pos V] at h1
  exact ⟨_, h1, h2.2 0 u _ rfl (by simp [V])⟩
 ·rename_i us U hus
  injection B with B
  subst B
  obtain ⟨vs', h1, h2⟩ := key _ hus
  have V : ¬ vs'.length = 1 := by
   rw [← h2.1]
   intro V
   match us, V with
   | [u], _ => exact U u rfl
  rw [dif_neg V] at h1
  exact ⟨_, h1, CS.tuple (by simpa using h2)⟩
 ·cases B
theorem Fs {P : Program} {w0 : World} {h : AF} {fn : Func} {tmps : Array Value} {R : Ending → World → Prop} : ∀ (rs : List Nat), rs.Nodup → ∀ (m : BK) (w : World), Rel P w0 m h w → (∀ r ∈ rs, m.df r (.deferred (some []))) →
  (∀ (m' : BK) w', m'.i = m.i → m'.fz = m.fz → (∀ g x, m.df g x → g ∉ rs → m'.df g x) → Rel P w0 m' h w' → LeavesIn Fence.wide 0 P fn tmps R [] .returning w') → LeavesInM Fence.wide 0 P fn tmps R (rs.map mark) .returning w
 | [], _, m, w, r, _, hk => hk m w rfl rfl (fun _ _ h _ => h) r
 | r0 :: rs, hn, m, w, r, hd, hk => by
  obtain ⟨hn1, hn2⟩ := List.nodup_cons.1 hn
  have N := (r.df r0 _ (hd r0 (by simp))).2
  refine ⟨by simp, .inl ⟨r0, _, rfl, run_takeDeferred N, ?_⟩⟩
  have ht := QX w r0 (.deferred none)
  have r' : Rel P w0 ⟨m.i, m.fz, fun k x => m.df k x ∧ k ≠ r0⟩ h (w.putObj r0 (.deferred none)) := by
   refine ⟨ht.below r.below r.size (r.df r0 _ (hd r0 (by simp))).1, r.Mr, fun id E o hE Z => JJ.mono (m := m) ⟨fun _ _ h => h, fun _ _ _ h => h⟩ (fun V => ht.block _ ((r.obj id E o hE Z).lt V) fun e => ?_) (r.obj id E o hE Z), r.own, r.sep, fun g o v I => ?_, r.Ht, fun g x M => ⟨(r.df g x M.1).1, ?_⟩, fun id E o hE Z V x M => r.NA id E o hE Z V x M.1⟩
   ·exact r.NA id E o hE Z V _ (e ▸ hd r0 (by simp))
   ·obtain ⟨cur, e, z, h1, h2⟩ := r.fz g o v I
    refine ⟨cur, e, z, ?_, h2⟩
    rw [ht.block g (r.QK I) (fun e' => by subst e'; rw [N] at h1; cases h1)]
    exact h1
   ·rw [ht.block g (r.Mn M.1) M.2]; exact (r.df g x M.1).2
  refine Fs rs hn2 _ _ r' (fun k hk' => ⟨hd k (by simp [hk']), fun e => hn1 (e ▸ hk')⟩) fun m' w' e1 e2 e3 e4 => hk m' w' e1 e2 (fun g x M hno => e3 g x ⟨M, fun e => hno (by simp [e])⟩ fun hm => hno (by simp [hm])) e4
theorem GX (Y : G2 C) (L : Es C n S) {g : Gd} {h h' : AF} {f : FuncId} {args : List AB} {v : AB} (hk : C.kind f = 1 ∨ C.kind f = 2 ∨ C.kind f = 4 ∨ C.kind f = 7 ∨ C.kind f = 8 ∨ C.kind f = 9 ∨ C.kind f = 10 ∨ C.kind f = 11) (N : H7 C S g h f args = some (v, h')) :
  BF g h h' ∧ ∀ w0 m w (cargs : Array Value), Bt C.Ca w0 → Rel C.P w0 m h w → CS m args cargs.toList → Cb C.P f cargs w fun v' w' => ∃ m' : BK, (m.ext h.size m') ∧ Rel C.P w0 m' h' w' ∧ VR m' v v' := by
 unfold H7 at N
 split at N
 ·cases N
 ·rename_i fn hfn
  split at N
  ·cases N
  ·rename_i c hc
   obtain ⟨hn, D⟩ := Y.code f fn c hk hfn hc
   have main : ∀ e fr1 h1, e = B2.normal ∨ e = B2.ret → BW C S f g c (args ++ List.replicate (fn.ntmps - args.length) (.tuple [])) h = some (e, fr1, h1) → (Cw C.P fn fr1 h1).map (·, h1) = some (v, h') →
     BF g h h' ∧ ∀ w0 m w (cargs : Array Value), Bt C.Ca w0 → Rel C.P w0 m h w → CS m args cargs.toList → Cb C.P f cargs w fun v' w' => ∃ m' : BK, (m.ext h.size m') ∧ Rel C.P w0 m' h' w' ∧ VR m' v v' := by
    intro e fr1 h1 he B hres
    simp only [Option.map_eq_some_iff, Prod.mk.injEq] at hres
    obtain ⟨u, hu, rfl, rfl⟩ := hres
    refine ⟨(DE L c D B).1, fun w0 m w cargs J r I => ?_⟩
    unfold Cb
    rw [Ey hfn hn hc]
    simp only
    have hlen : args.length = cargs.size := by rw [I.1]; simp
    refine (callsIn_wide (n := 0)).1 (callsIn_of_wp_marks hfn hc trivial (Fb Y L c D B J r ⟨by simp [hlen], fun i => ?_⟩ (Mk.nil m) (fun m1 a1 w1 g1 g2 g3 g4 => ?_) none (.inl rfl)))
    ·rw [EW, List.getD_eq_getElem?_getD]
     simp only [Array.getD_eq_getD_getElem?]
     by_cases hi : i < args.length
     ·rw [List.getElem?_append_left hi, Array.getElem?_append_left (by omega)]
      rw [List.getElem?_eq_getElem hi, Array.getElem?_eq_getElem (by omega)]
      exact I.2 i _ _ (List.getElem?_eq_getElem hi) (by simp [← hlen, hi])
     ·rw [List.getElem?_append_right (by omega), Array.getElem?_append_right (by omega)]
      rw [List.getElem?_replicate, Array.getElem?_replicate, hlen]
      split
      ·exact VR.Eu m
      ·exact VR.Eu m
    ·have fin : LeavesInM Fence.wide 0 C.P fn a1.tmps (fun e w' => ∃ v', e = .returned v' ∧ ∃ m' : BK, (m.ext h.size m') ∧ Rel C.P w0 m' h1 w' ∧ VR m' u v') a1.defers .returning w1 := by
      obtain ⟨_, rs, e1, e2, e3⟩ := g4
      rw [e1]
      refine Fs rs e2 m1 w1 g2 (fun r W => (e3 r W).1) fun m2 w2 d1 d2 d3 d4 => ?_
      have hle : m1.le m2 := ⟨fun id E hE => by rw [d1]; exact hE, fun g o v I => by rw [d2]; exact I⟩
      obtain ⟨v', q1, q2⟩ := Fx d4 (g3.mono hle) hu
      exact ⟨v', q1, v', rfl, m2, ⟨fun id hid => by rw [d1]; exact g1.i id hid, fun g o v I => by rw [d2]; exact g1.fz g o v I, fun g x M => d3 g x (g1.df g x M) fun hm => (e3 g hm).2 x M⟩, d4, q2⟩
     rcases he with rfl | rfl
     ·exact fin
     ·exact fin
   split at N
   ·rename_i fr1 h1 B; exact main .normal fr1 h1 (.inl rfl) B N
   ·rename_i fr1 h1 B; exact main .ret fr1 h1 (.inr rfl) B N
   ·cases N
theorem O7 (L : Es C n S) {f : FuncId} {q : QW} (D : codeOk C f q.body = true) {ks rs : List Nat} {it : Nat} {tI te : Tmp} {rest : List Oper} {hh : AF} {ob : Oq} {σ : Fr × List AB} {p : AB × AB} {x : Bool × Fr × List AB} (B : I1 C S f q ks rs it tI te rest hh ob σ p = some x) : x.2.1.length = σ.1.length := by
 unfold I1 at B
 split at B
 ·rename_i fr2 h2 W
  have k1 := (DT L.sub _ W).2
  rw [List.length_set] at k1
  split at B
  ·rename_i fr h3 he
   have k2 := (DE L _ D he).2
   rw [(IF (Jz B).2).2.2.1, Cr, k2, k1]
  ·rename_i i fr h3 he
   have k2 := (DE L _ D he).2
   rw [(IF (Jz B).2).2.2.1, Cr, k2, k1]
  ·rename_i fr h3 he
   have k2 := (DE L _ D he).2
   rw [(IF B).2.2.1, Cr, k2, k1]
  ·cases B
 ·cases B
theorem LL {rnd : Fr × List AB → AB × AB → Option (Bool × Fr × List AB)} (W : ∀ {σ p x}, rnd σ p = some x → x.2.1.length = σ.1.length) : ∀ (l : List (AB × AB)) {σ : Fr × List AB} {x : Bool × Fr × List AB}, DI rnd l σ = some x → x.2.1.length = σ.1.length
 | [], σ, x, h => by simp only [DI, Option.some.injEq] at h; rw [← h]
 | p :: l, σ, x, h => by
  simp only [DI] at h
  cases hp : rnd σ p with
  | none => rw [hp] at h; cases h
  | some y =>
   obtain ⟨b, z⟩ := y
   have := W hp
   cases b with
   | true => rw [hp] at h; cases h; exact this
   | false => rw [hp] at h; exact (LL W l h).trans this
structure ZB (C : E8) (S : Self) (f : FuncId) (q : QW) (g : Gd) (fr : Fr) (h : AF) (x : B2 × Fr × AF) (ks rs : List Nat) (orng : Oper) (fr1 : Fr) (h1 : AF) (tM : TypeId) (y : Operand) (tI : Tmp) (id : Nat) (kt et : TypeId) (tn te : Tmp) (rest : List Oper) (es : List (AB × AB)) (ob : Oq) (cs0 : List AB) (ret : Bool) (frE : Fr) (csE : List AB) : Prop where
 last : q.o8.toList = q.o8.toList.dropLast ++ [orng]
 pre : DM C S g q.o8 q.o8.toList.dropLast fr h = some (fr1, h1)
 op : orng.op = .range tM y
 dst : orng.dst = some tI
 gu : orng.guard = none
 ev : ev fr1 y = .map (some id)
 YF : C.P.underlying tM = some (.map kt et)
 nx : UG q.o9 tI q.tb = some tn
 en : UF q.P7 tI = some (te, rest)
 get : h1.get id = some (.map 2 es)
 may : g.may id = true
 ZE : SU g ob = true
 XW : ∀ id' gr, ob = some (id', gr) → h1.get id' = some (.cells gr 2 cs0)
 GV : (Dr ks 0 (fr1.set tI (.ptr (some (h1.size, 0))))).all (Hu (h1.size + 1)) = true
 TI : Lr h1.size (nth (Dr ks 0 (fr1.set tI (.ptr (some (h1.size, 0))))) tI) = true
 free : Nq ks fr1.length tn q.tb = true
 flat : cs0.all Ku = true
 fold : DI (I1 C S f q ks rs h1.size tI te rest ((h1.set id (.map 0 [])).push (.cells none 0 [])) ob) es (Dr ks 0 (fr1.set tI (.ptr (some (h1.size, 0)))), cs0) = some (ret, frE, csE)
 perm : C.dec.1 (∀ es', es'.Perm es → DI (I1 C S f q ks rs h1.size tI te rest ((h1.set id (.map 0 [])).push (.cells none 0 [])) ob) es' (Dr ks 0 (fr1.set tI (.ptr (some (h1.size, 0)))), cs0) = some (ret, frE, csE)) = true
 out : x = (bif ret then .ret else .normal, frE, DH ((h1.set id (.map 0 [])).push (.cells none 0 [])) ob csE)
theorem Us {h : AF} {fr : Fr} {ot : Option Tmp} {ob : Oq} {cs : List AB} (B : Q2 h fr ot = some (ob, cs)) : ∀ id gr, ob = some (id, gr) → h.get id = some (.cells gr 2 cs) := by
 unfold Q2 at B
 split at B
 ·cases B; intro _ _ e; cases e
 ·split at B
  ·split at B
   ·rename_i M
    cases B
    intro _ _ e
    cases e
    exact M
   ·cases B
  ·cases B
theorem QN {f : FuncId} {q : QW} {g : Gd} {fr : Fr} {h : AF} {x : B2 × Fr × AF} (B : LW C S f q g fr h = some x) : ∃ ks rs orng fr1 h1 tM y tI id kt et tn te rest es ob cs0 ret frE csE, ZB C S f q g fr h x ks rs orng fr1 h1 tM y tI id kt et tn te rest es ob cs0 ret frE csE := by
 unfold LW at B
 split at B
 rotate_left
 ·cases B
 rename_i ks rs ot orng fr1 h1 hmk hlast hpre
 unfold MX at B
 split at B
 rotate_left
 ·cases B
 rename_i tM y tI hop hdst hgu
 split at B
 rotate_left
 ·cases B
 rename_i id kt et tn te rest hev hund hnx hen
 split at B
 rotate_left
 ·cases B
 rename_i es ob cs0 hget hobj
 cases hc : (g.may id && SU g ob && (Dr ks 0 (fr1.set tI (.ptr (some (h1.size, 0))))).all (Hu (h1.size + 1)) && Lr h1.size (nth (Dr ks 0 (fr1.set tI (.ptr (some (h1.size, 0))))) tI) && Nq ks fr1.length tn q.tb && cs0.all Ku) with
 | false => rw [hc] at B; cases B
 | true =>
  rw [hc] at B
  simp only [cond_true] at B
  simp only [Bool.and_eq_true] at hc
  obtain ⟨⟨⟨⟨⟨c1, c2⟩, c3⟩, c4⟩, c5⟩, c6⟩ := hc
  unfold Oo at B
  split at B
  ·rename_i ret frE csE hfold
   ·obtain ⟨hd, B⟩ := Jz B
    cases B
    exact ⟨ks, rs, orng, fr1, h1, tM, y, tI, id, kt, et, tn, te, rest, es, ob, cs0, ret, frE, csE, ⟨N7 hlast, hpre, hop, hdst, hgu, hev, hund, hnx, hen, hget, c1, c2, Us hobj, c3, c4, c5, c6, hfold, hd, rfl⟩⟩
  ·cases B
theorem QO (L : Es C n S) {f : FuncId} {q : QW} {g : Gd} (D : codeOk C f q.body = true) {fr : Fr} {h : AF} {e : B2} {fr' : Fr} {h' : AF} (B : LW C S f q g fr h = some (e, fr', h')) : BF g h h' ∧ fr'.length = fr.length := by
 obtain ⟨ks, rs, orng, fr1, h1, tM, y, tI, id, kt, et, tn, te, rest, es, ob, cs0, ret, frE, csE, k⟩ := QN B
 have Z := k.out
 injection Z with e1 Z
 injection Z with e2 e3
 obtain ⟨k1, k2⟩ := DT L.sub _ k.pre
 have V := LL (fun W => O7 L D W) _ k.fold
 simp only [Cr, List.length_set] at V
 refine ⟨?_, by rw [e2, V, k2]⟩
 have k3 : BF g h1 ((h1.set id (.map 0 [])).push (.cells none 0 [])) := (BF.set k.get k.may).trans (BF.push _ _ _)
 rw [e3]
 refine (k1.trans k3).trans ?_
 cases ob with
 | none => exact BF.refl _ _
 | some p =>
  obtain ⟨XW, gr⟩ := p
  have M := k.XW XW gr rfl
  refine BF.set (o' := .cells gr 2 cs0) ?_ k.ZE
  have U : XW ≠ id := by
   intro e
   subst e
   have := k.get.symm.trans M
   cases this
  rw [AF.B1 _ _ (by simpa using h1.BV M), AF.Bc _ _ (h1.BV k.get) U]
  exact M
open Go.ChangeMaps in
theorem Qq (Y : G2 C) (L : Es C n S) {f : FuncId} {g : Gd} {c : Code} {q : QW} (hc : ON c = some q) (D : codeOk C f q.body = true) {fr : Fr} {h : AF} {e : B2} {fr' : Fr} {h' : AF} (B : LW C S f q g fr h = some (e, fr', h'))
  {w0 : World} {mS m : BK} {w : World} {a : Act} {Q : Exit → Act → World → Prop} (J : Bt C.Ca w0) (r : Rel C.P w0 m h w) (H : FR m fr a) (G : Mk mS m a.defers) (T : Ju C.P w0 mS m h.size e fr' h' Q) : c.wpIn (FW none) 0 C.P Q a w := by
 obtain ⟨hbb, i8, i9, i10, rfl⟩ := Pp hc
 obtain ⟨ks, rs, orng, fr1, h1, tM, y, tI, id, kt, et, tn, te, rest, es, ob, cs0, ret, frE, csE, MK⟩ := QN B
 have hout := MK.out
 injection hout with oe hout
 injection hout with ofr oh
 have hperm := C.dec.2.1 _ MK.perm
 have hksz := (DT L.sub _ MK.pre).1.1
 have hlen1 := (DT L.sub _ MK.pre).2
 obtain ⟨hh, hhe⟩ : ∃ hh, hh = (h1.set id (.map 0 [])).push (.cells none 0 []) := ⟨_, rfl⟩
 have hhsz : hh.size = h1.size + 1 := by rw [hhe]; simp
 obtain ⟨rnd, hrnd⟩ : ∃ rnd, rnd = I1 C S f q ks rs h1.size tI te rest hh ob := ⟨_, rfl⟩
 rw [← hhe, ← hrnd] at hperm
 rw [← hhe] at oh
 have hobl : ∀ id' gr, ob = some (id', gr) → id' < hh.size := fun id' gr e => by have := h1.BV (MK.XW id' gr e); omega
 obtain ⟨nx, ex, hl9, nop, ndst, ngu, xop, xdst, xgu, hne1, hne2⟩ := VP MK.nx
 obtain ⟨en, hl10, eop, edst, egu⟩ := SA MK.en
 refine wpIn_seq (wpIn_region_list ?_)
 rw [MK.last]
 refine J9 L.sub J _ r H MK.pre none (fun m1 a1 w1 g1 g2 g3 g4 => ?_)
 have hk1 : Mk mS m1 a1.defers := by rw [g4]; exact G.ext g1
 have hvx := g3.ev y
 rw [MK.ev] at hvx
 generalize hqx : a1.eval y = vx at hvx
 cases hvx with
 | map _ E1 hE1 =>
  obtain ⟨hEb, hmo⟩ := g2.obj id E1 _ hE1 MK.get
  obtain ⟨ents, clock, p1, p2, p3, p4⟩ := J6.two (hmo (by decide)) (by decide)
  have hEg0 := g2.own id E1 _ hE1 MK.get rfl
  have hrng := run_range_map (P := C.P) w1 tM kt et E1.g ents clock MK.YF p1
  refine wpListIn_plain MK.gu fun K' hK => MT (v := .pointer (some ⟨w1.heap.size, 0, none⟩)) (w' := w1.alloc (.mapIter (some E1.g) clock #[] clock)) (by rw [MK.op]; intro c hc; cases hc) (by
   unfold execOp
   rw [MK.op]
   simp only [hqx, Sem.run_bind, hrng, Result.andThen_ok, Sem.run_pure]) none (hK _ _ ?_)
  obtain ⟨it, hit⟩ : ∃ it, it = w1.heap.size := ⟨_, rfl⟩
  obtain ⟨m2, hm2⟩ : ∃ m2, m2 = m1.upd h1.size ⟨it, 0, H4 C.P none, 0⟩ := ⟨_, rfl⟩
  have hEg : E1.g < it := by rw [hit]; exact (Array.getElem?_eq_some_iff.1 p1).1
  have hle12 : m1.le m2 := by rw [hm2]; exact BK.LP _ (g2.fresh (Nat.le_refl _))
  have hd1 : Rel C.P w0 m1 (h1.set id (.map 0 [])) w1 := g2.dead MK.get rfl fun E hE => ⟨by
   have : E1 = E := Option.some.inj (hE1.symm.trans hE)
   rw [← this]; exact hEb, fun U => absurd rfl U⟩
  have r2 : Rel C.P w0 m2 hh (w1.alloc (.mapIter (some E1.g) clock #[] clock)) := by
   rw [hm2, hhe]
   exact hd1.new (Dq.alloc _ _ _) hit ⟨⟨⟨rfl, fun _ => VB.nil⟩, fun _ h => by cases h⟩, fun h => absurd rfl h⟩
  have m2i : m2.i h1.size = some ⟨it, 0, H4 C.P none, 0⟩ := by rw [hm2]; exact BK.EU _ _ _
  have m2df : ∀ g x, m2.df g x → m1.df g x := fun g x M => by rw [hm2] at M; exact M
  have dfit : ∀ g x, m2.df g x → g ≠ it ∧ g ≠ E1.g := fun g x M => ⟨by have := g2.Mn (m2df g x M); omega, fun e => g2.NA id E1 _ hE1 MK.get rfl x (e ▸ m2df g x M)⟩
  have hext2 : m.ext h.size m2 := by rw [hm2]; exact g1.trans (BK.JE _ _ (Nat.le_refl _)) hksz
  have hhget : ∀ i o, hh.get i = some o → o.live = true → i < h1.size ∧ i ≠ id ∧ h1.get i = some o := fun i o Z V => by
   rw [hhe, AF.Hq] at Z
   split at Z
   ·cases Z; cases V
   ·rw [AF.G7 _ _ _ _ (h1.BV MK.get)] at Z
    split at Z
    ·cases Z; cases V
    ·rename_i h2
     exact ⟨h1.BV Z, h2, Z⟩
  have hhob : ∀ id' gr, ob = some (id', gr) → hh.get id' = some (.cells gr 2 cs0) := fun id' gr e => by
   have M := MK.XW id' gr e
   have U : id' ≠ id := by
    intro e
    subst e
    have := MK.get.symm.trans M
    cases this
   rw [hhe, AF.B1 _ _ (by simpa using h1.BV M), AF.Bc _ _ (h1.BV MK.get) U]
   exact M
  have hh0 : ∀ i, (DH hh ob cs0).get i = hh.get i := fun i => by
   cases ob with
   | none => rfl
   | some p =>
    obtain ⟨id', gr⟩ := p
    show (hh.set id' _).get i = _
    by_cases e : i = id'
    ·subst e
     rw [AF.get_set_same _ _ (hobl _ _ rfl), hhob _ _ rfl]
    ·rw [AF.Bc _ _ (hobl _ _ rfl) e]
  have r2' : Rel C.P w0 m2 (DH hh ob cs0) (w1.alloc (.mapIter (some E1.g) clock #[] clock)) := r2.same (Gq _ _ _) hh0
  have hitB : w0.heap.size ≤ it := by rw [hit]; exact g2.size
  obtain ⟨σ0, hσ0⟩ : ∃ σ0 : Fr × List AB, σ0 = (Dr ks 0 (fr1.set tI (.ptr (some (h1.size, 0)))), cs0) := ⟨_, rfl⟩
  rw [← hσ0] at hperm
  have hfree := MK.free
  simp only [Nq, Bool.and_eq_true, Bool.not_eq_true', Nat.blt_eq] at hfree
  obtain ⟨⟨⟨fr1n, fr2n⟩, htn⟩, htb⟩ := hfree
  have nl2 : ∀ i F o, m2.i i = some F → hh.get i = some o → o.live = true → F.g ≠ it ∧ F.g ≠ E1.g := fun i F o hF Z V => by
   obtain ⟨q1, q2, q3⟩ := hhget i o Z V
   have hF' : m1.i i = some F := by rw [hm2, BK.No _ _ (by omega)] at hF; exact hF
   exact ⟨by have := (g2.obj i F o hF' q3).lt V; omega, fun e => g2.sep id i E1 F _ o (fun e => q2 e.symm) hE1 hF' MK.get q3 rfl V e.symm⟩
  obtain ⟨a2, ha2⟩ : ∃ a2, a2 = a1.put orng.dst (.pointer (some ⟨w1.heap.size, 0, none⟩)) := ⟨_, rfl⟩
  have f2 : FR m2 σ0.1 a2 := by
   have q1 : FR m2 (fr1.set tI (.ptr (some (h1.size, 0)))) a2 := by
    rw [ha2, MK.dst]
    have := FR.put (g3.mono hle12) (some tI) (x := .ptr (some (h1.size, 0))) (v := .pointer (some ⟨w1.heap.size, 0, none⟩)) (by
     have := VR.ptr (m := m2) h1.size 0 _ m2i
     rw [← hit]
     exact this)
    exact this
   rw [hσ0]
   exact q1.Dr ks
  have hd2 : a2.defers = a1.defers := by rw [ha2, DC]
  show ((Code.block q.b _).wpIn (FW none) 0 C.P Q _ _)
  rw [← ha2]
  have hst1 := p4.1
  have hst2 := p4.2.1
  have lenσ : ∀ l σ, DI rnd l σ0 = some (false, σ) → σ.1.length = fr1.length := fun l σ H => by
   have := LL (fun W => O7 L D W) l (by rw [hrnd] at H; exact H)
   rw [hσ0] at this
   simpa [Cr] using this
  refine wpIn_block (wpIn_loop (fun a w => ∃ (m' : BK) (vis : List Nat) (σ : Fr × List AB) (seen : Array Nat), m2.ext hh.size m' ∧ Rel C.P w0 m' (DH hh ob σ.2) w ∧ FR m' σ.1 a ∧ Mk mS m' a.defers ∧ (∀ g x, m'.df g x → g ≠ it ∧ g ≠ E1.g) ∧
    w.heap[E1.g]? = some (.map ents clock) ∧ w.heap[it]? = some (.mapIter (some E1.g) clock seen clock) ∧ vis.Nodup ∧ (∀ i ∈ vis, i < ents.size) ∧
    (∀ (i : Nat) (en : MapEntry), ents[i]? = some en → (seen.contains en.born = true ↔ i ∈ vis)) ∧ DI rnd (vis.map (TI es)) σ0 = some (false, σ) ∧
    nth σ.1 tI = .ptr (some (h1.size, 0)) ∧ nth σ.1 tn = .undef ∧ nth σ.1 q.tb = .undef)
   (fun _ w => w.rangeLeft E1.g it) ⟨m2, [], σ0, #[], BK.ext.refl _ _, ?_, f2, ?_, dfit, ?_, ?_, List.nodup_nil, fun i hi => (by cases hi), fun i en hen => (by simp), rfl, ?_, ?_, ?_⟩ ?_)
  ·rw [hσ0]; exact r2'
  ·rw [hd2, hm2]; exact hk1.ext (BK.JE _ _ (Nat.le_refl _))
  ·rw [Below.heap_alloc w1 _ _ (by omega)]; exact p1
  ·rw [hit]; exact heap_alloc_new w1 _
  ·rw [hσ0]; exact PV MK.TI
  ·rw [hσ0]; exact KN (by simpa using htn) fr1n
  ·rw [hσ0]; exact KN (by simpa using htb) fr2n
  rintro aa ww ⟨m', vis, σ, seen, jx, rr, ff, jk, jd, hmp, hitr, vn, vl, vs, vf, sI, sn, sb⟩
  have hσl := lenσ _ _ vf
  have hsza : aa.tmps.size = fr1.length := by rw [← ff.1, hσl]
  have m'i : m'.i h1.size = some ⟨it, 0, H4 C.P none, 0⟩ := by rw [jx.i _ (by omega)]; exact m2i
  have hslot : aa.tmps.getD tI undef = .pointer (some ⟨it, 0, none⟩) := by
   have := ff.2 tI
   rw [sI] at this
   obtain ⟨E', hE', I⟩ := this.UU
   rw [m'i] at hE'
   cases hE'
   exact I
  have heI : aa.eval (.tmp tI) = .pointer (some ⟨it, 0, none⟩) := hslot
  have hmsz := Gq hh ob σ.2
  have nl' : ∀ i F o, m'.i i = some F → (DH hh ob σ.2).get i = some o → o.live = true → F.g ≠ it ∧ F.g ≠ E1.g := fun i F o hF Z V => by
   obtain ⟨o', h1', h2'⟩ := QU (cs := cs0) hobl Z V
   rw [hh0] at h1'
   have hi := rr.Mr i F hF
   rw [hmsz] at hi
   exact nl2 i F o' (by rw [← jx.i i hi]; exact hF) h1' h2'
  have hfzit : ∀ g o v, m'.fz g o = some v → g ≠ it := fun g o v I e => by
   obtain ⟨cur, e', z, c1, _⟩ := rr.fz g o v I
   rw [e, hitr] at c1
   cases c1
  refine wpIn_seq (wpIn_region_list ?_)
  rw [hl9]
  rcases run_next_at (P := C.P) ww nx.type it E1.g clock clock seen ents clock hitr hmp hst1 (Nat.le_refl _) with ⟨h0, hrun⟩ | ⟨e0, he0, w3, hal, hrun⟩
  ·-- nothing is left
   refine wpListIn_plain ngu fun K hK => MT (v := .tuple #[.bool false]) (w' := ww) (by rw [nop]; intro c hc; cases hc) (by
    unfold execOp
    rw [nop]
    simp only [heI, Sem.run_bind, hrun, Result.andThen_ok, Sem.run_pure]) none (hK _ _ ?_)
   rw [ndst]
   have ff1 := ff.NF sn (.tuple #[.bool false])
   have hsn : (aa.put (some tn) (.tuple #[.bool false])).eval (.tmp tn) = .tuple #[.bool false] := GP (by rw [hsza]; exact htn)
   refine wpListIn_plain xgu fun K hK => MT (v := .bool false) (w' := ww) (by rw [xop]; intro c hc; cases hc) (by
    unfold execOp
    rw [xop]
    simp only [hsn, Sem.run_bind, Instr.extract]
    rfl) none (hK _ _ ?_)
   rw [xdst]
   have ff2 := ff1.NF sb (.bool false)
   refine wpIn_seq (wpIn_cond_false (GP (by rw [size_put, hsza]; exact htb)) (wpIn_exit ?_))
   show (if q.b = q.b then Q .normal _ ww else Q (.exit q.b) _ ww)
   rw [if_pos rfl]
   have hpv : vis.Perm (List.range es.length) := NU vn fun i => ⟨fun hi => by rw [p2]; exact vl i hi, fun hi => by
    have hi2 : i < ents.size := by rw [← p2]; exact hi
    exact (vs i _ (Array.getElem?_eq_getElem hi2)).1 (all_seen ents seen h0 _ (by simp))⟩
   have hfin := hperm _ ((hpv.map (TI es)).trans (by rw [SD]))
   rw [vf] at hfin
   simp only [Option.some.injEq, Prod.mk.injEq] at hfin
   obtain ⟨hret, hσe⟩ := hfin
   have hσ1 : σ.1 = frE := by rw [hσe]
   have hσ2 : σ.2 = csE := by rw [hσe]
   rw [hσ2] at rr
   have := T m' _ ww (hext2.trans jx (by omega)) (oh ▸ rr) (by rw [ofr, ← hσ1]; exact ff2) (by rw [DC, DC]; exact jk)
   rw [oe, ← hret] at this
   exact this
  ·-- one more
   obtain ⟨hmem, hns⟩ := mem_left he0
   obtain ⟨i0, hi0, hei0⟩ := List.mem_iff_getElem.1 hmem
   have hi0' : i0 < ents.size := by simpa using hi0
   have hent : ents[i0]? = some e0 := by rw [Array.getElem?_eq_getElem hi0']; exact congrArg some (by simpa using hei0)
   obtain ⟨⟨k, v⟩, hkv⟩ : ∃ p, es[i0]? = some p := ⟨_, List.getElem?_eq_getElem (by rw [p2]; exact hi0')⟩
   obtain ⟨hvk, hvv⟩ := p3 i0 k v e0 hkv hent
   have hatI : TI es i0 = (k, v) := by unfold Av.TI; rw [hkv]; rfl
   have hi0v : i0 ∉ vis := fun hi => by
    have := (vs i0 e0 hent).2 hi
    rw [hns] at this
    cases this
   obtain ⟨ww3, hww3⟩ : ∃ x, x = setBlock w3 it (.mapIter (some E1.g) clock (seen.push e0.born) clock) := ⟨_, rfl⟩
   rw [← hww3] at hrun
   have hitlt : it < ww.heap.size := (Array.getElem?_eq_some_iff.1 hitr).1
   have hheap : ww3.heap = ww.heap.setIfInBounds it (.mapIter (some E1.g) clock (seen.push e0.born) clock) := by
    rw [hww3]
    rcases hal with rfl | rfl <;> rfl
   have ht : Dq ww ww3 it := ⟨by rw [hww3]; rcases hal with rfl | rfl <;> rfl, by rw [hww3]; rcases hal with rfl | rfl <;> rfl, by rw [hww3]; rcases hal with rfl | rfl <;> rfl, by rw [hheap]; simp, fun k hk U => by rw [hheap]; simp [Array.getElem?_setIfInBounds_ne (Ne.symm U)]⟩
   have hit3 : ww3.heap[it]? = some (.mapIter (some E1.g) clock (seen.push e0.born) clock) := by
    rw [hheap]
    simp [hitlt]
   have hmp3 : ww3.heap[E1.g]? = some (.map ents clock) := by
    rw [ht.block _ (Array.getElem?_eq_some_iff.1 hmp).1 (by omega)]
    exact hmp
   have rr3 : Rel C.P w0 m' (DH hh ob σ.2) ww3 := rr.iter ht hitB (fun i F o hF Z V => (nl' i F o hF Z V).1) hfzit (fun g x M => (jd g x M).1)
   refine wpListIn_plain ngu fun K hK => MT (v := .tuple #[.bool true, e0.key, e0.val]) (w' := ww3) (by rw [nop]; intro c hc; cases hc) (by
    unfold execOp
    rw [nop]
    simp only [heI, Sem.run_bind, hrun, Result.andThen_ok, Sem.run_pure]) none (hK _ _ ?_)
   rw [ndst]
   have ff1 := ff.NF sn (.tuple #[.bool true, e0.key, e0.val])
   have hsn : (aa.put (some tn) (.tuple #[.bool true, e0.key, e0.val])).eval (.tmp tn) = .tuple #[.bool true, e0.key, e0.val] := GP (by rw [hsza]; exact htn)
   refine wpListIn_plain xgu fun K hK => MT (v := .bool true) (w' := ww3) (by rw [xop]; intro c hc; cases hc) (by
    unfold execOp
    rw [xop]
    simp only [hsn, Sem.run_bind, Instr.extract]
    rfl) none (hK _ _ ?_)
   rw [xdst]
   have ff2 := ff1.NF sb (.bool true)
   refine wpIn_seq (wpIn_cond_true (GP (by rw [size_put, hsza]; exact htb)) (wpIn_skip ?_))
   obtain ⟨a4, ha4⟩ : ∃ x, x = (aa.put (some tn) (.tuple #[.bool true, e0.key, e0.val])).put (some q.tb) (.bool true) := ⟨_, rfl⟩
   have hd4 : a4.defers = aa.defers := by rw [ha4, DC, DC]
   rw [← ha4] at ff2
   rw [← ha4]
   show (Code.block q.b2 _).wpIn _ _ _ _ _ _
   refine wpIn_block (wpIn_seq (wpIn_region_list ?_))
   rw [hl10]
   have heI4 : a4.eval (.tmp tI) = .pointer (some ⟨it, 0, none⟩) := by
    have := ff2.2 tI
    rw [sI] at this
    obtain ⟨E', hE', I⟩ := this.UU
    rw [m'i] at hE'
    cases hE'
    exact I
   have hent3 := run_entry_at (P := C.P) ww3 it E1.g clock seen ents clock e0 hit3 hmp3 hmem hst2
   refine wpListIn_plain egu fun K hK => MT (v := .tuple #[e0.key, e0.val]) (w' := ww3) (by rw [eop]; intro c hc; cases hc) (by
    unfold execOp
    rw [eop]
    simp only [heI4, Sem.run_bind, hent3, Result.andThen_ok, Sem.run_pure]) none (hK _ _ ?_)
   rw [edst]
   obtain ⟨mp, hmpd⟩ : ∃ mp : BK, mp = ⟨m'.i, m'.fz, fun k x => m'.df k x ∨ (k = it ∧ x = .mapIter (some E1.g) clock (seen.push e0.born) clock) ∨ (k = E1.g ∧ x = .map ents clock)⟩ := ⟨_, rfl⟩
   have rp : Rel C.P w0 mp (DH hh ob σ.2) ww3 := by
    rw [hmpd]
    refine rr3.Vs _ (fun g x M => ?_) (fun i F o hF Z V x M => ?_)
    ·rcases M with M | ⟨rfl, rfl⟩ | ⟨rfl, rfl⟩
     ·exact rr3.df g x M
     ·exact ⟨hitB, hit3⟩
     ·exact ⟨hEg0, hmp3⟩
    ·rcases M with M | ⟨e, _⟩ | ⟨e, _⟩
     ·exact rr3.NA i F o hF Z V x M
     ·exact (nl' i F o hF Z V).1 e
     ·exact (nl' i F o hF Z V).2 e
   have lep : m'.le mp := by rw [hmpd]; exact ⟨fun _ _ h => h, fun _ _ _ h => h⟩
   have le2 : m1.le mp := BK.le_trans (BK.le_trans hle12 (r2.Kz jx)) lep
   have ff5 : FR mp (σ.1.set te (.tuple [k, v])) (a4.put (some te) (.tuple #[e0.key, e0.val])) :=
    FR.put (ff2.mono lep) (some te) (CS.tuple (.cons (hvk.mono le2) (.cons (hvv.mono le2) (.nil _))))
   have mkp : Mk mS mp (a4.put (some te) (.tuple #[e0.key, e0.val])).defers := by
    rw [DC, hd4]
    obtain ⟨b1, rs', b2, b3, b4⟩ := jk
    exact ⟨fun g x M => by rw [hmpd]; exact .inl (b1 g x M), rs', b2, b3, fun r W => ⟨by rw [hmpd]; exact .inl (b4 r W).1, (b4 r W).2⟩⟩
   obtain ⟨os, hos⟩ := S8 vn vl hi0' hi0v
   rw [← p2] at hos
   have hall := hperm _ ((hos.map (TI es)).trans (by rw [SD]))
   rw [List.map_append, LG _ _ vf, List.map_cons, hatI] at hall
   obtain ⟨X, hX⟩ : ∃ X, rnd σ (k, v) = some X := by
    cases hX : rnd σ (k, v) with
    | none => simp only [DI, hX] at hall; cases hall
    | some X => exact ⟨X, rfl⟩
   have hX0 := hX
   rw [hrnd] at hX
   unfold I1 at hX
   simp only at hX
   split at hX
   rotate_left
   ·cases hX
   rename_i fr5 h5 hro
   have hks5 := (DT L.sub _ hro).1
   refine Eb L.sub J _ rp ff5 hro (fun m5 a6 w6 k1 k2 k3 k4 => ?_) none
   cases hEx : BW C S f (MV hh.size ob) q.body fr5 h5 with
   | none => rw [hEx] at hX; cases hX
   | some r6 =>
    obtain ⟨e3, fr3, h3⟩ := r6
    have hks3 := (DE L _ D hEx).1
    show q.body.wpIn _ _ _ _ _ _
    refine Fb Y L q.body D hEx J k2 k3 (by rw [k4]; exact mkp.ext k1) (fun m7 a7 w7 l1 l2 l3 l4 => ?_) none (.inl rfl)
    have hksA := hks5.trans hks3
    have hx7 : mp.ext hh.size m7 := by rw [← hmsz]; exact k1.trans l1 hks5.1
    have hit7 : w7.heap[it]? = some (.mapIter (some E1.g) clock (seen.push e0.born) clock) := (l2.df it _ (hx7.df _ _ (by rw [hmpd]; exact .inr (.inl ⟨rfl, rfl⟩)))).2
    have hmp7 : w7.heap[E1.g]? = some (.map ents clock) := (l2.df E1.g _ (hx7.df _ _ (by rw [hmpd]; exact .inr (.inr ⟨rfl, rfl⟩)))).2
    have key : ∀ ks' (x : Bool × Fr × List AB), OK ks' hh.size ob fr3 h3 x.1 = some x → ∃ m9 : BK, m2.ext hh.size m9 ∧ Rel C.P w0 m9 (DH hh ob x.2.2) w7 ∧ FR m9 x.2.1 a7 ∧ Mk mS m9 a7.defers ∧ (∀ g x, m9.df g x → g ≠ it ∧ g ≠ E1.g) := by
     intro ks' x B
     obtain ⟨s1, s2, s3, s4⟩ := IF B
     obtain ⟨r8, _⟩ := VS hh hobl rp hx7 hksA s4 l2
     refine ⟨⟨(mp.with m7).i, (mp.with m7).fz, fun k x => m7.df k x ∧ k ≠ it ∧ k ≠ E1.g⟩, ⟨fun i hi => ?_, fun g o v I => ?_, fun g x M => ?_⟩, r8.Vs _ (fun g x M => r8.df g x M.1) (fun i F o hF Z V x M => r8.NA i F o hF Z V x M.1), ?_, ?_, fun g x M => M.2⟩
     ·show mp.i i = m2.i i
      rw [hmpd]
      exact jx.i i hi
     ·exact hx7.fz g o v (by rw [hmpd]; exact jx.fz g o v I)
     ·exact ⟨hx7.df g x (by rw [hmpd]; exact .inl (jx.df g x M)), dfit g x M⟩
     ·rw [s3]
      exact FR.Vs (m := mp.with m7) ((l3.Dr ks').GV (m := mp.with m7) (n := hh.size) (fun i hi => hx7.i i hi) s1) _
     ·obtain ⟨b1, rs', b2, b3, b4⟩ := l4
      have fromS : ∀ g x, mS.df g x → m2.df g x := fun g x M => by rw [hm2]; exact hk1.1 g x M
      refine ⟨fun g x M => ⟨b1 g x M, dfit g x (fromS g x M)⟩, rs', b2, b3, fun r W => ⟨⟨(b4 r W).1, fun e => ?_, fun e => ?_⟩, (b4 r W).2⟩⟩
      ·have := (l2.df r _ (b4 r W).1).2
       rw [e, hit7] at this
       cases this
      ·have := (l2.df r _ (b4 r W).1).2
       rw [e, hmp7] at this
       cases this
    have next : ∀ x : Bool × Fr × List AB, x.1 = false → OK ks hh.size ob fr3 h3 x.1 = some x → some X = some x → Lr h1.size (nth fr3 tI) = true →
      (∃ (m' : BK) (vis : List Nat) (σ : Fr × List AB) (seen : Array Nat), m2.ext hh.size m' ∧ Rel C.P w0 m' (DH hh ob σ.2) w7 ∧ FR m' σ.1 a7 ∧ Mk mS m' a7.defers ∧ (∀ g x, m'.df g x → g ≠ it ∧ g ≠ E1.g) ∧
    w7.heap[E1.g]? = some (.map ents clock) ∧ w7.heap[it]? = some (.mapIter (some E1.g) clock seen clock) ∧ vis.Nodup ∧ (∀ i ∈ vis, i < ents.size) ∧
    (∀ (i : Nat) (en : MapEntry), ents[i]? = some en → (seen.contains en.born = true ↔ i ∈ vis)) ∧ DI rnd (vis.map (Av.TI es)) σ0 = some (false, σ) ∧
    nth σ.1 tI = .ptr (some (h1.size, 0)) ∧ nth σ.1 tn = .undef ∧ nth σ.1 q.tb = .undef) ∧ w7.rangeLeft E1.g it < ww.rangeLeft E1.g it := by
     intro x hx1 B hXx hat
     obtain ⟨m9, n1, n2, n3, n4, n5⟩ := key ks x B
     obtain ⟨s1, s2, s3, s4⟩ := IF B
     have hl3 : fr3.length = fr1.length := by
      have e1 := (DE L _ D hEx).2
      have e2 := (DT L.sub _ hro).2
      rw [List.length_set] at e2
      omega
     have htI : tI < fr3.length := by
      have := MK.TI
      rcases Nat.lt_or_ge tI fr3.length with hlt | hge
      ·exact hlt
      ·have e := NX hge
       rw [e] at hat
       cases hat
     have hkI : ks.any (Nat.beq tI) = true := by
      have h0 := PV MK.TI
      cases hk : ks.any (Nat.beq tI) with
      | true => rfl
      | false =>
       rw [KN (by simpa [hl3] using htI) hk] at h0
       cases h0
     refine ⟨⟨m9, vis ++ [i0], x.2, seen.push e0.born, n1, n2, n3, n4, n5, hmp7, hit7, ?_, fun i hi => ?_, fun i en' hen' => ?_, ?_, ?_, ?_, ?_⟩, ?_⟩
     ·rw [List.nodup_append]
      exact ⟨vn, by simp, fun a ha b N e => by simp at N; subst N; subst e; exact hi0v ha⟩
     ·rcases List.mem_append.1 hi with hi | hi
      ·exact vl i hi
      ·simp at hi; subst hi; exact hi0'
     ·rw [contains_push, Bool.or_eq_true, List.mem_append, List.mem_singleton]
      constructor
      ·rintro (hc | hc)
       ·exact .inl ((vs i en' hen').1 hc)
       ·exact .inr (VU hst2 hen' hent (eq_of_beq hc))
      ·rintro (hc | rfl)
       ·exact .inl ((vs i en' hen').2 hc)
       ·rw [hent] at hen'
        cases hen'
        exact .inr (by simp)
     ·rw [List.map_append, LG _ _ vf, List.map_cons, hatI, List.map_nil]
      have : rnd σ (k, v) = some x := by rw [hX0]; exact hXx
      obtain ⟨x1, x2⟩ := x
      simp only at hx1
      subst hx1
      simp only [DI, this]
     ·rw [s3, Ir ks 0 fr3 tI htI, Nat.zero_add, hkI]
      exact PV hat
     ·rw [s3]; exact KN (by omega) fr1n
     ·rw [s3]; exact KN (by omega) fr2n
     ·have := left_shrinks ents seen e0 he0
      unfold World.rangeLeft
      rw [hmp7, hit7, hmp, hitr]
      exact this
    rw [hEx] at hX
    cases e3 with
    | normal =>
     simp only at hX
     cases hat : Lr h1.size (nth fr3 tI) with
     | false => rw [hat] at hX; cases hX
     | true =>
      rw [hat] at hX
      simp only [cond_true] at hX
      have hX1 := (IF hX).2.1
      exact next X hX1 (by rw [hX1]; exact hX) rfl hat
    | exit i =>
     simp only at hX
     cases hat : (Nat.beq i q.b2 && Lr h1.size (nth fr3 tI)) with
     | false => rw [hat] at hX; cases hX
     | true =>
      rw [hat] at hX
      simp only [cond_true] at hX
      simp only [Bool.and_eq_true] at hat
      have hX1 := (IF hX).2.1
      have := Nat.eq_of_beq_eq_true hat.1
      subst this
      show (if q.b2 = q.b2 then _ else _)
      rw [if_pos rfl]
      exact next X hX1 (by rw [hX1]; exact hX) rfl hat.2
    | ret =>
     simp only at hX
     have hX1 := (IF hX).2.1
     obtain ⟨m9, n1, n2, n3, n4, n5⟩ := key rs X (by rw [hX1]; exact hX)
     have hXt : rnd σ (k, v) = some (true, X.2) := by rw [hX0, ← hX1]
     simp only [DI, hXt, Option.some.injEq, Prod.mk.injEq] at hall
     obtain ⟨b1, b2⟩ := hall
     have e1 : X.2.1 = frE := by rw [b2]
     have e2 : X.2.2 = csE := by rw [b2]
     rw [e2] at n2
     rw [e1] at n3
     have := T m9 a7 w7 (hext2.trans n1 (by omega)) (oh ▸ n2) (by rw [ofr]; exact n3) n4
     rw [oe, ← b1] at this
     exact this
theorem Mt (L : Es C n S) {f : FuncId} {g : Gd} : ∀ (c : Code), codeOk C f c = true → ∀ {fr : Fr} {h : AF} {e : B2} {fr' : Fr} {h' : AF}, FA C S f g c fr h = some (e, fr', h') → BF g h h' ∧ fr'.length = fr.length := by
 intro c
 induction c with
 | seq a b iha ihb =>
  intro D fr h e fr' h' B
  simp only [FA] at B
  split at B
  ·rename_i q hq
   obtain ⟨_, i8, i9, i10, hc⟩ := Pp hq
   rw [hc] at D
   simp only [codeOk, Bool.and_eq_true] at D
   exact QO L D.2.2.2.2 B
  ·simp only [codeOk, Bool.and_eq_true] at D
   split at B
   ·rename_i fr1 h1 ha
    obtain ⟨k1, k2⟩ := iha D.1 ha
    obtain ⟨k3, k4⟩ := ihb D.2 B
    exact ⟨k1.trans k3, k4.trans k2⟩
   ·exact iha D.1 B
 | _ => intro D fr h e fr' h' B; simp only [FA] at B; exact DE L _ D B
theorem Ql (Y : G2 C) (L : Es C n S) {f : FuncId} {g : Gd} : ∀ (c : Code), codeOk C f c = true → ∀ {fr : Fr} {h : AF} {e : B2} {fr' : Fr} {h' : AF}, FA C S f g c fr h = some (e, fr', h') →
  ∀ {w0 : World} {mS m : BK} {w : World} {a : Act} {Q : Exit → Act → World → Prop}, Bt C.Ca w0 → Rel C.P w0 m h w → FR m fr a → Mk mS m a.defers → Ju C.P w0 mS m h.size e fr' h' Q → c.wpIn (FW none) 0 C.P Q a w := by
 intro c
 induction c with
 | seq x y iha ihb =>
  intro D fr h e fr' h' B w0 mS m w a Q J r H G T
  simp only [FA] at B
  split at B
  ·rename_i q hq
   have hok' := D
   obtain ⟨_, i8, i9, i10, hc⟩ := Pp hq
   rw [hc] at hok'
   simp only [codeOk, Bool.and_eq_true] at hok'
   exact Qq Y L hq hok'.2.2.2.2 B J r H G T
  ·simp only [codeOk, Bool.and_eq_true] at D
   split at B
   ·rename_i fr1 h1 ha
    have hk := (Mt L x D.1 ha).1
    refine wpIn_seq (iha D.1 ha J r H G (fun m1 a1 w1 g1 g2 g3 g4 => ?_))
    exact ihb D.2 B J g2 g3 g4 (T.trans hk.1 g1)
   ·rename_i U
    refine wpIn_seq (iha D.1 B J r H G (fun m1 a1 w1 g1 g2 g3 g4 => ?_))
    have hq := T m1 a1 w1 g1 g2 g3 g4
    cases e with
    | normal => exact absurd B (U _ _)
    | exit id => exact hq
    | ret => exact hq
 | _ => intro D fr h e fr' h' B w0 mS m w a Q J r H G T; simp only [FA] at B; exact Fb Y L _ D B J r H G T none (.inl rfl)
theorem Qo (Y : G2 C) (L : Es C n S) {g : Gd} {h h' : AF} {f : FuncId} {args : List AB} {v : AB} (hk : C.kind f = 10) (N : NO C S g h f args = some (v, h')) :
  BF g h h' ∧ ∀ w0 m w (cargs : Array Value), Bt C.Ca w0 → Rel C.P w0 m h w → CS m args cargs.toList → Cb C.P f cargs w fun v' w' => ∃ m' : BK, (m.ext h.size m') ∧ Rel C.P w0 m' h' w' ∧ VR m' v v' := by
 unfold NO at N
 split at N
 ·cases N
 ·rename_i fn hfn
  split at N
  ·cases N
  ·rename_i c hc
   obtain ⟨hn, D⟩ := Y.code f fn c (by omega) hfn hc
   have main : ∀ e fr1 h1, e = B2.normal ∨ e = B2.ret → FA C S f g c (args ++ List.replicate (fn.ntmps - args.length) (.tuple [])) h = some (e, fr1, h1) → (Cw C.P fn fr1 h1).map (·, h1) = some (v, h') →
     BF g h h' ∧ ∀ w0 m w (cargs : Array Value), Bt C.Ca w0 → Rel C.P w0 m h w → CS m args cargs.toList → Cb C.P f cargs w fun v' w' => ∃ m' : BK, (m.ext h.size m') ∧ Rel C.P w0 m' h' w' ∧ VR m' v v' := by
    intro e fr1 h1 he B hres
    simp only [Option.map_eq_some_iff, Prod.mk.injEq] at hres
    obtain ⟨u, hu, rfl, rfl⟩ := hres
    refine ⟨(Mt L c D B).1, fun w0 m w cargs J r I => ?_⟩
    unfold Cb
    rw [Ey hfn hn hc]
    simp only
    have hlen : args.length = cargs.size := by rw [I.1]; simp
    refine (callsIn_wide (n := 0)).1 (callsIn_of_wp_marks hfn hc trivial (Ql Y L c D B J r ⟨by simp [hlen], fun i => ?_⟩ (Mk.nil m) (fun m1 a1 w1 g1 g2 g3 g4 => ?_)))
    ·rw [EW, List.getD_eq_getElem?_getD]
     simp only [Array.getD_eq_getD_getElem?]
     by_cases hi : i < args.length
     ·rw [List.getElem?_append_left hi, Array.getElem?_append_left (by omega)]
      rw [List.getElem?_eq_getElem hi, Array.getElem?_eq_getElem (by omega)]
      exact I.2 i _ _ (List.getElem?_eq_getElem hi) (by simp [← hlen, hi])
     ·rw [List.getElem?_append_right (by omega), Array.getElem?_append_right (by omega)]
      rw [List.getElem?_replicate, Array.getElem?_replicate, hlen]
      split
      ·exact VR.Eu m
      ·exact VR.Eu m
    ·have fin : LeavesInM Fence.wide 0 C.P fn a1.tmps (fun e w' => ∃ v', e = .returned v' ∧ ∃ m' : BK, (m.ext h.size m') ∧ Rel C.P w0 m' h1 w' ∧ VR m' u v') a1.defers .returning w1 := by
      obtain ⟨_, rs, e1, e2, e3⟩ := g4
      rw [e1]
      refine Fs rs e2 m1 w1 g2 (fun r W => (e3 r W).1) fun m2 w2 d1 d2 d3 d4 => ?_
      have hle : m1.le m2 := ⟨fun id E hE => by rw [d1]; exact hE, fun g o v I => by rw [d2]; exact I⟩
      obtain ⟨v', q1, q2⟩ := Fx d4 (g3.mono hle) hu
      exact ⟨v', q1, v', rfl, m2, ⟨fun id hid => by rw [d1]; exact g1.i id hid, fun g o v I => by rw [d2]; exact g1.fz g o v I, fun g x M => d3 g x (g1.df g x M) fun hm => (e3 g hm).2 x M⟩, d4, q2⟩
     rcases he with rfl | rfl
     ·exact fin
     ·exact fin
   split at N
   ·rename_i fr1 h1 B; exact main .normal fr1 h1 (.inl rfl) B N
   ·rename_i fr1 h1 B; exact main .ret fr1 h1 (.inr rfl) B N
   ·cases N
theorem PM (L : Es C n S) {g : Gd} {c : Code} {fr : Fr} {h : AF} {e : B2} {fr' : Fr} {h' : AF} (B : Hn C S g c fr h = some (e, fr', h')) : BF g h h' ∧ fr'.length = fr.length := by
 unfold Hn at B
 split at B
 ·split at B
  ·split at B
   ·rename_i hs
    split at B
    ·rename_i W
     simp only [Option.some.injEq, Prod.mk.injEq] at B
     obtain ⟨_, rfl, rfl⟩ := B
     obtain ⟨k1, k2⟩ := DT L.sub _ W
     exact ⟨(NW hs).trans k1, by rw [k2, RJ]⟩
    ·cases B
   ·cases B
  ·cases B
 ·cases B
theorem MW (L : Es C n S) {f : FuncId} {g : Gd} : ∀ (c : Code), codeOk C f c = true → ∀ {fr : Fr} {h : AF} {e : B2} {fr' : Fr} {h' : AF}, Ff C S f g c fr h = some (e, fr', h') → BF g h h' ∧ fr'.length = fr.length := by
 have base : ∀ (c : Code), codeOk C f c = true → ∀ {fr : Fr} {h : AF} {e : B2} {fr' : Fr} {h' : AF}, (bif I2 c then Hn C S g c fr h else BW C S f g c fr h) = some (e, fr', h') → BF g h h' ∧ fr'.length = fr.length := by
  intro c D fr h e fr' h' B
  cases hs : I2 c with
  | true => rw [hs] at B; exact PM L B
  | false => rw [hs] at B; exact DE L c D B
 intro c
 induction c with
 | seq a b iha ihb =>
  intro D fr h e fr' h' B
  simp only [codeOk, Bool.and_eq_true] at D
  simp only [Ff] at B
  split at B
  ·rename_i fr1 h1 ha
   obtain ⟨k1, k2⟩ := iha D.1 ha
   obtain ⟨k3, k4⟩ := ihb D.2 B
   exact ⟨k1.trans k3, k4.trans k2⟩
  ·exact iha D.1 B
 | _ => intro D fr h e fr' h' B; simp only [Ff] at B; exact base _ D B
theorem Pw (Y : G2 C) (L : Es C n S) {g : Gd} {c : Code} (hs : I2 c = true) {fr : Fr} {h : AF} {e : B2} {fr' : Fr} {h' : AF} (B : Hn C S g c fr h = some (e, fr', h'))
  {w0 : World} {mS m : BK} {w : World} {a : Act} {Q : Exit → Act → World → Prop} (J : Bt C.Ca w0) (r : Rel C.P w0 m h w) (H : FR m fr a) (G : Mk mS m a.defers) (T : Ju C.P w0 mS m h.size e fr' h' Q) : Vb C.P c Q a w := by
 cases c with
 | region id ops draw =>
  simp only [I2, Bool.and_eq_true, Bool.not_eq_true'] at hs
  obtain ⟨rfl, hs⟩ := hs
  split at hs
  ·rename_i o Z
   split at hs
   ·rename_i cases0 bl hop
    simp only [Hn] at B
    have hol : ∃ rest, ops.toList = o :: rest := by
     cases V : ops.toList with
     | nil => rw [← Array.getElem?_toList, V] at Z; cases Z
     | cons o' rest =>
      rw [← Array.getElem?_toList, V] at Z
      simp only [List.getElem?_cons_zero, Option.some.injEq] at Z
      exact ⟨rest, by rw [Z]⟩
    obtain ⟨rest, hol⟩ := hol
    rw [hol] at B
    simp only at B
    split at B
    ·rename_i v h1 hsel
     split at B
     ·rename_i fr1 h2 W
      simp only [Option.some.injEq, Prod.mk.injEq] at B
      obtain ⟨rfl, rfl, rfl⟩ := B
      obtain ⟨cases1, v', w', q1, q2, q3, q4⟩ := RL r H hsel
      have hk := NW hsel
      have hde : (a.put o.dst v').defers = a.defers := by cases o.dst <;> rfl
      have hx0 : ∀ m' : BK, m.ext h1.size m' → m.ext h.size m' := fun m' g1 => (BK.ext.refl m _).trans g1 hk.1
      have hr' := Eb L.sub J _ q3 (H.put o.dst q4) W (Q := Q) (ops := ops) (fun m' a' w' g1 g2 g3 g4 => T m' a' w' (hx0 m' g1) g2 g3 (by rw [g4, hde]; exact G.ext (hx0 m' g1))) none
      refine OA Z ?_ q1 q2 ?_
      ·unfold Region.wanted
       cases M : o.guard with
       | none => rfl
       | some p => rw [M] at hs; cases hs
      ·rw [hol, List.drop_one, List.tail_cons]
       exact hr'
     ·cases B
    ·cases B
   ·cases hs
  ·cases hs
 | _ => simp [I2] at hs
theorem QG (Y : G2 C) (L : Es C n S) {f : FuncId} {g : Gd} : ∀ (c : Code), codeOk C f c = true → ∀ {fr : Fr} {h : AF} {e : B2} {fr' : Fr} {h' : AF}, Ff C S f g c fr h = some (e, fr', h') →
  ∀ {w0 : World} {mS m : BK} {w : World} {a : Act} {Q : Exit → Act → World → Prop}, Bt C.Ca w0 → Rel C.P w0 m h w → FR m fr a → Mk mS m a.defers → Ju C.P w0 mS m h.size e fr' h' Q → Vb C.P c Q a w := by
 have base : ∀ (c : Code), codeOk C f c = true → ∀ {fr : Fr} {h : AF} {e : B2} {fr' : Fr} {h' : AF}, (bif I2 c then Hn C S g c fr h else BW C S f g c fr h) = some (e, fr', h') →
   ∀ {w0 : World} {mS m : BK} {w : World} {a : Act} {Q : Exit → Act → World → Prop}, Bt C.Ca w0 → Rel C.P w0 m h w → FR m fr a → Mk mS m a.defers → Ju C.P w0 mS m h.size e fr' h' Q → Vb C.P c Q a w := by
  intro c D fr h e fr' h' B w0 mS m w a Q J r H G T
  cases hs : I2 c with
  | true => rw [hs] at B; exact Pw Y L hs B J r H G T
  | false => rw [hs] at B; exact S4 (wpIn_wide.1 (Fb Y L c D B J r H G T none (.inl rfl)))
 intro c
 induction c with
 | seq x y iha ihb =>
  intro D fr h e fr' h' B w0 mS m w a Q J r H G T
  simp only [codeOk, Bool.and_eq_true] at D
  simp only [Ff] at B
  split at B
  ·rename_i fr1 h1 ha
   have hk := (MW L x D.1 ha).1
   refine SO (iha D.1 ha J r H G (fun m1 a1 w1 g1 g2 g3 g4 => ?_))
   exact ihb D.2 B J g2 g3 g4 (T.trans hk.1 g1)
  ·rename_i U
   refine SO (iha D.1 B J r H G (fun m1 a1 w1 g1 g2 g3 g4 => ?_))
   have hq := T m1 a1 w1 g1 g2 g3 g4
   cases e with
   | normal => exact absurd B (U _ _)
   | exit id => exact hq
   | ret => exact hq
 | _ => intro D fr h e fr' h' B; simp only [Ff] at B; exact base _ D B
theorem QE (Y : G2 C) (L : Es C n S) {g : Gd} {h h' : AF} {f : FuncId} {args : List AB} {v : AB} (hk : C.kind f = 8) (N : OB C S g h f args = some (v, h')) :
  BF g h h' ∧ ∀ w0 m w (cargs : Array Value), Bt C.Ca w0 → Rel C.P w0 m h w → CS m args cargs.toList → Cb C.P f cargs w fun v' w' => ∃ m' : BK, (m.ext h.size m') ∧ Rel C.P w0 m' h' w' ∧ VR m' v v' := by
 unfold OB at N
 split at N
 ·cases N
 ·rename_i fn hfn
  split at N
  ·cases N
  ·rename_i c hc
   obtain ⟨hn, D⟩ := Y.code f fn c (by omega) hfn hc
   have main : ∀ e fr1 h1, e = B2.normal ∨ e = B2.ret → Ff C S f g c (args ++ List.replicate (fn.ntmps - args.length) (.tuple [])) h = some (e, fr1, h1) → (Cw C.P fn fr1 h1).map (·, h1) = some (v, h') →
     BF g h h' ∧ ∀ w0 m w (cargs : Array Value), Bt C.Ca w0 → Rel C.P w0 m h w → CS m args cargs.toList → Cb C.P f cargs w fun v' w' => ∃ m' : BK, (m.ext h.size m') ∧ Rel C.P w0 m' h' w' ∧ VR m' v v' := by
    intro e fr1 h1 he B hres
    simp only [Option.map_eq_some_iff, Prod.mk.injEq] at hres
    obtain ⟨u, hu, rfl, rfl⟩ := hres
    refine ⟨(MW L c D B).1, fun w0 m w cargs J r I => ?_⟩
    unfold Cb
    rw [Ey hfn hn hc]
    simp only
    have hlen : args.length = cargs.size := by rw [I.1]; simp
    refine LI hfn hc (QG Y L c D B J r ⟨by simp [hlen], fun i => ?_⟩ (Mk.nil m) (fun m1 a1 w1 g1 g2 g3 g4 => ?_))
    ·rw [EW, List.getD_eq_getElem?_getD]
     simp only [Array.getD_eq_getD_getElem?]
     by_cases hi : i < args.length
     ·rw [List.getElem?_append_left hi, Array.getElem?_append_left (by omega)]
      rw [List.getElem?_eq_getElem hi, Array.getElem?_eq_getElem (by omega)]
      exact I.2 i _ _ (List.getElem?_eq_getElem hi) (by simp [← hlen, hi])
     ·rw [List.getElem?_append_right (by omega), Array.getElem?_append_right (by omega)]
      rw [List.getElem?_replicate, Array.getElem?_replicate, hlen]
      split
      ·exact VR.Eu m
      ·exact VR.Eu m
    ·have fin : LeavesInM Fence.wide 0 C.P fn a1.tmps (fun e w' => ∃ v', e = .returned v' ∧ ∃ m' : BK, (m.ext h.size m') ∧ Rel C.P w0 m' h1 w' ∧ VR m' u v') a1.defers .returning w1 := by
      obtain ⟨_, rs, e1, e2, e3⟩ := g4
      rw [e1]
      refine Fs rs e2 m1 w1 g2 (fun r W => (e3 r W).1) fun m2 w2 d1 d2 d3 d4 => ?_
      have hle : m1.le m2 := ⟨fun id E hE => by rw [d1]; exact hE, fun g o v I => by rw [d2]; exact I⟩
      obtain ⟨v', q1, q2⟩ := Fx d4 (g3.mono hle) hu
      exact ⟨v', q1, v', rfl, m2, ⟨fun id hid => by rw [d1]; exact g1.i id hid, fun g o v I => by rw [d2]; exact g1.fz g o v I, fun g x M => d3 g x (g1.df g x M) fun hm => (e3 g hm).2 x M⟩, d4, q2⟩
     rcases he with rfl | rfl
     ·exact fin
     ·exact fin
   split at N
   ·rename_i fr1 h1 B; exact main .normal fr1 h1 (.inl rfl) B N
   ·rename_i fr1 h1 B; exact main .ret fr1 h1 (.inr rfl) B N
   ·cases N
theorem Cb.mono {P : Program} {f : FuncId} {args : Array Value} {w : World} {Q Q' : Value → World → Prop} (h : Cb P f args w Q) (hq : ∀ v w', Q v w' → Q' v w') : Cb P f args w Q' := by
 unfold Cb at *
 split at h
 ·exact hq _ _ h
 ·exact h.mono fun e w'' ⟨v, h1, h2⟩ => ⟨v, h1, hq _ _ h2⟩
 ·exact h.elim
def SP (P : Program) (g : Gd) (f : AF → AB → Option (AB × AF)) : Prop := ∀ (h : AF) (v v' : AB) (h' : AF), f h v = some (v', h') → BF g h h' ∧ ∀ w0 (m : BK) w u, Rel P w0 m h w → VR m v u → ∃ m' : BK, m.ext h.size m' ∧ Rel P w0 m' h' w ∧ VR m' v' u
theorem R5 {P : Program} (g : Gd) : SP P g (HT g) := fun h v v' h' H => ⟨Nw H, fun w0 m w u r I => Nr H w0 m w u r I⟩
theorem Ph {P : Program} {g : Gd} {f : AF → AB → Option (AB × AF)} (H : SP P g f) : ∀ (vs : List AB) (h : AF) (vs' : List AB) (h' : AF), K9 f vs h = some (vs', h') →
  BF g h h' ∧ ∀ w0 (m : BK) w us, Rel P w0 m h w → CS m vs us → ∃ m' : BK, m.ext h.size m' ∧ Rel P w0 m' h' w ∧ CS m' vs' us
 | [], h, vs', h', B => by
  simp only [K9, Option.some.injEq, Prod.mk.injEq] at B
  obtain ⟨rfl, rfl⟩ := B
  exact ⟨BF.refl _ _, fun w0 m w us r I => ⟨m, BK.ext.refl _ _, r, I⟩⟩
 | v :: vs, h, vs', h', B => by
  unfold K9 at B
  split at B
  ·rename_i v1 h1 h1e
   simp only [Option.map_eq_some_iff, Prod.mk.injEq] at B
   obtain ⟨⟨l, h2⟩, V, rfl, rfl⟩ := B
   obtain ⟨k1, q1⟩ := H h v v1 h1 h1e
   obtain ⟨k2, q2⟩ := Ph H vs h1 l h2 V
   refine ⟨k1.trans k2, fun w0 m w us r I => ?_⟩
   cases us with
   | nil => simp [CS] at I
   | cons u us =>
    have hc := I.2 0 v u rfl rfl
    have hv' : CS m vs us := ⟨by simpa using I.1, fun i x y B hy => I.2 (i + 1) x y (by simpa using B) (by simpa using hy)⟩
    obtain ⟨m1, e1, e2, e3⟩ := q1 w0 m w u r hc
    obtain ⟨m2, g1, g2, g3⟩ := q2 w0 m1 w us e2 (hv'.mono (r.Kz e1))
    exact ⟨m2, e1.trans g1 k1.1, g2, .cons (e3.mono (e2.Kz g1)) g3⟩
  ·cases B
theorem Sp {P : Program} (g : Gd) : SP P g (Kf g) := by
 intro h v v' h' H
 unfold Kf at H
 split at H
 ·simp only [Option.map_eq_some_iff, Prod.mk.injEq] at H
  obtain ⟨⟨l, h2⟩, V, rfl, rfl⟩ := H
  obtain ⟨k1, q1⟩ := Ph (R5 g) _ h l h2 V
  refine ⟨k1, fun w0 m w u r I => ?_⟩
  obtain ⟨c, rfl, vc⟩ := I.E7
  obtain ⟨m1, e1, e2, e3⟩ := q1 w0 m w _ r vc
  exact ⟨m1, e1, e2, CS.agg e3⟩
 ·exact R5 g h v v' h' H
theorem Ps {P : Program} (g : Gd) : SP P g (M1 g) := by
 intro h v v' h' H
 unfold M1 at H
 split at H
 ·simp only [Option.map_eq_some_iff, Prod.mk.injEq] at H
  obtain ⟨⟨l, h2⟩, V, rfl, rfl⟩ := H
  obtain ⟨k1, q1⟩ := Ph (Sp g) _ h l h2 V
  refine ⟨k1, fun w0 m w u r I => ?_⟩
  obtain ⟨c, rfl, vc⟩ := I.Il
  obtain ⟨m1, e1, e2, e3⟩ := q1 w0 m w _ r vc
  exact ⟨m1, e1, e2, CS.tuple e3⟩
 ·exact Sp g h v v' h' H
theorem P8 (Y : G2 C) (L : Es C n S) : Pt C.P C.Ca (GF C S) := by
 intro g h f args v h' hc
 unfold GF at hc
 split at hc
 ·rename_i hk
  obtain ⟨k1, k2⟩ := GX Y L (.inl hk) hc
  exact ⟨k1, fun w0 m w cargs J r I => k2 w0 m w cargs J r (I.BP _)⟩
 ·rename_i hk
  split at hc
  ·rename_i u h1 N
   obtain ⟨k1, k2⟩ := GX Y L (.inr (.inl hk)) N
   cases hfl : Lp u with
   | false => rw [hfl] at hc; cases hc
   | true =>
    rw [hfl] at hc
    simp only [cond_true, Option.some.injEq, Prod.mk.injEq] at hc
    obtain ⟨rfl, rfl⟩ := hc
    refine ⟨BF.refl _ _, fun w0 m w cargs J r I => (k2 w0 m w cargs J r I).mono fun v' w' ⟨m', g1, g2, g3⟩ => ?_⟩
    refine ⟨m.with m', BK.Ut g1 _, r.back g1 (fun id hid => k1.2 id hid ?_) g2, g3.Lp hfl⟩
    have : Nat.ble h.size id = false := by
     cases N : Nat.ble h.size id with
     | false => rfl
     | true => have := Nat.le_of_ble_eq_true N; omega
    simp [Gd.may, this]
  ·cases hc
 ·rename_i hk
  have := Y.ext f hk g h f args v h' (by simpa using hc)
  exact this
 ·rename_i hk
  cases hfa : args.all HX with
  | false => rw [hfa] at hc; cases hc
  | true =>
   rw [hfa] at hc
   simp only [cond_true] at hc
   split at hc
   ·rename_i u h1 N
    obtain ⟨k1, k2⟩ := GX Y L (by omega) N
    cases hfl : Lp u with
    | false => rw [hfl] at hc; cases hc
    | true =>
     rw [hfl] at hc
     simp only [cond_true, Option.some.injEq, Prod.mk.injEq] at hc
     obtain ⟨rfl, rfl⟩ := hc
     refine ⟨BF.refl _ _, fun w0 m w cargs J r I => ?_⟩
     have hv0 : CS ⟨fun _ => none, fun _ _ => none, fun _ _ => False⟩ args cargs.toList := ⟨I.1, fun i x y B hy => (I.2 i x y B hy).HX (List.all_eq_true.1 hfa x (List.mem_of_getElem? B))⟩
     have r0 : Rel C.P w ⟨fun _ => none, fun _ _ => none, fun _ _ => False⟩ ⟨0, .leaf⟩ w := ⟨Below.refl _ _, fun id E hE => by simp at hE, fun id E o hE => by simp at hE, fun id E o hE => by simp at hE, fun id id' E E' o o' _ hE => by simp at hE, fun g o v I => (by cases I), fun id E o hE => (by simp at hE), fun g x M => M.elim, fun id E o hE => by simp at hE⟩
     refine (k2 w _ w cargs (J.later r.below) r0 hv0).mono fun v' w' ⟨m', g1, g2, g3⟩ => ⟨m, BK.ext.refl _ _, r.later g2.below, g3.Lp hfl⟩
   ·cases hc
  done
 ·rename_i hk
  split at hc
  ·rename_i u h1 N
   obtain ⟨k1, k2⟩ := GX Y L (by omega) N
   refine ⟨k1.trans (Ps (P := C.P) g h1 u v h' hc).1, fun w0 m w cargs J r I => (k2 w0 m w cargs J r (I.BP _)).mono fun v' w' ⟨m', g1, g2, g3⟩ => ?_⟩
   obtain ⟨m2, e1, e2, e3⟩ := (Ps (P := C.P) g h1 u v h' hc).2 _ m' w' v' g2 g3
   exact ⟨m2, g1.trans e1 k1.1, e2, e3⟩
  ·cases hc
 ·rename_i hk
  obtain ⟨k1, k2⟩ := QE Y L hk hc
  exact ⟨k1, fun w0 m w cargs J r I => k2 w0 m w cargs J r (I.BP _)⟩
 ·rename_i hk
  obtain ⟨k1, k2⟩ := Qo Y L hk hc
  exact ⟨k1, fun w0 m w cargs J r I => k2 w0 m w cargs J r (I.BP _)⟩
 ·rename_i hk
  split at hc
  ·rename_i args' h1 H
   obtain ⟨k1, k2⟩ := GX Y L (by omega) hc
   have hf3 : M1 g h (.tuple args) = some (.tuple args', h1) := by unfold M1; simp only [H, Option.map_some]
   obtain ⟨q1, q2⟩ := Ps (P := C.P) g h _ _ h1 hf3
   refine ⟨q1.trans k1, fun w0 m w cargs J r I => ?_⟩
   obtain ⟨m2, e1, e2, e3⟩ := q2 _ m w (.tuple cargs) r (CS.tuple I)
   obtain ⟨c, hc', hv'⟩ := e3.Il
   cases hc'
   exact (k2 w0 m2 w cargs J e2 hv').mono fun v' w' ⟨m', g1, g2, g3⟩ => ⟨m', e1.trans g1 q1.1, g2, g3⟩
  ·cases hc
 ·cases hc
theorem Q8 (Y : G2 C) : ∀ n, Es C n (Co C n)
 | 0 => ⟨⟨fun g h f args v h' hc => by simp [Co] at hc, fun g h l args v h' hc => by simp [Co] at hc⟩, fun g f c fr h e fr' h' _ B => by simp [Co] at B, fun g f c fr h e fr' h' _ B => by simp [Co] at B⟩
 | n + 1 => by
  have ih := Q8 Y n
  refine ⟨⟨P8 Y ih, PU (S := Co C n)⟩, fun g f c fr h e fr' h' D B => ?_, fun g f c fr h e fr' h' D B w0 mS m w a Q J r H G T rd O => ?_⟩
  ·exact DE ih (.loop c) (by simpa [codeOk] using D) B
  ·exact Po Y ih D B J r H G T rd O
theorem R3 (Y : G2 C) {n : Nat} {g : Gd} {h h' : AF} {f : FuncId} {args : List AB} {v : AB} (W : X7 C n g h f args = some (v, h')) {w0 : World} {m : BK} {w : World} {cargs : Array Value} (J : Bt C.Ca w0) (r : Rel C.P w0 m h w) (I : CS m args cargs.toList) :
  Cb C.P f cargs w fun v' w' => ∃ m' : BK, (m.ext h.size m') ∧ Rel C.P w0 m' h' w' ∧ VR m' v v' :=
 ((Q8 Y n).sub.call g h f args v h' W).2 w0 m w cargs J r I
theorem Rq (Y : G2 C) {n : Nat} {g : Gd} {h h' : AF} {f : FuncId} {args : List AB} {v : AB} (W : X7 C n g h f args = some (v, h')) {fn : Func} {c : Code} (hfn : C.P.funcs[f]? = some fn) (hn : (fn.name == "runtime.NumGoroutine") = false) (N : fn.body = some c)
  {w0 : World} {m : BK} {w : World} {cargs : Array Value} (J : Bt C.Ca w0) (r : Rel C.P w0 m h w) (I : CS m args cargs.toList) :
  Calls C.P f cargs w fun e w' => ∃ v', e = .returned v' ∧ ∃ m' : BK, (m.ext h.size m') ∧ Rel C.P w0 m' h' w' ∧ VR m' v v' := by
 have := R3 Y W J r I
 unfold Cb at this
 rw [Ey hfn hn N] at this
 exact this
end
end Go.Av
