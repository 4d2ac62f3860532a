/-
 A part.
-/
import Derived.Test.YtlljeoogceblmaaGreatDoorAvStep2
namespace Go.Av
set_option linter.unusedSimpArgs false
set_option linter.unusedVariables false
def Eo : Nat → Nat → List (Nat × List Nat)
 | _, 0 => []
 | i, k + 1 => (i, []) :: Eo (i + 1) k
@[simp] theorem GL (tch : List (Nat × Nat)) : Gu tch [] = [] := by
 unfold Gu
 rw [List.filterMap_eq_nil_iff]
 intro a _
 rfl
section
variable {C : E8} {S : Self} {g : Gd} {ops : Array Oper}
theorem Gn : ∀ (k i : Nat) (tch : List (Nat × Nat)) (fr : Fr) (h : AF), i + k = ops.size → CR C S g ops (Eo i k) tch fr h = DM C S g ops (ops.toList.drop i) fr h
 | 0, i, tch, fr, h, e => by
  have : ops.toList.drop i = [] := List.drop_eq_nil_of_le (by rw [Array.length_toList]; omega)
  rw [this]; rfl
 | k + 1, i, tch, fr, h, e => by
  have hi : i < ops.size := by omega
  have hl : i < ops.toList.length := by rw [Array.length_toList]; exact hi
  rw [List.drop_eq_getElem_cons hl, Eo, CR, DM, Array.getElem?_eq_getElem hi]
  simp only [Array.getElem_toList]
  cases Cc ops fr ops[i] with
  | none => rfl
  | some b =>
   cases b with
   | false => exact Gn k (i + 1) _ _ _ (by omega)
   | true =>
    simp only [GL, List.nil_append]
    cases BO C S g h fr ops[i].op with
    | none => rfl
    | some x => exact Gn k (i + 1) _ _ _ (by omega)
end
def AT (C : E8) (g : Gd) (ops : Array Oper) (pl : List (Nat × List Nat)) (tch : List (Nat × Nat)) (fr : Fr) (h : AF) (K : Fr → AF → Prop) : Prop :=
 ∃ n fr' h', CR C (Co C n) g ops pl tch fr h = some (fr', h') ∧ K fr' h'
structure AW (C : E8) (f : FuncId) (g : Gd) (c : Code) (fr : Fr) (h : AF) (Q : B2 → Fr → AF → Prop) : Prop where
 ex : ∃ n e fr' h', BW C (Co C n) f g c fr h = some (e, fr', h') ∧ Q e fr' h'
def OD (C : E8) (g : Gd) (h : AF) (f : FuncId) (args : List AB) (v : AB) (h' : AF) : Prop := ∃ n, H7 C (Co C n) g h f args = some (v, h')
def BZ (C : E8) (g : Gd) (h : AF) (f : FuncId) (args : List AB) (v : AB) (h' : AF) : Prop := ∃ n, (Co C n).call g h f args = some (v, h')
section
variable {C : E8} {f : FuncId} {g : Gd} {ops : Array Oper} {pl : List (Nat × List Nat)} {tch : List (Nat × Nat)} {fr : Fr} {h h1 : AF} {K : Fr → AF → Prop} {N : Nat} {l : List (Nat × AB)} {i : Nat} {U : List Nat}
theorem at_nil (h0 : K fr h) : AT C g ops [] tch fr h K := ⟨0, fr, h, rfl, h0⟩
theorem Sb {S : Nat} {pl' : List (Nat × List Nat)} {tch' : List (Nat × Nat)} {fr1 : Fr} {h1 : AF} (G : AT C g ops pl tch fr1 h1 K)
  (D : ∀ n x, S ≤ n → CR C (Co C n) g ops pl tch fr1 h1 = some x → CR C (Co C n) g ops pl' tch' fr h = some x) : AT C g ops pl' tch' fr h K := by
 obtain ⟨n, fr', h', r1, r2⟩ := G
 exact ⟨max S n, fr', h', D _ _ (Nat.le_max_left _ _) (F7 (C7 C (Nat.le_max_right _ _)) r1), r2⟩
def Steps (C : E8) (g : Gd) (h : AF) (fr : Fr) (op : Op) (v : AB) (h1 : AF) : Prop := ∃ n, BO C (Co C n) g h fr op = some (v, h1)
theorem Steps.of {op : Op} {v : AB} (B : BO C (Co C 0) g h fr op = some (v, h1)) : Steps C g h fr op v h1 := ⟨0, B⟩
theorem Steps.call {op : Op} {v : AB} {f' : FuncId} {args : List AB} (B : K7 fr op = some (f', args)) (E : BZ C g h f' args v h1) : Steps C g h fr op v h1 := by
 obtain ⟨n, T⟩ := E
 exact ⟨n, XK B T⟩
theorem Hm {v : AB} {U : List Nat} (hw : runs ops fr i = true) (B : Steps C ⟨g.floor, Gu tch U ++ g.CD⟩ h fr (L4 ops i) v h1) (L : M6 C ops U (put fr (F3 ops i) v) h1 = true) (T : AT C g ops pl (FL C.P h fr i (L4 ops i) tch) (put fr (F3 ops i) v) h1 K) :
  AT C g ops ((i, U) :: pl) tch fr h K := by
 obtain ⟨m, hm⟩ := B
 refine Sb (S := m) T fun n x hle D => ?_
 have O := JG (C7 C hle) hm
 unfold runs at hw
 unfold L4 at O D
 unfold F3 at D L
 rw [CR]
 cases R : ops[i]? with
 | none => rw [R] at hw; cases hw
 | some o =>
  rw [R] at hw O D L
  simp only at hw O D L ⊢
  cases Y : Cc ops fr o with
  | none => rw [Y] at hw; cases hw
  | some b =>
   rw [Y] at hw
   simp only at hw
   subst hw
   simp only [O, L, cond_true]
   exact D
theorem Uv (hw : TP ops fr i = true) (T : AT C g ops pl tch (put fr (F3 ops i) (.tuple [])) h K) : AT C g ops ((i, U) :: pl) tch fr h K := by
 refine Sb (S := 0) T fun n x hle D => ?_
 unfold TP at hw
 unfold F3 at D
 rw [CR]
 cases R : ops[i]? with
 | none => rw [R] at hw; cases hw
 | some o =>
  rw [R] at hw D
  simp only at hw D ⊢
  cases Y : Cc ops fr o with
  | none => rw [Y] at hw; cases hw
  | some b =>
   rw [Y] at hw
   simp only [Bool.not_eq_true'] at hw
   subst hw
   exact D
def FB (P : Program) (ops : Array Oper) : List Nat → Fr → Option Fr
 | [], fr => some fr
 | i :: r, fr =>
  match ops[i]? with
  | none => none
  | some o =>
   match Cc ops fr o with
   | some true => (match Xn P fr o.op with | some v => FB P ops r (put fr o.dst v) | none => none)
   | some false => FB P ops r (put fr o.dst (.tuple []))
   | none => none
def Dc : List (Nat × List Nat) → List Nat
 | [] => []
 | (i, _) :: r => i :: Dc r
theorem TC {P : Program} {fr : Fr} {op : Op} {v : AB} (h : Xn P fr op = some v) : BA P op = 0 := by
 unfold Xn at h
 split at h
 ·assumption
 ·cases h
theorem Ln : ∀ (sg pl : List (Nat × List Nat)) (fr fr1 : Fr), (∀ x ∈ sg, x.2 = []) → FB C.P ops (Dc sg) fr = some fr1 → AT C g ops pl tch fr1 h K → AT C g ops (sg ++ pl) tch fr h K
 | [], pl, fr, fr1, _, B, T => by
  simp only [Dc, FB, Option.some.injEq] at B
  subst B
  exact T
 | (i, U) :: sg, pl, fr, fr1, hU, B, T => by
  have hU0 : U = [] := hU (i, U) (by simp)
  subst hU0
  have ih := fun fr2 D => Ln sg pl fr2 fr1 (fun x D => hU x (by simp [D])) D T
  simp only [Dc, FB] at B
  split at B
  ·cases B
  ·rename_i o R
   split at B
   ·rename_i hw
    split at B
    ·rename_i v hv
     have e1 : L4 ops i = o.op := by simp [L4, R]
     have e2 : F3 ops i = o.dst := by simp [F3, R]
     refine Hm (v := v) (h1 := h) (by simp [runs, R, hw]) (.of (by rw [e1]; exact Zl hv)) rfl ?_
     rw [e1, e2]
     have : FL C.P h fr i o.op tch = tch := by unfold FL; rw [TC hv]; rfl
     rw [this]
     exact ih _ B
    ·cases B
   ·rename_i hw
    have e2 : F3 ops i = o.dst := by simp [F3, R]
    refine Uv (by simp [TP, R, hw]) ?_
    rw [e2]
    exact ih _ B
   ·cases B
theorem Fh {P : Program} : ∀ (l : List Nat) (fr fr' : Fr), FB P ops l fr = some fr' → fr'.length = fr.length
 | [], fr, fr', h => by simp only [FB, Option.some.injEq] at h; rw [h]
 | i :: l, fr, fr', h => by
  simp only [FB] at h
  split at h
  ·cases h
  ·split at h
   ·split at h
    ·rw [Fh l _ _ h]; simp
    ·cases h
   ·rw [Fh l _ _ h]; simp
   ·cases h
theorem W7 (sg : List (Nat × List Nat)) (out : List (Nat × AB)) (H : Has fr N l) (hU : ∀ x ∈ sg, x.2 = [])
  (hk : ∀ fr, (FB C.P ops (Dc sg) (Cm N l fr)).map (fun x => out.map (fun p => nth x p.1)) = some (out.map (·.2)))
  (T : ∀ fr', Has fr' N out → AT C g ops pl tch fr' h K) : AT C g ops (sg ++ pl) tch fr h K := by
 have X := hk fr
 rw [Dv H] at X
 cases E : FB C.P ops (Dc sg) fr with
 | none => rw [E] at X; cases X
 | some fr1 =>
  rw [E] at X
  simp only [Option.map_some, Option.some.injEq] at X
  exact Ln sg pl fr fr1 hU E (T fr1 (Has.of_map ((Fh _ _ _ E).trans H.1) X))
def P4 : List (Nat × List Nat) → Bool
 | [] => true
 | (_, U) :: r => U.isEmpty && P4 r
theorem L2 : ∀ {sg : List (Nat × List Nat)}, P4 sg = true → ∀ x ∈ sg, x.2 = []
 | [], _, x, D => by cases D
 | (i, U) :: r, h, x, D => by
  simp only [P4, Bool.and_eq_true, List.isEmpty_iff] at h
  cases D with
  | head => exact h.1
  | tail _ D => exact L2 h.2 x D
theorem Ha {n : Nat} {b : List (Nat × List Nat)} : ∀ (a : List (Nat × List Nat)) (tch : List (Nat × Nat)) (fr fr1 : Fr) (h h1 : AF), CR C (Co C n) g ops a tch fr h = some (fr1, h1) →
  ∃ tch', ∀ m, n ≤ m → CR C (Co C m) g ops (a ++ b) tch fr h = CR C (Co C m) g ops b tch' fr1 h1
 | [], tch, fr, fr1, h, h1, E => by
  simp only [CR, Option.some.injEq, Prod.mk.injEq] at E
  obtain ⟨rfl, rfl⟩ := E
  exact ⟨tch, fun _ _ => rfl⟩
 | (i, U) :: a, tch, fr, fr1, h, h1, E => by
  rw [CR] at E
  split at E
  ·cases E
  ·rename_i o R
   split at E
   ·rename_i hw
    split at E
    ·rename_i v h' B
     have L : M6 C ops U (put fr o.dst v) h' = true := by
      cases L : M6 C ops U (put fr o.dst v) h' with
      | false => rw [L] at E; cases E
      | true => rfl
     rw [L] at E
     simp only [cond_true] at E
     obtain ⟨t, ht⟩ := Ha a _ _ _ _ _ E
     refine ⟨t, fun m hm => ?_⟩
     rw [List.cons_append, CR, R]
     simp only [hw, JG (C7 C hm) B, L, cond_true]
     exact ht m hm
    ·cases E
   ·rename_i hw
    obtain ⟨t, ht⟩ := Ha a _ _ _ _ _ E
    refine ⟨t, fun m hm => ?_⟩
    rw [List.cons_append, CR, R]
    simp only [hw]
    exact ht m hm
   ·cases E
theorem XJ (sg : List (Nat × List Nat)) (I : Fr → AF → Prop) (h1 : AT C g ops sg tch fr h I) (h2 : ∀ t fr h, I fr h → AT C g ops pl t fr h K) : AT C g ops (sg ++ pl) tch fr h K := by
 obtain ⟨n, fr1, h1', r1, r2⟩ := h1
 obtain ⟨t0, ht0⟩ := Ha (b := pl) sg tch fr fr1 h h1' r1
 obtain ⟨m, fr2, h2', r3, r4⟩ := h2 t0 _ _ r2
 refine ⟨max n m, fr2, h2', ?_, r4⟩
 rw [ht0 _ (Nat.le_max_left _ _)]
 exact F7 (C7 C (Nat.le_max_right _ _)) r3
def KF (next : Fr → AF → Prop) (Q : B2 → Fr → AF → Prop) : B2 → Fr → AF → Prop
 | .normal, fr, h => next fr h
 | e, fr, h => Q e fr h
def X5 (id : Nat) (Q : B2 → Fr → AF → Prop) : B2 → Fr → AF → Prop
 | .exit i, fr, h => bif Nat.beq i id then Q .normal fr h else Q (.exit i) fr h
 | e, fr, h => Q e fr h
variable {Q : B2 → Fr → AF → Prop} {a b c c' : Code}
def left : Code → Code
 | .seq a _ => a
 | .cond _ a _ => a
 | .block _ c => c
 | .loop c => c
 | .scope c => c
 | .rangeFunc _ _ a _ => a
 | c => c
def right : Code → Code
 | .seq _ b => b
 | .cond _ _ b => b
 | .rangeFunc _ _ _ b => b
 | c => c
def opsOf : Code → Array Oper
 | .region _ ops _ => ops
 | _ => #[]
inductive Sh where
 | skip | region (id n : Nat) (draw : Bool) | seq | cond (x : Operand) | block (id : Nat) | loop | exit (id : Nat) | scope | label | ret | range (x : Operand) (ps : List Tmp) | other
def shape : Code → Sh
 | .skip => .skip
 | .region id ops draw => .region id ops.size draw
 | .seq _ _ => .seq
 | .cond x _ _ => .cond x
 | .block id _ => .block id
 | .loop _ => .loop
 | .exit id => .exit id
 | .scope _ => .scope
 | .rangeFunc x ps _ _ => .range x ps.toList
 | .label _ => .label
 | .ret => .ret
 | _ => .other
theorem Bb {Q' : B2 → Fr → AF → Prop} (G : AW C f g c fr h Q') (F : ∀ e fr h, Q' e fr h → Q e fr h) : AW C f g c fr h Q := by
 obtain ⟨n, e, fr', h', h1, h2⟩ := (G).ex
 exact ⟨⟨n, e, fr', h', h1, F _ _ _ h2⟩⟩
theorem R4 (B : shape c = .seq) (G : AW C f g (left c) fr h (KF (fun fr h => AW C f g (right c) fr h Q) Q)) : AW C f g c fr h Q := by
 cases c <;> simp [shape] at B
 simp only [left, right] at G
 obtain ⟨n, e, fr1, h1, D, F⟩ := (G).ex
 cases e with
 | normal =>
  obtain ⟨m, e2, fr2, h2, V, W⟩ := F.ex
  refine ⟨⟨max n m, e2, fr2, h2, ?_, W⟩⟩
  simp only [BW, Cu (C7 C (Nat.le_max_left n m)) D, Cu (C7 C (Nat.le_max_right n m)) V]
 | exit id => exact ⟨⟨n, _, _, _, by simp only [BW, D], F⟩⟩
 | ret => exact ⟨⟨n, _, _, _, by simp only [BW, D], F⟩⟩
theorem Wr {id n : Nat} (pl : List (Nat × List Nat)) (B : shape c = .region id n false) (hp : Eo 0 n = pl) (G : AT C g (opsOf c) pl [] fr h (fun fr' h' => Q .normal fr' h')) : AW C f g c fr h Q := by
 cases c <;> simp [shape] at B
 obtain ⟨rfl, rfl, rfl⟩ := B
 obtain ⟨n, fr', h', E, F⟩ := G
 subst hp
 simp only [opsOf] at E
 rw [Gn _ _ _ _ _ (by omega), List.drop_zero] at E
 exact ⟨⟨n, .normal, fr', h', by simp only [BW, cond_false, E], F⟩⟩
theorem SB {id n : Nat} (B : shape c = .region id n true) (pl : List (Nat × List Nat)) (hp : C.Kk f id = pl) (G : AT C g (opsOf c) pl [] fr h (fun fr' h' => Q .normal fr' h')) : AW C f g c fr h Q := by
 cases c <;> simp [shape] at B
 obtain ⟨rfl, rfl, rfl⟩ := B
 obtain ⟨n, fr', h', E, F⟩ := G
 simp only [opsOf] at E
 exact ⟨⟨n, .normal, fr', h', by simp only [BW, cond_true, hp, E], F⟩⟩
theorem NH (B : shape c = .skip) (F : Q .normal fr h) : AW C f g c fr h Q := by cases c <;> simp [shape] at B; exact ⟨⟨0, _, _, _, rfl, F⟩⟩
theorem LY (B : shape c = .label) (F : Q .normal fr h) : AW C f g c fr h Q := by cases c <;> simp [shape] at B; exact ⟨⟨0, _, _, _, rfl, F⟩⟩
theorem Bp {i : Nat} (B : shape c = .exit i) (F : Q (.exit i) fr h) : AW C f g c fr h Q := by cases c <;> simp [shape] at B; subst B; exact ⟨⟨0, _, _, _, rfl, F⟩⟩
theorem XL (B : shape c = .ret) (F : Q .ret fr h) : AW C f g c fr h Q := by cases c <;> simp [shape] at B; exact ⟨⟨0, _, _, _, rfl, F⟩⟩
theorem C8 {x : Operand} (B : shape c = .cond x) (H : Has fr N l) (D : ∀ fr, ev (Cm N l fr) x = .bool true) (G : AW C f g (left c) fr h Q) : AW C f g c fr h Q := by
 cases c <;> simp [shape] at B
 subst B
 have := D fr
 rw [Dv H] at this
 obtain ⟨n, e, fr', h', h1, h2⟩ := (G).ex
 exact ⟨⟨n, e, fr', h', by simp only [BW, this]; exact h1, h2⟩⟩
theorem ER {x : Operand} (B : shape c = .cond x) (H : Has fr N l) (D : ∀ fr, ev (Cm N l fr) x = .bool false) (G : AW C f g (right c) fr h Q) : AW C f g c fr h Q := by
 cases c <;> simp [shape] at B
 subst B
 have := D fr
 rw [Dv H] at this
 obtain ⟨n, e, fr', h', h1, h2⟩ := (G).ex
 exact ⟨⟨n, e, fr', h', by simp only [BW, this]; exact h1, h2⟩⟩
theorem Aa {id : Nat} (B : shape c = .block id) (G : AW C f g (left c) fr h (X5 id Q)) : AW C f g c fr h Q := by
 cases c <;> simp [shape] at B
 subst B
 simp only [left] at G
 obtain ⟨n, e, fr', h', h1, h2⟩ := (G).ex
 cases e with
 | normal => exact ⟨⟨n, _, _, _, by simp only [BW, h1], h2⟩⟩
 | ret => exact ⟨⟨n, _, _, _, by simp only [BW, h1], h2⟩⟩
 | exit i =>
  rename_i id _
  simp only [X5] at h2
  cases M : Nat.beq i id with
  | true => rw [M] at h2; exact ⟨⟨n, .normal, fr', h', by simp only [BW, h1, M, cond_true], h2⟩⟩
  | false => rw [M] at h2; exact ⟨⟨n, .exit i, fr', h', by simp only [BW, h1, M, cond_false], h2⟩⟩
theorem Lv (B : shape c = .scope) (G : AW C f g (left c) fr h Q) : AW C f g c fr h Q := by
 cases c <;> simp [shape] at B
 simp only [left] at G
 obtain ⟨n, e, fr', h', h1, h2⟩ := (G).ex
 exact ⟨⟨n, e, fr', h', by simp only [BW]; exact h1, h2⟩⟩
structure OJ (C : E8) (f : FuncId) (g : Gd) (c : Code) (fr : Fr) (h : AF) (Q : B2 → Fr → AF → Prop) : Prop where
 ex : ∃ n e fr' h', Ff C (Co C n) f g c fr h = some (e, fr', h') ∧ Q e fr' h'
def Q9 (c : Code) : Bool := !I2 c && (match c with | .seq _ _ => false | _ => true)
theorem IS (B : Q9 c = true) (G : AW C f g c fr h Q) : OJ C f g c fr h Q := by
 obtain ⟨n, e, fr', h', h1, h2⟩ := G.ex
 simp only [Q9, Bool.and_eq_true, Bool.not_eq_true'] at B
 refine ⟨⟨n, e, fr', h', ?_, h2⟩⟩
 cases c <;> first | (simp at B; done) | (simp only [Ff, B.1, cond_false]; exact h1)
theorem IG (B : shape c = .seq) (G : OJ C f g (left c) fr h (KF (fun fr h => OJ C f g (right c) fr h Q) Q)) : OJ C f g c fr h Q := by
 cases c <;> simp [shape] at B
 simp only [left, right] at G
 obtain ⟨n, e, fr1, h1, D, F⟩ := (G).ex
 cases e with
 | normal =>
  obtain ⟨m, e2, fr2, h2, V, W⟩ := F.ex
  refine ⟨⟨max n m, e2, fr2, h2, ?_, W⟩⟩
  simp only [Ff, JF (C7 C (Nat.le_max_left n m)) D, JF (C7 C (Nat.le_max_right n m)) V]
 | exit id => exact ⟨⟨n, _, _, _, by simp only [Ff, D], F⟩⟩
 | ret => exact ⟨⟨n, _, _, _, by simp only [Ff, D], F⟩⟩
theorem NC {id n : Nat} {v : AB} (pl : List (Nat × List Nat)) (out : List (Nat × AB)) (B : I2 c = true) (hs2 : shape c = .region id (n + 1) false) (hp : Eo 1 n = pl) (H : Has fr N l)
  (hsel : ∀ fr, OS C.P g h (Cm N l fr) (L4 (opsOf c) 0) = some (v, h1)) (R : ∀ fr, out.map (fun p => nth (put (Cm N l fr) (F3 (opsOf c) 0) v) p.1) = out.map (·.2))
  (G : ∀ fr', Has fr' N out → AT C g (opsOf c) pl [] fr' h1 (fun fr' h' => Q .normal fr' h')) : OJ C f g c fr h Q := by
 have J := hsel fr
 have ho' := R fr
 rw [Dv H] at J ho'
 cases c <;> simp [shape] at hs2
 rename_i id0 ops draw
 obtain ⟨rfl, T, rfl⟩ := hs2
 obtain ⟨k, fr', h', E, F⟩ := G _ (Has.of_map (by simp [H.1]) ho')
 subst hp
 simp only [opsOf] at E J
 rw [Gn _ _ _ _ _ (by omega)] at E
 refine ⟨⟨k, .normal, fr', h', ?_, F⟩⟩
 simp only [Ff, B, cond_true, Hn]
 have hl : 0 < ops.toList.length := by rw [Array.length_toList]; omega
 have e0 : ops.toList = ops[0] :: ops.toList.drop 1 := by
  have := List.drop_eq_getElem_cons hl
  simpa using this
 have e1 : L4 ops 0 = ops[0].op := by simp [L4, Array.getElem?_eq_getElem (show 0 < ops.size by omega)]
 have e2 : F3 ops 0 = ops[0].dst := by simp [F3, Array.getElem?_eq_getElem (show 0 < ops.size by omega)]
 rw [e1] at J
 rw [e2] at E
 rw [e0]
 simp only [J, E]
theorem Db (B : shape c = .loop) (G : AW C f g (left c) fr h (KF (fun fr h => AW C f g c fr h Q) Q)) : AW C f g c fr h Q := by
 cases c <;> simp [shape] at B
 rename_i c
 simp only [left] at G
 obtain ⟨n, e, fr1, h1, D, F⟩ := (G).ex
 cases e with
 | normal =>
  obtain ⟨m, e2, fr2, h2, V, W⟩ := F.ex
  refine ⟨⟨max n m + 1, e2, fr2, h2, ?_, W⟩⟩
  have e1 := Cu (C7 C (Nat.le_trans (Nat.le_max_left n m) (Nat.le_succ _))) D
  have e2' := Cu (C7 C (Nat.le_max_right n m)) V
  rw [BW, e1]
  exact e2'
 | exit id => exact ⟨⟨n, _, _, _, by simp only [BW, D], F⟩⟩
 | ret => exact ⟨⟨n, _, _, _, by simp only [BW, D], F⟩⟩
theorem C2 {σ ρ : Type} {step : σ → Option (σ ⊕ ρ)} {s : σ} {r : ρ} (B : shape c = .loop) (I : σ → Fr → AF → Prop) (hl : loop step s = some r) (h0 : I s fr h)
  (E : ∀ s o fr h, I s fr h → step s = some o → AW C f g (left c) fr h (KF (fun fr' h' => ∃ s', o = .inl s' ∧ I s' fr' h') (fun e fr' h' => ∃ r', o = .inr r' ∧ (r' = r → Q e fr' h')))) : AW C f g c fr h Q := by
 cases c <;> simp [shape] at B
 rename_i c
 simp only [left] at E
 obtain ⟨k, hk⟩ := P3 hl
 have key : ∀ k s fr h, I s fr h → G0 step k s = some r → AW C f g (.loop c) fr h Q := by
  intro k
  induction k with
  | zero => intro s fr h _ hk; cases hk
  | succ k ih =>
   intro s fr h hi hk
   unfold G0 at hk
   cases O : step s with
   | none => rw [O] at hk; cases hk
   | some o =>
    rw [O] at hk
    obtain ⟨n, e, fr1, h1, D, F⟩ := (E s o fr h hi O).ex
    cases e with
    | normal =>
     obtain ⟨s', rfl, hI⟩ := F
     obtain ⟨m, e2, fr2, h2, V, W⟩ := (ih s' fr1 h1 hI hk).ex
     refine ⟨⟨max n m + 1, e2, fr2, h2, ?_, W⟩⟩
     have e1 := Cu (C7 C (Nat.le_trans (Nat.le_max_left n m) (Nat.le_succ _))) D
     have e2' := Cu (C7 C (Nat.le_max_right n m)) V
     rw [BW, e1]
     exact e2'
    | exit i =>
     obtain ⟨r', rfl, hQ⟩ := F
     injection hk with hk
     exact ⟨⟨n, _, _, _, by simp only [BW, D], hQ hk⟩⟩
    | ret =>
     obtain ⟨r', rfl, hQ⟩ := F
     injection hk with hk
     exact ⟨⟨n, _, _, _, by simp only [BW, D], hQ hk⟩⟩
 exact key k s fr h h0 hk
def DS (P : Program) (f : FuncId) : Code :=
 match P.funcs[f]? with
 | some fn => (match fn.body with | some c => c | none => .skip)
 | none => .skip
def Ez (P : Program) (f : FuncId) : Option (Nat × List ResultVar) :=
 match P.funcs[f]? with
 | some fn => (match fn.body with | some _ => some (fn.ntmps, fn.results.toList) | none => none)
 | none => none
def Jd (P : Program) (rs : List ResultVar) (fr : Fr) (h : AF) : Option AB :=
 match rs.mapM (GS P fr h) with
 | some [v] => some v
 | some vs => some (.tuple vs)
 | none => none
structure X3 (P : Program) (rs : List ResultVar) (v : AB) (h' : AF) (e : B2) (fr : Fr) (h : AF) : Prop where
 no : e = .ret ∨ e = .normal
 res : Jd P rs fr h = some v
 heap : h = h'
theorem VL {args : List AB} {v : AB} {h' : AF} {n : Nat} {rs : List ResultVar} (Z : Ez C.P f = some (n, rs))
  (G : AW C f g (DS C.P f) (args ++ List.replicate (n - args.length) (.tuple [])) h (X3 C.P rs v h')) : OD C g h f args v h' := by
 obtain ⟨m, e, fr', h2, D, F⟩ := (G).ex
 unfold Ez at Z
 unfold DS at D
 refine ⟨m, ?_⟩
 unfold H7
 split at Z
 ·rename_i fn hfn
  split at Z
  ·rename_i c hc
   simp only [Option.some.injEq, Prod.mk.injEq] at Z
   obtain ⟨rfl, rfl⟩ := Z
   simp only [hfn, hc] at D ⊢
   cases e with
   | normal => obtain ⟨_, h3, rfl⟩ := F; rw [D]; simp only; rw [show Cw C.P fn fr' h2 = some v from h3]; rfl
   | ret => obtain ⟨_, h3, rfl⟩ := F; rw [D]; simp only; rw [show Cw C.P fn fr' h2 = some v from h3]; rfl
   | exit i => rcases F.no with h | h <;> cases h
  ·cases Z
 ·cases Z
theorem start {args : List AB} {n : Nat} (ins : List (Nat × AB)) (hl : (args ++ List.replicate (n - args.length) (AB.tuple [])).length = n) (hi : ins.map (fun p => nth (args ++ List.replicate (n - args.length) (AB.tuple [])) p.1) = ins.map (·.2))
  (G : ∀ fr, Has fr n ins → AW C f g c fr h Q) : AW C f g c (args ++ List.replicate (n - args.length) (.tuple [])) h Q := G _ (Has.of_map hl hi)
theorem XZ {args args' : List AB} {v : AB} {h' : AF} (hk : C.kind f = 1) (hc : BP (C.still f) args = args') (M : OD C g h f args' v h') : BZ C g h f args v h' := by
 obtain ⟨n, T⟩ := M
 refine ⟨n + 1, ?_⟩
 show GF C (Co C n) g h f args = _
 unfold GF
 rw [hk]
 simp only [hc]
 exact T
theorem YO {args args' : List AB} {u v : AB} {h1 h' : AF} (hk : C.kind f = 7) (hc : BP (C.still f) args = args') (M : OD C g h f args' u h1) (Z : M1 g h1 u = some (v, h')) : BZ C g h f args v h' := by
 obtain ⟨n, T⟩ := M
 refine ⟨n + 1, ?_⟩
 show GF C (Co C n) g h f args = _
 unfold GF
 rw [hk]
 simp only [hc, T]
 exact Z
theorem closed {args : List AB} {v : AB} (n : Nat) (M : (H7 C (Co C n) g h f args).map (·.1) = some v) : ∃ h', OD C g h f args v h' := by
 cases D : H7 C (Co C n) g h f args with
 | none => rw [D] at M; cases M
 | some x =>
  rw [D] at M
  simp only [Option.map_some, Option.some.injEq] at M
  exact ⟨x.2, n, by rw [D, ← M]⟩
end
def O0 : List Nat → Nat → Nat
 | [], _ => 0
 | a :: _, 0 => a
 | _ :: l, i + 1 => O0 l i
def OE : List ((Nat × Nat) × List (Nat × List Nat)) → Nat → Nat → List (Nat × List Nat)
 | [], _, _ => []
 | ((a, b), p) :: l, f, id => bif Nat.beq a f && Nat.beq b id then p else OE l f id
def SC (C : E8) : Nat → Bool
 | 0 => true
 | n + 1 => SC C n && (bif Nat.beq (C.kind n) 0 || Nat.beq (C.kind n) 3 then true else
   match C.P.funcs[n]? with
   | some fn => !(fn.name == "runtime.NumGoroutine") && (match fn.body with | some c => codeOk C n c | none => true)
   | none => true)
theorem Nf : ∀ {l : List Nat} {i : Nat}, l.length ≤ i → O0 l i = 0
 | [], _, _ => rfl
 | _ :: l, 0, h => by simp at h
 | _ :: l, i + 1, h => Nf (l := l) (by simpa using h)
theorem RA {C : E8} : ∀ {n : Nat}, SC C n = true → ∀ {f : Nat}, f < n → C.kind f ≠ 0 → C.kind f ≠ 3 → ∀ {fn : Func} {c : Code}, C.P.funcs[f]? = some fn → fn.body = some c → (fn.name == "runtime.NumGoroutine") = false ∧ codeOk C f c = true
 | 0, _, f, Z, _, _, _, _, _, _ => by omega
 | n + 1, h, f, Z, hk, hk3, fn, c, h1, h2 => by
  simp only [SC, Bool.and_eq_true] at h
  by_cases e : f = n
  ·subst e
   have h3 := h.2
   have : Nat.beq (C.kind f) 0 = false := by
    cases M : Nat.beq (C.kind f) 0 with
    | false => rfl
    | true => exact absurd (Nat.eq_of_beq_eq_true M) hk
   have this3 : Nat.beq (C.kind f) 3 = false := by
    cases M : Nat.beq (C.kind f) 3 with
    | false => rfl
    | true => exact absurd (Nat.eq_of_beq_eq_true M) hk3
   rw [this, this3] at h3
   simp only [Bool.or_false, cond_false, h1, h2, Bool.and_eq_true, Bool.not_eq_true'] at h3
   exact h3
  ·exact RA h.1 (by omega) hk hk3 h1 h2
def UA (P : Program) (Kk : Nat → Nat → List (Nat × List Nat)) : E8 := ⟨P, fun _ => 0, Kk, fun _ _ _ _ => none, fun _ => none, fun _ _ _ => false, fun _ => [], fun _ _ => none, V9⟩
def T2 (P : Program) (Kk : Nat → Nat → List (Nat × List Nat)) (f : FuncId) (a b : Code) : Bool := codeOk (UA P Kk) f a && codeOk (UA P Kk) f b && (HE a && HE b)
theorem Mj {C C' : E8} (h1 : C.P = C'.P) (h2 : C.Kk = C'.Kk) (f : FuncId) : ∀ c, codeOk C f c = codeOk C' f c := by
 intro c
 induction c <;> simp_all [codeOk]
end Go.Av
