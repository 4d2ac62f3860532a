/-
  ABS, 18: rules for regions, for code, for bodies and calls: the fuel is none of the proofs' concern.
-/
import Derived.Test.YtipknimgfcokeaaGreatDoorAvStep2
namespace Go.Av
set_option linter.unusedSimpArgs false
set_option linter.unusedVariables false
def Hn : Nat → Nat → List (Nat × List Nat)
 | _, 0 => []
 | i, k + 1 => (i, []) :: Hn (i + 1) k
@[simp] theorem IH (tch : List (Nat × Nat)) : HZ tch [] = [] := by
 unfold HZ
 rw [List.filterMap_eq_nil_iff]
 intro a _
 rfl
section
variable {C : IJ} {S : Self} {g : Gd} {ops : Array Oper}
theorem KU : ∀ (k i : Nat) (tch : List (Nat × Nat)) (fr : Fr) (h : AH), i + k = ops.size → C6 C S g ops (Hn i k) tch fr h = GG C S g ops (ops.toList.drop i) fr h
 | 0, i, tch, fr, h, e => by
  have : ops.toList.drop i = [] := List.drop_eq_nil_of_le (by rw [Array.length_toList]; omega)
  rw [this]; rfl
 | k + 1, i, tch, fr, h, e => by
  have hi : i < ops.size := by omega
  have hl : i < ops.toList.length := by rw [Array.length_toList]; exact hi
  rw [List.drop_eq_getElem_cons hl, Hn, C6, GG, Array.getElem?_eq_getElem hi]
  simp only [Array.getElem_toList]
  cases Cw ops fr ops[i] with
  | none => rfl
  | some b =>
   cases b with
   | false => exact KU k (i + 1) _ _ _ (by omega)
   | true =>
    simp only [IH, List.nil_append]
    cases Bq C S g h fr ops[i].op with
    | none => rfl
    | some x => exact KU k (i + 1) _ _ _ (by omega)
end
def AT (C : IJ) (g : Gd) (ops : Array Oper) (pl : List (Nat × List Nat)) (tch : List (Nat × Nat)) (fr : Fr) (h : AH) (K : Fr → AH → Prop) : Prop :=
 ∃ n fr' h', C6 C (EK C n) g ops pl tch fr h = some (fr', h') ∧ K fr' h'
structure AW (C : IJ) (f : FuncId) (g : Gd) (c : Code) (fr : Fr) (h : AH) (Q : Dl → Fr → AH → Prop) : Prop where
 ex : ∃ n e fr' h', Bn C (EK C n) f g c fr h = some (e, fr', h') ∧ Q e fr' h'
def MH (C : IJ) (g : Gd) (h : AH) (f : FuncId) (args : List AB) (v : AB) (h' : AH) : Prop := ∃ n, It C (EK C n) g h f args = some (v, h')
def Bg (C : IJ) (g : Gd) (h : AH) (f : FuncId) (args : List AB) (v : AB) (h' : AH) : Prop := ∃ n, (EK C n).call g h f args = some (v, h')
section
variable {C : IJ} {f : FuncId} {g : Gd} {ops : Array Oper} {pl : List (Nat × List Nat)} {tch : List (Nat × Nat)} {fr : Fr} {h h1 : AH} {K : Fr → AH → Prop} {N : Nat} {l : List (Nat × AB)} {i : Nat} {U : List Nat}
theorem at_nil (h0 : K fr h) : AT C g ops [] tch fr h K := ⟨0, fr, h, rfl, h0⟩
theorem Ru {S : Nat} {pl' : List (Nat × List Nat)} {tch' : List (Nat × Nat)} {fr1 : Fr} {h1 : AH} (hh : AT C g ops pl tch fr1 h1 K)
  (hx : ∀ n x, S ≤ n → C6 C (EK C n) g ops pl tch fr1 h1 = some x → C6 C (EK C n) g ops pl' tch' fr h = some x) : AT C g ops pl' tch' fr h K := by
 obtain ⟨n, fr', h', r1, r2⟩ := hh
 exact ⟨max S n, fr', h', hx _ _ (Nat.le_max_left _ _) (Gg (F6 C (Nat.le_max_right _ _)) r1), r2⟩
def Steps (C : IJ) (g : Gd) (h : AH) (fr : Fr) (op : Op) (v : AB) (h1 : AH) : Prop := ∃ n, Bq C (EK C n) g h fr op = some (v, h1)
theorem Steps.of {op : Op} {v : AB} (hs : Bq C (EK C 0) g h fr op = some (v, h1)) : Steps C g h fr op v h1 := ⟨0, hs⟩
theorem Steps.call {op : Op} {v : AB} {f' : FuncId} {args : List AB} (hs : LN fr op = some (f', args)) (hr : Bg C g h f' args v h1) : Steps C g h fr op v h1 := by
 obtain ⟨n, hn⟩ := hr
 exact ⟨n, Vr hs hn⟩
theorem IT {v : AB} {U : List Nat} (hw : runs ops fr i = true) (hs : Steps C ⟨g.floor, HZ tch U ++ g.BR⟩ h fr (M0 ops i) v h1) (hre : Kj C ops U (put fr (G4 ops i) v) h1 = true) (hn : AT C g ops pl (F9 C.P h fr i (M0 ops i) tch) (put fr (G4 ops i) v) h1 K) :
  AT C g ops ((i, U) :: pl) tch fr h K := by
 obtain ⟨m, hm⟩ := hs
 refine Ru (S := m) hn fun n x hle hx => ?_
 have hst := Jn (F6 C hle) hm
 unfold runs at hw
 unfold M0 at hst hx
 unfold G4 at hx hre
 rw [C6]
 cases ho : ops[i]? with
 | none => rw [ho] at hw; cases hw
 | some o =>
  rw [ho] at hw hst hx hre
  simp only at hw hst hx hre ⊢
  cases hwa : Cw ops fr o with
  | none => rw [hwa] at hw; cases hw
  | some b =>
   rw [hwa] at hw
   simp only at hw
   subst hw
   simp only [hst, hre, cond_true]
   exact hx
theorem P8 (hw : Rv ops fr i = true) (hn : AT C g ops pl tch (put fr (G4 ops i) (.tuple [])) h K) : AT C g ops ((i, U) :: pl) tch fr h K := by
 refine Ru (S := 0) hn fun n x hle hx => ?_
 unfold Rv at hw
 unfold G4 at hx
 rw [C6]
 cases ho : ops[i]? with
 | none => rw [ho] at hw; cases hw
 | some o =>
  rw [ho] at hw hx
  simp only at hw hx ⊢
  cases hwa : Cw ops fr o with
  | none => rw [hwa] at hw; cases hw
  | some b =>
   rw [hwa] at hw
   simp only [Bool.not_eq_true'] at hw
   subst hw
   exact hx
def Th (ops : Array Oper) (i : Nat) (fr : Fr) (out : List (Nat × AB)) : Bool × List AB := (Rv ops fr i, out.map fun p => nth (put fr (G4 ops i) (.tuple [])) p.1)
def WU (C : IJ) (ops : Array Oper) (fr : Fr) (i : Nat) : Option (Nat × Nat × AB) :=
 match ops[i]? with
 | some o =>
  match Cw ops fr o with
  | some true =>
   match o.op, o.dst with
   | .load t a, some d =>
    match ev fr a, Jp C.P t with
    | .ptr (some (id, off)), some false => bif Nat.blt d fr.length then some (id, off, nth fr d) else none
    | _, _ => none
   | _, _ => none
  | _ => none
 | none => none
theorem MU (a b : Nat) : OX (.ptr (some (a, b))) (.ptr (some (a, b))) = true := by simp [OX]
theorem UG {i id off : Nat} {x : AB} (hs : WU C ops fr i = some (id, off, x)) (hl : O7 h1 (id, off) = some x) (hx : OX x x = true) : Ov C ops fr h1 i = true := by
 unfold WU at hs
 split at hs
 ·rename_i o ho
  split at hs
  ·rename_i hw
   split at hs
   ·rename_i t a d hop hd
    split at hs
    ·rename_i id' off' he hag
     cases hlt : Nat.blt d fr.length with
     | false => rw [hlt] at hs; cases hs
     | true =>
      rw [hlt] at hs
      simp only [cond_true, Option.some.injEq, Prod.mk.injEq] at hs
      obtain ⟨rfl, rfl, rfl⟩ := hs
      unfold O7 at hl
      split at hl
      ·rename_i v hc
       injection hl with hl
       have hg : ∃ ob, h1.get id' = some ob := by
        cases hg : h1.get id' with
        | none => rw [hg] at hc; cases hc
        | some ob => exact ⟨ob, rfl⟩
       obtain ⟨ob, hg⟩ := hg
       rw [hg] at hc
       unfold Ov
       simp only [ho, hw, hd, hop, Du, he, E4, hlt, hg, KF, Gl, hag, hc, Bool.true_and]
       rw [hl]
       exact hx
      ·cases hl
    ·cases hs
   ·cases hs
  ·cases hs
 ·cases hs
theorem Sy {U : List Nat} {u : Nat} (h : (Nat.blt u 10000 || Ov C ops fr h1 (u - 10000)) = true) (hr : Kj C ops U fr h1 = true) : Kj C ops (u :: U) fr h1 = true := by
 unfold Kj at hr ⊢
 rw [List.all_cons, h, hr]; rfl
theorem Uz (out : List (Nat × AB)) (H : Has fr N l) (hw : ∀ fr, Th ops i (DX N l fr) out = (true, out.map (·.2))) (hn : ∀ fr', Has fr' N out → AT C g ops pl tch fr' h K) : AT C g ops ((i, U) :: pl) tch fr h K := by
 have e := Fb H
 have hw' := hw fr
 rw [e] at hw'
 unfold Th at hw'
 simp only [Prod.mk.injEq] at hw'
 exact P8 hw'.1 (hn _ (Has.of_map (by simp [H.1]) hw'.2))
def Fy (P : Program) (ops : Array Oper) : List Nat → Fr → Option Fr
 | [], fr => some fr
 | i :: r, fr =>
  match ops[i]? with
  | none => none
  | some o =>
   match Cw ops fr o with
   | some true => (match W6 P fr o.op with | some v => Fy P ops r (put fr o.dst v) | none => none)
   | some false => Fy P ops r (put fr o.dst (.tuple []))
   | none => none
def EM : List (Nat × List Nat) → List Nat
 | [] => []
 | (i, _) :: r => i :: EM r
theorem S1 {P : Program} {fr : Fr} {op : Op} {v : AB} (h : W6 P fr op = some v) : BS P op = 0 := by
 unfold W6 at h
 split at h
 ·assumption
 ·cases h
theorem Lq : ∀ (sg pl : List (Nat × List Nat)) (fr fr1 : Fr), (∀ x ∈ sg, x.2 = []) → Fy C.P ops (EM sg) fr = some fr1 → AT C g ops pl tch fr1 h K → AT C g ops (sg ++ pl) tch fr h K
 | [], pl, fr, fr1, _, hs, hn => by
  simp only [EM, Fy, Option.some.injEq] at hs
  subst hs
  exact hn
 | (i, U) :: sg, pl, fr, fr1, hU, hs, hn => by
  have hU0 : U = [] := hU (i, U) (by simp)
  subst hU0
  have ih := fun fr2 hx => Lq sg pl fr2 fr1 (fun x hx => hU x (by simp [hx])) hx hn
  simp only [EM, Fy] at hs
  split at hs
  ·cases hs
  ·rename_i o ho
   split at hs
   ·rename_i hw
    split at hs
    ·rename_i v hv
     have e1 : M0 ops i = o.op := by simp [M0, ho]
     have e2 : G4 ops i = o.dst := by simp [G4, ho]
     refine IT (v := v) (h1 := h) (by simp [runs, ho, hw]) (.of (by rw [e1]; exact YD hv)) rfl ?_
     rw [e1, e2]
     have : F9 C.P h fr i o.op tch = tch := by unfold F9; rw [S1 hv]; rfl
     rw [this]
     exact ih _ hs
    ·cases hs
   ·rename_i hw
    have e2 : G4 ops i = o.dst := by simp [G4, ho]
    refine P8 (by simp [Rv, ho, hw]) ?_
    rw [e2]
    exact ih _ hs
   ·cases hs
theorem GN {P : Program} : ∀ (l : List Nat) (fr fr' : Fr), Fy P ops l fr = some fr' → fr'.length = fr.length
 | [], fr, fr', h => by simp only [Fy, Option.some.injEq] at h; rw [h]
 | i :: l, fr, fr', h => by
  simp only [Fy] at h
  split at h
  ·cases h
  ·split at h
   ·split at h
    ·rw [GN l _ _ h]; simp
    ·cases h
   ·rw [GN l _ _ h]; simp
   ·cases h
theorem Vk (sg : List (Nat × List Nat)) (out : List (Nat × AB)) (H : Has fr N l) (hU : ∀ x ∈ sg, x.2 = [])
  (hk : ∀ fr, (Fy C.P ops (EM sg) (DX N l fr)).map (fun x => out.map (fun p => nth x p.1)) = some (out.map (·.2)))
  (hn : ∀ fr', Has fr' N out → AT C g ops pl tch fr' h K) : AT C g ops (sg ++ pl) tch fr h K := by
 have hk' := hk fr
 rw [Fb H] at hk'
 cases hr : Fy C.P ops (EM sg) fr with
 | none => rw [hr] at hk'; cases hk'
 | some fr1 =>
  rw [hr] at hk'
  simp only [Option.map_some, Option.some.injEq] at hk'
  exact Lq sg pl fr fr1 hU hr (hn fr1 (Has.of_map ((GN _ _ _ hr).trans H.1) hk'))
def Pg : List (Nat × List Nat) → Bool
 | [] => true
 | (_, U) :: r => U.isEmpty && Pg r
theorem L0 : ∀ {sg : List (Nat × List Nat)}, Pg sg = true → ∀ x ∈ sg, x.2 = []
 | [], _, x, hx => by cases hx
 | (i, U) :: r, h, x, hx => by
  simp only [Pg, Bool.and_eq_true, List.isEmpty_iff] at h
  cases hx with
  | head => exact h.1
  | tail _ hx => exact L0 h.2 x hx
theorem H5 {n : Nat} {b : List (Nat × List Nat)} : ∀ (a : List (Nat × List Nat)) (tch : List (Nat × Nat)) (fr fr1 : Fr) (h h1 : AH), C6 C (EK C n) g ops a tch fr h = some (fr1, h1) →
  ∃ tch', ∀ m, n ≤ m → C6 C (EK C m) g ops (a ++ b) tch fr h = C6 C (EK C m) g ops b tch' fr1 h1
 | [], tch, fr, fr1, h, h1, hr => by
  simp only [C6, Option.some.injEq, Prod.mk.injEq] at hr
  obtain ⟨rfl, rfl⟩ := hr
  exact ⟨tch, fun _ _ => rfl⟩
 | (i, U) :: a, tch, fr, fr1, h, h1, hr => by
  rw [C6] at hr
  split at hr
  ·cases hr
  ·rename_i o ho
   split at hr
   ·rename_i hw
    split at hr
    ·rename_i v h' hs
     have hre : Kj C ops U (put fr o.dst v) h' = true := by
      cases hre : Kj C ops U (put fr o.dst v) h' with
      | false => rw [hre] at hr; cases hr
      | true => rfl
     rw [hre] at hr
     simp only [cond_true] at hr
     obtain ⟨t, ht⟩ := H5 a _ _ _ _ _ hr
     refine ⟨t, fun m hm => ?_⟩
     rw [List.cons_append, C6, ho]
     simp only [hw, Jn (F6 C hm) hs, hre, cond_true]
     exact ht m hm
    ·cases hr
   ·rename_i hw
    obtain ⟨t, ht⟩ := H5 a _ _ _ _ _ hr
    refine ⟨t, fun m hm => ?_⟩
    rw [List.cons_append, C6, ho]
    simp only [hw]
    exact ht m hm
   ·cases hr
theorem Vi (sg : List (Nat × List Nat)) (I : Fr → AH → Prop) (h1 : AT C g ops sg tch fr h I) (h2 : ∀ t fr h, I fr h → AT C g ops pl t fr h K) : AT C g ops (sg ++ pl) tch fr h K := by
 obtain ⟨n, fr1, h1', r1, r2⟩ := h1
 obtain ⟨t0, ht0⟩ := H5 (b := pl) sg tch fr fr1 h h1' r1
 obtain ⟨m, fr2, h2', r3, r4⟩ := h2 t0 _ _ r2
 refine ⟨max n m, fr2, h2', ?_, r4⟩
 rw [ht0 _ (Nat.le_max_left _ _)]
 exact Gg (F6 C (Nat.le_max_right _ _)) r3
def Lx (next : Fr → AH → Prop) (Q : Dl → Fr → AH → Prop) : Dl → Fr → AH → Prop
 | .normal, fr, h => next fr h
 | e, fr, h => Q e fr h
def Wl (id : Nat) (Q : Dl → Fr → AH → Prop) : Dl → Fr → AH → Prop
 | .exit i, fr, h => bif Nat.beq i id then Q .normal fr h else Q (.exit i) fr h
 | e, fr, h => Q e fr h
variable {Q : Dl → Fr → AH → Prop} {a b c c' : Code}
def left : Code → Code
 | .seq a _ => a
 | .cond _ a _ => a
 | .block _ c => c
 | .loop c => c
 | .scope c => c
 | .rangeFunc _ _ a _ => a
 | c => c
def right : Code → Code
 | .seq _ b => b
 | .cond _ _ b => b
 | .rangeFunc _ _ _ b => b
 | c => c
def opsOf : Code → Array Oper
 | .region _ ops _ => ops
 | _ => #[]
inductive Sh where
 | skip | region (id n : Nat) (draw : Bool) | seq | cond (x : Operand) | block (id : Nat) | loop | exit (id : Nat) | scope | label | ret | range (x : Operand) (ps : List Tmp) | other
def shape : Code → Sh
 | .skip => .skip
 | .region id ops draw => .region id ops.size draw
 | .seq _ _ => .seq
 | .cond x _ _ => .cond x
 | .block id _ => .block id
 | .loop _ => .loop
 | .exit id => .exit id
 | .scope _ => .scope
 | .rangeFunc x ps _ _ => .range x ps.toList
 | .label _ => .label
 | .ret => .ret
 | _ => .other
theorem As {Q' : Dl → Fr → AH → Prop} (hh : AW C f g c fr h Q') (hq : ∀ e fr h, Q' e fr h → Q e fr h) : AW C f g c fr h Q := by
 obtain ⟨n, e, fr', h', h1, h2⟩ := (hh).ex
 exact ⟨⟨n, e, fr', h', h1, hq _ _ _ h2⟩⟩
theorem RT (hs : shape c = .seq) (hh : AW C f g (left c) fr h (Lx (fun fr h => AW C f g (right c) fr h Q) Q)) : AW C f g c fr h Q := by
 cases c <;> simp [shape] at hs
 simp only [left, right] at hh
 obtain ⟨n, e, fr1, h1, hx, hq⟩ := (hh).ex
 cases e with
 | normal =>
  obtain ⟨m, e2, fr2, h2, hx2, hq2⟩ := hq.ex
  refine ⟨⟨max n m, e2, fr2, h2, ?_, hq2⟩⟩
  simp only [Bn, Dg (F6 C (Nat.le_max_left n m)) hx, Dg (F6 C (Nat.le_max_right n m)) hx2]
 | exit id => exact ⟨⟨n, _, _, _, by simp only [Bn, hx], hq⟩⟩
 | ret => exact ⟨⟨n, _, _, _, by simp only [Bn, hx], hq⟩⟩
theorem Vn {id n : Nat} (pl : List (Nat × List Nat)) (hs : shape c = .region id n false) (hp : Hn 0 n = pl) (hh : AT C g (opsOf c) pl [] fr h (fun fr' h' => Q .normal fr' h')) : AW C f g c fr h Q := by
 cases c <;> simp [shape] at hs
 obtain ⟨rfl, rfl, rfl⟩ := hs
 obtain ⟨n, fr', h', hr, hq⟩ := hh
 subst hp
 simp only [opsOf] at hr
 rw [KU _ _ _ _ _ (by omega), List.drop_zero] at hr
 exact ⟨⟨n, .normal, fr', h', by simp only [Bn, cond_false, hr], hq⟩⟩
theorem R4 {id n : Nat} (hs : shape c = .region id n true) (pl : List (Nat × List Nat)) (hp : C.LO f id = pl) (hh : AT C g (opsOf c) pl [] fr h (fun fr' h' => Q .normal fr' h')) : AW C f g c fr h Q := by
 cases c <;> simp [shape] at hs
 obtain ⟨rfl, rfl, rfl⟩ := hs
 obtain ⟨n, fr', h', hr, hq⟩ := hh
 simp only [opsOf] at hr
 exact ⟨⟨n, .normal, fr', h', by simp only [Bn, cond_true, hp, hr], hq⟩⟩
theorem NI (hs : shape c = .skip) (hq : Q .normal fr h) : AW C f g c fr h Q := by cases c <;> simp [shape] at hs; exact ⟨⟨0, _, _, _, rfl, hq⟩⟩
theorem Ny (hs : shape c = .label) (hq : Q .normal fr h) : AW C f g c fr h Q := by cases c <;> simp [shape] at hs; exact ⟨⟨0, _, _, _, rfl, hq⟩⟩
theorem BO {i : Nat} (hs : shape c = .exit i) (hq : Q (.exit i) fr h) : AW C f g c fr h Q := by cases c <;> simp [shape] at hs; subst hs; exact ⟨⟨0, _, _, _, rfl, hq⟩⟩
theorem V5 (hs : shape c = .ret) (hq : Q .ret fr h) : AW C f g c fr h Q := by cases c <;> simp [shape] at hs; exact ⟨⟨0, _, _, _, rfl, hq⟩⟩
theorem NC {x : Operand} (hs : shape c = .cond x) (H : Has fr N l) (hx : ∀ fr, ev (DX N l fr) x = .bool true) (hh : AW C f g (left c) fr h Q) : AW C f g c fr h Q := by
 cases c <;> simp [shape] at hs
 subst hs
 have := hx fr
 rw [Fb H] at this
 obtain ⟨n, e, fr', h', h1, h2⟩ := (hh).ex
 exact ⟨⟨n, e, fr', h', by simp only [Bn, this]; exact h1, h2⟩⟩
theorem QY {x : Operand} (hs : shape c = .cond x) (H : Has fr N l) (hx : ∀ fr, ev (DX N l fr) x = .bool false) (hh : AW C f g (right c) fr h Q) : AW C f g c fr h Q := by
 cases c <;> simp [shape] at hs
 subst hs
 have := hx fr
 rw [Fb H] at this
 obtain ⟨n, e, fr', h', h1, h2⟩ := (hh).ex
 exact ⟨⟨n, e, fr', h', by simp only [Bn, this]; exact h1, h2⟩⟩
theorem Ac {id : Nat} (hs : shape c = .block id) (hh : AW C f g (left c) fr h (Wl id Q)) : AW C f g c fr h Q := by
 cases c <;> simp [shape] at hs
 subst hs
 simp only [left] at hh
 obtain ⟨n, e, fr', h', h1, h2⟩ := (hh).ex
 cases e with
 | normal => exact ⟨⟨n, _, _, _, by simp only [Bn, h1], h2⟩⟩
 | ret => exact ⟨⟨n, _, _, _, by simp only [Bn, h1], h2⟩⟩
 | exit i =>
  rename_i id _
  simp only [Wl] at h2
  cases hb : Nat.beq i id with
  | true => rw [hb] at h2; exact ⟨⟨n, .normal, fr', h', by simp only [Bn, h1, hb, cond_true], h2⟩⟩
  | false => rw [hb] at h2; exact ⟨⟨n, .exit i, fr', h', by simp only [Bn, h1, hb, cond_false], h2⟩⟩
theorem NK (hs : shape c = .scope) (hh : AW C f g (left c) fr h Q) : AW C f g c fr h Q := by
 cases c <;> simp [shape] at hs
 simp only [left] at hh
 obtain ⟨n, e, fr', h', h1, h2⟩ := (hh).ex
 exact ⟨⟨n, e, fr', h', by simp only [Bn]; exact h1, h2⟩⟩
theorem MO (hs : shape c = .loop) (hh : AW C f g (left c) fr h (Lx (fun fr h => AW C f g c fr h Q) Q)) : AW C f g c fr h Q := by
 cases c <;> simp [shape] at hs
 rename_i c
 simp only [left] at hh
 obtain ⟨n, e, fr1, h1, hx, hq⟩ := (hh).ex
 cases e with
 | normal =>
  obtain ⟨m, e2, fr2, h2, hx2, hq2⟩ := hq.ex
  refine ⟨⟨max n m + 1, e2, fr2, h2, ?_, hq2⟩⟩
  have e1 := Dg (F6 C (Nat.le_trans (Nat.le_max_left n m) (Nat.le_succ _))) hx
  have e2' := Dg (F6 C (Nat.le_max_right n m)) hx2
  rw [Bn, e1]
  exact e2'
 | exit id => exact ⟨⟨n, _, _, _, by simp only [Bn, hx], hq⟩⟩
 | ret => exact ⟨⟨n, _, _, _, by simp only [Bn, hx], hq⟩⟩
theorem B2 {σ ρ : Type} {step : σ → Option (σ ⊕ ρ)} {s : σ} {r : ρ} (hs : shape c = .loop) (I : σ → Fr → AH → Prop) (hl : loop step s = some r) (h0 : I s fr h)
  (hr : ∀ s o fr h, I s fr h → step s = some o → AW C f g (left c) fr h (Lx (fun fr' h' => ∃ s', o = .inl s' ∧ I s' fr' h') (fun e fr' h' => ∃ r', o = .inr r' ∧ (r' = r → Q e fr' h')))) : AW C f g c fr h Q := by
 cases c <;> simp [shape] at hs
 rename_i c
 simp only [left] at hr
 obtain ⟨k, hk⟩ := PV hl
 have key : ∀ k s fr h, I s fr h → Hg step k s = some r → AW C f g (.loop c) fr h Q := by
  intro k
  induction k with
  | zero => intro s fr h _ hk; cases hk
  | succ k ih =>
   intro s fr h hi hk
   unfold Hg at hk
   cases hst : step s with
   | none => rw [hst] at hk; cases hk
   | some o =>
    rw [hst] at hk
    obtain ⟨n, e, fr1, h1, hx, hq⟩ := (hr s o fr h hi hst).ex
    cases e with
    | normal =>
     obtain ⟨s', rfl, hI⟩ := hq
     obtain ⟨m, e2, fr2, h2, hx2, hq2⟩ := (ih s' fr1 h1 hI hk).ex
     refine ⟨⟨max n m + 1, e2, fr2, h2, ?_, hq2⟩⟩
     have e1 := Dg (F6 C (Nat.le_trans (Nat.le_max_left n m) (Nat.le_succ _))) hx
     have e2' := Dg (F6 C (Nat.le_max_right n m)) hx2
     rw [Bn, e1]
     exact e2'
    | exit i =>
     obtain ⟨r', rfl, hQ⟩ := hq
     injection hk with hk
     exact ⟨⟨n, _, _, _, by simp only [Bn, hx], hQ hk⟩⟩
    | ret =>
     obtain ⟨r', rfl, hQ⟩ := hq
     injection hk with hk
     exact ⟨⟨n, _, _, _, by simp only [Bn, hx], hQ hk⟩⟩
 exact key k s fr h h0 hk
def LD (P : Program) (f : FuncId) : Code :=
 match P.funcs[f]? with
 | some fn => (match fn.body with | some c => c | none => .skip)
 | none => .skip
def Hv (P : Program) (f : FuncId) : Option (Nat × List ResultVar) :=
 match P.funcs[f]? with
 | some fn => (match fn.body with | some _ => some (fn.ntmps, fn.results.toList) | none => none)
 | none => none
def K0 (P : Program) (rs : List ResultVar) (fr : Fr) (h : AH) : Option AB :=
 match rs.mapM (HB P fr h) with
 | some [v] => some v
 | some vs => some (.tuple vs)
 | none => none
structure WZ (P : Program) (rs : List ResultVar) (v : AB) (h' : AH) (e : Dl) (fr : Fr) (h : AH) : Prop where
 no : e = .ret ∨ e = .normal
 res : K0 P rs fr h = some v
 heap : h = h'
theorem Ug {args : List AB} {v : AB} {h' : AH} {n : Nat} {rs : List ResultVar} (hf : Hv C.P f = some (n, rs))
  (hh : AW C f g (LD C.P f) (args ++ List.replicate (n - args.length) (.tuple [])) h (WZ C.P rs v h')) : MH C g h f args v h' := by
 obtain ⟨m, e, fr', h2, hx, hq⟩ := (hh).ex
 unfold Hv at hf
 unfold LD at hx
 refine ⟨m, ?_⟩
 unfold It
 split at hf
 ·rename_i fn hfn
  split at hf
  ·rename_i c hc
   simp only [Option.some.injEq, Prod.mk.injEq] at hf
   obtain ⟨rfl, rfl⟩ := hf
   simp only [hfn, hc] at hx ⊢
   cases e with
   | normal => obtain ⟨_, h3, rfl⟩ := hq; rw [hx]; simp only; rw [show F0 C.P fn fr' h2 = some v from h3]; rfl
   | ret => obtain ⟨_, h3, rfl⟩ := hq; rw [hx]; simp only; rw [show F0 C.P fn fr' h2 = some v from h3]; rfl
   | exit i => rcases hq.no with h | h <;> cases h
  ·cases hf
 ·cases hf
theorem start {args : List AB} {n : Nat} (ins : List (Nat × AB)) (hl : (args ++ List.replicate (n - args.length) (AB.tuple [])).length = n) (hi : ins.map (fun p => nth (args ++ List.replicate (n - args.length) (AB.tuple [])) p.1) = ins.map (·.2))
  (hh : ∀ fr, Has fr n ins → AW C f g c fr h Q) : AW C f g c (args ++ List.replicate (n - args.length) (.tuple [])) h Q := hh _ (Has.of_map hl hi)
theorem W1 {args args' : List AB} {v : AB} {h' : AH} (hk : C.kind f = 1) (hc : BZ (C.still f) args = args') (hb : MH C g h f args' v h') : Bg C g h f args v h' := by
 obtain ⟨n, hn⟩ := hb
 refine ⟨n + 1, ?_⟩
 show Ip C (EK C n) g h f args = _
 unfold Ip
 rw [hk]
 simp only [hc]
 exact hn
theorem W5 {args args' : List AB} {u v : AB} {h1 h' : AH} (hk : C.kind f = 7) (hc : BZ (C.still f) args = args') (hb : MH C g h f args' u h1) (hf : OR g h1 u = some (v, h')) : Bg C g h f args v h' := by
 obtain ⟨n, hn⟩ := hb
 refine ⟨n + 1, ?_⟩
 show Ip C (EK C n) g h f args = _
 unfold Ip
 rw [hk]
 simp only [hc, hn]
 exact hf
theorem Wn {args args' : List AB} {u v : AB} {h1 h' : AH} (hk : C.kind f = 9) (hc : BZ (C.still f) args = args') (hb : MH C g h f args' u h1) (hf : Pl g h1 u = some (v, h')) : Bg C g h f args v h' := by
 obtain ⟨n, hn⟩ := hb
 refine ⟨n + 1, ?_⟩
 show Ip C (EK C n) g h f args = _
 unfold Ip
 rw [hk]
 simp only [hc, hn]
 exact hf
theorem closed {args : List AB} {v : AB} (n : Nat) (hb : (It C (EK C n) g h f args).map (·.1) = some v) : ∃ h', MH C g h f args v h' := by
 cases hx : It C (EK C n) g h f args with
 | none => rw [hx] at hb; cases hb
 | some x =>
  rw [hx] at hb
  simp only [Option.map_some, Option.some.injEq] at hb
  exact ⟨x.2, n, by rw [hx, ← hb]⟩
end
def Of : List Nat → Nat → Nat
 | [], _ => 0
 | a :: _, 0 => a
 | _ :: l, i + 1 => Of l i
def N8 : List ((Nat × Nat) × List (Nat × List Nat)) → Nat → Nat → List (Nat × List Nat)
 | [], _, _ => []
 | ((a, b), p) :: l, f, id => bif Nat.beq a f && Nat.beq b id then p else N8 l f id
def SC (C : IJ) : Nat → Bool
 | 0 => true
 | n + 1 => SC C n && (bif Nat.beq (C.kind n) 0 then true else
   match C.P.funcs[n]? with
   | some fn => !(fn.name == "runtime.NumGoroutine") && (match fn.body with | some c => codeOk C n c | none => true)
   | none => true)
theorem Nf : ∀ {l : List Nat} {i : Nat}, l.length ≤ i → Of l i = 0
 | [], _, _ => rfl
 | _ :: l, 0, h => by simp at h
 | _ :: l, i + 1, h => Nf (l := l) (by simpa using h)
theorem Pt {C : IJ} : ∀ {n : Nat}, SC C n = true → ∀ {f : Nat}, f < n → C.kind f ≠ 0 → ∀ {fn : Func} {c : Code}, C.P.funcs[f]? = some fn → fn.body = some c → (fn.name == "runtime.NumGoroutine") = false ∧ codeOk C f c = true
 | 0, _, f, hf, _, _, _, _, _ => by omega
 | n + 1, h, f, hf, hk, fn, c, h1, h2 => by
  simp only [SC, Bool.and_eq_true] at h
  by_cases e : f = n
  ·subst e
   have h3 := h.2
   have : Nat.beq (C.kind f) 0 = false := by
    cases hb : Nat.beq (C.kind f) 0 with
    | false => rfl
    | true => exact absurd (Nat.eq_of_beq_eq_true hb) hk
   rw [this] at h3
   simp only [cond_false, h1, h2, Bool.and_eq_true, Bool.not_eq_true'] at h3
   exact h3
  ·exact Pt h.1 (by omega) hk h1 h2
def Ua (P : Program) (LO : Nat → Nat → List (Nat × List Nat)) : IJ := ⟨P, fun _ => 0, LO, fun _ _ _ _ => none, fun _ => none, fun _ _ _ => false, fun _ => []⟩
def TO (P : Program) (LO : Nat → Nat → List (Nat × List Nat)) (f : FuncId) (a b : Code) : Bool := codeOk (Ua P LO) f a && codeOk (Ua P LO) f b && (He a && He b)
theorem Mg {C C' : IJ} (h1 : C.P = C'.P) (h2 : C.LO = C'.LO) (f : FuncId) : ∀ c, codeOk C f c = codeOk C' f c := by
 intro c
 induction c <;> simp_all [codeOk]
end Go.Av
