/-
  ABS, 15: more fuel does no harm: what the abstract run tells with less it tells with more.
-/
import Derived.Test.YtdpebdaplhfbjaaGreatDoorAvRun
namespace Go.Av
set_option linter.unusedVariables false
set_option linter.unusedSimpArgs false
def Self.le (S S' : Self) : Prop := (∀ g h f args x, S.call g h f args = some x → S'.call g h f args = some x) ∧ (∀ g f c fr h x, S.loop g f c fr h = some x → S'.loop g f c fr h = some x) ∧ ∀ g h l args x, S.round g h l args = some x → S'.round g h l args = some x
section
variable {C : Cfg} {S S' : Self}
theorem stepA_mono (hS : S.le S') {g : Gd} {h : AHeap} {fr : Fr} {op : Op} {x : AVal × AHeap} (hs : stepA C S g h fr op = some x) : stepA C S' g h fr op = some x := by
 unfold stepA at hs ⊢
 split at hs
 ·split at hs
  ·exact hS.1 _ _ _ _ _ hs
  ·exact hS.2.2 _ _ _ _ _ hs
  ·cases hs
 ·exact hs
theorem runOps_mono (hS : S.le S') {g : Gd} {ops : Array Oper} : ∀ {l : List Oper} {fr : Fr} {h : AHeap} {x : Fr × AHeap}, runOps C S g ops l fr h = some x → runOps C S' g ops l fr h = some x
 | [], fr, h, x, hx => hx
 | o :: l, fr, h, x, hx => by
  unfold runOps at hx ⊢
  split at hx
  ·split at hx
   ·rename_i v h' hs
    simp only [stepA_mono hS hs]
    exact runOps_mono hS hx
   ·cases hx
  ·exact runOps_mono hS hx
  ·cases hx
theorem runPlan_mono (hS : S.le S') {g : Gd} {ops : Array Oper} : ∀ {l : List (Nat × List Nat)} {tch : List (Nat × Nat)} {fr : Fr} {h : AHeap} {x : Fr × AHeap}, runPlan C S g ops l tch fr h = some x → runPlan C S' g ops l tch fr h = some x
 | [], tch, fr, h, x, hx => hx
 | (i, U) :: l, tch, fr, h, x, hx => by
  unfold runPlan at hx ⊢
  split at hx
  ·cases hx
  ·split at hx
   ·split at hx
    ·rename_i v h' hs
     simp only [stepA_mono hS hs]
     cases hre : reOk C ops U (put fr _ v) h' with
     | false => rw [hre] at hx; cases hx
     | true => rw [hre] at hx; exact runPlan_mono hS hx
    ·cases hx
   ·exact runPlan_mono hS hx
   ·cases hx
theorem execA_mono (hS : S.le S') {f : FuncId} {g : Gd} : ∀ {c : Code} {fr : Fr} {h : AHeap} {x : AExit × Fr × AHeap}, execA C S f g c fr h = some x → execA C S' f g c fr h = some x := by
 intro c
 induction c with
 | skip => intro fr h x hx; exact hx
 | label l => intro fr h x hx; exact hx
 | exit id => intro fr h x hx; exact hx
 | ret => intro fr h x hx; exact hx
 | goto l => intro fr h x hx; exact hx
 | refuse s => intro fr h x hx; exact hx
 | rangeFunc y ps a b iha ihb =>
  intro fr h x hx
  simp only [execA] at hx ⊢
  split at hx
  ·rename_i f' first cap hev
   cases hbd : bodied C.P f' with
   | false => rw [hbd] at hx; cases hx
   | true =>
    rw [hbd] at hx
    simp only [Bool.not_true, cond_false] at hx ⊢
    split at hx
    ·rename_i v0 h2 hc
     rw [hS.1 _ _ _ _ _ hc]
     exact hx
    ·cases hx
  ·cases hx
 | region id ops draw =>
  intro fr h x hx
  simp only [execA] at hx ⊢
  cases draw with
  | true =>
   simp only [cond_true] at hx ⊢
   split at hx
   ·rename_i fr' h' hr; rw [runPlan_mono hS hr]; exact hx
   ·cases hx
  | false =>
   simp only [cond_false] at hx ⊢
   split at hx
   ·rename_i fr' h' hr; rw [runOps_mono hS hr]; exact hx
   ·cases hx
 | seq a b iha ihb =>
  intro fr h x hx
  simp only [execA] at hx ⊢
  split at hx
  ·rename_i fr' h' ha; rw [iha ha]; exact ihb hx
  ·rename_i hne
   have := iha hx
   rw [this]
   split
   ·rename_i fr' h' he
    exact absurd (hx.trans he) (hne _ _)
   ·rfl
 | cond c a b iha ihb =>
  intro fr h x hx
  simp only [execA] at hx ⊢
  split at hx
  ·exact iha hx
  ·exact ihb hx
  ·cases hx
 | block id c ih =>
  intro fr h x hx
  simp only [execA] at hx ⊢
  split at hx
  ·rename_i i fr' h' ha; rw [ih ha]; exact hx
  ·rename_i hne
   rw [ih hx]
   split
   ·rename_i i fr' h' he
    exact absurd (hx.trans he) (hne _ _ _)
   ·rfl
 | loop c ih =>
  intro fr h x hx
  simp only [execA] at hx ⊢
  split at hx
  ·rename_i fr' h' ha; rw [ih ha]; exact hS.2.1 _ _ _ _ _ _ hx
  ·rename_i hne
   rw [ih hx]
   split
   ·rename_i fr' h' he
    exact absurd (hx.trans he) (hne _ _)
   ·rfl
 | scope c ih =>
  intro fr h x hx
  simp only [execA] at hx ⊢
  exact ih hx
theorem execS_mono (hS : S.le S') {f : FuncId} {g : Gd} : ∀ {c : Code} {fr : Fr} {h : AHeap} {x : AExit × Fr × AHeap}, execS C S f g c fr h = some x → execS C S' f g c fr h = some x := by
 have base : ∀ {c : Code} {fr : Fr} {h : AHeap} {x : AExit × Fr × AHeap}, (bif isSel c then runSel C S g c fr h else execA C S f g c fr h) = some x → (bif isSel c then runSel C S' g c fr h else execA C S' f g c fr h) = some x := by
  intro c fr h x hx
  cases hs : isSel c with
  | false => rw [hs] at hx; exact execA_mono hS hx
  | true =>
   rw [hs] at hx
   simp only [cond_true] at hx ⊢
   unfold runSel at hx ⊢
   split at hx
   ·split at hx
    ·split at hx
     ·split at hx
      ·rename_i fr' h' hr; simp only [runOps_mono hS hr]; exact hx
      ·cases hx
     ·cases hx
    ·cases hx
   ·cases hx
 intro c
 induction c with
 | seq a b iha ihb =>
  intro fr h x hx
  simp only [execS] at hx ⊢
  split at hx
  ·rename_i fr' h' ha; rw [iha ha]; exact ihb hx
  ·rename_i hne
   have := iha hx
   rw [this]
   split
   ·rename_i fr' h' he
    exact absurd (hx.trans he) (hne _ _)
   ·rfl
 | _ => intro fr h x hx; simp only [execS] at hx ⊢; exact base hx
theorem bodyS_mono (hS : S.le S') {g : Gd} {h : AHeap} {f : FuncId} {args : List AVal} {x : AVal × AHeap} (hb : bodyS C S g h f args = some x) : bodyS C S' g h f args = some x := by
 unfold bodyS at hb ⊢
 split at hb
 ·cases hb
 ·split at hb
  ·cases hb
  ·split at hb
   ·rename_i fr' h' he; rw [execS_mono hS he]; exact hb
   ·rename_i fr' h' he; rw [execS_mono hS he]; exact hb
   ·cases hb
theorem roundA_mono (hS : S.le S') {g : Gd} {h : AHeap} {l : Nat} {args : List AVal} {x : AVal × AHeap} (hb : roundA C S g h l args = some x) : roundA C S' g h l args = some x := by
 unfold roundA at hb ⊢
 split at hb
 ·cases hc : (Nat.beq args.length _ && (g.may l && C.rok _ _ _)) with
  | false => rw [hc] at hb; cases hb
  | true =>
   rw [hc] at hb
   simp only [cond_true] at hb ⊢
   split at hb
   ·rename_i fr1 h1 hx1
    rw [execA_mono hS hx1]
    simp only
    split at hb
    ·split at hb
     ·rename_i fr2 h3 hx2; rw [execA_mono hS hx2]; exact hb
     ·rename_i fr2 h3 hx2; rw [execA_mono hS hx2]; exact hb
     ·rename_i i fr2 h3 hx2; rw [execA_mono hS hx2]; exact hb
     ·cases hb
    ·cases hb
   ·cases hb
 ·cases hb
theorem bodyA_mono (hS : S.le S') {g : Gd} {h : AHeap} {f : FuncId} {args : List AVal} {x : AVal × AHeap} (hb : bodyA C S g h f args = some x) : bodyA C S' g h f args = some x := by
 unfold bodyA at hb ⊢
 split at hb
 ·cases hb
 ·split at hb
  ·cases hb
  ·split at hb
   ·rename_i fr' h' he; rw [execA_mono hS he]; exact hb
   ·rename_i fr' h' he; rw [execA_mono hS he]; exact hb
   ·cases hb
theorem callA_mono (hS : S.le S') {g : Gd} {h : AHeap} {f : FuncId} {args : List AVal} {x : AVal × AHeap} (hb : callA C S g h f args = some x) : callA C S' g h f args = some x := by
 unfold callA at hb ⊢
 split at hb
 ·exact bodyA_mono hS hb
 ·split at hb
  ·rename_i v h' he; rw [bodyA_mono hS he]; exact hb
  ·cases hb
 ·exact hb
 ·cases ha : args.all flat2 with
  | false => rw [ha] at hb; cases hb
  | true =>
   rw [ha] at hb
   simp only [cond_true] at hb ⊢
   split at hb
   ·rename_i v h' he; rw [bodyA_mono hS he]; exact hb
   ·cases hb
 ·split at hb
  ·rename_i v h' he; rw [bodyA_mono hS he]; exact hb
  ·cases hb
 ·exact bodyS_mono hS hb
 ·split at hb
  ·rename_i v h' he; rw [bodyA_mono hS he]; exact hb
  ·cases hb
 ·cases hb
theorem selfN_succ (C : Cfg) : ∀ n, (selfN C n).le (selfN C (n + 1))
 | 0 => ⟨fun _ _ _ _ _ h => by simp [selfN] at h, fun _ _ _ _ _ _ h => by simp [selfN] at h, fun _ _ _ _ _ h => by simp [selfN] at h⟩
 | n + 1 => ⟨fun _ _ _ _ _ h => callA_mono (selfN_succ C n) h, fun _ _ _ _ _ _ h => execA_mono (selfN_succ C n) h, fun _ _ _ _ _ h => roundA_mono (selfN_succ C n) h⟩
theorem Self.le_refl (S : Self) : S.le S := ⟨fun _ _ _ _ _ h => h, fun _ _ _ _ _ _ h => h, fun _ _ _ _ _ h => h⟩
theorem Self.le.trans {S T U : Self} (h : S.le T) (k : T.le U) : S.le U := ⟨fun _ _ _ _ _ x => k.1 _ _ _ _ _ (h.1 _ _ _ _ _ x), fun _ _ _ _ _ _ x => k.2.1 _ _ _ _ _ _ (h.2.1 _ _ _ _ _ _ x), fun _ _ _ _ _ x => k.2.2 _ _ _ _ _ (h.2.2 _ _ _ _ _ x)⟩
theorem selfN_le (C : Cfg) {n m : Nat} (h : n ≤ m) : (selfN C n).le (selfN C m) := by
 induction h with
 | refl => exact Self.le_refl _
 | step h ih => exact ih.trans (selfN_succ C _)
end
end Go.Av
