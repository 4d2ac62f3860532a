/-
  AV: the rules for texts in a shorter form: plans of regions that draw nothing by their numbers; what is known of slots grows.
-/
import Derived.Test.YthnnciphldbmeaaGreatDoorAvMore
namespace Go.Av
set_option linter.unusedVariables false
set_option linter.unusedSimpArgs false
def HY (d : Nat) : List (Nat × AA) → Bool
 | [] => true
 | (i, _) :: r => bif Nat.beq i d then false else HY d r
theorem Jn {d : Nat} : ∀ {l : List (Nat × AA)}, HY d l = true → ∀ p ∈ l, p.1 ≠ d
 | [], _, p, hp => by cases hp
 | (i, v) :: r, h, p, hp => by
  unfold HY at h
  rw [IM] at h
  by_cases e : i = d
  ·rw [if_pos e] at h; cases h
  ·rw [if_neg e] at h
   cases hp with
   | head => exact e
   | tail _ hp => exact Jn h p hp
def IB (ops : Array Oper) (i : Nat) (l : List (Nat × AA)) : Bool :=
 match G8 ops i with
 | none => true
 | some d => HY d l
section
variable {C : HU} {f : FuncId} {g : Gd} {ops : Array Oper} {tch : List (Nat × Nat)} {fr : Fr} {h h1 : AH} {K : Fr → AH → Prop} {N : Nat} {l : List (Nat × AA)} {i r : Nat}
theorem Hk {l : List (Nat × AA)} (hd : IB ops i l = true) (v : AA) : ∀ p ∈ l, nth (put fr (G8 ops i) v) p.1 = nth fr p.1 := by
 intro p hp
 unfold IB at hd
 split at hd
 ·rename_i e; rw [e]; rfl
 ·rename_i d e
  rw [e]
  exact N0 fr v (fun e => Jn hd p hp (Option.some.inj e).symm)
variable {Q : C9 → Fr → AH → Prop} {c : Code}
def MB : Code → Nat → Bool
 | .region _ ops draw, n => !draw && Nat.beq ops.size n
 | _, _ => false
theorem EW (n : Nat) (hh : AT C g (opsOf c) (JC 0 n) [] fr h (fun fr' h' => Q .normal fr' h')) (hs : MB c n = true := by kernel_rfl) : AW C f g c fr h Q := by
 cases c with
 | region id ops draw =>
  simp only [MB, Bool.and_eq_true, Bool.not_eq_true'] at hs
  obtain ⟨rfl, e⟩ := hs
  obtain rfl := Nat.eq_of_beq_eq_true e
  exact WC (id := id) _ rfl rfl hh
 | _ => cases hs
theorem AQ (hh : AW C f g (left c) fr h (L2 (fun fr h => AW C f g (right c) fr h Q) Q)) (hs : shape c = .seq := by kernel_rfl) : AW C f g c fr h Q := Rg hs hh
theorem Has.ls {out : List (Nat × AA)} (H : Has fr N l) (h : ∀ fr, out.map (fun p => nth (C3 N l fr) p.1) = out.map (·.2) := by intro _; kernel_rfl) : Has fr N out := H.less out h
theorem Ak (d : Nat) {b : Bool} {α : Type} {x y : Option α} {r : α} (H : Has fr N l) (hm : Ae b x y = some r) (h1 : b = true → x = some r → Has fr N (Rv l d (.bool true)) → AW C f g (left c) fr h Q) (h2 : b = false → y = some r → Has fr N (Rv l d (.bool false)) → AW C f g (right c) fr h Q)
  (hd : Pk l d = some (.bool b) := by kernel_rfl) (hs : shape c = .cond (.tmp d) := by kernel_rfl) : AW C f g c fr h Q := by
 have e : nth fr d = .bool b := H.2 _ (Mx hd)
 cases c <;> simp [shape] at hs
 subst hs
 rcases AU hm with ⟨hb, hm⟩ | ⟨hb, hm⟩
 ·obtain ⟨n, e', fr', h', q1, q2⟩ := (h1 hb hm (H.Vs d hb hd)).ex
  rw [hb] at e
  exact ⟨⟨n, e', fr', h', by simp only [BV, ev, e]; exact q1, q2⟩⟩
 ·obtain ⟨n, e', fr', h', q1, q2⟩ := (h2 hb hm (H.Vs d hb hd)).ex
  rw [hb] at e
  exact ⟨⟨n, e', fr', h', by simp only [BV, ev, e]; exact q1, q2⟩⟩
def E1 (ops : Array Oper) (l : List (Nat × AA)) : List Nat → Bool
 | [] => true
 | i :: r => IB ops i l && E1 ops l r
theorem Hm {P : Program} {l : List (Nat × AA)} : ∀ (is : List Nat) (fr fr1 : Fr), E1 ops l is = true → GV P ops is fr = some fr1 → ∀ p ∈ l, nth fr1 p.1 = nth fr p.1
 | [], fr, fr1, _, hs, p, hp => by
  simp only [GV, Option.some.injEq] at hs
  rw [hs]
 | i :: is, fr, fr1, hd, hs, p, hp => by
  simp only [E1, Bool.and_eq_true] at hd
  simp only [GV] at hs
  split at hs
  ·cases hs
  ·rename_i o ho
   have e2 : G8 ops i = o.dst := by simp [G8, ho]
   have hk := fun fr v => Hk (fr := fr) hd.1 v p hp
   rw [e2] at hk
   split at hs
   ·split at hs
    ·rw [Hm is _ _ hd.2 hs p hp, hk]
    ·cases hs
   ·rw [Hm is _ _ hd.2 hs p hp, hk]
   ·cases hs
variable {pl : List (Nat × List Nat)} {U : List Nat}
theorem AF (k : Nat) (nw : List (Nat × AA)) (H : Has fr N l) (hn : ∀ fr', Has fr' N (List.append nw l) → AT C g ops (pl.drop k) tch fr' h K)
  (hk : ∀ fr, (Q8 (pl.take k), E1 ops l (ES (pl.take k)), (GV C.P ops (ES (pl.take k)) (C3 N l fr)).map (fun x => nw.map (fun p => nth x p.1))) = (true, true, some (nw.map (·.2))) := by intro _; kernel_rfl) :
  AT C g ops pl tch fr h K := by
 have hk' := hk fr
 rw [Eh H] at hk'
 simp only [Prod.mk.injEq] at hk'
 obtain ⟨hu, hd, hk'⟩ := hk'
 cases hr : GV C.P ops (ES (pl.take k)) fr with
 | none => rw [hr] at hk'; cases hk'
 | some fr1 =>
  rw [hr] at hk'
  simp only [Option.map_some, Option.some.injEq] at hk'
  have e : pl = pl.take k ++ pl.drop k := (List.take_append_drop k pl).symm
  rw [e]
  refine ME _ _ fr fr1 (MC hu) hr (hn fr1 ?_)
  have h1 := Has.of_map ((Ge _ _ _ hr).trans H.1) hk'
  refine ⟨h1.1, fun p hp => ?_⟩
  rcases List.mem_append.1 hp with hp | hp
  ·exact h1.2 p hp
  ·rw [Hm _ fr fr1 hd hr p hp]; exact H.2 p hp
theorem Az (d : Nat) (v : AA) (h1 : AH) (H : Has fr N l) (hs : ∀ fr, Steps C g h (C3 N l fr) (M0 ops i) v h1)
  (hn : ∀ fr' t, Has fr' N ((d, v) :: l) → AT C g ops pl t fr' h1 K)
  (hw : ∀ fr, (runs ops (C3 N l fr) i, G8 ops i, Nat.blt d N, HY d l) = (true, some d, true, true) := by intro _; kernel_rfl) : AT C g ops ((i, []) :: pl) tch fr h K := by
 have hw' := hw fr
 have hs' := hs fr
 rw [Eh H] at hw' hs'
 simp only [Prod.mk.injEq] at hw'
 obtain ⟨w1, w2, w3, w4⟩ := hw'
 refine Ha (v := v) w1 (by rw [HK, List.nil_append]; exact hs') rfl (hn _ _ ⟨by simp [H.1], fun p hp => ?_⟩)
 rw [w2]
 show nth (fr.set d v) p.1 = p.2
 cases hp with
 | head =>
  rw [Nat.blt_eq] at w3
  rw [G0, if_pos ⟨rfl, by rw [H.1]; exact w3⟩]
 | tail _ hp =>
  rw [G0, if_neg (fun e => Jn w4 p hp e.1.symm)]
  exact H.2 p hp
theorem LR (v : AA) (h1 : AH) (H : Has fr N l) (hs : ∀ fr, Steps C g h (C3 N l fr) (M0 ops i) v h1)
  (hn : ∀ fr' t, Has fr' N l → AT C g ops pl t fr' h1 K)
  (hw : ∀ fr, (runs ops (C3 N l fr) i, IB ops i l) = (true, true) := by intro _; kernel_rfl) : AT C g ops ((i, []) :: pl) tch fr h K := by
 have hw' := hw fr
 have hs' := hs fr
 rw [Eh H] at hw' hs'
 simp only [Prod.mk.injEq] at hw'
 obtain ⟨w1, w2⟩ := hw'
 refine Ha (v := v) w1 (by rw [HK, List.nil_append]; exact hs') rfl (hn _ _ ⟨by simp [H.1], fun p hp => ?_⟩)
 rw [Hk w2 v p hp]
 exact H.2 p hp
theorem B0 (d : Nat) (v : AA) (h1 : AH) (tch' : List (Nat × Nat)) (pr : List Nat) (H : Has fr N l) (hs : ∀ fr, Steps C ⟨g.floor, pr⟩ h (C3 N l fr) (M0 ops i) v h1)
  (hn : ∀ fr', Has fr' N ((d, v) :: l) → AT C g ops pl tch' fr' h1 K)
  (hre : ∀ fr, NO C ops U (put (C3 N l fr) (G8 ops i) v) h1 = true := by intro _; kernel_rfl)
  (hw : ∀ fr, (runs ops (C3 N l fr) i, G8 ops i, Nat.blt d N, HY d l) = (true, some d, true, true) := by intro _; kernel_rfl)
  (hp : Hy tch U ++ g.BU = pr := by kernel_rfl) (ht : ∀ fr, GQ C.P h (C3 N l fr) i (M0 ops i) tch = tch' := by intro _; kernel_rfl) : AT C g ops ((i, U) :: pl) tch fr h K := by
 have hw' := hw fr
 have hs' := hs fr
 have hre' := hre fr
 have ht' := ht fr
 rw [Eh H] at hw' hs' hre' ht'
 simp only [Prod.mk.injEq] at hw'
 obtain ⟨w1, w2, w3, w4⟩ := hw'
 have hh : Has (put fr (G8 ops i) v) N ((d, v) :: l) := by
  refine ⟨by simp [H.1], fun p hq => ?_⟩
  rw [w2]
  show nth (fr.set d v) p.1 = p.2
  cases hq with
  | head =>
   rw [Nat.blt_eq] at w3
   rw [G0, if_pos ⟨rfl, by rw [H.1]; exact w3⟩]
  | tail _ hq =>
   rw [G0, if_neg (fun e => Jn w4 p hq e.1.symm)]
   exact H.2 p hq
 exact Ha (v := v) w1 (by rw [hp]; exact hs') hre' (by rw [ht']; exact hn _ hh)
theorem K2 (v : AA) (h1 : AH) (tch' : List (Nat × Nat)) (pr : List Nat) (H : Has fr N l) (hs : ∀ fr, Steps C ⟨g.floor, pr⟩ h (C3 N l fr) (M0 ops i) v h1)
  (hn : ∀ fr', Has fr' N l → AT C g ops pl tch' fr' h1 K)
  (hre : ∀ fr, NO C ops U (put (C3 N l fr) (G8 ops i) v) h1 = true := by intro _; kernel_rfl)
  (hw : ∀ fr, (runs ops (C3 N l fr) i, IB ops i l) = (true, true) := by intro _; kernel_rfl)
  (hp : Hy tch U ++ g.BU = pr := by kernel_rfl) (ht : ∀ fr, GQ C.P h (C3 N l fr) i (M0 ops i) tch = tch' := by intro _; kernel_rfl) : AT C g ops ((i, U) :: pl) tch fr h K := by
 have hw' := hw fr
 have hs' := hs fr
 have hre' := hre fr
 have ht' := ht fr
 rw [Eh H] at hw' hs' hre' ht'
 simp only [Prod.mk.injEq] at hw'
 obtain ⟨w1, w2⟩ := hw'
 have hh : Has (put fr (G8 ops i) v) N l := by
  refine ⟨by simp [H.1], fun p hq => ?_⟩
  rw [Hk w2 v p hq]
  exact H.2 p hq
 exact Ha (v := v) w1 (by rw [hp]; exact hs') hre' (by rw [ht']; exact hn _ hh)
theorem Bi (k : Nat) (out : List (Nat × AA)) (H : Has fr N l) (hn : ∀ fr', Has fr' N out → AT C g ops (pl.drop k) tch fr' h K)
  (hk : ∀ fr, (Q8 (pl.take k), (GV C.P ops (ES (pl.take k)) (C3 N l fr)).map (fun x => out.map (fun p => nth x p.1))) = (true, some (out.map (·.2))) := by intro _; kernel_rfl) :
  AT C g ops pl tch fr h K := by
 have hu := hk fr
 simp only [Prod.mk.injEq] at hu
 have e : pl = pl.take k ++ pl.drop k := (List.take_append_drop k pl).symm
 rw [e]
 refine V5 (pl.take k) out H (MC hu.1) (fun fr => ?_) hn
 have := hk fr
 simp only [Prod.mk.injEq] at this
 exact this.2
def NM (P : Program) (ops : Array Oper) (is : List Nat) (fr : Fr) : Fr := (GV P ops is fr).getD fr
def Gr (pl : List (Nat × List Nat)) (k : Nat) : Nat :=
 match pl.drop k with
 | (i, _) :: _ => i
 | [] => 0
def Oy (pl : List (Nat × List Nat)) (k : Nat) : Bool :=
 match pl.drop k with
 | (_, []) :: _ => true
 | _ => false
theorem SQ {pl : List (Nat × List Nat)} {k : Nat} (h : Oy pl k = true) : pl.drop k = (Gr pl k, []) :: pl.drop (k + 1) := by
 unfold Oy at h
 unfold Gr
 have e : pl.drop (k + 1) = (pl.drop k).drop 1 := by rw [List.drop_drop]
 split at h
 ·rename_i i r hd
  rw [e, hd]; rfl
 ·cases h
theorem As (k : Nat) (nw : List (Nat × AA)) (d : Nat) (v : AA) (h1 : AH) (H : Has fr N l) (hs : ∀ fr, Steps C g h (NM C.P ops (ES (pl.take k)) (C3 N l fr)) (M0 ops (Gr pl k)) v h1)
  (hn : ∀ fr' t, Has fr' N ((d, v) :: List.append nw l) → AT C g ops (pl.drop (k + 1)) t fr' h1 K)
  (hk : ∀ fr, (Oy pl k && (Q8 (pl.take k) && (E1 ops l (ES (pl.take k)) && (HY d l && (HY d nw && Nat.blt d N)))), (GV C.P ops (ES (pl.take k)) (C3 N l fr)).map (fun x => (runs ops x (Gr pl k), G8 ops (Gr pl k), nw.map (fun p => nth x p.1)))) = (true, some (true, some d, nw.map (·.2))) := by intro _; kernel_rfl) : AT C g ops pl tch fr h K := by
 have hk' := hk fr
 have hs' := hs fr
 rw [Eh H] at hk' hs'
 simp only [Prod.mk.injEq, Bool.and_eq_true] at hk'
 obtain ⟨⟨a1, a2, a3, a4, a5, a6⟩, hk'⟩ := hk'
 cases hr : GV C.P ops (ES (pl.take k)) fr with
 | none => rw [hr] at hk'; cases hk'
 | some fr1 =>
  rw [hr] at hk'
  simp only [Option.map_some, Option.some.injEq, Prod.mk.injEq] at hk'
  obtain ⟨b1, b2, b3⟩ := hk'
  have hF : NM C.P ops (ES (pl.take k)) fr = fr1 := by unfold NM; rw [hr]; rfl
  rw [hF] at hs'
  have hl1 : fr1.length = N := (Ge _ _ _ hr).trans H.1
  have hH := Has.of_map hl1 b3
  have e : pl = pl.take k ++ pl.drop k := (List.take_append_drop k pl).symm
  rw [e]
  refine ME _ _ fr fr1 (MC a2) hr ?_
  rw [SQ a1]
  refine Ha (v := v) b1 (by rw [HK, List.nil_append]; exact hs') rfl (hn _ _ ⟨by simp [hl1], fun p hp => ?_⟩)
  rw [b2]
  show nth (fr1.set d v) p.1 = p.2
  cases hp with
  | head =>
   rw [Nat.blt_eq] at a6
   rw [G0, if_pos ⟨rfl, by rw [hl1]; exact a6⟩]
  | tail _ hp =>
   rcases List.mem_append.1 hp with hp | hp
   ·rw [G0, if_neg (fun e => Jn a5 p hp e.1.symm)]
    exact hH.2 p hp
   ·rw [G0, if_neg (fun e => Jn a4 p hp e.1.symm), Hm _ fr fr1 a3 hr p hp]
    exact H.2 p hp
theorem Ug (k : Nat) (nw : List (Nat × AA)) (v : AA) (h1 : AH) (H : Has fr N l) (hs : ∀ fr, Steps C g h (NM C.P ops (ES (pl.take k)) (C3 N l fr)) (M0 ops (Gr pl k)) v h1)
  (hn : ∀ fr' t, Has fr' N (List.append nw l) → AT C g ops (pl.drop (k + 1)) t fr' h1 K)
  (hk : ∀ fr, (Oy pl k && (Q8 (pl.take k) && (E1 ops l (ES (pl.take k)) && (IB ops (Gr pl k) l && IB ops (Gr pl k) nw))), (GV C.P ops (ES (pl.take k)) (C3 N l fr)).map (fun x => (runs ops x (Gr pl k), nw.map (fun p => nth x p.1)))) = (true, some (true, nw.map (·.2))) := by intro _; kernel_rfl) : AT C g ops pl tch fr h K := by
 have hk' := hk fr
 have hs' := hs fr
 rw [Eh H] at hk' hs'
 simp only [Prod.mk.injEq, Bool.and_eq_true] at hk'
 obtain ⟨⟨a1, a2, a3, a4, a5⟩, hk'⟩ := hk'
 cases hr : GV C.P ops (ES (pl.take k)) fr with
 | none => rw [hr] at hk'; cases hk'
 | some fr1 =>
  rw [hr] at hk'
  simp only [Option.map_some, Option.some.injEq, Prod.mk.injEq] at hk'
  obtain ⟨b1, b3⟩ := hk'
  have hF : NM C.P ops (ES (pl.take k)) fr = fr1 := by unfold NM; rw [hr]; rfl
  rw [hF] at hs'
  have hl1 : fr1.length = N := (Ge _ _ _ hr).trans H.1
  have hH := Has.of_map hl1 b3
  have e : pl = pl.take k ++ pl.drop k := (List.take_append_drop k pl).symm
  rw [e]
  refine ME _ _ fr fr1 (MC a2) hr ?_
  rw [SQ a1]
  refine Ha (v := v) b1 (by rw [HK, List.nil_append]; exact hs') rfl (hn _ _ ⟨by simp [hl1], fun p hp => ?_⟩)
  rcases List.mem_append.1 hp with hp | hp
  ·rw [Hk a5 v p hp]; exact hH.2 p hp
  ·rw [Hk a4 v p hp, Hm _ fr fr1 a3 hr p hp]; exact H.2 p hp
theorem VZ (k : Nat) (nw : List (Nat × AA)) (H : Has fr N l) (hK : ∀ fr', AW C f g c fr' h Q → K fr' h) (hh : ∀ fr', Has fr' N (List.append nw l) → AW C f g c fr' h Q)
  (hk : ∀ fr, (Q8 pl, Nat.beq pl.length k, E1 ops l (ES pl), (GV C.P ops (ES pl) (C3 N l fr)).map (fun x => nw.map (fun p => nth x p.1))) = (true, true, true, some (nw.map (·.2))) := by intro _; kernel_rfl) : AT C g ops pl tch fr h K := by
 have hk' := hk fr
 simp only [Prod.mk.injEq] at hk'
 have hl := Nat.eq_of_beq_eq_true hk'.2.1
 have ht : pl.take k = pl := List.take_of_length_le (by omega)
 have hd : pl.drop k = [] := List.drop_eq_nil_of_le (by omega)
 refine AF k nw H (fun fr' H' => ?_) (fun fr => ?_)
 ·rw [hd]
  exact at_nil (hK _ (hh _ H'))
 ·have := hk fr
  simp only [Prod.mk.injEq] at this
  rw [ht]
  simp only [Prod.mk.injEq]
  exact ⟨this.1, this.2.2.1, this.2.2.2⟩
theorem Wz (k : Nat) (nw : List (Nat × AA)) (n : Nat) (H : Has fr N l) (hK : ∀ fr', AW C f g c fr' h Q → K fr' h) (hh : ∀ fr', Has fr' N (List.append nw l) → AT C g (opsOf (left c)) (JC 0 n) [] fr' h (fun fr' h' => L2 (fun fr h => AW C f g (right c) fr h Q) Q .normal fr' h'))
  (hk : ∀ fr, (Q8 pl, Nat.beq pl.length k, E1 ops l (ES pl), (GV C.P ops (ES pl) (C3 N l fr)).map (fun x => nw.map (fun p => nth x p.1))) = (true, true, true, some (nw.map (·.2))) := by intro _; kernel_rfl) (hs : shape c = .seq := by kernel_rfl) (hr : MB (left c) n = true := by kernel_rfl) : AT C g ops pl tch fr h K := VZ k nw H hK (fun fr' H' => AQ (EW n (hh fr' H') hr) hs) hk
theorem An (k : Nat) (I : Fr → AH → Prop) (h1 : AT C g ops (pl.take k) tch fr h I) (h2 : ∀ t fr h, I fr h → AT C g ops (pl.drop k) t fr h K) : AT C g ops pl tch fr h K := by
 have e : pl = pl.take k ++ pl.drop k := (List.take_append_drop k pl).symm
 rw [e]
 exact WK _ I h1 h2
theorem EZ (id n : Nat) (hh : AT C g (opsOf c) (JC 0 n) [] fr h (fun fr' h' => Q .normal fr' h')) (hs : shape c = .region id n true := by kernel_rfl) (hp : C.Kb f id = JC 0 n := by kernel_rfl) : AW C f g c fr h Q := SO hs _ hp hh
theorem Jk (id n : Nat) (pl : List (Nat × List Nat)) (hh : AT C g (opsOf c) pl [] fr h (fun fr' h' => Q .normal fr' h')) (hs : shape c = .region id n true := by kernel_rfl) (hp : C.Kb f id = pl := by kernel_rfl) : AW C f g c fr h Q := SO hs _ hp hh
theorem AG (n : Nat) (hh : AT C g (opsOf (left c)) (JC 0 n) [] fr h (fun fr' h' => L2 (fun fr h => AW C f g (right c) fr h Q) Q .normal fr' h')) (hs : shape c = .seq := by kernel_rfl) (hr : MB (left c) n = true := by kernel_rfl) : AW C f g c fr h Q := Rg hs (EW n hh hr)
theorem BB (hK : AW C f g c fr h Q → K fr h) (hh : AW C f g c fr h Q) : AT C g ops [] tch fr h K := at_nil (hK hh)
theorem KY (n : Nat) (hK : AW C f g c fr h Q → K fr h) (hh : AT C g (opsOf c) (JC 0 n) [] fr h (fun fr' h' => Q .normal fr' h')) (hr : MB c n = true := by kernel_rfl) : AT C g ops [] tch fr h K := at_nil (hK (EW n hh hr))
theorem Cj (n : Nat) (hK : AW C f g c fr h Q → K fr h) (hh : AT C g (opsOf (left c)) (JC 0 n) [] fr h (fun fr' h' => L2 (fun fr h => AW C f g (right c) fr h Q) Q .normal fr' h')) (hs : shape c = .seq := by kernel_rfl) (hr : MB (left c) n = true := by kernel_rfl) : AT C g ops [] tch fr h K := at_nil (hK (AG n hh hs hr))
theorem AS (hq : Q .ret fr h) (hs : shape c = .ret := by kernel_rfl) : AW C f g c fr h Q := Vp hs hq
theorem IG (hq : Q .normal fr h) (hs : shape c = .skip := by kernel_rfl) : AW C f g c fr h Q := NU hs hq
end
theorem Aa {α : Type} {a x : α} (h : some a = some x) : a = x := Option.some.inj h
theorem DG {α β : Type} {a x : α} {b y : β} (h : some (a, b) = some (x, y)) : a = x ∧ b = y := Prod.mk.inj (Option.some.inj h)
theorem Li {α β γ : Type} {a x : α} {b y : β} {c z : γ} (h : some (a, b, c) = some (x, y, z)) : a = x ∧ b = y ∧ c = z := by
 obtain ⟨h1, h2⟩ := DG h
 exact ⟨h1, Prod.mk.inj h2⟩
theorem J9 {α β γ δ : Type} {a x : α} {b y : β} {c z : γ} {d w : δ} (h : some (a, b, c, d) = some (x, y, z, w)) : a = x ∧ b = y ∧ c = z ∧ d = w := by
 obtain ⟨h1, h2⟩ := DG h
 exact ⟨h1, Li (congrArg some h2)⟩
theorem Uj {α β γ δ ε : Type} {a x : α} {b y : β} {c z : γ} {d w : δ} {e v : ε} (h : some (a, b, c, d, e) = some (x, y, z, w, v)) : a = x ∧ b = y ∧ c = z ∧ d = w ∧ e = v := by
 obtain ⟨h1, h2⟩ := DG h
 exact ⟨h1, J9 (congrArg some h2)⟩
end Go.Av
