/-
  AV: the rules for texts in a shorter form: plans of regions that draw nothing by their numbers; what is known of slots grows.
-/
import Derived.Test.YtipknimgfcokeaaGreatDoorAvMore
namespace Go.Av
set_option linter.unusedVariables false
set_option linter.unusedSimpArgs false
def HU (d : Nat) : List (Nat × AB) → Bool
 | [] => true
 | (i, _) :: r => bif Nat.beq i d then false else HU d r
theorem Je {d : Nat} : ∀ {l : List (Nat × AB)}, HU d l = true → ∀ p ∈ l, p.1 ≠ d
 | [], _, p, hp => by cases hp
 | (i, v) :: r, h, p, hp => by
  unfold HU at h
  rw [Hr] at h
  by_cases e : i = d
  ·rw [if_pos e] at h; cases h
  ·rw [if_neg e] at h
   cases hp with
   | head => exact e
   | tail _ hp => exact Je h p hp
def Hh (ops : Array Oper) (i : Nat) (l : List (Nat × AB)) : Bool :=
 match G4 ops i with
 | none => true
 | some d => HU d l
section
variable {C : IJ} {f : FuncId} {g : Gd} {ops : Array Oper} {tch : List (Nat × Nat)} {fr : Fr} {h h1 : AH} {K : Fr → AH → Prop} {N : Nat} {l : List (Nat × AB)} {i r : Nat}
theorem HW {l : List (Nat × AB)} (hd : Hh ops i l = true) (v : AB) : ∀ p ∈ l, nth (put fr (G4 ops i) v) p.1 = nth fr p.1 := by
 intro p hp
 unfold Hh at hd
 split at hd
 ·rename_i e; rw [e]; rfl
 ·rename_i d e
  rw [e]
  exact N9 fr v (fun e => Je hd p hp (Option.some.inj e).symm)
variable {Q : Dl → Fr → AH → Prop} {c : Code}
def KK : Code → Nat → Bool
 | .region _ ops draw, n => !draw && Nat.beq ops.size n
 | _, _ => false
theorem Bd (n : Nat) (hh : AT C g (opsOf c) (Hn 0 n) [] fr h (fun fr' h' => Q .normal fr' h')) (hs : KK c n = true := by kernel_rfl) : AW C f g c fr h Q := by
 cases c with
 | region id ops draw =>
  simp only [KK, Bool.and_eq_true, Bool.not_eq_true'] at hs
  obtain ⟨rfl, e⟩ := hs
  obtain rfl := Nat.eq_of_beq_eq_true e
  exact Vn (id := id) _ rfl rfl hh
 | _ => cases hs
theorem AQ (hh : AW C f g (left c) fr h (Lx (fun fr h => AW C f g (right c) fr h Q) Q)) (hs : shape c = .seq := by kernel_rfl) : AW C f g c fr h Q := RT hs hh
theorem Has.ls {out : List (Nat × AB)} (H : Has fr N l) (h : ∀ fr, out.map (fun p => nth (DX N l fr) p.1) = out.map (·.2) := by intro _; kernel_rfl) : Has fr N out := H.less out h
theorem AV (d : Nat) {b : Bool} {α : Type} {x y : Option α} {r : α} (H : Has fr N l) (hm : Af b x y = some r) (h1 : b = true → x = some r → Has fr N (Rf l d (.bool true)) → AW C f g (left c) fr h Q) (h2 : b = false → y = some r → Has fr N (Rf l d (.bool false)) → AW C f g (right c) fr h Q)
  (hd : Oj l d = some (.bool b) := by kernel_rfl) (hs : shape c = .cond (.tmp d) := by kernel_rfl) : AW C f g c fr h Q := by
 have e : nth fr d = .bool b := H.2 _ (MI hd)
 cases c <;> simp [shape] at hs
 subst hs
 rcases BJ hm with ⟨hb, hm⟩ | ⟨hb, hm⟩
 ·obtain ⟨n, e', fr', h', q1, q2⟩ := (h1 hb hm (H.Ve d hb hd)).ex
  rw [hb] at e
  exact ⟨⟨n, e', fr', h', by simp only [Bn, ev, e]; exact q1, q2⟩⟩
 ·obtain ⟨n, e', fr', h', q1, q2⟩ := (h2 hb hm (H.Ve d hb hd)).ex
  rw [hb] at e
  exact ⟨⟨n, e', fr', h', by simp only [Bn, ev, e]; exact q1, q2⟩⟩
def Ef (ops : Array Oper) (l : List (Nat × AB)) : List Nat → Bool
 | [] => true
 | i :: r => Hh ops i l && Ef ops l r
theorem HP {P : Program} {l : List (Nat × AB)} : ∀ (is : List Nat) (fr fr1 : Fr), Ef ops l is = true → Fy P ops is fr = some fr1 → ∀ p ∈ l, nth fr1 p.1 = nth fr p.1
 | [], fr, fr1, _, hs, p, hp => by
  simp only [Fy, Option.some.injEq] at hs
  rw [hs]
 | i :: is, fr, fr1, hd, hs, p, hp => by
  simp only [Ef, Bool.and_eq_true] at hd
  simp only [Fy] at hs
  split at hs
  ·cases hs
  ·rename_i o ho
   have e2 : G4 ops i = o.dst := by simp [G4, ho]
   have hk := fun fr v => HW (fr := fr) hd.1 v p hp
   rw [e2] at hk
   split at hs
   ·split at hs
    ·rw [HP is _ _ hd.2 hs p hp, hk]
    ·cases hs
   ·rw [HP is _ _ hd.2 hs p hp, hk]
   ·cases hs
variable {pl : List (Nat × List Nat)} {U : List Nat}
theorem AE (k : Nat) (nw : List (Nat × AB)) (H : Has fr N l) (hn : ∀ fr', Has fr' N (List.append nw l) → AT C g ops (pl.drop k) tch fr' h K)
  (hk : ∀ fr, (Pg (pl.take k), Ef ops l (EM (pl.take k)), (Fy C.P ops (EM (pl.take k)) (DX N l fr)).map (fun x => nw.map (fun p => nth x p.1))) = (true, true, some (nw.map (·.2))) := by intro _; kernel_rfl) :
  AT C g ops pl tch fr h K := by
 have hk' := hk fr
 rw [Fb H] at hk'
 simp only [Prod.mk.injEq] at hk'
 obtain ⟨hu, hd, hk'⟩ := hk'
 cases hr : Fy C.P ops (EM (pl.take k)) fr with
 | none => rw [hr] at hk'; cases hk'
 | some fr1 =>
  rw [hr] at hk'
  simp only [Option.map_some, Option.some.injEq] at hk'
  have e : pl = pl.take k ++ pl.drop k := (List.take_append_drop k pl).symm
  rw [e]
  refine Lq _ _ fr fr1 (L0 hu) hr (hn fr1 ?_)
  have h1 := Has.of_map ((GN _ _ _ hr).trans H.1) hk'
  refine ⟨h1.1, fun p hp => ?_⟩
  rcases List.mem_append.1 hp with hp | hp
  ·exact h1.2 p hp
  ·rw [HP _ fr fr1 hd hr p hp]; exact H.2 p hp
theorem Ax (d : Nat) (v : AB) (h1 : AH) (H : Has fr N l) (hs : ∀ fr, Steps C g h (DX N l fr) (M0 ops i) v h1)
  (hn : ∀ fr' t, Has fr' N ((d, v) :: l) → AT C g ops pl t fr' h1 K)
  (hw : ∀ fr, (runs ops (DX N l fr) i, G4 ops i, Nat.blt d N, HU d l) = (true, some d, true, true) := by intro _; kernel_rfl) : AT C g ops ((i, []) :: pl) tch fr h K := by
 have hw' := hw fr
 have hs' := hs fr
 rw [Fb H] at hw' hs'
 simp only [Prod.mk.injEq] at hw'
 obtain ⟨w1, w2, w3, w4⟩ := hw'
 refine IT (v := v) w1 (by rw [IH, List.nil_append]; exact hs') rfl (hn _ _ ⟨by simp [H.1], fun p hp => ?_⟩)
 rw [w2]
 show nth (fr.set d v) p.1 = p.2
 cases hp with
 | head =>
  rw [Nat.blt_eq] at w3
  rw [Ga, if_pos ⟨rfl, by rw [H.1]; exact w3⟩]
 | tail _ hp =>
  rw [Ga, if_neg (fun e => Je w4 p hp e.1.symm)]
  exact H.2 p hp
theorem K6 (v : AB) (h1 : AH) (H : Has fr N l) (hs : ∀ fr, Steps C g h (DX N l fr) (M0 ops i) v h1)
  (hn : ∀ fr' t, Has fr' N l → AT C g ops pl t fr' h1 K)
  (hw : ∀ fr, (runs ops (DX N l fr) i, Hh ops i l) = (true, true) := by intro _; kernel_rfl) : AT C g ops ((i, []) :: pl) tch fr h K := by
 have hw' := hw fr
 have hs' := hs fr
 rw [Fb H] at hw' hs'
 simp only [Prod.mk.injEq] at hw'
 obtain ⟨w1, w2⟩ := hw'
 refine IT (v := v) w1 (by rw [IH, List.nil_append]; exact hs') rfl (hn _ _ ⟨by simp [H.1], fun p hp => ?_⟩)
 rw [HW w2 v p hp]
 exact H.2 p hp
theorem BT (d : Nat) (v : AB) (h1 : AH) (tch' : List (Nat × Nat)) (pr : List Nat) (H : Has fr N l) (hs : ∀ fr, Steps C ⟨g.floor, pr⟩ h (DX N l fr) (M0 ops i) v h1)
  (hn : ∀ fr', Has fr' N ((d, v) :: l) → AT C g ops pl tch' fr' h1 K)
  (hre : ∀ fr, Kj C ops U (put (DX N l fr) (G4 ops i) v) h1 = true := by intro _; kernel_rfl)
  (hw : ∀ fr, (runs ops (DX N l fr) i, G4 ops i, Nat.blt d N, HU d l) = (true, some d, true, true) := by intro _; kernel_rfl)
  (hp : HZ tch U ++ g.BR = pr := by kernel_rfl) (ht : ∀ fr, F9 C.P h (DX N l fr) i (M0 ops i) tch = tch' := by intro _; kernel_rfl) : AT C g ops ((i, U) :: pl) tch fr h K := by
 have hw' := hw fr
 have hs' := hs fr
 have hre' := hre fr
 have ht' := ht fr
 rw [Fb H] at hw' hs' hre' ht'
 simp only [Prod.mk.injEq] at hw'
 obtain ⟨w1, w2, w3, w4⟩ := hw'
 have hh : Has (put fr (G4 ops i) v) N ((d, v) :: l) := by
  refine ⟨by simp [H.1], fun p hq => ?_⟩
  rw [w2]
  show nth (fr.set d v) p.1 = p.2
  cases hq with
  | head =>
   rw [Nat.blt_eq] at w3
   rw [Ga, if_pos ⟨rfl, by rw [H.1]; exact w3⟩]
  | tail _ hq =>
   rw [Ga, if_neg (fun e => Je w4 p hq e.1.symm)]
   exact H.2 p hq
 exact IT (v := v) w1 (by rw [hp]; exact hs') hre' (by rw [ht']; exact hn _ hh)
theorem Gj (v : AB) (h1 : AH) (tch' : List (Nat × Nat)) (pr : List Nat) (H : Has fr N l) (hs : ∀ fr, Steps C ⟨g.floor, pr⟩ h (DX N l fr) (M0 ops i) v h1)
  (hn : ∀ fr', Has fr' N l → AT C g ops pl tch' fr' h1 K)
  (hre : ∀ fr, Kj C ops U (put (DX N l fr) (G4 ops i) v) h1 = true := by intro _; kernel_rfl)
  (hw : ∀ fr, (runs ops (DX N l fr) i, Hh ops i l) = (true, true) := by intro _; kernel_rfl)
  (hp : HZ tch U ++ g.BR = pr := by kernel_rfl) (ht : ∀ fr, F9 C.P h (DX N l fr) i (M0 ops i) tch = tch' := by intro _; kernel_rfl) : AT C g ops ((i, U) :: pl) tch fr h K := by
 have hw' := hw fr
 have hs' := hs fr
 have hre' := hre fr
 have ht' := ht fr
 rw [Fb H] at hw' hs' hre' ht'
 simp only [Prod.mk.injEq] at hw'
 obtain ⟨w1, w2⟩ := hw'
 have hh : Has (put fr (G4 ops i) v) N l := by
  refine ⟨by simp [H.1], fun p hq => ?_⟩
  rw [HW w2 v p hq]
  exact H.2 p hq
 exact IT (v := v) w1 (by rw [hp]; exact hs') hre' (by rw [ht']; exact hn _ hh)
theorem BG (k : Nat) (out : List (Nat × AB)) (H : Has fr N l) (hn : ∀ fr', Has fr' N out → AT C g ops (pl.drop k) tch fr' h K)
  (hk : ∀ fr, (Pg (pl.take k), (Fy C.P ops (EM (pl.take k)) (DX N l fr)).map (fun x => out.map (fun p => nth x p.1))) = (true, some (out.map (·.2))) := by intro _; kernel_rfl) :
  AT C g ops pl tch fr h K := by
 have hu := hk fr
 simp only [Prod.mk.injEq] at hu
 have e : pl = pl.take k ++ pl.drop k := (List.take_append_drop k pl).symm
 rw [e]
 refine Vk (pl.take k) out H (L0 hu.1) (fun fr => ?_) hn
 have := hk fr
 simp only [Prod.mk.injEq] at this
 exact this.2
def M5 (P : Program) (ops : Array Oper) (is : List Nat) (fr : Fr) : Fr := (Fy P ops is fr).getD fr
def GY (pl : List (Nat × List Nat)) (k : Nat) : Nat :=
 match pl.drop k with
 | (i, _) :: _ => i
 | [] => 0
def OW (pl : List (Nat × List Nat)) (k : Nat) : Bool :=
 match pl.drop k with
 | (_, []) :: _ => true
 | _ => false
theorem R9 {pl : List (Nat × List Nat)} {k : Nat} (h : OW pl k = true) : pl.drop k = (GY pl k, []) :: pl.drop (k + 1) := by
 unfold OW at h
 unfold GY
 have e : pl.drop (k + 1) = (pl.drop k).drop 1 := by rw [List.drop_drop]
 split at h
 ·rename_i i r hd
  rw [e, hd]; rfl
 ·cases h
theorem BI (k : Nat) (nw : List (Nat × AB)) (d : Nat) (v : AB) (h1 : AH) (H : Has fr N l) (hs : ∀ fr, Steps C g h (M5 C.P ops (EM (pl.take k)) (DX N l fr)) (M0 ops (GY pl k)) v h1)
  (hn : ∀ fr' t, Has fr' N ((d, v) :: List.append nw l) → AT C g ops (pl.drop (k + 1)) t fr' h1 K)
  (hk : ∀ fr, (OW pl k && (Pg (pl.take k) && (Ef ops l (EM (pl.take k)) && (HU d l && (HU d nw && Nat.blt d N)))), (Fy C.P ops (EM (pl.take k)) (DX N l fr)).map (fun x => (runs ops x (GY pl k), G4 ops (GY pl k), nw.map (fun p => nth x p.1)))) = (true, some (true, some d, nw.map (·.2))) := by intro _; kernel_rfl) : AT C g ops pl tch fr h K := by
 have hk' := hk fr
 have hs' := hs fr
 rw [Fb H] at hk' hs'
 simp only [Prod.mk.injEq, Bool.and_eq_true] at hk'
 obtain ⟨⟨a1, a2, a3, a4, a5, a6⟩, hk'⟩ := hk'
 cases hr : Fy C.P ops (EM (pl.take k)) fr with
 | none => rw [hr] at hk'; cases hk'
 | some fr1 =>
  rw [hr] at hk'
  simp only [Option.map_some, Option.some.injEq, Prod.mk.injEq] at hk'
  obtain ⟨b1, b2, b3⟩ := hk'
  have hF : M5 C.P ops (EM (pl.take k)) fr = fr1 := by unfold M5; rw [hr]; rfl
  rw [hF] at hs'
  have hl1 : fr1.length = N := (GN _ _ _ hr).trans H.1
  have hH := Has.of_map hl1 b3
  have e : pl = pl.take k ++ pl.drop k := (List.take_append_drop k pl).symm
  rw [e]
  refine Lq _ _ fr fr1 (L0 a2) hr ?_
  rw [R9 a1]
  refine IT (v := v) b1 (by rw [IH, List.nil_append]; exact hs') rfl (hn _ _ ⟨by simp [hl1], fun p hp => ?_⟩)
  rw [b2]
  show nth (fr1.set d v) p.1 = p.2
  cases hp with
  | head =>
   rw [Nat.blt_eq] at a6
   rw [Ga, if_pos ⟨rfl, by rw [hl1]; exact a6⟩]
  | tail _ hp =>
   rcases List.mem_append.1 hp with hp | hp
   ·rw [Ga, if_neg (fun e => Je a5 p hp e.1.symm)]
    exact hH.2 p hp
   ·rw [Ga, if_neg (fun e => Je a4 p hp e.1.symm), HP _ fr fr1 a3 hr p hp]
    exact H.2 p hp
theorem TQ (k : Nat) (nw : List (Nat × AB)) (v : AB) (h1 : AH) (H : Has fr N l) (hs : ∀ fr, Steps C g h (M5 C.P ops (EM (pl.take k)) (DX N l fr)) (M0 ops (GY pl k)) v h1)
  (hn : ∀ fr' t, Has fr' N (List.append nw l) → AT C g ops (pl.drop (k + 1)) t fr' h1 K)
  (hk : ∀ fr, (OW pl k && (Pg (pl.take k) && (Ef ops l (EM (pl.take k)) && (Hh ops (GY pl k) l && Hh ops (GY pl k) nw))), (Fy C.P ops (EM (pl.take k)) (DX N l fr)).map (fun x => (runs ops x (GY pl k), nw.map (fun p => nth x p.1)))) = (true, some (true, nw.map (·.2))) := by intro _; kernel_rfl) : AT C g ops pl tch fr h K := by
 have hk' := hk fr
 have hs' := hs fr
 rw [Fb H] at hk' hs'
 simp only [Prod.mk.injEq, Bool.and_eq_true] at hk'
 obtain ⟨⟨a1, a2, a3, a4, a5⟩, hk'⟩ := hk'
 cases hr : Fy C.P ops (EM (pl.take k)) fr with
 | none => rw [hr] at hk'; cases hk'
 | some fr1 =>
  rw [hr] at hk'
  simp only [Option.map_some, Option.some.injEq, Prod.mk.injEq] at hk'
  obtain ⟨b1, b3⟩ := hk'
  have hF : M5 C.P ops (EM (pl.take k)) fr = fr1 := by unfold M5; rw [hr]; rfl
  rw [hF] at hs'
  have hl1 : fr1.length = N := (GN _ _ _ hr).trans H.1
  have hH := Has.of_map hl1 b3
  have e : pl = pl.take k ++ pl.drop k := (List.take_append_drop k pl).symm
  rw [e]
  refine Lq _ _ fr fr1 (L0 a2) hr ?_
  rw [R9 a1]
  refine IT (v := v) b1 (by rw [IH, List.nil_append]; exact hs') rfl (hn _ _ ⟨by simp [hl1], fun p hp => ?_⟩)
  rcases List.mem_append.1 hp with hp | hp
  ·rw [HW a5 v p hp]; exact hH.2 p hp
  ·rw [HW a4 v p hp, HP _ fr fr1 a3 hr p hp]; exact H.2 p hp
theorem T8 (k : Nat) (nw : List (Nat × AB)) (H : Has fr N l) (hK : ∀ fr', AW C f g c fr' h Q → K fr' h) (hh : ∀ fr', Has fr' N (List.append nw l) → AW C f g c fr' h Q)
  (hk : ∀ fr, (Pg pl, Nat.beq pl.length k, Ef ops l (EM pl), (Fy C.P ops (EM pl) (DX N l fr)).map (fun x => nw.map (fun p => nth x p.1))) = (true, true, true, some (nw.map (·.2))) := by intro _; kernel_rfl) : AT C g ops pl tch fr h K := by
 have hk' := hk fr
 simp only [Prod.mk.injEq] at hk'
 have hl := Nat.eq_of_beq_eq_true hk'.2.1
 have ht : pl.take k = pl := List.take_of_length_le (by omega)
 have hd : pl.drop k = [] := List.drop_eq_nil_of_le (by omega)
 refine AE k nw H (fun fr' H' => ?_) (fun fr => ?_)
 ·rw [hd]
  exact at_nil (hK _ (hh _ H'))
 ·have := hk fr
  simp only [Prod.mk.injEq] at this
  rw [ht]
  simp only [Prod.mk.injEq]
  exact ⟨this.1, this.2.2.1, this.2.2.2⟩
theorem WT (k : Nat) (nw : List (Nat × AB)) (n : Nat) (H : Has fr N l) (hK : ∀ fr', AW C f g c fr' h Q → K fr' h) (hh : ∀ fr', Has fr' N (List.append nw l) → AT C g (opsOf c) (Hn 0 n) [] fr' h (fun fr' h' => Q .normal fr' h'))
  (hk : ∀ fr, (Pg pl, Nat.beq pl.length k, Ef ops l (EM pl), (Fy C.P ops (EM pl) (DX N l fr)).map (fun x => nw.map (fun p => nth x p.1))) = (true, true, true, some (nw.map (·.2))) := by intro _; kernel_rfl) (hr : KK c n = true := by kernel_rfl) : AT C g ops pl tch fr h K := T8 k nw H hK (fun fr' H' => Bd n (hh fr' H') hr) hk
theorem Wf (k : Nat) (nw : List (Nat × AB)) (n : Nat) (H : Has fr N l) (hK : ∀ fr', AW C f g c fr' h Q → K fr' h) (hh : ∀ fr', Has fr' N (List.append nw l) → AT C g (opsOf (left c)) (Hn 0 n) [] fr' h (fun fr' h' => Lx (fun fr h => AW C f g (right c) fr h Q) Q .normal fr' h'))
  (hk : ∀ fr, (Pg pl, Nat.beq pl.length k, Ef ops l (EM pl), (Fy C.P ops (EM pl) (DX N l fr)).map (fun x => nw.map (fun p => nth x p.1))) = (true, true, true, some (nw.map (·.2))) := by intro _; kernel_rfl) (hs : shape c = .seq := by kernel_rfl) (hr : KK (left c) n = true := by kernel_rfl) : AT C g ops pl tch fr h K := T8 k nw H hK (fun fr' H' => AQ (Bd n (hh fr' H') hr) hs) hk
theorem BD (k : Nat) (I : Fr → AH → Prop) (h1 : AT C g ops (pl.take k) tch fr h I) (h2 : ∀ t fr h, I fr h → AT C g ops (pl.drop k) t fr h K) : AT C g ops pl tch fr h K := by
 have e : pl = pl.take k ++ pl.drop k := (List.take_append_drop k pl).symm
 rw [e]
 exact Vi _ I h1 h2
theorem EO (id n : Nat) (hh : AT C g (opsOf c) (Hn 0 n) [] fr h (fun fr' h' => Q .normal fr' h')) (hs : shape c = .region id n true := by kernel_rfl) (hp : C.LO f id = Hn 0 n := by kernel_rfl) : AW C f g c fr h Q := R4 hs _ hp hh
theorem Ft (id n : Nat) (pl : List (Nat × List Nat)) (hh : AT C g (opsOf c) pl [] fr h (fun fr' h' => Q .normal fr' h')) (hs : shape c = .region id n true := by kernel_rfl) (hp : C.LO f id = pl := by kernel_rfl) : AW C f g c fr h Q := R4 hs _ hp hh
theorem AD (n : Nat) (hh : AT C g (opsOf (left c)) (Hn 0 n) [] fr h (fun fr' h' => Lx (fun fr h => AW C f g (right c) fr h Q) Q .normal fr' h')) (hs : shape c = .seq := by kernel_rfl) (hr : KK (left c) n = true := by kernel_rfl) : AW C f g c fr h Q := RT hs (Bd n hh hr)
theorem BK (hK : AW C f g c fr h Q → K fr h) (hh : AW C f g c fr h Q) : AT C g ops [] tch fr h K := at_nil (hK hh)
theorem Gq (n : Nat) (hK : AW C f g c fr h Q → K fr h) (hh : AT C g (opsOf c) (Hn 0 n) [] fr h (fun fr' h' => Q .normal fr' h')) (hr : KK c n = true := by kernel_rfl) : AT C g ops [] tch fr h K := at_nil (hK (Bd n hh hr))
theorem CG (n : Nat) (hK : AW C f g c fr h Q → K fr h) (hh : AT C g (opsOf (left c)) (Hn 0 n) [] fr h (fun fr' h' => Lx (fun fr h => AW C f g (right c) fr h Q) Q .normal fr' h')) (hs : shape c = .seq := by kernel_rfl) (hr : KK (left c) n = true := by kernel_rfl) : AT C g ops [] tch fr h K := at_nil (hK (AD n hh hs hr))
theorem Ag (hq : Q .ret fr h) (hs : shape c = .ret := by kernel_rfl) : AW C f g c fr h Q := V5 hs hq
theorem By (hq : Q .normal fr h) (hs : shape c = .skip := by kernel_rfl) : AW C f g c fr h Q := NI hs hq
end
theorem Ah {α : Type} {a x : α} (h : some a = some x) : a = x := Option.some.inj h
theorem Ds {α β : Type} {a x : α} {b y : β} (h : some (a, b) = some (x, y)) : a = x ∧ b = y := Prod.mk.inj (Option.some.inj h)
theorem DR {α β γ : Type} {a x : α} {b y : β} {c z : γ} (h : some (a, b, c) = some (x, y, z)) : a = x ∧ b = y ∧ c = z := by
 obtain ⟨h1, h2⟩ := Ds h
 exact ⟨h1, Prod.mk.inj h2⟩
theorem RX {α β γ δ : Type} {a x : α} {b y : β} {c z : γ} {d w : δ} (h : some (a, b, c, d) = some (x, y, z, w)) : a = x ∧ b = y ∧ c = z ∧ d = w := by
 obtain ⟨h1, h2⟩ := Ds h
 exact ⟨h1, DR (congrArg some h2)⟩
theorem Xu {α β γ δ ε : Type} {a x : α} {b y : β} {c z : γ} {d w : δ} {e v : ε} (h : some (a, b, c, d, e) = some (x, y, z, w, v)) : a = x ∧ b = y ∧ c = z ∧ d = w ∧ e = v := by
 obtain ⟨h1, h2⟩ := Ds h
 exact ⟨h1, RX (congrArg some h2)⟩
end Go.Av
