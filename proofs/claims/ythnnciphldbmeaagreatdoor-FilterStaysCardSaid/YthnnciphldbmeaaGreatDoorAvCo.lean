/-
  AV: the rules for texts in a shorter form: plans of regions that draw nothing by their numbers; what is known of slots grows.
-/
import Derived.Test.YthnnciphldbmeaaGreatDoorAvMore
namespace Go.Av
set_option linter.unusedVariables false
set_option linter.unusedSimpArgs false
def Hw (d : Nat) : List (Nat × AD) → Bool
 | [] => true
 | (i, _) :: r => bif Nat.beq i d then false else Hw d r
theorem Jw {d : Nat} : ∀ {l : List (Nat × AD)}, Hw d l = true → ∀ p ∈ l, p.1 ≠ d
 | [], _, p, hp => by cases hp
 | (i, v) :: r, h, p, hp => by
  unfold Hw at h
  rw [IN] at h
  by_cases e : i = d
  ·rw [if_pos e] at h; cases h
  ·rw [if_neg e] at h
   cases hp with
   | head => exact e
   | tail _ hp => exact Jw h p hp
def IF (ops : Array Oper) (i : Nat) (l : List (Nat × AD)) : Bool :=
 match HO ops i with
 | none => true
 | some d => Hw d l
section
variable {C : Hj} {f : FuncId} {g : Gd} {ops : Array Oper} {tch : List (Nat × Nat)} {fr : Fr} {h h1 : AM} {K : Fr → AM → Prop} {N : Nat} {l : List (Nat × AD)} {i r : Nat}
theorem Hr {l : List (Nat × AD)} (hd : IF ops i l = true) (v : AD) : ∀ p ∈ l, nth (put fr (HO ops i) v) p.1 = nth fr p.1 := by
 intro p hp
 unfold IF at hd
 split at hd
 ·rename_i e; rw [e]; rfl
 ·rename_i d e
  rw [e]
  exact O7 fr v (fun e => Jw hd p hp (Option.some.inj e).symm)
variable {Q : DK → Fr → AM → Prop} {c : Code}
def Mp : Code → Nat → Bool
 | .region _ ops draw, n => !draw && Nat.beq ops.size n
 | _, _ => false
theorem ED (n : Nat) (hh : AT C g (opsOf c) (JF 0 n) [] fr h (fun fr' h' => Q .normal fr' h')) (hs : Mp c n = true := by kernel_rfl) : AW C f g c fr h Q := by
 cases c with
 | region id ops draw =>
  simp only [Mp, Bool.and_eq_true, Bool.not_eq_true'] at hs
  obtain ⟨rfl, e⟩ := hs
  obtain rfl := Nat.eq_of_beq_eq_true e
  exact Wi (id := id) _ rfl rfl hh
 | _ => cases hs
theorem AV (hh : AW C f g (left c) fr h (Mx (fun fr h => AW C f g (right c) fr h Q) Q)) (hs : shape c = .seq := by kernel_rfl) : AW C f g c fr h Q := SR hs hh
theorem Has.ls {out : List (Nat × AD)} (H : Has fr N l) (h : ∀ fr, out.map (fun p => nth (DE N l fr) p.1) = out.map (·.2) := by intro _; kernel_rfl) : Has fr N out := H.less out h
theorem Ak (d : Nat) {b : Bool} {α : Type} {x y : Option α} {r : α} (H : Has fr N l) (hm : Af b x y = some r) (h1 : b = true → x = some r → Has fr N (SP l d (.bool true)) → AW C f g (left c) fr h Q) (h2 : b = false → y = some r → Has fr N (SP l d (.bool false)) → AW C f g (right c) fr h Q)
  (hd : Pu l d = some (.bool b) := by kernel_rfl) (hs : shape c = .cond (.tmp d) := by kernel_rfl) : AW C f g c fr h Q := by
 have e : nth fr d = .bool b := H.2 _ (NU hd)
 cases c <;> simp [shape] at hs
 subst hs
 rcases Ac hm with ⟨hb, hm⟩ | ⟨hb, hm⟩
 ·obtain ⟨n, e', fr', h', q1, q2⟩ := (h1 hb hm (H.Wj d hb hd)).ex
  rw [hb] at e
  exact ⟨⟨n, e', fr', h', by simp only [Bd, ev, e]; exact q1, q2⟩⟩
 ·obtain ⟨n, e', fr', h', q1, q2⟩ := (h2 hb hm (H.Wj d hb hd)).ex
  rw [hb] at e
  exact ⟨⟨n, e', fr', h', by simp only [Bd, ev, e]; exact q1, q2⟩⟩
def FL (ops : Array Oper) (l : List (Nat × AD)) : List Nat → Bool
 | [] => true
 | i :: r => IF ops i l && FL ops l r
theorem Hz {P : Program} {l : List (Nat × AD)} : ∀ (is : List Nat) (fr fr1 : Fr), FL ops l is = true → Gi P ops is fr = some fr1 → ∀ p ∈ l, nth fr1 p.1 = nth fr p.1
 | [], fr, fr1, _, hs, p, hp => by
  simp only [Gi, Option.some.injEq] at hs
  rw [hs]
 | i :: is, fr, fr1, hd, hs, p, hp => by
  simp only [FL, Bool.and_eq_true] at hd
  simp only [Gi] at hs
  split at hs
  ·cases hs
  ·rename_i o ho
   have e2 : HO ops i = o.dst := by simp [HO, ho]
   have hk := fun fr v => Hr (fr := fr) hd.1 v p hp
   rw [e2] at hk
   split at hs
   ·split at hs
    ·rw [Hz is _ _ hd.2 hs p hp, hk]
    ·cases hs
   ·rw [Hz is _ _ hd.2 hs p hp, hk]
   ·cases hs
variable {pl : List (Nat × List Nat)} {U : List Nat}
theorem AG (k : Nat) (nw : List (Nat × AD)) (H : Has fr N l) (hn : ∀ fr', Has fr' N (List.append nw l) → AT C g ops (pl.drop k) tch fr' h K)
  (hk : ∀ fr, (Ra (pl.take k), FL ops l (Eg (pl.take k)), (Gi C.P ops (Eg (pl.take k)) (DE N l fr)).map (fun x => nw.map (fun p => nth x p.1))) = (true, true, some (nw.map (·.2))) := by intro _; kernel_rfl) :
  AT C g ops pl tch fr h K := by
 have hk' := hk fr
 rw [E4 H] at hk'
 simp only [Prod.mk.injEq] at hk'
 obtain ⟨hu, hd, hk'⟩ := hk'
 cases hr : Gi C.P ops (Eg (pl.take k)) fr with
 | none => rw [hr] at hk'; cases hk'
 | some fr1 =>
  rw [hr] at hk'
  simp only [Option.map_some, Option.some.injEq] at hk'
  have e : pl = pl.take k ++ pl.drop k := (List.take_append_drop k pl).symm
  rw [e]
  refine Ms _ _ fr fr1 (MX hu) hr (hn fr1 ?_)
  have h1 := Has.of_map ((Gm _ _ _ hr).trans H.1) hk'
  refine ⟨h1.1, fun p hp => ?_⟩
  rcases List.mem_append.1 hp with hp | hp
  ·exact h1.2 p hp
  ·rw [Hz _ fr fr1 hd hr p hp]; exact H.2 p hp
theorem As (d : Nat) (v : AD) (h1 : AM) (H : Has fr N l) (hs : ∀ fr, Steps C g h (DE N l fr) (Na ops i) v h1)
  (hn : ∀ fr' t, Has fr' N ((d, v) :: l) → AT C g ops pl t fr' h1 K)
  (hw : ∀ fr, (runs ops (DE N l fr) i, HO ops i, Nat.blt d N, Hw d l) = (true, some d, true, true) := by intro _; kernel_rfl) : AT C g ops ((i, []) :: pl) tch fr h K := by
 have hw' := hw fr
 have hs' := hs fr
 rw [E4 H] at hw' hs'
 simp only [Prod.mk.injEq] at hw'
 obtain ⟨w1, w2, w3, w4⟩ := hw'
 refine Hl (v := v) w1 (by rw [HZ, List.nil_append]; exact hs') rfl (hn _ _ ⟨by simp [H.1], fun p hp => ?_⟩)
 rw [w2]
 show nth (fr.set d v) p.1 = p.2
 cases hp with
 | head =>
  rw [Nat.blt_eq] at w3
  rw [HJ, if_pos ⟨rfl, by rw [H.1]; exact w3⟩]
 | tail _ hp =>
  rw [HJ, if_neg (fun e => Jw w4 p hp e.1.symm)]
  exact H.2 p hp
theorem Mv (v : AD) (h1 : AM) (H : Has fr N l) (hs : ∀ fr, Steps C g h (DE N l fr) (Na ops i) v h1)
  (hn : ∀ fr' t, Has fr' N l → AT C g ops pl t fr' h1 K)
  (hw : ∀ fr, (runs ops (DE N l fr) i, IF ops i l) = (true, true) := by intro _; kernel_rfl) : AT C g ops ((i, []) :: pl) tch fr h K := by
 have hw' := hw fr
 have hs' := hs fr
 rw [E4 H] at hw' hs'
 simp only [Prod.mk.injEq] at hw'
 obtain ⟨w1, w2⟩ := hw'
 refine Hl (v := v) w1 (by rw [HZ, List.nil_append]; exact hs') rfl (hn _ _ ⟨by simp [H.1], fun p hp => ?_⟩)
 rw [Hr w2 v p hp]
 exact H.2 p hp
theorem CO (d : Nat) (v : AD) (h1 : AM) (tch' : List (Nat × Nat)) (pr : List Nat) (H : Has fr N l) (hs : ∀ fr, Steps C ⟨g.floor, pr⟩ h (DE N l fr) (Na ops i) v h1)
  (hn : ∀ fr', Has fr' N ((d, v) :: l) → AT C g ops pl tch' fr' h1 K)
  (hre : ∀ fr, N4 C ops U (put (DE N l fr) (HO ops i) v) h1 = true := by intro _; kernel_rfl)
  (hw : ∀ fr, (runs ops (DE N l fr) i, HO ops i, Nat.blt d N, Hw d l) = (true, some d, true, true) := by intro _; kernel_rfl)
  (hp : H8 tch U ++ g.Bm = pr := by kernel_rfl) (ht : ∀ fr, GZ C.P h (DE N l fr) i (Na ops i) tch = tch' := by intro _; kernel_rfl) : AT C g ops ((i, U) :: pl) tch fr h K := by
 have hw' := hw fr
 have hs' := hs fr
 have hre' := hre fr
 have ht' := ht fr
 rw [E4 H] at hw' hs' hre' ht'
 simp only [Prod.mk.injEq] at hw'
 obtain ⟨w1, w2, w3, w4⟩ := hw'
 have hh : Has (put fr (HO ops i) v) N ((d, v) :: l) := by
  refine ⟨by simp [H.1], fun p hq => ?_⟩
  rw [w2]
  show nth (fr.set d v) p.1 = p.2
  cases hq with
  | head =>
   rw [Nat.blt_eq] at w3
   rw [HJ, if_pos ⟨rfl, by rw [H.1]; exact w3⟩]
  | tail _ hq =>
   rw [HJ, if_neg (fun e => Jw w4 p hq e.1.symm)]
   exact H.2 p hq
 exact Hl (v := v) w1 (by rw [hp]; exact hs') hre' (by rw [ht']; exact hn _ hh)
theorem I7 (v : AD) (h1 : AM) (tch' : List (Nat × Nat)) (pr : List Nat) (H : Has fr N l) (hs : ∀ fr, Steps C ⟨g.floor, pr⟩ h (DE N l fr) (Na ops i) v h1)
  (hn : ∀ fr', Has fr' N l → AT C g ops pl tch' fr' h1 K)
  (hre : ∀ fr, N4 C ops U (put (DE N l fr) (HO ops i) v) h1 = true := by intro _; kernel_rfl)
  (hw : ∀ fr, (runs ops (DE N l fr) i, IF ops i l) = (true, true) := by intro _; kernel_rfl)
  (hp : H8 tch U ++ g.Bm = pr := by kernel_rfl) (ht : ∀ fr, GZ C.P h (DE N l fr) i (Na ops i) tch = tch' := by intro _; kernel_rfl) : AT C g ops ((i, U) :: pl) tch fr h K := by
 have hw' := hw fr
 have hs' := hs fr
 have hre' := hre fr
 have ht' := ht fr
 rw [E4 H] at hw' hs' hre' ht'
 simp only [Prod.mk.injEq] at hw'
 obtain ⟨w1, w2⟩ := hw'
 have hh : Has (put fr (HO ops i) v) N l := by
  refine ⟨by simp [H.1], fun p hq => ?_⟩
  rw [Hr w2 v p hq]
  exact H.2 p hq
 exact Hl (v := v) w1 (by rw [hp]; exact hs') hre' (by rw [ht']; exact hn _ hh)
theorem Bk (k : Nat) (out : List (Nat × AD)) (H : Has fr N l) (hn : ∀ fr', Has fr' N out → AT C g ops (pl.drop k) tch fr' h K)
  (hk : ∀ fr, (Ra (pl.take k), (Gi C.P ops (Eg (pl.take k)) (DE N l fr)).map (fun x => out.map (fun p => nth x p.1))) = (true, some (out.map (·.2))) := by intro _; kernel_rfl) :
  AT C g ops pl tch fr h K := by
 have hu := hk fr
 simp only [Prod.mk.injEq] at hu
 have e : pl = pl.take k ++ pl.drop k := (List.take_append_drop k pl).symm
 rw [e]
 refine XA (pl.take k) out H (MX hu.1) (fun fr => ?_) hn
 have := hk fr
 simp only [Prod.mk.injEq] at this
 exact this.2
def N0 (P : Program) (ops : Array Oper) (is : List Nat) (fr : Fr) : Fr := (Gi P ops is fr).getD fr
def G0 (pl : List (Nat × List Nat)) (k : Nat) : Nat :=
 match pl.drop k with
 | (i, _) :: _ => i
 | [] => 0
def Pn (pl : List (Nat × List Nat)) (k : Nat) : Bool :=
 match pl.drop k with
 | (_, []) :: _ => true
 | _ => false
theorem S3 {pl : List (Nat × List Nat)} {k : Nat} (h : Pn pl k = true) : pl.drop k = (G0 pl k, []) :: pl.drop (k + 1) := by
 unfold Pn at h
 unfold G0
 have e : pl.drop (k + 1) = (pl.drop k).drop 1 := by rw [List.drop_drop]
 split at h
 ·rename_i i r hd
  rw [e, hd]; rfl
 ·cases h
theorem Ax (k : Nat) (nw : List (Nat × AD)) (d : Nat) (v : AD) (h1 : AM) (H : Has fr N l) (hs : ∀ fr, Steps C g h (N0 C.P ops (Eg (pl.take k)) (DE N l fr)) (Na ops (G0 pl k)) v h1)
  (hn : ∀ fr' t, Has fr' N ((d, v) :: List.append nw l) → AT C g ops (pl.drop (k + 1)) t fr' h1 K)
  (hk : ∀ fr, (Pn pl k && (Ra (pl.take k) && (FL ops l (Eg (pl.take k)) && (Hw d l && (Hw d nw && Nat.blt d N)))), (Gi C.P ops (Eg (pl.take k)) (DE N l fr)).map (fun x => (runs ops x (G0 pl k), HO ops (G0 pl k), nw.map (fun p => nth x p.1)))) = (true, some (true, some d, nw.map (·.2))) := by intro _; kernel_rfl) : AT C g ops pl tch fr h K := by
 have hk' := hk fr
 have hs' := hs fr
 rw [E4 H] at hk' hs'
 simp only [Prod.mk.injEq, Bool.and_eq_true] at hk'
 obtain ⟨⟨a1, a2, a3, a4, a5, a6⟩, hk'⟩ := hk'
 cases hr : Gi C.P ops (Eg (pl.take k)) fr with
 | none => rw [hr] at hk'; cases hk'
 | some fr1 =>
  rw [hr] at hk'
  simp only [Option.map_some, Option.some.injEq, Prod.mk.injEq] at hk'
  obtain ⟨b1, b2, b3⟩ := hk'
  have hF : N0 C.P ops (Eg (pl.take k)) fr = fr1 := by unfold N0; rw [hr]; rfl
  rw [hF] at hs'
  have hl1 : fr1.length = N := (Gm _ _ _ hr).trans H.1
  have hH := Has.of_map hl1 b3
  have e : pl = pl.take k ++ pl.drop k := (List.take_append_drop k pl).symm
  rw [e]
  refine Ms _ _ fr fr1 (MX a2) hr ?_
  rw [S3 a1]
  refine Hl (v := v) b1 (by rw [HZ, List.nil_append]; exact hs') rfl (hn _ _ ⟨by simp [hl1], fun p hp => ?_⟩)
  rw [b2]
  show nth (fr1.set d v) p.1 = p.2
  cases hp with
  | head =>
   rw [Nat.blt_eq] at a6
   rw [HJ, if_pos ⟨rfl, by rw [hl1]; exact a6⟩]
  | tail _ hp =>
   rcases List.mem_append.1 hp with hp | hp
   ·rw [HJ, if_neg (fun e => Jw a5 p hp e.1.symm)]
    exact hH.2 p hp
   ·rw [HJ, if_neg (fun e => Jw a4 p hp e.1.symm), Hz _ fr fr1 a3 hr p hp]
    exact H.2 p hp
theorem Um (k : Nat) (nw : List (Nat × AD)) (v : AD) (h1 : AM) (H : Has fr N l) (hs : ∀ fr, Steps C g h (N0 C.P ops (Eg (pl.take k)) (DE N l fr)) (Na ops (G0 pl k)) v h1)
  (hn : ∀ fr' t, Has fr' N (List.append nw l) → AT C g ops (pl.drop (k + 1)) t fr' h1 K)
  (hk : ∀ fr, (Pn pl k && (Ra (pl.take k) && (FL ops l (Eg (pl.take k)) && (IF ops (G0 pl k) l && IF ops (G0 pl k) nw))), (Gi C.P ops (Eg (pl.take k)) (DE N l fr)).map (fun x => (runs ops x (G0 pl k), nw.map (fun p => nth x p.1)))) = (true, some (true, nw.map (·.2))) := by intro _; kernel_rfl) : AT C g ops pl tch fr h K := by
 have hk' := hk fr
 have hs' := hs fr
 rw [E4 H] at hk' hs'
 simp only [Prod.mk.injEq, Bool.and_eq_true] at hk'
 obtain ⟨⟨a1, a2, a3, a4, a5⟩, hk'⟩ := hk'
 cases hr : Gi C.P ops (Eg (pl.take k)) fr with
 | none => rw [hr] at hk'; cases hk'
 | some fr1 =>
  rw [hr] at hk'
  simp only [Option.map_some, Option.some.injEq, Prod.mk.injEq] at hk'
  obtain ⟨b1, b3⟩ := hk'
  have hF : N0 C.P ops (Eg (pl.take k)) fr = fr1 := by unfold N0; rw [hr]; rfl
  rw [hF] at hs'
  have hl1 : fr1.length = N := (Gm _ _ _ hr).trans H.1
  have hH := Has.of_map hl1 b3
  have e : pl = pl.take k ++ pl.drop k := (List.take_append_drop k pl).symm
  rw [e]
  refine Ms _ _ fr fr1 (MX a2) hr ?_
  rw [S3 a1]
  refine Hl (v := v) b1 (by rw [HZ, List.nil_append]; exact hs') rfl (hn _ _ ⟨by simp [hl1], fun p hp => ?_⟩)
  rcases List.mem_append.1 hp with hp | hp
  ·rw [Hr a5 v p hp]; exact hH.2 p hp
  ·rw [Hr a4 v p hp, Hz _ fr fr1 a3 hr p hp]; exact H.2 p hp
theorem WR (k : Nat) (nw : List (Nat × AD)) (H : Has fr N l) (hK : ∀ fr', AW C f g c fr' h Q → K fr' h) (hh : ∀ fr', Has fr' N (List.append nw l) → AW C f g c fr' h Q)
  (hk : ∀ fr, (Ra pl, Nat.beq pl.length k, FL ops l (Eg pl), (Gi C.P ops (Eg pl) (DE N l fr)).map (fun x => nw.map (fun p => nth x p.1))) = (true, true, true, some (nw.map (·.2))) := by intro _; kernel_rfl) : AT C g ops pl tch fr h K := by
 have hk' := hk fr
 simp only [Prod.mk.injEq] at hk'
 have hl := Nat.eq_of_beq_eq_true hk'.2.1
 have ht : pl.take k = pl := List.take_of_length_le (by omega)
 have hd : pl.drop k = [] := List.drop_eq_nil_of_le (by omega)
 refine AG k nw H (fun fr' H' => ?_) (fun fr => ?_)
 ·rw [hd]
  exact at_nil (hK _ (hh _ H'))
 ·have := hk fr
  simp only [Prod.mk.injEq] at this
  rw [ht]
  simp only [Prod.mk.injEq]
  exact ⟨this.1, this.2.2.1, this.2.2.2⟩
theorem XT (k : Nat) (nw : List (Nat × AD)) (n : Nat) (H : Has fr N l) (hK : ∀ fr', AW C f g c fr' h Q → K fr' h) (hh : ∀ fr', Has fr' N (List.append nw l) → AT C g (opsOf (left c)) (JF 0 n) [] fr' h (fun fr' h' => Mx (fun fr h => AW C f g (right c) fr h Q) Q .normal fr' h'))
  (hk : ∀ fr, (Ra pl, Nat.beq pl.length k, FL ops l (Eg pl), (Gi C.P ops (Eg pl) (DE N l fr)).map (fun x => nw.map (fun p => nth x p.1))) = (true, true, true, some (nw.map (·.2))) := by intro _; kernel_rfl) (hs : shape c = .seq := by kernel_rfl) (hr : Mp (left c) n = true := by kernel_rfl) : AT C g ops pl tch fr h K := WR k nw H hK (fun fr' H' => AV (ED n (hh fr' H') hr) hs) hk
theorem Aq (k : Nat) (I : Fr → AM → Prop) (h1 : AT C g ops (pl.take k) tch fr h I) (h2 : ∀ t fr h, I fr h → AT C g ops (pl.drop k) t fr h K) : AT C g ops pl tch fr h K := by
 have e : pl = pl.take k ++ pl.drop k := (List.take_append_drop k pl).symm
 rw [e]
 exact W8 _ I h1 h2
theorem FF (id n : Nat) (hh : AT C g (opsOf c) (JF 0 n) [] fr h (fun fr' h' => Q .normal fr' h')) (hs : shape c = .region id n true := by kernel_rfl) (hp : C.MF f id = JF 0 n := by kernel_rfl) : AW C f g c fr h Q := TC hs _ hp hh
theorem Kg (id n : Nat) (pl : List (Nat × List Nat)) (hh : AT C g (opsOf c) pl [] fr h (fun fr' h' => Q .normal fr' h')) (hs : shape c = .region id n true := by kernel_rfl) (hp : C.MF f id = pl := by kernel_rfl) : AW C f g c fr h Q := TC hs _ hp hh
theorem AH (n : Nat) (hh : AT C g (opsOf (left c)) (JF 0 n) [] fr h (fun fr' h' => Mx (fun fr h => AW C f g (right c) fr h Q) Q .normal fr' h')) (hs : shape c = .seq := by kernel_rfl) (hr : Mp (left c) n = true := by kernel_rfl) : AW C f g c fr h Q := SR hs (ED n hh hr)
theorem BF (hK : AW C f g c fr h Q → K fr h) (hh : AW C f g c fr h Q) : AT C g ops [] tch fr h K := at_nil (hK hh)
theorem Ij (n : Nat) (hK : AW C f g c fr h Q → K fr h) (hh : AT C g (opsOf c) (JF 0 n) [] fr h (fun fr' h' => Q .normal fr' h')) (hr : Mp c n = true := by kernel_rfl) : AT C g ops [] tch fr h K := at_nil (hK (ED n hh hr))
theorem Cb (n : Nat) (hK : AW C f g c fr h Q → K fr h) (hh : AT C g (opsOf (left c)) (JF 0 n) [] fr h (fun fr' h' => Mx (fun fr h => AW C f g (right c) fr h Q) Q .normal fr' h')) (hs : shape c = .seq := by kernel_rfl) (hr : Mp (left c) n = true := by kernel_rfl) : AT C g ops [] tch fr h K := at_nil (hK (AH n hh hs hr))
theorem AY (hq : Q .ret fr h) (hs : shape c = .ret := by kernel_rfl) : AW C f g c fr h Q := W5 hs hq
theorem HG (hq : Q .normal fr h) (hs : shape c = .skip := by kernel_rfl) : AW C f g c fr h Q := N9 hs hq
end
theorem Ag {α : Type} {a x : α} (h : some a = some x) : a = x := Option.some.inj h
theorem C9 {α β : Type} {a x : α} {b y : β} (h : some (a, b) = some (x, y)) : a = x ∧ b = y := Prod.mk.inj (Option.some.inj h)
theorem HY {α β γ : Type} {a x : α} {b y : β} {c z : γ} (h : some (a, b, c) = some (x, y, z)) : a = x ∧ b = y ∧ c = z := by
 obtain ⟨h1, h2⟩ := C9 h
 exact ⟨h1, Prod.mk.inj h2⟩
theorem SJ {α β γ δ : Type} {a x : α} {b y : β} {c z : γ} {d w : δ} (h : some (a, b, c, d) = some (x, y, z, w)) : a = x ∧ b = y ∧ c = z ∧ d = w := by
 obtain ⟨h1, h2⟩ := C9 h
 exact ⟨h1, HY (congrArg some h2)⟩
theorem Ve {α β γ δ ε : Type} {a x : α} {b y : β} {c z : γ} {d w : δ} {e v : ε} (h : some (a, b, c, d, e) = some (x, y, z, w, v)) : a = x ∧ b = y ∧ c = z ∧ d = w ∧ e = v := by
 obtain ⟨h1, h2⟩ := C9 h
 exact ⟨h1, SJ (congrArg some h2)⟩
end Go.Av
