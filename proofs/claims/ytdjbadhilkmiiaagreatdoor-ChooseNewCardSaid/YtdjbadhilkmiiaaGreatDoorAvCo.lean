/-
 A part.
-/
import Derived.Test.YtdjbadhilkmiiaaGreatDoorAvMore
namespace Go.Av
set_option linter.unusedVariables false
set_option linter.unusedSimpArgs false
def Hf (d : Nat) : List (Nat × AB) → Bool
 | [] => true
 | (i, _) :: r => bif Nat.beq i d then false else Hf d r
theorem JZ {d : Nat} : ∀ {l : List (Nat × AB)}, Hf d l = true → ∀ p ∈ l, p.1 ≠ d
 | [], _, p, hp => by cases hp
 | (i, v) :: r, h, p, hp => by
  unfold Hf at h
  rw [H8] at h
  by_cases e : i = d
  ·rw [if_pos e] at h; cases h
  ·rw [if_neg e] at h
   cases hp with
   | head => exact e
   | tail _ hp => exact JZ h p hp
def H3 (ops : Array Oper) (i : Nat) (l : List (Nat × AB)) : Bool :=
 match HM ops i with
 | none => true
 | some d => Hf d l
section
variable {C : HS} {f : FuncId} {g : Gd} {ops : Array Oper} {tch : List (Nat × Nat)} {fr : Fr} {h h1 : AJ} {K : Fr → AJ → Prop} {N : Nat} {l : List (Nat × AB)} {i r : Nat}
theorem Hh {l : List (Nat × AB)} (hd : H3 ops i l = true) (v : AB) : ∀ p ∈ l, nth (put fr (HM ops i) v) p.1 = nth fr p.1 := by
 intro p hp
 unfold H3 at hd
 split at hd
 ·rename_i e; rw [e]; rfl
 ·rename_i d e
  rw [e]
  exact OT fr v (fun e => JZ hd p hp (Option.some.inj e).symm)
variable {Q : DN → Fr → AJ → Prop} {c : Code}
def Kz : Code → Nat → Bool
 | .region _ ops draw, n => !draw && Nat.beq ops.size n
 | _, _ => false
theorem DQ (n : Nat) (hh : AT C g (opsOf c) (H2 0 n) [] fr h (fun fr' h' => Q .normal fr' h')) (hs : Kz c n = true := by kernel_rfl) : AW C f g c fr h Q := by
 cases c with
 | region id ops draw =>
  simp only [Kz, Bool.and_eq_true, Bool.not_eq_true'] at hs
  obtain ⟨rfl, e⟩ := hs
  obtain rfl := Nat.eq_of_beq_eq_true e
  exact Vj (id := id) _ rfl rfl hh
 | _ => cases hs
theorem AR (hh : AW C f g (left c) fr h (L7 (fun fr h => AW C f g (right c) fr h Q) Q)) (hs : shape c = .seq := by kernel_rfl) : AW C f g c fr h Q := Rs hs hh
theorem Has.ls {out : List (Nat × AB)} (H : Has fr N l) (h : ∀ fr, out.map (fun p => nth (DG N l fr) p.1) = out.map (·.2) := by intro _; kernel_rfl) : Has fr N out := H.less out h
theorem Ae (d : Nat) {b : Bool} {α : Type} {x y : Option α} {r : α} (H : Has fr N l) (hm : Ac b x y = some r) (h1 : b = true → x = some r → Has fr N (R9 l d (.bool true)) → AW C f g (left c) fr h Q) (h2 : b = false → y = some r → Has fr N (R9 l d (.bool false)) → AW C f g (right c) fr h Q)
  (hd : PE l d = some (.bool b) := by kernel_rfl) (hs : shape c = .cond (.tmp d) := by kernel_rfl) : AW C f g c fr h Q := by
 have e : nth fr d = .bool b := H.2 _ (M1 hd)
 cases c <;> simp [shape] at hs
 subst hs
 rcases AZ hm with ⟨hb, hm⟩ | ⟨hb, hm⟩
 ·obtain ⟨n, e', fr', h', q1, q2⟩ := (h1 hb hm (H.Vi d hb hd)).ex
  rw [hb] at e
  exact ⟨⟨n, e', fr', h', by simp only [Bn, ev, e]; exact q1, q2⟩⟩
 ·obtain ⟨n, e', fr', h', q1, q2⟩ := (h2 hb hm (H.Vi d hb hd)).ex
  rw [hb] at e
  exact ⟨⟨n, e', fr', h', by simp only [Bn, ev, e]; exact q1, q2⟩⟩
def Ec (ops : Array Oper) (l : List (Nat × AB)) : List Nat → Bool
 | [] => true
 | i :: r => H3 ops i l && Ec ops l r
theorem HY {P : Program} {l : List (Nat × AB)} : ∀ (is : List Nat) (fr fr1 : Fr), Ec ops l is = true → F7 P ops is fr = some fr1 → ∀ p ∈ l, nth fr1 p.1 = nth fr p.1
 | [], fr, fr1, _, hs, p, hp => by
  simp only [F7, Option.some.injEq] at hs
  rw [hs]
 | i :: is, fr, fr1, hd, hs, p, hp => by
  simp only [Ec, Bool.and_eq_true] at hd
  simp only [F7] at hs
  split at hs
  ·cases hs
  ·rename_i o ho
   have e2 : HM ops i = o.dst := by simp [HM, ho]
   have hk := fun fr v => Hh (fr := fr) hd.1 v p hp
   rw [e2] at hk
   split at hs
   ·split at hs
    ·rw [HY is _ _ hd.2 hs p hp, hk]
    ·cases hs
   ·rw [HY is _ _ hd.2 hs p hp, hk]
   ·cases hs
variable {pl : List (Nat × List Nat)} {U : List Nat}
theorem AG (k : Nat) (nw : List (Nat × AB)) (H : Has fr N l) (hn : ∀ fr', Has fr' N (List.append nw l) → AT C g ops (pl.drop k) tch fr' h K)
  (hk : ∀ fr, (Pu (pl.take k), Ec ops l (ED (pl.take k)), (F7 C.P ops (ED (pl.take k)) (DG N l fr)).map (fun x => nw.map (fun p => nth x p.1))) = (true, true, some (nw.map (·.2))) := by intro _; kernel_rfl) :
  AT C g ops pl tch fr h K := by
 have hk' := hk fr
 rw [E7 H] at hk'
 simp only [Prod.mk.injEq] at hk'
 obtain ⟨hu, hd, hk'⟩ := hk'
 cases hr : F7 C.P ops (ED (pl.take k)) fr with
 | none => rw [hr] at hk'; cases hk'
 | some fr1 =>
  rw [hr] at hk'
  simp only [Option.map_some, Option.some.injEq] at hk'
  have e : pl = pl.take k ++ pl.drop k := (List.take_append_drop k pl).symm
  rw [e]
  refine L2 _ _ fr fr1 (MB hu) hr (hn fr1 ?_)
  have h1 := Has.of_map ((Gh _ _ _ hr).trans H.1) hk'
  refine ⟨h1.1, fun p hp => ?_⟩
  rcases List.mem_append.1 hp with hp | hp
  ·exact h1.2 p hp
  ·rw [HY _ fr fr1 hd hr p hp]; exact H.2 p hp
theorem As (d : Nat) (v : AB) (h1 : AJ) (H : Has fr N l) (hs : ∀ fr, Steps C g h (DG N l fr) (NJ ops i) v h1)
  (hn : ∀ fr' t, Has fr' N ((d, v) :: l) → AT C g ops pl t fr' h1 K)
  (hw : ∀ fr, (runs ops (DG N l fr) i, HM ops i, Nat.blt d N, Hf d l) = (true, some d, true, true) := by intro _; kernel_rfl) : AT C g ops ((i, []) :: pl) tch fr h K := by
 have hw' := hw fr
 have hs' := hs fr
 rw [E7 H] at hw' hs'
 simp only [Prod.mk.injEq] at hw'
 obtain ⟨w1, w2, w3, w4⟩ := hw'
 refine Hl (v := v) w1 (by rw [HI, List.nil_append]; exact hs') rfl (hn _ _ ⟨by simp [H.1], fun p hp => ?_⟩)
 rw [w2]
 show nth (fr.set d v) p.1 = p.2
 cases hp with
 | head =>
  rw [Nat.blt_eq] at w3
  rw [Gw, if_pos ⟨rfl, by rw [H.1]; exact w3⟩]
 | tail _ hp =>
  rw [Gw, if_neg (fun e => JZ w4 p hp e.1.symm)]
  exact H.2 p hp
theorem Lb (v : AB) (h1 : AJ) (H : Has fr N l) (hs : ∀ fr, Steps C g h (DG N l fr) (NJ ops i) v h1)
  (hn : ∀ fr' t, Has fr' N l → AT C g ops pl t fr' h1 K)
  (hw : ∀ fr, (runs ops (DG N l fr) i, H3 ops i l) = (true, true) := by intro _; kernel_rfl) : AT C g ops ((i, []) :: pl) tch fr h K := by
 have hw' := hw fr
 have hs' := hs fr
 rw [E7 H] at hw' hs'
 simp only [Prod.mk.injEq] at hw'
 obtain ⟨w1, w2⟩ := hw'
 refine Hl (v := v) w1 (by rw [HI, List.nil_append]; exact hs') rfl (hn _ _ ⟨by simp [H.1], fun p hp => ?_⟩)
 rw [Hh w2 v p hp]
 exact H.2 p hp
theorem CT (d : Nat) (v : AB) (h1 : AJ) (tch' : List (Nat × Nat)) (pr : List Nat) (H : Has fr N l) (hs : ∀ fr, Steps C ⟨g.floor, pr⟩ h (DG N l fr) (NJ ops i) v h1)
  (hn : ∀ fr', Has fr' N ((d, v) :: l) → AT C g ops pl tch' fr' h1 K)
  (hre : ∀ fr, Nc C ops U (put (DG N l fr) (HM ops i) v) h1 = true := by intro _; kernel_rfl)
  (hw : ∀ fr, (runs ops (DG N l fr) i, HM ops i, Nat.blt d N, Hf d l) = (true, some d, true, true) := by intro _; kernel_rfl)
  (hp : Hs tch U ++ g.Bo = pr := by kernel_rfl) (ht : ∀ fr, GO C.P h (DG N l fr) i (NJ ops i) tch = tch' := by intro _; kernel_rfl) : AT C g ops ((i, U) :: pl) tch fr h K := by
 have hw' := hw fr
 have hs' := hs fr
 have hre' := hre fr
 have ht' := ht fr
 rw [E7 H] at hw' hs' hre' ht'
 simp only [Prod.mk.injEq] at hw'
 obtain ⟨w1, w2, w3, w4⟩ := hw'
 have hh : Has (put fr (HM ops i) v) N ((d, v) :: l) := by
  refine ⟨by simp [H.1], fun p hq => ?_⟩
  rw [w2]
  show nth (fr.set d v) p.1 = p.2
  cases hq with
  | head =>
   rw [Nat.blt_eq] at w3
   rw [Gw, if_pos ⟨rfl, by rw [H.1]; exact w3⟩]
  | tail _ hq =>
   rw [Gw, if_neg (fun e => JZ w4 p hq e.1.symm)]
   exact H.2 p hq
 exact Hl (v := v) w1 (by rw [hp]; exact hs') hre' (by rw [ht']; exact hn _ hh)
theorem H5 (v : AB) (h1 : AJ) (tch' : List (Nat × Nat)) (pr : List Nat) (H : Has fr N l) (hs : ∀ fr, Steps C ⟨g.floor, pr⟩ h (DG N l fr) (NJ ops i) v h1)
  (hn : ∀ fr', Has fr' N l → AT C g ops pl tch' fr' h1 K)
  (hre : ∀ fr, Nc C ops U (put (DG N l fr) (HM ops i) v) h1 = true := by intro _; kernel_rfl)
  (hw : ∀ fr, (runs ops (DG N l fr) i, H3 ops i l) = (true, true) := by intro _; kernel_rfl)
  (hp : Hs tch U ++ g.Bo = pr := by kernel_rfl) (ht : ∀ fr, GO C.P h (DG N l fr) i (NJ ops i) tch = tch' := by intro _; kernel_rfl) : AT C g ops ((i, U) :: pl) tch fr h K := by
 have hw' := hw fr
 have hs' := hs fr
 have hre' := hre fr
 have ht' := ht fr
 rw [E7 H] at hw' hs' hre' ht'
 simp only [Prod.mk.injEq] at hw'
 obtain ⟨w1, w2⟩ := hw'
 have hh : Has (put fr (HM ops i) v) N l := by
  refine ⟨by simp [H.1], fun p hq => ?_⟩
  rw [Hh w2 v p hq]
  exact H.2 p hq
 exact Hl (v := v) w1 (by rw [hp]; exact hs') hre' (by rw [ht']; exact hn _ hh)
theorem BV (k : Nat) (out : List (Nat × AB)) (H : Has fr N l) (hn : ∀ fr', Has fr' N out → AT C g ops (pl.drop k) tch fr' h K)
  (hk : ∀ fr, (Pu (pl.take k), (F7 C.P ops (ED (pl.take k)) (DG N l fr)).map (fun x => out.map (fun p => nth x p.1))) = (true, some (out.map (·.2))) := by intro _; kernel_rfl) :
  AT C g ops pl tch fr h K := by
 have hu := hk fr
 simp only [Prod.mk.injEq] at hu
 have e : pl = pl.take k ++ pl.drop k := (List.take_append_drop k pl).symm
 rw [e]
 refine Vu (pl.take k) out H (MB hu.1) (fun fr => ?_) hn
 have := hk fr
 simp only [Prod.mk.injEq] at this
 exact this.2
def Nf (P : Program) (ops : Array Oper) (is : List Nat) (fr : Fr) : Fr := (F7 P ops is fr).getD fr
def Gn (pl : List (Nat × List Nat)) (k : Nat) : Nat :=
 match pl.drop k with
 | (i, _) :: _ => i
 | [] => 0
def O3 (pl : List (Nat × List Nat)) (k : Nat) : Bool :=
 match pl.drop k with
 | (_, []) :: _ => true
 | _ => false
theorem Sg {pl : List (Nat × List Nat)} {k : Nat} (h : O3 pl k = true) : pl.drop k = (Gn pl k, []) :: pl.drop (k + 1) := by
 unfold O3 at h
 unfold Gn
 have e : pl.drop (k + 1) = (pl.drop k).drop 1 := by rw [List.drop_drop]
 split at h
 ·rename_i i r hd
  rw [e, hd]; rfl
 ·cases h
theorem BA (k : Nat) (nw : List (Nat × AB)) (d : Nat) (v : AB) (h1 : AJ) (H : Has fr N l) (hs : ∀ fr, Steps C g h (Nf C.P ops (ED (pl.take k)) (DG N l fr)) (NJ ops (Gn pl k)) v h1)
  (hn : ∀ fr' t, Has fr' N ((d, v) :: List.append nw l) → AT C g ops (pl.drop (k + 1)) t fr' h1 K)
  (hk : ∀ fr, (O3 pl k && (Pu (pl.take k) && (Ec ops l (ED (pl.take k)) && (Hf d l && (Hf d nw && Nat.blt d N)))), (F7 C.P ops (ED (pl.take k)) (DG N l fr)).map (fun x => (runs ops x (Gn pl k), HM ops (Gn pl k), nw.map (fun p => nth x p.1)))) = (true, some (true, some d, nw.map (·.2))) := by intro _; kernel_rfl) : AT C g ops pl tch fr h K := by
 have hk' := hk fr
 have hs' := hs fr
 rw [E7 H] at hk' hs'
 simp only [Prod.mk.injEq, Bool.and_eq_true] at hk'
 obtain ⟨⟨a1, a2, a3, a4, a5, a6⟩, hk'⟩ := hk'
 cases hr : F7 C.P ops (ED (pl.take k)) fr with
 | none => rw [hr] at hk'; cases hk'
 | some fr1 =>
  rw [hr] at hk'
  simp only [Option.map_some, Option.some.injEq, Prod.mk.injEq] at hk'
  obtain ⟨b1, b2, b3⟩ := hk'
  have hF : Nf C.P ops (ED (pl.take k)) fr = fr1 := by unfold Nf; rw [hr]; rfl
  rw [hF] at hs'
  have hl1 : fr1.length = N := (Gh _ _ _ hr).trans H.1
  have hH := Has.of_map hl1 b3
  have e : pl = pl.take k ++ pl.drop k := (List.take_append_drop k pl).symm
  rw [e]
  refine L2 _ _ fr fr1 (MB a2) hr ?_
  rw [Sg a1]
  refine Hl (v := v) b1 (by rw [HI, List.nil_append]; exact hs') rfl (hn _ _ ⟨by simp [hl1], fun p hp => ?_⟩)
  rw [b2]
  show nth (fr1.set d v) p.1 = p.2
  cases hp with
  | head =>
   rw [Nat.blt_eq] at a6
   rw [Gw, if_pos ⟨rfl, by rw [hl1]; exact a6⟩]
  | tail _ hp =>
   rcases List.mem_append.1 hp with hp | hp
   ·rw [Gw, if_neg (fun e => JZ a5 p hp e.1.symm)]
    exact hH.2 p hp
   ·rw [Gw, if_neg (fun e => JZ a4 p hp e.1.symm), HY _ fr fr1 a3 hr p hp]
    exact H.2 p hp
theorem Tv (k : Nat) (nw : List (Nat × AB)) (v : AB) (h1 : AJ) (H : Has fr N l) (hs : ∀ fr, Steps C g h (Nf C.P ops (ED (pl.take k)) (DG N l fr)) (NJ ops (Gn pl k)) v h1)
  (hn : ∀ fr' t, Has fr' N (List.append nw l) → AT C g ops (pl.drop (k + 1)) t fr' h1 K)
  (hk : ∀ fr, (O3 pl k && (Pu (pl.take k) && (Ec ops l (ED (pl.take k)) && (H3 ops (Gn pl k) l && H3 ops (Gn pl k) nw))), (F7 C.P ops (ED (pl.take k)) (DG N l fr)).map (fun x => (runs ops x (Gn pl k), nw.map (fun p => nth x p.1)))) = (true, some (true, nw.map (·.2))) := by intro _; kernel_rfl) : AT C g ops pl tch fr h K := by
 have hk' := hk fr
 have hs' := hs fr
 rw [E7 H] at hk' hs'
 simp only [Prod.mk.injEq, Bool.and_eq_true] at hk'
 obtain ⟨⟨a1, a2, a3, a4, a5⟩, hk'⟩ := hk'
 cases hr : F7 C.P ops (ED (pl.take k)) fr with
 | none => rw [hr] at hk'; cases hk'
 | some fr1 =>
  rw [hr] at hk'
  simp only [Option.map_some, Option.some.injEq, Prod.mk.injEq] at hk'
  obtain ⟨b1, b3⟩ := hk'
  have hF : Nf C.P ops (ED (pl.take k)) fr = fr1 := by unfold Nf; rw [hr]; rfl
  rw [hF] at hs'
  have hl1 : fr1.length = N := (Gh _ _ _ hr).trans H.1
  have hH := Has.of_map hl1 b3
  have e : pl = pl.take k ++ pl.drop k := (List.take_append_drop k pl).symm
  rw [e]
  refine L2 _ _ fr fr1 (MB a2) hr ?_
  rw [Sg a1]
  refine Hl (v := v) b1 (by rw [HI, List.nil_append]; exact hs') rfl (hn _ _ ⟨by simp [hl1], fun p hp => ?_⟩)
  rcases List.mem_append.1 hp with hp | hp
  ·rw [Hh a5 v p hp]; exact hH.2 p hp
  ·rw [Hh a4 v p hp, HY _ fr fr1 a3 hr p hp]; exact H.2 p hp
theorem Ug (k : Nat) (nw : List (Nat × AB)) (H : Has fr N l) (hK : ∀ fr', AW C f g c fr' h Q → K fr' h) (hh : ∀ fr', Has fr' N (List.append nw l) → AW C f g c fr' h Q)
  (hk : ∀ fr, (Pu pl, Nat.beq pl.length k, Ec ops l (ED pl), (F7 C.P ops (ED pl) (DG N l fr)).map (fun x => nw.map (fun p => nth x p.1))) = (true, true, true, some (nw.map (·.2))) := by intro _; kernel_rfl) : AT C g ops pl tch fr h K := by
 have hk' := hk fr
 simp only [Prod.mk.injEq] at hk'
 have hl := Nat.eq_of_beq_eq_true hk'.2.1
 have ht : pl.take k = pl := List.take_of_length_le (by omega)
 have hd : pl.drop k = [] := List.drop_eq_nil_of_le (by omega)
 refine AG k nw H (fun fr' H' => ?_) (fun fr => ?_)
 ·rw [hd]
  exact at_nil (hK _ (hh _ H'))
 ·have := hk fr
  simp only [Prod.mk.injEq] at this
  rw [ht]
  simp only [Prod.mk.injEq]
  exact ⟨this.1, this.2.2.1, this.2.2.2⟩
theorem Wd (k : Nat) (nw : List (Nat × AB)) (n : Nat) (H : Has fr N l) (hK : ∀ fr', AW C f g c fr' h Q → K fr' h) (hh : ∀ fr', Has fr' N (List.append nw l) → AT C g (opsOf c) (H2 0 n) [] fr' h (fun fr' h' => Q .normal fr' h'))
  (hk : ∀ fr, (Pu pl, Nat.beq pl.length k, Ec ops l (ED pl), (F7 C.P ops (ED pl) (DG N l fr)).map (fun x => nw.map (fun p => nth x p.1))) = (true, true, true, some (nw.map (·.2))) := by intro _; kernel_rfl) (hr : Kz c n = true := by kernel_rfl) : AT C g ops pl tch fr h K := Ug k nw H hK (fun fr' H' => DQ n (hh fr' H') hr) hk
theorem W7 (k : Nat) (nw : List (Nat × AB)) (n : Nat) (H : Has fr N l) (hK : ∀ fr', AW C f g c fr' h Q → K fr' h) (hh : ∀ fr', Has fr' N (List.append nw l) → AT C g (opsOf (left c)) (H2 0 n) [] fr' h (fun fr' h' => L7 (fun fr h => AW C f g (right c) fr h Q) Q .normal fr' h'))
  (hk : ∀ fr, (Pu pl, Nat.beq pl.length k, Ec ops l (ED pl), (F7 C.P ops (ED pl) (DG N l fr)).map (fun x => nw.map (fun p => nth x p.1))) = (true, true, true, some (nw.map (·.2))) := by intro _; kernel_rfl) (hs : shape c = .seq := by kernel_rfl) (hr : Kz (left c) n = true := by kernel_rfl) : AT C g ops pl tch fr h K := Ug k nw H hK (fun fr' H' => AR (DQ n (hh fr' H') hr) hs) hk
theorem A9 (k : Nat) (I : Fr → AJ → Prop) (h1 : AT C g ops (pl.take k) tch fr h I) (h2 : ∀ t fr h, I fr h → AT C g ops (pl.drop k) t fr h K) : AT C g ops pl tch fr h K := by
 have e : pl = pl.take k ++ pl.drop k := (List.take_append_drop k pl).symm
 rw [e]
 exact Vv _ I h1 h2
theorem Df (id n : Nat) (hh : AT C g (opsOf c) (H2 0 n) [] fr h (fun fr' h' => Q .normal fr' h')) (hs : shape c = .region id n true := by kernel_rfl) (hp : C.K6 f id = H2 0 n := by kernel_rfl) : AW C f g c fr h Q := SK hs _ hp hh
theorem JV (id n : Nat) (pl : List (Nat × List Nat)) (hh : AT C g (opsOf c) pl [] fr h (fun fr' h' => Q .normal fr' h')) (hs : shape c = .region id n true := by kernel_rfl) (hp : C.K6 f id = pl := by kernel_rfl) : AW C f g c fr h Q := SK hs _ hp hh
theorem AF (n : Nat) (hh : AT C g (opsOf (left c)) (H2 0 n) [] fr h (fun fr' h' => L7 (fun fr h => AW C f g (right c) fr h Q) Q .normal fr' h')) (hs : shape c = .seq := by kernel_rfl) (hr : Kz (left c) n = true := by kernel_rfl) : AW C f g c fr h Q := Rs hs (DQ n hh hr)
theorem BD (hK : AW C f g c fr h Q → K fr h) (hh : AW C f g c fr h Q) : AT C g ops [] tch fr h K := at_nil (hK hh)
theorem F4 (n : Nat) (hK : AW C f g c fr h Q → K fr h) (hh : AT C g (opsOf c) (H2 0 n) [] fr h (fun fr' h' => Q .normal fr' h')) (hr : Kz c n = true := by kernel_rfl) : AT C g ops [] tch fr h K := at_nil (hK (DQ n hh hr))
theorem CI (n : Nat) (hK : AW C f g c fr h Q → K fr h) (hh : AT C g (opsOf (left c)) (H2 0 n) [] fr h (fun fr' h' => L7 (fun fr h => AW C f g (right c) fr h Q) Q .normal fr' h')) (hs : shape c = .seq := by kernel_rfl) (hr : Kz (left c) n = true := by kernel_rfl) : AT C g ops [] tch fr h K := at_nil (hK (AF n hh hs hr))
theorem AY (hq : Q .ret fr h) (hs : shape c = .ret := by kernel_rfl) : AW C f g c fr h Q := Vz hs hq
theorem Fz (hq : Q .normal fr h) (hs : shape c = .skip := by kernel_rfl) : AW C f g c fr h Q := Nl hs hq
end
theorem Ag {α : Type} {a x : α} (h : some a = some x) : a = x := Option.some.inj h
theorem B6 {α β : Type} {a x : α} {b y : β} (h : some (a, b) = some (x, y)) : a = x ∧ b = y := Prod.mk.inj (Option.some.inj h)
theorem Ho {α β γ : Type} {a x : α} {b y : β} {c z : γ} (h : some (a, b, c) = some (x, y, z)) : a = x ∧ b = y ∧ c = z := by
 obtain ⟨h1, h2⟩ := B6 h
 exact ⟨h1, Prod.mk.inj h2⟩
theorem M3 {α β γ δ : Type} {a x : α} {b y : β} {c z : γ} {d w : δ} (h : some (a, b, c, d) = some (x, y, z, w)) : a = x ∧ b = y ∧ c = z ∧ d = w := by
 obtain ⟨h1, h2⟩ := B6 h
 exact ⟨h1, Ho (congrArg some h2)⟩
theorem Tl {α β γ δ ε : Type} {a x : α} {b y : β} {c z : γ} {d w : δ} {e v : ε} (h : some (a, b, c, d, e) = some (x, y, z, w, v)) : a = x ∧ b = y ∧ c = z ∧ d = w ∧ e = v := by
 obtain ⟨h1, h2⟩ := B6 h
 exact ⟨h1, M3 (congrArg some h2)⟩
end Go.Av
