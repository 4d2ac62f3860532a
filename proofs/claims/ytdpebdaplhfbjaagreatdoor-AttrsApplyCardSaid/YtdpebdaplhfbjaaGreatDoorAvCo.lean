/-
  AV: the rules for texts in a shorter form: plans of regions that draw nothing by their numbers; what is known of slots grows.
-/
import Derived.Test.YtdpebdaplhfbjaaGreatDoorAvMore
namespace Go.Av
set_option linter.unusedVariables false
set_option linter.unusedSimpArgs false
def keyNo (d : Nat) : List (Nat × AVal) → Bool
 | [] => true
 | (i, _) :: r => bif Nat.beq i d then false else keyNo d r
theorem keyNo_ne {d : Nat} : ∀ {l : List (Nat × AVal)}, keyNo d l = true → ∀ p ∈ l, p.1 ≠ d
 | [], _, p, hp => by cases hp
 | (i, v) :: r, h, p, hp => by
  unfold keyNo at h
  rw [bif_beq] at h
  by_cases e : i = d
  ·rw [if_pos e] at h; cases h
  ·rw [if_neg e] at h
   cases hp with
   | head => exact e
   | tail _ hp => exact keyNo_ne h p hp
def dstNo (ops : Array Oper) (i : Nat) (l : List (Nat × AVal)) : Bool :=
 match dstI ops i with
 | none => true
 | some d => keyNo d l
section
variable {C : Cfg} {f : FuncId} {g : Gd} {ops : Array Oper} {tch : List (Nat × Nat)} {fr : Fr} {h h1 : AHeap} {K : Fr → AHeap → Prop} {N : Nat} {l : List (Nat × AVal)} {i r : Nat}
theorem dstNo_keeps {l : List (Nat × AVal)} (hd : dstNo ops i l = true) (v : AVal) : ∀ p ∈ l, nth (put fr (dstI ops i) v) p.1 = nth fr p.1 := by
 intro p hp
 unfold dstNo at hd
 split at hd
 ·rename_i e; rw [e]; rfl
 ·rename_i d e
  rw [e]
  exact nth_put_ne fr v (fun e => keyNo_ne hd p hp (Option.some.inj e).symm)
variable {Q : AExit → Fr → AHeap → Prop} {c : Code}
def isReg : Code → Nat → Bool
 | .region _ ops draw, n => !draw && Nat.beq ops.size n
 | _, _ => false
theorem aw_rg (n : Nat) (hh : AT C g (opsOf c) (plan0 0 n) [] fr h (fun fr' h' => Q .normal fr' h')) (hs : isReg c n = true := by kernel_rfl) : AW C f g c fr h Q := by
 cases c with
 | region id ops draw =>
  simp only [isReg, Bool.and_eq_true, Bool.not_eq_true'] at hs
  obtain ⟨rfl, e⟩ := hs
  obtain rfl := Nat.eq_of_beq_eq_true e
  exact aw_reg (id := id) _ rfl rfl hh
 | _ => cases hs
theorem aw_sq (hh : AW C f g (left c) fr h (thenQ (fun fr h => AW C f g (right c) fr h Q) Q)) (hs : shape c = .seq := by kernel_rfl) : AW C f g c fr h Q := aw_seq hs hh
theorem Has.ls {out : List (Nat × AVal)} (H : Has fr N l) (h : ∀ fr, out.map (fun p => nth (mkFr N l fr) p.1) = out.map (·.2) := by intro _; kernel_rfl) : Has fr N out := H.less out h
theorem aw_if (d : Nat) {b : Bool} {α : Type} {x y : Option α} {r : α} (H : Has fr N l) (hm : iteB b x y = some r) (h1 : b = true → x = some r → Has fr N (setK l d (.bool true)) → AW C f g (left c) fr h Q) (h2 : b = false → y = some r → Has fr N (setK l d (.bool false)) → AW C f g (right c) fr h Q)
  (hd : lookK l d = some (.bool b) := by kernel_rfl) (hs : shape c = .cond (.tmp d) := by kernel_rfl) : AW C f g c fr h Q := by
 have e : nth fr d = .bool b := H.2 _ (lookK_mem hd)
 cases c <;> simp [shape] at hs
 subst hs
 rcases iteB_some hm with ⟨hb, hm⟩ | ⟨hb, hm⟩
 ·obtain ⟨n, e', fr', h', q1, q2⟩ := (h1 hb hm (H.know d hb hd)).ex
  rw [hb] at e
  exact ⟨⟨n, e', fr', h', by simp only [execA, ev, e]; exact q1, q2⟩⟩
 ·obtain ⟨n, e', fr', h', q1, q2⟩ := (h2 hb hm (H.know d hb hd)).ex
  rw [hb] at e
  exact ⟨⟨n, e', fr', h', by simp only [execA, ev, e]; exact q1, q2⟩⟩
def dstsNoL (ops : Array Oper) (l : List (Nat × AVal)) : List Nat → Bool
 | [] => true
 | i :: r => dstNo ops i l && dstsNoL ops l r
theorem segP_keepsL {P : Program} {l : List (Nat × AVal)} : ∀ (is : List Nat) (fr fr1 : Fr), dstsNoL ops l is = true → segP P ops is fr = some fr1 → ∀ p ∈ l, nth fr1 p.1 = nth fr p.1
 | [], fr, fr1, _, hs, p, hp => by
  simp only [segP, Option.some.injEq] at hs
  rw [hs]
 | i :: is, fr, fr1, hd, hs, p, hp => by
  simp only [dstsNoL, Bool.and_eq_true] at hd
  simp only [segP] at hs
  split at hs
  ·cases hs
  ·rename_i o ho
   have e2 : dstI ops i = o.dst := by simp [dstI, ho]
   have hk := fun fr v => dstNo_keeps (fr := fr) hd.1 v p hp
   rw [e2] at hk
   split at hs
   ·split at hs
    ·rw [segP_keepsL is _ _ hd.2 hs p hp, hk]
    ·cases hs
   ·rw [segP_keepsL is _ _ hd.2 hs p hp, hk]
   ·cases hs
variable {pl : List (Nat × List Nat)} {U : List Nat}
theorem at_sl (k : Nat) (nw : List (Nat × AVal)) (H : Has fr N l) (hn : ∀ fr', Has fr' N (List.append nw l) → AT C g ops (pl.drop k) tch fr' h K)
  (hk : ∀ fr, (noU (pl.take k), dstsNoL ops l (segI (pl.take k)), (segP C.P ops (segI (pl.take k)) (mkFr N l fr)).map (fun x => nw.map (fun p => nth x p.1))) = (true, true, some (nw.map (·.2))) := by intro _; kernel_rfl) :
  AT C g ops pl tch fr h K := by
 have hk' := hk fr
 rw [mkFr_eq H] at hk'
 simp only [Prod.mk.injEq] at hk'
 obtain ⟨hu, hd, hk'⟩ := hk'
 cases hr : segP C.P ops (segI (pl.take k)) fr with
 | none => rw [hr] at hk'; cases hk'
 | some fr1 =>
  rw [hr] at hk'
  simp only [Option.map_some, Option.some.injEq] at hk'
  have e : pl = pl.take k ++ pl.drop k := (List.take_append_drop k pl).symm
  rw [e]
  refine at_segP _ _ fr fr1 (noU_all hu) hr (hn fr1 ?_)
  have h1 := Has.of_map ((segP_length _ _ _ hr).trans H.1) hk'
  refine ⟨h1.1, fun p hp => ?_⟩
  rcases List.mem_append.1 hp with hp | hp
  ·exact h1.2 p hp
  ·rw [segP_keepsL _ fr fr1 hd hr p hp]; exact H.2 p hp
theorem at_l1 (d : Nat) (v : AVal) (h1 : AHeap) (H : Has fr N l) (hs : ∀ fr, Steps C g h (mkFr N l fr) (opI ops i) v h1)
  (hn : ∀ fr' t, Has fr' N ((d, v) :: l) → AT C g ops pl t fr' h1 K)
  (hw : ∀ fr, (runs ops (mkFr N l fr) i, dstI ops i, Nat.blt d N, keyNo d l) = (true, some d, true, true) := by intro _; kernel_rfl) : AT C g ops ((i, []) :: pl) tch fr h K := by
 have hw' := hw fr
 have hs' := hs fr
 rw [mkFr_eq H] at hw' hs'
 simp only [Prod.mk.injEq] at hw'
 obtain ⟨w1, w2, w3, w4⟩ := hw'
 refine at_step0 (v := v) w1 (by rw [protOf_nil, List.nil_append]; exact hs') rfl (hn _ _ ⟨by simp [H.1], fun p hp => ?_⟩)
 rw [w2]
 show nth (fr.set d v) p.1 = p.2
 cases hp with
 | head =>
  rw [Nat.blt_eq] at w3
  rw [nth_set, if_pos ⟨rfl, by rw [H.1]; exact w3⟩]
 | tail _ hp =>
  rw [nth_set, if_neg (fun e => keyNo_ne w4 p hp e.1.symm)]
  exact H.2 p hp
theorem at_l0 (v : AVal) (h1 : AHeap) (H : Has fr N l) (hs : ∀ fr, Steps C g h (mkFr N l fr) (opI ops i) v h1)
  (hn : ∀ fr' t, Has fr' N l → AT C g ops pl t fr' h1 K)
  (hw : ∀ fr, (runs ops (mkFr N l fr) i, dstNo ops i l) = (true, true) := by intro _; kernel_rfl) : AT C g ops ((i, []) :: pl) tch fr h K := by
 have hw' := hw fr
 have hs' := hs fr
 rw [mkFr_eq H] at hw' hs'
 simp only [Prod.mk.injEq] at hw'
 obtain ⟨w1, w2⟩ := hw'
 refine at_step0 (v := v) w1 (by rw [protOf_nil, List.nil_append]; exact hs') rfl (hn _ _ ⟨by simp [H.1], fun p hp => ?_⟩)
 rw [dstNo_keeps w2 v p hp]
 exact H.2 p hp
theorem at_t1 (d : Nat) (v : AVal) (h1 : AHeap) (tch' : List (Nat × Nat)) (pr : List Nat) (H : Has fr N l) (hs : ∀ fr, Steps C ⟨g.floor, pr⟩ h (mkFr N l fr) (opI ops i) v h1)
  (hn : ∀ fr', Has fr' N ((d, v) :: l) → AT C g ops pl tch' fr' h1 K)
  (hre : ∀ fr, reOk C ops U (put (mkFr N l fr) (dstI ops i) v) h1 = true := by intro _; kernel_rfl)
  (hw : ∀ fr, (runs ops (mkFr N l fr) i, dstI ops i, Nat.blt d N, keyNo d l) = (true, some d, true, true) := by intro _; kernel_rfl)
  (hp : protOf tch U ++ g.prot = pr := by kernel_rfl) (ht : ∀ fr, touches C.P h (mkFr N l fr) i (opI ops i) tch = tch' := by intro _; kernel_rfl) : AT C g ops ((i, U) :: pl) tch fr h K := by
 have hw' := hw fr
 have hs' := hs fr
 have hre' := hre fr
 have ht' := ht fr
 rw [mkFr_eq H] at hw' hs' hre' ht'
 simp only [Prod.mk.injEq] at hw'
 obtain ⟨w1, w2, w3, w4⟩ := hw'
 have hh : Has (put fr (dstI ops i) v) N ((d, v) :: l) := by
  refine ⟨by simp [H.1], fun p hq => ?_⟩
  rw [w2]
  show nth (fr.set d v) p.1 = p.2
  cases hq with
  | head =>
   rw [Nat.blt_eq] at w3
   rw [nth_set, if_pos ⟨rfl, by rw [H.1]; exact w3⟩]
  | tail _ hq =>
   rw [nth_set, if_neg (fun e => keyNo_ne w4 p hq e.1.symm)]
   exact H.2 p hq
 exact at_step0 (v := v) w1 (by rw [hp]; exact hs') hre' (by rw [ht']; exact hn _ hh)
theorem at_t0 (v : AVal) (h1 : AHeap) (tch' : List (Nat × Nat)) (pr : List Nat) (H : Has fr N l) (hs : ∀ fr, Steps C ⟨g.floor, pr⟩ h (mkFr N l fr) (opI ops i) v h1)
  (hn : ∀ fr', Has fr' N l → AT C g ops pl tch' fr' h1 K)
  (hre : ∀ fr, reOk C ops U (put (mkFr N l fr) (dstI ops i) v) h1 = true := by intro _; kernel_rfl)
  (hw : ∀ fr, (runs ops (mkFr N l fr) i, dstNo ops i l) = (true, true) := by intro _; kernel_rfl)
  (hp : protOf tch U ++ g.prot = pr := by kernel_rfl) (ht : ∀ fr, touches C.P h (mkFr N l fr) i (opI ops i) tch = tch' := by intro _; kernel_rfl) : AT C g ops ((i, U) :: pl) tch fr h K := by
 have hw' := hw fr
 have hs' := hs fr
 have hre' := hre fr
 have ht' := ht fr
 rw [mkFr_eq H] at hw' hs' hre' ht'
 simp only [Prod.mk.injEq] at hw'
 obtain ⟨w1, w2⟩ := hw'
 have hh : Has (put fr (dstI ops i) v) N l := by
  refine ⟨by simp [H.1], fun p hq => ?_⟩
  rw [dstNo_keeps w2 v p hq]
  exact H.2 p hq
 exact at_step0 (v := v) w1 (by rw [hp]; exact hs') hre' (by rw [ht']; exact hn _ hh)
theorem at_se (k : Nat) (out : List (Nat × AVal)) (H : Has fr N l) (hn : ∀ fr', Has fr' N out → AT C g ops (pl.drop k) tch fr' h K)
  (hk : ∀ fr, (noU (pl.take k), (segP C.P ops (segI (pl.take k)) (mkFr N l fr)).map (fun x => out.map (fun p => nth x p.1))) = (true, some (out.map (·.2))) := by intro _; kernel_rfl) :
  AT C g ops pl tch fr h K := by
 have hu := hk fr
 simp only [Prod.mk.injEq] at hu
 have e : pl = pl.take k ++ pl.drop k := (List.take_append_drop k pl).symm
 rw [e]
 refine at_seg (pl.take k) out H (noU_all hu.1) (fun fr => ?_) hn
 have := hk fr
 simp only [Prod.mk.injEq] at this
 exact this.2
def segF (P : Program) (ops : Array Oper) (is : List Nat) (fr : Fr) : Fr := (segP P ops is fr).getD fr
def idxK (pl : List (Nat × List Nat)) (k : Nat) : Nat :=
 match pl.drop k with
 | (i, _) :: _ => i
 | [] => 0
def hasK (pl : List (Nat × List Nat)) (k : Nat) : Bool :=
 match pl.drop k with
 | (_, []) :: _ => true
 | _ => false
theorem hasK_eq {pl : List (Nat × List Nat)} {k : Nat} (h : hasK pl k = true) : pl.drop k = (idxK pl k, []) :: pl.drop (k + 1) := by
 unfold hasK at h
 unfold idxK
 have e : pl.drop (k + 1) = (pl.drop k).drop 1 := by rw [List.drop_drop]
 split at h
 ·rename_i i r hd
  rw [e, hd]; rfl
 ·cases h
theorem at_g1 (k : Nat) (nw : List (Nat × AVal)) (d : Nat) (v : AVal) (h1 : AHeap) (H : Has fr N l) (hs : ∀ fr, Steps C g h (segF C.P ops (segI (pl.take k)) (mkFr N l fr)) (opI ops (idxK pl k)) v h1)
  (hn : ∀ fr' t, Has fr' N ((d, v) :: List.append nw l) → AT C g ops (pl.drop (k + 1)) t fr' h1 K)
  (hk : ∀ fr, (hasK pl k && (noU (pl.take k) && (dstsNoL ops l (segI (pl.take k)) && (keyNo d l && (keyNo d nw && Nat.blt d N)))), (segP C.P ops (segI (pl.take k)) (mkFr N l fr)).map (fun x => (runs ops x (idxK pl k), dstI ops (idxK pl k), nw.map (fun p => nth x p.1)))) = (true, some (true, some d, nw.map (·.2))) := by intro _; kernel_rfl) : AT C g ops pl tch fr h K := by
 have hk' := hk fr
 have hs' := hs fr
 rw [mkFr_eq H] at hk' hs'
 simp only [Prod.mk.injEq, Bool.and_eq_true] at hk'
 obtain ⟨⟨a1, a2, a3, a4, a5, a6⟩, hk'⟩ := hk'
 cases hr : segP C.P ops (segI (pl.take k)) fr with
 | none => rw [hr] at hk'; cases hk'
 | some fr1 =>
  rw [hr] at hk'
  simp only [Option.map_some, Option.some.injEq, Prod.mk.injEq] at hk'
  obtain ⟨b1, b2, b3⟩ := hk'
  have hF : segF C.P ops (segI (pl.take k)) fr = fr1 := by unfold segF; rw [hr]; rfl
  rw [hF] at hs'
  have hl1 : fr1.length = N := (segP_length _ _ _ hr).trans H.1
  have hH := Has.of_map hl1 b3
  have e : pl = pl.take k ++ pl.drop k := (List.take_append_drop k pl).symm
  rw [e]
  refine at_segP _ _ fr fr1 (noU_all a2) hr ?_
  rw [hasK_eq a1]
  refine at_step0 (v := v) b1 (by rw [protOf_nil, List.nil_append]; exact hs') rfl (hn _ _ ⟨by simp [hl1], fun p hp => ?_⟩)
  rw [b2]
  show nth (fr1.set d v) p.1 = p.2
  cases hp with
  | head =>
   rw [Nat.blt_eq] at a6
   rw [nth_set, if_pos ⟨rfl, by rw [hl1]; exact a6⟩]
  | tail _ hp =>
   rcases List.mem_append.1 hp with hp | hp
   ·rw [nth_set, if_neg (fun e => keyNo_ne a5 p hp e.1.symm)]
    exact hH.2 p hp
   ·rw [nth_set, if_neg (fun e => keyNo_ne a4 p hp e.1.symm), segP_keepsL _ fr fr1 a3 hr p hp]
    exact H.2 p hp
theorem at_g0 (k : Nat) (nw : List (Nat × AVal)) (v : AVal) (h1 : AHeap) (H : Has fr N l) (hs : ∀ fr, Steps C g h (segF C.P ops (segI (pl.take k)) (mkFr N l fr)) (opI ops (idxK pl k)) v h1)
  (hn : ∀ fr' t, Has fr' N (List.append nw l) → AT C g ops (pl.drop (k + 1)) t fr' h1 K)
  (hk : ∀ fr, (hasK pl k && (noU (pl.take k) && (dstsNoL ops l (segI (pl.take k)) && (dstNo ops (idxK pl k) l && dstNo ops (idxK pl k) nw))), (segP C.P ops (segI (pl.take k)) (mkFr N l fr)).map (fun x => (runs ops x (idxK pl k), nw.map (fun p => nth x p.1)))) = (true, some (true, nw.map (·.2))) := by intro _; kernel_rfl) : AT C g ops pl tch fr h K := by
 have hk' := hk fr
 have hs' := hs fr
 rw [mkFr_eq H] at hk' hs'
 simp only [Prod.mk.injEq, Bool.and_eq_true] at hk'
 obtain ⟨⟨a1, a2, a3, a4, a5⟩, hk'⟩ := hk'
 cases hr : segP C.P ops (segI (pl.take k)) fr with
 | none => rw [hr] at hk'; cases hk'
 | some fr1 =>
  rw [hr] at hk'
  simp only [Option.map_some, Option.some.injEq, Prod.mk.injEq] at hk'
  obtain ⟨b1, b3⟩ := hk'
  have hF : segF C.P ops (segI (pl.take k)) fr = fr1 := by unfold segF; rw [hr]; rfl
  rw [hF] at hs'
  have hl1 : fr1.length = N := (segP_length _ _ _ hr).trans H.1
  have hH := Has.of_map hl1 b3
  have e : pl = pl.take k ++ pl.drop k := (List.take_append_drop k pl).symm
  rw [e]
  refine at_segP _ _ fr fr1 (noU_all a2) hr ?_
  rw [hasK_eq a1]
  refine at_step0 (v := v) b1 (by rw [protOf_nil, List.nil_append]; exact hs') rfl (hn _ _ ⟨by simp [hl1], fun p hp => ?_⟩)
  rcases List.mem_append.1 hp with hp | hp
  ·rw [dstNo_keeps a5 v p hp]; exact hH.2 p hp
  ·rw [dstNo_keeps a4 v p hp, segP_keepsL _ fr fr1 a3 hr p hp]; exact H.2 p hp
theorem at_el (k : Nat) (nw : List (Nat × AVal)) (H : Has fr N l) (hK : ∀ fr', AW C f g c fr' h Q → K fr' h) (hh : ∀ fr', Has fr' N (List.append nw l) → AW C f g c fr' h Q)
  (hk : ∀ fr, (noU pl, Nat.beq pl.length k, dstsNoL ops l (segI pl), (segP C.P ops (segI pl) (mkFr N l fr)).map (fun x => nw.map (fun p => nth x p.1))) = (true, true, true, some (nw.map (·.2))) := by intro _; kernel_rfl) : AT C g ops pl tch fr h K := by
 have hk' := hk fr
 simp only [Prod.mk.injEq] at hk'
 have hl := Nat.eq_of_beq_eq_true hk'.2.1
 have ht : pl.take k = pl := List.take_of_length_le (by omega)
 have hd : pl.drop k = [] := List.drop_eq_nil_of_le (by omega)
 refine at_sl k nw H (fun fr' H' => ?_) (fun fr => ?_)
 ·rw [hd]
  exact at_nil (hK _ (hh _ H'))
 ·have := hk fr
  simp only [Prod.mk.injEq] at this
  rw [ht]
  simp only [Prod.mk.injEq]
  exact ⟨this.1, this.2.2.1, this.2.2.2⟩
theorem at_es (k : Nat) (nw : List (Nat × AVal)) (n : Nat) (H : Has fr N l) (hK : ∀ fr', AW C f g c fr' h Q → K fr' h) (hh : ∀ fr', Has fr' N (List.append nw l) → AT C g (opsOf (left c)) (plan0 0 n) [] fr' h (fun fr' h' => thenQ (fun fr h => AW C f g (right c) fr h Q) Q .normal fr' h'))
  (hk : ∀ fr, (noU pl, Nat.beq pl.length k, dstsNoL ops l (segI pl), (segP C.P ops (segI pl) (mkFr N l fr)).map (fun x => nw.map (fun p => nth x p.1))) = (true, true, true, some (nw.map (·.2))) := by intro _; kernel_rfl) (hs : shape c = .seq := by kernel_rfl) (hr : isReg (left c) n = true := by kernel_rfl) : AT C g ops pl tch fr h K := at_el k nw H hK (fun fr' H' => aw_sq (aw_rg n (hh fr' H') hr) hs) hk
theorem at_cl (k : Nat) (I : Fr → AHeap → Prop) (h1 : AT C g ops (pl.take k) tch fr h I) (h2 : ∀ t fr h, I fr h → AT C g ops (pl.drop k) t fr h K) : AT C g ops pl tch fr h K := by
 have e : pl = pl.take k ++ pl.drop k := (List.take_append_drop k pl).symm
 rw [e]
 exact at_cut _ I h1 h2
theorem aw_dg (id n : Nat) (hh : AT C g (opsOf c) (plan0 0 n) [] fr h (fun fr' h' => Q .normal fr' h')) (hs : shape c = .region id n true := by kernel_rfl) (hp : C.plan f id = plan0 0 n := by kernel_rfl) : AW C f g c fr h Q := aw_draw hs _ hp hh
theorem aw_dw (id n : Nat) (pl : List (Nat × List Nat)) (hh : AT C g (opsOf c) pl [] fr h (fun fr' h' => Q .normal fr' h')) (hs : shape c = .region id n true := by kernel_rfl) (hp : C.plan f id = pl := by kernel_rfl) : AW C f g c fr h Q := aw_draw hs _ hp hh
theorem aw_sr (n : Nat) (hh : AT C g (opsOf (left c)) (plan0 0 n) [] fr h (fun fr' h' => thenQ (fun fr h => AW C f g (right c) fr h Q) Q .normal fr' h')) (hs : shape c = .seq := by kernel_rfl) (hr : isReg (left c) n = true := by kernel_rfl) : AW C f g c fr h Q := aw_seq hs (aw_rg n hh hr)
theorem at_nl (hK : AW C f g c fr h Q → K fr h) (hh : AW C f g c fr h Q) : AT C g ops [] tch fr h K := at_nil (hK hh)
theorem at_nr (n : Nat) (hK : AW C f g c fr h Q → K fr h) (hh : AT C g (opsOf c) (plan0 0 n) [] fr h (fun fr' h' => Q .normal fr' h')) (hr : isReg c n = true := by kernel_rfl) : AT C g ops [] tch fr h K := at_nil (hK (aw_rg n hh hr))
theorem at_ns (n : Nat) (hK : AW C f g c fr h Q → K fr h) (hh : AT C g (opsOf (left c)) (plan0 0 n) [] fr h (fun fr' h' => thenQ (fun fr h => AW C f g (right c) fr h Q) Q .normal fr' h')) (hs : shape c = .seq := by kernel_rfl) (hr : isReg (left c) n = true := by kernel_rfl) : AT C g ops [] tch fr h K := at_nil (hK (aw_sr n hh hs hr))
theorem aw_rt (hq : Q .ret fr h) (hs : shape c = .ret := by kernel_rfl) : AW C f g c fr h Q := aw_ret hs hq
theorem aw_sk (hq : Q .normal fr h) (hs : shape c = .skip := by kernel_rfl) : AW C f g c fr h Q := aw_skip hs hq
end
theorem injA {α : Type} {a x : α} (h : some a = some x) : a = x := Option.some.inj h
theorem injB {α β : Type} {a x : α} {b y : β} (h : some (a, b) = some (x, y)) : a = x ∧ b = y := Prod.mk.inj (Option.some.inj h)
theorem injC {α β γ : Type} {a x : α} {b y : β} {c z : γ} (h : some (a, b, c) = some (x, y, z)) : a = x ∧ b = y ∧ c = z := by
 obtain ⟨h1, h2⟩ := injB h
 exact ⟨h1, Prod.mk.inj h2⟩
end Go.Av
