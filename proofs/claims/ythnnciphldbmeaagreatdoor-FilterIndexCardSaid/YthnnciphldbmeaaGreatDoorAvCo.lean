/-
  AV: the rules for texts in a shorter form: plans of regions that draw nothing by their numbers; what is known of slots grows.
-/
import Derived.Test.YthnnciphldbmeaaGreatDoorAvMore
namespace Go.Av
set_option linter.unusedVariables false
set_option linter.unusedSimpArgs false
def Hm (d : Nat) : List (Nat × AA) → Bool
 | [] => true
 | (i, _) :: r => bif Nat.beq i d then false else Hm d r
theorem J6 {d : Nat} : ∀ {l : List (Nat × AA)}, Hm d l = true → ∀ p ∈ l, p.1 ≠ d
 | [], _, p, hp => by cases hp
 | (i, v) :: r, h, p, hp => by
  unfold Hm at h
  rw [IL] at h
  by_cases e : i = d
  ·rw [if_pos e] at h; cases h
  ·rw [if_neg e] at h
   cases hp with
   | head => exact e
   | tail _ hp => exact J6 h p hp
def ID (ops : Array Oper) (i : Nat) (l : List (Nat × AA)) : Bool :=
 match HF ops i with
 | none => true
 | some d => Hm d l
section
variable {C : Hc} {f : FuncId} {g : Gd} {ops : Array Oper} {tch : List (Nat × Nat)} {fr : Fr} {h h1 : AH} {K : Fr → AH → Prop} {N : Nat} {l : List (Nat × AA)} {i r : Nat}
theorem Hp {l : List (Nat × AA)} (hd : ID ops i l = true) (v : AA) : ∀ p ∈ l, nth (put fr (HF ops i) v) p.1 = nth fr p.1 := by
 intro p hp
 unfold ID at hd
 split at hd
 ·rename_i e; rw [e]; rfl
 ·rename_i d e
  rw [e]
  exact OR fr v (fun e => J6 hd p hp (Option.some.inj e).symm)
variable {Q : C3 → Fr → AH → Prop} {c : Code}
def M5 : Code → Nat → Bool
 | .region _ ops draw, n => !draw && Nat.beq ops.size n
 | _, _ => false
theorem Cy (n : Nat) (hh : AT C g (opsOf c) (JW 0 n) [] fr h (fun fr' h' => Q .normal fr' h')) (hs : M5 c n = true := by kernel_rfl) : AW C f g c fr h Q := by
 cases c with
 | region id ops draw =>
  simp only [M5, Bool.and_eq_true, Bool.not_eq_true'] at hs
  obtain ⟨rfl, e⟩ := hs
  obtain rfl := Nat.eq_of_beq_eq_true e
  exact W3 (id := id) _ rfl rfl hh
 | _ => cases hs
theorem AQ (hh : AW C f g (left c) fr h (M9 (fun fr h => AW C f g (right c) fr h Q) Q)) (hs : shape c = .seq := by kernel_rfl) : AW C f g c fr h Q := TG hs hh
theorem Has.ls {out : List (Nat × AA)} (H : Has fr N l) (h : ∀ fr, out.map (fun p => nth (Cz N l fr) p.1) = out.map (·.2) := by intro _; kernel_rfl) : Has fr N out := H.less out h
theorem Ad (d : Nat) {b : Bool} {α : Type} {x y : Option α} {r : α} (H : Has fr N l) (hm : Aa b x y = some r) (h1 : b = true → x = some r → Has fr N (TI l d (.bool true)) → AW C f g (left c) fr h Q) (h2 : b = false → y = some r → Has fr N (TI l d (.bool false)) → AW C f g (right c) fr h Q)
  (hd : P5 l d = some (.bool b) := by kernel_rfl) (hs : shape c = .cond (.tmp d) := by kernel_rfl) : AW C f g c fr h Q := by
 have e : nth fr d = .bool b := H.2 _ (Nj hd)
 cases c <;> simp [shape] at hs
 subst hs
 rcases AX hm with ⟨hb, hm⟩ | ⟨hb, hm⟩
 ·obtain ⟨n, e', fr', h', q1, q2⟩ := (h1 hb hm (H.XE d hb hd)).ex
  rw [hb] at e
  exact ⟨⟨n, e', fr', h', by simp only [BX, ev, e]; exact q1, q2⟩⟩
 ·obtain ⟨n, e', fr', h', q1, q2⟩ := (h2 hb hm (H.XE d hb hd)).ex
  rw [hb] at e
  exact ⟨⟨n, e', fr', h', by simp only [BX, ev, e]; exact q1, q2⟩⟩
def Ex (ops : Array Oper) (l : List (Nat × AA)) : List Nat → Bool
 | [] => true
 | i :: r => ID ops i l && Ex ops l r
theorem Hl {P : Program} {l : List (Nat × AA)} : ∀ (is : List Nat) (fr fr1 : Fr), Ex ops l is = true → Gf P ops is fr = some fr1 → ∀ p ∈ l, nth fr1 p.1 = nth fr p.1
 | [], fr, fr1, _, hs, p, hp => by
  simp only [Gf, Option.some.injEq] at hs
  rw [hs]
 | i :: is, fr, fr1, hd, hs, p, hp => by
  simp only [Ex, Bool.and_eq_true] at hd
  simp only [Gf] at hs
  split at hs
  ·cases hs
  ·rename_i o ho
   have e2 : HF ops i = o.dst := by simp [HF, ho]
   have hk := fun fr v => Hp (fr := fr) hd.1 v p hp
   rw [e2] at hk
   split at hs
   ·split at hs
    ·rw [Hl is _ _ hd.2 hs p hp, hk]
    ·cases hs
   ·rw [Hl is _ _ hd.2 hs p hp, hk]
   ·cases hs
variable {pl : List (Nat × List Nat)} {U : List Nat}
theorem AK (k : Nat) (nw : List (Nat × AA)) (H : Has fr N l) (hn : ∀ fr', Has fr' N (List.append nw l) → AT C g ops (pl.drop k) tch fr' h K)
  (hk : ∀ fr, (Sd (pl.take k), Ex ops l (EU (pl.take k)), (Gf C.P ops (EU (pl.take k)) (Cz N l fr)).map (fun x => nw.map (fun p => nth x p.1))) = (true, true, some (nw.map (·.2))) := by intro _; kernel_rfl) :
  AT C g ops pl tch fr h K := by
 have hk' := hk fr
 rw [Eg H] at hk'
 simp only [Prod.mk.injEq] at hk'
 obtain ⟨hu, hd, hk'⟩ := hk'
 cases hr : Gf C.P ops (EU (pl.take k)) fr with
 | none => rw [hr] at hk'; cases hk'
 | some fr1 =>
  rw [hr] at hk'
  simp only [Option.map_some, Option.some.injEq] at hk'
  have e : pl = pl.take k ++ pl.drop k := (List.take_append_drop k pl).symm
  rw [e]
  refine Mj _ _ fr fr1 (Mq hu) hr (hn fr1 ?_)
  have h1 := Has.of_map ((Gv _ _ _ hr).trans H.1) hk'
  refine ⟨h1.1, fun p hp => ?_⟩
  rcases List.mem_append.1 hp with hp | hp
  ·exact h1.2 p hp
  ·rw [Hl _ fr fr1 hd hr p hp]; exact H.2 p hp
theorem Aq (d : Nat) (v : AA) (h1 : AH) (H : Has fr N l) (hs : ∀ fr, Steps C g h (Cz N l fr) (Nx ops i) v h1)
  (hn : ∀ fr' t, Has fr' N ((d, v) :: l) → AT C g ops pl t fr' h1 K)
  (hw : ∀ fr, (runs ops (Cz N l fr) i, HF ops i, Nat.blt d N, Hm d l) = (true, some d, true, true) := by intro _; kernel_rfl) : AT C g ops ((i, []) :: pl) tch fr h K := by
 have hw' := hw fr
 have hs' := hs fr
 rw [Eg H] at hw' hs'
 simp only [Prod.mk.injEq] at hw'
 obtain ⟨w1, w2, w3, w4⟩ := hw'
 refine Hq (v := v) w1 (by rw [HT, List.nil_append]; exact hs') rfl (hn _ _ ⟨by simp [H.1], fun p hp => ?_⟩)
 rw [w2]
 show nth (fr.set d v) p.1 = p.2
 cases hp with
 | head =>
  rw [Nat.blt_eq] at w3
  rw [G8, if_pos ⟨rfl, by rw [H.1]; exact w3⟩]
 | tail _ hp =>
  rw [G8, if_neg (fun e => J6 w4 p hp e.1.symm)]
  exact H.2 p hp
theorem Mg (v : AA) (h1 : AH) (H : Has fr N l) (hs : ∀ fr, Steps C g h (Cz N l fr) (Nx ops i) v h1)
  (hn : ∀ fr' t, Has fr' N l → AT C g ops pl t fr' h1 K)
  (hw : ∀ fr, (runs ops (Cz N l fr) i, ID ops i l) = (true, true) := by intro _; kernel_rfl) : AT C g ops ((i, []) :: pl) tch fr h K := by
 have hw' := hw fr
 have hs' := hs fr
 rw [Eg H] at hw' hs'
 simp only [Prod.mk.injEq] at hw'
 obtain ⟨w1, w2⟩ := hw'
 refine Hq (v := v) w1 (by rw [HT, List.nil_append]; exact hs') rfl (hn _ _ ⟨by simp [H.1], fun p hp => ?_⟩)
 rw [Hp w2 v p hp]
 exact H.2 p hp
theorem DE (d : Nat) (v : AA) (h1 : AH) (tch' : List (Nat × Nat)) (pr : List Nat) (H : Has fr N l) (hs : ∀ fr, Steps C ⟨g.floor, pr⟩ h (Cz N l fr) (Nx ops i) v h1)
  (hn : ∀ fr', Has fr' N ((d, v) :: l) → AT C g ops pl tch' fr' h1 K)
  (hre : ∀ fr, OB C ops U (put (Cz N l fr) (HF ops i) v) h1 = true := by intro _; kernel_rfl)
  (hw : ∀ fr, (runs ops (Cz N l fr) i, HF ops i, Nat.blt d N, Hm d l) = (true, some d, true, true) := by intro _; kernel_rfl)
  (hp : Hz tch U ++ g.Bq = pr := by kernel_rfl) (ht : ∀ fr, Gc C.P h (Cz N l fr) i (Nx ops i) tch = tch' := by intro _; kernel_rfl) : AT C g ops ((i, U) :: pl) tch fr h K := by
 have hw' := hw fr
 have hs' := hs fr
 have hre' := hre fr
 have ht' := ht fr
 rw [Eg H] at hw' hs' hre' ht'
 simp only [Prod.mk.injEq] at hw'
 obtain ⟨w1, w2, w3, w4⟩ := hw'
 have hh : Has (put fr (HF ops i) v) N ((d, v) :: l) := by
  refine ⟨by simp [H.1], fun p hq => ?_⟩
  rw [w2]
  show nth (fr.set d v) p.1 = p.2
  cases hq with
  | head =>
   rw [Nat.blt_eq] at w3
   rw [G8, if_pos ⟨rfl, by rw [H.1]; exact w3⟩]
  | tail _ hq =>
   rw [G8, if_neg (fun e => J6 w4 p hq e.1.symm)]
   exact H.2 p hq
 exact Hq (v := v) w1 (by rw [hp]; exact hs') hre' (by rw [ht']; exact hn _ hh)
theorem Kv (v : AA) (h1 : AH) (tch' : List (Nat × Nat)) (pr : List Nat) (H : Has fr N l) (hs : ∀ fr, Steps C ⟨g.floor, pr⟩ h (Cz N l fr) (Nx ops i) v h1)
  (hn : ∀ fr', Has fr' N l → AT C g ops pl tch' fr' h1 K)
  (hre : ∀ fr, OB C ops U (put (Cz N l fr) (HF ops i) v) h1 = true := by intro _; kernel_rfl)
  (hw : ∀ fr, (runs ops (Cz N l fr) i, ID ops i l) = (true, true) := by intro _; kernel_rfl)
  (hp : Hz tch U ++ g.Bq = pr := by kernel_rfl) (ht : ∀ fr, Gc C.P h (Cz N l fr) i (Nx ops i) tch = tch' := by intro _; kernel_rfl) : AT C g ops ((i, U) :: pl) tch fr h K := by
 have hw' := hw fr
 have hs' := hs fr
 have hre' := hre fr
 have ht' := ht fr
 rw [Eg H] at hw' hs' hre' ht'
 simp only [Prod.mk.injEq] at hw'
 obtain ⟨w1, w2⟩ := hw'
 have hh : Has (put fr (HF ops i) v) N l := by
  refine ⟨by simp [H.1], fun p hq => ?_⟩
  rw [Hp w2 v p hq]
  exact H.2 p hq
 exact Hq (v := v) w1 (by rw [hp]; exact hs') hre' (by rw [ht']; exact hn _ hh)
theorem BV (k : Nat) (out : List (Nat × AA)) (H : Has fr N l) (hn : ∀ fr', Has fr' N out → AT C g ops (pl.drop k) tch fr' h K)
  (hk : ∀ fr, (Sd (pl.take k), (Gf C.P ops (EU (pl.take k)) (Cz N l fr)).map (fun x => out.map (fun p => nth x p.1))) = (true, some (out.map (·.2))) := by intro _; kernel_rfl) :
  AT C g ops pl tch fr h K := by
 have hu := hk fr
 simp only [Prod.mk.injEq] at hu
 have e : pl = pl.take k ++ pl.drop k := (List.take_append_drop k pl).symm
 rw [e]
 refine XI (pl.take k) out H (Mq hu.1) (fun fr => ?_) hn
 have := hk fr
 simp only [Prod.mk.injEq] at this
 exact this.2
def N7 (P : Program) (ops : Array Oper) (is : List Nat) (fr : Fr) : Fr := (Gf P ops is fr).getD fr
def Gx (pl : List (Nat × List Nat)) (k : Nat) : Nat :=
 match pl.drop k with
 | (i, _) :: _ => i
 | [] => 0
def Pg (pl : List (Nat × List Nat)) (k : Nat) : Bool :=
 match pl.drop k with
 | (_, []) :: _ => true
 | _ => false
theorem TS {pl : List (Nat × List Nat)} {k : Nat} (h : Pg pl k = true) : pl.drop k = (Gx pl k, []) :: pl.drop (k + 1) := by
 unfold Pg at h
 unfold Gx
 have e : pl.drop (k + 1) = (pl.drop k).drop 1 := by rw [List.drop_drop]
 split at h
 ·rename_i i r hd
  rw [e, hd]; rfl
 ·cases h
theorem Ap (k : Nat) (nw : List (Nat × AA)) (d : Nat) (v : AA) (h1 : AH) (H : Has fr N l) (hs : ∀ fr, Steps C g h (N7 C.P ops (EU (pl.take k)) (Cz N l fr)) (Nx ops (Gx pl k)) v h1)
  (hn : ∀ fr' t, Has fr' N ((d, v) :: List.append nw l) → AT C g ops (pl.drop (k + 1)) t fr' h1 K)
  (hk : ∀ fr, (Pg pl k && (Sd (pl.take k) && (Ex ops l (EU (pl.take k)) && (Hm d l && (Hm d nw && Nat.blt d N)))), (Gf C.P ops (EU (pl.take k)) (Cz N l fr)).map (fun x => (runs ops x (Gx pl k), HF ops (Gx pl k), nw.map (fun p => nth x p.1)))) = (true, some (true, some d, nw.map (·.2))) := by intro _; kernel_rfl) : AT C g ops pl tch fr h K := by
 have hk' := hk fr
 have hs' := hs fr
 rw [Eg H] at hk' hs'
 simp only [Prod.mk.injEq, Bool.and_eq_true] at hk'
 obtain ⟨⟨a1, a2, a3, a4, a5, a6⟩, hk'⟩ := hk'
 cases hr : Gf C.P ops (EU (pl.take k)) fr with
 | none => rw [hr] at hk'; cases hk'
 | some fr1 =>
  rw [hr] at hk'
  simp only [Option.map_some, Option.some.injEq, Prod.mk.injEq] at hk'
  obtain ⟨b1, b2, b3⟩ := hk'
  have hF : N7 C.P ops (EU (pl.take k)) fr = fr1 := by unfold N7; rw [hr]; rfl
  rw [hF] at hs'
  have hl1 : fr1.length = N := (Gv _ _ _ hr).trans H.1
  have hH := Has.of_map hl1 b3
  have e : pl = pl.take k ++ pl.drop k := (List.take_append_drop k pl).symm
  rw [e]
  refine Mj _ _ fr fr1 (Mq a2) hr ?_
  rw [TS a1]
  refine Hq (v := v) b1 (by rw [HT, List.nil_append]; exact hs') rfl (hn _ _ ⟨by simp [hl1], fun p hp => ?_⟩)
  rw [b2]
  show nth (fr1.set d v) p.1 = p.2
  cases hp with
  | head =>
   rw [Nat.blt_eq] at a6
   rw [G8, if_pos ⟨rfl, by rw [hl1]; exact a6⟩]
  | tail _ hp =>
   rcases List.mem_append.1 hp with hp | hp
   ·rw [G8, if_neg (fun e => J6 a5 p hp e.1.symm)]
    exact hH.2 p hp
   ·rw [G8, if_neg (fun e => J6 a4 p hp e.1.symm), Hl _ fr fr1 a3 hr p hp]
    exact H.2 p hp
theorem Vl (k : Nat) (nw : List (Nat × AA)) (v : AA) (h1 : AH) (H : Has fr N l) (hs : ∀ fr, Steps C g h (N7 C.P ops (EU (pl.take k)) (Cz N l fr)) (Nx ops (Gx pl k)) v h1)
  (hn : ∀ fr' t, Has fr' N (List.append nw l) → AT C g ops (pl.drop (k + 1)) t fr' h1 K)
  (hk : ∀ fr, (Pg pl k && (Sd (pl.take k) && (Ex ops l (EU (pl.take k)) && (ID ops (Gx pl k) l && ID ops (Gx pl k) nw))), (Gf C.P ops (EU (pl.take k)) (Cz N l fr)).map (fun x => (runs ops x (Gx pl k), nw.map (fun p => nth x p.1)))) = (true, some (true, nw.map (·.2))) := by intro _; kernel_rfl) : AT C g ops pl tch fr h K := by
 have hk' := hk fr
 have hs' := hs fr
 rw [Eg H] at hk' hs'
 simp only [Prod.mk.injEq, Bool.and_eq_true] at hk'
 obtain ⟨⟨a1, a2, a3, a4, a5⟩, hk'⟩ := hk'
 cases hr : Gf C.P ops (EU (pl.take k)) fr with
 | none => rw [hr] at hk'; cases hk'
 | some fr1 =>
  rw [hr] at hk'
  simp only [Option.map_some, Option.some.injEq, Prod.mk.injEq] at hk'
  obtain ⟨b1, b3⟩ := hk'
  have hF : N7 C.P ops (EU (pl.take k)) fr = fr1 := by unfold N7; rw [hr]; rfl
  rw [hF] at hs'
  have hl1 : fr1.length = N := (Gv _ _ _ hr).trans H.1
  have hH := Has.of_map hl1 b3
  have e : pl = pl.take k ++ pl.drop k := (List.take_append_drop k pl).symm
  rw [e]
  refine Mj _ _ fr fr1 (Mq a2) hr ?_
  rw [TS a1]
  refine Hq (v := v) b1 (by rw [HT, List.nil_append]; exact hs') rfl (hn _ _ ⟨by simp [hl1], fun p hp => ?_⟩)
  rcases List.mem_append.1 hp with hp | hp
  ·rw [Hp a5 v p hp]; exact hH.2 p hp
  ·rw [Hp a4 v p hp, Hl _ fr fr1 a3 hr p hp]; exact H.2 p hp
theorem Wq (k : Nat) (nw : List (Nat × AA)) (H : Has fr N l) (hK : ∀ fr', AW C f g c fr' h Q → K fr' h) (hh : ∀ fr', Has fr' N (List.append nw l) → AW C f g c fr' h Q)
  (hk : ∀ fr, (Sd pl, Nat.beq pl.length k, Ex ops l (EU pl), (Gf C.P ops (EU pl) (Cz N l fr)).map (fun x => nw.map (fun p => nth x p.1))) = (true, true, true, some (nw.map (·.2))) := by intro _; kernel_rfl) : AT C g ops pl tch fr h K := by
 have hk' := hk fr
 simp only [Prod.mk.injEq] at hk'
 have hl := Nat.eq_of_beq_eq_true hk'.2.1
 have ht : pl.take k = pl := List.take_of_length_le (by omega)
 have hd : pl.drop k = [] := List.drop_eq_nil_of_le (by omega)
 refine AK k nw H (fun fr' H' => ?_) (fun fr => ?_)
 ·rw [hd]
  exact at_nil (hK _ (hh _ H'))
 ·have := hk fr
  simp only [Prod.mk.injEq] at this
  rw [ht]
  simp only [Prod.mk.injEq]
  exact ⟨this.1, this.2.2.1, this.2.2.2⟩
theorem YP (k : Nat) (nw : List (Nat × AA)) (n : Nat) (H : Has fr N l) (hK : ∀ fr', AW C f g c fr' h Q → K fr' h) (hh : ∀ fr', Has fr' N (List.append nw l) → AT C g (opsOf (left c)) (JW 0 n) [] fr' h (fun fr' h' => M9 (fun fr h => AW C f g (right c) fr h Q) Q .normal fr' h'))
  (hk : ∀ fr, (Sd pl, Nat.beq pl.length k, Ex ops l (EU pl), (Gf C.P ops (EU pl) (Cz N l fr)).map (fun x => nw.map (fun p => nth x p.1))) = (true, true, true, some (nw.map (·.2))) := by intro _; kernel_rfl) (hs : shape c = .seq := by kernel_rfl) (hr : M5 (left c) n = true := by kernel_rfl) : AT C g ops pl tch fr h K := Wq k nw H hK (fun fr' H' => AQ (Cy n (hh fr' H') hr) hs) hk
theorem A9 (k : Nat) (I : Fr → AH → Prop) (h1 : AT C g ops (pl.take k) tch fr h I) (h2 : ∀ t fr h, I fr h → AT C g ops (pl.drop k) t fr h K) : AT C g ops pl tch fr h K := by
 have e : pl = pl.take k ++ pl.drop k := (List.take_append_drop k pl).symm
 rw [e]
 exact W4 _ I h1 h2
theorem Ep (id n : Nat) (hh : AT C g (opsOf c) (JW 0 n) [] fr h (fun fr' h' => Q .normal fr' h')) (hs : shape c = .region id n true := by kernel_rfl) (hp : C.MF f id = JW 0 n := by kernel_rfl) : AW C f g c fr h Q := Tg hs _ hp hh
theorem L0 (id n : Nat) (pl : List (Nat × List Nat)) (hh : AT C g (opsOf c) pl [] fr h (fun fr' h' => Q .normal fr' h')) (hs : shape c = .region id n true := by kernel_rfl) (hp : C.MF f id = pl := by kernel_rfl) : AW C f g c fr h Q := Tg hs _ hp hh
theorem AG (n : Nat) (hh : AT C g (opsOf (left c)) (JW 0 n) [] fr h (fun fr' h' => M9 (fun fr h => AW C f g (right c) fr h Q) Q .normal fr' h')) (hs : shape c = .seq := by kernel_rfl) (hr : M5 (left c) n = true := by kernel_rfl) : AW C f g c fr h Q := TG hs (Cy n hh hr)
theorem BJ (hK : AW C f g c fr h Q → K fr h) (hh : AW C f g c fr h Q) : AT C g ops [] tch fr h K := at_nil (hK hh)
theorem Ke (n : Nat) (hK : AW C f g c fr h Q → K fr h) (hh : AT C g (opsOf c) (JW 0 n) [] fr h (fun fr' h' => Q .normal fr' h')) (hr : M5 c n = true := by kernel_rfl) : AT C g ops [] tch fr h K := at_nil (hK (Cy n hh hr))
theorem CX (n : Nat) (hK : AW C f g c fr h Q → K fr h) (hh : AT C g (opsOf (left c)) (JW 0 n) [] fr h (fun fr' h' => M9 (fun fr h => AW C f g (right c) fr h Q) Q .normal fr' h')) (hs : shape c = .seq := by kernel_rfl) (hr : M5 (left c) n = true := by kernel_rfl) : AT C g ops [] tch fr h K := at_nil (hK (AG n hh hs hr))
theorem AU (hq : Q .ret fr h) (hs : shape c = .ret := by kernel_rfl) : AW C f g c fr h Q := XZ hs hq
theorem FL (hq : Q .normal fr h) (hs : shape c = .skip := by kernel_rfl) : AW C f g c fr h Q := OO hs hq
end
theorem AY {α : Type} {a x : α} (h : some a = some x) : a = x := Option.some.inj h
theorem Cw {α β : Type} {a x : α} {b y : β} (h : some (a, b) = some (x, y)) : a = x ∧ b = y := Prod.mk.inj (Option.some.inj h)
theorem IY {α β γ : Type} {a x : α} {b y : β} {c z : γ} (h : some (a, b, c) = some (x, y, z)) : a = x ∧ b = y ∧ c = z := by
 obtain ⟨h1, h2⟩ := Cw h
 exact ⟨h1, Prod.mk.inj h2⟩
theorem Sz {α β γ δ : Type} {a x : α} {b y : β} {c z : γ} {d w : δ} (h : some (a, b, c, d) = some (x, y, z, w)) : a = x ∧ b = y ∧ c = z ∧ d = w := by
 obtain ⟨h1, h2⟩ := Cw h
 exact ⟨h1, IY (congrArg some h2)⟩
theorem WQ {α β γ δ ε : Type} {a x : α} {b y : β} {c z : γ} {d w : δ} {e v : ε} (h : some (a, b, c, d, e) = some (x, y, z, w, v)) : a = x ∧ b = y ∧ c = z ∧ d = w ∧ e = v := by
 obtain ⟨h1, h2⟩ := Cw h
 exact ⟨h1, Sz (congrArg some h2)⟩
end Go.Av
