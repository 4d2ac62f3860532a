/-
 A part.
-/
import Derived.Test.YtdbkpibbjnhmgaaDoorAvMore
namespace Go.Av
set_option linter.unusedVariables false
set_option linter.unusedSimpArgs false
def E4 (d : Nat) : List (Nat × AA) → Bool
 | [] => true
 | (i, _) :: r => bif Nat.beq i d then false else E4 d r
theorem Gj {d : Nat} : ∀ {l : List (Nat × AA)}, E4 d l = true → ∀ p ∈ l, p.1 ≠ d
 | [], _, p, hp => by cases hp
 | (i, v) :: r, h, p, hp => by
  unfold E4 at h
  rw [FU] at h
  by_cases e : i = d
  ·rw [if_pos e] at h; cases h
  ·rw [if_neg e] at h
   cases hp with
   | head => exact e
   | tail _ hp => exact Gj h p hp
def Fs (ops : Array Oper) (i : Nat) (l : List (Nat × AA)) : Bool :=
 match Eg ops i with
 | none => true
 | some d => E4 d l
section
variable {C : EP} {f : FuncId} {g : Gd} {ops : Array Oper} {tch : List (Nat × Nat)} {fr : Fr} {h h1 : AB} {K : Fr → AB → Prop} {N : Nat} {l : List (Nat × AA)} {i r : Nat}
theorem Ex {l : List (Nat × AA)} (hd : Fs ops i l = true) (v : AA) : ∀ p ∈ l, nth (put fr (Eg ops i) v) p.1 = nth fr p.1 := by
 intro p hp
 unfold Fs at hd
 split at hd
 ·rename_i e; rw [e]; rfl
 ·rename_i d e
  rw [e]
  exact LY fr v (fun e => Gj hd p hp (Option.some.inj e).symm)
variable {Q : BL → Fr → AB → Prop} {c : Code}
def Hx : Code → Nat → Bool
 | .region _ ops draw, n => !draw && Nat.beq ops.size n
 | _, _ => false
theorem CQ (n : Nat) (hh : AT C g (opsOf c) (FJ 0 n) [] fr h (fun fr' h' => Q .normal fr' h')) (hs : Hx c n = true := by kernel_rfl) : AW C f g c fr h Q := by
 cases c with
 | region id ops draw =>
  simp only [Hx, Bool.and_eq_true, Bool.not_eq_true'] at hs
  obtain ⟨rfl, e⟩ := hs
  obtain rfl := Nat.eq_of_beq_eq_true e
  exact VJ (id := id) _ rfl rfl hh
 | _ => cases hs
theorem AS (hh : AW C f g (left c) fr h (Ke (fun fr h => AW C f g (right c) fr h Q) Q)) (hs : shape c = .seq := by kernel_rfl) : AW C f g c fr h Q := Pf hs hh
theorem Has.ls {out : List (Nat × AA)} (H : Has fr N l) (h : ∀ fr, out.map (fun p => nth (Bx N l fr) p.1) = out.map (·.2) := by intro _; kernel_rfl) : Has fr N out := H.less out h
theorem BK (d : Nat) {b : Bool} {α : Type} {x y : Option α} {r : α} (H : Has fr N l) (hm : BM b x y = some r) (h1 : b = true → x = some r → Has fr N (Pm l d (.bool true)) → AW C f g (left c) fr h Q) (h2 : b = false → y = some r → Has fr N (Pm l d (.bool false)) → AW C f g (right c) fr h Q)
  (hd : MU l d = some (.bool b) := by kernel_rfl) (hs : shape c = .cond (.tmp d) := by kernel_rfl) : AW C f g c fr h Q := by
 have e : nth fr d = .bool b := H.2 _ (KF hd)
 cases c <;> simp [shape] at hs
 subst hs
 rcases DL hm with ⟨hb, hm⟩ | ⟨hb, hm⟩
 ·obtain ⟨n, e', fr', h', q1, q2⟩ := (h1 hb hm (H.Vg d hb hd)).ex
  rw [hb] at e
  exact ⟨⟨n, e', fr', h', by simp only [Aa, ev, e]; exact q1, q2⟩⟩
 ·obtain ⟨n, e', fr', h', q1, q2⟩ := (h2 hb hm (H.Vg d hb hd)).ex
  rw [hb] at e
  exact ⟨⟨n, e', fr', h', by simp only [Aa, ev, e]; exact q1, q2⟩⟩
def C7 (ops : Array Oper) (l : List (Nat × AA)) : List Nat → Bool
 | [] => true
 | i :: r => Fs ops i l && C7 ops l r
theorem E8 {P : Program} {l : List (Nat × AA)} : ∀ (is : List Nat) (fr fr1 : Fr), C7 ops l is = true → D2 P ops is fr = some fr1 → ∀ p ∈ l, nth fr1 p.1 = nth fr p.1
 | [], fr, fr1, _, hs, p, hp => by
  simp only [D2, Option.some.injEq] at hs
  rw [hs]
 | i :: is, fr, fr1, hd, hs, p, hp => by
  simp only [C7, Bool.and_eq_true] at hd
  simp only [D2] at hs
  split at hs
  ·cases hs
  ·rename_i o ho
   have e2 : Eg ops i = o.dst := by simp [Eg, ho]
   have hk := fun fr v => Ex (fr := fr) hd.1 v p hp
   rw [e2] at hk
   split at hs
   ·split at hs
    ·rw [E8 is _ _ hd.2 hs p hp, hk]
    ·cases hs
   ·rw [E8 is _ _ hd.2 hs p hp, hk]
   ·cases hs
variable {pl : List (Nat × List Nat)} {U : List Nat}
theorem Ax (k : Nat) (nw : List (Nat × AA)) (H : Has fr N l) (hn : ∀ fr', Has fr' N (List.append nw l) → AT C g ops (pl.drop k) tch fr' h K)
  (hk : ∀ fr, (NO (pl.take k), C7 ops l (Cj (pl.take k)), (D2 C.P ops (Cj (pl.take k)) (Bx N l fr)).map (fun x => nw.map (fun p => nth x p.1))) = (true, true, some (nw.map (·.2))) := by intro _; kernel_rfl) :
  AT C g ops pl tch fr h K := by
 have hk' := hk fr
 rw [Cf H] at hk'
 simp only [Prod.mk.injEq] at hk'
 obtain ⟨hu, hd, hk'⟩ := hk'
 cases hr : D2 C.P ops (Cj (pl.take k)) fr with
 | none => rw [hr] at hk'; cases hk'
 | some fr1 =>
  rw [hr] at hk'
  simp only [Option.map_some, Option.some.injEq] at hk'
  have e : pl = pl.take k ++ pl.drop k := (List.take_append_drop k pl).symm
  rw [e]
  refine Ji _ _ fr fr1 (Jf hu) hr (hn fr1 ?_)
  have h1 := Has.of_map ((EK _ _ _ hr).trans H.1) hk'
  refine ⟨h1.1, fun p hp => ?_⟩
  rcases List.mem_append.1 hp with hp | hp
  ·exact h1.2 p hp
  ·rw [E8 _ fr fr1 hd hr p hp]; exact H.2 p hp
theorem Az (d : Nat) (v : AA) (h1 : AB) (H : Has fr N l) (hs : ∀ fr, Steps C g h (Bx N l fr) (Kt ops i) v h1)
  (hn : ∀ fr' t, Has fr' N ((d, v) :: l) → AT C g ops pl t fr' h1 K)
  (hw : ∀ fr, (runs ops (Bx N l fr) i, Eg ops i, Nat.blt d N, E4 d l) = (true, some d, true, true) := by intro _; kernel_rfl) : AT C g ops ((i, []) :: pl) tch fr h K := by
 have hw' := hw fr
 have hs' := hs fr
 rw [Cf H] at hw' hs'
 simp only [Prod.mk.injEq] at hw'
 obtain ⟨w1, w2, w3, w4⟩ := hw'
 refine FA (v := v) w1 (by rw [Eo, List.nil_append]; exact hs') rfl (hn _ _ ⟨by simp [H.1], fun p hp => ?_⟩)
 rw [w2]
 show nth (fr.set d v) p.1 = p.2
 cases hp with
 | head =>
  rw [Nat.blt_eq] at w3
  rw [Bu, if_pos ⟨rfl, by rw [H.1]; exact w3⟩]
 | tail _ hp =>
  rw [Bu, if_neg (fun e => Gj w4 p hp e.1.symm)]
  exact H.2 p hp
theorem L0 (v : AA) (h1 : AB) (H : Has fr N l) (hs : ∀ fr, Steps C g h (Bx N l fr) (Kt ops i) v h1)
  (hn : ∀ fr' t, Has fr' N l → AT C g ops pl t fr' h1 K)
  (hw : ∀ fr, (runs ops (Bx N l fr) i, Fs ops i l) = (true, true) := by intro _; kernel_rfl) : AT C g ops ((i, []) :: pl) tch fr h K := by
 have hw' := hw fr
 have hs' := hs fr
 rw [Cf H] at hw' hs'
 simp only [Prod.mk.injEq] at hw'
 obtain ⟨w1, w2⟩ := hw'
 refine FA (v := v) w1 (by rw [Eo, List.nil_append]; exact hs') rfl (hn _ _ ⟨by simp [H.1], fun p hp => ?_⟩)
 rw [Ex w2 v p hp]
 exact H.2 p hp
theorem M3 (d : Nat) (v : AA) (h1 : AB) (tch' : List (Nat × Nat)) (pr : List Nat) (H : Has fr N l) (hs : ∀ fr, Steps C ⟨g.floor, pr⟩ h (Bx N l fr) (Kt ops i) v h1)
  (hn : ∀ fr', Has fr' N ((d, v) :: l) → AT C g ops pl tch' fr' h1 K)
  (hre : ∀ fr, Ko C ops U (put (Bx N l fr) (Eg ops i) v) h1 = true := by intro _; kernel_rfl)
  (hw : ∀ fr, (runs ops (Bx N l fr) i, Eg ops i, Nat.blt d N, E4 d l) = (true, some d, true, true) := by intro _; kernel_rfl)
  (hp : FC tch U ++ g.Bg = pr := by kernel_rfl) (ht : ∀ fr, EC C.P h (Bx N l fr) i (Kt ops i) tch = tch' := by intro _; kernel_rfl) : AT C g ops ((i, U) :: pl) tch fr h K := by
 have hw' := hw fr
 have hs' := hs fr
 have hre' := hre fr
 have ht' := ht fr
 rw [Cf H] at hw' hs' hre' ht'
 simp only [Prod.mk.injEq] at hw'
 obtain ⟨w1, w2, w3, w4⟩ := hw'
 have hh : Has (put fr (Eg ops i) v) N ((d, v) :: l) := by
  refine ⟨by simp [H.1], fun p hq => ?_⟩
  rw [w2]
  show nth (fr.set d v) p.1 = p.2
  cases hq with
  | head =>
   rw [Nat.blt_eq] at w3
   rw [Bu, if_pos ⟨rfl, by rw [H.1]; exact w3⟩]
  | tail _ hq =>
   rw [Bu, if_neg (fun e => Gj w4 p hq e.1.symm)]
   exact H.2 p hq
 exact FA (v := v) w1 (by rw [hp]; exact hs') hre' (by rw [ht']; exact hn _ hh)
theorem Qq (v : AA) (h1 : AB) (tch' : List (Nat × Nat)) (pr : List Nat) (H : Has fr N l) (hs : ∀ fr, Steps C ⟨g.floor, pr⟩ h (Bx N l fr) (Kt ops i) v h1)
  (hn : ∀ fr', Has fr' N l → AT C g ops pl tch' fr' h1 K)
  (hre : ∀ fr, Ko C ops U (put (Bx N l fr) (Eg ops i) v) h1 = true := by intro _; kernel_rfl)
  (hw : ∀ fr, (runs ops (Bx N l fr) i, Fs ops i l) = (true, true) := by intro _; kernel_rfl)
  (hp : FC tch U ++ g.Bg = pr := by kernel_rfl) (ht : ∀ fr, EC C.P h (Bx N l fr) i (Kt ops i) tch = tch' := by intro _; kernel_rfl) : AT C g ops ((i, U) :: pl) tch fr h K := by
 have hw' := hw fr
 have hs' := hs fr
 have hre' := hre fr
 have ht' := ht fr
 rw [Cf H] at hw' hs' hre' ht'
 simp only [Prod.mk.injEq] at hw'
 obtain ⟨w1, w2⟩ := hw'
 have hh : Has (put fr (Eg ops i) v) N l := by
  refine ⟨by simp [H.1], fun p hq => ?_⟩
  rw [Ex w2 v p hq]
  exact H.2 p hq
 exact FA (v := v) w1 (by rw [hp]; exact hs') hre' (by rw [ht']; exact hn _ hh)
theorem Bk (k : Nat) (out : List (Nat × AA)) (H : Has fr N l) (hn : ∀ fr', Has fr' N out → AT C g ops (pl.drop k) tch fr' h K)
  (hk : ∀ fr, (NO (pl.take k), (D2 C.P ops (Cj (pl.take k)) (Bx N l fr)).map (fun x => out.map (fun p => nth x p.1))) = (true, some (out.map (·.2))) := by intro _; kernel_rfl) :
  AT C g ops pl tch fr h K := by
 have hu := hk fr
 simp only [Prod.mk.injEq] at hu
 have e : pl = pl.take k ++ pl.drop k := (List.take_append_drop k pl).symm
 rw [e]
 refine Vo (pl.take k) out H (Jf hu.1) (fun fr => ?_) hn
 have := hk fr
 simp only [Prod.mk.injEq] at this
 exact this.2
def Kw (P : Program) (ops : Array Oper) (is : List Nat) (fr : Fr) : Fr := (D2 P ops is fr).getD fr
def EO (pl : List (Nat × List Nat)) (k : Nat) : Nat :=
 match pl.drop k with
 | (i, _) :: _ => i
 | [] => 0
def MS (pl : List (Nat × List Nat)) (k : Nat) : Bool :=
 match pl.drop k with
 | (_, []) :: _ => true
 | _ => false
theorem QM {pl : List (Nat × List Nat)} {k : Nat} (h : MS pl k = true) : pl.drop k = (EO pl k, []) :: pl.drop (k + 1) := by
 unfold MS at h
 unfold EO
 have e : pl.drop (k + 1) = (pl.drop k).drop 1 := by rw [List.drop_drop]
 split at h
 ·rename_i i r hd
  rw [e, hd]; rfl
 ·cases h
theorem BE (k : Nat) (nw : List (Nat × AA)) (d : Nat) (v : AA) (h1 : AB) (H : Has fr N l) (hs : ∀ fr, Steps C g h (Kw C.P ops (Cj (pl.take k)) (Bx N l fr)) (Kt ops (EO pl k)) v h1)
  (hn : ∀ fr' t, Has fr' N ((d, v) :: List.append nw l) → AT C g ops (pl.drop (k + 1)) t fr' h1 K)
  (hk : ∀ fr, (MS pl k && (NO (pl.take k) && (C7 ops l (Cj (pl.take k)) && (E4 d l && (E4 d nw && Nat.blt d N)))), (D2 C.P ops (Cj (pl.take k)) (Bx N l fr)).map (fun x => (runs ops x (EO pl k), Eg ops (EO pl k), nw.map (fun p => nth x p.1)))) = (true, some (true, some d, nw.map (·.2))) := by intro _; kernel_rfl) : AT C g ops pl tch fr h K := by
 have hk' := hk fr
 have hs' := hs fr
 rw [Cf H] at hk' hs'
 simp only [Prod.mk.injEq, Bool.and_eq_true] at hk'
 obtain ⟨⟨a1, a2, a3, a4, a5, a6⟩, hk'⟩ := hk'
 cases hr : D2 C.P ops (Cj (pl.take k)) fr with
 | none => rw [hr] at hk'; cases hk'
 | some fr1 =>
  rw [hr] at hk'
  simp only [Option.map_some, Option.some.injEq, Prod.mk.injEq] at hk'
  obtain ⟨b1, b2, b3⟩ := hk'
  have hF : Kw C.P ops (Cj (pl.take k)) fr = fr1 := by unfold Kw; rw [hr]; rfl
  rw [hF] at hs'
  have hl1 : fr1.length = N := (EK _ _ _ hr).trans H.1
  have hH := Has.of_map hl1 b3
  have e : pl = pl.take k ++ pl.drop k := (List.take_append_drop k pl).symm
  rw [e]
  refine Ji _ _ fr fr1 (Jf a2) hr ?_
  rw [QM a1]
  refine FA (v := v) b1 (by rw [Eo, List.nil_append]; exact hs') rfl (hn _ _ ⟨by simp [hl1], fun p hp => ?_⟩)
  rw [b2]
  show nth (fr1.set d v) p.1 = p.2
  cases hp with
  | head =>
   rw [Nat.blt_eq] at a6
   rw [Bu, if_pos ⟨rfl, by rw [hl1]; exact a6⟩]
  | tail _ hp =>
   rcases List.mem_append.1 hp with hp | hp
   ·rw [Bu, if_neg (fun e => Gj a5 p hp e.1.symm)]
    exact hH.2 p hp
   ·rw [Bu, if_neg (fun e => Gj a4 p hp e.1.symm), E8 _ fr fr1 a3 hr p hp]
    exact H.2 p hp
theorem SH (k : Nat) (nw : List (Nat × AA)) (v : AA) (h1 : AB) (H : Has fr N l) (hs : ∀ fr, Steps C g h (Kw C.P ops (Cj (pl.take k)) (Bx N l fr)) (Kt ops (EO pl k)) v h1)
  (hn : ∀ fr' t, Has fr' N (List.append nw l) → AT C g ops (pl.drop (k + 1)) t fr' h1 K)
  (hk : ∀ fr, (MS pl k && (NO (pl.take k) && (C7 ops l (Cj (pl.take k)) && (Fs ops (EO pl k) l && Fs ops (EO pl k) nw))), (D2 C.P ops (Cj (pl.take k)) (Bx N l fr)).map (fun x => (runs ops x (EO pl k), nw.map (fun p => nth x p.1)))) = (true, some (true, nw.map (·.2))) := by intro _; kernel_rfl) : AT C g ops pl tch fr h K := by
 have hk' := hk fr
 have hs' := hs fr
 rw [Cf H] at hk' hs'
 simp only [Prod.mk.injEq, Bool.and_eq_true] at hk'
 obtain ⟨⟨a1, a2, a3, a4, a5⟩, hk'⟩ := hk'
 cases hr : D2 C.P ops (Cj (pl.take k)) fr with
 | none => rw [hr] at hk'; cases hk'
 | some fr1 =>
  rw [hr] at hk'
  simp only [Option.map_some, Option.some.injEq, Prod.mk.injEq] at hk'
  obtain ⟨b1, b3⟩ := hk'
  have hF : Kw C.P ops (Cj (pl.take k)) fr = fr1 := by unfold Kw; rw [hr]; rfl
  rw [hF] at hs'
  have hl1 : fr1.length = N := (EK _ _ _ hr).trans H.1
  have hH := Has.of_map hl1 b3
  have e : pl = pl.take k ++ pl.drop k := (List.take_append_drop k pl).symm
  rw [e]
  refine Ji _ _ fr fr1 (Jf a2) hr ?_
  rw [QM a1]
  refine FA (v := v) b1 (by rw [Eo, List.nil_append]; exact hs') rfl (hn _ _ ⟨by simp [hl1], fun p hp => ?_⟩)
  rcases List.mem_append.1 hp with hp | hp
  ·rw [Ex a5 v p hp]; exact hH.2 p hp
  ·rw [Ex a4 v p hp, E8 _ fr fr1 a3 hr p hp]; exact H.2 p hp
theorem TT (k : Nat) (nw : List (Nat × AA)) (H : Has fr N l) (hK : ∀ fr', AW C f g c fr' h Q → K fr' h) (hh : ∀ fr', Has fr' N (List.append nw l) → AW C f g c fr' h Q)
  (hk : ∀ fr, (NO pl, Nat.beq pl.length k, C7 ops l (Cj pl), (D2 C.P ops (Cj pl) (Bx N l fr)).map (fun x => nw.map (fun p => nth x p.1))) = (true, true, true, some (nw.map (·.2))) := by intro _; kernel_rfl) : AT C g ops pl tch fr h K := by
 have hk' := hk fr
 simp only [Prod.mk.injEq] at hk'
 have hl := Nat.eq_of_beq_eq_true hk'.2.1
 have ht : pl.take k = pl := List.take_of_length_le (by omega)
 have hd : pl.drop k = [] := List.drop_eq_nil_of_le (by omega)
 refine Ax k nw H (fun fr' H' => ?_) (fun fr => ?_)
 ·rw [hd]
  exact at_nil (hK _ (hh _ H'))
 ·have := hk fr
  simp only [Prod.mk.injEq] at this
  rw [ht]
  simp only [Prod.mk.injEq]
  exact ⟨this.1, this.2.2.1, this.2.2.2⟩
theorem V6 (k : Nat) (nw : List (Nat × AA)) (n : Nat) (H : Has fr N l) (hK : ∀ fr', AW C f g c fr' h Q → K fr' h) (hh : ∀ fr', Has fr' N (List.append nw l) → AT C g (opsOf c) (FJ 0 n) [] fr' h (fun fr' h' => Q .normal fr' h'))
  (hk : ∀ fr, (NO pl, Nat.beq pl.length k, C7 ops l (Cj pl), (D2 C.P ops (Cj pl) (Bx N l fr)).map (fun x => nw.map (fun p => nth x p.1))) = (true, true, true, some (nw.map (·.2))) := by intro _; kernel_rfl) (hr : Hx c n = true := by kernel_rfl) : AT C g ops pl tch fr h K := TT k nw H hK (fun fr' H' => CQ n (hh fr' H') hr) hk
theorem WS (k : Nat) (nw : List (Nat × AA)) (n : Nat) (H : Has fr N l) (hK : ∀ fr', AW C f g c fr' h Q → K fr' h) (hh : ∀ fr', Has fr' N (List.append nw l) → AT C g (opsOf (left c)) (FJ 0 n) [] fr' h (fun fr' h' => Ke (fun fr h => AW C f g (right c) fr h Q) Q .normal fr' h'))
  (hk : ∀ fr, (NO pl, Nat.beq pl.length k, C7 ops l (Cj pl), (D2 C.P ops (Cj pl) (Bx N l fr)).map (fun x => nw.map (fun p => nth x p.1))) = (true, true, true, some (nw.map (·.2))) := by intro _; kernel_rfl) (hs : shape c = .seq := by kernel_rfl) (hr : Hx (left c) n = true := by kernel_rfl) : AT C g ops pl tch fr h K := TT k nw H hK (fun fr' H' => AS (CQ n (hh fr' H') hr) hs) hk
theorem HJ (k : Nat) (I : Fr → AB → Prop) (h1 : AT C g ops (pl.take k) tch fr h I) (h2 : ∀ t fr h, I fr h → AT C g ops (pl.drop k) t fr h K) : AT C g ops pl tch fr h K := by
 have e : pl = pl.take k ++ pl.drop k := (List.take_append_drop k pl).symm
 rw [e]
 exact VL _ I h1 h2
theorem Ox (id n : Nat) (hh : AT C g (opsOf c) (FJ 0 n) [] fr h (fun fr' h' => Q .normal fr' h')) (hs : shape c = .region id n true := by kernel_rfl) (hp : C.Ib f id = FJ 0 n := by kernel_rfl) : AW C f g c fr h Q := Qr hs _ hp hh
theorem TC (id n : Nat) (pl : List (Nat × List Nat)) (hh : AT C g (opsOf c) pl [] fr h (fun fr' h' => Q .normal fr' h')) (hs : shape c = .region id n true := by kernel_rfl) (hp : C.Ib f id = pl := by kernel_rfl) : AW C f g c fr h Q := Qr hs _ hp hh
theorem AH (n : Nat) (hh : AT C g (opsOf (left c)) (FJ 0 n) [] fr h (fun fr' h' => Ke (fun fr h => AW C f g (right c) fr h Q) Q .normal fr' h')) (hs : shape c = .seq := by kernel_rfl) (hr : Hx (left c) n = true := by kernel_rfl) : AW C f g c fr h Q := Pf hs (CQ n hh hr)
theorem Dg (hK : AW C f g c fr h Q → K fr h) (hh : AW C f g c fr h Q) : AT C g ops [] tch fr h K := at_nil (hK hh)
theorem IG (n : Nat) (hK : AW C f g c fr h Q → K fr h) (hh : AT C g (opsOf c) (FJ 0 n) [] fr h (fun fr' h' => Q .normal fr' h')) (hr : Hx c n = true := by kernel_rfl) : AT C g ops [] tch fr h K := at_nil (hK (CQ n hh hr))
theorem F5 (n : Nat) (hK : AW C f g c fr h Q → K fr h) (hh : AT C g (opsOf (left c)) (FJ 0 n) [] fr h (fun fr' h' => Ke (fun fr h => AW C f g (right c) fr h Q) Q .normal fr' h')) (hs : shape c = .seq := by kernel_rfl) (hr : Hx (left c) n = true := by kernel_rfl) : AT C g ops [] tch fr h K := at_nil (hK (AH n hh hs hr))
theorem BV (hq : Q .ret fr h) (hs : shape c = .ret := by kernel_rfl) : AW C f g c fr h Q := VF hs hq
theorem Ea (hq : Q .normal fr h) (hs : shape c = .skip := by kernel_rfl) : AW C f g c fr h Q := Kx hs hq
end
theorem Aq {α : Type} {a x : α} (h : some a = some x) : a = x := Option.some.inj h
theorem OJ {α β : Type} {a x : α} {b y : β} (h : some (a, b) = some (x, y)) : a = x ∧ b = y := Prod.mk.inj (Option.some.inj h)
end Go.Av
