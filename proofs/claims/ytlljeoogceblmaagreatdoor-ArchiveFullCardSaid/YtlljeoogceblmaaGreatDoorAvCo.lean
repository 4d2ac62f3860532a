/-
 A part.
-/
import Derived.Test.YtlljeoogceblmaaGreatDoorAvMore
namespace Go.Av
set_option linter.unusedVariables false
set_option linter.unusedSimpArgs false
def Gh (d : Nat) : List (Nat × AB) → Bool
 | [] => true
 | (i, _) :: r => bif Nat.beq i d then false else Gh d r
theorem I0 {d : Nat} : ∀ {l : List (Nat × AB)}, Gh d l = true → ∀ p ∈ l, p.1 ≠ d
 | [], _, p, D => by cases D
 | (i, v) :: r, h, p, D => by
  unfold Gh at h
  rw [G6] at h
  by_cases e : i = d
  ·rw [if_pos e] at h; cases h
  ·rw [if_neg e] at h
   cases D with
   | head => exact e
   | tail _ D => exact I0 h p D
def Gy (ops : Array Oper) (i : Nat) (l : List (Nat × AB)) : Bool :=
 match F3 ops i with
 | none => true
 | some d => Gh d l
section
variable {C : E8} {f : FuncId} {g : Gd} {ops : Array Oper} {tch : List (Nat × Nat)} {fr : Fr} {h h1 : AF} {K : Fr → AF → Prop} {N : Nat} {l : List (Nat × AB)} {i r : Nat}
theorem Gr {l : List (Nat × AB)} (hd : Gy ops i l = true) (v : AB) : ∀ p ∈ l, nth (put fr (F3 ops i) v) p.1 = nth fr p.1 := by
 intro p D
 unfold Gy at hd
 split at hd
 ·rename_i e; rw [e]; rfl
 ·rename_i d e
  rw [e]
  exact Ni fr v (fun e => I0 hd p D (Option.some.inj e).symm)
variable {Q : B2 → Fr → AF → Prop} {c : Code}
def J8 : Code → Nat → Bool
 | .region _ ops draw, n => !draw && Nat.beq ops.size n
 | _, _ => false
theorem CE (n : Nat) (L : AT C g (opsOf c) (Eo 0 n) [] fr h (fun fr' h' => Q .normal fr' h')) (E : J8 c n = true := by kernel_rfl) : AW C f g c fr h Q := by
 cases c with
 | region id ops draw =>
  simp only [J8, Bool.and_eq_true, Bool.not_eq_true'] at E
  obtain ⟨rfl, e⟩ := E
  obtain rfl := Nat.eq_of_beq_eq_true e
  exact Wr (id := id) _ rfl rfl L
 | _ => cases E
theorem AS (L : AW C f g (left c) fr h (KF (fun fr h => AW C f g (right c) fr h Q) Q)) (E : shape c = .seq := by kernel_rfl) : AW C f g c fr h Q := R4 E L
theorem Has.ls {out : List (Nat × AB)} (H : Has fr N l) (h : ∀ fr, out.map (fun p => nth (Cm N l fr) p.1) = out.map (·.2) := by intro _; kernel_rfl) : Has fr N out := H.less out h
theorem Ac (d : Nat) {b : Bool} {α : Type} {x y : Option α} {r : α} (H : Has fr N l) (hm : Ao b x y = some r) (h1 : b = true → x = some r → Has fr N (Nd l d (.bool true)) → AW C f g (left c) fr h Q) (h2 : b = false → y = some r → Has fr N (Nd l d (.bool false)) → AW C f g (right c) fr h Q)
  (hd : PF l d = some (.bool b) := by kernel_rfl) (E : shape c = .cond (.tmp d) := by kernel_rfl) : AW C f g c fr h Q := by
 have e : nth fr d = .bool b := H.2 _ (MQ hd)
 cases c <;> simp [shape] at E
 subst E
 rcases BT hm with ⟨X, hm⟩ | ⟨X, hm⟩
 ·obtain ⟨n, e', fr', h', q1, q2⟩ := (h1 X hm (H.XO d X hd)).ex
  rw [X] at e
  exact ⟨⟨n, e', fr', h', by simp only [BW, ev, e]; exact q1, q2⟩⟩
 ·obtain ⟨n, e', fr', h', q1, q2⟩ := (h2 X hm (H.XO d X hd)).ex
  rw [X] at e
  exact ⟨⟨n, e', fr', h', by simp only [BW, ev, e]; exact q1, q2⟩⟩
def Dw (ops : Array Oper) (l : List (Nat × AB)) : List Nat → Bool
 | [] => true
 | i :: r => Gy ops i l && Dw ops l r
theorem Gm {P : Program} {l : List (Nat × AB)} : ∀ (is : List Nat) (fr fr1 : Fr), Dw ops l is = true → FB P ops is fr = some fr1 → ∀ p ∈ l, nth fr1 p.1 = nth fr p.1
 | [], fr, fr1, _, E, p, D => by
  simp only [FB, Option.some.injEq] at E
  rw [E]
 | i :: is, fr, fr1, hd, E, p, D => by
  simp only [Dw, Bool.and_eq_true] at hd
  simp only [FB] at E
  split at E
  ·cases E
  ·rename_i o ho
   have e2 : F3 ops i = o.dst := by simp [F3, ho]
   have hk := fun fr v => Gr (fr := fr) hd.1 v p D
   rw [e2] at hk
   split at E
   ·split at E
    ·rw [Gm is _ _ hd.2 E p D, hk]
    ·cases E
   ·rw [Gm is _ _ hd.2 E p D, hk]
   ·cases E
variable {pl : List (Nat × List Nat)} {U : List Nat}
theorem AO (k : Nat) (nw : List (Nat × AB)) (H : Has fr N l) (O : ∀ fr', Has fr' N (List.append nw l) → AT C g ops (pl.drop k) tch fr' h K)
  (hk : ∀ fr, (P4 (pl.take k), Dw ops l (Dc (pl.take k)), (FB C.P ops (Dc (pl.take k)) (Cm N l fr)).map (fun x => nw.map (fun p => nth x p.1))) = (true, true, some (nw.map (·.2))) := by intro _; kernel_rfl) :
  AT C g ops pl tch fr h K := by
 have B := hk fr
 rw [Dv H] at B
 simp only [Prod.mk.injEq] at B
 obtain ⟨hu, hd, B⟩ := B
 cases J : FB C.P ops (Dc (pl.take k)) fr with
 | none => rw [J] at B; cases B
 | some fr1 =>
  rw [J] at B
  simp only [Option.map_some, Option.some.injEq] at B
  have e : pl = pl.take k ++ pl.drop k := (List.take_append_drop k pl).symm
  rw [e]
  refine Ln _ _ fr fr1 (L2 hu) J (O fr1 ?_)
  have h1 := Has.of_map ((Fh _ _ _ J).trans H.1) B
  refine ⟨h1.1, fun p D => ?_⟩
  rcases List.mem_append.1 D with D | D
  ·exact h1.2 p D
  ·rw [Gm _ fr fr1 hd J p D]; exact H.2 p D
theorem Ae (d : Nat) (v : AB) (h1 : AF) (H : Has fr N l) (E : ∀ fr, Steps C g h (Cm N l fr) (L4 ops i) v h1)
  (O : ∀ fr' t, Has fr' N ((d, v) :: l) → AT C g ops pl t fr' h1 K)
  (hw : ∀ fr, (runs ops (Cm N l fr) i, F3 ops i, Nat.blt d N, Gh d l) = (true, some d, true, true) := by intro _; kernel_rfl) : AT C g ops ((i, []) :: pl) tch fr h K := by
 have G := hw fr
 have F := E fr
 rw [Dv H] at G F
 simp only [Prod.mk.injEq] at G
 obtain ⟨w1, w2, w3, w4⟩ := G
 refine Hm (v := v) w1 (by rw [GL, List.nil_append]; exact F) rfl (O _ _ ⟨by simp [H.1], fun p D => ?_⟩)
 rw [w2]
 show nth (fr.set d v) p.1 = p.2
 cases D with
 | head =>
  rw [Nat.blt_eq] at w3
  rw [Ee, if_pos ⟨rfl, by rw [H.1]; exact w3⟩]
 | tail _ D =>
  rw [Ee, if_neg (fun e => I0 w4 p D e.1.symm)]
  exact H.2 p D
theorem Fu (v : AB) (h1 : AF) (H : Has fr N l) (E : ∀ fr, Steps C g h (Cm N l fr) (L4 ops i) v h1)
  (O : ∀ fr' t, Has fr' N l → AT C g ops pl t fr' h1 K)
  (hw : ∀ fr, (runs ops (Cm N l fr) i, Gy ops i l) = (true, true) := by intro _; kernel_rfl) : AT C g ops ((i, []) :: pl) tch fr h K := by
 have G := hw fr
 have F := E fr
 rw [Dv H] at G F
 simp only [Prod.mk.injEq] at G
 obtain ⟨w1, w2⟩ := G
 refine Hm (v := v) w1 (by rw [GL, List.nil_append]; exact F) rfl (O _ _ ⟨by simp [H.1], fun p D => ?_⟩)
 rw [Gr w2 v p D]
 exact H.2 p D
theorem C3 (d : Nat) (v : AB) (h1 : AF) (tch' : List (Nat × Nat)) (pr : List Nat) (H : Has fr N l) (E : ∀ fr, Steps C ⟨g.floor, pr⟩ h (Cm N l fr) (L4 ops i) v h1)
  (O : ∀ fr', Has fr' N ((d, v) :: l) → AT C g ops pl tch' fr' h1 K)
  (W : ∀ fr, M6 C ops U (put (Cm N l fr) (F3 ops i) v) h1 = true := by intro _; kernel_rfl)
  (hw : ∀ fr, (runs ops (Cm N l fr) i, F3 ops i, Nat.blt d N, Gh d l) = (true, some d, true, true) := by intro _; kernel_rfl)
  (D : Gu tch U ++ g.CD = pr := by kernel_rfl) (Y : ∀ fr, FL C.P h (Cm N l fr) i (L4 ops i) tch = tch' := by intro _; kernel_rfl) : AT C g ops ((i, U) :: pl) tch fr h K := by
 have G := hw fr
 have F := E fr
 have M := W fr
 have S := Y fr
 rw [Dv H] at G F M S
 simp only [Prod.mk.injEq] at G
 obtain ⟨w1, w2, w3, w4⟩ := G
 have L : Has (put fr (F3 ops i) v) N ((d, v) :: l) := by
  refine ⟨by simp [H.1], fun p T => ?_⟩
  rw [w2]
  show nth (fr.set d v) p.1 = p.2
  cases T with
  | head =>
   rw [Nat.blt_eq] at w3
   rw [Ee, if_pos ⟨rfl, by rw [H.1]; exact w3⟩]
  | tail _ T =>
   rw [Ee, if_neg (fun e => I0 w4 p T e.1.symm)]
   exact H.2 p T
 exact Hm (v := v) w1 (by rw [D]; exact F) M (by rw [S]; exact O _ L)
theorem Kw (v : AB) (h1 : AF) (tch' : List (Nat × Nat)) (pr : List Nat) (H : Has fr N l) (E : ∀ fr, Steps C ⟨g.floor, pr⟩ h (Cm N l fr) (L4 ops i) v h1)
  (O : ∀ fr', Has fr' N l → AT C g ops pl tch' fr' h1 K)
  (W : ∀ fr, M6 C ops U (put (Cm N l fr) (F3 ops i) v) h1 = true := by intro _; kernel_rfl)
  (hw : ∀ fr, (runs ops (Cm N l fr) i, Gy ops i l) = (true, true) := by intro _; kernel_rfl)
  (D : Gu tch U ++ g.CD = pr := by kernel_rfl) (Y : ∀ fr, FL C.P h (Cm N l fr) i (L4 ops i) tch = tch' := by intro _; kernel_rfl) : AT C g ops ((i, U) :: pl) tch fr h K := by
 have G := hw fr
 have F := E fr
 have M := W fr
 have S := Y fr
 rw [Dv H] at G F M S
 simp only [Prod.mk.injEq] at G
 obtain ⟨w1, w2⟩ := G
 have L : Has (put fr (F3 ops i) v) N l := by
  refine ⟨by simp [H.1], fun p T => ?_⟩
  rw [Gr w2 v p T]
  exact H.2 p T
 exact Hm (v := v) w1 (by rw [D]; exact F) M (by rw [S]; exact O _ L)
theorem Bv (k : Nat) (out : List (Nat × AB)) (H : Has fr N l) (O : ∀ fr', Has fr' N out → AT C g ops (pl.drop k) tch fr' h K)
  (hk : ∀ fr, (P4 (pl.take k), (FB C.P ops (Dc (pl.take k)) (Cm N l fr)).map (fun x => out.map (fun p => nth x p.1))) = (true, some (out.map (·.2))) := by intro _; kernel_rfl) :
  AT C g ops pl tch fr h K := by
 have hu := hk fr
 simp only [Prod.mk.injEq] at hu
 have e : pl = pl.take k ++ pl.drop k := (List.take_append_drop k pl).symm
 rw [e]
 refine W7 (pl.take k) out H (L2 hu.1) (fun fr => ?_) O
 have := hk fr
 simp only [Prod.mk.injEq] at this
 exact this.2
def M5 (P : Program) (ops : Array Oper) (is : List Nat) (fr : Fr) : Fr := (FB P ops is fr).getD fr
def Fk (pl : List (Nat × List Nat)) (k : Nat) : Nat :=
 match pl.drop k with
 | (i, _) :: _ => i
 | [] => 0
def OQ (pl : List (Nat × List Nat)) (k : Nat) : Bool :=
 match pl.drop k with
 | (_, []) :: _ => true
 | _ => false
theorem Sm {pl : List (Nat × List Nat)} {k : Nat} (h : OQ pl k = true) : pl.drop k = (Fk pl k, []) :: pl.drop (k + 1) := by
 unfold OQ at h
 unfold Fk
 have e : pl.drop (k + 1) = (pl.drop k).drop 1 := by rw [List.drop_drop]
 split at h
 ·rename_i i r hd
  rw [e, hd]; rfl
 ·cases h
theorem B0 (k : Nat) (nw : List (Nat × AB)) (d : Nat) (v : AB) (h1 : AF) (H : Has fr N l) (E : ∀ fr, Steps C g h (M5 C.P ops (Dc (pl.take k)) (Cm N l fr)) (L4 ops (Fk pl k)) v h1)
  (O : ∀ fr' t, Has fr' N ((d, v) :: List.append nw l) → AT C g ops (pl.drop (k + 1)) t fr' h1 K)
  (hk : ∀ fr, (OQ pl k && (P4 (pl.take k) && (Dw ops l (Dc (pl.take k)) && (Gh d l && (Gh d nw && Nat.blt d N)))), (FB C.P ops (Dc (pl.take k)) (Cm N l fr)).map (fun x => (runs ops x (Fk pl k), F3 ops (Fk pl k), nw.map (fun p => nth x p.1)))) = (true, some (true, some d, nw.map (·.2))) := by intro _; kernel_rfl) : AT C g ops pl tch fr h K := by
 have B := hk fr
 have F := E fr
 rw [Dv H] at B F
 simp only [Prod.mk.injEq, Bool.and_eq_true] at B
 obtain ⟨⟨a1, a2, a3, a4, a5, a6⟩, B⟩ := B
 cases J : FB C.P ops (Dc (pl.take k)) fr with
 | none => rw [J] at B; cases B
 | some fr1 =>
  rw [J] at B
  simp only [Option.map_some, Option.some.injEq, Prod.mk.injEq] at B
  obtain ⟨b1, b2, b3⟩ := B
  have Z : M5 C.P ops (Dc (pl.take k)) fr = fr1 := by unfold M5; rw [J]; rfl
  rw [Z] at F
  have R : fr1.length = N := (Fh _ _ _ J).trans H.1
  have hH := Has.of_map R b3
  have e : pl = pl.take k ++ pl.drop k := (List.take_append_drop k pl).symm
  rw [e]
  refine Ln _ _ fr fr1 (L2 a2) J ?_
  rw [Sm a1]
  refine Hm (v := v) b1 (by rw [GL, List.nil_append]; exact F) rfl (O _ _ ⟨by simp [R], fun p D => ?_⟩)
  rw [b2]
  show nth (fr1.set d v) p.1 = p.2
  cases D with
  | head =>
   rw [Nat.blt_eq] at a6
   rw [Ee, if_pos ⟨rfl, by rw [R]; exact a6⟩]
  | tail _ D =>
   rcases List.mem_append.1 D with D | D
   ·rw [Ee, if_neg (fun e => I0 a5 p D e.1.symm)]
    exact hH.2 p D
   ·rw [Ee, if_neg (fun e => I0 a4 p D e.1.symm), Gm _ fr fr1 a3 J p D]
    exact H.2 p D
theorem Tz (k : Nat) (nw : List (Nat × AB)) (v : AB) (h1 : AF) (H : Has fr N l) (E : ∀ fr, Steps C g h (M5 C.P ops (Dc (pl.take k)) (Cm N l fr)) (L4 ops (Fk pl k)) v h1)
  (O : ∀ fr' t, Has fr' N (List.append nw l) → AT C g ops (pl.drop (k + 1)) t fr' h1 K)
  (hk : ∀ fr, (OQ pl k && (P4 (pl.take k) && (Dw ops l (Dc (pl.take k)) && (Gy ops (Fk pl k) l && Gy ops (Fk pl k) nw))), (FB C.P ops (Dc (pl.take k)) (Cm N l fr)).map (fun x => (runs ops x (Fk pl k), nw.map (fun p => nth x p.1)))) = (true, some (true, nw.map (·.2))) := by intro _; kernel_rfl) : AT C g ops pl tch fr h K := by
 have B := hk fr
 have F := E fr
 rw [Dv H] at B F
 simp only [Prod.mk.injEq, Bool.and_eq_true] at B
 obtain ⟨⟨a1, a2, a3, a4, a5⟩, B⟩ := B
 cases J : FB C.P ops (Dc (pl.take k)) fr with
 | none => rw [J] at B; cases B
 | some fr1 =>
  rw [J] at B
  simp only [Option.map_some, Option.some.injEq, Prod.mk.injEq] at B
  obtain ⟨b1, b3⟩ := B
  have Z : M5 C.P ops (Dc (pl.take k)) fr = fr1 := by unfold M5; rw [J]; rfl
  rw [Z] at F
  have R : fr1.length = N := (Fh _ _ _ J).trans H.1
  have hH := Has.of_map R b3
  have e : pl = pl.take k ++ pl.drop k := (List.take_append_drop k pl).symm
  rw [e]
  refine Ln _ _ fr fr1 (L2 a2) J ?_
  rw [Sm a1]
  refine Hm (v := v) b1 (by rw [GL, List.nil_append]; exact F) rfl (O _ _ ⟨by simp [R], fun p D => ?_⟩)
  rcases List.mem_append.1 D with D | D
  ·rw [Gr a5 v p D]; exact hH.2 p D
  ·rw [Gr a4 v p D, Gm _ fr fr1 a3 J p D]; exact H.2 p D
theorem U1 (k : Nat) (nw : List (Nat × AB)) (H : Has fr N l) (V : ∀ fr', AW C f g c fr' h Q → K fr' h) (L : ∀ fr', Has fr' N (List.append nw l) → AW C f g c fr' h Q)
  (hk : ∀ fr, (P4 pl, Nat.beq pl.length k, Dw ops l (Dc pl), (FB C.P ops (Dc pl) (Cm N l fr)).map (fun x => nw.map (fun p => nth x p.1))) = (true, true, true, some (nw.map (·.2))) := by intro _; kernel_rfl) : AT C g ops pl tch fr h K := by
 have B := hk fr
 simp only [Prod.mk.injEq] at B
 have hl := Nat.eq_of_beq_eq_true B.2.1
 have Y : pl.take k = pl := List.take_of_length_le (by omega)
 have hd : pl.drop k = [] := List.drop_eq_nil_of_le (by omega)
 refine AO k nw H (fun fr' H' => ?_) (fun fr => ?_)
 ·rw [hd]
  exact at_nil (V _ (L _ H'))
 ·have := hk fr
  simp only [Prod.mk.injEq] at this
  rw [Y]
  simp only [Prod.mk.injEq]
  exact ⟨this.1, this.2.2.1, this.2.2.2⟩
theorem Xh (k : Nat) (nw : List (Nat × AB)) (n : Nat) (H : Has fr N l) (V : ∀ fr', AW C f g c fr' h Q → K fr' h) (L : ∀ fr', Has fr' N (List.append nw l) → AT C g (opsOf c) (Eo 0 n) [] fr' h (fun fr' h' => Q .normal fr' h'))
  (hk : ∀ fr, (P4 pl, Nat.beq pl.length k, Dw ops l (Dc pl), (FB C.P ops (Dc pl) (Cm N l fr)).map (fun x => nw.map (fun p => nth x p.1))) = (true, true, true, some (nw.map (·.2))) := by intro _; kernel_rfl) (J : J8 c n = true := by kernel_rfl) : AT C g ops pl tch fr h K := U1 k nw H V (fun fr' H' => CE n (L fr' H') J) hk
theorem Xu (k : Nat) (nw : List (Nat × AB)) (n : Nat) (H : Has fr N l) (V : ∀ fr', AW C f g c fr' h Q → K fr' h) (L : ∀ fr', Has fr' N (List.append nw l) → AT C g (opsOf (left c)) (Eo 0 n) [] fr' h (fun fr' h' => KF (fun fr h => AW C f g (right c) fr h Q) Q .normal fr' h'))
  (hk : ∀ fr, (P4 pl, Nat.beq pl.length k, Dw ops l (Dc pl), (FB C.P ops (Dc pl) (Cm N l fr)).map (fun x => nw.map (fun p => nth x p.1))) = (true, true, true, some (nw.map (·.2))) := by intro _; kernel_rfl) (E : shape c = .seq := by kernel_rfl) (J : J8 (left c) n = true := by kernel_rfl) : AT C g ops pl tch fr h K := U1 k nw H V (fun fr' H' => AS (CE n (L fr' H') J) E) hk
theorem Bi (k : Nat) (I : Fr → AF → Prop) (h1 : AT C g ops (pl.take k) tch fr h I) (h2 : ∀ t fr h, I fr h → AT C g ops (pl.drop k) t fr h K) : AT C g ops pl tch fr h K := by
 have e : pl = pl.take k ++ pl.drop k := (List.take_append_drop k pl).symm
 rw [e]
 exact XJ _ I h1 h2
theorem Ga (id n : Nat) (L : AT C g (opsOf c) (Eo 0 n) [] fr h (fun fr' h' => Q .normal fr' h')) (E : shape c = .region id n true := by kernel_rfl) (D : C.Kk f id = Eo 0 n := by kernel_rfl) : AW C f g c fr h Q := SB E _ D L
theorem J2 (id n : Nat) (pl : List (Nat × List Nat)) (L : AT C g (opsOf c) pl [] fr h (fun fr' h' => Q .normal fr' h')) (E : shape c = .region id n true := by kernel_rfl) (D : C.Kk f id = pl := by kernel_rfl) : AW C f g c fr h Q := SB E _ D L
theorem AH (n : Nat) (L : AT C g (opsOf (left c)) (Eo 0 n) [] fr h (fun fr' h' => KF (fun fr h => AW C f g (right c) fr h Q) Q .normal fr' h')) (E : shape c = .seq := by kernel_rfl) (J : J8 (left c) n = true := by kernel_rfl) : AW C f g c fr h Q := R4 E (CE n L J)
theorem Bq (V : AW C f g c fr h Q → K fr h) (L : AW C f g c fr h Q) : AT C g ops [] tch fr h K := at_nil (V L)
theorem ED (n : Nat) (V : AW C f g c fr h Q → K fr h) (L : AT C g (opsOf c) (Eo 0 n) [] fr h (fun fr' h' => Q .normal fr' h')) (J : J8 c n = true := by kernel_rfl) : AT C g ops [] tch fr h K := at_nil (V (CE n L J))
theorem Bs (n : Nat) (V : AW C f g c fr h Q → K fr h) (L : AT C g (opsOf (left c)) (Eo 0 n) [] fr h (fun fr' h' => KF (fun fr h => AW C f g (right c) fr h Q) Q .normal fr' h')) (E : shape c = .seq := by kernel_rfl) (J : J8 (left c) n = true := by kernel_rfl) : AT C g ops [] tch fr h K := at_nil (V (AH n L E J))
theorem AZ (T : Q .ret fr h) (E : shape c = .ret := by kernel_rfl) : AW C f g c fr h Q := XL E T
theorem EJ (T : Q .normal fr h) (E : shape c = .skip := by kernel_rfl) : AW C f g c fr h Q := NH E T
end
theorem BB {α : Type} {a x : α} (h : some a = some x) : a = x := Option.some.inj h
theorem B4 {α β : Type} {a x : α} {b y : β} (h : some (a, b) = some (x, y)) : a = x ∧ b = y := Prod.mk.inj (Option.some.inj h)
theorem EG {α β γ : Type} {a x : α} {b y : β} {c z : γ} (h : some (a, b, c) = some (x, y, z)) : a = x ∧ b = y ∧ c = z := by
 obtain ⟨h1, h2⟩ := B4 h
 exact ⟨h1, Prod.mk.inj h2⟩
theorem ZN {α β γ δ : Type} {a x : α} {b y : β} {c z : γ} {d w : δ} (h : some (a, b, c, d) = some (x, y, z, w)) : a = x ∧ b = y ∧ c = z ∧ d = w := by
 obtain ⟨h1, h2⟩ := B4 h
 exact ⟨h1, EG (congrArg some h2)⟩
theorem Va {α β γ δ ε : Type} {a x : α} {b y : β} {c z : γ} {d w : δ} {e v : ε} (h : some (a, b, c, d, e) = some (x, y, z, w, v)) : a = x ∧ b = y ∧ c = z ∧ d = w ∧ e = v := by
 obtain ⟨h1, h2⟩ := B4 h
 exact ⟨h1, ZN (congrArg some h2)⟩
end Go.Av
