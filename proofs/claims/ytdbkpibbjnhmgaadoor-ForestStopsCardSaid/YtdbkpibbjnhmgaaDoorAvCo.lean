/-
 A part.
-/
import Derived.Test.YtdbkpibbjnhmgaaDoorAvMore
namespace Go.Av
set_option linter.unusedVariables false
set_option linter.unusedSimpArgs false
def Eo (d : Nat) : List (Nat × AA) → Bool
 | [] => true
 | (i, _) :: r => bif Nat.beq i d then false else Eo d r
theorem GD {d : Nat} : ∀ {l : List (Nat × AA)}, Eo d l = true → ∀ p ∈ l, p.1 ≠ d
 | [], _, p, hp => by cases hp
 | (i, v) :: r, h, p, hp => by
  unfold Eo at h
  rw [E8] at h
  by_cases e : i = d
  ·rw [if_pos e] at h; cases h
  ·rw [if_neg e] at h
   cases hp with
   | head => exact e
   | tail _ hp => exact GD h p hp
def FI (ops : Array Oper) (i : Nat) (l : List (Nat × AA)) : Bool :=
 match EU ops i with
 | none => true
 | some d => Eo d l
section
variable {C : EB} {f : FuncId} {g : Gd} {ops : Array Oper} {tch : List (Nat × Nat)} {fr : Fr} {h h1 : AB} {K : Fr → AB → Prop} {N : Nat} {l : List (Nat × AA)} {i r : Nat}
theorem El {l : List (Nat × AA)} (hd : FI ops i l = true) (v : AA) : ∀ p ∈ l, nth (put fr (EU ops i) v) p.1 = nth fr p.1 := by
 intro p hp
 unfold FI at hd
 split at hd
 ·rename_i e; rw [e]; rfl
 ·rename_i d e
  rw [e]
  exact Kg fr v (fun e => GD hd p hp (Option.some.inj e).symm)
variable {Q : Aw → Fr → AB → Prop} {c : Code}
def HU : Code → Nat → Bool
 | .region _ ops draw, n => !draw && Nat.beq ops.size n
 | _, _ => false
theorem CA (n : Nat) (hh : AT C g (opsOf c) (Ew 0 n) [] fr h (fun fr' h' => Q .normal fr' h')) (hs : HU c n = true := by kernel_rfl) : AW C f g c fr h Q := by
 cases c with
 | region id ops draw =>
  simp only [HU, Bool.and_eq_true, Bool.not_eq_true'] at hs
  obtain ⟨rfl, e⟩ := hs
  obtain rfl := Nat.eq_of_beq_eq_true e
  exact Ty (id := id) _ rfl rfl hh
 | _ => cases hs
theorem AX (hh : AW C f g (left c) fr h (J4 (fun fr h => AW C f g (right c) fr h Q) Q)) (hs : shape c = .seq := by kernel_rfl) : AW C f g c fr h Q := OF hs hh
theorem Has.ls {out : List (Nat × AA)} (H : Has fr N l) (h : ∀ fr, out.map (fun p => nth (Bg N l fr) p.1) = out.map (·.2) := by intro _; kernel_rfl) : Has fr N out := H.less out h
theorem BF (d : Nat) {b : Bool} {α : Type} {x y : Option α} {r : α} (H : Has fr N l) (hm : BG b x y = some r) (h1 : b = true → x = some r → Has fr N (OI l d (.bool true)) → AW C f g (left c) fr h Q) (h2 : b = false → y = some r → Has fr N (OI l d (.bool false)) → AW C f g (right c) fr h Q)
  (hd : Ls l d = some (.bool b) := by kernel_rfl) (hs : shape c = .cond (.tmp d) := by kernel_rfl) : AW C f g c fr h Q := by
 have e : nth fr d = .bool b := H.2 _ (JP hd)
 cases c <;> simp [shape] at hs
 subst hs
 rcases Ea hm with ⟨hb, hm⟩ | ⟨hb, hm⟩
 ·obtain ⟨n, e', fr', h', q1, q2⟩ := (h1 hb hm (H.T9 d hb hd)).ex
  rw [hb] at e
  exact ⟨⟨n, e', fr', h', by simp only [AY, ev, e]; exact q1, q2⟩⟩
 ·obtain ⟨n, e', fr', h', q1, q2⟩ := (h2 hb hm (H.T9 d hb hd)).ex
  rw [hb] at e
  exact ⟨⟨n, e', fr', h', by simp only [AY, ev, e]; exact q1, q2⟩⟩
def Cj (ops : Array Oper) (l : List (Nat × AA)) : List Nat → Bool
 | [] => true
 | i :: r => FI ops i l && Cj ops l r
theorem Ek {P : Program} {l : List (Nat × AA)} : ∀ (is : List Nat) (fr fr1 : Fr), Cj ops l is = true → Dg P ops is fr = some fr1 → ∀ p ∈ l, nth fr1 p.1 = nth fr p.1
 | [], fr, fr1, _, hs, p, hp => by
  simp only [Dg, Option.some.injEq] at hs
  rw [hs]
 | i :: is, fr, fr1, hd, hs, p, hp => by
  simp only [Cj, Bool.and_eq_true] at hd
  simp only [Dg] at hs
  split at hs
  ·cases hs
  ·rename_i o ho
   have e2 : EU ops i = o.dst := by simp [EU, ho]
   have hk := fun fr v => El (fr := fr) hd.1 v p hp
   rw [e2] at hk
   split at hs
   ·split at hs
    ·rw [Ek is _ _ hd.2 hs p hp, hk]
    ·cases hs
   ·rw [Ek is _ _ hd.2 hs p hp, hk]
   ·cases hs
variable {pl : List (Nat × List Nat)} {U : List Nat}
theorem BV (k : Nat) (nw : List (Nat × AA)) (H : Has fr N l) (hn : ∀ fr', Has fr' N (List.append nw l) → AT C g ops (pl.drop k) tch fr' h K)
  (hk : ∀ fr, (MY (pl.take k), Cj ops l (CT (pl.take k)), (Dg C.P ops (CT (pl.take k)) (Bg N l fr)).map (fun x => nw.map (fun p => nth x p.1))) = (true, true, some (nw.map (·.2))) := by intro _; kernel_rfl) :
  AT C g ops pl tch fr h K := by
 have hk' := hk fr
 rw [Ci H] at hk'
 simp only [Prod.mk.injEq] at hk'
 obtain ⟨hu, hd, hk'⟩ := hk'
 cases hr : Dg C.P ops (CT (pl.take k)) fr with
 | none => rw [hr] at hk'; cases hk'
 | some fr1 =>
  rw [hr] at hk'
  simp only [Option.map_some, Option.some.injEq] at hk'
  have e : pl = pl.take k ++ pl.drop k := (List.take_append_drop k pl).symm
  rw [e]
  refine Ie _ _ fr fr1 (Ih hu) hr (hn fr1 ?_)
  have h1 := Has.of_map ((Dz _ _ _ hr).trans H.1) hk'
  refine ⟨h1.1, fun p hp => ?_⟩
  rcases List.mem_append.1 hp with hp | hp
  ·exact h1.2 p hp
  ·rw [Ek _ fr fr1 hd hr p hp]; exact H.2 p hp
theorem BO (d : Nat) (v : AA) (h1 : AB) (H : Has fr N l) (hs : ∀ fr, Steps C g h (Bg N l fr) (J7 ops i) v h1)
  (hn : ∀ fr' t, Has fr' N ((d, v) :: l) → AT C g ops pl t fr' h1 K)
  (hw : ∀ fr, (runs ops (Bg N l fr) i, EU ops i, Nat.blt d N, Eo d l) = (true, some d, true, true) := by intro _; kernel_rfl) : AT C g ops ((i, []) :: pl) tch fr h K := by
 have hw' := hw fr
 have hs' := hs fr
 rw [Ci H] at hw' hs'
 simp only [Prod.mk.injEq] at hw'
 obtain ⟨w1, w2, w3, w4⟩ := hw'
 refine Em (v := v) w1 (by rw [EW, List.nil_append]; exact hs') rfl (hn _ _ ⟨by simp [H.1], fun p hp => ?_⟩)
 rw [w2]
 show nth (fr.set d v) p.1 = p.2
 cases hp with
 | head =>
  rw [Nat.blt_eq] at w3
  rw [D5, if_pos ⟨rfl, by rw [H.1]; exact w3⟩]
 | tail _ hp =>
  rw [D5, if_neg (fun e => GD w4 p hp e.1.symm)]
  exact H.2 p hp
theorem KO (v : AA) (h1 : AB) (H : Has fr N l) (hs : ∀ fr, Steps C g h (Bg N l fr) (J7 ops i) v h1)
  (hn : ∀ fr' t, Has fr' N l → AT C g ops pl t fr' h1 K)
  (hw : ∀ fr, (runs ops (Bg N l fr) i, FI ops i l) = (true, true) := by intro _; kernel_rfl) : AT C g ops ((i, []) :: pl) tch fr h K := by
 have hw' := hw fr
 have hs' := hs fr
 rw [Ci H] at hw' hs'
 simp only [Prod.mk.injEq] at hw'
 obtain ⟨w1, w2⟩ := hw'
 refine Em (v := v) w1 (by rw [EW, List.nil_append]; exact hs') rfl (hn _ _ ⟨by simp [H.1], fun p hp => ?_⟩)
 rw [El w2 v p hp]
 exact H.2 p hp
theorem TJ (d : Nat) (v : AA) (h1 : AB) (tch' : List (Nat × Nat)) (pr : List Nat) (H : Has fr N l) (hs : ∀ fr, Steps C ⟨g.floor, pr⟩ h (Bg N l fr) (J7 ops i) v h1)
  (hn : ∀ fr', Has fr' N ((d, v) :: l) → AT C g ops pl tch' fr' h1 K)
  (hre : ∀ fr, KD C ops U (put (Bg N l fr) (EU ops i) v) h1 = true := by intro _; kernel_rfl)
  (hw : ∀ fr, (runs ops (Bg N l fr) i, EU ops i, Nat.blt d N, Eo d l) = (true, some d, true, true) := by intro _; kernel_rfl)
  (hp : Ev tch U ++ g.BZ = pr := by kernel_rfl) (ht : ∀ fr, Dr C.P h (Bg N l fr) i (J7 ops i) tch = tch' := by intro _; kernel_rfl) : AT C g ops ((i, U) :: pl) tch fr h K := by
 have hw' := hw fr
 have hs' := hs fr
 have hre' := hre fr
 have ht' := ht fr
 rw [Ci H] at hw' hs' hre' ht'
 simp only [Prod.mk.injEq] at hw'
 obtain ⟨w1, w2, w3, w4⟩ := hw'
 have hh : Has (put fr (EU ops i) v) N ((d, v) :: l) := by
  refine ⟨by simp [H.1], fun p hq => ?_⟩
  rw [w2]
  show nth (fr.set d v) p.1 = p.2
  cases hq with
  | head =>
   rw [Nat.blt_eq] at w3
   rw [D5, if_pos ⟨rfl, by rw [H.1]; exact w3⟩]
  | tail _ hq =>
   rw [D5, if_neg (fun e => GD w4 p hq e.1.symm)]
   exact H.2 p hq
 exact Em (v := v) w1 (by rw [hp]; exact hs') hre' (by rw [ht']; exact hn _ hh)
theorem PZ (v : AA) (h1 : AB) (tch' : List (Nat × Nat)) (pr : List Nat) (H : Has fr N l) (hs : ∀ fr, Steps C ⟨g.floor, pr⟩ h (Bg N l fr) (J7 ops i) v h1)
  (hn : ∀ fr', Has fr' N l → AT C g ops pl tch' fr' h1 K)
  (hre : ∀ fr, KD C ops U (put (Bg N l fr) (EU ops i) v) h1 = true := by intro _; kernel_rfl)
  (hw : ∀ fr, (runs ops (Bg N l fr) i, FI ops i l) = (true, true) := by intro _; kernel_rfl)
  (hp : Ev tch U ++ g.BZ = pr := by kernel_rfl) (ht : ∀ fr, Dr C.P h (Bg N l fr) i (J7 ops i) tch = tch' := by intro _; kernel_rfl) : AT C g ops ((i, U) :: pl) tch fr h K := by
 have hw' := hw fr
 have hs' := hs fr
 have hre' := hre fr
 have ht' := ht fr
 rw [Ci H] at hw' hs' hre' ht'
 simp only [Prod.mk.injEq] at hw'
 obtain ⟨w1, w2⟩ := hw'
 have hh : Has (put fr (EU ops i) v) N l := by
  refine ⟨by simp [H.1], fun p hq => ?_⟩
  rw [El w2 v p hq]
  exact H.2 p hq
 exact Em (v := v) w1 (by rw [hp]; exact hs') hre' (by rw [ht']; exact hn _ hh)
theorem Br (k : Nat) (out : List (Nat × AA)) (H : Has fr N l) (hn : ∀ fr', Has fr' N out → AT C g ops (pl.drop k) tch fr' h K)
  (hk : ∀ fr, (MY (pl.take k), (Dg C.P ops (CT (pl.take k)) (Bg N l fr)).map (fun x => out.map (fun p => nth x p.1))) = (true, some (out.map (·.2))) := by intro _; kernel_rfl) :
  AT C g ops pl tch fr h K := by
 have hu := hk fr
 simp only [Prod.mk.injEq] at hu
 have e : pl = pl.take k ++ pl.drop k := (List.take_append_drop k pl).symm
 rw [e]
 refine T4 (pl.take k) out H (Ih hu.1) (fun fr => ?_) hn
 have := hk fr
 simp only [Prod.mk.injEq] at this
 exact this.2
def KC (P : Program) (ops : Array Oper) (is : List Nat) (fr : Fr) : Fr := (Dg P ops is fr).getD fr
def D3 (pl : List (Nat × List Nat)) (k : Nat) : Nat :=
 match pl.drop k with
 | (i, _) :: _ => i
 | [] => 0
def LO (pl : List (Nat × List Nat)) (k : Nat) : Bool :=
 match pl.drop k with
 | (_, []) :: _ => true
 | _ => false
theorem PA {pl : List (Nat × List Nat)} {k : Nat} (h : LO pl k = true) : pl.drop k = (D3 pl k, []) :: pl.drop (k + 1) := by
 unfold LO at h
 unfold D3
 have e : pl.drop (k + 1) = (pl.drop k).drop 1 := by rw [List.drop_drop]
 split at h
 ·rename_i i r hd
  rw [e, hd]; rfl
 ·cases h
theorem BE (k : Nat) (nw : List (Nat × AA)) (d : Nat) (v : AA) (h1 : AB) (H : Has fr N l) (hs : ∀ fr, Steps C g h (KC C.P ops (CT (pl.take k)) (Bg N l fr)) (J7 ops (D3 pl k)) v h1)
  (hn : ∀ fr' t, Has fr' N ((d, v) :: List.append nw l) → AT C g ops (pl.drop (k + 1)) t fr' h1 K)
  (hk : ∀ fr, (LO pl k && (MY (pl.take k) && (Cj ops l (CT (pl.take k)) && (Eo d l && (Eo d nw && Nat.blt d N)))), (Dg C.P ops (CT (pl.take k)) (Bg N l fr)).map (fun x => (runs ops x (D3 pl k), EU ops (D3 pl k), nw.map (fun p => nth x p.1)))) = (true, some (true, some d, nw.map (·.2))) := by intro _; kernel_rfl) : AT C g ops pl tch fr h K := by
 have hk' := hk fr
 have hs' := hs fr
 rw [Ci H] at hk' hs'
 simp only [Prod.mk.injEq, Bool.and_eq_true] at hk'
 obtain ⟨⟨a1, a2, a3, a4, a5, a6⟩, hk'⟩ := hk'
 cases hr : Dg C.P ops (CT (pl.take k)) fr with
 | none => rw [hr] at hk'; cases hk'
 | some fr1 =>
  rw [hr] at hk'
  simp only [Option.map_some, Option.some.injEq, Prod.mk.injEq] at hk'
  obtain ⟨b1, b2, b3⟩ := hk'
  have hF : KC C.P ops (CT (pl.take k)) fr = fr1 := by unfold KC; rw [hr]; rfl
  rw [hF] at hs'
  have hl1 : fr1.length = N := (Dz _ _ _ hr).trans H.1
  have hH := Has.of_map hl1 b3
  have e : pl = pl.take k ++ pl.drop k := (List.take_append_drop k pl).symm
  rw [e]
  refine Ie _ _ fr fr1 (Ih a2) hr ?_
  rw [PA a1]
  refine Em (v := v) b1 (by rw [EW, List.nil_append]; exact hs') rfl (hn _ _ ⟨by simp [hl1], fun p hp => ?_⟩)
  rw [b2]
  show nth (fr1.set d v) p.1 = p.2
  cases hp with
  | head =>
   rw [Nat.blt_eq] at a6
   rw [D5, if_pos ⟨rfl, by rw [hl1]; exact a6⟩]
  | tail _ hp =>
   rcases List.mem_append.1 hp with hp | hp
   ·rw [D5, if_neg (fun e => GD a5 p hp e.1.symm)]
    exact hH.2 p hp
   ·rw [D5, if_neg (fun e => GD a4 p hp e.1.symm), Ek _ fr fr1 a3 hr p hp]
    exact H.2 p hp
theorem Qr (k : Nat) (nw : List (Nat × AA)) (v : AA) (h1 : AB) (H : Has fr N l) (hs : ∀ fr, Steps C g h (KC C.P ops (CT (pl.take k)) (Bg N l fr)) (J7 ops (D3 pl k)) v h1)
  (hn : ∀ fr' t, Has fr' N (List.append nw l) → AT C g ops (pl.drop (k + 1)) t fr' h1 K)
  (hk : ∀ fr, (LO pl k && (MY (pl.take k) && (Cj ops l (CT (pl.take k)) && (FI ops (D3 pl k) l && FI ops (D3 pl k) nw))), (Dg C.P ops (CT (pl.take k)) (Bg N l fr)).map (fun x => (runs ops x (D3 pl k), nw.map (fun p => nth x p.1)))) = (true, some (true, nw.map (·.2))) := by intro _; kernel_rfl) : AT C g ops pl tch fr h K := by
 have hk' := hk fr
 have hs' := hs fr
 rw [Ci H] at hk' hs'
 simp only [Prod.mk.injEq, Bool.and_eq_true] at hk'
 obtain ⟨⟨a1, a2, a3, a4, a5⟩, hk'⟩ := hk'
 cases hr : Dg C.P ops (CT (pl.take k)) fr with
 | none => rw [hr] at hk'; cases hk'
 | some fr1 =>
  rw [hr] at hk'
  simp only [Option.map_some, Option.some.injEq, Prod.mk.injEq] at hk'
  obtain ⟨b1, b3⟩ := hk'
  have hF : KC C.P ops (CT (pl.take k)) fr = fr1 := by unfold KC; rw [hr]; rfl
  rw [hF] at hs'
  have hl1 : fr1.length = N := (Dz _ _ _ hr).trans H.1
  have hH := Has.of_map hl1 b3
  have e : pl = pl.take k ++ pl.drop k := (List.take_append_drop k pl).symm
  rw [e]
  refine Ie _ _ fr fr1 (Ih a2) hr ?_
  rw [PA a1]
  refine Em (v := v) b1 (by rw [EW, List.nil_append]; exact hs') rfl (hn _ _ ⟨by simp [hl1], fun p hp => ?_⟩)
  rcases List.mem_append.1 hp with hp | hp
  ·rw [El a5 v p hp]; exact hH.2 p hp
  ·rw [El a4 v p hp, Ek _ fr fr1 a3 hr p hp]; exact H.2 p hp
theorem Qe (k : Nat) (nw : List (Nat × AA)) (H : Has fr N l) (hK : ∀ fr', AW C f g c fr' h Q → K fr' h) (hh : ∀ fr', Has fr' N (List.append nw l) → AW C f g c fr' h Q)
  (hk : ∀ fr, (MY pl, Nat.beq pl.length k, Cj ops l (CT pl), (Dg C.P ops (CT pl) (Bg N l fr)).map (fun x => nw.map (fun p => nth x p.1))) = (true, true, true, some (nw.map (·.2))) := by intro _; kernel_rfl) : AT C g ops pl tch fr h K := by
 have hk' := hk fr
 simp only [Prod.mk.injEq] at hk'
 have hl := Nat.eq_of_beq_eq_true hk'.2.1
 have ht : pl.take k = pl := List.take_of_length_le (by omega)
 have hd : pl.drop k = [] := List.drop_eq_nil_of_le (by omega)
 refine BV k nw H (fun fr' H' => ?_) (fun fr => ?_)
 ·rw [hd]
  exact at_nil (hK _ (hh _ H'))
 ·have := hk fr
  simp only [Prod.mk.injEq] at this
  rw [ht]
  simp only [Prod.mk.injEq]
  exact ⟨this.1, this.2.2.1, this.2.2.2⟩
theorem VJ (k : Nat) (nw : List (Nat × AA)) (n : Nat) (H : Has fr N l) (hK : ∀ fr', AW C f g c fr' h Q → K fr' h) (hh : ∀ fr', Has fr' N (List.append nw l) → AT C g (opsOf c) (Ew 0 n) [] fr' h (fun fr' h' => Q .normal fr' h'))
  (hk : ∀ fr, (MY pl, Nat.beq pl.length k, Cj ops l (CT pl), (Dg C.P ops (CT pl) (Bg N l fr)).map (fun x => nw.map (fun p => nth x p.1))) = (true, true, true, some (nw.map (·.2))) := by intro _; kernel_rfl) (hr : HU c n = true := by kernel_rfl) : AT C g ops pl tch fr h K := Qe k nw H hK (fun fr' H' => CA n (hh fr' H') hr) hk
theorem Uq (k : Nat) (nw : List (Nat × AA)) (n : Nat) (H : Has fr N l) (hK : ∀ fr', AW C f g c fr' h Q → K fr' h) (hh : ∀ fr', Has fr' N (List.append nw l) → AT C g (opsOf (left c)) (Ew 0 n) [] fr' h (fun fr' h' => J4 (fun fr h => AW C f g (right c) fr h Q) Q .normal fr' h'))
  (hk : ∀ fr, (MY pl, Nat.beq pl.length k, Cj ops l (CT pl), (Dg C.P ops (CT pl) (Bg N l fr)).map (fun x => nw.map (fun p => nth x p.1))) = (true, true, true, some (nw.map (·.2))) := by intro _; kernel_rfl) (hs : shape c = .seq := by kernel_rfl) (hr : HU (left c) n = true := by kernel_rfl) : AT C g ops pl tch fr h K := Qe k nw H hK (fun fr' H' => AX (CA n (hh fr' H') hr) hs) hk
theorem Jt (k : Nat) (I : Fr → AB → Prop) (h1 : AT C g ops (pl.take k) tch fr h I) (h2 : ∀ t fr h, I fr h → AT C g ops (pl.drop k) t fr h K) : AT C g ops pl tch fr h K := by
 have e : pl = pl.take k ++ pl.drop k := (List.take_append_drop k pl).symm
 rw [e]
 exact T6 _ I h1 h2
theorem NC (id n : Nat) (hh : AT C g (opsOf c) (Ew 0 n) [] fr h (fun fr' h' => Q .normal fr' h')) (hs : shape c = .region id n true := by kernel_rfl) (hp : C.Ht f id = Ew 0 n := by kernel_rfl) : AW C f g c fr h Q := Pg hs _ hp hh
theorem Td (id n : Nat) (pl : List (Nat × List Nat)) (hh : AT C g (opsOf c) pl [] fr h (fun fr' h' => Q .normal fr' h')) (hs : shape c = .region id n true := by kernel_rfl) (hp : C.Ht f id = pl := by kernel_rfl) : AW C f g c fr h Q := Pg hs _ hp hh
theorem AJ (n : Nat) (hh : AT C g (opsOf (left c)) (Ew 0 n) [] fr h (fun fr' h' => J4 (fun fr h => AW C f g (right c) fr h Q) Q .normal fr' h')) (hs : shape c = .seq := by kernel_rfl) (hr : HU (left c) n = true := by kernel_rfl) : AW C f g c fr h Q := OF hs (CA n hh hr)
theorem DQ (hK : AW C f g c fr h Q → K fr h) (hh : AW C f g c fr h Q) : AT C g ops [] tch fr h K := at_nil (hK hh)
theorem JF (n : Nat) (hK : AW C f g c fr h Q → K fr h) (hh : AT C g (opsOf c) (Ew 0 n) [] fr h (fun fr' h' => Q .normal fr' h')) (hr : HU c n = true := by kernel_rfl) : AT C g ops [] tch fr h K := at_nil (hK (CA n hh hr))
theorem Hw (n : Nat) (hK : AW C f g c fr h Q → K fr h) (hh : AT C g (opsOf (left c)) (Ew 0 n) [] fr h (fun fr' h' => J4 (fun fr h => AW C f g (right c) fr h Q) Q .normal fr' h')) (hs : shape c = .seq := by kernel_rfl) (hr : HU (left c) n = true := by kernel_rfl) : AT C g ops [] tch fr h K := at_nil (hK (AJ n hh hs hr))
theorem BW (hq : Q .ret fr h) (hs : shape c = .ret := by kernel_rfl) : AW C f g c fr h Q := UC hs hq
theorem ER (hq : Q .normal fr h) (hs : shape c = .skip := by kernel_rfl) : AW C f g c fr h Q := KH hs hq
end
theorem A7 {α : Type} {a x : α} (h : some a = some x) : a = x := Option.some.inj h
theorem NK {α β : Type} {a x : α} {b y : β} (h : some (a, b) = some (x, y)) : a = x ∧ b = y := Prod.mk.inj (Option.some.inj h)
end Go.Av
