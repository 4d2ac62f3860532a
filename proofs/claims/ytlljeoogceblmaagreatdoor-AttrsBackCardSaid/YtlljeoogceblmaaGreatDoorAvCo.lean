/-
 A part.
-/
import Derived.Test.YtlljeoogceblmaaGreatDoorAvMore
namespace Go.Av
set_option linter.unusedVariables false
set_option linter.unusedSimpArgs false
def Ge (d : Nat) : List (Nat × AA) → Bool
 | [] => true
 | (i, _) :: r => bif Nat.beq i d then false else Ge d r
theorem IN {d : Nat} : ∀ {l : List (Nat × AA)}, Ge d l = true → ∀ p ∈ l, p.1 ≠ d
 | [], _, p, hp => by cases hp
 | (i, v) :: r, h, p, hp => by
  unfold Ge at h
  rw [G1] at h
  by_cases e : i = d
  ·rw [if_pos e] at h; cases h
  ·rw [if_neg e] at h
   cases hp with
   | head => exact e
   | tail _ hp => exact IN h p hp
def HQ (ops : Array Oper) (i : Nat) (l : List (Nat × AA)) : Bool :=
 match GY ops i with
 | none => true
 | some d => Ge d l
section
variable {C : FY} {f : FuncId} {g : Gd} {ops : Array Oper} {tch : List (Nat × Nat)} {fr : Fr} {h h1 : AD} {K : Fr → AD → Prop} {N : Nat} {l : List (Nat × AA)} {i r : Nat}
theorem GZ {l : List (Nat × AA)} (hd : HQ ops i l = true) (v : AA) : ∀ p ∈ l, nth (put fr (GY ops i) v) p.1 = nth fr p.1 := by
 intro p hp
 unfold HQ at hd
 split at hd
 ·rename_i e; rw [e]; rfl
 ·rename_i d e
  rw [e]
  exact OJ fr v (fun e => IN hd p hp (Option.some.inj e).symm)
variable {Q : BN → Fr → AD → Prop} {c : Code}
def JV : Code → Nat → Bool
 | .region _ ops draw, n => !draw && Nat.beq ops.size n
 | _, _ => false
theorem CX (n : Nat) (hh : AT C g (opsOf c) (EZ 0 n) [] fr h (fun fr' h' => Q .normal fr' h')) (hs : JV c n = true := by kernel_rfl) : AW C f g c fr h Q := by
 cases c with
 | region id ops draw =>
  simp only [JV, Bool.and_eq_true, Bool.not_eq_true'] at hs
  obtain ⟨rfl, e⟩ := hs
  obtain rfl := Nat.eq_of_beq_eq_true e
  exact YL (id := id) _ rfl rfl hh
 | _ => cases hs
theorem AP (hh : AW C f g (left c) fr h (Kb (fun fr h => AW C f g (right c) fr h Q) Q)) (hs : shape c = .seq := by kernel_rfl) : AW C f g c fr h Q := TB hs hh
theorem Has.ls {out : List (Nat × AA)} (H : Has fr N l) (h : ∀ fr, out.map (fun p => nth (CN N l fr) p.1) = out.map (·.2) := by intro _; kernel_rfl) : Has fr N out := H.less out h
theorem AZ (d : Nat) {b : Bool} {α : Type} {x y : Option α} {r : α} (H : Has fr N l) (hm : Ad b x y = some r) (h1 : b = true → x = some r → Has fr N (NV l d (.bool true)) → AW C f g (left c) fr h Q) (h2 : b = false → y = some r → Has fr N (NV l d (.bool false)) → AW C f g (right c) fr h Q)
  (hd : PN l d = some (.bool b) := by kernel_rfl) (hs : shape c = .cond (.tmp d) := by kernel_rfl) : AW C f g c fr h Q := by
 have e : nth fr d = .bool b := H.2 _ (Lz hd)
 cases c <;> simp [shape] at hs
 subst hs
 rcases Ax hm with ⟨hb, hm⟩ | ⟨hb, hm⟩
 ·obtain ⟨n, e', fr', h', q1, q2⟩ := (h1 hb hm (H.Yn d hb hd)).ex
  rw [hb] at e
  exact ⟨⟨n, e', fr', h', by simp only [Az, ev, e]; exact q1, q2⟩⟩
 ·obtain ⟨n, e', fr', h', q1, q2⟩ := (h2 hb hm (H.Yn d hb hd)).ex
  rw [hb] at e
  exact ⟨⟨n, e', fr', h', by simp only [Az, ev, e]; exact q1, q2⟩⟩
def Db (ops : Array Oper) (l : List (Nat × AA)) : List Nat → Bool
 | [] => true
 | i :: r => HQ ops i l && Db ops l r
theorem Gf {P : Program} {l : List (Nat × AA)} : ∀ (is : List Nat) (fr fr1 : Fr), Db ops l is = true → Ev P ops is fr = some fr1 → ∀ p ∈ l, nth fr1 p.1 = nth fr p.1
 | [], fr, fr1, _, hs, p, hp => by
  simp only [Ev, Option.some.injEq] at hs
  rw [hs]
 | i :: is, fr, fr1, hd, hs, p, hp => by
  simp only [Db, Bool.and_eq_true] at hd
  simp only [Ev] at hs
  split at hs
  ·cases hs
  ·rename_i o ho
   have e2 : GY ops i = o.dst := by simp [GY, ho]
   have hk := fun fr v => GZ (fr := fr) hd.1 v p hp
   rw [e2] at hk
   split at hs
   ·split at hs
    ·rw [Gf is _ _ hd.2 hs p hp, hk]
    ·cases hs
   ·rw [Gf is _ _ hd.2 hs p hp, hk]
   ·cases hs
variable {pl : List (Nat × List Nat)} {U : List Nat}
theorem AM (k : Nat) (nw : List (Nat × AA)) (H : Has fr N l) (hn : ∀ fr', Has fr' N (List.append nw l) → AT C g ops (pl.drop k) tch fr' h K)
  (hk : ∀ fr, (Pt (pl.take k), Db ops l (DF (pl.take k)), (Ev C.P ops (DF (pl.take k)) (CN N l fr)).map (fun x => nw.map (fun p => nth x p.1))) = (true, true, some (nw.map (·.2))) := by intro _; kernel_rfl) :
  AT C g ops pl tch fr h K := by
 have hk' := hk fr
 rw [Dj H] at hk'
 simp only [Prod.mk.injEq] at hk'
 obtain ⟨hu, hd, hk'⟩ := hk'
 cases hr : Ev C.P ops (DF (pl.take k)) fr with
 | none => rw [hr] at hk'; cases hk'
 | some fr1 =>
  rw [hr] at hk'
  simp only [Option.map_some, Option.some.injEq] at hk'
  have e : pl = pl.take k ++ pl.drop k := (List.take_append_drop k pl).symm
  rw [e]
  refine Lt _ _ fr fr1 (Lu hu) hr (hn fr1 ?_)
  have h1 := Has.of_map ((FU _ _ _ hr).trans H.1) hk'
  refine ⟨h1.1, fun p hp => ?_⟩
  rcases List.mem_append.1 hp with hp | hp
  ·exact h1.2 p hp
  ·rw [Gf _ fr fr1 hd hr p hp]; exact H.2 p hp
theorem Ae (d : Nat) (v : AA) (h1 : AD) (H : Has fr N l) (hs : ∀ fr, Steps C g h (CN N l fr) (NN ops i) v h1)
  (hn : ∀ fr' t, Has fr' N ((d, v) :: l) → AT C g ops pl t fr' h1 K)
  (hw : ∀ fr, (runs ops (CN N l fr) i, GY ops i, Nat.blt d N, Ge d l) = (true, some d, true, true) := by intro _; kernel_rfl) : AT C g ops ((i, []) :: pl) tch fr h K := by
 have hw' := hw fr
 have hs' := hs fr
 rw [Dj H] at hw' hs'
 simp only [Prod.mk.injEq] at hw'
 obtain ⟨w1, w2, w3, w4⟩ := hw'
 refine HL (v := v) w1 (by rw [GD, List.nil_append]; exact hs') rfl (hn _ _ ⟨by simp [H.1], fun p hp => ?_⟩)
 rw [w2]
 show nth (fr.set d v) p.1 = p.2
 cases hp with
 | head =>
  rw [Nat.blt_eq] at w3
  rw [EA, if_pos ⟨rfl, by rw [H.1]; exact w3⟩]
 | tail _ hp =>
  rw [EA, if_neg (fun e => IN w4 p hp e.1.symm)]
  exact H.2 p hp
theorem Fv (v : AA) (h1 : AD) (H : Has fr N l) (hs : ∀ fr, Steps C g h (CN N l fr) (NN ops i) v h1)
  (hn : ∀ fr' t, Has fr' N l → AT C g ops pl t fr' h1 K)
  (hw : ∀ fr, (runs ops (CN N l fr) i, HQ ops i l) = (true, true) := by intro _; kernel_rfl) : AT C g ops ((i, []) :: pl) tch fr h K := by
 have hw' := hw fr
 have hs' := hs fr
 rw [Dj H] at hw' hs'
 simp only [Prod.mk.injEq] at hw'
 obtain ⟨w1, w2⟩ := hw'
 refine HL (v := v) w1 (by rw [GD, List.nil_append]; exact hs') rfl (hn _ _ ⟨by simp [H.1], fun p hp => ?_⟩)
 rw [GZ w2 v p hp]
 exact H.2 p hp
theorem Gq (d : Nat) (v : AA) (h1 : AD) (tch' : List (Nat × Nat)) (pr : List Nat) (H : Has fr N l) (hs : ∀ fr, Steps C ⟨g.floor, pr⟩ h (CN N l fr) (NN ops i) v h1)
  (hn : ∀ fr', Has fr' N ((d, v) :: l) → AT C g ops pl tch' fr' h1 K)
  (hre : ∀ fr, M6 C ops U (put (CN N l fr) (GY ops i) v) h1 = true := by intro _; kernel_rfl)
  (hw : ∀ fr, (runs ops (CN N l fr) i, GY ops i, Nat.blt d N, Ge d l) = (true, some d, true, true) := by intro _; kernel_rfl)
  (hp : Gk tch U ++ g.Cl = pr := by kernel_rfl) (ht : ∀ fr, FB C.P h (CN N l fr) i (NN ops i) tch = tch' := by intro _; kernel_rfl) : AT C g ops ((i, U) :: pl) tch fr h K := by
 have hw' := hw fr
 have hs' := hs fr
 have hre' := hre fr
 have ht' := ht fr
 rw [Dj H] at hw' hs' hre' ht'
 simp only [Prod.mk.injEq] at hw'
 obtain ⟨w1, w2, w3, w4⟩ := hw'
 have hh : Has (put fr (GY ops i) v) N ((d, v) :: l) := by
  refine ⟨by simp [H.1], fun p hq => ?_⟩
  rw [w2]
  show nth (fr.set d v) p.1 = p.2
  cases hq with
  | head =>
   rw [Nat.blt_eq] at w3
   rw [EA, if_pos ⟨rfl, by rw [H.1]; exact w3⟩]
  | tail _ hq =>
   rw [EA, if_neg (fun e => IN w4 p hq e.1.symm)]
   exact H.2 p hq
 exact HL (v := v) w1 (by rw [hp]; exact hs') hre' (by rw [ht']; exact hn _ hh)
theorem Rv (v : AA) (h1 : AD) (tch' : List (Nat × Nat)) (pr : List Nat) (H : Has fr N l) (hs : ∀ fr, Steps C ⟨g.floor, pr⟩ h (CN N l fr) (NN ops i) v h1)
  (hn : ∀ fr', Has fr' N l → AT C g ops pl tch' fr' h1 K)
  (hre : ∀ fr, M6 C ops U (put (CN N l fr) (GY ops i) v) h1 = true := by intro _; kernel_rfl)
  (hw : ∀ fr, (runs ops (CN N l fr) i, HQ ops i l) = (true, true) := by intro _; kernel_rfl)
  (hp : Gk tch U ++ g.Cl = pr := by kernel_rfl) (ht : ∀ fr, FB C.P h (CN N l fr) i (NN ops i) tch = tch' := by intro _; kernel_rfl) : AT C g ops ((i, U) :: pl) tch fr h K := by
 have hw' := hw fr
 have hs' := hs fr
 have hre' := hre fr
 have ht' := ht fr
 rw [Dj H] at hw' hs' hre' ht'
 simp only [Prod.mk.injEq] at hw'
 obtain ⟨w1, w2⟩ := hw'
 have hh : Has (put fr (GY ops i) v) N l := by
  refine ⟨by simp [H.1], fun p hq => ?_⟩
  rw [GZ w2 v p hq]
  exact H.2 p hq
 exact HL (v := v) w1 (by rw [hp]; exact hs') hre' (by rw [ht']; exact hn _ hh)
theorem Bd (k : Nat) (out : List (Nat × AA)) (H : Has fr N l) (hn : ∀ fr', Has fr' N out → AT C g ops (pl.drop k) tch fr' h K)
  (hk : ∀ fr, (Pt (pl.take k), (Ev C.P ops (DF (pl.take k)) (CN N l fr)).map (fun x => out.map (fun p => nth x p.1))) = (true, some (out.map (·.2))) := by intro _; kernel_rfl) :
  AT C g ops pl tch fr h K := by
 have hu := hk fr
 simp only [Prod.mk.injEq] at hu
 have e : pl = pl.take k ++ pl.drop k := (List.take_append_drop k pl).symm
 rw [e]
 refine YX (pl.take k) out H (Lu hu.1) (fun fr => ?_) hn
 have := hk fr
 simp only [Prod.mk.injEq] at this
 exact this.2
def M8 (P : Program) (ops : Array Oper) (is : List Nat) (fr : Fr) : Fr := (Ev P ops is fr).getD fr
def Fa (pl : List (Nat × List Nat)) (k : Nat) : Nat :=
 match pl.drop k with
 | (i, _) :: _ => i
 | [] => 0
def Oe (pl : List (Nat × List Nat)) (k : Nat) : Bool :=
 match pl.drop k with
 | (_, []) :: _ => true
 | _ => false
theorem TX {pl : List (Nat × List Nat)} {k : Nat} (h : Oe pl k = true) : pl.drop k = (Fa pl k, []) :: pl.drop (k + 1) := by
 unfold Oe at h
 unfold Fa
 have e : pl.drop (k + 1) = (pl.drop k).drop 1 := by rw [List.drop_drop]
 split at h
 ·rename_i i r hd
  rw [e, hd]; rfl
 ·cases h
theorem BC (k : Nat) (nw : List (Nat × AA)) (d : Nat) (v : AA) (h1 : AD) (H : Has fr N l) (hs : ∀ fr, Steps C g h (M8 C.P ops (DF (pl.take k)) (CN N l fr)) (NN ops (Fa pl k)) v h1)
  (hn : ∀ fr' t, Has fr' N ((d, v) :: List.append nw l) → AT C g ops (pl.drop (k + 1)) t fr' h1 K)
  (hk : ∀ fr, (Oe pl k && (Pt (pl.take k) && (Db ops l (DF (pl.take k)) && (Ge d l && (Ge d nw && Nat.blt d N)))), (Ev C.P ops (DF (pl.take k)) (CN N l fr)).map (fun x => (runs ops x (Fa pl k), GY ops (Fa pl k), nw.map (fun p => nth x p.1)))) = (true, some (true, some d, nw.map (·.2))) := by intro _; kernel_rfl) : AT C g ops pl tch fr h K := by
 have hk' := hk fr
 have hs' := hs fr
 rw [Dj H] at hk' hs'
 simp only [Prod.mk.injEq, Bool.and_eq_true] at hk'
 obtain ⟨⟨a1, a2, a3, a4, a5, a6⟩, hk'⟩ := hk'
 cases hr : Ev C.P ops (DF (pl.take k)) fr with
 | none => rw [hr] at hk'; cases hk'
 | some fr1 =>
  rw [hr] at hk'
  simp only [Option.map_some, Option.some.injEq, Prod.mk.injEq] at hk'
  obtain ⟨b1, b2, b3⟩ := hk'
  have hF : M8 C.P ops (DF (pl.take k)) fr = fr1 := by unfold M8; rw [hr]; rfl
  rw [hF] at hs'
  have hl1 : fr1.length = N := (FU _ _ _ hr).trans H.1
  have hH := Has.of_map hl1 b3
  have e : pl = pl.take k ++ pl.drop k := (List.take_append_drop k pl).symm
  rw [e]
  refine Lt _ _ fr fr1 (Lu a2) hr ?_
  rw [TX a1]
  refine HL (v := v) b1 (by rw [GD, List.nil_append]; exact hs') rfl (hn _ _ ⟨by simp [hl1], fun p hp => ?_⟩)
  rw [b2]
  show nth (fr1.set d v) p.1 = p.2
  cases hp with
  | head =>
   rw [Nat.blt_eq] at a6
   rw [EA, if_pos ⟨rfl, by rw [hl1]; exact a6⟩]
  | tail _ hp =>
   rcases List.mem_append.1 hp with hp | hp
   ·rw [EA, if_neg (fun e => IN a5 p hp e.1.symm)]
    exact hH.2 p hp
   ·rw [EA, if_neg (fun e => IN a4 p hp e.1.symm), Gf _ fr fr1 a3 hr p hp]
    exact H.2 p hp
theorem WM (k : Nat) (nw : List (Nat × AA)) (v : AA) (h1 : AD) (H : Has fr N l) (hs : ∀ fr, Steps C g h (M8 C.P ops (DF (pl.take k)) (CN N l fr)) (NN ops (Fa pl k)) v h1)
  (hn : ∀ fr' t, Has fr' N (List.append nw l) → AT C g ops (pl.drop (k + 1)) t fr' h1 K)
  (hk : ∀ fr, (Oe pl k && (Pt (pl.take k) && (Db ops l (DF (pl.take k)) && (HQ ops (Fa pl k) l && HQ ops (Fa pl k) nw))), (Ev C.P ops (DF (pl.take k)) (CN N l fr)).map (fun x => (runs ops x (Fa pl k), nw.map (fun p => nth x p.1)))) = (true, some (true, nw.map (·.2))) := by intro _; kernel_rfl) : AT C g ops pl tch fr h K := by
 have hk' := hk fr
 have hs' := hs fr
 rw [Dj H] at hk' hs'
 simp only [Prod.mk.injEq, Bool.and_eq_true] at hk'
 obtain ⟨⟨a1, a2, a3, a4, a5⟩, hk'⟩ := hk'
 cases hr : Ev C.P ops (DF (pl.take k)) fr with
 | none => rw [hr] at hk'; cases hk'
 | some fr1 =>
  rw [hr] at hk'
  simp only [Option.map_some, Option.some.injEq, Prod.mk.injEq] at hk'
  obtain ⟨b1, b3⟩ := hk'
  have hF : M8 C.P ops (DF (pl.take k)) fr = fr1 := by unfold M8; rw [hr]; rfl
  rw [hF] at hs'
  have hl1 : fr1.length = N := (FU _ _ _ hr).trans H.1
  have hH := Has.of_map hl1 b3
  have e : pl = pl.take k ++ pl.drop k := (List.take_append_drop k pl).symm
  rw [e]
  refine Lt _ _ fr fr1 (Lu a2) hr ?_
  rw [TX a1]
  refine HL (v := v) b1 (by rw [GD, List.nil_append]; exact hs') rfl (hn _ _ ⟨by simp [hl1], fun p hp => ?_⟩)
  rcases List.mem_append.1 hp with hp | hp
  ·rw [GZ a5 v p hp]; exact hH.2 p hp
  ·rw [GZ a4 v p hp, Gf _ fr fr1 a3 hr p hp]; exact H.2 p hp
theorem WW (k : Nat) (nw : List (Nat × AA)) (H : Has fr N l) (hK : ∀ fr', AW C f g c fr' h Q → K fr' h) (hh : ∀ fr', Has fr' N (List.append nw l) → AW C f g c fr' h Q)
  (hk : ∀ fr, (Pt pl, Nat.beq pl.length k, Db ops l (DF pl), (Ev C.P ops (DF pl) (CN N l fr)).map (fun x => nw.map (fun p => nth x p.1))) = (true, true, true, some (nw.map (·.2))) := by intro _; kernel_rfl) : AT C g ops pl tch fr h K := by
 have hk' := hk fr
 simp only [Prod.mk.injEq] at hk'
 have hl := Nat.eq_of_beq_eq_true hk'.2.1
 have ht : pl.take k = pl := List.take_of_length_le (by omega)
 have hd : pl.drop k = [] := List.drop_eq_nil_of_le (by omega)
 refine AM k nw H (fun fr' H' => ?_) (fun fr => ?_)
 ·rw [hd]
  exact at_nil (hK _ (hh _ H'))
 ·have := hk fr
  simp only [Prod.mk.injEq] at this
  rw [ht]
  simp only [Prod.mk.injEq]
  exact ⟨this.1, this.2.2.1, this.2.2.2⟩
theorem Zk (k : Nat) (nw : List (Nat × AA)) (n : Nat) (H : Has fr N l) (hK : ∀ fr', AW C f g c fr' h Q → K fr' h) (hh : ∀ fr', Has fr' N (List.append nw l) → AT C g (opsOf c) (EZ 0 n) [] fr' h (fun fr' h' => Q .normal fr' h'))
  (hk : ∀ fr, (Pt pl, Nat.beq pl.length k, Db ops l (DF pl), (Ev C.P ops (DF pl) (CN N l fr)).map (fun x => nw.map (fun p => nth x p.1))) = (true, true, true, some (nw.map (·.2))) := by intro _; kernel_rfl) (hr : JV c n = true := by kernel_rfl) : AT C g ops pl tch fr h K := WW k nw H hK (fun fr' H' => CX n (hh fr' H') hr) hk
theorem aF (k : Nat) (nw : List (Nat × AA)) (n : Nat) (H : Has fr N l) (hK : ∀ fr', AW C f g c fr' h Q → K fr' h) (hh : ∀ fr', Has fr' N (List.append nw l) → AT C g (opsOf (left c)) (EZ 0 n) [] fr' h (fun fr' h' => Kb (fun fr h => AW C f g (right c) fr h Q) Q .normal fr' h'))
  (hk : ∀ fr, (Pt pl, Nat.beq pl.length k, Db ops l (DF pl), (Ev C.P ops (DF pl) (CN N l fr)).map (fun x => nw.map (fun p => nth x p.1))) = (true, true, true, some (nw.map (·.2))) := by intro _; kernel_rfl) (hs : shape c = .seq := by kernel_rfl) (hr : JV (left c) n = true := by kernel_rfl) : AT C g ops pl tch fr h K := WW k nw H hK (fun fr' H' => AP (CX n (hh fr' H') hr) hs) hk
theorem A5 (k : Nat) (I : Fr → AD → Prop) (h1 : AT C g ops (pl.take k) tch fr h I) (h2 : ∀ t fr h, I fr h → AT C g ops (pl.drop k) t fr h K) : AT C g ops pl tch fr h K := by
 have e : pl = pl.take k ++ pl.drop k := (List.take_append_drop k pl).symm
 rw [e]
 exact YN _ I h1 h2
theorem JF (id n : Nat) (hh : AT C g (opsOf c) (EZ 0 n) [] fr h (fun fr' h' => Q .normal fr' h')) (hs : shape c = .region id n true := by kernel_rfl) (hp : C.KU f id = EZ 0 n := by kernel_rfl) : AW C f g c fr h Q := TV hs _ hp hh
theorem RD (id n : Nat) (pl : List (Nat × List Nat)) (hh : AT C g (opsOf c) pl [] fr h (fun fr' h' => Q .normal fr' h')) (hs : shape c = .region id n true := by kernel_rfl) (hp : C.KU f id = pl := by kernel_rfl) : AW C f g c fr h Q := TV hs _ hp hh
theorem AG (n : Nat) (hh : AT C g (opsOf (left c)) (EZ 0 n) [] fr h (fun fr' h' => Kb (fun fr h => AW C f g (right c) fr h Q) Q .normal fr' h')) (hs : shape c = .seq := by kernel_rfl) (hr : JV (left c) n = true := by kernel_rfl) : AW C f g c fr h Q := TB hs (CX n hh hr)
theorem BI (hK : AW C f g c fr h Q → K fr h) (hh : AW C f g c fr h Q) : AT C g ops [] tch fr h K := at_nil (hK hh)
theorem Ep (n : Nat) (hK : AW C f g c fr h Q → K fr h) (hh : AT C g (opsOf c) (EZ 0 n) [] fr h (fun fr' h' => Q .normal fr' h')) (hr : JV c n = true := by kernel_rfl) : AT C g ops [] tch fr h K := at_nil (hK (CX n hh hr))
theorem CJ (n : Nat) (hK : AW C f g c fr h Q → K fr h) (hh : AT C g (opsOf (left c)) (EZ 0 n) [] fr h (fun fr' h' => Kb (fun fr h => AW C f g (right c) fr h Q) Q .normal fr' h')) (hs : shape c = .seq := by kernel_rfl) (hr : JV (left c) n = true := by kernel_rfl) : AT C g ops [] tch fr h K := at_nil (hK (AG n hh hs hr))
theorem AS (hq : Q .ret fr h) (hs : shape c = .ret := by kernel_rfl) : AW C f g c fr h Q := Ys hs hq
theorem D5 (hq : Q .normal fr h) (hs : shape c = .skip := by kernel_rfl) : AW C f g c fr h Q := NM hs hq
end
theorem An {α : Type} {a x : α} (h : some a = some x) : a = x := Option.some.inj h
theorem BD {α β : Type} {a x : α} {b y : β} (h : some (a, b) = some (x, y)) : a = x ∧ b = y := Prod.mk.inj (Option.some.inj h)
theorem Uz {α β γ : Type} {a x : α} {b y : β} {c z : γ} (h : some (a, b, c) = some (x, y, z)) : a = x ∧ b = y ∧ c = z := by
 obtain ⟨h1, h2⟩ := BD h
 exact ⟨h1, Prod.mk.inj h2⟩
end Go.Av
