/-
 A part.
-/
import Derived.Test.YtdbkpibbjnhmgaaDoorAvMore
namespace Go.Av
set_option linter.unusedVariables false
set_option linter.unusedSimpArgs false
def FM (d : Nat) : List (Nat × AA) → Bool
 | [] => true
 | (i, _) :: r => bif Nat.beq i d then false else FM d r
theorem G3 {d : Nat} : ∀ {l : List (Nat × AA)}, FM d l = true → ∀ p ∈ l, p.1 ≠ d
 | [], _, p, hp => by cases hp
 | (i, v) :: r, h, p, hp => by
  unfold FM at h
  rw [Fi] at h
  by_cases e : i = d
  ·rw [if_pos e] at h; cases h
  ·rw [if_neg e] at h
   cases hp with
   | head => exact e
   | tail _ hp => exact G3 h p hp
def GK (ops : Array Oper) (i : Nat) (l : List (Nat × AA)) : Bool :=
 match Ey ops i with
 | none => true
 | some d => FM d l
section
variable {C : En} {f : FuncId} {g : Gd} {ops : Array Oper} {tch : List (Nat × Nat)} {fr : Fr} {h h1 : AB} {K : Fr → AB → Prop} {N : Nat} {l : List (Nat × AA)} {i r : Nat}
theorem E9 {l : List (Nat × AA)} (hd : GK ops i l = true) (v : AA) : ∀ p ∈ l, nth (put fr (Ey ops i) v) p.1 = nth fr p.1 := by
 intro p hp
 unfold GK at hd
 split at hd
 ·rename_i e; rw [e]; rfl
 ·rename_i d e
  rw [e]
  exact La fr v (fun e => G3 hd p hp (Option.some.inj e).symm)
variable {Q : BP → Fr → AB → Prop} {c : Code}
def Hu : Code → Nat → Bool
 | .region _ ops draw, n => !draw && Nat.beq ops.size n
 | _, _ => false
theorem B7 (n : Nat) (hh : AT C g (opsOf c) (Fa 0 n) [] fr h (fun fr' h' => Q .normal fr' h')) (hs : Hu c n = true := by kernel_rfl) : AW C f g c fr h Q := by
 cases c with
 | region id ops draw =>
  simp only [Hu, Bool.and_eq_true, Bool.not_eq_true'] at hs
  obtain ⟨rfl, e⟩ := hs
  obtain rfl := Nat.eq_of_beq_eq_true e
  exact Ui (id := id) _ rfl rfl hh
 | _ => cases hs
theorem AR (hh : AW C f g (left c) fr h (KV (fun fr h => AW C f g (right c) fr h Q) Q)) (hs : shape c = .seq := by kernel_rfl) : AW C f g c fr h Q := PV hs hh
theorem Has.ls {out : List (Nat × AA)} (H : Has fr N l) (h : ∀ fr, out.map (fun p => nth (B8 N l fr) p.1) = out.map (·.2) := by intro _; kernel_rfl) : Has fr N out := H.less out h
theorem Aw (d : Nat) {b : Bool} {α : Type} {x y : Option α} {r : α} (H : Has fr N l) (hm : Ax b x y = some r) (h1 : b = true → x = some r → Has fr N (O4 l d (.bool true)) → AW C f g (left c) fr h Q) (h2 : b = false → y = some r → Has fr N (O4 l d (.bool false)) → AW C f g (right c) fr h Q)
  (hd : MS l d = some (.bool b) := by kernel_rfl) (hs : shape c = .cond (.tmp d) := by kernel_rfl) : AW C f g c fr h Q := by
 have e : nth fr d = .bool b := H.2 _ (J2 hd)
 cases c <;> simp [shape] at hs
 subst hs
 rcases DU hm with ⟨hb, hm⟩ | ⟨hb, hm⟩
 ·obtain ⟨n, e', fr', h', q1, q2⟩ := (h1 hb hm (H.Ua d hb hd)).ex
  rw [hb] at e
  exact ⟨⟨n, e', fr', h', by simp only [Ae, ev, e]; exact q1, q2⟩⟩
 ·obtain ⟨n, e', fr', h', q1, q2⟩ := (h2 hb hm (H.Ua d hb hd)).ex
  rw [hb] at e
  exact ⟨⟨n, e', fr', h', by simp only [Ae, ev, e]; exact q1, q2⟩⟩
def C9 (ops : Array Oper) (l : List (Nat × AA)) : List Nat → Bool
 | [] => true
 | i :: r => GK ops i l && C9 ops l r
theorem FA {P : Program} {l : List (Nat × AA)} : ∀ (is : List Nat) (fr fr1 : Fr), C9 ops l is = true → D9 P ops is fr = some fr1 → ∀ p ∈ l, nth fr1 p.1 = nth fr p.1
 | [], fr, fr1, _, hs, p, hp => by
  simp only [D9, Option.some.injEq] at hs
  rw [hs]
 | i :: is, fr, fr1, hd, hs, p, hp => by
  simp only [C9, Bool.and_eq_true] at hd
  simp only [D9] at hs
  split at hs
  ·cases hs
  ·rename_i o ho
   have e2 : Ey ops i = o.dst := by simp [Ey, ho]
   have hk := fun fr v => E9 (fr := fr) hd.1 v p hp
   rw [e2] at hk
   split at hs
   ·split at hs
    ·rw [FA is _ _ hd.2 hs p hp, hk]
    ·cases hs
   ·rw [FA is _ _ hd.2 hs p hp, hk]
   ·cases hs
variable {pl : List (Nat × List Nat)} {U : List Nat}
theorem Al (k : Nat) (nw : List (Nat × AA)) (H : Has fr N l) (hn : ∀ fr', Has fr' N (List.append nw l) → AT C g ops (pl.drop k) tch fr' h K)
  (hk : ∀ fr, (Na (pl.take k), C9 ops l (Cr (pl.take k)), (D9 C.P ops (Cr (pl.take k)) (B8 N l fr)).map (fun x => nw.map (fun p => nth x p.1))) = (true, true, some (nw.map (·.2))) := by intro _; kernel_rfl) :
  AT C g ops pl tch fr h K := by
 have hk' := hk fr
 rw [DF H] at hk'
 simp only [Prod.mk.injEq] at hk'
 obtain ⟨hu, hd, hk'⟩ := hk'
 cases hr : D9 C.P ops (Cr (pl.take k)) fr with
 | none => rw [hr] at hk'; cases hk'
 | some fr1 =>
  rw [hr] at hk'
  simp only [Option.map_some, Option.some.injEq] at hk'
  have e : pl = pl.take k ++ pl.drop k := (List.take_append_drop k pl).symm
  rw [e]
  refine JZ _ _ fr fr1 (Jr hu) hr (hn fr1 ?_)
  have h1 := Has.of_map ((ER _ _ _ hr).trans H.1) hk'
  refine ⟨h1.1, fun p hp => ?_⟩
  rcases List.mem_append.1 hp with hp | hp
  ·exact h1.2 p hp
  ·rw [FA _ fr fr1 hd hr p hp]; exact H.2 p hp
theorem Am (d : Nat) (v : AA) (h1 : AB) (H : Has fr N l) (hs : ∀ fr, Steps C g h (B8 N l fr) (Ko ops i) v h1)
  (hn : ∀ fr' t, Has fr' N ((d, v) :: l) → AT C g ops pl t fr' h1 K)
  (hw : ∀ fr, (runs ops (B8 N l fr) i, Ey ops i, Nat.blt d N, FM d l) = (true, some d, true, true) := by intro _; kernel_rfl) : AT C g ops ((i, []) :: pl) tch fr h K := by
 have hw' := hw fr
 have hs' := hs fr
 rw [DF H] at hw' hs'
 simp only [Prod.mk.injEq] at hw'
 obtain ⟨w1, w2, w3, w4⟩ := hw'
 refine FK (v := v) w1 (by rw [Ew, List.nil_append]; exact hs') rfl (hn _ _ ⟨by simp [H.1], fun p hp => ?_⟩)
 rw [w2]
 show nth (fr.set d v) p.1 = p.2
 cases hp with
 | head =>
  rw [Nat.blt_eq] at w3
  rw [Ea, if_pos ⟨rfl, by rw [H.1]; exact w3⟩]
 | tail _ hp =>
  rw [Ea, if_neg (fun e => G3 w4 p hp e.1.symm)]
  exact H.2 p hp
theorem Lm (v : AA) (h1 : AB) (H : Has fr N l) (hs : ∀ fr, Steps C g h (B8 N l fr) (Ko ops i) v h1)
  (hn : ∀ fr' t, Has fr' N l → AT C g ops pl t fr' h1 K)
  (hw : ∀ fr, (runs ops (B8 N l fr) i, GK ops i l) = (true, true) := by intro _; kernel_rfl) : AT C g ops ((i, []) :: pl) tch fr h K := by
 have hw' := hw fr
 have hs' := hs fr
 rw [DF H] at hw' hs'
 simp only [Prod.mk.injEq] at hw'
 obtain ⟨w1, w2⟩ := hw'
 refine FK (v := v) w1 (by rw [Ew, List.nil_append]; exact hs') rfl (hn _ _ ⟨by simp [H.1], fun p hp => ?_⟩)
 rw [E9 w2 v p hp]
 exact H.2 p hp
theorem UX (d : Nat) (v : AA) (h1 : AB) (tch' : List (Nat × Nat)) (pr : List Nat) (H : Has fr N l) (hs : ∀ fr, Steps C ⟨g.floor, pr⟩ h (B8 N l fr) (Ko ops i) v h1)
  (hn : ∀ fr', Has fr' N ((d, v) :: l) → AT C g ops pl tch' fr' h1 K)
  (hre : ∀ fr, Kk C ops U (put (B8 N l fr) (Ey ops i) v) h1 = true := by intro _; kernel_rfl)
  (hw : ∀ fr, (runs ops (B8 N l fr) i, Ey ops i, Nat.blt d N, FM d l) = (true, some d, true, true) := by intro _; kernel_rfl)
  (hp : FV tch U ++ g.Bs = pr := by kernel_rfl) (ht : ∀ fr, EI C.P h (B8 N l fr) i (Ko ops i) tch = tch' := by intro _; kernel_rfl) : AT C g ops ((i, U) :: pl) tch fr h K := by
 have hw' := hw fr
 have hs' := hs fr
 have hre' := hre fr
 have ht' := ht fr
 rw [DF H] at hw' hs' hre' ht'
 simp only [Prod.mk.injEq] at hw'
 obtain ⟨w1, w2, w3, w4⟩ := hw'
 have hh : Has (put fr (Ey ops i) v) N ((d, v) :: l) := by
  refine ⟨by simp [H.1], fun p hq => ?_⟩
  rw [w2]
  show nth (fr.set d v) p.1 = p.2
  cases hq with
  | head =>
   rw [Nat.blt_eq] at w3
   rw [Ea, if_pos ⟨rfl, by rw [H.1]; exact w3⟩]
  | tail _ hq =>
   rw [Ea, if_neg (fun e => G3 w4 p hq e.1.symm)]
   exact H.2 p hq
 exact FK (v := v) w1 (by rw [hp]; exact hs') hre' (by rw [ht']; exact hn _ hh)
theorem QL (v : AA) (h1 : AB) (tch' : List (Nat × Nat)) (pr : List Nat) (H : Has fr N l) (hs : ∀ fr, Steps C ⟨g.floor, pr⟩ h (B8 N l fr) (Ko ops i) v h1)
  (hn : ∀ fr', Has fr' N l → AT C g ops pl tch' fr' h1 K)
  (hre : ∀ fr, Kk C ops U (put (B8 N l fr) (Ey ops i) v) h1 = true := by intro _; kernel_rfl)
  (hw : ∀ fr, (runs ops (B8 N l fr) i, GK ops i l) = (true, true) := by intro _; kernel_rfl)
  (hp : FV tch U ++ g.Bs = pr := by kernel_rfl) (ht : ∀ fr, EI C.P h (B8 N l fr) i (Ko ops i) tch = tch' := by intro _; kernel_rfl) : AT C g ops ((i, U) :: pl) tch fr h K := by
 have hw' := hw fr
 have hs' := hs fr
 have hre' := hre fr
 have ht' := ht fr
 rw [DF H] at hw' hs' hre' ht'
 simp only [Prod.mk.injEq] at hw'
 obtain ⟨w1, w2⟩ := hw'
 have hh : Has (put fr (Ey ops i) v) N l := by
  refine ⟨by simp [H.1], fun p hq => ?_⟩
  rw [E9 w2 v p hq]
  exact H.2 p hq
 exact FK (v := v) w1 (by rw [hp]; exact hs') hre' (by rw [ht']; exact hn _ hh)
theorem Bf (k : Nat) (out : List (Nat × AA)) (H : Has fr N l) (hn : ∀ fr', Has fr' N out → AT C g ops (pl.drop k) tch fr' h K)
  (hk : ∀ fr, (Na (pl.take k), (D9 C.P ops (Cr (pl.take k)) (B8 N l fr)).map (fun x => out.map (fun p => nth x p.1))) = (true, some (out.map (·.2))) := by intro _; kernel_rfl) :
  AT C g ops pl tch fr h K := by
 have hu := hk fr
 simp only [Prod.mk.injEq] at hu
 have e : pl = pl.take k ++ pl.drop k := (List.take_append_drop k pl).symm
 rw [e]
 refine U9 (pl.take k) out H (Jr hu.1) (fun fr => ?_) hn
 have := hk fr
 simp only [Prod.mk.injEq] at this
 exact this.2
def Kl (P : Program) (ops : Array Oper) (is : List Nat) (fr : Fr) : Fr := (D9 P ops is fr).getD fr
def EV (pl : List (Nat × List Nat)) (k : Nat) : Nat :=
 match pl.drop k with
 | (i, _) :: _ => i
 | [] => 0
def L0 (pl : List (Nat × List Nat)) (k : Nat) : Bool :=
 match pl.drop k with
 | (_, []) :: _ => true
 | _ => false
theorem P4 {pl : List (Nat × List Nat)} {k : Nat} (h : L0 pl k = true) : pl.drop k = (EV pl k, []) :: pl.drop (k + 1) := by
 unfold L0 at h
 unfold EV
 have e : pl.drop (k + 1) = (pl.drop k).drop 1 := by rw [List.drop_drop]
 split at h
 ·rename_i i r hd
  rw [e, hd]; rfl
 ·cases h
theorem Ad (k : Nat) (nw : List (Nat × AA)) (d : Nat) (v : AA) (h1 : AB) (H : Has fr N l) (hs : ∀ fr, Steps C g h (Kl C.P ops (Cr (pl.take k)) (B8 N l fr)) (Ko ops (EV pl k)) v h1)
  (hn : ∀ fr' t, Has fr' N ((d, v) :: List.append nw l) → AT C g ops (pl.drop (k + 1)) t fr' h1 K)
  (hk : ∀ fr, (L0 pl k && (Na (pl.take k) && (C9 ops l (Cr (pl.take k)) && (FM d l && (FM d nw && Nat.blt d N)))), (D9 C.P ops (Cr (pl.take k)) (B8 N l fr)).map (fun x => (runs ops x (EV pl k), Ey ops (EV pl k), nw.map (fun p => nth x p.1)))) = (true, some (true, some d, nw.map (·.2))) := by intro _; kernel_rfl) : AT C g ops pl tch fr h K := by
 have hk' := hk fr
 have hs' := hs fr
 rw [DF H] at hk' hs'
 simp only [Prod.mk.injEq, Bool.and_eq_true] at hk'
 obtain ⟨⟨a1, a2, a3, a4, a5, a6⟩, hk'⟩ := hk'
 cases hr : D9 C.P ops (Cr (pl.take k)) fr with
 | none => rw [hr] at hk'; cases hk'
 | some fr1 =>
  rw [hr] at hk'
  simp only [Option.map_some, Option.some.injEq, Prod.mk.injEq] at hk'
  obtain ⟨b1, b2, b3⟩ := hk'
  have hF : Kl C.P ops (Cr (pl.take k)) fr = fr1 := by unfold Kl; rw [hr]; rfl
  rw [hF] at hs'
  have hl1 : fr1.length = N := (ER _ _ _ hr).trans H.1
  have hH := Has.of_map hl1 b3
  have e : pl = pl.take k ++ pl.drop k := (List.take_append_drop k pl).symm
  rw [e]
  refine JZ _ _ fr fr1 (Jr a2) hr ?_
  rw [P4 a1]
  refine FK (v := v) b1 (by rw [Ew, List.nil_append]; exact hs') rfl (hn _ _ ⟨by simp [hl1], fun p hp => ?_⟩)
  rw [b2]
  show nth (fr1.set d v) p.1 = p.2
  cases hp with
  | head =>
   rw [Nat.blt_eq] at a6
   rw [Ea, if_pos ⟨rfl, by rw [hl1]; exact a6⟩]
  | tail _ hp =>
   rcases List.mem_append.1 hp with hp | hp
   ·rw [Ea, if_neg (fun e => G3 a5 p hp e.1.symm)]
    exact hH.2 p hp
   ·rw [Ea, if_neg (fun e => G3 a4 p hp e.1.symm), FA _ fr fr1 a3 hr p hp]
    exact H.2 p hp
theorem Rh (k : Nat) (nw : List (Nat × AA)) (v : AA) (h1 : AB) (H : Has fr N l) (hs : ∀ fr, Steps C g h (Kl C.P ops (Cr (pl.take k)) (B8 N l fr)) (Ko ops (EV pl k)) v h1)
  (hn : ∀ fr' t, Has fr' N (List.append nw l) → AT C g ops (pl.drop (k + 1)) t fr' h1 K)
  (hk : ∀ fr, (L0 pl k && (Na (pl.take k) && (C9 ops l (Cr (pl.take k)) && (GK ops (EV pl k) l && GK ops (EV pl k) nw))), (D9 C.P ops (Cr (pl.take k)) (B8 N l fr)).map (fun x => (runs ops x (EV pl k), nw.map (fun p => nth x p.1)))) = (true, some (true, nw.map (·.2))) := by intro _; kernel_rfl) : AT C g ops pl tch fr h K := by
 have hk' := hk fr
 have hs' := hs fr
 rw [DF H] at hk' hs'
 simp only [Prod.mk.injEq, Bool.and_eq_true] at hk'
 obtain ⟨⟨a1, a2, a3, a4, a5⟩, hk'⟩ := hk'
 cases hr : D9 C.P ops (Cr (pl.take k)) fr with
 | none => rw [hr] at hk'; cases hk'
 | some fr1 =>
  rw [hr] at hk'
  simp only [Option.map_some, Option.some.injEq, Prod.mk.injEq] at hk'
  obtain ⟨b1, b3⟩ := hk'
  have hF : Kl C.P ops (Cr (pl.take k)) fr = fr1 := by unfold Kl; rw [hr]; rfl
  rw [hF] at hs'
  have hl1 : fr1.length = N := (ER _ _ _ hr).trans H.1
  have hH := Has.of_map hl1 b3
  have e : pl = pl.take k ++ pl.drop k := (List.take_append_drop k pl).symm
  rw [e]
  refine JZ _ _ fr fr1 (Jr a2) hr ?_
  rw [P4 a1]
  refine FK (v := v) b1 (by rw [Ew, List.nil_append]; exact hs') rfl (hn _ _ ⟨by simp [hl1], fun p hp => ?_⟩)
  rcases List.mem_append.1 hp with hp | hp
  ·rw [E9 a5 v p hp]; exact hH.2 p hp
  ·rw [E9 a4 v p hp, FA _ fr fr1 a3 hr p hp]; exact H.2 p hp
theorem SD (k : Nat) (nw : List (Nat × AA)) (H : Has fr N l) (hK : ∀ fr', AW C f g c fr' h Q → K fr' h) (hh : ∀ fr', Has fr' N (List.append nw l) → AW C f g c fr' h Q)
  (hk : ∀ fr, (Na pl, Nat.beq pl.length k, C9 ops l (Cr pl), (D9 C.P ops (Cr pl) (B8 N l fr)).map (fun x => nw.map (fun p => nth x p.1))) = (true, true, true, some (nw.map (·.2))) := by intro _; kernel_rfl) : AT C g ops pl tch fr h K := by
 have hk' := hk fr
 simp only [Prod.mk.injEq] at hk'
 have hl := Nat.eq_of_beq_eq_true hk'.2.1
 have ht : pl.take k = pl := List.take_of_length_le (by omega)
 have hd : pl.drop k = [] := List.drop_eq_nil_of_le (by omega)
 refine Al k nw H (fun fr' H' => ?_) (fun fr => ?_)
 ·rw [hd]
  exact at_nil (hK _ (hh _ H'))
 ·have := hk fr
  simp only [Prod.mk.injEq] at this
  rw [ht]
  simp only [Prod.mk.injEq]
  exact ⟨this.1, this.2.2.1, this.2.2.2⟩
theorem V2 (k : Nat) (nw : List (Nat × AA)) (n : Nat) (H : Has fr N l) (hK : ∀ fr', AW C f g c fr' h Q → K fr' h) (hh : ∀ fr', Has fr' N (List.append nw l) → AT C g (opsOf c) (Fa 0 n) [] fr' h (fun fr' h' => Q .normal fr' h'))
  (hk : ∀ fr, (Na pl, Nat.beq pl.length k, C9 ops l (Cr pl), (D9 C.P ops (Cr pl) (B8 N l fr)).map (fun x => nw.map (fun p => nth x p.1))) = (true, true, true, some (nw.map (·.2))) := by intro _; kernel_rfl) (hr : Hu c n = true := by kernel_rfl) : AT C g ops pl tch fr h K := SD k nw H hK (fun fr' H' => B7 n (hh fr' H') hr) hk
theorem Vg (k : Nat) (nw : List (Nat × AA)) (n : Nat) (H : Has fr N l) (hK : ∀ fr', AW C f g c fr' h Q → K fr' h) (hh : ∀ fr', Has fr' N (List.append nw l) → AT C g (opsOf (left c)) (Fa 0 n) [] fr' h (fun fr' h' => KV (fun fr h => AW C f g (right c) fr h Q) Q .normal fr' h'))
  (hk : ∀ fr, (Na pl, Nat.beq pl.length k, C9 ops l (Cr pl), (D9 C.P ops (Cr pl) (B8 N l fr)).map (fun x => nw.map (fun p => nth x p.1))) = (true, true, true, some (nw.map (·.2))) := by intro _; kernel_rfl) (hs : shape c = .seq := by kernel_rfl) (hr : Hu (left c) n = true := by kernel_rfl) : AT C g ops pl tch fr h K := SD k nw H hK (fun fr' H' => AR (B7 n (hh fr' H') hr) hs) hk
theorem Gf (k : Nat) (I : Fr → AB → Prop) (h1 : AT C g ops (pl.take k) tch fr h I) (h2 : ∀ t fr h, I fr h → AT C g ops (pl.drop k) t fr h K) : AT C g ops pl tch fr h K := by
 have e : pl = pl.take k ++ pl.drop k := (List.take_append_drop k pl).symm
 rw [e]
 exact Un _ I h1 h2
theorem MO (id n : Nat) (hh : AT C g (opsOf c) (Fa 0 n) [] fr h (fun fr' h' => Q .normal fr' h')) (hs : shape c = .region id n true := by kernel_rfl) (hp : C.Ig f id = Fa 0 n := by kernel_rfl) : AW C f g c fr h Q := QT hs _ hp hh
theorem T7 (id n : Nat) (pl : List (Nat × List Nat)) (hh : AT C g (opsOf c) pl [] fr h (fun fr' h' => Q .normal fr' h')) (hs : shape c = .region id n true := by kernel_rfl) (hp : C.Ig f id = pl := by kernel_rfl) : AW C f g c fr h Q := QT hs _ hp hh
theorem AH (n : Nat) (hh : AT C g (opsOf (left c)) (Fa 0 n) [] fr h (fun fr' h' => KV (fun fr h => AW C f g (right c) fr h Q) Q .normal fr' h')) (hs : shape c = .seq := by kernel_rfl) (hr : Hu (left c) n = true := by kernel_rfl) : AW C f g c fr h Q := PV hs (B7 n hh hr)
theorem ET (hK : AW C f g c fr h Q → K fr h) (hh : AW C f g c fr h Q) : AT C g ops [] tch fr h K := at_nil (hK hh)
theorem Ju (n : Nat) (hK : AW C f g c fr h Q → K fr h) (hh : AT C g (opsOf c) (Fa 0 n) [] fr h (fun fr' h' => Q .normal fr' h')) (hr : Hu c n = true := by kernel_rfl) : AT C g ops [] tch fr h K := at_nil (hK (B7 n hh hr))
theorem G5 (n : Nat) (hK : AW C f g c fr h Q → K fr h) (hh : AT C g (opsOf (left c)) (Fa 0 n) [] fr h (fun fr' h' => KV (fun fr h => AW C f g (right c) fr h Q) Q .normal fr' h')) (hs : shape c = .seq := by kernel_rfl) (hr : Hu (left c) n = true := by kernel_rfl) : AT C g ops [] tch fr h K := at_nil (hK (AH n hh hs hr))
theorem BB (hq : Q .ret fr h) (hs : shape c = .ret := by kernel_rfl) : AW C f g c fr h Q := U7 hs hq
theorem Ej (hq : Q .normal fr h) (hs : shape c = .skip := by kernel_rfl) : AW C f g c fr h Q := Kv hs hq
end
theorem Ao {α : Type} {a x : α} (h : some a = some x) : a = x := Option.some.inj h
theorem Ie {α β : Type} {a x : α} {b y : β} (h : some (a, b) = some (x, y)) : a = x ∧ b = y := Prod.mk.inj (Option.some.inj h)
end Go.Av
