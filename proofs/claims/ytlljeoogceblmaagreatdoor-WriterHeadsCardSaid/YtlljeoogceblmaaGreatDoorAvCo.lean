/-
  Several texts in one.
-/
import Derived.Test.YtlljeoogceblmaaGreatDoorAvTy
import Derived.Test.YtlljeoogceblmaaGreatDoorAvMore
/-
 A part.
-/
section
namespace Go.Av
set_option linter.unusedVariables false
set_option linter.unusedSimpArgs false
section
variable {α : Type} {g : Gd} {h : AD} {L F : List Ck}
theorem WI {ws : List α} {i : Int} {x : α} (hx : Hj ws i = some x) : 0 ≤ i ∧ i.toNat < ws.length ∧ ws[i.toNat]? = some x := by
 unfold Hj at hx
 split at hx
 ·exact ⟨by omega, (List.getElem?_eq_some_iff.1 hx).1, hx⟩
 ·cases hx
end
section
variable {C : Ft} {S : Self} {g : Gd} {h : AD} {fr : Fr} {op : Op}
def Vm (P : Program) (fr : Fr) : Op → Option (List AB × Nat × Int)
 | .index t x i =>
  match P.underlying t, ev fr x, ev fr i with
  | some (.array n e), .agg cs, .int _ i =>
   match Iu P e, CE P e with
   | some false, some 1 => some (cs, n, i)
   | _, _ => none
  | _, _, _ => none
 | _ => none
theorem Yh {α : Type} (f : α → AB) (ws : List α) {cs : List AB} {n : Nat} {i : Int} {x : α} (hs : Vm C.P fr op = some (cs, n, i)) (hcs : cs = ws.map f) (hn : ws.length = n) (hx : Hj ws i = some x) : A7 C S g h fr op = some (f x, h) := by
 obtain ⟨h1, h2, h3⟩ := WI hx
 unfold Vm at hs
 split at hs
 ·split at hs
  ·rename_i hu hv hi
   split at hs
   ·rename_i ha hz
    simp only [Option.some.injEq, Prod.mk.injEq] at hs
    have e : ∀ j : Nat, ws[j]? = some x → (ws.map f)[j]? = some (f x) := fun j hj => by rw [List.getElem?_map, hj]; rfl
    obtain ⟨e1, e2, e3⟩ := hs
    subst e1 e2 e3
    simp only [A7, HR, As, IF, Mf, hu, hv, hi, hz, Option.bind_some, Nat.mul_one]
    rw [if_pos ⟨h1, by omega⟩]
    simp only [Ib, ha, hcs, e _ h3, Option.map_some]
   ·cases hs
  ·cases hs
 ·cases hs
def TU (P : Program) (fr : Fr) : Op → Option (List AB × Nat × Nat × Int)
 | .index t x i =>
  match P.underlying t, ev fr x, ev fr i with
  | some (.array n e), .agg cs, .int _ i =>
   match Iu P e, CE P e with
   | some true, some z => some (cs, n, z, i)
   | _, _ => none
  | _, _, _ => none
 | _ => none
theorem Ra {α : Type} {e : α → List AB} {z : Nat} (E : Md e z) : ∀ (ws : List α) (j : Nat) (x : α), ws[j]? = some x → j * z + z ≤ (Ag e ws).length ∧ ((Ag e ws).drop (j * z)).take z = e x
 | [], j, x, h => by simp at h
 | w :: r, 0, x, h => by
  have hw : w = x := by simpa using h
  subst hw
  have hl := E.len w
  have e1 : Ag e (w :: r) = e w ++ Ag e r := rfl
  refine ⟨by rw [e1, List.length_append]; omega, ?_⟩
  rw [e1, Nat.zero_mul, List.drop_zero, List.take_append_of_le_length (by omega), List.take_of_length_le (by omega)]
 | w :: r, j + 1, x, h => by
  obtain ⟨h1, h2⟩ := Ra E r j x (by simpa using h)
  have hl := E.len w
  have e1 : Ag e (w :: r) = e w ++ Ag e r := rfl
  have e2 : (j + 1) * z = z + j * z := by rw [Nat.add_mul, Nat.one_mul, Nat.add_comm]
  refine ⟨by rw [e1, List.length_append, e2]; omega, ?_⟩
  rw [e1, e2, List.drop_append, List.drop_of_length_le (by omega), List.nil_append, hl, Nat.add_sub_cancel_left]
  exact h2
theorem MN {α : Type} {e : α → List AB} {z : Nat} (E : Md e z) (ws : List α) {cs : List AB} {n : Nat} {i : Int} {x : α} (hs : TU C.P fr op = some (cs, n, z, i)) (hcs : cs = Ag e ws) (hn : ws.length = n) (hx : Hj ws i = some x) : A7 C S g h fr op = some (.agg (e x), h) := by
 obtain ⟨h1, h2, h3⟩ := WI hx
 obtain ⟨h4, h5⟩ := Ra E ws _ _ h3
 unfold TU at hs
 split at hs
 ·split at hs
  ·rename_i hu hv hi
   split at hs
   ·rename_i ha hz
    simp only [Option.some.injEq, Prod.mk.injEq] at hs
    obtain ⟨e1, e2, e3, e4⟩ := hs
    subst e1 e2 e3 e4
    simp only [A7, HR, As, IF, Mf, hu, hv, hi, hz, Option.bind_some]
    rw [if_pos ⟨h1, by omega⟩]
    simp only [Ib, ha, hz, Option.bind_some, hcs, if_pos h4, h5, Option.map_some]
   ·cases hs
  ·cases hs
 ·cases hs
end
end Go.Av
end
/-
 A part.
-/
section
namespace Go.Av
set_option linter.unusedVariables false
set_option linter.unusedSimpArgs false
section
variable {α : Type} {g : Gd} {h : AD} {L F : List Ck}
def bK (n : Nat) (e : α → AB) (X : Nat → α) : List AB := (List.range n).map fun i => e (X i)
def ah : Nat → Int := fun _ => 0
end
end Go.Av
end
/-
 A part.
-/
section
namespace Go.Av
set_option linter.unusedVariables false
set_option linter.unusedSimpArgs false
def G0 (d : Nat) : List (Nat × AB) → Bool
 | [] => true
 | (i, _) :: r => bif Nat.beq i d then false else G0 d r
theorem I7 {d : Nat} : ∀ {l : List (Nat × AB)}, G0 d l = true → ∀ p ∈ l, p.1 ≠ d
 | [], _, p, hp => by cases hp
 | (i, v) :: r, h, p, hp => by
  unfold G0 at h
  rw [HP] at h
  by_cases e : i = d
  ·rw [if_pos e] at h; cases h
  ·rw [if_neg e] at h
   cases hp with
   | head => exact e
   | tail _ hp => exact I7 h p hp
def H0 (ops : Array Oper) (i : Nat) (l : List (Nat × AB)) : Bool :=
 match Gk ops i with
 | none => true
 | some d => G0 d l
section
variable {C : Ft} {f : FuncId} {g : Gd} {ops : Array Oper} {tch : List (Nat × Nat)} {fr : Fr} {h h1 : AD} {K : Fr → AD → Prop} {N : Nat} {l : List (Nat × AB)} {i r : Nat}
theorem HC {l : List (Nat × AB)} (hd : H0 ops i l = true) (v : AB) : ∀ p ∈ l, nth (put fr (Gk ops i) v) p.1 = nth fr p.1 := by
 intro p hp
 unfold H0 at hd
 split at hd
 ·rename_i e; rw [e]; rfl
 ·rename_i d e
  rw [e]
  exact N3 fr v (fun e => I7 hd p hp (Option.some.inj e).symm)
variable {Q : By → Fr → AD → Prop} {c : Code}
def J9 : Code → Nat → Bool
 | .region _ ops draw, n => !draw && Nat.beq ops.size n
 | _, _ => false
theorem BO (n : Nat) (hh : AT C g (opsOf c) (E6 0 n) [] fr h (fun fr' h' => Q .normal fr' h')) (hs : J9 c n = true := by kernel_rfl) : AW C f g c fr h Q := by
 cases c with
 | region id ops draw =>
  simp only [J9, Bool.and_eq_true, Bool.not_eq_true'] at hs
  obtain ⟨rfl, e⟩ := hs
  obtain rfl := Nat.eq_of_beq_eq_true e
  exact ZI (id := id) _ rfl rfl hh
 | _ => cases hs
theorem AN (hh : AW C f g (left c) fr h (MU (fun fr h => AW C f g (right c) fr h Q) Q)) (hs : shape c = .seq := by kernel_rfl) : AW C f g c fr h Q := TH hs hh
theorem Has.ls {out : List (Nat × AB)} (H : Has fr N l) (h : ∀ fr, out.map (fun p => nth (Cb N l fr) p.1) = out.map (·.2) := by intro _; kernel_rfl) : Has fr N out := H.less out h
theorem AX (d : Nat) {b : Bool} {α : Type} {x y : Option α} {r : α} (H : Has fr N l) (hm : Aa b x y = some r) (h1 : b = true → x = some r → Has fr N (OI l d (.bool true)) → AW C f g (left c) fr h Q) (h2 : b = false → y = some r → Has fr N (OI l d (.bool false)) → AW C f g (right c) fr h Q)
  (hd : PJ l d = some (.bool b) := by kernel_rfl) (hs : shape c = .cond (.tmp d) := by kernel_rfl) : AW C f g c fr h Q := by
 have e : nth fr d = .bool b := H.2 _ (My hd)
 cases c <;> simp [shape] at hs
 subst hs
 rcases Ar hm with ⟨hb, hm⟩ | ⟨hb, hm⟩
 ·obtain ⟨n, e', fr', h', q1, q2⟩ := (h1 hb hm (H.Ys d hb hd)).ex
  rw [hb] at e
  exact ⟨⟨n, e', fr', h', by simp only [BI, ev, e]; exact q1, q2⟩⟩
 ·obtain ⟨n, e', fr', h', q1, q2⟩ := (h2 hb hm (H.Ys d hb hd)).ex
  rw [hb] at e
  exact ⟨⟨n, e', fr', h', by simp only [BI, ev, e]; exact q1, q2⟩⟩
def D8 (ops : Array Oper) (l : List (Nat × AB)) : List Nat → Bool
 | [] => true
 | i :: r => H0 ops i l && D8 ops l r
theorem HE {P : Program} {l : List (Nat × AB)} : ∀ (is : List Nat) (fr fr1 : Fr), D8 ops l is = true → FU P ops is fr = some fr1 → ∀ p ∈ l, nth fr1 p.1 = nth fr p.1
 | [], fr, fr1, _, hs, p, hp => by
  simp only [FU, Option.some.injEq] at hs
  rw [hs]
 | i :: is, fr, fr1, hd, hs, p, hp => by
  simp only [D8, Bool.and_eq_true] at hd
  simp only [FU] at hs
  split at hs
  ·cases hs
  ·rename_i o ho
   have e2 : Gk ops i = o.dst := by simp [Gk, ho]
   have hk := fun fr v => HC (fr := fr) hd.1 v p hp
   rw [e2] at hk
   split at hs
   ·split at hs
    ·rw [HE is _ _ hd.2 hs p hp, hk]
    ·cases hs
   ·rw [HE is _ _ hd.2 hs p hp, hk]
   ·cases hs
variable {pl : List (Nat × List Nat)} {U : List Nat}
theorem AG (k : Nat) (nw : List (Nat × AB)) (H : Has fr N l) (hn : ∀ fr', Has fr' N (List.append nw l) → AT C g ops (pl.drop k) tch fr' h K)
  (hk : ∀ fr, (Qe (pl.take k), D8 ops l (Dd (pl.take k)), (FU C.P ops (Dd (pl.take k)) (Cb N l fr)).map (fun x => nw.map (fun p => nth x p.1))) = (true, true, some (nw.map (·.2))) := by intro _; kernel_rfl) :
  AT C g ops pl tch fr h K := by
 have hk' := hk fr
 rw [EA H] at hk'
 simp only [Prod.mk.injEq] at hk'
 obtain ⟨hu, hd, hk'⟩ := hk'
 cases hr : FU C.P ops (Dd (pl.take k)) fr with
 | none => rw [hr] at hk'; cases hk'
 | some fr1 =>
  rw [hr] at hk'
  simp only [Option.map_some, Option.some.injEq] at hk'
  have e : pl = pl.take k ++ pl.drop k := (List.take_append_drop k pl).symm
  rw [e]
  refine Lx _ _ fr fr1 (MY hu) hr (hn fr1 ?_)
  have h1 := Has.of_map ((GD _ _ _ hr).trans H.1) hk'
  refine ⟨h1.1, fun p hp => ?_⟩
  rcases List.mem_append.1 hp with hp | hp
  ·exact h1.2 p hp
  ·rw [HE _ fr fr1 hd hr p hp]; exact H.2 p hp
theorem AZ (d : Nat) (v : AB) (h1 : AD) (H : Has fr N l) (hs : ∀ fr, Steps C g h (Cb N l fr) (Ns ops i) v h1)
  (hn : ∀ fr' t, Has fr' N ((d, v) :: l) → AT C g ops pl t fr' h1 K)
  (hw : ∀ fr, (runs ops (Cb N l fr) i, Gk ops i, Nat.blt d N, G0 d l) = (true, some d, true, true) := by intro _; kernel_rfl) : AT C g ops ((i, []) :: pl) tch fr h K := by
 have hw' := hw fr
 have hs' := hs fr
 rw [EA H] at hw' hs'
 simp only [Prod.mk.injEq] at hw'
 obtain ⟨w1, w2, w3, w4⟩ := hw'
 refine H8 (v := v) w1 (by rw [Gj, List.nil_append]; exact hs') rfl (hn _ _ ⟨by simp [H.1], fun p hp => ?_⟩)
 rw [w2]
 show nth (fr.set d v) p.1 = p.2
 cases hp with
 | head =>
  rw [Nat.blt_eq] at w3
  rw [EY, if_pos ⟨rfl, by rw [H.1]; exact w3⟩]
 | tail _ hp =>
  rw [EY, if_neg (fun e => I7 w4 p hp e.1.symm)]
  exact H.2 p hp
theorem G2 (v : AB) (h1 : AD) (H : Has fr N l) (hs : ∀ fr, Steps C g h (Cb N l fr) (Ns ops i) v h1)
  (hn : ∀ fr' t, Has fr' N l → AT C g ops pl t fr' h1 K)
  (hw : ∀ fr, (runs ops (Cb N l fr) i, H0 ops i l) = (true, true) := by intro _; kernel_rfl) : AT C g ops ((i, []) :: pl) tch fr h K := by
 have hw' := hw fr
 have hs' := hs fr
 rw [EA H] at hw' hs'
 simp only [Prod.mk.injEq] at hw'
 obtain ⟨w1, w2⟩ := hw'
 refine H8 (v := v) w1 (by rw [Gj, List.nil_append]; exact hs') rfl (hn _ _ ⟨by simp [H.1], fun p hp => ?_⟩)
 rw [HC w2 v p hp]
 exact H.2 p hp
theorem BN (d : Nat) (v : AB) (h1 : AD) (tch' : List (Nat × Nat)) (pr : List Nat) (H : Has fr N l) (hs : ∀ fr, Steps C ⟨g.floor, pr⟩ h (Cb N l fr) (Ns ops i) v h1)
  (hn : ∀ fr', Has fr' N ((d, v) :: l) → AT C g ops pl tch' fr' h1 K)
  (hre : ∀ fr, Na C ops U (put (Cb N l fr) (Gk ops i) v) h1 = true := by intro _; kernel_rfl)
  (hw : ∀ fr, (runs ops (Cb N l fr) i, Gk ops i, Nat.blt d N, G0 d l) = (true, some d, true, true) := by intro _; kernel_rfl)
  (hp : HJ tch U ++ g.BP = pr := by kernel_rfl) (ht : ∀ fr, Fg C.P h (Cb N l fr) i (Ns ops i) tch = tch' := by intro _; kernel_rfl) : AT C g ops ((i, U) :: pl) tch fr h K := by
 have hw' := hw fr
 have hs' := hs fr
 have hre' := hre fr
 have ht' := ht fr
 rw [EA H] at hw' hs' hre' ht'
 simp only [Prod.mk.injEq] at hw'
 obtain ⟨w1, w2, w3, w4⟩ := hw'
 have hh : Has (put fr (Gk ops i) v) N ((d, v) :: l) := by
  refine ⟨by simp [H.1], fun p hq => ?_⟩
  rw [w2]
  show nth (fr.set d v) p.1 = p.2
  cases hq with
  | head =>
   rw [Nat.blt_eq] at w3
   rw [EY, if_pos ⟨rfl, by rw [H.1]; exact w3⟩]
  | tail _ hq =>
   rw [EY, if_neg (fun e => I7 w4 p hq e.1.symm)]
   exact H.2 p hq
 exact H8 (v := v) w1 (by rw [hp]; exact hs') hre' (by rw [ht']; exact hn _ hh)
theorem Zh (v : AB) (h1 : AD) (tch' : List (Nat × Nat)) (pr : List Nat) (H : Has fr N l) (hs : ∀ fr, Steps C ⟨g.floor, pr⟩ h (Cb N l fr) (Ns ops i) v h1)
  (hn : ∀ fr', Has fr' N l → AT C g ops pl tch' fr' h1 K)
  (hre : ∀ fr, Na C ops U (put (Cb N l fr) (Gk ops i) v) h1 = true := by intro _; kernel_rfl)
  (hw : ∀ fr, (runs ops (Cb N l fr) i, H0 ops i l) = (true, true) := by intro _; kernel_rfl)
  (hp : HJ tch U ++ g.BP = pr := by kernel_rfl) (ht : ∀ fr, Fg C.P h (Cb N l fr) i (Ns ops i) tch = tch' := by intro _; kernel_rfl) : AT C g ops ((i, U) :: pl) tch fr h K := by
 have hw' := hw fr
 have hs' := hs fr
 have hre' := hre fr
 have ht' := ht fr
 rw [EA H] at hw' hs' hre' ht'
 simp only [Prod.mk.injEq] at hw'
 obtain ⟨w1, w2⟩ := hw'
 have hh : Has (put fr (Gk ops i) v) N l := by
  refine ⟨by simp [H.1], fun p hq => ?_⟩
  rw [HC w2 v p hq]
  exact H.2 p hq
 exact H8 (v := v) w1 (by rw [hp]; exact hs') hre' (by rw [ht']; exact hn _ hh)
theorem A5 (k : Nat) (out : List (Nat × AB)) (H : Has fr N l) (hn : ∀ fr', Has fr' N out → AT C g ops (pl.drop k) tch fr' h K)
  (hk : ∀ fr, (Qe (pl.take k), (FU C.P ops (Dd (pl.take k)) (Cb N l fr)).map (fun x => out.map (fun p => nth x p.1))) = (true, some (out.map (·.2))) := by intro _; kernel_rfl) :
  AT C g ops pl tch fr h K := by
 have hu := hk fr
 simp only [Prod.mk.injEq] at hu
 have e : pl = pl.take k ++ pl.drop k := (List.take_append_drop k pl).symm
 rw [e]
 refine ZN (pl.take k) out H (MY hu.1) (fun fr => ?_) hn
 have := hk fr
 simp only [Prod.mk.injEq] at this
 exact this.2
def NW (P : Program) (ops : Array Oper) (is : List Nat) (fr : Fr) : Fr := (FU P ops is fr).getD fr
def GG (pl : List (Nat × List Nat)) (k : Nat) : Nat :=
 match pl.drop k with
 | (i, _) :: _ => i
 | [] => 0
def PC (pl : List (Nat × List Nat)) (k : Nat) : Bool :=
 match pl.drop k with
 | (_, []) :: _ => true
 | _ => false
theorem Tq {pl : List (Nat × List Nat)} {k : Nat} (h : PC pl k = true) : pl.drop k = (GG pl k, []) :: pl.drop (k + 1) := by
 unfold PC at h
 unfold GG
 have e : pl.drop (k + 1) = (pl.drop k).drop 1 := by rw [List.drop_drop]
 split at h
 ·rename_i i r hd
  rw [e, hd]; rfl
 ·cases h
theorem Ax (k : Nat) (nw : List (Nat × AB)) (d : Nat) (v : AB) (h1 : AD) (H : Has fr N l) (hs : ∀ fr, Steps C g h (NW C.P ops (Dd (pl.take k)) (Cb N l fr)) (Ns ops (GG pl k)) v h1)
  (hn : ∀ fr' t, Has fr' N ((d, v) :: List.append nw l) → AT C g ops (pl.drop (k + 1)) t fr' h1 K)
  (hk : ∀ fr, (PC pl k && (Qe (pl.take k) && (D8 ops l (Dd (pl.take k)) && (G0 d l && (G0 d nw && Nat.blt d N)))), (FU C.P ops (Dd (pl.take k)) (Cb N l fr)).map (fun x => (runs ops x (GG pl k), Gk ops (GG pl k), nw.map (fun p => nth x p.1)))) = (true, some (true, some d, nw.map (·.2))) := by intro _; kernel_rfl) : AT C g ops pl tch fr h K := by
 have hk' := hk fr
 have hs' := hs fr
 rw [EA H] at hk' hs'
 simp only [Prod.mk.injEq, Bool.and_eq_true] at hk'
 obtain ⟨⟨a1, a2, a3, a4, a5, a6⟩, hk'⟩ := hk'
 cases hr : FU C.P ops (Dd (pl.take k)) fr with
 | none => rw [hr] at hk'; cases hk'
 | some fr1 =>
  rw [hr] at hk'
  simp only [Option.map_some, Option.some.injEq, Prod.mk.injEq] at hk'
  obtain ⟨b1, b2, b3⟩ := hk'
  have hF : NW C.P ops (Dd (pl.take k)) fr = fr1 := by unfold NW; rw [hr]; rfl
  rw [hF] at hs'
  have hl1 : fr1.length = N := (GD _ _ _ hr).trans H.1
  have hH := Has.of_map hl1 b3
  have e : pl = pl.take k ++ pl.drop k := (List.take_append_drop k pl).symm
  rw [e]
  refine Lx _ _ fr fr1 (MY a2) hr ?_
  rw [Tq a1]
  refine H8 (v := v) b1 (by rw [Gj, List.nil_append]; exact hs') rfl (hn _ _ ⟨by simp [hl1], fun p hp => ?_⟩)
  rw [b2]
  show nth (fr1.set d v) p.1 = p.2
  cases hp with
  | head =>
   rw [Nat.blt_eq] at a6
   rw [EY, if_pos ⟨rfl, by rw [hl1]; exact a6⟩]
  | tail _ hp =>
   rcases List.mem_append.1 hp with hp | hp
   ·rw [EY, if_neg (fun e => I7 a5 p hp e.1.symm)]
    exact hH.2 p hp
   ·rw [EY, if_neg (fun e => I7 a4 p hp e.1.symm), HE _ fr fr1 a3 hr p hp]
    exact H.2 p hp
theorem Wb (k : Nat) (nw : List (Nat × AB)) (v : AB) (h1 : AD) (H : Has fr N l) (hs : ∀ fr, Steps C g h (NW C.P ops (Dd (pl.take k)) (Cb N l fr)) (Ns ops (GG pl k)) v h1)
  (hn : ∀ fr' t, Has fr' N (List.append nw l) → AT C g ops (pl.drop (k + 1)) t fr' h1 K)
  (hk : ∀ fr, (PC pl k && (Qe (pl.take k) && (D8 ops l (Dd (pl.take k)) && (H0 ops (GG pl k) l && H0 ops (GG pl k) nw))), (FU C.P ops (Dd (pl.take k)) (Cb N l fr)).map (fun x => (runs ops x (GG pl k), nw.map (fun p => nth x p.1)))) = (true, some (true, nw.map (·.2))) := by intro _; kernel_rfl) : AT C g ops pl tch fr h K := by
 have hk' := hk fr
 have hs' := hs fr
 rw [EA H] at hk' hs'
 simp only [Prod.mk.injEq, Bool.and_eq_true] at hk'
 obtain ⟨⟨a1, a2, a3, a4, a5⟩, hk'⟩ := hk'
 cases hr : FU C.P ops (Dd (pl.take k)) fr with
 | none => rw [hr] at hk'; cases hk'
 | some fr1 =>
  rw [hr] at hk'
  simp only [Option.map_some, Option.some.injEq, Prod.mk.injEq] at hk'
  obtain ⟨b1, b3⟩ := hk'
  have hF : NW C.P ops (Dd (pl.take k)) fr = fr1 := by unfold NW; rw [hr]; rfl
  rw [hF] at hs'
  have hl1 : fr1.length = N := (GD _ _ _ hr).trans H.1
  have hH := Has.of_map hl1 b3
  have e : pl = pl.take k ++ pl.drop k := (List.take_append_drop k pl).symm
  rw [e]
  refine Lx _ _ fr fr1 (MY a2) hr ?_
  rw [Tq a1]
  refine H8 (v := v) b1 (by rw [Gj, List.nil_append]; exact hs') rfl (hn _ _ ⟨by simp [hl1], fun p hp => ?_⟩)
  rcases List.mem_append.1 hp with hp | hp
  ·rw [HC a5 v p hp]; exact hH.2 p hp
  ·rw [HC a4 v p hp, HE _ fr fr1 a3 hr p hp]; exact H.2 p hp
theorem WR (k : Nat) (nw : List (Nat × AB)) (H : Has fr N l) (hK : ∀ fr', AW C f g c fr' h Q → K fr' h) (hh : ∀ fr', Has fr' N (List.append nw l) → AW C f g c fr' h Q)
  (hk : ∀ fr, (Qe pl, Nat.beq pl.length k, D8 ops l (Dd pl), (FU C.P ops (Dd pl) (Cb N l fr)).map (fun x => nw.map (fun p => nth x p.1))) = (true, true, true, some (nw.map (·.2))) := by intro _; kernel_rfl) : AT C g ops pl tch fr h K := by
 have hk' := hk fr
 simp only [Prod.mk.injEq] at hk'
 have hl := Nat.eq_of_beq_eq_true hk'.2.1
 have ht : pl.take k = pl := List.take_of_length_le (by omega)
 have hd : pl.drop k = [] := List.drop_eq_nil_of_le (by omega)
 refine AG k nw H (fun fr' H' => ?_) (fun fr => ?_)
 ·rw [hd]
  exact at_nil (hK _ (hh _ H'))
 ·have := hk fr
  simp only [Prod.mk.injEq] at this
  rw [ht]
  simp only [Prod.mk.injEq]
  exact ⟨this.1, this.2.2.1, this.2.2.2⟩
theorem Z8 (k : Nat) (nw : List (Nat × AB)) (n : Nat) (H : Has fr N l) (hK : ∀ fr', AW C f g c fr' h Q → K fr' h) (hh : ∀ fr', Has fr' N (List.append nw l) → AT C g (opsOf c) (E6 0 n) [] fr' h (fun fr' h' => Q .normal fr' h'))
  (hk : ∀ fr, (Qe pl, Nat.beq pl.length k, D8 ops l (Dd pl), (FU C.P ops (Dd pl) (Cb N l fr)).map (fun x => nw.map (fun p => nth x p.1))) = (true, true, true, some (nw.map (·.2))) := by intro _; kernel_rfl) (hr : J9 c n = true := by kernel_rfl) : AT C g ops pl tch fr h K := WR k nw H hK (fun fr' H' => BO n (hh fr' H') hr) hk
theorem Zu (k : Nat) (nw : List (Nat × AB)) (n : Nat) (H : Has fr N l) (hK : ∀ fr', AW C f g c fr' h Q → K fr' h) (hh : ∀ fr', Has fr' N (List.append nw l) → AT C g (opsOf (left c)) (E6 0 n) [] fr' h (fun fr' h' => MU (fun fr h => AW C f g (right c) fr h Q) Q .normal fr' h'))
  (hk : ∀ fr, (Qe pl, Nat.beq pl.length k, D8 ops l (Dd pl), (FU C.P ops (Dd pl) (Cb N l fr)).map (fun x => nw.map (fun p => nth x p.1))) = (true, true, true, some (nw.map (·.2))) := by intro _; kernel_rfl) (hs : shape c = .seq := by kernel_rfl) (hr : J9 (left c) n = true := by kernel_rfl) : AT C g ops pl tch fr h K := WR k nw H hK (fun fr' H' => AN (BO n (hh fr' H') hr) hs) hk
theorem Al (k : Nat) (I : Fr → AD → Prop) (h1 : AT C g ops (pl.take k) tch fr h I) (h2 : ∀ t fr h, I fr h → AT C g ops (pl.drop k) t fr h K) : AT C g ops pl tch fr h K := by
 have e : pl = pl.take k ++ pl.drop k := (List.take_append_drop k pl).symm
 rw [e]
 exact Yp _ I h1 h2
theorem HB (id n : Nat) (hh : AT C g (opsOf c) (E6 0 n) [] fr h (fun fr' h' => Q .normal fr' h')) (hs : shape c = .region id n true := by kernel_rfl) (hp : C.LD f id = E6 0 n := by kernel_rfl) : AW C f g c fr h Q := TV hs _ hp hh
theorem UI (id n : Nat) (pl : List (Nat × List Nat)) (hh : AT C g (opsOf c) pl [] fr h (fun fr' h' => Q .normal fr' h')) (hs : shape c = .region id n true := by kernel_rfl) (hp : C.LD f id = pl := by kernel_rfl) : AW C f g c fr h Q := TV hs _ hp hh
theorem AF (n : Nat) (hh : AT C g (opsOf (left c)) (E6 0 n) [] fr h (fun fr' h' => MU (fun fr h => AW C f g (right c) fr h Q) Q .normal fr' h')) (hs : shape c = .seq := by kernel_rfl) (hr : J9 (left c) n = true := by kernel_rfl) : AW C f g c fr h Q := TH hs (BO n hh hr)
theorem BK (hK : AW C f g c fr h Q → K fr h) (hh : AW C f g c fr h Q) : AT C g ops [] tch fr h K := at_nil (hK hh)
theorem FY (n : Nat) (hK : AW C f g c fr h Q → K fr h) (hh : AT C g (opsOf c) (E6 0 n) [] fr h (fun fr' h' => Q .normal fr' h')) (hr : J9 c n = true := by kernel_rfl) : AT C g ops [] tch fr h K := at_nil (hK (BO n hh hr))
theorem CT (n : Nat) (hK : AW C f g c fr h Q → K fr h) (hh : AT C g (opsOf (left c)) (E6 0 n) [] fr h (fun fr' h' => MU (fun fr h => AW C f g (right c) fr h Q) Q .normal fr' h')) (hs : shape c = .seq := by kernel_rfl) (hr : J9 (left c) n = true := by kernel_rfl) : AT C g ops [] tch fr h K := at_nil (hK (AF n hh hs hr))
theorem AQ (hq : Q .ret fr h) (hs : shape c = .ret := by kernel_rfl) : AW C f g c fr h Q := Yc hs hq
theorem F9 (hq : Q .normal fr h) (hs : shape c = .skip := by kernel_rfl) : AW C f g c fr h Q := Nt hs hq
end
theorem Ad {α : Type} {a x : α} (h : some a = some x) : a = x := Option.some.inj h
theorem Bn {α β : Type} {a x : α} {b y : β} (h : some (a, b) = some (x, y)) : a = x ∧ b = y := Prod.mk.inj (Option.some.inj h)
theorem KN {α β γ : Type} {a x : α} {b y : β} {c z : γ} (h : some (a, b, c) = some (x, y, z)) : a = x ∧ b = y ∧ c = z := by
 obtain ⟨h1, h2⟩ := Bn h
 exact ⟨h1, Prod.mk.inj h2⟩
end Go.Av
end
