/-
  Several texts in one.
-/
import Derived.Test.YtlljeoogceblmaaGreatDoorAvTy
import Derived.Test.YtlljeoogceblmaaGreatDoorAvMore
/-
 A part.
-/
section
namespace Go.Av
set_option linter.unusedVariables false
set_option linter.unusedSimpArgs false
section
variable {α : Type} {g : Gd} {h : AD} {L F : List Ck}
theorem VO {ws : List α} {i : Int} {x : α} (hx : HJ ws i = some x) : 0 ≤ i ∧ i.toNat < ws.length ∧ ws[i.toNat]? = some x := by
 unfold HJ at hx
 split at hx
 ·exact ⟨by omega, (List.getElem?_eq_some_iff.1 hx).1, hx⟩
 ·cases hx
end
section
variable {C : Fi} {S : Self} {g : Gd} {h : AD} {fr : Fr} {op : Op}
def WN (P : Program) (fr : Fr) : Op → Option (List AB × Nat × Int)
 | .index t x i =>
  match P.underlying t, ev fr x, ev fr i with
  | some (.array n e), .agg cs, .int _ i =>
   match Io P e, B6 P e with
   | some false, some 1 => some (cs, n, i)
   | _, _ => none
  | _, _, _ => none
 | _ => none
theorem Ya {α : Type} (f : α → AB) (ws : List α) {cs : List AB} {n : Nat} {i : Int} {x : α} (hs : WN C.P fr op = some (cs, n, i)) (hcs : cs = ws.map f) (hn : ws.length = n) (hx : HJ ws i = some x) : A7 C S g h fr op = some (f x, h) := by
 obtain ⟨h1, h2, h3⟩ := VO hx
 unfold WN at hs
 split at hs
 ·split at hs
  ·rename_i hu hv hi
   split at hs
   ·rename_i ha hz
    simp only [Option.some.injEq, Prod.mk.injEq] at hs
    have e : ∀ j : Nat, ws[j]? = some x → (ws.map f)[j]? = some (f x) := fun j hj => by rw [List.getElem?_map, hj]; rfl
    obtain ⟨e1, e2, e3⟩ := hs
    subst e1 e2 e3
    simp only [A7, HT, As, IG, M3, hu, hv, hi, hz, Option.bind_some, Nat.mul_one]
    rw [if_pos ⟨h1, by omega⟩]
    simp only [IT, ha, hcs, e _ h3, Option.map_some]
   ·cases hs
  ·cases hs
 ·cases hs
def TT (P : Program) (fr : Fr) : Op → Option (List AB × Nat × Nat × Int)
 | .index t x i =>
  match P.underlying t, ev fr x, ev fr i with
  | some (.array n e), .agg cs, .int _ i =>
   match Io P e, B6 P e with
   | some true, some z => some (cs, n, z, i)
   | _, _ => none
  | _, _, _ => none
 | _ => none
theorem RP {α : Type} {e : α → List AB} {z : Nat} (E : MU e z) : ∀ (ws : List α) (j : Nat) (x : α), ws[j]? = some x → j * z + z ≤ (Ag e ws).length ∧ ((Ag e ws).drop (j * z)).take z = e x
 | [], j, x, h => by simp at h
 | w :: r, 0, x, h => by
  have hw : w = x := by simpa using h
  subst hw
  have hl := E.len w
  have e1 : Ag e (w :: r) = e w ++ Ag e r := rfl
  refine ⟨by rw [e1, List.length_append]; omega, ?_⟩
  rw [e1, Nat.zero_mul, List.drop_zero, List.take_append_of_le_length (by omega), List.take_of_length_le (by omega)]
 | w :: r, j + 1, x, h => by
  obtain ⟨h1, h2⟩ := RP E r j x (by simpa using h)
  have hl := E.len w
  have e1 : Ag e (w :: r) = e w ++ Ag e r := rfl
  have e2 : (j + 1) * z = z + j * z := by rw [Nat.add_mul, Nat.one_mul, Nat.add_comm]
  refine ⟨by rw [e1, List.length_append, e2]; omega, ?_⟩
  rw [e1, e2, List.drop_append, List.drop_of_length_le (by omega), List.nil_append, hl, Nat.add_sub_cancel_left]
  exact h2
theorem L7 {α : Type} {e : α → List AB} {z : Nat} (E : MU e z) (ws : List α) {cs : List AB} {n : Nat} {i : Int} {x : α} (hs : TT C.P fr op = some (cs, n, z, i)) (hcs : cs = Ag e ws) (hn : ws.length = n) (hx : HJ ws i = some x) : A7 C S g h fr op = some (.agg (e x), h) := by
 obtain ⟨h1, h2, h3⟩ := VO hx
 obtain ⟨h4, h5⟩ := RP E ws _ _ h3
 unfold TT at hs
 split at hs
 ·split at hs
  ·rename_i hu hv hi
   split at hs
   ·rename_i ha hz
    simp only [Option.some.injEq, Prod.mk.injEq] at hs
    obtain ⟨e1, e2, e3, e4⟩ := hs
    subst e1 e2 e3 e4
    simp only [A7, HT, As, IG, M3, hu, hv, hi, hz, Option.bind_some]
    rw [if_pos ⟨h1, by omega⟩]
    simp only [IT, ha, hz, Option.bind_some, hcs, if_pos h4, h5, Option.map_some]
   ·cases hs
  ·cases hs
 ·cases hs
end
end Go.Av
end
/-
 A part.
-/
section
namespace Go.Av
set_option linter.unusedVariables false
set_option linter.unusedSimpArgs false
section
variable {α : Type} {g : Gd} {h : AD} {L F : List Ck}
def aj (n : Nat) (e : α → AB) (X : Nat → α) : List AB := (List.range n).map fun i => e (X i)
def aT : Nat → Int := fun _ => 0
end
end Go.Av
end
/-
 A part.
-/
section
namespace Go.Av
set_option linter.unusedVariables false
set_option linter.unusedSimpArgs false
def HA (d : Nat) : List (Nat × AB) → Bool
 | [] => true
 | (i, _) :: r => bif Nat.beq i d then false else HA d r
theorem I1 {d : Nat} : ∀ {l : List (Nat × AB)}, HA d l = true → ∀ p ∈ l, p.1 ≠ d
 | [], _, p, hp => by cases hp
 | (i, v) :: r, h, p, hp => by
  unfold HA at h
  rw [HQ] at h
  by_cases e : i = d
  ·rw [if_pos e] at h; cases h
  ·rw [if_neg e] at h
   cases hp with
   | head => exact e
   | tail _ hp => exact I1 h p hp
def Hp (ops : Array Oper) (i : Nat) (l : List (Nat × AB)) : Bool :=
 match Gk ops i with
 | none => true
 | some d => HA d l
section
variable {C : Fi} {f : FuncId} {g : Gd} {ops : Array Oper} {tch : List (Nat × Nat)} {fr : Fr} {h h1 : AD} {K : Fr → AD → Prop} {N : Nat} {l : List (Nat × AB)} {i r : Nat}
theorem Gz {l : List (Nat × AB)} (hd : Hp ops i l = true) (v : AB) : ∀ p ∈ l, nth (put fr (Gk ops i) v) p.1 = nth fr p.1 := by
 intro p hp
 unfold Hp at hd
 split at hd
 ·rename_i e; rw [e]; rfl
 ·rename_i d e
  rw [e]
  exact Oa fr v (fun e => I1 hd p hp (Option.some.inj e).symm)
variable {Q : Bw → Fr → AD → Prop} {c : Code}
def KC : Code → Nat → Bool
 | .region _ ops draw, n => !draw && Nat.beq ops.size n
 | _, _ => false
theorem BY (n : Nat) (hh : AT C g (opsOf c) (E4 0 n) [] fr h (fun fr' h' => Q .normal fr' h')) (hs : KC c n = true := by kernel_rfl) : AW C f g c fr h Q := by
 cases c with
 | region id ops draw =>
  simp only [KC, Bool.and_eq_true, Bool.not_eq_true'] at hs
  obtain ⟨rfl, e⟩ := hs
  obtain rfl := Nat.eq_of_beq_eq_true e
  exact YZ (id := id) _ rfl rfl hh
 | _ => cases hs
theorem AQ (hh : AW C f g (left c) fr h (MS (fun fr h => AW C f g (right c) fr h Q) Q)) (hs : shape c = .seq := by kernel_rfl) : AW C f g c fr h Q := Si hs hh
theorem Has.ls {out : List (Nat × AB)} (H : Has fr N l) (h : ∀ fr, out.map (fun p => nth (CW N l fr) p.1) = out.map (·.2) := by intro _; kernel_rfl) : Has fr N out := H.less out h
theorem Ae (d : Nat) {b : Bool} {α : Type} {x y : Option α} {r : α} (H : Has fr N l) (hm : Af b x y = some r) (h1 : b = true → x = some r → Has fr N (OM l d (.bool true)) → AW C f g (left c) fr h Q) (h2 : b = false → y = some r → Has fr N (OM l d (.bool false)) → AW C f g (right c) fr h Q)
  (hd : PG l d = some (.bool b) := by kernel_rfl) (hs : shape c = .cond (.tmp d) := by kernel_rfl) : AW C f g c fr h Q := by
 have e : nth fr d = .bool b := H.2 _ (Me hd)
 cases c <;> simp [shape] at hs
 subst hs
 rcases A0 hm with ⟨hb, hm⟩ | ⟨hb, hm⟩
 ·obtain ⟨n, e', fr', h', q1, q2⟩ := (h1 hb hm (H.YT d hb hd)).ex
  rw [hb] at e
  exact ⟨⟨n, e', fr', h', by simp only [BM, ev, e]; exact q1, q2⟩⟩
 ·obtain ⟨n, e', fr', h', q1, q2⟩ := (h2 hb hm (H.YT d hb hd)).ex
  rw [hb] at e
  exact ⟨⟨n, e', fr', h', by simp only [BM, ev, e]; exact q1, q2⟩⟩
def EA (ops : Array Oper) (l : List (Nat × AB)) : List Nat → Bool
 | [] => true
 | i :: r => Hp ops i l && EA ops l r
theorem Gy {P : Program} {l : List (Nat × AB)} : ∀ (is : List Nat) (fr fr1 : Fr), EA ops l is = true → FO P ops is fr = some fr1 → ∀ p ∈ l, nth fr1 p.1 = nth fr p.1
 | [], fr, fr1, _, hs, p, hp => by
  simp only [FO, Option.some.injEq] at hs
  rw [hs]
 | i :: is, fr, fr1, hd, hs, p, hp => by
  simp only [EA, Bool.and_eq_true] at hd
  simp only [FO] at hs
  split at hs
  ·cases hs
  ·rename_i o ho
   have e2 : Gk ops i = o.dst := by simp [Gk, ho]
   have hk := fun fr v => Gz (fr := fr) hd.1 v p hp
   rw [e2] at hk
   split at hs
   ·split at hs
    ·rw [Gy is _ _ hd.2 hs p hp, hk]
    ·cases hs
   ·rw [Gy is _ _ hd.2 hs p hp, hk]
   ·cases hs
variable {pl : List (Nat × List Nat)} {U : List Nat}
theorem AF (k : Nat) (nw : List (Nat × AB)) (H : Has fr N l) (hn : ∀ fr', Has fr' N (List.append nw l) → AT C g ops (pl.drop k) tch fr' h K)
  (hk : ∀ fr, (Qm (pl.take k), EA ops l (Dj (pl.take k)), (FO C.P ops (Dj (pl.take k)) (CW N l fr)).map (fun x => nw.map (fun p => nth x p.1))) = (true, true, some (nw.map (·.2))) := by intro _; kernel_rfl) :
  AT C g ops pl tch fr h K := by
 have hk' := hk fr
 rw [D9 H] at hk'
 simp only [Prod.mk.injEq] at hk'
 obtain ⟨hu, hd, hk'⟩ := hk'
 cases hr : FO C.P ops (Dj (pl.take k)) fr with
 | none => rw [hr] at hk'; cases hk'
 | some fr1 =>
  rw [hr] at hk'
  simp only [Option.map_some, Option.some.injEq] at hk'
  have e : pl = pl.take k ++ pl.drop k := (List.take_append_drop k pl).symm
  rw [e]
  refine L8 _ _ fr fr1 (Lx hu) hr (hn fr1 ?_)
  have h1 := Has.of_map ((Fv _ _ _ hr).trans H.1) hk'
  refine ⟨h1.1, fun p hp => ?_⟩
  rcases List.mem_append.1 hp with hp | hp
  ·exact h1.2 p hp
  ·rw [Gy _ fr fr1 hd hr p hp]; exact H.2 p hp
theorem Ac (d : Nat) (v : AB) (h1 : AD) (H : Has fr N l) (hs : ∀ fr, Steps C g h (CW N l fr) (No ops i) v h1)
  (hn : ∀ fr' t, Has fr' N ((d, v) :: l) → AT C g ops pl t fr' h1 K)
  (hw : ∀ fr, (runs ops (CW N l fr) i, Gk ops i, Nat.blt d N, HA d l) = (true, some d, true, true) := by intro _; kernel_rfl) : AT C g ops ((i, []) :: pl) tch fr h K := by
 have hw' := hw fr
 have hs' := hs fr
 rw [D9 H] at hw' hs'
 simp only [Prod.mk.injEq] at hw'
 obtain ⟨w1, w2, w3, w4⟩ := hw'
 refine Hm (v := v) w1 (by rw [Gh, List.nil_append]; exact hs') rfl (hn _ _ ⟨by simp [H.1], fun p hp => ?_⟩)
 rw [w2]
 show nth (fr.set d v) p.1 = p.2
 cases hp with
 | head =>
  rw [Nat.blt_eq] at w3
  rw [Ef, if_pos ⟨rfl, by rw [H.1]; exact w3⟩]
 | tail _ hp =>
  rw [Ef, if_neg (fun e => I1 w4 p hp e.1.symm)]
  exact H.2 p hp
theorem G3 (v : AB) (h1 : AD) (H : Has fr N l) (hs : ∀ fr, Steps C g h (CW N l fr) (No ops i) v h1)
  (hn : ∀ fr' t, Has fr' N l → AT C g ops pl t fr' h1 K)
  (hw : ∀ fr, (runs ops (CW N l fr) i, Hp ops i l) = (true, true) := by intro _; kernel_rfl) : AT C g ops ((i, []) :: pl) tch fr h K := by
 have hw' := hw fr
 have hs' := hs fr
 rw [D9 H] at hw' hs'
 simp only [Prod.mk.injEq] at hw'
 obtain ⟨w1, w2⟩ := hw'
 refine Hm (v := v) w1 (by rw [Gh, List.nil_append]; exact hs') rfl (hn _ _ ⟨by simp [H.1], fun p hp => ?_⟩)
 rw [Gz w2 v p hp]
 exact H.2 p hp
theorem BJ (d : Nat) (v : AB) (h1 : AD) (tch' : List (Nat × Nat)) (pr : List Nat) (H : Has fr N l) (hs : ∀ fr, Steps C ⟨g.floor, pr⟩ h (CW N l fr) (No ops i) v h1)
  (hn : ∀ fr', Has fr' N ((d, v) :: l) → AT C g ops pl tch' fr' h1 K)
  (hre : ∀ fr, NZ C ops U (put (CW N l fr) (Gk ops i) v) h1 = true := by intro _; kernel_rfl)
  (hw : ∀ fr, (runs ops (CW N l fr) i, Gk ops i, Nat.blt d N, HA d l) = (true, some d, true, true) := by intro _; kernel_rfl)
  (hp : HG tch U ++ g.BN = pr := by kernel_rfl) (ht : ∀ fr, Fe C.P h (CW N l fr) i (No ops i) tch = tch' := by intro _; kernel_rfl) : AT C g ops ((i, U) :: pl) tch fr h K := by
 have hw' := hw fr
 have hs' := hs fr
 have hre' := hre fr
 have ht' := ht fr
 rw [D9 H] at hw' hs' hre' ht'
 simp only [Prod.mk.injEq] at hw'
 obtain ⟨w1, w2, w3, w4⟩ := hw'
 have hh : Has (put fr (Gk ops i) v) N ((d, v) :: l) := by
  refine ⟨by simp [H.1], fun p hq => ?_⟩
  rw [w2]
  show nth (fr.set d v) p.1 = p.2
  cases hq with
  | head =>
   rw [Nat.blt_eq] at w3
   rw [Ef, if_pos ⟨rfl, by rw [H.1]; exact w3⟩]
  | tail _ hq =>
   rw [Ef, if_neg (fun e => I1 w4 p hq e.1.symm)]
   exact H.2 p hq
 exact Hm (v := v) w1 (by rw [hp]; exact hs') hre' (by rw [ht']; exact hn _ hh)
theorem YC (v : AB) (h1 : AD) (tch' : List (Nat × Nat)) (pr : List Nat) (H : Has fr N l) (hs : ∀ fr, Steps C ⟨g.floor, pr⟩ h (CW N l fr) (No ops i) v h1)
  (hn : ∀ fr', Has fr' N l → AT C g ops pl tch' fr' h1 K)
  (hre : ∀ fr, NZ C ops U (put (CW N l fr) (Gk ops i) v) h1 = true := by intro _; kernel_rfl)
  (hw : ∀ fr, (runs ops (CW N l fr) i, Hp ops i l) = (true, true) := by intro _; kernel_rfl)
  (hp : HG tch U ++ g.BN = pr := by kernel_rfl) (ht : ∀ fr, Fe C.P h (CW N l fr) i (No ops i) tch = tch' := by intro _; kernel_rfl) : AT C g ops ((i, U) :: pl) tch fr h K := by
 have hw' := hw fr
 have hs' := hs fr
 have hre' := hre fr
 have ht' := ht fr
 rw [D9 H] at hw' hs' hre' ht'
 simp only [Prod.mk.injEq] at hw'
 obtain ⟨w1, w2⟩ := hw'
 have hh : Has (put fr (Gk ops i) v) N l := by
  refine ⟨by simp [H.1], fun p hq => ?_⟩
  rw [Gz w2 v p hq]
  exact H.2 p hq
 exact Hm (v := v) w1 (by rw [hp]; exact hs') hre' (by rw [ht']; exact hn _ hh)
theorem BF (k : Nat) (out : List (Nat × AB)) (H : Has fr N l) (hn : ∀ fr', Has fr' N out → AT C g ops (pl.drop k) tch fr' h K)
  (hk : ∀ fr, (Qm (pl.take k), (FO C.P ops (Dj (pl.take k)) (CW N l fr)).map (fun x => out.map (fun p => nth x p.1))) = (true, some (out.map (·.2))) := by intro _; kernel_rfl) :
  AT C g ops pl tch fr h K := by
 have hu := hk fr
 simp only [Prod.mk.injEq] at hu
 have e : pl = pl.take k ++ pl.drop k := (List.take_append_drop k pl).symm
 rw [e]
 refine YV (pl.take k) out H (Lx hu.1) (fun fr => ?_) hn
 have := hk fr
 simp only [Prod.mk.injEq] at this
 exact this.2
def NX (P : Program) (ops : Array Oper) (is : List Nat) (fr : Fr) : Fr := (FO P ops is fr).getD fr
def GC (pl : List (Nat × List Nat)) (k : Nat) : Nat :=
 match pl.drop k with
 | (i, _) :: _ => i
 | [] => 0
def O1 (pl : List (Nat × List Nat)) (k : Nat) : Bool :=
 match pl.drop k with
 | (_, []) :: _ => true
 | _ => false
theorem To {pl : List (Nat × List Nat)} {k : Nat} (h : O1 pl k = true) : pl.drop k = (GC pl k, []) :: pl.drop (k + 1) := by
 unfold O1 at h
 unfold GC
 have e : pl.drop (k + 1) = (pl.drop k).drop 1 := by rw [List.drop_drop]
 split at h
 ·rename_i i r hd
  rw [e, hd]; rfl
 ·cases h
theorem BC (k : Nat) (nw : List (Nat × AB)) (d : Nat) (v : AB) (h1 : AD) (H : Has fr N l) (hs : ∀ fr, Steps C g h (NX C.P ops (Dj (pl.take k)) (CW N l fr)) (No ops (GC pl k)) v h1)
  (hn : ∀ fr' t, Has fr' N ((d, v) :: List.append nw l) → AT C g ops (pl.drop (k + 1)) t fr' h1 K)
  (hk : ∀ fr, (O1 pl k && (Qm (pl.take k) && (EA ops l (Dj (pl.take k)) && (HA d l && (HA d nw && Nat.blt d N)))), (FO C.P ops (Dj (pl.take k)) (CW N l fr)).map (fun x => (runs ops x (GC pl k), Gk ops (GC pl k), nw.map (fun p => nth x p.1)))) = (true, some (true, some d, nw.map (·.2))) := by intro _; kernel_rfl) : AT C g ops pl tch fr h K := by
 have hk' := hk fr
 have hs' := hs fr
 rw [D9 H] at hk' hs'
 simp only [Prod.mk.injEq, Bool.and_eq_true] at hk'
 obtain ⟨⟨a1, a2, a3, a4, a5, a6⟩, hk'⟩ := hk'
 cases hr : FO C.P ops (Dj (pl.take k)) fr with
 | none => rw [hr] at hk'; cases hk'
 | some fr1 =>
  rw [hr] at hk'
  simp only [Option.map_some, Option.some.injEq, Prod.mk.injEq] at hk'
  obtain ⟨b1, b2, b3⟩ := hk'
  have hF : NX C.P ops (Dj (pl.take k)) fr = fr1 := by unfold NX; rw [hr]; rfl
  rw [hF] at hs'
  have hl1 : fr1.length = N := (Fv _ _ _ hr).trans H.1
  have hH := Has.of_map hl1 b3
  have e : pl = pl.take k ++ pl.drop k := (List.take_append_drop k pl).symm
  rw [e]
  refine L8 _ _ fr fr1 (Lx a2) hr ?_
  rw [To a1]
  refine Hm (v := v) b1 (by rw [Gh, List.nil_append]; exact hs') rfl (hn _ _ ⟨by simp [hl1], fun p hp => ?_⟩)
  rw [b2]
  show nth (fr1.set d v) p.1 = p.2
  cases hp with
  | head =>
   rw [Nat.blt_eq] at a6
   rw [Ef, if_pos ⟨rfl, by rw [hl1]; exact a6⟩]
  | tail _ hp =>
   rcases List.mem_append.1 hp with hp | hp
   ·rw [Ef, if_neg (fun e => I1 a5 p hp e.1.symm)]
    exact hH.2 p hp
   ·rw [Ef, if_neg (fun e => I1 a4 p hp e.1.symm), Gy _ fr fr1 a3 hr p hp]
    exact H.2 p hp
theorem VW (k : Nat) (nw : List (Nat × AB)) (v : AB) (h1 : AD) (H : Has fr N l) (hs : ∀ fr, Steps C g h (NX C.P ops (Dj (pl.take k)) (CW N l fr)) (No ops (GC pl k)) v h1)
  (hn : ∀ fr' t, Has fr' N (List.append nw l) → AT C g ops (pl.drop (k + 1)) t fr' h1 K)
  (hk : ∀ fr, (O1 pl k && (Qm (pl.take k) && (EA ops l (Dj (pl.take k)) && (Hp ops (GC pl k) l && Hp ops (GC pl k) nw))), (FO C.P ops (Dj (pl.take k)) (CW N l fr)).map (fun x => (runs ops x (GC pl k), nw.map (fun p => nth x p.1)))) = (true, some (true, nw.map (·.2))) := by intro _; kernel_rfl) : AT C g ops pl tch fr h K := by
 have hk' := hk fr
 have hs' := hs fr
 rw [D9 H] at hk' hs'
 simp only [Prod.mk.injEq, Bool.and_eq_true] at hk'
 obtain ⟨⟨a1, a2, a3, a4, a5⟩, hk'⟩ := hk'
 cases hr : FO C.P ops (Dj (pl.take k)) fr with
 | none => rw [hr] at hk'; cases hk'
 | some fr1 =>
  rw [hr] at hk'
  simp only [Option.map_some, Option.some.injEq, Prod.mk.injEq] at hk'
  obtain ⟨b1, b3⟩ := hk'
  have hF : NX C.P ops (Dj (pl.take k)) fr = fr1 := by unfold NX; rw [hr]; rfl
  rw [hF] at hs'
  have hl1 : fr1.length = N := (Fv _ _ _ hr).trans H.1
  have hH := Has.of_map hl1 b3
  have e : pl = pl.take k ++ pl.drop k := (List.take_append_drop k pl).symm
  rw [e]
  refine L8 _ _ fr fr1 (Lx a2) hr ?_
  rw [To a1]
  refine Hm (v := v) b1 (by rw [Gh, List.nil_append]; exact hs') rfl (hn _ _ ⟨by simp [hl1], fun p hp => ?_⟩)
  rcases List.mem_append.1 hp with hp | hp
  ·rw [Gz a5 v p hp]; exact hH.2 p hp
  ·rw [Gz a4 v p hp, Gy _ fr fr1 a3 hr p hp]; exact H.2 p hp
theorem Wb (k : Nat) (nw : List (Nat × AB)) (H : Has fr N l) (hK : ∀ fr', AW C f g c fr' h Q → K fr' h) (hh : ∀ fr', Has fr' N (List.append nw l) → AW C f g c fr' h Q)
  (hk : ∀ fr, (Qm pl, Nat.beq pl.length k, EA ops l (Dj pl), (FO C.P ops (Dj pl) (CW N l fr)).map (fun x => nw.map (fun p => nth x p.1))) = (true, true, true, some (nw.map (·.2))) := by intro _; kernel_rfl) : AT C g ops pl tch fr h K := by
 have hk' := hk fr
 simp only [Prod.mk.injEq] at hk'
 have hl := Nat.eq_of_beq_eq_true hk'.2.1
 have ht : pl.take k = pl := List.take_of_length_le (by omega)
 have hd : pl.drop k = [] := List.drop_eq_nil_of_le (by omega)
 refine AF k nw H (fun fr' H' => ?_) (fun fr => ?_)
 ·rw [hd]
  exact at_nil (hK _ (hh _ H'))
 ·have := hk fr
  simp only [Prod.mk.injEq] at this
  rw [ht]
  simp only [Prod.mk.injEq]
  exact ⟨this.1, this.2.2.1, this.2.2.2⟩
theorem ZU (k : Nat) (nw : List (Nat × AB)) (n : Nat) (H : Has fr N l) (hK : ∀ fr', AW C f g c fr' h Q → K fr' h) (hh : ∀ fr', Has fr' N (List.append nw l) → AT C g (opsOf c) (E4 0 n) [] fr' h (fun fr' h' => Q .normal fr' h'))
  (hk : ∀ fr, (Qm pl, Nat.beq pl.length k, EA ops l (Dj pl), (FO C.P ops (Dj pl) (CW N l fr)).map (fun x => nw.map (fun p => nth x p.1))) = (true, true, true, some (nw.map (·.2))) := by intro _; kernel_rfl) (hr : KC c n = true := by kernel_rfl) : AT C g ops pl tch fr h K := Wb k nw H hK (fun fr' H' => BY n (hh fr' H') hr) hk
theorem ZW (k : Nat) (nw : List (Nat × AB)) (n : Nat) (H : Has fr N l) (hK : ∀ fr', AW C f g c fr' h Q → K fr' h) (hh : ∀ fr', Has fr' N (List.append nw l) → AT C g (opsOf (left c)) (E4 0 n) [] fr' h (fun fr' h' => MS (fun fr h => AW C f g (right c) fr h Q) Q .normal fr' h'))
  (hk : ∀ fr, (Qm pl, Nat.beq pl.length k, EA ops l (Dj pl), (FO C.P ops (Dj pl) (CW N l fr)).map (fun x => nw.map (fun p => nth x p.1))) = (true, true, true, some (nw.map (·.2))) := by intro _; kernel_rfl) (hs : shape c = .seq := by kernel_rfl) (hr : KC (left c) n = true := by kernel_rfl) : AT C g ops pl tch fr h K := Wb k nw H hK (fun fr' H' => AQ (BY n (hh fr' H') hr) hs) hk
theorem An (k : Nat) (I : Fr → AD → Prop) (h1 : AT C g ops (pl.take k) tch fr h I) (h2 : ∀ t fr h, I fr h → AT C g ops (pl.drop k) t fr h K) : AT C g ops pl tch fr h K := by
 have e : pl = pl.take k ++ pl.drop k := (List.take_append_drop k pl).symm
 rw [e]
 exact Yg _ I h1 h2
theorem Gw (id n : Nat) (hh : AT C g (opsOf c) (E4 0 n) [] fr h (fun fr' h' => Q .normal fr' h')) (hs : shape c = .region id n true := by kernel_rfl) (hp : C.K6 f id = E4 0 n := by kernel_rfl) : AW C f g c fr h Q := TZ hs _ hp hh
theorem PR (id n : Nat) (pl : List (Nat × List Nat)) (hh : AT C g (opsOf c) pl [] fr h (fun fr' h' => Q .normal fr' h')) (hs : shape c = .region id n true := by kernel_rfl) (hp : C.K6 f id = pl := by kernel_rfl) : AW C f g c fr h Q := TZ hs _ hp hh
theorem AG (n : Nat) (hh : AT C g (opsOf (left c)) (E4 0 n) [] fr h (fun fr' h' => MS (fun fr h => AW C f g (right c) fr h Q) Q .normal fr' h')) (hs : shape c = .seq := by kernel_rfl) (hr : KC (left c) n = true := by kernel_rfl) : AW C f g c fr h Q := Si hs (BY n hh hr)
theorem BZ (hK : AW C f g c fr h Q → K fr h) (hh : AW C f g c fr h Q) : AT C g ops [] tch fr h K := at_nil (hK hh)
theorem G6 (n : Nat) (hK : AW C f g c fr h Q → K fr h) (hh : AT C g (opsOf c) (E4 0 n) [] fr h (fun fr' h' => Q .normal fr' h')) (hr : KC c n = true := by kernel_rfl) : AT C g ops [] tch fr h K := at_nil (hK (BY n hh hr))
theorem CT (n : Nat) (hK : AW C f g c fr h Q → K fr h) (hh : AT C g (opsOf (left c)) (E4 0 n) [] fr h (fun fr' h' => MS (fun fr h => AW C f g (right c) fr h Q) Q .normal fr' h')) (hs : shape c = .seq := by kernel_rfl) (hr : KC (left c) n = true := by kernel_rfl) : AT C g ops [] tch fr h K := at_nil (hK (AG n hh hs hr))
theorem AX (hq : Q .ret fr h) (hs : shape c = .ret := by kernel_rfl) : AW C f g c fr h Q := YN hs hq
theorem GU (hq : Q .normal fr h) (hs : shape c = .skip := by kernel_rfl) : AW C f g c fr h Q := Nj hs hq
end
theorem Ah {α : Type} {a x : α} (h : some a = some x) : a = x := Option.some.inj h
theorem Cx {α β : Type} {a x : α} {b y : β} (h : some (a, b) = some (x, y)) : a = x ∧ b = y := Prod.mk.inj (Option.some.inj h)
theorem Jl {α β γ : Type} {a x : α} {b y : β} {c z : γ} (h : some (a, b, c) = some (x, y, z)) : a = x ∧ b = y ∧ c = z := by
 obtain ⟨h1, h2⟩ := Cx h
 exact ⟨h1, Prod.mk.inj h2⟩
theorem NV {α β γ δ : Type} {a x : α} {b y : β} {c z : γ} {d w : δ} (h : some (a, b, c, d) = some (x, y, z, w)) : a = x ∧ b = y ∧ c = z ∧ d = w := by
 obtain ⟨h1, h2⟩ := Cx h
 exact ⟨h1, Jl (congrArg some h2)⟩
end Go.Av
end
