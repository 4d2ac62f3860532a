/-
 A part.
-/
import Derived.Test.YtlljeoogceblmaaGreatDoorHdB
namespace Go.Av.L
open Go.Av Go.Lib
set_option linter.unusedVariables false
set_option linter.unusedSimpArgs false
set_option maxRecDepth 10000
def Da : List Nat := [100, 8, 8, 8, 12, 12, 8, 1, 100, 8, 32, 32, 8, 8, 155, 12]
def Shape (L : List (List UInt8)) : Prop := L.map List.length = Da
def NJ : List (List UInt8) := Da.map fun n => List.replicate n 0
theorem RI : Shape NJ := by unfold Shape; kernel_rfl
theorem Sr : List.replicate (512 : Int).toNat (0 : UInt8) = NJ.flatten := by kernel_rfl
def K6 (i : Nat) : Nat := (Da.take i).sum
theorem Shape.len {L : List (List UInt8)} (h : Shape L) : L.length = 16 := by
 have := congrArg List.length h
 rwa [List.length_map] at this
theorem Shape.flat {L : List (List UInt8)} (h : Shape L) : L.flatten.length = 512 := by
 rw [List.length_flatten, show L.map List.length = Da from h]; rfl
theorem Shape.take {L : List (List UInt8)} (h : Shape L) (i : Nat) : (L.take i).flatten.length = K6 i := by
 rw [List.length_flatten, List.map_take, show L.map List.length = Da from h]; rfl
theorem Shape.at_ {L : List (List UInt8)} (h : Shape L) {i : Nat} (hi : i < 16) : ∃ x, L = L.take i ++ x :: L.drop (i + 1) ∧ L.getD i [] = x ∧ x.length = Da.getD i 0 := by
 have hl := h.len
 have hi' : i < L.length := by omega
 refine ⟨L[i], ?_, ?_, ?_⟩
 ·rw [← List.drop_eq_getElem_cons hi', List.take_append_drop]
 ·rw [List.getD_eq_getElem?_getD, List.getElem?_eq_getElem hi']; rfl
 ·rw [← show L.map List.length = Da from h, List.getD_eq_getElem?_getD, List.getElem?_map, List.getElem?_eq_getElem hi']; rfl
def J5 (L : List (List UInt8)) (i : Nat) (s : List UInt8) : List (List UInt8) := L.set i (s ++ (L.getD i []).drop s.length)
theorem Shape.put {L : List (List UInt8)} (h : Shape L) {i : Nat} (hi : i < 16) {s : List UInt8} (hs : s.length ≤ Da.getD i 0) : putAt L.flatten (K6 i) s = (J5 L i s).flatten ∧ Shape (J5 L i s) := by
 obtain ⟨x, e, hx, hlen⟩ := h.at_ hi
 have ho := h.take i
 have hf := h.flat
 have hn : (L.take i).length = i := by rw [List.length_take, h.len]; omega
 unfold J5
 rw [hx]
 constructor
 ·generalize L.take i = A at *
  generalize L.drop (i + 1) = B at *
  subst e
  rw [← hn, List.set_append_right _ _ (Nat.le_refl _), Nat.sub_self, List.set_cons_zero, List.flatten_append, List.flatten_append, List.flatten_cons, List.flatten_cons]
  unfold putAt
  rw [hn, ← ho, List.take_left, List.take_of_length_le (by simp only [List.length_append]; omega), List.drop_append, List.drop_eq_nil_of_le (by omega), List.nil_append, Nat.add_sub_cancel_left, List.drop_append_of_le_length (by omega), List.append_assoc]
 ·unfold Shape
  rw [List.map_set, show L.map List.length = Da from h, List.length_append, List.length_drop, hlen, show s.length + (Da.getD i 0 - s.length) = Da.getD i 0 by omega]
  have hi2 : i < Da.length := hi
  rw [List.getD_eq_getElem?_getD, List.getElem?_eq_getElem hi2]
  exact List.set_getElem_self hi2
def pd (s : List UInt8) (n : Nat) : List UInt8 := s ++ (List.replicate n 0).drop s.length
theorem TO {s : List UInt8} {n : Nat} (h : s.length = n) : pd s n = s := by
 unfold pd
 rw [List.drop_eq_nil_of_le (by simp [h]), List.append_nil]
theorem Du {s : List UInt8} {n : Nat} (h : s.length ≤ n) : (pd s n).length = n := by
 unfold pd; rw [List.length_append, List.length_drop, List.length_replicate]; omega
def JG (k : Int) : UInt8 := if k = 0 then 48 else UInt8.ofNat k.toNat
def Ml : List UInt8 := [117, 115, 116, 97, 114, 0, 48, 48]
def Kk (h : AJ) (p q : List UInt8) (m : List UInt8) : List (List UInt8) :=
 [pd q 100, BZ h.Mode.toNat 8, BZ h.BP.toNat 8, BZ h.BQ.toNat 8, BZ h.BU.toNat 12, BZ h.Time.toNat 12, m, [JG h.Kind], pd h.AU 100, Ml, pd h.AN 32, pd h.AO 32, BZ h.Aa.toNat 8, BZ h.Ag.toNat 8, pd p 155, List.replicate 12 0]
theorem MX {h : AJ} {p q m : List UInt8} (hp : p.length ≤ 155) (hq : q.length ≤ 100) (hm : m.length = 8) (ht : h.AU.length ≤ 100 ∧ h.AN.length ≤ 32 ∧ h.AO.length ≤ 32) : Shape (Kk h p q m) := by
 unfold Shape Kk
 simp only [List.map_cons, List.map_nil]
 rw [Du hq, Du hp, Du ht.1, Du ht.2.1, Du ht.2.2, hm]
 simp only [Cb (show 1 ≤ 8 by omega), Cb (show 1 ≤ 12 by omega)]
 rfl
theorem De {κ σ ρ : Type} {step : κ → σ → Option (σ ⊕ ρ)} {a : κ} {l : List κ} {s s' : σ} (h : step a s = some (.inl s')) : BV step (a :: l) s = BV step l s' := by rw [BV, h]
theorem XK {n : Nat} (h : n < 256) : XJ (n : Int) = some (UInt8.ofNat n) := by
 unfold XJ
 rw [if_pos (by omega)]
 congr 2
theorem Tn {z : List UInt8} {i : Nat} (h : i < z.length) (b : UInt8) : z.set i b = putAt z i [b] := by
 unfold putAt
 rw [List.set_eq_take_append_cons_drop, if_pos h, List.take_of_length_le (l := [b]) (by rw [List.length_singleton]; omega)]
 rfl
theorem Iu {k v : Int} (h : Ii (k, v) = true) : Ol (k, v) = BZ v.toNat (if k = 4 ∨ k = 5 then 12 else 8) := by
 unfold Ol; rw [if_pos h]
theorem Uk {h : AJ} {p q : List UInt8} {b : Bool} (hp : Cy h.Name = some (p, q, b)) (hq : Hl h.Name (p, q, b)) (hf : LR h b = 0) (hk : 0 ≤ h.Kind ∧ h.Kind ≤ 255) :
  Dw h = EU (Kk h p q (List.replicate 8 0)).flatten ∧ Shape (Kk h p q (List.replicate 8 0)) := by
 have hff := hf
 unfold LR at hf
 split at hf
 ·cases hf
 split at hf
 rotate_left
 ·cases hf
 split at hf
 rotate_left
 ·cases hf
 rename_i hnu hot hnum
 unfold Qb at hot
 simp only [Bool.and_eq_true, decide_eq_true_eq] at hot
 obtain ⟨rfl, t1, t2, t3⟩ := hot
 obtain ⟨l1, l2⟩ := hq.len
 have hsh : Shape (Kk h p q (List.replicate 8 0)) := MX l1 l2 (by simp) ⟨t1, t2, t3⟩
 refine ⟨?_, hsh⟩
 unfold Dw
 rw [Tp hp hq, hff, Option.bind_some, show ((0 : Int) != 0) = false from rfl, AQ, show Z5 1 (512 : Int) = true from rfl, BO, N5 hp, Option.bind_some]
 dsimp only
 rw [Sr]
 have S0 := RI
 obtain ⟨e1, S1⟩ := S0.put (i := 0) (by omega) (s := q) l2
 obtain ⟨e2, S2⟩ := S1.put (i := 14) (by omega) (s := p) l1
 obtain ⟨e3, S3⟩ := S2.put (i := 8) (by omega) (s := h.AU) t1
 obtain ⟨e4, S4⟩ := S3.put (i := 10) (by omega) (s := h.AN) t2
 obtain ⟨e5, S5⟩ := S4.put (i := 11) (by omega) (s := h.AO) t3
 rw [De (Ea (a := (0, q)) (.inl rfl) S0.flat), show putAt NJ.flatten (Uq 0) q = _ from e1,
  De (Ea (a := (11, p)) (.inr (.inl rfl)) S1.flat), show putAt _ (Uq 11) p = _ from e2,
  De (Ea (a := (6, h.AU)) (.inr (.inr (.inl rfl))) S2.flat), show putAt _ (Uq 6) h.AU = _ from e3,
  De (Ea (a := (7, h.AN)) (.inr (.inr (.inr (.inl rfl)))) S3.flat), show putAt _ (Uq 7) h.AN = _ from e4,
  De (Ea (a := (8, h.AO)) (.inr (.inr (.inr (.inr rfl)))) S4.flat), show putAt _ (Uq 8) h.AO = _ from e5]
 rw [BV, Option.bind_some]
 dsimp only
 rw [show Bp h = some (Qa h) from rfl, Option.bind_some]
 unfold Qa at hnum ⊢
 simp only [List.all_cons, List.all_nil, Bool.and_true, Bool.and_eq_true] at hnum
 obtain ⟨n1, n2, n3, n4, n5, n6, n7⟩ := hnum
 have ol8 : ∀ v : Nat, (BZ v 8).length ≤ 8 := fun v => by rw [Cb (by omega)]; exact Nat.le_refl _
 have ol12 : ∀ v : Nat, (BZ v 12).length ≤ 12 := fun v => by rw [Cb (by omega)]; exact Nat.le_refl _
 obtain ⟨f1, T1⟩ := S5.put (i := 1) (by omega) (s := BZ h.Mode.toNat 8) (ol8 _)
 obtain ⟨f2, T2⟩ := T1.put (i := 2) (by omega) (s := BZ h.BP.toNat 8) (ol8 _)
 obtain ⟨f3, T3⟩ := T2.put (i := 3) (by omega) (s := BZ h.BQ.toNat 8) (ol8 _)
 obtain ⟨f4, T4⟩ := T3.put (i := 4) (by omega) (s := BZ h.BU.toNat 12) (ol12 _)
 obtain ⟨f5, T5⟩ := T4.put (i := 5) (by omega) (s := BZ h.Time.toNat 12) (ol12 _)
 obtain ⟨f6, T6⟩ := T5.put (i := 12) (by omega) (s := BZ h.Aa.toNat 8) (ol8 _)
 obtain ⟨f7, T7⟩ := T6.put (i := 13) (by omega) (s := BZ h.Ag.toNat 8) (ol8 _)
 rw [De (D6 (a := (1, h.Mode)) (.inl rfl) S5.flat), Iu n1, show putAt _ (VV 1) (BZ h.Mode.toNat (if (1 : Int) = 4 ∨ (1 : Int) = 5 then 12 else 8)) = _ from f1,
  De (D6 (a := (2, h.BP)) (.inr (.inl rfl)) T1.flat), Iu n2, show putAt _ (VV 2) (BZ h.BP.toNat (if (2 : Int) = 4 ∨ (2 : Int) = 5 then 12 else 8)) = _ from f2,
  De (D6 (a := (3, h.BQ)) (.inr (.inr (.inl rfl))) T2.flat), Iu n3, show putAt _ (VV 3) (BZ h.BQ.toNat (if (3 : Int) = 4 ∨ (3 : Int) = 5 then 12 else 8)) = _ from f3,
  De (D6 (a := (4, h.BU)) (.inr (.inr (.inr (.inl rfl)))) T3.flat), Iu n4, show putAt _ (VV 4) (BZ h.BU.toNat (if (4 : Int) = 4 ∨ (4 : Int) = 5 then 12 else 8)) = _ from f4,
  De (D6 (a := (5, h.Time)) (.inr (.inr (.inr (.inr (.inl rfl))))) T4.flat), Iu n5, show putAt _ (VV 5) (BZ h.Time.toNat (if (5 : Int) = 4 ∨ (5 : Int) = 5 then 12 else 8)) = _ from f5,
  De (D6 (a := (9, h.Aa)) (.inr (.inr (.inr (.inr (.inr (.inl rfl)))))) T5.flat), Iu n6, show putAt _ (VV 9) (BZ h.Aa.toNat (if (9 : Int) = 4 ∨ (9 : Int) = 5 then 12 else 8)) = _ from f6,
  De (D6 (a := (10, h.Ag)) (.inr (.inr (.inr (.inr (.inr (.inr rfl)))))) T6.flat), Iu n7, show putAt _ (VV 10) (BZ h.Ag.toNat (if (10 : Int) = 4 ∨ (10 : Int) = 5 then 12 else 8)) = _ from f7]
 rw [BV, Option.bind_some]
 dsimp only
 have fl := T7.flat
 obtain ⟨kn, hkn⟩ := Int.eq_ofNat_of_zero_le hk.1
 obtain ⟨g1, U1⟩ := T7.put (i := 7) (by omega) (s := [JG h.Kind]) (Nat.le_refl 1)
 obtain ⟨g2, U2⟩ := U1.put (i := 9) (by omega) (s := Ml) (Nat.le_refl 8)
 have hat : ∀ z : List UInt8, z.length = 512 → ∃ y, IG z (156 : Int) = some y := fun z hz => ⟨z[156]'(by omega), Pw (i := 156) (List.getElem?_eq_getElem (by omega))⟩
 have key : ∀ z : List UInt8, z.length = 512 → ((IG z (156 : Int)).bind fun x14 => (XJ h.Kind).bind fun x15 => Ad (h.Kind == 0) ((IG (z.set (156 : Int).toNat x15) (156 : Int)).bind fun x16 => some ((z.set (156 : Int).toNat x15).set (156 : Int).toNat (48 : UInt8))) (some (z.set (156 : Int).toNat x15)) : Option (List UInt8)) = some (putAt z 156 [JG h.Kind]) := by
  intro z hz
  obtain ⟨y, hy⟩ := hat z hz
  rw [hy, Option.bind_some, hkn, XK (by omega), Option.bind_some, Li]
  by_cases h0 : (kn : Int) = 0
  ·obtain ⟨y2, hy2⟩ := hat (z.set (156 : Int).toNat (UInt8.ofNat kn)) (by rw [List.length_set]; exact hz)
   rw [if_pos h0, hy2, Option.bind_some, List.set_set, show (156 : Int).toNat = 156 from rfl, Tn (by omega)]
   unfold JG
   rw [if_pos h0]
  ·rw [if_neg h0, show (156 : Int).toNat = 156 from rfl, Tn (by omega)]
   unfold JG
   rw [if_neg h0, Int.toNat_natCast]
 rw [key _ fl, Option.bind_some, show putAt _ 156 [JG h.Kind] = _ from g1, show (257 : Int) = ((257 : Nat) : Int) from rfl, PJ U1.flat (by omega), Option.bind_some]
 rw [show putAt _ 257 ([117, 115, 116, 97, 114, 0, 48, 48] : List UInt8) = _ from g2]
 have hL : J5 (J5 (J5 (J5 (J5 (J5 (J5 (J5 (J5 (J5 (J5 (J5 (J5 (J5 NJ 0 q) 14 p) 8 h.AU) 10 h.AN) 11 h.AO) 1 (BZ h.Mode.toNat 8)) 2 (BZ h.BP.toNat 8)) 3 (BZ h.BQ.toNat 8)) 4 (BZ h.BU.toNat 12)) 5 (BZ h.Time.toNat 12)) 12 (BZ h.Aa.toNat 8)) 13 (BZ h.Ag.toNat 8)) 7 [JG h.Kind]) 9 Ml = Kk h p q (List.replicate 8 0) := by
  have p8 : ∀ v : Nat, BZ v 8 ++ (List.replicate 8 (0 : UInt8)).drop (BZ v 8).length = BZ v 8 := fun v => TO (Cb (by omega))
  have p12 : ∀ v : Nat, BZ v 12 ++ (List.replicate 12 (0 : UInt8)).drop (BZ v 12).length = BZ v 12 := fun v => TO (Cb (by omega))
  show [q ++ (List.replicate 100 0).drop q.length, BZ h.Mode.toNat 8 ++ (List.replicate 8 (0 : UInt8)).drop (BZ h.Mode.toNat 8).length, BZ h.BP.toNat 8 ++ (List.replicate 8 (0 : UInt8)).drop (BZ h.BP.toNat 8).length, BZ h.BQ.toNat 8 ++ (List.replicate 8 (0 : UInt8)).drop (BZ h.BQ.toNat 8).length,
   BZ h.BU.toNat 12 ++ (List.replicate 12 (0 : UInt8)).drop (BZ h.BU.toNat 12).length, BZ h.Time.toNat 12 ++ (List.replicate 12 (0 : UInt8)).drop (BZ h.Time.toNat 12).length, List.replicate 8 0, [JG h.Kind] ++ [], h.AU ++ (List.replicate 100 0).drop h.AU.length, Ml ++ [], h.AN ++ (List.replicate 32 0).drop h.AN.length, h.AO ++ (List.replicate 32 0).drop h.AO.length,
   BZ h.Aa.toNat 8 ++ (List.replicate 8 (0 : UInt8)).drop (BZ h.Aa.toNat 8).length, BZ h.Ag.toNat 8 ++ (List.replicate 8 (0 : UInt8)).drop (BZ h.Ag.toNat 8).length, p ++ (List.replicate 155 0).drop p.length, List.replicate 12 0] = _
  rw [p8, p8, p8, p8, p8, p12, p12]
  rfl
 rw [hL]
 cases EU (Kk h p q (List.replicate 8 0)).flatten <;> rfl
def JL (s : List UInt8) : Nat := (s.map UInt8.toNat).sum
theorem Ip : ∀ s : List UInt8, JL s ≤ 255 * s.length
 | [] => by simp [JL]
 | b :: s => by
  have := Ip s
  have := b.toNat_lt
  simp only [JL, List.map_cons, List.sum_cons, List.length_cons] at *
  omega
theorem VN (a b : List UInt8) : JL (a ++ b) = JL a + JL b := by simp [JL]
theorem PW {s : List UInt8} {i : Nat} (h : i < s.length) : JL (s.take (i + 1)) = JL (s.take i) + s[i].toNat := by
 rw [FQ (List.getElem?_eq_getElem h), VN]; simp [JL]
def Ib (A Z : List UInt8) : Nat := JL A + 256 + JL Z
def Np (A Z : List UInt8) (i : Nat) : Nat := if i ≤ 148 then JL (A.take i) else if i ≤ 156 then JL A + 32 * (i - 148) else JL A + 256 + JL (Z.take (i - 156))
theorem TK {A m Z : List UInt8} (hA : A.length = 148) (hm : m.length = 8) (hZ : Z.length = 356) : W (Eg (A ++ (m ++ Z))) fun r => r.w0 = (Ib A Z : Int) := by
 unfold Eg
 have hl : (A ++ (m ++ Z)).length = 512 := by simp only [List.length_append]; omega
 refine W.bind (W.list (l := A ++ (m ++ Z)) (fun (s : Int × Int) (i : Nat) => (s.1, s.2, (i : Int))) (fun s i => s.1 = (Np A Z i : Int)) ?_ ?_ ((0 : Int), (0 : Int)) (by simp [Np, JL]))
 ·intro s hs
  rw [hl] at hs ⊢
  unfold Ff
  dsimp only
  rw [EH, if_neg (by omega)]
  refine W.ret (W.ret ?_)
  rw [hs]
  unfold Np Ib
  rw [if_neg (by omega), if_neg (by omega), List.take_of_length_le (by omega)]
 ·intro s i hi hs
  rw [hl] at hi
  have hi2 : i < (A ++ (m ++ Z)).length := by omega
  unfold Ff
  dsimp only
  rw [EH, if_pos (by omega), KI hi2, Option.bind_some]
  have hbd := Ip A
  have hbz := Ip Z
  have hbyte := ((A ++ (m ++ Z))[i]).toNat_lt
  have hps : Np A Z i ≤ 200000 := by
   unfold Np
   split
   ·have := Ip (A.take i); rw [List.length_take] at this; omega
   ·split
    ·omega
    ·have := Ip (Z.take (i - 156)); rw [List.length_take] at this; omega
  by_cases hr : 148 ≤ i ∧ i < 156
  ·rw [show (decide ((i : Int) ≥ 148) && decide ((i : Int) < 156)) = true from by rw [Bool.and_eq_true, decide_eq_true_eq, decide_eq_true_eq]; omega, Ah, Option.bind_some]
   refine W.ret ⟨(IntKind.i64.wrap (s.1 + IntKind.i64.wrap 32), IntKind.i64.wrap (s.2 + (IntKind.i64.wrap (IntKind.i8.wrap 32)))), by rw [HM (by omega)], ?_⟩
   dsimp only
   rw [hs, JK (x := 32) (by omega) (by omega), JK (by omega) (by omega)]
   have e : Np A Z (i + 1) = Np A Z i + 32 := by
    unfold Np
    by_cases h0 : i = 148
    ·subst h0
     rw [if_neg (by omega), if_pos (by omega), if_pos (by omega), List.take_of_length_le (by omega)]
    ·rw [if_neg (by omega), if_pos (by omega), if_neg (by omega), if_pos (by omega)]
     omega
   rw [e]; omega
  ·rw [show (decide ((i : Int) ≥ 148) && decide ((i : Int) < 156)) = false from by rw [Bool.and_eq_false_iff, decide_eq_false_iff_not, decide_eq_false_iff_not]; omega, AQ, Option.bind_some]
   refine W.ret ⟨(IntKind.i64.wrap (s.1 + IntKind.i64.wrap ((A ++ (m ++ Z))[i].toNat : Int)), _), by rw [HM (by omega)], ?_⟩
   dsimp only
   rw [hs, JK (x := (((A ++ (m ++ Z))[i].toNat : Nat) : Int)) (by omega) (by omega), JK (by omega) (by omega)]
   have e : Np A Z (i + 1) = Np A Z i + (A ++ (m ++ Z))[i].toNat := by
    unfold Np
    by_cases h0 : i < 148
    ·rw [if_pos (by omega), if_pos (by omega), PW (by omega), List.getElem_append_left (by omega)]
    ·have h3 : i ≥ 156 := by omega
     have e2 : (A ++ (m ++ Z))[i] = Z[i - 156]'(by omega) := by
      rw [List.getElem_append_right (by omega), List.getElem_append_right (by omega)]
      congr 1
      omega
     rw [e2, if_neg (by omega), if_neg (by omega), if_neg (by omega), show i + 1 - 156 = (i - 156) + 1 by omega, PW (by omega)]
     by_cases h4 : i = 156
     ·subst h4
      rw [if_pos (by omega)]
      simp [JL]
     ·rw [if_neg (by omega)]; omega
   rw [e]; omega
theorem Q2 {A Z : List UInt8} (hA : A.length = 148) (hZ : Z.length = 356) : Ib A Z < 262144 := by
 have := Ip A
 have := Ip Z
 unfold Ib
 omega
theorem XX {A m Z : List UInt8} (hA : A.length = 148) (hm : m.length = 8) (hZ : Z.length = 356) : EU (A ++ (m ++ Z)) = some (A ++ ((BZ (Ib A Z) 7 ++ [32]) ++ Z), 0) := by
 have hl : (A ++ (m ++ Z)).length = 512 := by simp only [List.length_append]; omega
 have hs := Q2 hA hZ
 obtain ⟨⟨r0, r1⟩, er, hr⟩ := TK hA hm hZ
 dsimp only at hr
 subst hr
 have ho : (BZ (Ib A Z) 7).length = 7 := Cb (by omega)
 unfold EU
 rw [hl, show (((512 : Nat) : Int) != 512) = false from rfl, AQ, er, Option.bind_some]
 dsimp only
 rw [show IG ([(Ib A Z : Int), r1] : List Int) (0 : Int) = some (Ib A Z : Int) from rfl, Option.bind_some, show (7 : Int) = ((6 + 1 : Nat) : Int) from rfl, Jw _ (by omega) (by omega)]
 rw [if_pos ⟨by omega, by rw [show (8 : Int) ^ 6 = 262144 from rfl]; omega⟩, Option.bind_some]
 dsimp only
 rw [show (148 : Int) = ((148 : Nat) : Int) from rfl, Is (by omega), Option.bind_some, show (156 : Int) = ((156 : Nat) : Int) from rfl, NF (by omega), List.take_left' hA, Option.bind_some]
 have hd : (A ++ (m ++ Z)).drop 156 = Z := by rw [← List.append_assoc]; exact List.drop_left' (by rw [List.length_append]; omega)
 rw [hd, Int.toNat_natCast, show (6 + 1 : Nat) = 7 from rfl]
 rw [decide_eq_true (by rw [ho]; omega), BO, decide_eq_true (by rw [List.length_append, ho]; simp; omega), BO, decide_eq_true (by simp only [List.length_append, ho]; simp; omega), BO]
 simp only [List.append_assoc]
end Go.Av.L
