/-
 A part.
-/
import Derived.Test.YtlljeoogceblmaaGreatDoorHdB
namespace Go.Av.L
open Go.Av Go.Lib
open IntKind (i64 i8)
set_option linter.unusedVariables false
set_option linter.unusedSimpArgs false
set_option maxRecDepth 10000
def Dm : List Nat := [100, 8, 8, 8, 12, 12, 8, 1, 100, 8, 32, 32, 8, 8, 155, 12]
def Shape (L : List (List UInt8)) : Prop := L.map List.length = Dm
def Nw : List (List UInt8) := Dm.map fun n => List.replicate n 0
theorem Rb : Shape Nw := by unfold Shape; kernel_rfl
theorem S9 : List.replicate (512 : Int).toNat (0 : UInt8) = Nw.flatten := by kernel_rfl
def MQ (i : Nat) : Nat := (Dm.take i).sum
theorem Shape.len {L : List (List UInt8)} (h : Shape L) : L.length = 16 := by
 have := congrArg List.length h
 rwa [List.length_map] at this
theorem Shape.flat {L : List (List UInt8)} (h : Shape L) : L.flatten.length = 512 := by
 rw [List.length_flatten, show L.map List.length = Dm from h]; rfl
theorem Shape.take {L : List (List UInt8)} (h : Shape L) (i : Nat) : (L.take i).flatten.length = MQ i := by
 rw [List.length_flatten, List.map_take, show L.map List.length = Dm from h]; rfl
theorem Shape.at_ {L : List (List UInt8)} (h : Shape L) {i : Nat} (hi : i < 16) : ∃ x, L = L.take i ++ x :: L.drop (i + 1) ∧ L.getD i [] = x ∧ x.length = Dm.getD i 0 := by
 have hl := h.len
 have hi' : i < L.length := by omega
 refine ⟨L[i], ?_, ?_, ?_⟩
 ·rw [← List.drop_eq_getElem_cons hi', List.take_append_drop]
 ·rw [List.getD_eq_getElem?_getD, List.getElem?_eq_getElem hi']; rfl
 ·rw [← show L.map List.length = Dm from h, List.getD_eq_getElem?_getD, List.getElem?_map, List.getElem?_eq_getElem hi']; rfl
def Ka (L : List (List UInt8)) (i : Nat) (s : List UInt8) : List (List UInt8) := L.set i (s ++ (L.getD i []).drop s.length)
theorem Shape.put {L : List (List UInt8)} (h : Shape L) {i : Nat} (hi : i < 16) {s : List UInt8} (hs : s.length ≤ Dm.getD i 0) : putAt L.flatten (MQ i) s = (Ka L i s).flatten ∧ Shape (Ka L i s) := by
 obtain ⟨x, e, hx, hlen⟩ := h.at_ hi
 have ho := h.take i
 have hf := h.flat
 have hn : (L.take i).length = i := by rw [List.length_take, h.len]; omega
 unfold Ka
 rw [hx]
 constructor
 ·generalize L.take i = A at *
  generalize L.drop (i + 1) = B at *
  subst e
  rw [← hn, List.set_append_right _ _ (Nat.le_refl _), Nat.sub_self, List.set_cons_zero, List.flatten_append, List.flatten_append, List.flatten_cons, List.flatten_cons]
  unfold putAt
  rw [hn, ← ho, List.take_left, List.take_of_length_le (by simp only [List.length_append]; omega), List.drop_append, List.drop_eq_nil_of_le (by omega), List.nil_append, Nat.add_sub_cancel_left, List.drop_append_of_le_length (by omega), List.append_assoc]
 ·unfold Shape
  rw [List.map_set, show L.map List.length = Dm from h, List.length_append, List.length_drop, hlen, show s.length + (Dm.getD i 0 - s.length) = Dm.getD i 0 by omega]
  have hi2 : i < Dm.length := hi
  rw [List.getD_eq_getElem?_getD, List.getElem?_eq_getElem hi2]
  exact List.set_getElem_self hi2
def pd (s : List UInt8) (n : Nat) : List UInt8 := s ++ (List.replicate n 0).drop s.length
theorem Tl {s : List UInt8} {n : Nat} (h : s.length = n) : pd s n = s := by
 unfold pd
 rw [List.drop_eq_nil_of_le (by simp [h]), List.append_nil]
theorem DC {s : List UInt8} {n : Nat} (h : s.length ≤ n) : (pd s n).length = n := by
 unfold pd; rw [List.length_append, List.length_drop, List.length_replicate]; omega
def Jj (k : Int) : UInt8 := if k = 0 then 48 else UInt8.ofNat k.toNat
def Pc : List UInt8 := [117, 115, 116, 97, 114, 0, 48, 48]
def LJ (h : AK) (p q : List UInt8) (m : List UInt8) : List (List UInt8) :=
 [pd q 100, Ba h.Mode.toNat 8, Ba h.Br.toNat 8, Ba h.CH.toNat 8, Ba h.Eu.toNat 12, Ba h.Time.toNat 12, m, [Jj h.Kind], pd h.Az 100, Pc, pd h.Ah 32, pd h.Aj 32, Ba h.An.toNat 8, Ba h.A2.toNat 8, pd p 155, List.replicate 12 0]
theorem NN {h : AK} {p q m : List UInt8} (hp : p.length ≤ 155) (hq : q.length ≤ 100) (hm : m.length = 8) (ht : h.Az.length ≤ 100 ∧ h.Ah.length ≤ 32 ∧ h.Aj.length ≤ 32) : Shape (LJ h p q m) := by
 unfold Shape LJ
 simp only [List.map_cons, List.map_nil]
 rw [DC hq, DC hp, DC ht.1, DC ht.2.1, DC ht.2.2, hm]
 simp only [CP (show 1 ≤ 8 by omega), CP (show 1 ≤ 12 by omega)]
 rfl
theorem EB {κ σ ρ : Type} {step : κ → σ → Option (σ ⊕ ρ)} {a : κ} {l : List κ} {s s' : σ} (h : step a s = some (.inl s')) : Bg step (a :: l) s = Bg step l s' := by rw [Bg, h]
theorem Tz {n : Nat} (h : n < 256) : Wp (n : Int) = some (UInt8.ofNat n) := by
 unfold Wp
 rw [if_pos (by omega)]
 congr 2
theorem Tb {z : List UInt8} {i : Nat} (h : i < z.length) (b : UInt8) : z.set i b = putAt z i [b] := by
 unfold putAt
 rw [List.set_eq_take_append_cons_drop, if_pos h, List.take_of_length_le (l := [b]) (by rw [List.length_singleton]; omega)]
 rfl
theorem JM {k v : Int} (h : MV (k, v) = true) : PA (k, v) = Ba v.toNat (if k = 4 ∨ k = 5 then 12 else 8) := by
 unfold PA; rw [if_pos h]
theorem U3 {h : AK} {p q : List UInt8} {b : Bool} (hp : DN h.Name = some (p, q, b)) (hq : Ie h.Name (p, q, b)) (hf : L9 h b = 0) (hk : 0 ≤ h.Kind ∧ h.Kind ≤ 255) :
  Dx h = E7 (LJ h p q (List.replicate 8 0)).flatten ∧ Shape (LJ h p q (List.replicate 8 0)) := by
 have hff := hf
 unfold L9 at hf
 split at hf
 ·cases hf
 split at hf
 rotate_left
 ·cases hf
 split at hf
 rotate_left
 ·cases hf
 rename_i hnu hot hnum
 unfold QH at hot
 simp only [Bool.and_eq_true, decide_eq_true_eq] at hot
 obtain ⟨rfl, t1, t2, t3⟩ := hot
 obtain ⟨l1, l2⟩ := hq.len
 have hsh : Shape (LJ h p q (List.replicate 8 0)) := NN l1 l2 (by simp) ⟨t1, t2, t3⟩
 refine ⟨?_, hsh⟩
 unfold Dx
 rw [Tf hp hq, hff, Option.bind_some, show ((0 : Int) != 0) = false from rfl, AM, show ZR 1 (512 : Int) = true from rfl, Af, Ou hp, Option.bind_some]
 dsimp only
 rw [S9]
 have S0 := Rb
 obtain ⟨e1, S1⟩ := S0.put (i := 0) (by omega) (s := q) l2
 obtain ⟨e2, S2⟩ := S1.put (i := 14) (by omega) (s := p) l1
 obtain ⟨e3, S3⟩ := S2.put (i := 8) (by omega) (s := h.Az) t1
 obtain ⟨e4, S4⟩ := S3.put (i := 10) (by omega) (s := h.Ah) t2
 obtain ⟨e5, S5⟩ := S4.put (i := 11) (by omega) (s := h.Aj) t3
 rw [EB (E4 (a := (0, q)) (.inl rfl) S0.flat), show putAt Nw.flatten (U6 0) q = _ from e1,
  EB (E4 (a := (11, p)) (.inr (.inl rfl)) S1.flat), show putAt _ (U6 11) p = _ from e2,
  EB (E4 (a := (6, h.Az)) (.inr (.inr (.inl rfl))) S2.flat), show putAt _ (U6 6) h.Az = _ from e3,
  EB (E4 (a := (7, h.Ah)) (.inr (.inr (.inr (.inl rfl)))) S3.flat), show putAt _ (U6 7) h.Ah = _ from e4,
  EB (E4 (a := (8, h.Aj)) (.inr (.inr (.inr (.inr rfl)))) S4.flat), show putAt _ (U6 8) h.Aj = _ from e5]
 rw [Bg, Option.bind_some]
 dsimp only
 rw [show B3 h = some (R5 h) from rfl, Option.bind_some]
 unfold R5 at hnum ⊢
 simp only [List.all_cons, List.all_nil, Bool.and_true, Bool.and_eq_true] at hnum
 obtain ⟨n1, n2, n3, n4, n5, n6, n7⟩ := hnum
 have ol8 : ∀ v : Nat, (Ba v 8).length ≤ 8 := fun v => by rw [CP (by omega)]; exact Nat.le_refl _
 have ol12 : ∀ v : Nat, (Ba v 12).length ≤ 12 := fun v => by rw [CP (by omega)]; exact Nat.le_refl _
 obtain ⟨f1, T1⟩ := S5.put (i := 1) (by omega) (s := Ba h.Mode.toNat 8) (ol8 _)
 obtain ⟨f2, T2⟩ := T1.put (i := 2) (by omega) (s := Ba h.Br.toNat 8) (ol8 _)
 obtain ⟨f3, T3⟩ := T2.put (i := 3) (by omega) (s := Ba h.CH.toNat 8) (ol8 _)
 obtain ⟨f4, T4⟩ := T3.put (i := 4) (by omega) (s := Ba h.Eu.toNat 12) (ol12 _)
 obtain ⟨f5, T5⟩ := T4.put (i := 5) (by omega) (s := Ba h.Time.toNat 12) (ol12 _)
 obtain ⟨f6, T6⟩ := T5.put (i := 12) (by omega) (s := Ba h.An.toNat 8) (ol8 _)
 obtain ⟨f7, T7⟩ := T6.put (i := 13) (by omega) (s := Ba h.A2.toNat 8) (ol8 _)
 rw [EB (EU (a := (1, h.Mode)) (.inl rfl) S5.flat), JM n1, show putAt _ (Vu 1) (Ba h.Mode.toNat (if (1 : Int) = 4 ∨ (1 : Int) = 5 then 12 else 8)) = _ from f1,
  EB (EU (a := (2, h.Br)) (.inr (.inl rfl)) T1.flat), JM n2, show putAt _ (Vu 2) (Ba h.Br.toNat (if (2 : Int) = 4 ∨ (2 : Int) = 5 then 12 else 8)) = _ from f2,
  EB (EU (a := (3, h.CH)) (.inr (.inr (.inl rfl))) T2.flat), JM n3, show putAt _ (Vu 3) (Ba h.CH.toNat (if (3 : Int) = 4 ∨ (3 : Int) = 5 then 12 else 8)) = _ from f3,
  EB (EU (a := (4, h.Eu)) (.inr (.inr (.inr (.inl rfl)))) T3.flat), JM n4, show putAt _ (Vu 4) (Ba h.Eu.toNat (if (4 : Int) = 4 ∨ (4 : Int) = 5 then 12 else 8)) = _ from f4,
  EB (EU (a := (5, h.Time)) (.inr (.inr (.inr (.inr (.inl rfl))))) T4.flat), JM n5, show putAt _ (Vu 5) (Ba h.Time.toNat (if (5 : Int) = 4 ∨ (5 : Int) = 5 then 12 else 8)) = _ from f5,
  EB (EU (a := (9, h.An)) (.inr (.inr (.inr (.inr (.inr (.inl rfl)))))) T5.flat), JM n6, show putAt _ (Vu 9) (Ba h.An.toNat (if (9 : Int) = 4 ∨ (9 : Int) = 5 then 12 else 8)) = _ from f6,
  EB (EU (a := (10, h.A2)) (.inr (.inr (.inr (.inr (.inr (.inr rfl)))))) T6.flat), JM n7, show putAt _ (Vu 10) (Ba h.A2.toNat (if (10 : Int) = 4 ∨ (10 : Int) = 5 then 12 else 8)) = _ from f7]
 rw [Bg, Option.bind_some]
 dsimp only
 have fl := T7.flat
 obtain ⟨kn, hkn⟩ := Int.eq_ofNat_of_zero_le hk.1
 obtain ⟨g1, U1⟩ := T7.put (i := 7) (by omega) (s := [Jj h.Kind]) (Nat.le_refl 1)
 obtain ⟨g2, U2⟩ := U1.put (i := 9) (by omega) (s := Pc) (Nat.le_refl 8)
 have hat : ∀ z : List UInt8, z.length = 512 → ∃ y, Hj z (156 : Int) = some y := fun z hz => ⟨z[156]'(by omega), Qa (i := 156) (List.getElem?_eq_getElem (by omega))⟩
 have key : ∀ z : List UInt8, z.length = 512 → ((Hj z (156 : Int)).bind fun x14 => (Wp h.Kind).bind fun x15 => Aa (h.Kind == 0) ((Hj (z.set (156 : Int).toNat x15) (156 : Int)).bind fun x16 => some ((z.set (156 : Int).toNat x15).set (156 : Int).toNat (48 : UInt8))) (some (z.set (156 : Int).toNat x15)) : Option (List UInt8)) = some (putAt z 156 [Jj h.Kind]) := by
  intro z hz
  obtain ⟨y, hy⟩ := hat z hz
  rw [hy, Option.bind_some, hkn, Tz (by omega), Option.bind_some, N7]
  by_cases h0 : (kn : Int) = 0
  ·obtain ⟨y2, hy2⟩ := hat (z.set (156 : Int).toNat (UInt8.ofNat kn)) (by rw [List.length_set]; exact hz)
   rw [if_pos h0, hy2, Option.bind_some, List.set_set, show (156 : Int).toNat = 156 from rfl, Tb (by omega)]
   unfold Jj
   rw [if_pos h0]
  ·rw [if_neg h0, show (156 : Int).toNat = 156 from rfl, Tb (by omega)]
   unfold Jj
   rw [if_neg h0, Int.toNat_natCast]
 rw [key _ fl, Option.bind_some, show putAt _ 156 [Jj h.Kind] = _ from g1, show (257 : Int) = ((257 : Nat) : Int) from rfl, PS U1.flat (by omega), Option.bind_some]
 rw [show putAt _ 257 ([117, 115, 116, 97, 114, 0, 48, 48] : List UInt8) = _ from g2]
 have hL : Ka (Ka (Ka (Ka (Ka (Ka (Ka (Ka (Ka (Ka (Ka (Ka (Ka (Ka Nw 0 q) 14 p) 8 h.Az) 10 h.Ah) 11 h.Aj) 1 (Ba h.Mode.toNat 8)) 2 (Ba h.Br.toNat 8)) 3 (Ba h.CH.toNat 8)) 4 (Ba h.Eu.toNat 12)) 5 (Ba h.Time.toNat 12)) 12 (Ba h.An.toNat 8)) 13 (Ba h.A2.toNat 8)) 7 [Jj h.Kind]) 9 Pc = LJ h p q (List.replicate 8 0) := by
  have p8 : ∀ v : Nat, Ba v 8 ++ (List.replicate 8 (0 : UInt8)).drop (Ba v 8).length = Ba v 8 := fun v => Tl (CP (by omega))
  have p12 : ∀ v : Nat, Ba v 12 ++ (List.replicate 12 (0 : UInt8)).drop (Ba v 12).length = Ba v 12 := fun v => Tl (CP (by omega))
  show [q ++ (List.replicate 100 0).drop q.length, Ba h.Mode.toNat 8 ++ (List.replicate 8 (0 : UInt8)).drop (Ba h.Mode.toNat 8).length, Ba h.Br.toNat 8 ++ (List.replicate 8 (0 : UInt8)).drop (Ba h.Br.toNat 8).length, Ba h.CH.toNat 8 ++ (List.replicate 8 (0 : UInt8)).drop (Ba h.CH.toNat 8).length,
   Ba h.Eu.toNat 12 ++ (List.replicate 12 (0 : UInt8)).drop (Ba h.Eu.toNat 12).length, Ba h.Time.toNat 12 ++ (List.replicate 12 (0 : UInt8)).drop (Ba h.Time.toNat 12).length, List.replicate 8 0, [Jj h.Kind] ++ [], h.Az ++ (List.replicate 100 0).drop h.Az.length, Pc ++ [], h.Ah ++ (List.replicate 32 0).drop h.Ah.length, h.Aj ++ (List.replicate 32 0).drop h.Aj.length,
   Ba h.An.toNat 8 ++ (List.replicate 8 (0 : UInt8)).drop (Ba h.An.toNat 8).length, Ba h.A2.toNat 8 ++ (List.replicate 8 (0 : UInt8)).drop (Ba h.A2.toNat 8).length, p ++ (List.replicate 155 0).drop p.length, List.replicate 12 0] = _
  rw [p8, p8, p8, p8, p8, p12, p12]
  rfl
 rw [hL]
 cases E7 (LJ h p q (List.replicate 8 0)).flatten <;> rfl
def Ix (s : List UInt8) : Nat := (s.map UInt8.toNat).sum
theorem GJ : ∀ s : List UInt8, Ix s ≤ 255 * s.length
 | [] => by simp [Ix]
 | b :: s => by
  have := GJ s
  have := b.toNat_lt
  simp only [Ix, List.map_cons, List.sum_cons, List.length_cons] at *
  omega
theorem VZ (a b : List UInt8) : Ix (a ++ b) = Ix a + Ix b := by simp [Ix]
theorem Ku {s : List UInt8} {i : Nat} (h : i < s.length) : Ix (s.take (i + 1)) = Ix (s.take i) + s[i].toNat := by
 rw [I4 (List.getElem?_eq_getElem h), VZ]; simp [Ix]
def JE (A Z : List UInt8) : Nat := Ix A + 256 + Ix Z
def IH (A Z : List UInt8) (i : Nat) : Nat := if i ≤ 148 then Ix (A.take i) else if i ≤ 156 then Ix A + 32 * (i - 148) else Ix A + 256 + Ix (Z.take (i - 156))
theorem Xm {A m Z : List UInt8} (hA : A.length = 148) (hm : m.length = 8) (hZ : Z.length = 356) : W (G9 (A ++ (m ++ Z))) fun r => r.w0 = (JE A Z : Int) := by
 unfold G9
 have hl : (A ++ (m ++ Z)).length = 512 := by simp only [List.length_append]; omega
 refine W.bind (W.list (l := A ++ (m ++ Z)) (fun (s : Int × Int) (i : Nat) => (s.1, s.2, (i : Int))) (fun s i => s.1 = (IH A Z i : Int)) ?_ ?_ ((0 : Int), (0 : Int)) (by simp [IH, Ix]))
 ·intro s hs
  rw [hl] at hs ⊢
  unfold GM
  dsimp only
  rw [Ec, if_neg (by omega)]
  refine W.ret (W.ret ?_)
  rw [hs]
  unfold IH JE
  rw [if_neg (by omega), if_neg (by omega), List.take_of_length_le (by omega)]
 ·intro s i hi hs
  rw [hl] at hi
  have hi2 : i < (A ++ (m ++ Z)).length := by omega
  unfold GM
  dsimp only
  rw [Ec, if_pos (by omega), JW hi2, Option.bind_some]
  have hbd := GJ A
  have hbz := GJ Z
  have hbyte := ((A ++ (m ++ Z))[i]).toNat_lt
  have hps : IH A Z i ≤ 200000 := by
   unfold IH
   split
   ·have := GJ (A.take i); rw [List.length_take] at this; omega
   ·split
    ·omega
    ·have := GJ (Z.take (i - 156)); rw [List.length_take] at this; omega
  by_cases hr : 148 ≤ i ∧ i < 156
  ·rw [show (decide ((i : Int) ≥ 148) && decide ((i : Int) < 156)) = true from by rw [Bool.and_eq_true, decide_eq_true_eq, decide_eq_true_eq]; omega, AU, Option.bind_some]
   refine W.ret ⟨(i64.wrap (s.1 + i64.wrap 32), i64.wrap (s.2 + (i64.wrap (i8.wrap 32)))), by rw [Fe (by omega)], ?_⟩
   dsimp only
   rw [hs, Fk (x := 32) (by omega) (by omega), Fk (by omega) (by omega)]
   have e : IH A Z (i + 1) = IH A Z i + 32 := by
    unfold IH
    by_cases h0 : i = 148
    ·subst h0
     rw [if_neg (by omega), if_pos (by omega), if_pos (by omega), List.take_of_length_le (by omega)]
    ·rw [if_neg (by omega), if_pos (by omega), if_neg (by omega), if_pos (by omega)]
     omega
   rw [e]; omega
  ·rw [show (decide ((i : Int) ≥ 148) && decide ((i : Int) < 156)) = false from by rw [Bool.and_eq_false_iff, decide_eq_false_iff_not, decide_eq_false_iff_not]; omega, AM, Option.bind_some]
   refine W.ret ⟨(i64.wrap (s.1 + i64.wrap ((A ++ (m ++ Z))[i].toNat : Int)), _), by rw [Fe (by omega)], ?_⟩
   dsimp only
   rw [hs, Fk (x := (((A ++ (m ++ Z))[i].toNat : Nat) : Int)) (by omega) (by omega), Fk (by omega) (by omega)]
   have e : IH A Z (i + 1) = IH A Z i + (A ++ (m ++ Z))[i].toNat := by
    unfold IH
    by_cases h0 : i < 148
    ·rw [if_pos (by omega), if_pos (by omega), Ku (by omega), List.getElem_append_left (by omega)]
    ·have h3 : i ≥ 156 := by omega
     have e2 : (A ++ (m ++ Z))[i] = Z[i - 156]'(by omega) := by
      rw [List.getElem_append_right (by omega), List.getElem_append_right (by omega)]
      congr 1
      omega
     rw [e2, if_neg (by omega), if_neg (by omega), if_neg (by omega), show i + 1 - 156 = (i - 156) + 1 by omega, Ku (by omega)]
     by_cases h4 : i = 156
     ·subst h4
      rw [if_pos (by omega)]
      simp [Ix]
     ·rw [if_neg (by omega)]; omega
   rw [e]; omega
theorem Ny {A Z : List UInt8} (hA : A.length = 148) (hZ : Z.length = 356) : JE A Z < 262144 := by
 have := GJ A
 have := GJ Z
 unfold JE
 omega
theorem XX {A m Z : List UInt8} (hA : A.length = 148) (hm : m.length = 8) (hZ : Z.length = 356) : E7 (A ++ (m ++ Z)) = some (A ++ ((Ba (JE A Z) 7 ++ [32]) ++ Z), 0) := by
 have hl : (A ++ (m ++ Z)).length = 512 := by simp only [List.length_append]; omega
 have hs := Ny hA hZ
 obtain ⟨⟨r0, r1⟩, er, hr⟩ := Xm hA hm hZ
 dsimp only at hr
 subst hr
 have ho : (Ba (JE A Z) 7).length = 7 := CP (by omega)
 unfold E7
 rw [hl, show (((512 : Nat) : Int) != 512) = false from rfl, AM, er, Option.bind_some]
 dsimp only
 rw [show Hj ([(JE A Z : Int), r1] : List Int) (0 : Int) = some (JE A Z : Int) from rfl, Option.bind_some, show (7 : Int) = ((6 + 1 : Nat) : Int) from rfl, Ki _ (by omega) (by omega)]
 rw [if_pos ⟨by omega, by rw [show (8 : Int) ^ 6 = 262144 from rfl]; omega⟩, Option.bind_some]
 dsimp only
 rw [show (148 : Int) = ((148 : Nat) : Int) from rfl, Gq (by omega), Option.bind_some, show (156 : Int) = ((156 : Nat) : Int) from rfl, Kz (by omega), List.take_left' hA, Option.bind_some]
 have hd : (A ++ (m ++ Z)).drop 156 = Z := by rw [← List.append_assoc]; exact List.drop_left' (by rw [List.length_append]; omega)
 rw [hd, Int.toNat_natCast, show (6 + 1 : Nat) = 7 from rfl]
 rw [decide_eq_true (by rw [ho]; omega), Af, decide_eq_true (by rw [List.length_append, ho]; simp; omega), Af, decide_eq_true (by simp only [List.length_append, ho]; simp; omega), Af]
 simp only [List.append_assoc]
end Go.Av.L
