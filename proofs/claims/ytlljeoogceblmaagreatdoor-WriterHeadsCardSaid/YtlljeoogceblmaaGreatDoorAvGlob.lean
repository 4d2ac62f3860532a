/-
  Several texts in one.
-/
import Derived.Test.YtlljeoogceblmaaGreatDoorWhB
import Derived.Test.YtlljeoogceblmaaGreatDoorWhG
import Derived.Test.YtlljeoogceblmaaGreatDoorAvIn
import Derived.Test.YtlljeoogceblmaaGreatDoorAvMore
import Derived.Lib.LaidTab
/-
 A part.
-/
section
namespace Go.Av.L
open Go.Av Go.Lib
set_option linter.unusedVariables false
set_option linter.unusedSimpArgs false
set_option maxRecDepth 10000
theorem Uu (k i : Nat) (h : i < k) : 8 ^ (k - i) = 8 ^ (k - 1 - i) * 8 := by
 rw [show k - i = (k - 1 - i) + 1 by omega, Nat.pow_succ]
theorem Mz {v k : Nat} {T : List UInt8} (h1 : 1 ≤ k) (hv : v < 8 ^ k) (hb : v ≤ 9007199254740991) (hT : T = [0] ∨ T = [0, 32]) (hl : k + T.length ≤ 12) : BW (Ev v k ++ T) = some ((v : Int), 0) := by
 have hk : (Ev v k).length = k := EF k v
 have hTl : 1 ≤ T.length ∧ T.length ≤ 2 := by rcases hT with rfl | rfl <;> simp
 have hlen : (Ev v k ++ T).length = k + T.length := by rw [List.length_append, hk]
 have hT0 : T[0]? = some 0 := by rcases hT with rfl | rfl <;> rfl
 have hdig : ∀ i, i < k → (Ev v k ++ T)[i]? = some (UInt8.ofNat (48 + v / 8 ^ (k - 1 - i) % 8)) := fun i hi => by
  rw [List.getElem?_append_left (by omega), Ru k v i hi]
 have hend : (Ev v k ++ T)[k]? = some 0 := by rw [List.getElem?_append_right (by omega), hk, Nat.sub_self, hT0]
 have hfirst : ∃ b : UInt8, (Ev v k ++ T)[0]? = some b ∧ 48 ≤ (b.toNat : Int) ∧ (b.toNat : Int) ≤ 55 := by
  refine ⟨_, hdig 0 (by omega), ?_⟩
  rw [d8]
  have := Nat.mod_lt (v / 8 ^ (k - 1 - 0)) (show 0 < 8 by decide)
  omega
 obtain ⟨b, hb0, b1, b2⟩ := hfirst
 have e0 : MZ (Ev v k ++ T) (0 : Int) = some (b.toNat : Int) := IJ (i := 0) hb0
 have L2 : loop (Dl (Ev v k ++ T)) (0 : Int) = some (0 : Int) := by
  refine Cu ?_
  unfold Dl
  dsimp only
  rw [decide_eq_true (by omega), AU, e0, Option.bind_some, Option.bind_some, show ((b.toNat : Int) == 32) = false from by rw [beq_eq_false_iff_ne]; omega, AM]
 have L3 : loop (B6 (Ev v k ++ T)) ((0 : Int), (0 : Int)) = some ((k : Int), (v : Int)) := by
  have key : ∀ (j i : Nat), i + j = k → loop (B6 (Ev v k ++ T)) ((i : Int), ((v / 8 ^ (k - i) : Nat) : Int)) = some ((k : Int), (v : Int)) := by
   intro j
   induction j with
   | zero =>
    intro i hi
    obtain rfl : i = k := by omega
    refine Cu ?_
    unfold B6
    dsimp only
    rw [decide_eq_true (by omega), AU, IJ hend, Option.bind_some, Option.bind_some, show decide ((((0 : UInt8).toNat : Nat) : Int) ≥ 48) = false from rfl, AM, Option.bind_some, AM, Nat.sub_self, Nat.pow_zero, Nat.div_one]
   | succ j ih =>
    intro i hi
    refine (CR ?_).trans (ih (i + 1) (by omega))
    have hd := hdig i (by omega)
    have hpw := Uu k i (by omega)
    have hq : v / 8 ^ (k - i) = v / 8 ^ (k - 1 - i) / 8 := by rw [hpw, Nat.div_div_eq_div_mul]
    have hle : v / 8 ^ (k - 1 - i) ≤ v := Nat.div_le_self _ _
    rw [hq, show k - (i + 1) = k - 1 - i by omega]
    have hm := Nat.mod_lt (v / 8 ^ (k - 1 - i)) (show 0 < 8 by decide)
    generalize v / 8 ^ (k - 1 - i) = q at *
    unfold B6 DD
    dsimp only
    rw [decide_eq_true (by omega), AU, IJ hd, Option.bind_some, Option.bind_some, d8, decide_eq_true (by omega), AU, Option.bind_some, Option.bind_some, decide_eq_true (by omega), AU, Option.bind_some, decide_eq_false (by omega), AM, Option.bind_some, Fe (by omega),
     Fk (x := 48 + ((q % 8 : Nat) : Int)) (by omega) (by omega), Fk (x := 48 + ((q % 8 : Nat) : Int) - 48) (by omega) (by omega), Fk (x := ((q / 8 : Nat) : Int) * 8) (by omega) (by omega), Fk (by omega) (by omega)]
    congr 3
    omega
  have := key k 0 (by omega)
  rw [Nat.sub_zero, Nat.div_eq_of_lt hv] at this
  exact this
 have L4 : loop (BQ (Ev v k ++ T)) (k : Int) = some (.inl ()) := by
  have s0 : BQ (Ev v k ++ T) (k : Int) = some (.inl ((k + 1 : Nat) : Int)) := by
   unfold BQ
   dsimp only
   rw [decide_eq_true (by omega), AU, IJ hend, Option.bind_some, Fe (by omega)]
   rfl
  rcases hT with rfl | rfl
  ·refine (CR s0).trans (Cu ?_)
   unfold BQ
   dsimp only
   rw [decide_eq_false (by rw [hlen]; simp), AM]
  ·have hs1 : (Ev v k ++ ([0, 32] : List UInt8))[k + 1]? = some 32 := by rw [List.getElem?_append_right (by omega), hk, Nat.add_sub_cancel_left]; rfl
   have s1 : BQ (Ev v k ++ ([0, 32] : List UInt8)) ((k + 1 : Nat) : Int) = some (.inl ((k + 1 + 1 : Nat) : Int)) := by
    unfold BQ
    dsimp only
    rw [decide_eq_true (by rw [hlen]; simp only [List.length_cons, List.length_nil]; omega), AU, IJ hs1, Option.bind_some, Fe (by omega)]
    rfl
   refine (CR s0).trans ((CR s1).trans (Cu ?_))
   unfold BQ
   dsimp only
   rw [decide_eq_false (by rw [hlen]; simp only [List.length_cons, List.length_nil]; omega), AM]
 unfold BW
 rw [hlen, decide_eq_false (by omega), decide_eq_false (by omega), Bool.or_false, AM, e0, Option.bind_some, show ((b.toNat : Int) == 128) = false from by rw [beq_eq_false_iff_ne]; omega, AM, Option.bind_some, show ((b.toNat : Int) == 255) = false from by rw [beq_eq_false_iff_ne]; omega, AM, L2, Option.bind_some, L3, Option.bind_some]
 dsimp only
 rw [L4, Option.bind_some]
 dsimp only
 rw [decide_eq_false (by omega), AM]
theorem OF {v : Int} (h : 0 ≤ v ∧ v < 2097152) : BW (Ba v.toNat 8) = some (v, 0) := by
 have := Mz (v := v.toNat) (k := 7) (T := [0]) (by omega) (by rw [show 8 ^ 7 = 2097152 from rfl]; omega) (by omega) (.inl rfl) (by simp)
 rw [Int.toNat_of_nonneg h.1] at this
 exact this
theorem T8 {v : Int} (h : 0 ≤ v ∧ v < 8589934592) : BW (Ba v.toNat 12) = some (v, 0) := by
 have := Mz (v := v.toNat) (k := 11) (T := [0]) (by omega) (by rw [show 8 ^ 11 = 8589934592 from rfl]; omega) (by omega) (.inl rfl) (by simp)
 rw [Int.toNat_of_nonneg h.1] at this
 exact this
theorem Vd {L : List (List UInt8)} (hL : Shape L) {i : Nat} (hi : i < 16) {a b : Int} (ha : a = ((MQ i : Nat) : Int)) (hb : b = ((MQ i + Dm.getD i 0 : Nat) : Int)) (h512 : b ≤ 512) : D7 L.flatten (some a) (some b) = some (L.getD i []) := by
 have h := Xq hL hi
 rw [show ((MQ i : Nat) : Int) + ((Dm.getD i 0 : Nat) : Int) = b by omega, Fk (by omega) (by omega), ← ha] at h
 cases hs : D7 L.flatten (some a) (some b) with
 | none => rw [hs] at h; cases h
 | some x => rw [hs] at h; exact h
theorem SS {L : List (List UInt8)} (hL : Shape L) {i : Nat} (hi : i < 16) {a b v : Int} (fl : Bool) (ha : a = ((MQ i : Nat) : Int)) (hb : b = ((Dm.getD i 0 : Nat) : Int)) (h512 : a + b ≤ 512) (hr : BW (L.getD i []) = some (v, 0)) (hv : 0 ≤ v) : BE L.flatten a b fl = some (v, 0) := by
 unfold BE
 rw [Fk (by omega) (by omega), Vd hL hi ha (by omega) h512, Option.bind_some, hr, Option.bind_some]
 dsimp only
 rw [decide_eq_false (by omega), Bool.and_false, Bool.false_and, AM]
theorem UO {s : List UInt8} (hs : s.length = 512) {i j : Nat} (h : i ≤ j) (hj : j ≤ 512) : W (D7 s (some (i : Int)) (some (j : Int))) fun r => r.length ≤ 512 :=
 W.of (Pw h (by omega)) (by rw [List.length_take, List.length_drop]; omega)
theorem Ss {h : AK} {p q : List UInt8} (F : Fit h p q) : DK (Gb h p q).flatten = some true := by
 have S := F.shape
 have hsum := F.sum
 have hf := S.flat
 have h6 : (Gb h p q).getD 6 [] = Ba (O6 h p q) 7 ++ [32] := rfl
 have h60 : ∃ r, (Gb h p q).getD 6 [] = UInt8.ofNat (48 + O6 h p q / 8 ^ 5 % 8) :: r := by
  rw [h6]
  unfold Ba
  rw [show 7 - 1 = 5 + 1 from rfl, JL]
  exact ⟨_, rfl⟩
 obtain ⟨r, hr⟩ := h60
 have hb := IJ (byte_at S (i := 6) (by omega) hr)
 have hd := Nat.mod_lt (O6 h p q / 8 ^ 5) (show 0 < 8 by decide)
 have hread : BW (Ba (O6 h p q) 7 ++ [32]) = some ((O6 h p q : Int), 0) := by
  have := Mz (v := O6 h p q) (k := 6) (T := [0, 32]) (by omega) (by rw [show 8 ^ 6 = 262144 from rfl]; omega) (by omega) (.inr rfl) (by simp)
  unfold Ba
  rw [List.append_assoc]
  exact this
 have hS : B2 (Gb h p q).flatten false = some ((O6 h p q : Int)) := by
  unfold Gb
  rw [Jb]
  exact Tn F.lens.1 (by rw [List.length_append, CP (by omega)]; rfl) F.lens.2
 unfold DK
 rw [hf, show ((((512 : Nat)) : Int) != 512) = false from rfl, AM, show (148 : Int) = ((MQ 6 : Nat) : Int) from rfl, hb, Option.bind_some, d8, Option.bind_some, decide_eq_false (by generalize O6 h p q / 8 ^ 5 = z at *; omega), AM, Vd S (i := 6) (by omega) (a := ((MQ 6 : Nat) : Int)) (b := 156) rfl rfl (by decide), h6, Option.bind_some, hread, Option.bind_some]
 dsimp only
 rw [show ((0 : Int) == 0) = true from rfl, AU, hS, Option.bind_some, beq_self_eq_true, AU, Option.bind_some, Option.bind_some]
theorem Pm {h : AK} {p q : List UInt8} (F : Fit h p q) : W (Bf (Gb h p q).flatten) fun r => r.2 = 0 ∧ r.1.Form = 2 := by
 have S := F.shape
 have hf := S.flat
 obtain ⟨n1, n2, n3, n4, n5, n6, n7⟩ := (Ke h).1 F.n
 have rd : ∀ s : List UInt8, s.length ≤ 512 → W (Aw s) fun r => r.length ≤ 512 := fun s hs => (RH s (by omega)).mono fun r hr => by
  obtain ⟨n, _, rfl, _⟩ := hr
  rw [List.length_take]; omega
 have part : ∀ (i j : Nat), i ≤ j → j ≤ 512 → W (D7 (Gb h p q).flatten (some (i : Int)) (some (j : Int))) fun r => r.length ≤ 512 := fun i j => UO hf
 have u : (Gb h p q).getD 9 [] = ([117, 115, 116, 97, 114, 0, 48, 48] : List UInt8) := rfl
 have k7 : ∃ b r, (Gb h p q).getD 7 [] = b :: r := ⟨_, _, rfl⟩
 obtain ⟨kb, kr, hk7⟩ := k7
 have hkb := IJ (byte_at S (i := 7) (by omega) hk7)
 unfold Bf
 rw [hf, show ((((512 : Nat)) : Int) != 512) = false from rfl, AM, Ss F, Option.bind_some, Bool.not_true, AM, Vd S (i := 9) (by omega) (a := 257) (b := 265) rfl rfl (by decide), Option.bind_some, u, beq_self_eq_true, AU, Option.bind_some]
 dsimp only
 rw [SS S (i := 1) (by omega) (a := 100) (b := 8) false rfl rfl (by decide) (OF n1) n1.1, Option.bind_some]
 dsimp only
 rw [show ((0 : Int) != 0) = false from rfl, AM, SS S (i := 2) (by omega) (a := 108) (b := 8) false rfl rfl (by decide) (OF n2) n2.1, Option.bind_some]
 dsimp only
 rw [show ((0 : Int) != 0) = false from rfl, AM, SS S (i := 3) (by omega) (a := 116) (b := 8) false rfl rfl (by decide) (OF n3) n3.1, Option.bind_some]
 dsimp only
 rw [show ((0 : Int) != 0) = false from rfl, AM, SS S (i := 4) (by omega) (a := 124) (b := 12) false rfl rfl (by decide) (T8 n4) n4.1, Option.bind_some]
 dsimp only
 rw [show ((0 : Int) != 0) = false from rfl, AM, SS S (i := 5) (by omega) (a := 136) (b := 12) true rfl rfl (by decide) (T8 n5) n5.1, Option.bind_some]
 dsimp only
 rw [show ((0 : Int) != 0) = false from rfl, AM, show decide ((2 : Int) > 1) = true from rfl, AU, SS S (i := 12) (by omega) (a := 329) (b := 8) false rfl rfl (by decide) (OF n6) n6.1, Option.bind_some]
 dsimp only
 rw [show ((0 : Int) != 0) = false from rfl, AM, SS S (i := 13) (by omega) (a := 337) (b := 8) false rfl rfl (by decide) (OF n7) n7.1, Option.bind_some]
 dsimp only
 rw [show ((0 : Int) != 0) = false from rfl, AM]
 refine W.bind (W.bind ((part 265 297 (by omega) (by omega)).mono fun x27 h27 => W.bind ((rd _ h27).mono fun x28 h28 => W.bind ((part 297 329 (by omega) (by omega)).mono fun x29 h29 => W.bind ((rd _ h29).mono fun x30 h30 => W.ret ?_)))))
 dsimp only
 refine W.bind (W.of (Gq (i := 100) (by omega)) ?_)
 refine W.bind ((rd _ (by rw [List.length_take]; omega)).mono fun x32 h32 => ?_)
 refine W.bind ((part 345 500 (by omega) (by omega)).mono fun x33 h33 => W.bind ((rd _ h33).mono fun x34 h34 => ?_))
 refine W.bind (W.mono (Q := fun _ => True) ?_ fun x35 _ => ?_)
 ·refine W.ite (fun _ => W.BS (decide_eq_true (by simp only [List.length_cons, List.length_nil]; omega)) (W.BS (decide_eq_true (by simp only [List.length_append, List.length_cons, List.length_nil]; omega)) (W.ret trivial))) fun _ => W.ret trivial
 refine W.bind ((part 157 257 (by omega) (by omega)).mono fun x36 h36 => W.bind ((rd _ h36).mono fun x37 h37 => ?_))
 refine W.bind (W.of hkb ?_)
 refine W.bind (W.mono (Q := fun _ => True) ?_ fun x39 _ => W.ret ⟨rfl, rfl⟩)
 exact W.ite (fun _ => W.ret trivial) fun _ => W.ret trivial
end Go.Av.L
end
/-
 A part.
-/
section
namespace Go.Av.L
open Go.Av Go.Lib
set_option linter.unusedVariables false
set_option linter.unusedSimpArgs false
set_option maxRecDepth 10000
theorem Xa : Cl = some true := by kernel_rfl
theorem Oo (m : Mem) {R0 : Prop} (k0 : R0) (n : Int) {Q1 : Prop} (k1 : Q1) : Cw m n = some true := by
 obtain ⟨b, eb, hb⟩ := XN m
 unfold Cw
 rw [eb, Option.bind_some, Xa, Option.bind_some]
 cases b with
 | true => rfl
 | false =>
  rw [AM]
  obtain ⟨⟨s, e⟩, h1, h2, h3⟩ := Wn (n := n) (hb rfl)
  rw [h1, h2, Option.bind_some]
  dsimp only
  rw [Option.bind_some]
  dsimp only at h3 ⊢
  rw [beq_self_eq_true, show (e != e) = false from by simp, Bool.not_true, Bool.or_false, AM]
  by_cases he : e = 0
  ·obtain ⟨⟨a, b, ha, ha1⟩, ⟨c, d, hd, hd1⟩, hl⟩ := (h3 he).1
   subst he
   have ha2 := ha1.len
   have hd2 := hd1.len
   have ha3 : W (Bf a) fun r => r.2 = 0 ∧ r.1.Form = 2 := by
    obtain ⟨_, _, _, F, rfl⟩ := ha1; exact Pm F
   have hd3 : W (Bf d) fun r => r.2 = 0 ∧ r.1.Form = 2 := by
    obtain ⟨_, _, _, F, rfl⟩ := hd1; exact Pm F
   obtain ⟨⟨r1, x1⟩, p1, q1, q2⟩ := ha3
   obtain ⟨⟨r2, x2⟩, p2, q3, q4⟩ := hd3
   dsimp only at q1 q2 q3 q4
   have hal : s.length = 512 + b.length := by rw [ha, List.length_append, ha2]
   have hdl : s.length = c.length + 512 := by rw [hd, List.length_append, hd2]
   rw [show ((0 : Int) != 0) = false from rfl, AM, decide_eq_false (by omega), AM, show (512 : Int) = ((512 : Nat) : Int) from rfl, Gq (by omega), Option.bind_some, show s.take 512 = a from by rw [ha, ← ha2, List.take_left], p1, Option.bind_some]
   dsimp only
   rw [show (s.length : Int) - ((512 : Nat) : Int) = (c.length : Int) by omega, Fk (by omega) (by omega), Kz (by omega), Option.bind_some, show s.drop c.length = d from by rw [hd, List.drop_left], p2, Option.bind_some]
   dsimp only
   rw [q1, q2, q3, q4]
   rfl
  ·rw [show (e != 0) = true from bne_iff_ne.2 he, AU]
end Go.Av.L
end
/-
 A part.
-/
section
namespace Go.Av
open Go
theorem I0 {P : Program} {x : String × DataW Unit} {r : List (String × DataW Unit)} {w : World} (h : laidMet P (x :: r) w) : laidMet P r w := by
 obtain ⟨ps, hv, hnd, hrows⟩ := h
 obtain ⟨n, d⟩ := x
 obtain ⟨g, t, cs, fuel, p, q, _, _, _, _, hq, rfl⟩ := hv
 exact ⟨q, hq, List.Nodup.sublist (List.sublist_append_right _ _) hnd, fun b off hm => hrows b off (List.mem_append_right _ hm)⟩
def QC (W : World) (g : Nat) (cs : List AB) : Prop :=
 g < W.heap.size ∧ ∃ cur e fz, W.heap[g]? = some (.cells cur e fz) ∧ (cs ≠ [] → cur.size = cs.length) ∧ ∀ (j : Nat) (a : AB), cs[j]? = some a → a.one = true ∧ Av.Ed a = true ∧ ∃ c, cur[j]? = some c ∧ VR ⟨fun _ => none, fun _ _ => none, fun _ _ => False⟩ a c
theorem Hd {P : Program} {W : World} {name : String} {k : IntKind} {zs : List Int} {g : Nat} (hg : P.globalNamed name = some g) (h : Lib.TabIs P W name k zs) : QC W g (zs.map fun z => AB.int k z) := by
 unfold Lib.TabIs World.var? at h
 rw [hg] at h
 simp only [Option.bind_some] at h
 split at h
 ·rename_i cs e fz hc
  injection h with h
  have hlt : g < W.heap.size := by
   by_cases hlt : g < W.heap.size
   ·exact hlt
   ·rw [Array.getElem?_eq_none (by omega)] at hc; cases hc
  refine ⟨hlt, cs, e, fz, hc, fun _ => by rw [h]; simp, fun j a ha => ?_⟩
  rw [List.getElem?_map, Option.map_eq_some_iff] at ha
  obtain ⟨z, hz, rfl⟩ := ha
  refine ⟨rfl, rfl, .int k z, ?_, VR.int k z⟩
  rw [h]
  simp [hz]
 ·cases h
theorem Ly {W : World} {g : Nat} {cs : List AB} {l : List (Nat × List AB)} (h : QC W g cs) (hn : cs = [] → ∃ n : Int, W.cell? ⟨g, 0, none⟩ = some (.int .i64 n)) (hl : BY (J4 l) W) : BY (J4 ((g, cs) :: l)) W := ⟨fun g' cs' e => by
 unfold J4 at e
 rw [HP] at e
 by_cases hx : g = g'
 ·rw [if_pos hx] at e
  have := Option.some.inj e
  subst this; subst hx
  exact h
 ·rw [if_neg hx] at e
  exact hl.1 g' cs' e, fun g' e => by
 unfold J4 at e
 rw [HP] at e
 by_cases hx : g = g'
 ·rw [if_pos hx] at e
  have := Option.some.inj e
  subst hx
  exact hn this
 ·rw [if_neg hx] at e
  exact hl.2 g' e⟩
theorem KR {W : World} {g : Nat} {a : AB} {cs : List AB} {l : List (Nat × List AB)} (h : QC W g (a :: cs)) (hl : BY (J4 l) W) : BY (J4 ((g, a :: cs) :: l)) W := Ly h (fun h => by cases h) hl
theorem TD {W : World} {g : Nat} {l : List (Nat × List AB)} (h : ∃ n : Int, W.cell? ⟨g, 0, none⟩ = some (.int .i64 n)) (hl : BY (J4 l) W) : BY (J4 ((g, []) :: l)) W := by
 refine Ly ?_ (fun _ => h) hl
 obtain ⟨n, hn⟩ := h
 unfold World.cell? at hn
 split at hn
 ·rename_i cs e fz hc
  have hc' : W.heap[g]? = some (.cells cs e fz) := hc
  refine ⟨?_, cs, e, fz, hc', fun h => absurd rfl h, fun j a ha => by simp at ha⟩
  by_cases hlt : g < W.heap.size
  ·exact hlt
  ·rw [Array.getElem?_eq_none (by omega)] at hc'; cases hc'
 ·cases hn
theorem SV (W : World) : BY (J4 []) W := ⟨fun g cs e => (by cases e), fun g e => (by cases e)⟩
end Go.Av
end
