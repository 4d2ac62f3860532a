/-
  Several texts in one.
-/
import Derived.Test.YthnnciphldbmeaaGreatDoorFiW
import Derived.Test.YthnnciphldbmeaaGreatDoorAvIn
import Derived.Test.YthnnciphldbmeaaGreatDoorAvMore
import Derived.Lib.LaidTab
/-
  FilterStays.
-/
section
namespace Go.Av.L
open Go.Av Go.Lib
set_option linter.unusedVariables false
set_option linter.unusedSimpArgs false
structure Good (m : Mb) : Prop where
 small : Small m
 short : m.Name.length < 10000
 ne : m.Name ≠ []
 name : m.Name.length ≤ 4096
 link : m.Be.length ≤ 4096
theorem Nj {m : Mb} (h : VQ m) : Small m := by
 obtain ⟨h1, h2, h3, h4, h5, h6⟩ := h
 exact ⟨by omega, by omega, by omega, by omega, h5, fun p hp => by have := h6 p hp; omega⟩
theorem Wf (a : List Mb) (ha : ∀ m ∈ a, m.Extra.length ≤ 12) (hb : a.length < 1000000) : DL a a = some true := by
 unfold DL
 rw [bne_self_eq_false, B0]
 have key : ∀ (k i : Nat), i + k = a.length → loop (Cg a a) (i : Int) = some (.inl ()) := by
  intro k
  induction k with
  | zero =>
   intro i hi
   exact Bo (by rw [Cg, Ba, if_neg (by omega)])
  | succ k ih =>
   intro i hi
   have hlt : i < a.length := by omega
   have hx := ha _ (List.getElem_mem hlt)
   rw [Dl (s' := ((i + 1 : Nat) : Int)) (by rw [Cg, Ba, if_pos (by omega), Fm hlt]; simp only [Option.bind_some]; rw [We _ (by omega), Option.bind_some, Bool.not_true, B0, OI (by omega)])]
   exact ih (i + 1) (by omega)
 rw [show (0 : Int) = ((0 : Nat) : Int) from rfl, key a.length 0 (by omega)]
 rfl
theorem VO (a b : List Em) (ha : a.length < 1000000) : DN a b = some (a == b) := by
 unfold DN
 rw [SE]
 by_cases h : (a.length : Int) = (b.length : Int)
 ·rw [if_pos h]
  obtain ⟨r, h1, h2⟩ := Ry (a := a) (b := b) (step := EZ a b) (same := fun x y => some (x == y)) (fun x _ y => ⟨_, rfl, beq_iff_eq⟩) (by omega) (by omega) (fun x1 => rfl)
  refine Eq.trans h1 ?_
  congr 1
  rw [Bool.eq_iff_iff, h2, beq_iff_eq]
 ·rw [if_neg h]
  congr 1
  symm
  rw [beq_eq_false_iff_ne]
  rintro rfl
  exact h rfl
theorem VE {l : List Mb} (hl : l.length < 1000000) : Ev l = some (l.map (·.Name)) := by
 refine W.eq ?_
 unfold Ev
 refine W.bind ?_
 refine (W.list (l := l) (enc := fun (s : List Em) i => (s, (i : Int))) (P := fun s i => s = (l.take i).map (·.Name)) (Q := fun r => r = l.map (·.Name)) ?_ ?_ [] (by simp)).mono ?_
 ·rintro s rfl
  rw [Ez, Ba, if_neg (by omega)]
  exact W.ret (by rw [List.take_length])
 ·rintro s i hi rfl
  rw [Ez, Ba, if_pos (by omega), Fm hi, Option.bind_some, NT (by simp; omega) (by simp; omega), Gy, OI (by omega)]
  refine W.ret ⟨(l.take (i + 1)).map (·.Name), ?_, rfl⟩
  rw [Lj (List.getElem?_eq_getElem hi), List.map_append]
  rfl
 ·rintro r rfl
  exact W.ret rfl
theorem filter_eq {l : List Mb} (hl : l.length ≤ 8) (h : ∀ m ∈ l, Good m) : Fp VM l = some (l, 0, 0) := by
 have hI := UQ (l := l) (by omega) fun m hm => (h m hm).short
 have key : ∀ (k i : Nat) (X : Nat → Int), i + k = l.length → ∃ Y, loop (B9 DF l (Ef J6) (⟨mapOf l⟩ : BA)) (0, 1, X, (i : Int), .inl (l.take i)) = some (.inl (0, 1, Y, .inl l)) := by
  intro k
  induction k with
  | zero =>
   intro i X hi
   refine ⟨X, Bo ?_⟩
   rw [B9, Ba, if_neg (by omega), List.take_of_length_le (by omega)]
  | succ k ih =>
   intro i X hi
   have hlt : i < l.length := by omega
   have g := h _ (List.getElem_mem hlt)
   obtain ⟨Y, hY⟩ := YE g.small g.ne g.name g.link X (⟨mapOf l⟩ : BA)
   obtain ⟨Z, hZ⟩ := ih (i + 1) Y (by omega)
   refine ⟨Z, ?_⟩
   have hy : DF (l.take i) ((i : Int), (⟨l[i], 0, 0⟩ : Ch)) = some (.inl (l.take (i + 1))) := by
    rw [DF]
    dsimp only
    rw [bne_self_eq_false, B0, beq_self_eq_true, FU, NT (by simp; omega) (by simp; omega), Gy, Lj (List.getElem?_eq_getElem hlt)]
   rw [Dl (s' := (0, 1, Y, ((i + 1 : Nat) : Int), .inl (l.take (i + 1))))]
   ·exact hZ
   ·rw [B9, Ba, if_pos (by omega), Fm hlt, Option.bind_some]
    have hY' : Bw (⟨(Ef J6).c_, (Ef J6).AR, (Ef J6).AU, (Ef J6).AX, (⟨0, 1, X⟩ : BS)⟩ : BO) l[i] (⟨mapOf l⟩ : BA) = some (l[i], 0, 0, ⟨0, 1, Y⟩) := hY
    rw [hY']
    simp only [Option.bind_some]
    rw [Qm hy]
    simp only [Option.bind_some]
    rw [OI (by omega)]
    rfl
 obtain ⟨Y, hY⟩ := key l.length 0 J6 (by omega)
 unfold Fp
 rw [YK, Option.bind_some]
 dsimp only
 rw [bne_self_eq_false, B0, EH, Option.bind_some]
 unfold DY
 rw [hI, Option.bind_some]
 have hY' : loop (B9 DF l (Ef J6) (⟨mapOf l⟩ : BA)) ((Ef J6).Ae.n_, (Ef J6).Ae.An, (Ef J6).Ae.Aw, (0 : Int), .inl []) = some (.inl (0, 1, Y, .inl l)) := hY
 rw [hY']
 rfl
theorem O0 (x0 : List Mb) {Q0 : Prop} (k0 : Q0) : DX x0 = some true := by
 unfold DX
 rw [Ba]
 by_cases hl : (x0.length : Int) > 8
 ·rw [if_pos hl, OB]; rfl
 ·rw [if_neg hl]
  refine W.eq ?_
  refine W.bind ?_
  refine (W.list (l := x0) (enc := fun (s : List Em) i => (s, (i : Int))) (P := fun s i => s = (x0.take i).map (·.Name) ∧ ∀ m ∈ x0.take i, Good m) (Q := fun r => match r with | .inl s => s = x0.map (·.Name) ∧ ∀ m ∈ x0, Good m | .inr b => b = true) ?_ ?_ [] ⟨by simp, by simp⟩).mono ?_
  ·rintro s ⟨rfl, h⟩
   rw [C2, Ba, if_neg (by omega)]
   rw [List.take_length] at h ⊢
   exact W.ret ⟨rfl, h⟩
  ·rintro s i hi ⟨rfl, h⟩
   rw [C2, Ba, if_pos (by omega), Fm hi, Option.bind_some, Rx, Option.bind_some]
   cases hb : TX x0[i] with
   | true =>
    rw [FU, Option.bind_some, Bool.true_or, Bool.true_or, FU, OB]
    exact W.ret rfl
   | false =>
    have hs := RU hb
    obtain ⟨v, hv, hne⟩ := Vf (Nj hs)
    rw [B0, hv, Option.bind_some, Option.bind_some]
    cases hv0 : (v != 0) with
    | true =>
     rw [Bool.true_or, Bool.true_or, FU, OB]
     exact W.ret rfl
    | false =>
     have e0 : v = 0 := by simpa using hv0
     rw [decide_eq_false (by have := hs.1; omega), decide_eq_false (by have := hs.2.1; omega)]
     simp only [Bool.or_false, B0]
     rw [NT (by simp; omega) (by simp; omega), Gy, OI (by omega)]
     refine W.ret ⟨(x0.take (i + 1)).map (·.Name), ?_, rfl, fun m hm => ?_⟩
     ·rw [Lj (List.getElem?_eq_getElem hi), List.map_append]; rfl
     ·rw [Lj (List.getElem?_eq_getElem hi)] at hm
      rcases List.mem_append.1 hm with hm | hm
      ·exact h m hm
      ·simp at hm
       subst hm
       exact ⟨Nj hs, by have := hs.1; omega, hne e0, by have := hs.1; omega, by have := hs.2.1; omega⟩
  ·rintro (s | b) h
   ·obtain ⟨rfl, h⟩ := h
    dsimp only
    have hf := filter_eq (l := x0) (by omega) h
    unfold VM at hf
    rw [UU, Option.bind_some, hf]
    simp only [Option.bind_some]
    rw [Wf x0 (fun m hm => (h m hm).small.extra) (by omega)]
    simp only [Option.bind_some, beq_self_eq_true, Bool.and_self, FU]
    rw [VE (by omega)]
    simp only [Option.bind_some]
    rw [VO _ _ (by rw [List.length_map]; omega)]
    simp only [Option.bind_some, beq_self_eq_true]
    rw [FU, OB]
    exact W.ret rfl
   ·dsimp only at h
    subst h
    exact W.ret rfl
end Go.Av.L
end
/-
  From a row's list of package variables to what the run reads of them.
-/
section
namespace Go.Av
open Go
theorem HX {P : Program} {x : String × DataW Unit} {r : List (String × DataW Unit)} {w : World} (h : laidMet P (x :: r) w) : laidMet P r w := by
 obtain ⟨ps, hv, hnd, hrows⟩ := h
 obtain ⟨n, d⟩ := x
 obtain ⟨g, t, cs, fuel, p, q, _, _, _, _, hq, rfl⟩ := hv
 exact ⟨q, hq, List.Nodup.sublist (List.sublist_append_right _ _) hnd, fun b off hm => hrows b off (List.mem_append_right _ hm)⟩
def RC (W : World) (g : Nat) (cs : List AD) : Prop :=
 g < W.heap.size ∧ ∃ cur e fz, W.heap[g]? = some (.cells cur e fz) ∧ ∀ (j : Nat) (a : AD), cs[j]? = some a → a.one = true ∧ Av.GD a = true ∧ ∃ c, cur[j]? = some c ∧ VR ⟨fun _ => none, fun _ _ => none, fun _ => False⟩ a c
theorem Is {P : Program} {W : World} {name : String} {k : IntKind} {zs : List Int} {g : Nat} (hg : P.globalNamed name = some g) (h : Lib.TabIs P W name k zs) : RC W g (zs.map fun z => AD.int k z) := by
 unfold Lib.TabIs World.var? at h
 rw [hg] at h
 simp only [Option.bind_some] at h
 split at h
 ·rename_i cs e fz hc
  injection h with h
  have hlt : g < W.heap.size := by
   by_cases hlt : g < W.heap.size
   ·exact hlt
   ·rw [Array.getElem?_eq_none (by omega)] at hc; cases hc
  refine ⟨hlt, cs, e, fz, hc, fun j a ha => ?_⟩
  rw [List.getElem?_map, Option.map_eq_some_iff] at ha
  obtain ⟨z, hz, rfl⟩ := ha
  refine ⟨rfl, rfl, .int k z, ?_, VR.int k z⟩
  rw [h]
  simp [hz]
 ·cases h
theorem M3 {W : World} {g : Nat} {cs : List AD} {l : List (Nat × List AD)} (h : RC W g cs) (hn : cs = [] → ∃ n : Int, W.cell? ⟨g, 0, none⟩ = some (.int .i64 n)) (hl : CX (Kc l) W) : CX (Kc ((g, cs) :: l)) W := ⟨fun g' cs' e => by
 unfold Kc at e
 rw [IN] at e
 by_cases hx : g = g'
 ·rw [if_pos hx] at e
  have := Option.some.inj e
  subst this; subst hx
  exact h
 ·rw [if_neg hx] at e
  exact hl.1 g' cs' e, fun g' e => by
 unfold Kc at e
 rw [IN] at e
 by_cases hx : g = g'
 ·rw [if_pos hx] at e
  have := Option.some.inj e
  subst hx
  exact hn this
 ·rw [if_neg hx] at e
  exact hl.2 g' e⟩
theorem LD {W : World} {g : Nat} {a : AD} {cs : List AD} {l : List (Nat × List AD)} (h : RC W g (a :: cs)) (hl : CX (Kc l) W) : CX (Kc ((g, a :: cs) :: l)) W := M3 h (fun h => by cases h) hl
theorem S1 {W : World} {g : Nat} {l : List (Nat × List AD)} (h : ∃ n : Int, W.cell? ⟨g, 0, none⟩ = some (.int .i64 n)) (hl : CX (Kc l) W) : CX (Kc ((g, []) :: l)) W := by
 refine M3 ?_ (fun _ => h) hl
 obtain ⟨n, hn⟩ := h
 unfold World.cell? at hn
 split at hn
 ·rename_i cs e fz hc
  have hc' : W.heap[g]? = some (.cells cs e fz) := hc
  refine ⟨?_, cs, e, fz, hc', fun j a ha => by simp at ha⟩
  by_cases hlt : g < W.heap.size
  ·exact hlt
  ·rw [Array.getElem?_eq_none (by omega)] at hc'; cases hc'
 ·cases hn
theorem SU (W : World) : CX (Kc []) W := ⟨fun g cs e => (by cases e), fun g e => (by cases e)⟩
end Go.Av
end
