/-
  SUBST: parsing goes as 'parseF' does: the program, and the document.
-/
import Derived.Test.YtklabpnclemmoaaSubstParse
namespace Go.Abs.L
open Go.Abs
set_option linter.unusedVariables false
set_option linter.unusedSimpArgs false

structure PInv (g : Gd) (h : AHeap) (e : TypeId) (l : List UInt8) (s : Sl) (h1 : AHeap) (i : Nat) (out : List Part) : Prop where
  grow : Grow g h h1 e 3 s (out.flatMap partC)
  n : s.n = out.length
  len : out.length ≤ i
  bytes : ∀ p ∈ out, p.2.2.length ≤ i
  le : i ≤ l.length
  eq : parseF [] 0 l = parseF out i (l.drop i)
theorem putB_bytes {l : List Part} {i : Nat} (h : ∀ p ∈ l, p.2.2.length ≤ i) (b : UInt8) : ∀ p ∈ putB l [b], p.2.2.length ≤ i + 1 := by
  intro q hq
  rcases snoc_cases l with rfl | ⟨m, p, rfl⟩
  · rw [putB_nil] at hq
    simp at hq
    rw [hq]; simp
  · rw [putB_snoc] at hq
    split at hq
    · rcases List.mem_append.1 hq with h1 | h1
      · have := h q (by simp [h1]); omega
      · simp at h1
        rw [h1]
        have := h p (by simp)
        simp; omega
    · rcases List.mem_append.1 hq with h1 | h1
      · have := h q h1; omega
      · simp at h1
        rw [h1]; simp
theorem snoc_bytes {l : List Part} {i : Nat} (h : ∀ p ∈ l, p.2.2.length ≤ i) {p : Part} (hp : p.2.2 = []) {j : Nat} (hj : i ≤ j) : ∀ q ∈ l ++ [p], q.2.2.length ≤ j := by
  intro q hq
  rcases List.mem_append.1 hq with h1 | h1
  · have := h q h1; omega
  · simp at h1
    rw [h1, hp]; simp
theorem sign_bytes {c : UInt8} {p : Part} (h : signF c = some p) : p.2.2 = [] := by
  unfold signF at h
  repeat' split at h
  all_goals first | (injection h with h; rw [← h]) | cases h
theorem drop2 {l : List UInt8} {i : Nat} (h : i + 1 < l.length) : l.drop i = l[i] :: l[i + 1] :: l.drop (i + 2) := by
  rw [drop_cons (by omega), drop_cons h]
theorem drop1 {l : List UInt8} {i : Nat} (h : i + 1 = l.length) : l.drop i = [l[i]] := by
  rw [drop_cons (by omega), List.drop_of_length_le (by omega)]

section
variable {g : Gd} {h : AHeap} {l : List UInt8} {e : TypeId}
/-- what is found out at the end -/
def PEnd (g : Gd) (h : AHeap) (e : TypeId) (l : List UInt8) (s : Sl) (a b : Int) (h1 : AHeap) : Prop :=
  Grow g h h1 e 3 s ((parseF [] 0 l).1.flatMap partC) ∧ s.n = (parseF [] 0 l).1.length ∧ (parseF [] 0 l).2 = (a, b)
theorem PInv.done {s : Sl} {h1 : AHeap} {i : Nat} {out : List Part} (v : PInv g h e l s h1 i out) (hi : i = l.length) : PEnd g h e l s 0 0 h1 := by
  have := v.eq
  rw [hi, List.drop_length, parseF] at this
  unfold PEnd
  rw [this]
  exact ⟨v.grow, v.n, rfl⟩
theorem PInv.bad {s : Sl} {h1 h2 : AHeap} {i : Nat} {out : List Part} (v : PInv g h e l s h1 i out) (he : parseF [] 0 l = ([], (i : Int), 11)) (k : Only none h1 h2) : PEnd g h e l ⟨none, 0⟩ i 11 h2 := by
  unfold PEnd
  rw [he]
  exact ⟨Grow.nil (v.grow.only.trans k), rfl, rfl⟩
/-- one part more -/
theorem PInv.more {s : Sl} {h1 : AHeap} {i : Nat} {out : List Part} (v : PInv g h e l s h1 i out) (hl : l.length ≤ 10000) (hfl : g.floor ≤ h.size) (hpr : g.prot = []) (p : Part) (hp : p.2.2 = []) {j : Nat} (hj : i < j) (hjl : j ≤ l.length) (heq : parseF out i (l.drop i) = parseF (out ++ [p]) j (l.drop j)) {h2 : AHeap} (k : Only none h1 h2) :
    W (app e 3 32 g (h2.push (.cells (some e) 2 (partC p))) s 1 (.slice (some (h2.size, 0)) 1)) fun r => PInv g h e l r.1 r.2 j (out ++ [p]) := by
  have := v.len
  have := v.le
  have hn := v.n
  refine W.mono ((v.grow.keep k).app1 (e' := e) (new := partC p) rfl rfl (by omega) (by omega) hfl hpr) ?_
  rintro ⟨s', h'⟩ ⟨w', n'⟩
  dsimp only at w' n'
  exact ⟨by rw [flat_snoc]; exact w', by dsimp only; rw [n', hn]; simp, by simp; omega, snoc_bytes v.bytes hp (by omega), hjl, v.eq.trans heq⟩
end

theorem parse_spec {g : Gd} {h : AHeap} {l : List UInt8} (hl : l.length ≤ 8192) (hfl : g.floor ≤ h.size) (hpr : g.prot = []) :
    W (M_subst_Parse g h l) fun r => PEnd g h 50 l r.1.1 r.1.2.1 r.1.2.2 r.2 := by
  unfold M_subst_Parse
  rw [show decide ((l.length : Int) > 8192) = false from decide_eq_false (by omega)]
  simp only [iteB_false]
  refine W.bind (W.mono (Q := fun o => match o with | .inl (x3, h13) => PEnd g h 50 l x3 0 0 h13 | .inr (x4, x5, x6, h13) => PEnd g h 50 l x4 x5 x6 h13) ?_ ?_)
  rotate_left
  · rintro (⟨x3, h13⟩ | ⟨x4, x5, x6, h13⟩) hq
    · exact W.ret hq
    · exact W.ret hq
  refine W.loop (fun s => ∃ (i : Nat) (out : List Part), s.2.1 = i ∧ PInv g h 50 l s.1 s.2.2 i out) (fun s => l.length - s.2.1.toNat) ⟨0, [], rfl, Grow.nil (Only.refl _ _), rfl, Nat.le_refl _, by simp, by omega, by simp⟩ ?_
  rintro ⟨x7, _, h1⟩ ⟨i, out, rfl, v⟩
  dsimp only at v
  have hle := v.le
  have hlen := v.len
  have hn := v.n
  unfold M_subst_Parse_L0
  dsimp only
  refine W.iteP (fun hlt => ?_) (fun hge => W.ret (v.done (by omega)))
  have hlt : i < l.length := by omega
  have hz := v.grow.only.size
  rw [ixS_nat (List.getElem?_eq_getElem hlt)]
  simp only [Option.bind_some]
  refine W.bind (W.mono (Q := fun o => match o with | .inl (x9, x10, h12) => ∃ (j : Nat) (out' : List Part), x10 + 1 = ((j : Nat) : Int) ∧ i < j ∧ PInv g h 50 l x9 h12 j out' | .inr (x11, x12, x13, h12) => PEnd g h 50 l x11 x12 x13 h12) ?_ ?_)
  rotate_left
  · rintro (⟨x9, x10, h12⟩ | ⟨x11, x12, x13, h12⟩) hq
    · obtain ⟨j, out', ej, hj, v'⟩ := hq
      have := v'.le
      dsimp only
      rw [w64 (by omega) (by omega), ej]
      exact W.ret ⟨⟨j, out', rfl, v'⟩, by dsimp only; omega⟩
    · exact W.ret hq
  rw [iteB_beq]
  split
  · rename_i hb
    refine W.bind (W.mono (v.more (by omega) hfl hpr (1, 0, []) rfl (j := i + 1) (by omega) (by omega) (by rw [drop_cons hlt, parseF_and hb]) (Only.refl _ _)) ?_)
    rintro ⟨x15, h3⟩ v'
    exact W.ret ⟨i + 1, _, by omega, by omega, v'⟩
  · rename_i hb
    rw [iteB_bne]
    split
    rotate_left
    · rename_i h92
      refine W.bind (W.mono (sput_spec v.grow hn (by omega) (fun p hp => by have := v.bytes p hp; omega) hfl hpr l[i]) ?_)
      rintro ⟨x16, h4⟩ ⟨w', n'⟩
      dsimp only at w' n'
      have := putB_length out [l[i]]
      exact W.ret ⟨i + 1, putB out [l[i]], by omega, by omega, w', n', by omega, putB_bytes v.bytes _, by omega, by rw [v.eq, drop_cons hlt, parseF_byte hb h92]⟩
    · rename_i h92
      rw [ek64 (by omega), iteB_beq]
      split
      · rename_i hend
        exact W.ret (v.bad (by rw [v.eq, drop1 (by omega), parseF_end h92]) (Only.refl _ _))
      · rename_i hend
        have hlt2 : i + 1 < l.length := by omega
        have heq := v.eq
        rw [drop2 hlt2, parseF_esc h92] at heq
        rw [ixS_nat (List.getElem?_eq_getElem hlt2)]
        simp only [Option.bind_some]
        refine W.bind (W.mono (ssign_spec (h := h1) (by omega) hpr l[i + 1]) ?_)
        rintro ⟨⟨x18, x19⟩, h5⟩ ⟨es, k5⟩
        dsimp only at es k5 ⊢
        have z5 := k5.size
        have hx : ∃ p b, signP l[i + 1] = (partC p, b) := by
          unfold signP
          cases signF l[i + 1] with
          | some p => exact ⟨p, true, rfl⟩
          | none => exact ⟨_, false, rfl⟩
        obtain ⟨p, b, ep⟩ := hx
        rw [ep] at es
        obtain ⟨rfl, rfl⟩ := Prod.mk.inj es
        obtain ⟨h7, e7, g7, k7, z7⟩ := var_st (h := h5) (g := g) (z := [.int .i64 (0 : Int), .int .i64 (0 : Int), .str ([] : List UInt8)]) (cs := partC p) (n := 3) (may_new (by omega) (by simp [hpr])) rfl rfl rfl
        have lA : ldA h7 (h5.size, 0) 3 = some (partC p) := by rw [ldA_of g7 (by simp) (Nat.le_refl 3)]; rfl
        have k17 := k5.trans k7
        rw [e7]
        simp only [Option.bind_some, lA]
        refine W.bind (W.mono (Q := fun o => match o with | .inl (x20, h11) => ∃ out', PInv g h 50 l x20 h11 (i + 2) out' | .inr (x21, x22, x23, h11) => PEnd g h 50 l x21 x22 x23 h11) ?_ ?_)
        rotate_left
        · rintro (⟨x20, h11⟩ | ⟨x21, x22, x23, h11⟩) hq
          · obtain ⟨out', v'⟩ := hq
            exact W.ret ⟨i + 2, out', by omega, by omega, v'⟩
          · exact W.ret hq
        cases hs : signF l[i + 1] with
        | some q =>
          have : (partC q, true) = (partC p, x19) := by rw [← ep]; unfold signP; rw [hs]
          obtain ⟨e1, rfl⟩ := Prod.mk.inj this
          rw [hs] at heq
          dsimp only at heq
          rw [← e1]
          simp only [iteB_true]
          refine W.need rfl ?_
          refine W.bind (W.mono (v.more (by omega) hfl hpr q (sign_bytes hs) (j := i + 2) (by omega) (by omega) (by rw [← v.eq]; exact heq) k17) ?_)
          rintro ⟨x25, h9⟩ v'
          exact W.ret ⟨_, v'⟩
        | none =>
          have : (partC (0, 0, []), false) = (partC p, x19) := by rw [← ep]; unfold signP; rw [hs]
          obtain ⟨e1, rfl⟩ := Prod.mk.inj this
          rw [hs] at heq
          dsimp only at heq
          simp only [iteB_false]
          have eesc : ((((l[i + 1].toNat : Int) == 38) || ((l[i + 1].toNat : Int) == 92)) || ((l[i + 1].toNat : Int) == 47)) = escF l[i + 1] := by
            unfold escF; rw [Bool.eq_iff_iff]; simp; omega
          rw [eesc]
          refine W.ite (fun he => ?_) (fun he => ?_)
          · rw [he] at heq
            simp only [if_true] at heq
            refine W.bind (W.mono (sput_spec (v.grow.keep k17) hn (by omega) (fun p hp => by have := v.bytes p hp; omega) hfl hpr l[i + 1]) ?_)
            rintro ⟨x26, h10⟩ ⟨w', n'⟩
            dsimp only at w' n'
            have := putB_length out [l[i + 1]]
            exact W.ret ⟨putB out [l[i + 1]], w', n', by omega, fun q hq => by have := putB_bytes v.bytes _ q hq; omega, by omega, heq⟩
          · rw [he] at heq
            exact W.ret (v.bad (by simpa using heq) k17)

/-! ### the document's -/
theorem rtext_spec {g : Gd} {h0 h : AHeap} {s : Sl} {ps : List Part} (w : Grow g h0 h 51 3 s (ps.flatMap partC)) (hn : s.n = ps.length) (hb : ps.length ≤ 100000) (hp : ∀ p ∈ ps, p.2.2.length ≤ 100000) (hfl : g.floor ≤ h0.size) (hpr : g.prot = []) (b : UInt8) :
    W (M_boulterref23_text g h s [b]) fun r => Grow g h0 r.2 51 3 r.1 ((putB ps [b]).flatMap partC) ∧ r.1.n = (putB ps [b]).length := by
  have new : W ((app 51 3 32 g (h.push (.cells (some 51) 2 [.int .i64 (0 : Int), .int .i64 (0 : Int), .str [b]])) s 1 (.slice (some (h.size, 0)) 1)).bind fun x => some (x.1, x.2)) fun r => Grow g h0 r.2 51 3 r.1 ((ps ++ [(0, 0, [b])]).flatMap partC) ∧ r.1.n = (ps ++ [((0 : Int), (0 : Int), [b])]).length := by
    refine W.bind (W.mono (w.app1 (e' := 51) (new := partC (0, 0, [b])) rfl rfl (by omega) (by omega) hfl hpr) ?_)
    rintro ⟨s', h'⟩ ⟨w', n'⟩
    dsimp only at w' n'
    refine W.ret ⟨?_, ?_⟩
    · rw [flat_snoc]; exact w'
    · dsimp only; rw [n', hn]; simp
  unfold M_boulterref23_text
  rcases snoc_cases ps with rfl | ⟨m, p, rfl⟩
  · rw [show decide (((s.n : Nat) : Int) > 0) = false from decide_eq_false (by rw [hn]; simp)]
    simp only [iteB_false, Option.bind_some]
    exact new
  · have hn' : s.n = m.length + 1 := by rw [hn]; simp
    have hm : m.length ≤ 1000000 := by simp at hb; omega
    obtain ⟨a, ea, l0, l2, hst⟩ := last_spec w hn' szPart2 hm
    rw [show decide (((s.n : Nat) : Int) > 0) = true from decide_eq_true (by omega), putB_snoc]
    simp only [iteB_true, Option.bind_some, ea, l0]
    rw [iteB_beq]
    split
    · simp only [Option.bind_some, l2]
      have := hp p (by simp)
      refine W.need (by simp; omega) ?_
      obtain ⟨h', e1, w'⟩ := hst h (p.2.2 ++ [b]) (Only.refl _ _)
      rw [e1]
      exact W.ret ⟨w', by rw [hn']; simp⟩
    · exact new
theorem sub1 {l : List UInt8} {i : Nat} (h : i < l.length) : subS l (some (i : Int)) (some ((i + 1 : Nat) : Int)) = some [l[i]] := by
  rw [subS_both (by omega) (by omega), drop_cons h, show i + 1 - i = 1 from by omega]; rfl
theorem rparse_spec {g : Gd} {h : AHeap} {l : List UInt8} (hl : l.length ≤ 8192) (hfl : g.floor ≤ h.size) (hpr : g.prot = []) :
    W (M_boulterref23_Parse g h l) fun r => PEnd g h 51 l r.1.1 r.1.2.1 r.1.2.2 r.2 := by
  unfold M_boulterref23_Parse
  rw [show decide ((l.length : Int) > 8192) = false from decide_eq_false (by omega)]
  simp only [iteB_false, Option.bind_some]
  refine W.bind (W.mono (Q := fun o => match o with | .inl (x3, h13) => PEnd g h 51 l x3 0 0 h13 | .inr (x4, x5, x6, h13) => PEnd g h 51 l x4 x5 x6 h13) ?_ ?_)
  rotate_left
  · rintro (⟨x3, h13⟩ | ⟨x4, x5, x6, h13⟩) hq
    · exact W.ret hq
    · exact W.ret hq
  refine W.loop (fun s => ∃ (i : Nat) (out : List Part), s.2.1 = i ∧ PInv g h 51 l s.1 s.2.2 i out) (fun s => l.length - s.2.1.toNat) ⟨0, [], rfl, Grow.mk_ (Only.refl _ _) rfl rfl hfl hpr, rfl, Nat.le_refl _, by simp, by omega, by simp⟩ ?_
  rintro ⟨x7, _, h1⟩ ⟨i, out, rfl, v⟩
  dsimp only at v
  have hle := v.le
  have hlen := v.len
  have hn := v.n
  unfold M_boulterref23_Parse_L0
  dsimp only
  refine W.iteP (fun hlt => ?_) (fun hge => W.ret (v.done (by omega)))
  have hlt : i < l.length := by omega
  have hz := v.grow.only.size
  rw [ixS_nat (List.getElem?_eq_getElem hlt)]
  simp only [Option.bind_some]
  rw [ek64 (by omega), iteB_beq]
  split
  · rename_i hb
    refine W.bind (W.mono (v.more (by omega) hfl hpr (1, 0, []) rfl (j := i + 1) (by omega) (by omega) (by rw [drop_cons hlt, parseF_and hb]) (Only.refl _ _)) ?_)
    rintro ⟨x15, h3⟩ v'
    exact W.ret ⟨⟨i + 1, _, rfl, v'⟩, by dsimp only; omega⟩
  · rename_i hb
    rw [iteB_bne]
    split
    rotate_left
    · rename_i h92
      rw [sub1 hlt]
      simp only [Option.bind_some]
      refine W.bind (W.mono (rtext_spec v.grow hn (by omega) (fun p hp => by have := v.bytes p hp; omega) hfl hpr l[i]) ?_)
      rintro ⟨x16, h4⟩ ⟨w', n'⟩
      dsimp only at w' n'
      have := putB_length out [l[i]]
      exact W.ret ⟨⟨i + 1, putB out [l[i]], rfl, w', n', by omega, putB_bytes v.bytes _, by omega, by rw [v.eq, drop_cons hlt, parseF_byte hb h92]⟩, by dsimp only; omega⟩
    · rename_i h92
      refine W.iteP (fun hend => W.ret (v.bad (by rw [v.eq, drop1 (by omega), parseF_end h92]) (Only.refl _ _))) (fun hend => ?_)
      have hlt2 : i + 1 < l.length := by omega
      have heq := v.eq
      rw [drop2 hlt2, parseF_esc h92] at heq
      have hc := byte_lt l[i + 1]
      rw [ixS_nat (List.getElem?_eq_getElem hlt2)]
      simp only [Option.bind_some]
      refine W.bind (W.mono (Q := fun o => match o with | .inl (x20, h11) => ∃ out', PInv g h 51 l x20 h11 (i + 2) out' | .inr (x21, x22, x23, h11) => PEnd g h 51 l x21 x22 x23 h11) ?_ ?_)
      rotate_left
      · rintro (⟨x20, h11⟩ | ⟨x21, x22, x23, h11⟩) hq
        · obtain ⟨out', v'⟩ := hq
          dsimp only
          rw [w64 (by omega) (by omega)]
          exact W.ret ⟨⟨i + 2, out', by dsimp only; omega, v'⟩, by dsimp only; omega⟩
        · exact W.ret hq
      have more : ∀ p : Part, signF l[i + 1] = some p → W ((app 51 3 32 g (h1.push (.cells (some 51) 2 (partC p))) x7 1 (.slice (some (h1.size, 0)) 1)).bind fun x => (some (.inl (x.1, x.2)) : Option ((Sl × AHeap) ⊕ (Sl × Int × Int × AHeap)))) (fun o => match o with | .inl (x20, h11) => ∃ out', PInv g h 51 l x20 h11 (i + 2) out' | .inr (x21, x22, x23, h11) => PEnd g h 51 l x21 x22 x23 h11) := by
        intro q hs
        rw [hs] at heq
        dsimp only at heq
        refine W.bind (W.mono (v.more (by omega) hfl hpr q (sign_bytes hs) (j := i + 2) (by omega) (by omega) (by rw [← v.eq]; exact heq) (Only.refl _ _)) ?_)
        rintro ⟨x25, h9⟩ v'
        exact W.ret ⟨_, v'⟩
      by_cases hd : 49 ≤ (l[i + 1].toNat : Int) ∧ (l[i + 1].toNat : Int) ≤ 57
      · rw [show (decide ((l[i + 1].toNat : Int) ≥ 49) && decide ((l[i + 1].toNat : Int) ≤ 57)) = true from by simp; omega]
        rw [w64 (x := (l[i + 1].toNat : Int)) (by omega) (by omega), w64 (by omega) (by omega)]
        exact more (1, (l[i + 1].toNat : Int) - 48, []) (by unfold signF; rw [if_pos hd])
      rw [show (decide ((l[i + 1].toNat : Int) ≥ 49) && decide ((l[i + 1].toNat : Int) ≤ 57)) = false from by rw [Bool.eq_false_iff]; simp; omega]
      simp only [iteB_false]
      rw [iteB_beq]
      split
      · rename_i c1
        exact more (2, 0, []) (by unfold signF; rw [if_neg hd, if_pos c1])
      rename_i c1
      rw [iteB_beq]
      split
      · rename_i c2
        exact more (3, 0, []) (by unfold signF; rw [if_neg hd, if_neg c1, if_pos c2])
      rename_i c2
      rw [iteB_beq]
      split
      · rename_i c3
        exact more (4, 0, []) (by unfold signF; rw [if_neg hd, if_neg c1, if_neg c2, if_pos c3])
      rename_i c3
      rw [iteB_beq]
      split
      · rename_i c4
        exact more (5, 0, []) (by unfold signF; rw [if_neg hd, if_neg c1, if_neg c2, if_neg c3, if_pos c4])
      rename_i c4
      rw [iteB_beq]
      split
      · rename_i c5
        exact more (6, 0, []) (by unfold signF; rw [if_neg hd, if_neg c1, if_neg c2, if_neg c3, if_neg c4, if_pos c5])
      rename_i c5
      have hs : signF l[i + 1] = none := by unfold signF; rw [if_neg hd, if_neg c1, if_neg c2, if_neg c3, if_neg c4, if_neg c5]
      rw [hs] at heq
      dsimp only at heq
      have eesc : ((((l[i + 1].toNat : Int) == 38) || ((l[i + 1].toNat : Int) == 92)) || ((l[i + 1].toNat : Int) == 47)) = escF l[i + 1] := by
        unfold escF; rw [Bool.eq_iff_iff]; simp; omega
      rw [eesc]
      refine W.ite (fun he => ?_) (fun he => ?_)
      · rw [he] at heq
        simp only [if_true] at heq
        have e2 : IntKind.i64.wrap ((i : Int) + 2) = ((i + 1 + 1 : Nat) : Int) := by rw [w64 (by omega) (by omega)]; omega
        rw [e2, sub1 hlt2]
        simp only [Option.bind_some]
        refine W.bind (W.mono (rtext_spec v.grow hn (by omega) (fun p hp => by have := v.bytes p hp; omega) hfl hpr l[i + 1]) ?_)
        rintro ⟨x26, h10⟩ ⟨w', n'⟩
        dsimp only at w' n'
        have := putB_length out [l[i + 1]]
        exact W.ret ⟨putB out [l[i + 1]], w', n', by omega, fun q hq => by have := putB_bytes v.bytes _ q hq; omega, by omega, heq⟩
      · rw [he] at heq
        exact W.ret (v.bad (by simpa using heq) (Only.refl _ _))
end Go.Abs.L
