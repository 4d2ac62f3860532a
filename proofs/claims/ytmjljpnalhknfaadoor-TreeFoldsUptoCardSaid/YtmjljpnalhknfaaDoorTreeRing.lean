/-
  TREE: what the ring of functions that ask each other tells.
-/
import Derived.Test.YtmjljpnalhknfaaDoorTreeAsk
namespace Go.Abs.L
open Go.Abs
set_option linter.unusedVariables false
set_option linter.unusedSimpArgs false

theorem ldM_of {h : AHeap} {id o : Nat} {gr : Option TypeId} {stt : Nat} {cs : List AVal} (hg : h.get id = some (.cells gr stt cs)) (hst : stt ≠ 0) {n : Option Nat} (hv : cs[o]? = some (.map n)) : ldM h (id, o) = some n := by
  simp [ldM, ld1_of hg hst hv, asM]
structure Ak where
  fl : Nat
  P0 : Nat
  A : Nat
  M : Nat
  sl : Sl
  root : Int
  ns : List Nd
  s : List UInt8
abbrev Ak.g (c : Ak) : Gd := ⟨c.fl, []⟩
structure Ak.I (c : Ak) (h : AHeap) : Prop where
  cell : h.get c.A = some (.cells none 2 [c.sl.v, .int .i64 c.root, .str c.s, .map (some c.M)])
  view : View cfg.P (· < c.P0) h 10 c.sl (c.ns.flatMap nodeC)
  map : ∃ es, h.get c.M = some (.map 2 es) ∧ ∀ e ∈ es, OkE c.ns c.s e
structure Ak.Ok (c : Ak) : Prop where
  fl : c.fl ≤ c.M
  p0 : c.P0 ≤ c.M
  am : c.A ≠ c.M
  len : c.s.length ≤ 1000000
  cnt : c.ns.length ≤ 1024
  may : ∀ (i : Nat) n, c.ns[i]? = some n → mayF n i = true
  set : ∀ (i : Nat) n, c.ns[i]? = some n → OkS n
theorem Ak.I.lt {c : Ak} {h : AHeap} (i : c.I h) : c.M < h.size := by obtain ⟨es, h1, _⟩ := i.map; exact h.lt_of_get h1
theorem Ak.I.keep {c : Ak} (ok : c.Ok) {h h' : AHeap} (i : c.I h) (k : Only none h h') : c.I h' := by
  have hlt := i.lt
  obtain ⟨es, h1, h2⟩ := i.map
  refine ⟨k.keep i.cell (by simp), i.view.keep (k.same fun id hi => ⟨?_, by simp⟩) (fun _ x => x), es, k.keep h1 (by simp), h2⟩
  have := ok.p0
  have hi : id < c.P0 := hi
  omega
/-- an answer -/
def Ak.Post (c : Ak) (h : AHeap) (a : Nat) (t : Int) (i j : Nat) (r : Bool × AHeap) : Prop := (r.1 = true ↔ Mt c.ns c.s a t i j) ∧ c.I r.2 ∧ Only (some c.M) h r.2
noncomputable abbrev Ring := rSC_tree_asker_does_1_s0
def Ak.AskOk (c : Ak) (n a : Nat) (t : Int) (i j : Nat) : Prop :=
  ∀ h, c.I h → W ((Ring n).M_tree_asker_asks c.g h (some (c.A, 0)) (qC a t i j)) (c.Post h a t i j)
def Ak.Valid (c : Ak) (a : Nat) (t : Int) (i j : Nat) : Prop :=
  a < c.ns.length ∧ i ≤ j ∧ j ≤ c.s.length ∧ 0 ≤ t ∧ t ≤ 255 ∧ ∀ n, c.ns[a]? = some n → n.k = 4 → 0 ≤ n.ma → t ≤ n.ma

/-- 'node' -/
theorem d1_spec {c : Ak} {n a : Nat} {i j : Nat} (hask : c.AskOk n a 0 i j) {h : AHeap} (hi : c.I h) {C : Nat} (hc : h.get C = some (.cells none 2 [.ptr (some (c.A, 0))])) :
    W ((Ring (n + 1)).M_tree_asker_does_1_s0 c.g h (a : Int) (i : Int) (j : Int) (C, 0)) (c.Post h a 0 i j) := by
  show W (B_tree_asker_does_1_s0 (Ring n) c.g h (a : Int) (i : Int) (j : Int) (C, 0)) _
  unfold B_tree_asker_does_1_s0
  rw [ldP_of hc (by simp) rfl]
  simp only [Option.bind_some]
  refine W.bind (W.mono (hask h hi) ?_)
  rintro ⟨b, h1⟩ hp
  exact W.ret hp
/-- what stands in the cells of a call of 'does' -/
structure Cells (c : Ak) (h : AHeap) (C Q N F : Nat) (a : Nat) (t : Int) (i j : Nat) (n : Nd) : Prop where
  ptr : h.get C = some (.cells none 2 [.ptr (some (c.A, 0))])
  q : h.get Q = some (.cells none 2 (qC a t i j))
  nd : h.get N = some (.cells none 2 (nodeC n))
  fn : h.get F = some (.cells none 2 [.func (.func 37) [] [.ptr (some (C, 0))]])
  cM : C ≠ c.M
  qM : Q ≠ c.M
  nM : N ≠ c.M
  fM : F ≠ c.M
theorem Cells.keep {c : Ak} {h h' : AHeap} {C Q N F : Nat} {a : Nat} {t : Int} {i j : Nat} {n : Nd} (x : Cells c h C Q N F a t i j n) (k : Only (some c.M) h h') : Cells c h' C Q N F a t i j n :=
  ⟨k.keep x.ptr (by simpa using x.cM), k.keep x.q (by simpa using x.qM), k.keep x.nd (by simpa using x.nM), k.keep x.fn (by simpa using x.fM), x.cM, x.qM, x.nM, x.fM⟩
theorem Cells.ldF {c : Ak} {h : AHeap} {C Q N F : Nat} {a : Nat} {t : Int} {i j : Nat} {n : Nd} (x : Cells c h C Q N F a t i j n) : ldF h (F, 0) 37 (cap asA capN) = some ((C, 0), ()) := by
  unfold Go.Abs.ldF
  rw [ld1_of x.fn (by simp) rfl]
  rfl
theorem Cells.na {c : Ak} {h : AHeap} {C Q N F : Nat} {a : Nat} {t : Int} {i j : Nat} {n : Nd} (x : Cells c h C Q N F a t i j n) : ldI h (N, 1) .i64 = some n.a := ldI_of x.nd (by simp) rfl
theorem Cells.nb {c : Ak} {h : AHeap} {C Q N F : Nat} {a : Nat} {t : Int} {i j : Nat} {n : Nd} (x : Cells c h C Q N F a t i j n) : ldI h (N, 2) .i64 = some n.b := ldI_of x.nd (by simp) rfl
theorem Cells.qi {c : Ak} {h : AHeap} {C Q N F : Nat} {a : Nat} {t : Int} {i j : Nat} {n : Nd} (x : Cells c h C Q N F a t i j n) : ldI h (Q, 2) .i64 = some (i : Int) := ldI_of x.q (by simp) rfl
theorem Cells.qj {c : Ak} {h : AHeap} {C Q N F : Nat} {a : Nat} {t : Int} {i j : Nat} {n : Nd} (x : Cells c h C Q N F a t i j n) : ldI h (Q, 3) .i64 = some (j : Int) := ldI_of x.q (by simp) rfl

theorem d2_spec {c : Ak} {m x k : Nat} {C Q N F : Nat} {a : Nat} {t : Int} {i j : Nat} {n : Nd} (hx : n.a = (x : Int)) (hask : c.AskOk m x 0 i k) {h : AHeap} (hi : c.I h) (cs : Cells c h C Q N F a t i j n) :
    W ((Ring (m + 2)).M_tree_asker_does_2_s0 c.g h (k : Int) (F, 0) (N, 0) (Q, 0)) (c.Post h x 0 i k) := by
  show W (B_tree_asker_does_2_s0 (Ring (m + 1)) c.g h (k : Int) (F, 0) (N, 0) (Q, 0)) _
  unfold B_tree_asker_does_2_s0
  simp only [cs.ldF, cs.na, cs.qi, Option.bind_some, Nat.zero_add, hx]
  refine W.bind (W.mono (d1_spec hask hi cs.ptr) ?_)
  rintro ⟨b, h1⟩ hp
  exact W.ret hp
theorem d3_spec {c : Ak} {m y k : Nat} {C Q N F : Nat} {a : Nat} {t : Int} {i j : Nat} {n : Nd} (hy : n.b = (y : Int)) (hask : c.AskOk m y 0 k j) {h : AHeap} (hi : c.I h) (cs : Cells c h C Q N F a t i j n) :
    W ((Ring (m + 2)).M_tree_asker_does_3_s0 c.g h (k : Int) (F, 0) (N, 0) (Q, 0)) (c.Post h y 0 k j) := by
  show W (B_tree_asker_does_3_s0 (Ring (m + 1)) c.g h (k : Int) (F, 0) (N, 0) (Q, 0)) _
  unfold B_tree_asker_does_3_s0
  simp only [cs.ldF, cs.nb, cs.qj, Option.bind_some, Nat.zero_add, hy]
  refine W.bind (W.mono (d1_spec hask hi cs.ptr) ?_)
  rintro ⟨b, h1⟩ hp
  exact W.ret hp
/-- 'cut' -/
theorem cut_spec {c : Ak} (ok : c.Ok) {m x y : Nat} {C Q N F : Nat} {a : Nat} {t : Int} {i j : Nat} {n : Nd} (hij : i ≤ j) (hjl : j ≤ c.s.length) (hx : n.a = (x : Int)) (hy : n.b = (y : Int))
    (ha : ∀ k, i ≤ k → k ≤ j → c.AskOk m x 0 i k) (hb : ∀ k, i ≤ k → k ≤ j → c.AskOk m y 0 k j) {h : AHeap} (hi : c.I h) (cs : Cells c h C Q N F a t i j n) (p0 : Option (Nat × Nat)) :
    W ((Ring (m + 3)).M_tree_asker_cut_s0 c.g h p0 (qC a t i j) (F, 0) (N, 0) (Q, 0) (F, 0) (N, 0) (Q, 0)) fun r => (r.1 = true ↔ ∃ k, Mt c.ns c.s x 0 i k ∧ Mt c.ns c.s y 0 k j) ∧ c.I r.2 ∧ Only (some c.M) h r.2 := by
  show W (B_tree_asker_cut_s0 (Ring (m + 2)) c.g h p0 (qC a t i j) (F, 0) (N, 0) (Q, 0) (F, 0) (N, 0) (Q, 0)) _
  have hML := hi.lt
  have hl := ok.len
  unfold B_tree_asker_cut_s0
  refine W.need rfl ?_
  simp only [Option.bind_some]
  obtain ⟨h1, e1⟩ : ∃ h1, h1 = h.push (.cells none 2 (qC a t i j)) := ⟨_, rfl⟩
  have k1 : Only none h h1 := by rw [e1]; exact Only.push _ _ _
  have g1 : h1.get h.size = some (.cells none 2 (qC a t i j)) := by rw [e1, AHeap.get_push_new]
  rw [← e1, ldI_of g1 (by simp) (show (qC a t i j)[2]? = some (.int .i64 (i : Int)) from rfl)]
  simp only [Option.bind_some]
  refine W.bind (W.mono (Q := fun o => (∃ h6, o = .inl h6 ∧ c.I h6 ∧ Only (some c.M) h h6 ∧ ¬ ∃ k, Mt c.ns c.s x 0 i k ∧ Mt c.ns c.s y 0 k j) ∨ (∃ h6, o = .inr (true, h6) ∧ c.I h6 ∧ Only (some c.M) h h6 ∧ ∃ k, Mt c.ns c.s x 0 i k ∧ Mt c.ns c.s y 0 k j)) ?_ ?_)
  · refine W.loop (fun st => ∃ k : Nat, st.1 = k ∧ i ≤ k ∧ k ≤ j + 1 ∧ c.I st.2 ∧ Only (some c.M) h st.2 ∧ Cells c st.2 C Q N F a t i j n ∧ st.2.get h.size = some (.cells none 2 (qC a t i j)) ∧ ∀ k', i ≤ k' → k' < k → ¬ (Mt c.ns c.s x 0 i k' ∧ Mt c.ns c.s y 0 k' j)) (fun st => j + 1 - st.1.toNat)
      ⟨i, rfl, Nat.le_refl _, by omega, hi.keep ok k1, k1.weaken _, cs.keep (k1.weaken _), g1, fun k' h1 h2 => by omega⟩ ?_
    rintro ⟨_, h2⟩ ⟨k, rfl, hik, hkj, i2, o2, c2, q2, no⟩
    dsimp only at i2 o2 c2 q2
    unfold M_tree_asker_cut_s0_L0
    dsimp only
    rw [ldI_of q2 (by simp) (show (qC a t i j)[3]? = some (.int .i64 (j : Int)) from rfl)]
    simp only [Option.bind_some]
    refine W.iteP (fun hle => ?_) (fun hgt => ?_)
    · have hle : k ≤ j := by omega
      refine W.bind (W.mono (d2_spec hx (ha k hik hle) i2 c2) ?_)
      rintro ⟨b1, h3⟩ ⟨p3, i3, o3⟩
      dsimp only at p3 i3 o3 ⊢
      have q3 : h3.get h.size = some (.cells none 2 (qC a t i j)) := o3.keep q2 (by simp; omega)
      cases b1
      · simp only [iteB_false, Option.bind_some]
        rw [ek64 (by omega)]
        refine W.ret ⟨⟨k + 1, rfl, by omega, by omega, i3, o2.trans o3, c2.keep o3, q3, fun k' h1 h2 => ?_⟩, by dsimp only; omega⟩
        by_cases hk : k' < k
        · exact no k' h1 hk
        · have : k' = k := by omega
          subst this
          exact fun hm => by have := p3.2 hm.1; cases this
      · simp only [iteB_true]
        refine W.bind (W.bind (W.mono (d3_spec hy (hb k hik hle) i3 (c2.keep o3)) ?_))
        rintro ⟨b2, h4⟩ ⟨p4, i4, o4⟩
        dsimp only at p4 i4 o4 ⊢
        refine W.ret ?_
        dsimp only
        cases b2
        · simp only [iteB_false]
          rw [ek64 (by omega)]
          refine W.ret ⟨⟨k + 1, rfl, by omega, by omega, i4, (o2.trans o3).trans o4, (c2.keep o3).keep o4, o4.keep q3 (by simp; omega), fun k' h1 h2 => ?_⟩, by dsimp only; omega⟩
          by_cases hk : k' < k
          · exact no k' h1 hk
          · have : k' = k := by omega
            subst this
            exact fun hm => by have := p4.2 hm.2; cases this
        · simp only [iteB_true]
          exact W.ret (.inr ⟨h4, rfl, i4, (o2.trans o3).trans o4, k, p3.1 rfl, p4.1 rfl⟩)
    · refine W.ret (.inl ⟨h2, rfl, i2, o2, ?_⟩)
      rintro ⟨k', m1, m2⟩
      have := m1.le
      have := m2.le
      exact no k' (by omega) (by omega) ⟨m1, m2⟩
  · rintro o (⟨h6, rfl, i6, o6, no⟩ | ⟨h6, rfl, i6, o6, yes⟩)
    · exact W.ret ⟨by simp only [Bool.false_eq_true, false_iff]; exact no, i6, o6⟩
    · exact W.ret ⟨by simp only [true_iff]; exact yes, i6, o6⟩
end Go.Abs.L
