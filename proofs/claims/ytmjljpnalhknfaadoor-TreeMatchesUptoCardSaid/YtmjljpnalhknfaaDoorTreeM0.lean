/-
  TREE: what a tree matches: the program's asker.
-/
import Derived.Test.YtmjljpnalhknfaaDoorTreeSet
import Derived.Test.YtmjljpnalhknfaaDoorLtreex1
namespace Go.Abs.L
open Go.Abs
set_option linter.unusedVariables false
set_option linter.unusedSimpArgs false

def nextT (n : Nd) (t : Int) : Int := if n.ma < 0 then (if t + 1 ≤ n.mi then t + 1 else n.mi) else t + 1
/-- a node matches between two places; a repeat, behind so many turns -/
inductive Mt (ns : List Nd) (s : List UInt8) : Nat → Int → Nat → Nat → Prop where
  | empty {a : Nat} {n : Nd} {t : Int} {i : Nat} : ns[a]? = some n → n.k = 0 → Mt ns s a t i i
  | one {a : Nat} {n : Nd} {t : Int} {i : Nat} {b : UInt8} : ns[a]? = some n → n.k = 1 → s[i]? = some b → hasB n b.toNat = true → Mt ns s a t i (i + 1)
  | front {a : Nat} {n : Nd} {t : Int} : ns[a]? = some n → n.k = 6 → Mt ns s a t 0 0
  | back {a : Nat} {n : Nd} {t : Int} : ns[a]? = some n → n.k = 7 → Mt ns s a t s.length s.length
  | altL {a x : Nat} {n : Nd} {t : Int} {i j : Nat} : ns[a]? = some n → n.k = 3 → n.a = x → Mt ns s x 0 i j → Mt ns s a t i j
  | altR {a x : Nat} {n : Nd} {t : Int} {i j : Nat} : ns[a]? = some n → n.k = 3 → n.b = x → Mt ns s x 0 i j → Mt ns s a t i j
  | group {a x : Nat} {n : Nd} {t : Int} {i j : Nat} : ns[a]? = some n → n.k = 5 → n.a = x → Mt ns s x 0 i j → Mt ns s a t i j
  | cat {a x y : Nat} {n : Nd} {t : Int} {i k j : Nat} : ns[a]? = some n → n.k = 2 → n.a = x → n.b = y → Mt ns s x 0 i k → Mt ns s y 0 k j → Mt ns s a t i j
  | repEnd {a : Nat} {n : Nd} {t : Int} {i : Nat} : ns[a]? = some n → n.k = 4 → n.mi ≤ t → Mt ns s a t i i
  | repStep {a x : Nat} {n : Nd} {t : Int} {i k j : Nat} : ns[a]? = some n → n.k = 4 → n.a = x → t ≠ n.ma → (k = i → t < n.mi) → Mt ns s x 0 i k → Mt ns s a (nextT n t) k j → Mt ns s a t i j
theorem Mt.le {ns : List Nd} {s : List UInt8} {a : Nat} {t : Int} {i j : Nat} (m : Mt ns s a t i j) : i ≤ j := by
  induction m <;> omega

/-! ### questions -/
def qC (a : Nat) (t : Int) (i j : Nat) : List AVal := [.int .i64 (a : Int), .int .i64 t, .int .i64 (i : Int), .int .i64 (j : Int)]
theorem eqQ_ch (a1 a2 a3 a4 b1 b2 b3 b4 : Int) : eqA cfg.P 10000 63 (.agg [.int .i64 a1, .int .i64 a2, .int .i64 a3, .int .i64 a4]) (.agg [.int .i64 b1, .int .i64 b2, .int .i64 b3, .int .i64 b4]) = ch (a1 == b1) (ch (a2 == b2) (ch (a3 == b3) (ch (a4 == b4) (some true)))) := by
  kernel_rfl
theorem eqQ (a : Nat) (t : Int) (i j a' : Nat) (t' : Int) (i' j' : Nat) : eqA cfg.P 10000 63 (.agg (qC a t i j)) (.agg (qC a' t' i' j')) = some (decide (a = a' ∧ t = t' ∧ i = i' ∧ j = j')) := by
  unfold qC
  rw [eqQ_ch]
  simp only [ch_eq]
  congr 1
  rw [Bool.eq_iff_iff]
  simp
  omega
theorem sameQ (a : Nat) (t : Int) (i j : Nat) : sameA (.agg (qC a t i j)) (.agg (qC a t i j)) = true := by
  simp [sameA, qC, same1]
theorem keyQ (a : Nat) (t : Int) (i j : Nat) : keyOkA cfg.P 20 63 (.agg (qC a t i j)) = true := by kernel_rfl
/-- what is told is right -/
def OkE (ns : List Nd) (s : List UInt8) (e : AVal × AVal) : Prop := ∃ a t i j b, e = (.agg (qC a t i j), .bool b) ∧ (b = true ↔ Mt ns s a t i j)
theorem find_ok {ns : List Nd} {s : List UInt8} (a : Nat) (t : Int) (i j : Nat) : ∀ (es : List (AVal × AVal)) (k0 : Nat), (∀ e ∈ es, OkE ns s e) →
    findA cfg.P 63 (.agg (qC a t i j)) es k0 = some none ∨ ∃ k b, findA cfg.P 63 (.agg (qC a t i j)) es k0 = some (some (k0 + k, .bool b)) ∧ (b = true ↔ Mt ns s a t i j) ∧ es[k]? = some (.agg (qC a t i j), .bool b)
  | [], k0, _ => .inl rfl
  | e :: es, k0, h => by
    obtain ⟨a', t', i', j', b, rfl, hb⟩ := h e (by simp)
    unfold findA
    rw [eqQ]
    by_cases he : a = a' ∧ t = t' ∧ i = i' ∧ j = j'
    · rw [decide_eq_true he]
      obtain ⟨rfl, rfl, rfl, rfl⟩ := he
      exact .inr ⟨0, b, rfl, hb, rfl⟩
    · rw [decide_eq_false he]
      rcases find_ok a t i j es (k0 + 1) (fun e he => h e (by simp [he])) with h1 | ⟨k, b', h1, h2, h3⟩
      · exact .inl h1
      · exact .inr ⟨k + 1, b', by rw [h1, show k0 + 1 + k = k0 + (k + 1) from by omega], h2, by simpa using h3⟩
theorem ask_look {ns : List Nd} {s : List UInt8} {h : AHeap} {M : Nat} {es : List (AVal × AVal)} (hg : h.get M = some (.map 2 es)) (ok : ∀ e ∈ es, OkE ns s e) (a : Nat) (t : Int) (i j : Nat) :
    mpL cfg.P h 58 (some M) (.agg (qC a t i j)) = some (.bool false, false) ∨ ∃ b, mpL cfg.P h 58 (some M) (.agg (qC a t i j)) = some (.bool b, true) ∧ (b = true ↔ Mt ns s a t i j) := by
  have hm : mpE h (some M) = some es := by simp [mpE, hg]
  have hu : cfg.P.underlying 58 = some (.map 63 4) := by kernel_rfl
  have hz : zeroA cfg.P 4 = some (.bool false) := by kernel_rfl
  unfold mpL
  rw [hu]
  simp only [keyQ, if_true, hm]
  rcases find_ok (ns := ns) (s := s) a t i j es 0 ok with h1 | ⟨k, b, h1, h2, _⟩
  · rw [h1]; exact .inl (by simp only [hz, Option.map_some])
  · rw [h1]; exact .inr ⟨b, rfl, h2⟩
theorem ask_put {ns : List Nd} {s : List UInt8} {g : Gd} {h : AHeap} {M : Nat} {es : List (AVal × AVal)} (hg : h.get M = some (.map 2 es)) (hm : g.may M = true) (ok : ∀ e ∈ es, OkE ns s e) (a : Nat) (t : Int) (i j : Nat) {b : Bool} (hb : b = true ↔ Mt ns s a t i j) :
    ∃ es', mpS cfg.P g h 58 (some M) (.agg (qC a t i j)) (.bool b) = some (h.set M (.map 2 es')) ∧ ∀ e ∈ es', OkE ns s e := by
  have hu : cfg.P.underlying 58 = some (.map 63 4) := by kernel_rfl
  unfold mpS mapSetA
  rw [hu]
  simp only [keyQ, hm, and_self, if_true, hg]
  rcases find_ok (ns := ns) (s := s) a t i j es 0 ok with h1 | ⟨k, b', h1, h2, h3⟩
  · rw [h1]
    refine ⟨_, rfl, fun e he => ?_⟩
    rcases List.mem_append.1 he with he | he
    · exact ok e he
    · rw [List.mem_singleton.1 he]
      exact ⟨a, t, i, j, b, rfl, hb⟩
  · rw [h1, show 0 + k = k from by omega]
    simp only [h3, sameQ, if_true]
    refine ⟨_, rfl, fun e he => ?_⟩
    rcases List.mem_or_eq_of_mem_set he with he | he
    · exact ok e he
    · rw [he]
      exact ⟨a, t, i, j, b, rfl, hb⟩
end Go.Abs.L
namespace Go.Abs.L
open Go.Abs
set_option linter.unusedVariables false
set_option linter.unusedSimpArgs false

theorem ldM_of {h : AHeap} {id o : Nat} {gr : Option TypeId} {stt : Nat} {cs : List AVal} (hg : h.get id = some (.cells gr stt cs)) (hst : stt ≠ 0) {n : Option Nat} (hv : cs[o]? = some (.map n)) : ldM h (id, o) = some n := by
  simp [ldM, ld1_of hg hst hv, asM]
structure Ak where
  fl : Nat
  P0 : Nat
  A : Nat
  M : Nat
  sl : Sl
  root : Int
  ns : List Nd
  s : List UInt8
abbrev Ak.g (c : Ak) : Gd := ⟨c.fl, []⟩
structure Ak.I (c : Ak) (h : AHeap) : Prop where
  cell : h.get c.A = some (.cells none 2 [c.sl.v, .int .i64 c.root, .str c.s, .map (some c.M)])
  view : View cfg.P (· < c.P0) h 10 c.sl (c.ns.flatMap nodeC)
  map : ∃ es, h.get c.M = some (.map 2 es) ∧ ∀ e ∈ es, OkE c.ns c.s e
structure Ak.Ok (c : Ak) : Prop where
  fl : c.fl ≤ c.M
  p0 : c.P0 ≤ c.M
  am : c.A ≠ c.M
  len : c.s.length ≤ 1000000
  cnt : c.ns.length ≤ 1024
  may : ∀ (i : Nat) n, c.ns[i]? = some n → mayF n i = true
  set : ∀ (i : Nat) n, c.ns[i]? = some n → OkS n
theorem Ak.I.lt {c : Ak} {h : AHeap} (i : c.I h) : c.M < h.size := by obtain ⟨es, h1, _⟩ := i.map; exact h.lt_of_get h1
theorem Ak.I.keep {c : Ak} (ok : c.Ok) {h h' : AHeap} (i : c.I h) (k : Only none h h') : c.I h' := by
  have hlt := i.lt
  obtain ⟨es, h1, h2⟩ := i.map
  refine ⟨k.keep i.cell (by simp), i.view.keep (k.same fun id hi => ⟨?_, by simp⟩) (fun _ x => x), es, k.keep h1 (by simp), h2⟩
  have := ok.p0
  have hi : id < c.P0 := hi
  omega
/-- an answer -/
def Ak.Post (c : Ak) (h : AHeap) (a : Nat) (t : Int) (i j : Nat) (r : Bool × AHeap) : Prop := (r.1 = true ↔ Mt c.ns c.s a t i j) ∧ c.I r.2 ∧ Only (some c.M) h r.2
noncomputable abbrev Ring := rSC_tree_asker_does_1_s0
def Ak.AskOk (c : Ak) (n a : Nat) (t : Int) (i j : Nat) : Prop :=
  ∀ h, c.I h → W ((Ring n).M_tree_asker_asks c.g h (some (c.A, 0)) (qC a t i j)) (c.Post h a t i j)
def Ak.Valid (c : Ak) (a : Nat) (t : Int) (i j : Nat) : Prop :=
  a < c.ns.length ∧ i ≤ j ∧ j ≤ c.s.length ∧ 0 ≤ t ∧ t ≤ 255 ∧ ∀ n, c.ns[a]? = some n → n.k = 4 → 0 ≤ n.ma → t ≤ n.ma

/-- 'node' -/
theorem d1_spec {c : Ak} {n a : Nat} {i j : Nat} (hask : c.AskOk n a 0 i j) {h : AHeap} (hi : c.I h) {C : Nat} (hc : h.get C = some (.cells none 2 [.ptr (some (c.A, 0))])) :
    W ((Ring (n + 1)).M_tree_asker_does_1_s0 c.g h (a : Int) (i : Int) (j : Int) (C, 0)) (c.Post h a 0 i j) := by
  show W (B_tree_asker_does_1_s0 (Ring n) c.g h (a : Int) (i : Int) (j : Int) (C, 0)) _
  unfold B_tree_asker_does_1_s0
  rw [ldP_of hc (by simp) rfl]
  simp only [Option.bind_some]
  refine W.bind (W.mono (hask h hi) ?_)
  rintro ⟨b, h1⟩ hp
  exact W.ret hp
/-- what stands in the cells of a call of 'does' -/
structure Cells (c : Ak) (h : AHeap) (C Q N F : Nat) (a : Nat) (t : Int) (i j : Nat) (n : Nd) : Prop where
  ptr : h.get C = some (.cells none 2 [.ptr (some (c.A, 0))])
  q : h.get Q = some (.cells none 2 (qC a t i j))
  nd : h.get N = some (.cells none 2 (nodeC n))
  fn : h.get F = some (.cells none 2 [.func (.func 37) [] [.ptr (some (C, 0))]])
  cM : C ≠ c.M
  qM : Q ≠ c.M
  nM : N ≠ c.M
  fM : F ≠ c.M
theorem Cells.keep {c : Ak} {h h' : AHeap} {C Q N F : Nat} {a : Nat} {t : Int} {i j : Nat} {n : Nd} (x : Cells c h C Q N F a t i j n) (k : Only (some c.M) h h') : Cells c h' C Q N F a t i j n :=
  ⟨k.keep x.ptr (by simpa using x.cM), k.keep x.q (by simpa using x.qM), k.keep x.nd (by simpa using x.nM), k.keep x.fn (by simpa using x.fM), x.cM, x.qM, x.nM, x.fM⟩
theorem Cells.ldF {c : Ak} {h : AHeap} {C Q N F : Nat} {a : Nat} {t : Int} {i j : Nat} {n : Nd} (x : Cells c h C Q N F a t i j n) : ldF h (F, 0) 37 (cap asA capN) = some ((C, 0), ()) := by
  unfold Go.Abs.ldF
  rw [ld1_of x.fn (by simp) rfl]
  rfl
theorem Cells.na {c : Ak} {h : AHeap} {C Q N F : Nat} {a : Nat} {t : Int} {i j : Nat} {n : Nd} (x : Cells c h C Q N F a t i j n) : ldI h (N, 1) .i64 = some n.a := ldI_of x.nd (by simp) rfl
theorem Cells.nb {c : Ak} {h : AHeap} {C Q N F : Nat} {a : Nat} {t : Int} {i j : Nat} {n : Nd} (x : Cells c h C Q N F a t i j n) : ldI h (N, 2) .i64 = some n.b := ldI_of x.nd (by simp) rfl
theorem Cells.qi {c : Ak} {h : AHeap} {C Q N F : Nat} {a : Nat} {t : Int} {i j : Nat} {n : Nd} (x : Cells c h C Q N F a t i j n) : ldI h (Q, 2) .i64 = some (i : Int) := ldI_of x.q (by simp) rfl
theorem Cells.qj {c : Ak} {h : AHeap} {C Q N F : Nat} {a : Nat} {t : Int} {i j : Nat} {n : Nd} (x : Cells c h C Q N F a t i j n) : ldI h (Q, 3) .i64 = some (j : Int) := ldI_of x.q (by simp) rfl

theorem d2_spec {c : Ak} {m x k : Nat} {C Q N F : Nat} {a : Nat} {t : Int} {i j : Nat} {n : Nd} (hx : n.a = (x : Int)) (hask : c.AskOk m x 0 i k) {h : AHeap} (hi : c.I h) (cs : Cells c h C Q N F a t i j n) :
    W ((Ring (m + 2)).M_tree_asker_does_2_s0 c.g h (k : Int) (F, 0) (N, 0) (Q, 0)) (c.Post h x 0 i k) := by
  show W (B_tree_asker_does_2_s0 (Ring (m + 1)) c.g h (k : Int) (F, 0) (N, 0) (Q, 0)) _
  unfold B_tree_asker_does_2_s0
  simp only [cs.ldF, cs.na, cs.qi, Option.bind_some, Nat.zero_add, hx]
  refine W.bind (W.mono (d1_spec hask hi cs.ptr) ?_)
  rintro ⟨b, h1⟩ hp
  exact W.ret hp
theorem d3_spec {c : Ak} {m y k : Nat} {C Q N F : Nat} {a : Nat} {t : Int} {i j : Nat} {n : Nd} (hy : n.b = (y : Int)) (hask : c.AskOk m y 0 k j) {h : AHeap} (hi : c.I h) (cs : Cells c h C Q N F a t i j n) :
    W ((Ring (m + 2)).M_tree_asker_does_3_s0 c.g h (k : Int) (F, 0) (N, 0) (Q, 0)) (c.Post h y 0 k j) := by
  show W (B_tree_asker_does_3_s0 (Ring (m + 1)) c.g h (k : Int) (F, 0) (N, 0) (Q, 0)) _
  unfold B_tree_asker_does_3_s0
  simp only [cs.ldF, cs.nb, cs.qj, Option.bind_some, Nat.zero_add, hy]
  refine W.bind (W.mono (d1_spec hask hi cs.ptr) ?_)
  rintro ⟨b, h1⟩ hp
  exact W.ret hp
/-- 'cut' -/
theorem cut_spec {c : Ak} (ok : c.Ok) {m x y : Nat} {C Q N F : Nat} {a : Nat} {t : Int} {i j : Nat} {n : Nd} (hij : i ≤ j) (hjl : j ≤ c.s.length) (hx : n.a = (x : Int)) (hy : n.b = (y : Int))
    (ha : ∀ k, i ≤ k → k ≤ j → c.AskOk m x 0 i k) (hb : ∀ k, i ≤ k → k ≤ j → c.AskOk m y 0 k j) {h : AHeap} (hi : c.I h) (cs : Cells c h C Q N F a t i j n) (p0 : Option (Nat × Nat)) :
    W ((Ring (m + 3)).M_tree_asker_cut_s0 c.g h p0 (qC a t i j) (F, 0) (N, 0) (Q, 0) (F, 0) (N, 0) (Q, 0)) fun r => (r.1 = true ↔ ∃ k, Mt c.ns c.s x 0 i k ∧ Mt c.ns c.s y 0 k j) ∧ c.I r.2 ∧ Only (some c.M) h r.2 := by
  show W (B_tree_asker_cut_s0 (Ring (m + 2)) c.g h p0 (qC a t i j) (F, 0) (N, 0) (Q, 0) (F, 0) (N, 0) (Q, 0)) _
  have hML := hi.lt
  have hl := ok.len
  unfold B_tree_asker_cut_s0
  refine W.need rfl ?_
  simp only [Option.bind_some]
  obtain ⟨h1, e1⟩ : ∃ h1, h1 = h.push (.cells none 2 (qC a t i j)) := ⟨_, rfl⟩
  have k1 : Only none h h1 := by rw [e1]; exact Only.push _ _ _
  have g1 : h1.get h.size = some (.cells none 2 (qC a t i j)) := by rw [e1, AHeap.get_push_new]
  rw [← e1, ldI_of g1 (by simp) (show (qC a t i j)[2]? = some (.int .i64 (i : Int)) from rfl)]
  simp only [Option.bind_some]
  refine W.bind (W.mono (Q := fun o => (∃ h6, o = .inl h6 ∧ c.I h6 ∧ Only (some c.M) h h6 ∧ ¬ ∃ k, Mt c.ns c.s x 0 i k ∧ Mt c.ns c.s y 0 k j) ∨ (∃ h6, o = .inr (true, h6) ∧ c.I h6 ∧ Only (some c.M) h h6 ∧ ∃ k, Mt c.ns c.s x 0 i k ∧ Mt c.ns c.s y 0 k j)) ?_ ?_)
  · refine W.loop (fun st => ∃ k : Nat, st.1 = k ∧ i ≤ k ∧ k ≤ j + 1 ∧ c.I st.2 ∧ Only (some c.M) h st.2 ∧ Cells c st.2 C Q N F a t i j n ∧ st.2.get h.size = some (.cells none 2 (qC a t i j)) ∧ ∀ k', i ≤ k' → k' < k → ¬ (Mt c.ns c.s x 0 i k' ∧ Mt c.ns c.s y 0 k' j)) (fun st => j + 1 - st.1.toNat)
      ⟨i, rfl, Nat.le_refl _, by omega, hi.keep ok k1, k1.weaken _, cs.keep (k1.weaken _), g1, fun k' h1 h2 => by omega⟩ ?_
    rintro ⟨_, h2⟩ ⟨k, rfl, hik, hkj, i2, o2, c2, q2, no⟩
    dsimp only at i2 o2 c2 q2
    unfold M_tree_asker_cut_s0_L0
    dsimp only
    rw [ldI_of q2 (by simp) (show (qC a t i j)[3]? = some (.int .i64 (j : Int)) from rfl)]
    simp only [Option.bind_some]
    refine W.iteP (fun hle => ?_) (fun hgt => ?_)
    · have hle : k ≤ j := by omega
      refine W.bind (W.mono (d2_spec hx (ha k hik hle) i2 c2) ?_)
      rintro ⟨b1, h3⟩ ⟨p3, i3, o3⟩
      dsimp only at p3 i3 o3 ⊢
      have q3 : h3.get h.size = some (.cells none 2 (qC a t i j)) := o3.keep q2 (by simp; omega)
      cases b1
      · simp only [iteB_false, Option.bind_some]
        rw [ek64 (by omega)]
        refine W.ret ⟨⟨k + 1, rfl, by omega, by omega, i3, o2.trans o3, c2.keep o3, q3, fun k' h1 h2 => ?_⟩, by dsimp only; omega⟩
        by_cases hk : k' < k
        · exact no k' h1 hk
        · have : k' = k := by omega
          subst this
          exact fun hm => by have := p3.2 hm.1; cases this
      · simp only [iteB_true]
        refine W.bind (W.bind (W.mono (d3_spec hy (hb k hik hle) i3 (c2.keep o3)) ?_))
        rintro ⟨b2, h4⟩ ⟨p4, i4, o4⟩
        dsimp only at p4 i4 o4 ⊢
        refine W.ret ?_
        dsimp only
        cases b2
        · simp only [iteB_false]
          rw [ek64 (by omega)]
          refine W.ret ⟨⟨k + 1, rfl, by omega, by omega, i4, (o2.trans o3).trans o4, (c2.keep o3).keep o4, o4.keep q3 (by simp; omega), fun k' h1 h2 => ?_⟩, by dsimp only; omega⟩
          by_cases hk : k' < k
          · exact no k' h1 hk
          · have : k' = k := by omega
            subst this
            exact fun hm => by have := p4.2 hm.2; cases this
        · simp only [iteB_true]
          exact W.ret (.inr ⟨h4, rfl, i4, (o2.trans o3).trans o4, k, p3.1 rfl, p4.1 rfl⟩)
    · refine W.ret (.inl ⟨h2, rfl, i2, o2, ?_⟩)
      rintro ⟨k', m1, m2⟩
      have := m1.le
      have := m2.le
      exact no k' (by omega) (by omega) ⟨m1, m2⟩
  · rintro o (⟨h6, rfl, i6, o6, no⟩ | ⟨h6, rfl, i6, o6, yes⟩)
    · exact W.ret ⟨by simp only [Bool.false_eq_true, false_iff]; exact no, i6, o6⟩
    · exact W.ret ⟨by simp only [true_iff]; exact yes, i6, o6⟩
end Go.Abs.L
namespace Go.Abs.L
open Go.Abs
set_option linter.unusedVariables false
set_option linter.unusedSimpArgs false

theorem mt_rep {ns : List Nd} {s : List UInt8} {a x : Nat} {n : Nd} {t : Int} {i j : Nat} (hn : ns[a]? = some n) (h4 : n.k = 4) (hx : n.a = (x : Int)) :
    Mt ns s a t i j ↔ (i = j ∧ n.mi ≤ t) ∨ (t ≠ n.ma ∧ ∃ k, (k = i → t < n.mi) ∧ Mt ns s x 0 i k ∧ Mt ns s a (nextT n t) k j) := by
  constructor
  · intro m
    cases m with
    | empty h1 h2 => rw [hn] at h1; cases h1; omega
    | one h1 h2 => rw [hn] at h1; cases h1; omega
    | front h1 h2 => rw [hn] at h1; cases h1; omega
    | back h1 h2 => rw [hn] at h1; cases h1; omega
    | altL h1 h2 => rw [hn] at h1; cases h1; omega
    | altR h1 h2 => rw [hn] at h1; cases h1; omega
    | group h1 h2 => rw [hn] at h1; cases h1; omega
    | cat h1 h2 => rw [hn] at h1; cases h1; omega
    | repEnd h1 h2 h3 => rw [hn] at h1; cases h1; exact .inl ⟨rfl, h3⟩
    | @repStep _ x' n' _ _ k _ h1 h2 h3 h5 h6 m1 m2 =>
      rw [hn] at h1; cases h1
      have : x' = x := by omega
      subst this
      exact .inr ⟨h5, k, h6, m1, m2⟩
  · rintro (⟨rfl, h⟩ | ⟨h, k, h1, m1, m2⟩)
    · exact .repEnd hn h4 h
    · exact .repStep hn h4 hx h h1 m1 m2
theorem rep_spec {c : Ak} (ok : c.Ok) {m x : Nat} {a : Nat} {t : Int} {i j : Nat} {n : Nd} (hn : c.ns[a]? = some n) (h4 : n.k = 4) (hij : i ≤ j) (hjl : j ≤ c.s.length) (ht : 0 ≤ t ∧ t ≤ 255) (hx : n.a = (x : Int))
    (ha : ∀ k, i ≤ k → k ≤ j → c.AskOk m x 0 i k) (hb : ∀ k, i ≤ k → k ≤ j → t ≠ n.ma → (k = i → t < n.mi) → c.AskOk m a (nextT n t) k j) {h : AHeap} (hi : c.I h) :
    W ((Ring (m + 1)).M_tree_asker_repeats c.g h (some (c.A, 0)) (qC a t i j) (nodeC n)) (c.Post h a t i j) := by
  show W (B_tree_asker_repeats (Ring m) c.g h (some (c.A, 0)) (qC a t i j) (nodeC n)) _
  have hML := hi.lt
  have hl := ok.len
  have hmt := @mt_rep c.ns c.s a x n t i j hn h4 hx
  unfold B_tree_asker_repeats
  refine W.need rfl ?_
  simp only [Option.bind_some]
  refine W.need rfl ?_
  obtain ⟨h1, e1⟩ : ∃ h1, h1 = h.push (.cells none 2 (qC a t i j)) := ⟨_, rfl⟩
  obtain ⟨h2, e2⟩ : ∃ h2, h2 = h1.push (.cells none 2 (nodeC n)) := ⟨_, rfl⟩
  have z1 : h1.size = h.size + 1 := by rw [e1]; rfl
  have k2 : Only none h h2 := by rw [e2, e1]; exact (Only.push _ _ _).trans (Only.push _ _ _)
  have gq : h2.get h.size = some (.cells none 2 (qC a t i j)) := by rw [e2, AHeap.get_push_old _ _ (by omega), e1, AHeap.get_push_new]
  have gn : h2.get h1.size = some (.cells none 2 (nodeC n)) := by rw [e2, AHeap.get_push_new]
  rw [← e1, ← e2]
  have l1 : ldI h2 (h.size, 1) .i64 = some t := ldI_of gq (by simp) rfl
  have l2 : ldI h2 (h.size, 2) .i64 = some (i : Int) := ldI_of gq (by simp) rfl
  have l3 : ldI h2 (h.size, 3) .i64 = some (j : Int) := ldI_of gq (by simp) rfl
  have lmi : ldI h2 (h1.size, 3) .i64 = some n.mi := ldI_of gn (by simp) rfl
  have lma : ldI h2 (h1.size, 4) .i64 = some n.ma := ldI_of gn (by simp) rfl
  simp only [l1, l2, l3, lmi, lma, Option.bind_some]
  rw [iteB_and]
  simp only [Option.bind_some]
  refine W.ite (fun hend => ?_) (fun hno => ?_)
  · simp only [Bool.and_eq_true, decide_eq_true_eq, beq_iff_eq] at hend
    exact W.ret ⟨by simp only [true_iff]; exact hmt.2 (.inl ⟨by omega, by omega⟩), hi.keep ok k2, k2.weaken _⟩
  have hno : ¬ (i = j ∧ n.mi ≤ t) := by
    intro hx
    rw [Bool.eq_false_iff] at hno
    exact hno (by simp only [Bool.and_eq_true, decide_eq_true_eq, beq_iff_eq]; omega)
  rw [iteB_beq]
  split
  · rename_i hma
    exact W.ret ⟨by simp only [Bool.false_eq_true, false_iff]; exact fun hm => by rcases hmt.1 hm with h | ⟨h, _⟩; exact hno h; exact h hma, hi.keep ok k2, k2.weaken _⟩
  rename_i hma
  have ext : IntKind.i64.wrap (t + 1) = t + 1 := w64 (by omega) (by omega)
  have enx : (iteB (decide (n.ma < 0)) (some (mn (IntKind.i64.wrap (t + 1)) n.mi)) (some (IntKind.i64.wrap (t + 1))) : Option Int) = some (nextT n t) := by
    rw [ext]
    unfold nextT mn
    by_cases h : n.ma < 0
    · rw [decide_eq_true h, if_pos h, iteB_true]
      congr 1
      split <;> split <;> omega
    · rw [decide_eq_false h, if_neg h, iteB_false]
  rw [enx]
  simp only [Option.bind_some]
  refine W.bind (W.mono (Q := fun o => (∃ h6, o = .inl h6 ∧ c.I h6 ∧ Only (some c.M) h h6 ∧ ¬ ∃ k, (k = i → t < n.mi) ∧ Mt c.ns c.s x 0 i k ∧ Mt c.ns c.s a (nextT n t) k j) ∨ (∃ h6, o = .inr (true, h6) ∧ c.I h6 ∧ Only (some c.M) h h6 ∧ ∃ k, (k = i → t < n.mi) ∧ Mt c.ns c.s x 0 i k ∧ Mt c.ns c.s a (nextT n t) k j)) ?_ ?_)
  · refine W.loop (fun st => ∃ k : Nat, st.1 = k ∧ i ≤ k ∧ k ≤ j + 1 ∧ c.I st.2 ∧ Only (some c.M) h st.2 ∧ st.2.get h.size = some (.cells none 2 (qC a t i j)) ∧ st.2.get h1.size = some (.cells none 2 (nodeC n)) ∧ ∀ k', i ≤ k' → k' < k → ¬ ((k' = i → t < n.mi) ∧ Mt c.ns c.s x 0 i k' ∧ Mt c.ns c.s a (nextT n t) k' j)) (fun st => j + 1 - st.1.toNat)
      ⟨i, rfl, Nat.le_refl _, by omega, hi.keep ok k2, k2.weaken _, gq, gn, fun k' h1 h2 => by omega⟩ ?_
    rintro ⟨_, h3⟩ ⟨k, rfl, hik, hkj, i3, o3, q3, n3, no⟩
    dsimp only at i3 o3 q3 n3
    unfold M_tree_asker_repeats_L0
    dsimp only
    have l0 : ldI h3 (h.size, 0) .i64 = some (a : Int) := ldI_of q3 (by simp) rfl
    have l1 : ldI h3 (h.size, 1) .i64 = some t := ldI_of q3 (by simp) rfl
    have l2 : ldI h3 (h.size, 2) .i64 = some (i : Int) := ldI_of q3 (by simp) rfl
    have l3 : ldI h3 (h.size, 3) .i64 = some (j : Int) := ldI_of q3 (by simp) rfl
    have lmi : ldI h3 (h1.size, 3) .i64 = some n.mi := ldI_of n3 (by simp) rfl
    have lna : ldI h3 (h1.size, 1) .i64 = some (x : Int) := by rw [← hx]; exact ldI_of n3 (by simp) rfl
    simp only [l0, l1, l2, l3, lmi, lna, Option.bind_some]
    refine W.iteP (fun hle => ?_) (fun hgt => ?_)
    · have hle : k ≤ j := by omega
      rw [iteB_and]
      simp only [Option.bind_some]
      rw [ek64 (by omega)]
      refine W.bind (W.mono (Q := fun o => (∃ h7, o = .inl h7 ∧ c.I h7 ∧ Only (some c.M) h3 h7 ∧ ¬ ((k = i → t < n.mi) ∧ Mt c.ns c.s x 0 i k ∧ Mt c.ns c.s a (nextT n t) k j)) ∨ (∃ h7, o = .inr (true, h7) ∧ c.I h7 ∧ Only (some c.M) h3 h7 ∧ ((k = i → t < n.mi) ∧ Mt c.ns c.s x 0 i k ∧ Mt c.ns c.s a (nextT n t) k j))) ?_ ?_)
      · refine W.ite (fun hskip => ?_) (fun hgo => ?_)
        · simp only [Bool.and_eq_true, decide_eq_true_eq, beq_iff_eq] at hskip
          exact W.ret (.inl ⟨h3, rfl, i3, Only.refl _ _, fun hm => by have := hm.1 (by omega); omega⟩)
        · have hgo : k = i → t < n.mi := by
            intro hk
            rw [Bool.eq_false_iff] at hgo
            refine Int.not_le.1 fun hc => hgo ?_
            simp only [Bool.and_eq_true, decide_eq_true_eq, beq_iff_eq]; omega
          refine W.bind (W.mono (ha k hik hle h3 i3) ?_)
          rintro ⟨b1, h4⟩ ⟨p4, i4, o4⟩
          dsimp only at p4 i4 o4 ⊢
          cases b1
          · simp only [iteB_false, Option.bind_some]
            exact W.ret (.inl ⟨h4, rfl, i4, o4, fun hm => by have := p4.2 hm.2.1; cases this⟩)
          · simp only [iteB_true]
            have q4 : h4.get h.size = some (.cells none 2 (qC a t i j)) := o4.keep q3 (by simp; omega)
            have l0 : ldI h4 (h.size, 0) .i64 = some (a : Int) := ldI_of q4 (by simp) rfl
            have l3 : ldI h4 (h.size, 3) .i64 = some (j : Int) := ldI_of q4 (by simp) rfl
            simp only [l0, l3, Option.bind_some]
            refine W.bind (W.bind (W.mono (hb k hik hle hma hgo h4 i4) ?_))
            rintro ⟨b2, h5⟩ ⟨p5, i5, o5⟩
            dsimp only at p5 i5 o5 ⊢
            refine W.ret ?_
            dsimp only
            cases b2
            · simp only [iteB_false]
              exact W.ret (.inl ⟨h5, rfl, i5, o4.trans o5, fun hm => by have := p5.2 hm.2.2; cases this⟩)
            · simp only [iteB_true]
              exact W.ret (.inr ⟨h5, rfl, i5, o4.trans o5, hgo, p4.1 rfl, p5.1 rfl⟩)
      · rintro o (⟨h7, rfl, i7, o7, nk⟩ | ⟨h7, rfl, i7, o7, yk⟩)
        · refine W.ret ⟨⟨k + 1, rfl, by omega, by omega, i7, o3.trans o7, o7.keep q3 (by simp; omega), o7.keep n3 (by simp; omega), fun k' h1 h2 => ?_⟩, by dsimp only; omega⟩
          by_cases hk : k' < k
          · exact no k' h1 hk
          · have : k' = k := by omega
            subst this
            exact nk
        · exact W.ret (.inr ⟨h7, rfl, i7, o3.trans o7, k, yk⟩)
    · refine W.ret (.inl ⟨h3, rfl, i3, o3, ?_⟩)
      rintro ⟨k', m0, m1, m2⟩
      have := m1.le
      have := m2.le
      exact no k' (by omega) (by omega) ⟨m0, m1, m2⟩
  · rintro o (⟨h6, rfl, i6, o6, no⟩ | ⟨h6, rfl, i6, o6, yes⟩)
    · exact W.ret ⟨by simp only [Bool.false_eq_true, false_iff]; exact fun hm => by rcases hmt.1 hm with h | ⟨_, h⟩; exact hno h; exact no h, i6, o6⟩
    · exact W.ret ⟨by simp only [true_iff]; exact hmt.2 (.inr ⟨hma, yes⟩), i6, o6⟩
theorem mt_simple {ns : List Nd} {s : List UInt8} {a : Nat} {n : Nd} {t : Int} {i j : Nat} (hn : ns[a]? = some n) :
    Mt ns s a t i j ↔ (n.k = 0 ∧ i = j) ∨ (n.k = 1 ∧ j = i + 1 ∧ ∃ b, s[i]? = some b ∧ hasB n b.toNat = true) ∨ (n.k = 6 ∧ i = 0 ∧ j = 0) ∨ (n.k = 7 ∧ i = s.length ∧ j = s.length) ∨
      (n.k = 3 ∧ ((∃ x : Nat, n.a = x ∧ Mt ns s x 0 i j) ∨ ∃ x : Nat, n.b = x ∧ Mt ns s x 0 i j)) ∨ (n.k = 5 ∧ ∃ x : Nat, n.a = x ∧ Mt ns s x 0 i j) ∨ (n.k = 2 ∧ ∃ x y k : Nat, n.a = x ∧ n.b = y ∧ Mt ns s x 0 i k ∧ Mt ns s y 0 k j) ∨ (n.k = 4 ∧ Mt ns s a t i j) := by
  constructor
  · intro m
    have m' := m
    cases m with
    | empty h1 h2 => rw [hn] at h1; cases h1; exact .inl ⟨h2, rfl⟩
    | one h1 h2 h3 h4 => rw [hn] at h1; cases h1; exact .inr (.inl ⟨h2, rfl, _, h3, h4⟩)
    | front h1 h2 => rw [hn] at h1; cases h1; exact .inr (.inr (.inl ⟨h2, rfl, rfl⟩))
    | back h1 h2 => rw [hn] at h1; cases h1; exact .inr (.inr (.inr (.inl ⟨h2, rfl, rfl⟩)))
    | altL h1 h2 h3 h4 => rw [hn] at h1; cases h1; exact .inr (.inr (.inr (.inr (.inl ⟨h2, .inl ⟨_, h3, h4⟩⟩))))
    | altR h1 h2 h3 h4 => rw [hn] at h1; cases h1; exact .inr (.inr (.inr (.inr (.inl ⟨h2, .inr ⟨_, h3, h4⟩⟩))))
    | group h1 h2 h3 h4 => rw [hn] at h1; cases h1; exact .inr (.inr (.inr (.inr (.inr (.inl ⟨h2, _, h3, h4⟩)))))
    | cat h1 h2 h3 h4 h5 h6 => rw [hn] at h1; cases h1; exact .inr (.inr (.inr (.inr (.inr (.inr (.inl ⟨h2, _, _, _, h3, h4, h5, h6⟩))))))
    | repEnd h1 h2 h3 => rw [hn] at h1; cases h1; exact .inr (.inr (.inr (.inr (.inr (.inr (.inr ⟨h2, m'⟩))))))
    | repStep h1 h2 h3 h5 h6 m1 m2 => rw [hn] at h1; cases h1; exact .inr (.inr (.inr (.inr (.inr (.inr (.inr ⟨h2, m'⟩))))))
  · rintro (⟨h, rfl⟩ | ⟨h, rfl, b, h1, h2⟩ | ⟨h, rfl, rfl⟩ | ⟨h, rfl, rfl⟩ | ⟨h, ⟨x, h1, h2⟩ | ⟨x, h1, h2⟩⟩ | ⟨h, x, h1, h2⟩ | ⟨h, x, y, k, h1, h2, h3, h4⟩ | ⟨_, h⟩)
    · exact .empty hn h
    · exact .one hn h h1 h2
    · exact .front hn h
    · exact .back hn h
    · exact .altL hn h h1 h2
    · exact .altR hn h h1 h2
    · exact .group hn h h1 h2
    · exact .cat hn h h1 h2 h3 h4
    · exact h
def Ak.mu (c : Ak) (a : Nat) (t : Int) (i j : Nat) : Nat := a * ((c.s.length + 1) * 257) + (j - i) * 257 + (((c.ns.getD a zNd).mi - t).toNat)
theorem mu_sub {c : Ak} {a x : Nat} {t : Int} {i j i' j' : Nat} {n : Nd} (hxa : x < a) (hj : j' ≤ c.s.length) (hn : c.ns[x]? = some n) (hmi : n.mi ≤ 255) : c.mu x 0 i' j' < c.mu a t i j := by
  unfold Ak.mu
  have hd : c.ns.getD x zNd = n := by rw [List.getD_eq_getElem?_getD, hn]; rfl
  rw [hd]
  have h1 : (x + 1) * ((c.s.length + 1) * 257) ≤ a * ((c.s.length + 1) * 257) := Nat.mul_le_mul_right _ hxa
  rw [Nat.succ_mul] at h1
  have h2 : (j' - i') * 257 ≤ c.s.length * 257 := Nat.mul_le_mul_right _ (by omega)
  omega
theorem mu_rep {c : Ak} {a : Nat} {t t' : Int} {i j k : Nat} {n : Nd} (hn : c.ns[a]? = some n) (hmi : n.mi ≤ 255) (ht' : 0 ≤ t') (hik : i ≤ k) (hkj : k ≤ j) (hk : k = i → t < t' ∧ t < n.mi) : c.mu a t' k j < c.mu a t i j := by
  unfold Ak.mu
  have hd : c.ns.getD a zNd = n := by rw [List.getD_eq_getElem?_getD, hn]; rfl
  rw [hd]
  by_cases h : k = i
  · subst h
    have := hk rfl
    omega
  · omega
end Go.Abs.L
namespace Go.Abs.L
open Go.Abs
set_option linter.unusedVariables false
set_option linter.unusedSimpArgs false

theorem var_st1 {h : AHeap} {g : Gd} {z v : AVal} (hm : g.may h.size = true) (h1 : v.one = true) :
    ∃ h', st g (h.push (.cells none 2 [z])) (h.size, 0) [v] = some h' ∧ h'.get h.size = some (.cells none 2 [v]) ∧ Only none h h' ∧ h'.size = h.size + 1 := by
  refine ⟨_, st_of (AHeap.get_push_new _ _) hm (by simp) (by simp [h1]), ?_, ⟨by simp, fun id hi _ => ?_⟩, rfl⟩
  · rw [AHeap.get_set_same _ _ (by simp)]; rfl
  · rw [AHeap.get_set_ne _ _ (by simp) (by omega), AHeap.get_push_old _ _ hi]
theorem Ak.Ok.mayP {c : Ak} (ok : c.Ok) {a : Nat} {n : Nd} (hn : c.ns[a]? = some n) : MayP n a := (mayF_iff n a).1 (ok.may a n hn)
theorem Ak.Ok.mi {c : Ak} (ok : c.Ok) {a : Nat} {n : Nd} (hn : c.ns[a]? = some n) : 0 ≤ n.mi ∧ n.mi ≤ 255 := by
  have := ok.mayP hn
  unfold MayP at this
  omega
theorem valid_sub {c : Ak} {x i j : Nat} (hx : x < c.ns.length) (hij : i ≤ j) (hj : j ≤ c.s.length) : c.Valid x 0 i j :=
  ⟨hx, hij, hj, by omega, by omega, fun n _ _ h => h⟩
theorem does_spec {c : Ak} (ok : c.Ok) {a : Nat} {t : Int} {i j : Nat} (hv : c.Valid a t i j) {m : Nat} (ih : ∀ a' t' i' j', c.Valid a' t' i' j' → c.mu a' t' i' j' < c.mu a t i j → ∀ m', m ≤ m' → c.AskOk m' a' t' i' j') {h : AHeap} (hi : c.I h) :
    W ((Ring (m + 5)).M_tree_asker_does c.g h (some (c.A, 0)) (qC a t i j)) (c.Post h a t i j) := by
  show W (B_tree_asker_does (Ring (m + 4)) c.g h (some (c.A, 0)) (qC a t i j)) _
  obtain ⟨hal, hij, hjl, ht0, ht255, htm⟩ := hv
  have hML := hi.lt
  have hl := ok.len
  have hfl := ok.fl
  obtain ⟨n, en⟩ : ∃ n, c.ns[a] = n := ⟨_, rfl⟩
  have hn : c.ns[a]? = some n := by rw [List.getElem?_eq_getElem hal, en]
  have hP := ok.mayP hn
  have hmi := ok.mi hn
  have nl : c.sl.n = c.ns.length := by have := hi.view.1; rw [chunk_length nodeC_len] at this; omega
  unfold B_tree_asker_does
  simp only [Option.bind_some]
  refine W.need rfl ?_
  obtain ⟨h1, e1⟩ : ∃ h1, h1 = h.push (.cells none 2 [.ptr (some (c.A, 0))]) := ⟨_, rfl⟩
  obtain ⟨h2, e2⟩ : ∃ h2, h2 = h1.push (.cells none 2 (qC a t i j)) := ⟨_, rfl⟩
  have z1 : h1.size = h.size + 1 := by rw [e1]; rfl
  have z2 : h2.size = h.size + 2 := by rw [e2]; simp; omega
  have k2 : Only none h h2 := by rw [e2, e1]; exact (Only.push _ _ _).trans (Only.push _ _ _)
  have gc : h2.get h.size = some (.cells none 2 [.ptr (some (c.A, 0))]) := by rw [e2, AHeap.get_push_old _ _ (by omega), e1, AHeap.get_push_new]
  have gq : h2.get h1.size = some (.cells none 2 (qC a t i j)) := by rw [e2, AHeap.get_push_new]
  have i2 := hi.keep ok k2
  rw [← e1, ← e2]
  rw [ldP_of gc (by simp) (show ([.ptr (some (c.A, 0))] : List AVal)[0]? = some (.ptr (some (c.A, 0))) from rfl)]
  simp only [Option.bind_some]
  rw [show ldL h2 (c.A, 0 + 0 + 0) = some c.sl from ldL_of i2.cell (by simp) rfl, ldI_of gq (by simp) (show (qC a t i j)[0]? = some (.int .i64 (a : Int)) from rfl)]
  simp only [Option.bind_some]
  obtain ⟨ad, ea, _, la⟩ := i2.view.fld (i := a) (by omega)
  rw [chunk_take nodeC_len hn] at la
  obtain ⟨h4, e4, g4, k4, z4⟩ := var_st (h := h2) (g := c.g) (z := zeroC) (cs := nodeC n) (n := 10) (may_ge (by omega)) rfl rfl rfl
  obtain ⟨h6, e6, g6, k6, z6⟩ := var_st1 (h := h4) (g := c.g) (z := AVal.nilFunc) (v := .func (.func 37) [] [.ptr (some (h.size, 0))]) (may_ge (by omega)) rfl
  rw [ea]
  simp only [Option.bind_some, la, e4, e6]
  have o6 : Only none h h6 := (k2.trans k4).trans k6
  have i6 := hi.keep ok o6
  have cs : Cells c h6 h.size h1.size h2.size h4.size a t i j n :=
    ⟨(k4.trans k6).keep gc (by simp), (k4.trans k6).keep gq (by simp), k6.keep g4 (by simp), g6, by omega, by omega, by omega, by omega⟩
  have lk : ldI h6 (h2.size, 0) .i64 = some n.k := ldI_of cs.nd (by simp) rfl
  have lS : ldS h6 (c.A, 0 + 2) = some c.s := ldS_of i6.cell (by simp) rfl
  have lP : ldP h6 (h.size, 0) = some (some (c.A, 0)) := ldP_of cs.ptr (by simp) rfl
  simp only [lk, lP, lS, cs.qi, cs.qj, Option.bind_some]
  rw [iteB_beq]
  split
  · rename_i hk
    refine W.ret ⟨?_, i6, o6.weaken _⟩
    rw [mt_simple hn]
    simp only [beq_iff_eq]
    omega
  rename_i hk0
  rw [iteB_beq]
  split
  · rename_i hk
    rw [show IntKind.i64.wrap ((i : Int) + 1) = ((i + 1 : Nat) : Int) from ek64 (by omega)]
    rw [iteB_beq]
    split
    · rename_i hj
      have hj : j = i + 1 := by omega
      obtain ⟨b, eb⟩ : ∃ b, c.s[i]'(by omega) = b := ⟨_, rfl⟩
      have hb : c.s[i]? = some b := by rw [List.getElem?_eq_getElem (by omega), eb]
      have lset : ldA h6 (h2.size, 6) 4 = some (setC n) := by rw [ldA_of cs.nd (by simp) (Nat.le_refl 10)]; rfl
      rw [lset, ixS_nat hb]
      simp only [Option.bind_some]
      rw [has_eq h6 n (ok.set a n hn) (UInt8.toNat_lt b)]
      simp only [Option.bind_some]
      refine W.ret ⟨?_, i6, o6.weaken _⟩
      dsimp only
      rw [mt_simple hn]
      constructor
      · intro hh; exact .inr (.inl ⟨hk, hj, b, hb, hh⟩)
      · rintro (⟨h', -⟩ | ⟨_, _, b', h1, h2⟩ | ⟨h', -⟩ | ⟨h', -⟩ | ⟨h', -⟩ | ⟨h', -⟩ | ⟨h', -⟩ | ⟨h', -⟩)
        · omega
        · rw [hb] at h1; cases h1; exact h2
        all_goals omega
    · rename_i hj
      simp only [Option.bind_some]
      refine W.ret ⟨?_, i6, o6.weaken _⟩
      rw [mt_simple hn]
      simp only [Bool.false_eq_true, false_iff]
      rintro (⟨h', -⟩ | ⟨_, h', _⟩ | ⟨h', -⟩ | ⟨h', -⟩ | ⟨h', -⟩ | ⟨h', -⟩ | ⟨h', -⟩ | ⟨h', -⟩) <;> omega
  rename_i hk1
  rw [iteB_beq]
  split
  · rename_i hk
    rw [iteB_and]
    simp only [Option.bind_some]
    refine W.ret ⟨?_, i6, o6.weaken _⟩
    rw [mt_simple hn]
    simp only [Bool.and_eq_true, beq_iff_eq]
    constructor
    · intro hh; exact .inr (.inr (.inl ⟨hk, by omega, by omega⟩))
    · rintro (⟨h', -⟩ | ⟨h', -⟩ | ⟨_, h1, h2⟩ | ⟨h', -⟩ | ⟨h', -⟩ | ⟨h', -⟩ | ⟨h', -⟩ | ⟨h', -⟩) <;> omega
  rename_i hk6
  rw [iteB_beq]
  split
  · rename_i hk
    rw [iteB_and]
    simp only [Option.bind_some]
    refine W.ret ⟨?_, i6, o6.weaken _⟩
    rw [mt_simple hn]
    simp only [Bool.and_eq_true, beq_iff_eq]
    constructor
    · intro hh; exact .inr (.inr (.inr (.inl ⟨hk, by omega, by omega⟩)))
    · rintro (⟨h', -⟩ | ⟨h', -⟩ | ⟨h', -⟩ | ⟨_, h1, h2⟩ | ⟨h', -⟩ | ⟨h', -⟩ | ⟨h', -⟩ | ⟨h', -⟩) <;> omega
  rename_i hk7
  -- nodes below
  have hA : 0 ≤ n.a ∧ n.a < a := by unfold MayP at hP; omega
  obtain ⟨x, hx⟩ : ∃ x : Nat, n.a = x := ⟨n.a.toNat, by omega⟩
  have hxa : x < a := by omega
  have hxl : x < c.ns.length := by omega
  obtain ⟨nx, enx⟩ : ∃ nx, c.ns[x] = nx := ⟨_, rfl⟩
  have hnx : c.ns[x]? = some nx := by rw [List.getElem?_eq_getElem hxl, enx]
  have askx : ∀ i' j', i' ≤ j' → j' ≤ c.s.length → ∀ m', m ≤ m' → c.AskOk m' x 0 i' j' := fun i' j' h1 h2 m' hm' =>
    ih x 0 i' j' (valid_sub hxl h1 h2) (mu_sub hxa h2 hnx (ok.mi hnx).2) m' hm'
  have lna : ldI h6 (h2.size, 1) .i64 = some (x : Int) := by rw [← hx]; exact cs.na
  rw [iteB_beq]
  split
  · rename_i hk
    have hB : 0 ≤ n.b ∧ n.b < a := by unfold MayP at hP; omega
    obtain ⟨y, hy⟩ : ∃ y : Nat, n.b = y := ⟨n.b.toNat, by omega⟩
    have hya : y < a := by omega
    have hyl : y < c.ns.length := by omega
    obtain ⟨ny, eny⟩ : ∃ ny, c.ns[y] = ny := ⟨_, rfl⟩
    have hny : c.ns[y]? = some ny := by rw [List.getElem?_eq_getElem hyl, eny]
    have mal : Mt c.ns c.s a t i j ↔ Mt c.ns c.s x 0 i j ∨ Mt c.ns c.s y 0 i j := by
      rw [mt_simple hn]
      constructor
      · rintro (⟨h', -⟩ | ⟨h', -⟩ | ⟨h', -⟩ | ⟨h', -⟩ | ⟨_, ⟨x', e, h1⟩ | ⟨x', e, h1⟩⟩ | ⟨h', -⟩ | ⟨h', -⟩ | ⟨h', -⟩)
        · omega
        · omega
        · omega
        · omega
        · rw [show x' = x from by omega] at h1; exact .inl h1
        · rw [show x' = y from by omega] at h1; exact .inr h1
        all_goals omega
      · rintro (h' | h')
        · exact .inr (.inr (.inr (.inr (.inl ⟨hk, .inl ⟨x, hx, h'⟩⟩))))
        · exact .inr (.inr (.inr (.inr (.inl ⟨hk, .inr ⟨y, hy, h'⟩⟩))))
    simp only [cs.ldF, lna, Option.bind_some]
    refine W.bind (W.mono (d1_spec (askx i j hij hjl (m + 3) (by omega)) i6 cs.ptr) ?_)
    rintro ⟨b1, h7⟩ ⟨p7, i7, o7⟩
    dsimp only at p7 i7 o7 ⊢
    cases b1
    · simp only [iteB_false]
      have cs7 := cs.keep o7
      have lnb : ldI h7 (h2.size, 2) .i64 = some (y : Int) := by rw [← hy]; exact cs7.nb
      simp only [cs7.ldF, lnb, cs7.qi, cs7.qj, Option.bind_some]
      refine W.bind (W.bind (W.mono (d1_spec (ih y 0 i j (valid_sub hyl hij hjl) (mu_sub hya hjl hny (ok.mi hny).2) (m + 3) (by omega)) i7 cs7.ptr) ?_))
      rintro ⟨b2, h8⟩ ⟨p8, i8, o8⟩
      dsimp only at p8 i8 o8 ⊢
      refine W.ret (W.ret ⟨?_, i8, ((o6.weaken _).trans o7).trans o8⟩)
      rw [mal]
      dsimp only
      rw [p8]
      constructor
      · exact .inr
      · rintro (h' | h')
        · have := p7.2 h'; cases this
        · exact h'
    · simp only [iteB_true, Option.bind_some]
      exact W.ret ⟨by simp only [true_iff]; exact mal.2 (.inl (p7.1 rfl)), i7, (o6.weaken _).trans o7⟩
  rename_i hk3
  rw [iteB_beq]
  split
  · rename_i hk
    simp only [cs.ldF, lna, Option.bind_some]
    refine W.bind (W.mono (d1_spec (askx i j hij hjl (m + 3) (by omega)) i6 cs.ptr) ?_)
    rintro ⟨b1, h7⟩ ⟨p7, i7, o7⟩
    dsimp only at p7 i7 o7 ⊢
    refine W.ret ⟨?_, i7, (o6.weaken _).trans o7⟩
    dsimp only
    rw [p7, mt_simple hn]
    constructor
    · intro h'; exact .inr (.inr (.inr (.inr (.inr (.inl ⟨hk, x, hx, h'⟩)))))
    · rintro (⟨h', -⟩ | ⟨h', -⟩ | ⟨h', -⟩ | ⟨h', -⟩ | ⟨h', -⟩ | ⟨_, x', e, h1⟩ | ⟨h', -⟩ | ⟨h', -⟩)
      · omega
      · omega
      · omega
      · omega
      · omega
      · rw [show x' = x from by omega] at h1; exact h1
      all_goals omega
  rename_i hk5
  have lq : ldA h6 (h1.size, 0) 4 = some (qC a t i j) := by rw [ldA_of cs.q (by simp) (Nat.le_refl 4)]; rfl
  have ln : ldA h6 (h2.size, 0) 10 = some (nodeC n) := by rw [ldA_of cs.nd (by simp) (Nat.le_refl 10)]; rfl
  rw [iteB_beq]
  split
  · rename_i hk
    have hB : 0 ≤ n.b ∧ n.b < a := by unfold MayP at hP; omega
    obtain ⟨y, hy⟩ : ∃ y : Nat, n.b = y := ⟨n.b.toNat, by omega⟩
    have hya : y < a := by omega
    have hyl : y < c.ns.length := by omega
    obtain ⟨ny, eny⟩ : ∃ ny, c.ns[y] = ny := ⟨_, rfl⟩
    have hny : c.ns[y]? = some ny := by rw [List.getElem?_eq_getElem hyl, eny]
    rw [lq]
    simp only [Option.bind_some]
    refine W.bind (W.mono (cut_spec ok (m := m + 1) hij hjl hx hy (fun k h1 h2 => askx i k h1 (by omega) (m + 1) (by omega))
      (fun k h1 h2 => ih y 0 k j (valid_sub hyl h2 hjl) (mu_sub hya hjl hny (ok.mi hny).2) (m + 1) (by omega)) i6 cs (some (c.A, 0))) ?_)
    rintro ⟨b1, h7⟩ ⟨p7, i7, o7⟩
    dsimp only at p7 i7 o7 ⊢
    refine W.ret ⟨?_, i7, (o6.weaken _).trans o7⟩
    dsimp only
    rw [p7, mt_simple hn]
    constructor
    · rintro ⟨k, h1, h2⟩; exact .inr (.inr (.inr (.inr (.inr (.inr (.inl ⟨hk, x, y, k, hx, hy, h1, h2⟩))))))
    · rintro (⟨h', -⟩ | ⟨h', -⟩ | ⟨h', -⟩ | ⟨h', -⟩ | ⟨h', -⟩ | ⟨h', -⟩ | ⟨_, x', y', k, e1', e2', h1, h2⟩ | ⟨h', -⟩)
      · omega
      · omega
      · omega
      · omega
      · omega
      · omega
      · rw [show x' = x from by omega] at h1; rw [show y' = y from by omega] at h2; exact ⟨k, h1, h2⟩
      · omega
  rename_i hk2
  have hk4 : n.k = 4 := by unfold MayP at hP; omega
  rw [lq, ln]
  simp only [Option.bind_some]
  refine W.bind (W.mono (rep_spec ok (m := m + 3) hn hk4 hij hjl ⟨ht0, ht255⟩ hx (fun k h1 h2 => askx i k h1 (by omega) (m + 3) (by omega)) ?_ i6) ?_)
  · intro k h1 h2 hma hki
    have hnt : 0 ≤ nextT n t ∧ nextT n t ≤ 255 ∧ (0 ≤ n.ma → nextT n t ≤ n.ma) ∧ (t < n.mi → t < nextT n t) := by
      have := htm n hn hk4
      unfold MayP at hP
      unfold nextT
      split
      · split <;> omega
      · omega
    refine ih a (nextT n t) k j ⟨hal, h2, hjl, hnt.1, hnt.2.1, fun n' hn' _ h' => ?_⟩ (mu_rep hn hmi.2 hnt.1 h1 h2 fun hk => ⟨hnt.2.2.2 (hki hk), hki hk⟩) (m + 3) (by omega)
    rw [hn] at hn'; cases hn'
    exact hnt.2.2.1 h'
  · rintro ⟨b1, h7⟩ ⟨p7, i7, o7⟩
    exact W.ret ⟨p7, i7, (o6.weaken _).trans o7⟩
theorem asks_spec {c : Ak} (ok : c.Ok) : ∀ (N a : Nat) (t : Int) (i j : Nat), c.mu a t i j < N → c.Valid a t i j → ∀ m, 8 * (c.mu a t i j + 1) ≤ m → c.AskOk m a t i j
  | 0, a, t, i, j, hN, _, _, _ => by omega
  | N + 1, a, t, i, j, hN, hv, m, hm => by
    obtain ⟨m0, rfl⟩ : ∃ m0, m = m0 + 6 := ⟨m - 6, by omega⟩
    intro h hi
    show W (B_tree_asker_asks (Ring (m0 + 5)) c.g h (some (c.A, 0)) (qC a t i j)) _
    have hML := hi.lt
    unfold B_tree_asker_asks
    refine W.need rfl ?_
    simp only [Option.bind_some]
    obtain ⟨h1, e1⟩ : ∃ h1, h1 = h.push (.cells none 2 (qC a t i j)) := ⟨_, rfl⟩
    have k1 : Only none h h1 := by rw [e1]; exact Only.push _ _ _
    have g1 : h1.get h.size = some (.cells none 2 (qC a t i j)) := by rw [e1, AHeap.get_push_new]
    have i1 := hi.keep ok k1
    have z1 : h1.size = h.size + 1 := by rw [e1]; rfl
    rw [← e1]
    rw [show ldM h1 (c.A, 0 + 3) = some (some c.M) from ldM_of i1.cell (by simp) rfl, show ldA h1 (h.size, 0) 4 = some (qC a t i j) from by rw [ldA_of g1 (by simp) (Nat.le_refl 4)]; rfl]
    simp only [Option.bind_some]
    obtain ⟨es, gM, okE⟩ := i1.map
    rcases ask_look gM okE a t i j with hl | ⟨b, hl, hb⟩
    · rw [hl]
      simp only [Option.bind_some, asB, Option.map_some, iteB_false]
      refine W.bind (W.mono (does_spec ok hv (m := m0) (fun a' t' i' j' hv' hlt m' hm' => asks_spec ok N a' t' i' j' (by omega) hv' m' (by omega)) i1) ?_)
      rintro ⟨b, h2⟩ ⟨p2, i2, o2⟩
      dsimp only at p2 i2 o2 ⊢
      have g2 : h2.get h.size = some (.cells none 2 (qC a t i j)) := o2.keep g1 (by simp; omega)
      rw [show ldM h2 (c.A, 0 + 3) = some (some c.M) from ldM_of i2.cell (by simp) rfl, show ldA h2 (h.size, 0) 4 = some (qC a t i j) from by rw [ldA_of g2 (by simp) (Nat.le_refl 4)]; rfl]
      simp only [Option.bind_some]
      obtain ⟨es2, gM2, okE2⟩ := i2.map
      obtain ⟨es3, e3, okE3⟩ := ask_put (g := c.g) gM2 (may_ge ok.fl) okE2 a t i j p2
      rw [e3]
      simp only [Option.bind_some]
      have hM2 := h2.lt_of_get gM2
      have o3 : Only (some c.M) h2 (h2.set c.M (.map 2 es3)) := Only.set gM2
      refine W.ret ⟨p2, ⟨o3.keep i2.cell (by simpa using ok.am), i2.view.keep (o3.same fun id hid => ⟨?_, ?_⟩) (fun _ x => x), es3, AHeap.get_set_same _ _ hM2, okE3⟩, ((k1.weaken _).trans o2).trans o3⟩
      · have hid : id < c.P0 := hid
        have := ok.p0
        omega
      · have hid : id < c.P0 := hid
        have := ok.p0
        simp; omega
    · rw [hl]
      simp only [Option.bind_some, asB, Option.map_some, iteB_true]
      exact W.ret ⟨hb, i1, k1.weaken _⟩
end Go.Abs.L
namespace Go.Abs.L
open Go.Abs
set_option linter.unusedVariables false
set_option linter.unusedSimpArgs false

def RightP (ns : List Nd) (root : Int) : Prop := ns.length ≤ 1024 ∧ 0 ≤ root ∧ root < ns.length ∧ ∀ (i : Nat) n, ns[i]? = some n → mayF n i = true
theorem right_gen {h : AHeap} {s : Sl} {ns : List Nd} {root : Int} (v : View cfg.P (· < h.size) h 10 s (ns.flatMap nodeC)) :
    W (M_tree_Tree_Right h [s.v, .int .i64 root]) fun b => b = true ↔ RightP ns root := by
  have nl : s.n = ns.length := by have := v.1; rw [chunk_length nodeC_len] at this; omega
  unfold M_tree_Tree_Right
  refine W.need rfl ?_
  simp only [Option.bind_some]
  obtain ⟨h1, e1⟩ : ∃ h1, h1 = h.push (.cells none 2 [s.v, .int .i64 root]) := ⟨_, rfl⟩
  have k1 : Only none h h1 := by rw [e1]; exact Only.push _ _ _
  have z1 : h1.size = h.size + 1 := by rw [e1]; rfl
  have g1 : h1.get h.size = some (.cells none 2 [s.v, .int .i64 root]) := by rw [e1, AHeap.get_push_new]
  rw [← e1]
  have ls : ldL h1 (h.size, 0) = some s := ldL_of g1 (by simp) rfl
  have lr : ldI h1 (h.size, 1) .i64 = some root := ldI_of g1 (by simp) rfl
  simp only [ls, lr, Option.bind_some]
  rw [iteB_or]
  simp only [Option.bind_some]
  rw [iteB_or]
  simp only [Option.bind_some]
  refine W.ite (fun hbad => ?_) (fun hgood => ?_)
  · simp only [Bool.or_eq_true, decide_eq_true_eq] at hbad
    refine W.ret ?_
    simp only [Bool.false_eq_true, false_iff]
    rintro ⟨h1, h2, h3, -⟩
    omega
  simp only [Bool.or_eq_false_iff, decide_eq_false_iff_not] at hgood
  refine W.bind (W.mono (Q := fun o => (∃ h5, o = .inl h5 ∧ ∀ (i : Nat) n, ns[i]? = some n → mayF n i = true) ∨ (∃ h5, o = .inr (false, h5) ∧ ¬ ∀ (i : Nat) n, ns[i]? = some n → mayF n i = true)) ?_ ?_)
  · refine W.loop (fun st => ∃ i : Nat, st.1 = i ∧ i ≤ ns.length ∧ Only none h st.2 ∧ ∀ (i' : Nat) n, i' < i → ns[i']? = some n → mayF n i' = true) (fun st => ns.length - st.1.toNat) ⟨0, rfl, by omega, k1, fun i' n h => by omega⟩ ?_
    rintro ⟨_, h2⟩ ⟨i, rfl, hi, k, all⟩
    dsimp only at k
    have z2 := k.size
    unfold M_tree_Tree_Right_L0
    dsimp only
    refine W.iteP (fun hlt => ?_) (fun hge => W.ret (.inl ⟨h2, rfl, fun i' n hn => all i' n (by have := (List.getElem?_eq_some_iff.1 hn).1; omega) hn⟩))
    have hlt : i < ns.length := by omega
    obtain ⟨n, en⟩ : ∃ n, ns[i] = n := ⟨_, rfl⟩
    have hx : ns[i]? = some n := by rw [List.getElem?_eq_getElem hlt, en]
    obtain ⟨a, ea, _, la⟩ := (v.onl k).fld (i := i) (by omega)
    rw [chunk_take nodeC_len hx] at la
    obtain ⟨h4, e4, g4, k4, z4⟩ := var_st (h := h2) (g := ⟨h.size, []⟩) (z := zeroC) (cs := nodeC n) (n := 10) (may_ge z2) rfl rfl rfl
    have lA : ldA h4 (h2.size, 0) 10 = some (nodeC n) := by rw [ldA_of g4 (by simp) (Nat.le_refl 10)]; rfl
    rw [ea]
    simp only [Option.bind_some, la, e4, lA, may_eq]
    cases hm : mayF n i
    · simp only [Bool.not_false, iteB_true]
      exact W.ret (.inr ⟨h4, rfl, fun hall => by rw [hall i n hx] at hm; cases hm⟩)
    · simp only [Bool.not_true, iteB_false]
      rw [ek64 (by omega)]
      refine W.ret ⟨⟨i + 1, rfl, by omega, k.trans k4, fun i' n' h' hn' => ?_⟩, by dsimp only; omega⟩
      by_cases he : i' < i
      · exact all i' n' he hn'
      · have : i' = i := by omega
        subst this
        rw [hx] at hn'; cases hn'; exact hm
  · rintro o (⟨h5, rfl, hall⟩ | ⟨h5, rfl, hno⟩)
    · refine W.ret ?_
      simp only [true_iff]
      exact ⟨by omega, by omega, by omega, hall⟩
    · refine W.ret ?_
      simp only [Bool.false_eq_true, false_iff]
      exact fun hr => hno hr.2.2.2
theorem mu_big {c : Ak} (ok : c.Ok) {a : Nat} {i j : Nat} (hv : c.Valid a 0 i j) : 8 * (c.mu a 0 i j + 1) ≤ bigF := by
  obtain ⟨hal, hij, hjl, _⟩ := hv
  obtain ⟨n, en⟩ : ∃ n, c.ns[a] = n := ⟨_, rfl⟩
  have hn : c.ns[a]? = some n := by rw [List.getElem?_eq_getElem hal, en]
  have hmi := ok.mi hn
  have hd : c.ns.getD a zNd = n := by rw [List.getD_eq_getElem?_getD, hn]; rfl
  have hl := ok.len
  have hc := ok.cnt
  have h1 : a * ((c.s.length + 1) * 257) ≤ 1024 * ((c.s.length + 1) * 257) := Nat.mul_le_mul_right _ (by omega)
  rw [bigF_eq]
  unfold Ak.mu
  rw [hd]
  omega
def MatchP (ns : List Nd) (root : Int) (s : List UInt8) (i j : Int) : Prop := RightP ns root ∧ 0 ≤ i ∧ i ≤ j ∧ j ≤ s.length ∧ Mt ns s root.toNat 0 i.toNat j.toNat
theorem matches_spec {h : AHeap} {sl : Sl} {ns : List Nd} {root : Int} (v : View cfg.P (· < h.size) h 10 sl (ns.flatMap nodeC)) (oks : ∀ n ∈ ns, OkS n) {s : List UInt8} (hs : s.length ≤ 1000000) (i j : Int) :
    W (M_tree_Tree_Matches h [sl.v, .int .i64 root] s i j) fun b => b = true ↔ MatchP ns root s i j := by
  unfold M_tree_Tree_Matches
  refine W.need rfl ?_
  simp only [Option.bind_some]
  obtain ⟨h1, e1⟩ : ∃ h1, h1 = h.push (.cells none 2 [sl.v, .int .i64 root]) := ⟨_, rfl⟩
  have k1 : Only none h h1 := by rw [e1]; exact Only.push _ _ _
  have z1 : h1.size = h.size + 1 := by rw [e1]; rfl
  have g1 : h1.get h.size = some (.cells none 2 [sl.v, .int .i64 root]) := by rw [e1, AHeap.get_push_new]
  rw [← e1]
  have lA : ldA h1 (h.size, 0) 2 = some [sl.v, .int .i64 root] := by rw [ldA_of g1 (by simp) (Nat.le_refl 2)]; rfl
  simp only [lA, Option.bind_some]
  refine W.bind (W.mono (right_gen ((v.onl k1).keep (S' := (· < h1.size)) (fun _ _ => rfl) (fun id hi => by show id < h1.size; have hi : id < h.size := hi; omega))) ?_)
  intro b hb
  refine W.ite (fun hbad => ?_) (fun hgood => ?_)
  · refine W.ret ?_
    simp only [Bool.false_eq_true, false_iff]
    rintro ⟨hr, h2, h3, h4, -⟩
    rw [hb.2 hr] at hbad
    simp only [Bool.not_true, Bool.false_or, Bool.or_eq_true, decide_eq_true_eq] at hbad
    omega
  simp only [Bool.or_eq_false_iff, decide_eq_false_iff_not, Bool.not_eq_false'] at hgood
  obtain ⟨⟨⟨hr, hi0⟩, hji⟩, hjl⟩ := hgood
  have hr := hb.1 hr
  obtain ⟨hr1, hr2, hr3, hr4⟩ := id hr
  refine W.need rfl ?_
  refine W.need rfl ?_
  obtain ⟨h2, e2⟩ : ∃ h2, h2 = h1.push (.map 2 []) := ⟨_, rfl⟩
  obtain ⟨h3, e3⟩ : ∃ h3, h3 = h2.push (.cells none 2 ([sl.v, .int .i64 root] ++ ([.str s, .map (some h1.size)] : List AVal))) := ⟨_, rfl⟩
  have z2 : h2.size = h.size + 2 := by rw [e2]; simp; omega
  have k3 : Only none h h3 := by rw [e3, e2]; exact (k1.trans (Only.push _ _ _)).trans (Only.push _ _ _)
  have gt : h3.get h.size = some (.cells none 2 [sl.v, .int .i64 root]) := by rw [e3, AHeap.get_push_old _ _ (by omega), e2, AHeap.get_push_old _ _ (by omega)]; exact g1
  have gm : h3.get h1.size = some (.map 2 []) := by rw [e3, AHeap.get_push_old _ _ (by omega), e2, AHeap.get_push_new]
  have ga : h3.get h2.size = some (.cells none 2 ([sl.v, .int .i64 root] ++ ([.str s, .map (some h1.size)] : List AVal))) := by rw [e3, AHeap.get_push_new]
  rw [← e2, ← e3]
  rw [ldI_of gt (by simp) (show ([sl.v, .int .i64 root] : List AVal)[1]? = some (.int .i64 root) from rfl)]
  simp only [Option.bind_some]
  let c : Ak := ⟨h.size, h.size, h2.size, h1.size, sl, root, ns, s⟩
  have ok : c.Ok := ⟨by show h.size ≤ h1.size; omega, by show h.size ≤ h1.size; omega, by show h2.size ≠ h1.size; omega, hs, hr1, hr4, fun i n hn => oks n (List.mem_of_getElem? hn)⟩
  have i3 : c.I h3 := ⟨ga, v.onl k3, [], gm, by simp⟩
  obtain ⟨r, hr'⟩ : ∃ r : Nat, root = r := ⟨root.toNat, by omega⟩
  obtain ⟨i', hi'⟩ : ∃ r : Nat, i = r := ⟨i.toNat, by omega⟩
  obtain ⟨j', hj'⟩ : ∃ r : Nat, j = r := ⟨j.toNat, by omega⟩
  have hv : c.Valid r 0 i' j' := ⟨by show r < ns.length; omega, by omega, by show j' ≤ s.length; omega, by omega, by omega, fun n _ _ hx => hx⟩
  have hask := asks_spec ok _ r 0 i' j' (Nat.lt_succ_self _) hv bigF (mu_big ok hv) h3 i3
  rw [hr', hi', hj']
  refine W.bind (W.mono hask ?_)
  rintro ⟨b', h4⟩ ⟨p4, -, -⟩
  refine W.ret ?_
  dsimp only at p4 ⊢
  rw [p4]
  constructor
  · intro hm; exact ⟨by rw [← hr']; exact hr, by omega, by omega, by omega, hm⟩
  · intro hm; exact hm.2.2.2.2
end Go.Abs.L
namespace Go.Abs.L
open Go.Abs
set_option linter.unusedVariables false
set_option linter.unusedSimpArgs false

/-- so many turns, one behind the other -/
inductive It (ns : List Nd) (s : List UInt8) (x : Nat) : Nat → Nat → Nat → Prop where
  | z {i : Nat} : It ns s x 0 i i
  | s {r i k j : Nat} : Mt ns s x 0 i k → It ns s x r k j → It ns s x (r + 1) i j
section
variable {ns : List Nd} {s : List UInt8} {x : Nat}
theorem It.le {r i j : Nat} (h : It ns s x r i j) : i ≤ j := by
  induction h with
  | z => exact Nat.le_refl _
  | s m _ ih => exact Nat.le_trans m.le ih
theorem It.app {r i j : Nat} (h : It ns s x r i j) : ∀ {q k : Nat}, It ns s x q j k → It ns s x (r + q) i k := by
  induction h with
  | z => intro q k h2; rw [Nat.zero_add]; exact h2
  | s m _ ih => intro q k h2; rw [Nat.add_right_comm]; exact .s m (ih h2)
theorem It.cut {q : Nat} : ∀ {r i j : Nat}, It ns s x (r + q) i j → ∃ k, It ns s x r i k ∧ It ns s x q k j
  | 0, i, j, h => ⟨i, .z, by rw [Nat.zero_add] at h; exact h⟩
  | r + 1, i, j, h => by
    rw [Nat.add_right_comm] at h
    cases h with
    | s m h =>
      obtain ⟨k, h1, h2⟩ := It.cut h
      exact ⟨k, .s m h1, h2⟩
theorem It.snoc {r i j k : Nat} (h : It ns s x r i j) (m : Mt ns s x 0 j k) : It ns s x (r + 1) i k := h.app (.s m .z)
theorem It.last {r i j : Nat} (h : It ns s x (r + 1) i j) : ∃ k, It ns s x r i k ∧ Mt ns s x 0 k j := by
  obtain ⟨k, h1, h2⟩ := h.cut
  cases h2 with
  | s m h => cases h; exact ⟨k, h1, m⟩
/-- turns that go nowhere are left out -/
theorem It.short {r m j : Nat} (h : It ns s x r m j) : ∃ r', r' ≤ r ∧ r' ≤ j - m ∧ It ns s x r' m j := by
  induction h with
  | z => exact ⟨0, Nat.le_refl _, Nat.zero_le _, .z⟩
  | @s r i k j mt hi ih =>
    obtain ⟨r', h1, h2, h3⟩ := ih
    have l1 := mt.le
    have l2 := hi.le
    by_cases hk : k = i
    · subst hk; exact ⟨r', by omega, h2, h3⟩
    · exact ⟨r' + 1, by omega, by omega, .s mt h3⟩
/-- a node that stands so many times, by turns -/
theorem rep_to {a : Nat} {t : Int} {i j : Nat} (m : Mt ns s a t i j) : ∀ {n : Nd}, ns[a]? = some n → n.k = 4 → n.a = x → 0 ≤ n.mi → (0 ≤ n.ma → t ≤ n.ma) → ∃ r : Nat, n.mi ≤ t + r ∧ (0 ≤ n.ma → t + r ≤ n.ma) ∧ It ns s x r i j := by
  induction m with
  | repEnd h k hm =>
    intro n hn _ _ _ hv
    rw [h] at hn; cases hn
    exact ⟨0, by simpa using hm, by simpa using hv, .z⟩
  | repStep h k hx ht he m1 _ _ ih2 =>
    intro n hn hk4 hnx hmi hv
    rw [h] at hn; cases hn
    obtain ⟨r, h1, h2, h3⟩ := ih2 h k hnx hmi (by
      intro h0
      have := hv h0
      unfold nextT
      rw [if_neg (by omega)]
      omega)
    have e : x = _ := Int.ofNat.inj (hnx.symm.trans hx)
    subst e
    refine ⟨r + 1, ?_, ?_, .s m1 h3⟩
    · unfold nextT at h1
      split at h1
      · split at h1 <;> omega
      · omega
    · intro h0
      have := h2 h0
      unfold nextT at this
      rw [if_neg (by omega)] at this
      omega
  | empty h k => intro n hn hk; rw [h] at hn; cases hn; omega
  | one h k => intro n hn hk; rw [h] at hn; cases hn; omega
  | front h k => intro n hn hk; rw [h] at hn; cases hn; omega
  | back h k => intro n hn hk; rw [h] at hn; cases hn; omega
  | altL h k => intro n hn hk; rw [h] at hn; cases hn; omega
  | altR h k => intro n hn hk; rw [h] at hn; cases hn; omega
  | group h k => intro n hn hk; rw [h] at hn; cases hn; omega
  | cat h k => intro n hn hk; rw [h] at hn; cases hn; omega
theorem rep_of {a : Nat} {n : Nd} (hn : ns[a]? = some n) (hk : n.k = 4) (hx : n.a = x) (hmi : 0 ≤ n.mi) {j : Nat} : ∀ {r : Nat} {t : Int} {i : Nat}, 0 ≤ t → n.mi ≤ t + r → (0 ≤ n.ma → t + r ≤ n.ma) → It ns s x r i j → Mt ns s a t i j
  | 0, t, i, h0, h1, h2, h => by cases h; exact .repEnd hn hk (by simpa using h1)
  | r + 1, t, i, h0, h1, h2, h => by
    cases h with
    | @s _ _ k _ m h =>
      by_cases he : k = i ∧ n.mi ≤ t
      · obtain ⟨rfl, he⟩ := he
        exact rep_of hn hk hx hmi h0 (by omega) (fun h => by have := h2 h; omega) h
      · refine .repStep hn hk hx (fun e => ?_) (fun e => by omega) m (rep_of hn hk hx hmi ?_ ?_ ?_ h)
        · have := h2 (by omega); omega
        · unfold nextT; split
          · split <;> omega
          · omega
        · unfold nextT; split
          · split <;> omega
          · omega
        · intro h4
          unfold nextT
          rw [if_neg (by omega)]
          have := h2 h4
          omega
theorem rep_iff {a : Nat} {n : Nd} (hn : ns[a]? = some n) (hk : n.k = 4) (hx : n.a = x) (hmi : 0 ≤ n.mi) (hma : 0 ≤ n.ma → n.mi ≤ n.ma) {i j : Nat} : Mt ns s a 0 i j ↔ ∃ r : Nat, n.mi ≤ r ∧ (0 ≤ n.ma → (r : Int) ≤ n.ma) ∧ It ns s x r i j := by
  constructor
  · intro m
    obtain ⟨r, h1, h2, h3⟩ := rep_to m hn hk hx hmi (fun h => h)
    exact ⟨r, by omega, fun h => by have := h2 h; omega, h3⟩
  · rintro ⟨r, h1, h2, h3⟩
    exact rep_of hn hk hx hmi (Int.le_refl 0) (by omega) (fun h => by have := h2 h; omega) h3

/-- the places that are reached by 'lo' turns and at most 'k' more -/
def Dk (ns : List Nd) (s : List UInt8) (x lo i k j : Nat) : Prop := ∃ r, r ≤ k ∧ It ns s x (lo + r) i j
theorem Dk.zero {lo i j : Nat} : Dk ns s x lo i 0 j ↔ It ns s x lo i j := by
  constructor
  · rintro ⟨r, h1, h2⟩
    have : r = 0 := by omega
    subst this
    exact h2
  · intro h
    exact ⟨0, Nat.le_refl _, h⟩
theorem Dk.succ {lo i k j : Nat} : Dk ns s x lo i (k + 1) j ↔ Dk ns s x lo i k j ∨ ∃ m, Dk ns s x lo i k m ∧ Mt ns s x 0 m j := by
  constructor
  · rintro ⟨r, h1, h2⟩
    by_cases hr : r ≤ k
    · exact .inl ⟨r, hr, h2⟩
    · obtain ⟨m, h3, h4⟩ := It.last (show It ns s x ((lo + k) + 1) i j by rw [show lo + k + 1 = lo + r by omega]; exact h2)
      exact .inr ⟨m, ⟨k, Nat.le_refl _, h3⟩, h4⟩
  · rintro (⟨r, h1, h2⟩ | ⟨m, ⟨r, h1, h2⟩, h3⟩)
    · exact ⟨r, by omega, h2⟩
    · exact ⟨r + 1, by omega, h2.snoc h3⟩
/-- nothing new: nothing new ever -/
theorem Dk.stop {lo i k : Nat} (h : ∀ j, Dk ns s x lo i (k + 1) j → Dk ns s x lo i k j) : ∀ q j, Dk ns s x lo i (k + q) j → Dk ns s x lo i k j
  | 0, j, hd => hd
  | q + 1, j, hd => by
    rcases Dk.succ.1 (show Dk ns s x lo i ((k + q) + 1) j from hd) with h1 | ⟨m, h1, h2⟩
    · exact Dk.stop h q j h1
    · exact h j (Dk.succ.2 (.inr ⟨m, Dk.stop h q m h1, h2⟩))
theorem Dk.mono {lo i k q j : Nat} (hk : k ≤ q) (h : Dk ns s x lo i k j) : Dk ns s x lo i q j := by obtain ⟨r, h1, h2⟩ := h; exact ⟨r, by omega, h2⟩
/-- more turns than there are letters tell nothing new -/
theorem Dk.cap {lo i q j L : Nat} (hj : j ≤ L) (h : Dk ns s x lo i q j) : Dk ns s x lo i (min q L) j := by
  obtain ⟨r, h1, h2⟩ := h
  obtain ⟨m, h3, h4⟩ := h2.cut
  obtain ⟨r', h5, h6, h7⟩ := h4.short
  exact ⟨r', by omega, h3.app h7⟩
theorem rep_dk {a : Nat} {n : Nd} (hn : ns[a]? = some n) (hk : n.k = 4) (hx : n.a = x) (hmi : 0 ≤ n.mi) (hma : 0 ≤ n.ma → n.mi ≤ n.ma) {i j L more : Nat} (hj : j ≤ L) (hm : more = if n.ma < 0 then L + 1 else min (n.ma - n.mi).toNat (L + 1)) :
    Mt ns s a 0 i j ↔ Dk ns s x n.mi.toNat i more j := by
  rw [rep_iff hn hk hx hmi hma]
  constructor
  · rintro ⟨r, h1, h2, h3⟩
    have hd : Dk ns s x n.mi.toNat i (r - n.mi.toNat) j := ⟨r - n.mi.toNat, Nat.le_refl _, by rw [show n.mi.toNat + (r - n.mi.toNat) = r by omega]; exact h3⟩
    refine (hd.cap hj).mono ?_
    rw [hm]
    split
    · omega
    · have := h2 (by omega); omega
  · rintro ⟨r, h1, h2⟩
    refine ⟨n.mi.toNat + r, by omega, fun h0 => ?_, h2⟩
    rw [hm, if_neg (by omega)] at h1
    have := hma h0
    omega
end
end Go.Abs.L
