/-
  TREE: the whole ring.
-/
import Derived.Test.YtmjljpnalhknfaaDoorTreeRing2
namespace Go.Abs.L
open Go.Abs
set_option linter.unusedVariables false
set_option linter.unusedSimpArgs false

theorem var_st1 {h : AHeap} {g : Gd} {z v : AVal} (hm : g.may h.size = true) (h1 : v.one = true) :
    ∃ h', st g (h.push (.cells none 2 [z])) (h.size, 0) [v] = some h' ∧ h'.get h.size = some (.cells none 2 [v]) ∧ Only none h h' ∧ h'.size = h.size + 1 := by
  refine ⟨_, st_of (AHeap.get_push_new _ _) hm (by simp) (by simp [h1]), ?_, ⟨by simp, fun id hi _ => ?_⟩, rfl⟩
  · rw [AHeap.get_set_same _ _ (by simp)]; rfl
  · rw [AHeap.get_set_ne _ _ (by simp) (by omega), AHeap.get_push_old _ _ hi]
theorem Ak.Ok.mayP {c : Ak} (ok : c.Ok) {a : Nat} {n : Nd} (hn : c.ns[a]? = some n) : MayP n a := (mayF_iff n a).1 (ok.may a n hn)
theorem Ak.Ok.mi {c : Ak} (ok : c.Ok) {a : Nat} {n : Nd} (hn : c.ns[a]? = some n) : 0 ≤ n.mi ∧ n.mi ≤ 255 := by
  have := ok.mayP hn
  unfold MayP at this
  omega
theorem valid_sub {c : Ak} {x i j : Nat} (hx : x < c.ns.length) (hij : i ≤ j) (hj : j ≤ c.s.length) : c.Valid x 0 i j :=
  ⟨hx, hij, hj, by omega, by omega, fun n _ _ h => h⟩
theorem does_spec {c : Ak} (ok : c.Ok) {a : Nat} {t : Int} {i j : Nat} (hv : c.Valid a t i j) {m : Nat} (ih : ∀ a' t' i' j', c.Valid a' t' i' j' → c.mu a' t' i' j' < c.mu a t i j → ∀ m', m ≤ m' → c.AskOk m' a' t' i' j') {h : AHeap} (hi : c.I h) :
    W ((Ring (m + 5)).M_tree_asker_does c.g h (some (c.A, 0)) (qC a t i j)) (c.Post h a t i j) := by
  show W (B_tree_asker_does (Ring (m + 4)) c.g h (some (c.A, 0)) (qC a t i j)) _
  obtain ⟨hal, hij, hjl, ht0, ht255, htm⟩ := hv
  have hML := hi.lt
  have hl := ok.len
  have hfl := ok.fl
  obtain ⟨n, en⟩ : ∃ n, c.ns[a] = n := ⟨_, rfl⟩
  have hn : c.ns[a]? = some n := by rw [List.getElem?_eq_getElem hal, en]
  have hP := ok.mayP hn
  have hmi := ok.mi hn
  have nl : c.sl.n = c.ns.length := by have := hi.view.1; rw [chunk_length nodeC_len] at this; omega
  unfold B_tree_asker_does
  simp only [Option.bind_some]
  refine W.need rfl ?_
  obtain ⟨h1, e1⟩ : ∃ h1, h1 = h.push (.cells none 2 [.ptr (some (c.A, 0))]) := ⟨_, rfl⟩
  obtain ⟨h2, e2⟩ : ∃ h2, h2 = h1.push (.cells none 2 (qC a t i j)) := ⟨_, rfl⟩
  have z1 : h1.size = h.size + 1 := by rw [e1]; rfl
  have z2 : h2.size = h.size + 2 := by rw [e2]; simp; omega
  have k2 : Only none h h2 := by rw [e2, e1]; exact (Only.push _ _ _).trans (Only.push _ _ _)
  have gc : h2.get h.size = some (.cells none 2 [.ptr (some (c.A, 0))]) := by rw [e2, AHeap.get_push_old _ _ (by omega), e1, AHeap.get_push_new]
  have gq : h2.get h1.size = some (.cells none 2 (qC a t i j)) := by rw [e2, AHeap.get_push_new]
  have i2 := hi.keep ok k2
  rw [← e1, ← e2]
  rw [ldP_of gc (by simp) (show ([.ptr (some (c.A, 0))] : List AVal)[0]? = some (.ptr (some (c.A, 0))) from rfl)]
  simp only [Option.bind_some]
  rw [show ldL h2 (c.A, 0 + 0 + 0) = some c.sl from ldL_of i2.cell (by simp) rfl, ldI_of gq (by simp) (show (qC a t i j)[0]? = some (.int .i64 (a : Int)) from rfl)]
  simp only [Option.bind_some]
  obtain ⟨ad, ea, _, la⟩ := i2.view.fld (i := a) (by omega)
  rw [chunk_take nodeC_len hn] at la
  obtain ⟨h4, e4, g4, k4, z4⟩ := var_st (h := h2) (g := c.g) (z := zeroC) (cs := nodeC n) (n := 10) (may_ge (by omega)) rfl rfl rfl
  obtain ⟨h6, e6, g6, k6, z6⟩ := var_st1 (h := h4) (g := c.g) (z := AVal.nilFunc) (v := .func (.func 37) [] [.ptr (some (h.size, 0))]) (may_ge (by omega)) rfl
  rw [ea]
  simp only [Option.bind_some, la, e4, e6]
  have o6 : Only none h h6 := (k2.trans k4).trans k6
  have i6 := hi.keep ok o6
  have cs : Cells c h6 h.size h1.size h2.size h4.size a t i j n :=
    ⟨(k4.trans k6).keep gc (by simp), (k4.trans k6).keep gq (by simp), k6.keep g4 (by simp), g6, by omega, by omega, by omega, by omega⟩
  have lk : ldI h6 (h2.size, 0) .i64 = some n.k := ldI_of cs.nd (by simp) rfl
  have lS : ldS h6 (c.A, 0 + 2) = some c.s := ldS_of i6.cell (by simp) rfl
  have lP : ldP h6 (h.size, 0) = some (some (c.A, 0)) := ldP_of cs.ptr (by simp) rfl
  simp only [lk, lP, lS, cs.qi, cs.qj, Option.bind_some]
  rw [iteB_beq]
  split
  · rename_i hk
    refine W.ret ⟨?_, i6, o6.weaken _⟩
    rw [mt_simple hn]
    simp only [beq_iff_eq]
    omega
  rename_i hk0
  rw [iteB_beq]
  split
  · rename_i hk
    rw [show IntKind.i64.wrap ((i : Int) + 1) = ((i + 1 : Nat) : Int) from ek64 (by omega)]
    rw [iteB_beq]
    split
    · rename_i hj
      have hj : j = i + 1 := by omega
      obtain ⟨b, eb⟩ : ∃ b, c.s[i]'(by omega) = b := ⟨_, rfl⟩
      have hb : c.s[i]? = some b := by rw [List.getElem?_eq_getElem (by omega), eb]
      have lset : ldA h6 (h2.size, 6) 4 = some (setC n) := by rw [ldA_of cs.nd (by simp) (Nat.le_refl 10)]; rfl
      rw [lset, ixS_nat hb]
      simp only [Option.bind_some]
      rw [has_eq h6 n (ok.set a n hn) (UInt8.toNat_lt b)]
      simp only [Option.bind_some]
      refine W.ret ⟨?_, i6, o6.weaken _⟩
      dsimp only
      rw [mt_simple hn]
      constructor
      · intro hh; exact .inr (.inl ⟨hk, hj, b, hb, hh⟩)
      · rintro (⟨h', -⟩ | ⟨_, _, b', h1, h2⟩ | ⟨h', -⟩ | ⟨h', -⟩ | ⟨h', -⟩ | ⟨h', -⟩ | ⟨h', -⟩ | ⟨h', -⟩)
        · omega
        · rw [hb] at h1; cases h1; exact h2
        all_goals omega
    · rename_i hj
      simp only [Option.bind_some]
      refine W.ret ⟨?_, i6, o6.weaken _⟩
      rw [mt_simple hn]
      simp only [Bool.false_eq_true, false_iff]
      rintro (⟨h', -⟩ | ⟨_, h', _⟩ | ⟨h', -⟩ | ⟨h', -⟩ | ⟨h', -⟩ | ⟨h', -⟩ | ⟨h', -⟩ | ⟨h', -⟩) <;> omega
  rename_i hk1
  rw [iteB_beq]
  split
  · rename_i hk
    rw [iteB_and]
    simp only [Option.bind_some]
    refine W.ret ⟨?_, i6, o6.weaken _⟩
    rw [mt_simple hn]
    simp only [Bool.and_eq_true, beq_iff_eq]
    constructor
    · intro hh; exact .inr (.inr (.inl ⟨hk, by omega, by omega⟩))
    · rintro (⟨h', -⟩ | ⟨h', -⟩ | ⟨_, h1, h2⟩ | ⟨h', -⟩ | ⟨h', -⟩ | ⟨h', -⟩ | ⟨h', -⟩ | ⟨h', -⟩) <;> omega
  rename_i hk6
  rw [iteB_beq]
  split
  · rename_i hk
    rw [iteB_and]
    simp only [Option.bind_some]
    refine W.ret ⟨?_, i6, o6.weaken _⟩
    rw [mt_simple hn]
    simp only [Bool.and_eq_true, beq_iff_eq]
    constructor
    · intro hh; exact .inr (.inr (.inr (.inl ⟨hk, by omega, by omega⟩)))
    · rintro (⟨h', -⟩ | ⟨h', -⟩ | ⟨h', -⟩ | ⟨_, h1, h2⟩ | ⟨h', -⟩ | ⟨h', -⟩ | ⟨h', -⟩ | ⟨h', -⟩) <;> omega
  rename_i hk7
  -- nodes below
  have hA : 0 ≤ n.a ∧ n.a < a := by unfold MayP at hP; omega
  obtain ⟨x, hx⟩ : ∃ x : Nat, n.a = x := ⟨n.a.toNat, by omega⟩
  have hxa : x < a := by omega
  have hxl : x < c.ns.length := by omega
  obtain ⟨nx, enx⟩ : ∃ nx, c.ns[x] = nx := ⟨_, rfl⟩
  have hnx : c.ns[x]? = some nx := by rw [List.getElem?_eq_getElem hxl, enx]
  have askx : ∀ i' j', i' ≤ j' → j' ≤ c.s.length → ∀ m', m ≤ m' → c.AskOk m' x 0 i' j' := fun i' j' h1 h2 m' hm' =>
    ih x 0 i' j' (valid_sub hxl h1 h2) (mu_sub hxa h2 hnx (ok.mi hnx).2) m' hm'
  have lna : ldI h6 (h2.size, 1) .i64 = some (x : Int) := by rw [← hx]; exact cs.na
  rw [iteB_beq]
  split
  · rename_i hk
    have hB : 0 ≤ n.b ∧ n.b < a := by unfold MayP at hP; omega
    obtain ⟨y, hy⟩ : ∃ y : Nat, n.b = y := ⟨n.b.toNat, by omega⟩
    have hya : y < a := by omega
    have hyl : y < c.ns.length := by omega
    obtain ⟨ny, eny⟩ : ∃ ny, c.ns[y] = ny := ⟨_, rfl⟩
    have hny : c.ns[y]? = some ny := by rw [List.getElem?_eq_getElem hyl, eny]
    have mal : Mt c.ns c.s a t i j ↔ Mt c.ns c.s x 0 i j ∨ Mt c.ns c.s y 0 i j := by
      rw [mt_simple hn]
      constructor
      · rintro (⟨h', -⟩ | ⟨h', -⟩ | ⟨h', -⟩ | ⟨h', -⟩ | ⟨_, ⟨x', e, h1⟩ | ⟨x', e, h1⟩⟩ | ⟨h', -⟩ | ⟨h', -⟩ | ⟨h', -⟩)
        · omega
        · omega
        · omega
        · omega
        · rw [show x' = x from by omega] at h1; exact .inl h1
        · rw [show x' = y from by omega] at h1; exact .inr h1
        all_goals omega
      · rintro (h' | h')
        · exact .inr (.inr (.inr (.inr (.inl ⟨hk, .inl ⟨x, hx, h'⟩⟩))))
        · exact .inr (.inr (.inr (.inr (.inl ⟨hk, .inr ⟨y, hy, h'⟩⟩))))
    simp only [cs.ldF, lna, Option.bind_some]
    refine W.bind (W.mono (d1_spec (askx i j hij hjl (m + 3) (by omega)) i6 cs.ptr) ?_)
    rintro ⟨b1, h7⟩ ⟨p7, i7, o7⟩
    dsimp only at p7 i7 o7 ⊢
    cases b1
    · simp only [iteB_false]
      have cs7 := cs.keep o7
      have lnb : ldI h7 (h2.size, 2) .i64 = some (y : Int) := by rw [← hy]; exact cs7.nb
      simp only [cs7.ldF, lnb, cs7.qi, cs7.qj, Option.bind_some]
      refine W.bind (W.bind (W.mono (d1_spec (ih y 0 i j (valid_sub hyl hij hjl) (mu_sub hya hjl hny (ok.mi hny).2) (m + 3) (by omega)) i7 cs7.ptr) ?_))
      rintro ⟨b2, h8⟩ ⟨p8, i8, o8⟩
      dsimp only at p8 i8 o8 ⊢
      refine W.ret (W.ret ⟨?_, i8, ((o6.weaken _).trans o7).trans o8⟩)
      rw [mal]
      dsimp only
      rw [p8]
      constructor
      · exact .inr
      · rintro (h' | h')
        · have := p7.2 h'; cases this
        · exact h'
    · simp only [iteB_true, Option.bind_some]
      exact W.ret ⟨by simp only [true_iff]; exact mal.2 (.inl (p7.1 rfl)), i7, (o6.weaken _).trans o7⟩
  rename_i hk3
  rw [iteB_beq]
  split
  · rename_i hk
    simp only [cs.ldF, lna, Option.bind_some]
    refine W.bind (W.mono (d1_spec (askx i j hij hjl (m + 3) (by omega)) i6 cs.ptr) ?_)
    rintro ⟨b1, h7⟩ ⟨p7, i7, o7⟩
    dsimp only at p7 i7 o7 ⊢
    refine W.ret ⟨?_, i7, (o6.weaken _).trans o7⟩
    dsimp only
    rw [p7, mt_simple hn]
    constructor
    · intro h'; exact .inr (.inr (.inr (.inr (.inr (.inl ⟨hk, x, hx, h'⟩)))))
    · rintro (⟨h', -⟩ | ⟨h', -⟩ | ⟨h', -⟩ | ⟨h', -⟩ | ⟨h', -⟩ | ⟨_, x', e, h1⟩ | ⟨h', -⟩ | ⟨h', -⟩)
      · omega
      · omega
      · omega
      · omega
      · omega
      · rw [show x' = x from by omega] at h1; exact h1
      all_goals omega
  rename_i hk5
  have lq : ldA h6 (h1.size, 0) 4 = some (qC a t i j) := by rw [ldA_of cs.q (by simp) (Nat.le_refl 4)]; rfl
  have ln : ldA h6 (h2.size, 0) 10 = some (nodeC n) := by rw [ldA_of cs.nd (by simp) (Nat.le_refl 10)]; rfl
  rw [iteB_beq]
  split
  · rename_i hk
    have hB : 0 ≤ n.b ∧ n.b < a := by unfold MayP at hP; omega
    obtain ⟨y, hy⟩ : ∃ y : Nat, n.b = y := ⟨n.b.toNat, by omega⟩
    have hya : y < a := by omega
    have hyl : y < c.ns.length := by omega
    obtain ⟨ny, eny⟩ : ∃ ny, c.ns[y] = ny := ⟨_, rfl⟩
    have hny : c.ns[y]? = some ny := by rw [List.getElem?_eq_getElem hyl, eny]
    rw [lq]
    simp only [Option.bind_some]
    refine W.bind (W.mono (cut_spec ok (m := m + 1) hij hjl hx hy (fun k h1 h2 => askx i k h1 (by omega) (m + 1) (by omega))
      (fun k h1 h2 => ih y 0 k j (valid_sub hyl h2 hjl) (mu_sub hya hjl hny (ok.mi hny).2) (m + 1) (by omega)) i6 cs (some (c.A, 0))) ?_)
    rintro ⟨b1, h7⟩ ⟨p7, i7, o7⟩
    dsimp only at p7 i7 o7 ⊢
    refine W.ret ⟨?_, i7, (o6.weaken _).trans o7⟩
    dsimp only
    rw [p7, mt_simple hn]
    constructor
    · rintro ⟨k, h1, h2⟩; exact .inr (.inr (.inr (.inr (.inr (.inr (.inl ⟨hk, x, y, k, hx, hy, h1, h2⟩))))))
    · rintro (⟨h', -⟩ | ⟨h', -⟩ | ⟨h', -⟩ | ⟨h', -⟩ | ⟨h', -⟩ | ⟨h', -⟩ | ⟨_, x', y', k, e1', e2', h1, h2⟩ | ⟨h', -⟩)
      · omega
      · omega
      · omega
      · omega
      · omega
      · omega
      · rw [show x' = x from by omega] at h1; rw [show y' = y from by omega] at h2; exact ⟨k, h1, h2⟩
      · omega
  rename_i hk2
  have hk4 : n.k = 4 := by unfold MayP at hP; omega
  rw [lq, ln]
  simp only [Option.bind_some]
  refine W.bind (W.mono (rep_spec ok (m := m + 3) hn hk4 hij hjl ⟨ht0, ht255⟩ hx (fun k h1 h2 => askx i k h1 (by omega) (m + 3) (by omega)) ?_ i6) ?_)
  · intro k h1 h2 hma hki
    have hnt : 0 ≤ nextT n t ∧ nextT n t ≤ 255 ∧ (0 ≤ n.ma → nextT n t ≤ n.ma) ∧ (t < n.mi → t < nextT n t) := by
      have := htm n hn hk4
      unfold MayP at hP
      unfold nextT
      split
      · split <;> omega
      · omega
    refine ih a (nextT n t) k j ⟨hal, h2, hjl, hnt.1, hnt.2.1, fun n' hn' _ h' => ?_⟩ (mu_rep hn hmi.2 hnt.1 h1 h2 fun hk => ⟨hnt.2.2.2 (hki hk), hki hk⟩) (m + 3) (by omega)
    rw [hn] at hn'; cases hn'
    exact hnt.2.2.1 h'
  · rintro ⟨b1, h7⟩ ⟨p7, i7, o7⟩
    exact W.ret ⟨p7, i7, (o6.weaken _).trans o7⟩
theorem asks_spec {c : Ak} (ok : c.Ok) : ∀ (N a : Nat) (t : Int) (i j : Nat), c.mu a t i j < N → c.Valid a t i j → ∀ m, 8 * (c.mu a t i j + 1) ≤ m → c.AskOk m a t i j
  | 0, a, t, i, j, hN, _, _, _ => by omega
  | N + 1, a, t, i, j, hN, hv, m, hm => by
    obtain ⟨m0, rfl⟩ : ∃ m0, m = m0 + 6 := ⟨m - 6, by omega⟩
    intro h hi
    show W (B_tree_asker_asks (Ring (m0 + 5)) c.g h (some (c.A, 0)) (qC a t i j)) _
    have hML := hi.lt
    unfold B_tree_asker_asks
    refine W.need rfl ?_
    simp only [Option.bind_some]
    obtain ⟨h1, e1⟩ : ∃ h1, h1 = h.push (.cells none 2 (qC a t i j)) := ⟨_, rfl⟩
    have k1 : Only none h h1 := by rw [e1]; exact Only.push _ _ _
    have g1 : h1.get h.size = some (.cells none 2 (qC a t i j)) := by rw [e1, AHeap.get_push_new]
    have i1 := hi.keep ok k1
    have z1 : h1.size = h.size + 1 := by rw [e1]; rfl
    rw [← e1]
    rw [show ldM h1 (c.A, 0 + 3) = some (some c.M) from ldM_of i1.cell (by simp) rfl, show ldA h1 (h.size, 0) 4 = some (qC a t i j) from by rw [ldA_of g1 (by simp) (Nat.le_refl 4)]; rfl]
    simp only [Option.bind_some]
    obtain ⟨es, gM, okE⟩ := i1.map
    rcases ask_look gM okE a t i j with hl | ⟨b, hl, hb⟩
    · rw [hl]
      simp only [Option.bind_some, asB, Option.map_some, iteB_false]
      refine W.bind (W.mono (does_spec ok hv (m := m0) (fun a' t' i' j' hv' hlt m' hm' => asks_spec ok N a' t' i' j' (by omega) hv' m' (by omega)) i1) ?_)
      rintro ⟨b, h2⟩ ⟨p2, i2, o2⟩
      dsimp only at p2 i2 o2 ⊢
      have g2 : h2.get h.size = some (.cells none 2 (qC a t i j)) := o2.keep g1 (by simp; omega)
      rw [show ldM h2 (c.A, 0 + 3) = some (some c.M) from ldM_of i2.cell (by simp) rfl, show ldA h2 (h.size, 0) 4 = some (qC a t i j) from by rw [ldA_of g2 (by simp) (Nat.le_refl 4)]; rfl]
      simp only [Option.bind_some]
      obtain ⟨es2, gM2, okE2⟩ := i2.map
      obtain ⟨es3, e3, okE3⟩ := ask_put (g := c.g) gM2 (may_ge ok.fl) okE2 a t i j p2
      rw [e3]
      simp only [Option.bind_some]
      have hM2 := h2.lt_of_get gM2
      have o3 : Only (some c.M) h2 (h2.set c.M (.map 2 es3)) := Only.set gM2
      refine W.ret ⟨p2, ⟨o3.keep i2.cell (by simpa using ok.am), i2.view.keep (o3.same fun id hid => ⟨?_, ?_⟩) (fun _ x => x), es3, AHeap.get_set_same _ _ hM2, okE3⟩, ((k1.weaken _).trans o2).trans o3⟩
      · have hid : id < c.P0 := hid
        have := ok.p0
        omega
      · have hid : id < c.P0 := hid
        have := ok.p0
        simp; omega
    · rw [hl]
      simp only [Option.bind_some, asB, Option.map_some, iteB_true]
      exact W.ret ⟨hb, i1, k1.weaken _⟩
end Go.Abs.L
