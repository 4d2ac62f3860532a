/-
  TREE: a tree as the document has it.
-/
import Derived.Test.YtmjljpnalhknfaaDoorTreeSet
import Derived.Test.YtmjljpnalhknfaaDoorLlaw18x1
namespace Go.Abs.L
open Go.Abs
set_option linter.unusedVariables false
set_option linter.unusedSimpArgs false

theorem refC_len (n : Nd) : (refC n).length = 7 := rfl
theorem refC_one (n : Nd) : (refC n).all AVal.one = true := rfl
theorem szRef : szOf cfg.P 37 = some 7 := by kernel_rfl
theorem take_flat {β : Type} {f : Nd → List β} {l : List Nd} {i : Nat} {x : Nd} (h : l[i]? = some x) : (l.take (i + 1)).flatMap f = (l.take i).flatMap f ++ f x := by
  rw [take_snoc h]; simp
theorem plain_spec {f : Nat} {h : AHeap} {s : Sl} {ns : List Nd} {root : Int} (v : View cfg.P (· < h.size) h 10 s (ns.flatMap nodeC)) (oks : ∀ n ∈ ns, OkS n) (hl : ns.length ≤ 1048576) (hf : f ≤ h.size) :
    W (M_boulterlaw18_Plain ⟨f, []⟩ h [s.v, .int .i64 root]) fun r => ∃ s' : Sl, r.1 = [s'.v, .int .i64 root] ∧ Own ⟨f, []⟩ r.2 37 7 s' (ns.flatMap refC) ∧ Only none h r.2 := by
  have nl : s.n = ns.length := by have := v.1; rw [chunk_length nodeC_len] at this; omega
  unfold M_boulterlaw18_Plain
  refine W.need rfl ?_
  simp only [Option.bind_some]
  obtain ⟨h1, e1⟩ : ∃ h1, h1 = h.push (.cells none 2 [s.v, .int .i64 root]) := ⟨_, rfl⟩
  rw [← e1]
  obtain ⟨h2, e2⟩ : ∃ h2, h2 = h1.push (.cells none 2 [.slice none 0, .int .i64 (0 : Int)]) := ⟨_, rfl⟩
  rw [← e2]
  have z1 : h1.size = h.size + 1 := by rw [e1]; rfl
  have z2 : h2.size = h1.size + 1 := by rw [e2]; rfl
  have k1 : Only none h h1 := by rw [e1]; exact Only.push _ _ _
  have k12 : Only none h1 h2 := by rw [e2]; exact Only.push _ _ _
  have g1 : h1.get h.size = some (.cells none 2 [s.v, .int .i64 root]) := by rw [e1, AHeap.get_push_new]
  have g2 : h2.get h.size = some (.cells none 2 [s.v, .int .i64 root]) := k12.keep g1 (by simp)
  have gb2 : h2.get h1.size = some (.cells none 2 [.slice none 0, .int .i64 (0 : Int)]) := by rw [e2, AHeap.get_push_new]
  have lr : ldI h2 (h.size, 1) .i64 = some root := ldI_of g2 (by simp) rfl
  obtain ⟨h4, e4, g4, k4, z4⟩ := var_st (h := h2) (g := ⟨f, []⟩) (z := [.slice none 0, .int .i64 (0 : Int)]) (cs := [.slice none 0, .int .i64 root]) (n := 2) (may_ge (by omega)) rfl rfl rfl
  have l4 : ldL h4 (h.size, 0) = some s := ldL_of (k4.keep g2 (by simp)) (by simp) rfl
  simp only [lr, e4, l4, Option.bind_some]
  refine W.bind (W.mono (Q := fun hh => ∃ sl : Sl, Only none h hh ∧ hh.get h1.size = some (.cells none 2 [.slice none 0, .int .i64 (0 : Int)]) ∧ hh.get h2.size = some (.cells none 2 [sl.v, .int .i64 root]) ∧ Own ⟨f, []⟩ hh 37 7 sl (ns.flatMap refC) ∧ (∀ j, sl.id? = some j → h2.size < j)) ?_ ?_)
  · refine W.loop (fun st => ∃ (i : Nat) (sl : Sl), st.1 = i ∧ i ≤ ns.length ∧ Only none h st.2 ∧ st.2.get h1.size = some (.cells none 2 [.slice none 0, .int .i64 (0 : Int)]) ∧ st.2.get h2.size = some (.cells none 2 [sl.v, .int .i64 root]) ∧ Own ⟨f, []⟩ st.2 37 7 sl ((ns.take i).flatMap refC) ∧ (∀ j, sl.id? = some j → h2.size < j)) (fun st => ns.length - st.1.toNat)
      ⟨0, ⟨none, 0⟩, rfl, by omega, (k1.trans k12).trans k4, k4.keep gb2 (by simp), g4, Own.nil _ _ _ _, by simp [Sl.id?]⟩ ?_
    rintro ⟨_, hh⟩ ⟨i, sl, rfl, hi, k, gb, gs, o, new⟩
    dsimp only at k gb gs o
    have zh := hh.lt_of_get gs
    unfold M_boulterlaw18_Plain_L0
    dsimp only
    refine W.iteP (fun hlt => ?_) (fun hge => W.ret ⟨sl, k, gb, gs, ?_, new⟩)
    · have hlt : i < ns.length := by omega
      obtain ⟨n, en⟩ : ∃ n, ns[i] = n := ⟨_, rfl⟩
      have hx : ns[i]? = some n := by rw [List.getElem?_eq_getElem hlt, en]
      have okn := oks n (List.mem_of_getElem? hx)
      obtain ⟨a, ea, _, la⟩ := (v.onl k).fld (i := i) (by omega)
      rw [chunk_take nodeC_len hx] at la
      obtain ⟨h7, e7, g7, k7, z7⟩ := var_st (h := hh) (g := ⟨f, []⟩) (z := zeroC) (cs := nodeC n) (n := 10) (may_ge (by omega)) rfl rfl rfl
      have l7 : ldL h7 (h2.size, 0) = some sl := ldL_of (k7.keep gs (by simp)) (by simp) rfl
      have l0 : ldI h7 (hh.size, 0) .i64 = some n.k := ldI_of g7 (by simp) rfl
      have l1 : ldI h7 (hh.size, 1) .i64 = some n.a := ldI_of g7 (by simp) rfl
      have l2 : ldI h7 (hh.size, 2) .i64 = some n.b := ldI_of g7 (by simp) rfl
      have l3 : ldI h7 (hh.size, 3) .i64 = some n.mi := ldI_of g7 (by simp) rfl
      have l4 : ldI h7 (hh.size, 4) .i64 = some n.ma := ldI_of g7 (by simp) rfl
      have l5 : ldI h7 (hh.size, 5) .i64 = some n.gr := ldI_of g7 (by simp) rfl
      have l6 : ldA h7 (hh.size, 6) 4 = some (setC n) := by rw [ldA_of g7 (by simp) (Nat.le_refl 10)]; rfl
      rw [ea]
      simp only [Option.bind_some, la, e7, l7, l0, l1, l2, l3, l4, l5, l6, bytes_eq h7 n okn]
      have hsn : sl.n = i := by have := o.1; rw [chunk_length refC_len, List.length_take] at this; omega
      obtain ⟨h8, e8⟩ : ∃ h8, h8 = h7.push (.cells (some 37) 2 (refC n)) := ⟨_, rfl⟩
      have k8 : Only none hh h8 := by rw [e8]; exact k7.trans (Only.push _ _ _)
      have z8 : h8.size = h7.size + 1 := by rw [e8]; rfl
      have ho := o.keep (h' := h8) fun j hj => k8.get j (o.lt hj) (by simp)
      obtain ⟨s', h9, ea9, o9, n9, k9, r9, z9⟩ := ho.app (bytes := 64) (n := 1) (x := .slice (some (h7.size, 0)) 1) (new := refC n) (by
        unfold Abs.firstA
        rw [e8]
        simp only [Nat.one_ne_zero, if_false, AHeap.get_push_new]
        rw [cellsAt_of (by simp) (Nat.le_refl 7)]
        rfl) rfl rfl (by omega) (by omega) (by omega) (by show f ≤ h8.size; omega) (by simp)
      rw [show [AVal.int .i64 n.k, .int .i64 n.a, .int .i64 n.b, .int .i64 n.mi, .int .i64 n.ma, .int .i64 n.gr, .str (bytesN n)] = refC n from rfl, ← e8, ea9]
      simp only [Option.bind_some]
      have hne : ∀ j, j ≤ h2.size → some j ≠ sl.id? := fun j hj hx => by have := new j hx.symm; omega
      have gs9 : h9.get h2.size = some (.cells none 2 [sl.v, .int .i64 root]) := k9.keep (k8.keep gs (by simp)) (hne _ (Nat.le_refl _))
      have gb9 : h9.get h1.size = some (.cells none 2 [.slice none 0, .int .i64 (0 : Int)]) := k9.keep (k8.keep gb (by simp)) (hne _ (by omega))
      have es := st_of (g := ⟨f, []⟩) gs9 (o := 0) (new := [.slice s'.r s'.n]) (may_ge (by omega)) (by simp) rfl
      rw [es]
      simp only [Option.bind_some]
      have hz9 := h9.lt_of_get gs9
      have hid : s'.id? = some h8.size := by simp [Sl.id?, r9]
      rw [ek64 (by omega)]
      refine W.ret ⟨⟨i + 1, s', rfl, by omega, ?_, ?_, ?_, ?_, ?_⟩, by dsimp only; omega⟩
      · dsimp only
        refine Only.set_new ⟨?_, fun id hid' _ => ?_⟩ gs9 (by omega)
        · have := k.size; have := k8.size; have := k9.size; omega
        · rw [k9.get id (by have := k.size; have := k8.size; omega) (hne _ (by omega)), k8.get id (by have := k.size; omega) (by simp), k.get id hid' (by simp)]
      · dsimp only
        rw [AHeap.get_set_ne _ _ hz9 (by omega)]; exact gb9
      · dsimp only
        rw [AHeap.get_set_same _ _ hz9]; rfl
      · dsimp only
        rw [take_flat hx]
        exact o9.keep fun j hj => AHeap.get_set_ne _ _ hz9 (by rw [hid] at hj; have := Option.some.inj hj; omega)
      · intro j hj
        rw [hid] at hj; have := Option.some.inj hj; omega
    · have : i = ns.length := by omega
      subst this
      rw [List.take_length] at o
      exact o
  · rintro hh ⟨sl, k, gb, gs, o, new⟩
    have lA : ldA hh (h2.size, 0) 2 = some [sl.v, .int .i64 root] := by rw [ldA_of gs (by simp) (Nat.le_refl 2)]; rfl
    rw [lA]
    simp only [Option.bind_some]
    rw [stG_of gb (may_ge (show f ≤ h1.size by omega)) (n := 2) (new := [sl.v, .int .i64 root]) rfl (by simp) rfl]
    simp only [Option.bind_some]
    have zb := hh.lt_of_get gb
    have gf : (hh.set h1.size (.cells none 2 (splice [.slice none 0, .int .i64 (0 : Int)] 0 [sl.v, .int .i64 root]))).get h1.size = some (.cells none 2 [sl.v, .int .i64 root]) := by rw [AHeap.get_set_same _ _ zb]; rfl
    rw [show ldA _ (h1.size, 0) 2 = some [sl.v, .int .i64 root] from by rw [ldA_of gf (by simp) (Nat.le_refl 2)]; rfl]
    simp only [Option.bind_some]
    exact W.ret ⟨sl, rfl, o.keep fun j hj => AHeap.get_set_ne _ _ zb (by have := new j hj; omega), Only.set_new k gb (by omega)⟩
theorem own_mayM {g g' : Gd} {h : AHeap} {e : TypeId} {sz : Nat} {s : Sl} {cs : List AVal} (w : Own g h e sz s cs) (k : ∀ id, s.id? = some id → g'.may id = true) : Own g' h e sz s cs := by
  refine ⟨w.1, w.2.1, ?_⟩
  rcases w.2.2 with h0 | ⟨id, rest, h1, h2, h3⟩
  · exact .inl h0
  · exact .inr ⟨id, rest, h1, h2, k id (by simp [Sl.id?, h1])⟩
end Go.Abs.L
