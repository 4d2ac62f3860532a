/-
  SUBST: what a template's parts are: by the program, and by the document.
-/
import Derived.Test.YtklabpnclemmoaaSubstExp
import Derived.Test.YtklabpnclemmoaaLlaw23x1
namespace Go.Abs.L
open Go.Abs
set_option linter.unusedVariables false
set_option linter.unusedSimpArgs false

/-! ### parts that grow -/
def putB (l : List Part) (b : List UInt8) : List Part :=
  match l.getLast? with
  | some p => if p.1 = 0 then l.dropLast ++ [(p.1, p.2.1, p.2.2 ++ b)] else l ++ [(0, 0, b)]
  | none => [(0, 0, b)]
theorem putB_nil (b : List UInt8) : putB [] b = [(0, 0, b)] := rfl
theorem putB_snoc (l : List Part) (p : Part) (b : List UInt8) : putB (l ++ [p]) b = if p.1 = 0 then l ++ [(p.1, p.2.1, p.2.2 ++ b)] else (l ++ [p]) ++ [(0, 0, b)] := by
  unfold putB
  simp
theorem snoc_cases (l : List Part) : l = [] ∨ ∃ m p, l = m ++ [p] := by
  rcases List.eq_nil_or_concat l with h | ⟨m, p, h⟩
  · exact .inl h
  · exact .inr ⟨m, p, by rw [h, List.concat_eq_append]⟩
theorem putB_length (l : List Part) (b : List UInt8) : (putB l b).length ≤ l.length + 1 := by
  rcases snoc_cases l with rfl | ⟨m, p, rfl⟩
  · simp [putB_nil]
  · rw [putB_snoc]; split <;> simp
def signF (c : UInt8) : Option Part :=
  if 49 ≤ (c.toNat : Int) ∧ (c.toNat : Int) ≤ 57 then some (1, c.toNat - 48, [])
  else if (c.toNat : Int) = 85 then some (2, 0, [])
  else if (c.toNat : Int) = 76 then some (3, 0, [])
  else if (c.toNat : Int) = 69 then some (4, 0, [])
  else if (c.toNat : Int) = 117 then some (5, 0, [])
  else if (c.toNat : Int) = 108 then some (6, 0, []) else none
def escF (c : UInt8) : Bool := decide ((c.toNat : Int) = 38 ∨ (c.toNat : Int) = 92 ∨ (c.toNat : Int) = 47)
def parseF : List Part → Nat → List UInt8 → List Part × Int × Int
  | out, _, [] => (out, 0, 0)
  | out, i, [b] =>
    if (b.toNat : Int) = 38 then (out ++ [(1, 0, [])], 0, 0)
    else if (b.toNat : Int) ≠ 92 then (putB out [b], 0, 0) else ([], i, 11)
  | out, i, b :: c :: l =>
    if (b.toNat : Int) = 38 then parseF (out ++ [(1, 0, [])]) (i + 1) (c :: l)
    else if (b.toNat : Int) ≠ 92 then parseF (putB out [b]) (i + 1) (c :: l)
    else
      match signF c with
      | some p => parseF (out ++ [p]) (i + 2) l
      | none => if escF c then parseF (putB out [c]) (i + 2) l else ([], i, 11)
theorem parseF_and {out : List Part} {i : Nat} {b : UInt8} {l : List UInt8} (hb : (b.toNat : Int) = 38) : parseF out i (b :: l) = parseF (out ++ [(1, 0, [])]) (i + 1) l := by
  cases l with
  | nil => rw [show parseF out i [b] = _ from parseF.eq_2 out i b, if_pos hb, parseF]
  | cons c l => rw [parseF, if_pos hb]
theorem parseF_byte {out : List Part} {i : Nat} {b : UInt8} {l : List UInt8} (hb : (b.toNat : Int) ≠ 38) (h92 : (b.toNat : Int) ≠ 92) : parseF out i (b :: l) = parseF (putB out [b]) (i + 1) l := by
  cases l with
  | nil => rw [show parseF out i [b] = _ from parseF.eq_2 out i b, if_neg hb, if_pos h92, parseF]
  | cons c l => rw [parseF, if_neg hb, if_pos h92]
theorem parseF_end {out : List Part} {i : Nat} {b : UInt8} (h92 : (b.toNat : Int) = 92) : parseF out i [b] = ([], (i : Int), 11) := by
  rw [parseF, if_neg (by omega), if_neg (by omega)]
theorem parseF_esc {out : List Part} {i : Nat} {b c : UInt8} {l : List UInt8} (h92 : (b.toNat : Int) = 92) : parseF out i (b :: c :: l) = match signF c with
      | some p => parseF (out ++ [p]) (i + 2) l
      | none => if escF c then parseF (putB out [c]) (i + 2) l else ([], (i : Int), 11) := by
  rw [parseF, if_neg (by omega), if_neg (by omega)]

/-! ### the last part -/
section
variable {g : Gd} {h0 h : AHeap} {e : TypeId} {s : Sl} {ps : List Part}
theorem flat_snoc (m : List Part) (p : Part) : (m ++ [p]).flatMap partC = m.flatMap partC ++ partC p := by simp
theorem set_last (m : List Part) (p : Part) (x : List UInt8) : ((m ++ [p]).flatMap partC).set (m.length * 3 + 2) (.str x) = (m ++ [(p.1, p.2.1, x)]).flatMap partC := by
  rw [flat_snoc, flat_snoc, List.set_append_right _ _ (by rw [chunk_length partC_len]; omega), chunk_length partC_len]
  have : m.length * 3 + 2 - m.length * 3 = 2 := by omega
  rw [this]; rfl
/-- the last part's kind and bytes; bytes put behind -/
theorem last_spec {m : List Part} {p : Part} (w : Grow g h0 h e 3 s ((m ++ [p]).flatMap partC)) (hn : s.n = m.length + 1) (he : szOf cfg.P e = some 3) (hb : m.length ≤ 1000000) :
    ∃ a, ixL s 3 (IntKind.i64.wrap (((s.n : Nat) : Int) - 1)) = some a ∧ ldI h (a.1, a.2 + 0) .i64 = some p.1 ∧ ldS h (a.1, a.2 + 2) = some p.2.2 ∧
      ∀ (h1 : AHeap) (x : List UInt8), Only none h h1 → ∃ h', st g h1 (a.1, a.2 + 2) [.str x] = some h' ∧ Grow g h0 h' e 3 s ((m ++ [(p.1, p.2.1, x)]).flatMap partC) := by
  have hx : (m ++ [p])[m.length]? = some p := by simp
  have ew : IntKind.i64.wrap (((s.n : Nat) : Int) - 1) = (m.length : Int) := by rw [hn, w64 (by omega) (by omega)]; omega
  obtain ⟨a, ea, lf, _⟩ := (w.view (P := cfg.P) he).fld (i := m.length) (by omega)
  refine ⟨a, by rw [ew]; exact ea, ldI_ld (lf 0 (by omega) _ (by rw [chunk_get partC_len _ _ p hx 0 (by omega)]; rfl)), ldS_ld (lf 2 (by omega) _ (by rw [chunk_get partC_len _ _ p hx 2 (by omega)]; rfl)), ?_⟩
  intro h1 x k
  obtain ⟨a', ea', h', e1, w', _⟩ := (w.keep k).st1 (i := m.length) (j := 2) (by omega) (by omega) (v := .str x) rfl
  rw [ea] at ea'
  injection ea' with ea'
  subst ea'
  rw [set_last] at w'
  exact ⟨h', e1, w'⟩
end
theorem szPart : szOf cfg.P 50 = some 3 := by kernel_rfl
theorem szPart2 : szOf cfg.P 51 = some 3 := by kernel_rfl

/-! ### the program's -/
theorem sput_spec {g : Gd} {h0 h : AHeap} {s : Sl} {ps : List Part} (w : Grow g h0 h 50 3 s (ps.flatMap partC)) (hn : s.n = ps.length) (hb : ps.length ≤ 100000) (hp : ∀ p ∈ ps, p.2.2.length ≤ 100000) (hfl : g.floor ≤ h0.size) (hpr : g.prot = []) (b : UInt8) :
    W (M_subst_put g h s b.toNat) fun r => Grow g h0 r.2 50 3 r.1 ((putB ps [b]).flatMap partC) ∧ r.1.n = (putB ps [b]).length := by
  have eb : UInt8.ofNat ((b.toNat : Int)).toNat = b := by simp
  have new : W ((some (h.push (.cells (some 5) 2 [.int .u8 (b.toNat : Int)]))).bind fun h3 => (byL h3 (⟨some (h.size, 0), 1⟩ : Sl)).bind fun x5 => (some (h3.push (.cells (some 50) 2 [.int .i64 (0 : Int), .int .i64 (0 : Int), .str x5]))).bind fun h4 => (app 50 3 32 g h4 s 1 (.slice (some (h3.size, 0)) 1)).bind fun x => some (x.1, x.2)) fun r => Grow g h0 r.2 50 3 r.1 ((ps ++ [(0, 0, [b])]).flatMap partC) ∧ r.1.n = (ps ++ [((0 : Int), (0 : Int), [b])]).length := by
    simp only [Option.bind_some, byL_one, eb]
    refine W.bind (W.mono ((w.keep (Only.push none h _)).app1 (e' := 50) (new := partC (0, 0, [b])) rfl rfl (by omega) (by omega) hfl hpr) ?_)
    rintro ⟨s', h'⟩ ⟨w', n'⟩
    dsimp only at w' n'
    refine W.ret ⟨?_, ?_⟩
    · rw [flat_snoc]; exact w'
    · dsimp only; rw [n', hn]; simp
  unfold M_subst_put
  rcases snoc_cases ps with rfl | ⟨m, p, rfl⟩
  · rw [show decide (((s.n : Nat) : Int) > 0) = false from decide_eq_false (by rw [hn]; simp)]
    simp only [iteB_false, Option.bind_some]
    exact new
  · have hn' : s.n = m.length + 1 := by rw [hn]; simp
    have hm : m.length ≤ 1000000 := by simp at hb; omega
    obtain ⟨a, ea, l0, l2, hst⟩ := last_spec w hn' szPart hm
    rw [show decide (((s.n : Nat) : Int) > 0) = true from decide_eq_true (by omega), putB_snoc]
    simp only [iteB_true, Option.bind_some, ea, l0]
    rw [iteB_beq]
    split
    · simp only [Option.bind_some, l2, byL_one, eb]
      have := hp p (by simp)
      refine W.need (by simp; omega) ?_
      obtain ⟨h', e1, w'⟩ := hst _ (p.2.2 ++ [b]) (Only.push none h (.cells (some 5) 2 [.int .u8 (b.toNat : Int)]))
      rw [e1]
      exact W.ret ⟨w', by rw [hn']; simp⟩
    · exact new
theorem mpS_of {P : Program} {g : Gd} {h : AHeap} {t kt et : TypeId} {id : Nat} {k v : AVal} {es : List (AVal × AVal)} (hu : P.underlying t = some (.map kt et)) (hk : keyOkA P 20 kt k = true) (hm : g.may id = true) (hg : h.get id = some (.map 2 es)) (hf : findA P kt k es 0 = some none) :
    mpS P g h t (some id) k v = some (h.set id (.map 2 (es ++ [(k, v)]))) := by
  unfold mpS mapSetA
  simp only [hu]
  rw [if_pos ⟨hk, hm⟩]
  simp only [hg, hf]
theorem eqA_int {P : Program} {t : TypeId} {k : IntKind} (hu : P.underlying t = some (.int k)) (a b : Int) (d : Nat) : eqA P (d + 1) t (.int k a) (.int k b) = some (a == b) := by
  simp [eqA, hu]
theorem findA_int {P : Program} {t : TypeId} {k : IntKind} (hu : P.underlying t = some (.int k)) (a b : Int) (v : AVal) (es : List (AVal × AVal)) (i : Nat) : findA P t (.int k a) ((.int k b, v) :: es) i = if a = b then some (some (i, v)) else findA P t (.int k a) es (i + 1) := by
  rw [findA, show (10000 : Nat) = 9999 + 1 from rfl, eqA_int hu]
  by_cases h : a = b
  · rw [if_pos h, show (a == b) = true from by simpa using h]
  · rw [if_neg h, show (a == b) = false from by simpa using h]
theorem findA_nil {P : Program} {t : TypeId} {k : AVal} {i : Nat} : findA P t k [] i = some none := rfl
theorem uMap : cfg.P.underlying 120 = some (.map 5 3) := by kernel_rfl
theorem uU8 : cfg.P.underlying 5 = some (.int .u8) := by kernel_rfl
/-- what a sign tells, as the program has it -/
def signP (c : UInt8) : List AVal × Bool :=
  match signF c with
  | some p => (partC p, true)
  | none => (partC (0, 0, []), false)
theorem ssign_spec {g : Gd} {h : AHeap} (hfl : g.floor ≤ h.size) (hpr : g.prot = []) (c : UInt8) :
    W (M_subst_sign g h c.toNat) fun r => r.1 = signP c ∧ Only none h r.2 := by
  have hc := byte_lt c
  unfold M_subst_sign
  simp only [Option.bind_some]
  obtain ⟨h1, e1⟩ : ∃ h1, h1 = h.push (.cells none 2 [.int .i64 (0 : Int), .int .i64 (0 : Int), .str ([] : List UInt8)]) := ⟨_, rfl⟩
  have g1 : h1.get h.size = some (.cells none 2 [.int .i64 (0 : Int), .int .i64 (0 : Int), .str ([] : List UInt8)]) := by rw [e1, AHeap.get_push_new]
  have z1 : h1.size = h.size + 1 := by rw [e1]; rfl
  have k1 : Only none h h1 := by rw [e1]; exact Only.push _ _ _
  rw [← e1]
  have m0 : g.may h.size = true := may_new hfl (by simp [hpr])
  have m1 : g.may h1.size = true := may_new (by omega) (by simp [hpr])
  -- the result is put into its cell, and read again
  have fin : ∀ (hh : AHeap) (p : Part) (b : Bool) (cs : List AVal), hh.get h.size = some (.cells none 2 cs) → cs.length = 3 → Only none h hh → W ((stG 3 g hh (h.size, 0) (partC p)).bind fun h2 => (ldA h2 (h.size, 0) 3).bind fun x1 => some ((x1, b), h2)) fun r => r.1 = (partC p, b) ∧ Only none h r.2 := by
    intro hh p b cs hg hl ho
    have hlt := hh.lt_of_get hg
    rw [stG_of hg m0 (by rfl) (by omega) rfl, splice_all (by rw [partC_len]; exact hl.symm)]
    simp only [Option.bind_some]
    rw [ldA_of (AHeap.get_set_same _ _ hlt) (by simp) (Nat.le_refl 3)]
    refine W.ret ⟨rfl, ⟨by simpa using ho.size, fun id hi _ => ?_⟩⟩
    dsimp only
    rw [AHeap.get_set_ne _ _ hlt (by omega)]
    exact ho.get id hi (by simp)
  by_cases hd : 49 ≤ (c.toNat : Int) ∧ (c.toNat : Int) ≤ 57
  · have es : signP c = (partC (1, (c.toNat : Int) - 48, []), true) := by unfold signP signF; rw [if_pos hd]
    rw [show (decide ((c.toNat : Int) ≥ 49) && decide ((c.toNat : Int) ≤ 57)) = true from by simp; omega, es, wu8 (by omega) (by omega), w64 (by omega) (by omega)]
    simp only [iteB_true]
    exact fin h1 (1, (c.toNat : Int) - 48, []) true _ g1 rfl k1
  · rw [show (decide ((c.toNat : Int) ≥ 49) && decide ((c.toNat : Int) ≤ 57)) = false from by rw [Bool.eq_false_iff]; simp; omega]
    simp only [iteB_false]
    -- the map, key by key
    have step : ∀ (hh : AHeap) (es : List (AVal × AVal)) (k v : Int), hh.get h1.size = some (.map 2 es) → findA cfg.P 5 (.int .u8 k) es 0 = some none → hh.get h.size = h1.get h.size → Only none h hh →
        ∃ h', mpS cfg.P g hh 120 (some h1.size) (.int .u8 k) (.int .i64 v) = some h' ∧ h'.get h1.size = some (.map 2 (es ++ [(.int .u8 k, .int .i64 v)])) ∧ h'.get h.size = h1.get h.size ∧ Only none h h' := by
      intro hh es k v hg hf hr ho
      have hlt := hh.lt_of_get hg
      refine ⟨_, mpS_of uMap (by kernel_rfl) m1 hg hf, AHeap.get_set_same _ _ hlt, ?_, ⟨by simpa using ho.size, fun id hi _ => ?_⟩⟩
      · rw [AHeap.get_set_ne _ _ hlt (by omega)]; exact hr
      · rw [AHeap.get_set_ne _ _ hlt (by omega)]; exact ho.get id hi (by simp)
    obtain ⟨h4, e4, g4, r4, o4⟩ := step (h1.push (.map 2 [])) [] 85 2 (AHeap.get_push_new _ _) rfl (AHeap.get_push_old _ _ (by omega)) (k1.trans (Only.push _ _ _))
    obtain ⟨h5, e5, g5, r5, o5⟩ := step h4 _ 76 3 g4 (by kernel_rfl) r4 o4
    obtain ⟨h6, e6, g6, r6, o6⟩ := step h5 _ 69 4 g5 (by kernel_rfl) r5 o5
    obtain ⟨h7, e7, g7, r7, o7⟩ := step h6 _ 117 5 g6 (by kernel_rfl) r6 o6
    obtain ⟨h8, e8, g8, r8, o8⟩ := step h7 _ 108 6 g7 (by kernel_rfl) r7 o7
    rw [e4]
    simp only [Option.bind_some, e5, e6, e7, e8]
    have lk : ∀ (x : Option (Nat × AVal)), findA cfg.P 5 (.int .u8 (c.toNat : Int)) [(.int .u8 85, .int .i64 2), (.int .u8 76, .int .i64 3), (.int .u8 69, .int .i64 4), (.int .u8 117, .int .i64 5), (.int .u8 108, .int .i64 6)] 0 = some x → mpL cfg.P h8 120 (some h1.size) (.int .u8 (c.toNat : Int)) = match x with | some (_, v) => some (v, true) | none => some (.int .i64 0, false) := by
      intro x hx
      unfold mpL
      simp only [uMap]
      rw [if_pos (by kernel_rfl)]
      have : mpE h8 (some h1.size) = some [(.int .u8 85, .int .i64 2), (.int .u8 76, .int .i64 3), (.int .u8 69, .int .i64 4), (.int .u8 117, .int .i64 5), (.int .u8 108, .int .i64 6)] := by
        unfold mpE
        simp only [g8]
        rfl
      rw [this]
      simp only [hx]
      rw [show zeroA cfg.P 3 = some (.int .i64 0) from by kernel_rfl]
      cases x with
      | none => rfl
      | some y => rfl
    simp only [findA_int uU8, findA_nil] at lk
    rw [g1] at r8
    by_cases c1 : (c.toNat : Int) = 85
    · rw [lk (some (0, .int .i64 2)) (by rw [if_pos c1]), show signP c = (partC (2, 0, []), true) from by unfold signP signF; rw [if_neg hd, if_pos c1]]
      exact fin h8 (2, 0, []) true _ r8 rfl o8
    by_cases c2 : (c.toNat : Int) = 76
    · rw [lk (some (1, .int .i64 3)) (by rw [if_neg c1, if_pos c2]), show signP c = (partC (3, 0, []), true) from by unfold signP signF; rw [if_neg hd, if_neg c1, if_pos c2]]
      exact fin h8 (3, 0, []) true _ r8 rfl o8
    by_cases c3 : (c.toNat : Int) = 69
    · rw [lk (some (2, .int .i64 4)) (by rw [if_neg c1, if_neg c2, if_pos c3]), show signP c = (partC (4, 0, []), true) from by unfold signP signF; rw [if_neg hd, if_neg c1, if_neg c2, if_pos c3]]
      exact fin h8 (4, 0, []) true _ r8 rfl o8
    by_cases c4 : (c.toNat : Int) = 117
    · rw [lk (some (3, .int .i64 5)) (by rw [if_neg c1, if_neg c2, if_neg c3, if_pos c4]), show signP c = (partC (5, 0, []), true) from by unfold signP signF; rw [if_neg hd, if_neg c1, if_neg c2, if_neg c3, if_pos c4]]
      exact fin h8 (5, 0, []) true _ r8 rfl o8
    by_cases c5 : (c.toNat : Int) = 108
    · rw [lk (some (4, .int .i64 6)) (by rw [if_neg c1, if_neg c2, if_neg c3, if_neg c4, if_pos c5]), show signP c = (partC (6, 0, []), true) from by unfold signP signF; rw [if_neg hd, if_neg c1, if_neg c2, if_neg c3, if_neg c4, if_pos c5]]
      exact fin h8 (6, 0, []) true _ r8 rfl o8
    · rw [lk none (by rw [if_neg c1, if_neg c2, if_neg c3, if_neg c4, if_neg c5]), show signP c = (partC (0, 0, []), false) from by unfold signP signF; rw [if_neg hd, if_neg c1, if_neg c2, if_neg c3, if_neg c4, if_neg c5]]
      exact fin h8 (0, 0, []) false _ r8 rfl o8
end Go.Abs.L
