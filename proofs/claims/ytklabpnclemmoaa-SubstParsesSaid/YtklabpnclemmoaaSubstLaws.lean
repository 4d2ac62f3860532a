/-
  SUBST: the laws on parsing and quoting: plain Lean, no program in sight.
-/
import Derived.Test.YtklabpnclemmoaaSubstParse2
namespace Go.Abs.L
open Go.Abs
set_option linter.unusedVariables false
set_option linter.unusedSimpArgs false

def hiF : List Part → Int → Int
  | [], m => m
  | p :: l, m => hiF l (if p.1 = 1 then max m p.2.1 else m)
theorem high_eq {h : AHeap} {s : Sl} {ps : List Part} (v : View cfg.P (· < h.size) h 3 s (ps.flatMap partC)) (hl : ps.length ≤ 100000) : M_subst_Highest h s = some (hiF ps 0) := by
  have nl : s.n = ps.length := by have := v.1; rw [chunk_length partC_len] at this; omega
  unfold M_subst_Highest
  refine W.eq (W.bind (W.mono (Q := fun r => r.1 = hiF ps 0) ?_ (by rintro ⟨_, h5⟩ rfl; exact W.ret rfl)))
  refine W.loop (fun st => ∃ i : Nat, st.2.1 = i ∧ i ≤ ps.length ∧ hiF ps 0 = hiF (ps.drop i) st.1 ∧ Only none h st.2.2) (fun st => ps.length - st.2.1.toNat) ⟨0, rfl, by omega, by simp, Only.refl _ _⟩ ?_
  rintro ⟨m, _, h1⟩ ⟨i, rfl, hi, e1, k⟩
  dsimp only at e1 k
  unfold M_subst_Highest_L0
  dsimp only
  refine W.iteP (fun hlt => ?_) (fun hge => ?_)
  · have hlt : i < ps.length := by omega
    obtain ⟨p, ep⟩ : ∃ p, ps[i] = p := ⟨_, rfl⟩
    have hx : ps[i]? = some p := by rw [List.getElem?_eq_getElem hlt, ep]
    rw [drop_cons hlt, ep, hiF] at e1
    obtain ⟨a, ea, _, la⟩ := (v.onl k).fld (i := i) (by omega)
    rw [chunk_take partC_len hx] at la
    have hsz := k.size
    obtain ⟨h3, e3, g3, k3, z3⟩ := var_st (h := h1) (g := ⟨h.size, []⟩) (z := [.int .i64 (0 : Int), .int .i64 (0 : Int), .str ([] : List UInt8)]) (cs := partC p) (n := 3) (may_ge hsz) rfl rfl rfl
    have lk : ldI h3 (h1.size, 0) .i64 = some p.1 := ldI_of g3 (by simp) rfl
    have lg : ldI h3 (h1.size, 1) .i64 = some p.2.1 := ldI_of g3 (by simp) rfl
    rw [ea]
    simp only [Option.bind_some, la, e3, lk, lg]
    rw [ek64 (by omega), iteB_beq]
    split
    · rename_i hk
      rw [if_pos hk] at e1
      have : mx m p.2.1 = max m p.2.1 := by unfold mx; omega
      rw [this]
      exact W.ret ⟨⟨i + 1, rfl, by omega, e1, k.trans k3⟩, by dsimp only; omega⟩
    · rename_i hk
      rw [if_neg hk] at e1
      exact W.ret ⟨⟨i + 1, rfl, by omega, e1, k.trans k3⟩, by dsimp only; omega⟩
  · have : i = ps.length := by omega
    subst this
    rw [List.drop_length, hiF] at e1
    exact W.ret e1.symm

def and3 (x y z : Bool) : Option Bool :=
  match some x with
  | some true =>
    match some y with
    | some true =>
      match some z with
      | some true => some true
      | some false => some false
      | none => none
    | some false => some false
    | none => none
  | some false => some false
  | none => none
theorem eqPart (p q : Part) : eqG cfg.P 51 (partC p) (partC q) = and3 (p.1 == q.1) (p.2.1 == q.2.1) (p.2.2 == q.2.2) := by
  kernel_rfl
theorem parts_le : ∀ (n : Nat) (l : List UInt8), l.length ≤ n → ∀ (out : List Part) (i : Nat), (parseF out i l).1.length ≤ out.length + l.length
  | 0, l, hn, out, i => by
    have : l = [] := List.length_eq_zero_iff.1 (by omega)
    subst this
    rw [parseF]; simp
  | n + 1, [], hn, out, i => by rw [parseF]; simp
  | n + 1, b :: l, hn, out, i => by
    simp only [List.length_cons] at hn ⊢
    by_cases h38 : (b.toNat : Int) = 38
    · rw [parseF_and h38]
      have := parts_le n l (by omega) (out ++ [(1, 0, [])]) (i + 1)
      simp at this; omega
    · by_cases h92 : (b.toNat : Int) = 92
      · cases l with
        | nil => rw [parseF_end h92]; simp
        | cons c l =>
          rw [parseF_esc h92]
          simp only [List.length_cons] at hn ⊢
          split
          · rename_i p _
            have := parts_le n l (by omega) (out ++ [p]) (i + 2)
            simp at this; omega
          · split
            · have := parts_le n l (by omega) (putB out [c]) (i + 2)
              have := putB_length out [c]
              omega
            · simp
      · rw [parseF_byte h38 h92]
        have := parts_le n l (by omega) (putB out [b]) (i + 1)
        have := putB_length out [b]
        omega

theorem lawSubstParses (h : AHeap) (x0 : List UInt8) (k0 : (RStr cfg.P).ok x0) : M_boulterlaw23_SubstParses h x0 = some true := by
  unfold M_boulterlaw23_SubstParses
  by_cases hc : x0.length > 300
  · rw [show decide ((x0.length : Int) > 300) = true from decide_eq_true (by omega)]; rfl
  rw [show decide ((x0.length : Int) > 300) = false from decide_eq_false (by omega)]
  simp only [iteB_false]
  have hpl := parts_le _ x0 (Nat.le_refl _) [] 0
  refine W.eq (W.bind (W.mono (parse_spec (g := ⟨h.size, []⟩) (h := h) (l := x0) (by omega) (Nat.le_refl _) rfl) ?_))
  rintro ⟨⟨x2, x3, x4⟩, h1⟩ ⟨w1, n1, e1⟩
  dsimp only at w1 n1 e1 ⊢
  have z1 := w1.only.size
  refine W.bind (W.mono (rparse_spec (g := ⟨h.size, []⟩) (h := h1) (l := x0) (by omega) (by dsimp only; omega) rfl) ?_)
  rintro ⟨⟨x5, x6, x7⟩, h2⟩ ⟨w2, n2, e2⟩
  dsimp only at w2 n2 e2 ⊢
  have e3 : ((x3, x4) : Int × Int) = (x6, x7) := e1.symm.trans e2
  obtain ⟨rfl, rfl⟩ := Prod.mk.inj e3
  obtain ⟨ps, hps⟩ : ∃ ps, ps = (parseF [] 0 x0).1 := ⟨_, rfl⟩
  rw [← hps] at w1 n1 w2 n2 hpl
  have hpl : ps.length ≤ x0.length := by simpa using hpl
  rw [show (((x3 != x3) || (x4 != x4)) || (((x2.n : Nat) : Int) != ((x5.n : Nat) : Int))) = false from by rw [n1, n2]; simp]
  simp only [iteB_false]
  have v1 := (w1.keep w2.only).vw (P := cfg.P) szPart
  have v2 := w2.vw (P := cfg.P) szPart2
  refine W.bind (W.mono (Q := fun o => o = .inl (hiF ps 0)) ?_ ?_)
  · refine W.loop (fun st => ∃ i : Nat, st.2 = i ∧ i ≤ ps.length ∧ hiF ps 0 = hiF (ps.drop i) st.1) (fun st => ps.length - st.2.toNat) ⟨0, rfl, by omega, by simp⟩ ?_
    rintro ⟨m, _⟩ ⟨i, rfl, hi, em⟩
    dsimp only at em
    unfold M_boulterlaw23_SubstParses_L0
    dsimp only
    refine W.iteP (fun hlt => ?_) (fun hge => ?_)
    · have hlt : i < ps.length := by omega
      obtain ⟨p, ep⟩ : ∃ p, ps[i] = p := ⟨_, rfl⟩
      have hx : ps[i]? = some p := by rw [List.getElem?_eq_getElem hlt, ep]
      rw [drop_cons hlt, ep, hiF] at em
      obtain ⟨a, ea, _, la⟩ := v1.fld (i := i) (by omega)
      obtain ⟨b, eb, lf, lb⟩ := v2.fld (i := i) (by omega)
      rw [chunk_take partC_len hx] at la lb
      have l0 : ldI h2 (b.1, b.2 + 0) .i64 = some p.1 := ldI_ld (lf 0 (by omega) _ (by rw [chunk_get partC_len _ _ p hx 0 (by omega)]; rfl))
      have l1 : ldI h2 (b.1, b.2 + 1) .i64 = some p.2.1 := ldI_ld (lf 1 (by omega) _ (by rw [chunk_get partC_len _ _ p hx 1 (by omega)]; rfl))
      have eq1 : eqG cfg.P 51 (partC p) (partC p) = some true := by
        rw [eqPart, beq_self_eq_true, beq_self_eq_true, beq_self_eq_true]; rfl
      rw [ea, eb]
      simp only [Option.bind_some, la, lb, eq1, Bool.not_true, iteB_false, l0, l1]
      rw [ek64 (by omega), iteB_beq]
      split
      · rename_i hk
        rw [if_pos hk] at em
        have : mx m p.2.1 = max m p.2.1 := by unfold mx; omega
        rw [this]
        exact W.ret ⟨⟨i + 1, rfl, by omega, em⟩, by dsimp only; omega⟩
      · rename_i hk
        rw [if_neg hk] at em
        exact W.ret ⟨⟨i + 1, rfl, by omega, em⟩, by dsimp only; omega⟩
    · have : i = ps.length := by omega
      subst this
      rw [List.drop_length, hiF] at em
      exact W.ret (by rw [em])
  · rintro _ rfl
    dsimp only
    rw [high_eq v1 (by omega)]
    simp [M_boulterlaw23_awake]
    exact W.ret rfl

/-! ### quoting -/
def quoteF : List UInt8 → List UInt8
  | [] => []
  | b :: l => if (b.toNat : Int) = 38 ∨ (b.toNat : Int) = 92 then 92 :: b :: quoteF l else b :: quoteF l
theorem quoteF_length : ∀ l, (quoteF l).length ≤ 2 * l.length
  | [] => by simp [quoteF]
  | b :: l => by
    have := quoteF_length l
    unfold quoteF
    split <;> simp <;> omega
theorem own_by {g : Gd} {h : AHeap} {e : TypeId} {s : Sl} {l : List UInt8} (o : Own g h e 1 s (byt l)) : byL h s = some l := by
  have n1 : s.n = l.length := by have := o.1; simp at this; omega
  rcases o.2.2 with ⟨h0, hn⟩ | ⟨id, rest, hr, hg, _⟩
  · have : l = [] := List.length_eq_zero_iff.1 (by omega)
    unfold byL; rw [h0, this]
  · unfold byL
    simp only [hr, hg]
    by_cases h0 : s.n = 0
    · have : l = [] := List.length_eq_zero_iff.1 (by omega)
      rw [if_pos h0, this]; rfl
    · rw [if_neg h0, cellsAt_of (by simp) (by simp; omega), List.drop_zero, n1, List.take_append_of_le_length (by simp), List.take_of_length_le (by simp)]
      exact bytesOf_byt _
theorem quote_eq (h : AHeap) (l : List UInt8) (hl : l.length ≤ 100000) : M_subst_Quote h l = some (quoteF l) := by
  unfold M_subst_Quote
  refine W.eq (W.bind (W.mono (Q := fun r => Grow ⟨h.size, []⟩ h r.2 5 1 r.1 (byt (quoteF l))) ?_ (by rintro ⟨x3, h7⟩ w; dsimp only; rw [own_by w.own]; exact W.ret rfl)))
  refine W.loop (fun st => ∃ (i : Nat) (ac : List UInt8), st.2.1 = i ∧ i ≤ l.length ∧ Grow ⟨h.size, []⟩ h st.2.2 5 1 st.1 (byt ac) ∧ st.1.n = ac.length ∧ ac.length ≤ 2 * i ∧ quoteF l = ac ++ quoteF (l.drop i)) (fun st => l.length - st.2.1.toNat) ⟨0, [], rfl, by omega, Grow.nil (Only.refl _ _), rfl, by simp, by simp⟩ ?_
  rintro ⟨x4, _, h1⟩ ⟨i, ac, rfl, hi, w, hn, hac, e1⟩
  dsimp only at w hn
  unfold M_subst_Quote_L0
  dsimp only
  refine W.iteP (fun hlt => ?_) (fun hge => ?_)
  · have hlt : i < l.length := by omega
    rw [drop_cons hlt, quoteF] at e1
    rw [ixS_nat (List.getElem?_eq_getElem hlt)]
    simp only [Option.bind_some]
    rw [iteB_or]
    simp only [Option.bind_some]
    refine W.bind (W.mono (Q := fun r => ∃ ac', Grow ⟨h.size, []⟩ h r.2 5 1 r.1 (byt ac') ∧ r.1.n = ac'.length ∧ ac'.length ≤ 2 * i + 1 ∧ quoteF l = ac' ++ l[i] :: quoteF (l.drop (i + 1))) ?_ ?_)
    · refine W.ite (fun hq => ?_) (fun hq => ?_)
      · have hq : (l[i].toNat : Int) = 38 ∨ (l[i].toNat : Int) = 92 := by simpa using hq
        rw [if_pos hq] at e1
        refine W.bind (W.mono (w.app1 (e' := 5) (new := [.int .u8 92]) rfl rfl (by omega) (by omega) (Nat.le_refl _) rfl) ?_)
        rintro ⟨s', h'⟩ ⟨w', n'⟩
        dsimp only at w' n'
        refine W.ret ⟨ac ++ [92], ?_, by dsimp only; rw [n', hn]; simp, by simp; omega, by rw [e1]; simp⟩
        rw [byt_app]; exact w'
      · have hq : ¬ ((l[i].toNat : Int) = 38 ∨ (l[i].toNat : Int) = 92) := by
          rw [Bool.eq_false_iff] at hq; simpa using hq
        rw [if_neg hq] at e1
        exact W.ret ⟨ac, w, hn, by omega, e1⟩
    · rintro ⟨x6, h4⟩ ⟨ac', w', n', b', e'⟩
      dsimp only at w' n' ⊢
      refine W.bind (W.mono (w'.app1 (e' := 5) (new := [.int .u8 (l[i].toNat : Int)]) rfl rfl (by omega) (by omega) (Nat.le_refl _) rfl) ?_)
      rintro ⟨s'', h''⟩ ⟨w'', n''⟩
      dsimp only at w'' n''
      rw [ek64 (by omega)]
      refine W.ret ⟨⟨i + 1, ac' ++ [l[i]], rfl, by omega, ?_, by dsimp only; rw [n'', n']; simp, by simp; omega, by rw [e']; simp⟩, by dsimp only; omega⟩
      rw [byt_app]; exact w''
  · have : i = l.length := by omega
    subst this
    rw [List.drop_length, quoteF, List.append_nil] at e1
    rw [e1]
    exact W.ret w
/-- a quoted text is one part, or none -/
def oneP (t : List UInt8) : List Part := if t = [] then [] else [(0, 0, t)]
theorem putB_one (t : List UInt8) (b : UInt8) : putB (oneP t) [b] = oneP (t ++ [b]) := by
  unfold oneP
  by_cases h : t = []
  · rw [if_pos h, h]; rfl
  · rw [if_neg h, if_neg (by simp)]
    have := putB_snoc [] (0, 0, t) [b]
    simpa using this
theorem sign_quote {b : UInt8} (h : (b.toNat : Int) = 38 ∨ (b.toNat : Int) = 92) : signF b = none ∧ escF b = true := by
  refine ⟨?_, decide_eq_true (by omega)⟩
  unfold signF
  rw [if_neg (by omega), if_neg (by omega), if_neg (by omega), if_neg (by omega), if_neg (by omega), if_neg (by omega)]
theorem parse_quote : ∀ (l t : List UInt8) (i : Nat), parseF (oneP t) i (quoteF l) = (oneP (t ++ l), 0, 0)
  | [], t, i => by rw [quoteF, parseF]; simp
  | b :: l, t, i => by
    rw [quoteF]
    split
    · rename_i h
      obtain ⟨h1, h2⟩ := sign_quote h
      rw [parseF_esc (by rfl), h1]
      dsimp only
      rw [h2, if_pos rfl, putB_one, parse_quote l]
      simp
    · rename_i h
      rw [parseF_byte (by omega) (by omega), putB_one, parse_quote l]
      simp
theorem emit_plain : ∀ (l : List UInt8), emitF 4 0 l = l
  | [] => rfl
  | b :: l => by
    rw [emitF, emit_plain l]
    congr 1
theorem szSpan : szOf cfg.P 54 = some 3 := by kernel_rfl
theorem lawSubstQuotes (h : AHeap) (x0 : List UInt8) (k0 : (RStr cfg.P).ok x0) (x1 : List UInt8) (k1 : (RStr cfg.P).ok x1) : M_boulterlaw23_SubstQuotes h x0 x1 = some true := by
  unfold M_boulterlaw23_SubstQuotes
  by_cases hc : x0.length > 200 ∨ x1.length > 200
  · rw [show (decide ((x0.length : Int) > 200) || decide ((x1.length : Int) > 200)) = true from by simp; omega]; rfl
  rw [show (decide ((x0.length : Int) > 200) || decide ((x1.length : Int) > 200)) = false from by rw [Bool.eq_false_iff]; simp; omega]
  simp only [iteB_false]
  have hql := quoteF_length x0
  rw [quote_eq h x0 (by omega)]
  simp only [Option.bind_some]
  refine W.eq (W.bind (W.mono (parse_spec (g := ⟨h.size, []⟩) (h := h) (l := quoteF x0) (by omega) (Nat.le_refl _) rfl) ?_))
  rintro ⟨⟨x3, x4, x5⟩, h1⟩ ⟨w1, n1, e1⟩
  have hp : parseF [] 0 (quoteF x0) = (oneP x0, 0, 0) := parse_quote x0 [] 0
  rw [hp] at w1 n1 e1
  dsimp only at w1 n1 e1 ⊢
  obtain ⟨rfl, rfl⟩ := Prod.mk.inj e1
  have hol : (oneP x0).length ≤ 1 := by unfold oneP; split <;> simp
  rw [show (((0 : Int) == 0) && ((0 : Int) == 0)) = true from rfl]
  simp only [iteB_true]
  obtain ⟨h3, e3⟩ : ∃ h3, h3 = h1.push (.cells (some 54) 2 (spanC (0, (x1.length : Int), true))) := ⟨_, rfl⟩
  have g3 : h3.get h1.size = some (.cells (some 54) 2 (spanC (0, (x1.length : Int), true))) := by rw [e3, AHeap.get_push_new]
  have k3 : Only none h1 h3 := by rw [e3]; exact Only.push _ _ _
  have z3 : h3.size = h1.size + 1 := by rw [e3]; rfl
  have vp : View cfg.P (· < h3.size) h3 3 x3 ((oneP x0).flatMap partC) := (w1.keep k3).vw szPart
  have vs : View cfg.P (· < h3.size) h3 3 (⟨some (h1.size, 0), 1⟩ : Sl) (([((0 : Int), (x1.length : Int), true)] : List Span).flatMap spanC) := by
    refine ⟨by simp [spanC], .inr ⟨h1.size, 0, some 54, 2, spanC (0, (x1.length : Int), true), rfl, ?_, g3, ?_, .inr ⟨by simp, ?_, ?_⟩⟩⟩
    · dsimp only; omega
    · intro e he
      rw [← Option.some.inj he]; exact szSpan
    · simp [spanC]
    · simp [spanC]
  have eh : (h1.push (.cells (some 54) 2 [.int .i64 (0 : Int), .int .i64 (x1.length : Int), .bool true])) = h3 := e3.symm
  have hexp : expF x1 [((0 : Int), (x1.length : Int), true)] 4 0 (oneP x0) = x0 := by
    unfold oneP
    split
    · rename_i hz; rw [hz]; rfl
    · rw [expF, expF]
      have : partF x1 [((0 : Int), (x1.length : Int), true)] (0, 0, x0) = x0 := rfl
      rw [this]
      have ea : allF 4 ((0, 0, x0) : Part) = 4 := rfl
      have en : nxtF 0 ((0, 0, x0) : Part) = 0 := rfl
      rw [ea, en, emit_plain, List.append_nil]
  have hhi : hiF (oneP x0) 0 = 0 := by unfold oneP; split <;> rfl
  rw [eh]
  try simp only [Option.bind_some]
  rw [expand_eq x1 vp vs (by omega) (by omega) (by intro p hp; unfold oneP at hp; split at hp <;> simp at hp; rw [hp]; dsimp only; omega), hexp]
  simp only [Option.bind_some, beq_self_eq_true, iteB_true]
  rw [high_eq vp (by omega), hhi]
  exact W.ret rfl
end Go.Abs.L
