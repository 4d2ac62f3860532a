/-
  SUBST: what a template with a match's parts is: by the program, and by the document.
-/
import Derived.Test.YtklabpnclemmoaaLsubstx1
import Derived.Test.YtklabpnclemmoaaLref23
import Derived.Test.YtklabpnclemmoaaAbsKit
namespace Go.Abs.L
open Go.Abs
set_option linter.unusedVariables false
set_option linter.unusedSimpArgs false

theorem szByte : szOf cfg.P 5 = some 1 := by kernel_rfl
/-! ### parts and spans -/
abbrev Part := Int × Int × List UInt8
def partC (p : Part) : List AVal := [.int .i64 p.1, .int .i64 p.2.1, .str p.2.2]
theorem partC_len (p : Part) : (partC p).length = 3 := rfl
abbrev Span := Int × Int × Bool
def spanC (p : Span) : List AVal := [.int .i64 p.1, .int .i64 p.2.1, .bool p.2.2]
theorem spanC_len (p : Span) : (spanC p).length = 3 := rfl

/-! ### letters -/
def caseF (kind : Int) (b : UInt8) : UInt8 :=
  if (kind = 2 ∨ kind = 5) ∧ 97 ≤ (b.toNat : Int) ∧ (b.toNat : Int) ≤ 122 then UInt8.ofNat (b.toNat - 32)
  else if (kind = 3 ∨ kind = 6) ∧ 65 ≤ (b.toNat : Int) ∧ (b.toNat : Int) ≤ 90 then UInt8.ofNat (b.toNat + 32) else b
theorem ofNat_toNat {n : Nat} (h : n < 256) : (UInt8.ofNat n).toNat = n := by rw [UInt8.toNat_ofNat', Nat.mod_eq_of_lt h]
theorem other_lo : ∀ n : Fin 26, iteB ((decide ((bOr .u8 ((97 + n.val : Nat) : Int) (32 : Int)) ≥ (97 : Int))) && (decide ((bOr .u8 ((97 + n.val : Nat) : Int) (32 : Int)) ≤ (122 : Int)))) (some (bXor .u8 ((97 + n.val : Nat) : Int) (32 : Int))) (some ((97 + n.val : Nat) : Int)) = some ((65 + n.val : Nat) : Int) := by decide +kernel
theorem other_up : ∀ n : Fin 26, iteB ((decide ((bOr .u8 ((65 + n.val : Nat) : Int) (32 : Int)) ≥ (97 : Int))) && (decide ((bOr .u8 ((65 + n.val : Nat) : Int) (32 : Int)) ≤ (122 : Int)))) (some (bXor .u8 ((65 + n.val : Nat) : Int) (32 : Int))) (some ((65 + n.val : Nat) : Int)) = some ((97 + n.val : Nat) : Int) := by decide +kernel
theorem letter_eq (h : AHeap) (b : UInt8) (kind : Int) : M_subst_letter h b.toNat kind = some ((caseF kind b).toNat : Int) := by
  have hb := byte_lt b
  unfold M_subst_letter M_class_Other
  by_cases h1 : (kind = 2 ∨ kind = 5) ∧ 97 ≤ (b.toNat : Int) ∧ (b.toNat : Int) ≤ 122
  · have e : ((((kind == 2) || (kind == 5)) && (decide ((b.toNat : Int) ≥ 97) && decide ((b.toNat : Int) ≤ 122))) || (((kind == 3) || (kind == 6)) && (decide ((b.toNat : Int) ≥ 65) && decide ((b.toNat : Int) ≤ 90)))) = true := by simp; omega
    rw [e]
    have := other_lo ⟨b.toNat - 97, by omega⟩
    simp only [show 97 + (b.toNat - 97) = b.toNat from by omega] at this
    simp only [iteB_true, this, Option.bind_some]
    unfold caseF
    rw [if_pos h1, ofNat_toNat (by omega)]
    congr 1
    omega
  · by_cases h2 : (kind = 3 ∨ kind = 6) ∧ 65 ≤ (b.toNat : Int) ∧ (b.toNat : Int) ≤ 90
    · have e : ((((kind == 2) || (kind == 5)) && (decide ((b.toNat : Int) ≥ 97) && decide ((b.toNat : Int) ≤ 122))) || (((kind == 3) || (kind == 6)) && (decide ((b.toNat : Int) ≥ 65) && decide ((b.toNat : Int) ≤ 90)))) = true := by simp; omega
      rw [e]
      have := other_up ⟨b.toNat - 65, by omega⟩
      simp only [show 65 + (b.toNat - 65) = b.toNat from by omega] at this
      simp only [iteB_true, this, Option.bind_some]
      unfold caseF
      rw [if_neg h1, if_pos h2, ofNat_toNat (by omega)]
      congr 1
      omega
    · have e : ((((kind == 2) || (kind == 5)) && (decide ((b.toNat : Int) ≥ 97) && decide ((b.toNat : Int) ≤ 122))) || (((kind == 3) || (kind == 6)) && (decide ((b.toNat : Int) ≥ 65) && decide ((b.toNat : Int) ≤ 90)))) = false := by rw [Bool.eq_false_iff]; simp; omega
      rw [e]
      unfold caseF
      rw [if_neg h1, if_neg h2]; rfl

/-! ### what is put out -/
def kindOf (all next : Int) : Int := if next = 0 then all else next
def emitF (all : Int) : Int → List UInt8 → List UInt8
  | _, [] => []
  | next, b :: l => caseF (kindOf all next) b :: emitF all 0 l
def nextF (next : Int) (l : List UInt8) : Int := if l = [] then next else 0
theorem emitF_length (all : Int) : ∀ (l : List UInt8) (next : Int), (emitF all next l).length = l.length
  | [], _ => rfl
  | b :: l, _ => by simp [emitF, emitF_length all l]
def spanF (s : List UInt8) (x : Span) : List UInt8 := if x.2.2 = false ∨ x.1 < 0 ∨ x.2.1 < x.1 ∨ x.2.1 > s.length then [] else (s.drop x.1.toNat).take (x.2.1.toNat - x.1.toNat)
/-- the text that a part puts out -/
def partF (s : List UInt8) (spans : List Span) (p : Part) : List UInt8 :=
  if p.1 = 0 then p.2.2
  else if p.1 = 1 then (if 0 ≤ p.2.1 ∧ p.2.1 < spans.length then spanF s (spans.getD p.2.1.toNat (0, 0, false)) else [])
  else []
def allF (all : Int) (p : Part) : Int := if 2 ≤ p.1 ∧ p.1 ≤ 4 then p.1 else all
def nxtF (next : Int) (p : Part) : Int := if p.1 = 5 ∨ p.1 = 6 then p.1 else next
def expF (s : List UInt8) (spans : List Span) : Int → Int → List Part → List UInt8
  | _, _, [] => []
  | all, next, p :: l => emitF (allF all p) (nxtF next p) (partF s spans p) ++ expF s spans (allF all p) (nextF (nxtF next p) (partF s spans p)) l
theorem spanF_length (s : List UInt8) (x : Span) : (spanF s x).length ≤ s.length := by
  unfold spanF
  split
  · simp
  · simp; omega

theorem text_eq (h : AHeap) (s : List UInt8) (x : Span) : M_groups_Text h s (spanC x) = some (spanF s x) := by
  obtain ⟨fr, to, is⟩ := x
  have g : (h.push (.cells none 2 (spanC (fr, to, is)))).get h.size = _ := AHeap.get_push_new _ _
  have l0 : ldI (h.push (.cells none 2 (spanC (fr, to, is)))) (h.size, 0) .i64 = some fr := ldI_of g (by simp) rfl
  have l1 : ldI (h.push (.cells none 2 (spanC (fr, to, is)))) (h.size, 1) .i64 = some to := ldI_of g (by simp) rfl
  have l2 : ldB (h.push (.cells none 2 (spanC (fr, to, is)))) (h.size, 2) = some is := ldB_of g (by simp) rfl
  unfold M_groups_Text
  rw [show (spanC (fr, to, is)).all AVal.one = true from rfl]
  simp only [need_true, Option.bind_some, l0, l1, l2, iteB_or]
  unfold spanF
  dsimp only
  by_cases hc : is = false ∨ fr < 0 ∨ to < fr ∨ to > s.length
  · rw [if_pos hc, show ((((!is) || decide (fr < 0)) || decide (to < fr)) || decide (to > (s.length : Int))) = true from by rcases hc with hc | hc | hc | hc <;> simp [hc]]; rfl
  · have hi : is = true := by
      cases is with
      | true => rfl
      | false => exact absurd (.inl rfl) hc
    subst hi
    rw [if_neg hc, show ((((!true) || decide (fr < 0)) || decide (to < fr)) || decide (to > (s.length : Int))) = false from by rw [Bool.eq_false_iff]; simp; omega]
    simp only [iteB_false]
    unfold subS
    rw [bnd_both (by omega)]; rfl
theorem rspan_eq (h : AHeap) (s : List UInt8) (x : Span) : M_boulterref23_span h s (spanC x) = some (spanF s x) := by
  have := text_eq h s x
  unfold M_groups_Text at this
  unfold M_boulterref23_span
  exact this

/-! ### the program -/
/-- what has been put out -/
def Tur (g : Gd) (h0 h : AHeap) (id : Nat) (all next : Int) (acc : List UInt8) : Prop :=
  ∃ s : Sl, h.get id = some (.cells none 2 [s.v, .int .i64 all, .int .i64 next]) ∧ Own g h 5 1 s (byt acc) ∧ (∀ i, s.id? = some i → id < i) ∧ Same (· < id) h0 h ∧ s.n = acc.length
theorem Tur.lt {g : Gd} {h0 h : AHeap} {id : Nat} {all next : Int} {acc : List UInt8} (t : Tur g h0 h id all next acc) : id < h.size := by obtain ⟨s, h1, _⟩ := t; exact h.lt_of_get h1
/-- new objects don't matter -/
theorem Tur.keep {g : Gd} {h0 h h' : AHeap} {id : Nat} {all next : Int} {acc : List UInt8} (t : Tur g h0 h id all next acc) (k : Only none h h') : Tur g h0 h' id all next acc := by
  have hlt := t.lt
  obtain ⟨s, h1, h2, h3, h4, h5⟩ := t
  exact ⟨s, k.keep h1 (by simp), h2.keep fun i hi => k.get i (h2.lt hi) (by simp), h3, h4.trans (k.same fun i hi => ⟨by omega, by simp⟩), h5⟩
theorem Tur.set {g : Gd} {h0 h : AHeap} {id : Nat} {all next : Int} {acc : List UInt8} (t : Tur g h0 h id all next acc) (hm : g.may id = true) (c : Int) :
    (∃ h', st g h (id, 0 + 1) [.int .i64 c] = some h' ∧ Tur g h0 h' id c next acc) ∧ (∃ h', st g h (id, 0 + 2) [.int .i64 c] = some h' ∧ Tur g h0 h' id all c acc) := by
  have hlt := t.lt
  obtain ⟨s, h1, h2, h3, h4, h5⟩ := t
  constructor
  · refine ⟨_, st_of h1 hm (by simp) rfl, s, AHeap.get_set_same _ _ hlt, h2.keep fun i hi => AHeap.get_set_ne _ _ hlt (by have := h3 i hi; omega), h3, h4.trans fun i hi => AHeap.get_set_ne _ _ hlt (by omega), h5⟩
  · refine ⟨_, st_of h1 hm (by simp) rfl, s, AHeap.get_set_same _ _ hlt, h2.keep fun i hi => AHeap.get_set_ne _ _ hlt (by have := h3 i hi; omega), h3, h4.trans fun i hi => AHeap.get_set_ne _ _ hlt (by omega), h5⟩
theorem put_spec {g : Gd} {h0 h : AHeap} {id : Nat} {all next : Int} {acc : List UInt8} (t : Tur g h0 h id all next acc) (hm : g.may id = true) (hfl : g.floor ≤ id) (hpr : g.prot = []) (s : List UInt8) (hb : acc.length + s.length ≤ 1000000000) :
    W (M_subst_turner_put g h (some (id, 0)) s) fun r => Tur g h0 r.2 id all (nextF next s) (acc ++ emitF all next s) := by
  unfold M_subst_turner_put
  refine W.bind (W.mono (Q := fun h7 => Tur g h0 h7 id all (nextF next s) (acc ++ emitF all next s)) ?_ (fun h7 h => W.ret h))
  refine W.loop (fun st => ∃ (i : Nat) (nx : Int) (ac : List UInt8), st.1 = i ∧ i ≤ s.length ∧ Tur g h0 st.2 id all nx ac ∧ acc ++ emitF all next s = ac ++ emitF all nx (s.drop i) ∧ nextF next s = nextF nx (s.drop i) ∧ ac.length ≤ acc.length + i) (fun st => s.length - st.1.toNat) ⟨0, next, acc, rfl, by omega, t, by simp, by simp, by omega⟩ ?_
  rintro ⟨_, h1⟩ ⟨i, nx, ac, rfl, hi, t1, e1, e2, hac⟩
  dsimp only at t1
  unfold M_subst_turner_put_L0
  dsimp only
  refine W.iteP (fun hlt => ?_) (fun hge => ?_)
  · have hlt : i < s.length := by omega
    rw [drop_cons hlt, emitF] at e1
    rw [drop_cons hlt] at e2
    have hidl := t1.lt
    have t1' := t1
    obtain ⟨sl, g1, o1, f1, s1, n1⟩ := t1
    have la : ldI h1 (id, 0 + 1) .i64 = some all := ldI_of g1 (by simp) rfl
    have ln : ldI h1 (id, 0 + 2) .i64 = some nx := ldI_of g1 (by simp) rfl
    simp only [Option.bind_some, la, ln]
    refine W.bind (W.mono (Q := fun r => r.1 = kindOf all nx ∧ Tur g h0 r.2 id all 0 ac) ?_ ?_)
    · rw [iteB_bne]
      unfold kindOf
      split
      · rename_i hz
        subst hz
        exact W.ret ⟨by simp, t1'⟩
      · rename_i hz
        obtain ⟨h2, e, t2⟩ := (t1'.set hm 0).2
        rw [e]
        exact W.ret ⟨by simp [hz], t2⟩
    · rintro ⟨_, h3⟩ ⟨rfl, t3⟩
      dsimp only at t3 ⊢
      have hid3 := t3.lt
      obtain ⟨sl3, g3, o3, f3, s3, n3⟩ := t3
      have ll : ldL h3 (id, 0 + 0) = some sl3 := ldL_of g3 (by simp) rfl
      rw [ll, ixS_nat (List.getElem?_eq_getElem hlt)]
      simp only [Option.bind_some, letter_eq]
      have hpush := o3.keep (h' := h3.push (.cells (some 5) 2 [.int .u8 ((caseF (kindOf all nx) s[i]).toNat : Int)])) fun j hj => AHeap.get_push_old _ _ (o3.lt hj)
      obtain ⟨s', h5, ea, oa, na, ka, ra, za⟩ := hpush.app (bytes := 1) (n := 1) (x := .slice (some (h3.size, 0)) 1) (new := [.int .u8 ((caseF (kindOf all nx) s[i]).toNat : Int)]) (by
        unfold Abs.firstA
        simp only [Nat.one_ne_zero, if_false, AHeap.get_push_new]
        rw [cellsAt_of (by simp) (by simp)]
        rfl) (by simp) rfl (by omega) (by omega) (by omega) (by simp; omega) (by simp [hpr])
      rw [ea]
      simp only [Option.bind_some]
      have g5 : h5.get id = some (.cells none 2 [sl3.v, .int .i64 all, .int .i64 0]) := by
        rw [ka.get id (by simp; omega) ?_, AHeap.get_push_old _ _ hid3]
        · exact g3
        · intro hx
          have := f3 id hx.symm
          omega
      have hid5 := h5.lt_of_get g5
      have r5 : s'.id? = some (h3.size + 1) := by simp [Sl.id?, ra]
      rw [st_of g5 hm (by simp) rfl]
      simp only [Option.bind_some]
      rw [ek64 (by omega)]
      refine W.ret ⟨⟨i + 1, 0, ac ++ [caseF (kindOf all nx) s[i]], rfl, by omega, ⟨s', AHeap.get_set_same _ _ hid5, ?_, ?_, ?_, ?_⟩, ?_, ?_, by simp; omega⟩, by dsimp only; omega⟩
      · have : byt (ac ++ [caseF (kindOf all nx) s[i]]) = byt ac ++ [.int .u8 ((caseF (kindOf all nx) s[i]).toNat : Int)] := by simp [byt]
        rw [this]
        exact oa.keep fun j hj => AHeap.get_set_ne _ _ hid5 (by rw [r5] at hj; injection hj with hj; omega)
      · intro j hj
        rw [r5] at hj; injection hj with hj; omega
      · refine s3.trans fun j hj => ?_
        dsimp only
        rw [AHeap.get_set_ne _ _ hid5 (by omega), ka.get j (by simp; omega) ?_, AHeap.get_push_old _ _ (by omega)]
        intro hx
        have := f3 j hx.symm
        omega
      · rw [na, n3]; simp
      · rw [e1]; simp
      · rw [e2]; unfold nextF
        rw [if_neg (List.cons_ne_nil _ _)]; split <;> rfl
  · have : i = s.length := by omega
    subst this
    rw [List.drop_length] at e1 e2
    refine W.ret ?_
    rw [e1, e2]
    simp only [emitF, List.append_nil, nextF, if_true]
    exact t1
theorem emit_nil (all next : Int) : emitF all next [] = [] := rfl
theorem next_nil (next : Int) : nextF next [] = next := rfl

theorem expand_eq {h : AHeap} {sl ss : Sl} {l : List Part} {spans : List Span} (s : List UInt8) (vl : View cfg.P (· < h.size) h 3 sl (l.flatMap partC)) (vs : View cfg.P (· < h.size) h 3 ss (spans.flatMap spanC)) (hl : l.length ≤ 1000) (hs : s.length ≤ 1000) (hp : ∀ p ∈ l, p.2.2.length ≤ 1000) :
    M_subst_Expand h sl s ss = some (expF s spans 4 0 l) := by
  have nl : sl.n = l.length := by have := vl.1; rw [chunk_length partC_len] at this; omega
  have ns : ss.n = spans.length := by have := vs.1; rw [chunk_length spanC_len] at this; omega
  unfold M_subst_Expand
  simp only [Option.bind_some]
  refine W.eq (W.bind (W.mono (Q := fun h10 => ∃ all next, Tur ⟨h.size, []⟩ h h10 h.size all next (expF s spans 4 0 l)) ?_ ?_))
  · refine W.loop (fun st => ∃ (i : Nat) (all next : Int) (acc : List UInt8), st.1 = i ∧ i ≤ l.length ∧ Tur ⟨h.size, []⟩ h st.2 h.size all next acc ∧ expF s spans 4 0 l = acc ++ expF s spans all next (l.drop i) ∧ acc.length ≤ 1000 * i) (fun st => l.length - st.1.toNat) ⟨0, 4, 0, [], rfl, by omega, ⟨⟨none, 0⟩, AHeap.get_push_new _ _, Own.nil _ _ _ _, by simp [Sl.id?], fun i hi => AHeap.get_push_old _ _ hi, rfl⟩, by simp, by simp⟩ ?_
    rintro ⟨_, h2⟩ ⟨i, all, next, acc, rfl, hi, t2, e1, hac⟩
    dsimp only at t2
    have hid := t2.lt
    unfold M_subst_Expand_L0
    dsimp only
    refine W.iteP (fun hlt => ?_) (fun hge => ?_)
    · have hlt : i < l.length := by omega
      obtain ⟨p, ep⟩ : ∃ p, l[i] = p := ⟨_, rfl⟩
      have hx : l[i]? = some p := by rw [List.getElem?_eq_getElem hlt, ep]
      have hpl := hp p (by rw [← ep]; exact List.getElem_mem hlt)
      rw [drop_cons hlt, ep, expF] at e1
      obtain ⟨s2, _, _, _, sm2, _⟩ := id t2
      obtain ⟨a, ea, _, la⟩ := (vl.keep sm2 (fun _ x => x)).fld (i := i) (by omega)
      rw [chunk_take partC_len hx] at la
      obtain ⟨h4, e4, g4, k4, z4⟩ := var_st (h := h2) (g := ⟨h.size, []⟩) (z := [.int .i64 (0 : Int), .int .i64 (0 : Int), .str ([] : List UInt8)]) (cs := partC p) (n := 3) (may_ge (by omega)) rfl rfl rfl
      have t4 := t2.keep k4
      have lk : ldI h4 (h2.size, 0) .i64 = some p.1 := ldI_of g4 (by simp) rfl
      have lg : ldI h4 (h2.size, 1) .i64 = some p.2.1 := ldI_of g4 (by simp) rfl
      have lb : ldS h4 (h2.size, 2) = some p.2.2 := ldS_of g4 (by simp) rfl
      rw [ea]
      simp only [Option.bind_some, la, e4, lk, lg, lb]
      rw [ek64 (by omega)]
      refine W.bind (W.mono (Q := fun h9 => Tur ⟨h.size, []⟩ h h9 h.size (allF all p) (nextF (nxtF next p) (partF s spans p)) (acc ++ emitF (allF all p) (nxtF next p) (partF s spans p))) ?_ ?_)
      · rw [iteB_beq]
        split
        · rename_i hk
          have ea : allF all p = all := by unfold allF; rw [if_neg (by omega)]
          have en : nxtF next p = next := by unfold nxtF; rw [if_neg (by omega)]
          have ef : partF s spans p = p.2.2 := by unfold partF; rw [if_pos hk]
          rw [ea, en, ef]
          exact W.bind (W.mono (put_spec t4 (may_ge (Nat.le_refl _)) (Nat.le_refl _) rfl p.2.2 (by omega)) fun r hr => W.ret hr)
        · rename_i hk0
          rw [iteB_beq]
          split
          · rename_i hk
            have ea : allF all p = all := by unfold allF; rw [if_neg (by omega)]
            have en : nxtF next p = next := by unfold nxtF; rw [if_neg (by omega)]
            rw [ea, en, iteB_dec]
            by_cases hg : 0 ≤ p.2.1 ∧ p.2.1 < spans.length
            · have hgl : p.2.1.toNat < spans.length := by omega
              have ef : partF s spans p = spanF s spans[p.2.1.toNat] := by unfold partF; rw [if_neg hk0, if_pos hk, if_pos hg, List.getD_eq_getElem?_getD, List.getElem?_eq_getElem hgl]; rfl
              rw [if_pos hg.1, ef]
              simp only [Option.bind_some]
              rw [show decide (p.2.1 < ((ss.n : Nat) : Int)) = true from decide_eq_true (by omega)]
              simp only [iteB_true]
              obtain ⟨s4, _, _, _, sm4, _⟩ := id t4
              obtain ⟨b, eb, _, lb⟩ := (vs.keep sm4 (fun _ x => x)).fld (i := p.2.1.toNat) (by omega)
              rw [chunk_take spanC_len (List.getElem?_eq_getElem hgl)] at lb
              have ei : ixL ss 3 p.2.1 = some b := by rw [← eb]; congr 1; omega
              rw [ei]
              simp only [Option.bind_some, lb, text_eq]
              have hsl := spanF_length s spans[p.2.1.toNat]
              exact W.bind (W.mono (put_spec t4 (may_ge (Nat.le_refl _)) (Nat.le_refl _) rfl _ (by omega)) fun r hr => W.ret hr)
            · have ef : partF s spans p = [] := by unfold partF; rw [if_neg hk0, if_pos hk, if_neg hg]
              rw [ef, emit_nil, next_nil, List.append_nil]
              by_cases h0 : p.2.1 ≥ 0
              · rw [if_pos h0]
                simp only [Option.bind_some]
                rw [show decide (p.2.1 < ((ss.n : Nat) : Int)) = false from decide_eq_false (by omega)]
                exact W.ret t4
              · rw [if_neg h0]
                exact W.ret t4
          · rename_i hk1
            have ef : partF s spans p = [] := by unfold partF; rw [if_neg hk0, if_neg hk1]
            rw [ef, emit_nil, next_nil, List.append_nil, iteB_or, iteB_or, iteB_or]
            simp only [Option.bind_some]
            by_cases h2' : 2 ≤ p.1 ∧ p.1 ≤ 4
            · rw [show ((p.1 == 2) || ((p.1 == 3) || (p.1 == 4))) = true from by simp; omega]
              have ea : allF all p = p.1 := by unfold allF; rw [if_pos h2']
              have en : nxtF next p = next := by unfold nxtF; rw [if_neg (by omega)]
              rw [ea, en]
              obtain ⟨h5, e5, t5⟩ := (t4.set (may_ge (Nat.le_refl _)) p.1).1
              have e5 : st ⟨h.size, []⟩ h4 (h.size, 1) [.int .i64 p.1] = some h5 := e5
              simp only [iteB_true, e5, Option.bind_some]
              exact W.ret t5
            · rw [show ((p.1 == 2) || ((p.1 == 3) || (p.1 == 4))) = false from by rw [Bool.eq_false_iff]; simp; omega]
              have ea : allF all p = all := by unfold allF; rw [if_neg h2']
              rw [ea]
              simp only [iteB_false]
              by_cases h5' : p.1 = 5 ∨ p.1 = 6
              · rw [show ((p.1 == 5) || (p.1 == 6)) = true from by simp; omega]
                have en : nxtF next p = p.1 := by unfold nxtF; rw [if_pos h5']
                rw [en]
                obtain ⟨h5, e5, t5⟩ := (t4.set (may_ge (Nat.le_refl _)) p.1).2
                have e5 : st ⟨h.size, []⟩ h4 (h.size, 2) [.int .i64 p.1] = some h5 := e5
                simp only [iteB_true, e5, Option.bind_some]
                exact W.ret t5
              · rw [show ((p.1 == 5) || (p.1 == 6)) = false from by rw [Bool.eq_false_iff]; simp; omega]
                have en : nxtF next p = next := by unfold nxtF; rw [if_neg h5']
                rw [en]
                exact W.ret t4
      · intro h9 t9
        refine W.ret ⟨⟨i + 1, _, _, _, rfl, by omega, t9, by rw [e1, List.append_assoc], ?_⟩, by dsimp only; omega⟩
        have : (partF s spans p).length ≤ 1000 := by
          unfold partF
          split
          · exact hpl
          · split
            · split
              · exact Nat.le_trans (spanF_length _ _) hs
              · simp
            · simp
        simp [emitF_length]
        omega
    · have : i = l.length := by omega
      subst this
      rw [List.drop_length, expF, List.append_nil] at e1
      rw [e1]
      exact W.ret ⟨all, next, t2⟩
  · rintro h10 ⟨all, next, sl', g1, o1, f1, _, n1⟩
    have ll : ldL h10 (h.size, 0) = some sl' := ldL_of g1 (by simp) rfl
    rw [ll]
    simp only [Option.bind_some]
    have : byL h10 sl' = some (expF s spans 4 0 l) := by
      rcases o1.2.2 with ⟨h0, hn⟩ | ⟨id, rest, hr, hg, _⟩
      · have : expF s spans 4 0 l = [] := List.length_eq_zero_iff.1 (by omega)
        unfold byL; rw [h0, this]
      · unfold byL
        simp only [hr, hg]
        by_cases h0 : sl'.n = 0
        · have : expF s spans 4 0 l = [] := List.length_eq_zero_iff.1 (by omega)
          rw [if_pos h0, this]; rfl
        · rw [if_neg h0, cellsAt_of (by simp) (by simp; omega), List.drop_zero, n1, List.take_append_of_le_length (by simp), List.take_of_length_le (by simp)]
          exact bytesOf_byt _
    rw [this]
    exact W.ret rfl
end Go.Abs.L
