/-
  AttrsApply: the document's steps; the law.
-/
import Derived.Test.YtdpebdaplhfbjaaGreatDoorApL
namespace Go.Av.L
open Go.Av Go.Lib
set_option linter.unusedVariables false
set_option linter.unusedSimpArgs false
theorem known_ok (k : Str) : M_boulterref07_known k = some (decide (k = kGid ∨ k = kUid ∨ k = kSize ∨ k = kGname ∨ k = kUname ∨ k = kPath ∨ k = kLink ∨ k = kTime)) := by
 unfold M_boulterref07_known
 congr 1
 rw [Bool.eq_iff_iff]
 constructor
 ·intro h
  refine decide_eq_true ?_
  simp only [Bool.or_eq_true, beq_iff_eq] at h
  rcases h with ((((((h | h) | h) | h) | h) | h) | h) | h
  ·exact .inl h
  ·exact .inr (.inr (.inr (.inl h)))
  ·exact .inr (.inr (.inr (.inr (.inr (.inr (.inl h))))))
  ·exact .inr (.inr (.inr (.inr (.inr (.inr (.inr h))))))
  ·exact .inr (.inr (.inr (.inr (.inr (.inl h)))))
  ·exact .inr (.inr (.inl h))
  ·exact .inr (.inl h)
  ·exact .inr (.inr (.inr (.inr (.inl h))))
 ·intro h
  have h := of_decide_eq_true h
  simp only [Bool.or_eq_true, beq_iff_eq]
  rcases h with h | h | h | h | h | h | h | h
  ·exact .inl (.inl (.inl (.inl (.inl (.inl (.inl h))))))
  ·exact .inl (.inr h)
  ·exact .inl (.inl (.inr h))
  ·exact .inl (.inl (.inl (.inl (.inl (.inl (.inr h))))))
  ·exact .inr h
  ·exact .inl (.inl (.inl (.inr h)))
  ·exact .inl (.inl (.inl (.inl (.inl (.inr h)))))
  ·exact .inl (.inl (.inl (.inl (.inr h))))
theorem stepR {l : List Pr} {i : Nat} (hi : i < l.length) (hl : l.length ≤ 1000) (hv : l[i].Value.length ≤ 400) {m : Mem} {n : Int} (hx : m.Extra.length ≤ i) :
  (∀ m' n', stp m n l[i] = .inl (m', n') → M_boulterref07_Apply_sRO_L0 l (encR m n i) = some (.inl (encR m' n' (i + 1)))) ∧
  (∀ e, stp m n l[i] = .inr e → ∃ t, M_boulterref07_Apply_sRO_L0 l (encR m n i) = some (.inr (.inr t)) ∧ t.2.2.2.2.2.2.2.2.2 = ((0 : Int), e)) := by
 obtain ⟨t1, t2⟩ := tS_ok hv
 obtain ⟨x, hx1, hx2⟩ := read_ok l[i].Value (by omega)
 unfold M_boulterref07_Apply_sRO_L0 encR stp
 simp only []
 rw [decide_eq_true (show (i : Int) < (l.length : Int) by omega), iteB_true, ixV_get hi]
 simp only [Option.bind_some]
 generalize l[i] = p at hv t1 t2 hx1 hx2
 obtain ⟨k, v⟩ := p
 simp only at hv t1 t2 hx1 hx2 ⊢
 rw [known_ok, Option.bind_some]
 by_cases h1 : k = kGid
 ·subst h1
  rw [if_pos rfl, show (!decide (kGid = kGid ∨ kGid = kUid ∨ kGid = kSize ∨ kGid = kGname ∨ kGid = kUname ∨ kGid = kPath ∨ kGid = kLink ∨ kGid = kTime)) = false from rfl, iteB_false,
   show (((kGid == ([103, 105, 100] : List UInt8)) || (kGid == ([117, 105, 100] : List UInt8))) || (kGid == ([115, 105, 122, 101] : List UInt8))) = true from rfl, iteB_true, num_ref, Option.bind_some]
  by_cases h0 : (nspec v).2 = 0
  ·rw [res0 h0]
   refine ⟨fun m' n' e => ?_, fun e he => by cases he⟩
   cases e
   rw [← ek64 (by omega)]
   simp only [Option.bind_some]
   rw [h0]
   rfl
  ·rw [res1 h0]
   refine ⟨fun m' n' e => (by cases e), fun e he => ?_⟩
   cases he
   simp only [Option.bind_some]
   rw [bne_iff_ne.2 h0, iteB_true]
   exact ⟨_, rfl, rfl⟩
 by_cases h2 : k = kUid
 ·subst h2
  rw [if_neg h1, if_pos rfl, show (!decide (kUid = kGid ∨ kUid = kUid ∨ kUid = kSize ∨ kUid = kGname ∨ kUid = kUname ∨ kUid = kPath ∨ kUid = kLink ∨ kUid = kTime)) = false from rfl, iteB_false,
   show (((kUid == ([103, 105, 100] : List UInt8)) || (kUid == ([117, 105, 100] : List UInt8))) || (kUid == ([115, 105, 122, 101] : List UInt8))) = true from rfl, iteB_true, num_ref, Option.bind_some]
  by_cases h0 : (nspec v).2 = 0
  ·rw [res0 h0]
   refine ⟨fun m' n' e => ?_, fun e he => by cases he⟩
   cases e
   rw [← ek64 (by omega)]
   simp only [Option.bind_some]
   rw [h0]
   rfl
  ·rw [res1 h0]
   refine ⟨fun m' n' e => (by cases e), fun e he => ?_⟩
   cases he
   simp only [Option.bind_some]
   rw [bne_iff_ne.2 h0, iteB_true]
   exact ⟨_, rfl, rfl⟩
 by_cases h3 : k = kSize
 ·subst h3
  rw [if_neg h1, if_neg h2, if_pos rfl, show (!decide (kSize = kGid ∨ kSize = kUid ∨ kSize = kSize ∨ kSize = kGname ∨ kSize = kUname ∨ kSize = kPath ∨ kSize = kLink ∨ kSize = kTime)) = false from rfl, iteB_false,
   show (((kSize == ([103, 105, 100] : List UInt8)) || (kSize == ([117, 105, 100] : List UInt8))) || (kSize == ([115, 105, 122, 101] : List UInt8))) = true from rfl, iteB_true, num_ref, Option.bind_some]
  by_cases h0 : (nspec v).2 = 0
  ·rw [res0 h0]
   refine ⟨fun m' n' e => ?_, fun e he => by cases he⟩
   cases e
   rw [← ek64 (by omega)]
   simp only [Option.bind_some]
   rw [h0]
   rfl
  ·rw [res1 h0]
   refine ⟨fun m' n' e => (by cases e), fun e he => ?_⟩
   cases he
   simp only [Option.bind_some]
   rw [bne_iff_ne.2 h0, iteB_true]
   exact ⟨_, rfl, rfl⟩
 rw [if_neg h1, if_neg h2, if_neg h3, show (((k == ([103, 105, 100] : List UInt8)) || (k == ([117, 105, 100] : List UInt8))) || (k == ([115, 105, 122, 101] : List UInt8))) = false from by
  rw [Bool.or_eq_false_iff, Bool.or_eq_false_iff]; exact ⟨⟨beq_eq_false_iff_ne.2 h1, beq_eq_false_iff_ne.2 h2⟩, beq_eq_false_iff_ne.2 h3⟩]
 by_cases h8 : k = kTime
 ·subst h8
  rw [show (!decide (kTime = kGid ∨ kTime = kUid ∨ kTime = kSize ∨ kTime = kGname ∨ kTime = kUname ∨ kTime = kPath ∨ kTime = kLink ∨ kTime = kTime)) = false from rfl, iteB_false, iteB_false, show (kTime == ([109, 116, 105, 109, 101] : List UInt8)) = true from rfl, iteB_true, t1, Option.bind_some,
   if_neg (show ¬ kTime = kGname by decide), if_neg (show ¬ kTime = kUname by decide), if_neg (show ¬ kTime = kPath by decide), if_neg (show ¬ kTime = kLink by decide), if_pos rfl]
  by_cases h0 : (tS v).2.2 = 0
  ·rw [res0 h0]
   refine ⟨fun m' n' e => ?_, fun e he => by cases he⟩
   cases e
   rw [← ek64 (by omega)]
   simp only [Option.bind_some]
   rw [h0]
   rfl
  ·rw [res1 h0]
   refine ⟨fun m' n' e => (by cases e), fun e he => ?_⟩
   cases he
   simp only [Option.bind_some]
   rw [bne_iff_ne.2 h0, iteB_true]
   exact ⟨_, rfl, rfl⟩
 rw [show (k == ([109, 116, 105, 109, 101] : List UInt8)) = false from beq_eq_false_iff_ne.2 h8, iteB_false, iteB_false, hx1, Option.bind_some, hx2, Bool.not_not]
 have rest : ∀ (hk : k = kGname ∨ k = kUname ∨ k = kPath ∨ k = kLink), (!decide (k = kGid ∨ k = kUid ∨ k = kSize ∨ k = kGname ∨ k = kUname ∨ k = kPath ∨ k = kLink ∨ k = kTime)) = false := fun hk => by
  rw [decide_eq_true (by rcases hk with h | h | h | h <;> simp [h])]; rfl
 by_cases h4 : k = kGname
 ·subst h4
  rw [rest (.inl rfl), iteB_false, if_pos rfl]
  cases hasZ v with
  | false =>
   refine ⟨fun m' n' e => ?_, fun e he => by cases he⟩
   cases e
   rw [← ek64 (by omega)]
   rfl
  | true =>
   refine ⟨fun m' n' e => (by cases e), fun e he => ?_⟩
   cases he
   exact ⟨_, rfl, rfl⟩
 by_cases h5 : k = kUname
 ·subst h5
  rw [rest (.inr (.inl rfl)), iteB_false, if_neg h4, if_pos rfl]
  cases hasZ v with
  | false =>
   refine ⟨fun m' n' e => ?_, fun e he => by cases he⟩
   cases e
   rw [← ek64 (by omega)]
   rfl
  | true =>
   refine ⟨fun m' n' e => (by cases e), fun e he => ?_⟩
   cases he
   exact ⟨_, rfl, rfl⟩
 by_cases h6 : k = kPath
 ·subst h6
  rw [rest (.inr (.inr (.inl rfl))), iteB_false, if_neg h4, if_neg h5, if_pos rfl]
  cases hasZ v with
  | false =>
   refine ⟨fun m' n' e => ?_, fun e he => by cases he⟩
   cases e
   rw [← ek64 (by omega)]
   rfl
  | true =>
   refine ⟨fun m' n' e => (by cases e), fun e he => ?_⟩
   cases he
   exact ⟨_, rfl, rfl⟩
 by_cases h7 : k = kLink
 ·subst h7
  rw [rest (.inr (.inr (.inr rfl))), iteB_false, if_neg h4, if_neg h5, if_neg h6, if_pos rfl]
  cases hasZ v with
  | false =>
   refine ⟨fun m' n' e => ?_, fun e he => by cases he⟩
   cases e
   rw [← ek64 (by omega)]
   rfl
  | true =>
   refine ⟨fun m' n' e => (by cases e), fun e he => ?_⟩
   cases he
   exact ⟨_, rfl, rfl⟩
 rw [if_neg h4, if_neg h5, if_neg h6, if_neg h7, if_neg h8, decide_eq_false (by simp [h1, h2, h3, h4, h5, h6, h7, h8]), Bool.not_false, iteB_true]
 refine ⟨fun m' n' e => ?_, fun e he => by cases he⟩
 cases e
 rw [show okN 32 (m.Extra.length + ([(⟨k, v⟩ : S_api_Pair)] : List S_api_Pair).length) = true from okN_of (by simp; omega) (by simp; omega), need_true, ← ek64 (by omega)]
 rfl
def Same0 (h : S_api_Head) (m : Mem) : Prop := m.Kind = h.Kind ∧ m.Mode = h.Mode ∧ m.Major = h.Major ∧ m.Minor = h.Minor ∧ m.Data = []
theorem stp_same {h : S_api_Head} {m m' : Mem} {n n' : Int} {p : Pr} (hm : Same0 h m) (hs : stp m n p = .inl (m', n')) : Same0 h m' ∧ m'.Extra.length ≤ m.Extra.length + 1 := by
 have res : ∀ {e : Int} {x : Mem} {n : Int}, resM e x n = .inl (m', n') → m' = x := by
  intro e x n h
  unfold resM at h
  split at h
  ·cases h; rfl
  ·cases h
 unfold stp at hs
 split at hs
 ·rw [res hs]; exact ⟨hm, by simp⟩
 split at hs
 ·rw [res hs]; exact ⟨hm, by simp⟩
 split at hs
 ·rw [res hs]; exact ⟨hm, by simp⟩
 split at hs
 ·rw [res hs]; exact ⟨hm, by simp⟩
 split at hs
 ·rw [res hs]; exact ⟨hm, by simp⟩
 split at hs
 ·rw [res hs]; exact ⟨hm, by simp⟩
 split at hs
 ·rw [res hs]; exact ⟨hm, by simp⟩
 split at hs
 ·rw [res hs]; exact ⟨hm, by simp⟩
 cases hs
 exact ⟨hm, by simp⟩
theorem runs {l : List Pr} {h : S_api_Head} (hl : l.length ≤ 1000) (hv : ∀ p ∈ l, p.Value.length ≤ 400) : ∀ (d i : Nat) (m : Mem) (n : Int), i + d = l.length → m.Extra.length ≤ i → Same0 h m →
  (∃ m' n', ap (l.drop i) m n = .inl (m', n') ∧ Same0 h m' ∧ m'.Extra.length ≤ l.length ∧
   Av.loop (M_attrs_Apply_sRO_L0 l) (encP m n i) = some (.inl (m'.Extra, n', m'.Name, m'.Link, m'.Kind, m'.Mode, m'.Uid, m'.Gid, m'.Uname, m'.Gname, m'.Major, m'.Minor, m'.Time.Sec, m'.Time.Nsec, m'.Data)) ∧
   Av.loop (M_boulterref07_Apply_sRO_L0 l) (encR m n i) = some (.inl (m'.Extra, m'.Name, m'.Link, m'.Uid, m'.Gid, m'.Uname, m'.Gname, m'.Time.Sec, m'.Time.Nsec, n'))) ∨
  (∃ e, ap (l.drop i) m n = .inr e ∧ (∃ t, Av.loop (M_attrs_Apply_sRO_L0 l) (encP m n i) = some (.inr t) ∧ t.2.2.2.2.2.2.2.2.2.2.2.2.2.2.2 = ((0 : Int), e)) ∧ ∃ t, Av.loop (M_boulterref07_Apply_sRO_L0 l) (encR m n i) = some (.inr t) ∧ t.2.2.2.2.2.2.2.2.2 = ((0 : Int), e))
 | 0, i, m, n, hi, hx, hm => by
  left
  have : l.drop i = [] := List.drop_of_length_le (by omega)
  refine ⟨m, n, by rw [this]; rfl, hm, by omega, loop_end ?_, loop_end ?_⟩
  ·unfold M_attrs_Apply_sRO_L0 encP
   simp only []
   rw [decide_eq_false (by omega), iteB_false]
  ·unfold M_boulterref07_Apply_sRO_L0 encR
   simp only []
   rw [decide_eq_false (by omega), iteB_false]
 | d + 1, i, m, n, hi, hx, hm => by
  have hlt : i < l.length := by omega
  have hvi := hv l[i] (List.getElem_mem hlt)
  obtain ⟨p1, p2⟩ := stepP hlt hl hvi (n := n) hx
  obtain ⟨r1, r2⟩ := stepR hlt hl hvi (n := n) hx
  have hap : ap (l.drop i) m n = match stp m n l[i] with | .inl (m', n') => ap (l.drop (i + 1)) m' n' | .inr e => .inr e := by rw [drop_cons hlt]; rfl
  cases hs : stp m n l[i] with
  | inl q =>
   obtain ⟨m', n'⟩ := q
   obtain ⟨s1, s2⟩ := stp_same hm hs
   rw [hs] at hap
   rw [hap, loop_step (p1 m' n' hs), loop_step (r1 m' n' hs)]
   exact runs hl hv d (i + 1) m' n' (by omega) (by omega) s1
  | inr e =>
   rw [hs] at hap
   obtain ⟨t, a1, a2⟩ := p2 e hs
   obtain ⟨t', b1, b2⟩ := r2 e hs
   exact .inr ⟨e, hap, ⟨t, loop_end a1, a2⟩, ⟨t', loop_end b1, b2⟩⟩
theorem apply_eq {l : List Pr} (h : S_api_Head) (hl : l.length ≤ 1000) (hv : ∀ p ∈ l, p.Value.length ≤ 400) : ∃ m n e, M_attrs_Apply_sRO h l = some (m, n, e) ∧ M_boulterref07_Apply_sRO h l = some (m, n, e) ∧ m.Extra.length ≤ 1000 := by
 obtain ⟨m0, hm0⟩ : ∃ m0 : Mem, m0 = ⟨h.Name, h.Link, h.Kind, h.Mode, h.Uid, h.Gid, h.Uname, h.Gname, h.Major, h.Minor, ⟨h.Time, 0⟩, [], []⟩ := ⟨_, rfl⟩
 have hP : encP m0 h.Size 0 = (([] : List S_api_Pair), h.Size, h.Name, h.Link, h.Kind, h.Mode, h.Uid, h.Gid, h.Uname, h.Gname, h.Major, h.Minor, h.Time, (0 : Int), ([] : List UInt8), (0 : Int)) := by rw [hm0]; rfl
 have hR : encR m0 h.Size 0 = (([] : List S_api_Pair), h.Name, h.Link, h.Uid, h.Gid, h.Uname, h.Gname, h.Time, (0 : Int), h.Size, (0 : Int)) := by rw [hm0]; rfl
 unfold M_attrs_Apply_sRO M_boulterref07_Apply_sRO
 rw [← hP, ← hR]
 rcases runs (h := h) hl hv l.length 0 m0 h.Size (by omega) (by rw [hm0]; simp) (by rw [hm0]; exact ⟨rfl, rfl, rfl, rfl, rfl⟩) with ⟨m', n', _, hs, hx, a1, a2⟩ | ⟨e, _, ⟨t, a1, a2⟩, ⟨t', b1, b2⟩⟩
 ·rw [a1, a2, Option.bind_some, Option.bind_some]
  obtain ⟨s1, s2, s3, s4, s5⟩ := hs
  refine ⟨m', n', 0, rfl, ?_, by omega⟩
  simp only []
  rw [← s1, ← s2, ← s3, ← s4, ← s5]
 ·rw [a1, b1, Option.bind_some, Option.bind_some]
  obtain ⟨t1, t2, t3, t4, t5, t6, t7, t8, t9, t10, t11, t12, t13, t14, t15, t16, t17⟩ := t
  obtain ⟨u1, u2, u3, u4, u5, u6, u7, u8, u9, u10, u11⟩ := t'
  simp only [Prod.mk.injEq] at a2 b2
  obtain ⟨rfl, rfl⟩ := a2
  obtain ⟨rfl, rfl⟩ := b2
  exact ⟨_, _, _, rfl, rfl, by simp⟩
theorem memSame (m : Mem) (hx : m.Extra.length ≤ 1000) : M_boulterref07_Same m m = some true := by
 unfold M_boulterref07_Same
 simp only [beq_self_eq_true, Bool.and_self, Bool.and_true, iteB_true]
 rw [eqG_self (by kernel_rfl) (by kernel_rfl), Option.bind_some, Option.bind_some, iteB_true, same_self m.Extra hx]
 rfl
theorem lawAttrsApply (p0 : S_api_Head) {Q0 : Prop} (k0 : Q0) (p1 : List Pr) {Q1 : Prop} (k1 : Q1) (p2 : List Pr) {Q2 : Prop} (k2 : Q2) : M_boulterlaw07_AttrsApply p0 p1 p2 = some true := by
 refine W.eq ?_
 unfold M_boulterlaw07_AttrsApply
 obtain ⟨b0, e0, h0⟩ := long_ok p1
 obtain ⟨b1, e1, h1⟩ := long_ok p2
 rw [e0, Option.bind_some, e1]
 simp only [Option.bind_some]
 cases b0 with
 | true => exact W.ret rfl
 | false =>
  rw [iteB_false, Option.bind_some]
  cases b1 with
  | true => exact W.ret rfl
  | false =>
   rw [Bool.false_or]
   refine W.ite (fun _ => W.ret rfl) fun _ => ?_
   obtain ⟨l0, s0⟩ := h0 rfl
   obtain ⟨l1, s1⟩ := h1 rfl
   refine W.bind (W.mono (ref_good p1 p2 l0 l1) fun r hr => ?_)
   have hrl := hr.len
   rw [List.length_append] at hrl
   have hv : ∀ p ∈ r, p.Value.length ≤ 400 := by
    intro p hp
    obtain ⟨q, hq, e⟩ := lastV_mem ((hr.mem p).1 hp).2
    rw [← e]
    rcases List.mem_append.1 hq with hq | hq
    ·have := (s0 q hq).2; omega
    ·have := (s1 q hq).2; omega
   obtain ⟨m, n, e, a1, a2, a3⟩ := apply_eq p0 (l := r) (by omega) hv
   rw [a1, Option.bind_some]
   simp only []
   rw [a2, Option.bind_some]
   simp only []
   rw [memSame m a3, Option.bind_some]
   refine W.ret ?_
   simp
end Go.Av.L
