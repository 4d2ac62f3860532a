/-
  AttrsApply: both go by the same steps.
-/
import Derived.Test.YtdpebdaplhfbjaaGreatDoorApS
import Derived.Test.YtdpebdaplhfbjaaGreatDoorApM
namespace Go.Av.L
open Go.Av Go.Lib
set_option linter.unusedVariables false
set_option linter.unusedSimpArgs false
noncomputable def tS (s : List UInt8) : Int × Int × Int := (M_boulterref04_Parse s).getD (0, 0, 2)
theorem tS_ok {s : List UInt8} (hs : s.length ≤ 400) : M_boulterref04_Parse s = some (tS s) ∧ M_stamp_Parse s = some (⟨(tS s).1, (tS s).2.1⟩, (tS s).2.2) := by
 obtain ⟨a, b, e, h1, h2⟩ := stamp_eq s hs
 unfold tS
 rw [h2]
 exact ⟨rfl, h1⟩
abbrev Mem := S_api_Member
def kGid : Str := [103, 105, 100]
def kUid : Str := [117, 105, 100]
def kSize : Str := [115, 105, 122, 101]
def kGname : Str := [103, 110, 97, 109, 101]
def kUname : Str := [117, 110, 97, 109, 101]
def kPath : Str := [112, 97, 116, 104]
def kLink : Str := [108, 105, 110, 107, 112, 97, 116, 104]
def kTime : Str := [109, 116, 105, 109, 101]
def resM (e : Int) (m : Mem) (n : Int) : (Mem × Int) ⊕ Int := if e = 0 then .inl (m, n) else .inr e
noncomputable def stp (m : Mem) (n : Int) (p : Pr) : (Mem × Int) ⊕ Int :=
 if p.Key = kGid then resM (nspec p.Value).2 { m with Gid := (nspec p.Value).1 } n
 else if p.Key = kUid then resM (nspec p.Value).2 { m with Uid := (nspec p.Value).1 } n
 else if p.Key = kSize then resM (nspec p.Value).2 m (nspec p.Value).1
 else if p.Key = kGname then resM (if hasZ p.Value = true then 2 else 0) { m with Gname := p.Value } n
 else if p.Key = kUname then resM (if hasZ p.Value = true then 2 else 0) { m with Uname := p.Value } n
 else if p.Key = kPath then resM (if hasZ p.Value = true then 2 else 0) { m with Name := p.Value } n
 else if p.Key = kLink then resM (if hasZ p.Value = true then 2 else 0) { m with Link := p.Value } n
 else if p.Key = kTime then resM (tS p.Value).2.2 { m with Time := ⟨(tS p.Value).1, (tS p.Value).2.1⟩ } n
 else .inl ({ m with Extra := m.Extra ++ [p] }, n)
noncomputable def ap : List Pr → Mem → Int → (Mem × Int) ⊕ Int
 | [], m, n => .inl (m, n)
 | p :: l, m, n => match stp m n p with | .inl (m', n') => ap l m' n' | .inr e => .inr e
def encP (m : Mem) (n : Int) (i : Nat) : (List S_api_Pair) × Int × (List UInt8) × (List UInt8) × Int × Int × Int × Int × (List UInt8) × (List UInt8) × Int × Int × Int × Int × (List UInt8) × Int :=
 (m.Extra, n, m.Name, m.Link, m.Kind, m.Mode, m.Uid, m.Gid, m.Uname, m.Gname, m.Major, m.Minor, m.Time.Sec, m.Time.Nsec, m.Data, (i : Int))
def encR (m : Mem) (n : Int) (i : Nat) : (List S_api_Pair) × (List UInt8) × (List UInt8) × Int × Int × (List UInt8) × (List UInt8) × Int × Int × Int × Int :=
 (m.Extra, m.Name, m.Link, m.Uid, m.Gid, m.Uname, m.Gname, m.Time.Sec, m.Time.Nsec, n, (i : Int))
theorem res0 {e : Int} {m : Mem} {n : Int} (h : e = 0) : resM e m n = .inl (m, n) := if_pos h
theorem res1 {e : Int} {m : Mem} {n : Int} (h : ¬ e = 0) : resM e m n = .inr e := if_neg h
theorem stepP {l : List Pr} {i : Nat} (hi : i < l.length) (hl : l.length ≤ 1000) (hv : l[i].Value.length ≤ 400) {m : Mem} {n : Int} (hx : m.Extra.length ≤ i) :
  (∀ m' n', stp m n l[i] = .inl (m', n') → M_attrs_Apply_sRO_L0 l (encP m n i) = some (.inl (encP m' n' (i + 1)))) ∧
  (∀ e, stp m n l[i] = .inr e → ∃ t, M_attrs_Apply_sRO_L0 l (encP m n i) = some (.inr (.inr t)) ∧ t.2.2.2.2.2.2.2.2.2.2.2.2.2.2.2 = ((0 : Int), e)) := by
 obtain ⟨t1, t2⟩ := tS_ok hv
 unfold M_attrs_Apply_sRO_L0 encP stp
 simp only []
 rw [decide_eq_true (show (i : Int) < (l.length : Int) by omega), iteB_true, ixV_get hi, Option.bind_some]
 generalize l[i] = p at hv t1 t2
 obtain ⟨k, v⟩ := p
 simp only at hv t1 t2 ⊢
 by_cases h1 : k = kGid
 ·subst h1
  rw [if_pos rfl, show (kGid == ([103, 105, 100] : List UInt8)) = true from rfl, iteB_true, num5, Option.bind_some]
  unfold nset
  by_cases h0 : (nspec v).2 = 0
  ·rw [if_pos h0, res0 h0]
   refine ⟨fun m' n' e => ?_, fun e he => by cases he⟩
   cases e
   rw [← ek64 (by omega)]
   rfl
  ·rw [if_neg h0, res1 h0]
   refine ⟨fun m' n' e => (by cases e), fun e he => ?_⟩
   cases he
   simp only []
   rw [bne_iff_ne.2 h0, iteB_true]
   exact ⟨_, rfl, rfl⟩
 rw [if_neg h1, show (k == ([103, 105, 100] : List UInt8)) = false from beq_eq_false_iff_ne.2 h1, iteB_false]
 by_cases h2 : k = kUid
 ·subst h2
  rw [if_pos rfl, show (kUid == ([117, 105, 100] : List UInt8)) = true from rfl, iteB_true, num4, Option.bind_some]
  unfold nset
  by_cases h0 : (nspec v).2 = 0
  ·rw [if_pos h0, res0 h0]
   refine ⟨fun m' n' e => ?_, fun e he => by cases he⟩
   cases e
   rw [← ek64 (by omega)]
   rfl
  ·rw [if_neg h0, res1 h0]
   refine ⟨fun m' n' e => (by cases e), fun e he => ?_⟩
   cases he
   simp only []
   rw [bne_iff_ne.2 h0, iteB_true]
   exact ⟨_, rfl, rfl⟩
 rw [if_neg h2, show (k == ([117, 105, 100] : List UInt8)) = false from beq_eq_false_iff_ne.2 h2, iteB_false]
 by_cases h3 : k = kSize
 ·subst h3
  rw [if_pos rfl, show (kSize == ([115, 105, 122, 101] : List UInt8)) = true from rfl, iteB_true, num0, Option.bind_some]
  unfold nset
  by_cases h0 : (nspec v).2 = 0
  ·rw [if_pos h0, res0 h0]
   refine ⟨fun m' n' e => ?_, fun e he => by cases he⟩
   cases e
   rw [← ek64 (by omega)]
   rfl
  ·rw [if_neg h0, res1 h0]
   refine ⟨fun m' n' e => (by cases e), fun e he => ?_⟩
   cases he
   simp only []
   rw [bne_iff_ne.2 h0, iteB_true]
   exact ⟨_, rfl, rfl⟩
 rw [if_neg h3, show (k == ([115, 105, 122, 101] : List UInt8)) = false from beq_eq_false_iff_ne.2 h3, iteB_false]
 by_cases h4 : k = kGname
 ·subst h4
  rw [if_pos rfl, show (kGname == ([103, 110, 97, 109, 101] : List UInt8)) = true from rfl, iteB_true, plain7, Option.bind_some]
  unfold pset
  cases hasZ v with
  | false =>
   refine ⟨fun m' n' e => ?_, fun e he => by cases he⟩
   cases e
   rw [← ek64 (by omega)]
   rfl
  | true =>
   refine ⟨fun m' n' e => (by cases e), fun e he => ?_⟩
   cases he
   exact ⟨_, rfl, rfl⟩
 rw [if_neg h4, show (k == ([103, 110, 97, 109, 101] : List UInt8)) = false from beq_eq_false_iff_ne.2 h4, iteB_false]
 by_cases h5 : k = kUname
 ·subst h5
  rw [if_pos rfl, show (kUname == ([117, 110, 97, 109, 101] : List UInt8)) = true from rfl, iteB_true, plain6, Option.bind_some]
  unfold pset
  cases hasZ v with
  | false =>
   refine ⟨fun m' n' e => ?_, fun e he => by cases he⟩
   cases e
   rw [← ek64 (by omega)]
   rfl
  | true =>
   refine ⟨fun m' n' e => (by cases e), fun e he => ?_⟩
   cases he
   exact ⟨_, rfl, rfl⟩
 rw [if_neg h5, show (k == ([117, 110, 97, 109, 101] : List UInt8)) = false from beq_eq_false_iff_ne.2 h5, iteB_false]
 by_cases h6 : k = kPath
 ·subst h6
  rw [if_pos rfl, show (kPath == ([112, 97, 116, 104] : List UInt8)) = true from rfl, iteB_true, plain0, Option.bind_some]
  unfold pset
  cases hasZ v with
  | false =>
   refine ⟨fun m' n' e => ?_, fun e he => by cases he⟩
   cases e
   rw [← ek64 (by omega)]
   rfl
  | true =>
   refine ⟨fun m' n' e => (by cases e), fun e he => ?_⟩
   cases he
   exact ⟨_, rfl, rfl⟩
 rw [if_neg h6, show (k == ([112, 97, 116, 104] : List UInt8)) = false from beq_eq_false_iff_ne.2 h6, iteB_false]
 by_cases h7 : k = kLink
 ·subst h7
  rw [if_pos rfl, show (kLink == ([108, 105, 110, 107, 112, 97, 116, 104] : List UInt8)) = true from rfl, iteB_true, plain1, Option.bind_some]
  unfold pset
  cases hasZ v with
  | false =>
   refine ⟨fun m' n' e => ?_, fun e he => by cases he⟩
   cases e
   rw [← ek64 (by omega)]
   rfl
  | true =>
   refine ⟨fun m' n' e => (by cases e), fun e he => ?_⟩
   cases he
   exact ⟨_, rfl, rfl⟩
 rw [if_neg h7, show (k == ([108, 105, 110, 107, 112, 97, 116, 104] : List UInt8)) = false from beq_eq_false_iff_ne.2 h7, iteB_false]
 by_cases h8 : k = kTime
 ·subst h8
  rw [if_pos rfl, show (kTime == ([109, 116, 105, 109, 101] : List UInt8)) = true from rfl, iteB_true]
  unfold M_attrs_sets_1_sSpPO
  rw [t2, Option.bind_some]
  by_cases h0 : (tS v).2.2 = 0
  ·rw [res0 h0]
   refine ⟨fun m' n' e => ?_, fun e he => by cases he⟩
   cases e
   rw [← ek64 (by omega)]
   simp only []
   rw [h0]
   rfl
  ·rw [res1 h0]
   refine ⟨fun m' n' e => (by cases e), fun e he => ?_⟩
   cases he
   simp only []
   rw [show ((tS v).2.2 == 0) = false from beq_eq_false_iff_ne.2 h0, iteB_false, Option.bind_some, Option.bind_some]
   simp only []
   rw [bne_iff_ne.2 h0, iteB_true]
   exact ⟨_, rfl, rfl⟩
 rw [if_neg h8, show (k == ([109, 116, 105, 109, 101] : List UInt8)) = false from beq_eq_false_iff_ne.2 h8, iteB_false]
 refine ⟨fun m' n' e => ?_, fun e he => by cases he⟩
 cases e
 rw [show okN 32 (m.Extra.length + ([(⟨k, v⟩ : S_api_Pair)] : List S_api_Pair).length) = true from okN_of (by simp; omega) (by simp; omega), need_true, ← ek64 (by omega)]
 rfl
end Go.Av.L
