/-
  Dfa: bytes that are told apart, columns, sets as keys, the number of a set.
-/
import Derived.Test.YtiodcbipjnmpgaaDfaN
namespace Go.Av.L
open Go.Av Go.Lib
set_option linter.unusedVariables false
set_option linter.unusedSimpArgs false
def ApartV (l : List S_auto_state) (b c : Int) : Prop := ∃ x ∈ l, x.kind_ = 1 ∧ hasV x.set_ b ≠ hasV x.set_ c
theorem bne_dec (u v : Bool) : (!(u == v)) = decide (u ≠ v) := by cases u <;> cases v <;> rfl
theorem apart_ok {t : S_tree_Tree} {a : S_auto_Auto} (h : LOk t a.l_) {b c : Int} (hb : 0 ≤ b ∧ b ≤ 255) (hc : 0 ≤ c ∧ c ≤ 255) : W (M_auto_Auto_Apart a b c) fun r => r = true ↔ ApartV a.l_ b c := by
 have hle := h.le
 unfold M_auto_Auto_Apart
 refine W.bind (W.mono (W.list (l := a.l_) (fun (_ : Unit) (i : Nat) => (i : Int)) (fun _ i => ¬ ApartV (a.l_.take i) b c) ?_ ?_ () (by rintro ⟨x, hx, _⟩; simp at hx) (Q := fun o => match o with | .inl _ => ¬ ApartV a.l_ b c | .inr r => r = true ∧ ApartV a.l_ b c)) fun o ho => ?_)
 ·intro _ h
  unfold M_auto_Auto_Apart_L0
  refine W.iteP (fun h => by omega) fun _ => W.ret ?_
  simpa using h
 ·intro _ i hi h
  unfold M_auto_Auto_Apart_L0
  refine W.iteP (fun _ => ?_) fun h => by omega
  rw [ixV_get hi, Option.bind_some, iteB_beq]
  refine W.bind (W.mono (Q := fun v => v = decide (a.l_[i].kind_ = 1 ∧ hasV a.l_[i].set_ b ≠ hasV a.l_[i].set_ c)) ?_ fun v hv => ?_)
  ·split
   ·rename_i h1
    rw [has_eq _ hb.1 hb.2, has_eq _ hc.1 hc.2]
    exact W.bind (W.ret (W.bind (W.ret (W.ret (by rw [bne_dec]; simp [h1])))))
   ·rename_i h1
    exact W.ret (by simp [h1])
  ·subst hv
   refine W.iteP (fun hc => W.ret ⟨rfl, a.l_[i], List.getElem_mem hi, hc⟩) fun hc => W.ret ⟨(), ek64 (by omega), ?_⟩
   rw [take_snoc (List.getElem?_eq_getElem hi)]
   rintro ⟨x, hx, h2⟩
   rcases List.mem_append.1 hx with hx | hx
   ·exact h ⟨x, hx, h2⟩
   ·obtain rfl := List.mem_singleton.1 hx
    exact hc h2
 ·cases o with
  | inl _ => exact W.ret ⟨fun h => by simp at h, fun h => absurd h ho⟩
  | inr r => exact W.ret ⟨fun _ => ho.2, fun _ => ho.1⟩
def colV (l : List S_auto_state) (bs : List UInt8) (b : Nat) (c : Int) : Prop := ∃ (k : Nat) (y : UInt8), c = (k : Int) ∧ bs[k]? = some y ∧ ¬ ApartV l b y.toNat
theorem colV.up {l : List S_auto_state} {bs : List UInt8} {b : Nat} {c : Int} (h : colV l bs b c) (x : List UInt8) : colV l (bs ++ x) b c := by
 obtain ⟨k, y, e, hk, ha⟩ := h
 exact ⟨k, y, e, by rw [List.getElem?_append_left (List.getElem?_eq_some_iff.1 hk).1]; exact hk, ha⟩
theorem idx_ok {t : S_tree_Tree} {m : S_dfa_maker} (h : LOk t m.a_.l_) (bs : List UInt8) (hl : bs.length ≤ 256) (b : Nat) (hb : b < 256) :
  W (M_slices_IndexFunc_byte_byte_sOFPPPOOOe0OP bs m b) fun r => r = -1 ∨ (0 ≤ r ∧ r < bs.length ∧ colV m.a_.l_ bs b r) := by
 unfold M_slices_IndexFunc_byte_byte_sOFPPPOOOe0OP
 refine W.bind (W.mono (W.list (l := bs) (fun (_ : Unit) (i : Nat) => (i : Int)) (fun _ _ => True) ?_ ?_ () trivial (Q := fun o => match o with | .inl _ => True | .inr r => 0 ≤ r ∧ r < bs.length ∧ colV m.a_.l_ bs b r)) fun o ho => ?_)
 ·intro _ _
  unfold M_slices_IndexFunc_byte_byte_sOFPPPOOOe0OP_L0
  exact W.iteP (fun h => by omega) fun _ => W.ret trivial
 ·intro _ i hi _
  unfold M_slices_IndexFunc_byte_byte_sOFPPPOOOe0OP_L0
  refine W.iteP (fun _ => ?_) fun h => by omega
  rw [ixV_get hi]
  unfold M_dfa_maker_split_1_sIPPPOOOOOP
  rw [show IntKind.u8.wrap (b : Int) = (b : Int) from wu8 (by omega) (by omega)]
  refine W.bind (W.ret (W.bind (W.bind ((apart_ok h ⟨by omega, by omega⟩ (byte_lt bs[i])).mono fun v hv => W.ret ?_))))
  refine W.ite (fun hf => W.ret ⟨by omega, by omega, i, bs[i], rfl, List.getElem?_eq_getElem hi, fun ha => ?_⟩) fun _ => W.ret ⟨(), ek64 (by omega), trivial⟩
  rw [hv.2 ha] at hf
  cases hf
 ·cases o with
  | inl _ => exact W.ret (.inl rfl)
  | inr r => exact W.ret (.inr ho)
theorem split_ok {t : S_tree_Tree} {m : S_dfa_maker} (h : LOk t m.a_.l_) (h0 : m.byte_ = []) : W (M_dfa_maker_split_sPPOOOOO m) fun r => (∀ b : Nat, b < 256 → colV m.a_.l_ r.2 b (r.1.column_ b)) ∧ r.2.length ≤ 256 ∧ r.1.columns_ = r.2.length ∧ r.1.first_ = m.d_.first_ ∧ r.1.later_ = m.d_.later_ ∧ r.1.empty_ = m.d_.empty_ := by
 unfold M_dfa_maker_split_sPPOOOOO
 refine W.bind (W.mono (W.loop (fun s => ∃ i : Nat, s.2.2 = (i : Int) ∧ i ≤ 256 ∧ s.2.1.length ≤ i ∧ ∀ b : Nat, b < i → colV m.a_.l_ s.2.1 b (s.1 b)) (fun s => (256 - s.2.2).toNat) ⟨0, rfl, by omega, by simp [h0], fun b hb => by omega⟩ ?_ (Q := fun r => (∀ b : Nat, b < 256 → colV m.a_.l_ r.2 b (r.1 b)) ∧ r.2.length ≤ 256)) ?_)
 ·rintro ⟨x1, x2, x3⟩ ⟨i, hi, h1, h2, h3⟩
  simp only at hi h2 h3
  subst hi
  unfold M_dfa_maker_split_sPPOOOOO_L0
  refine W.iteP (fun hb => ?_) fun hb => ?_
  ·have hi : i < 256 := by omega
   refine W.bind ((idx_ok (m := ⟨m.a_, ⟨x1, m.d_.columns_, m.d_.next_, m.d_.ends_, m.d_.last_, m.d_.first_, m.d_.later_, m.d_.empty_⟩, m.most_, x2, m.seen_, m.todo_⟩) h x2 (by omega) i hi).mono fun r hr => ?_)
   simp only at hr
   have ex : ixB 256 x1 (i : Int) = some (x1 i) := by unfold ixB; rw [if_pos ⟨by omega, by omega⟩, Int.toNat_natCast]
   have fin : ∀ (x7 : List UInt8) (k : Nat), k ≤ 255 → x7.length ≤ i + 1 → (∃ z, x7 = x2 ++ z) → colV m.a_.l_ x7 i k → (∃ i' : Nat, IntKind.i64.wrap ((i : Int) + 1) = (i' : Int) ∧ i' ≤ 256 ∧ x7.length ≤ i' ∧ ∀ b : Nat, b < i' → colV m.a_.l_ x7 b ((bset x1 (i : Int).toNat (IntKind.u8.wrap (k : Int))) b)) ∧ (256 - IntKind.i64.wrap ((i : Int) + 1)).toNat < (256 - (i : Int)).toNat := by
    rintro x7 k hk hl ⟨z, rfl⟩ hc
    rw [ek64 (by omega), wu8 (by omega) (by omega), Int.toNat_natCast]
    refine ⟨⟨i + 1, rfl, by omega, hl, fun b hb => ?_⟩, by omega⟩
    by_cases e : b = i
    ·subst e; rw [bset_same]; exact hc
    ·rw [bset_ne _ _ e]; exact (h3 b (by omega)).up z
   rcases hr with rfl | ⟨h4, h5, h6⟩
   ·have et : toY (i : Int) = some (UInt8.ofNat i) := by unfold toY; rw [if_pos (by omega), Int.toNat_natCast]
    rw [show decide ((-1 : Int) < 0) = true from rfl, iteB_true, wu8 (by omega) (by omega), et, Option.bind_some, okN_of (by simp; omega) (by simp; omega), need_true, Option.bind_some, ex]
    refine W.bind (W.ret (W.ret (fin _ x2.length (by omega) (by simp; omega) ⟨_, rfl⟩ ⟨x2.length, UInt8.ofNat i, rfl, by rw [List.getElem?_append_right (Nat.le_refl _), Nat.sub_self]; rfl, ?_⟩)))
    rw [show (UInt8.ofNat i).toNat = i from UInt8.toNat_ofNat_of_lt' (by exact hi)]
    rintro ⟨x, _, _, hn⟩
    exact hn rfl
   ·obtain ⟨k, rfl⟩ := Int.eq_ofNat_of_zero_le h4
    rw [decide_eq_false (by omega), iteB_false, Option.bind_some, ex]
    exact W.bind (W.ret (W.ret (fin x2 k (by omega) (by omega) ⟨[], by simp⟩ h6)))
  ·obtain rfl : i = 256 := by omega
   exact W.ret ⟨h3, h2⟩
 ·rintro ⟨x4, x5⟩ ⟨h1, h2⟩
  exact W.ret ⟨h1, h2, rfl, rfl, rfl, rfl⟩
def sgn (s : List Int) : List UInt8 := s.flatMap fun i => [UInt8.ofNat (i.toNat % 256), UInt8.ofNat (i.toNat / 256 % 256)]
theorem sgn_inj : ∀ {s s' : List Int}, (∀ i ∈ s, inR 4096 i) → (∀ i ∈ s', inR 4096 i) → sgn s = sgn s' → s = s'
 | [], [], _, _, _ => rfl
 | [], j :: s', _, _, h => by simp [sgn] at h
 | i :: s, [], _, _, h => by simp [sgn] at h
 | i :: s, j :: s', h1, h2, h => by
  have ih := sgn_inj (s := s) (s' := s') (fun k hk => h1 k (List.mem_cons_of_mem _ hk)) (fun k hk => h2 k (List.mem_cons_of_mem _ hk))
  simp only [sgn, List.flatMap_cons, List.cons_append, List.nil_append, List.cons.injEq] at h ih
  obtain ⟨a1, a2, a3⟩ := h
  have hi := h1 i (List.mem_cons_self ..)
  have hj := h2 j (List.mem_cons_self ..)
  unfold inR at hi hj
  have e1 := congrArg UInt8.toNat a1
  have e2 := congrArg UInt8.toNat a2
  simp only [UInt8.toNat_ofNat'] at e1 e2
  rw [ih a3]
  have : i = j := by omega
  rw [this]
theorem sgn_len (s : List Int) : (sgn s).length = 2 * s.length := by
 induction s with
 | nil => rfl
 | cons i s ih => simp only [sgn, List.flatMap_cons, List.length_append, List.length_cons, List.length_nil] at ih ⊢; omega
theorem toY_wrap {i : Int} (h : 0 ≤ i) : toY (IntKind.u8.wrap i) = some (UInt8.ofNat (i.toNat % 256)) := by
 have e : IntKind.u8.wrap i = ((i.toNat % 256 : Nat) : Int) := by rw [IntKind.wrap_u8]; omega
 rw [e]
 unfold toY
 rw [if_pos (by omega), Int.toNat_natCast]
theorem sign_ok {s : List Int} (h : ∀ i ∈ s, inR 4096 i) (hl : s.length ≤ 4096) : M_dfa_sign s = some (sgn s) := by
 refine W.eq ?_
 unfold M_dfa_sign
 refine W.bind (W.mono (W.list (l := s) (fun (o : List UInt8) (i : Nat) => (o, (i : Int))) (fun o i => o = sgn (s.take i)) ?_ ?_ [] (by simp [sgn]) (Q := fun r => r = sgn s)) fun r hr => W.ret hr)
 ·intro o ho
  unfold M_dfa_sign_L0
  refine W.iteP (fun h => by omega) fun _ => W.ret ?_
  simpa using ho
 ·intro o i hi ho
  unfold M_dfa_sign_L0
  refine W.iteP (fun _ => ?_) fun h => by omega
  obtain ⟨h0, h1⟩ := h _ (List.getElem_mem hi)
  have e8 : bShr .i64 s[i] 8 = s[i] / 256 := by
   show s[i].fdiv 256 = _
   rw [Int.fdiv_eq_ediv_of_nonneg _ (by decide)]
  have ol : o.length ≤ 2 * i := by rw [ho, sgn_len, List.length_take]; omega
  rw [ixV_get hi, Option.bind_some, toY_wrap h0, Option.bind_some, e8, toY_wrap (by omega), Option.bind_some]
  refine W.need (okN_of (by simp; omega) (by simp; omega)) (W.ret ⟨_, by rw [ek64 (by omega)], ?_⟩)
  rw [take_snoc (List.getElem?_eq_getElem hi), ho]
  unfold sgn
  rw [List.flatMap_append]
  simp only [List.flatMap_cons, List.flatMap_nil, List.append_nil]
  have : (s[i] / 256).toNat = s[i].toNat / 256 := by omega
  rw [this]
section
variable {K V : Type} [DecidableEq K]
theorem mfind_mput (m : List (K × V)) (k : K) (v : V) (n : K) : mfind (mput m k v) n = if n = k then some v else mfind m n := by
 induction m with
 | nil => simp [mput, mfind]
 | cons p m ih =>
  obtain ⟨k', v'⟩ := p
  unfold mput
  by_cases h : k = k'
  ·subst h; simp only [if_true, mfind]; by_cases h2 : n = k <;> simp [h2]
  ·rw [if_neg h]; simp only [mfind, ih]
   by_cases h2 : n = k'
   ·subst h2; simp [Ne.symm h]
   ·simp [h2]
end
structure TOk (a : S_auto_Auto) (todo : List (List Int)) (seen : List (List UInt8 × Int)) (ends last : List Bool) : Prop where
 set : ∀ (k : Nat) (s : List Int), todo[k]? = some s → SOk a.l_ s ∧ mfind seen (sgn s) = some (k : Int)
 key : ∀ x v, mfind seen x = some v → ∃ (k : Nat) (s : List Int), todo[k]? = some s ∧ v = (k : Int) ∧ x = sgn s
 ends : ends = todo.map fun s => decide ((0 : Int) ∈ cl a.l_ false false s)
 last : last = todo.map fun s => decide ((0 : Int) ∈ cl a.l_ false true s)
 sh : ∀ s ∈ todo, s ≠ [] ∧ Shp a.l_.length s
theorem TOk.nodup {a : S_auto_Auto} {todo : List (List Int)} {seen : List (List UInt8 × Int)} {ends last : List Bool} (T : TOk a todo seen ends last) : todo.Nodup := by
 unfold List.Nodup
 rw [List.pairwise_iff_getElem]
 intro i j hi hj hij e
 have h1 := (T.set i _ (List.getElem?_eq_getElem hi)).2
 have h2 := (T.set j _ (List.getElem?_eq_getElem hj)).2
 rw [e, h2] at h1
 have := Option.some.inj h1
 omega
def numV (todo : List (List Int)) (s : List Int) (v : Int) : Prop := (s = [] ∧ v = -1) ∨ ∃ k : Nat, v = (k : Int) ∧ todo[k]? = some s
theorem numV.up {todo : List (List Int)} {s : List Int} {v : Int} (h : numV todo s v) (z : List (List Int)) : numV (todo ++ z) s v := by
 rcases h with h | ⟨k, e, hk⟩
 ·exact .inl h
 ·exact .inr ⟨k, e, by rw [List.getElem?_append_left (List.getElem?_eq_some_iff.1 hk).1]; exact hk⟩
theorem inR4 {t : S_tree_Tree} {l : List S_auto_state} (h : LOk t l) {s : List Int} (hs : SOk l s) : ∀ i ∈ s, inR 4096 i := fun i hi => ⟨(hs.i i hi).1, by have := (hs.i i hi).2; have := h.le; omega⟩
theorem state_ok {t : S_tree_Tree} {m : S_dfa_maker} (h : LOk t m.a_.l_) (T : TOk m.a_ m.todo_ m.seen_ m.d_.ends_ m.d_.last_) {n : Nat} (hm : m.most_ = (n : Int)) (hn : n ≤ 4096) (hl : m.todo_.length ≤ n) {s : List Int} (hs : SOk m.a_.l_ s) (hsh : Shp m.a_.l_.length s) :
  W (M_dfa_maker_state_sPPOOOOOV m s) fun r => TOk m.a_ r.2.2.2.2.2 r.2.2.2.2.1 r.2.2.1 r.2.2.2.1 ∧ (∃ z, r.2.2.2.2.2 = m.todo_ ++ z) ∧ r.2.2.2.2.2.length ≤ n ∧ (r.2.1 = true → numV r.2.2.2.2.2 s r.1) ∧ (r.2.1 = false → n < 2 ^ m.a_.l_.length) := by
 unfold M_dfa_maker_state_sPPOOOOOV
 rw [show ((s.length : Int) == 0) = decide (s.length = 0) from beqN s.length 0]
 refine W.iteP (fun h0 => W.ret ⟨T, ⟨[], by simp⟩, hl, fun _ => .inl ⟨List.eq_nil_of_length_eq_zero h0, rfl⟩, fun e => by cases e⟩) fun h0 => ?_
 have hne0 : s ≠ [] := fun e => h0 (by rw [e]; rfl)
 rw [sign_ok (inR4 h hs) hs.n, Option.bind_some]
 cases hf : mfind m.seen_ (sgn s) with
 | some v =>
  obtain ⟨k, s', hk, rfl, e⟩ := T.key _ _ hf
  have : s = s' := sgn_inj (inR4 h hs) (inR4 h (T.set k s' hk).1) e
  subst this
  exact W.ret ⟨T, ⟨[], by simp⟩, hl, fun _ => .inr ⟨k, rfl, hk⟩, fun e => by cases e⟩
 | none =>
  rw [Option.isSome_none, iteB_false, hm, beqN]
  have hnot : s ∉ m.todo_ := fun hm => by
   obtain ⟨k, hk⟩ := List.getElem?_of_mem hm
   have := (T.set k s hk).2
   rw [hf] at this
   cases this
  refine W.iteP (fun hfull => W.ret ⟨T, ⟨[], by simp⟩, hl, fun e => (by cases e), fun _ => ?_⟩) fun hne => ?_
  ·have := sets_lt (N := m.a_.l_.length) (todo := s :: m.todo_) (List.nodup_cons.2 ⟨hnot, T.nodup⟩) fun x hx => by
    rcases List.mem_cons.1 hx with rfl | hx
    ·exact ⟨hne0, hsh⟩
    ·exact T.sh x hx
   simp only [List.length_cons] at this
   omega
  have el : m.d_.ends_.length = m.todo_.length := by rw [T.ends, List.length_map]
  have ll : m.d_.last_.length = m.todo_.length := by rw [T.last, List.length_map]
  refine W.need (okN_of (by simp; omega) (by simp; omega)) ?_
  rw [stops2_ok h hs, Option.bind_some]
  refine W.need (okN_of (by simp; omega) (by simp; omega)) ?_
  rw [stops2_ok h hs, Option.bind_some]
  refine W.need (okN_of (by simp; omega) (by simp; omega)) (W.ret ?_)
  rw [show IntKind.i32.wrap (m.todo_.length : Int) = (m.todo_.length : Int) by rw [IntKind.wrap_i32]; omega]
  have here : (m.todo_ ++ [s])[m.todo_.length]? = some s := by rw [List.getElem?_append_right (Nat.le_refl _), Nat.sub_self]; rfl
  refine ⟨⟨fun k s' hk => ?_, fun x v hx => ?_, ?_, ?_, fun x hx => ?_⟩, ⟨[s], rfl⟩, by simp; omega, fun _ => .inr ⟨_, rfl, here⟩, fun e => by cases e⟩
  ·rw [mfind_mput]
   by_cases hk2 : k < m.todo_.length
   ·have hk3 : m.todo_[k]? = some s' := by
     have := hk
     rwa [List.getElem?_append_left hk2] at this
    obtain ⟨a1, a2⟩ := T.set k s' hk3
    refine ⟨a1, ?_⟩
    rw [if_neg (fun e => by rw [e, hf] at a2; cases a2)]
    exact a2
   ·have hk4 := (List.getElem?_eq_some_iff.1 hk).1
    simp only [List.length_append, List.length_singleton] at hk4
    obtain rfl : k = m.todo_.length := by omega
    have hk5 : (m.todo_ ++ [s])[m.todo_.length]? = some s' := hk
    rw [here] at hk5
    cases hk5
    exact ⟨hs, by rw [if_pos rfl]⟩
  ·have hx2 : mfind (mput m.seen_ (sgn s) (m.todo_.length : Int)) x = some v := hx
   rw [mfind_mput] at hx2
   by_cases e : x = sgn s
   ·rw [if_pos e] at hx2
    cases hx2
    exact ⟨_, s, here, rfl, e⟩
   ·rw [if_neg e] at hx2
    obtain ⟨k, s', hk, a1, a2⟩ := T.key _ _ hx2
    exact ⟨k, s', by show (m.todo_ ++ [s])[k]? = _; rw [List.getElem?_append_left (List.getElem?_eq_some_iff.1 hk).1]; exact hk, a1, a2⟩
  ·show m.d_.ends_ ++ [_] = (m.todo_ ++ [s]).map _
   rw [List.map_append, ← T.ends]; rfl
  ·show m.d_.last_ ++ [_] = (m.todo_ ++ [s]).map _
   rw [List.map_append, ← T.last]; rfl
  ·have hx : x ∈ m.todo_ ++ [s] := hx
   rcases List.mem_append.1 hx with hx | hx
   ·exact T.sh x hx
   ·obtain rfl := List.mem_singleton.1 hx
    exact ⟨hne0, hsh⟩
end Go.Av.L
