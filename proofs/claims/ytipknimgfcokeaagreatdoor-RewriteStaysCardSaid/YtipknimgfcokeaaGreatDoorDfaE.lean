/-
  Dfa: bytes that are told apart, columns, sets as keys, the number of a set.
-/
import Derived.Test.YtipknimgfcokeaaGreatDoorDfaN
namespace Go.Av.L
open Go.Av Go.Lib
set_option linter.unusedVariables false
set_option linter.unusedSimpArgs false
def Md (l : List AN) (b c : Int) : Prop := ∃ x ∈ l, x.CZ = 1 ∧ Nl x.CM b ≠ Nl x.CM c
theorem Ui (u v : Bool) : (!(u == v)) = decide (u ≠ v) := by cases u <;> cases v <;> rfl
theorem TV {t : AI} {a : Ak} (h : Mp t a.l_) {b c : Int} (hb : 0 ≤ b ∧ b ≤ 255) (hc : 0 ≤ c ∧ c ≤ 255) : W (Ep a b c) fun r => r = true ↔ Md a.l_ b c := by
 have hle := h.le
 unfold Ep
 refine W.bind (W.mono (W.list (l := a.l_) (fun (_ : Unit) (i : Nat) => (i : Int)) (fun _ i => ¬ Md (a.l_.take i) b c) ?_ ?_ () (by rintro ⟨x, hx, _⟩; simp at hx) (Q := fun o => match o with | .inl _ => ¬ Md a.l_ b c | .inr r => r = true ∧ Md a.l_ b c)) fun o ho => ?_)
 ·intro _ h
  unfold Eu
  refine W.Di (fun h => by omega) fun _ => W.ret ?_
  simpa using h
 ·intro _ i hi h
  unfold Eu
  refine W.Di (fun _ => ?_) fun h => by omega
  rw [DM hi, Option.bind_some, Fk]
  refine W.bind (W.mono (Q := fun v => v = decide (a.l_[i].CZ = 1 ∧ Nl a.l_[i].CM b ≠ Nl a.l_[i].CM c)) ?_ fun v hv => ?_)
  ·split
   ·rename_i h1
    rw [has_eq _ hb.1 hb.2, has_eq _ hc.1 hc.2]
    exact W.bind (W.ret (W.bind (W.ret (W.ret (by rw [Ui]; simp [h1])))))
   ·rename_i h1
    exact W.ret (by simp [h1])
  ·subst hv
   refine W.Di (fun hc => W.ret ⟨rfl, a.l_[i], List.getElem_mem hi, hc⟩) fun hc => W.ret ⟨(), Ha (by omega), ?_⟩
   rw [JR (List.getElem?_eq_getElem hi)]
   rintro ⟨x, hx, h2⟩
   rcases List.mem_append.1 hx with hx | hx
   ·exact h ⟨x, hx, h2⟩
   ·obtain rfl := List.mem_singleton.1 hx
    exact hc h2
 ·cases o with
  | inl _ => exact W.ret ⟨fun h => by simp at h, fun h => absurd h ho⟩
  | inr r => exact W.ret ⟨fun _ => ho.2, fun _ => ho.1⟩
theorem TW {l : List AN} {b c : Int} (h : ¬ Md l b c) (s : List Int) : TP l s b = TP l s c := by
 have : L1 l b = L1 l c := by
  funext i
  unfold L1
  split
  ·rename_i x hx
   by_cases hk : x.CZ = 1
   ·have : Nl x.CM b = Nl x.CM c := Classical.byContradiction fun hn => h ⟨x, List.mem_of_getElem? hx, hk, hn⟩
    rw [this]
   ·simp [hk]
  ·rfl
 unfold TP
 rw [this]
def Nv (l : List AN) (bs : List UInt8) (b : Nat) (c : Int) : Prop := ∃ (k : Nat) (y : UInt8), c = (k : Int) ∧ bs[k]? = some y ∧ ¬ Md l b y.toNat
theorem Nv.up {l : List AN} {bs : List UInt8} {b : Nat} {c : Int} (h : Nv l bs b c) (x : List UInt8) : Nv l (bs ++ x) b c := by
 obtain ⟨k, y, e, hk, ha⟩ := h
 exact ⟨k, y, e, by rw [List.getElem?_append_left (List.getElem?_eq_some_iff.1 hk).1]; exact hk, ha⟩
theorem RW {t : AI} {m : Cp} (h : Mp t m.a_.l_) (bs : List UInt8) (hl : bs.length ≤ 256) (b : Nat) (hb : b < 256) :
  W (Bk bs m b) fun r => r = -1 ∨ (0 ≤ r ∧ r < bs.length ∧ Nv m.a_.l_ bs b r) := by
 unfold Bk
 refine W.bind (W.mono (W.list (l := bs) (fun (_ : Unit) (i : Nat) => (i : Int)) (fun _ _ => True) ?_ ?_ () trivial (Q := fun o => match o with | .inl _ => True | .inr r => 0 ≤ r ∧ r < bs.length ∧ Nv m.a_.l_ bs b r)) fun o ho => ?_)
 ·intro _ _
  unfold Bz
  exact W.Di (fun h => by omega) fun _ => W.ret trivial
 ·intro _ i hi _
  unfold Bz
  refine W.Di (fun _ => ?_) fun h => by omega
  rw [DM hi]
  unfold Co
  rw [show IntKind.u8.wrap (b : Int) = (b : Int) from XE (by omega) (by omega)]
  refine W.bind (W.ret (W.bind (W.bind ((TV h ⟨by omega, by omega⟩ (L4 bs[i])).mono fun v hv => W.ret ?_))))
  refine W.ite (fun hf => W.ret ⟨by omega, by omega, i, bs[i], rfl, List.getElem?_eq_getElem hi, fun ha => ?_⟩) fun _ => W.ret ⟨(), Ha (by omega), trivial⟩
  rw [hv.2 ha] at hf
  cases hf
 ·cases o with
  | inl _ => exact W.ret (.inl rfl)
  | inr r => exact W.ret (.inr ho)
theorem Te {t : AI} {m : Cp} (h : Mp t m.a_.l_) (h0 : m.JU = []) : W (Cr m) fun r => (∀ b : Nat, b < 256 → Nv m.a_.l_ r.2 b (r.1.Az b)) ∧ r.2.length ≤ 256 ∧ r.1.Al = r.2.length ∧ r.1.Aj = m.d_.Aj ∧ r.1.BN = m.d_.BN ∧ r.1.BE = m.d_.BE := by
 unfold Cr
 refine W.bind (W.mono (W.loop (fun s => ∃ i : Nat, s.2.2 = (i : Int) ∧ i ≤ 256 ∧ s.2.1.length ≤ i ∧ ∀ b : Nat, b < i → Nv m.a_.l_ s.2.1 b (s.1 b)) (fun s => (256 - s.2.2).toNat) ⟨0, rfl, by omega, by simp [h0], fun b hb => by omega⟩ ?_ (Q := fun r => (∀ b : Nat, b < 256 → Nv m.a_.l_ r.2 b (r.1 b)) ∧ r.2.length ≤ 256)) ?_)
 ·rintro ⟨x1, x2, x3⟩ ⟨i, hi, h1, h2, h3⟩
  simp only at hi h2 h3
  subst hi
  unfold D7
  refine W.Di (fun hb => ?_) fun hb => ?_
  ·have hi : i < 256 := by omega
   refine W.bind ((RW (m := ⟨m.a_, ⟨x1, m.d_.Al, m.d_.Ba, m.d_.BX, m.d_.BV, m.d_.Aj, m.d_.BN, m.d_.BE⟩, m.CH, x2, m.EA, m.Bs⟩) h x2 (by omega) i hi).mono fun r hr => ?_)
   simp only at hr
   have ex : SW 256 x1 (i : Int) = some (x1 i) := by unfold SW; rw [if_pos ⟨by omega, by omega⟩, Int.toNat_natCast]
   have fin : ∀ (x7 : List UInt8) (k : Nat), k ≤ 255 → x7.length ≤ i + 1 → (∃ z, x7 = x2 ++ z) → Nv m.a_.l_ x7 i k → (∃ i' : Nat, IntKind.i64.wrap ((i : Int) + 1) = (i' : Int) ∧ i' ≤ 256 ∧ x7.length ≤ i' ∧ ∀ b : Nat, b < i' → Nv m.a_.l_ x7 b ((PA x1 (i : Int).toNat (IntKind.u8.wrap (k : Int))) b)) ∧ (256 - IntKind.i64.wrap ((i : Int) + 1)).toNat < (256 - (i : Int)).toNat := by
    rintro x7 k hk hl ⟨z, rfl⟩ hc
    rw [Ha (by omega), XE (by omega) (by omega), Int.toNat_natCast]
    refine ⟨⟨i + 1, rfl, by omega, hl, fun b hb => ?_⟩, by omega⟩
    by_cases e : b = i
    ·subst e; rw [Oq]; exact hc
    ·rw [SA _ _ e]; exact (h3 b (by omega)).up z
   rcases hr with rfl | ⟨h4, h5, h6⟩
   ·have et : RB (i : Int) = some (UInt8.ofNat i) := by unfold RB; rw [if_pos (by omega), Int.toNat_natCast]
    rw [show decide ((-1 : Int) < 0) = true from rfl, FX, XE (by omega) (by omega), et, Option.bind_some, Em (by simp; omega) (by simp; omega), MP, Option.bind_some, ex]
    refine W.bind (W.ret (W.ret (fin _ x2.length (by omega) (by simp; omega) ⟨_, rfl⟩ ⟨x2.length, UInt8.ofNat i, rfl, by rw [List.getElem?_append_right (Nat.le_refl _), Nat.sub_self]; rfl, ?_⟩)))
    rw [show (UInt8.ofNat i).toNat = i from UInt8.toNat_ofNat_of_lt' (by exact hi)]
    rintro ⟨x, _, _, hn⟩
    exact hn rfl
   ·obtain ⟨k, rfl⟩ := Int.eq_ofNat_of_zero_le h4
    rw [decide_eq_false (by omega), C3, Option.bind_some, ex]
    exact W.bind (W.ret (W.ret (fin x2 k (by omega) (by omega) ⟨[], by simp⟩ h6)))
  ·obtain rfl : i = 256 := by omega
   exact W.ret ⟨h3, h2⟩
 ·rintro ⟨x4, x5⟩ ⟨h1, h2⟩
  exact W.ret ⟨h1, h2, rfl, rfl, rfl, rfl⟩
def QX (s : List Int) : List UInt8 := s.flatMap fun i => [UInt8.ofNat (i.toNat % 256), UInt8.ofNat (i.toNat / 256 % 256)]
theorem SO : ∀ {s s' : List Int}, (∀ i ∈ s, Qi 4096 i) → (∀ i ∈ s', Qi 4096 i) → QX s = QX s' → s = s'
 | [], [], _, _, _ => rfl
 | [], j :: s', _, _, h => by simp [QX] at h
 | i :: s, [], _, _, h => by simp [QX] at h
 | i :: s, j :: s', h1, h2, h => by
  have ih := SO (s := s) (s' := s') (fun k hk => h1 k (List.mem_cons_of_mem _ hk)) (fun k hk => h2 k (List.mem_cons_of_mem _ hk))
  simp only [QX, List.flatMap_cons, List.cons_append, List.nil_append, List.cons.injEq] at h ih
  obtain ⟨a1, a2, a3⟩ := h
  have hi := h1 i (List.mem_cons_self ..)
  have hj := h2 j (List.mem_cons_self ..)
  unfold Qi at hi hj
  have e1 := congrArg UInt8.toNat a1
  have e2 := congrArg UInt8.toNat a2
  simp only [UInt8.toNat_ofNat'] at e1 e2
  rw [ih a3]
  have : i = j := by omega
  rw [this]
theorem Uf (s : List Int) : (QX s).length = 2 * s.length := by
 induction s with
 | nil => rfl
 | cons i s ih => simp only [QX, List.flatMap_cons, List.length_append, List.length_cons, List.length_nil] at ih ⊢; omega
theorem P6 {i : Int} (h : 0 ≤ i) : RB (IntKind.u8.wrap i) = some (UInt8.ofNat (i.toNat % 256)) := by
 have e : IntKind.u8.wrap i = ((i.toNat % 256 : Nat) : Int) := by rw [IntKind.wrap_u8]; omega
 rw [e]
 unfold RB
 rw [if_pos (by omega), Int.toNat_natCast]
theorem Ue {s : List Int} (h : ∀ i ∈ s, Qi 4096 i) (hl : s.length ≤ 4096) : H6 s = some (QX s) := by
 refine W.eq ?_
 unfold H6
 refine W.bind (W.mono (W.list (l := s) (fun (o : List UInt8) (i : Nat) => (o, (i : Int))) (fun o i => o = QX (s.take i)) ?_ ?_ [] (by simp [QX]) (Q := fun r => r = QX s)) fun r hr => W.ret hr)
 ·intro o ho
  unfold HA
  refine W.Di (fun h => by omega) fun _ => W.ret ?_
  simpa using ho
 ·intro o i hi ho
  unfold HA
  refine W.Di (fun _ => ?_) fun h => by omega
  obtain ⟨h0, h1⟩ := h _ (List.getElem_mem hi)
  have e8 : GZ .i64 s[i] 8 = s[i] / 256 := by
   show s[i].fdiv 256 = _
   rw [Int.fdiv_eq_ediv_of_nonneg _ (by decide)]
  have ol : o.length ≤ 2 * i := by rw [ho, Uf, List.length_take]; omega
  rw [DM hi, Option.bind_some, P6 h0, Option.bind_some, e8, P6 (by omega), Option.bind_some]
  refine W.Cm (Em (by simp; omega) (by simp; omega)) (W.ret ⟨_, by rw [Ha (by omega)], ?_⟩)
  rw [JR (List.getElem?_eq_getElem hi), ho]
  unfold QX
  rw [List.flatMap_append]
  simp only [List.flatMap_cons, List.flatMap_nil, List.append_nil]
  have : (s[i] / 256).toNat = s[i].toNat / 256 := by omega
  rw [this]
section
variable {K V : Type} [DecidableEq K]
theorem NM (m : List (K × V)) (k : K) (v : V) (n : K) : Dm (CO m k v) n = if n = k then some v else Dm m n := by
 induction m with
 | nil => simp [CO, Dm]
 | cons p m ih =>
  obtain ⟨k', v'⟩ := p
  unfold CO
  by_cases h : k = k'
  ·subst h; simp only [if_true, Dm]; by_cases h2 : n = k <;> simp [h2]
  ·rw [if_neg h]; simp only [Dm, ih]
   by_cases h2 : n = k'
   ·subst h2; simp [Ne.symm h]
   ·simp [h2]
end
structure VC (a : Ak) (todo : List (List Int)) (seen : List (List UInt8 × Int)) (ends last : List Bool) : Prop where
 set : ∀ (k : Nat) (s : List Int), todo[k]? = some s → Vv a.l_ s ∧ Dm seen (QX s) = some (k : Int)
 key : ∀ x v, Dm seen x = some v → ∃ (k : Nat) (s : List Int), todo[k]? = some s ∧ v = (k : Int) ∧ x = QX s
 ends : ends = todo.map fun s => decide ((0 : Int) ∈ cl a.l_ false false s)
 last : last = todo.map fun s => decide ((0 : Int) ∈ cl a.l_ false true s)
 sh : ∀ s ∈ todo, s ≠ [] ∧ UU a.l_.length s
theorem VC.nodup {a : Ak} {todo : List (List Int)} {seen : List (List UInt8 × Int)} {ends last : List Bool} (T : VC a todo seen ends last) : todo.Nodup := by
 unfold List.Nodup
 rw [List.pairwise_iff_getElem]
 intro i j hi hj hij e
 have h1 := (T.set i _ (List.getElem?_eq_getElem hi)).2
 have h2 := (T.set j _ (List.getElem?_eq_getElem hj)).2
 rw [e, h2] at h1
 have := Option.some.inj h1
 omega
def M4 (todo : List (List Int)) (s : List Int) (v : Int) : Prop := (s = [] ∧ v = -1) ∨ ∃ k : Nat, v = (k : Int) ∧ todo[k]? = some s
theorem M4.up {todo : List (List Int)} {s : List Int} {v : Int} (h : M4 todo s v) (z : List (List Int)) : M4 (todo ++ z) s v := by
 rcases h with h | ⟨k, e, hk⟩
 ·exact .inl h
 ·exact .inr ⟨k, e, by rw [List.getElem?_append_left (List.getElem?_eq_some_iff.1 hk).1]; exact hk⟩
theorem Vg {t : AI} {l : List AN} (h : Mp t l) {s : List Int} (hs : Vv l s) : ∀ i ∈ s, Qi 4096 i := fun i hi => ⟨(hs.i i hi).1, by have := (hs.i i hi).2; have := h.le; omega⟩
theorem NL {t : AI} {m : Cp} (h : Mp t m.a_.l_) (T : VC m.a_ m.Bs m.EA m.d_.BX m.d_.BV) {n : Nat} (hm : m.CH = (n : Int)) (hn : n ≤ 4096) (hl : m.Bs.length ≤ n) {s : List Int} (hs : Vv m.a_.l_ s) (hsh : UU m.a_.l_.length s) :
  W (B7 m s) fun r => VC m.a_ r.2.2.2.2.2 r.2.2.2.2.1 r.2.2.1 r.2.2.2.1 ∧ (∃ z, r.2.2.2.2.2 = m.Bs ++ z) ∧ r.2.2.2.2.2.length ≤ n ∧ (r.2.1 = true → M4 r.2.2.2.2.2 s r.1) ∧ (r.2.1 = false → n < 2 ^ m.a_.l_.length) := by
 unfold B7
 rw [show ((s.length : Int) == 0) = decide (s.length = 0) from SS s.length 0]
 refine W.Di (fun h0 => W.ret ⟨T, ⟨[], by simp⟩, hl, fun _ => .inl ⟨List.eq_nil_of_length_eq_zero h0, rfl⟩, fun e => by cases e⟩) fun h0 => ?_
 have hne0 : s ≠ [] := fun e => h0 (by rw [e]; rfl)
 rw [Ue (Vg h hs) hs.n, Option.bind_some]
 cases hf : Dm m.EA (QX s) with
 | some v =>
  obtain ⟨k, s', hk, rfl, e⟩ := T.key _ _ hf
  have : s = s' := SO (Vg h hs) (Vg h (T.set k s' hk).1) e
  subst this
  exact W.ret ⟨T, ⟨[], by simp⟩, hl, fun _ => .inr ⟨k, rfl, hk⟩, fun e => by cases e⟩
 | none =>
  rw [Option.isSome_none, C3, hm, SS]
  have hnot : s ∉ m.Bs := fun hm => by
   obtain ⟨k, hk⟩ := List.getElem?_of_mem hm
   have := (T.set k s hk).2
   rw [hf] at this
   cases this
  refine W.Di (fun hfull => W.ret ⟨T, ⟨[], by simp⟩, hl, fun e => (by cases e), fun _ => ?_⟩) fun hne => ?_
  ·have := Ul (N := m.a_.l_.length) (todo := s :: m.Bs) (List.nodup_cons.2 ⟨hnot, T.nodup⟩) fun x hx => by
    rcases List.mem_cons.1 hx with rfl | hx
    ·exact ⟨hne0, hsh⟩
    ·exact T.sh x hx
   simp only [List.length_cons] at this
   omega
  have el : m.d_.BX.length = m.Bs.length := by rw [T.ends, List.length_map]
  have ll : m.d_.BV.length = m.Bs.length := by rw [T.last, List.length_map]
  refine W.Cm (Em (by simp; omega) (by simp; omega)) ?_
  rw [Ol h hs, Option.bind_some]
  refine W.Cm (Em (by simp; omega) (by simp; omega)) ?_
  rw [Ol h hs, Option.bind_some]
  refine W.Cm (Em (by simp; omega) (by simp; omega)) (W.ret ?_)
  rw [show IntKind.i32.wrap (m.Bs.length : Int) = (m.Bs.length : Int) by rw [IntKind.wrap_i32]; omega]
  have here : (m.Bs ++ [s])[m.Bs.length]? = some s := by rw [List.getElem?_append_right (Nat.le_refl _), Nat.sub_self]; rfl
  refine ⟨⟨fun k s' hk => ?_, fun x v hx => ?_, ?_, ?_, fun x hx => ?_⟩, ⟨[s], rfl⟩, by simp; omega, fun _ => .inr ⟨_, rfl, here⟩, fun e => by cases e⟩
  ·rw [NM]
   by_cases hk2 : k < m.Bs.length
   ·have hk3 : m.Bs[k]? = some s' := by
     have := hk
     rwa [List.getElem?_append_left hk2] at this
    obtain ⟨a1, a2⟩ := T.set k s' hk3
    refine ⟨a1, ?_⟩
    rw [if_neg (fun e => by rw [e, hf] at a2; cases a2)]
    exact a2
   ·have hk4 := (List.getElem?_eq_some_iff.1 hk).1
    simp only [List.length_append, List.length_singleton] at hk4
    obtain rfl : k = m.Bs.length := by omega
    have hk5 : (m.Bs ++ [s])[m.Bs.length]? = some s' := hk
    rw [here] at hk5
    cases hk5
    exact ⟨hs, by rw [if_pos rfl]⟩
  ·have hx2 : Dm (CO m.EA (QX s) (m.Bs.length : Int)) x = some v := hx
   rw [NM] at hx2
   by_cases e : x = QX s
   ·rw [if_pos e] at hx2
    cases hx2
    exact ⟨_, s, here, rfl, e⟩
   ·rw [if_neg e] at hx2
    obtain ⟨k, s', hk, a1, a2⟩ := T.key _ _ hx2
    exact ⟨k, s', by show (m.Bs ++ [s])[k]? = _; rw [List.getElem?_append_left (List.getElem?_eq_some_iff.1 hk).1]; exact hk, a1, a2⟩
  ·show m.d_.BX ++ [_] = (m.Bs ++ [s]).map _
   rw [List.map_append, ← T.ends]; rfl
  ·show m.d_.BV ++ [_] = (m.Bs ++ [s]).map _
   rw [List.map_append, ← T.last]; rfl
  ·have hx : x ∈ m.Bs ++ [s] := hx
   rcases List.mem_append.1 hx with hx | hx
   ·exact T.sh x hx
   ·obtain rfl := List.mem_singleton.1 hx
    exact ⟨hne0, hsh⟩
end Go.Av.L
