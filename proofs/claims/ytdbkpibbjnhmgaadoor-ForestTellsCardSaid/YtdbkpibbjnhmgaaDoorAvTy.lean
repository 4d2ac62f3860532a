/-
 A part.
-/
import Derived.Test.YtdbkpibbjnhmgaaDoorAvHH
namespace Go.Av
set_option linter.unusedVariables false
structure J0 {α : Type} (e : α → List AA) (z : Nat) : Prop where
 len : ∀ x, (e x).length = z
 one : ∀ x, (e x).all AA.one = true
 can : ∀ x, (e x).map Dl = e x
abbrev AL {α : Type} (e : α → List AA) (xs : List α) : List AA := xs.flatMap e
abbrev vs {α : Type} (e : α → List AA) (xs : List α) : AA := .Ev xs.length (AL e xs)
def eI (k : IntKind) (x : Int) : List AA := [.int k x]
def eS (x : List UInt8) : List AA := [.str x]
def eL {α : Type} (e : α → List AA) (xs : List α) : List AA := [vs e xs]
theorem encS : J0 eS 1 := ⟨fun _ => rfl, fun _ => rfl, fun _ => rfl⟩
section
variable {α : Type} {e : α → List AA} {z : Nat}
theorem J0.Kv (E : J0 e z) : ∀ xs : List α, (AL e xs).length = xs.length * z
 | [] => by simp
 | x :: xs => by simp only [AL, List.flatMap_cons, List.length_append, E.len, List.length_cons]; rw [show (List.flatMap e xs).length = xs.length * z from E.Kv xs, Nat.add_mul]; omega
theorem J0.VU (E : J0 e z) (xs : List α) : (AL e xs).all AA.one = true := by
 rw [List.all_eq_true]
 intro v hv
 obtain ⟨x, _, hx⟩ := List.mem_flatMap.1 hv
 exact List.all_eq_true.1 (E.one x) v hx
theorem J0.B3 (E : J0 e z) : ∀ xs : List α, (AL e xs).map Dl = AL e xs
 | [] => rfl
 | x :: xs => by simp only [AL, List.flatMap_cons, List.map_append, E.can]; rw [show (List.flatMap e xs).map Dl = _ from E.B3 xs]
theorem J0.take (E : J0 e z) : ∀ (xs : List α) (n : Nat), (AL e xs).take (n * z) = AL e (xs.take n)
 | [], n => by simp
 | x :: xs, 0 => by simp
 | x :: xs, n + 1 => by
  simp only [AL, List.flatMap_cons, List.take_succ_cons]
  rw [Nat.add_mul, Nat.one_mul, Nat.add_comm, ← E.len x, List.take_length_add_append, E.len x]
  congr 1
  exact E.take xs n
theorem J0.drop (E : J0 e z) : ∀ (xs : List α) (n : Nat), (AL e xs).drop (n * z) = AL e (xs.drop n)
 | [], n => by simp
 | x :: xs, 0 => by simp
 | x :: xs, n + 1 => by
  simp only [AL, List.flatMap_cons, List.drop_succ_cons]
  rw [Nat.add_mul, Nat.one_mul, Nat.add_comm, ← E.len x, List.drop_length_add_append, E.len x]
  exact E.drop xs n
theorem J0.at_ (E : J0 e z) {xs : List α} {i : Nat} {x : α} (h : xs[i]? = some x) : ((AL e xs).drop (i * z)).take z = e x := by
 obtain ⟨hi, hx⟩ := List.getElem?_eq_some_iff.1 h
 rw [E.drop, List.drop_eq_getElem_cons hi, hx]
 simp only [AL, List.flatMap_cons]
 rw [← E.len x, List.take_left]
end
def Fv {α : Type} (xs : List α) (i : Int) : Option α := if 0 ≤ i then xs[i.toNat]? else none
def Jg {α : Type} (xs : List α) (lo hi : Option Int) : Option (List α) := (NZ xs.length lo hi).map fun p => (xs.drop p.1).take (p.2 - p.1)
section
variable (P : Program) (fr : Fr)
def Uc : Op → Option (Nat × List AA × Nat × Int)
 | .indexAddr t x i =>
  match P.underlying t, ev fr x, ev fr i with
  | some (.slice e), .Ev n cs, .int _ i => (Bf P e).map fun z => (n, cs, z, i)
  | _, _, _ => none
 | _ => none
def WY : Op → Option AA
 | .load t a =>
  match ev fr a with
  | .DF cs => Ek P (some (.cells none 1 cs)) t 0
  | _ => none
 | _ => none
def SL : Op → Option (Nat × List AA × Nat × Option AA × Option AA)
 | .slice t x lo hi none =>
  match P.underlying t, ev fr x with
  | some (.slice e), .Ev n cs => (Bf P e).map fun z => (n, cs, z, lo.map (ev fr), hi.map (ev fr))
  | _, _ => none
 | _ => none
def NS : Op → Option (Nat × List AA)
 | .call { callee := .value x, args := as, .. } =>
  match ev fr x with
  | .Fw l => some (l, as.toList.map (ev fr))
  | _ => none
 | _ => none
end
section
variable {C : EP} {S : Self} {g : Gd} {h h1 : AB} {fr : Fr} {op : Op} {α : Type} {e : α → List AA} {z : Nat}
theorem Hi {xs : List α} {i : Int} {x : α} (E : J0 e z) (hz : z ≠ 0) (hs : Uc C.P fr op = some (xs.length, AL e xs, z, i)) (hl : Fv xs i = some x) : Aw C S g h fr op = some (.DF (e x), h) := by
 unfold Uc at hs
 split at hs
 ·rename_i t y j
  split at hs
  ·rename_i el n cs k i' hu hv hi
   simp only [Option.map_eq_some_iff, Prod.mk.injEq] at hs
   obtain ⟨z', hz', rfl, rfl, rfl, rfl⟩ := hs
   unfold Fv at hl
   split at hl
   ·rename_i h0
    have hlt := (List.getElem?_eq_some_iff.1 hl).1
    rw [EZ (by simp [AZ])]
    simp only [GA, AZ, GR, hv, hi, Fq, hu]
    rw [if_pos ⟨h0, by omega⟩, hz', Option.bind_some, if_pos ⟨E.Kv xs, hz⟩, E.at_ hl]
    rfl
   ·cases hl
  ·cases hs
 ·cases hs
theorem Lg {v : AA} (hs : WY C.P fr op = some v) : Aw C S g h fr op = some (v, h) := by
 unfold WY at hs
 split at hs
 ·split at hs
  ·rename_i cs hv
   rw [EZ (by simp [AZ])]
   simp only [GA, AZ, CJ, hv, DD, HB, hs, Option.map_some]
  ·cases hs
 ·cases hs
theorem Vi {xs ys : List α} {k k' : IntKind} {lo hi : Option Int} (E : J0 e z) (hs : SL C.P fr op = some (xs.length, AL e xs, z, lo.map (.int k ·), hi.map (.int k' ·))) (hl : Jg xs lo hi = some ys) : Aw C S g h fr op = some (vs e ys, h) := by
 unfold SL at hs
 split at hs
 ·rename_i t y lo0 hi0
  split at hs
  ·rename_i el n cs hu hv
   simp only [Option.map_eq_some_iff, Prod.mk.injEq] at hs
   obtain ⟨z', hz', rfl, rfl, rfl, e1, e2⟩ := hs
   unfold Jg at hl
   simp only [Option.map_eq_some_iff] at hl
   obtain ⟨⟨l, u⟩, hb, rfl⟩ := hl
   have hb' : NZ xs.length lo hi = some (l, u) := hb
   rw [← Ft k k'] at hb
   have hc : AZ C.P (.slice t y lo0 hi0 none) = 1 := by simp only [AZ, hu]
   rw [EZ (by rw [hc]; simp)]
   simp only [GA, hc, CJ, hv, DD, HB, G4, hu, hz', Option.bind_some]
   rw [if_pos (E.Kv xs), e1, e2, hb]
   simp only [Option.map_some]
   rw [E.drop, E.take]
   have hle : l ≤ u ∧ u ≤ xs.length := by
    unfold NZ at hb'
    split at hb'
    ·rename_i u'
     split at hb'
     ·rename_i hu'
      split at hb'
      ·rename_i l'
       split at hb'
       ·rename_i hl'; injection hb' with hb'; injection hb' with a1 a2; omega
       ·cases hb'
      ·injection hb' with hb'; injection hb' with a1 a2; omega
     ·cases hb'
    ·split at hb'
     ·rename_i l'
      split at hb'
      ·rename_i hl'; injection hb' with hb'; injection hb' with a1 a2; omega
      ·cases hb'
     ·injection hb' with hb'; injection hb' with a1 a2; omega
   have : (xs.drop l).length = xs.length - l := List.length_drop
   have hlen : ((xs.drop l).take (u - l)).length = u - l := by rw [List.length_take]; omega
   simp only [vs, hlen]
  ·cases hs
 ·cases hs
end
section
variable {g : Gd} {h : AB} {L F : List Ck} {α : Type} {e : α → List AA} {z : Nat}
theorem HH.to {h' : AB} (a : HH g h L F) (e : h' = h) : HH g h' L F := e ▸ a
def QY (bytes n : Nat) : Bool := decide (n ≤ 1099511627776 ∧ n * bytes ≤ 1099511627776)
theorem HH.NF (E : J0 e z) (hz : z ≠ 0) (a : HH g h L F) (k : Nat) {r : Option Nat} {t : TypeId} {xs ys : List α} {new : List AA} {bytes m : Nat} {x : AA} (hk : L[k]? = some (.AL r t (AL e xs))) (hx : Cp h z m x = some new) (hc : new.map Dl = AL e ys) (hm : m = ys.length) (hb : QY bytes (xs.length + m) = true) :
  ∃ r' h', Av.app t z bytes g h (DC r xs.length) m x = some (DC r' (xs ++ ys).length, h') ∧ HH g h' (L.set k (.AL r' t (AL e (xs ++ ys)))) F := by
 subst hm
 obtain ⟨r', h', h1, h2⟩ := a.app k hk (E.Kv xs) hz hx hc (E.Kv ys) (of_decide_eq_true hb) (E.VU xs) (E.VU ys)
 refine ⟨r', h', by rw [h1, List.length_append], ?_⟩
 have : AL e (xs ++ ys) = AL e xs ++ AL e ys := by simp [AL]
 rw [this]; exact h2
theorem HH.MV (E : J0 e z) (hz : z ≠ 0) (a : HH g h L F) (k : Nat) {r : Option Nat} {t : TypeId} {xs : List α} (hk : L[k]? = some (.AL r t (AL e xs))) {i : Int} {x : α} (hi : Fv xs i = some x) :
  ∃ id, r = some id ∧ h.get id = some (.cells (some t) 2 (AL e xs)) ∧ W3 (DC r xs.length) z i = some (id, i.toNat * z) ∧ xs[i.toNat]? = some x := by
 unfold Fv at hi
 split at hi
 ·rename_i h0
  have hlt := (List.getElem?_eq_some_iff.1 hi).1
  cases r with
  | none =>
   have hn : AL e xs = [] := a.mem hk
   exfalso
   have h1 := E.Kv xs
   rw [hn] at h1
   have h2 : xs.length * z = 0 := by simpa using h1.symm
   rcases Nat.mul_eq_zero.1 h2 with h | h
   ·omega
   ·exact hz h
  | some id =>
   refine ⟨id, rfl, a.mem hk, ?_, hi⟩
   simp only [DC, Option.map_some, W3]
   rw [W9, if_pos ⟨h0, by omega⟩]
   simp
 ·cases hi
theorem HH.row (a : HH g h L F) (k : Nat) {r : Option Nat} {t : TypeId} {cs : List AA} (hk : L[k]? = some (.AL r t cs)) {id : Nat} (er : r = some id) : h.get id = some (.cells (some t) 2 cs) := by
 subst er; exact a.mem hk
theorem K8 (E : J0 e z) {id : Nat} {gr : Option TypeId} {xs : List α} (hg : h.get id = some (.cells gr 2 (AL e xs))) {i : Nat} {x : α} (hx : xs[i]? = some x) (o n : Nat) (hon : o + n ≤ z) : UJ h (id, i * z + o) n = some (((e x).drop o).take n) := by
 have hi := (List.getElem?_eq_some_iff.1 hx).1
 have hle : (i + 1) * z ≤ xs.length * z := Nat.mul_le_mul_right _ (by omega)
 rw [Nat.add_mul, Nat.one_mul] at hle
 unfold Av.UJ CB
 simp only [hg]
 rw [if_pos ⟨by simp, by rw [E.Kv xs]; omega⟩, ← E.at_ hx, ← List.drop_drop]
 congr 1
 generalize (AL e xs).drop (i * z) = l
 rw [List.drop_take, List.take_take, Nat.min_eq_left (by omega)]
theorem DU (E : J0 e z) {id : Nat} {gr : Option TypeId} {xs : List α} (hg : h.get id = some (.cells gr 2 (AL e xs))) {i : Nat} {x : α} (hx : xs[i]? = some x) {o : Nat} {v : AA} (hv : (e x)[o]? = some v) : PK h (id, i * z + o) = some v := by
 have ho := (List.getElem?_eq_some_iff.1 hv).1
 have h1 := K8 E hg hx o 1 (by rw [E.len] at ho; omega)
 unfold Av.UJ at h1
 unfold Av.PK
 rw [h1, List.drop_eq_getElem_cons ho, (List.getElem?_eq_some_iff.1 hv).2]
 rfl
theorem P1 {A m B new : List AA} {o : Nat} (h : o + new.length ≤ m.length) : C1 (A ++ (m ++ B)) (A.length + o) new = A ++ (C1 m o new ++ B) := by
 unfold C1
 have e1 : (A ++ (m ++ B)).take (A.length + o) = A ++ m.take o := by
  rw [List.take_length_add_append, List.take_append_of_le_length (by omega)]
 have e2 : (A ++ (m ++ B)).drop (A.length + o + new.length) = m.drop (o + new.length) ++ B := by
  rw [Nat.add_assoc, List.drop_length_add_append, List.drop_append_of_le_length (by omega)]
 rw [e1, e2]
 simp [List.append_assoc]
theorem HH.Xy (E : J0 e z) (a : HH g h L F) (k : Nat) {r : Option Nat} {t : TypeId} {xs : List α} (hk : L[k]? = some (.AL r t (AL e xs))) {id : Nat} (er : r = some id) {i : Nat} {x y : α} (hx : xs[i]? = some x) {o : Nat} {new : List AA} (hs : C1 (e x) o (new.map Dl) = e y) (h1 : new.all AA.one = true) (hl : o + new.length ≤ z := by decide) :
  ∃ h', Av.st g h (id, i * z + o) new = some h' ∧ HH g h' (L.set k (.AL r t (AL e (xs.set i y)))) F := by
 have hg := a.row k hk er
 have hi := (List.getElem?_eq_some_iff.1 hx).1
 have hid := h.An hg
 have hle : (i + 1) * z ≤ xs.length * z := Nat.mul_le_mul_right _ (by omega)
 rw [Nat.add_mul, Nat.one_mul] at hle
 have hm : g.may id = true := a.Ns hk (by rw [er]; simp [Ck.ids])
 refine ⟨h.set id (.cells (some t) 2 (AL e (xs.set i y))), ?_, ?_⟩
 ·unfold Av.st Bq
  simp only [hg]
  rw [if_pos ⟨hm, by rw [E.Kv xs]; omega, h1⟩]
  congr 2
  have hsplit : AL e xs = AL e (xs.take i) ++ (e x ++ AL e (xs.drop (i + 1))) := by
   conv => lhs; rw [← List.take_append_drop i xs, List.drop_eq_getElem_cons hi, (List.getElem?_eq_some_iff.1 hx).2]
   simp [AL]
  have hlen : (AL e (xs.take i)).length = i * z := by rw [E.Kv, List.length_take, Nat.min_eq_left (by omega)]
  have hset : AL e (xs.set i y) = AL e (xs.take i) ++ (e y ++ AL e (xs.drop (i + 1))) := by
   rw [List.set_eq_take_append_cons_drop, if_pos hi]
   simp [AL]
  show A9.cells (some t) 2 (C1 _ _ (new.map Dl)) = _
  rw [hsplit, hset, ← hlen, P1 (by rw [E.len, List.length_map]; exact hl), hs]
 ·subst er
  refine a.Rp hk (by simp) (fun j _ hj => h.Ar _ hid (by simpa [Ck.ids] using hj)) (h.get_set_same _ hid) (fun j hj => .inl hj) (fun j hj => a.Ns hk hj)
theorem Sa {h1 : AB} {a : Nat × Nat} {cs : List AA} {n : Nat} (hs : st g h a cs = some h1) (hl : cs.length = n) : W5 n g h a cs = some h1 := by unfold W5; rw [if_pos hl]; exact hs
end
section
variable {g : Gd} {h h' : AB} {L F : List Ck}
theorem HH.UY (a : HH g h L F) (n : Nat) : HH g h (L.take n) F := by
 have hs : (AX (L.take n ++ F)).Sublist (AX (L ++ F)) := by
  rw [AY, AY]
  refine List.Sublist.append ?_ (List.Sublist.refl _)
  conv => rhs; rw [← List.take_append_drop n L, AY]
  exact List.sublist_append_left _ _
 exact ⟨fun c hc => a.ok c (by rcases List.mem_append.1 hc with h | h; exact List.mem_append.2 (.inl (List.mem_of_mem_take h)); exact List.mem_append.2 (.inr h)), a.nd.sublist hs,
  fun i hi => a.may i (by rw [← List.take_append_drop n L, AY]; exact List.mem_append.2 (.inl hi)), a.Bg, a.floor⟩
inductive P7 (R : List Ck) : List Nat → Prop where
 | nil : P7 R []
 | cons {p : Nat} {ps : List Nat} {c : Ck} (k : Nat) : R[k]? = some c → p ∈ c.ids → P7 R ps → P7 R (p :: ps)
theorem P7.mem {R : List Ck} {ps : List Nat} (h : P7 R ps) : ∀ p ∈ ps, p ∈ AX R := by
 induction h with
 | nil => intro p hp; cases hp
 | cons k hk hm _ ih =>
  intro p hp
  rcases List.mem_cons.1 hp with rfl | hp
  ·simp only [AX, List.mem_flatMap]; exact ⟨_, List.mem_of_getElem? hk, hm⟩
  ·exact ih p hp
theorem HH.SA (a : HH g h L F) (n : Nat) {pr : List Nat} (hp : P7 (L.drop n) pr) : HH ⟨g.floor, pr ++ g.Bg⟩ h (L.take n) (L.drop n ++ F) := by
 refine (a.cut n).WA (fun i hi hn => ?_) (fun i hi => ?_)
 ·have h1 := hp.mem i hn
  have h2 := a.nd
  rw [← List.take_append_drop n L, AY, AY, List.append_assoc, List.nodup_append] at h2
  exact h2.2.2 i hi i (List.mem_append.2 (.inl h1)) rfl
 ·refine a.lt (i := i) ?_
  rw [← List.take_append_drop n L, AY, AY]
  exact List.mem_append.2 (.inl (List.mem_append.2 (.inr (hp.mem i hi))))
theorem HH.SD {pr : List Nat} {n : Nat} {L' : List Ck} (a : HH g h L F) (b : HH ⟨g.floor, pr ++ g.Bg⟩ h' L' (L.drop n ++ F)) : HH g h' (L' ++ L.drop n) F :=
 a.glue b (fun i hm => by
  simp only [Gd.may, Bool.and_eq_true, Bool.not_eq_true', List.any_append, Bool.or_eq_false_iff] at hm ⊢
  exact ⟨hm.1, hm.2.2⟩) (fun i hi => List.mem_append.2 (.inr hi)) rfl
end
section
variable {C : EP} {g : Gd} {h : AB} {f : FuncId}
theorem OA {args : List AA} {n : Nat} {rs : List ResultVar} {R : AA → AB → Prop} (hf : Gl C.P f = some (n, rs))
  (hh : AW C f g (Kk C.P f) (args ++ List.replicate (n - args.length) (.tuple [])) h (fun e fr h' => (e = .ret ∨ e = .normal) ∧ ∃ v, Kq C.P rs fr h' = some v ∧ R v h')) : ∃ v h', LQ C g h f args v h' ∧ R v h' := by
 obtain ⟨m, e, fr', h2, hx, ⟨hq, v, hv, hR⟩⟩ := hh.ex
 exact ⟨v, h2, T0 hf ⟨⟨m, e, fr', h2, hx, ⟨hq, hv, rfl⟩⟩⟩, hR⟩
theorem Vn {args args' : List AA} {n : Nat} {rs : List ResultVar} {R : AA → AB → Prop} (hk : C.kind f = 1) (hc : B3 (C.still f) args = args') (hf : Gl C.P f = some (n, rs))
  (hh : AW C f g (Kk C.P f) (args' ++ List.replicate (n - args'.length) (.tuple [])) h (fun e fr h' => (e = .ret ∨ e = .normal) ∧ ∃ v, Kq C.P rs fr h' = some v ∧ R v h')) : ∃ v h', CC C g h f args v h' ∧ R v h' := by
 obtain ⟨v, h', hb, hR⟩ := OA hf hh
 exact ⟨v, h', Wy hk hc hb, hR⟩
theorem Ve {args args' : List AA} {n : Nat} {rs : List ResultVar} {R : AA → AB → Prop} (hk : C.kind f = 7) (hc : B3 (C.still f) args = args') (hf : Gl C.P f = some (n, rs))
  (hh : AW C f g (Kk C.P f) (args' ++ List.replicate (n - args'.length) (.tuple [])) h (fun e fr h' => (e = .ret ∨ e = .normal) ∧ ∃ v, Kq C.P rs fr h' = some v ∧ ∃ v' h'', Kr g h' v = some (v', h'') ∧ R v' h'')) : ∃ v h', CC C g h f args v h' ∧ R v h' := by
 obtain ⟨v, h', hb, v', h'', hz, hR⟩ := OA hf hh
 exact ⟨v', h'', Wf hk hc hb hz, hR⟩
theorem Xm {P : Program} {fr : Fr} {N : Nat} {l : List (Nat × AA)} {rs : List ResultVar} {v : AA} (H : Has fr N l) (hr : ∀ fr, Kq P rs (Bx N l fr) h = some v) : Kq P rs fr h = some v := by
 have := hr fr
 rwa [Cf H] at this
theorem XN {fr : Fr} {N : Nat} {l : List (Nat × AA)} {t : Nat} {v : AA} (H : Has fr N l) (hr : ∀ fr, nth (Bx N l fr) t = v) : nth fr t = v := by
 have := hr fr
 rwa [Cf H] at this
end
section
variable {g : Gd} {h : AB}
theorem Xe (vs : List AA) : Kr g h (.tuple vs) = (JC (Ju g) vs h).map fun r => (.tuple r.1, r.2) := rfl
theorem XW (cs : List AA) : Kr g h (.agg cs) = (JC (Fm g) cs h).map fun r => (.agg r.1, r.2) := rfl
theorem XM (r : Option Nat) (n : Nat) : Kr g h (AJ r n) = Fm g h (AJ r n) := rfl
theorem XR (n : Nat) (cs : List AA) : Kr g h (.Ev n cs) = some (.Ev n cs, h) := rfl
theorem XV (cs : List AA) : Ju g h (.agg cs) = (JC (Fm g) cs h).map fun r => (.agg r.1, r.2) := rfl
theorem XJ (r : Option Nat) (n : Nat) : Ju g h (AJ r n) = Fm g h (AJ r n) := rfl
theorem Xh (n : Nat) (cs : List AA) : Ju g h (.Ev n cs) = some (.Ev n cs, h) := rfl
theorem Xg (k : IntKind) (n : Int) : Ju g h (.int k n) = some (.int k n, h) := rfl
theorem XZ (b : Bool) : Ju g h (.bool b) = some (.bool b, h) := rfl
theorem XB (s : List UInt8) : Ju g h (.str s) = some (.str s, h) := rfl
theorem XP : Ju g h (.slice none 0) = some (.Ev 0 [], h) := rfl
theorem XA (f : AB → AA → Option (AA × AB)) : JC f [] h = some ([], h) := rfl
theorem XQ (f : AB → AA → Option (AA × AB)) (v : AA) (vs : List AA) : JC f (v :: vs) h = (match f h v with | some (v', h1) => (JC f vs h1).map fun r => (v' :: r.1, r.2) | none => none) := rfl
theorem XL (k : IntKind) (n : Int) : Fm g h (.int k n) = some (.int k n, h) := rfl
theorem Xk (b : Bool) : Fm g h (.bool b) = some (.bool b, h) := rfl
theorem XO (s : List UInt8) : Fm g h (.str s) = some (.str s, h) := rfl
theorem Xc (n : Nat) (cs : List AA) : Fm g h (.Ev n cs) = some (.Ev n cs, h) := rfl
theorem Xi : Fm g h (.slice none 0) = some (.Ev 0 [], h) := rfl
end
def Uk : List (Nat × List Bool) → Nat → List Bool
 | [], _ => []
 | (a, b) :: l, f => bif Nat.beq a f then b else Uk l f
end Go.Av
