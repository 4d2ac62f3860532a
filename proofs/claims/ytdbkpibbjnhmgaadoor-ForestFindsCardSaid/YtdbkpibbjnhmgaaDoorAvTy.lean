/-
 A part.
-/
import Derived.Test.YtdbkpibbjnhmgaaDoorAvHH
namespace Go.Av
set_option linter.unusedVariables false
structure Jy {α : Type} (e : α → List AA) (z : Nat) : Prop where
 len : ∀ x, (e x).length = z
 one : ∀ x, (e x).all AA.one = true
 can : ∀ x, (e x).map Dw = e x
abbrev AL {α : Type} (e : α → List AA) (xs : List α) : List AA := xs.flatMap e
abbrev vs {α : Type} (e : α → List AA) (xs : List α) : AA := .E5 xs.length (AL e xs)
def eI (k : IntKind) (x : Int) : List AA := [.int k x]
def eS (x : List UInt8) : List AA := [.str x]
def eL {α : Type} (e : α → List AA) (xs : List α) : List AA := [vs e xs]
theorem encS : Jy eS 1 := ⟨fun _ => rfl, fun _ => rfl, fun _ => rfl⟩
section
variable {α : Type} {e : α → List AA} {z : Nat}
theorem Jy.Km (E : Jy e z) : ∀ xs : List α, (AL e xs).length = xs.length * z
 | [] => by simp
 | x :: xs => by simp only [AL, List.flatMap_cons, List.length_append, E.len, List.length_cons]; rw [show (List.flatMap e xs).length = xs.length * z from E.Km xs, Nat.add_mul]; omega
theorem Jy.U3 (E : Jy e z) (xs : List α) : (AL e xs).all AA.one = true := by
 rw [List.all_eq_true]
 intro v hv
 obtain ⟨x, _, hx⟩ := List.mem_flatMap.1 hv
 exact List.all_eq_true.1 (E.one x) v hx
theorem Jy.Bp (E : Jy e z) : ∀ xs : List α, (AL e xs).map Dw = AL e xs
 | [] => rfl
 | x :: xs => by simp only [AL, List.flatMap_cons, List.map_append, E.can]; rw [show (List.flatMap e xs).map Dw = _ from E.Bp xs]
theorem Jy.take (E : Jy e z) : ∀ (xs : List α) (n : Nat), (AL e xs).take (n * z) = AL e (xs.take n)
 | [], n => by simp
 | x :: xs, 0 => by simp
 | x :: xs, n + 1 => by
  simp only [AL, List.flatMap_cons, List.take_succ_cons]
  rw [Nat.add_mul, Nat.one_mul, Nat.add_comm, ← E.len x, List.take_length_add_append, E.len x]
  congr 1
  exact E.take xs n
theorem Jy.drop (E : Jy e z) : ∀ (xs : List α) (n : Nat), (AL e xs).drop (n * z) = AL e (xs.drop n)
 | [], n => by simp
 | x :: xs, 0 => by simp
 | x :: xs, n + 1 => by
  simp only [AL, List.flatMap_cons, List.drop_succ_cons]
  rw [Nat.add_mul, Nat.one_mul, Nat.add_comm, ← E.len x, List.drop_length_add_append, E.len x]
  exact E.drop xs n
theorem Jy.at_ (E : Jy e z) {xs : List α} {i : Nat} {x : α} (h : xs[i]? = some x) : ((AL e xs).drop (i * z)).take z = e x := by
 obtain ⟨hi, hx⟩ := List.getElem?_eq_some_iff.1 h
 rw [E.drop, List.drop_eq_getElem_cons hi, hx]
 simp only [AL, List.flatMap_cons]
 rw [← E.len x, List.take_left]
end
def Em {α : Type} (xs : List α) (i : Int) : Option α := if 0 ≤ i then xs[i.toNat]? else none
def JW {α : Type} (xs : List α) (lo hi : Option Int) : Option (List α) := (Nn xs.length lo hi).map fun p => (xs.drop p.1).take (p.2 - p.1)
section
variable (P : Program) (fr : Fr)
def T8 : Op → Option (Nat × List AA × Nat × Int)
 | .indexAddr t x i =>
  match P.underlying t, ev fr x, ev fr i with
  | some (.slice e), .E5 n cs, .int _ i => (Bk P e).map fun z => (n, cs, z, i)
  | _, _, _ => none
 | _ => none
def Vm : Op → Option AA
 | .load t a =>
  match ev fr a with
  | .C3 cs => GC P (some (.cells none 1 cs)) t 0
  | _ => none
 | _ => none
def Sf : Op → Option (Nat × List AA × Nat × Option AA × Option AA)
 | .slice t x lo hi none =>
  match P.underlying t, ev fr x with
  | some (.slice e), .E5 n cs => (Bk P e).map fun z => (n, cs, z, lo.map (ev fr), hi.map (ev fr))
  | _, _ => none
 | _ => none
def Mz : Op → Option (Nat × List AA)
 | .call { callee := .value x, args := as, .. } =>
  match ev fr x with
  | .IZ l => some (l, as.toList.map (ev fr))
  | _ => none
 | _ => none
end
section
variable {C : En} {S : Self} {g : Gd} {h h1 : AB} {fr : Fr} {op : Op} {α : Type} {e : α → List AA} {z : Nat}
theorem GZ {xs : List α} {i : Int} {x : α} (E : Jy e z) (hz : z ≠ 0) (hs : T8 C.P fr op = some (xs.length, AL e xs, z, i)) (hl : Em xs i = some x) : Ap C S g h fr op = some (.C3 (e x), h) := by
 unfold T8 at hs
 split at hs
 ·rename_i t y j
  split at hs
  ·rename_i el n cs k i' hu hv hi
   simp only [Option.map_eq_some_iff, Prod.mk.injEq] at hs
   obtain ⟨z', hz', rfl, rfl, rfl, rfl⟩ := hs
   unfold Em at hl
   split at hl
   ·rename_i h0
    have hlt := (List.getElem?_eq_some_iff.1 hl).1
    rw [Eg (by simp [AZ])]
    simp only [GO, AZ, G6, hv, hi, Fu, hu]
    rw [if_pos ⟨h0, by omega⟩, hz', Option.bind_some, if_pos ⟨E.Km xs, hz⟩, E.at_ hl]
    rfl
   ·cases hl
  ·cases hs
 ·cases hs
theorem Jt {v : AA} (hs : Vm C.P fr op = some v) : Ap C S g h fr op = some (v, h) := by
 unfold Vm at hs
 split at hs
 ·split at hs
  ·rename_i cs hv
   rw [Eg (by simp [AZ])]
   simp only [GO, AZ, CT, hv, DM, Hj, hs, Option.map_some]
  ·cases hs
 ·cases hs
theorem Uf {xs ys : List α} {k k' : IntKind} {lo hi : Option Int} (E : Jy e z) (hs : Sf C.P fr op = some (xs.length, AL e xs, z, lo.map (.int k ·), hi.map (.int k' ·))) (hl : JW xs lo hi = some ys) : Ap C S g h fr op = some (vs e ys, h) := by
 unfold Sf at hs
 split at hs
 ·rename_i t y lo0 hi0
  split at hs
  ·rename_i el n cs hu hv
   simp only [Option.map_eq_some_iff, Prod.mk.injEq] at hs
   obtain ⟨z', hz', rfl, rfl, rfl, e1, e2⟩ := hs
   unfold JW at hl
   simp only [Option.map_eq_some_iff] at hl
   obtain ⟨⟨l, u⟩, hb, rfl⟩ := hl
   have hb' : Nn xs.length lo hi = some (l, u) := hb
   rw [← Fv k k'] at hb
   have hc : AZ C.P (.slice t y lo0 hi0 none) = 1 := by simp only [AZ, hu]
   rw [Eg (by rw [hc]; simp)]
   simp only [GO, hc, CT, hv, DM, Hj, G9, hu, hz', Option.bind_some]
   rw [if_pos (E.Km xs), e1, e2, hb]
   simp only [Option.map_some]
   rw [E.drop, E.take]
   have hle : l ≤ u ∧ u ≤ xs.length := by
    unfold Nn at hb'
    split at hb'
    ·rename_i u'
     split at hb'
     ·rename_i hu'
      split at hb'
      ·rename_i l'
       split at hb'
       ·rename_i hl'; injection hb' with hb'; injection hb' with a1 a2; omega
       ·cases hb'
      ·injection hb' with hb'; injection hb' with a1 a2; omega
     ·cases hb'
    ·split at hb'
     ·rename_i l'
      split at hb'
      ·rename_i hl'; injection hb' with hb'; injection hb' with a1 a2; omega
      ·cases hb'
     ·injection hb' with hb'; injection hb' with a1 a2; omega
   have : (xs.drop l).length = xs.length - l := List.length_drop
   have hlen : ((xs.drop l).take (u - l)).length = u - l := by rw [List.length_take]; omega
   simp only [vs, hlen]
  ·cases hs
 ·cases hs
end
section
variable {g : Gd} {h : AB} {L F : List Ck} {α : Type} {e : α → List AA} {z : Nat}
theorem HH.to {h' : AB} (a : HH g h L F) (e : h' = h) : HH g h' L F := e ▸ a
def QX (bytes n : Nat) : Bool := decide (n ≤ 1099511627776 ∧ n * bytes ≤ 1099511627776)
theorem HH.NR (E : Jy e z) (hz : z ≠ 0) (a : HH g h L F) (k : Nat) {r : Option Nat} {t : TypeId} {xs ys : List α} {new : List AA} {bytes m : Nat} {x : AA} (hk : L[k]? = some (.AL r t (AL e xs))) (hx : Cx h z m x = some new) (hc : new.map Dw = AL e ys) (hm : m = ys.length) (hb : QX bytes (xs.length + m) = true) :
  ∃ r' h', Av.app t z bytes g h (Cq r xs.length) m x = some (Cq r' (xs ++ ys).length, h') ∧ HH g h' (L.set k (.AL r' t (AL e (xs ++ ys)))) F := by
 subst hm
 obtain ⟨r', h', h1, h2⟩ := a.app k hk (E.Km xs) hz hx hc (E.Km ys) (of_decide_eq_true hb) (E.U3 xs) (E.U3 ys)
 refine ⟨r', h', by rw [h1, List.length_append], ?_⟩
 have : AL e (xs ++ ys) = AL e xs ++ AL e ys := by simp [AL]
 rw [this]; exact h2
theorem HH.Kr (E : Jy e z) (hz : z ≠ 0) (a : HH g h L F) (k : Nat) {r : Option Nat} {t : TypeId} {xs : List α} (hk : L[k]? = some (.AL r t (AL e xs))) {i : Int} {x : α} (hi : Em xs i = some x) :
  ∃ id, r = some id ∧ h.get id = some (.cells (some t) 2 (AL e xs)) ∧ WB (Cq r xs.length) z i = some (id, i.toNat * z) ∧ xs[i.toNat]? = some x := by
 unfold Em at hi
 split at hi
 ·rename_i h0
  have hlt := (List.getElem?_eq_some_iff.1 hi).1
  cases r with
  | none =>
   have hn : AL e xs = [] := a.mem hk
   exfalso
   have h1 := E.Km xs
   rw [hn] at h1
   have h2 : xs.length * z = 0 := by simpa using h1.symm
   rcases Nat.mul_eq_zero.1 h2 with h | h
   ·omega
   ·exact hz h
  | some id =>
   refine ⟨id, rfl, a.mem hk, ?_, hi⟩
   simp only [Cq, Option.map_some, WB]
   rw [WU, if_pos ⟨h0, by omega⟩]
   simp
 ·cases hi
theorem HH.row (a : HH g h L F) (k : Nat) {r : Option Nat} {t : TypeId} {cs : List AA} (hk : L[k]? = some (.AL r t cs)) {id : Nat} (er : r = some id) : h.get id = some (.cells (some t) 2 cs) := by
 subst er; exact a.mem hk
theorem Ky (E : Jy e z) {id : Nat} {gr : Option TypeId} {xs : List α} (hg : h.get id = some (.cells gr 2 (AL e xs))) {i : Nat} {x : α} (hx : xs[i]? = some x) (o n : Nat) (hon : o + n ≤ z) : S5 h (id, i * z + o) n = some (((e x).drop o).take n) := by
 have hi := (List.getElem?_eq_some_iff.1 hx).1
 have hle : (i + 1) * z ≤ xs.length * z := Nat.mul_le_mul_right _ (by omega)
 rw [Nat.add_mul, Nat.one_mul] at hle
 unfold Av.S5 CC
 simp only [hg]
 rw [if_pos ⟨by simp, by rw [E.Km xs]; omega⟩, ← E.at_ hx, ← List.drop_drop]
 congr 1
 generalize (AL e xs).drop (i * z) = l
 rw [List.drop_take, List.take_take, Nat.min_eq_left (by omega)]
theorem Cm (E : Jy e z) {id : Nat} {gr : Option TypeId} {xs : List α} (hg : h.get id = some (.cells gr 2 (AL e xs))) {i : Nat} {x : α} (hx : xs[i]? = some x) {o : Nat} {v : AA} (hv : (e x)[o]? = some v) : P6 h (id, i * z + o) = some v := by
 have ho := (List.getElem?_eq_some_iff.1 hv).1
 have h1 := Ky E hg hx o 1 (by rw [E.len] at ho; omega)
 unfold Av.S5 at h1
 unfold Av.P6
 rw [h1, List.drop_eq_getElem_cons ho, (List.getElem?_eq_some_iff.1 hv).2]
 rfl
theorem Pk {A m B new : List AA} {o : Nat} (h : o + new.length ≤ m.length) : DR (A ++ (m ++ B)) (A.length + o) new = A ++ (DR m o new ++ B) := by
 unfold DR
 have e1 : (A ++ (m ++ B)).take (A.length + o) = A ++ m.take o := by
  rw [List.take_length_add_append, List.take_append_of_le_length (by omega)]
 have e2 : (A ++ (m ++ B)).drop (A.length + o + new.length) = m.drop (o + new.length) ++ B := by
  rw [Nat.add_assoc, List.drop_length_add_append, List.drop_append_of_le_length (by omega)]
 rw [e1, e2]
 simp [List.append_assoc]
theorem HH.Wu (E : Jy e z) (a : HH g h L F) (k : Nat) {r : Option Nat} {t : TypeId} {xs : List α} (hk : L[k]? = some (.AL r t (AL e xs))) {id : Nat} (er : r = some id) {i : Nat} {x y : α} (hx : xs[i]? = some x) {o : Nat} {new : List AA} (hs : DR (e x) o (new.map Dw) = e y) (h1 : new.all AA.one = true) (hl : o + new.length ≤ z := by decide) :
  ∃ h', Av.st g h (id, i * z + o) new = some h' ∧ HH g h' (L.set k (.AL r t (AL e (xs.set i y)))) F := by
 have hg := a.row k hk er
 have hi := (List.getElem?_eq_some_iff.1 hx).1
 have hid := h.An hg
 have hle : (i + 1) * z ≤ xs.length * z := Nat.mul_le_mul_right _ (by omega)
 rw [Nat.add_mul, Nat.one_mul] at hle
 have hm : g.may id = true := a.M9 hk (by rw [er]; simp [Ck.ids])
 refine ⟨h.set id (.cells (some t) 2 (AL e (xs.set i y))), ?_, ?_⟩
 ·unfold Av.st Bv
  simp only [hg]
  rw [if_pos ⟨hm, by rw [E.Km xs]; omega, h1⟩]
  congr 2
  have hsplit : AL e xs = AL e (xs.take i) ++ (e x ++ AL e (xs.drop (i + 1))) := by
   conv => lhs; rw [← List.take_append_drop i xs, List.drop_eq_getElem_cons hi, (List.getElem?_eq_some_iff.1 hx).2]
   simp [AL]
  have hlen : (AL e (xs.take i)).length = i * z := by rw [E.Km, List.length_take, Nat.min_eq_left (by omega)]
  have hset : AL e (xs.set i y) = AL e (xs.take i) ++ (e y ++ AL e (xs.drop (i + 1))) := by
   rw [List.set_eq_take_append_cons_drop, if_pos hi]
   simp [AL]
  show A7.cells (some t) 2 (DR _ _ (new.map Dw)) = _
  rw [hsplit, hset, ← hlen, Pk (by rw [E.len, List.length_map]; exact hl), hs]
 ·subst er
  refine a.Qv hk (by simp) (fun j _ hj => h.As _ hid (by simpa [Ck.ids] using hj)) (h.get_set_same _ hid) (fun j hj => .inl hj) (fun j hj => a.M9 hk hj)
theorem SQ {h1 : AB} {a : Nat × Nat} {cs : List AA} {n : Nat} (hs : st g h a cs = some h1) (hl : cs.length = n) : V6 n g h a cs = some h1 := by unfold V6; rw [if_pos hl]; exact hs
end
section
variable {g : Gd} {h h' : AB} {L F : List Ck}
theorem HH.UY (a : HH g h L F) (n : Nat) : HH g h (L.take n) F := by
 have hs : (AX (L.take n ++ F)).Sublist (AX (L ++ F)) := by
  rw [AY, AY]
  refine List.Sublist.append ?_ (List.Sublist.refl _)
  conv => rhs; rw [← List.take_append_drop n L, AY]
  exact List.sublist_append_left _ _
 exact ⟨fun c hc => a.ok c (by rcases List.mem_append.1 hc with h | h; exact List.mem_append.2 (.inl (List.mem_of_mem_take h)); exact List.mem_append.2 (.inr h)), a.nd.sublist hs,
  fun i hi => a.may i (by rw [← List.take_append_drop n L, AY]; exact List.mem_append.2 (.inl hi)), a.Bs, a.floor⟩
inductive O6 (R : List Ck) : List Nat → Prop where
 | nil : O6 R []
 | cons {p : Nat} {ps : List Nat} {c : Ck} (k : Nat) : R[k]? = some c → p ∈ c.ids → O6 R ps → O6 R (p :: ps)
theorem O6.mem {R : List Ck} {ps : List Nat} (h : O6 R ps) : ∀ p ∈ ps, p ∈ AX R := by
 induction h with
 | nil => intro p hp; cases hp
 | cons k hk hm _ ih =>
  intro p hp
  rcases List.mem_cons.1 hp with rfl | hp
  ·simp only [AX, List.mem_flatMap]; exact ⟨_, List.mem_of_getElem? hk, hm⟩
  ·exact ih p hp
theorem HH.UP (a : HH g h L F) (n : Nat) {pr : List Nat} (hp : O6 (L.drop n) pr) : HH ⟨g.floor, pr ++ g.Bs⟩ h (L.take n) (L.drop n ++ F) := by
 refine (a.cut n).Vw (fun i hi hn => ?_) (fun i hi => ?_)
 ·have h1 := hp.mem i hn
  have h2 := a.nd
  rw [← List.take_append_drop n L, AY, AY, List.append_assoc, List.nodup_append] at h2
  exact h2.2.2 i hi i (List.mem_append.2 (.inl h1)) rfl
 ·refine a.lt (i := i) ?_
  rw [← List.take_append_drop n L, AY, AY]
  exact List.mem_append.2 (.inl (List.mem_append.2 (.inr (hp.mem i hi))))
theorem HH.UD {pr : List Nat} {n : Nat} {L' : List Ck} (a : HH g h L F) (b : HH ⟨g.floor, pr ++ g.Bs⟩ h' L' (L.drop n ++ F)) : HH g h' (L' ++ L.drop n) F :=
 a.glue b (fun i hm => by
  simp only [Gd.may, Bool.and_eq_true, Bool.not_eq_true', List.any_append, Bool.or_eq_false_iff] at hm ⊢
  exact ⟨hm.1, hm.2.2⟩) (fun i hi => List.mem_append.2 (.inr hi)) rfl
end
section
variable {C : En} {g : Gd} {h : AB} {f : FuncId}
theorem Od {args : List AA} {n : Nat} {rs : List ResultVar} {R : AA → AB → Prop} (hf : HS C.P f = some (n, rs))
  (hh : AW C f g (KX C.P f) (args ++ List.replicate (n - args.length) (.tuple [])) h (fun e fr h' => (e = .ret ∨ e = .normal) ∧ ∃ v, L7 C.P rs fr h' = some v ∧ R v h')) : ∃ v h', K5 C g h f args v h' ∧ R v h' := by
 obtain ⟨m, e, fr', h2, hx, ⟨hq, v, hv, hR⟩⟩ := hh.ex
 exact ⟨v, h2, Tq hf ⟨⟨m, e, fr', h2, hx, ⟨hq, hv, rfl⟩⟩⟩, hR⟩
theorem Uo {args args' : List AA} {n : Nat} {rs : List ResultVar} {R : AA → AB → Prop} (hk : C.kind f = 1) (hc : Bp (C.still f) args = args') (hf : HS C.P f = some (n, rs))
  (hh : AW C f g (KX C.P f) (args' ++ List.replicate (n - args'.length) (.tuple [])) h (fun e fr h' => (e = .ret ∨ e = .normal) ∧ ∃ v, L7 C.P rs fr h' = some v ∧ R v h')) : ∃ v h', Bz C g h f args v h' ∧ R v h' := by
 obtain ⟨v, h', hb, hR⟩ := Od hf hh
 exact ⟨v, h', Vz hk hc hb, hR⟩
theorem U2 {args args' : List AA} {n : Nat} {rs : List ResultVar} {R : AA → AB → Prop} (hk : C.kind f = 7) (hc : Bp (C.still f) args = args') (hf : HS C.P f = some (n, rs))
  (hh : AW C f g (KX C.P f) (args' ++ List.replicate (n - args'.length) (.tuple [])) h (fun e fr h' => (e = .ret ∨ e = .normal) ∧ ∃ v, L7 C.P rs fr h' = some v ∧ ∃ v' h'', Kn g h' v = some (v', h'') ∧ R v' h'')) : ∃ v h', Bz C g h f args v h' ∧ R v h' := by
 obtain ⟨v, h', hb, v', h'', hz, hR⟩ := Od hf hh
 exact ⟨v', h'', VO hk hc hb hz, hR⟩
theorem Wm {P : Program} {fr : Fr} {N : Nat} {l : List (Nat × AA)} {rs : List ResultVar} {v : AA} (H : Has fr N l) (hr : ∀ fr, L7 P rs (B8 N l fr) h = some v) : L7 P rs fr h = some v := by
 have := hr fr
 rwa [DF H] at this
end
section
variable {g : Gd} {h : AB}
theorem Wi (vs : List AA) : Kn g h (.tuple vs) = (JI (JY g) vs h).map fun r => (.tuple r.1, r.2) := rfl
theorem WD (cs : List AA) : Kn g h (.agg cs) = (JI (Fw g) cs h).map fun r => (.agg r.1, r.2) := rfl
theorem WJ (r : Option Nat) (n : Nat) : Kn g h (AJ r n) = Fw g h (AJ r n) := rfl
theorem WQ (n : Nat) (cs : List AA) : Kn g h (.E5 n cs) = some (.E5 n cs, h) := rfl
theorem WY (cs : List AA) : JY g h (.agg cs) = (JI (Fw g) cs h).map fun r => (.agg r.1, r.2) := rfl
theorem WH (r : Option Nat) (n : Nat) : JY g h (AJ r n) = Fw g h (AJ r n) := rfl
theorem WM (n : Nat) (cs : List AA) : JY g h (.E5 n cs) = some (.E5 n cs, h) := rfl
theorem Wf (k : IntKind) (n : Int) : JY g h (.int k n) = some (.int k n, h) := rfl
theorem WK (b : Bool) : JY g h (.bool b) = some (.bool b, h) := rfl
theorem Wa (s : List UInt8) : JY g h (.str s) = some (.str s, h) := rfl
theorem WE : JY g h (.slice none 0) = some (.E5 0 [], h) := rfl
theorem WZ (f : AB → AA → Option (AA × AB)) : JI f [] h = some ([], h) := rfl
theorem Wj (f : AB → AA → Option (AA × AB)) (v : AA) (vs : List AA) : JI f (v :: vs) h = (match f h v with | some (v', h1) => (JI f vs h1).map fun r => (v' :: r.1, r.2) | none => none) := rfl
theorem Wg (k : IntKind) (n : Int) : Fw g h (.int k n) = some (.int k n, h) := rfl
theorem Wl (b : Bool) : Fw g h (.bool b) = some (.bool b, h) := rfl
theorem WV (s : List UInt8) : Fw g h (.str s) = some (.str s, h) := rfl
theorem Wb (n : Nat) (cs : List AA) : Fw g h (.E5 n cs) = some (.E5 n cs, h) := rfl
theorem WX : Fw g h (.slice none 0) = some (.E5 0 [], h) := rfl
end
def UE : List (Nat × List Bool) → Nat → List Bool
 | [], _ => []
 | (a, b) :: l, f => bif Nat.beq a f then b else UE l f
end Go.Av
