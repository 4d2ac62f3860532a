/-
  ABS, 33: channels of a run of one goroutine; a select with one case and a default; pointers to what is written no more.
-/
import Derived.Test.YtiodcbipjnmpgaaAvTy
namespace Go.Av
set_option linter.unusedSimpArgs false
set_option linter.unusedVariables false

/-! ### pointers to what is written no more -/
def eP {α : Type} (e : α → List AVal) (x : α) : List AVal := [.vptr (e x)]
theorem encP {α : Type} (e : α → List AVal) : Enc (eP e) 1 := ⟨fun _ => rfl, fun _ => rfl, fun _ => rfl⟩
section
variable {g : Gd} {h : AHeap} {L F : List Ck}
theorem HH.frzB {id : Nat} {cs : List AVal} (a : HH g h (.obj id (.cells none 2 cs) :: L) F) : ∃ h1, HH g h1 L F ∧ ∀ cs' h', frzL (frz1 g) cs h1 = some (cs', h') → frzP g h (.ptr (some (id, 0))) = some (.vptr cs', h') := by
  have hk : (Ck.obj id (.cells none 2 cs) :: L)[0]? = some (.obj id (.cells none 2 cs)) := rfl
  have hg := a.get 0 hk
  have hid := h.lt_of_get hg
  refine ⟨h.set id (.cells none 0 cs), ?_, fun cs' h' hx => ?_⟩
  · have b := a.upd1 (d := .lst none 0 []) (h' := h.set id (.cells none 0 cs)) hk (by simp) (fun i _ hi => h.get_set_ne _ hid (by simpa [Ck.ids] using hi)) rfl (fun i hi => by simp [Ck.ids] at hi) (fun i hi => by simp [Ck.ids] at hi)
    exact HH.tail (c := .lst none 0 []) b
  · simp only [frzP, hg, a.mayK hk (i := id) (by simp [Ck.ids]), cond_true, hx, Option.map_some]
theorem fz4T (vs : List AVal) : frz4 g h (.tuple vs) = (frzL (frzP g) vs h).map fun r => (.tuple r.1, r.2) := rfl
theorem fz4P (id : Nat) : frz4 g h (.ptr (some (id, 0))) = frzP g h (.ptr (some (id, 0))) := rfl
theorem fzP0 : frzP g h (.ptr none) = some (.ptr none, h) := rfl
theorem fzPA (cs : List AVal) : frzP g h (.agg cs) = (frzL (frz1 g) cs h).map fun r => (.agg r.1, r.2) := rfl
theorem fzPR (r : Option Nat) (n : Nat) : frzP g h (rowV r n) = frz1 g h (rowV r n) := rfl
theorem fzPV (n : Nat) (cs : List AVal) : frzP g h (.vsl n cs) = some (.vsl n cs, h) := rfl
theorem fzPQ (cs : List AVal) : frzP g h (.vptr cs) = some (.vptr cs, h) := rfl
theorem fzPI (k : IntKind) (n : Int) : frzP g h (.int k n) = some (.int k n, h) := rfl
theorem fzPB (b : Bool) : frzP g h (.bool b) = some (.bool b, h) := rfl
theorem fzPS (s : List UInt8) : frzP g h (.str s) = some (.str s, h) := rfl
theorem fzPN : frzP g h (.slice none 0) = some (.vsl 0 [], h) := rfl
theorem fz1Q (cs : List AVal) : frz1 g h (.vptr cs) = some (.vptr cs, h) := rfl
theorem fz10 : frz1 g h (.ptr none) = some (.ptr none, h) := rfl
theorem fz1R' : frz1 g h (rowV none 0) = some (.vsl 0 [], h) := rfl
end

/-! ### the bytes of a literal -/
def spCv (fr : Fr) : Op → Option (TypeId × TypeId × AVal)
  | .convert s d x => some (s, d, ev fr x)
  | _ => none
theorem s_cvW {C : Cfg} {S : Self} {g : Gd} {h : AHeap} {fr : Fr} {op : Op} {s d : TypeId} {x : AVal} {r : AVal × AHeap} (hs : spCv fr op = some (s, d, x)) (hx : convW C.P g h s d x = some r) : stepA C S g h fr op = some r := by
  unfold spCv at hs
  split at hs
  · rename_i s' d' x'
    injection hs with hs; injection hs with e1 hs; injection hs with e2 e3
    subst e1; subst e2; subst e3
    have hc : clsOf C.P (.convert s' d' x') = 3 := by
      unfold convW at hx
      split at hx
      · rename_i h1 h2 h3; simp [clsOf, h1, h2]
      · cases hx
    show opA C.P C.glob g h fr (.convert s' d' x') = some r
    unfold opA
    rw [hc]
    exact hx
  · cases hs
theorem HH.cvW {P : Program} {g : Gd} {h : AHeap} {L F : List Ck} {t e e0 : TypeId} (a : HH g h L F) (k : Nat) {r : Option Nat} {cs : List AVal} (hk : L[k]? = some (.lst r e cs)) {n : Nat} (hn : n ≠ 0) (hl : cs.length = n)
    (hu : P.underlying t = some (.slice e0)) (he : P.underlying e0 = some (.int .u8)) : ∃ h1, convW P g h t t (rowV r n) = some (rowV r n, h1) ∧ HH g h1 L F := by
  cases r with
  | none =>
    have hc : cs = [] := a.mem hk
    subst hc
    exact absurd hl.symm hn
  | some id =>
    have hg : h.get id = some (.cells (some e) 2 cs) := a.mem hk
    have hid := h.lt_of_get hg
    have hm := a.mayK hk (i := id) (by simp [Ck.ids])
    refine ⟨h.set id (.cells (some e) 2 cs), ?_, ?_⟩
    · have hb : Nat.beq n 0 = false := by cases n; exact absurd rfl hn; rfl
      unfold rowV convW
      simp only [hu, Option.map_some, he, hg, Nat.beq_refl, hm, hb, Bool.not_false, Bool.and_self, cond_true]
    · have b := a.upd1 (d := .lst (some id) e cs) (h' := h.set id (.cells (some e) 2 cs)) hk (by simp) (fun i _ hi => h.get_set_ne _ hid (by simpa [Ck.ids] using hi)) (h.get_set_same _ hid) (fun i hi => .inl hi) (fun i hi => a.mayK hk hi)
      have e1 : L.set k (.lst (some id) e cs) = L := by rw [set_split hk]; exact (split_at hk).symm
      rw [e1] at b
      exact b

/-! ### channels -/
def chSend (g : Gd) (h : AHeap) (id : Nat) (x : AVal) : Option (AVal × AHeap) :=
  match h.get id with
  | some (.chan cap buf) =>
    bif Nat.ble cap buf.length then some (.tuple [.int .i64 (-1), .bool false], h)
    else bif g.may id then some (.tuple [.int .i64 0, .bool false], h.set id (.chan cap (buf ++ [x])))
    else none
  | _ => none
def chRecv (g : Gd) (h : AHeap) (id : Nat) (z : AVal) : Option (AVal × AHeap) :=
  match h.get id with
  | some (.chan cap buf) =>
    match buf with
    | v :: rest => bif g.may id then some (.tuple [.int .i64 0, .bool true, v], h.set id (.chan cap rest)) else none
    | [] => some (.tuple [.int .i64 (-1), .bool false, z], h)
  | _ => none
def spSend (P : Program) (fr : Fr) : Op → Option (Nat × AVal)
  | .select cases false =>
    match cases.toList with
    | [c] =>
      match zeroA P c.elem, ev fr c.chan, c.send with
      | some _, .chan (some id), some x => some (id, ev fr x)
      | _, _, _ => none
    | _ => none
  | _ => none
def spRecv (P : Program) (fr : Fr) : Op → Option (Nat × AVal)
  | .select cases false =>
    match cases.toList with
    | [c] =>
      match zeroA P c.elem, ev fr c.chan, c.send with
      | some z, .chan (some id), none => some (id, z)
      | _, _, _ => none
    | _ => none
  | _ => none
def spLenC (P : Program) (fr : Fr) : Op → Option Nat
  | .call { callee := .builtin .len, args := as, argTypes := ts } =>
    match as.toList, ts[0]? with
    | [x], some t =>
      match P.underlying t, ev fr x with
      | some (.chan _ _), .chan (some id) => some id
      | _, _ => none
    | _, _ => none
  | _ => none
section
variable {P : Program} {g : Gd} {h h1 : AHeap} {fr : Fr} {op : Op} {L F : List Ck}
theorem sel_send {id : Nat} {x : AVal} {r : AVal × AHeap} (hs : spSend P fr op = some (id, x)) (hx : chSend g h id x = some r) : selA P g h fr op = some r := by
  unfold spSend at hs
  split at hs
  · rename_i cases0
    split at hs
    · rename_i c hc
      split at hs
      · rename_i z id' x' hz he hse
        injection hs with hs; injection hs with e1 e2; subst e1; subst e2
        unfold selA
        simp only [hc, hz, he, hse]
        unfold chSend at hx
        split at hx
        · rename_i cap buf hg; rw [hg]; exact hx
        · cases hx
      · cases hs
    · cases hs
  · cases hs
theorem sel_recv {id : Nat} {z : AVal} {r : AVal × AHeap} (hs : spRecv P fr op = some (id, z)) (hx : chRecv g h id z = some r) : selA P g h fr op = some r := by
  unfold spRecv at hs
  split at hs
  · rename_i cases0
    split at hs
    · rename_i c hc
      split at hs
      · rename_i z' id' hz he hse
        injection hs with hs; injection hs with e1 e2; subst e1; subst e2
        unfold selA
        simp only [hc, hz, he, hse]
        unfold chRecv at hx
        split at hx
        · rename_i cap buf hg; rw [hg]; exact hx
        · cases hx
      · cases hs
    · cases hs
  · cases hs
theorem s_lenC {C : Cfg} {S : Self} {id cap : Nat} {buf : List AVal} {n : Int} (hs : spLenC C.P fr op = some id) (hg : h.get id = some (.chan cap buf)) (hn : (buf.length : Int) = n) : stepA C S g h fr op = some (.int .i64 n, h) := by
  unfold spLenC at hs
  split at hs
  · rename_i as ts
    split at hs
    · rename_i x t hx ht
      split at hs
      · rename_i hu he
        injection hs with hs; subst hs
        have hc : clsOf C.P (.call { callee := .builtin .len, args := as, argTypes := ts }) = 1 := by simp [clsOf, ht, hu]
        unfold stepA
        simp only [opA, hc, touchA, hx, he, refOf, hg, opR, lenR, ht, hu]
        rw [← hn]; rfl
      · cases hs
    · cases hs
  · cases hs
variable {α : Type} {e : α → List AVal}
theorem HH.clen (E : Enc e 1) (a : HH g h L F) (k : Nat) {id cap : Nat} {xs : List α} (hk : L[k]? = some (.obj id (.chan cap (lst e xs)))) : h.get id = some (.chan cap (lst e xs)) ∧ ((lst e xs).length : Int) = (xs.length : Int) :=
  ⟨a.get k hk, by rw [E.lenL, Nat.mul_one]⟩
theorem HH.sendRoom (E : Enc e 1) (a : HH g h L F) (k : Nat) {id cap : Nat} {xs : List α} {x : α} {v : AVal} (hk : L[k]? = some (.obj id (.chan cap (lst e xs)))) (hv : e x = [v]) (hb : Nat.blt xs.length cap = true) :
    ∃ h1, chSend g h id v = some (.tuple [.int .i64 0, .bool false], h1) ∧ HH g h1 (L.set k (.obj id (.chan cap (lst e (xs ++ [x]))))) F := by
  refine ⟨_, ?_, a.set k _ hk⟩
  unfold chSend
  simp only [a.get k hk, E.lenL, Nat.mul_one]
  have : Nat.ble cap xs.length = false := by
    rw [Nat.blt_eq] at hb
    rw [← Bool.not_eq_true, Nat.ble_eq]; omega
  rw [this, a.mayK hk (by simp [Ck.ids])]
  simp [lst, hv]
theorem HH.sendFull (E : Enc e 1) (a : HH g h L F) (k : Nat) {id cap : Nat} {xs : List α} {v : AVal} (hk : L[k]? = some (.obj id (.chan cap (lst e xs)))) (hb : Nat.blt xs.length cap = false) :
    chSend g h id v = some (.tuple [.int .i64 (-1), .bool false], h) := by
  unfold chSend
  simp only [a.get k hk, E.lenL, Nat.mul_one]
  have : Nat.ble cap xs.length = true := by
    rw [Nat.ble_eq]
    rw [← Bool.not_eq_true, Nat.blt_eq] at hb; omega
  rw [this]; rfl
/-- the first that waits, and the others -/
def unc {α : Type} : List α → Option (α × List α)
  | [] => none
  | x :: r => some (x, r)
theorem unc_eq {α : Type} {xs r : List α} {x : α} (h : unc xs = some (x, r)) : xs = x :: r := by
  cases xs with
  | nil => cases h
  | cons y l => injection h with h; injection h with h1 h2; rw [h1, h2]
theorem HH.recvSome (E : Enc e 1) (a : HH g h L F) (k : Nat) {id cap : Nat} {xs ys : List α} {x : α} {v z : AVal} (hk : L[k]? = some (.obj id (.chan cap (lst e xs)))) (hx : unc xs = some (x, ys)) (hv : e x = [v]) :
    ∃ h1, chRecv g h id z = some (.tuple [.int .i64 0, .bool true, v], h1) ∧ HH g h1 (L.set k (.obj id (.chan cap (lst e ys)))) F := by
  obtain rfl := unc_eq hx
  refine ⟨_, ?_, a.set k _ hk⟩
  unfold chRecv
  have e1 : lst e (x :: ys) = v :: lst e ys := by simp [lst, hv]
  simp only [a.get k hk, e1]
  rw [a.mayK hk (by simp [Ck.ids])]
  rfl
theorem HH.recvNone (a : HH g h L F) (k : Nat) {id cap : Nat} {xs : List α} {z : AVal} (hk : L[k]? = some (.obj id (.chan cap (lst e xs)))) (hx : xs.isEmpty = true) :
    chRecv g h id z = some (.tuple [.int .i64 (-1), .bool false, z], h) := by
  obtain rfl := List.isEmpty_iff.1 hx
  unfold chRecv
  simp only [a.get k hk]
  rfl
end
end Go.Av
