/-
  ABS, 16: rules by which a typed plain model of a Go function is shown to be what the abstract run tells. The proofs that use them are written by program (lift.py).
-/
import Derived.Test.YtdpebdaplhfbjaaGreatDoorAvMono
import Derived.KernelRfl
namespace Go.Av
def Has (fr : Fr) (N : Nat) (l : List (Nat × AVal)) : Prop := fr.length = N ∧ ∀ p ∈ l, nth fr p.1 = p.2
def lookF (fr : Fr) (k : Nat) : List (Nat × AVal) → AVal
 | [] => nth fr k
 | (i, v) :: r => bif Nat.beq i k then v else lookF fr k r
def mkFrom (l : List (Nat × AVal)) (fr : Fr) : Nat → Nat → Fr
 | _, 0 => []
 | s, k + 1 => lookF fr s l :: mkFrom l fr (s + 1) k
def mkFr (N : Nat) (l : List (Nat × AVal)) (fr : Fr) : Fr := mkFrom l fr 0 N
theorem lookF_eq {fr : Fr} {k : Nat} : ∀ {l : List (Nat × AVal)}, (∀ p ∈ l, nth fr p.1 = p.2) → lookF fr k l = nth fr k
 | [], _ => rfl
 | (i, v) :: r, h => by
  unfold lookF
  rw [bif_beq]
  by_cases e : i = k
  ·rw [if_pos e, ← e]; exact (h (i, v) (by simp)).symm
  ·rw [if_neg e]; exact lookF_eq fun p hp => h p (by simp [hp])
theorem mkFrom_eq {fr : Fr} {l : List (Nat × AVal)} (h : ∀ p ∈ l, nth fr p.1 = p.2) : ∀ (k s : Nat), s + k = fr.length → mkFrom l fr s k = fr.drop s
 | 0, s, e => by
  have : fr.drop s = [] := List.drop_eq_nil_of_le (by omega)
  rw [this]; rfl
 | k + 1, s, e => by
  have hlt : s < fr.length := by omega
  rw [mkFrom, mkFrom_eq h k (s + 1) (by omega), lookF_eq h, List.drop_eq_getElem_cons hlt, nth_eq, List.getD_eq_getElem?_getD, List.getElem?_eq_getElem hlt]
  rfl
theorem mkFr_eq {fr : Fr} {N : Nat} {l : List (Nat × AVal)} (H : Has fr N l) : mkFr N l fr = fr := by
 unfold mkFr
 have e : 0 + N = fr.length := by have := H.1; omega
 rw [mkFrom_eq H.2 N 0 e, List.drop_zero]
theorem Has.of_map {fr : Fr} {N : Nat} {out : List (Nat × AVal)} (h1 : fr.length = N) (h2 : out.map (fun p => nth fr p.1) = out.map (·.2)) : Has fr N out := by
 refine ⟨h1, ?_⟩
 induction out with
 | nil => intro p hp; cases hp
 | cons q out ih =>
  simp only [List.map_cons, List.cons.injEq] at h2
  intro p hp
  cases hp with
  | head => exact h2.1
  | tail _ hp => exact ih h2.2 p hp
theorem Has.less {fr : Fr} {N : Nat} {l : List (Nat × AVal)} (H : Has fr N l) (out : List (Nat × AVal)) (h : ∀ fr, out.map (fun p => nth (mkFr N l fr) p.1) = out.map (·.2)) : Has fr N out := by
 have := h fr
 rw [mkFr_eq H] at this
 exact Has.of_map H.1 this
theorem bind_some {α β : Type} {a : Option α} {k : α → Option β} {x : β} (h : a.bind k = some x) : ∃ y, a = some y ∧ k y = some x := by
 cases a with
 | none => cases h
 | some y => exact ⟨y, rfl, h⟩
def iteB {α : Type} (b : Bool) (x y : Option α) : Option α :=
 match b with
 | true => x
 | false => y
theorem iteB_some {α : Type} {b : Bool} {x y : Option α} {r : α} (h : iteB b x y = some r) : (b = true ∧ x = some r) ∨ (b = false ∧ y = some r) := by
 cases b with
 | true => exact .inl ⟨rfl, h⟩
 | false => exact .inr ⟨rfl, h⟩
@[simp] theorem iteB_true {α : Type} (x y : Option α) : iteB true x y = x := rfl
@[simp] theorem iteB_false {α : Type} (x y : Option α) : iteB false x y = y := rfl
def need {α : Type} (b : Bool) (x : Option α) : Option α :=
 match b with
 | true => x
 | false => none
theorem need_some {α : Type} {b : Bool} {x : Option α} {r : α} (h : need b x = some r) : b = true ∧ x = some r := by
 cases b with
 | true => exact ⟨rfl, h⟩
 | false => cases h
@[simp] theorem need_true {α : Type} (x : Option α) : need true x = x := rfl
def loopN {σ ρ : Type} (step : σ → Option (σ ⊕ ρ)) : Nat → σ → Option ρ
 | 0, _ => none
 | n + 1, s =>
  match step s with
  | some (.inl s') => loopN step n s'
  | some (.inr r) => some r
  | none => none
theorem loopN_mono {σ ρ : Type} {step : σ → Option (σ ⊕ ρ)} : ∀ {n m : Nat} {s : σ} {r : ρ}, n ≤ m → loopN step n s = some r → loopN step m s = some r
 | 0, _, _, _, _, h => by cases h
 | n + 1, 0, _, _, h, _ => by omega
 | n + 1, m + 1, s, r, hle, h => by
  unfold loopN at h ⊢
  cases hs : step s with
  | none => rw [hs] at h; cases h
  | some o =>
   rw [hs] at h
   cases o with
   | inl s' => exact loopN_mono (Nat.le_of_succ_le_succ hle) h
   | inr r' => exact h
open Classical in
noncomputable def loopC {σ ρ : Type} (step : σ → Option (σ ⊕ ρ)) (s : σ) : Option ρ :=
 if h : ∃ r n, loopN step n s = some r then some (Classical.choose h) else none
@[irreducible] noncomputable def loop {σ ρ : Type} (step : σ → Option (σ ⊕ ρ)) (s : σ) : Option ρ :=
 match loopN step 4611686018427387904 s with
 | some r => some r
 | none => loopC step s
theorem loop_to {σ ρ : Type} {step : σ → Option (σ ⊕ ρ)} {s : σ} {r : ρ} (h : loop step s = some r) : ∃ n, loopN step n s = some r := by
 unfold loop at h
 split at h
 ·rename_i r' h'
  cases h
  exact ⟨_, h'⟩
 ·unfold loopC at h
  split at h
  ·rename_i hx
   injection h with h
   rw [← h]
   exact Classical.choose_spec hx
  ·cases h
theorem loopN_one {σ ρ : Type} {step : σ → Option (σ ⊕ ρ)} {s : σ} {r r' : ρ} {n m : Nat} (h : loopN step n s = some r) (hm : loopN step m s = some r') : r = r' := by
 have h1 := loopN_mono (Nat.le_max_left n m) h
 have h2 := loopN_mono (Nat.le_max_right n m) hm
 rw [h1] at h2
 exact Option.some.inj h2
theorem loop_of {σ ρ : Type} {step : σ → Option (σ ⊕ ρ)} {s : σ} {r : ρ} {n : Nat} (h : loopN step n s = some r) : loop step s = some r := by
 unfold loop
 split
 ·rename_i r' h'
  rw [loopN_one h h']
 ·have hx : ∃ r n, loopN step n s = some r := ⟨r, n, h⟩
  unfold loopC
  rw [dif_pos hx]
  obtain ⟨m, hm⟩ := Classical.choose_spec hx
  rw [loopN_one h hm]
theorem loop_done {σ ρ : Type} {step : σ → Option (σ ⊕ ρ)} {s : σ} {r : ρ} (h : step s = some (.inr r)) : loop step s = some r := loop_of (n := 1) (by simp [loopN, h])
theorem loop_next {σ ρ : Type} {step : σ → Option (σ ⊕ ρ)} {s s' : σ} {r : ρ} (h : step s = some (.inl s')) (hr : loop step s' = some r) : loop step s = some r := by
 obtain ⟨n, hn⟩ := loop_to hr
 exact loop_of (n := n + 1) (by simp [loopN, h, hn])
theorem loop_rule {σ ρ : Type} {step : σ → Option (σ ⊕ ρ)} (inv : σ → Prop) (μ : σ → Nat) (post : ρ → Prop)
  (hs : ∀ s, inv s → (∃ s', step s = some (.inl s') ∧ inv s' ∧ μ s' < μ s) ∨ (∃ r, step s = some (.inr r) ∧ post r)) : ∀ s, inv s → ∃ r, loop step s = some r ∧ post r := by
 have key : ∀ n s, μ s < n → inv s → ∃ r, loop step s = some r ∧ post r := by
  intro n
  induction n with
  | zero => intro s h _; omega
  | succ n ih =>
   intro s hlt hi
   rcases hs s hi with ⟨s', h1, h2, h3⟩ | ⟨r, h1, h2⟩
   ·obtain ⟨r, h4, h5⟩ := ih s' (by omega) h2
    exact ⟨r, loop_next h1 h4, h5⟩
   ·exact ⟨r, loop_done h1, h2⟩
 exact fun s hi => key _ s (Nat.lt_succ_self _) hi
structure Sl where
 r : Option (Nat × Nat)
 n : Nat
section
variable (h : AHeap) (a : Nat × Nat)
def ld1 : Option AVal :=
 match cellsAt (h.get a.1) a.2 1 with
 | some [v] => some v
 | _ => none
def ldA (n : Nat) : Option (List AVal) := cellsAt (h.get a.1) a.2 n
end
def asI (k : IntKind) : AVal → Option Int
 | .int k' n => if k = k' then some n else none
 | _ => none
def asS : AVal → Option (List UInt8)
 | .str s => some s
 | _ => none
def asP : AVal → Option (Option (Nat × Nat))
 | .ptr p => some p
 | _ => none
def asL : AVal → Option Sl
 | .slice r n => some ⟨r, n⟩
 | _ => none
def ixA (a : Nat × Nat) (n z : Nat) (i : Int) : Option (Nat × Nat) := if 0 ≤ i ∧ i < n then some (a.1, a.2 + i.toNat * z) else none
def ixL (s : Sl) (z : Nat) (i : Int) : Option (Nat × Nat) :=
 match s.r with
 | some a => ixA a s.n z i
 | none => none
def ixS (s : List UInt8) (i : Int) : Option Int := if 0 ≤ i then (s[i.toNat]?).map fun b => (b.toNat : Int) else none
def bnd (n : Nat) (lo hi : Option Int) : Option (Nat × Nat) :=
 match hi with
 | some u =>
  if 0 ≤ u ∧ u ≤ n then
   match lo with
   | some l => if 0 ≤ l ∧ l ≤ u then some (l.toNat, u.toNat) else none
   | none => some (0, u.toNat)
  else none
 | none =>
  match lo with
  | some l => if 0 ≤ l ∧ l ≤ n then some (l.toNat, n) else none
  | none => some (0, n)
theorem boundsA_eq (k k' : IntKind) (n : Nat) (lo hi : Option Int) : boundsA n (lo.map (.int k ·)) (hi.map (.int k' ·)) = bnd n lo hi := by
 cases lo <;> cases hi <;> rfl
def subS (s : List UInt8) (lo hi : Option Int) : Option (List UInt8) := (bnd s.length lo hi).map fun p => (s.drop p.1).take (p.2 - p.1)
def subA (h : AHeap) (a : Nat × Nat) (n z : Nat) (lo hi : Option Int) : Option Sl :=
 match h.get a.1 with
 | some (.cells none _ _) => (bnd n lo hi).map fun p => ⟨some (a.1, a.2 + p.1 * z), p.2 - p.1⟩
 | _ => none
def subL (P : Program) (h : AHeap) (s : Sl) (z : Nat) (lo hi : Option Int) : Option Sl :=
 match s.r with
 | none => if s.n = 0 then (bnd 0 lo hi).map fun _ => ⟨none, 0⟩ else none
 | some a =>
  match h.get a.1 with
  | some (.cells none _ _) => (bnd s.n lo hi).map fun p => ⟨some (a.1, a.2 + p.1 * z), p.2 - p.1⟩
  | some (.cells (some e) _ _) => if szOf P e = some z then (bnd s.n lo hi).map fun p => ⟨some (a.1, a.2 + p.1 * z), p.2 - p.1⟩ else none
  | _ => none
def st (g : Gd) (h : AHeap) (a : Nat × Nat) (cs : List AVal) : Option AHeap := storeCellsA g h a.1 a.2 cs
def stG (n : Nat) (g : Gd) (h : AHeap) (a : Nat × Nat) (cs : List AVal) : Option AHeap := if cs.length = n then storeCellsA g h a.1 a.2 cs else none
def app (e : TypeId) (sz bytes : Nat) (g : Gd) (h : AHeap) (s : Sl) (n : Nat) (x : AVal) : Option (Sl × AHeap) :=
 if n = 0 then some (s, h)
 else if s.n + n ≤ 1099511627776 ∧ (s.n + n) * bytes ≤ 1099511627776 then
  match (firstA h sz n x).map (·.map can1), firstA h sz s.n (.slice s.r s.n) with
  | some new, some old =>
   if (old ++ new).all AVal.one = true then
    match s.r with
    | none => some (⟨some (h.size, 0), s.n + n⟩, h.push (.cells (some e) 2 (old ++ new)))
    | some a =>
     match h.get a.1 with
     | some (.cells (some e') 2 _) =>
      if g.may a.1 = true ∧ e' = e then some (⟨some (h.size, 0), s.n + n⟩, (h.set a.1 (.cells (some e') 0 [])).push (.cells (some e) 2 (old ++ new)))
      else none
     | _ => none
   else none
  | _, _ => none
 else none
def mx (a b : Int) : Int := if b > a then b else a
def opI (ops : Array Oper) (i : Nat) : Op :=
 match ops[i]? with
 | some o => o.op
 | none => .move (.const (.bool false))
def dstI (ops : Array Oper) (i : Nat) : Option Tmp :=
 match ops[i]? with
 | some o => o.dst
 | none => none
def runs (ops : Array Oper) (fr : Fr) (i : Nat) : Bool :=
 match ops[i]? with
 | some o => (match wantedA ops fr o with | some b => b | none => false)
 | none => false
def skips (ops : Array Oper) (fr : Fr) (i : Nat) : Bool :=
 match ops[i]? with
 | some o => (match wantedA ops fr o with | some b => !b | none => false)
 | none => false
section
variable (P : Program) (fr : Fr)
def spLoad : Op → Option ((Nat × Nat) × Option Nat)
 | .load t x =>
  match ev fr x, isAggT P t with
  | .ptr (some a), some true => (szOf P t).map (a, some ·)
  | .ptr (some a), some false => some (a, none)
  | _, _ => none
 | _ => none
def spStore : Op → Option ((Nat × Nat) × Nat × AVal)
 | .store t x y =>
  match ev fr x with
  | .ptr (some a) => (szOf P t).map fun n => (a, n, ev fr y)
  | _ => none
 | _ => none
def spP (op : Op) : Option AVal :=
 match clsOf P op with
 | 0 => opP P fr op
 | _ => none
def spN (op : Op) (k : Nat) : Option (AVal × AObj) :=
 match clsOf P op with
 | 2 => (opN P fr op).map fun x => (x.1 k, x.2)
 | _ => none
def spIxA : Op → Option ((Nat × Nat) × Nat × Nat × Int)
 | .indexAddr t x i =>
  match P.underlying t, ev fr x, ev fr i with
  | some (.array n e), .ptr (some a), .int _ i => (szOf P e).map fun z => (a, n, z, i)
  | _, _, _ => none
 | _ => none
def spIxL : Op → Option (Option (Nat × Nat) × Nat × Nat × Int)
 | .indexAddr t x i =>
  match P.underlying t, ev fr x, ev fr i with
  | some (.slice e), .slice r n, .int _ i => (szOf P e).map fun z => (r, n, z, i)
  | _, _, _ => none
 | _ => none
def spIxS : Op → Option (List UInt8 × Int)
 | .index t x i =>
  match P.underlying t, ev fr x, ev fr i with
  | some .string, .str s, .int _ i => some (s, i)
  | _, _, _ => none
 | _ => none
def spSubS : Op → Option (List UInt8 × Option AVal × Option AVal)
 | .slice t x lo hi none =>
  match P.underlying t, ev fr x with
  | some .string, .str s => some (s, lo.map (ev fr), hi.map (ev fr))
  | _, _ => none
 | _ => none
def spMk : Op → Option (TypeId × Nat × List AVal × Int × Int)
 | .makeSlice t l c =>
  match P.underlying t, ev fr l, ev fr c with
  | some (.slice e), .int _ l, .int _ c =>
   match P.info? e with
   | some i =>
    match i.zero.map ofV with
    | some z =>
     match z.cells?.map (·.map can1) with
     | some zc => if zc.length = i.size ∧ zc.all AVal.one = true then some (e, i.bytes, zc, l, c) else none
     | none => none
    | none => none
   | none => none
  | _, _, _ => none
 | _ => none
def spCall : Op → Option (FuncId × List AVal)
 | .call { callee := .value x, args := as, .. } =>
  match ev fr x with
  | .func (.func f) first cap => some (f, first ++ (as.toList.map (ev fr) ++ cap))
  | _ => none
 | _ => none
def spApp : Op → Option (TypeId × Nat × Nat × Option (Nat × Nat) × Nat × Nat × AVal)
 | .call { callee := .builtin .append, args := as, argTypes := ts } =>
  match as.toList.map (ev fr), ts[0]?, ts[1]? with
  | [.slice r sl, x], some st, some xt =>
   match P.underlying st, P.underlying xt, lenA x with
   | some (.slice e), some d, some n =>
    match P.info? e with
    | some i => if notInt d = true ∧ i.size ≠ 0 ∧ i.zero.map (·.cells.size) = some i.size then some (e, i.size, i.bytes, r, sl, n, x) else none
    | none => none
   | _, _, _ => none
  | _, _, _ => none
 | _ => none
def spNil : Op → Option (Bool × Option (Nat × Nat))
 | .binOp op t x y _ =>
  match P.underlying t, ev fr x, ev fr y, op with
  | some (.pointer _), .ptr p, .ptr none, .eql => some (true, p)
  | some (.pointer _), .ptr p, .ptr none, .neq => some (false, p)
  | _, _, _, _ => none
 | _ => none
def spCat : Op → Option (List UInt8 × List UInt8)
 | .binOp op _ x y _ =>
  match ev fr x, ev fr y, op with
  | .str a, .str b, .add => some (a, b)
  | _, _, _ => none
 | _ => none
end
end Go.Av
