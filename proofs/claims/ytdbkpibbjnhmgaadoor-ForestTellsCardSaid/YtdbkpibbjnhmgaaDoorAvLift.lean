/-
 A part.
-/
import Derived.Test.YtdbkpibbjnhmgaaDoorAvMono
import Derived.KernelRfl
namespace Go.Av
def Has (fr : Fr) (N : Nat) (l : List (Nat × AA)) : Prop := fr.length = N ∧ ∀ p ∈ l, nth fr p.1 = p.2
def Qk (fr : Fr) (k : Nat) : List (Nat × AA) → AA
 | [] => nth fr k
 | (i, v) :: r => bif Nat.beq i k then v else Qk fr k r
def Nk (l : List (Nat × AA)) (fr : Fr) : Nat → Nat → Fr
 | _, 0 => []
 | s, k + 1 => Qk fr s l :: Nk l fr (s + 1) k
def Bx (N : Nat) (l : List (Nat × AA)) (fr : Fr) : Fr := Nk l fr 0 N
theorem OE {fr : Fr} {k : Nat} : ∀ {l : List (Nat × AA)}, (∀ p ∈ l, nth fr p.1 = p.2) → Qk fr k l = nth fr k
 | [], _ => rfl
 | (i, v) :: r, h => by
  unfold Qk
  rw [FU]
  by_cases e : i = k
  ·rw [if_pos e, ← e]; exact (h (i, v) (by simp)).symm
  ·rw [if_neg e]; exact OE fun p hp => h p (by simp [hp])
theorem M4 {fr : Fr} {l : List (Nat × AA)} (h : ∀ p ∈ l, nth fr p.1 = p.2) : ∀ (k s : Nat), s + k = fr.length → Nk l fr s k = fr.drop s
 | 0, s, e => by
  have : fr.drop s = [] := List.drop_eq_nil_of_le (by omega)
  rw [this]; rfl
 | k + 1, s, e => by
  have hlt : s < fr.length := by omega
  rw [Nk, M4 h k (s + 1) (by omega), OE h, List.drop_eq_getElem_cons hlt, FE, List.getD_eq_getElem?_getD, List.getElem?_eq_getElem hlt]
  rfl
theorem Cf {fr : Fr} {N : Nat} {l : List (Nat × AA)} (H : Has fr N l) : Bx N l fr = fr := by
 unfold Bx
 have e : 0 + N = fr.length := by have := H.1; omega
 rw [M4 H.2 N 0 e, List.drop_zero]
theorem Has.of_map {fr : Fr} {N : Nat} {out : List (Nat × AA)} (h1 : fr.length = N) (h2 : out.map (fun p => nth fr p.1) = out.map (·.2)) : Has fr N out := by
 refine ⟨h1, ?_⟩
 induction out with
 | nil => intro p hp; cases hp
 | cons q out ih =>
  simp only [List.map_cons, List.cons.injEq] at h2
  intro p hp
  cases hp with
  | head => exact h2.1
  | tail _ hp => exact ih h2.2 p hp
theorem Has.less {fr : Fr} {N : Nat} {l : List (Nat × AA)} (H : Has fr N l) (out : List (Nat × AA)) (h : ∀ fr, out.map (fun p => nth (Bx N l fr) p.1) = out.map (·.2)) : Has fr N out := by
 have := h fr
 rw [Cf H] at this
 exact Has.of_map H.1 this
theorem bind_some {α β : Type} {a : Option α} {k : α → Option β} {x : β} (h : a.bind k = some x) : ∃ y, a = some y ∧ k y = some x := by
 cases a with
 | none => cases h
 | some y => exact ⟨y, rfl, h⟩
def BM {α : Type} (b : Bool) (x y : Option α) : Option α :=
 match b with
 | true => x
 | false => y
theorem DL {α : Type} {b : Bool} {x y : Option α} {r : α} (h : BM b x y = some r) : (b = true ∧ x = some r) ∨ (b = false ∧ y = some r) := by
 cases b with
 | true => exact .inl ⟨rfl, h⟩
 | false => exact .inr ⟨rfl, h⟩
@[simp] theorem BY {α : Type} (x y : Option α) : BM true x y = x := rfl
@[simp] theorem A7 {α : Type} (x y : Option α) : BM false x y = y := rfl
def Dm {α : Type} (b : Bool) (x : Option α) : Option α :=
 match b with
 | true => x
 | false => none
theorem Ag {α : Type} {b : Bool} {x : Option α} {r : α} (h : Dm b x = some r) : b = true ∧ x = some r := by
 cases b with
 | true => exact ⟨rfl, h⟩
 | false => cases h
@[simp] theorem Ao {α : Type} (x : Option α) : Dm true x = x := rfl
def FK {σ ρ : Type} (step : σ → Option (σ ⊕ ρ)) : Nat → σ → Option ρ
 | 0, _ => none
 | n + 1, s =>
  match step s with
  | some (.inl s') => FK step n s'
  | some (.inr r) => some r
  | none => none
theorem JK {σ ρ : Type} {step : σ → Option (σ ⊕ ρ)} : ∀ {n m : Nat} {s : σ} {r : ρ}, n ≤ m → FK step n s = some r → FK step m s = some r
 | 0, _, _, _, _, h => by cases h
 | n + 1, 0, _, _, h, _ => by omega
 | n + 1, m + 1, s, r, hle, h => by
  unfold FK at h ⊢
  cases hs : step s with
  | none => rw [hs] at h; cases h
  | some o =>
   rw [hs] at h
   cases o with
   | inl s' => exact JK (Nat.le_of_succ_le_succ hle) h
   | inr r' => exact h
open Classical in
noncomputable def Si {σ ρ : Type} (step : σ → Option (σ ⊕ ρ)) (s : σ) : Option ρ :=
 if h : ∃ r n, FK step n s = some r then some (Classical.choose h) else none
@[irreducible] noncomputable def loop {σ ρ : Type} (step : σ → Option (σ ⊕ ρ)) (s : σ) : Option ρ :=
 match FK step 4611686018427387904 s with
 | some r => some r
 | none => Si step s
theorem Ni {σ ρ : Type} {step : σ → Option (σ ⊕ ρ)} {s : σ} {r : ρ} (h : loop step s = some r) : ∃ n, FK step n s = some r := by
 unfold loop at h
 split at h
 ·rename_i r' h'
  cases h
  exact ⟨_, h'⟩
 ·unfold Si at h
  split at h
  ·rename_i hx
   injection h with h
   rw [← h]
   exact Classical.choose_spec hx
  ·cases h
theorem Mj {σ ρ : Type} {step : σ → Option (σ ⊕ ρ)} {s : σ} {r r' : ρ} {n m : Nat} (h : FK step n s = some r) (hm : FK step m s = some r') : r = r' := by
 have h1 := JK (Nat.le_max_left n m) h
 have h2 := JK (Nat.le_max_right n m) hm
 rw [h1] at h2
 exact Option.some.inj h2
theorem NL {σ ρ : Type} {step : σ → Option (σ ⊕ ρ)} {s : σ} {r : ρ} {n : Nat} (h : FK step n s = some r) : loop step s = some r := by
 unfold loop
 split
 ·rename_i r' h'
  rw [Mj h h']
 ·have hx : ∃ r n, FK step n s = some r := ⟨r, n, h⟩
  unfold Si
  rw [dif_pos hx]
  obtain ⟨m, hm⟩ := Classical.choose_spec hx
  rw [Mj h hm]
theorem Ba {σ ρ : Type} {step : σ → Option (σ ⊕ ρ)} {s : σ} {r : ρ} (h : step s = some (.inr r)) : loop step s = some r := NL (n := 1) (by simp [FK, h])
theorem Mp {σ ρ : Type} {step : σ → Option (σ ⊕ ρ)} {s s' : σ} {r : ρ} (h : step s = some (.inl s')) (hr : loop step s' = some r) : loop step s = some r := by
 obtain ⟨n, hn⟩ := Ni hr
 exact NL (n := n + 1) (by simp [FK, h, hn])
theorem RJ {σ ρ : Type} {step : σ → Option (σ ⊕ ρ)} (inv : σ → Prop) (μ : σ → Nat) (post : ρ → Prop)
  (hs : ∀ s, inv s → (∃ s', step s = some (.inl s') ∧ inv s' ∧ μ s' < μ s) ∨ (∃ r, step s = some (.inr r) ∧ post r)) : ∀ s, inv s → ∃ r, loop step s = some r ∧ post r := by
 have key : ∀ n s, μ s < n → inv s → ∃ r, loop step s = some r ∧ post r := by
  intro n
  induction n with
  | zero => intro s h _; omega
  | succ n ih =>
   intro s hlt hi
   rcases hs s hi with ⟨s', h1, h2, h3⟩ | ⟨r, h1, h2⟩
   ·obtain ⟨r, h4, h5⟩ := ih s' (by omega) h2
    exact ⟨r, Mp h1 h4, h5⟩
   ·exact ⟨r, Ba h1, h2⟩
 exact fun s hi => key _ s (Nat.lt_succ_self _) hi
structure Sl where
 r : Option (Nat × Nat)
 n : Nat
section
variable (h : AB) (a : Nat × Nat)
def PK : Option AA :=
 match CB (h.get a.1) a.2 1 with
 | some [v] => some v
 | _ => none
def UJ (n : Nat) : Option (List AA) := CB (h.get a.1) a.2 n
end
def YD (k : IntKind) : AA → Option Int
 | .int k' n => if k = k' then some n else none
 | _ => none
def YE : AA → Option (List UInt8)
 | .str s => some s
 | _ => none
def YC : AA → Option (Option (Nat × Nat))
 | .ptr p => some p
 | _ => none
def YF : AA → Option Sl
 | .slice r n => some ⟨r, n⟩
 | _ => none
def W9 (a : Nat × Nat) (n z : Nat) (i : Int) : Option (Nat × Nat) := if 0 ≤ i ∧ i < n then some (a.1, a.2 + i.toNat * z) else none
def W3 (s : Sl) (z : Nat) (i : Int) : Option (Nat × Nat) :=
 match s.r with
 | some a => W9 a s.n z i
 | none => none
def Vx (s : List UInt8) (i : Int) : Option Int := if 0 ≤ i then (s[i.toNat]?).map fun b => (b.toNat : Int) else none
def NZ (n : Nat) (lo hi : Option Int) : Option (Nat × Nat) :=
 match hi with
 | some u =>
  if 0 ≤ u ∧ u ≤ n then
   match lo with
   | some l => if 0 ≤ l ∧ l ≤ u then some (l.toNat, u.toNat) else none
   | none => some (0, u.toNat)
  else none
 | none =>
  match lo with
  | some l => if 0 ≤ l ∧ l ≤ n then some (l.toNat, n) else none
  | none => some (0, n)
theorem Ft (k k' : IntKind) (n : Nat) (lo hi : Option Int) : Co n (lo.map (.int k ·)) (hi.map (.int k' ·)) = NZ n lo hi := by
 cases lo <;> cases hi <;> rfl
def L1 (s : List UInt8) (lo hi : Option Int) : Option (List UInt8) := (NZ s.length lo hi).map fun p => (s.drop p.1).take (p.2 - p.1)
def X2 (h : AB) (a : Nat × Nat) (n z : Nat) (lo hi : Option Int) : Option Sl :=
 match h.get a.1 with
 | some (.cells none _ _) => (NZ n lo hi).map fun p => ⟨some (a.1, a.2 + p.1 * z), p.2 - p.1⟩
 | _ => none
def TN (P : Program) (h : AB) (s : Sl) (z : Nat) (lo hi : Option Int) : Option Sl :=
 match s.r with
 | none => if s.n = 0 then (NZ 0 lo hi).map fun _ => ⟨none, 0⟩ else none
 | some a =>
  match h.get a.1 with
  | some (.cells none _ _) => (NZ s.n lo hi).map fun p => ⟨some (a.1, a.2 + p.1 * z), p.2 - p.1⟩
  | some (.cells (some e) _ _) => if Bf P e = some z then (NZ s.n lo hi).map fun p => ⟨some (a.1, a.2 + p.1 * z), p.2 - p.1⟩ else none
  | _ => none
def st (g : Gd) (h : AB) (a : Nat × Nat) (cs : List AA) : Option AB := Bq g h a.1 a.2 cs
def W5 (n : Nat) (g : Gd) (h : AB) (a : Nat × Nat) (cs : List AA) : Option AB := if cs.length = n then Bq g h a.1 a.2 cs else none
def app (e : TypeId) (sz bytes : Nat) (g : Gd) (h : AB) (s : Sl) (n : Nat) (x : AA) : Option (Sl × AB) :=
 if n = 0 then some (s, h)
 else if s.n + n ≤ 1099511627776 ∧ (s.n + n) * bytes ≤ 1099511627776 then
  match (Cp h sz n x).map (·.map Dl), Cp h sz s.n (.slice s.r s.n) with
  | some new, some FY =>
   if (FY ++ new).all AA.one = true then
    match s.r with
    | none => some (⟨some (h.size, 0), s.n + n⟩, h.push (.cells (some e) 2 (FY ++ new)))
    | some a =>
     match h.get a.1 with
     | some (.cells (some e') 2 _) =>
      if g.may a.1 = true ∧ e' = e then some (⟨some (h.size, 0), s.n + n⟩, (h.set a.1 (.cells (some e') 0 [])).push (.cells (some e) 2 (FY ++ new)))
      else none
     | _ => none
   else none
  | _, _ => none
 else none
def mx (a b : Int) : Int := if b > a then b else a
def Kt (ops : Array Oper) (i : Nat) : Op :=
 match ops[i]? with
 | some o => o.op
 | none => .move (.const (.bool false))
def Eg (ops : Array Oper) (i : Nat) : Option Tmp :=
 match ops[i]? with
 | some o => o.dst
 | none => none
def runs (ops : Array Oper) (fr : Fr) (i : Nat) : Bool :=
 match ops[i]? with
 | some o => (match Bv ops fr o with | some b => b | none => false)
 | none => false
def Qa (ops : Array Oper) (fr : Fr) (i : Nat) : Bool :=
 match ops[i]? with
 | some o => (match Bv ops fr o with | some b => !b | none => false)
 | none => false
section
variable (P : Program) (fr : Fr)
def KK : Op → Option ((Nat × Nat) × Option Nat)
 | .load t x =>
  match ev fr x, Hd P t with
  | .ptr (some a), some true => (Bf P t).map (a, some ·)
  | .ptr (some a), some false => some (a, none)
  | _, _ => none
 | _ => none
def F7 : Op → Option ((Nat × Nat) × Nat × AA)
 | .store t x y =>
  match ev fr x with
  | .ptr (some a) => (Bf P t).map fun n => (a, n, ev fr y)
  | _ => none
 | _ => none
def Wi (op : Op) : Option AA :=
 match AZ P op with
 | 0 => GR P fr op
 | _ => none
def WB (op : Op) (k : Nat) : Option (AA × A9) :=
 match AZ P op with
 | 2 => (Mq P fr op).map fun x => (x.1 k, x.2)
 | _ => none
def Xt : Op → Option ((Nat × Nat) × Nat × Nat × Int)
 | .indexAddr t x i =>
  match P.underlying t, ev fr x, ev fr i with
  | some (.array n e), .ptr (some a), .int _ i => (Bf P e).map fun z => (a, n, z, i)
  | _, _, _ => none
 | _ => none
def U6 : Op → Option (Option (Nat × Nat) × Nat × Nat × Int)
 | .indexAddr t x i =>
  match P.underlying t, ev fr x, ev fr i with
  | some (.slice e), .slice r n, .int _ i => (Bf P e).map fun z => (r, n, z, i)
  | _, _, _ => none
 | _ => none
def Up : Op → Option (List UInt8 × Int)
 | .index t x i =>
  match P.underlying t, ev fr x, ev fr i with
  | some .string, .str s, .int _ i => some (s, i)
  | _, _, _ => none
 | _ => none
def Sw : Op → Option (List UInt8 × Option AA × Option AA)
 | .slice t x lo hi none =>
  match P.underlying t, ev fr x with
  | some .string, .str s => some (s, lo.map (ev fr), hi.map (ev fr))
  | _, _ => none
 | _ => none
def S4 : Op → Option (Option (Nat × Nat) × Nat × Nat × Option AA × Option AA)
 | .slice t x lo hi none =>
  match P.underlying t, ev fr x with
  | some (.slice e), .slice r n => (Bf P e).map fun z => (r, n, z, lo.map (ev fr), hi.map (ev fr))
  | _, _ => none
 | _ => none
def YA : Op → Option (TypeId × Nat × List AA × Int × Int)
 | .makeSlice t l c =>
  match P.underlying t, ev fr l, ev fr c with
  | some (.slice e), .int _ l, .int _ c =>
   match P.info? e with
   | some i =>
    match i.zero.map Te with
    | some z =>
     match z.cells?.map (·.map Dl) with
     | some zc => if zc.length = i.size ∧ zc.all AA.one = true then some (e, i.bytes, zc, l, c) else none
     | none => none
    | none => none
   | none => none
  | _, _, _ => none
 | _ => none
def KP : Op → Option (FuncId × List AA)
 | .call { callee := .value x, args := as, .. } =>
  match ev fr x with
  | .func (.func f) first cap => some (f, first ++ (as.toList.map (ev fr) ++ cap))
  | _ => none
 | _ => none
def Ur : Op → Option (TypeId × Nat × Nat × Option (Nat × Nat) × Nat × Nat × AA)
 | .call { callee := .builtin .append, args := as, argTypes := ts } =>
  match as.toList.map (ev fr), ts[0]?, ts[1]? with
  | [.slice r sl, x], some st, some xt =>
   match P.underlying st, P.underlying xt, MT x with
   | some (.slice e), some d, some n =>
    match P.info? e with
    | some i => if GM d = true ∧ i.size ≠ 0 ∧ i.zero.map (·.cells.size) = some i.size then some (e, i.size, i.bytes, r, sl, n, x) else none
    | none => none
   | _, _, _ => none
  | _, _, _ => none
 | _ => none
def Xr : Op → Option (Bool × Option (Nat × Nat))
 | .binOp op t x y _ =>
  match LM P op t x y, P.underlying t, ev fr x, ev fr y, op with
  | false, some (.pointer _), .ptr p, .ptr none, .eql => some (true, p)
  | false, some (.pointer _), .ptr p, .ptr none, .neq => some (false, p)
  | _, _, _, _, _ => none
 | _ => none
def UZ : Op → Option (List UInt8 × List UInt8)
 | .binOp op _ x y _ =>
  match ev fr x, ev fr y, op with
  | .str a, .str b, .add => some (a, b)
  | _, _, _ => none
 | _ => none
end
end Go.Av
