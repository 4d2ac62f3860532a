/-
  ABS, 16: rules by which a typed plain model of a Go function is shown to be what the abstract run tells. The proofs that use them are written by program (lift.py).
-/
import Derived.Test.YthnnciphldbmeaaGreatDoorAvMono
import Derived.KernelRfl
namespace Go.Av
def Has (fr : Fr) (N : Nat) (l : List (Nat × AA)) : Prop := fr.length = N ∧ ∀ p ∈ l, nth fr p.1 = p.2
def SJ (fr : Fr) (k : Nat) : List (Nat × AA) → AA
 | [] => nth fr k
 | (i, v) :: r => bif Nat.beq i k then v else SJ fr k r
def QH (l : List (Nat × AA)) (fr : Fr) : Nat → Nat → Fr
 | _, 0 => []
 | s, k + 1 => SJ fr s l :: QH l fr (s + 1) k
def C3 (N : Nat) (l : List (Nat × AA)) (fr : Fr) : Fr := QH l fr 0 N
theorem Qn {fr : Fr} {k : Nat} : ∀ {l : List (Nat × AA)}, (∀ p ∈ l, nth fr p.1 = p.2) → SJ fr k l = nth fr k
 | [], _ => rfl
 | (i, v) :: r, h => by
  unfold SJ
  rw [IM]
  by_cases e : i = k
  ·rw [if_pos e, ← e]; exact (h (i, v) (by simp)).symm
  ·rw [if_neg e]; exact Qn fun p hp => h p (by simp [hp])
theorem PY {fr : Fr} {l : List (Nat × AA)} (h : ∀ p ∈ l, nth fr p.1 = p.2) : ∀ (k s : Nat), s + k = fr.length → QH l fr s k = fr.drop s
 | 0, s, e => by
  have : fr.drop s = [] := List.drop_eq_nil_of_le (by omega)
  rw [this]; rfl
 | k + 1, s, e => by
  have hlt : s < fr.length := by omega
  rw [QH, PY h k (s + 1) (by omega), Qn h, List.drop_eq_getElem_cons hlt, Kv, List.getD_eq_getElem?_getD, List.getElem?_eq_getElem hlt]
  rfl
theorem Eh {fr : Fr} {N : Nat} {l : List (Nat × AA)} (H : Has fr N l) : C3 N l fr = fr := by
 unfold C3
 have e : 0 + N = fr.length := by have := H.1; omega
 rw [PY H.2 N 0 e, List.drop_zero]
theorem Has.of_map {fr : Fr} {N : Nat} {out : List (Nat × AA)} (h1 : fr.length = N) (h2 : out.map (fun p => nth fr p.1) = out.map (·.2)) : Has fr N out := by
 refine ⟨h1, ?_⟩
 induction out with
 | nil => intro p hp; cases hp
 | cons q out ih =>
  simp only [List.map_cons, List.cons.injEq] at h2
  intro p hp
  cases hp with
  | head => exact h2.1
  | tail _ hp => exact ih h2.2 p hp
theorem Has.less {fr : Fr} {N : Nat} {l : List (Nat × AA)} (H : Has fr N l) (out : List (Nat × AA)) (h : ∀ fr, out.map (fun p => nth (C3 N l fr) p.1) = out.map (·.2)) : Has fr N out := by
 have := h fr
 rw [Eh H] at this
 exact Has.of_map H.1 this
theorem bind_some {α β : Type} {a : Option α} {k : α → Option β} {x : β} (h : a.bind k = some x) : ∃ y, a = some y ∧ k y = some x := by
 cases a with
 | none => cases h
 | some y => exact ⟨y, rfl, h⟩
def Ae {α : Type} (b : Bool) (x y : Option α) : Option α :=
 match b with
 | true => x
 | false => y
theorem AU {α : Type} {b : Bool} {x y : Option α} {r : α} (h : Ae b x y = some r) : (b = true ∧ x = some r) ∨ (b = false ∧ y = some r) := by
 cases b with
 | true => exact .inl ⟨rfl, h⟩
 | false => exact .inr ⟨rfl, h⟩
@[simp] theorem HJ {α : Type} (x y : Option α) : Ae true x y = x := rfl
@[simp] theorem CK {α : Type} (x y : Option α) : Ae false x y = y := rfl
def Fl {α : Type} (b : Bool) (x : Option α) : Option α :=
 match b with
 | true => x
 | false => none
theorem BZ {α : Type} {b : Bool} {x : Option α} {r : α} (h : Fl b x = some r) : b = true ∧ x = some r := by
 cases b with
 | true => exact ⟨rfl, h⟩
 | false => cases h
@[simp] theorem Je {α : Type} (x : Option α) : Fl true x = x := rfl
def IF {σ ρ : Type} (step : σ → Option (σ ⊕ ρ)) : Nat → σ → Option ρ
 | 0, _ => none
 | n + 1, s =>
  match step s with
  | some (.inl s') => IF step n s'
  | some (.inr r) => some r
  | none => none
theorem Lm {σ ρ : Type} {step : σ → Option (σ ⊕ ρ)} : ∀ {n m : Nat} {s : σ} {r : ρ}, n ≤ m → IF step n s = some r → IF step m s = some r
 | 0, _, _, _, _, h => by cases h
 | n + 1, 0, _, _, h, _ => by omega
 | n + 1, m + 1, s, r, hle, h => by
  unfold IF at h ⊢
  cases hs : step s with
  | none => rw [hs] at h; cases h
  | some o =>
   rw [hs] at h
   cases o with
   | inl s' => exact Lm (Nat.le_of_succ_le_succ hle) h
   | inr r' => exact h
open Classical in
noncomputable def Tf {σ ρ : Type} (step : σ → Option (σ ⊕ ρ)) (s : σ) : Option ρ :=
 if h : ∃ r n, IF step n s = some r then some (Classical.choose h) else none
@[irreducible] noncomputable def loop {σ ρ : Type} (step : σ → Option (σ ⊕ ρ)) (s : σ) : Option ρ :=
 match IF step 4611686018427387904 s with
 | some r => some r
 | none => Tf step s
theorem Py {σ ρ : Type} {step : σ → Option (σ ⊕ ρ)} {s : σ} {r : ρ} (h : loop step s = some r) : ∃ n, IF step n s = some r := by
 unfold loop at h
 split at h
 ·rename_i r' h'
  cases h
  exact ⟨_, h'⟩
 ·unfold Tf at h
  split at h
  ·rename_i hx
   injection h with h
   rw [← h]
   exact Classical.choose_spec hx
  ·cases h
theorem PM {σ ρ : Type} {step : σ → Option (σ ⊕ ρ)} {s : σ} {r r' : ρ} {n m : Nat} (h : IF step n s = some r) (hm : IF step m s = some r') : r = r' := by
 have h1 := Lm (Nat.le_max_left n m) h
 have h2 := Lm (Nat.le_max_right n m) hm
 rw [h1] at h2
 exact Option.some.inj h2
theorem QC {σ ρ : Type} {step : σ → Option (σ ⊕ ρ)} {s : σ} {r : ρ} {n : Nat} (h : IF step n s = some r) : loop step s = some r := by
 unfold loop
 split
 ·rename_i r' h'
  rw [PM h h']
 ·have hx : ∃ r n, IF step n s = some r := ⟨r, n, h⟩
  unfold Tf
  rw [dif_pos hx]
  obtain ⟨m, hm⟩ := Classical.choose_spec hx
  rw [PM h hm]
theorem CR {σ ρ : Type} {step : σ → Option (σ ⊕ ρ)} {s : σ} {r : ρ} (h : step s = some (.inr r)) : loop step s = some r := QC (n := 1) (by simp [IF, h])
theorem S2 {σ ρ : Type} {step : σ → Option (σ ⊕ ρ)} {s s' : σ} {r : ρ} (h : step s = some (.inl s')) (hr : loop step s' = some r) : loop step s = some r := by
 obtain ⟨n, hn⟩ := Py hr
 exact QC (n := n + 1) (by simp [IF, h, hn])
structure Sl where
 r : Option (Nat × Nat)
 n : Nat
section
variable (h : AH) (a : Nat × Nat)
def NX : Option AA :=
 match Cz (h.get a.1) a.2 1 with
 | some [v] => some v
 | _ => none
def GA (n : Nat) : Option (List AA) := Cz (h.get a.1) a.2 n
end
def YK (k : IntKind) : AA → Option Int
 | .int k' n => if k = k' then some n else none
 | _ => none
def YL : AA → Option (List UInt8)
 | .str s => some s
 | _ => none
def YM : AA → Option (Option (Nat × Nat))
 | .ptr p => some p
 | _ => none
def YJ : AA → Option Sl
 | .slice r n => some ⟨r, n⟩
 | _ => none
def VN (a : Nat × Nat) (n z : Nat) (i : Int) : Option (Nat × Nat) := if 0 ≤ i ∧ i < n then some (a.1, a.2 + i.toNat * z) else none
def XH (s : Sl) (z : Nat) (i : Int) : Option (Nat × Nat) :=
 match s.r with
 | some a => VN a s.n z i
 | none => none
def Nb (s : List UInt8) (i : Int) : Option Int := if 0 ≤ i then (s[i.toNat]?).map fun b => (b.toNat : Int) else none
def TH (n : Nat) (lo hi : Option Int) : Option (Nat × Nat) :=
 match hi with
 | some u =>
  if 0 ≤ u ∧ u ≤ n then
   match lo with
   | some l => if 0 ≤ l ∧ l ≤ u then some (l.toNat, u.toNat) else none
   | none => some (0, u.toNat)
  else none
 | none =>
  match lo with
  | some l => if 0 ≤ l ∧ l ≤ n then some (l.toNat, n) else none
  | none => some (0, n)
theorem OE (k k' : IntKind) (n : Nat) (lo hi : Option Int) : E5 n (lo.map (.int k ·)) (hi.map (.int k' ·)) = TH n lo hi := by
 cases lo <;> cases hi <;> rfl
def LP (s : List UInt8) (lo hi : Option Int) : Option (List UInt8) := (TH s.length lo hi).map fun p => (s.drop p.1).take (p.2 - p.1)
def X1 (h : AH) (a : Nat × Nat) (n z : Nat) (lo hi : Option Int) : Option Sl :=
 match h.get a.1 with
 | some (.cells none _ _) => (TH n lo hi).map fun p => ⟨some (a.1, a.2 + p.1 * z), p.2 - p.1⟩
 | _ => none
def X7 (P : Program) (h : AH) (s : Sl) (z : Nat) (lo hi : Option Int) : Option Sl :=
 match s.r with
 | none => if s.n = 0 then (TH 0 lo hi).map fun _ => ⟨none, 0⟩ else none
 | some a =>
  match h.get a.1 with
  | some (.cells none _ _) => (TH s.n lo hi).map fun p => ⟨some (a.1, a.2 + p.1 * z), p.2 - p.1⟩
  | some (.cells (some e) _ _) => if Cv P e = some z then (TH s.n lo hi).map fun p => ⟨some (a.1, a.2 + p.1 * z), p.2 - p.1⟩ else none
  | _ => none
def XQ (h : AH) (s : Sl) : Option (List UInt8) :=
 match s.r with
 | none => some []
 | some a => if s.n = 0 then (h.get a.1).map (fun _ => []) else (Cz (h.get a.1) a.2 s.n).bind bytesOf
def st (g : Gd) (h : AH) (a : Nat × Nat) (cs : List AA) : Option AH := DO g h a.1 a.2 cs
def XI (n : Nat) (g : Gd) (h : AH) (a : Nat × Nat) (cs : List AA) : Option AH := if cs.length = n then DO g h a.1 a.2 cs else none
def XD (bytes : Nat) (z : List AA) (l c : Int) : Option (List AA) := if 0 ≤ l ∧ l ≤ c ∧ c ≤ 1099511627776 ∧ bytes * c ≤ 1099511627776 then some (FX z c.toNat) else none
def app (e : TypeId) (sz bytes : Nat) (g : Gd) (h : AH) (s : Sl) (n : Nat) (x : AA) : Option (Sl × AH) :=
 if n = 0 then some (s, h)
 else if s.n + n ≤ 1099511627776 ∧ (s.n + n) * bytes ≤ 1099511627776 then
  match (Dv h sz n x).map (·.map GS), Dv h sz s.n (.slice s.r s.n) with
  | some new, some old =>
   if (old ++ new).all AA.one = true then
    match s.r with
    | none => some (⟨some (h.size, 0), s.n + n⟩, h.push (.cells (some e) 2 (old ++ new)))
    | some a =>
     match h.get a.1 with
     | some (.cells (some e') 2 _) =>
      if g.may a.1 = true ∧ e' = e then some (⟨some (h.size, 0), s.n + n⟩, (h.set a.1 (.cells (some e') 0 [])).push (.cells (some e) 2 (old ++ new)))
      else none
     | _ => none
   else none
  | _, _ => none
 else none
def YI (sz : Nat) (g : Gd) (h : AH) (d : Sl) (n : Nat) (x : AA) : Option (Int × AH) :=
 match Dv h sz (min n d.n) x with
 | some new =>
  if min n d.n = 0 then some (0, h) else
  match d.r with
  | some a => (DO g h a.1 a.2 new).map fun h' => (((min n d.n : Nat) : Int), h')
  | none => none
 | none => none
def CM (k : IntKind) (a b : Int) : Int := k.wrap (BitVec.ofInt k.bits a &&& BitVec.ofInt k.bits b).toNat
def M1 (k : IntKind) (a b : Int) : Int := k.wrap (BitVec.ofInt k.bits a ||| BitVec.ofInt k.bits b).toNat
def WZ (k : IntKind) (a b : Int) : Int := k.wrap (BitVec.ofInt k.bits a ^^^ BitVec.ofInt k.bits b).toNat
def KH (k : IntKind) (a b : Int) : Int := k.wrap (a * 2 ^ (min b.toNat k.bits))
def B7 (k : IntKind) (a b : Int) : Int := a.fdiv (2 ^ (min b.toNat k.bits))
def mx (a b : Int) : Int := if b > a then b else a
def M0 (ops : Array Oper) (i : Nat) : Op :=
 match ops[i]? with
 | some o => o.op
 | none => .move (.const (.bool false))
def G8 (ops : Array Oper) (i : Nat) : Option Tmp :=
 match ops[i]? with
 | some o => o.dst
 | none => none
def runs (ops : Array Oper) (fr : Fr) (i : Nat) : Bool :=
 match ops[i]? with
 | some o => (match Cs ops fr o with | some b => b | none => false)
 | none => false
def Sg (ops : Array Oper) (fr : Fr) (i : Nat) : Bool :=
 match ops[i]? with
 | some o => (match Cs ops fr o with | some b => !b | none => false)
 | none => false
section
variable (P : Program) (fr : Fr)
def MW : Op → Option ((Nat × Nat) × Option Nat)
 | .load t x =>
  match ev fr x, Jt P t with
  | .ptr (some a), some true => (Cv P t).map (a, some ·)
  | .ptr (some a), some false => some (a, none)
  | _, _ => none
 | _ => none
def JF : Op → Option ((Nat × Nat) × Nat × AA)
 | .store t x y =>
  match ev fr x with
  | .ptr (some a) => (Cv P t).map fun n => (a, n, ev fr y)
  | _ => none
 | _ => none
def Wn (op : Op) : Option AA :=
 match BE P op with
 | 0 => Iv P fr op
 | _ => none
def Wt (op : Op) (k : Nat) : Option (AA × B4) :=
 match BE P op with
 | 2 => (O4 P fr op).map fun x => (x.1 k, x.2)
 | _ => none
def VU : Op → Option ((Nat × Nat) × Nat × Nat × Int)
 | .indexAddr t x i =>
  match P.underlying t, ev fr x, ev fr i with
  | some (.array n e), .ptr (some a), .int _ i => (Cv P e).map fun z => (a, n, z, i)
  | _, _, _ => none
 | _ => none
def VW : Op → Option (Option (Nat × Nat) × Nat × Nat × Int)
 | .indexAddr t x i =>
  match P.underlying t, ev fr x, ev fr i with
  | some (.slice e), .slice r n, .int _ i => (Cv P e).map fun z => (r, n, z, i)
  | _, _, _ => none
 | _ => none
def Vg : Op → Option (List UInt8 × Int)
 | .index t x i =>
  match P.underlying t, ev fr x, ev fr i with
  | some .string, .str s, .int _ i => some (s, i)
  | _, _, _ => none
 | _ => none
def Ue : Op → Option (List UInt8 × Option AA × Option AA)
 | .slice t x lo hi none =>
  match P.underlying t, ev fr x with
  | some .string, .str s => some (s, lo.map (ev fr), hi.map (ev fr))
  | _, _ => none
 | _ => none
def Tx : Op → Option (Option (Nat × Nat) × Nat)
 | .convert s d x =>
  match P.underlying s, P.underlying d, ev fr x with
  | some (.slice e), some .string, .slice r n =>
   match P.underlying e with
   | some (.int .u8) => some (r, n)
   | _ => none
  | _, _, _ => none
 | _ => none
def Uu : Op → Option (TypeId × Nat × List AA × Int × Int)
 | .makeSlice t l c =>
  match P.underlying t, ev fr l, ev fr c with
  | some (.slice e), .int _ l, .int _ c =>
   match P.info? e with
   | some i =>
    match i.zero.map Ui with
    | some z =>
     match z.cells?.map (·.map GS) with
     | some zc => if zc.length = i.size ∧ zc.all AA.one = true then some (e, i.bytes, zc, l, c) else none
     | none => none
    | none => none
   | none => none
  | _, _, _ => none
 | _ => none
def Ly : Op → Option (FuncId × List AA)
 | .call { callee := .value x, args := as, .. } =>
  match ev fr x with
  | .func (.func f) first cap => some (f, first ++ (as.toList.map (ev fr) ++ cap))
  | _ => none
 | _ => none
def Vj : Op → Option (TypeId × Nat × Nat × Option (Nat × Nat) × Nat × Nat × AA)
 | .call { callee := .builtin .append, args := as, argTypes := ts } =>
  match as.toList.map (ev fr), ts[0]?, ts[1]? with
  | [.slice r sl, x], some st, some xt =>
   match P.underlying st, P.underlying xt, Ow x with
   | some (.slice e), some d, some n =>
    match P.info? e with
    | some i => if JM d = true ∧ i.size ≠ 0 ∧ i.zero.map (·.cells.size) = some i.size then some (e, i.size, i.bytes, r, sl, n, x) else none
    | none => none
   | _, _, _ => none
  | _, _, _ => none
 | _ => none
def Xs : Op → Option (Bool × Option (Nat × Nat))
 | .binOp op t x y _ =>
  match P.underlying t, ev fr x, ev fr y, op with
  | some (.pointer _), .ptr p, .ptr none, .eql => some (true, p)
  | some (.pointer _), .ptr p, .ptr none, .neq => some (false, p)
  | _, _, _, _ => none
 | _ => none
def NY : Op → Option (Bool × IntKind × Int × Int)
 | .binOp op _ x y _ =>
  match ev fr x, ev fr y, op with
  | .int k a, .int _ b, .shl => some (true, k, a, b)
  | .int k a, .int _ b, .shr => some (false, k, a, b)
  | _, _, _ => none
 | _ => none
end
end Go.Av
