/-
 A part.
-/
import Derived.Test.YtlljeoogceblmaaGreatDoorAvMono
import Derived.KernelRfl
namespace Go.Av
def Has (fr : Fr) (N : Nat) (l : List (Nat × AA)) : Prop := fr.length = N ∧ ∀ p ∈ l, nth fr p.1 = p.2
def TN (fr : Fr) (k : Nat) : List (Nat × AA) → AA
 | [] => nth fr k
 | (i, v) :: r => bif Nat.beq i k then v else TN fr k r
def Pu (l : List (Nat × AA)) (fr : Fr) : Nat → Nat → Fr
 | _, 0 => []
 | s, k + 1 => TN fr s l :: Pu l fr (s + 1) k
def CN (N : Nat) (l : List (Nat × AA)) (fr : Fr) : Fr := Pu l fr 0 N
theorem Rp {fr : Fr} {k : Nat} : ∀ {l : List (Nat × AA)}, (∀ p ∈ l, nth fr p.1 = p.2) → TN fr k l = nth fr k
 | [], _ => rfl
 | (i, v) :: r, h => by
  unfold TN
  rw [G1]
  by_cases e : i = k
  ·rw [if_pos e, ← e]; exact (h (i, v) (by simp)).symm
  ·rw [if_neg e]; exact Rp fun p hp => h p (by simp [hp])
theorem O6 {fr : Fr} {l : List (Nat × AA)} (h : ∀ p ∈ l, nth fr p.1 = p.2) : ∀ (k s : Nat), s + k = fr.length → Pu l fr s k = fr.drop s
 | 0, s, e => by
  have : fr.drop s = [] := List.drop_eq_nil_of_le (by omega)
  rw [this]; rfl
 | k + 1, s, e => by
  have hlt : s < fr.length := by omega
  rw [Pu, O6 h k (s + 1) (by omega), Rp h, List.drop_eq_getElem_cons hlt, Dt, List.getD_eq_getElem?_getD, List.getElem?_eq_getElem hlt]
  rfl
theorem Dj {fr : Fr} {N : Nat} {l : List (Nat × AA)} (H : Has fr N l) : CN N l fr = fr := by
 unfold CN
 have e : 0 + N = fr.length := by have := H.1; omega
 rw [O6 H.2 N 0 e, List.drop_zero]
theorem Has.of_map {fr : Fr} {N : Nat} {out : List (Nat × AA)} (h1 : fr.length = N) (h2 : out.map (fun p => nth fr p.1) = out.map (·.2)) : Has fr N out := by
 refine ⟨h1, ?_⟩
 induction out with
 | nil => intro p hp; cases hp
 | cons q out ih =>
  simp only [List.map_cons, List.cons.injEq] at h2
  intro p hp
  cases hp with
  | head => exact h2.1
  | tail _ hp => exact ih h2.2 p hp
theorem Has.less {fr : Fr} {N : Nat} {l : List (Nat × AA)} (H : Has fr N l) (out : List (Nat × AA)) (h : ∀ fr, out.map (fun p => nth (CN N l fr) p.1) = out.map (·.2)) : Has fr N out := by
 have := h fr
 rw [Dj H] at this
 exact Has.of_map H.1 this
theorem bind_some {α β : Type} {a : Option α} {k : α → Option β} {x : β} (h : a.bind k = some x) : ∃ y, a = some y ∧ k y = some x := by
 cases a with
 | none => cases h
 | some y => exact ⟨y, rfl, h⟩
def Ad {α : Type} (b : Bool) (x y : Option α) : Option α :=
 match b with
 | true => x
 | false => y
theorem Ax {α : Type} {b : Bool} {x y : Option α} {r : α} (h : Ad b x y = some r) : (b = true ∧ x = some r) ∨ (b = false ∧ y = some r) := by
 cases b with
 | true => exact .inl ⟨rfl, h⟩
 | false => exact .inr ⟨rfl, h⟩
@[simp] theorem Ah {α : Type} (x y : Option α) : Ad true x y = x := rfl
@[simp] theorem AQ {α : Type} (x y : Option α) : Ad false x y = y := rfl
def D3 {α : Type} (b : Bool) (x : Option α) : Option α :=
 match b with
 | true => x
 | false => none
theorem A4 {α : Type} {b : Bool} {x : Option α} {r : α} (h : D3 b x = some r) : b = true ∧ x = some r := by
 cases b with
 | true => exact ⟨rfl, h⟩
 | false => cases h
@[simp] theorem BO {α : Type} (x : Option α) : D3 true x = x := rfl
def Gl {σ ρ : Type} (step : σ → Option (σ ⊕ ρ)) : Nat → σ → Option ρ
 | 0, _ => none
 | n + 1, s =>
  match step s with
  | some (.inl s') => Gl step n s'
  | some (.inr r) => some r
  | none => none
theorem Ku {σ ρ : Type} {step : σ → Option (σ ⊕ ρ)} : ∀ {n m : Nat} {s : σ} {r : ρ}, n ≤ m → Gl step n s = some r → Gl step m s = some r
 | 0, _, _, _, _, h => by cases h
 | n + 1, 0, _, _, h, _ => by omega
 | n + 1, m + 1, s, r, hle, h => by
  unfold Gl at h ⊢
  cases hs : step s with
  | none => rw [hs] at h; cases h
  | some o =>
   rw [hs] at h
   cases o with
   | inl s' => exact Ku (Nat.le_of_succ_le_succ hle) h
   | inr r' => exact h
open Classical in
noncomputable def Wg {σ ρ : Type} (step : σ → Option (σ ⊕ ρ)) (s : σ) : Option ρ :=
 if h : ∃ r n, Gl step n s = some r then some (Classical.choose h) else none
@[irreducible] noncomputable def loop {σ ρ : Type} (step : σ → Option (σ ⊕ ρ)) (s : σ) : Option ρ :=
 match Gl step 4611686018427387904 s with
 | some r => some r
 | none => Wg step s
theorem P8 {σ ρ : Type} {step : σ → Option (σ ⊕ ρ)} {s : σ} {r : ρ} (h : loop step s = some r) : ∃ n, Gl step n s = some r := by
 unfold loop at h
 split at h
 ·rename_i r' h'
  cases h
  exact ⟨_, h'⟩
 ·unfold Wg at h
  split at h
  ·rename_i hx
   injection h with h
   rw [← h]
   exact Classical.choose_spec hx
  ·cases h
theorem PR {σ ρ : Type} {step : σ → Option (σ ⊕ ρ)} {s : σ} {r r' : ρ} {n m : Nat} (h : Gl step n s = some r) (hm : Gl step m s = some r') : r = r' := by
 have h1 := Ku (Nat.le_max_left n m) h
 have h2 := Ku (Nat.le_max_right n m) hm
 rw [h1] at h2
 exact Option.some.inj h2
theorem QU {σ ρ : Type} {step : σ → Option (σ ⊕ ρ)} {s : σ} {r : ρ} {n : Nat} (h : Gl step n s = some r) : loop step s = some r := by
 unfold loop
 split
 ·rename_i r' h'
  rw [PR h h']
 ·have hx : ∃ r n, Gl step n s = some r := ⟨r, n, h⟩
  unfold Wg
  rw [dif_pos hx]
  obtain ⟨m, hm⟩ := Classical.choose_spec hx
  rw [PR h hm]
theorem KC {σ ρ : Type} {step : σ → Option (σ ⊕ ρ)} {s : σ} {r : ρ} (h : step s = some (.inr r)) : loop step s = some r := QU (n := 1) (by simp [Gl, h])
theorem PM {σ ρ : Type} {step : σ → Option (σ ⊕ ρ)} {s s' : σ} {r : ρ} (h : step s = some (.inl s')) (hr : loop step s' = some r) : loop step s = some r := by
 obtain ⟨n, hn⟩ := P8 hr
 exact QU (n := n + 1) (by simp [Gl, h, hn])
theorem Uo {σ ρ : Type} {step : σ → Option (σ ⊕ ρ)} (inv : σ → Prop) (μ : σ → Nat) (post : ρ → Prop)
  (hs : ∀ s, inv s → (∃ s', step s = some (.inl s') ∧ inv s' ∧ μ s' < μ s) ∨ (∃ r, step s = some (.inr r) ∧ post r)) : ∀ s, inv s → ∃ r, loop step s = some r ∧ post r := by
 have key : ∀ n s, μ s < n → inv s → ∃ r, loop step s = some r ∧ post r := by
  intro n
  induction n with
  | zero => intro s h _; omega
  | succ n ih =>
   intro s hlt hi
   rcases hs s hi with ⟨s', h1, h2, h3⟩ | ⟨r, h1, h2⟩
   ·obtain ⟨r, h4, h5⟩ := ih s' (by omega) h2
    exact ⟨r, PM h1 h4, h5⟩
   ·exact ⟨r, KC h1, h2⟩
 exact fun s hi => key _ s (Nat.lt_succ_self _) hi
structure Sl where
 r : Option (Nat × Nat)
 n : Nat
section
variable (h : AD) (a : Nat × Nat)
def ld1 : Option AA :=
 match Bx (h.get a.1) a.2 1 with
 | some [v] => some v
 | _ => none
def Eh (n : Nat) : Option (List AA) := Bx (h.get a.1) a.2 n
end
def cB (k : IntKind) : AA → Option Int
 | .int k' n => if k = k' then some n else none
 | _ => none
def cA : AA → Option (List UInt8)
 | .str s => some s
 | _ => none
def cD : AA → Option (Option (Nat × Nat))
 | .ptr p => some p
 | _ => none
def cE : AA → Option Sl
 | .slice r n => some ⟨r, n⟩
 | _ => none
def al (a : Nat × Nat) (n z : Nat) (i : Int) : Option (Nat × Nat) := if 0 ≤ i ∧ i < n then some (a.1, a.2 + i.toNat * z) else none
def aO (s : Sl) (z : Nat) (i : Int) : Option (Nat × Nat) :=
 match s.r with
 | some a => al a s.n z i
 | none => none
def LN (s : List UInt8) (i : Int) : Option Int := if 0 ≤ i then (s[i.toNat]?).map fun b => (b.toNat : Int) else none
def Ua (n : Nat) (lo hi : Option Int) : Option (Nat × Nat) :=
 match hi with
 | some u =>
  if 0 ≤ u ∧ u ≤ n then
   match lo with
   | some l => if 0 ≤ l ∧ l ≤ u then some (l.toNat, u.toNat) else none
   | none => some (0, u.toNat)
  else none
 | none =>
  match lo with
  | some l => if 0 ≤ l ∧ l ≤ n then some (l.toNat, n) else none
  | none => some (0, n)
theorem Ih (k k' : IntKind) (n : Nat) (lo hi : Option Int) : Ds n (lo.map (.int k ·)) (hi.map (.int k' ·)) = Ua n lo hi := by
 cases lo <;> cases hi <;> rfl
def FF (s : List UInt8) (lo hi : Option Int) : Option (List UInt8) := (Ua s.length lo hi).map fun p => (s.drop p.1).take (p.2 - p.1)
def bz (h : AD) (a : Nat × Nat) (n z : Nat) (lo hi : Option Int) : Option Sl :=
 match h.get a.1 with
 | some (.cells none _ _) => (Ua n lo hi).map fun p => ⟨some (a.1, a.2 + p.1 * z), p.2 - p.1⟩
 | _ => none
def Wu (P : Program) (h : AD) (s : Sl) (z : Nat) (lo hi : Option Int) : Option Sl :=
 match s.r with
 | none => if s.n = 0 then (Ua 0 lo hi).map fun _ => ⟨none, 0⟩ else none
 | some a =>
  match h.get a.1 with
  | some (.cells none _ _) => (Ua s.n lo hi).map fun p => ⟨some (a.1, a.2 + p.1 * z), p.2 - p.1⟩
  | some (.cells (some e) _ _) => if Bq P e = some z then (Ua s.n lo hi).map fun p => ⟨some (a.1, a.2 + p.1 * z), p.2 - p.1⟩ else none
  | _ => none
def aj (h : AD) (s : Sl) : Option (List UInt8) :=
 match s.r with
 | none => some []
 | some a => if s.n = 0 then (h.get a.1).map (fun _ => []) else (Bx (h.get a.1) a.2 s.n).bind bytesOf
def st (g : Gd) (h : AD) (a : Nat × Nat) (cs : List AA) : Option AD := CA g h a.1 a.2 cs
def aL (n : Nat) (g : Gd) (h : AD) (a : Nat × Nat) (cs : List AA) : Option AD := if cs.length = n then CA g h a.1 a.2 cs else none
def aP (bytes : Nat) (z : List AA) (l c : Int) : Option (List AA) := if 0 ≤ l ∧ l ≤ c ∧ c ≤ 1099511627776 ∧ bytes * c ≤ 1099511627776 then some (D9 z c.toNat) else none
def app (e : TypeId) (sz bytes : Nat) (g : Gd) (h : AD) (s : Sl) (n : Nat) (x : AA) : Option (Sl × AD) :=
 if n = 0 then some (s, h)
 else if s.n + n ≤ 1099511627776 ∧ (s.n + n) * bytes ≤ 1099511627776 then
  match (DC h sz n x).map (·.map EV), DC h sz s.n (.slice s.r s.n) with
  | some new, some Fq =>
   if (Fq ++ new).all AA.one = true then
    match s.r with
    | none => some (⟨some (h.size, 0), s.n + n⟩, h.push (.cells (some e) 2 (Fq ++ new)))
    | some a =>
     match h.get a.1 with
     | some (.cells (some e') 2 _) =>
      if g.may a.1 = true ∧ e' = e then some (⟨some (h.size, 0), s.n + n⟩, (h.set a.1 (.cells (some e') 0 [])).push (.cells (some e) 2 (Fq ++ new)))
      else none
     | _ => none
   else none
  | _, _ => none
 else none
def aK (sz : Nat) (g : Gd) (h : AD) (d : Sl) (n : Nat) (x : AA) : Option (Int × AD) :=
 match DC h sz (min n d.n) x with
 | some new =>
  if min n d.n = 0 then some (0, h) else
  match d.r with
  | some a => (CA g h a.1 a.2 new).map fun h' => (((min n d.n : Nat) : Int), h')
  | none => none
 | none => none
def Wr (k : IntKind) (a b : Int) : Int := k.wrap (BitVec.ofInt k.bits a &&& BitVec.ofInt k.bits b).toNat
def Qp (k : IntKind) (a b : Int) : Int := k.wrap (BitVec.ofInt k.bits a ||| BitVec.ofInt k.bits b).toNat
def HB (k : IntKind) (a b : Int) : Int := k.wrap (a * 2 ^ (min b.toNat k.bits))
def Vb (k : IntKind) (a b : Int) : Int := a.fdiv (2 ^ (min b.toNat k.bits))
def mx (a b : Int) : Int := if b > a then b else a
def mn (a b : Int) : Int := if b < a then b else a
def NN (ops : Array Oper) (i : Nat) : Op :=
 match ops[i]? with
 | some o => o.op
 | none => .move (.const (.bool false))
def GY (ops : Array Oper) (i : Nat) : Option Tmp :=
 match ops[i]? with
 | some o => o.dst
 | none => none
def runs (ops : Array Oper) (fr : Fr) (i : Nat) : Bool :=
 match ops[i]? with
 | some o => (match Bu ops fr o with | some b => b | none => false)
 | none => false
def WZ (ops : Array Oper) (fr : Fr) (i : Nat) : Bool :=
 match ops[i]? with
 | some o => (match Bu ops fr o with | some b => !b | none => false)
 | none => false
section
variable (P : Program) (fr : Fr)
def L9 : Op → Option ((Nat × Nat) × Option Nat)
 | .load t x =>
  match ev fr x, Hw P t with
  | .ptr (some a), some true => (Bq P t).map (a, some ·)
  | .ptr (some a), some false => some (a, none)
  | _, _ => none
 | _ => none
def Ho : Op → Option ((Nat × Nat) × Nat × AA)
 | .store t x y =>
  match ev fr x with
  | .ptr (some a) => (Bq P t).map fun n => (a, n, ev fr y)
  | _ => none
 | _ => none
def Zu (op : Op) : Option AA :=
 match As P op with
 | 0 => Ha P fr op
 | _ => none
def ZQ (op : Op) (k : Nat) : Option (AA × BY) :=
 match As P op with
 | 2 => (Ot P fr op).map fun x => (x.1 k, x.2)
 | _ => none
def bY : Op → Option ((Nat × Nat) × Nat × Nat × Int)
 | .indexAddr t x i =>
  match P.underlying t, ev fr x, ev fr i with
  | some (.array n e), .ptr (some a), .int _ i => (Bq P e).map fun z => (a, n, z, i)
  | _, _, _ => none
 | _ => none
def X0 : Op → Option (Option (Nat × Nat) × Nat × Nat × Int)
 | .indexAddr t x i =>
  match P.underlying t, ev fr x, ev fr i with
  | some (.slice e), .slice r n, .int _ i => (Bq P e).map fun z => (r, n, z, i)
  | _, _, _ => none
 | _ => none
def Xk : Op → Option (List UInt8 × Int)
 | .index t x i =>
  match P.underlying t, ev fr x, ev fr i with
  | some .string, .str s, .int _ i => some (s, i)
  | _, _, _ => none
 | _ => none
def Vw : Op → Option (List UInt8 × Option AA × Option AA)
 | .slice t x lo hi none =>
  match P.underlying t, ev fr x with
  | some .string, .str s => some (s, lo.map (ev fr), hi.map (ev fr))
  | _, _ => none
 | _ => none
def WB : Op → Option (Option (Nat × Nat) × Nat × Nat × Option AA × Option AA)
 | .slice t x lo hi none =>
  match P.underlying t, ev fr x with
  | some (.slice e), .slice r n => (Bq P e).map fun z => (r, n, z, lo.map (ev fr), hi.map (ev fr))
  | _, _ => none
 | _ => none
def Wj : Op → Option (Option (Nat × Nat) × Nat)
 | .convert s d x =>
  match P.underlying s, P.underlying d, ev fr x with
  | some (.slice e), some .string, .slice r n =>
   match P.underlying e with
   | some (.int .u8) => some (r, n)
   | _ => none
  | _, _, _ => none
 | _ => none
def Xe : Op → Option (TypeId × Nat × List AA × Int × Int)
 | .makeSlice t l c =>
  match P.underlying t, ev fr l, ev fr c with
  | some (.slice e), .int _ l, .int _ c =>
   match P.info? e with
   | some i =>
    match i.zero.map Wp with
    | some z =>
     match z.cells?.map (·.map EV) with
     | some zc => if zc.length = i.size ∧ zc.all AA.one = true then some (e, i.bytes, zc, l, c) else none
     | none => none
    | none => none
   | none => none
  | _, _, _ => none
 | _ => none
def L7 : Op → Option (FuncId × List AA)
 | .call { callee := .value x, args := as, .. } =>
  match ev fr x with
  | .func (.func f) first cap => some (f, first ++ (as.toList.map (ev fr) ++ cap))
  | _ => none
 | _ => none
def X4 : Op → Option (TypeId × Nat × Nat × Option (Nat × Nat) × Nat × Nat × AA)
 | .call { callee := .builtin .append, args := as, argTypes := ts } =>
  match as.toList.map (ev fr), ts[0]?, ts[1]? with
  | [.slice r sl, x], some st, some xt =>
   match P.underlying st, P.underlying xt, Nn x with
   | some (.slice e), some d, some n =>
    match P.info? e with
    | some i => if H2 d = true ∧ i.size ≠ 0 ∧ i.zero.map (·.cells.size) = some i.size then some (e, i.size, i.bytes, r, sl, n, x) else none
    | none => none
   | _, _, _ => none
  | _, _, _ => none
 | _ => none
def Xu : Op → Option (Nat × Option (Nat × Nat) × Nat × Nat × AA)
 | .call { callee := .builtin .copy, args := as, argTypes := ts } =>
  match as.toList.map (ev fr), ts[0]? with
  | [.slice r dl, x], some dt =>
   match P.underlying dt, Nn x with
   | some (.slice e), some n => (Bq P e).map fun z => (z, r, dl, n, x)
   | _, _ => none
  | _, _ => none
 | _ => none
def bS : Op → Option (Bool × Option (Nat × Nat))
 | .binOp op t x y _ =>
  match P.underlying t, ev fr x, ev fr y, op with
  | some (.pointer _), .ptr p, .ptr none, .eql => some (true, p)
  | some (.pointer _), .ptr p, .ptr none, .neq => some (false, p)
  | _, _, _, _ => none
 | _ => none
def T8 : Op → Option (Bool × IntKind × Int × Int)
 | .binOp op _ x y _ =>
  match ev fr x, ev fr y, op with
  | .int k a, .int _ b, .shl => some (true, k, a, b)
  | .int k a, .int _ b, .shr => some (false, k, a, b)
  | _, _, _ => none
 | _ => none
def X2 : Op → Option (List UInt8 × List UInt8)
 | .binOp op _ x y _ =>
  match ev fr x, ev fr y, op with
  | .str a, .str b, .add => some (a, b)
  | _, _, _ => none
 | _ => none
end
end Go.Av
