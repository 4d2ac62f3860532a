/-
 A part.
-/
import Derived.Test.YtlljeoogceblmaaGreatDoorAvMono
import Derived.KernelRfl
namespace Go.Av
def Has (fr : Fr) (N : Nat) (l : List (Nat × AB)) : Prop := fr.length = N ∧ ∀ p ∈ l, nth fr p.1 = p.2
def UN (fr : Fr) (k : Nat) : List (Nat × AB) → AB
 | [] => nth fr k
 | (i, v) :: r => bif Nat.beq i k then v else UN fr k r
def Qq (l : List (Nat × AB)) (fr : Fr) : Nat → Nat → Fr
 | _, 0 => []
 | s, k + 1 => UN fr s l :: Qq l fr (s + 1) k
def Cb (N : Nat) (l : List (Nat × AB)) (fr : Fr) : Fr := Qq l fr 0 N
theorem R4 {fr : Fr} {k : Nat} : ∀ {l : List (Nat × AB)}, (∀ p ∈ l, nth fr p.1 = p.2) → UN fr k l = nth fr k
 | [], _ => rfl
 | (i, v) :: r, h => by
  unfold UN
  rw [HP]
  by_cases e : i = k
  ·rw [if_pos e, ← e]; exact (h (i, v) (by simp)).symm
  ·rw [if_neg e]; exact R4 fun p hp => h p (by simp [hp])
theorem Pj {fr : Fr} {l : List (Nat × AB)} (h : ∀ p ∈ l, nth fr p.1 = p.2) : ∀ (k s : Nat), s + k = fr.length → Qq l fr s k = fr.drop s
 | 0, s, e => by
  have : fr.drop s = [] := List.drop_eq_nil_of_le (by omega)
  rw [this]; rfl
 | k + 1, s, e => by
  have hlt : s < fr.length := by omega
  rw [Qq, Pj h k (s + 1) (by omega), R4 h, List.drop_eq_getElem_cons hlt, EZ, List.getD_eq_getElem?_getD, List.getElem?_eq_getElem hlt]
  rfl
theorem EA {fr : Fr} {N : Nat} {l : List (Nat × AB)} (H : Has fr N l) : Cb N l fr = fr := by
 unfold Cb
 have e : 0 + N = fr.length := by have := H.1; omega
 rw [Pj H.2 N 0 e, List.drop_zero]
theorem Has.of_map {fr : Fr} {N : Nat} {out : List (Nat × AB)} (h1 : fr.length = N) (h2 : out.map (fun p => nth fr p.1) = out.map (·.2)) : Has fr N out := by
 refine ⟨h1, ?_⟩
 induction out with
 | nil => intro p hp; cases hp
 | cons q out ih =>
  simp only [List.map_cons, List.cons.injEq] at h2
  intro p hp
  cases hp with
  | head => exact h2.1
  | tail _ hp => exact ih h2.2 p hp
theorem Has.less {fr : Fr} {N : Nat} {l : List (Nat × AB)} (H : Has fr N l) (out : List (Nat × AB)) (h : ∀ fr, out.map (fun p => nth (Cb N l fr) p.1) = out.map (·.2)) : Has fr N out := by
 have := h fr
 rw [EA H] at this
 exact Has.of_map H.1 this
theorem bind_some {α β : Type} {a : Option α} {k : α → Option β} {x : β} (h : a.bind k = some x) : ∃ y, a = some y ∧ k y = some x := by
 cases a with
 | none => cases h
 | some y => exact ⟨y, rfl, h⟩
def Aa {α : Type} (b : Bool) (x y : Option α) : Option α :=
 match b with
 | true => x
 | false => y
theorem Ar {α : Type} {b : Bool} {x y : Option α} {r : α} (h : Aa b x y = some r) : (b = true ∧ x = some r) ∨ (b = false ∧ y = some r) := by
 cases b with
 | true => exact .inl ⟨rfl, h⟩
 | false => exact .inr ⟨rfl, h⟩
@[simp] theorem AU {α : Type} (x y : Option α) : Aa true x y = x := rfl
@[simp] theorem AM {α : Type} (x y : Option α) : Aa false x y = y := rfl
def BS {α : Type} (b : Bool) (x : Option α) : Option α :=
 match b with
 | true => x
 | false => none
theorem AO {α : Type} {b : Bool} {x : Option α} {r : α} (h : BS b x = some r) : b = true ∧ x = some r := by
 cases b with
 | true => exact ⟨rfl, h⟩
 | false => cases h
@[simp] theorem Af {α : Type} (x : Option α) : BS true x = x := rfl
def HM {σ ρ : Type} (step : σ → Option (σ ⊕ ρ)) : Nat → σ → Option ρ
 | 0, _ => none
 | n + 1, s =>
  match step s with
  | some (.inl s') => HM step n s'
  | some (.inr r) => some r
  | none => none
theorem LX {σ ρ : Type} {step : σ → Option (σ ⊕ ρ)} : ∀ {n m : Nat} {s : σ} {r : ρ}, n ≤ m → HM step n s = some r → HM step m s = some r
 | 0, _, _, _, _, h => by cases h
 | n + 1, 0, _, _, h, _ => by omega
 | n + 1, m + 1, s, r, hle, h => by
  unfold HM at h ⊢
  cases hs : step s with
  | none => rw [hs] at h; cases h
  | some o =>
   rw [hs] at h
   cases o with
   | inl s' => exact LX (Nat.le_of_succ_le_succ hle) h
   | inr r' => exact h
open Classical in
noncomputable def WK {σ ρ : Type} (step : σ → Option (σ ⊕ ρ)) (s : σ) : Option ρ :=
 if h : ∃ r n, HM step n s = some r then some (Classical.choose h) else none
@[irreducible] noncomputable def loop {σ ρ : Type} (step : σ → Option (σ ⊕ ρ)) (s : σ) : Option ρ :=
 match HM step 4611686018427387904 s with
 | some r => some r
 | none => WK step s
theorem QV {σ ρ : Type} {step : σ → Option (σ ⊕ ρ)} {s : σ} {r : ρ} (h : loop step s = some r) : ∃ n, HM step n s = some r := by
 unfold loop at h
 split at h
 ·rename_i r' h'
  cases h
  exact ⟨_, h'⟩
 ·unfold WK at h
  split at h
  ·rename_i hx
   injection h with h
   rw [← h]
   exact Classical.choose_spec hx
  ·cases h
theorem P0 {σ ρ : Type} {step : σ → Option (σ ⊕ ρ)} {s : σ} {r r' : ρ} {n m : Nat} (h : HM step n s = some r) (hm : HM step m s = some r') : r = r' := by
 have h1 := LX (Nat.le_max_left n m) h
 have h2 := LX (Nat.le_max_right n m) hm
 rw [h1] at h2
 exact Option.some.inj h2
theorem Qw {σ ρ : Type} {step : σ → Option (σ ⊕ ρ)} {s : σ} {r : ρ} {n : Nat} (h : HM step n s = some r) : loop step s = some r := by
 unfold loop
 split
 ·rename_i r' h'
  rw [P0 h h']
 ·have hx : ∃ r n, HM step n s = some r := ⟨r, n, h⟩
  unfold WK
  rw [dif_pos hx]
  obtain ⟨m, hm⟩ := Classical.choose_spec hx
  rw [P0 h hm]
theorem K4 {σ ρ : Type} {step : σ → Option (σ ⊕ ρ)} {s : σ} {r : ρ} (h : step s = some (.inr r)) : loop step s = some r := Qw (n := 1) (by simp [HM, h])
theorem PN {σ ρ : Type} {step : σ → Option (σ ⊕ ρ)} {s s' : σ} {r : ρ} (h : step s = some (.inl s')) (hr : loop step s' = some r) : loop step s = some r := by
 obtain ⟨n, hn⟩ := QV hr
 exact Qw (n := n + 1) (by simp [HM, h, hn])
theorem UP {σ ρ : Type} {step : σ → Option (σ ⊕ ρ)} (inv : σ → Prop) (μ : σ → Nat) (post : ρ → Prop)
  (hs : ∀ s, inv s → (∃ s', step s = some (.inl s') ∧ inv s' ∧ μ s' < μ s) ∨ (∃ r, step s = some (.inr r) ∧ post r)) : ∀ s, inv s → ∃ r, loop step s = some r ∧ post r := by
 have key : ∀ n s, μ s < n → inv s → ∃ r, loop step s = some r ∧ post r := by
  intro n
  induction n with
  | zero => intro s h _; omega
  | succ n ih =>
   intro s hlt hi
   rcases hs s hi with ⟨s', h1, h2, h3⟩ | ⟨r, h1, h2⟩
   ·obtain ⟨r, h4, h5⟩ := ih s' (by omega) h2
    exact ⟨r, PN h1 h4, h5⟩
   ·exact ⟨r, K4 h1, h2⟩
 exact fun s hi => key _ s (Nat.lt_succ_self _) hi
structure Sl where
 r : Option (Nat × Nat)
 n : Nat
section
variable (h : AD) (a : Nat × Nat)
def ld1 : Option AB :=
 match CM (h.get a.1) a.2 1 with
 | some [v] => some v
 | _ => none
def ET (n : Nat) : Option (List AB) := CM (h.get a.1) a.2 n
end
def bU (k : IntKind) : AB → Option Int
 | .int k' n => if k = k' then some n else none
 | _ => none
def bT : AB → Option (List UInt8)
 | .str s => some s
 | _ => none
def bS : AB → Option (Option (Nat × Nat))
 | .ptr p => some p
 | _ => none
def bR : AB → Option Sl
 | .slice r n => some ⟨r, n⟩
 | _ => none
def aP (a : Nat × Nat) (n z : Nat) (i : Int) : Option (Nat × Nat) := if 0 ≤ i ∧ i < n then some (a.1, a.2 + i.toNat * z) else none
def aM (s : Sl) (z : Nat) (i : Int) : Option (Nat × Nat) :=
 match s.r with
 | some a => aP a s.n z i
 | none => none
def MZ (s : List UInt8) (i : Int) : Option Int := if 0 ≤ i then (s[i.toNat]?).map fun b => (b.toNat : Int) else none
def Tj (n : Nat) (lo hi : Option Int) : Option (Nat × Nat) :=
 match hi with
 | some u =>
  if 0 ≤ u ∧ u ≤ n then
   match lo with
   | some l => if 0 ≤ l ∧ l ≤ u then some (l.toNat, u.toNat) else none
   | none => some (0, u.toNat)
  else none
 | none =>
  match lo with
  | some l => if 0 ≤ l ∧ l ≤ n then some (l.toNat, n) else none
  | none => some (0, n)
theorem H3 (k k' : IntKind) (n : Nat) (lo hi : Option Int) : EN n (lo.map (.int k ·)) (hi.map (.int k' ·)) = Tj n lo hi := by
 cases lo <;> cases hi <;> rfl
def D7 (s : List UInt8) (lo hi : Option Int) : Option (List UInt8) := (Tj s.length lo hi).map fun p => (s.drop p.1).take (p.2 - p.1)
def X6 (h : AD) (a : Nat × Nat) (n z : Nat) (lo hi : Option Int) : Option Sl :=
 match h.get a.1 with
 | some (.cells none _ _) => (Tj n lo hi).map fun p => ⟨some (a.1, a.2 + p.1 * z), p.2 - p.1⟩
 | _ => none
def XJ (P : Program) (h : AD) (s : Sl) (z : Nat) (lo hi : Option Int) : Option Sl :=
 match s.r with
 | none => if s.n = 0 then (Tj 0 lo hi).map fun _ => ⟨none, 0⟩ else none
 | some a =>
  match h.get a.1 with
  | some (.cells none _ _) => (Tj s.n lo hi).map fun p => ⟨some (a.1, a.2 + p.1 * z), p.2 - p.1⟩
  | some (.cells (some e) _ _) => if CE P e = some z then (Tj s.n lo hi).map fun p => ⟨some (a.1, a.2 + p.1 * z), p.2 - p.1⟩ else none
  | _ => none
def au (h : AD) (s : Sl) : Option (List UInt8) :=
 match s.r with
 | none => some []
 | some a => if s.n = 0 then (h.get a.1).map (fun _ => []) else (CM (h.get a.1) a.2 s.n).bind bytesOf
def st (g : Gd) (h : AD) (a : Nat × Nat) (cs : List AB) : Option AD := CN g h a.1 a.2 cs
def aK (n : Nat) (g : Gd) (h : AD) (a : Nat × Nat) (cs : List AB) : Option AD := if cs.length = n then CN g h a.1 a.2 cs else none
def aI (bytes : Nat) (z : List AB) (l c : Int) : Option (List AB) := if 0 ≤ l ∧ l ≤ c ∧ c ≤ 1099511627776 ∧ bytes * c ≤ 1099511627776 then some (EW z c.toNat) else none
def app (e : TypeId) (sz bytes : Nat) (g : Gd) (h : AD) (s : Sl) (n : Nat) (x : AB) : Option (Sl × AD) :=
 if n = 0 then some (s, h)
 else if s.n + n ≤ 1099511627776 ∧ (s.n + n) * bytes ≤ 1099511627776 then
  match (Db h sz n x).map (·.map FC), Db h sz s.n (.slice s.r s.n) with
  | some new, some Gp =>
   if (Gp ++ new).all AB.one = true then
    match s.r with
    | none => some (⟨some (h.size, 0), s.n + n⟩, h.push (.cells (some e) 2 (Gp ++ new)))
    | some a =>
     match h.get a.1 with
     | some (.cells (some e') 2 _) =>
      if g.may a.1 = true ∧ e' = e then some (⟨some (h.size, 0), s.n + n⟩, (h.set a.1 (.cells (some e') 0 [])).push (.cells (some e) 2 (Gp ++ new)))
      else none
     | _ => none
   else none
  | _, _ => none
 else none
def aG (sz : Nat) (g : Gd) (h : AD) (d : Sl) (n : Nat) (x : AB) : Option (Int × AD) :=
 match Db h sz (min n d.n) x with
 | some new =>
  if min n d.n = 0 then some (0, h) else
  match d.r with
  | some a => (CN g h a.1 a.2 new).map fun h' => (((min n d.n : Nat) : Int), h')
  | none => none
 | none => none
def XO (k : IntKind) (a b : Int) : Int := k.wrap (BitVec.ofInt k.bits a &&& BitVec.ofInt k.bits b).toNat
def Ud (k : IntKind) (a b : Int) : Int := k.wrap (a * 2 ^ (min b.toNat k.bits))
def VS (k : IntKind) (a b : Int) : Int := a.fdiv (2 ^ (min b.toNat k.bits))
def mx (a b : Int) : Int := if b > a then b else a
def mn (a b : Int) : Int := if b < a then b else a
def Ns (ops : Array Oper) (i : Nat) : Op :=
 match ops[i]? with
 | some o => o.op
 | none => .move (.const (.bool false))
def Gk (ops : Array Oper) (i : Nat) : Option Tmp :=
 match ops[i]? with
 | some o => o.dst
 | none => none
def runs (ops : Array Oper) (fr : Fr) (i : Nat) : Bool :=
 match ops[i]? with
 | some o => (match B7 ops fr o with | some b => b | none => false)
 | none => false
def To (ops : Array Oper) (fr : Fr) (i : Nat) : Bool :=
 match ops[i]? with
 | some o => (match B7 ops fr o with | some b => !b | none => false)
 | none => false
section
variable (P : Program) (fr : Fr)
def Mx : Op → Option ((Nat × Nat) × Option Nat)
 | .load t x =>
  match ev fr x, Iu P t with
  | .ptr (some a), some true => (CE P t).map (a, some ·)
  | .ptr (some a), some false => some (a, none)
  | _, _ => none
 | _ => none
def IT : Op → Option ((Nat × Nat) × Nat × AB)
 | .store t x y =>
  match ev fr x with
  | .ptr (some a) => (CE P t).map fun n => (a, n, ev fr y)
  | _ => none
 | _ => none
def ZT (op : Op) : Option AB :=
 match As P op with
 | 0 => IF P fr op
 | _ => none
def aA (op : Op) (k : Nat) : Option (AB × Bm) :=
 match As P op with
 | 2 => (O4 P fr op).map fun x => (x.1 k, x.2)
 | _ => none
def a8 : Op → Option ((Nat × Nat) × Nat × Nat × Int)
 | .indexAddr t x i =>
  match P.underlying t, ev fr x, ev fr i with
  | some (.array n e), .ptr (some a), .int _ i => (CE P e).map fun z => (a, n, z, i)
  | _, _, _ => none
 | _ => none
def YG : Op → Option (Option (Nat × Nat) × Nat × Nat × Int)
 | .indexAddr t x i =>
  match P.underlying t, ev fr x, ev fr i with
  | some (.slice e), .slice r n, .int _ i => (CE P e).map fun z => (r, n, z, i)
  | _, _, _ => none
 | _ => none
def YK : Op → Option (List UInt8 × Int)
 | .index t x i =>
  match P.underlying t, ev fr x, ev fr i with
  | some .string, .str s, .int _ i => some (s, i)
  | _, _, _ => none
 | _ => none
def V6 : Op → Option (List UInt8 × Option AB × Option AB)
 | .slice t x lo hi none =>
  match P.underlying t, ev fr x with
  | some .string, .str s => some (s, lo.map (ev fr), hi.map (ev fr))
  | _, _ => none
 | _ => none
def V5 : Op → Option ((Nat × Nat) × Nat × Nat × Option AB × Option AB)
 | .slice t x lo hi none =>
  match P.underlying t, ev fr x with
  | some (.array n e), .ptr (some a) => (CE P e).map fun z => (a, n, z, lo.map (ev fr), hi.map (ev fr))
  | _, _ => none
 | _ => none
def Ws : Op → Option (Option (Nat × Nat) × Nat × Nat × Option AB × Option AB)
 | .slice t x lo hi none =>
  match P.underlying t, ev fr x with
  | some (.slice e), .slice r n => (CE P e).map fun z => (r, n, z, lo.map (ev fr), hi.map (ev fr))
  | _, _ => none
 | _ => none
def Vy : Op → Option (Option (Nat × Nat) × Nat)
 | .convert s d x =>
  match P.underlying s, P.underlying d, ev fr x with
  | some (.slice e), some .string, .slice r n =>
   match P.underlying e with
   | some (.int .u8) => some (r, n)
   | _ => none
  | _, _, _ => none
 | _ => none
def Xe : Op → Option (TypeId × Nat × List AB × Int × Int)
 | .makeSlice t l c =>
  match P.underlying t, ev fr l, ev fr c with
  | some (.slice e), .int _ l, .int _ c =>
   match P.info? e with
   | some i =>
    match i.zero.map XE with
    | some z =>
     match z.cells?.map (·.map FC) with
     | some zc => if zc.length = i.size ∧ zc.all AB.one = true then some (e, i.bytes, zc, l, c) else none
     | none => none
    | none => none
   | none => none
  | _, _, _ => none
 | _ => none
def Mw : Op → Option (FuncId × List AB)
 | .call { callee := .value x, args := as, .. } =>
  match ev fr x with
  | .func (.func f) first cap => some (f, first ++ (as.toList.map (ev fr) ++ cap))
  | _ => none
 | _ => none
def YN : Op → Option (TypeId × Nat × Nat × Option (Nat × Nat) × Nat × Nat × AB)
 | .call { callee := .builtin .append, args := as, argTypes := ts } =>
  match as.toList.map (ev fr), ts[0]?, ts[1]? with
  | [.slice r sl, x], some st, some xt =>
   match P.underlying st, P.underlying xt, Oa x with
   | some (.slice e), some d, some n =>
    match P.info? e with
    | some i => if Il d = true ∧ i.size ≠ 0 ∧ i.zero.map (·.cells.size) = some i.size then some (e, i.size, i.bytes, r, sl, n, x) else none
    | none => none
   | _, _, _ => none
  | _, _, _ => none
 | _ => none
def YF : Op → Option (Nat × Option (Nat × Nat) × Nat × Nat × AB)
 | .call { callee := .builtin .copy, args := as, argTypes := ts } =>
  match as.toList.map (ev fr), ts[0]? with
  | [.slice r dl, x], some dt =>
   match P.underlying dt, Oa x with
   | some (.slice e), some n => (CE P e).map fun z => (z, r, dl, n, x)
   | _, _ => none
  | _, _ => none
 | _ => none
def ay : Op → Option (Bool × Option (Nat × Nat))
 | .binOp op t x y _ =>
  match P.underlying t, ev fr x, ev fr y, op with
  | some (.pointer _), .ptr p, .ptr none, .eql => some (true, p)
  | some (.pointer _), .ptr p, .ptr none, .neq => some (false, p)
  | _, _, _, _ => none
 | _ => none
def Ta : Op → Option (Bool × IntKind × Int × Int)
 | .binOp op _ x y _ =>
  match ev fr x, ev fr y, op with
  | .int k a, .int k' b, .quo => if k = k' then some (true, k, a, b) else none
  | .int k a, .int k' b, .rem => if k = k' then some (false, k, a, b) else none
  | _, _, _ => none
 | _ => none
def UH : Op → Option (Bool × IntKind × Int × Int)
 | .binOp op _ x y _ =>
  match ev fr x, ev fr y, op with
  | .int k a, .int _ b, .shl => some (true, k, a, b)
  | .int k a, .int _ b, .shr => some (false, k, a, b)
  | _, _, _ => none
 | _ => none
def YP : Op → Option (List UInt8 × List UInt8)
 | .binOp op _ x y _ =>
  match ev fr x, ev fr y, op with
  | .str a, .str b, .add => some (a, b)
  | _, _, _ => none
 | _ => none
end
end Go.Av
