/-
 A part.
-/
import Derived.Test.YtlljeoogceblmaaGreatDoorAvEq
namespace Go.Av
open Go.RowKit
section
variable {P : Program} {m : A4} (w : World)
theorem VR.Bo {k : IntKind} {n : Int} {v : Value} (h : VR m (.int k n) v) : v = .int k n := by cases h; rfl
theorem VR.I9 {b : Bool} {v : Value} (h : VR m (.bool b) v) : v = .bool b := by cases h; rfl
theorem JQ {op : BinOp} {t : TypeId} {k : IntKind} {a b : Int} {v : AB} (h : Ld op k a b = some v) :
  ∃ v', (binOp op t (.int k a) (.int k b)).run P w = .ok v' w ∧ VR m v v' := by
 cases op <;> simp [Ld] at h
 case quo => obtain ⟨hb, rfl⟩ := h; exact ⟨_, by simp [binOp, Op.intDiv, hb], .int _ _⟩
 case rem => obtain ⟨hb, rfl⟩ := h; exact ⟨_, by simp [binOp, Op.intDiv, hb], .int _ _⟩
 all_goals subst h
 case add => exact ⟨_, by simp [binOp, Op.intArith], .int _ _⟩
 case sub => exact ⟨_, by simp [binOp, Op.intArith], .int _ _⟩
 case mul => exact ⟨_, by simp [binOp, Op.intArith], .int _ _⟩
 case and => exact ⟨.int k (k.wrap (BitVec.ofInt k.bits a &&& BitVec.ofInt k.bits b).toNat), by simp [binOp, Op.intBits], by simpa using VR.int (m := m) k _⟩
 case or => exact ⟨.int k (k.wrap (BitVec.ofInt k.bits a ||| BitVec.ofInt k.bits b).toNat), by simp [binOp, Op.intBits], by simpa using VR.int (m := m) k _⟩
 case xor => exact ⟨.int k (k.wrap (BitVec.ofInt k.bits a ^^^ BitVec.ofInt k.bits b).toNat), by simp [binOp, Op.intBits], by simpa using VR.int (m := m) k _⟩
 case andNot => exact ⟨.int k (k.wrap (BitVec.ofInt k.bits a &&& ~~~BitVec.ofInt k.bits b).toNat), by simp [binOp, Op.intBits], by simpa using VR.int (m := m) k _⟩
 all_goals exact ⟨_, by simp [binOp, Op.intCmp]; rfl, by first | exact .bool _ | simpa using VR.bool (m := m) _⟩
theorem Lw {op : BinOp} {t : TypeId} {k yk : IntKind} {a b : Int} {v : AB} (h : Ql op k a b = some v) :
  ∃ v', (binOp op t (.int k a) (.int yk b)).run P w = .ok v' w ∧ VR m v v' := by
 unfold Ql at h
 split at h
 ·cases h
 ·rename_i hb
  cases op <;> simp at h
  case shl => subst h; exact ⟨_, by simp [binOp, Op.shift, hb], .int _ _⟩
  case shr => subst h; exact ⟨_, by simp [binOp, Op.shift, hb], .int _ _⟩
theorem QX {op : BinOp} {t : TypeId} {a b : List UInt8} {v : AB} (h : QZ op a b = some v) :
  ∃ v', (binOp op t (.string ⟨⟨a⟩⟩) (.string ⟨⟨b⟩⟩)).run P w = .ok v' w ∧ VR m v v' := by
 have ea : ByteArray.toList ⟨⟨a⟩⟩ = a := by rw [ByteArray.toList_eq]
 have eb : ByteArray.toList ⟨⟨b⟩⟩ = b := by rw [ByteArray.toList_eq]
 cases op <;> simp [QZ] at h
 case add =>
  obtain ⟨hl, rfl⟩ := h
  refine ⟨.string (⟨⟨a⟩⟩ ++ ⟨⟨b⟩⟩), ?_, ?_⟩
  ·have : ¬ ((9223372036854775807 : Int) < ((⟨⟨a⟩⟩ : ByteArray).size : Int) + ((⟨⟨b⟩⟩ : ByteArray).size : Int)) := by
    simp [ByteArray.size]; omega
   simp [binOp, Op.stringOp, this]
  ·have := VR.str (m := m) (⟨⟨a⟩⟩ ++ ⟨⟨b⟩⟩)
   simpa [ByteArray.append, ByteArray.data_append] using this
 all_goals subst h; exact ⟨_, by simp [binOp, Op.stringOp, ea, eb]; rfl, by first | exact .bool _ | simpa using VR.bool (m := m) _⟩
theorem EM {op : BinOp} {t : TypeId} {ox oy : Operand} {x y : Value} {v : Value} (hg : (eqGuard op t ox oy x y).run P w = .ok () w) (h : (binOp op t x y).run P w = .ok v w) :
  (do eqGuard op t ox oy x y; binOp op t x y : Sem Value).run P w = .ok v w := by
 rw [Sem.run_bind, hg]; exact h
theorem Gs {op : BinOp} {t : TypeId} {ox oy : Operand} {x y : Value} (hx : ∀ a, x ≠ .agg a) (hn : x ≠ .nilIface) : (eqGuard op t ox oy x y).run P w = .ok () w := by
 cases x <;> first | exact absurd rfl hn | exact absurd rfl (hx _) | (cases op <;> simp [eqGuard])
theorem FI {op : BinOp} {t : TypeId} {x y : Value} {b : Bool} (hi : ∀ k n, x ≠ .int k n) (hs : ∀ s, x ≠ .string s) (hf : ∀ k n, x ≠ .float k n) (hc : ∀ k a b, x ≠ .complex k a b)
  (hop : op = .eql ∨ op = .neq) (h : (Op.equalIn 10000 t x y).run P w = .ok b w) : (binOp op t x y).run P w = .ok (.bool (if op = .eql then b else !b)) w := by
 rcases hop with rfl | rfl <;> cases x <;>
  first
   | exact absurd rfl (hi _ _) | exact absurd rfl (hs _) | exact absurd rfl (hf _ _) | exact absurd rfl (hc _ _ _)
   | simp [binOp, Op.equal, Op.maxDepth, h]
theorem Sf {op : BinOp} {t : TypeId} {ox oy : Operand} {x y : AB} {x' y' : Value} {v : AB} (hx : VR m x x') (hy : VR m y y') (h : TO P op t x y = some v) :
  ∃ v', (do eqGuard op t ox oy x' y'; binOp op t x' y' : Sem Value).run P w = .ok v' w ∧ VR m v v' := by
 unfold TO at h
 split at h
 ·-- int, int
  rename_i k a k' b
  have := hx.Bo; subst this
  have := hy.Bo; subst this
  have hg := Gs (P := P) w (op := op) (t := t) (ox := ox) (oy := oy) (x := .int k a) (y := .int k' b) (fun a h => by cases h) (fun h => by cases h)
  split at h
  ·obtain ⟨v', h1, h2⟩ := Lw (P := P) (m := m) (t := t) (yk := k') w h; exact ⟨v', EM w hg h1, h2⟩
  ·obtain ⟨v', h1, h2⟩ := Lw (P := P) (m := m) (t := t) (yk := k') w h; exact ⟨v', EM w hg h1, h2⟩
  ·split at h
   ·rename_i hk; subst hk
    obtain ⟨v', h1, h2⟩ := JQ (P := P) (m := m) (t := t) w h; exact ⟨v', EM w hg h1, h2⟩
   ·cases h
 ·rename_i a b
  have := hx.Dk; subst this
  have := hy.Dk; subst this
  have hg := Gs (P := P) w (op := op) (t := t) (ox := ox) (oy := oy) (x := .string ⟨⟨a⟩⟩) (y := .string ⟨⟨b⟩⟩) (fun a h => by cases h) (fun h => by cases h)
  obtain ⟨v', h1, h2⟩ := QX (P := P) (m := m) (t := t) w h; exact ⟨v', EM w hg h1, h2⟩
 ·rename_i xs ys
  obtain ⟨xs', rfl, vx⟩ := hx.FG
  obtain ⟨ys', rfl, vy⟩ := hy.FG
  split at h
  ·cases h
  ·rename_i hgt
   have hg := run_eqGuard_agg (P := P) w op t ox oy xs' ys' (by simpa using hgt)
   split at h
   ·cases he : IG P 10000 t (.agg xs) (.agg ys) with
    | none => simp [he] at h
    | some b =>
     simp only [he, Option.map_some, Option.some.injEq] at h; subst h
     exact ⟨_, EM w hg (FI w (by simp) (by simp) (by simp) (by simp) (.inl rfl) (IL w _ _ _ _ _ _ _ hx hy he)), by simpa using VR.bool (m := m) b⟩
   ·cases he : IG P 10000 t (.agg xs) (.agg ys) with
    | none => simp [he] at h
    | some b =>
     simp only [he, Option.map_some, Option.some.injEq] at h; subst h
     exact ⟨_, EM w hg (FI w (by simp) (by simp) (by simp) (by simp) (.inr rfl) (IL w _ _ _ _ _ _ _ hx hy he)), by simpa using VR.bool (m := m) (!b)⟩
   ·cases h
 ·split at h
  ·rename_i hq
   have hne : (∀ k n, x' ≠ .int k n) ∧ (∀ s, x' ≠ .string s) ∧ (∀ k n, x' ≠ .float k n) ∧ (∀ k a b, x' ≠ .complex k a b) ∧ (∀ a, x' ≠ .agg a) ∧ x' ≠ .nilIface := by
    cases hx <;> simp [Wv] at hq <;> simp
   obtain ⟨a1, a2, a3, a4, a5, a6⟩ := hne
   split at h
   ·cases he : IG P 10000 t x y with
    | none => simp [he] at h
    | some b =>
     simp only [he, Option.map_some, Option.some.injEq] at h; subst h
     exact ⟨_, EM w (Gs w a5 a6) (FI w a1 a2 a3 a4 (.inl rfl) (IL w _ _ _ _ _ _ _ hx hy he)), by simpa using VR.bool (m := m) b⟩
   ·cases he : IG P 10000 t x y with
    | none => simp [he] at h
    | some b =>
     simp only [he, Option.map_some, Option.some.injEq] at h; subst h
     exact ⟨_, EM w (Gs w a5 a6) (FI w a1 a2 a3 a4 (.inr rfl) (IL w _ _ _ _ _ _ _ hx hy he)), by simpa using VR.bool (m := m) (!b)⟩
   ·cases h
  ·cases h
theorem Sw {op : BinOp} {t : TypeId} {ox oy : Operand} {x y : AB} {x' y' : Value} {v : AB} (hx : VR m x x') (hy : VR m y y') (h : SZ P op t (Y8 ox || Y8 oy) x y = some v) :
  ∃ v', (do eqGuard op t ox oy x' y'; binOp op t x' y' : Sem Value).run P w = .ok v' w ∧ VR m v v' := by
 unfold SZ at h
 split at h
 ·cases hx
  cases hy
  unfold Z7 at h
  split at h
  ·rename_i ms hu
   cases hc : (Y8 ox || Y8 oy) with
   | false => rw [hc] at h; cases h
   | true =>
    rw [hc] at h
    have hg : (eqGuard op t ox oy .nilIface .nilIface).run P w = .ok () w := by
     cases ox <;> cases oy <;> simp [Y8] at hc <;> cases op <;> simp [eqGuard]
    have hd : ∀ d, (Op.equalIn (d + 1) t .nilIface .nilIface).run P w = .ok true w := by
     intro d; simp [Op.equalIn, AY w hu]
    have he : (Op.equalIn 10000 t .nilIface .nilIface).run P w = .ok true w := hd 9999
    simp only [cond_true] at h
    split at h
    ·injection h with h; subst h
     exact ⟨_, EM w hg (FI w (by simp) (by simp) (by simp) (by simp) (.inl rfl) he), by simpa using VR.bool (m := m) true⟩
    ·injection h with h; subst h
     exact ⟨_, EM w hg (FI w (by simp) (by simp) (by simp) (by simp) (.inr rfl) he), by simpa using VR.bool (m := m) false⟩
    ·cases h
  ·cases h
 ·exact Sf w hx hy h
theorem Ug {op : UnOp} {x : AB} {x' : Value} {v : AB} (hx : VR m x x') (h : af op x = some v) : ∃ v', (Op.unary op x').run P w = .ok v' w ∧ VR m v v' := by
 unfold af at h
 split at h
 ·have := hx.Bo; subst this
  obtain ⟨v', h1, h2⟩ := JQ (P := P) (m := m) (t := 0) w h
  exact ⟨v', by simpa [Op.unary, binOp] using h1, h2⟩
 ·have := hx.Bo; subst this
  obtain ⟨v', h1, h2⟩ := JQ (P := P) (m := m) (t := 0) w h
  exact ⟨v', by simpa [Op.unary, binOp] using h1, h2⟩
 ·have := hx.I9; subst this
  injection h with h; subst h
  exact ⟨_, by simp [Op.unary], .bool _⟩
 ·cases h
theorem RB {src dst : TypeId} {x : AB} {x' : Value} {v : AB} (hx : VR m x x') (h : VL P src dst x = some v) : ∃ v', (convert src dst x').run P w = .ok v' w ∧ VR m v v' := by
 unfold VL at h
 split at h
 ·rename_i d k k' n hs hd
  have := hx.Bo; subst this
  injection h with h; subst h
  exact ⟨_, by simp [convert, AY w hs, AY w hd, Conv.intToInt], .int _ _⟩
 ·rename_i d s hs hd
  have := hx.Dk; subst this
  injection h with h; subst h
  exact ⟨.string ⟨⟨s⟩⟩, by simp [convert, AY w hs, AY w hd], .str ⟨⟨s⟩⟩⟩
 ·rename_i d k n hs hd
  have := hx.Bo; subst this
  injection h with h; subst h
  exact ⟨.string (Utf8.encode n), by simp [convert, AY w hs, AY w hd, Conv.intToString], .str _⟩
 ·cases h
def ZK (m : A4) : Option AB → Option Value → Prop
 | none, none => True
 | some a, some v => VR m a v
 | _, _ => False
theorem Gt {k : IntKind} {n : Int} {y : Nat} {c : BoundsCode} (h0 : 0 ≤ n) (h1 : n ≤ y) : (Instr.sliceBound (.int k n) y c).run P w = .ok n.toNat w := by
 simp [Instr.sliceBound, asIntOf, h0, h1]
theorem El {n c : Nat} {lo hi : Option AB} {lo' hi' : Option Value} {l u : Nat} (isS : Bool) (hlo : ZK m lo lo') (hhi : ZK m hi hi') (hc : n ≤ c) (h : EN n lo hi = some (l, u)) :
  (Instr.sliceBounds isS n c lo' hi' none).run P w = .ok (l, u, c) w ∧ l ≤ u ∧ u ≤ n := by
 unfold EN at h
 split at h
 ·rename_i k a
  cases hi' with
  | none => exact hhi.elim
  | some v =>
   have : v = .int k a := VR.Bo hhi
   subst this
   split at h
   ·rename_i hb
    obtain ⟨b0, b1⟩ := hb
    split at h
    ·rename_i k2 b
     cases lo' with
     | none => exact hlo.elim
     | some v =>
      have : v = .int k2 b := VR.Bo hlo
      subst this
      split at h
      ·rename_i hb2
       injection h with h; injection h with h1 h2; subst h1; subst h2
       refine ⟨?_, by omega, by omega⟩
       simp [Instr.sliceBounds, Gt (P := P) w b0 (show a ≤ (c : Int) by omega), Gt (P := P) w hb2.1 (show b ≤ (a.toNat : Int) by omega)]
      ·cases h
    ·cases h
    ·cases lo' with
     | some v => exact hlo.elim
     | none =>
      injection h with h; injection h with h1 h2; subst h1; subst h2
      refine ⟨?_, by omega, by omega⟩
      simp [Instr.sliceBounds, Gt (P := P) w b0 (show a ≤ (c : Int) by omega)]
   ·cases h
 ·cases h
 ·cases hi' with
  | some v => exact hhi.elim
  | none =>
   split at h
   ·rename_i k2 b
    cases lo' with
    | none => exact hlo.elim
    | some v =>
     have : v = .int k2 b := VR.Bo hlo
     subst this
     split at h
     ·rename_i hb2
      injection h with h; injection h with h1 h2; subst h1; subst h2
      refine ⟨?_, by omega, by omega⟩
      simp [Instr.sliceBounds, Gt (P := P) w hb2.1 hb2.2]
     ·cases h
   ·cases h
   ·cases lo' with
    | some v => exact hlo.elim
    | none =>
     injection h with h; injection h with h1 h2; subst h1; subst h2
     exact ⟨by simp [Instr.sliceBounds], by omega, by omega⟩
theorem LR (s : List UInt8) (l u : Nat) : (⟨⟨s⟩⟩ : ByteArray).extract l u = ⟨⟨(s.drop l).take (u - l)⟩⟩ := by
 apply ByteArray.ext
 rw [ByteArray.data_extract]
 apply Array.ext'
 simp [List.extract_eq_take_drop]
theorem QR {t : TypeId} {x : AB} {x' : Value} {lo hi : Option AB} {lo' hi' : Option Value} {v : AB} (hx : VR m x x') (hlo : ZK m lo lo') (hhi : ZK m hi hi') (h : Qv P t x lo hi = some v) :
  ∃ v', (Instr.sliceAt t x' lo' hi' none).run P w = .ok v' w ∧ VR m v v' := by
 unfold Qv at h
 split at h
 ·rename_i s hu
  have := hx.Dk; subst this
  cases hb : EN s.length lo hi with
  | none => simp [hb] at h
  | some lu =>
   obtain ⟨l, u⟩ := lu
   simp only [hb, Option.map_some, Option.some.injEq] at h; subst h
   have hbs := (El (P := P) w (c := s.length) false hlo hhi (Nat.le_refl _) hb).1
   refine ⟨.string ⟨⟨(s.drop l).take (u - l)⟩⟩, ?_, .str ⟨⟨(s.drop l).take (u - l)⟩⟩⟩
   simp only [Instr.sliceAt, Instr.slice, Sem.run_bind, AY w hu, Result.andThen_ok]
   simp [show (⟨⟨s⟩⟩ : ByteArray).size = s.length from rfl, hbs, LR]
 ·cases h
theorem M7 {t : TypeId} {x : AB} {x' : Value} {f : Nat} {v : AB} (hx : VR m x x') (h : Lj P t x f = some v) :
  ∃ v', (Instr.fieldAt t x' f).run P w = .ok v' w ∧ VR m v v' := by
 unfold Lj at h
 split at h
 ·rename_i fs id o hu
  cases hx with
  | ptr _ _ E hE =>
   split at h
   ·rename_i fd hf
    split at h
    ·cases h
    ·rename_i z hz hz0
     injection h with h; subst h
     have hz0' : z ≠ 0 := hz
     refine ⟨.pointer (some ⟨E.g, E.base + (o + fd.offset), none⟩), ?_, .ptr _ _ E hE⟩
     simp [Instr.fieldAt, AY w hu, hf, Instr.sureAddr, fieldPlace, run_sizeOf w hz0, hz0', Addr.add_lit, Nat.add_assoc]
    ·cases h
   ·cases h
 ·rename_i fs g o hu
  cases hx with
  | Ij _ _ =>
   split at h
   ·rename_i fd hf
    split at h
    ·cases h
    ·rename_i z hz hz0
     injection h with h; subst h
     have hz0' : z ≠ 0 := hz
     refine ⟨.pointer (some ⟨g, o + fd.offset, none⟩), ?_, .Ij _ _⟩
     simp [Instr.fieldAt, AY w hu, hf, Instr.sureAddr, fieldPlace, run_sizeOf w hz0, hz0', Addr.add_lit]
    ·cases h
   ·cases h
 ·rename_i fs cs hu
  cases hx with
  | Am g o _ c hf1 hv =>
   split at h
   ·rename_i fd hf
    split at h
    ·cases h
    ·rename_i z hz hz0
     injection h with h; subst h
     have hz0' : z ≠ 0 := hz
     refine ⟨.pointer (some ⟨g, o + fd.offset, none⟩), ?_, VR.Ky hf1 hv _⟩
     simp [Instr.fieldAt, AY w hu, hf, Instr.sureAddr, fieldPlace, run_sizeOf w hz0, hz0', Addr.add_lit]
    ·cases h
   ·cases h
 ·cases h
theorem Qg {t : TypeId} {x : AB} {x' : Value} {f : Nat} {v : AB} (hx : VR m x x') (h : Sy P t x f = some v) :
  ∃ v', (Instr.field t x' f).run P w = .ok v' w ∧ VR m v v' := by
 unfold Sy at h
 split at h
 ·rename_i fs cs hu
  obtain ⟨ds, rfl, vd⟩ := hx.FG
  split at h
  ·rename_i fd hf
   obtain ⟨y, h1, h2⟩ := G6 (P := P) w vd h
   exact ⟨y, by simp [Instr.field, AY w hu, hf, asAgg, h1], h2⟩
  ·cases h
 ·cases h
theorem M6 {t : TypeId} {x i : AB} {x' i' : Value} {v : AB} (hx : VR m x x') (hi : VR m i i') (h : Hp P t x i = some v) :
  ∃ v', (Instr.indexAt t x' i').run P w = .ok v' w ∧ VR m v v' := by
 unfold Hp at h
 split at h
 ·rename_i n e id o k i hu
  have := hi.Bo; subst this
  cases hx with
  | ptr _ _ E hE =>
   split at h
   ·rename_i hb
    cases hz : CE P e with
    | none => simp [hz] at h
    | some z =>
     simp only [hz, Option.map_some, Option.some.injEq] at h; subst h
     refine ⟨.pointer (some ⟨E.g, E.base + (o + i.toNat * z), none⟩), ?_, .ptr _ _ E hE⟩
     simp [Instr.indexAt, AY w hu, asIntOf, Instr.sureAddr, hb, run_sizeOf w hz, Addr.add_lit, Nat.add_assoc]
   ·cases h
 ·rename_i e id o n k i hu
  have := hi.Bo; subst this
  cases hx with
  | slice _ _ _ cap E a hE hl hc =>
   split at h
   ·rename_i hb
    obtain ⟨ha, _⟩ := hc (by omega)
    subst ha
    cases hz : CE P e with
    | none => simp [hz] at h
    | some z =>
     simp only [hz, Option.map_some, Option.some.injEq] at h; subst h
     refine ⟨.pointer (some ⟨E.g, E.base + (o + i.toNat * z), none⟩), ?_, .ptr _ _ E hE⟩
     simp [Instr.indexAt, AY w hu, asIntOf, hb, run_sizeOf w hz, Addr.add_lit, Nat.add_assoc]
   ·cases h
 ·rename_i n e g o k i hu
  have := hi.Bo; subst this
  cases hx with
  | Ij _ _ =>
   split at h
   ·rename_i hb
    cases hz : CE P e with
    | none => simp [hz] at h
    | some z =>
     simp only [hz, Option.map_some, Option.some.injEq] at h; subst h
     refine ⟨.pointer (some ⟨g, o + i.toNat * z, none⟩), ?_, .Ij _ _⟩
     simp [Instr.indexAt, AY w hu, asIntOf, Instr.sureAddr, hb, run_sizeOf w hz, Addr.add_lit]
   ·cases h
 ·rename_i n e cs k i hu
  have := hi.Bo; subst this
  cases hx with
  | Am g o _ c hf1 hv =>
   split at h
   ·rename_i hb
    cases hz : CE P e with
    | none => simp [hz] at h
    | some z =>
     simp only [hz, Option.map_some, Option.some.injEq] at h; subst h
     refine ⟨.pointer (some ⟨g, o + i.toNat * z, none⟩), ?_, VR.Ky hf1 hv _⟩
     simp [Instr.indexAt, AY w hu, asIntOf, Instr.sureAddr, hb, run_sizeOf w hz, Addr.add_lit]
   ·cases h
 ·rename_i e n cs k i hu
  have := hi.Bo; subst this
  split at h
  ·rename_i hb
   cases hx with
   | Iy => omega
   | Iw _ cap g o _ c hc hf1 hv =>
    cases hz : CE P e with
    | none => simp [hz] at h
    | some z =>
     simp only [hz, Option.bind_some] at h
     split at h
     ·injection h with h; subst h
      refine ⟨.pointer (some ⟨g, o + i.toNat * z, none⟩), ?_, VR.Pl (VR.Ky hf1 hv _) _⟩
      simp [Instr.indexAt, AY w hu, asIntOf, hb, run_sizeOf w hz, Addr.add_lit]
     ·cases h
  ·cases h
 ·cases h
theorem QY {t : TypeId} {x i : AB} {x' i' : Value} {v : AB} (hx : VR m x x') (hi : VR m i i') (h : Mf P t x i = some v) :
  ∃ v', (Instr.index t x' i').run P w = .ok v' w ∧ VR m v v' := by
 unfold Mf at h
 split at h
 ·rename_i n e cs k i hu
  have := hi.Bo; subst this
  obtain ⟨ds, rfl, vd⟩ := hx.FG
  split at h
  ·rename_i hb
   cases hz : CE P e with
   | none => simp [hz] at h
   | some z =>
    simp only [hz, Option.bind_some] at h
    obtain ⟨y, h1, h2⟩ := G6 (P := P) w vd h
    exact ⟨y, by simp [Instr.index, AY w hu, asIntOf, hb, run_sizeOf w hz, h1], h2⟩
  ·cases h
 ·rename_i s k i hu
  have := hi.Bo; subst this
  have := hx.Dk; subst this
  split at h
  ·rename_i hb
   cases hs : s[i.toNat]? with
   | none => simp [hs] at h
   | some b =>
    simp only [hs, Option.map_some, Option.some.injEq] at h; subst h
    have hs' : (⟨⟨s⟩⟩ : ByteArray)[i.toNat]? = some b := by
     obtain ⟨hlt, e⟩ := List.getElem?_eq_some_iff.1 hs
     rw [getElem?_pos (⟨⟨s⟩⟩ : ByteArray) i.toNat (by simpa [ByteArray.size] using hlt)]
     exact congrArg some e
    exact ⟨.int .u8 b.toNat, by simp [Instr.index, AY w hu, asIntOf, hb, hs'], .int _ _⟩
  ·cases h
 ·cases h
theorem TM {ts : Array TypeId} {ty : TypeId} {x : AB} {x' : Value} {v : AB} (hx : VR m x x') (h : ZM P ts x = some v) :
  ∃ v', (Builtin.len_ ts ty #[x']).run P w = .ok v' w ∧ VR m v v' := by
 unfold ZM at h
 split at h
 ·cases h
 ·rename_i t ht
  split at h
  ·rename_i s hu
   have := hx.Dk; subst this
   injection h with h; subst h
   exact ⟨.int .i64 s.length, by simp [Builtin.len_, ht, AY w hu, goInt, show (⟨⟨s⟩⟩ : ByteArray).size = s.length from rfl], .int _ _⟩
  ·rename_i n e y hu
   injection h with h; subst h
   exact ⟨_, by simp [Builtin.len_, ht, AY w hu, goInt], .int _ _⟩
  ·rename_i e r n hu
   injection h with h; subst h
   cases hx <;> exact ⟨_, by simp [Builtin.len_, ht, AY w hu, goInt]; try rfl, .int _ _⟩
  ·rename_i e n cs hu
   injection h with h; subst h
   cases hx <;> exact ⟨_, by simp [Builtin.len_, ht, AY w hu, goInt]; try rfl, .int _ _⟩
  ·cases h
theorem Ip (mx : Bool) : ∀ (r : List AB) (r' : List Value) (x : AB) (x' : Value) (v : AB), VR m x x' → B4 m r r' → K1 mx x r = some v →
  ∃ v', (r'.foldlM (if mx then Builtin.max2 else Builtin.min2) x').run P w = .ok v' w ∧ VR m v v'
 | [], r', x, x', v, hx, hr, h => by
  have : r' = [] := List.eq_nil_of_length_eq_zero (by simpa using hr.1.symm)
  subst this
  simp [K1] at h
  subst h
  exact ⟨x', by simp, hx⟩
 | y :: r, [], x, x', v, hx, hr, h => by simp [B4] at hr
 | y :: r, y' :: r', x, x', v, hx, hr, h => by
  have hy : VR m y y' := hr.2 0 y y' rfl rfl
  have hr' : B4 m r r' := ⟨by simpa using hr.1, fun i a b ha hb => hr.2 (i + 1) a b (by simpa using ha) (by simpa using hb)⟩
  unfold K1 at h
  split at h
  ·rename_i heq; cases heq
  ·rename_i k a k' b r2 heq
   injection heq with e1 e2; subst e1; subst e2
   have := hx.Bo; subst this
   have := hy.Bo; subst this
   split at h
   ·rename_i hk; subst hk
    obtain ⟨v', h1, h2⟩ := Ip mx r r' _ _ v (.int k _) hr' h
    refine ⟨v', ?_, h2⟩
    cases mx <;> simpa [Builtin.max2, Builtin.min2] using h1
   ·cases h
  ·cases h
theorem Oq (off : Nat) : ∀ (l : List Value) (k : Nat) (cs : Array Value), off + k + l.length ≤ cs.size →
  (l.zipIdx k).foldl (fun (cs : Array Value) (x : Value × Nat) => cs.setIfInBounds (off + x.2) x.1) cs = ⟨cs.toList.take (off + k) ++ (l ++ cs.toList.drop (off + k + l.length))⟩
 | [], k, cs, h => by simp
 | v :: l, k, cs, h => by
  simp only [List.zipIdx_cons, List.foldl_cons]
  simp only [List.length_cons] at h
  rw [Oq off l (k + 1) _ (by simp; omega)]
  generalize hL : cs.toList = L
  have hlen : L.length = cs.size := by rw [← hL]; simp
  have e : (cs.setIfInBounds (off + k) v).toList = L.take (off + k) ++ v :: L.drop (off + k + 1) := by
   rw [Array.toList_setIfInBounds, hL, List.set_eq_take_append_cons_drop, if_pos (by omega)]
  have hl : (L.take (off + k)).length = off + k := by simp; omega
  rw [e, show off + (k + 1) + l.length = (L.take (off + k)).length + (1 + l.length) by omega, List.drop_length_add_append,
   show off + (k + 1) = (L.take (off + k)).length + 1 by omega, List.take_length_add_append, List.append_assoc, show 1 + l.length = l.length + 1 by omega, List.drop_succ_cons, List.drop_drop]
  simp only [List.take_succ_cons, List.take_zero, List.cons_append, List.nil_append, List.length_cons]
  rw [show off + k + 1 + l.length = off + k + (l.length + 1) by omega]
theorem IX {place : Nat → Option (Nat × Nat)} : ∀ (parts : List (Nat × AB)) (parts' : List (Nat × Value)) (cs : List AB) (ds : Array Value) (r : List AB),
  parts.length = parts'.length → (∀ (j i i' : Nat) (x : AB) (y : Value), parts[j]? = some (i, x) → parts'[j]? = some (i', y) → i = i' ∧ VR m x y) → B4 m cs ds.toList → Jp place cs parts = some r →
  ∃ ds', Instr.fill place ds parts' = some ds' ∧ B4 m r ds'.toList
 | [], parts', cs, ds, r, hl, _, hc, h => by
  have : parts' = [] := List.eq_nil_of_length_eq_zero hl.symm
  subst this
  simp [Jp] at h
  subst h
  exact ⟨ds, rfl, hc⟩
 | (i, x) :: parts, [], _, _, _, hl, _, _, _ => by simp at hl
 | (i, x) :: parts, (i', y) :: parts', cs, ds, r, hl, hp, hc, h => by
  obtain ⟨rfl, hxy⟩ := hp 0 i i' x y rfl rfl
  unfold Jp at h
  split at h
  ·rename_i off size new hpl hnew
   split at h
   ·rename_i hb
    have hv := hxy.cells hnew
    have hsz : y.cells.size = size := by rw [← hb.1, hv.1]; simp
    have hds : cs.length = ds.size := by rw [hc.1]; simp
    obtain ⟨ds', h1, h2⟩ := IX parts parts' _ ⟨ds.toList.take off ++ (y.cells.toList ++ ds.toList.drop (off + y.cells.toList.length))⟩ r (by simpa using hl)
     (fun j a b u v hu hv => hp (j + 1) a b u v (by simpa using hu) (by simpa using hv)) (hc.ER hv off) h
    refine ⟨ds', ?_, h2⟩
    have hcond : (y.cells.size ≠ size || off + y.cells.size > ds.size) = false := by simp [hsz]; omega
    have hf := Oq off y.cells.toList 0 ds (by simp [hsz]; omega)
    simp only [Nat.add_zero] at hf
    rw [← h1]
    simp only [Instr.fill, hpl]
    rw [if_neg (by simpa using hcond)]
    congr 1
    rw [← hf, ← Array.foldl_toList, Array.toList_zipIdx]
   ·cases h
  ·cases h
theorem HA {t : TypeId} {v : AB} (h : Hh P t = some v) : ∃ i z, P.info? t = some i ∧ i.zero = some z ∧ VR m v z := by
 unfold Hh at h
 cases hi : P.info? t with
 | none => simp [hi] at h
 | some i =>
  simp only [hi] at h
  cases hz : i.zero with
  | none => simp [hz] at h
  | some z =>
   simp only [hz, Option.map_some, Option.some.injEq] at h
   subst h
   exact ⟨i, z, rfl, hz, VR.XE m z⟩
theorem Qj {t : TypeId} {parts : List (Nat × AB)} {parts' : List (Nat × Value)} {v : AB} (hl : parts.length = parts'.length)
  (hp : ∀ (j i i' : Nat) (x : AB) (y : Value), parts[j]? = some (i, x) → parts'[j]? = some (i', y) → i = i' ∧ VR m x y) (h : SR P t parts = some v) :
  ∃ cells, P.built t parts' = some cells ∧ VR m v (.agg cells) := by
 unfold SR at h
 split at h
 ·rename_i n e z hu hz
  cases hz0 : Hh P t with
  | none => simp [hz0] at hz
  | some zv =>
   simp only [hz0, Option.bind_some] at hz
   obtain ⟨i, zz, hi, hiz, hvz⟩ := HA (m := m) hz0
   cases hs : CE P e with
   | none => simp [hs] at h
   | some n' =>
    simp only [hs, Option.bind_some] at h
    cases hf : Jp (fun i => some (i * n', n')) z parts with
    | none => simp [hf] at h
    | some r =>
     simp only [hf, Option.map_some, Option.some.injEq] at h
     subst h
     obtain ⟨ds', h1, h2⟩ := IX (m := m) parts parts' z zz.cells r hl hp (hvz.cells hz) hf
     unfold CE at hs
     cases hie : P.info? e with
     | none => simp [hie] at hs
     | some ie =>
      simp [hie] at hs
      subst hs
      exact ⟨ds', by simp [Program.built, hi, hu, hiz, hie, h1], B4.agg h2⟩
 ·rename_i fs z hu hz
  cases hz0 : Hh P t with
  | none => simp [hz0] at hz
  | some zv =>
   simp only [hz0, Option.bind_some] at hz
   obtain ⟨i, zz, hi, hiz, hvz⟩ := HA (m := m) hz0
   cases hs : QT P fs.toList with
   | none => simp [hs] at h
   | some ps =>
    simp only [hs, Option.bind_some] at h
    cases hf : Jp (ps[·]?) z parts with
    | none => simp [hf] at h
    | some r =>
     simp only [hf, Option.map_some, Option.some.injEq] at h
     subst h
     obtain ⟨ds', h1, h2⟩ := IX (m := m) parts parts' z zz.cells r hl hp (hvz.cells hz) hf
     unfold QT at hs
     exact ⟨ds', by simp [Program.built, hi, hu, hiz, hs, h1], B4.agg h2⟩
 ·cases h
theorem UA {fr : Fr} {a : Act} (hf : FR m fr a) (x : Option Operand) : ZK m (x.map (ev fr)) (x.map a.eval) := by
 cases x with
 | none => trivial
 | some x => exact hf.ev x
theorem Pt {fr : Fr} {a : Act} (hf : FR m fr a) {o : Oper} {v : AB} (h : IF P fr o.op = some v) : ∃ v', (execOp a.eval o).run P w = .ok (.value v') w ∧ VR m v v' := by
 obtain ⟨dst, op, ty, pos, aft, gd⟩ := o
 simp only at h
 have lift : ∀ {s : Sem Value} {u : AB}, (∃ v', s.run P w = .ok v' w ∧ VR m u v') → ∃ v', (do pure (.value (← s)) : Sem Next).run P w = .ok (.value v') w ∧ VR m u v' := by
  rintro s u ⟨v', h1, h2⟩
  exact ⟨v', by simp [h1], h2⟩
 cases op with
 | move x => simp only [IF, Option.some.injEq] at h; subst h; exact ⟨_, rfl, hf.ev x⟩
 | assign x => simp only [IF, Option.some.injEq] at h; subst h; exact ⟨_, rfl, hf.ev x⟩
 | pick c x y =>
  simp only [IF] at h
  split at h
  ·rename_i b hb
   have hc := hf.ev c
   rw [hb] at hc
   have hc := hc.I9
   injection h with h
   subst h
   cases b
   ·exact ⟨a.eval y, by simp [execOp, asBool, hc], hf.ev y⟩
   ·exact ⟨a.eval x, by simp [execOp, asBool, hc], hf.ev x⟩
  ·cases h
 | build t parts =>
  simp only [IF] at h
  obtain ⟨cells, h1, h2⟩ := Qj (m := m) (parts' := (parts.map fun (i, x) => (i, a.eval x)).toList) (by simp) (fun j i i' x y hx hy => by
   simp only [List.getElem?_map, Array.toList_map] at hx hy
   cases hj : parts.toList[j]? with
   | none => simp [hj] at hx
   | some p =>
    simp only [hj, Option.map_some, Option.some.injEq, Prod.mk.injEq] at hx hy
    obtain ⟨rfl, rfl⟩ := hx
    obtain ⟨rfl, rfl⟩ := hy
    exact ⟨rfl, hf.ev p.2⟩) h
  exact lift ⟨_, run_build w t _ cells h1, h2⟩
 | nilCheck x =>
  simp only [IF] at h
  split at h
  ·rename_i r hr
   have hx := hf.ev x
   rw [hr] at hx
   injection h with h
   subst h
   cases he : a.eval x <;> rw [he] at hx <;> try (cases hx; done)
   rename_i p
   cases p with
   | none => cases hx
   | some p => exact ⟨.pointer (some p), by simp [execOp, he], hx⟩
  ·rename_i g o hr
   have hx := hf.ev x
   rw [hr] at hx
   injection h with h
   subst h
   cases he : a.eval x <;> rw [he] at hx <;> try (cases hx; done)
   rename_i p
   cases p with
   | none => cases hx
   | some p => exact ⟨.pointer (some p), by simp [execOp, he], hx⟩
  ·rename_i cs hr
   have hx := hf.ev x
   rw [hr] at hx
   injection h with h
   subst h
   cases he : a.eval x <;> rw [he] at hx <;> try (cases hx; done)
   rename_i p
   cases p with
   | none => cases hx
   | some p => exact ⟨.pointer (some p), by simp [execOp, he], hx⟩
  ·rename_i f b c hr
   have hx := hf.ev x
   rw [hr] at hx
   injection h with h
   subst h
   cases he : a.eval x <;> rw [he] at hx <;> try (cases hx; done)
   rename_i fn c d
   have : fn = .func f := by cases hx; rfl
   subst this
   exact ⟨.func (.func f) c d, by simp [execOp, he], hx⟩
  ·cases h
 | binOp op t x y yt => simp only [IF] at h; exact lift (Sw w (hf.ev x) (hf.ev y) h)
 | unOp op t x => simp only [IF] at h; exact lift (Ug w (hf.ev x) h)
 | convert s d x => simp only [IF] at h; exact lift (RB w (hf.ev x) h)
 | makeFunc fn first cap =>
  simp only [IF, Option.some.injEq] at h
  subst h
  refine lift ⟨.func fn (first.map a.eval) (cap.map a.eval), rfl, ?_⟩
  have h1 := hf.ZQ first.toList
  have h2 := hf.ZQ cap.toList
  exact .func _ _ _ _ _ (by simp) (fun i x y hx hy => h1.2 i x y hx (by simpa using hy)) (by simp) (fun i x y hx hy => h2.2 i x y hx (by simpa using hy))
 | slice t x lo hi mx =>
  cases mx with
  | some y => simp [IF] at h
  | none => simp only [IF] at h; exact lift (QR w (hf.ev x) (UA hf lo) (UA hf hi) h)
 | fieldAddr s x f => simp only [IF] at h; exact lift (M7 w (hf.ev x) h)
 | field s x f => simp only [IF] at h; exact lift (Qg w (hf.ev x) h)
 | indexAddr t x i => simp only [IF] at h; exact lift (M6 w (hf.ev x) (hf.ev i) h)
 | index t x i => simp only [IF] at h; exact lift (QY w (hf.ev x) (hf.ev i) h)
 | extract x i =>
  simp only [IF] at h
  split at h
  ·rename_i vs hr
   have hx := hf.ev x
   rw [hr] at hx
   obtain ⟨c, hc, hv⟩ := hx.I8
   obtain ⟨y, hy, hvy⟩ := hv.at_ h
   have hy' : c[i]? = some y := by simpa using hy
   exact lift ⟨y, by simp [hc, Instr.extract, hy'], hvy⟩
  ·cases h
 | call c =>
  obtain ⟨callee, as, ts⟩ := c
  cases callee with
  | value f => simp [IF] at h
  | invoke r mth => simp [IF] at h
  | builtin b =>
   simp only [IF] at h
   have hall := hf.ZQ as.toList
   have hargs : (as.map a.eval).toList = as.toList.map a.eval := by simp
   have res : ∀ (w : World), (resolve a.eval { callee := .builtin b, args := as, argTypes := ts } ty).run P w = .ok { target := .builtin b ts ty (as.map fun | .const _ => true | _ => false), args := as.map a.eval } w := fun w => rfl
   split at h
   ·rename_i x heq
    obtain ⟨x', hx', hvx⟩ : ∃ x', as.map a.eval = #[x'] ∧ VR m x x' := by
     rw [heq] at hall
     have hlen : (as.toList.map a.eval).length = 1 := by rw [← hall.1]; rfl
     match hq : as.toList.map a.eval, hlen with
     | [x'], _ => exact ⟨x', Array.ext' (by simpa using hq), hall.2 0 x x' rfl (by rw [hq]; rfl)⟩
    obtain ⟨v', h1, h2⟩ := TM (P := P) (m := m) (ty := ty) w hvx h
    exact ⟨v', by simp [execOp, res, invoke, builtin, hx', h1], h2⟩
   ·rename_i x r heq
    rw [heq] at hall
    match hq : as.toList.map a.eval with
    | [] => rw [hq] at hall; simp [B4] at hall
    | x' :: r' =>
     rw [hq] at hall
     obtain ⟨v', h1, h2⟩ := Ip (P := P) w false r r' x x' v (hall.2 0 x x' rfl rfl) ⟨by simpa using hall.1, fun i u z hu hz => hall.2 (i + 1) u z (by simpa using hu) (by simpa using hz)⟩ h
     refine ⟨v', ?_, h2⟩
     simp only [Bool.false_eq_true, if_false] at h1
     simp [execOp, res, invoke, builtin, Builtin.min_, hq, h1]
   ·rename_i x r heq
    rw [heq] at hall
    match hq : as.toList.map a.eval with
    | [] => rw [hq] at hall; simp [B4] at hall
    | x' :: r' =>
     rw [hq] at hall
     obtain ⟨v', h1, h2⟩ := Ip (P := P) w true r r' x x' v (hall.2 0 x x' rfl rfl) ⟨by simpa using hall.1, fun i u z hu hz => hall.2 (i + 1) u z (by simpa using hu) (by simpa using hz)⟩ h
     refine ⟨v', ?_, h2⟩
     simp only [if_true] at h1
     simp [execOp, res, invoke, builtin, Builtin.max_, hq, h1]
   ·cases h
 | _ => simp [IF] at h
end
end Go.Av
