/-
 A part.
-/
import Derived.Test.YtdbkpibbjnhmgaaDoorAvEq
namespace Go.Av
open Go.RowKit
section
variable {P : Program} {m : AV} (w : World)
theorem VR.CE {k : IntKind} {n : Int} {v : Value} (h : VR m (.int k n) v) : v = .int k n := by cases h; rfl
theorem VR.Gz {b : Bool} {v : Value} (h : VR m (.bool b) v) : v = .bool b := by cases h; rfl
theorem HV {op : BinOp} {t : TypeId} {k : IntKind} {a b : Int} {v : AA} (h : LR op k a b = some v) :
  ∃ v', (binOp op t (.int k a) (.int k b)).run P w = .ok v' w ∧ VR m v v' := by
 cases op <;> simp [LR] at h
 case quo => obtain ⟨hb, rfl⟩ := h; exact ⟨_, by simp [binOp, Op.intDiv, hb], .int _ _⟩
 case rem => obtain ⟨hb, rfl⟩ := h; exact ⟨_, by simp [binOp, Op.intDiv, hb], .int _ _⟩
 all_goals subst h
 case add => exact ⟨_, by simp [binOp, Op.intArith], .int _ _⟩
 case sub => exact ⟨_, by simp [binOp, Op.intArith], .int _ _⟩
 case mul => exact ⟨_, by simp [binOp, Op.intArith], .int _ _⟩
 case and => exact ⟨.int k (k.wrap (BitVec.ofInt k.bits a &&& BitVec.ofInt k.bits b).toNat), by simp [binOp, Op.intBits], by simpa using VR.int (m := m) k _⟩
 case or => exact ⟨.int k (k.wrap (BitVec.ofInt k.bits a ||| BitVec.ofInt k.bits b).toNat), by simp [binOp, Op.intBits], by simpa using VR.int (m := m) k _⟩
 case xor => exact ⟨.int k (k.wrap (BitVec.ofInt k.bits a ^^^ BitVec.ofInt k.bits b).toNat), by simp [binOp, Op.intBits], by simpa using VR.int (m := m) k _⟩
 case andNot => exact ⟨.int k (k.wrap (BitVec.ofInt k.bits a &&& ~~~BitVec.ofInt k.bits b).toNat), by simp [binOp, Op.intBits], by simpa using VR.int (m := m) k _⟩
 all_goals exact ⟨_, by simp [binOp, Op.intCmp]; rfl, by first | exact .bool _ | simpa using VR.bool (m := m) _⟩
theorem JX {op : BinOp} {t : TypeId} {k yk : IntKind} {a b : Int} {v : AA} (h : Px op k a b = some v) :
  ∃ v', (binOp op t (.int k a) (.int yk b)).run P w = .ok v' w ∧ VR m v v' := by
 unfold Px at h
 split at h
 ·cases h
 ·rename_i hb
  cases op <;> simp at h
  case shl => subst h; exact ⟨_, by simp [binOp, Op.shift, hb], .int _ _⟩
  case shr => subst h; exact ⟨_, by simp [binOp, Op.shift, hb], .int _ _⟩
theorem Nt {op : BinOp} {t : TypeId} {a b : List UInt8} {v : AA} (h : Nr op a b = some v) :
  ∃ v', (binOp op t (.string ⟨⟨a⟩⟩) (.string ⟨⟨b⟩⟩)).run P w = .ok v' w ∧ VR m v v' := by
 have ea : ByteArray.toList ⟨⟨a⟩⟩ = a := by rw [ByteArray.toList_eq]
 have eb : ByteArray.toList ⟨⟨b⟩⟩ = b := by rw [ByteArray.toList_eq]
 cases op <;> simp [Nr] at h
 case add =>
  obtain ⟨hl, rfl⟩ := h
  refine ⟨.string (⟨⟨a⟩⟩ ++ ⟨⟨b⟩⟩), ?_, ?_⟩
  ·have : ¬ ((9223372036854775807 : Int) < ((⟨⟨a⟩⟩ : ByteArray).size : Int) + ((⟨⟨b⟩⟩ : ByteArray).size : Int)) := by
    simp [ByteArray.size]; omega
   simp [binOp, Op.stringOp, this]
  ·have := VR.str (m := m) (⟨⟨a⟩⟩ ++ ⟨⟨b⟩⟩)
   simpa [ByteArray.append, ByteArray.data_append] using this
 all_goals subst h; exact ⟨_, by simp [binOp, Op.stringOp, ea, eb]; rfl, by first | exact .bool _ | simpa using VR.bool (m := m) _⟩
theorem C2 {op : BinOp} {t : TypeId} {ox oy : Operand} {x y : Value} {v : Value} (hg : (eqGuard op t ox oy x y).run P w = .ok () w) (h : (binOp op t x y).run P w = .ok v w) :
  (do eqGuard op t ox oy x y; binOp op t x y : Sem Value).run P w = .ok v w := by
 rw [Sem.run_bind, hg]; exact h
theorem EE {op : BinOp} {t : TypeId} {ox oy : Operand} {x y : Value} (hx : ∀ a, x ≠ .agg a) (hn : x ≠ .nilIface) : (eqGuard op t ox oy x y).run P w = .ok () w := by
 cases x <;> first | exact absurd rfl hn | exact absurd rfl (hx _) | (cases op <;> simp [eqGuard])
theorem Da {op : BinOp} {t : TypeId} {x y : Value} {b : Bool} (hi : ∀ k n, x ≠ .int k n) (hs : ∀ s, x ≠ .string s) (hf : ∀ k n, x ≠ .float k n) (hc : ∀ k a b, x ≠ .complex k a b)
  (hop : op = .eql ∨ op = .neq) (h : (Op.equalIn 10000 t x y).run P w = .ok b w) : (binOp op t x y).run P w = .ok (.bool (if op = .eql then b else !b)) w := by
 rcases hop with rfl | rfl <;> cases x <;>
  first
   | exact absurd rfl (hi _ _) | exact absurd rfl (hs _) | exact absurd rfl (hf _ _) | exact absurd rfl (hc _ _ _)
   | simp [binOp, Op.equal, Op.maxDepth, h]
theorem PE {op : BinOp} {t : TypeId} {ox oy : Operand} {x y : AA} {x' y' : Value} {v : AA} (hx : VR m x x') (hy : VR m y y') (h : TY P op t x y = some v) :
  ∃ v', (do eqGuard op t ox oy x' y'; binOp op t x' y' : Sem Value).run P w = .ok v' w ∧ VR m v v' := by
 unfold TY at h
 split at h
 ·-- int, int
  rename_i k a k' b
  have := hx.CE; subst this
  have := hy.CE; subst this
  have hg := EE (P := P) w (op := op) (t := t) (ox := ox) (oy := oy) (x := .int k a) (y := .int k' b) (fun a h => by cases h) (fun h => by cases h)
  split at h
  ·obtain ⟨v', h1, h2⟩ := JX (P := P) (m := m) (t := t) (yk := k') w h; exact ⟨v', C2 w hg h1, h2⟩
  ·obtain ⟨v', h1, h2⟩ := JX (P := P) (m := m) (t := t) (yk := k') w h; exact ⟨v', C2 w hg h1, h2⟩
  ·split at h
   ·rename_i hk; subst hk
    obtain ⟨v', h1, h2⟩ := HV (P := P) (m := m) (t := t) w h; exact ⟨v', C2 w hg h1, h2⟩
   ·cases h
 ·rename_i a b
  have := hx.CD; subst this
  have := hy.CD; subst this
  have hg := EE (P := P) w (op := op) (t := t) (ox := ox) (oy := oy) (x := .string ⟨⟨a⟩⟩) (y := .string ⟨⟨b⟩⟩) (fun a h => by cases h) (fun h => by cases h)
  obtain ⟨v', h1, h2⟩ := Nt (P := P) (m := m) (t := t) w h; exact ⟨v', C2 w hg h1, h2⟩
 ·rename_i xs ys
  obtain ⟨xs', rfl, vx⟩ := hx.D4
  obtain ⟨ys', rfl, vy⟩ := hy.D4
  split at h
  ·cases h
  ·rename_i hgt
   have hg := run_eqGuard_agg (P := P) w op t ox oy xs' ys' (by simpa using hgt)
   split at h
   ·cases he : Hk P 10000 t (.agg xs) (.agg ys) with
    | none => simp [he] at h
    | some b =>
     simp only [he, Option.map_some, Option.some.injEq] at h; subst h
     exact ⟨_, C2 w hg (Da w (by simp) (by simp) (by simp) (by simp) (.inl rfl) (GX w _ _ _ _ _ _ _ hx hy he)), by simpa using VR.bool (m := m) b⟩
   ·cases he : Hk P 10000 t (.agg xs) (.agg ys) with
    | none => simp [he] at h
    | some b =>
     simp only [he, Option.map_some, Option.some.injEq] at h; subst h
     exact ⟨_, C2 w hg (Da w (by simp) (by simp) (by simp) (by simp) (.inr rfl) (GX w _ _ _ _ _ _ _ hx hy he)), by simpa using VR.bool (m := m) (!b)⟩
   ·cases h
 ·split at h
  ·rename_i hq
   have hne : (∀ k n, x' ≠ .int k n) ∧ (∀ s, x' ≠ .string s) ∧ (∀ k n, x' ≠ .float k n) ∧ (∀ k a b, x' ≠ .complex k a b) ∧ (∀ a, x' ≠ .agg a) ∧ x' ≠ .nilIface := by
    cases hx <;> simp [Sk] at hq <;> simp
   obtain ⟨a1, a2, a3, a4, a5, a6⟩ := hne
   split at h
   ·cases he : Hk P 10000 t x y with
    | none => simp [he] at h
    | some b =>
     simp only [he, Option.map_some, Option.some.injEq] at h; subst h
     exact ⟨_, C2 w (EE w a5 a6) (Da w a1 a2 a3 a4 (.inl rfl) (GX w _ _ _ _ _ _ _ hx hy he)), by simpa using VR.bool (m := m) b⟩
   ·cases he : Hk P 10000 t x y with
    | none => simp [he] at h
    | some b =>
     simp only [he, Option.map_some, Option.some.injEq] at h; subst h
     exact ⟨_, C2 w (EE w a5 a6) (Da w a1 a2 a3 a4 (.inr rfl) (GX w _ _ _ _ _ _ _ hx hy he)), by simpa using VR.bool (m := m) (!b)⟩
   ·cases h
  ·cases h
theorem PZ {op : BinOp} {t : TypeId} {ox oy : Operand} {x y : AA} {x' y' : Value} {v : AA} (hx : VR m x x') (hy : VR m y y') (h : TU P op t (Ut ox || Ut oy) x y = some v) :
  ∃ v', (do eqGuard op t ox oy x' y'; binOp op t x' y' : Sem Value).run P w = .ok v' w ∧ VR m v v' := by
 unfold TU at h
 split at h
 ·cases hx
  cases hy
  unfold VL at h
  split at h
  ·rename_i ms hu
   cases hc : (Ut ox || Ut oy) with
   | false => rw [hc] at h; cases h
   | true =>
    rw [hc] at h
    have hg : (eqGuard op t ox oy .nilIface .nilIface).run P w = .ok () w := by
     cases ox <;> cases oy <;> simp [Ut] at hc <;> cases op <;> simp [eqGuard]
    have hd : ∀ d, (Op.equalIn (d + 1) t .nilIface .nilIface).run P w = .ok true w := by
     intro d; simp [Op.equalIn, AK w hu]
    have he : (Op.equalIn 10000 t .nilIface .nilIface).run P w = .ok true w := hd 9999
    simp only [cond_true] at h
    split at h
    ·injection h with h; subst h
     exact ⟨_, C2 w hg (Da w (by simp) (by simp) (by simp) (by simp) (.inl rfl) he), by simpa using VR.bool (m := m) true⟩
    ·injection h with h; subst h
     exact ⟨_, C2 w hg (Da w (by simp) (by simp) (by simp) (by simp) (.inr rfl) he), by simpa using VR.bool (m := m) false⟩
    ·cases h
  ·cases h
 ·exact PE w hx hy h
theorem RE {op : UnOp} {x : AA} {x' : Value} {v : AA} (hx : VR m x x') (h : Wr op x = some v) : ∃ v', (Op.unary op x').run P w = .ok v' w ∧ VR m v v' := by
 unfold Wr at h
 split at h
 ·have := hx.CE; subst this
  obtain ⟨v', h1, h2⟩ := HV (P := P) (m := m) (t := 0) w h
  exact ⟨v', by simpa [Op.unary, binOp] using h1, h2⟩
 ·have := hx.CE; subst this
  obtain ⟨v', h1, h2⟩ := HV (P := P) (m := m) (t := 0) w h
  exact ⟨v', by simpa [Op.unary, binOp] using h1, h2⟩
 ·have := hx.Gz; subst this
  injection h with h; subst h
  exact ⟨_, by simp [Op.unary], .bool _⟩
 ·cases h
theorem OK {src dst : TypeId} {x : AA} {x' : Value} {v : AA} (hx : VR m x x') (h : SE P src dst x = some v) : ∃ v', (convert src dst x').run P w = .ok v' w ∧ VR m v v' := by
 unfold SE at h
 split at h
 ·rename_i d k k' n hs hd
  have := hx.CE; subst this
  injection h with h; subst h
  exact ⟨_, by simp [convert, AK w hs, AK w hd, Conv.intToInt], .int _ _⟩
 ·rename_i d s hs hd
  have := hx.CD; subst this
  injection h with h; subst h
  exact ⟨.string ⟨⟨s⟩⟩, by simp [convert, AK w hs, AK w hd], .str ⟨⟨s⟩⟩⟩
 ·rename_i d k n hs hd
  have := hx.CE; subst this
  injection h with h; subst h
  exact ⟨.string (Utf8.encode n), by simp [convert, AK w hs, AK w hd, Conv.intToString], .str _⟩
 ·cases h
def VB (m : AV) : Option AA → Option Value → Prop
 | none, none => True
 | some a, some v => VR m a v
 | _, _ => False
theorem E6 {k : IntKind} {n : Int} {y : Nat} {c : BoundsCode} (h0 : 0 ≤ n) (h1 : n ≤ y) : (Instr.sliceBound (.int k n) y c).run P w = .ok n.toNat w := by
 simp [Instr.sliceBound, asIntOf, h0, h1]
theorem Dl {n c : Nat} {lo hi : Option AA} {lo' hi' : Option Value} {l u : Nat} (isS : Bool) (hlo : VB m lo lo') (hhi : VB m hi hi') (hc : n ≤ c) (h : Cy n lo hi = some (l, u)) :
  (Instr.sliceBounds isS n c lo' hi' none).run P w = .ok (l, u, c) w ∧ l ≤ u ∧ u ≤ n := by
 unfold Cy at h
 split at h
 ·rename_i k a
  cases hi' with
  | none => exact hhi.elim
  | some v =>
   have : v = .int k a := VR.CE hhi
   subst this
   split at h
   ·rename_i hb
    obtain ⟨b0, b1⟩ := hb
    split at h
    ·rename_i k2 b
     cases lo' with
     | none => exact hlo.elim
     | some v =>
      have : v = .int k2 b := VR.CE hlo
      subst this
      split at h
      ·rename_i hb2
       injection h with h; injection h with h1 h2; subst h1; subst h2
       refine ⟨?_, by omega, by omega⟩
       simp [Instr.sliceBounds, E6 (P := P) w b0 (show a ≤ (c : Int) by omega), E6 (P := P) w hb2.1 (show b ≤ (a.toNat : Int) by omega)]
      ·cases h
    ·cases h
    ·cases lo' with
     | some v => exact hlo.elim
     | none =>
      injection h with h; injection h with h1 h2; subst h1; subst h2
      refine ⟨?_, by omega, by omega⟩
      simp [Instr.sliceBounds, E6 (P := P) w b0 (show a ≤ (c : Int) by omega)]
   ·cases h
 ·cases h
 ·cases hi' with
  | some v => exact hhi.elim
  | none =>
   split at h
   ·rename_i k2 b
    cases lo' with
    | none => exact hlo.elim
    | some v =>
     have : v = .int k2 b := VR.CE hlo
     subst this
     split at h
     ·rename_i hb2
      injection h with h; injection h with h1 h2; subst h1; subst h2
      refine ⟨?_, by omega, by omega⟩
      simp [Instr.sliceBounds, E6 (P := P) w hb2.1 hb2.2]
     ·cases h
   ·cases h
   ·cases lo' with
    | some v => exact hlo.elim
    | none =>
     injection h with h; injection h with h1 h2; subst h1; subst h2
     exact ⟨by simp [Instr.sliceBounds], by omega, by omega⟩
theorem Im (s : List UInt8) (l u : Nat) : (⟨⟨s⟩⟩ : ByteArray).extract l u = ⟨⟨(s.drop l).take (u - l)⟩⟩ := by
 apply ByteArray.ext
 rw [ByteArray.data_extract]
 apply Array.ext'
 simp [List.extract_eq_take_drop]
theorem M6 {t : TypeId} {x : AA} {x' : Value} {lo hi : Option AA} {lo' hi' : Option Value} {v : AA} (hx : VR m x x') (hlo : VB m lo lo') (hhi : VB m hi hi') (h : Nl P t x lo hi = some v) :
  ∃ v', (Instr.sliceAt t x' lo' hi' none).run P w = .ok v' w ∧ VR m v v' := by
 unfold Nl at h
 split at h
 ·rename_i s hu
  have := hx.CD; subst this
  cases hb : Cy s.length lo hi with
  | none => simp [hb] at h
  | some lu =>
   obtain ⟨l, u⟩ := lu
   simp only [hb, Option.map_some, Option.some.injEq] at h; subst h
   have hbs := (Dl (P := P) w (c := s.length) false hlo hhi (Nat.le_refl _) hb).1
   refine ⟨.string ⟨⟨(s.drop l).take (u - l)⟩⟩, ?_, .str ⟨⟨(s.drop l).take (u - l)⟩⟩⟩
   simp only [Instr.sliceAt, Instr.slice, Sem.run_bind, AK w hu, Result.andThen_ok]
   simp [show (⟨⟨s⟩⟩ : ByteArray).size = s.length from rfl, hbs, Im]
 ·cases h
theorem KG {t : TypeId} {x : AA} {x' : Value} {f : Nat} {v : AA} (hx : VR m x x') (h : JB P t x f = some v) :
  ∃ v', (Instr.fieldAt t x' f).run P w = .ok v' w ∧ VR m v v' := by
 unfold JB at h
 split at h
 ·rename_i fs id o hu
  cases hx with
  | ptr _ _ E hE =>
   split at h
   ·rename_i fd hf
    split at h
    ·cases h
    ·rename_i z hz hz0
     injection h with h; subst h
     have hz0' : z ≠ 0 := hz
     refine ⟨.pointer (some ⟨E.g, E.base + (o + fd.offset), none⟩), ?_, .ptr _ _ E hE⟩
     simp [Instr.fieldAt, AK w hu, hf, Instr.sureAddr, fieldPlace, run_sizeOf w hz0, hz0', Addr.add_lit, Nat.add_assoc]
    ·cases h
   ·cases h
 ·rename_i fs g o hu
  cases hx with
  | Gp _ _ =>
   split at h
   ·rename_i fd hf
    split at h
    ·cases h
    ·rename_i z hz hz0
     injection h with h; subst h
     have hz0' : z ≠ 0 := hz
     refine ⟨.pointer (some ⟨g, o + fd.offset, none⟩), ?_, .Gp _ _⟩
     simp [Instr.fieldAt, AK w hu, hf, Instr.sureAddr, fieldPlace, run_sizeOf w hz0, hz0', Addr.add_lit]
    ·cases h
   ·cases h
 ·rename_i fs cs hu
  cases hx with
  | C3 g o _ c hf1 hv =>
   split at h
   ·rename_i fd hf
    split at h
    ·cases h
    ·rename_i z hz hz0
     injection h with h; subst h
     have hz0' : z ≠ 0 := hz
     refine ⟨.pointer (some ⟨g, o + fd.offset, none⟩), ?_, VR.IX hf1 hv _⟩
     simp [Instr.fieldAt, AK w hu, hf, Instr.sureAddr, fieldPlace, run_sizeOf w hz0, hz0', Addr.add_lit]
    ·cases h
   ·cases h
 ·cases h
theorem ND {t : TypeId} {x : AA} {x' : Value} {f : Nat} {v : AA} (hx : VR m x x') (h : Py P t x f = some v) :
  ∃ v', (Instr.field t x' f).run P w = .ok v' w ∧ VR m v v' := by
 unfold Py at h
 split at h
 ·rename_i fs cs hu
  obtain ⟨ds, rfl, vd⟩ := hx.D4
  split at h
  ·rename_i fd hf
   obtain ⟨y, h1, h2⟩ := FL (P := P) w vd h
   exact ⟨y, by simp [Instr.field, AK w hu, hf, asAgg, h1], h2⟩
  ·cases h
 ·cases h
theorem J6 {t : TypeId} {x i : AA} {x' i' : Value} {v : AA} (hx : VR m x x') (hi : VR m i i') (h : Fu P t x i = some v) :
  ∃ v', (Instr.indexAt t x' i').run P w = .ok v' w ∧ VR m v v' := by
 unfold Fu at h
 split at h
 ·rename_i n e id o k i hu
  have := hi.CE; subst this
  cases hx with
  | ptr _ _ E hE =>
   split at h
   ·rename_i hb
    cases hz : Bk P e with
    | none => simp [hz] at h
    | some z =>
     simp only [hz, Option.map_some, Option.some.injEq] at h; subst h
     refine ⟨.pointer (some ⟨E.g, E.base + (o + i.toNat * z), none⟩), ?_, .ptr _ _ E hE⟩
     simp [Instr.indexAt, AK w hu, asIntOf, Instr.sureAddr, hb, run_sizeOf w hz, Addr.add_lit, Nat.add_assoc]
   ·cases h
 ·rename_i e id o n k i hu
  have := hi.CE; subst this
  cases hx with
  | slice _ _ _ cap E a hE hl hc =>
   split at h
   ·rename_i hb
    obtain ⟨ha, _⟩ := hc (by omega)
    subst ha
    cases hz : Bk P e with
    | none => simp [hz] at h
    | some z =>
     simp only [hz, Option.map_some, Option.some.injEq] at h; subst h
     refine ⟨.pointer (some ⟨E.g, E.base + (o + i.toNat * z), none⟩), ?_, .ptr _ _ E hE⟩
     simp [Instr.indexAt, AK w hu, asIntOf, hb, run_sizeOf w hz, Addr.add_lit, Nat.add_assoc]
   ·cases h
 ·rename_i n e g o k i hu
  have := hi.CE; subst this
  cases hx with
  | Gp _ _ =>
   split at h
   ·rename_i hb
    cases hz : Bk P e with
    | none => simp [hz] at h
    | some z =>
     simp only [hz, Option.map_some, Option.some.injEq] at h; subst h
     refine ⟨.pointer (some ⟨g, o + i.toNat * z, none⟩), ?_, .Gp _ _⟩
     simp [Instr.indexAt, AK w hu, asIntOf, Instr.sureAddr, hb, run_sizeOf w hz, Addr.add_lit]
   ·cases h
 ·rename_i n e cs k i hu
  have := hi.CE; subst this
  cases hx with
  | C3 g o _ c hf1 hv =>
   split at h
   ·rename_i hb
    cases hz : Bk P e with
    | none => simp [hz] at h
    | some z =>
     simp only [hz, Option.map_some, Option.some.injEq] at h; subst h
     refine ⟨.pointer (some ⟨g, o + i.toNat * z, none⟩), ?_, VR.IX hf1 hv _⟩
     simp [Instr.indexAt, AK w hu, asIntOf, Instr.sureAddr, hb, run_sizeOf w hz, Addr.add_lit]
   ·cases h
 ·rename_i e n cs k i hu
  have := hi.CE; subst this
  split at h
  ·rename_i hb
   cases hx with
   | GM => omega
   | E5 _ cap g o _ c hc hf1 hv =>
    cases hz : Bk P e with
    | none => simp [hz] at h
    | some z =>
     simp only [hz, Option.bind_some] at h
     split at h
     ·injection h with h; subst h
      refine ⟨.pointer (some ⟨g, o + i.toNat * z, none⟩), ?_, VR.Mg (VR.IX hf1 hv _) _⟩
      simp [Instr.indexAt, AK w hu, asIntOf, hb, run_sizeOf w hz, Addr.add_lit]
     ·cases h
  ·cases h
 ·cases h
theorem Nb {t : TypeId} {x i : AA} {x' i' : Value} {v : AA} (hx : VR m x x') (hi : VR m i i') (h : NS P t x i = some v) :
  ∃ v', (Instr.index t x' i').run P w = .ok v' w ∧ VR m v v' := by
 unfold NS at h
 split at h
 ·rename_i n e cs k i hu
  have := hi.CE; subst this
  obtain ⟨ds, rfl, vd⟩ := hx.D4
  split at h
  ·rename_i hb
   cases hz : Bk P e with
   | none => simp [hz] at h
   | some z =>
    simp only [hz, Option.bind_some] at h
    obtain ⟨y, h1, h2⟩ := FL (P := P) w vd h
    exact ⟨y, by simp [Instr.index, AK w hu, asIntOf, hb, run_sizeOf w hz, h1], h2⟩
  ·cases h
 ·rename_i s k i hu
  have := hi.CE; subst this
  have := hx.CD; subst this
  split at h
  ·rename_i hb
   cases hs : s[i.toNat]? with
   | none => simp [hs] at h
   | some b =>
    simp only [hs, Option.map_some, Option.some.injEq] at h; subst h
    have hs' : (⟨⟨s⟩⟩ : ByteArray)[i.toNat]? = some b := by
     obtain ⟨hlt, e⟩ := List.getElem?_eq_some_iff.1 hs
     rw [getElem?_pos (⟨⟨s⟩⟩ : ByteArray) i.toNat (by simpa [ByteArray.size] using hlt)]
     exact congrArg some e
    exact ⟨.int .u8 b.toNat, by simp [Instr.index, AK w hu, asIntOf, hb, hs'], .int _ _⟩
  ·cases h
 ·cases h
theorem PN {ts : Array TypeId} {ty : TypeId} {x : AA} {x' : Value} {v : AA} (hx : VR m x x') (h : Uv P ts x = some v) :
  ∃ v', (Builtin.len_ ts ty #[x']).run P w = .ok v' w ∧ VR m v v' := by
 unfold Uv at h
 split at h
 ·cases h
 ·rename_i t ht
  split at h
  ·rename_i s hu
   have := hx.CD; subst this
   injection h with h; subst h
   exact ⟨.int .i64 s.length, by simp [Builtin.len_, ht, AK w hu, goInt, show (⟨⟨s⟩⟩ : ByteArray).size = s.length from rfl], .int _ _⟩
  ·rename_i n e y hu
   injection h with h; subst h
   exact ⟨_, by simp [Builtin.len_, ht, AK w hu, goInt], .int _ _⟩
  ·rename_i e r n hu
   injection h with h; subst h
   cases hx <;> exact ⟨_, by simp [Builtin.len_, ht, AK w hu, goInt]; try rfl, .int _ _⟩
  ·rename_i e n cs hu
   injection h with h; subst h
   cases hx <;> exact ⟨_, by simp [Builtin.len_, ht, AK w hu, goInt]; try rfl, .int _ _⟩
  ·cases h
theorem Gr (mx : Bool) : ∀ (r : List AA) (r' : List Value) (x : AA) (x' : Value) (v : AA), VR m x x' → BZ m r r' → IY mx x r = some v →
  ∃ v', (r'.foldlM (if mx then Builtin.max2 else Builtin.min2) x').run P w = .ok v' w ∧ VR m v v'
 | [], r', x, x', v, hx, hr, h => by
  have : r' = [] := List.eq_nil_of_length_eq_zero (by simpa using hr.1.symm)
  subst this
  simp [IY] at h
  subst h
  exact ⟨x', by simp, hx⟩
 | y :: r, [], x, x', v, hx, hr, h => by simp [BZ] at hr
 | y :: r, y' :: r', x, x', v, hx, hr, h => by
  have hy : VR m y y' := hr.2 0 y y' rfl rfl
  have hr' : BZ m r r' := ⟨by simpa using hr.1, fun i a b ha hb => hr.2 (i + 1) a b (by simpa using ha) (by simpa using hb)⟩
  unfold IY at h
  split at h
  ·rename_i heq; cases heq
  ·rename_i k a k' b r2 heq
   injection heq with e1 e2; subst e1; subst e2
   have := hx.CE; subst this
   have := hy.CE; subst this
   split at h
   ·rename_i hk; subst hk
    obtain ⟨v', h1, h2⟩ := Gr mx r r' _ _ v (.int k _) hr' h
    refine ⟨v', ?_, h2⟩
    cases mx <;> simpa [Builtin.max2, Builtin.min2] using h1
   ·cases h
  ·cases h
theorem Ld (off : Nat) : ∀ (l : List Value) (k : Nat) (cs : Array Value), off + k + l.length ≤ cs.size →
  (l.zipIdx k).foldl (fun (cs : Array Value) (x : Value × Nat) => cs.setIfInBounds (off + x.2) x.1) cs = ⟨cs.toList.take (off + k) ++ (l ++ cs.toList.drop (off + k + l.length))⟩
 | [], k, cs, h => by simp
 | v :: l, k, cs, h => by
  simp only [List.zipIdx_cons, List.foldl_cons]
  simp only [List.length_cons] at h
  rw [Ld off l (k + 1) _ (by simp; omega)]
  generalize hL : cs.toList = L
  have hlen : L.length = cs.size := by rw [← hL]; simp
  have e : (cs.setIfInBounds (off + k) v).toList = L.take (off + k) ++ v :: L.drop (off + k + 1) := by
   rw [Array.toList_setIfInBounds, hL, List.set_eq_take_append_cons_drop, if_pos (by omega)]
  have hl : (L.take (off + k)).length = off + k := by simp; omega
  rw [e, show off + (k + 1) + l.length = (L.take (off + k)).length + (1 + l.length) by omega, List.drop_length_add_append,
   show off + (k + 1) = (L.take (off + k)).length + 1 by omega, List.take_length_add_append, List.append_assoc, show 1 + l.length = l.length + 1 by omega, List.drop_succ_cons, List.drop_drop]
  simp only [List.take_succ_cons, List.take_zero, List.cons_append, List.nil_append, List.length_cons]
  rw [show off + k + 1 + l.length = off + k + (l.length + 1) by omega]
theorem Gh {place : Nat → Option (Nat × Nat)} : ∀ (parts : List (Nat × AA)) (parts' : List (Nat × Value)) (cs : List AA) (ds : Array Value) (r : List AA),
  parts.length = parts'.length → (∀ (j i i' : Nat) (x : AA) (y : Value), parts[j]? = some (i, x) → parts'[j]? = some (i', y) → i = i' ∧ VR m x y) → BZ m cs ds.toList → HZ place cs parts = some r →
  ∃ ds', Instr.fill place ds parts' = some ds' ∧ BZ m r ds'.toList
 | [], parts', cs, ds, r, hl, _, hc, h => by
  have : parts' = [] := List.eq_nil_of_length_eq_zero hl.symm
  subst this
  simp [HZ] at h
  subst h
  exact ⟨ds, rfl, hc⟩
 | (i, x) :: parts, [], _, _, _, hl, _, _, _ => by simp at hl
 | (i, x) :: parts, (i', y) :: parts', cs, ds, r, hl, hp, hc, h => by
  obtain ⟨rfl, hxy⟩ := hp 0 i i' x y rfl rfl
  unfold HZ at h
  split at h
  ·rename_i off size new hpl hnew
   split at h
   ·rename_i hb
    have hv := hxy.cells hnew
    have hsz : y.cells.size = size := by rw [← hb.1, hv.1]; simp
    have hds : cs.length = ds.size := by rw [hc.1]; simp
    obtain ⟨ds', h1, h2⟩ := Gh parts parts' _ ⟨ds.toList.take off ++ (y.cells.toList ++ ds.toList.drop (off + y.cells.toList.length))⟩ r (by simpa using hl)
     (fun j a b u v hu hv => hp (j + 1) a b u v (by simpa using hu) (by simpa using hv)) (hc.DR hv off) h
    refine ⟨ds', ?_, h2⟩
    have hcond : (y.cells.size ≠ size || off + y.cells.size > ds.size) = false := by simp [hsz]; omega
    have hf := Ld off y.cells.toList 0 ds (by simp [hsz]; omega)
    simp only [Nat.add_zero] at hf
    rw [← h1]
    simp only [Instr.fill, hpl]
    rw [if_neg (by simpa using hcond)]
    congr 1
    rw [← hf, ← Array.foldl_toList, Array.toList_zipIdx]
   ·cases h
  ·cases h
theorem Dy {t : TypeId} {v : AA} (h : Ek P t = some v) : ∃ i z, P.info? t = some i ∧ i.zero = some z ∧ VR m v z := by
 unfold Ek at h
 cases hi : P.info? t with
 | none => simp [hi] at h
 | some i =>
  simp only [hi] at h
  cases hz : i.zero with
  | none => simp [hz] at h
  | some z =>
   simp only [hz, Option.map_some, Option.some.injEq] at h
   subst h
   exact ⟨i, z, rfl, hz, VR.Sz m z⟩
theorem M7 {t : TypeId} {parts : List (Nat × AA)} {parts' : List (Nat × Value)} {v : AA} (hl : parts.length = parts'.length)
  (hp : ∀ (j i i' : Nat) (x : AA) (y : Value), parts[j]? = some (i, x) → parts'[j]? = some (i', y) → i = i' ∧ VR m x y) (h : Pn P t parts = some v) :
  ∃ cells, P.built t parts' = some cells ∧ VR m v (.agg cells) := by
 unfold Pn at h
 split at h
 ·rename_i n e z hu hz
  cases hz0 : Ek P t with
  | none => simp [hz0] at hz
  | some zv =>
   simp only [hz0, Option.bind_some] at hz
   obtain ⟨i, zz, hi, hiz, hvz⟩ := Dy (m := m) hz0
   cases hs : Bk P e with
   | none => simp [hs] at h
   | some n' =>
    simp only [hs, Option.bind_some] at h
    cases hf : HZ (fun i => some (i * n', n')) z parts with
    | none => simp [hf] at h
    | some r =>
     simp only [hf, Option.map_some, Option.some.injEq] at h
     subst h
     obtain ⟨ds', h1, h2⟩ := Gh (m := m) parts parts' z zz.cells r hl hp (hvz.cells hz) hf
     unfold Bk at hs
     cases hie : P.info? e with
     | none => simp [hie] at hs
     | some ie =>
      simp [hie] at hs
      subst hs
      exact ⟨ds', by simp [Program.built, hi, hu, hiz, hie, h1], BZ.agg h2⟩
 ·rename_i fs z hu hz
  cases hz0 : Ek P t with
  | none => simp [hz0] at hz
  | some zv =>
   simp only [hz0, Option.bind_some] at hz
   obtain ⟨i, zz, hi, hiz, hvz⟩ := Dy (m := m) hz0
   cases hs : Nk P fs.toList with
   | none => simp [hs] at h
   | some ps =>
    simp only [hs, Option.bind_some] at h
    cases hf : HZ (ps[·]?) z parts with
    | none => simp [hf] at h
    | some r =>
     simp only [hf, Option.map_some, Option.some.injEq] at h
     subst h
     obtain ⟨ds', h1, h2⟩ := Gh (m := m) parts parts' z zz.cells r hl hp (hvz.cells hz) hf
     unfold Nk at hs
     exact ⟨ds', by simp [Program.built, hi, hu, hiz, hs, h1], BZ.agg h2⟩
 ·cases h
theorem QF {fr : Fr} {a : Act} (hf : FR m fr a) (x : Option Operand) : VB m (x.map (ev fr)) (x.map a.eval) := by
 cases x with
 | none => trivial
 | some x => exact hf.ev x
theorem Mn {fr : Fr} {a : Act} (hf : FR m fr a) {o : Oper} {v : AA} (h : G6 P fr o.op = some v) : ∃ v', (execOp a.eval o).run P w = .ok (.value v') w ∧ VR m v v' := by
 obtain ⟨dst, op, ty, pos, aft, gd⟩ := o
 simp only at h
 have lift : ∀ {s : Sem Value} {u : AA}, (∃ v', s.run P w = .ok v' w ∧ VR m u v') → ∃ v', (do pure (.value (← s)) : Sem Next).run P w = .ok (.value v') w ∧ VR m u v' := by
  rintro s u ⟨v', h1, h2⟩
  exact ⟨v', by simp [h1], h2⟩
 cases op with
 | move x => simp only [G6, Option.some.injEq] at h; subst h; exact ⟨_, rfl, hf.ev x⟩
 | assign x => simp only [G6, Option.some.injEq] at h; subst h; exact ⟨_, rfl, hf.ev x⟩
 | pick c x y =>
  simp only [G6] at h
  split at h
  ·rename_i b hb
   have hc := hf.ev c
   rw [hb] at hc
   have hc := hc.Gz
   injection h with h
   subst h
   cases b
   ·exact ⟨a.eval y, by simp [execOp, asBool, hc], hf.ev y⟩
   ·exact ⟨a.eval x, by simp [execOp, asBool, hc], hf.ev x⟩
  ·cases h
 | build t parts =>
  simp only [G6] at h
  obtain ⟨cells, h1, h2⟩ := M7 (m := m) (parts' := (parts.map fun (i, x) => (i, a.eval x)).toList) (by simp) (fun j i i' x y hx hy => by
   simp only [List.getElem?_map, Array.toList_map] at hx hy
   cases hj : parts.toList[j]? with
   | none => simp [hj] at hx
   | some p =>
    simp only [hj, Option.map_some, Option.some.injEq, Prod.mk.injEq] at hx hy
    obtain ⟨rfl, rfl⟩ := hx
    obtain ⟨rfl, rfl⟩ := hy
    exact ⟨rfl, hf.ev p.2⟩) h
  exact lift ⟨_, run_build w t _ cells h1, h2⟩
 | nilCheck x =>
  simp only [G6] at h
  split at h
  ·rename_i r hr
   have hx := hf.ev x
   rw [hr] at hx
   injection h with h
   subst h
   cases he : a.eval x <;> rw [he] at hx <;> try (cases hx; done)
   rename_i p
   cases p with
   | none => cases hx
   | some p => exact ⟨.pointer (some p), by simp [execOp, he], hx⟩
  ·rename_i g o hr
   have hx := hf.ev x
   rw [hr] at hx
   injection h with h
   subst h
   cases he : a.eval x <;> rw [he] at hx <;> try (cases hx; done)
   rename_i p
   cases p with
   | none => cases hx
   | some p => exact ⟨.pointer (some p), by simp [execOp, he], hx⟩
  ·rename_i cs hr
   have hx := hf.ev x
   rw [hr] at hx
   injection h with h
   subst h
   cases he : a.eval x <;> rw [he] at hx <;> try (cases hx; done)
   rename_i p
   cases p with
   | none => cases hx
   | some p => exact ⟨.pointer (some p), by simp [execOp, he], hx⟩
  ·rename_i f b c hr
   have hx := hf.ev x
   rw [hr] at hx
   injection h with h
   subst h
   cases he : a.eval x <;> rw [he] at hx <;> try (cases hx; done)
   rename_i fn c d
   have : fn = .func f := by cases hx; rfl
   subst this
   exact ⟨.func (.func f) c d, by simp [execOp, he], hx⟩
  ·cases h
 | binOp op t x y yt => simp only [G6] at h; exact lift (PZ w (hf.ev x) (hf.ev y) h)
 | unOp op t x => simp only [G6] at h; exact lift (RE w (hf.ev x) h)
 | convert s d x => simp only [G6] at h; exact lift (OK w (hf.ev x) h)
 | makeFunc fn first cap =>
  simp only [G6, Option.some.injEq] at h
  subst h
  refine lift ⟨.func fn (first.map a.eval) (cap.map a.eval), rfl, ?_⟩
  have h1 := hf.VE first.toList
  have h2 := hf.VE cap.toList
  exact .func _ _ _ _ _ (by simp) (fun i x y hx hy => h1.2 i x y hx (by simpa using hy)) (by simp) (fun i x y hx hy => h2.2 i x y hx (by simpa using hy))
 | slice t x lo hi mx =>
  cases mx with
  | some y => simp [G6] at h
  | none => simp only [G6] at h; exact lift (M6 w (hf.ev x) (QF hf lo) (QF hf hi) h)
 | fieldAddr s x f => simp only [G6] at h; exact lift (KG w (hf.ev x) h)
 | field s x f => simp only [G6] at h; exact lift (ND w (hf.ev x) h)
 | indexAddr t x i => simp only [G6] at h; exact lift (J6 w (hf.ev x) (hf.ev i) h)
 | index t x i => simp only [G6] at h; exact lift (Nb w (hf.ev x) (hf.ev i) h)
 | extract x i =>
  simp only [G6] at h
  split at h
  ·rename_i vs hr
   have hx := hf.ev x
   rw [hr] at hx
   obtain ⟨c, hc, hv⟩ := hx.Fo
   obtain ⟨y, hy, hvy⟩ := hv.at_ h
   have hy' : c[i]? = some y := by simpa using hy
   exact lift ⟨y, by simp [hc, Instr.extract, hy'], hvy⟩
  ·cases h
 | call c =>
  obtain ⟨callee, as, ts⟩ := c
  cases callee with
  | value f => simp [G6] at h
  | invoke r mth => simp [G6] at h
  | builtin b =>
   simp only [G6] at h
   have hall := hf.VE as.toList
   have hargs : (as.map a.eval).toList = as.toList.map a.eval := by simp
   have res : ∀ (w : World), (resolve a.eval { callee := .builtin b, args := as, argTypes := ts } ty).run P w = .ok { target := .builtin b ts ty (as.map fun | .const _ => true | _ => false), args := as.map a.eval } w := fun w => rfl
   split at h
   ·rename_i x heq
    obtain ⟨x', hx', hvx⟩ : ∃ x', as.map a.eval = #[x'] ∧ VR m x x' := by
     rw [heq] at hall
     have hlen : (as.toList.map a.eval).length = 1 := by rw [← hall.1]; rfl
     match hq : as.toList.map a.eval, hlen with
     | [x'], _ => exact ⟨x', Array.ext' (by simpa using hq), hall.2 0 x x' rfl (by rw [hq]; rfl)⟩
    obtain ⟨v', h1, h2⟩ := PN (P := P) (m := m) (ty := ty) w hvx h
    exact ⟨v', by simp [execOp, res, invoke, builtin, hx', h1], h2⟩
   ·rename_i x r heq
    rw [heq] at hall
    match hq : as.toList.map a.eval with
    | [] => rw [hq] at hall; simp [BZ] at hall
    | x' :: r' =>
     rw [hq] at hall
     obtain ⟨v', h1, h2⟩ := Gr (P := P) w false r r' x x' v (hall.2 0 x x' rfl rfl) ⟨by simpa using hall.1, fun i u z hu hz => hall.2 (i + 1) u z (by simpa using hu) (by simpa using hz)⟩ h
     refine ⟨v', ?_, h2⟩
     simp only [Bool.false_eq_true, if_false] at h1
     simp [execOp, res, invoke, builtin, Builtin.min_, hq, h1]
   ·rename_i x r heq
    rw [heq] at hall
    match hq : as.toList.map a.eval with
    | [] => rw [hq] at hall; simp [BZ] at hall
    | x' :: r' =>
     rw [hq] at hall
     obtain ⟨v', h1, h2⟩ := Gr (P := P) w true r r' x x' v (hall.2 0 x x' rfl rfl) ⟨by simpa using hall.1, fun i u z hu hz => hall.2 (i + 1) u z (by simpa using hu) (by simpa using hz)⟩ h
     refine ⟨v', ?_, h2⟩
     simp only [if_true] at h1
     simp [execOp, res, invoke, builtin, Builtin.max_, hq, h1]
   ·cases h
 | _ => simp [G6] at h
end
end Go.Av
