/-
 A part.
-/
import Derived.Test.YtdbkpibbjnhmgaaDoorAvEq
namespace Go.Av
open Go.RowKit
section
variable {P : Program} {m : AU} (w : World)
theorem VR.B5 {k : IntKind} {n : Int} {v : Value} (h : VR m (.int k n) v) : v = .int k n := by cases h; rfl
theorem VR.Gc {b : Bool} {v : Value} (h : VR m (.bool b) v) : v = .bool b := by cases h; rfl
theorem Gw {op : BinOp} {t : TypeId} {k : IntKind} {a b : Int} {v : AA} (h : LS op k a b = some v) :
  ∃ v', (binOp op t (.int k a) (.int k b)).run P w = .ok v' w ∧ VR m v v' := by
 cases op <;> simp [LS] at h
 case quo => obtain ⟨hb, rfl⟩ := h; exact ⟨_, by simp [binOp, Op.intDiv, hb], .int _ _⟩
 case rem => obtain ⟨hb, rfl⟩ := h; exact ⟨_, by simp [binOp, Op.intDiv, hb], .int _ _⟩
 all_goals subst h
 case add => exact ⟨_, by simp [binOp, Op.intArith], .int _ _⟩
 case sub => exact ⟨_, by simp [binOp, Op.intArith], .int _ _⟩
 case mul => exact ⟨_, by simp [binOp, Op.intArith], .int _ _⟩
 case and => exact ⟨.int k (k.wrap (BitVec.ofInt k.bits a &&& BitVec.ofInt k.bits b).toNat), by simp [binOp, Op.intBits], by simpa using VR.int (m := m) k _⟩
 case or => exact ⟨.int k (k.wrap (BitVec.ofInt k.bits a ||| BitVec.ofInt k.bits b).toNat), by simp [binOp, Op.intBits], by simpa using VR.int (m := m) k _⟩
 case xor => exact ⟨.int k (k.wrap (BitVec.ofInt k.bits a ^^^ BitVec.ofInt k.bits b).toNat), by simp [binOp, Op.intBits], by simpa using VR.int (m := m) k _⟩
 case andNot => exact ⟨.int k (k.wrap (BitVec.ofInt k.bits a &&& ~~~BitVec.ofInt k.bits b).toNat), by simp [binOp, Op.intBits], by simpa using VR.int (m := m) k _⟩
 all_goals exact ⟨_, by simp [binOp, Op.intCmp]; rfl, by first | exact .bool _ | simpa using VR.bool (m := m) _⟩
theorem Jz {op : BinOp} {t : TypeId} {k yk : IntKind} {a b : Int} {v : AA} (h : Po op k a b = some v) :
  ∃ v', (binOp op t (.int k a) (.int yk b)).run P w = .ok v' w ∧ VR m v v' := by
 unfold Po at h
 split at h
 ·cases h
 ·rename_i hb
  cases op <;> simp at h
  case shl => subst h; exact ⟨_, by simp [binOp, Op.shift, hb], .int _ _⟩
  case shr => subst h; exact ⟨_, by simp [binOp, Op.shift, hb], .int _ _⟩
theorem ND {op : BinOp} {t : TypeId} {a b : List UInt8} {v : AA} (h : M6 op a b = some v) :
  ∃ v', (binOp op t (.string ⟨⟨a⟩⟩) (.string ⟨⟨b⟩⟩)).run P w = .ok v' w ∧ VR m v v' := by
 have ea : ByteArray.toList ⟨⟨a⟩⟩ = a := by rw [ByteArray.toList_eq]
 have eb : ByteArray.toList ⟨⟨b⟩⟩ = b := by rw [ByteArray.toList_eq]
 cases op <;> simp [M6] at h
 case add =>
  obtain ⟨hl, rfl⟩ := h
  refine ⟨.string (⟨⟨a⟩⟩ ++ ⟨⟨b⟩⟩), ?_, ?_⟩
  ·have : ¬ ((9223372036854775807 : Int) < ((⟨⟨a⟩⟩ : ByteArray).size : Int) + ((⟨⟨b⟩⟩ : ByteArray).size : Int)) := by
    simp [ByteArray.size]; omega
   simp [binOp, Op.stringOp, this]
  ·have := VR.str (m := m) (⟨⟨a⟩⟩ ++ ⟨⟨b⟩⟩)
   simpa [ByteArray.append, ByteArray.data_append] using this
 all_goals subst h; exact ⟨_, by simp [binOp, Op.stringOp, ea, eb]; rfl, by first | exact .bool _ | simpa using VR.bool (m := m) _⟩
theorem C5 {op : BinOp} {t : TypeId} {ox oy : Operand} {x y : Value} {v : Value} (hg : (eqGuard op t ox oy x y).run P w = .ok () w) (h : (binOp op t x y).run P w = .ok v w) :
  (do eqGuard op t ox oy x y; binOp op t x y : Sem Value).run P w = .ok v w := by
 rw [Sem.run_bind, hg]; exact h
theorem D5 {op : BinOp} {t : TypeId} {ox oy : Operand} {x y : Value} (hx : ∀ a, x ≠ .agg a) (hn : x ≠ .nilIface) : (eqGuard op t ox oy x y).run P w = .ok () w := by
 cases x <;> first | exact absurd rfl hn | exact absurd rfl (hx _) | (cases op <;> simp [eqGuard])
theorem DT {op : BinOp} {t : TypeId} {x y : Value} {b : Bool} (hi : ∀ k n, x ≠ .int k n) (hs : ∀ s, x ≠ .string s) (hf : ∀ k n, x ≠ .float k n) (hc : ∀ k a b, x ≠ .complex k a b)
  (hop : op = .eql ∨ op = .neq) (h : (Op.equalIn 10000 t x y).run P w = .ok b w) : (binOp op t x y).run P w = .ok (.bool (if op = .eql then b else !b)) w := by
 rcases hop with rfl | rfl <;> cases x <;>
  first
   | exact absurd rfl (hi _ _) | exact absurd rfl (hs _) | exact absurd rfl (hf _ _) | exact absurd rfl (hc _ _ _)
   | simp [binOp, Op.equal, Op.maxDepth, h]
theorem PZ {op : BinOp} {t : TypeId} {ox oy : Operand} {x y : AA} {x' y' : Value} {v : AA} (hx : VR m x x') (hy : VR m y y') (h : UP P op t x y = some v) :
  ∃ v', (do eqGuard op t ox oy x' y'; binOp op t x' y' : Sem Value).run P w = .ok v' w ∧ VR m v v' := by
 unfold UP at h
 split at h
 ·-- int, int
  rename_i k a k' b
  have := hx.B5; subst this
  have := hy.B5; subst this
  have hg := D5 (P := P) w (op := op) (t := t) (ox := ox) (oy := oy) (x := .int k a) (y := .int k' b) (fun a h => by cases h) (fun h => by cases h)
  split at h
  ·obtain ⟨v', h1, h2⟩ := Jz (P := P) (m := m) (t := t) (yk := k') w h; exact ⟨v', C5 w hg h1, h2⟩
  ·obtain ⟨v', h1, h2⟩ := Jz (P := P) (m := m) (t := t) (yk := k') w h; exact ⟨v', C5 w hg h1, h2⟩
  ·split at h
   ·rename_i hk; subst hk
    obtain ⟨v', h1, h2⟩ := Gw (P := P) (m := m) (t := t) w h; exact ⟨v', C5 w hg h1, h2⟩
   ·cases h
 ·rename_i a b
  have := hx.B9; subst this
  have := hy.B9; subst this
  have hg := D5 (P := P) w (op := op) (t := t) (ox := ox) (oy := oy) (x := .string ⟨⟨a⟩⟩) (y := .string ⟨⟨b⟩⟩) (fun a h => by cases h) (fun h => by cases h)
  obtain ⟨v', h1, h2⟩ := ND (P := P) (m := m) (t := t) w h; exact ⟨v', C5 w hg h1, h2⟩
 ·rename_i xs ys
  obtain ⟨xs', rfl, vx⟩ := hx.Dy
  obtain ⟨ys', rfl, vy⟩ := hy.Dy
  split at h
  ·cases h
  ·rename_i hgt
   have hg := run_eqGuard_agg (P := P) w op t ox oy xs' ys' (by simpa using hgt)
   split at h
   ·cases he : HP P 10000 t (.agg xs) (.agg ys) with
    | none => simp [he] at h
    | some b =>
     simp only [he, Option.map_some, Option.some.injEq] at h; subst h
     exact ⟨_, C5 w hg (DT w (by simp) (by simp) (by simp) (by simp) (.inl rfl) (GG w _ _ _ _ _ _ _ hx hy he)), by simpa using VR.bool (m := m) b⟩
   ·cases he : HP P 10000 t (.agg xs) (.agg ys) with
    | none => simp [he] at h
    | some b =>
     simp only [he, Option.map_some, Option.some.injEq] at h; subst h
     exact ⟨_, C5 w hg (DT w (by simp) (by simp) (by simp) (by simp) (.inr rfl) (GG w _ _ _ _ _ _ _ hx hy he)), by simpa using VR.bool (m := m) (!b)⟩
   ·cases h
 ·split at h
  ·rename_i hq
   have hne : (∀ k n, x' ≠ .int k n) ∧ (∀ s, x' ≠ .string s) ∧ (∀ k n, x' ≠ .float k n) ∧ (∀ k a b, x' ≠ .complex k a b) ∧ (∀ a, x' ≠ .agg a) ∧ x' ≠ .nilIface := by
    cases hx <;> simp [S5] at hq <;> simp
   obtain ⟨a1, a2, a3, a4, a5, a6⟩ := hne
   split at h
   ·cases he : HP P 10000 t x y with
    | none => simp [he] at h
    | some b =>
     simp only [he, Option.map_some, Option.some.injEq] at h; subst h
     exact ⟨_, C5 w (D5 w a5 a6) (DT w a1 a2 a3 a4 (.inl rfl) (GG w _ _ _ _ _ _ _ hx hy he)), by simpa using VR.bool (m := m) b⟩
   ·cases he : HP P 10000 t x y with
    | none => simp [he] at h
    | some b =>
     simp only [he, Option.map_some, Option.some.injEq] at h; subst h
     exact ⟨_, C5 w (D5 w a5 a6) (DT w a1 a2 a3 a4 (.inr rfl) (GG w _ _ _ _ _ _ _ hx hy he)), by simpa using VR.bool (m := m) (!b)⟩
   ·cases h
  ·cases h
theorem Pc {op : BinOp} {t : TypeId} {ox oy : Operand} {x y : AA} {x' y' : Value} {v : AA} (hx : VR m x x') (hy : VR m y y') (h : UN P op t (VG ox || VG oy) x y = some v) :
  ∃ v', (do eqGuard op t ox oy x' y'; binOp op t x' y' : Sem Value).run P w = .ok v' w ∧ VR m v v' := by
 unfold UN at h
 split at h
 ·cases hx
  cases hy
  unfold Wz at h
  split at h
  ·rename_i ms hu
   cases hc : (VG ox || VG oy) with
   | false => rw [hc] at h; cases h
   | true =>
    rw [hc] at h
    have hg : (eqGuard op t ox oy .nilIface .nilIface).run P w = .ok () w := by
     cases ox <;> cases oy <;> simp [VG] at hc <;> cases op <;> simp [eqGuard]
    have hd : ∀ d, (Op.equalIn (d + 1) t .nilIface .nilIface).run P w = .ok true w := by
     intro d; simp [Op.equalIn, AK w hu]
    have he : (Op.equalIn 10000 t .nilIface .nilIface).run P w = .ok true w := hd 9999
    simp only [cond_true] at h
    split at h
    ·injection h with h; subst h
     exact ⟨_, C5 w hg (DT w (by simp) (by simp) (by simp) (by simp) (.inl rfl) he), by simpa using VR.bool (m := m) true⟩
    ·injection h with h; subst h
     exact ⟨_, C5 w hg (DT w (by simp) (by simp) (by simp) (by simp) (.inr rfl) he), by simpa using VR.bool (m := m) false⟩
    ·cases h
  ·cases h
 ·exact PZ w hx hy h
theorem RS {op : UnOp} {x : AA} {x' : Value} {v : AA} (hx : VR m x x') (h : XI op x = some v) : ∃ v', (Op.unary op x').run P w = .ok v' w ∧ VR m v v' := by
 unfold XI at h
 split at h
 ·have := hx.B5; subst this
  obtain ⟨v', h1, h2⟩ := Gw (P := P) (m := m) (t := 0) w h
  exact ⟨v', by simpa [Op.unary, binOp] using h1, h2⟩
 ·have := hx.B5; subst this
  obtain ⟨v', h1, h2⟩ := Gw (P := P) (m := m) (t := 0) w h
  exact ⟨v', by simpa [Op.unary, binOp] using h1, h2⟩
 ·have := hx.Gc; subst this
  injection h with h; subst h
  exact ⟨_, by simp [Op.unary], .bool _⟩
 ·cases h
theorem Oc {src dst : TypeId} {x : AA} {x' : Value} {v : AA} (hx : VR m x x') (h : SC P src dst x = some v) : ∃ v', (convert src dst x').run P w = .ok v' w ∧ VR m v v' := by
 unfold SC at h
 split at h
 ·rename_i d k k' n hs hd
  have := hx.B5; subst this
  injection h with h; subst h
  exact ⟨_, by simp [convert, AK w hs, AK w hd, Conv.intToInt], .int _ _⟩
 ·rename_i d s hs hd
  have := hx.B9; subst this
  injection h with h; subst h
  exact ⟨.string ⟨⟨s⟩⟩, by simp [convert, AK w hs, AK w hd], .str ⟨⟨s⟩⟩⟩
 ·rename_i d k n hs hd
  have := hx.B5; subst this
  injection h with h; subst h
  exact ⟨.string (Utf8.encode n), by simp [convert, AK w hs, AK w hd, Conv.intToString], .str _⟩
 ·cases h
def Vj (m : AU) : Option AA → Option Value → Prop
 | none, none => True
 | some a, some v => VR m a v
 | _, _ => False
theorem Eu {k : IntKind} {n : Int} {y : Nat} {c : BoundsCode} (h0 : 0 ≤ n) (h1 : n ≤ y) : (Instr.sliceBound (.int k n) y c).run P w = .ok n.toNat w := by
 simp [Instr.sliceBound, asIntOf, h0, h1]
theorem Dc {n c : Nat} {lo hi : Option AA} {lo' hi' : Option Value} {l u : Nat} (isS : Bool) (hlo : Vj m lo lo') (hhi : Vj m hi hi') (hc : n ≤ c) (h : Co n lo hi = some (l, u)) :
  (Instr.sliceBounds isS n c lo' hi' none).run P w = .ok (l, u, c) w ∧ l ≤ u ∧ u ≤ n := by
 unfold Co at h
 split at h
 ·rename_i k a
  cases hi' with
  | none => exact hhi.elim
  | some v =>
   have : v = .int k a := VR.B5 hhi
   subst this
   split at h
   ·rename_i hb
    obtain ⟨b0, b1⟩ := hb
    split at h
    ·rename_i k2 b
     cases lo' with
     | none => exact hlo.elim
     | some v =>
      have : v = .int k2 b := VR.B5 hlo
      subst this
      split at h
      ·rename_i hb2
       injection h with h; injection h with h1 h2; subst h1; subst h2
       refine ⟨?_, by omega, by omega⟩
       simp [Instr.sliceBounds, Eu (P := P) w b0 (show a ≤ (c : Int) by omega), Eu (P := P) w hb2.1 (show b ≤ (a.toNat : Int) by omega)]
      ·cases h
    ·cases h
    ·cases lo' with
     | some v => exact hlo.elim
     | none =>
      injection h with h; injection h with h1 h2; subst h1; subst h2
      refine ⟨?_, by omega, by omega⟩
      simp [Instr.sliceBounds, Eu (P := P) w b0 (show a ≤ (c : Int) by omega)]
   ·cases h
 ·cases h
 ·cases hi' with
  | some v => exact hhi.elim
  | none =>
   split at h
   ·rename_i k2 b
    cases lo' with
    | none => exact hlo.elim
    | some v =>
     have : v = .int k2 b := VR.B5 hlo
     subst this
     split at h
     ·rename_i hb2
      injection h with h; injection h with h1 h2; subst h1; subst h2
      refine ⟨?_, by omega, by omega⟩
      simp [Instr.sliceBounds, Eu (P := P) w hb2.1 hb2.2]
     ·cases h
   ·cases h
   ·cases lo' with
    | some v => exact hlo.elim
    | none =>
     injection h with h; injection h with h1 h2; subst h1; subst h2
     exact ⟨by simp [Instr.sliceBounds], by omega, by omega⟩
theorem Ip (s : List UInt8) (l u : Nat) : (⟨⟨s⟩⟩ : ByteArray).extract l u = ⟨⟨(s.drop l).take (u - l)⟩⟩ := by
 apply ByteArray.ext
 rw [ByteArray.data_extract]
 apply Array.ext'
 simp [List.extract_eq_take_drop]
theorem Ny {t : TypeId} {x : AA} {x' : Value} {lo hi : Option AA} {lo' hi' : Option Value} {v : AA} (hx : VR m x x') (hlo : Vj m lo lo') (hhi : Vj m hi hi') (h : Nj P t x lo hi = some v) :
  ∃ v', (Instr.sliceAt t x' lo' hi' none).run P w = .ok v' w ∧ VR m v v' := by
 unfold Nj at h
 split at h
 ·rename_i s hu
  have := hx.B9; subst this
  cases hb : Co s.length lo hi with
  | none => simp [hb] at h
  | some lu =>
   obtain ⟨l, u⟩ := lu
   simp only [hb, Option.map_some, Option.some.injEq] at h; subst h
   have hbs := (Dc (P := P) w (c := s.length) false hlo hhi (Nat.le_refl _) hb).1
   refine ⟨.string ⟨⟨(s.drop l).take (u - l)⟩⟩, ?_, .str ⟨⟨(s.drop l).take (u - l)⟩⟩⟩
   simp only [Instr.sliceAt, Instr.slice, Sem.run_bind, AK w hu, Result.andThen_ok]
   simp [show (⟨⟨s⟩⟩ : ByteArray).size = s.length from rfl, hbs, Ip]
 ·cases h
theorem J4 {t : TypeId} {x : AA} {x' : Value} {f : Nat} {v : AA} (hx : VR m x x') (h : I0 P t x f = some v) :
  ∃ v', (Instr.fieldAt t x' f).run P w = .ok v' w ∧ VR m v v' := by
 unfold I0 at h
 split at h
 ·rename_i fs id o hu
  cases hx with
  | ptr _ _ E hE =>
   split at h
   ·rename_i fd hf
    split at h
    ·cases h
    ·rename_i z hz hz0
     injection h with h; subst h
     have hz0' : z ≠ 0 := hz
     refine ⟨.pointer (some ⟨E.g, E.base + (o + fd.offset), none⟩), ?_, .ptr _ _ E hE⟩
     simp [Instr.fieldAt, AK w hu, hf, Instr.sureAddr, fieldPlace, run_sizeOf w hz0, hz0', Addr.add_lit, Nat.add_assoc]
    ·cases h
   ·cases h
 ·rename_i fs g o hu
  cases hx with
  | GK _ _ =>
   split at h
   ·rename_i fd hf
    split at h
    ·cases h
    ·rename_i z hz hz0
     injection h with h; subst h
     have hz0' : z ≠ 0 := hz
     refine ⟨.pointer (some ⟨g, o + fd.offset, none⟩), ?_, .GK _ _⟩
     simp [Instr.fieldAt, AK w hu, hf, Instr.sureAddr, fieldPlace, run_sizeOf w hz0, hz0', Addr.add_lit]
    ·cases h
   ·cases h
 ·rename_i fs cs hu
  cases hx with
  | DF g o _ c hf1 hv =>
   split at h
   ·rename_i fd hf
    split at h
    ·cases h
    ·rename_i z hz hz0
     injection h with h; subst h
     have hz0' : z ≠ 0 := hz
     refine ⟨.pointer (some ⟨g, o + fd.offset, none⟩), ?_, VR.IZ hf1 hv _⟩
     simp [Instr.fieldAt, AK w hu, hf, Instr.sureAddr, fieldPlace, run_sizeOf w hz0, hz0', Addr.add_lit]
    ·cases h
   ·cases h
 ·cases h
theorem NG {t : TypeId} {x : AA} {x' : Value} {f : Nat} {v : AA} (hx : VR m x x') (h : Pj P t x f = some v) :
  ∃ v', (Instr.field t x' f).run P w = .ok v' w ∧ VR m v v' := by
 unfold Pj at h
 split at h
 ·rename_i fs cs hu
  obtain ⟨ds, rfl, vd⟩ := hx.Dy
  split at h
  ·rename_i fd hf
   obtain ⟨y, h1, h2⟩ := E7 (P := P) w vd h
   exact ⟨y, by simp [Instr.field, AK w hu, hf, asAgg, h1], h2⟩
  ·cases h
 ·cases h
theorem J6 {t : TypeId} {x i : AA} {x' i' : Value} {v : AA} (hx : VR m x x') (hi : VR m i i') (h : Fq P t x i = some v) :
  ∃ v', (Instr.indexAt t x' i').run P w = .ok v' w ∧ VR m v v' := by
 unfold Fq at h
 split at h
 ·rename_i n e id o k i hu
  have := hi.B5; subst this
  cases hx with
  | ptr _ _ E hE =>
   split at h
   ·rename_i hb
    cases hz : Bf P e with
    | none => simp [hz] at h
    | some z =>
     simp only [hz, Option.map_some, Option.some.injEq] at h; subst h
     refine ⟨.pointer (some ⟨E.g, E.base + (o + i.toNat * z), none⟩), ?_, .ptr _ _ E hE⟩
     simp [Instr.indexAt, AK w hu, asIntOf, Instr.sureAddr, hb, run_sizeOf w hz, Addr.add_lit, Nat.add_assoc]
   ·cases h
 ·rename_i e id o n k i hu
  have := hi.B5; subst this
  cases hx with
  | slice _ _ _ cap E a hE hl hc =>
   split at h
   ·rename_i hb
    obtain ⟨ha, _⟩ := hc (by omega)
    subst ha
    cases hz : Bf P e with
    | none => simp [hz] at h
    | some z =>
     simp only [hz, Option.map_some, Option.some.injEq] at h; subst h
     refine ⟨.pointer (some ⟨E.g, E.base + (o + i.toNat * z), none⟩), ?_, .ptr _ _ E hE⟩
     simp [Instr.indexAt, AK w hu, asIntOf, hb, run_sizeOf w hz, Addr.add_lit, Nat.add_assoc]
   ·cases h
 ·rename_i n e g o k i hu
  have := hi.B5; subst this
  cases hx with
  | GK _ _ =>
   split at h
   ·rename_i hb
    cases hz : Bf P e with
    | none => simp [hz] at h
    | some z =>
     simp only [hz, Option.map_some, Option.some.injEq] at h; subst h
     refine ⟨.pointer (some ⟨g, o + i.toNat * z, none⟩), ?_, .GK _ _⟩
     simp [Instr.indexAt, AK w hu, asIntOf, Instr.sureAddr, hb, run_sizeOf w hz, Addr.add_lit]
   ·cases h
 ·rename_i n e cs k i hu
  have := hi.B5; subst this
  cases hx with
  | DF g o _ c hf1 hv =>
   split at h
   ·rename_i hb
    cases hz : Bf P e with
    | none => simp [hz] at h
    | some z =>
     simp only [hz, Option.map_some, Option.some.injEq] at h; subst h
     refine ⟨.pointer (some ⟨g, o + i.toNat * z, none⟩), ?_, VR.IZ hf1 hv _⟩
     simp [Instr.indexAt, AK w hu, asIntOf, Instr.sureAddr, hb, run_sizeOf w hz, Addr.add_lit]
   ·cases h
 ·rename_i e n cs k i hu
  have := hi.B5; subst this
  split at h
  ·rename_i hb
   cases hx with
   | Fy => omega
   | Ev _ cap g o _ c hc hf1 hv =>
    cases hz : Bf P e with
    | none => simp [hz] at h
    | some z =>
     simp only [hz, Option.bind_some] at h
     split at h
     ·injection h with h; subst h
      refine ⟨.pointer (some ⟨g, o + i.toNat * z, none⟩), ?_, VR.Me (VR.IZ hf1 hv _) _⟩
      simp [Instr.indexAt, AK w hu, asIntOf, hb, run_sizeOf w hz, Addr.add_lit]
     ·cases h
  ·cases h
 ·cases h
theorem Nv {t : TypeId} {x i : AA} {x' i' : Value} {v : AA} (hx : VR m x x') (hi : VR m i i') (h : NK P t x i = some v) :
  ∃ v', (Instr.index t x' i').run P w = .ok v' w ∧ VR m v v' := by
 unfold NK at h
 split at h
 ·rename_i n e cs k i hu
  have := hi.B5; subst this
  obtain ⟨ds, rfl, vd⟩ := hx.Dy
  split at h
  ·rename_i hb
   cases hz : Bf P e with
   | none => simp [hz] at h
   | some z =>
    simp only [hz, Option.bind_some] at h
    obtain ⟨y, h1, h2⟩ := E7 (P := P) w vd h
    exact ⟨y, by simp [Instr.index, AK w hu, asIntOf, hb, run_sizeOf w hz, h1], h2⟩
  ·cases h
 ·rename_i s k i hu
  have := hi.B5; subst this
  have := hx.B9; subst this
  split at h
  ·rename_i hb
   cases hs : s[i.toNat]? with
   | none => simp [hs] at h
   | some b =>
    simp only [hs, Option.map_some, Option.some.injEq] at h; subst h
    have hs' : (⟨⟨s⟩⟩ : ByteArray)[i.toNat]? = some b := by
     obtain ⟨hlt, e⟩ := List.getElem?_eq_some_iff.1 hs
     rw [getElem?_pos (⟨⟨s⟩⟩ : ByteArray) i.toNat (by simpa [ByteArray.size] using hlt)]
     exact congrArg some e
    exact ⟨.int .u8 b.toNat, by simp [Instr.index, AK w hu, asIntOf, hb, hs'], .int _ _⟩
  ·cases h
 ·cases h
theorem Pq {ts : Array TypeId} {ty : TypeId} {x : AA} {x' : Value} {v : AA} (hx : VR m x x') (h : Vf P ts x = some v) :
  ∃ v', (Builtin.len_ ts ty #[x']).run P w = .ok v' w ∧ VR m v v' := by
 unfold Vf at h
 split at h
 ·cases h
 ·rename_i t ht
  split at h
  ·rename_i s hu
   have := hx.B9; subst this
   injection h with h; subst h
   exact ⟨.int .i64 s.length, by simp [Builtin.len_, ht, AK w hu, goInt, show (⟨⟨s⟩⟩ : ByteArray).size = s.length from rfl], .int _ _⟩
  ·rename_i n e y hu
   injection h with h; subst h
   exact ⟨_, by simp [Builtin.len_, ht, AK w hu, goInt], .int _ _⟩
  ·rename_i e r n hu
   injection h with h; subst h
   cases hx <;> exact ⟨_, by simp [Builtin.len_, ht, AK w hu, goInt]; try rfl, .int _ _⟩
  ·rename_i e n cs hu
   injection h with h; subst h
   cases hx <;> exact ⟨_, by simp [Builtin.len_, ht, AK w hu, goInt]; try rfl, .int _ _⟩
  ·cases h
theorem GU (mx : Bool) : ∀ (r : List AA) (r' : List Value) (x : AA) (x' : Value) (v : AA), VR m x x' → BU m r r' → IX mx x r = some v →
  ∃ v', (r'.foldlM (if mx then Builtin.max2 else Builtin.min2) x').run P w = .ok v' w ∧ VR m v v'
 | [], r', x, x', v, hx, hr, h => by
  have : r' = [] := List.eq_nil_of_length_eq_zero (by simpa using hr.1.symm)
  subst this
  simp [IX] at h
  subst h
  exact ⟨x', by simp, hx⟩
 | y :: r, [], x, x', v, hx, hr, h => by simp [BU] at hr
 | y :: r, y' :: r', x, x', v, hx, hr, h => by
  have hy : VR m y y' := hr.2 0 y y' rfl rfl
  have hr' : BU m r r' := ⟨by simpa using hr.1, fun i a b ha hb => hr.2 (i + 1) a b (by simpa using ha) (by simpa using hb)⟩
  unfold IX at h
  split at h
  ·rename_i heq; cases heq
  ·rename_i k a k' b r2 heq
   injection heq with e1 e2; subst e1; subst e2
   have := hx.B5; subst this
   have := hy.B5; subst this
   split at h
   ·rename_i hk; subst hk
    obtain ⟨v', h1, h2⟩ := GU mx r r' _ _ v (.int k _) hr' h
    refine ⟨v', ?_, h2⟩
    cases mx <;> simpa [Builtin.max2, Builtin.min2] using h1
   ·cases h
  ·cases h
theorem MA (off : Nat) : ∀ (l : List Value) (k : Nat) (cs : Array Value), off + k + l.length ≤ cs.size →
  (l.zipIdx k).foldl (fun (cs : Array Value) (x : Value × Nat) => cs.setIfInBounds (off + x.2) x.1) cs = ⟨cs.toList.take (off + k) ++ (l ++ cs.toList.drop (off + k + l.length))⟩
 | [], k, cs, h => by simp
 | v :: l, k, cs, h => by
  simp only [List.zipIdx_cons, List.foldl_cons]
  simp only [List.length_cons] at h
  rw [MA off l (k + 1) _ (by simp; omega)]
  generalize hL : cs.toList = L
  have hlen : L.length = cs.size := by rw [← hL]; simp
  have e : (cs.setIfInBounds (off + k) v).toList = L.take (off + k) ++ v :: L.drop (off + k + 1) := by
   rw [Array.toList_setIfInBounds, hL, List.set_eq_take_append_cons_drop, if_pos (by omega)]
  have hl : (L.take (off + k)).length = off + k := by simp; omega
  rw [e, show off + (k + 1) + l.length = (L.take (off + k)).length + (1 + l.length) by omega, List.drop_length_add_append,
   show off + (k + 1) = (L.take (off + k)).length + 1 by omega, List.take_length_add_append, List.append_assoc, show 1 + l.length = l.length + 1 by omega, List.drop_succ_cons, List.drop_drop]
  simp only [List.take_succ_cons, List.take_zero, List.cons_append, List.nil_append, List.length_cons]
  rw [show off + k + 1 + l.length = off + k + (l.length + 1) by omega]
theorem GC {place : Nat → Option (Nat × Nat)} : ∀ (parts : List (Nat × AA)) (parts' : List (Nat × Value)) (cs : List AA) (ds : Array Value) (r : List AA),
  parts.length = parts'.length → (∀ (j i i' : Nat) (x : AA) (y : Value), parts[j]? = some (i, x) → parts'[j]? = some (i', y) → i = i' ∧ VR m x y) → BU m cs ds.toList → HD place cs parts = some r →
  ∃ ds', Instr.fill place ds parts' = some ds' ∧ BU m r ds'.toList
 | [], parts', cs, ds, r, hl, _, hc, h => by
  have : parts' = [] := List.eq_nil_of_length_eq_zero hl.symm
  subst this
  simp [HD] at h
  subst h
  exact ⟨ds, rfl, hc⟩
 | (i, x) :: parts, [], _, _, _, hl, _, _, _ => by simp at hl
 | (i, x) :: parts, (i', y) :: parts', cs, ds, r, hl, hp, hc, h => by
  obtain ⟨rfl, hxy⟩ := hp 0 i i' x y rfl rfl
  unfold HD at h
  split at h
  ·rename_i off size new hpl hnew
   split at h
   ·rename_i hb
    have hv := hxy.cells hnew
    have hsz : y.cells.size = size := by rw [← hb.1, hv.1]; simp
    have hds : cs.length = ds.size := by rw [hc.1]; simp
    obtain ⟨ds', h1, h2⟩ := GC parts parts' _ ⟨ds.toList.take off ++ (y.cells.toList ++ ds.toList.drop (off + y.cells.toList.length))⟩ r (by simpa using hl)
     (fun j a b u v hu hv => hp (j + 1) a b u v (by simpa using hu) (by simpa using hv)) (hc.C1 hv off) h
    refine ⟨ds', ?_, h2⟩
    have hcond : (y.cells.size ≠ size || off + y.cells.size > ds.size) = false := by simp [hsz]; omega
    have hf := MA off y.cells.toList 0 ds (by simp [hsz]; omega)
    simp only [Nat.add_zero] at hf
    rw [← h1]
    simp only [Instr.fill, hpl]
    rw [if_neg (by simpa using hcond)]
    congr 1
    rw [← hf, ← Array.foldl_toList, Array.toList_zipIdx]
   ·cases h
  ·cases h
theorem Dt {t : TypeId} {v : AA} (h : Ec P t = some v) : ∃ i z, P.info? t = some i ∧ i.zero = some z ∧ VR m v z := by
 unfold Ec at h
 cases hi : P.info? t with
 | none => simp [hi] at h
 | some i =>
  simp only [hi] at h
  cases hz : i.zero with
  | none => simp [hz] at h
  | some z =>
   simp only [hz, Option.map_some, Option.some.injEq] at h
   subst h
   exact ⟨i, z, rfl, hz, VR.Te m z⟩
theorem NY {t : TypeId} {parts : List (Nat × AA)} {parts' : List (Nat × Value)} {v : AA} (hl : parts.length = parts'.length)
  (hp : ∀ (j i i' : Nat) (x : AA) (y : Value), parts[j]? = some (i, x) → parts'[j]? = some (i', y) → i = i' ∧ VR m x y) (h : Pt P t parts = some v) :
  ∃ cells, P.built t parts' = some cells ∧ VR m v (.agg cells) := by
 unfold Pt at h
 split at h
 ·rename_i n e z hu hz
  cases hz0 : Ec P t with
  | none => simp [hz0] at hz
  | some zv =>
   simp only [hz0, Option.bind_some] at hz
   obtain ⟨i, zz, hi, hiz, hvz⟩ := Dt (m := m) hz0
   cases hs : Bf P e with
   | none => simp [hs] at h
   | some n' =>
    simp only [hs, Option.bind_some] at h
    cases hf : HD (fun i => some (i * n', n')) z parts with
    | none => simp [hf] at h
    | some r =>
     simp only [hf, Option.map_some, Option.some.injEq] at h
     subst h
     obtain ⟨ds', h1, h2⟩ := GC (m := m) parts parts' z zz.cells r hl hp (hvz.cells hz) hf
     unfold Bf at hs
     cases hie : P.info? e with
     | none => simp [hie] at hs
     | some ie =>
      simp [hie] at hs
      subst hs
      exact ⟨ds', by simp [Program.built, hi, hu, hiz, hie, h1], BU.agg h2⟩
 ·rename_i fs z hu hz
  cases hz0 : Ec P t with
  | none => simp [hz0] at hz
  | some zv =>
   simp only [hz0, Option.bind_some] at hz
   obtain ⟨i, zz, hi, hiz, hvz⟩ := Dt (m := m) hz0
   cases hs : Na P fs.toList with
   | none => simp [hs] at h
   | some ps =>
    simp only [hs, Option.bind_some] at h
    cases hf : HD (ps[·]?) z parts with
    | none => simp [hf] at h
    | some r =>
     simp only [hf, Option.map_some, Option.some.injEq] at h
     subst h
     obtain ⟨ds', h1, h2⟩ := GC (m := m) parts parts' z zz.cells r hl hp (hvz.cells hz) hf
     unfold Na at hs
     exact ⟨ds', by simp [Program.built, hi, hu, hiz, hs, h1], BU.agg h2⟩
 ·cases h
theorem QJ {fr : Fr} {a : Act} (hf : FR m fr a) (x : Option Operand) : Vj m (x.map (ev fr)) (x.map a.eval) := by
 cases x with
 | none => trivial
 | some x => exact hf.ev x
theorem J3 {fr : Fr} {a : Act} (hf : FR m fr a) {o : Oper} {v : AA} (h : GR P fr o.op = some v) : ∃ v', (execOp a.eval o).run P w = .ok (.value v') w ∧ VR m v v' := by
 obtain ⟨dst, op, ty, pos, aft, gd⟩ := o
 simp only at h
 have lift : ∀ {s : Sem Value} {u : AA}, (∃ v', s.run P w = .ok v' w ∧ VR m u v') → ∃ v', (do pure (.value (← s)) : Sem Next).run P w = .ok (.value v') w ∧ VR m u v' := by
  rintro s u ⟨v', h1, h2⟩
  exact ⟨v', by simp [h1], h2⟩
 cases op with
 | move x => simp only [GR, Option.some.injEq] at h; subst h; exact ⟨_, rfl, hf.ev x⟩
 | assign x => simp only [GR, Option.some.injEq] at h; subst h; exact ⟨_, rfl, hf.ev x⟩
 | pick c x y =>
  simp only [GR] at h
  split at h
  ·rename_i b hb
   have hc := hf.ev c
   rw [hb] at hc
   have hc := hc.Gc
   injection h with h
   subst h
   cases b
   ·exact ⟨a.eval y, by simp [execOp, asBool, hc], hf.ev y⟩
   ·exact ⟨a.eval x, by simp [execOp, asBool, hc], hf.ev x⟩
  ·cases h
 | build t parts =>
  simp only [GR] at h
  obtain ⟨cells, h1, h2⟩ := NY (m := m) (parts' := (parts.map fun (i, x) => (i, a.eval x)).toList) (by simp) (fun j i i' x y hx hy => by
   simp only [List.getElem?_map, Array.toList_map] at hx hy
   cases hj : parts.toList[j]? with
   | none => simp [hj] at hx
   | some p =>
    simp only [hj, Option.map_some, Option.some.injEq, Prod.mk.injEq] at hx hy
    obtain ⟨rfl, rfl⟩ := hx
    obtain ⟨rfl, rfl⟩ := hy
    exact ⟨rfl, hf.ev p.2⟩) h
  exact lift ⟨_, run_build w t _ cells h1, h2⟩
 | nilCheck x =>
  simp only [GR] at h
  split at h
  ·rename_i r hr
   have hx := hf.ev x
   rw [hr] at hx
   injection h with h
   subst h
   cases he : a.eval x <;> rw [he] at hx <;> try (cases hx; done)
   rename_i p
   cases p with
   | none => cases hx
   | some p => exact ⟨.pointer (some p), by simp [execOp, he], hx⟩
  ·rename_i g o hr
   have hx := hf.ev x
   rw [hr] at hx
   injection h with h
   subst h
   cases he : a.eval x <;> rw [he] at hx <;> try (cases hx; done)
   rename_i p
   cases p with
   | none => cases hx
   | some p => exact ⟨.pointer (some p), by simp [execOp, he], hx⟩
  ·rename_i cs hr
   have hx := hf.ev x
   rw [hr] at hx
   injection h with h
   subst h
   cases he : a.eval x <;> rw [he] at hx <;> try (cases hx; done)
   rename_i p
   cases p with
   | none => cases hx
   | some p => exact ⟨.pointer (some p), by simp [execOp, he], hx⟩
  ·rename_i f b c hr
   have hx := hf.ev x
   rw [hr] at hx
   injection h with h
   subst h
   cases he : a.eval x <;> rw [he] at hx <;> try (cases hx; done)
   rename_i fn c d
   have : fn = .func f := by cases hx; rfl
   subst this
   exact ⟨.func (.func f) c d, by simp [execOp, he], hx⟩
  ·cases h
 | binOp op t x y yt => simp only [GR] at h; exact lift (Pc w (hf.ev x) (hf.ev y) h)
 | unOp op t x => simp only [GR] at h; exact lift (RS w (hf.ev x) h)
 | convert s d x => simp only [GR] at h; exact lift (Oc w (hf.ev x) h)
 | makeFunc fn first cap =>
  simp only [GR, Option.some.injEq] at h
  subst h
  refine lift ⟨.func fn (first.map a.eval) (cap.map a.eval), rfl, ?_⟩
  have h1 := hf.Vz first.toList
  have h2 := hf.Vz cap.toList
  exact .func _ _ _ _ _ (by simp) (fun i x y hx hy => h1.2 i x y hx (by simpa using hy)) (by simp) (fun i x y hx hy => h2.2 i x y hx (by simpa using hy))
 | slice t x lo hi mx =>
  cases mx with
  | some y => simp [GR] at h
  | none => simp only [GR] at h; exact lift (Ny w (hf.ev x) (QJ hf lo) (QJ hf hi) h)
 | fieldAddr s x f => simp only [GR] at h; exact lift (J4 w (hf.ev x) h)
 | field s x f => simp only [GR] at h; exact lift (NG w (hf.ev x) h)
 | indexAddr t x i => simp only [GR] at h; exact lift (J6 w (hf.ev x) (hf.ev i) h)
 | index t x i => simp only [GR] at h; exact lift (Nv w (hf.ev x) (hf.ev i) h)
 | extract x i =>
  simp only [GR] at h
  split at h
  ·rename_i vs hr
   have hx := hf.ev x
   rw [hr] at hx
   obtain ⟨c, hc, hv⟩ := hx.FV
   obtain ⟨y, hy, hvy⟩ := hv.at_ h
   have hy' : c[i]? = some y := by simpa using hy
   exact lift ⟨y, by simp [hc, Instr.extract, hy'], hvy⟩
  ·cases h
 | call c =>
  obtain ⟨callee, as, ts⟩ := c
  cases callee with
  | value f => simp [GR] at h
  | invoke r mth => simp [GR] at h
  | builtin b =>
   simp only [GR] at h
   have hall := hf.Vz as.toList
   have hargs : (as.map a.eval).toList = as.toList.map a.eval := by simp
   have res : ∀ (w : World), (resolve a.eval { callee := .builtin b, args := as, argTypes := ts } ty).run P w = .ok { target := .builtin b ts ty (as.map fun | .const _ => true | _ => false), args := as.map a.eval } w := fun w => rfl
   split at h
   ·rename_i x heq
    obtain ⟨x', hx', hvx⟩ : ∃ x', as.map a.eval = #[x'] ∧ VR m x x' := by
     rw [heq] at hall
     have hlen : (as.toList.map a.eval).length = 1 := by rw [← hall.1]; rfl
     match hq : as.toList.map a.eval, hlen with
     | [x'], _ => exact ⟨x', Array.ext' (by simpa using hq), hall.2 0 x x' rfl (by rw [hq]; rfl)⟩
    obtain ⟨v', h1, h2⟩ := Pq (P := P) (m := m) (ty := ty) w hvx h
    exact ⟨v', by simp [execOp, res, invoke, builtin, hx', h1], h2⟩
   ·rename_i x r heq
    rw [heq] at hall
    match hq : as.toList.map a.eval with
    | [] => rw [hq] at hall; simp [BU] at hall
    | x' :: r' =>
     rw [hq] at hall
     obtain ⟨v', h1, h2⟩ := GU (P := P) w false r r' x x' v (hall.2 0 x x' rfl rfl) ⟨by simpa using hall.1, fun i u z hu hz => hall.2 (i + 1) u z (by simpa using hu) (by simpa using hz)⟩ h
     refine ⟨v', ?_, h2⟩
     simp only [Bool.false_eq_true, if_false] at h1
     simp [execOp, res, invoke, builtin, Builtin.min_, hq, h1]
   ·rename_i x r heq
    rw [heq] at hall
    match hq : as.toList.map a.eval with
    | [] => rw [hq] at hall; simp [BU] at hall
    | x' :: r' =>
     rw [hq] at hall
     obtain ⟨v', h1, h2⟩ := GU (P := P) w true r r' x x' v (hall.2 0 x x' rfl rfl) ⟨by simpa using hall.1, fun i u z hu hz => hall.2 (i + 1) u z (by simpa using hu) (by simpa using hz)⟩ h
     refine ⟨v', ?_, h2⟩
     simp only [if_true] at h1
     simp [execOp, res, invoke, builtin, Builtin.max_, hq, h1]
   ·cases h
 | _ => simp [GR] at h
end
end Go.Av
