/-
 A part.
-/
import Derived.Test.YtlljeoogceblmaaGreatDoorAvEq
namespace Go.Av
open Go.RowKit
section
variable {P : Program} {m : Aq} (w : World)
theorem VR.B8 {k : IntKind} {n : Int} {v : Value} (h : VR m (.int k n) v) : v = .int k n := by cases h; rfl
theorem VR.IY {b : Bool} {v : Value} (h : VR m (.bool b) v) : v = .bool b := by cases h; rfl
theorem I4 {op : BinOp} {t : TypeId} {k : IntKind} {a b : Int} {v : AA} (h : No op k a b = some v) :
  ∃ v', (binOp op t (.int k a) (.int k b)).run P w = .ok v' w ∧ VR m v v' := by
 cases op <;> simp [No] at h
 case quo => obtain ⟨hb, rfl⟩ := h; exact ⟨_, by simp [binOp, Op.intDiv, hb], .int _ _⟩
 case rem => obtain ⟨hb, rfl⟩ := h; exact ⟨_, by simp [binOp, Op.intDiv, hb], .int _ _⟩
 all_goals subst h
 case add => exact ⟨_, by simp [binOp, Op.intArith], .int _ _⟩
 case sub => exact ⟨_, by simp [binOp, Op.intArith], .int _ _⟩
 case mul => exact ⟨_, by simp [binOp, Op.intArith], .int _ _⟩
 case and => exact ⟨.int k (k.wrap (BitVec.ofInt k.bits a &&& BitVec.ofInt k.bits b).toNat), by simp [binOp, Op.intBits], by simpa using VR.int (m := m) k _⟩
 case or => exact ⟨.int k (k.wrap (BitVec.ofInt k.bits a ||| BitVec.ofInt k.bits b).toNat), by simp [binOp, Op.intBits], by simpa using VR.int (m := m) k _⟩
 case xor => exact ⟨.int k (k.wrap (BitVec.ofInt k.bits a ^^^ BitVec.ofInt k.bits b).toNat), by simp [binOp, Op.intBits], by simpa using VR.int (m := m) k _⟩
 case andNot => exact ⟨.int k (k.wrap (BitVec.ofInt k.bits a &&& ~~~BitVec.ofInt k.bits b).toNat), by simp [binOp, Op.intBits], by simpa using VR.int (m := m) k _⟩
 all_goals exact ⟨_, by simp [binOp, Op.intCmp]; rfl, by first | exact .bool _ | simpa using VR.bool (m := m) _⟩
theorem LZ {op : BinOp} {t : TypeId} {k yk : IntKind} {a b : Int} {v : AA} (h : QI op k a b = some v) :
  ∃ v', (binOp op t (.int k a) (.int yk b)).run P w = .ok v' w ∧ VR m v v' := by
 unfold QI at h
 split at h
 ·cases h
 ·rename_i hb
  cases op <;> simp at h
  case shl => subst h; exact ⟨_, by simp [binOp, Op.shift, hb], .int _ _⟩
  case shr => subst h; exact ⟨_, by simp [binOp, Op.shift, hb], .int _ _⟩
theorem P0 {op : BinOp} {t : TypeId} {a b : List UInt8} {v : AA} (h : QZ op a b = some v) :
  ∃ v', (binOp op t (.string ⟨⟨a⟩⟩) (.string ⟨⟨b⟩⟩)).run P w = .ok v' w ∧ VR m v v' := by
 have ea : ByteArray.toList ⟨⟨a⟩⟩ = a := by rw [ByteArray.toList_eq]
 have eb : ByteArray.toList ⟨⟨b⟩⟩ = b := by rw [ByteArray.toList_eq]
 cases op <;> simp [QZ] at h
 case add =>
  obtain ⟨hl, rfl⟩ := h
  refine ⟨.string (⟨⟨a⟩⟩ ++ ⟨⟨b⟩⟩), ?_, ?_⟩
  ·have : ¬ ((9223372036854775807 : Int) < ((⟨⟨a⟩⟩ : ByteArray).size : Int) + ((⟨⟨b⟩⟩ : ByteArray).size : Int)) := by
    simp [ByteArray.size]; omega
   simp [binOp, Op.stringOp, this]
  ·have := VR.str (m := m) (⟨⟨a⟩⟩ ++ ⟨⟨b⟩⟩)
   simpa [ByteArray.append, ByteArray.data_append] using this
 all_goals subst h; exact ⟨_, by simp [binOp, Op.stringOp, ea, eb]; rfl, by first | exact .bool _ | simpa using VR.bool (m := m) _⟩
theorem Dm {op : BinOp} {t : TypeId} {ox oy : Operand} {x y : Value} {v : Value} (hg : (eqGuard op t ox oy x y).run P w = .ok () w) (h : (binOp op t x y).run P w = .ok v w) :
  (do eqGuard op t ox oy x y; binOp op t x y : Sem Value).run P w = .ok v w := by
 rw [Sem.run_bind, hg]; exact h
theorem GO {op : BinOp} {t : TypeId} {ox oy : Operand} {x y : Value} (hx : ∀ a, x ≠ .agg a) (hn : x ≠ .nilIface) : (eqGuard op t ox oy x y).run P w = .ok () w := by
 cases x <;> first | exact absurd rfl hn | exact absurd rfl (hx _) | (cases op <;> simp [eqGuard])
theorem El {op : BinOp} {t : TypeId} {x y : Value} {b : Bool} (hi : ∀ k n, x ≠ .int k n) (hs : ∀ s, x ≠ .string s) (hf : ∀ k n, x ≠ .float k n) (hc : ∀ k a b, x ≠ .complex k a b)
  (hop : op = .eql ∨ op = .neq) (h : (Op.equalIn 10000 t x y).run P w = .ok b w) : (binOp op t x y).run P w = .ok (.bool (if op = .eql then b else !b)) w := by
 rcases hop with rfl | rfl <;> cases x <;>
  first
   | exact absurd rfl (hi _ _) | exact absurd rfl (hs _) | exact absurd rfl (hf _ _) | exact absurd rfl (hc _ _ _)
   | simp [binOp, Op.equal, Op.maxDepth, h]
theorem S8 {op : BinOp} {t : TypeId} {ox oy : Operand} {x y : AA} {x' y' : Value} {v : AA} (hx : VR m x x') (hy : VR m y y') (h : SH P op t x y = some v) :
  ∃ v', (do eqGuard op t ox oy x' y'; binOp op t x' y' : Sem Value).run P w = .ok v' w ∧ VR m v v' := by
 unfold SH at h
 split at h
 ·-- int, int
  rename_i k a k' b
  have := hx.B8; subst this
  have := hy.B8; subst this
  have hg := GO (P := P) w (op := op) (t := t) (ox := ox) (oy := oy) (x := .int k a) (y := .int k' b) (fun a h => by cases h) (fun h => by cases h)
  split at h
  ·obtain ⟨v', h1, h2⟩ := LZ (P := P) (m := m) (t := t) (yk := k') w h; exact ⟨v', Dm w hg h1, h2⟩
  ·obtain ⟨v', h1, h2⟩ := LZ (P := P) (m := m) (t := t) (yk := k') w h; exact ⟨v', Dm w hg h1, h2⟩
  ·split at h
   ·rename_i hk; subst hk
    obtain ⟨v', h1, h2⟩ := I4 (P := P) (m := m) (t := t) w h; exact ⟨v', Dm w hg h1, h2⟩
   ·cases h
 ·rename_i a b
  have := hx.Cv; subst this
  have := hy.Cv; subst this
  have hg := GO (P := P) w (op := op) (t := t) (ox := ox) (oy := oy) (x := .string ⟨⟨a⟩⟩) (y := .string ⟨⟨b⟩⟩) (fun a h => by cases h) (fun h => by cases h)
  obtain ⟨v', h1, h2⟩ := P0 (P := P) (m := m) (t := t) w h; exact ⟨v', Dm w hg h1, h2⟩
 ·rename_i xs ys
  obtain ⟨xs', rfl, vx⟩ := hx.Em
  obtain ⟨ys', rfl, vy⟩ := hy.Em
  split at h
  ·cases h
  ·rename_i hgt
   have hg := run_eqGuard_agg (P := P) w op t ox oy xs' ys' (by simpa using hgt)
   split at h
   ·cases he : Fb P 10000 t (.agg xs) (.agg ys) with
    | none => simp [he] at h
    | some b =>
     simp only [he, Option.map_some, Option.some.injEq] at h; subst h
     exact ⟨_, Dm w hg (El w (by simp) (by simp) (by simp) (by simp) (.inl rfl) (Ht w _ _ _ _ _ _ _ hx hy he)), by simpa using VR.bool (m := m) b⟩
   ·cases he : Fb P 10000 t (.agg xs) (.agg ys) with
    | none => simp [he] at h
    | some b =>
     simp only [he, Option.map_some, Option.some.injEq] at h; subst h
     exact ⟨_, Dm w hg (El w (by simp) (by simp) (by simp) (by simp) (.inr rfl) (Ht w _ _ _ _ _ _ _ hx hy he)), by simpa using VR.bool (m := m) (!b)⟩
   ·cases h
 ·split at h
  ·rename_i hq
   have hne : (∀ k n, x' ≠ .int k n) ∧ (∀ s, x' ≠ .string s) ∧ (∀ k n, x' ≠ .float k n) ∧ (∀ k a b, x' ≠ .complex k a b) ∧ (∀ a, x' ≠ .agg a) ∧ x' ≠ .nilIface := by
    cases hx <;> simp [WU] at hq <;> simp
   obtain ⟨a1, a2, a3, a4, a5, a6⟩ := hne
   split at h
   ·cases he : Fb P 10000 t x y with
    | none => simp [he] at h
    | some b =>
     simp only [he, Option.map_some, Option.some.injEq] at h; subst h
     exact ⟨_, Dm w (GO w a5 a6) (El w a1 a2 a3 a4 (.inl rfl) (Ht w _ _ _ _ _ _ _ hx hy he)), by simpa using VR.bool (m := m) b⟩
   ·cases he : Fb P 10000 t x y with
    | none => simp [he] at h
    | some b =>
     simp only [he, Option.map_some, Option.some.injEq] at h; subst h
     exact ⟨_, Dm w (GO w a5 a6) (El w a1 a2 a3 a4 (.inr rfl) (Ht w _ _ _ _ _ _ _ hx hy he)), by simpa using VR.bool (m := m) (!b)⟩
   ·cases h
  ·cases h
theorem SR {op : BinOp} {t : TypeId} {ox oy : Operand} {x y : AA} {x' y' : Value} {v : AA} (hx : VR m x x') (hy : VR m y y') (h : Sa P op t (Y1 ox || Y1 oy) x y = some v) :
  ∃ v', (do eqGuard op t ox oy x' y'; binOp op t x' y' : Sem Value).run P w = .ok v' w ∧ VR m v v' := by
 unfold Sa at h
 split at h
 ·cases hx
  cases hy
  unfold Zz at h
  split at h
  ·rename_i ms hu
   cases hc : (Y1 ox || Y1 oy) with
   | false => rw [hc] at h; cases h
   | true =>
    rw [hc] at h
    have hg : (eqGuard op t ox oy .nilIface .nilIface).run P w = .ok () w := by
     cases ox <;> cases oy <;> simp [Y1] at hc <;> cases op <;> simp [eqGuard]
    have hd : ∀ d, (Op.equalIn (d + 1) t .nilIface .nilIface).run P w = .ok true w := by
     intro d; simp [Op.equalIn, AX w hu]
    have he : (Op.equalIn 10000 t .nilIface .nilIface).run P w = .ok true w := hd 9999
    simp only [cond_true] at h
    split at h
    ·injection h with h; subst h
     exact ⟨_, Dm w hg (El w (by simp) (by simp) (by simp) (by simp) (.inl rfl) he), by simpa using VR.bool (m := m) true⟩
    ·injection h with h; subst h
     exact ⟨_, Dm w hg (El w (by simp) (by simp) (by simp) (by simp) (.inr rfl) he), by simpa using VR.bool (m := m) false⟩
    ·cases h
  ·cases h
 ·exact S8 w hx hy h
theorem UE {op : UnOp} {x : AA} {x' : Value} {v : AA} (hx : VR m x x') (h : bA op x = some v) : ∃ v', (Op.unary op x').run P w = .ok v' w ∧ VR m v v' := by
 unfold bA at h
 split at h
 ·have := hx.B8; subst this
  obtain ⟨v', h1, h2⟩ := I4 (P := P) (m := m) (t := 0) w h
  exact ⟨v', by simpa [Op.unary, binOp] using h1, h2⟩
 ·have := hx.B8; subst this
  obtain ⟨v', h1, h2⟩ := I4 (P := P) (m := m) (t := 0) w h
  exact ⟨v', by simpa [Op.unary, binOp] using h1, h2⟩
 ·have := hx.IY; subst this
  injection h with h; subst h
  exact ⟨_, by simp [Op.unary], .bool _⟩
 ·cases h
theorem Rb {src dst : TypeId} {x : AA} {x' : Value} {v : AA} (hx : VR m x x') (h : Vp P src dst x = some v) : ∃ v', (convert src dst x').run P w = .ok v' w ∧ VR m v v' := by
 unfold Vp at h
 split at h
 ·rename_i d k k' n hs hd
  have := hx.B8; subst this
  injection h with h; subst h
  exact ⟨_, by simp [convert, AX w hs, AX w hd, Conv.intToInt], .int _ _⟩
 ·rename_i d s hs hd
  have := hx.Cv; subst this
  injection h with h; subst h
  exact ⟨.string ⟨⟨s⟩⟩, by simp [convert, AX w hs, AX w hd], .str ⟨⟨s⟩⟩⟩
 ·rename_i d k n hs hd
  have := hx.B8; subst this
  injection h with h; subst h
  exact ⟨.string (Utf8.encode n), by simp [convert, AX w hs, AX w hd, Conv.intToString], .str _⟩
 ·cases h
def Y4 (m : Aq) : Option AA → Option Value → Prop
 | none, none => True
 | some a, some v => VR m a v
 | _, _ => False
theorem GP {k : IntKind} {n : Int} {y : Nat} {c : BoundsCode} (h0 : 0 ≤ n) (h1 : n ≤ y) : (Instr.sliceBound (.int k n) y c).run P w = .ok n.toNat w := by
 simp [Instr.sliceBound, asIntOf, h0, h1]
theorem EK {n c : Nat} {lo hi : Option AA} {lo' hi' : Option Value} {l u : Nat} (isS : Bool) (hlo : Y4 m lo lo') (hhi : Y4 m hi hi') (hc : n ≤ c) (h : Ds n lo hi = some (l, u)) :
  (Instr.sliceBounds isS n c lo' hi' none).run P w = .ok (l, u, c) w ∧ l ≤ u ∧ u ≤ n := by
 unfold Ds at h
 split at h
 ·rename_i k a
  cases hi' with
  | none => exact hhi.elim
  | some v =>
   have : v = .int k a := VR.B8 hhi
   subst this
   split at h
   ·rename_i hb
    obtain ⟨b0, b1⟩ := hb
    split at h
    ·rename_i k2 b
     cases lo' with
     | none => exact hlo.elim
     | some v =>
      have : v = .int k2 b := VR.B8 hlo
      subst this
      split at h
      ·rename_i hb2
       injection h with h; injection h with h1 h2; subst h1; subst h2
       refine ⟨?_, by omega, by omega⟩
       simp [Instr.sliceBounds, GP (P := P) w b0 (show a ≤ (c : Int) by omega), GP (P := P) w hb2.1 (show b ≤ (a.toNat : Int) by omega)]
      ·cases h
    ·cases h
    ·cases lo' with
     | some v => exact hlo.elim
     | none =>
      injection h with h; injection h with h1 h2; subst h1; subst h2
      refine ⟨?_, by omega, by omega⟩
      simp [Instr.sliceBounds, GP (P := P) w b0 (show a ≤ (c : Int) by omega)]
   ·cases h
 ·cases h
 ·cases hi' with
  | some v => exact hhi.elim
  | none =>
   split at h
   ·rename_i k2 b
    cases lo' with
    | none => exact hlo.elim
    | some v =>
     have : v = .int k2 b := VR.B8 hlo
     subst this
     split at h
     ·rename_i hb2
      injection h with h; injection h with h1 h2; subst h1; subst h2
      refine ⟨?_, by omega, by omega⟩
      simp [Instr.sliceBounds, GP (P := P) w hb2.1 hb2.2]
     ·cases h
   ·cases h
   ·cases lo' with
    | some v => exact hlo.elim
    | none =>
     injection h with h; injection h with h1 h2; subst h1; subst h2
     exact ⟨by simp [Instr.sliceBounds], by omega, by omega⟩
theorem Ke (s : List UInt8) (l u : Nat) : (⟨⟨s⟩⟩ : ByteArray).extract l u = ⟨⟨(s.drop l).take (u - l)⟩⟩ := by
 apply ByteArray.ext
 rw [ByteArray.data_extract]
 apply Array.ext'
 simp [List.extract_eq_take_drop]
theorem Qg {t : TypeId} {x : AA} {x' : Value} {lo hi : Option AA} {lo' hi' : Option Value} {v : AA} (hx : VR m x x') (hlo : Y4 m lo lo') (hhi : Y4 m hi hi') (h : QP P t x lo hi = some v) :
  ∃ v', (Instr.sliceAt t x' lo' hi' none).run P w = .ok v' w ∧ VR m v v' := by
 unfold QP at h
 split at h
 ·rename_i s hu
  have := hx.Cv; subst this
  cases hb : Ds s.length lo hi with
  | none => simp [hb] at h
  | some lu =>
   obtain ⟨l, u⟩ := lu
   simp only [hb, Option.map_some, Option.some.injEq] at h; subst h
   have hbs := (EK (P := P) w (c := s.length) false hlo hhi (Nat.le_refl _) hb).1
   refine ⟨.string ⟨⟨(s.drop l).take (u - l)⟩⟩, ?_, .str ⟨⟨(s.drop l).take (u - l)⟩⟩⟩
   simp only [Instr.sliceAt, Instr.slice, Sem.run_bind, AX w hu, Result.andThen_ok]
   simp [show (⟨⟨s⟩⟩ : ByteArray).size = s.length from rfl, hbs, Ke]
 ·cases h
theorem Lw {t : TypeId} {x : AA} {x' : Value} {f : Nat} {v : AA} (hx : VR m x x') (h : Kt P t x f = some v) :
  ∃ v', (Instr.fieldAt t x' f).run P w = .ok v' w ∧ VR m v v' := by
 unfold Kt at h
 split at h
 ·rename_i fs id o hu
  cases hx with
  | ptr _ _ E hE =>
   split at h
   ·rename_i fd hf
    split at h
    ·cases h
    ·rename_i z hz hz0
     injection h with h; subst h
     have hz0' : z ≠ 0 := hz
     refine ⟨.pointer (some ⟨E.g, E.base + (o + fd.offset), none⟩), ?_, .ptr _ _ E hE⟩
     simp [Instr.fieldAt, AX w hu, hf, Instr.sureAddr, fieldPlace, run_sizeOf w hz0, hz0', Addr.add_lit, Nat.add_assoc]
    ·cases h
   ·cases h
 ·rename_i fs g o hu
  cases hx with
  | H9 _ _ =>
   split at h
   ·rename_i fd hf
    split at h
    ·cases h
    ·rename_i z hz hz0
     injection h with h; subst h
     have hz0' : z ≠ 0 := hz
     refine ⟨.pointer (some ⟨g, o + fd.offset, none⟩), ?_, .H9 _ _⟩
     simp [Instr.fieldAt, AX w hu, hf, Instr.sureAddr, fieldPlace, run_sizeOf w hz0, hz0', Addr.add_lit]
    ·cases h
   ·cases h
 ·rename_i fs cs hu
  cases hx with
  | AR g o _ c hf1 hv =>
   split at h
   ·rename_i fd hf
    split at h
    ·cases h
    ·rename_i z hz hz0
     injection h with h; subst h
     have hz0' : z ≠ 0 := hz
     refine ⟨.pointer (some ⟨g, o + fd.offset, none⟩), ?_, VR.KM hf1 hv _⟩
     simp [Instr.fieldAt, AX w hu, hf, Instr.sureAddr, fieldPlace, run_sizeOf w hz0, hz0', Addr.add_lit]
    ·cases h
   ·cases h
 ·cases h
theorem Py {t : TypeId} {x : AA} {x' : Value} {f : Nat} {v : AA} (hx : VR m x x') (h : SA P t x f = some v) :
  ∃ v', (Instr.field t x' f).run P w = .ok v' w ∧ VR m v v' := by
 unfold SA at h
 split at h
 ·rename_i fs cs hu
  obtain ⟨ds, rfl, vd⟩ := hx.Em
  split at h
  ·rename_i fd hf
   obtain ⟨y, h1, h2⟩ := GR (P := P) w vd h
   exact ⟨y, by simp [Instr.field, AX w hu, hf, asAgg, h1], h2⟩
  ·cases h
 ·cases h
theorem MI {t : TypeId} {x i : AA} {x' i' : Value} {v : AA} (hx : VR m x x') (hi : VR m i i') (h : G8 P t x i = some v) :
  ∃ v', (Instr.indexAt t x' i').run P w = .ok v' w ∧ VR m v v' := by
 unfold G8 at h
 split at h
 ·rename_i n e id o k i hu
  have := hi.B8; subst this
  cases hx with
  | ptr _ _ E hE =>
   split at h
   ·rename_i hb
    cases hz : Bq P e with
    | none => simp [hz] at h
    | some z =>
     simp only [hz, Option.map_some, Option.some.injEq] at h; subst h
     refine ⟨.pointer (some ⟨E.g, E.base + (o + i.toNat * z), none⟩), ?_, .ptr _ _ E hE⟩
     simp [Instr.indexAt, AX w hu, asIntOf, Instr.sureAddr, hb, run_sizeOf w hz, Addr.add_lit, Nat.add_assoc]
   ·cases h
 ·rename_i e id o n k i hu
  have := hi.B8; subst this
  cases hx with
  | slice _ _ _ cap E a hE hl hc =>
   split at h
   ·rename_i hb
    obtain ⟨ha, _⟩ := hc (by omega)
    subst ha
    cases hz : Bq P e with
    | none => simp [hz] at h
    | some z =>
     simp only [hz, Option.map_some, Option.some.injEq] at h; subst h
     refine ⟨.pointer (some ⟨E.g, E.base + (o + i.toNat * z), none⟩), ?_, .ptr _ _ E hE⟩
     simp [Instr.indexAt, AX w hu, asIntOf, hb, run_sizeOf w hz, Addr.add_lit, Nat.add_assoc]
   ·cases h
 ·rename_i n e g o k i hu
  have := hi.B8; subst this
  cases hx with
  | H9 _ _ =>
   split at h
   ·rename_i hb
    cases hz : Bq P e with
    | none => simp [hz] at h
    | some z =>
     simp only [hz, Option.map_some, Option.some.injEq] at h; subst h
     refine ⟨.pointer (some ⟨g, o + i.toNat * z, none⟩), ?_, .H9 _ _⟩
     simp [Instr.indexAt, AX w hu, asIntOf, Instr.sureAddr, hb, run_sizeOf w hz, Addr.add_lit]
   ·cases h
 ·rename_i n e cs k i hu
  have := hi.B8; subst this
  cases hx with
  | AR g o _ c hf1 hv =>
   split at h
   ·rename_i hb
    cases hz : Bq P e with
    | none => simp [hz] at h
    | some z =>
     simp only [hz, Option.map_some, Option.some.injEq] at h; subst h
     refine ⟨.pointer (some ⟨g, o + i.toNat * z, none⟩), ?_, VR.KM hf1 hv _⟩
     simp [Instr.indexAt, AX w hu, asIntOf, Instr.sureAddr, hb, run_sizeOf w hz, Addr.add_lit]
   ·cases h
 ·rename_i e n cs k i hu
  have := hi.B8; subst this
  split at h
  ·rename_i hb
   cases hx with
   | IP => omega
   | Gg _ cap g o _ c hc hf1 hv =>
    cases hz : Bq P e with
    | none => simp [hz] at h
    | some z =>
     simp only [hz, Option.bind_some] at h
     split at h
     ·injection h with h; subst h
      refine ⟨.pointer (some ⟨g, o + i.toNat * z, none⟩), ?_, VR.O7 (VR.KM hf1 hv _) _⟩
      simp [Instr.indexAt, AX w hu, asIntOf, hb, run_sizeOf w hz, Addr.add_lit]
     ·cases h
  ·cases h
 ·cases h
theorem QX {t : TypeId} {x i : AA} {x' i' : Value} {v : AA} (hx : VR m x x') (hi : VR m i i') (h : L3 P t x i = some v) :
  ∃ v', (Instr.index t x' i').run P w = .ok v' w ∧ VR m v v' := by
 unfold L3 at h
 split at h
 ·rename_i n e cs k i hu
  have := hi.B8; subst this
  obtain ⟨ds, rfl, vd⟩ := hx.Em
  split at h
  ·rename_i hb
   cases hz : Bq P e with
   | none => simp [hz] at h
   | some z =>
    simp only [hz, Option.bind_some] at h
    obtain ⟨y, h1, h2⟩ := GR (P := P) w vd h
    exact ⟨y, by simp [Instr.index, AX w hu, asIntOf, hb, run_sizeOf w hz, h1], h2⟩
  ·cases h
 ·rename_i s k i hu
  have := hi.B8; subst this
  have := hx.Cv; subst this
  split at h
  ·rename_i hb
   cases hs : s[i.toNat]? with
   | none => simp [hs] at h
   | some b =>
    simp only [hs, Option.map_some, Option.some.injEq] at h; subst h
    have hs' : (⟨⟨s⟩⟩ : ByteArray)[i.toNat]? = some b := by
     obtain ⟨hlt, e⟩ := List.getElem?_eq_some_iff.1 hs
     rw [getElem?_pos (⟨⟨s⟩⟩ : ByteArray) i.toNat (by simpa [ByteArray.size] using hlt)]
     exact congrArg some e
    exact ⟨.int .u8 b.toNat, by simp [Instr.index, AX w hu, asIntOf, hb, hs'], .int _ _⟩
  ·cases h
 ·cases h
theorem SD {ts : Array TypeId} {ty : TypeId} {x : AA} {x' : Value} {v : AA} (hx : VR m x x') (h : ZB P ts x = some v) :
  ∃ v', (Builtin.len_ ts ty #[x']).run P w = .ok v' w ∧ VR m v v' := by
 unfold ZB at h
 split at h
 ·cases h
 ·rename_i t ht
  split at h
  ·rename_i s hu
   have := hx.Cv; subst this
   injection h with h; subst h
   exact ⟨.int .i64 s.length, by simp [Builtin.len_, ht, AX w hu, goInt, show (⟨⟨s⟩⟩ : ByteArray).size = s.length from rfl], .int _ _⟩
  ·rename_i n e y hu
   injection h with h; subst h
   exact ⟨_, by simp [Builtin.len_, ht, AX w hu, goInt], .int _ _⟩
  ·rename_i e r n hu
   injection h with h; subst h
   cases hx <;> exact ⟨_, by simp [Builtin.len_, ht, AX w hu, goInt]; try rfl, .int _ _⟩
  ·rename_i e n cs hu
   injection h with h; subst h
   cases hx <;> exact ⟨_, by simp [Builtin.len_, ht, AX w hu, goInt]; try rfl, .int _ _⟩
  ·cases h
theorem IA (mx : Bool) : ∀ (r : List AA) (r' : List Value) (x : AA) (x' : Value) (v : AA), VR m x x' → Ba m r r' → KE mx x r = some v →
  ∃ v', (r'.foldlM (if mx then Builtin.max2 else Builtin.min2) x').run P w = .ok v' w ∧ VR m v v'
 | [], r', x, x', v, hx, hr, h => by
  have : r' = [] := List.eq_nil_of_length_eq_zero (by simpa using hr.1.symm)
  subst this
  simp [KE] at h
  subst h
  exact ⟨x', by simp, hx⟩
 | y :: r, [], x, x', v, hx, hr, h => by simp [Ba] at hr
 | y :: r, y' :: r', x, x', v, hx, hr, h => by
  have hy : VR m y y' := hr.2 0 y y' rfl rfl
  have hr' : Ba m r r' := ⟨by simpa using hr.1, fun i a b ha hb => hr.2 (i + 1) a b (by simpa using ha) (by simpa using hb)⟩
  unfold KE at h
  split at h
  ·rename_i heq; cases heq
  ·rename_i k a k' b r2 heq
   injection heq with e1 e2; subst e1; subst e2
   have := hx.B8; subst this
   have := hy.B8; subst this
   split at h
   ·rename_i hk; subst hk
    obtain ⟨v', h1, h2⟩ := IA mx r r' _ _ v (.int k _) hr' h
    refine ⟨v', ?_, h2⟩
    cases mx <;> simpa [Builtin.max2, Builtin.min2] using h1
   ·cases h
  ·cases h
theorem Nh (off : Nat) : ∀ (l : List Value) (k : Nat) (cs : Array Value), off + k + l.length ≤ cs.size →
  (l.zipIdx k).foldl (fun (cs : Array Value) (x : Value × Nat) => cs.setIfInBounds (off + x.2) x.1) cs = ⟨cs.toList.take (off + k) ++ (l ++ cs.toList.drop (off + k + l.length))⟩
 | [], k, cs, h => by simp
 | v :: l, k, cs, h => by
  simp only [List.zipIdx_cons, List.foldl_cons]
  simp only [List.length_cons] at h
  rw [Nh off l (k + 1) _ (by simp; omega)]
  generalize hL : cs.toList = L
  have hlen : L.length = cs.size := by rw [← hL]; simp
  have e : (cs.setIfInBounds (off + k) v).toList = L.take (off + k) ++ v :: L.drop (off + k + 1) := by
   rw [Array.toList_setIfInBounds, hL, List.set_eq_take_append_cons_drop, if_pos (by omega)]
  have hl : (L.take (off + k)).length = off + k := by simp; omega
  rw [e, show off + (k + 1) + l.length = (L.take (off + k)).length + (1 + l.length) by omega, List.drop_length_add_append,
   show off + (k + 1) = (L.take (off + k)).length + 1 by omega, List.take_length_add_append, List.append_assoc, show 1 + l.length = l.length + 1 by omega, List.drop_succ_cons, List.drop_drop]
  simp only [List.take_succ_cons, List.take_zero, List.cons_append, List.nil_append, List.length_cons]
  rw [show off + k + 1 + l.length = off + k + (l.length + 1) by omega]
theorem Hk {place : Nat → Option (Nat × Nat)} : ∀ (parts : List (Nat × AA)) (parts' : List (Nat × Value)) (cs : List AA) (ds : Array Value) (r : List AA),
  parts.length = parts'.length → (∀ (j i i' : Nat) (x : AA) (y : Value), parts[j]? = some (i, x) → parts'[j]? = some (i', y) → i = i' ∧ VR m x y) → Ba m cs ds.toList → JD place cs parts = some r →
  ∃ ds', Instr.fill place ds parts' = some ds' ∧ Ba m r ds'.toList
 | [], parts', cs, ds, r, hl, _, hc, h => by
  have : parts' = [] := List.eq_nil_of_length_eq_zero hl.symm
  subst this
  simp [JD] at h
  subst h
  exact ⟨ds, rfl, hc⟩
 | (i, x) :: parts, [], _, _, _, hl, _, _, _ => by simp at hl
 | (i, x) :: parts, (i', y) :: parts', cs, ds, r, hl, hp, hc, h => by
  obtain ⟨rfl, hxy⟩ := hp 0 i i' x y rfl rfl
  unfold JD at h
  split at h
  ·rename_i off size new hpl hnew
   split at h
   ·rename_i hb
    have hv := hxy.cells hnew
    have hsz : y.cells.size = size := by rw [← hb.1, hv.1]; simp
    have hds : cs.length = ds.size := by rw [hc.1]; simp
    obtain ⟨ds', h1, h2⟩ := Hk parts parts' _ ⟨ds.toList.take off ++ (y.cells.toList ++ ds.toList.drop (off + y.cells.toList.length))⟩ r (by simpa using hl)
     (fun j a b u v hu hv => hp (j + 1) a b u v (by simpa using hu) (by simpa using hv)) (hc.DT hv off) h
    refine ⟨ds', ?_, h2⟩
    have hcond : (y.cells.size ≠ size || off + y.cells.size > ds.size) = false := by simp [hsz]; omega
    have hf := Nh off y.cells.toList 0 ds (by simp [hsz]; omega)
    simp only [Nat.add_zero] at hf
    rw [← h1]
    simp only [Instr.fill, hpl]
    rw [if_neg (by simpa using hcond)]
    congr 1
    rw [← hf, ← Array.foldl_toList, Array.toList_zipIdx]
   ·cases h
  ·cases h
theorem FO {t : TypeId} {v : AA} (h : Ga P t = some v) : ∃ i z, P.info? t = some i ∧ i.zero = some z ∧ VR m v z := by
 unfold Ga at h
 cases hi : P.info? t with
 | none => simp [hi] at h
 | some i =>
  simp only [hi] at h
  cases hz : i.zero with
  | none => simp [hz] at h
  | some z =>
   simp only [hz, Option.map_some, Option.some.injEq] at h
   subst h
   exact ⟨i, z, rfl, hz, VR.Wp m z⟩
theorem P4 {t : TypeId} {parts : List (Nat × AA)} {parts' : List (Nat × Value)} {v : AA} (hl : parts.length = parts'.length)
  (hp : ∀ (j i i' : Nat) (x : AA) (y : Value), parts[j]? = some (i, x) → parts'[j]? = some (i', y) → i = i' ∧ VR m x y) (h : St P t parts = some v) :
  ∃ cells, P.built t parts' = some cells ∧ VR m v (.agg cells) := by
 unfold St at h
 split at h
 ·rename_i n e z hu hz
  cases hz0 : Ga P t with
  | none => simp [hz0] at hz
  | some zv =>
   simp only [hz0, Option.bind_some] at hz
   obtain ⟨i, zz, hi, hiz, hvz⟩ := FO (m := m) hz0
   cases hs : Bq P e with
   | none => simp [hs] at h
   | some n' =>
    simp only [hs, Option.bind_some] at h
    cases hf : JD (fun i => some (i * n', n')) z parts with
    | none => simp [hf] at h
    | some r =>
     simp only [hf, Option.map_some, Option.some.injEq] at h
     subst h
     obtain ⟨ds', h1, h2⟩ := Hk (m := m) parts parts' z zz.cells r hl hp (hvz.cells hz) hf
     unfold Bq at hs
     cases hie : P.info? e with
     | none => simp [hie] at hs
     | some ie =>
      simp [hie] at hs
      subst hs
      exact ⟨ds', by simp [Program.built, hi, hu, hiz, hie, h1], Ba.agg h2⟩
 ·rename_i fs z hu hz
  cases hz0 : Ga P t with
  | none => simp [hz0] at hz
  | some zv =>
   simp only [hz0, Option.bind_some] at hz
   obtain ⟨i, zz, hi, hiz, hvz⟩ := FO (m := m) hz0
   cases hs : P9 P fs.toList with
   | none => simp [hs] at h
   | some ps =>
    simp only [hs, Option.bind_some] at h
    cases hf : JD (ps[·]?) z parts with
    | none => simp [hf] at h
    | some r =>
     simp only [hf, Option.map_some, Option.some.injEq] at h
     subst h
     obtain ⟨ds', h1, h2⟩ := Hk (m := m) parts parts' z zz.cells r hl hp (hvz.cells hz) hf
     unfold P9 at hs
     exact ⟨ds', by simp [Program.built, hi, hu, hiz, hs, h1], Ba.agg h2⟩
 ·cases h
theorem TT {fr : Fr} {a : Act} (hf : FR m fr a) (x : Option Operand) : Y4 m (x.map (ev fr)) (x.map a.eval) := by
 cases x with
 | none => trivial
 | some x => exact hf.ev x
theorem Pj {fr : Fr} {a : Act} (hf : FR m fr a) {o : Oper} {v : AA} (h : Ha P fr o.op = some v) : ∃ v', (execOp a.eval o).run P w = .ok (.value v') w ∧ VR m v v' := by
 obtain ⟨dst, op, ty, pos, aft, gd⟩ := o
 simp only at h
 have lift : ∀ {s : Sem Value} {u : AA}, (∃ v', s.run P w = .ok v' w ∧ VR m u v') → ∃ v', (do pure (.value (← s)) : Sem Next).run P w = .ok (.value v') w ∧ VR m u v' := by
  rintro s u ⟨v', h1, h2⟩
  exact ⟨v', by simp [h1], h2⟩
 cases op with
 | move x => simp only [Ha, Option.some.injEq] at h; subst h; exact ⟨_, rfl, hf.ev x⟩
 | assign x => simp only [Ha, Option.some.injEq] at h; subst h; exact ⟨_, rfl, hf.ev x⟩
 | pick c x y =>
  simp only [Ha] at h
  split at h
  ·rename_i b hb
   have hc := hf.ev c
   rw [hb] at hc
   have hc := hc.IY
   injection h with h
   subst h
   cases b
   ·exact ⟨a.eval y, by simp [execOp, asBool, hc], hf.ev y⟩
   ·exact ⟨a.eval x, by simp [execOp, asBool, hc], hf.ev x⟩
  ·cases h
 | build t parts =>
  simp only [Ha] at h
  obtain ⟨cells, h1, h2⟩ := P4 (m := m) (parts' := (parts.map fun (i, x) => (i, a.eval x)).toList) (by simp) (fun j i i' x y hx hy => by
   simp only [List.getElem?_map, Array.toList_map] at hx hy
   cases hj : parts.toList[j]? with
   | none => simp [hj] at hx
   | some p =>
    simp only [hj, Option.map_some, Option.some.injEq, Prod.mk.injEq] at hx hy
    obtain ⟨rfl, rfl⟩ := hx
    obtain ⟨rfl, rfl⟩ := hy
    exact ⟨rfl, hf.ev p.2⟩) h
  exact lift ⟨_, run_build w t _ cells h1, h2⟩
 | nilCheck x =>
  simp only [Ha] at h
  split at h
  ·rename_i r hr
   have hx := hf.ev x
   rw [hr] at hx
   injection h with h
   subst h
   cases he : a.eval x <;> rw [he] at hx <;> try (cases hx; done)
   rename_i p
   cases p with
   | none => cases hx
   | some p => exact ⟨.pointer (some p), by simp [execOp, he], hx⟩
  ·rename_i g o hr
   have hx := hf.ev x
   rw [hr] at hx
   injection h with h
   subst h
   cases he : a.eval x <;> rw [he] at hx <;> try (cases hx; done)
   rename_i p
   cases p with
   | none => cases hx
   | some p => exact ⟨.pointer (some p), by simp [execOp, he], hx⟩
  ·rename_i cs hr
   have hx := hf.ev x
   rw [hr] at hx
   injection h with h
   subst h
   cases he : a.eval x <;> rw [he] at hx <;> try (cases hx; done)
   rename_i p
   cases p with
   | none => cases hx
   | some p => exact ⟨.pointer (some p), by simp [execOp, he], hx⟩
  ·rename_i f b c hr
   have hx := hf.ev x
   rw [hr] at hx
   injection h with h
   subst h
   cases he : a.eval x <;> rw [he] at hx <;> try (cases hx; done)
   rename_i fn c d
   have : fn = .func f := by cases hx; rfl
   subst this
   exact ⟨.func (.func f) c d, by simp [execOp, he], hx⟩
  ·cases h
 | binOp op t x y yt => simp only [Ha] at h; exact lift (SR w (hf.ev x) (hf.ev y) h)
 | unOp op t x => simp only [Ha] at h; exact lift (UE w (hf.ev x) h)
 | convert s d x => simp only [Ha] at h; exact lift (Rb w (hf.ev x) h)
 | makeFunc fn first cap =>
  simp only [Ha, Option.some.injEq] at h
  subst h
  refine lift ⟨.func fn (first.map a.eval) (cap.map a.eval), rfl, ?_⟩
  have h1 := hf.ZG first.toList
  have h2 := hf.ZG cap.toList
  exact .func _ _ _ _ _ (by simp) (fun i x y hx hy => h1.2 i x y hx (by simpa using hy)) (by simp) (fun i x y hx hy => h2.2 i x y hx (by simpa using hy))
 | slice t x lo hi mx =>
  cases mx with
  | some y => simp [Ha] at h
  | none => simp only [Ha] at h; exact lift (Qg w (hf.ev x) (TT hf lo) (TT hf hi) h)
 | fieldAddr s x f => simp only [Ha] at h; exact lift (Lw w (hf.ev x) h)
 | field s x f => simp only [Ha] at h; exact lift (Py w (hf.ev x) h)
 | indexAddr t x i => simp only [Ha] at h; exact lift (MI w (hf.ev x) (hf.ev i) h)
 | index t x i => simp only [Ha] at h; exact lift (QX w (hf.ev x) (hf.ev i) h)
 | extract x i =>
  simp only [Ha] at h
  split at h
  ·rename_i vs hr
   have hx := hf.ev x
   rw [hr] at hx
   obtain ⟨c, hc, hv⟩ := hx.G4
   obtain ⟨y, hy, hvy⟩ := hv.at_ h
   have hy' : c[i]? = some y := by simpa using hy
   exact lift ⟨y, by simp [hc, Instr.extract, hy'], hvy⟩
  ·cases h
 | call c =>
  obtain ⟨callee, as, ts⟩ := c
  cases callee with
  | value f => simp [Ha] at h
  | invoke r mth => simp [Ha] at h
  | builtin b =>
   simp only [Ha] at h
   have hall := hf.ZG as.toList
   have hargs : (as.map a.eval).toList = as.toList.map a.eval := by simp
   have res : ∀ (w : World), (resolve a.eval { callee := .builtin b, args := as, argTypes := ts } ty).run P w = .ok { target := .builtin b ts ty (as.map fun | .const _ => true | _ => false), args := as.map a.eval } w := fun w => rfl
   split at h
   ·rename_i x heq
    obtain ⟨x', hx', hvx⟩ : ∃ x', as.map a.eval = #[x'] ∧ VR m x x' := by
     rw [heq] at hall
     have hlen : (as.toList.map a.eval).length = 1 := by rw [← hall.1]; rfl
     match hq : as.toList.map a.eval, hlen with
     | [x'], _ => exact ⟨x', Array.ext' (by simpa using hq), hall.2 0 x x' rfl (by rw [hq]; rfl)⟩
    obtain ⟨v', h1, h2⟩ := SD (P := P) (m := m) (ty := ty) w hvx h
    exact ⟨v', by simp [execOp, res, invoke, builtin, hx', h1], h2⟩
   ·rename_i x r heq
    rw [heq] at hall
    match hq : as.toList.map a.eval with
    | [] => rw [hq] at hall; simp [Ba] at hall
    | x' :: r' =>
     rw [hq] at hall
     obtain ⟨v', h1, h2⟩ := IA (P := P) w false r r' x x' v (hall.2 0 x x' rfl rfl) ⟨by simpa using hall.1, fun i u z hu hz => hall.2 (i + 1) u z (by simpa using hu) (by simpa using hz)⟩ h
     refine ⟨v', ?_, h2⟩
     simp only [Bool.false_eq_true, if_false] at h1
     simp [execOp, res, invoke, builtin, Builtin.min_, hq, h1]
   ·rename_i x r heq
    rw [heq] at hall
    match hq : as.toList.map a.eval with
    | [] => rw [hq] at hall; simp [Ba] at hall
    | x' :: r' =>
     rw [hq] at hall
     obtain ⟨v', h1, h2⟩ := IA (P := P) w true r r' x x' v (hall.2 0 x x' rfl rfl) ⟨by simpa using hall.1, fun i u z hu hz => hall.2 (i + 1) u z (by simpa using hu) (by simpa using hz)⟩ h
     refine ⟨v', ?_, h2⟩
     simp only [if_true] at h1
     simp [execOp, res, invoke, builtin, Builtin.max_, hq, h1]
   ·cases h
 | _ => simp [Ha] at h
end
end Go.Av
