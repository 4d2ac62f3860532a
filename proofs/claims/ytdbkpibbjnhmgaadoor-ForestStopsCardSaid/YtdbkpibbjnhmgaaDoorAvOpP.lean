/-
 A part.
-/
import Derived.Test.YtdbkpibbjnhmgaaDoorAvEq
namespace Go.Av
open Go.RowKit
section
variable {P : Program} {m : AP} (w : World)
theorem VR.Bp {k : IntKind} {n : Int} {v : Value} (h : VR m (.int k n) v) : v = .int k n := by cases h; rfl
theorem VR.GJ {b : Bool} {v : Value} (h : VR m (.bool b) v) : v = .bool b := by cases h; rfl
theorem Ge {op : BinOp} {t : TypeId} {k : IntKind} {a b : Int} {v : AA} (h : Kn op k a b = some v) :
  ∃ v', (binOp op t (.int k a) (.int k b)).run P w = .ok v' w ∧ VR m v v' := by
 cases op <;> simp [Kn] at h
 case quo => obtain ⟨hb, rfl⟩ := h; exact ⟨_, by simp [binOp, Op.intDiv, hb], .int _ _⟩
 case rem => obtain ⟨hb, rfl⟩ := h; exact ⟨_, by simp [binOp, Op.intDiv, hb], .int _ _⟩
 all_goals subst h
 case add => exact ⟨_, by simp [binOp, Op.intArith], .int _ _⟩
 case sub => exact ⟨_, by simp [binOp, Op.intArith], .int _ _⟩
 case mul => exact ⟨_, by simp [binOp, Op.intArith], .int _ _⟩
 case and => exact ⟨.int k (k.wrap (BitVec.ofInt k.bits a &&& BitVec.ofInt k.bits b).toNat), by simp [binOp, Op.intBits], by simpa using VR.int (m := m) k _⟩
 case or => exact ⟨.int k (k.wrap (BitVec.ofInt k.bits a ||| BitVec.ofInt k.bits b).toNat), by simp [binOp, Op.intBits], by simpa using VR.int (m := m) k _⟩
 case xor => exact ⟨.int k (k.wrap (BitVec.ofInt k.bits a ^^^ BitVec.ofInt k.bits b).toNat), by simp [binOp, Op.intBits], by simpa using VR.int (m := m) k _⟩
 case andNot => exact ⟨.int k (k.wrap (BitVec.ofInt k.bits a &&& ~~~BitVec.ofInt k.bits b).toNat), by simp [binOp, Op.intBits], by simpa using VR.int (m := m) k _⟩
 all_goals exact ⟨_, by simp [binOp, Op.intCmp]; rfl, by first | exact .bool _ | simpa using VR.bool (m := m) _⟩
theorem JG {op : BinOp} {t : TypeId} {k yk : IntKind} {a b : Int} {v : AA} (h : N9 op k a b = some v) :
  ∃ v', (binOp op t (.int k a) (.int yk b)).run P w = .ok v' w ∧ VR m v v' := by
 unfold N9 at h
 split at h
 ·cases h
 ·rename_i hb
  cases op <;> simp at h
  case shl => subst h; exact ⟨_, by simp [binOp, Op.shift, hb], .int _ _⟩
  case shr => subst h; exact ⟨_, by simp [binOp, Op.shift, hb], .int _ _⟩
theorem M3 {op : BinOp} {t : TypeId} {a b : List UInt8} {v : AA} (h : M5 op a b = some v) :
  ∃ v', (binOp op t (.string ⟨⟨a⟩⟩) (.string ⟨⟨b⟩⟩)).run P w = .ok v' w ∧ VR m v v' := by
 have ea : ByteArray.toList ⟨⟨a⟩⟩ = a := by rw [ByteArray.toList_eq]
 have eb : ByteArray.toList ⟨⟨b⟩⟩ = b := by rw [ByteArray.toList_eq]
 cases op <;> simp [M5] at h
 case add =>
  obtain ⟨hl, rfl⟩ := h
  refine ⟨.string (⟨⟨a⟩⟩ ++ ⟨⟨b⟩⟩), ?_, ?_⟩
  ·have : ¬ ((9223372036854775807 : Int) < ((⟨⟨a⟩⟩ : ByteArray).size : Int) + ((⟨⟨b⟩⟩ : ByteArray).size : Int)) := by
    simp [ByteArray.size]; omega
   simp [binOp, Op.stringOp, this]
  ·have := VR.str (m := m) (⟨⟨a⟩⟩ ++ ⟨⟨b⟩⟩)
   simpa [ByteArray.append, ByteArray.data_append] using this
 all_goals subst h; exact ⟨_, by simp [binOp, Op.stringOp, ea, eb]; rfl, by first | exact .bool _ | simpa using VR.bool (m := m) _⟩
theorem Cg {op : BinOp} {t : TypeId} {ox oy : Operand} {x y : Value} {v : Value} (hg : (eqGuard op t ox oy x y).run P w = .ok () w) (h : (binOp op t x y).run P w = .ok v w) :
  (do eqGuard op t ox oy x y; binOp op t x y : Sem Value).run P w = .ok v w := by
 rw [Sem.run_bind, hg]; exact h
theorem Dn {op : BinOp} {t : TypeId} {ox oy : Operand} {x y : Value} (hx : ∀ a, x ≠ .agg a) (hn : x ≠ .nilIface) : (eqGuard op t ox oy x y).run P w = .ok () w := by
 cases x <;> first | exact absurd rfl hn | exact absurd rfl (hx _) | (cases op <;> simp [eqGuard])
theorem DC {op : BinOp} {t : TypeId} {x y : Value} {b : Bool} (hi : ∀ k n, x ≠ .int k n) (hs : ∀ s, x ≠ .string s) (hf : ∀ k n, x ≠ .float k n) (hc : ∀ k a b, x ≠ .complex k a b)
  (hop : op = .eql ∨ op = .neq) (h : (Op.equalIn 10000 t x y).run P w = .ok b w) : (binOp op t x y).run P w = .ok (.bool (if op = .eql then b else !b)) w := by
 rcases hop with rfl | rfl <;> cases x <;>
  first
   | exact absurd rfl (hi _ _) | exact absurd rfl (hs _) | exact absurd rfl (hf _ _) | exact absurd rfl (hc _ _ _)
   | simp [binOp, Op.equal, Op.maxDepth, h]
theorem OY {op : BinOp} {t : TypeId} {ox oy : Operand} {x y : AA} {x' y' : Value} {v : AA} (hx : VR m x x') (hy : VR m y y') (h : SB P op t x y = some v) :
  ∃ v', (do eqGuard op t ox oy x' y'; binOp op t x' y' : Sem Value).run P w = .ok v' w ∧ VR m v v' := by
 unfold SB at h
 split at h
 ·-- int, int
  rename_i k a k' b
  have := hx.Bp; subst this
  have := hy.Bp; subst this
  have hg := Dn (P := P) w (op := op) (t := t) (ox := ox) (oy := oy) (x := .int k a) (y := .int k' b) (fun a h => by cases h) (fun h => by cases h)
  split at h
  ·obtain ⟨v', h1, h2⟩ := JG (P := P) (m := m) (t := t) (yk := k') w h; exact ⟨v', Cg w hg h1, h2⟩
  ·obtain ⟨v', h1, h2⟩ := JG (P := P) (m := m) (t := t) (yk := k') w h; exact ⟨v', Cg w hg h1, h2⟩
  ·split at h
   ·rename_i hk; subst hk
    obtain ⟨v', h1, h2⟩ := Ge (P := P) (m := m) (t := t) w h; exact ⟨v', Cg w hg h1, h2⟩
   ·cases h
 ·rename_i a b
  have := hx.Bn; subst this
  have := hy.Bn; subst this
  have hg := Dn (P := P) w (op := op) (t := t) (ox := ox) (oy := oy) (x := .string ⟨⟨a⟩⟩) (y := .string ⟨⟨b⟩⟩) (fun a h => by cases h) (fun h => by cases h)
  obtain ⟨v', h1, h2⟩ := M3 (P := P) (m := m) (t := t) w h; exact ⟨v', Cg w hg h1, h2⟩
 ·rename_i xs ys
  obtain ⟨xs', rfl, vx⟩ := hx.Db
  obtain ⟨ys', rfl, vy⟩ := hy.Db
  split at h
  ·cases h
  ·rename_i hgt
   have hg := run_eqGuard_agg (P := P) w op t ox oy xs' ys' (by simpa using hgt)
   split at h
   ·cases he : Gx P 10000 t (.agg xs) (.agg ys) with
    | none => simp [he] at h
    | some b =>
     simp only [he, Option.map_some, Option.some.injEq] at h; subst h
     exact ⟨_, Cg w hg (DC w (by simp) (by simp) (by simp) (by simp) (.inl rfl) (Ff w _ _ _ _ _ _ _ hx hy he)), by simpa using VR.bool (m := m) b⟩
   ·cases he : Gx P 10000 t (.agg xs) (.agg ys) with
    | none => simp [he] at h
    | some b =>
     simp only [he, Option.map_some, Option.some.injEq] at h; subst h
     exact ⟨_, Cg w hg (DC w (by simp) (by simp) (by simp) (by simp) (.inr rfl) (Ff w _ _ _ _ _ _ _ hx hy he)), by simpa using VR.bool (m := m) (!b)⟩
   ·cases h
 ·split at h
  ·rename_i hq
   have hne : (∀ k n, x' ≠ .int k n) ∧ (∀ s, x' ≠ .string s) ∧ (∀ k n, x' ≠ .float k n) ∧ (∀ k a b, x' ≠ .complex k a b) ∧ (∀ a, x' ≠ .agg a) ∧ x' ≠ .nilIface := by
    cases hx <;> simp [Qy] at hq <;> simp
   obtain ⟨a1, a2, a3, a4, a5, a6⟩ := hne
   split at h
   ·cases he : Gx P 10000 t x y with
    | none => simp [he] at h
    | some b =>
     simp only [he, Option.map_some, Option.some.injEq] at h; subst h
     exact ⟨_, Cg w (Dn w a5 a6) (DC w a1 a2 a3 a4 (.inl rfl) (Ff w _ _ _ _ _ _ _ hx hy he)), by simpa using VR.bool (m := m) b⟩
   ·cases he : Gx P 10000 t x y with
    | none => simp [he] at h
    | some b =>
     simp only [he, Option.map_some, Option.some.injEq] at h; subst h
     exact ⟨_, Cg w (Dn w a5 a6) (DC w a1 a2 a3 a4 (.inr rfl) (Ff w _ _ _ _ _ _ _ hx hy he)), by simpa using VR.bool (m := m) (!b)⟩
   ·cases h
  ·cases h
theorem Ox {op : BinOp} {t : TypeId} {ox oy : Operand} {x y : AA} {x' y' : Value} {v : AA} (hx : VR m x x') (hy : VR m y y') (h : Si P op t (UL ox || UL oy) x y = some v) :
  ∃ v', (do eqGuard op t ox oy x' y'; binOp op t x' y' : Sem Value).run P w = .ok v' w ∧ VR m v v' := by
 unfold Si at h
 split at h
 ·cases hx
  cases hy
  unfold U3 at h
  split at h
  ·rename_i ms hu
   cases hc : (UL ox || UL oy) with
   | false => rw [hc] at h; cases h
   | true =>
    rw [hc] at h
    have hg : (eqGuard op t ox oy .nilIface .nilIface).run P w = .ok () w := by
     cases ox <;> cases oy <;> simp [UL] at hc <;> cases op <;> simp [eqGuard]
    have hd : ∀ d, (Op.equalIn (d + 1) t .nilIface .nilIface).run P w = .ok true w := by
     intro d; simp [Op.equalIn, AH w hu]
    have he : (Op.equalIn 10000 t .nilIface .nilIface).run P w = .ok true w := hd 9999
    simp only [cond_true] at h
    split at h
    ·injection h with h; subst h
     exact ⟨_, Cg w hg (DC w (by simp) (by simp) (by simp) (by simp) (.inl rfl) he), by simpa using VR.bool (m := m) true⟩
    ·injection h with h; subst h
     exact ⟨_, Cg w hg (DC w (by simp) (by simp) (by simp) (by simp) (.inr rfl) he), by simpa using VR.bool (m := m) false⟩
    ·cases h
  ·cases h
 ·exact OY w hx hy h
theorem QF {op : UnOp} {x : AA} {x' : Value} {v : AA} (hx : VR m x x') (h : Vi op x = some v) : ∃ v', (Op.unary op x').run P w = .ok v' w ∧ VR m v v' := by
 unfold Vi at h
 split at h
 ·have := hx.Bp; subst this
  obtain ⟨v', h1, h2⟩ := Ge (P := P) (m := m) (t := 0) w h
  exact ⟨v', by simpa [Op.unary, binOp] using h1, h2⟩
 ·have := hx.Bp; subst this
  obtain ⟨v', h1, h2⟩ := Ge (P := P) (m := m) (t := 0) w h
  exact ⟨v', by simpa [Op.unary, binOp] using h1, h2⟩
 ·have := hx.GJ; subst this
  injection h with h; subst h
  exact ⟨_, by simp [Op.unary], .bool _⟩
 ·cases h
theorem NV {src dst : TypeId} {x : AA} {x' : Value} {v : AA} (hx : VR m x x') (h : RX P src dst x = some v) : ∃ v', (convert src dst x').run P w = .ok v' w ∧ VR m v v' := by
 unfold RX at h
 split at h
 ·rename_i d k k' n hs hd
  have := hx.Bp; subst this
  injection h with h; subst h
  exact ⟨_, by simp [convert, AH w hs, AH w hd, Conv.intToInt], .int _ _⟩
 ·rename_i d s hs hd
  have := hx.Bn; subst this
  injection h with h; subst h
  exact ⟨.string ⟨⟨s⟩⟩, by simp [convert, AH w hs, AH w hd], .str ⟨⟨s⟩⟩⟩
 ·rename_i d k n hs hd
  have := hx.Bp; subst this
  injection h with h; subst h
  exact ⟨.string (Utf8.encode n), by simp [convert, AH w hs, AH w hd, Conv.intToString], .str _⟩
 ·cases h
def T7 (m : AP) : Option AA → Option Value → Prop
 | none, none => True
 | some a, some v => VR m a v
 | _, _ => False
theorem Ec {k : IntKind} {n : Int} {y : Nat} {c : BoundsCode} (h0 : 0 ≤ n) (h1 : n ≤ y) : (Instr.sliceBound (.int k n) y c).run P w = .ok n.toNat w := by
 simp [Instr.sliceBound, asIntOf, h0, h1]
theorem DH {n c : Nat} {lo hi : Option AA} {lo' hi' : Option Value} {l u : Nat} (isS : Bool) (hlo : T7 m lo lo') (hhi : T7 m hi hi') (hc : n ≤ c) (h : Cb n lo hi = some (l, u)) :
  (Instr.sliceBounds isS n c lo' hi' none).run P w = .ok (l, u, c) w ∧ l ≤ u ∧ u ≤ n := by
 unfold Cb at h
 split at h
 ·rename_i k a
  cases hi' with
  | none => exact hhi.elim
  | some v =>
   have : v = .int k a := VR.Bp hhi
   subst this
   split at h
   ·rename_i hb
    obtain ⟨b0, b1⟩ := hb
    split at h
    ·rename_i k2 b
     cases lo' with
     | none => exact hlo.elim
     | some v =>
      have : v = .int k2 b := VR.Bp hlo
      subst this
      split at h
      ·rename_i hb2
       injection h with h; injection h with h1 h2; subst h1; subst h2
       refine ⟨?_, by omega, by omega⟩
       simp [Instr.sliceBounds, Ec (P := P) w b0 (show a ≤ (c : Int) by omega), Ec (P := P) w hb2.1 (show b ≤ (a.toNat : Int) by omega)]
      ·cases h
    ·cases h
    ·cases lo' with
     | some v => exact hlo.elim
     | none =>
      injection h with h; injection h with h1 h2; subst h1; subst h2
      refine ⟨?_, by omega, by omega⟩
      simp [Instr.sliceBounds, Ec (P := P) w b0 (show a ≤ (c : Int) by omega)]
   ·cases h
 ·cases h
 ·cases hi' with
  | some v => exact hhi.elim
  | none =>
   split at h
   ·rename_i k2 b
    cases lo' with
    | none => exact hlo.elim
    | some v =>
     have : v = .int k2 b := VR.Bp hlo
     subst this
     split at h
     ·rename_i hb2
      injection h with h; injection h with h1 h2; subst h1; subst h2
      refine ⟨?_, by omega, by omega⟩
      simp [Instr.sliceBounds, Ec (P := P) w hb2.1 hb2.2]
     ·cases h
   ·cases h
   ·cases lo' with
    | some v => exact hlo.elim
    | none =>
     injection h with h; injection h with h1 h2; subst h1; subst h2
     exact ⟨by simp [Instr.sliceBounds], by omega, by omega⟩
theorem H2 (s : List UInt8) (l u : Nat) : (⟨⟨s⟩⟩ : ByteArray).extract l u = ⟨⟨(s.drop l).take (u - l)⟩⟩ := by
 apply ByteArray.ext
 rw [ByteArray.data_extract]
 apply Array.ext'
 simp [List.extract_eq_take_drop]
theorem MJ {t : TypeId} {x : AA} {x' : Value} {lo hi : Option AA} {lo' hi' : Option Value} {v : AA} (hx : VR m x x') (hlo : T7 m lo lo') (hhi : T7 m hi hi') (h : Ml P t x lo hi = some v) :
  ∃ v', (Instr.sliceAt t x' lo' hi' none).run P w = .ok v' w ∧ VR m v v' := by
 unfold Ml at h
 split at h
 ·rename_i s hu
  have := hx.Bn; subst this
  cases hb : Cb s.length lo hi with
  | none => simp [hb] at h
  | some lu =>
   obtain ⟨l, u⟩ := lu
   simp only [hb, Option.map_some, Option.some.injEq] at h; subst h
   have hbs := (DH (P := P) w (c := s.length) false hlo hhi (Nat.le_refl _) hb).1
   refine ⟨.string ⟨⟨(s.drop l).take (u - l)⟩⟩, ?_, .str ⟨⟨(s.drop l).take (u - l)⟩⟩⟩
   simp only [Instr.sliceAt, Instr.slice, Sem.run_bind, AH w hu, Result.andThen_ok]
   simp [show (⟨⟨s⟩⟩ : ByteArray).size = s.length from rfl, hbs, H2]
 ·cases h
theorem Jm {t : TypeId} {x : AA} {x' : Value} {f : Nat} {v : AA} (hx : VR m x x') (h : IN P t x f = some v) :
  ∃ v', (Instr.fieldAt t x' f).run P w = .ok v' w ∧ VR m v v' := by
 unfold IN at h
 split at h
 ·rename_i fs id o hu
  cases hx with
  | ptr _ _ E hE =>
   split at h
   ·rename_i fd hf
    split at h
    ·cases h
    ·rename_i z hz hz0
     injection h with h; subst h
     have hz0' : z ≠ 0 := hz
     refine ⟨.pointer (some ⟨E.g, E.base + (o + fd.offset), none⟩), ?_, .ptr _ _ E hE⟩
     simp [Instr.fieldAt, AH w hu, hf, Instr.sureAddr, fieldPlace, run_sizeOf w hz0, hz0', Addr.add_lit, Nat.add_assoc]
    ·cases h
   ·cases h
 ·rename_i fs g o hu
  cases hx with
  | F4 _ _ =>
   split at h
   ·rename_i fd hf
    split at h
    ·cases h
    ·rename_i z hz hz0
     injection h with h; subst h
     have hz0' : z ≠ 0 := hz
     refine ⟨.pointer (some ⟨g, o + fd.offset, none⟩), ?_, .F4 _ _⟩
     simp [Instr.fieldAt, AH w hu, hf, Instr.sureAddr, fieldPlace, run_sizeOf w hz0, hz0', Addr.add_lit]
    ·cases h
   ·cases h
 ·rename_i fs cs hu
  cases hx with
  | Cp g o _ c hf1 hv =>
   split at h
   ·rename_i fd hf
    split at h
    ·cases h
    ·rename_i z hz hz0
     injection h with h; subst h
     have hz0' : z ≠ 0 := hz
     refine ⟨.pointer (some ⟨g, o + fd.offset, none⟩), ?_, VR.Hr hf1 hv _⟩
     simp [Instr.fieldAt, AH w hu, hf, Instr.sureAddr, fieldPlace, run_sizeOf w hz0, hz0', Addr.add_lit]
    ·cases h
   ·cases h
 ·cases h
theorem Mt {t : TypeId} {x : AA} {x' : Value} {f : Nat} {v : AA} (hx : VR m x x') (h : O1 P t x f = some v) :
  ∃ v', (Instr.field t x' f).run P w = .ok v' w ∧ VR m v v' := by
 unfold O1 at h
 split at h
 ·rename_i fs cs hu
  obtain ⟨ds, rfl, vd⟩ := hx.Db
  split at h
  ·rename_i fd hf
   obtain ⟨y, h1, h2⟩ := Eh (P := P) w vd h
   exact ⟨y, by simp [Instr.field, AH w hu, hf, asAgg, h1], h2⟩
  ·cases h
 ·cases h
theorem JV {t : TypeId} {x i : AA} {x' i' : Value} {v : AA} (hx : VR m x x') (hi : VR m i i') (h : FF P t x i = some v) :
  ∃ v', (Instr.indexAt t x' i').run P w = .ok v' w ∧ VR m v v' := by
 unfold FF at h
 split at h
 ·rename_i n e id o k i hu
  have := hi.Bp; subst this
  cases hx with
  | ptr _ _ E hE =>
   split at h
   ·rename_i hb
    cases hz : BR P e with
    | none => simp [hz] at h
    | some z =>
     simp only [hz, Option.map_some, Option.some.injEq] at h; subst h
     refine ⟨.pointer (some ⟨E.g, E.base + (o + i.toNat * z), none⟩), ?_, .ptr _ _ E hE⟩
     simp [Instr.indexAt, AH w hu, asIntOf, Instr.sureAddr, hb, run_sizeOf w hz, Addr.add_lit, Nat.add_assoc]
   ·cases h
 ·rename_i e id o n k i hu
  have := hi.Bp; subst this
  cases hx with
  | slice _ _ _ cap E a hE hl hc =>
   split at h
   ·rename_i hb
    obtain ⟨ha, _⟩ := hc (by omega)
    subst ha
    cases hz : BR P e with
    | none => simp [hz] at h
    | some z =>
     simp only [hz, Option.map_some, Option.some.injEq] at h; subst h
     refine ⟨.pointer (some ⟨E.g, E.base + (o + i.toNat * z), none⟩), ?_, .ptr _ _ E hE⟩
     simp [Instr.indexAt, AH w hu, asIntOf, hb, run_sizeOf w hz, Addr.add_lit, Nat.add_assoc]
   ·cases h
 ·rename_i n e g o k i hu
  have := hi.Bp; subst this
  cases hx with
  | F4 _ _ =>
   split at h
   ·rename_i hb
    cases hz : BR P e with
    | none => simp [hz] at h
    | some z =>
     simp only [hz, Option.map_some, Option.some.injEq] at h; subst h
     refine ⟨.pointer (some ⟨g, o + i.toNat * z, none⟩), ?_, .F4 _ _⟩
     simp [Instr.indexAt, AH w hu, asIntOf, Instr.sureAddr, hb, run_sizeOf w hz, Addr.add_lit]
   ·cases h
 ·rename_i n e cs k i hu
  have := hi.Bp; subst this
  cases hx with
  | Cp g o _ c hf1 hv =>
   split at h
   ·rename_i hb
    cases hz : BR P e with
    | none => simp [hz] at h
    | some z =>
     simp only [hz, Option.map_some, Option.some.injEq] at h; subst h
     refine ⟨.pointer (some ⟨g, o + i.toNat * z, none⟩), ?_, VR.Hr hf1 hv _⟩
     simp [Instr.indexAt, AH w hu, asIntOf, Instr.sureAddr, hb, run_sizeOf w hz, Addr.add_lit]
   ·cases h
 ·rename_i e n cs k i hu
  have := hi.Bp; subst this
  split at h
  ·rename_i hb
   cases hx with
   | Fa => omega
   | Ed _ cap g o _ c hc hf1 hv =>
    cases hz : BR P e with
    | none => simp [hz] at h
    | some z =>
     simp only [hz, Option.bind_some] at h
     split at h
     ·injection h with h; subst h
      refine ⟨.pointer (some ⟨g, o + i.toNat * z, none⟩), ?_, VR.Lh (VR.Hr hf1 hv _) _⟩
      simp [Instr.indexAt, AH w hu, asIntOf, hb, run_sizeOf w hz, Addr.add_lit]
     ·cases h
  ·cases h
 ·cases h
theorem ME {t : TypeId} {x i : AA} {x' i' : Value} {v : AA} (hx : VR m x x') (hi : VR m i i') (h : Mn P t x i = some v) :
  ∃ v', (Instr.index t x' i').run P w = .ok v' w ∧ VR m v v' := by
 unfold Mn at h
 split at h
 ·rename_i n e cs k i hu
  have := hi.Bp; subst this
  obtain ⟨ds, rfl, vd⟩ := hx.Db
  split at h
  ·rename_i hb
   cases hz : BR P e with
   | none => simp [hz] at h
   | some z =>
    simp only [hz, Option.bind_some] at h
    obtain ⟨y, h1, h2⟩ := Eh (P := P) w vd h
    exact ⟨y, by simp [Instr.index, AH w hu, asIntOf, hb, run_sizeOf w hz, h1], h2⟩
  ·cases h
 ·rename_i s k i hu
  have := hi.Bp; subst this
  have := hx.Bn; subst this
  split at h
  ·rename_i hb
   cases hs : s[i.toNat]? with
   | none => simp [hs] at h
   | some b =>
    simp only [hs, Option.map_some, Option.some.injEq] at h; subst h
    have hs' : (⟨⟨s⟩⟩ : ByteArray)[i.toNat]? = some b := by
     obtain ⟨hlt, e⟩ := List.getElem?_eq_some_iff.1 hs
     rw [getElem?_pos (⟨⟨s⟩⟩ : ByteArray) i.toNat (by simpa [ByteArray.size] using hlt)]
     exact congrArg some e
    exact ⟨.int .u8 b.toNat, by simp [Instr.index, AH w hu, asIntOf, hb, hs'], .int _ _⟩
  ·cases h
 ·cases h
theorem Od {ts : Array TypeId} {ty : TypeId} {x : AA} {x' : Value} {v : AA} (hx : VR m x x') (h : UK P ts x = some v) :
  ∃ v', (Builtin.len_ ts ty #[x']).run P w = .ok v' w ∧ VR m v v' := by
 unfold UK at h
 split at h
 ·cases h
 ·rename_i t ht
  split at h
  ·rename_i s hu
   have := hx.Bn; subst this
   injection h with h; subst h
   exact ⟨.int .i64 s.length, by simp [Builtin.len_, ht, AH w hu, goInt, show (⟨⟨s⟩⟩ : ByteArray).size = s.length from rfl], .int _ _⟩
  ·rename_i n e y hu
   injection h with h; subst h
   exact ⟨_, by simp [Builtin.len_, ht, AH w hu, goInt], .int _ _⟩
  ·rename_i e r n hu
   injection h with h; subst h
   cases hx <;> exact ⟨_, by simp [Builtin.len_, ht, AH w hu, goInt]; try rfl, .int _ _⟩
  ·rename_i e n cs hu
   injection h with h; subst h
   cases hx <;> exact ⟨_, by simp [Builtin.len_, ht, AH w hu, goInt]; try rfl, .int _ _⟩
  ·cases h
theorem Fs (mx : Bool) : ∀ (r : List AA) (r' : List Value) (x : AA) (x' : Value) (v : AA), VR m x x' → BI m r r' → Ho mx x r = some v →
  ∃ v', (r'.foldlM (if mx then Builtin.max2 else Builtin.min2) x').run P w = .ok v' w ∧ VR m v v'
 | [], r', x, x', v, hx, hr, h => by
  have : r' = [] := List.eq_nil_of_length_eq_zero (by simpa using hr.1.symm)
  subst this
  simp [Ho] at h
  subst h
  exact ⟨x', by simp, hx⟩
 | y :: r, [], x, x', v, hx, hr, h => by simp [BI] at hr
 | y :: r, y' :: r', x, x', v, hx, hr, h => by
  have hy : VR m y y' := hr.2 0 y y' rfl rfl
  have hr' : BI m r r' := ⟨by simpa using hr.1, fun i a b ha hb => hr.2 (i + 1) a b (by simpa using ha) (by simpa using hb)⟩
  unfold Ho at h
  split at h
  ·rename_i heq; cases heq
  ·rename_i k a k' b r2 heq
   injection heq with e1 e2; subst e1; subst e2
   have := hx.Bp; subst this
   have := hy.Bp; subst this
   split at h
   ·rename_i hk; subst hk
    obtain ⟨v', h1, h2⟩ := Fs mx r r' _ _ v (.int k _) hr' h
    refine ⟨v', ?_, h2⟩
    cases mx <;> simpa [Builtin.max2, Builtin.min2] using h1
   ·cases h
  ·cases h
theorem Kz (off : Nat) : ∀ (l : List Value) (k : Nat) (cs : Array Value), off + k + l.length ≤ cs.size →
  (l.zipIdx k).foldl (fun (cs : Array Value) (x : Value × Nat) => cs.setIfInBounds (off + x.2) x.1) cs = ⟨cs.toList.take (off + k) ++ (l ++ cs.toList.drop (off + k + l.length))⟩
 | [], k, cs, h => by simp
 | v :: l, k, cs, h => by
  simp only [List.zipIdx_cons, List.foldl_cons]
  simp only [List.length_cons] at h
  rw [Kz off l (k + 1) _ (by simp; omega)]
  generalize hL : cs.toList = L
  have hlen : L.length = cs.size := by rw [← hL]; simp
  have e : (cs.setIfInBounds (off + k) v).toList = L.take (off + k) ++ v :: L.drop (off + k + 1) := by
   rw [Array.toList_setIfInBounds, hL, List.set_eq_take_append_cons_drop, if_pos (by omega)]
  have hl : (L.take (off + k)).length = off + k := by simp; omega
  rw [e, show off + (k + 1) + l.length = (L.take (off + k)).length + (1 + l.length) by omega, List.drop_length_add_append,
   show off + (k + 1) = (L.take (off + k)).length + 1 by omega, List.take_length_add_append, List.append_assoc, show 1 + l.length = l.length + 1 by omega, List.drop_succ_cons, List.drop_drop]
  simp only [List.take_succ_cons, List.take_zero, List.cons_append, List.nil_append, List.length_cons]
  rw [show off + k + 1 + l.length = off + k + (l.length + 1) by omega]
theorem Fi {place : Nat → Option (Nat × Nat)} : ∀ (parts : List (Nat × AA)) (parts' : List (Nat × Value)) (cs : List AA) (ds : Array Value) (r : List AA),
  parts.length = parts'.length → (∀ (j i i' : Nat) (x : AA) (y : Value), parts[j]? = some (i, x) → parts'[j]? = some (i', y) → i = i' ∧ VR m x y) → BI m cs ds.toList → Gl place cs parts = some r →
  ∃ ds', Instr.fill place ds parts' = some ds' ∧ BI m r ds'.toList
 | [], parts', cs, ds, r, hl, _, hc, h => by
  have : parts' = [] := List.eq_nil_of_length_eq_zero hl.symm
  subst this
  simp [Gl] at h
  subst h
  exact ⟨ds, rfl, hc⟩
 | (i, x) :: parts, [], _, _, _, hl, _, _, _ => by simp at hl
 | (i, x) :: parts, (i', y) :: parts', cs, ds, r, hl, hp, hc, h => by
  obtain ⟨rfl, hxy⟩ := hp 0 i i' x y rfl rfl
  unfold Gl at h
  split at h
  ·rename_i off size new hpl hnew
   split at h
   ·rename_i hb
    have hv := hxy.cells hnew
    have hsz : y.cells.size = size := by rw [← hb.1, hv.1]; simp
    have hds : cs.length = ds.size := by rw [hc.1]; simp
    obtain ⟨ds', h1, h2⟩ := Fi parts parts' _ ⟨ds.toList.take off ++ (y.cells.toList ++ ds.toList.drop (off + y.cells.toList.length))⟩ r (by simpa using hl)
     (fun j a b u v hu hv => hp (j + 1) a b u v (by simpa using hu) (by simpa using hv)) (hc.Cn hv off) h
    refine ⟨ds', ?_, h2⟩
    have hcond : (y.cells.size ≠ size || off + y.cells.size > ds.size) = false := by simp [hsz]; omega
    have hf := Kz off y.cells.toList 0 ds (by simp [hsz]; omega)
    simp only [Nat.add_zero] at hf
    rw [← h1]
    simp only [Instr.fill, hpl]
    rw [if_neg (by simpa using hcond)]
    congr 1
    rw [← hf, ← Array.foldl_toList, Array.toList_zipIdx]
   ·cases h
  ·cases h
theorem DV {t : TypeId} {v : AA} (h : D6 P t = some v) : ∃ i z, P.info? t = some i ∧ i.zero = some z ∧ VR m v z := by
 unfold D6 at h
 cases hi : P.info? t with
 | none => simp [hi] at h
 | some i =>
  simp only [hi] at h
  cases hz : i.zero with
  | none => simp [hz] at h
  | some z =>
   simp only [hz, Option.map_some, Option.some.injEq] at h
   subst h
   exact ⟨i, z, rfl, hz, VR.R8 m z⟩
theorem MW {t : TypeId} {parts : List (Nat × AA)} {parts' : List (Nat × Value)} {v : AA} (hl : parts.length = parts'.length)
  (hp : ∀ (j i i' : Nat) (x : AA) (y : Value), parts[j]? = some (i, x) → parts'[j]? = some (i', y) → i = i' ∧ VR m x y) (h : Ov P t parts = some v) :
  ∃ cells, P.built t parts' = some cells ∧ VR m v (.agg cells) := by
 unfold Ov at h
 split at h
 ·rename_i n e z hu hz
  cases hz0 : D6 P t with
  | none => simp [hz0] at hz
  | some zv =>
   simp only [hz0, Option.bind_some] at hz
   obtain ⟨i, zz, hi, hiz, hvz⟩ := DV (m := m) hz0
   cases hs : BR P e with
   | none => simp [hs] at h
   | some n' =>
    simp only [hs, Option.bind_some] at h
    cases hf : Gl (fun i => some (i * n', n')) z parts with
    | none => simp [hf] at h
    | some r =>
     simp only [hf, Option.map_some, Option.some.injEq] at h
     subst h
     obtain ⟨ds', h1, h2⟩ := Fi (m := m) parts parts' z zz.cells r hl hp (hvz.cells hz) hf
     unfold BR at hs
     cases hie : P.info? e with
     | none => simp [hie] at hs
     | some ie =>
      simp [hie] at hs
      subst hs
      exact ⟨ds', by simp [Program.built, hi, hu, hiz, hie, h1], BI.agg h2⟩
 ·rename_i fs z hu hz
  cases hz0 : D6 P t with
  | none => simp [hz0] at hz
  | some zv =>
   simp only [hz0, Option.bind_some] at hz
   obtain ⟨i, zz, hi, hiz, hvz⟩ := DV (m := m) hz0
   cases hs : MX P fs.toList with
   | none => simp [hs] at h
   | some ps =>
    simp only [hs, Option.bind_some] at h
    cases hf : Gl (ps[·]?) z parts with
    | none => simp [hf] at h
    | some r =>
     simp only [hf, Option.map_some, Option.some.injEq] at h
     subst h
     obtain ⟨ds', h1, h2⟩ := Fi (m := m) parts parts' z zz.cells r hl hp (hvz.cells hz) hf
     unfold MX at hs
     exact ⟨ds', by simp [Program.built, hi, hu, hiz, hs, h1], BI.agg h2⟩
 ·cases h
theorem Pw {fr : Fr} {a : Act} (hf : FR m fr a) (x : Option Operand) : T7 m (x.map (ev fr)) (x.map a.eval) := by
 cases x with
 | none => trivial
 | some x => exact hf.ev x
theorem L6 {fr : Fr} {a : Act} (hf : FR m fr a) {o : Oper} {v : AA} (h : GL P fr o.op = some v) : ∃ v', (execOp a.eval o).run P w = .ok (.value v') w ∧ VR m v v' := by
 obtain ⟨dst, op, ty, pos, aft, gd⟩ := o
 simp only at h
 have lift : ∀ {s : Sem Value} {u : AA}, (∃ v', s.run P w = .ok v' w ∧ VR m u v') → ∃ v', (do pure (.value (← s)) : Sem Next).run P w = .ok (.value v') w ∧ VR m u v' := by
  rintro s u ⟨v', h1, h2⟩
  exact ⟨v', by simp [h1], h2⟩
 cases op with
 | move x => simp only [GL, Option.some.injEq] at h; subst h; exact ⟨_, rfl, hf.ev x⟩
 | assign x => simp only [GL, Option.some.injEq] at h; subst h; exact ⟨_, rfl, hf.ev x⟩
 | pick c x y =>
  simp only [GL] at h
  split at h
  ·rename_i b hb
   have hc := hf.ev c
   rw [hb] at hc
   have hc := hc.GJ
   injection h with h
   subst h
   cases b
   ·exact ⟨a.eval y, by simp [execOp, asBool, hc], hf.ev y⟩
   ·exact ⟨a.eval x, by simp [execOp, asBool, hc], hf.ev x⟩
  ·cases h
 | build t parts =>
  simp only [GL] at h
  obtain ⟨cells, h1, h2⟩ := MW (m := m) (parts' := (parts.map fun (i, x) => (i, a.eval x)).toList) (by simp) (fun j i i' x y hx hy => by
   simp only [List.getElem?_map, Array.toList_map] at hx hy
   cases hj : parts.toList[j]? with
   | none => simp [hj] at hx
   | some p =>
    simp only [hj, Option.map_some, Option.some.injEq, Prod.mk.injEq] at hx hy
    obtain ⟨rfl, rfl⟩ := hx
    obtain ⟨rfl, rfl⟩ := hy
    exact ⟨rfl, hf.ev p.2⟩) h
  exact lift ⟨_, run_build w t _ cells h1, h2⟩
 | nilCheck x =>
  simp only [GL] at h
  split at h
  ·rename_i r hr
   have hx := hf.ev x
   rw [hr] at hx
   injection h with h
   subst h
   cases he : a.eval x <;> rw [he] at hx <;> try (cases hx; done)
   rename_i p
   cases p with
   | none => cases hx
   | some p => exact ⟨.pointer (some p), by simp [execOp, he], hx⟩
  ·rename_i g o hr
   have hx := hf.ev x
   rw [hr] at hx
   injection h with h
   subst h
   cases he : a.eval x <;> rw [he] at hx <;> try (cases hx; done)
   rename_i p
   cases p with
   | none => cases hx
   | some p => exact ⟨.pointer (some p), by simp [execOp, he], hx⟩
  ·rename_i cs hr
   have hx := hf.ev x
   rw [hr] at hx
   injection h with h
   subst h
   cases he : a.eval x <;> rw [he] at hx <;> try (cases hx; done)
   rename_i p
   cases p with
   | none => cases hx
   | some p => exact ⟨.pointer (some p), by simp [execOp, he], hx⟩
  ·rename_i f b c hr
   have hx := hf.ev x
   rw [hr] at hx
   injection h with h
   subst h
   cases he : a.eval x <;> rw [he] at hx <;> try (cases hx; done)
   rename_i fn c d
   have : fn = .func f := by cases hx; rfl
   subst this
   exact ⟨.func (.func f) c d, by simp [execOp, he], hx⟩
  ·cases h
 | binOp op t x y yt => simp only [GL] at h; exact lift (Ox w (hf.ev x) (hf.ev y) h)
 | unOp op t x => simp only [GL] at h; exact lift (QF w (hf.ev x) h)
 | convert s d x => simp only [GL] at h; exact lift (NV w (hf.ev x) h)
 | makeFunc fn first cap =>
  simp only [GL, Option.some.injEq] at h
  subst h
  refine lift ⟨.func fn (first.map a.eval) (cap.map a.eval), rfl, ?_⟩
  have h1 := hf.UZ first.toList
  have h2 := hf.UZ cap.toList
  exact .func _ _ _ _ _ (by simp) (fun i x y hx hy => h1.2 i x y hx (by simpa using hy)) (by simp) (fun i x y hx hy => h2.2 i x y hx (by simpa using hy))
 | slice t x lo hi mx =>
  cases mx with
  | some y => simp [GL] at h
  | none => simp only [GL] at h; exact lift (MJ w (hf.ev x) (Pw hf lo) (Pw hf hi) h)
 | fieldAddr s x f => simp only [GL] at h; exact lift (Jm w (hf.ev x) h)
 | field s x f => simp only [GL] at h; exact lift (Mt w (hf.ev x) h)
 | indexAddr t x i => simp only [GL] at h; exact lift (JV w (hf.ev x) (hf.ev i) h)
 | index t x i => simp only [GL] at h; exact lift (ME w (hf.ev x) (hf.ev i) h)
 | extract x i =>
  simp only [GL] at h
  split at h
  ·rename_i vs hr
   have hx := hf.ev x
   rw [hr] at hx
   obtain ⟨c, hc, hv⟩ := hx.FB
   obtain ⟨y, hy, hvy⟩ := hv.at_ h
   have hy' : c[i]? = some y := by simpa using hy
   exact lift ⟨y, by simp [hc, Instr.extract, hy'], hvy⟩
  ·cases h
 | call c =>
  obtain ⟨callee, as, ts⟩ := c
  cases callee with
  | value f => simp [GL] at h
  | invoke r mth => simp [GL] at h
  | builtin b =>
   simp only [GL] at h
   have hall := hf.UZ as.toList
   have hargs : (as.map a.eval).toList = as.toList.map a.eval := by simp
   have res : ∀ (w : World), (resolve a.eval { callee := .builtin b, args := as, argTypes := ts } ty).run P w = .ok { target := .builtin b ts ty (as.map fun | .const _ => true | _ => false), args := as.map a.eval } w := fun w => rfl
   split at h
   ·rename_i x heq
    obtain ⟨x', hx', hvx⟩ : ∃ x', as.map a.eval = #[x'] ∧ VR m x x' := by
     rw [heq] at hall
     have hlen : (as.toList.map a.eval).length = 1 := by rw [← hall.1]; rfl
     match hq : as.toList.map a.eval, hlen with
     | [x'], _ => exact ⟨x', Array.ext' (by simpa using hq), hall.2 0 x x' rfl (by rw [hq]; rfl)⟩
    obtain ⟨v', h1, h2⟩ := Od (P := P) (m := m) (ty := ty) w hvx h
    exact ⟨v', by simp [execOp, res, invoke, builtin, hx', h1], h2⟩
   ·rename_i x r heq
    rw [heq] at hall
    match hq : as.toList.map a.eval with
    | [] => rw [hq] at hall; simp [BI] at hall
    | x' :: r' =>
     rw [hq] at hall
     obtain ⟨v', h1, h2⟩ := Fs (P := P) w false r r' x x' v (hall.2 0 x x' rfl rfl) ⟨by simpa using hall.1, fun i u z hu hz => hall.2 (i + 1) u z (by simpa using hu) (by simpa using hz)⟩ h
     refine ⟨v', ?_, h2⟩
     simp only [Bool.false_eq_true, if_false] at h1
     simp [execOp, res, invoke, builtin, Builtin.min_, hq, h1]
   ·rename_i x r heq
    rw [heq] at hall
    match hq : as.toList.map a.eval with
    | [] => rw [hq] at hall; simp [BI] at hall
    | x' :: r' =>
     rw [hq] at hall
     obtain ⟨v', h1, h2⟩ := Fs (P := P) w true r r' x x' v (hall.2 0 x x' rfl rfl) ⟨by simpa using hall.1, fun i u z hu hz => hall.2 (i + 1) u z (by simpa using hu) (by simpa using hz)⟩ h
     refine ⟨v', ?_, h2⟩
     simp only [if_true] at h1
     simp [execOp, res, invoke, builtin, Builtin.max_, hq, h1]
   ·cases h
 | _ => simp [GL] at h
end
end Go.Av
