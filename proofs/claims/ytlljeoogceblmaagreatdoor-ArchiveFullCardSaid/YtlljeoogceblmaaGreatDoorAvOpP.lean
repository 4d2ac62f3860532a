/-
 A part.
-/
import Derived.Test.YtlljeoogceblmaaGreatDoorAvEq
namespace Go.Av
open Go.RowKit
section
variable {P : Program} {m : BK} (w : World)
theorem VR.Cd {k : IntKind} {n : Int} {v : Value} (h : VR m (.int k n) v) : v = .int k n := by cases h; rfl
theorem VR.I3 {b : Bool} {v : Value} (h : VR m (.bool b) v) : v = .bool b := by cases h; rfl
theorem JD {op : BinOp} {t : TypeId} {k : IntKind} {a b : Int} {v : AB} (h : NV op k a b = some v) :
  ∃ v', (binOp op t (.int k a) (.int k b)).run P w = .ok v' w ∧ VR m v v' := by
 cases op <;> simp [NV] at h
 case quo => obtain ⟨G, rfl⟩ := h; exact ⟨_, by simp [binOp, Op.intDiv, G], .int _ _⟩
 case rem => obtain ⟨G, rfl⟩ := h; exact ⟨_, by simp [binOp, Op.intDiv, G], .int _ _⟩
 all_goals subst h
 case add => exact ⟨_, by simp [binOp, Op.intArith], .int _ _⟩
 case sub => exact ⟨_, by simp [binOp, Op.intArith], .int _ _⟩
 case mul => exact ⟨_, by simp [binOp, Op.intArith], .int _ _⟩
 case and => exact ⟨.int k (k.wrap (BitVec.ofInt k.bits a &&& BitVec.ofInt k.bits b).toNat), by simp [binOp, Op.intBits], by simpa using VR.int (m := m) k _⟩
 case or => exact ⟨.int k (k.wrap (BitVec.ofInt k.bits a ||| BitVec.ofInt k.bits b).toNat), by simp [binOp, Op.intBits], by simpa using VR.int (m := m) k _⟩
 case xor => exact ⟨.int k (k.wrap (BitVec.ofInt k.bits a ^^^ BitVec.ofInt k.bits b).toNat), by simp [binOp, Op.intBits], by simpa using VR.int (m := m) k _⟩
 case andNot => exact ⟨.int k (k.wrap (BitVec.ofInt k.bits a &&& ~~~BitVec.ofInt k.bits b).toNat), by simp [binOp, Op.intBits], by simpa using VR.int (m := m) k _⟩
 all_goals exact ⟨_, by simp [binOp, Op.intCmp]; rfl, by first | exact .bool _ | simpa using VR.bool (m := m) _⟩
theorem Lj {op : BinOp} {t : TypeId} {k yk : IntKind} {a b : Int} {v : AB} (h : Pm op k a b = some v) :
  ∃ v', (binOp op t (.int k a) (.int yk b)).run P w = .ok v' w ∧ VR m v v' := by
 unfold Pm at h
 split at h
 ·cases h
 ·rename_i G
  cases op <;> simp at h
  case shl => subst h; exact ⟨_, by simp [binOp, Op.shift, G], .int _ _⟩
  case shr => subst h; exact ⟨_, by simp [binOp, Op.shift, G], .int _ _⟩
theorem P6 {op : BinOp} {t : TypeId} {a b : List UInt8} {v : AB} (h : PY op a b = some v) :
  ∃ v', (binOp op t (.string ⟨⟨a⟩⟩) (.string ⟨⟨b⟩⟩)).run P w = .ok v' w ∧ VR m v v' := by
 have ea : ByteArray.toList ⟨⟨a⟩⟩ = a := by rw [ByteArray.toList_eq]
 have eb : ByteArray.toList ⟨⟨b⟩⟩ = b := by rw [ByteArray.toList_eq]
 cases op <;> simp [PY] at h
 case add =>
  obtain ⟨T, rfl⟩ := h
  refine ⟨.string (⟨⟨a⟩⟩ ++ ⟨⟨b⟩⟩), ?_, ?_⟩
  ·have : ¬ ((9223372036854775807 : Int) < ((⟨⟨a⟩⟩ : ByteArray).size : Int) + ((⟨⟨b⟩⟩ : ByteArray).size : Int)) := by
    simp [ByteArray.size]; omega
   simp [binOp, Op.stringOp, this]
  ·have := VR.str (m := m) (⟨⟨a⟩⟩ ++ ⟨⟨b⟩⟩)
   simpa [ByteArray.append, ByteArray.data_append] using this
 all_goals subst h; exact ⟨_, by simp [binOp, Op.stringOp, ea, eb]; rfl, by first | exact .bool _ | simpa using VR.bool (m := m) _⟩
theorem EF {op : BinOp} {t : TypeId} {ox oy : Operand} {x y : Value} {v : Value} (Q : (eqGuard op t ox oy x y).run P w = .ok () w) (h : (binOp op t x y).run P w = .ok v w) :
  (do eqGuard op t ox oy x y; binOp op t x y : Sem Value).run P w = .ok v w := by
 rw [Sem.run_bind, Q]; exact h
theorem GU {op : BinOp} {t : TypeId} {ox oy : Operand} {x y : Value} (B : ∀ a, x ≠ .agg a) (hn : x ≠ .nilIface) : (eqGuard op t ox oy x y).run P w = .ok () w := by
 cases x <;> first | exact absurd rfl hn | exact absurd rfl (B _) | (cases op <;> simp [eqGuard])
theorem E5 {op : BinOp} {t : TypeId} {x y : Value} {b : Bool} (hi : ∀ k n, x ≠ .int k n) (I : ∀ s, x ≠ .string s) (D : ∀ k n, x ≠ .float k n) (hc : ∀ k a b, x ≠ .complex k a b)
  (hop : op = .eql ∨ op = .neq) (h : (Op.equalIn 10000 t x y).run P w = .ok b w) : (binOp op t x y).run P w = .ok (.bool (if op = .eql then b else !b)) w := by
 rcases hop with rfl | rfl <;> cases x <;>
  first
   | exact absurd rfl (hi _ _) | exact absurd rfl (I _) | exact absurd rfl (D _ _) | exact absurd rfl (hc _ _ _)
   | simp [binOp, Op.equal, Op.maxDepth, h]
theorem Ry {op : BinOp} {t : TypeId} {ox oy : Operand} {x y : AB} {x' y' : Value} {v : AB} (B : VR m x x') (J : VR m y y') (h : T0 P op t x y = some v) :
  ∃ v', (do eqGuard op t ox oy x' y'; binOp op t x' y' : Sem Value).run P w = .ok v' w ∧ VR m v v' := by
 unfold T0 at h
 split at h
 ·-- int, int
  rename_i k a k' b
  have := B.Cd; subst this
  have := J.Cd; subst this
  have Q := GU (P := P) w (op := op) (t := t) (ox := ox) (oy := oy) (x := .int k a) (y := .int k' b) (fun a h => by cases h) (fun h => by cases h)
  split at h
  ·obtain ⟨v', h1, h2⟩ := Lj (P := P) (m := m) (t := t) (yk := k') w h; exact ⟨v', EF w Q h1, h2⟩
  ·obtain ⟨v', h1, h2⟩ := Lj (P := P) (m := m) (t := t) (yk := k') w h; exact ⟨v', EF w Q h1, h2⟩
  ·split at h
   ·rename_i hk; subst hk
    obtain ⟨v', h1, h2⟩ := JD (P := P) (m := m) (t := t) w h; exact ⟨v', EF w Q h1, h2⟩
   ·cases h
 ·rename_i a b
  have := B.DJ; subst this
  have := J.DJ; subst this
  have Q := GU (P := P) w (op := op) (t := t) (ox := ox) (oy := oy) (x := .string ⟨⟨a⟩⟩) (y := .string ⟨⟨b⟩⟩) (fun a h => by cases h) (fun h => by cases h)
  obtain ⟨v', h1, h2⟩ := P6 (P := P) (m := m) (t := t) w h; exact ⟨v', EF w Q h1, h2⟩
 ·rename_i xs ys
  obtain ⟨xs', rfl, vx⟩ := B.E7
  obtain ⟨ys', rfl, vy⟩ := J.E7
  split at h
  ·cases h
  ·rename_i hgt
   have Q := run_eqGuard_agg (P := P) w op t ox oy xs' ys' (by simpa using hgt)
   split at h
   ·cases he : Ho P 10000 t (.agg xs) (.agg ys) with
    | none => simp [he] at h
    | some b =>
     simp only [he, Option.map_some, Option.some.injEq] at h; subst h
     exact ⟨_, EF w Q (E5 w (by simp) (by simp) (by simp) (by simp) (.inl rfl) (H8 w _ _ _ _ _ _ _ B J he)), by simpa using VR.bool (m := m) b⟩
   ·cases he : Ho P 10000 t (.agg xs) (.agg ys) with
    | none => simp [he] at h
    | some b =>
     simp only [he, Option.map_some, Option.some.injEq] at h; subst h
     exact ⟨_, EF w Q (E5 w (by simp) (by simp) (by simp) (by simp) (.inr rfl) (H8 w _ _ _ _ _ _ _ B J he)), by simpa using VR.bool (m := m) (!b)⟩
   ·cases h
 ·split at h
  ·rename_i S
   have hne : (∀ k n, x' ≠ .int k n) ∧ (∀ s, x' ≠ .string s) ∧ (∀ k n, x' ≠ .float k n) ∧ (∀ k a b, x' ≠ .complex k a b) ∧ (∀ a, x' ≠ .agg a) ∧ x' ≠ .nilIface := by
    cases B <;> simp [Uk] at S <;> simp
   obtain ⟨a1, a2, a3, a4, a5, a6⟩ := hne
   split at h
   ·cases he : Ho P 10000 t x y with
    | none => simp [he] at h
    | some b =>
     simp only [he, Option.map_some, Option.some.injEq] at h; subst h
     exact ⟨_, EF w (GU w a5 a6) (E5 w a1 a2 a3 a4 (.inl rfl) (H8 w _ _ _ _ _ _ _ B J he)), by simpa using VR.bool (m := m) b⟩
   ·cases he : Ho P 10000 t x y with
    | none => simp [he] at h
    | some b =>
     simp only [he, Option.map_some, Option.some.injEq] at h; subst h
     exact ⟨_, EF w (GU w a5 a6) (E5 w a1 a2 a3 a4 (.inr rfl) (H8 w _ _ _ _ _ _ _ B J he)), by simpa using VR.bool (m := m) (!b)⟩
   ·cases h
  ·cases h
theorem Rc {op : BinOp} {t : TypeId} {ox oy : Operand} {x y : AB} {x' y' : Value} {v : AB} (B : VR m x x') (J : VR m y y') (h : Ub P op t (Wa ox || Wa oy) x y = some v) :
  ∃ v', (do eqGuard op t ox oy x' y'; binOp op t x' y' : Sem Value).run P w = .ok v' w ∧ VR m v v' := by
 unfold Ub at h
 split at h
 ·cases B
  cases J
  unfold Xa at h
  split at h
  ·rename_i ms hu
   cases hc : (Wa ox || Wa oy) with
   | false => rw [hc] at h; cases h
   | true =>
    rw [hc] at h
    have Q : (eqGuard op t ox oy .nilIface .nilIface).run P w = .ok () w := by
     cases ox <;> cases oy <;> simp [Wa] at hc <;> cases op <;> simp [eqGuard]
    have hd : ∀ d, (Op.equalIn (d + 1) t .nilIface .nilIface).run P w = .ok true w := by
     intro d; simp [Op.equalIn, Am w hu]
    have he : (Op.equalIn 10000 t .nilIface .nilIface).run P w = .ok true w := hd 9999
    simp only [cond_true] at h
    split at h
    ·injection h with h; subst h
     exact ⟨_, EF w Q (E5 w (by simp) (by simp) (by simp) (by simp) (.inl rfl) he), by simpa using VR.bool (m := m) true⟩
    ·injection h with h; subst h
     exact ⟨_, EF w Q (E5 w (by simp) (by simp) (by simp) (by simp) (.inr rfl) he), by simpa using VR.bool (m := m) false⟩
    ·cases h
  ·cases h
 ·exact Ry w B J h
theorem S5 {op : UnOp} {x : AB} {x' : Value} {v : AB} (B : VR m x x') (h : ZD op x = some v) : ∃ v', (Op.unary op x').run P w = .ok v' w ∧ VR m v v' := by
 unfold ZD at h
 split at h
 ·have := B.Cd; subst this
  obtain ⟨v', h1, h2⟩ := JD (P := P) (m := m) (t := 0) w h
  exact ⟨v', by simpa [Op.unary, binOp] using h1, h2⟩
 ·have := B.Cd; subst this
  obtain ⟨v', h1, h2⟩ := JD (P := P) (m := m) (t := 0) w h
  exact ⟨v', by simpa [Op.unary, binOp] using h1, h2⟩
 ·have := B.I3; subst this
  injection h with h; subst h
  exact ⟨_, by simp [Op.unary], .bool _⟩
 ·cases h
theorem Qi {src dst : TypeId} {x : AB} {x' : Value} {v : AB} (B : VR m x x') (h : TL P src dst x = some v) : ∃ v', (convert src dst x').run P w = .ok v' w ∧ VR m v v' := by
 unfold TL at h
 split at h
 ·rename_i d k k' n I hd
  have := B.Cd; subst this
  injection h with h; subst h
  exact ⟨_, by simp [convert, Am w I, Am w hd, Conv.intToInt], .int _ _⟩
 ·rename_i d s I hd
  have := B.DJ; subst this
  injection h with h; subst h
  exact ⟨.string ⟨⟨s⟩⟩, by simp [convert, Am w I, Am w hd], .str ⟨⟨s⟩⟩⟩
 ·rename_i d k n I hd
  have := B.Cd; subst this
  injection h with h; subst h
  exact ⟨.string (Utf8.encode n), by simp [convert, Am w I, Am w hd, Conv.intToString], .str _⟩
 ·cases h
def Wh (m : BK) : Option AB → Option Value → Prop
 | none, none => True
 | some a, some v => VR m a v
 | _, _ => False
theorem GR {k : IntKind} {n : Int} {y : Nat} {c : BoundsCode} (h0 : 0 ≤ n) (h1 : n ≤ y) : (Instr.sliceBound (.int k n) y c).run P w = .ok n.toNat w := by
 simp [Instr.sliceBound, asIntOf, h0, h1]
theorem Ej {n c : Nat} {lo hi : Option AB} {lo' O : Option Value} {l u : Nat} (isS : Bool) (N : Wh m lo lo') (U : Wh m hi O) (hc : n ≤ c) (h : Dg n lo hi = some (l, u)) :
  (Instr.sliceBounds isS n c lo' O none).run P w = .ok (l, u, c) w ∧ l ≤ u ∧ u ≤ n := by
 unfold Dg at h
 split at h
 ·rename_i k a
  cases O with
  | none => exact U.elim
  | some v =>
   have : v = .int k a := VR.Cd U
   subst this
   split at h
   ·rename_i G
    obtain ⟨b0, b1⟩ := G
    split at h
    ·rename_i k2 b
     cases lo' with
     | none => exact N.elim
     | some v =>
      have : v = .int k2 b := VR.Cd N
      subst this
      split at h
      ·rename_i W
       injection h with h; injection h with h1 h2; subst h1; subst h2
       refine ⟨?_, by omega, by omega⟩
       simp [Instr.sliceBounds, GR (P := P) w b0 (show a ≤ (c : Int) by omega), GR (P := P) w W.1 (show b ≤ (a.toNat : Int) by omega)]
      ·cases h
    ·cases h
    ·cases lo' with
     | some v => exact N.elim
     | none =>
      injection h with h; injection h with h1 h2; subst h1; subst h2
      refine ⟨?_, by omega, by omega⟩
      simp [Instr.sliceBounds, GR (P := P) w b0 (show a ≤ (c : Int) by omega)]
   ·cases h
 ·cases h
 ·cases O with
  | some v => exact U.elim
  | none =>
   split at h
   ·rename_i k2 b
    cases lo' with
    | none => exact N.elim
    | some v =>
     have : v = .int k2 b := VR.Cd N
     subst this
     split at h
     ·rename_i W
      injection h with h; injection h with h1 h2; subst h1; subst h2
      refine ⟨?_, by omega, by omega⟩
      simp [Instr.sliceBounds, GR (P := P) w W.1 W.2]
     ·cases h
   ·cases h
   ·cases lo' with
    | some v => exact N.elim
    | none =>
     injection h with h; injection h with h1 h2; subst h1; subst h2
     exact ⟨by simp [Instr.sliceBounds], by omega, by omega⟩
theorem Kr (s : List UInt8) (l u : Nat) : (⟨⟨s⟩⟩ : ByteArray).extract l u = ⟨⟨(s.drop l).take (u - l)⟩⟩ := by
 apply ByteArray.ext
 rw [ByteArray.data_extract]
 apply Array.ext'
 simp [List.extract_eq_take_drop]
theorem Pl {t : TypeId} {x : AB} {x' : Value} {lo hi : Option AB} {lo' O : Option Value} {v : AB} (B : VR m x x') (N : Wh m lo lo') (U : Wh m hi O) (h : PQ P t x lo hi = some v) :
  ∃ v', (Instr.sliceAt t x' lo' O none).run P w = .ok v' w ∧ VR m v v' := by
 unfold PQ at h
 split at h
 ·rename_i s hu
  have := B.DJ; subst this
  cases G : Dg s.length lo hi with
  | none => simp [G] at h
  | some lu =>
   obtain ⟨l, u⟩ := lu
   simp only [G, Option.map_some, Option.some.injEq] at h; subst h
   have hbs := (Ej (P := P) w (c := s.length) false N U (Nat.le_refl _) G).1
   refine ⟨.string ⟨⟨(s.drop l).take (u - l)⟩⟩, ?_, .str ⟨⟨(s.drop l).take (u - l)⟩⟩⟩
   simp only [Instr.sliceAt, Instr.slice, Sem.run_bind, Am w hu, Result.andThen_ok]
   simp [show (⟨⟨s⟩⟩ : ByteArray).size = s.length from rfl, hbs, Kr]
 ·cases h
theorem MN {t : TypeId} {x : AB} {x' : Value} {f : Nat} {v : AB} (B : VR m x x') (h : LO P t x f = some v) :
  ∃ v', (Instr.fieldAt t x' f).run P w = .ok v' w ∧ VR m v v' := by
 unfold LO at h
 split at h
 ·rename_i fs id o hu
  cases B with
  | ptr _ _ E hE =>
   split at h
   ·rename_i fd D
    split at h
    ·cases h
    ·rename_i z F H
     injection h with h; subst h
     have K : z ≠ 0 := F
     refine ⟨.pointer (some ⟨E.g, E.base + (o + fd.offset), none⟩), ?_, .ptr _ _ E hE⟩
     simp [Instr.fieldAt, Am w hu, D, Instr.sureAddr, fieldPlace, run_sizeOf w H, K, Addr.add_lit, Nat.add_assoc]
    ·cases h
   ·cases h
 ·rename_i fs g o hu
  cases B with
  | IQ _ _ =>
   split at h
   ·rename_i fd D
    split at h
    ·cases h
    ·rename_i z F H
     injection h with h; subst h
     have K : z ≠ 0 := F
     refine ⟨.pointer (some ⟨g, o + fd.offset, none⟩), ?_, .IQ _ _⟩
     simp [Instr.fieldAt, Am w hu, D, Instr.sureAddr, fieldPlace, run_sizeOf w H, K, Addr.add_lit]
    ·cases h
   ·cases h
 ·rename_i fs cs hu
  cases B with
  | An g o _ c V R =>
   split at h
   ·rename_i fd D
    split at h
    ·cases h
    ·rename_i z F H
     injection h with h; subst h
     have K : z ≠ 0 := F
     refine ⟨.pointer (some ⟨g, o + fd.offset, none⟩), ?_, VR.KZ V R _⟩
     simp [Instr.fieldAt, Am w hu, D, Instr.sureAddr, fieldPlace, run_sizeOf w H, K, Addr.add_lit]
    ·cases h
   ·cases h
 ·cases h
theorem Px {t : TypeId} {x : AB} {x' : Value} {f : Nat} {v : AB} (B : VR m x x') (h : RT P t x f = some v) :
  ∃ v', (Instr.field t x' f).run P w = .ok v' w ∧ VR m v v' := by
 unfold RT at h
 split at h
 ·rename_i fs cs hu
  obtain ⟨ds, rfl, vd⟩ := B.E7
  split at h
  ·rename_i fd D
   obtain ⟨y, h1, h2⟩ := Gj (P := P) w vd h
   exact ⟨y, by simp [Instr.field, Am w hu, D, asAgg, h1], h2⟩
  ·cases h
 ·cases h
theorem MC {t : TypeId} {x i : AB} {x' i' : Value} {v : AB} (B : VR m x x') (hi : VR m i i') (h : HQ P t x i = some v) :
  ∃ v', (Instr.indexAt t x' i').run P w = .ok v' w ∧ VR m v v' := by
 unfold HQ at h
 split at h
 ·rename_i n e id o k i hu
  have := hi.Cd; subst this
  cases B with
  | ptr _ _ E hE =>
   split at h
   ·rename_i G
    cases F : CQ P e with
    | none => simp [F] at h
    | some z =>
     simp only [F, Option.map_some, Option.some.injEq] at h; subst h
     refine ⟨.pointer (some ⟨E.g, E.base + (o + i.toNat * z), none⟩), ?_, .ptr _ _ E hE⟩
     simp [Instr.indexAt, Am w hu, asIntOf, Instr.sureAddr, G, run_sizeOf w F, Addr.add_lit, Nat.add_assoc]
   ·cases h
 ·rename_i e id o n k i hu
  have := hi.Cd; subst this
  cases B with
  | slice _ _ _ cap E a hE T hc =>
   split at h
   ·rename_i G
    obtain ⟨ha, _⟩ := hc (by omega)
    subst ha
    cases F : CQ P e with
    | none => simp [F] at h
    | some z =>
     simp only [F, Option.map_some, Option.some.injEq] at h; subst h
     refine ⟨.pointer (some ⟨E.g, E.base + (o + i.toNat * z), none⟩), ?_, .ptr _ _ E hE⟩
     simp [Instr.indexAt, Am w hu, asIntOf, G, run_sizeOf w F, Addr.add_lit, Nat.add_assoc]
   ·cases h
 ·rename_i n e g o k i hu
  have := hi.Cd; subst this
  cases B with
  | IQ _ _ =>
   split at h
   ·rename_i G
    cases F : CQ P e with
    | none => simp [F] at h
    | some z =>
     simp only [F, Option.map_some, Option.some.injEq] at h; subst h
     refine ⟨.pointer (some ⟨g, o + i.toNat * z, none⟩), ?_, .IQ _ _⟩
     simp [Instr.indexAt, Am w hu, asIntOf, Instr.sureAddr, G, run_sizeOf w F, Addr.add_lit]
   ·cases h
 ·rename_i n e cs k i hu
  have := hi.Cd; subst this
  cases B with
  | An g o _ c V R =>
   split at h
   ·rename_i G
    cases F : CQ P e with
    | none => simp [F] at h
    | some z =>
     simp only [F, Option.map_some, Option.some.injEq] at h; subst h
     refine ⟨.pointer (some ⟨g, o + i.toNat * z, none⟩), ?_, VR.KZ V R _⟩
     simp [Instr.indexAt, Am w hu, asIntOf, Instr.sureAddr, G, run_sizeOf w F, Addr.add_lit]
   ·cases h
 ·rename_i e n cs k i hu
  have := hi.Cd; subst this
  split at h
  ·rename_i G
   cases B with
   | Jk => omega
   | Gt _ cap g o _ c hc V R =>
    cases F : CQ P e with
    | none => simp [F] at h
    | some z =>
     simp only [F, Option.bind_some] at h
     split at h
     ·injection h with h; subst h
      refine ⟨.pointer (some ⟨g, o + i.toNat * z, none⟩), ?_, VR.Oy (VR.KZ V R _) _⟩
      simp [Instr.indexAt, Am w hu, asIntOf, G, run_sizeOf w F, Addr.add_lit]
     ·cases h
  ·cases h
 ·cases h
theorem PR {t : TypeId} {x i : AB} {x' i' : Value} {v : AB} (B : VR m x x') (hi : VR m i i') (h : MJ P t x i = some v) :
  ∃ v', (Instr.index t x' i').run P w = .ok v' w ∧ VR m v v' := by
 unfold MJ at h
 split at h
 ·rename_i n e cs k i hu
  have := hi.Cd; subst this
  obtain ⟨ds, rfl, vd⟩ := B.E7
  split at h
  ·rename_i G
   cases F : CQ P e with
   | none => simp [F] at h
   | some z =>
    simp only [F, Option.bind_some] at h
    obtain ⟨y, h1, h2⟩ := Gj (P := P) w vd h
    exact ⟨y, by simp [Instr.index, Am w hu, asIntOf, G, run_sizeOf w F, h1], h2⟩
  ·cases h
 ·rename_i s k i hu
  have := hi.Cd; subst this
  have := B.DJ; subst this
  split at h
  ·rename_i G
   cases I : s[i.toNat]? with
   | none => simp [I] at h
   | some b =>
    simp only [I, Option.map_some, Option.some.injEq] at h; subst h
    have hs' : (⟨⟨s⟩⟩ : ByteArray)[i.toNat]? = some b := by
     obtain ⟨hlt, e⟩ := List.getElem?_eq_some_iff.1 I
     rw [getElem?_pos (⟨⟨s⟩⟩ : ByteArray) i.toNat (by simpa [ByteArray.size] using hlt)]
     exact congrArg some e
    exact ⟨.int .u8 b.toNat, by simp [Instr.index, Am w hu, asIntOf, G, hs'], .int _ _⟩
  ·cases h
 ·cases h
theorem Ro {ts : Array TypeId} {ty : TypeId} {x : AB} {x' : Value} {v : AB} (B : VR m x x') (h : W8 P ts x = some v) :
  ∃ v', (Builtin.len_ ts ty #[x']).run P w = .ok v' w ∧ VR m v v' := by
 unfold W8 at h
 split at h
 ·cases h
 ·rename_i t ht
  split at h
  ·rename_i s hu
   have := B.DJ; subst this
   injection h with h; subst h
   exact ⟨.int .i64 s.length, by simp [Builtin.len_, ht, Am w hu, goInt, show (⟨⟨s⟩⟩ : ByteArray).size = s.length from rfl], .int _ _⟩
  ·rename_i n e y hu
   injection h with h; subst h
   exact ⟨_, by simp [Builtin.len_, ht, Am w hu, goInt], .int _ _⟩
  ·rename_i e r n hu
   injection h with h; subst h
   cases B <;> exact ⟨_, by simp [Builtin.len_, ht, Am w hu, goInt]; try rfl, .int _ _⟩
  ·rename_i e n cs hu
   injection h with h; subst h
   cases B <;> exact ⟨_, by simp [Builtin.len_, ht, Am w hu, goInt]; try rfl, .int _ _⟩
  ·cases h
theorem IU (mx : Bool) : ∀ (r : List AB) (r' : List Value) (x : AB) (x' : Value) (v : AB), VR m x x' → CS m r r' → KR mx x r = some v →
  ∃ v', (r'.foldlM (if mx then Builtin.max2 else Builtin.min2) x').run P w = .ok v' w ∧ VR m v v'
 | [], r', x, x', v, B, M, h => by
  have : r' = [] := List.eq_nil_of_length_eq_zero (by simpa using M.1.symm)
  subst this
  simp [KR] at h
  subst h
  exact ⟨x', by simp, B⟩
 | y :: r, [], x, x', v, B, M, h => by simp [CS] at M
 | y :: r, y' :: r', x, x', v, B, M, h => by
  have J : VR m y y' := M.2 0 y y' rfl rfl
  have hr' : CS m r r' := ⟨by simpa using M.1, fun i a b ha G => M.2 (i + 1) a b (by simpa using ha) (by simpa using G)⟩
  unfold KR at h
  split at h
  ·rename_i heq; cases heq
  ·rename_i k a k' b r2 heq
   injection heq with e1 e2; subst e1; subst e2
   have := B.Cd; subst this
   have := J.Cd; subst this
   split at h
   ·rename_i hk; subst hk
    obtain ⟨v', h1, h2⟩ := IU mx r r' _ _ v (.int k _) hr' h
    refine ⟨v', ?_, h2⟩
    cases mx <;> simpa [Builtin.max2, Builtin.min2] using h1
   ·cases h
  ·cases h
theorem Nv (off : Nat) : ∀ (l : List Value) (k : Nat) (cs : Array Value), off + k + l.length ≤ cs.size →
  (l.zipIdx k).foldl (fun (cs : Array Value) (x : Value × Nat) => cs.setIfInBounds (off + x.2) x.1) cs = ⟨cs.toList.take (off + k) ++ (l ++ cs.toList.drop (off + k + l.length))⟩
 | [], k, cs, h => by simp
 | v :: l, k, cs, h => by
  simp only [List.zipIdx_cons, List.foldl_cons]
  simp only [List.length_cons] at h
  rw [Nv off l (k + 1) _ (by simp; omega)]
  generalize hL : cs.toList = L
  have hlen : L.length = cs.size := by rw [← hL]; simp
  have e : (cs.setIfInBounds (off + k) v).toList = L.take (off + k) ++ v :: L.drop (off + k + 1) := by
   rw [Array.toList_setIfInBounds, hL, List.set_eq_take_append_cons_drop, if_pos (by omega)]
  have T : (L.take (off + k)).length = off + k := by simp; omega
  rw [e, show off + (k + 1) + l.length = (L.take (off + k)).length + (1 + l.length) by omega, List.drop_length_add_append,
   show off + (k + 1) = (L.take (off + k)).length + 1 by omega, List.take_length_add_append, List.append_assoc, show 1 + l.length = l.length + 1 by omega, List.drop_succ_cons, List.drop_drop]
  simp only [List.take_succ_cons, List.take_zero, List.cons_append, List.nil_append, List.length_cons]
  rw [show off + k + 1 + l.length = off + k + (l.length + 1) by omega]
theorem IE {place : Nat → Option (Nat × Nat)} : ∀ (parts : List (Nat × AB)) (parts' : List (Nat × Value)) (cs : List AB) (ds : Array Value) (r : List AB),
  parts.length = parts'.length → (∀ (j i i' : Nat) (x : AB) (y : Value), parts[j]? = some (i, x) → parts'[j]? = some (i', y) → i = i' ∧ VR m x y) → CS m cs ds.toList → Jb place cs parts = some r →
  ∃ ds', Instr.fill place ds parts' = some ds' ∧ CS m r ds'.toList
 | [], parts', cs, ds, r, T, _, hc, h => by
  have : parts' = [] := List.eq_nil_of_length_eq_zero T.symm
  subst this
  simp [Jb] at h
  subst h
  exact ⟨ds, rfl, hc⟩
 | (i, x) :: parts, [], _, _, _, T, _, _, _ => by simp at T
 | (i, x) :: parts, (i', y) :: parts', cs, ds, r, T, hp, hc, h => by
  obtain ⟨rfl, hxy⟩ := hp 0 i i' x y rfl rfl
  unfold Jb at h
  split at h
  ·rename_i off size new hpl hnew
   split at h
   ·rename_i G
    have R := hxy.cells hnew
    have hsz : y.cells.size = size := by rw [← G.1, R.1]; simp
    have hds : cs.length = ds.size := by rw [hc.1]; simp
    obtain ⟨ds', h1, h2⟩ := IE parts parts' _ ⟨ds.toList.take off ++ (y.cells.toList ++ ds.toList.drop (off + y.cells.toList.length))⟩ r (by simpa using T)
     (fun j a b u v hu R => hp (j + 1) a b u v (by simpa using hu) (by simpa using R)) (hc.Ds R off) h
    refine ⟨ds', ?_, h2⟩
    have hcond : (y.cells.size ≠ size || off + y.cells.size > ds.size) = false := by simp [hsz]; omega
    have D := Nv off y.cells.toList 0 ds (by simp [hsz]; omega)
    simp only [Nat.add_zero] at D
    rw [← h1]
    simp only [Instr.fill, hpl]
    rw [if_neg (by simpa using hcond)]
    congr 1
    rw [← D, ← Array.foldl_toList, Array.toList_zipIdx]
   ·cases h
  ·cases h
theorem Fe {t : TypeId} {v : AB} (h : Fm P t = some v) : ∃ i z, P.info? t = some i ∧ i.zero = some z ∧ VR m v z := by
 unfold Fm at h
 cases hi : P.info? t with
 | none => simp [hi] at h
 | some i =>
  simp only [hi] at h
  cases F : i.zero with
  | none => simp [F] at h
  | some z =>
   simp only [F, Option.map_some, Option.some.injEq] at h
   subst h
   exact ⟨i, z, rfl, F, VR.VC m z⟩
theorem PN {t : TypeId} {parts : List (Nat × AB)} {parts' : List (Nat × Value)} {v : AB} (T : parts.length = parts'.length)
  (hp : ∀ (j i i' : Nat) (x : AB) (y : Value), parts[j]? = some (i, x) → parts'[j]? = some (i', y) → i = i' ∧ VR m x y) (h : Rh P t parts = some v) :
  ∃ cells, P.built t parts' = some cells ∧ VR m v (.agg cells) := by
 unfold Rh at h
 split at h
 ·rename_i n e z hu F
  cases H : Fm P t with
  | none => simp [H] at F
  | some zv =>
   simp only [H, Option.bind_some] at F
   obtain ⟨i, zz, hi, Y, X⟩ := Fe (m := m) H
   cases I : CQ P e with
   | none => simp [I] at h
   | some n' =>
    simp only [I, Option.bind_some] at h
    cases D : Jb (fun i => some (i * n', n')) z parts with
    | none => simp [D] at h
    | some r =>
     simp only [D, Option.map_some, Option.some.injEq] at h
     subst h
     obtain ⟨ds', h1, h2⟩ := IE (m := m) parts parts' z zz.cells r T hp (X.cells F) D
     unfold CQ at I
     cases Z : P.info? e with
     | none => simp [Z] at I
     | some ie =>
      simp [Z] at I
      subst I
      exact ⟨ds', by simp [Program.built, hi, hu, Y, Z, h1], CS.agg h2⟩
 ·rename_i fs z hu F
  cases H : Fm P t with
  | none => simp [H] at F
  | some zv =>
   simp only [H, Option.bind_some] at F
   obtain ⟨i, zz, hi, Y, X⟩ := Fe (m := m) H
   cases I : Pu P fs.toList with
   | none => simp [I] at h
   | some ps =>
    simp only [I, Option.bind_some] at h
    cases D : Jb (ps[·]?) z parts with
    | none => simp [D] at h
    | some r =>
     simp only [D, Option.map_some, Option.some.injEq] at h
     subst h
     obtain ⟨ds', h1, h2⟩ := IE (m := m) parts parts' z zz.cells r T hp (X.cells F) D
     unfold Pu at I
     exact ⟨ds', by simp [Program.built, hi, hu, Y, I, h1], CS.agg h2⟩
 ·cases h
theorem SI {fr : Fr} {a : Act} (D : FR m fr a) (x : Option Operand) : Wh m (x.map (ev fr)) (x.map a.eval) := by
 cases x with
 | none => trivial
 | some x => exact D.ev x
theorem O2 {fr : Fr} {a : Act} (D : FR m fr a) {o : Oper} {v : AB} (h : IP P fr o.op = some v) : ∃ v', (execOp a.eval o).run P w = .ok (.value v') w ∧ VR m v v' := by
 obtain ⟨dst, op, ty, pos, aft, gd⟩ := o
 simp only at h
 have lift : ∀ {s : Sem Value} {u : AB}, (∃ v', s.run P w = .ok v' w ∧ VR m u v') → ∃ v', (do pure (.value (← s)) : Sem Next).run P w = .ok (.value v') w ∧ VR m u v' := by
  rintro s u ⟨v', h1, h2⟩
  exact ⟨v', by simp [h1], h2⟩
 cases op with
 | move x => simp only [IP, Option.some.injEq] at h; subst h; exact ⟨_, rfl, D.ev x⟩
 | assign x => simp only [IP, Option.some.injEq] at h; subst h; exact ⟨_, rfl, D.ev x⟩
 | pick c x y =>
  simp only [IP] at h
  split at h
  ·rename_i b G
   have hc := D.ev c
   rw [G] at hc
   have hc := hc.I3
   injection h with h
   subst h
   cases b
   ·exact ⟨a.eval y, by simp [execOp, asBool, hc], D.ev y⟩
   ·exact ⟨a.eval x, by simp [execOp, asBool, hc], D.ev x⟩
  ·cases h
 | build t parts =>
  simp only [IP] at h
  obtain ⟨cells, h1, h2⟩ := PN (m := m) (parts' := (parts.map fun (i, x) => (i, a.eval x)).toList) (by simp) (fun j i i' x y B J => by
   simp only [List.getElem?_map, Array.toList_map] at B J
   cases hj : parts.toList[j]? with
   | none => simp [hj] at B
   | some p =>
    simp only [hj, Option.map_some, Option.some.injEq, Prod.mk.injEq] at B J
    obtain ⟨rfl, rfl⟩ := B
    obtain ⟨rfl, rfl⟩ := J
    exact ⟨rfl, D.ev p.2⟩) h
  exact lift ⟨_, run_build w t _ cells h1, h2⟩
 | nilCheck x =>
  simp only [IP] at h
  split at h
  ·rename_i r M
   have B := D.ev x
   rw [M] at B
   injection h with h
   subst h
   cases he : a.eval x <;> rw [he] at B <;> try (cases B; done)
   rename_i p
   cases p with
   | none => cases B
   | some p => exact ⟨.pointer (some p), by simp [execOp, he], B⟩
  ·rename_i g o M
   have B := D.ev x
   rw [M] at B
   injection h with h
   subst h
   cases he : a.eval x <;> rw [he] at B <;> try (cases B; done)
   rename_i p
   cases p with
   | none => cases B
   | some p => exact ⟨.pointer (some p), by simp [execOp, he], B⟩
  ·rename_i cs M
   have B := D.ev x
   rw [M] at B
   injection h with h
   subst h
   cases he : a.eval x <;> rw [he] at B <;> try (cases B; done)
   rename_i p
   cases p with
   | none => cases B
   | some p => exact ⟨.pointer (some p), by simp [execOp, he], B⟩
  ·rename_i f b c M
   have B := D.ev x
   rw [M] at B
   injection h with h
   subst h
   cases he : a.eval x <;> rw [he] at B <;> try (cases B; done)
   rename_i fn c d
   have : fn = .func f := by cases B; rfl
   subst this
   exact ⟨.func (.func f) c d, by simp [execOp, he], B⟩
  ·cases h
 | binOp op t x y yt => simp only [IP] at h; exact lift (Rc w (D.ev x) (D.ev y) h)
 | unOp op t x => simp only [IP] at h; exact lift (S5 w (D.ev x) h)
 | convert s d x => simp only [IP] at h; exact lift (Qi w (D.ev x) h)
 | makeFunc fn first cap =>
  simp only [IP, Option.some.injEq] at h
  subst h
  refine lift ⟨.func fn (first.map a.eval) (cap.map a.eval), rfl, ?_⟩
  have h1 := D.evs first.toList
  have h2 := D.evs cap.toList
  exact .func _ _ _ _ _ (by simp) (fun i x y B J => h1.2 i x y B (by simpa using J)) (by simp) (fun i x y B J => h2.2 i x y B (by simpa using J))
 | slice t x lo hi mx =>
  cases mx with
  | some y => simp [IP] at h
  | none => simp only [IP] at h; exact lift (Pl w (D.ev x) (SI D lo) (SI D hi) h)
 | fieldAddr s x f => simp only [IP] at h; exact lift (MN w (D.ev x) h)
 | field s x f => simp only [IP] at h; exact lift (Px w (D.ev x) h)
 | indexAddr t x i => simp only [IP] at h; exact lift (MC w (D.ev x) (D.ev i) h)
 | index t x i => simp only [IP] at h; exact lift (PR w (D.ev x) (D.ev i) h)
 | extract x i =>
  simp only [IP] at h
  split at h
  ·rename_i vs M
   have B := D.ev x
   rw [M] at B
   obtain ⟨c, hc, R⟩ := B.Il
   obtain ⟨y, J, hvy⟩ := R.at_ h
   have hy' : c[i]? = some y := by simpa using J
   exact lift ⟨y, by simp [hc, Instr.extract, hy'], hvy⟩
  ·cases h
 | call c =>
  obtain ⟨callee, as, ts⟩ := c
  cases callee with
  | value f => simp [IP] at h
  | invoke r mth => simp [IP] at h
  | builtin b =>
   simp only [IP] at h
   have C := D.evs as.toList
   have hargs : (as.map a.eval).toList = as.toList.map a.eval := by simp
   have res : ∀ (w : World), (resolve a.eval { callee := .builtin b, args := as, argTypes := ts } ty).run P w = .ok { target := .builtin b ts ty (as.map fun | .const _ => true | _ => false), args := as.map a.eval } w := fun w => rfl
   split at h
   ·rename_i x heq
    obtain ⟨x', hx', hvx⟩ : ∃ x', as.map a.eval = #[x'] ∧ VR m x x' := by
     rw [heq] at C
     have hlen : (as.toList.map a.eval).length = 1 := by rw [← C.1]; rfl
     match S : as.toList.map a.eval, hlen with
     | [x'], _ => exact ⟨x', Array.ext' (by simpa using S), C.2 0 x x' rfl (by rw [S]; rfl)⟩
    obtain ⟨v', h1, h2⟩ := Ro (P := P) (m := m) (ty := ty) w hvx h
    exact ⟨v', by simp [execOp, res, invoke, builtin, hx', h1], h2⟩
   ·rename_i x r heq
    rw [heq] at C
    match S : as.toList.map a.eval with
    | [] => rw [S] at C; simp [CS] at C
    | x' :: r' =>
     rw [S] at C
     obtain ⟨v', h1, h2⟩ := IU (P := P) w false r r' x x' v (C.2 0 x x' rfl rfl) ⟨by simpa using C.1, fun i u z hu F => C.2 (i + 1) u z (by simpa using hu) (by simpa using F)⟩ h
     refine ⟨v', ?_, h2⟩
     simp only [Bool.false_eq_true, if_false] at h1
     simp [execOp, res, invoke, builtin, Builtin.min_, S, h1]
   ·rename_i x r heq
    rw [heq] at C
    match S : as.toList.map a.eval with
    | [] => rw [S] at C; simp [CS] at C
    | x' :: r' =>
     rw [S] at C
     obtain ⟨v', h1, h2⟩ := IU (P := P) w true r r' x x' v (C.2 0 x x' rfl rfl) ⟨by simpa using C.1, fun i u z hu F => C.2 (i + 1) u z (by simpa using hu) (by simpa using F)⟩ h
     refine ⟨v', ?_, h2⟩
     simp only [if_true] at h1
     simp [execOp, res, invoke, builtin, Builtin.max_, S, h1]
   ·cases h
 | _ => simp [IP] at h
end
end Go.Av
