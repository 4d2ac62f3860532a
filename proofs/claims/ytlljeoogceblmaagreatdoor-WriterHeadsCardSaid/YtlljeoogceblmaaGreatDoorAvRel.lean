/-
 A part.
-/
import Derived.Test.YtlljeoogceblmaaGreatDoorAvDef
import Derived.Below
import Derived.Laws.Entries
namespace Go.Av
open Go.RowKit
theorem HP {α : Type} (i j : Nat) (a b : α) : (bif Nat.beq i j then a else b) = if i = j then a else b := by
 by_cases h : i = j
 ·subst h; simp [Nat.beq_refl]
 ·have : Nat.beq i j = false := by
   cases e : Nat.beq i j
   ·rfl
   ·exact absurd (Nat.eq_of_beq_eq_true e) h
  simp [this, h]
theorem Tr.KB {α : Type} (l r : Tr α) (v : Option α) (j : Nat) : (Tr.node l v r).get j = if j = 0 then v else if j % 2 = 1 then l.get (j / 2) else r.get (j / 2 - 1) := by
 simp only [Tr.get, HP]
theorem Tr.W0 {α : Type} (f : Nat) (l r : Tr α) (v : Option α) (i : Nat) (x : α) : Tr.set (f + 1) (.node l v r) i x =
  if i = 0 then .node l (some x) r else if i % 2 = 1 then .node (Tr.set f l (i / 2) x) v r else .node l v (Tr.set f r (i / 2 - 1) x) := by
 simp only [Tr.set, HP]
theorem Tr.Wz {α : Type} (f : Nat) (i : Nat) (x : α) : Tr.set (f + 1) .leaf i x = Tr.set (f + 1) (.node .leaf none .leaf) i x := by
 simp only [Tr.set]
theorem Tr.HZ {α : Type} : ∀ (f : Nat) (t : Tr α) (i j : Nat) (x : α), i < f → (Tr.set f t i x).get j = if j = i then some x else t.get j
 | 0, _, _, _, _, h => absurd h (by omega)
 | f + 1, t, i, j, x, h => by
  have ih := fun t i j => Tr.HZ f t i j x
  have key : ∀ l v r, (Tr.set (f + 1) (.node l v r) i x).get j = if j = i then some x else (Tr.node l v r).get j := by
   intro l v r
   rw [Tr.W0, Tr.KB]
   by_cases hi : i = 0
   ·subst hi
    rw [if_pos rfl, Tr.KB]
    by_cases hj : j = 0
    ·rw [if_pos hj, if_pos hj]
    ·simp only [if_neg hj]
   ·rw [if_neg hi]
    by_cases h1 : i % 2 = 1
    ·rw [if_pos h1, Tr.KB]
     by_cases hj : j = 0
     ·rw [if_pos hj, if_pos hj, if_neg (by omega)]
     ·rw [if_neg hj, if_neg hj]
      by_cases h2 : j % 2 = 1
      ·rw [if_pos h2, if_pos h2, ih _ _ _ (by omega)]
       by_cases hij : j = i
       ·rw [if_pos hij, if_pos (by omega)]
       ·rw [if_neg hij, if_neg (by omega)]
      ·rw [if_neg h2, if_neg h2, if_neg (by omega)]
    ·rw [if_neg h1, Tr.KB]
     by_cases hj : j = 0
     ·rw [if_pos hj, if_pos hj, if_neg (by omega)]
     ·rw [if_neg hj, if_neg hj]
      by_cases h2 : j % 2 = 1
      ·rw [if_pos h2, if_pos h2, if_neg (by omega)]
      ·rw [if_neg h2, if_neg h2, ih _ _ _ (by omega)]
       by_cases hij : j = i
       ·rw [if_pos hij, if_pos (by omega)]
       ·rw [if_neg hij, if_neg (by omega)]
  cases t with
  | node l v r => exact key l v r
  | leaf =>
   rw [Tr.Wz, key]
   congr 1
   rw [Tr.KB]
   simp [Tr.get]
section
variable (h : AD)
@[simp] theorem AD.size_set (i : Nat) (o : Bm) : (h.set i o).size = h.size := rfl
@[simp] theorem AD.size_push (o : Bm) : (h.push o).size = h.size + 1 := rfl
theorem AD.Iz {i : Nat} (hi : h.size ≤ i) : h.get i = none := by
 have : Nat.blt i h.size = false := by
  cases e : Nat.blt i h.size
  ·rfl
  ·rw [Nat.blt_eq] at e; omega
 simp [AD.get, this]
theorem AD.BC {i : Nat} {o : Bm} (hi : h.get i = some o) : i < h.size := by
 rcases Nat.lt_or_ge i h.size with hl | hl
 ·exact hl
 ·rw [h.Iz hl] at hi; cases hi
theorem AD.get_eq {i : Nat} (hi : i < h.size) : h.get i = h.tr.get i := by
 have : Nat.blt i h.size = true := by rw [Nat.blt_eq]; exact hi
 simp [AD.get, this]
theorem AD.HZ (i j : Nat) (o : Bm) (hi : i < h.size) : (h.set i o).get j = if j = i then some o else h.get j := by
 by_cases hj : j < h.size
 ·rw [AD.get_eq _ (by simpa using hj), AD.get_eq _ hj]
  exact Tr.HZ _ _ _ _ _ (by omega)
 ·rw [AD.Iz _ (by simpa using Nat.le_of_not_lt hj), AD.Iz _ (Nat.le_of_not_lt hj), if_neg (by omega)]
theorem AD.get_set_same {i : Nat} (o : Bm) (hi : i < h.size) : (h.set i o).get i = some o := by rw [h.HZ _ _ _ hi, if_pos rfl]
theorem AD.BL {i j : Nat} (o : Bm) (hi : i < h.size) (hne : j ≠ i) : (h.set i o).get j = h.get j := by rw [h.HZ _ _ _ hi, if_neg hne]
theorem AD.IC (o : Bm) (j : Nat) : (h.push o).get j = if j = h.size then some o else h.get j := by
 by_cases hj : j < h.size + 1
 ·rw [AD.get_eq _ (by simpa using hj)]
  show (Tr.set (h.size + 1) h.tr h.size o).get j = _
  rw [Tr.HZ _ _ _ _ _ (by omega)]
  by_cases e : j = h.size
  ·simp [e]
  ·rw [if_neg e, if_neg e, AD.get_eq _ (by omega)]
 ·rw [AD.Iz _ (by simp; omega), if_neg (by omega), AD.Iz _ (by omega)]
theorem AD.Ca (o : Bm) : (h.push o).get h.size = some o := by rw [h.IC, if_pos rfl]
theorem AD.Bj (o : Bm) {j : Nat} (hj : j < h.size) : (h.push o).get j = h.get j := by rw [h.IC, if_neg (by omega)]
end
theorem EZ : ∀ (l : List AB) (i : Nat), nth l i = l.getD i (.tuple [])
 | [], i => by simp [nth]
 | a :: l, 0 => by simp [nth]
 | a :: l, i + 1 => by simpa [nth] using EZ l i
theorem EY (l : List AB) (i j : Nat) (v : AB) : nth (l.set i v) j = if i = j ∧ i < l.length then v else nth l j := by
 simp only [EZ, List.getD_eq_getElem?_getD, List.getElem?_set]
 by_cases h : i = j
 ·subst h
  by_cases hl : i < l.length <;> simp [hl]
 ·simp [h]
@[simp] theorem Y1 (fr : Fr) (d : Option Tmp) (v : AB) : (put fr d v).length = fr.length := by cases d <;> simp [put]
structure LO where
 g : Nat
 base : Nat
 UG : Nat
 total : Nat
structure A4 where
 i : Nat → Option LO
 fz : Nat → Nat → Option Value
 df : Nat → Obj → Prop := fun _ _ => False
instance : CoeFun A4 (fun _ => Nat → Option LO) := ⟨A4.i⟩
inductive VR (m : A4) : AB → Value → Prop where
 | undef (v : Value) : VR m .undef v
 | bool (b : Bool) : VR m (.bool b) (.bool b)
 | int (k : IntKind) (n : Int) : VR m (.int k n) (.int k n)
 | str (s : ByteArray) : VR m (.str s.data.toList) (.string s)
 | nilPtr : VR m (.ptr none) (.pointer none)
 | ptr (id o : Nat) (E : LO) : m id = some E → VR m (.ptr (some (id, o))) (.pointer (some ⟨E.g, E.base + o, none⟩))
 | Ij (g o : Nat) : VR m (.Ij g o) (.pointer (some ⟨g, o, none⟩))
 | D5 : VR m (.slice none 0) (.slice none 0 0)
 | ES (a : Addr) : VR m (.slice none 0) (.slice (some a) 0 0)
 | slice (id o len cap : Nat) (E : LO) (a : Addr) : m id = some E → len ≤ cap → (cap ≠ 0 → a = ⟨E.g, E.base + o, none⟩ ∧ (E.UG ≠ 0 → E.base + o + cap * E.UG ≤ E.total)) → VR m (.slice (some (id, o)) len) (.slice (some a) len cap)
 | Kh : VR m (.map none) (.map none)
 | map (id : Nat) (E : LO) : m id = some E → VR m (.map (some id)) (.map (some E.g))
 | Jf : VR m (.chan none) (.chan none)
 | chan (id : Nat) (E : LO) : m id = some E → VR m (.chan (some id)) (.chan (some E.g))
 | func (fn : Fn) (a b : List AB) (c d : Array Value) : a.length = c.size → (∀ (i : Nat) (x : AB) (y : Value), a[i]? = some x → c[i]? = some y → VR m x y) → b.length = d.size → (∀ (i : Nat) (x : AB) (y : Value), b[i]? = some x → d[i]? = some y → VR m x y) → VR m (.func fn a b) (.func fn c d)
 | nilFunc : VR m .nilFunc .nilFunc
 | iface (t : TypeId) (x : AB) (y : Value) : VR m x y → VR m (.iface t x) (.iface t y)
 | nilIface : VR m .nilIface .nilIface
 | agg (a : List AB) (c : Array Value) : a.length = c.size → (∀ (i : Nat) (x : AB) (y : Value), a[i]? = some x → c[i]? = some y → VR m x y) → VR m (.agg a) (.agg c)
 | tuple (a : List AB) (c : Array Value) : a.length = c.size → (∀ (i : Nat) (x : AB) (y : Value), a[i]? = some x → c[i]? = some y → VR m x y) → VR m (.tuple a) (.tuple c)
 | Xi (l : Nat) (E : LO) : m l = some E → VR m (.Xi l) (.func (.yield E.g) #[] #[])
 | Iy (a : Option Addr) (cap : Nat) : VR m (.Iw 0 []) (.slice a 0 cap)
 | Iw (n cap g o : Nat) (a : List AB) (c : Nat → Value) : n ≤ cap → (∀ i, i < a.length → m.fz g (o + i) = some (c i)) → (∀ (i : Nat) (x : AB), a[i]? = some x → VR m x (c i)) → VR m (.Iw n a) (.slice (some ⟨g, o, none⟩) n cap)
 | Am (g o : Nat) (a : List AB) (c : Nat → Value) : (∀ i, i < a.length → m.fz g (o + i) = some (c i)) → (∀ (i : Nat) (x : AB), a[i]? = some x → VR m x (c i)) → VR m (.Am a) (.pointer (some ⟨g, o, none⟩))
def B4 (m : A4) (a : List AB) (c : List Value) : Prop := a.length = c.length ∧ ∀ (i : Nat) (x : AB) (y : Value), a[i]? = some x → c[i]? = some y → VR m x y
structure A4.le (m m' : A4) : Prop where
 i : ∀ id E, m id = some E → m' id = some E
 fz : ∀ g o v, m.fz g o = some v → m'.fz g o = some v
theorem VR.mono {m m' : A4} (hm : m.le m') {x : AB} {y : Value} (h : VR m x y) : VR m' x y := by
 induction h with
 | undef v => exact .undef v
 | bool b => exact .bool b
 | int k n => exact .int k n
 | str s => exact .str s
 | nilPtr => exact .nilPtr
 | ptr id o E h => exact .ptr id o E (hm.i _ _ h)
 | Ij g o => exact .Ij g o
 | D5 => exact .D5
 | ES a => exact .ES a
 | slice id o len cap E a h hl hc => exact .slice id o len cap E a (hm.i _ _ h) hl hc
 | Kh => exact .Kh
 | map id E h => exact .map id E (hm.i _ _ h)
 | Jf => exact .Jf
 | chan id E h => exact .chan id E (hm.i _ _ h)
 | func fn a b c d h1 _ h2 _ i1 i2 => exact .func fn a b c d h1 i1 h2 i2
 | nilFunc => exact .nilFunc
 | iface t x y _ ih => exact .iface t x y ih
 | nilIface => exact .nilIface
 | agg a c h _ ih => exact .agg a c h ih
 | tuple a c h _ ih => exact .tuple a c h ih
 | Xi l E h => exact .Xi l E (hm.i _ _ h)
 | Iy a cap => exact .Iy a cap
 | Iw n cap g o a c hc hf _ ih => exact .Iw n cap g o a c hc (fun i hi => hm.fz _ _ _ (hf i hi)) ih
 | Am g o a c hf _ ih => exact .Am g o a c (fun i hi => hm.fz _ _ _ (hf i hi)) ih
def A4.with (m m' : A4) : A4 := ⟨m.i, m'.fz, m'.df⟩
theorem VR.back {m m' : A4} (hm : m.le m') {x : AB} {y : Value} (h : VR m x y) : ∀ {z : Value}, VR m' x z → VR (m.with m') x z := by
 induction h with
 | undef v => intro z _; exact .undef z
 | bool b => intro z hz; cases hz; exact .bool b
 | int k n => intro z hz; cases hz; exact .int k n
 | str s => intro z hz; generalize hs : s.data.toList = l at hz; cases hz; exact .str _
 | nilPtr => intro z hz; cases hz; exact .nilPtr
 | ptr id o E h =>
  intro z hz
  cases hz with
  | ptr _ _ E' h' =>
   have := (hm.i _ _ h).symm.trans h'
   injection this with this
   subst this
   exact .ptr id o _ h
 | Ij g o => intro z hz; cases hz; exact .Ij g o
 | D5 => intro z hz; cases hz <;> first | exact .D5 | exact .ES _
 | ES a => intro z hz; cases hz <;> first | exact .D5 | exact .ES _
 | slice id o len cap E a h hl hc =>
  intro z hz
  cases hz with
  | slice _ _ _ cap' E' a' h' hl' hc' =>
   have := (hm.i _ _ h).symm.trans h'
   injection this with this
   subst this
   exact .slice id o len cap' _ a' h hl' hc'
 | Kh => intro z hz; cases hz; exact .Kh
 | map id E h =>
  intro z hz
  cases hz with
  | map _ E' h' =>
   have := (hm.i _ _ h).symm.trans h'
   injection this with this
   subst this
   exact .map id _ h
 | Jf => intro z hz; cases hz; exact .Jf
 | chan id E h =>
  intro z hz
  cases hz with
  | chan _ E' h' =>
   have := (hm.i _ _ h).symm.trans h'
   injection this with this
   subst this
   exact .chan id _ h
 | func fn a b c d h1 k1 h2 k2 i1 i2 =>
  intro z hz
  cases hz with
  | func _ _ _ c' d' h1' k1' h2' k2' =>
   refine .func fn a b c' d' h1' (fun i x y hx hy => ?_) h2' (fun i x y hx hy => ?_)
   ·have hi : i < c.size := by have := (List.getElem?_eq_some_iff.1 hx).1; omega
    exact i1 i x _ hx (Array.getElem?_eq_getElem hi) (k1' i x y hx hy)
   ·have hi : i < d.size := by have := (List.getElem?_eq_some_iff.1 hx).1; omega
    exact i2 i x _ hx (Array.getElem?_eq_getElem hi) (k2' i x y hx hy)
 | nilFunc => intro z hz; cases hz; exact .nilFunc
 | iface t x y _ ih => intro z hz; cases hz with | iface _ _ y' h' => exact .iface t x y' (ih h')
 | nilIface => intro z hz; cases hz; exact .nilIface
 | agg a c h k ih =>
  intro z hz
  cases hz with
  | agg _ c' h' k' =>
   refine .agg a c' h' (fun i x y hx hy => ?_)
   have hi : i < c.size := by have := (List.getElem?_eq_some_iff.1 hx).1; omega
   exact ih i x _ hx (Array.getElem?_eq_getElem hi) (k' i x y hx hy)
 | tuple a c h k ih =>
  intro z hz
  cases hz with
  | tuple _ c' h' k' =>
   refine .tuple a c' h' (fun i x y hx hy => ?_)
   have hi : i < c.size := by have := (List.getElem?_eq_some_iff.1 hx).1; omega
   exact ih i x _ hx (Array.getElem?_eq_getElem hi) (k' i x y hx hy)
 | Xi l E h =>
  intro z hz
  cases hz with
  | Xi _ E' h' =>
   have := (hm.i _ _ h).symm.trans h'
   injection this with this
   subst this
   exact .Xi l _ h
 | Iy a cap => intro z hz; cases hz with
  | Iy a' cap' => exact .Iy a' cap'
  | Iw _ cap' g o _ c hc hf hv => exact .Iw 0 cap' g o [] c hc (fun i hi => by simp at hi) (fun i x hx => by simp at hx)
 | Iw n cap g o a c hc hf hv ih => intro z hz; cases hz with
  | Iy a' cap' => exact .Iy a' cap'
  | Iw _ cap' g' o' _ c' hc' hf' hv' => exact .Iw n cap' g' o' a c' hc' hf' (fun i x hx => ih i x hx (hv' i x hx))
 | Am g o a c hf hv ih => intro z hz; cases hz with
  | Am g' o' _ c' hf' hv' => exact .Am g' o' a c' hf' (fun i x hx => ih i x hx (hv' i x hx))
theorem B4.mono {m m' : A4} (hm : m.le m') {a : List AB} {c : List Value} (h : B4 m a c) : B4 m' a c := ⟨h.1, fun i x y hx hy => (h.2 i x y hx hy).mono hm⟩
theorem B4.nil (m : A4) : B4 m [] [] := ⟨rfl, fun i x y h => by simp at h⟩
theorem B4.cons {m : A4} {x : AB} {y : Value} {a : List AB} {c : List Value} (h : VR m x y) (k : B4 m a c) : B4 m (x :: a) (y :: c) := by
 refine ⟨by simp [k.1], fun i u v hu hv => ?_⟩
 cases i with
 | zero => simp at hu hv; subst hu; subst hv; exact h
 | succ i => exact k.2 i u v (by simpa using hu) (by simpa using hv)
theorem B4.app {m : A4} {a b : List AB} {c d : List Value} (h : B4 m a c) (k : B4 m b d) : B4 m (a ++ b) (c ++ d) := by
 refine ⟨by simp [h.1, k.1], fun i x y hx hy => ?_⟩
 by_cases hi : i < a.length
 ·rw [List.getElem?_append_left hi] at hx
  rw [List.getElem?_append_left (by rw [← h.1]; exact hi)] at hy
  exact h.2 i x y hx hy
 ·rw [List.getElem?_append_right (by omega)] at hx
  rw [List.getElem?_append_right (by rw [← h.1]; omega), ← h.1] at hy
  exact k.2 _ x y hx hy
theorem B4.take {m : A4} {a : List AB} {c : List Value} (h : B4 m a c) (n : Nat) : B4 m (a.take n) (c.take n) := by
 refine ⟨by simp [h.1], fun i x y hx hy => ?_⟩
 rw [List.getElem?_take] at hx hy
 split at hx
 ·rename_i hi; rw [if_pos hi] at hy; exact h.2 i x y hx hy
 ·cases hx
theorem B4.drop {m : A4} {a : List AB} {c : List Value} (h : B4 m a c) (n : Nat) : B4 m (a.drop n) (c.drop n) := by
 refine ⟨by simp [h.1], fun i x y hx hy => ?_⟩
 rw [List.getElem?_drop] at hx hy
 exact h.2 _ x y hx hy
theorem B4.map {m : A4} {α : Type} (f : α → AB) (g : α → Value) : ∀ (l : List α), (∀ x ∈ l, VR m (f x) (g x)) → B4 m (l.map f) (l.map g)
 | [], _ => .nil m
 | x :: l, h => .cons (h x (by simp)) (B4.map f g l fun y hy => h y (by simp [hy]))
theorem B4.ER {m : A4} {a b : List AB} {c d : List Value} (h : B4 m a c) (k : B4 m b d) (o : Nat) : B4 m (ER a o b) (c.take o ++ (d ++ c.drop (o + d.length))) := by
 unfold Av.ER
 rw [k.1]
 exact (h.take o).app (k.app (h.drop _))
theorem B4.at_ {m : A4} {a : List AB} {c : List Value} (h : B4 m a c) {i : Nat} {x : AB} (hx : a[i]? = some x) : ∃ y, c[i]? = some y ∧ VR m x y := by
 have hi : i < c.length := by rw [← h.1]; exact (List.getElem?_eq_some_iff.1 hx).1
 exact ⟨_, List.getElem?_eq_getElem hi, h.2 i x _ hx (List.getElem?_eq_getElem hi)⟩
theorem B4.VO {m : A4} {a : List AB} {c : Array Value} (h : VR m (.agg a) (.agg c)) : B4 m a c.toList := by
 cases h with
 | agg _ _ hl hv => exact ⟨by simpa using hl, fun i x y hx hy => hv i x y hx (by simpa using hy)⟩
theorem B4.agg {m : A4} {a : List AB} {c : Array Value} (h : B4 m a c.toList) : VR m (.agg a) (.agg c) :=
 .agg a c (by simpa using h.1) fun i x y hx hy => h.2 i x y hx (by simpa using hy)
theorem B4.tuple {m : A4} {a : List AB} {c : Array Value} (h : B4 m a c.toList) : VR m (.tuple a) (.tuple c) :=
 .tuple a c (by simpa using h.1) fun i x y hx hy => h.2 i x y hx (by simpa using hy)
theorem B4.VD {m : A4} {a : List AB} {c : Array Value} (h : VR m (.tuple a) (.tuple c)) : B4 m a c.toList := by
 cases h with
 | tuple _ _ hl hv => exact ⟨by simpa using hl, fun i x y hx hy => hv i x y hx (by simpa using hy)⟩
theorem VR.I8 {m : A4} {a : List AB} {v : Value} (h : VR m (.tuple a) v) : ∃ c, v = .tuple c ∧ B4 m a c.toList := by
 cases h with
 | tuple _ c hl hv => exact ⟨c, rfl, B4.VD (.tuple a c hl hv)⟩
theorem VR.FG {m : A4} {a : List AB} {v : Value} (h : VR m (.agg a) v) : ∃ c, v = .agg c ∧ B4 m a c.toList := by
 cases h with
 | agg _ c hl hv => exact ⟨c, rfl, B4.VO (.agg a c hl hv)⟩
theorem VR.Dk {m : A4} {s : List UInt8} {v : Value} (h : VR m (.str s) v) : v = .string ⟨⟨s⟩⟩ := by
 generalize hx : AB.str s = x at h
 cases h with
 | str b => injection hx with hx; subst hx; rfl
 | _ => cases hx
theorem VR.Mo (m : A4) (v : Value) : VR m (Mo v) v := by
 unfold Av.Mo
 split
 ·exact .bool _
 ·exact .int _ _
 ·exact .str _
 ·exact .nilPtr
 ·exact .D5
 ·exact .Kh
 ·exact .Jf
 ·exact .nilFunc
 ·exact .nilIface
 ·exact .undef _
theorem B4.Mo (m : A4) (l : List Value) : B4 m (l.map Av.Mo) l := by
 have := B4.map (m := m) Av.Mo id l (fun x _ => VR.Mo m x)
 simpa using this
theorem VR.XE (m : A4) (v : Value) : VR m (XE v) v := by
 unfold Av.XE
 split
 ·exact B4.agg (B4.Mo m _)
 ·exact B4.tuple (B4.Mo m _)
 ·exact VR.Mo m _
theorem VR.Ky {m : A4} {g o : Nat} {a : List AB} {c : Nat → Value} (hf : ∀ i, i < a.length → m.fz g (o + i) = some (c i)) (hv : ∀ (i : Nat) (x : AB), a[i]? = some x → VR m x (c i)) (k : Nat) : VR m (.Am (a.drop k)) (.pointer (some ⟨g, o + k, none⟩)) :=
 .Am g (o + k) _ (fun i => c (k + i)) (fun i hi => by rw [List.length_drop] at hi; rw [Nat.add_assoc]; exact hf _ (by omega)) (fun i x hx => hv _ x (by rw [List.getElem?_drop] at hx; exact hx))
theorem VR.Pl {m : A4} {a : List AB} {v : Value} (h : VR m (.Am a) v) (k : Nat) : VR m (.Am (a.take k)) v := by
 cases h with
 | Am g o _ c hf hv => exact .Am g o _ c (fun i hi => hf i (by rw [List.length_take] at hi; omega)) (fun i x hx => hv i x (by rw [List.getElem?_take] at hx; split at hx; exact hx; cases hx))
theorem VR.cells {m : A4} {x : AB} {v : Value} (h : VR m x v) {cs : List AB} (hc : x.cells? = some cs) : B4 m cs v.cells.toList := by
 cases h <;> simp [AB.cells?] at hc
 case agg a c hl hv => subst hc; exact B4.VO (.agg _ c hl hv)
 all_goals
  subst hc
  refine .cons ?_ (.nil m)
  first
   | exact .bool _ | exact .int _ _ | exact .str _ | exact .nilPtr | exact .Ij _ _ | exact .D5 | exact .Kh | exact .Jf | exact .nilFunc | exact .nilIface
   | (constructor <;> assumption)
theorem VR.one {m : A4} {x : AB} {v : Value} (h : VR m x v) (h1 : x.one = true) : v.oneCell' = true := by
 cases h <;> first | rfl | simp [AB.one] at h1
