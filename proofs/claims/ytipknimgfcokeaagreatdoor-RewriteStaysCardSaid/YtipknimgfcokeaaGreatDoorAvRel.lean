/-
  ABS, 2: how abstract values, objects and heaps stand to the model's own; plain lemmas on both.
-/
import Derived.Test.YtipknimgfcokeaaGreatDoorAvDef
import Derived.Below
import Derived.Laws.Entries
namespace Go.Av
open Go.RowKit
theorem Hr {α : Type} (i j : Nat) (a b : α) : (bif Nat.beq i j then a else b) = if i = j then a else b := by
 by_cases h : i = j
 ·subst h; simp [Nat.beq_refl]
 ·have : Nat.beq i j = false := by
   cases e : Nat.beq i j
   ·rfl
   ·exact absurd (Nat.eq_of_beq_eq_true e) h
  simp [this, h]
theorem Tr.Ko {α : Type} (l r : Tr α) (v : Option α) (j : Nat) : (Tr.node l v r).get j = if j = 0 then v else if j % 2 = 1 then l.get (j / 2) else r.get (j / 2 - 1) := by
 simp only [Tr.get, Hr]
theorem Tr.Ta {α : Type} (f : Nat) (l r : Tr α) (v : Option α) (i : Nat) (x : α) : Tr.set (f + 1) (.node l v r) i x =
  if i = 0 then .node l (some x) r else if i % 2 = 1 then .node (Tr.set f l (i / 2) x) v r else .node l v (Tr.set f r (i / 2 - 1) x) := by
 simp only [Tr.set, Hr]
theorem Tr.Tw {α : Type} (f : Nat) (i : Nat) (x : α) : Tr.set (f + 1) .leaf i x = Tr.set (f + 1) (.node .leaf none .leaf) i x := by
 simp only [Tr.set]
theorem Tr.Jw {α : Type} : ∀ (f : Nat) (t : Tr α) (i j : Nat) (x : α), i < f → (Tr.set f t i x).get j = if j = i then some x else t.get j
 | 0, _, _, _, _, h => absurd h (by omega)
 | f + 1, t, i, j, x, h => by
  have ih := fun t i j => Tr.Jw f t i j x
  have key : ∀ l v r, (Tr.set (f + 1) (.node l v r) i x).get j = if j = i then some x else (Tr.node l v r).get j := by
   intro l v r
   rw [Tr.Ta, Tr.Ko]
   by_cases hi : i = 0
   ·subst hi
    rw [if_pos rfl, Tr.Ko]
    by_cases hj : j = 0
    ·rw [if_pos hj, if_pos hj]
    ·simp only [if_neg hj]
   ·rw [if_neg hi]
    by_cases h1 : i % 2 = 1
    ·rw [if_pos h1, Tr.Ko]
     by_cases hj : j = 0
     ·rw [if_pos hj, if_pos hj, if_neg (by omega)]
     ·rw [if_neg hj, if_neg hj]
      by_cases h2 : j % 2 = 1
      ·rw [if_pos h2, if_pos h2, ih _ _ _ (by omega)]
       by_cases hij : j = i
       ·rw [if_pos hij, if_pos (by omega)]
       ·rw [if_neg hij, if_neg (by omega)]
      ·rw [if_neg h2, if_neg h2, if_neg (by omega)]
    ·rw [if_neg h1, Tr.Ko]
     by_cases hj : j = 0
     ·rw [if_pos hj, if_pos hj, if_neg (by omega)]
     ·rw [if_neg hj, if_neg hj]
      by_cases h2 : j % 2 = 1
      ·rw [if_pos h2, if_pos h2, if_neg (by omega)]
      ·rw [if_neg h2, if_neg h2, ih _ _ _ (by omega)]
       by_cases hij : j = i
       ·rw [if_pos hij, if_pos (by omega)]
       ·rw [if_neg hij, if_neg (by omega)]
  cases t with
  | node l v r => exact key l v r
  | leaf =>
   rw [Tr.Tw, key]
   congr 1
   rw [Tr.Ko]
   simp [Tr.get]
section
variable (h : AH)
@[simp] theorem AH.size_set (i : Nat) (o : CR) : (h.set i o).size = h.size := rfl
@[simp] theorem AH.size_push (o : CR) : (h.push o).size = h.size + 1 := rfl
theorem AH.JJ {i : Nat} (hi : h.size ≤ i) : h.get i = none := by
 have : Nat.blt i h.size = false := by
  cases e : Nat.blt i h.size
  ·rfl
  ·rw [Nat.blt_eq] at e; omega
 simp [AH.get, this]
theorem AH.DG {i : Nat} {o : CR} (hi : h.get i = some o) : i < h.size := by
 rcases Nat.lt_or_ge i h.size with hl | hl
 ·exact hl
 ·rw [h.JJ hl] at hi; cases hi
theorem AH.get_eq {i : Nat} (hi : i < h.size) : h.get i = h.tr.get i := by
 have : Nat.blt i h.size = true := by rw [Nat.blt_eq]; exact hi
 simp [AH.get, this]
theorem AH.Jw (i j : Nat) (o : CR) (hi : i < h.size) : (h.set i o).get j = if j = i then some o else h.get j := by
 by_cases hj : j < h.size
 ·rw [AH.get_eq _ (by simpa using hj), AH.get_eq _ hj]
  exact Tr.Jw _ _ _ _ _ (by omega)
 ·rw [AH.JJ _ (by simpa using Nat.le_of_not_lt hj), AH.JJ _ (Nat.le_of_not_lt hj), if_neg (by omega)]
theorem AH.Fq {i : Nat} (o : CR) (hi : i < h.size) : (h.set i o).get i = some o := by rw [h.Jw _ _ _ hi, if_pos rfl]
theorem AH.Ed {i j : Nat} (o : CR) (hi : i < h.size) (hne : j ≠ i) : (h.set i o).get j = h.get j := by rw [h.Jw _ _ _ hi, if_neg hne]
theorem AH.Na (o : CR) (j : Nat) : (h.push o).get j = if j = h.size then some o else h.get j := by
 by_cases hj : j < h.size + 1
 ·rw [AH.get_eq _ (by simpa using hj)]
  show (Tr.set (h.size + 1) h.tr h.size o).get j = _
  rw [Tr.Jw _ _ _ _ _ (by omega)]
  by_cases e : j = h.size
  ·simp [e]
  ·rw [if_neg e, if_neg e, AH.get_eq _ (by omega)]
 ·rw [AH.JJ _ (by simp; omega), if_neg (by omega), AH.JJ _ (by omega)]
theorem AH.Dh (o : CR) : (h.push o).get h.size = some o := by rw [h.Na, if_pos rfl]
theorem AH.De (o : CR) {j : Nat} (hj : j < h.size) : (h.push o).get j = h.get j := by rw [h.Na, if_neg (by omega)]
end
theorem Kc : ∀ (l : List AB) (i : Nat), nth l i = l.getD i (.tuple [])
 | [], i => by simp [nth]
 | a :: l, 0 => by simp [nth]
 | a :: l, i + 1 => by simpa [nth] using Kc l i
theorem Ga (l : List AB) (i j : Nat) (v : AB) : nth (l.set i v) j = if i = j ∧ i < l.length then v else nth l j := by
 simp only [Kc, List.getD_eq_getElem?_getD, List.getElem?_set]
 by_cases h : i = j
 ·subst h
  by_cases hl : i < l.length <;> simp [hl]
 ·simp [h]
@[simp] theorem RN (fr : Fr) (d : Option Tmp) (v : AB) : (put fr d v).length = fr.length := by cases d <;> simp [put]
structure Lp where
 g : Nat
 base : Nat
 SD : Nat
 total : Nat
structure Bh where
 i : Nat → Option Lp
 fz : Nat → Nat → Option Value
 df : Nat → Prop := fun _ => False
instance : CoeFun Bh (fun _ => Nat → Option Lp) := ⟨Bh.i⟩
inductive VR (m : Bh) : AB → Value → Prop where
 | undef (v : Value) : VR m .undef v
 | bool (b : Bool) : VR m (.bool b) (.bool b)
 | int (k : IntKind) (n : Int) : VR m (.int k n) (.int k n)
 | str (s : ByteArray) : VR m (.str s.data.toList) (.string s)
 | nilPtr : VR m (.ptr none) (.pointer none)
 | ptr (id o : Nat) (E : Lp) : m id = some E → VR m (.ptr (some (id, o))) (.pointer (some ⟨E.g, E.base + o, none⟩))
 | I2 (g o : Nat) : VR m (.I2 g o) (.pointer (some ⟨g, o, none⟩))
 | D1 : VR m (.slice none 0) (.slice none 0 0)
 | Ec (a : Addr) : VR m (.slice none 0) (.slice (some a) 0 0)
 | slice (id o len cap : Nat) (E : Lp) (a : Addr) : m id = some E → len ≤ cap → (cap ≠ 0 → a = ⟨E.g, E.base + o, none⟩ ∧ (E.SD ≠ 0 → E.base + o + cap * E.SD ≤ E.total)) → VR m (.slice (some (id, o)) len) (.slice (some a) len cap)
 | LR : VR m (.map none) (.map none)
 | map (id : Nat) (E : Lp) : m id = some E → VR m (.map (some id)) (.map (some E.g))
 | Jm : VR m (.chan none) (.chan none)
 | chan (id : Nat) (E : Lp) : m id = some E → VR m (.chan (some id)) (.chan (some E.g))
 | func (fn : Fn) (a b : List AB) (c d : Array Value) : a.length = c.size → (∀ (i : Nat) (x : AB) (y : Value), a[i]? = some x → c[i]? = some y → VR m x y) → b.length = d.size → (∀ (i : Nat) (x : AB) (y : Value), b[i]? = some x → d[i]? = some y → VR m x y) → VR m (.func fn a b) (.func fn c d)
 | nilFunc : VR m .nilFunc .nilFunc
 | iface (t : TypeId) (x : AB) (y : Value) : VR m x y → VR m (.iface t x) (.iface t y)
 | nilIface : VR m .nilIface .nilIface
 | agg (a : List AB) (c : Array Value) : a.length = c.size → (∀ (i : Nat) (x : AB) (y : Value), a[i]? = some x → c[i]? = some y → VR m x y) → VR m (.agg a) (.agg c)
 | tuple (a : List AB) (c : Array Value) : a.length = c.size → (∀ (i : Nat) (x : AB) (y : Value), a[i]? = some x → c[i]? = some y → VR m x y) → VR m (.tuple a) (.tuple c)
 | S6 (l : Nat) (E : Lp) : m l = some E → VR m (.S6 l) (.func (.yield E.g) #[] #[])
 | Jv (a : Option Addr) (cap : Nat) : VR m (.Hm 0 []) (.slice a 0 cap)
 | Hm (n cap g o : Nat) (a : List AB) (c : Nat → Value) : n ≤ cap → (∀ i, i < a.length → m.fz g (o + i) = some (c i)) → (∀ (i : Nat) (x : AB), a[i]? = some x → VR m x (c i)) → VR m (.Hm n a) (.slice (some ⟨g, o, none⟩) n cap)
 | Aq (g o : Nat) (a : List AB) (c : Nat → Value) : (∀ i, i < a.length → m.fz g (o + i) = some (c i)) → (∀ (i : Nat) (x : AB), a[i]? = some x → VR m x (c i)) → VR m (.Aq a) (.pointer (some ⟨g, o, none⟩))
def Cn (m : Bh) (a : List AB) (c : List Value) : Prop := a.length = c.length ∧ ∀ (i : Nat) (x : AB) (y : Value), a[i]? = some x → c[i]? = some y → VR m x y
structure Bh.le (m m' : Bh) : Prop where
 i : ∀ id E, m id = some E → m' id = some E
 fz : ∀ g o v, m.fz g o = some v → m'.fz g o = some v
theorem VR.mono {m m' : Bh} (hm : m.le m') {x : AB} {y : Value} (h : VR m x y) : VR m' x y := by
 induction h with
 | undef v => exact .undef v
 | bool b => exact .bool b
 | int k n => exact .int k n
 | str s => exact .str s
 | nilPtr => exact .nilPtr
 | ptr id o E h => exact .ptr id o E (hm.i _ _ h)
 | I2 g o => exact .I2 g o
 | D1 => exact .D1
 | Ec a => exact .Ec a
 | slice id o len cap E a h hl hc => exact .slice id o len cap E a (hm.i _ _ h) hl hc
 | LR => exact .LR
 | map id E h => exact .map id E (hm.i _ _ h)
 | Jm => exact .Jm
 | chan id E h => exact .chan id E (hm.i _ _ h)
 | func fn a b c d h1 _ h2 _ i1 i2 => exact .func fn a b c d h1 i1 h2 i2
 | nilFunc => exact .nilFunc
 | iface t x y _ ih => exact .iface t x y ih
 | nilIface => exact .nilIface
 | agg a c h _ ih => exact .agg a c h ih
 | tuple a c h _ ih => exact .tuple a c h ih
 | S6 l E h => exact .S6 l E (hm.i _ _ h)
 | Jv a cap => exact .Jv a cap
 | Hm n cap g o a c hc hf _ ih => exact .Hm n cap g o a c hc (fun i hi => hm.fz _ _ _ (hf i hi)) ih
 | Aq g o a c hf _ ih => exact .Aq g o a c (fun i hi => hm.fz _ _ _ (hf i hi)) ih
def Bh.with (m m' : Bh) : Bh := ⟨m.i, m'.fz, m'.df⟩
theorem VR.back {m m' : Bh} (hm : m.le m') {x : AB} {y : Value} (h : VR m x y) : ∀ {z : Value}, VR m' x z → VR (m.with m') x z := by
 induction h with
 | undef v => intro z _; exact .undef z
 | bool b => intro z hz; cases hz; exact .bool b
 | int k n => intro z hz; cases hz; exact .int k n
 | str s => intro z hz; generalize hs : s.data.toList = l at hz; cases hz; exact .str _
 | nilPtr => intro z hz; cases hz; exact .nilPtr
 | ptr id o E h =>
  intro z hz
  cases hz with
  | ptr _ _ E' h' =>
   have := (hm.i _ _ h).symm.trans h'
   injection this with this
   subst this
   exact .ptr id o _ h
 | I2 g o => intro z hz; cases hz; exact .I2 g o
 | D1 => intro z hz; cases hz <;> first | exact .D1 | exact .Ec _
 | Ec a => intro z hz; cases hz <;> first | exact .D1 | exact .Ec _
 | slice id o len cap E a h hl hc =>
  intro z hz
  cases hz with
  | slice _ _ _ cap' E' a' h' hl' hc' =>
   have := (hm.i _ _ h).symm.trans h'
   injection this with this
   subst this
   exact .slice id o len cap' _ a' h hl' hc'
 | LR => intro z hz; cases hz; exact .LR
 | map id E h =>
  intro z hz
  cases hz with
  | map _ E' h' =>
   have := (hm.i _ _ h).symm.trans h'
   injection this with this
   subst this
   exact .map id _ h
 | Jm => intro z hz; cases hz; exact .Jm
 | chan id E h =>
  intro z hz
  cases hz with
  | chan _ E' h' =>
   have := (hm.i _ _ h).symm.trans h'
   injection this with this
   subst this
   exact .chan id _ h
 | func fn a b c d h1 k1 h2 k2 i1 i2 =>
  intro z hz
  cases hz with
  | func _ _ _ c' d' h1' k1' h2' k2' =>
   refine .func fn a b c' d' h1' (fun i x y hx hy => ?_) h2' (fun i x y hx hy => ?_)
   ·have hi : i < c.size := by have := (List.getElem?_eq_some_iff.1 hx).1; omega
    exact i1 i x _ hx (Array.getElem?_eq_getElem hi) (k1' i x y hx hy)
   ·have hi : i < d.size := by have := (List.getElem?_eq_some_iff.1 hx).1; omega
    exact i2 i x _ hx (Array.getElem?_eq_getElem hi) (k2' i x y hx hy)
 | nilFunc => intro z hz; cases hz; exact .nilFunc
 | iface t x y _ ih => intro z hz; cases hz with | iface _ _ y' h' => exact .iface t x y' (ih h')
 | nilIface => intro z hz; cases hz; exact .nilIface
 | agg a c h k ih =>
  intro z hz
  cases hz with
  | agg _ c' h' k' =>
   refine .agg a c' h' (fun i x y hx hy => ?_)
   have hi : i < c.size := by have := (List.getElem?_eq_some_iff.1 hx).1; omega
   exact ih i x _ hx (Array.getElem?_eq_getElem hi) (k' i x y hx hy)
 | tuple a c h k ih =>
  intro z hz
  cases hz with
  | tuple _ c' h' k' =>
   refine .tuple a c' h' (fun i x y hx hy => ?_)
   have hi : i < c.size := by have := (List.getElem?_eq_some_iff.1 hx).1; omega
   exact ih i x _ hx (Array.getElem?_eq_getElem hi) (k' i x y hx hy)
 | S6 l E h =>
  intro z hz
  cases hz with
  | S6 _ E' h' =>
   have := (hm.i _ _ h).symm.trans h'
   injection this with this
   subst this
   exact .S6 l _ h
 | Jv a cap => intro z hz; cases hz with
  | Jv a' cap' => exact .Jv a' cap'
  | Hm _ cap' g o _ c hc hf hv => exact .Hm 0 cap' g o [] c hc (fun i hi => by simp at hi) (fun i x hx => by simp at hx)
 | Hm n cap g o a c hc hf hv ih => intro z hz; cases hz with
  | Jv a' cap' => exact .Jv a' cap'
  | Hm _ cap' g' o' _ c' hc' hf' hv' => exact .Hm n cap' g' o' a c' hc' hf' (fun i x hx => ih i x hx (hv' i x hx))
 | Aq g o a c hf hv ih => intro z hz; cases hz with
  | Aq g' o' _ c' hf' hv' => exact .Aq g' o' a c' hf' (fun i x hx => ih i x hx (hv' i x hx))
theorem Cn.mono {m m' : Bh} (hm : m.le m') {a : List AB} {c : List Value} (h : Cn m a c) : Cn m' a c := ⟨h.1, fun i x y hx hy => (h.2 i x y hx hy).mono hm⟩
theorem Cn.nil (m : Bh) : Cn m [] [] := ⟨rfl, fun i x y h => by simp at h⟩
theorem Cn.cons {m : Bh} {x : AB} {y : Value} {a : List AB} {c : List Value} (h : VR m x y) (k : Cn m a c) : Cn m (x :: a) (y :: c) := by
 refine ⟨by simp [k.1], fun i u v hu hv => ?_⟩
 cases i with
 | zero => simp at hu hv; subst hu; subst hv; exact h
 | succ i => exact k.2 i u v (by simpa using hu) (by simpa using hv)
theorem Cn.app {m : Bh} {a b : List AB} {c d : List Value} (h : Cn m a c) (k : Cn m b d) : Cn m (a ++ b) (c ++ d) := by
 refine ⟨by simp [h.1, k.1], fun i x y hx hy => ?_⟩
 by_cases hi : i < a.length
 ·rw [List.getElem?_append_left hi] at hx
  rw [List.getElem?_append_left (by rw [← h.1]; exact hi)] at hy
  exact h.2 i x y hx hy
 ·rw [List.getElem?_append_right (by omega)] at hx
  rw [List.getElem?_append_right (by rw [← h.1]; omega), ← h.1] at hy
  exact k.2 _ x y hx hy
theorem Cn.take {m : Bh} {a : List AB} {c : List Value} (h : Cn m a c) (n : Nat) : Cn m (a.take n) (c.take n) := by
 refine ⟨by simp [h.1], fun i x y hx hy => ?_⟩
 rw [List.getElem?_take] at hx hy
 split at hx
 ·rename_i hi; rw [if_pos hi] at hy; exact h.2 i x y hx hy
 ·cases hx
theorem Cn.drop {m : Bh} {a : List AB} {c : List Value} (h : Cn m a c) (n : Nat) : Cn m (a.drop n) (c.drop n) := by
 refine ⟨by simp [h.1], fun i x y hx hy => ?_⟩
 rw [List.getElem?_drop] at hx hy
 exact h.2 _ x y hx hy
theorem Cn.map {m : Bh} {α : Type} (f : α → AB) (g : α → Value) : ∀ (l : List α), (∀ x ∈ l, VR m (f x) (g x)) → Cn m (l.map f) (l.map g)
 | [], _ => .nil m
 | x :: l, h => .cons (h x (by simp)) (Cn.map f g l fun y hy => h y (by simp [hy]))
theorem Cn.E0 {m : Bh} {a b : List AB} {c d : List Value} (h : Cn m a c) (k : Cn m b d) (o : Nat) : Cn m (E0 a o b) (c.take o ++ (d ++ c.drop (o + d.length))) := by
 unfold Av.E0
 rw [k.1]
 exact (h.take o).app (k.app (h.drop _))
theorem Cn.at_ {m : Bh} {a : List AB} {c : List Value} (h : Cn m a c) {i : Nat} {x : AB} (hx : a[i]? = some x) : ∃ y, c[i]? = some y ∧ VR m x y := by
 have hi : i < c.length := by rw [← h.1]; exact (List.getElem?_eq_some_iff.1 hx).1
 exact ⟨_, List.getElem?_eq_getElem hi, h.2 i x _ hx (List.getElem?_eq_getElem hi)⟩
theorem Cn.Tf {m : Bh} {a : List AB} {c : Array Value} (h : VR m (.agg a) (.agg c)) : Cn m a c.toList := by
 cases h with
 | agg _ _ hl hv => exact ⟨by simpa using hl, fun i x y hx hy => hv i x y hx (by simpa using hy)⟩
theorem Cn.agg {m : Bh} {a : List AB} {c : Array Value} (h : Cn m a c.toList) : VR m (.agg a) (.agg c) :=
 .agg a c (by simpa using h.1) fun i x y hx hy => h.2 i x y hx (by simpa using hy)
theorem Cn.tuple {m : Bh} {a : List AB} {c : Array Value} (h : Cn m a c.toList) : VR m (.tuple a) (.tuple c) :=
 .tuple a c (by simpa using h.1) fun i x y hx hy => h.2 i x y hx (by simpa using hy)
theorem Cn.TF {m : Bh} {a : List AB} {c : Array Value} (h : VR m (.tuple a) (.tuple c)) : Cn m a c.toList := by
 cases h with
 | tuple _ _ hl hv => exact ⟨by simpa using hl, fun i x y hx hy => hv i x y hx (by simpa using hy)⟩
theorem VR.Kt {m : Bh} {a : List AB} {v : Value} (h : VR m (.tuple a) v) : ∃ c, v = .tuple c ∧ Cn m a c.toList := by
 cases h with
 | tuple _ c hl hv => exact ⟨c, rfl, Cn.TF (.tuple a c hl hv)⟩
theorem VR.Fs {m : Bh} {a : List AB} {v : Value} (h : VR m (.agg a) v) : ∃ c, v = .agg c ∧ Cn m a c.toList := by
 cases h with
 | agg _ c hl hv => exact ⟨c, rfl, Cn.Tf (.agg a c hl hv)⟩
theorem VR.ES {m : Bh} {s : List UInt8} {v : Value} (h : VR m (.str s) v) : v = .string ⟨⟨s⟩⟩ := by
 generalize hx : AB.str s = x at h
 cases h with
 | str b => injection hx with hx; subst hx; rfl
 | _ => cases hx
theorem VR.MR (m : Bh) (v : Value) : VR m (MR v) v := by
 unfold Av.MR
 split
 ·exact .bool _
 ·exact .int _ _
 ·exact .str _
 ·exact .nilPtr
 ·exact .D1
 ·exact .LR
 ·exact .Jm
 ·exact .nilFunc
 ·exact .nilIface
 ·exact .undef _
theorem Cn.MR (m : Bh) (l : List Value) : Cn m (l.map Av.MR) l := by
 have := Cn.map (m := m) Av.MR id l (fun x _ => VR.MR m x)
 simpa using this
theorem VR.UT (m : Bh) (v : Value) : VR m (UT v) v := by
 unfold Av.UT
 split
 ·exact Cn.agg (Cn.MR m _)
 ·exact Cn.tuple (Cn.MR m _)
 ·exact VR.MR m _
theorem VR.Ks {m : Bh} {g o : Nat} {a : List AB} {c : Nat → Value} (hf : ∀ i, i < a.length → m.fz g (o + i) = some (c i)) (hv : ∀ (i : Nat) (x : AB), a[i]? = some x → VR m x (c i)) (k : Nat) : VR m (.Aq (a.drop k)) (.pointer (some ⟨g, o + k, none⟩)) :=
 .Aq g (o + k) _ (fun i => c (k + i)) (fun i hi => by rw [List.length_drop] at hi; rw [Nat.add_assoc]; exact hf _ (by omega)) (fun i x hx => hv _ x (by rw [List.getElem?_drop] at hx; exact hx))
theorem VR.O0 {m : Bh} {a : List AB} {v : Value} (h : VR m (.Aq a) v) (k : Nat) : VR m (.Aq (a.take k)) v := by
 cases h with
 | Aq g o _ c hf hv => exact .Aq g o _ c (fun i hi => hf i (by rw [List.length_take] at hi; omega)) (fun i x hx => hv i x (by rw [List.getElem?_take] at hx; split at hx; exact hx; cases hx))
theorem VR.cells {m : Bh} {x : AB} {v : Value} (h : VR m x v) {cs : List AB} (hc : x.cells? = some cs) : Cn m cs v.cells.toList := by
 cases h <;> simp [AB.cells?] at hc
 case agg a c hl hv => subst hc; exact Cn.Tf (.agg _ c hl hv)
 all_goals
  subst hc
  refine .cons ?_ (.nil m)
  first
   | exact .bool _ | exact .int _ _ | exact .str _ | exact .nilPtr | exact .I2 _ _ | exact .D1 | exact .LR | exact .Jm | exact .nilFunc | exact .nilIface
   | (constructor <;> assumption)
theorem VR.one {m : Bh} {x : AB} {v : Value} (h : VR m x v) (h1 : x.one = true) : v.oneCell' = true := by
 cases h <;> first | rfl | simp [AB.one] at h1
