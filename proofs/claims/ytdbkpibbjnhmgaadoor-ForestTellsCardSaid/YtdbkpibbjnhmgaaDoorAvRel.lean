/-
 A part.
-/
import Derived.Test.YtdbkpibbjnhmgaaDoorAvDef
import Derived.Below
import Derived.Laws.Entries
namespace Go.Av
open Go.RowKit
theorem FU {α : Type} (i j : Nat) (a b : α) : (bif Nat.beq i j then a else b) = if i = j then a else b := by
 by_cases h : i = j
 ·subst h; simp [Nat.beq_refl]
 ·have : Nat.beq i j = false := by
   cases e : Nat.beq i j
   ·rfl
   ·exact absurd (Nat.eq_of_beq_eq_true e) h
  simp [this, h]
theorem Tr.Hz {α : Type} (l r : Tr α) (v : Option α) (j : Nat) : (Tr.node l v r).get j = if j = 0 then v else if j % 2 = 1 then l.get (j / 2) else r.get (j / 2 - 1) := by
 simp only [Tr.get, FU]
theorem Tr.Sc {α : Type} (f : Nat) (l r : Tr α) (v : Option α) (i : Nat) (x : α) : Tr.set (f + 1) (.node l v r) i x =
  if i = 0 then .node l (some x) r else if i % 2 = 1 then .node (Tr.set f l (i / 2) x) v r else .node l v (Tr.set f r (i / 2 - 1) x) := by
 simp only [Tr.set, FU]
theorem Tr.SW {α : Type} (f : Nat) (i : Nat) (x : α) : Tr.set (f + 1) .leaf i x = Tr.set (f + 1) (.node .leaf none .leaf) i x := by
 simp only [Tr.set]
theorem Tr.GI {α : Type} : ∀ (f : Nat) (t : Tr α) (i j : Nat) (x : α), i < f → (Tr.set f t i x).get j = if j = i then some x else t.get j
 | 0, _, _, _, _, h => absurd h (by omega)
 | f + 1, t, i, j, x, h => by
  have ih := fun t i j => Tr.GI f t i j x
  have key : ∀ l v r, (Tr.set (f + 1) (.node l v r) i x).get j = if j = i then some x else (Tr.node l v r).get j := by
   intro l v r
   rw [Tr.Sc, Tr.Hz]
   by_cases hi : i = 0
   ·subst hi
    rw [if_pos rfl, Tr.Hz]
    by_cases hj : j = 0
    ·rw [if_pos hj, if_pos hj]
    ·simp only [if_neg hj]
   ·rw [if_neg hi]
    by_cases h1 : i % 2 = 1
    ·rw [if_pos h1, Tr.Hz]
     by_cases hj : j = 0
     ·rw [if_pos hj, if_pos hj, if_neg (by omega)]
     ·rw [if_neg hj, if_neg hj]
      by_cases h2 : j % 2 = 1
      ·rw [if_pos h2, if_pos h2, ih _ _ _ (by omega)]
       by_cases hij : j = i
       ·rw [if_pos hij, if_pos (by omega)]
       ·rw [if_neg hij, if_neg (by omega)]
      ·rw [if_neg h2, if_neg h2, if_neg (by omega)]
    ·rw [if_neg h1, Tr.Hz]
     by_cases hj : j = 0
     ·rw [if_pos hj, if_pos hj, if_neg (by omega)]
     ·rw [if_neg hj, if_neg hj]
      by_cases h2 : j % 2 = 1
      ·rw [if_pos h2, if_pos h2, if_neg (by omega)]
      ·rw [if_neg h2, if_neg h2, ih _ _ _ (by omega)]
       by_cases hij : j = i
       ·rw [if_pos hij, if_pos (by omega)]
       ·rw [if_neg hij, if_neg (by omega)]
  cases t with
  | node l v r => exact key l v r
  | leaf =>
   rw [Tr.SW, key]
   congr 1
   rw [Tr.Hz]
   simp [Tr.get]
section
variable (h : AB)
@[simp] theorem AB.size_set (i : Nat) (o : A9) : (h.set i o).size = h.size := rfl
@[simp] theorem AB.size_push (o : A9) : (h.push o).size = h.size + 1 := rfl
theorem AB.GW {i : Nat} (hi : h.size ≤ i) : h.get i = none := by
 have : Nat.blt i h.size = false := by
  cases e : Nat.blt i h.size
  ·rfl
  ·rw [Nat.blt_eq] at e; omega
 simp [AB.get, this]
theorem AB.An {i : Nat} {o : A9} (hi : h.get i = some o) : i < h.size := by
 rcases Nat.lt_or_ge i h.size with hl | hl
 ·exact hl
 ·rw [h.GW hl] at hi; cases hi
theorem AB.get_eq {i : Nat} (hi : i < h.size) : h.get i = h.tr.get i := by
 have : Nat.blt i h.size = true := by rw [Nat.blt_eq]; exact hi
 simp [AB.get, this]
theorem AB.GI (i j : Nat) (o : A9) (hi : i < h.size) : (h.set i o).get j = if j = i then some o else h.get j := by
 by_cases hj : j < h.size
 ·rw [AB.get_eq _ (by simpa using hj), AB.get_eq _ hj]
  exact Tr.GI _ _ _ _ _ (by omega)
 ·rw [AB.GW _ (by simpa using Nat.le_of_not_lt hj), AB.GW _ (Nat.le_of_not_lt hj), if_neg (by omega)]
theorem AB.get_set_same {i : Nat} (o : A9) (hi : i < h.size) : (h.set i o).get i = some o := by rw [h.GI _ _ _ hi, if_pos rfl]
theorem AB.Ar {i j : Nat} (o : A9) (hi : i < h.size) (hne : j ≠ i) : (h.set i o).get j = h.get j := by rw [h.GI _ _ _ hi, if_neg hne]
theorem AB.JY (o : A9) (j : Nat) : (h.push o).get j = if j = h.size then some o else h.get j := by
 by_cases hj : j < h.size + 1
 ·rw [AB.get_eq _ (by simpa using hj)]
  show (Tr.set (h.size + 1) h.tr h.size o).get j = _
  rw [Tr.GI _ _ _ _ _ (by omega)]
  by_cases e : j = h.size
  ·simp [e]
  ·rw [if_neg e, if_neg e, AB.get_eq _ (by omega)]
 ·rw [AB.GW _ (by simp; omega), if_neg (by omega), AB.GW _ (by omega)]
theorem AB.Cv (o : A9) : (h.push o).get h.size = some o := by rw [h.JY, if_pos rfl]
theorem AB.CF (o : A9) {j : Nat} (hj : j < h.size) : (h.push o).get j = h.get j := by rw [h.JY, if_neg (by omega)]
end
theorem FE : ∀ (l : List AA) (i : Nat), nth l i = l.getD i (.tuple [])
 | [], i => by simp [nth]
 | a :: l, 0 => by simp [nth]
 | a :: l, i + 1 => by simpa [nth] using FE l i
theorem Bu (l : List AA) (i j : Nat) (v : AA) : nth (l.set i v) j = if i = j ∧ i < l.length then v else nth l j := by
 simp only [FE, List.getD_eq_getElem?_getD, List.getElem?_set]
 by_cases h : i = j
 ·subst h
  by_cases hl : i < l.length <;> simp [hl]
 ·simp [h]
@[simp] theorem C6 (fr : Fr) (d : Option Tmp) (v : AA) : (put fr d v).length = fr.length := by cases d <;> simp [put]
structure HQ where
 g : Nat
 base : Nat
 QK : Nat
 total : Nat
structure AU where
 i : Nat → Option HQ
 fz : Nat → Nat → Option Value
 df : Nat → Obj → Prop := fun _ _ => False
instance : CoeFun AU (fun _ => Nat → Option HQ) := ⟨AU.i⟩
inductive VR (m : AU) : AA → Value → Prop where
 | undef (v : Value) : VR m .undef v
 | bool (b : Bool) : VR m (.bool b) (.bool b)
 | int (k : IntKind) (n : Int) : VR m (.int k n) (.int k n)
 | str (s : ByteArray) : VR m (.str s.data.toList) (.string s)
 | nilPtr : VR m (.ptr none) (.pointer none)
 | ptr (id o : Nat) (E : HQ) : m id = some E → VR m (.ptr (some (id, o))) (.pointer (some ⟨E.g, E.base + o, none⟩))
 | GK (g o : Nat) : VR m (.GK g o) (.pointer (some ⟨g, o, none⟩))
 | B8 : VR m (.slice none 0) (.slice none 0 0)
 | CU (a : Addr) : VR m (.slice none 0) (.slice (some a) 0 0)
 | slice (id o len cap : Nat) (E : HQ) (a : Addr) : m id = some E → len ≤ cap → (cap ≠ 0 → a = ⟨E.g, E.base + o, none⟩ ∧ (E.QK ≠ 0 → E.base + o + cap * E.QK ≤ E.total)) → VR m (.slice (some (id, o)) len) (.slice (some a) len cap)
 | Is : VR m (.map none) (.map none)
 | map (id : Nat) (E : HQ) : m id = some E → VR m (.map (some id)) (.map (some E.g))
 | Gv : VR m (.chan none) (.chan none)
 | chan (id : Nat) (E : HQ) : m id = some E → VR m (.chan (some id)) (.chan (some E.g))
 | func (fn : Fn) (a b : List AA) (c d : Array Value) : a.length = c.size → (∀ (i : Nat) (x : AA) (y : Value), a[i]? = some x → c[i]? = some y → VR m x y) → b.length = d.size → (∀ (i : Nat) (x : AA) (y : Value), b[i]? = some x → d[i]? = some y → VR m x y) → VR m (.func fn a b) (.func fn c d)
 | nilFunc : VR m .nilFunc .nilFunc
 | iface (t : TypeId) (x : AA) (y : Value) : VR m x y → VR m (.iface t x) (.iface t y)
 | nilIface : VR m .nilIface .nilIface
 | agg (a : List AA) (c : Array Value) : a.length = c.size → (∀ (i : Nat) (x : AA) (y : Value), a[i]? = some x → c[i]? = some y → VR m x y) → VR m (.agg a) (.agg c)
 | tuple (a : List AA) (c : Array Value) : a.length = c.size → (∀ (i : Nat) (x : AA) (y : Value), a[i]? = some x → c[i]? = some y → VR m x y) → VR m (.tuple a) (.tuple c)
 | Fw (l : Nat) (E : HQ) : m l = some E → VR m (.Fw l) (.func (.yield E.g) #[] #[])
 | Fy (a : Option Addr) (cap : Nat) : VR m (.Ev 0 []) (.slice a 0 cap)
 | Ev (n cap g o : Nat) (a : List AA) (c : Nat → Value) : n ≤ cap → (∀ i, i < a.length → m.fz g (o + i) = some (c i)) → (∀ (i : Nat) (x : AA), a[i]? = some x → VR m x (c i)) → VR m (.Ev n a) (.slice (some ⟨g, o, none⟩) n cap)
 | DF (g o : Nat) (a : List AA) (c : Nat → Value) : (∀ i, i < a.length → m.fz g (o + i) = some (c i)) → (∀ (i : Nat) (x : AA), a[i]? = some x → VR m x (c i)) → VR m (.DF a) (.pointer (some ⟨g, o, none⟩))
def BU (m : AU) (a : List AA) (c : List Value) : Prop := a.length = c.length ∧ ∀ (i : Nat) (x : AA) (y : Value), a[i]? = some x → c[i]? = some y → VR m x y
structure AU.le (m m' : AU) : Prop where
 i : ∀ id E, m id = some E → m' id = some E
 fz : ∀ g o v, m.fz g o = some v → m'.fz g o = some v
theorem VR.mono {m m' : AU} (hm : m.le m') {x : AA} {y : Value} (h : VR m x y) : VR m' x y := by
 induction h with
 | undef v => exact .undef v
 | bool b => exact .bool b
 | int k n => exact .int k n
 | str s => exact .str s
 | nilPtr => exact .nilPtr
 | ptr id o E h => exact .ptr id o E (hm.i _ _ h)
 | GK g o => exact .GK g o
 | B8 => exact .B8
 | CU a => exact .CU a
 | slice id o len cap E a h hl hc => exact .slice id o len cap E a (hm.i _ _ h) hl hc
 | Is => exact .Is
 | map id E h => exact .map id E (hm.i _ _ h)
 | Gv => exact .Gv
 | chan id E h => exact .chan id E (hm.i _ _ h)
 | func fn a b c d h1 _ h2 _ i1 i2 => exact .func fn a b c d h1 i1 h2 i2
 | nilFunc => exact .nilFunc
 | iface t x y _ ih => exact .iface t x y ih
 | nilIface => exact .nilIface
 | agg a c h _ ih => exact .agg a c h ih
 | tuple a c h _ ih => exact .tuple a c h ih
 | Fw l E h => exact .Fw l E (hm.i _ _ h)
 | Fy a cap => exact .Fy a cap
 | Ev n cap g o a c hc hf _ ih => exact .Ev n cap g o a c hc (fun i hi => hm.fz _ _ _ (hf i hi)) ih
 | DF g o a c hf _ ih => exact .DF g o a c (fun i hi => hm.fz _ _ _ (hf i hi)) ih
def AU.with (m m' : AU) : AU := ⟨m.i, m'.fz, m'.df⟩
theorem VR.back {m m' : AU} (hm : m.le m') {x : AA} {y : Value} (h : VR m x y) : ∀ {z : Value}, VR m' x z → VR (m.with m') x z := by
 induction h with
 | undef v => intro z _; exact .undef z
 | bool b => intro z hz; cases hz; exact .bool b
 | int k n => intro z hz; cases hz; exact .int k n
 | str s => intro z hz; generalize hs : s.data.toList = l at hz; cases hz; exact .str _
 | nilPtr => intro z hz; cases hz; exact .nilPtr
 | ptr id o E h =>
  intro z hz
  cases hz with
  | ptr _ _ E' h' =>
   have := (hm.i _ _ h).symm.trans h'
   injection this with this
   subst this
   exact .ptr id o _ h
 | GK g o => intro z hz; cases hz; exact .GK g o
 | B8 => intro z hz; cases hz <;> first | exact .B8 | exact .CU _
 | CU a => intro z hz; cases hz <;> first | exact .B8 | exact .CU _
 | slice id o len cap E a h hl hc =>
  intro z hz
  cases hz with
  | slice _ _ _ cap' E' a' h' hl' hc' =>
   have := (hm.i _ _ h).symm.trans h'
   injection this with this
   subst this
   exact .slice id o len cap' _ a' h hl' hc'
 | Is => intro z hz; cases hz; exact .Is
 | map id E h =>
  intro z hz
  cases hz with
  | map _ E' h' =>
   have := (hm.i _ _ h).symm.trans h'
   injection this with this
   subst this
   exact .map id _ h
 | Gv => intro z hz; cases hz; exact .Gv
 | chan id E h =>
  intro z hz
  cases hz with
  | chan _ E' h' =>
   have := (hm.i _ _ h).symm.trans h'
   injection this with this
   subst this
   exact .chan id _ h
 | func fn a b c d h1 k1 h2 k2 i1 i2 =>
  intro z hz
  cases hz with
  | func _ _ _ c' d' h1' k1' h2' k2' =>
   refine .func fn a b c' d' h1' (fun i x y hx hy => ?_) h2' (fun i x y hx hy => ?_)
   ·have hi : i < c.size := by have := (List.getElem?_eq_some_iff.1 hx).1; omega
    exact i1 i x _ hx (Array.getElem?_eq_getElem hi) (k1' i x y hx hy)
   ·have hi : i < d.size := by have := (List.getElem?_eq_some_iff.1 hx).1; omega
    exact i2 i x _ hx (Array.getElem?_eq_getElem hi) (k2' i x y hx hy)
 | nilFunc => intro z hz; cases hz; exact .nilFunc
 | iface t x y _ ih => intro z hz; cases hz with | iface _ _ y' h' => exact .iface t x y' (ih h')
 | nilIface => intro z hz; cases hz; exact .nilIface
 | agg a c h k ih =>
  intro z hz
  cases hz with
  | agg _ c' h' k' =>
   refine .agg a c' h' (fun i x y hx hy => ?_)
   have hi : i < c.size := by have := (List.getElem?_eq_some_iff.1 hx).1; omega
   exact ih i x _ hx (Array.getElem?_eq_getElem hi) (k' i x y hx hy)
 | tuple a c h k ih =>
  intro z hz
  cases hz with
  | tuple _ c' h' k' =>
   refine .tuple a c' h' (fun i x y hx hy => ?_)
   have hi : i < c.size := by have := (List.getElem?_eq_some_iff.1 hx).1; omega
   exact ih i x _ hx (Array.getElem?_eq_getElem hi) (k' i x y hx hy)
 | Fw l E h =>
  intro z hz
  cases hz with
  | Fw _ E' h' =>
   have := (hm.i _ _ h).symm.trans h'
   injection this with this
   subst this
   exact .Fw l _ h
 | Fy a cap => intro z hz; cases hz with
  | Fy a' cap' => exact .Fy a' cap'
  | Ev _ cap' g o _ c hc hf hv => exact .Ev 0 cap' g o [] c hc (fun i hi => by simp at hi) (fun i x hx => by simp at hx)
 | Ev n cap g o a c hc hf hv ih => intro z hz; cases hz with
  | Fy a' cap' => exact .Fy a' cap'
  | Ev _ cap' g' o' _ c' hc' hf' hv' => exact .Ev n cap' g' o' a c' hc' hf' (fun i x hx => ih i x hx (hv' i x hx))
 | DF g o a c hf hv ih => intro z hz; cases hz with
  | DF g' o' _ c' hf' hv' => exact .DF g' o' a c' hf' (fun i x hx => ih i x hx (hv' i x hx))
theorem BU.mono {m m' : AU} (hm : m.le m') {a : List AA} {c : List Value} (h : BU m a c) : BU m' a c := ⟨h.1, fun i x y hx hy => (h.2 i x y hx hy).mono hm⟩
theorem BU.nil (m : AU) : BU m [] [] := ⟨rfl, fun i x y h => by simp at h⟩
theorem BU.cons {m : AU} {x : AA} {y : Value} {a : List AA} {c : List Value} (h : VR m x y) (k : BU m a c) : BU m (x :: a) (y :: c) := by
 refine ⟨by simp [k.1], fun i u v hu hv => ?_⟩
 cases i with
 | zero => simp at hu hv; subst hu; subst hv; exact h
 | succ i => exact k.2 i u v (by simpa using hu) (by simpa using hv)
theorem BU.app {m : AU} {a b : List AA} {c d : List Value} (h : BU m a c) (k : BU m b d) : BU m (a ++ b) (c ++ d) := by
 refine ⟨by simp [h.1, k.1], fun i x y hx hy => ?_⟩
 by_cases hi : i < a.length
 ·rw [List.getElem?_append_left hi] at hx
  rw [List.getElem?_append_left (by rw [← h.1]; exact hi)] at hy
  exact h.2 i x y hx hy
 ·rw [List.getElem?_append_right (by omega)] at hx
  rw [List.getElem?_append_right (by rw [← h.1]; omega), ← h.1] at hy
  exact k.2 _ x y hx hy
theorem BU.take {m : AU} {a : List AA} {c : List Value} (h : BU m a c) (n : Nat) : BU m (a.take n) (c.take n) := by
 refine ⟨by simp [h.1], fun i x y hx hy => ?_⟩
 rw [List.getElem?_take] at hx hy
 split at hx
 ·rename_i hi; rw [if_pos hi] at hy; exact h.2 i x y hx hy
 ·cases hx
theorem BU.drop {m : AU} {a : List AA} {c : List Value} (h : BU m a c) (n : Nat) : BU m (a.drop n) (c.drop n) := by
 refine ⟨by simp [h.1], fun i x y hx hy => ?_⟩
 rw [List.getElem?_drop] at hx hy
 exact h.2 _ x y hx hy
theorem BU.map {m : AU} {α : Type} (f : α → AA) (g : α → Value) : ∀ (l : List α), (∀ x ∈ l, VR m (f x) (g x)) → BU m (l.map f) (l.map g)
 | [], _ => .nil m
 | x :: l, h => .cons (h x (by simp)) (BU.map f g l fun y hy => h y (by simp [hy]))
theorem BU.C1 {m : AU} {a b : List AA} {c d : List Value} (h : BU m a c) (k : BU m b d) (o : Nat) : BU m (C1 a o b) (c.take o ++ (d ++ c.drop (o + d.length))) := by
 unfold Av.C1
 rw [k.1]
 exact (h.take o).app (k.app (h.drop _))
theorem BU.at_ {m : AU} {a : List AA} {c : List Value} (h : BU m a c) {i : Nat} {x : AA} (hx : a[i]? = some x) : ∃ y, c[i]? = some y ∧ VR m x y := by
 have hi : i < c.length := by rw [← h.1]; exact (List.getElem?_eq_some_iff.1 hx).1
 exact ⟨_, List.getElem?_eq_getElem hi, h.2 i x _ hx (List.getElem?_eq_getElem hi)⟩
theorem BU.Sm {m : AU} {a : List AA} {c : Array Value} (h : VR m (.agg a) (.agg c)) : BU m a c.toList := by
 cases h with
 | agg _ _ hl hv => exact ⟨by simpa using hl, fun i x y hx hy => hv i x y hx (by simpa using hy)⟩
theorem BU.agg {m : AU} {a : List AA} {c : Array Value} (h : BU m a c.toList) : VR m (.agg a) (.agg c) :=
 .agg a c (by simpa using h.1) fun i x y hx hy => h.2 i x y hx (by simpa using hy)
theorem BU.tuple {m : AU} {a : List AA} {c : Array Value} (h : BU m a c.toList) : VR m (.tuple a) (.tuple c) :=
 .tuple a c (by simpa using h.1) fun i x y hx hy => h.2 i x y hx (by simpa using hy)
theorem BU.SQ {m : AU} {a : List AA} {c : Array Value} (h : VR m (.tuple a) (.tuple c)) : BU m a c.toList := by
 cases h with
 | tuple _ _ hl hv => exact ⟨by simpa using hl, fun i x y hx hy => hv i x y hx (by simpa using hy)⟩
theorem VR.FV {m : AU} {a : List AA} {v : Value} (h : VR m (.tuple a) v) : ∃ c, v = .tuple c ∧ BU m a c.toList := by
 cases h with
 | tuple _ c hl hv => exact ⟨c, rfl, BU.SQ (.tuple a c hl hv)⟩
theorem VR.Dy {m : AU} {a : List AA} {v : Value} (h : VR m (.agg a) v) : ∃ c, v = .agg c ∧ BU m a c.toList := by
 cases h with
 | agg _ c hl hv => exact ⟨c, rfl, BU.Sm (.agg a c hl hv)⟩
theorem VR.B9 {m : AU} {s : List UInt8} {v : Value} (h : VR m (.str s) v) : v = .string ⟨⟨s⟩⟩ := by
 generalize hx : AA.str s = x at h
 cases h with
 | str b => injection hx with hx; subst hx; rfl
 | _ => cases hx
theorem VR.KL (m : AU) (v : Value) : VR m (KL v) v := by
 unfold Av.KL
 split
 ·exact .bool _
 ·exact .int _ _
 ·exact .str _
 ·exact .nilPtr
 ·exact .B8
 ·exact .Is
 ·exact .Gv
 ·exact .nilFunc
 ·exact .nilIface
 ·exact .undef _
theorem BU.KL (m : AU) (l : List Value) : BU m (l.map Av.KL) l := by
 have := BU.map (m := m) Av.KL id l (fun x _ => VR.KL m x)
 simpa using this
theorem VR.Te (m : AU) (v : Value) : VR m (Te v) v := by
 unfold Av.Te
 split
 ·exact BU.agg (BU.KL m _)
 ·exact BU.tuple (BU.KL m _)
 ·exact VR.KL m _
theorem VR.IZ {m : AU} {g o : Nat} {a : List AA} {c : Nat → Value} (hf : ∀ i, i < a.length → m.fz g (o + i) = some (c i)) (hv : ∀ (i : Nat) (x : AA), a[i]? = some x → VR m x (c i)) (k : Nat) : VR m (.DF (a.drop k)) (.pointer (some ⟨g, o + k, none⟩)) :=
 .DF g (o + k) _ (fun i => c (k + i)) (fun i hi => by rw [List.length_drop] at hi; rw [Nat.add_assoc]; exact hf _ (by omega)) (fun i x hx => hv _ x (by rw [List.getElem?_drop] at hx; exact hx))
theorem VR.Me {m : AU} {a : List AA} {v : Value} (h : VR m (.DF a) v) (k : Nat) : VR m (.DF (a.take k)) v := by
 cases h with
 | DF g o _ c hf hv => exact .DF g o _ c (fun i hi => hf i (by rw [List.length_take] at hi; omega)) (fun i x hx => hv i x (by rw [List.getElem?_take] at hx; split at hx; exact hx; cases hx))
theorem VR.cells {m : AU} {x : AA} {v : Value} (h : VR m x v) {cs : List AA} (hc : x.cells? = some cs) : BU m cs v.cells.toList := by
 cases h <;> simp [AA.cells?] at hc
 case agg a c hl hv => subst hc; exact BU.Sm (.agg _ c hl hv)
 all_goals
  subst hc
  refine .cons ?_ (.nil m)
  first
   | exact .bool _ | exact .int _ _ | exact .str _ | exact .nilPtr | exact .GK _ _ | exact .B8 | exact .Is | exact .Gv | exact .nilFunc | exact .nilIface
   | (constructor <;> assumption)
theorem VR.one {m : AU} {x : AA} {v : Value} (h : VR m x v) (h1 : x.one = true) : v.oneCell' = true := by
 cases h <;> first | rfl | simp [AA.one] at h1
end Go.Av
