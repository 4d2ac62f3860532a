/-
 A part.
-/
import Derived.Test.YtlljeoogceblmaaGreatDoorAvDef
import Derived.Below
import Derived.Laws.Entries
namespace Go.Av
open Go.RowKit
theorem G1 {α : Type} (i j : Nat) (a b : α) : (bif Nat.beq i j then a else b) = if i = j then a else b := by
 by_cases h : i = j
 ·subst h; simp [Nat.beq_refl]
 ·have : Nat.beq i j = false := by
   cases e : Nat.beq i j
   ·rfl
   ·exact absurd (Nat.eq_of_beq_eq_true e) h
  simp [this, h]
theorem Tr.Jb {α : Type} (l r : Tr α) (v : Option α) (j : Nat) : (Tr.node l v r).get j = if j = 0 then v else if j % 2 = 1 then l.get (j / 2) else r.get (j / 2 - 1) := by
 simp only [Tr.get, G1]
theorem Tr.WI {α : Type} (f : Nat) (l r : Tr α) (v : Option α) (i : Nat) (x : α) : Tr.set (f + 1) (.node l v r) i x =
  if i = 0 then .node l (some x) r else if i % 2 = 1 then .node (Tr.set f l (i / 2) x) v r else .node l v (Tr.set f r (i / 2 - 1) x) := by
 simp only [Tr.set, G1]
theorem Tr.VI {α : Type} (f : Nat) (i : Nat) (x : α) : Tr.set (f + 1) .leaf i x = Tr.set (f + 1) (.node .leaf none .leaf) i x := by
 simp only [Tr.set]
theorem Tr.G2 {α : Type} : ∀ (f : Nat) (t : Tr α) (i j : Nat) (x : α), i < f → (Tr.set f t i x).get j = if j = i then some x else t.get j
 | 0, _, _, _, _, h => absurd h (by omega)
 | f + 1, t, i, j, x, h => by
  have ih := fun t i j => Tr.G2 f t i j x
  have key : ∀ l v r, (Tr.set (f + 1) (.node l v r) i x).get j = if j = i then some x else (Tr.node l v r).get j := by
   intro l v r
   rw [Tr.WI, Tr.Jb]
   by_cases hi : i = 0
   ·subst hi
    rw [if_pos rfl, Tr.Jb]
    by_cases hj : j = 0
    ·rw [if_pos hj, if_pos hj]
    ·simp only [if_neg hj]
   ·rw [if_neg hi]
    by_cases h1 : i % 2 = 1
    ·rw [if_pos h1, Tr.Jb]
     by_cases hj : j = 0
     ·rw [if_pos hj, if_pos hj, if_neg (by omega)]
     ·rw [if_neg hj, if_neg hj]
      by_cases h2 : j % 2 = 1
      ·rw [if_pos h2, if_pos h2, ih _ _ _ (by omega)]
       by_cases hij : j = i
       ·rw [if_pos hij, if_pos (by omega)]
       ·rw [if_neg hij, if_neg (by omega)]
      ·rw [if_neg h2, if_neg h2, if_neg (by omega)]
    ·rw [if_neg h1, Tr.Jb]
     by_cases hj : j = 0
     ·rw [if_pos hj, if_pos hj, if_neg (by omega)]
     ·rw [if_neg hj, if_neg hj]
      by_cases h2 : j % 2 = 1
      ·rw [if_pos h2, if_pos h2, if_neg (by omega)]
      ·rw [if_neg h2, if_neg h2, ih _ _ _ (by omega)]
       by_cases hij : j = i
       ·rw [if_pos hij, if_pos (by omega)]
       ·rw [if_neg hij, if_neg (by omega)]
  cases t with
  | node l v r => exact key l v r
  | leaf =>
   rw [Tr.VI, key]
   congr 1
   rw [Tr.Jb]
   simp [Tr.get]
section
variable (h : AD)
@[simp] theorem AD.size_set (i : Nat) (o : BY) : (h.set i o).size = h.size := rfl
@[simp] theorem AD.size_push (o : BY) : (h.push o).size = h.size + 1 := rfl
theorem AD.Ie {i : Nat} (hi : h.size ≤ i) : h.get i = none := by
 have : Nat.blt i h.size = false := by
  cases e : Nat.blt i h.size
  ·rfl
  ·rw [Nat.blt_eq] at e; omega
 simp [AD.get, this]
theorem AD.Ay {i : Nat} {o : BY} (hi : h.get i = some o) : i < h.size := by
 rcases Nat.lt_or_ge i h.size with hl | hl
 ·exact hl
 ·rw [h.Ie hl] at hi; cases hi
theorem AD.get_eq {i : Nat} (hi : i < h.size) : h.get i = h.tr.get i := by
 have : Nat.blt i h.size = true := by rw [Nat.blt_eq]; exact hi
 simp [AD.get, this]
theorem AD.G2 (i j : Nat) (o : BY) (hi : i < h.size) : (h.set i o).get j = if j = i then some o else h.get j := by
 by_cases hj : j < h.size
 ·rw [AD.get_eq _ (by simpa using hj), AD.get_eq _ hj]
  exact Tr.G2 _ _ _ _ _ (by omega)
 ·rw [AD.Ie _ (by simpa using Nat.le_of_not_lt hj), AD.Ie _ (Nat.le_of_not_lt hj), if_neg (by omega)]
theorem AD.get_set_same {i : Nat} (o : BY) (hi : i < h.size) : (h.set i o).get i = some o := by rw [h.G2 _ _ _ hi, if_pos rfl]
theorem AD.A8 {i j : Nat} (o : BY) (hi : i < h.size) (hne : j ≠ i) : (h.set i o).get j = h.get j := by rw [h.G2 _ _ _ hi, if_neg hne]
theorem AD.HF (o : BY) (j : Nat) : (h.push o).get j = if j = h.size then some o else h.get j := by
 by_cases hj : j < h.size + 1
 ·rw [AD.get_eq _ (by simpa using hj)]
  show (Tr.set (h.size + 1) h.tr h.size o).get j = _
  rw [Tr.G2 _ _ _ _ _ (by omega)]
  by_cases e : j = h.size
  ·simp [e]
  ·rw [if_neg e, if_neg e, AD.get_eq _ (by omega)]
 ·rw [AD.Ie _ (by simp; omega), if_neg (by omega), AD.Ie _ (by omega)]
theorem AD.Bh (o : BY) : (h.push o).get h.size = some o := by rw [h.HF, if_pos rfl]
theorem AD.BR (o : BY) {j : Nat} (hj : j < h.size) : (h.push o).get j = h.get j := by rw [h.HF, if_neg (by omega)]
end
theorem Dt : ∀ (l : List AA) (i : Nat), nth l i = l.getD i (.tuple [])
 | [], i => by simp [nth]
 | a :: l, 0 => by simp [nth]
 | a :: l, i + 1 => by simpa [nth] using Dt l i
theorem EA (l : List AA) (i j : Nat) (v : AA) : nth (l.set i v) j = if i = j ∧ i < l.length then v else nth l j := by
 simp only [Dt, List.getD_eq_getElem?_getD, List.getElem?_set]
 by_cases h : i = j
 ·subst h
  by_cases hl : i < l.length <;> simp [hl]
 ·simp [h]
@[simp] theorem SM (fr : Fr) (d : Option Tmp) (v : AA) : (put fr d v).length = fr.length := by cases d <;> simp [put]
structure Jl where
 g : Nat
 base : Nat
 Tm : Nat
 total : Nat
structure Aq where
 i : Nat → Option Jl
 fz : Nat → Nat → Option Value
 df : Nat → Obj → Prop := fun _ _ => False
instance : CoeFun Aq (fun _ => Nat → Option Jl) := ⟨Aq.i⟩
inductive VR (m : Aq) : AA → Value → Prop where
 | undef (v : Value) : VR m .undef v
 | bool (b : Bool) : VR m (.bool b) (.bool b)
 | int (k : IntKind) (n : Int) : VR m (.int k n) (.int k n)
 | str (s : ByteArray) : VR m (.str s.data.toList) (.string s)
 | nilPtr : VR m (.ptr none) (.pointer none)
 | ptr (id o : Nat) (E : Jl) : m id = some E → VR m (.ptr (some (id, o))) (.pointer (some ⟨E.g, E.base + o, none⟩))
 | H9 (g o : Nat) : VR m (.H9 g o) (.pointer (some ⟨g, o, none⟩))
 | Cw : VR m (.slice none 0) (.slice none 0 0)
 | Dx (a : Addr) : VR m (.slice none 0) (.slice (some a) 0 0)
 | slice (id o len cap : Nat) (E : Jl) (a : Addr) : m id = some E → len ≤ cap → (cap ≠ 0 → a = ⟨E.g, E.base + o, none⟩ ∧ (E.Tm ≠ 0 → E.base + o + cap * E.Tm ≤ E.total)) → VR m (.slice (some (id, o)) len) (.slice (some a) len cap)
 | Jq : VR m (.map none) (.map none)
 | map (id : Nat) (E : Jl) : m id = some E → VR m (.map (some id)) (.map (some E.g))
 | Ij : VR m (.chan none) (.chan none)
 | chan (id : Nat) (E : Jl) : m id = some E → VR m (.chan (some id)) (.chan (some E.g))
 | func (fn : Fn) (a b : List AA) (c d : Array Value) : a.length = c.size → (∀ (i : Nat) (x : AA) (y : Value), a[i]? = some x → c[i]? = some y → VR m x y) → b.length = d.size → (∀ (i : Nat) (x : AA) (y : Value), b[i]? = some x → d[i]? = some y → VR m x y) → VR m (.func fn a b) (.func fn c d)
 | nilFunc : VR m .nilFunc .nilFunc
 | iface (t : TypeId) (x : AA) (y : Value) : VR m x y → VR m (.iface t x) (.iface t y)
 | nilIface : VR m .nilIface .nilIface
 | agg (a : List AA) (c : Array Value) : a.length = c.size → (∀ (i : Nat) (x : AA) (y : Value), a[i]? = some x → c[i]? = some y → VR m x y) → VR m (.agg a) (.agg c)
 | tuple (a : List AA) (c : Array Value) : a.length = c.size → (∀ (i : Nat) (x : AA) (y : Value), a[i]? = some x → c[i]? = some y → VR m x y) → VR m (.tuple a) (.tuple c)
 | Ur (l : Nat) (E : Jl) : m l = some E → VR m (.Ur l) (.func (.yield E.g) #[] #[])
 | IP (a : Option Addr) (cap : Nat) : VR m (.Gg 0 []) (.slice a 0 cap)
 | Gg (n cap g o : Nat) (a : List AA) (c : Nat → Value) : n ≤ cap → (∀ i, i < a.length → m.fz g (o + i) = some (c i)) → (∀ (i : Nat) (x : AA), a[i]? = some x → VR m x (c i)) → VR m (.Gg n a) (.slice (some ⟨g, o, none⟩) n cap)
 | AR (g o : Nat) (a : List AA) (c : Nat → Value) : (∀ i, i < a.length → m.fz g (o + i) = some (c i)) → (∀ (i : Nat) (x : AA), a[i]? = some x → VR m x (c i)) → VR m (.AR a) (.pointer (some ⟨g, o, none⟩))
def Ba (m : Aq) (a : List AA) (c : List Value) : Prop := a.length = c.length ∧ ∀ (i : Nat) (x : AA) (y : Value), a[i]? = some x → c[i]? = some y → VR m x y
structure Aq.le (m m' : Aq) : Prop where
 i : ∀ id E, m id = some E → m' id = some E
 fz : ∀ g o v, m.fz g o = some v → m'.fz g o = some v
theorem VR.mono {m m' : Aq} (hm : m.le m') {x : AA} {y : Value} (h : VR m x y) : VR m' x y := by
 induction h with
 | undef v => exact .undef v
 | bool b => exact .bool b
 | int k n => exact .int k n
 | str s => exact .str s
 | nilPtr => exact .nilPtr
 | ptr id o E h => exact .ptr id o E (hm.i _ _ h)
 | H9 g o => exact .H9 g o
 | Cw => exact .Cw
 | Dx a => exact .Dx a
 | slice id o len cap E a h hl hc => exact .slice id o len cap E a (hm.i _ _ h) hl hc
 | Jq => exact .Jq
 | map id E h => exact .map id E (hm.i _ _ h)
 | Ij => exact .Ij
 | chan id E h => exact .chan id E (hm.i _ _ h)
 | func fn a b c d h1 _ h2 _ i1 i2 => exact .func fn a b c d h1 i1 h2 i2
 | nilFunc => exact .nilFunc
 | iface t x y _ ih => exact .iface t x y ih
 | nilIface => exact .nilIface
 | agg a c h _ ih => exact .agg a c h ih
 | tuple a c h _ ih => exact .tuple a c h ih
 | Ur l E h => exact .Ur l E (hm.i _ _ h)
 | IP a cap => exact .IP a cap
 | Gg n cap g o a c hc hf _ ih => exact .Gg n cap g o a c hc (fun i hi => hm.fz _ _ _ (hf i hi)) ih
 | AR g o a c hf _ ih => exact .AR g o a c (fun i hi => hm.fz _ _ _ (hf i hi)) ih
def Aq.with (m m' : Aq) : Aq := ⟨m.i, m'.fz, m'.df⟩
theorem VR.back {m m' : Aq} (hm : m.le m') {x : AA} {y : Value} (h : VR m x y) : ∀ {z : Value}, VR m' x z → VR (m.with m') x z := by
 induction h with
 | undef v => intro z _; exact .undef z
 | bool b => intro z hz; cases hz; exact .bool b
 | int k n => intro z hz; cases hz; exact .int k n
 | str s => intro z hz; generalize hs : s.data.toList = l at hz; cases hz; exact .str _
 | nilPtr => intro z hz; cases hz; exact .nilPtr
 | ptr id o E h =>
  intro z hz
  cases hz with
  | ptr _ _ E' h' =>
   have := (hm.i _ _ h).symm.trans h'
   injection this with this
   subst this
   exact .ptr id o _ h
 | H9 g o => intro z hz; cases hz; exact .H9 g o
 | Cw => intro z hz; cases hz <;> first | exact .Cw | exact .Dx _
 | Dx a => intro z hz; cases hz <;> first | exact .Cw | exact .Dx _
 | slice id o len cap E a h hl hc =>
  intro z hz
  cases hz with
  | slice _ _ _ cap' E' a' h' hl' hc' =>
   have := (hm.i _ _ h).symm.trans h'
   injection this with this
   subst this
   exact .slice id o len cap' _ a' h hl' hc'
 | Jq => intro z hz; cases hz; exact .Jq
 | map id E h =>
  intro z hz
  cases hz with
  | map _ E' h' =>
   have := (hm.i _ _ h).symm.trans h'
   injection this with this
   subst this
   exact .map id _ h
 | Ij => intro z hz; cases hz; exact .Ij
 | chan id E h =>
  intro z hz
  cases hz with
  | chan _ E' h' =>
   have := (hm.i _ _ h).symm.trans h'
   injection this with this
   subst this
   exact .chan id _ h
 | func fn a b c d h1 k1 h2 k2 i1 i2 =>
  intro z hz
  cases hz with
  | func _ _ _ c' d' h1' k1' h2' k2' =>
   refine .func fn a b c' d' h1' (fun i x y hx hy => ?_) h2' (fun i x y hx hy => ?_)
   ·have hi : i < c.size := by have := (List.getElem?_eq_some_iff.1 hx).1; omega
    exact i1 i x _ hx (Array.getElem?_eq_getElem hi) (k1' i x y hx hy)
   ·have hi : i < d.size := by have := (List.getElem?_eq_some_iff.1 hx).1; omega
    exact i2 i x _ hx (Array.getElem?_eq_getElem hi) (k2' i x y hx hy)
 | nilFunc => intro z hz; cases hz; exact .nilFunc
 | iface t x y _ ih => intro z hz; cases hz with | iface _ _ y' h' => exact .iface t x y' (ih h')
 | nilIface => intro z hz; cases hz; exact .nilIface
 | agg a c h k ih =>
  intro z hz
  cases hz with
  | agg _ c' h' k' =>
   refine .agg a c' h' (fun i x y hx hy => ?_)
   have hi : i < c.size := by have := (List.getElem?_eq_some_iff.1 hx).1; omega
   exact ih i x _ hx (Array.getElem?_eq_getElem hi) (k' i x y hx hy)
 | tuple a c h k ih =>
  intro z hz
  cases hz with
  | tuple _ c' h' k' =>
   refine .tuple a c' h' (fun i x y hx hy => ?_)
   have hi : i < c.size := by have := (List.getElem?_eq_some_iff.1 hx).1; omega
   exact ih i x _ hx (Array.getElem?_eq_getElem hi) (k' i x y hx hy)
 | Ur l E h =>
  intro z hz
  cases hz with
  | Ur _ E' h' =>
   have := (hm.i _ _ h).symm.trans h'
   injection this with this
   subst this
   exact .Ur l _ h
 | IP a cap => intro z hz; cases hz with
  | IP a' cap' => exact .IP a' cap'
  | Gg _ cap' g o _ c hc hf hv => exact .Gg 0 cap' g o [] c hc (fun i hi => by simp at hi) (fun i x hx => by simp at hx)
 | Gg n cap g o a c hc hf hv ih => intro z hz; cases hz with
  | IP a' cap' => exact .IP a' cap'
  | Gg _ cap' g' o' _ c' hc' hf' hv' => exact .Gg n cap' g' o' a c' hc' hf' (fun i x hx => ih i x hx (hv' i x hx))
 | AR g o a c hf hv ih => intro z hz; cases hz with
  | AR g' o' _ c' hf' hv' => exact .AR g' o' a c' hf' (fun i x hx => ih i x hx (hv' i x hx))
theorem Ba.mono {m m' : Aq} (hm : m.le m') {a : List AA} {c : List Value} (h : Ba m a c) : Ba m' a c := ⟨h.1, fun i x y hx hy => (h.2 i x y hx hy).mono hm⟩
theorem Ba.nil (m : Aq) : Ba m [] [] := ⟨rfl, fun i x y h => by simp at h⟩
theorem Ba.cons {m : Aq} {x : AA} {y : Value} {a : List AA} {c : List Value} (h : VR m x y) (k : Ba m a c) : Ba m (x :: a) (y :: c) := by
 refine ⟨by simp [k.1], fun i u v hu hv => ?_⟩
 cases i with
 | zero => simp at hu hv; subst hu; subst hv; exact h
 | succ i => exact k.2 i u v (by simpa using hu) (by simpa using hv)
theorem Ba.app {m : Aq} {a b : List AA} {c d : List Value} (h : Ba m a c) (k : Ba m b d) : Ba m (a ++ b) (c ++ d) := by
 refine ⟨by simp [h.1, k.1], fun i x y hx hy => ?_⟩
 by_cases hi : i < a.length
 ·rw [List.getElem?_append_left hi] at hx
  rw [List.getElem?_append_left (by rw [← h.1]; exact hi)] at hy
  exact h.2 i x y hx hy
 ·rw [List.getElem?_append_right (by omega)] at hx
  rw [List.getElem?_append_right (by rw [← h.1]; omega), ← h.1] at hy
  exact k.2 _ x y hx hy
theorem Ba.take {m : Aq} {a : List AA} {c : List Value} (h : Ba m a c) (n : Nat) : Ba m (a.take n) (c.take n) := by
 refine ⟨by simp [h.1], fun i x y hx hy => ?_⟩
 rw [List.getElem?_take] at hx hy
 split at hx
 ·rename_i hi; rw [if_pos hi] at hy; exact h.2 i x y hx hy
 ·cases hx
theorem Ba.drop {m : Aq} {a : List AA} {c : List Value} (h : Ba m a c) (n : Nat) : Ba m (a.drop n) (c.drop n) := by
 refine ⟨by simp [h.1], fun i x y hx hy => ?_⟩
 rw [List.getElem?_drop] at hx hy
 exact h.2 _ x y hx hy
theorem Ba.map {m : Aq} {α : Type} (f : α → AA) (g : α → Value) : ∀ (l : List α), (∀ x ∈ l, VR m (f x) (g x)) → Ba m (l.map f) (l.map g)
 | [], _ => .nil m
 | x :: l, h => .cons (h x (by simp)) (Ba.map f g l fun y hy => h y (by simp [hy]))
theorem Ba.DT {m : Aq} {a b : List AA} {c d : List Value} (h : Ba m a c) (k : Ba m b d) (o : Nat) : Ba m (DT a o b) (c.take o ++ (d ++ c.drop (o + d.length))) := by
 unfold Av.DT
 rw [k.1]
 exact (h.take o).app (k.app (h.drop _))
theorem Ba.at_ {m : Aq} {a : List AA} {c : List Value} (h : Ba m a c) {i : Nat} {x : AA} (hx : a[i]? = some x) : ∃ y, c[i]? = some y ∧ VR m x y := by
 have hi : i < c.length := by rw [← h.1]; exact (List.getElem?_eq_some_iff.1 hx).1
 exact ⟨_, List.getElem?_eq_getElem hi, h.2 i x _ hx (List.getElem?_eq_getElem hi)⟩
theorem Ba.Vr {m : Aq} {a : List AA} {c : Array Value} (h : VR m (.agg a) (.agg c)) : Ba m a c.toList := by
 cases h with
 | agg _ _ hl hv => exact ⟨by simpa using hl, fun i x y hx hy => hv i x y hx (by simpa using hy)⟩
theorem Ba.agg {m : Aq} {a : List AA} {c : Array Value} (h : Ba m a c.toList) : VR m (.agg a) (.agg c) :=
 .agg a c (by simpa using h.1) fun i x y hx hy => h.2 i x y hx (by simpa using hy)
theorem Ba.tuple {m : Aq} {a : List AA} {c : Array Value} (h : Ba m a c.toList) : VR m (.tuple a) (.tuple c) :=
 .tuple a c (by simpa using h.1) fun i x y hx hy => h.2 i x y hx (by simpa using hy)
theorem Ba.Uy {m : Aq} {a : List AA} {c : Array Value} (h : VR m (.tuple a) (.tuple c)) : Ba m a c.toList := by
 cases h with
 | tuple _ _ hl hv => exact ⟨by simpa using hl, fun i x y hx hy => hv i x y hx (by simpa using hy)⟩
theorem VR.G4 {m : Aq} {a : List AA} {v : Value} (h : VR m (.tuple a) v) : ∃ c, v = .tuple c ∧ Ba m a c.toList := by
 cases h with
 | tuple _ c hl hv => exact ⟨c, rfl, Ba.Uy (.tuple a c hl hv)⟩
theorem VR.Em {m : Aq} {a : List AA} {v : Value} (h : VR m (.agg a) v) : ∃ c, v = .agg c ∧ Ba m a c.toList := by
 cases h with
 | agg _ c hl hv => exact ⟨c, rfl, Ba.Vr (.agg a c hl hv)⟩
theorem VR.Cv {m : Aq} {s : List UInt8} {v : Value} (h : VR m (.str s) v) : v = .string ⟨⟨s⟩⟩ := by
 generalize hx : AA.str s = x at h
 cases h with
 | str b => injection hx with hx; subst hx; rfl
 | _ => cases hx
theorem VR.MD (m : Aq) (v : Value) : VR m (MD v) v := by
 unfold Av.MD
 split
 ·exact .bool _
 ·exact .int _ _
 ·exact .str _
 ·exact .nilPtr
 ·exact .Cw
 ·exact .Jq
 ·exact .Ij
 ·exact .nilFunc
 ·exact .nilIface
 ·exact .undef _
theorem Ba.MD (m : Aq) (l : List Value) : Ba m (l.map Av.MD) l := by
 have := Ba.map (m := m) Av.MD id l (fun x _ => VR.MD m x)
 simpa using this
theorem VR.Wp (m : Aq) (v : Value) : VR m (Wp v) v := by
 unfold Av.Wp
 split
 ·exact Ba.agg (Ba.MD m _)
 ·exact Ba.tuple (Ba.MD m _)
 ·exact VR.MD m _
theorem VR.KM {m : Aq} {g o : Nat} {a : List AA} {c : Nat → Value} (hf : ∀ i, i < a.length → m.fz g (o + i) = some (c i)) (hv : ∀ (i : Nat) (x : AA), a[i]? = some x → VR m x (c i)) (k : Nat) : VR m (.AR (a.drop k)) (.pointer (some ⟨g, o + k, none⟩)) :=
 .AR g (o + k) _ (fun i => c (k + i)) (fun i hi => by rw [List.length_drop] at hi; rw [Nat.add_assoc]; exact hf _ (by omega)) (fun i x hx => hv _ x (by rw [List.getElem?_drop] at hx; exact hx))
theorem VR.O7 {m : Aq} {a : List AA} {v : Value} (h : VR m (.AR a) v) (k : Nat) : VR m (.AR (a.take k)) v := by
 cases h with
 | AR g o _ c hf hv => exact .AR g o _ c (fun i hi => hf i (by rw [List.length_take] at hi; omega)) (fun i x hx => hv i x (by rw [List.getElem?_take] at hx; split at hx; exact hx; cases hx))
theorem VR.cells {m : Aq} {x : AA} {v : Value} (h : VR m x v) {cs : List AA} (hc : x.cells? = some cs) : Ba m cs v.cells.toList := by
 cases h <;> simp [AA.cells?] at hc
 case agg a c hl hv => subst hc; exact Ba.Vr (.agg _ c hl hv)
 all_goals
  subst hc
  refine .cons ?_ (.nil m)
  first
   | exact .bool _ | exact .int _ _ | exact .str _ | exact .nilPtr | exact .H9 _ _ | exact .Cw | exact .Jq | exact .Ij | exact .nilFunc | exact .nilIface
   | (constructor <;> assumption)
theorem VR.one {m : Aq} {x : AA} {v : Value} (h : VR m x v) (h1 : x.one = true) : v.oneCell' = true := by
 cases h <;> first | rfl | simp [AA.one] at h1
