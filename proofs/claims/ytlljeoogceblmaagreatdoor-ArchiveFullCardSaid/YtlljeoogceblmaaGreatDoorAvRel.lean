/-
 A part.
-/
import Derived.Test.YtlljeoogceblmaaGreatDoorAvDef
import Derived.Below
import Derived.Laws.Entries
namespace Go.Av
open Go.RowKit
theorem G6 {α : Type} (i j : Nat) (a b : α) : (bif Nat.beq i j then a else b) = if i = j then a else b := by
 by_cases h : i = j
 ·subst h; simp [Nat.beq_refl]
 ·have : Nat.beq i j = false := by
   cases e : Nat.beq i j
   ·rfl
   ·exact absurd (Nat.eq_of_beq_eq_true e) h
  simp [this, h]
theorem Tr.Jr {α : Type} (l r : Tr α) (v : Option α) (j : Nat) : (Tr.node l v r).get j = if j = 0 then v else if j % 2 = 1 then l.get (j / 2) else r.get (j / 2 - 1) := by
 simp only [Tr.get, G6]
theorem Tr.UT {α : Type} (f : Nat) (l r : Tr α) (v : Option α) (i : Nat) (x : α) : Tr.set (f + 1) (.node l v r) i x =
  if i = 0 then .node l (some x) r else if i % 2 = 1 then .node (Tr.set f l (i / 2) x) v r else .node l v (Tr.set f r (i / 2 - 1) x) := by
 simp only [Tr.set, G6]
theorem Tr.UH {α : Type} (f : Nat) (i : Nat) (x : α) : Tr.set (f + 1) .leaf i x = Tr.set (f + 1) (.node .leaf none .leaf) i x := by
 simp only [Tr.set]
theorem Tr.G7 {α : Type} : ∀ (f : Nat) (t : Tr α) (i j : Nat) (x : α), i < f → (Tr.set f t i x).get j = if j = i then some x else t.get j
 | 0, _, _, _, _, h => absurd h (by omega)
 | f + 1, t, i, j, x, h => by
  have ih := fun t i j => Tr.G7 f t i j x
  have key : ∀ l v r, (Tr.set (f + 1) (.node l v r) i x).get j = if j = i then some x else (Tr.node l v r).get j := by
   intro l v r
   rw [Tr.UT, Tr.Jr]
   by_cases hi : i = 0
   ·subst hi
    rw [if_pos rfl, Tr.Jr]
    by_cases F : j = 0
    ·rw [if_pos F, if_pos F]
    ·simp only [if_neg F]
   ·rw [if_neg hi]
    by_cases h1 : i % 2 = 1
    ·rw [if_pos h1, Tr.Jr]
     by_cases F : j = 0
     ·rw [if_pos F, if_pos F, if_neg (by omega)]
     ·rw [if_neg F, if_neg F]
      by_cases h2 : j % 2 = 1
      ·rw [if_pos h2, if_pos h2, ih _ _ _ (by omega)]
       by_cases I : j = i
       ·rw [if_pos I, if_pos (by omega)]
       ·rw [if_neg I, if_neg (by omega)]
      ·rw [if_neg h2, if_neg h2, if_neg (by omega)]
    ·rw [if_neg h1, Tr.Jr]
     by_cases F : j = 0
     ·rw [if_pos F, if_pos F, if_neg (by omega)]
     ·rw [if_neg F, if_neg F]
      by_cases h2 : j % 2 = 1
      ·rw [if_pos h2, if_pos h2, if_neg (by omega)]
      ·rw [if_neg h2, if_neg h2, ih _ _ _ (by omega)]
       by_cases I : j = i
       ·rw [if_pos I, if_pos (by omega)]
       ·rw [if_neg I, if_neg (by omega)]
  cases t with
  | node l v r => exact key l v r
  | leaf =>
   rw [Tr.UH, key]
   congr 1
   rw [Tr.Jr]
   simp [Tr.get]
section
variable (h : AF)
@[simp] theorem AF.size_set (i : Nat) (o : CJ) : (h.set i o).size = h.size := rfl
@[simp] theorem AF.size_push (o : CJ) : (h.push o).size = h.size + 1 := rfl
theorem AF.Iz {i : Nat} (hi : h.size ≤ i) : h.get i = none := by
 have : Nat.blt i h.size = false := by
  cases e : Nat.blt i h.size
  ·rfl
  ·rw [Nat.blt_eq] at e; omega
 simp [AF.get, this]
theorem AF.BV {i : Nat} {o : CJ} (hi : h.get i = some o) : i < h.size := by
 rcases Nat.lt_or_ge i h.size with H | H
 ·exact H
 ·rw [h.Iz H] at hi; cases hi
theorem AF.get_eq {i : Nat} (hi : i < h.size) : h.get i = h.tr.get i := by
 have : Nat.blt i h.size = true := by rw [Nat.blt_eq]; exact hi
 simp [AF.get, this]
theorem AF.G7 (i j : Nat) (o : CJ) (hi : i < h.size) : (h.set i o).get j = if j = i then some o else h.get j := by
 by_cases F : j < h.size
 ·rw [AF.get_eq _ (by simpa using F), AF.get_eq _ F]
  exact Tr.G7 _ _ _ _ _ (by omega)
 ·rw [AF.Iz _ (by simpa using Nat.le_of_not_lt F), AF.Iz _ (Nat.le_of_not_lt F), if_neg (by omega)]
theorem AF.get_set_same {i : Nat} (o : CJ) (hi : i < h.size) : (h.set i o).get i = some o := by rw [h.G7 _ _ _ hi, if_pos rfl]
theorem AF.Bc {i j : Nat} (o : CJ) (hi : i < h.size) (hne : j ≠ i) : (h.set i o).get j = h.get j := by rw [h.G7 _ _ _ hi, if_neg hne]
theorem AF.Hq (o : CJ) (j : Nat) : (h.push o).get j = if j = h.size then some o else h.get j := by
 by_cases F : j < h.size + 1
 ·rw [AF.get_eq _ (by simpa using F)]
  show (Tr.set (h.size + 1) h.tr h.size o).get j = _
  rw [Tr.G7 _ _ _ _ _ (by omega)]
  by_cases e : j = h.size
  ·simp [e]
  ·rw [if_neg e, if_neg e, AF.get_eq _ (by omega)]
 ·rw [AF.Iz _ (by simp; omega), if_neg (by omega), AF.Iz _ (by omega)]
theorem AF.CB (o : CJ) : (h.push o).get h.size = some o := by rw [h.Hq, if_pos rfl]
theorem AF.B1 (o : CJ) {j : Nat} (F : j < h.size) : (h.push o).get j = h.get j := by rw [h.Hq, if_neg (by omega)]
end
theorem EW : ∀ (l : List AB) (i : Nat), nth l i = l.getD i (.tuple [])
 | [], i => by simp [nth]
 | a :: l, 0 => by simp [nth]
 | a :: l, i + 1 => by simpa [nth] using EW l i
theorem Ee (l : List AB) (i j : Nat) (v : AB) : nth (l.set i v) j = if i = j ∧ i < l.length then v else nth l j := by
 simp only [EW, List.getD_eq_getElem?_getD, List.getElem?_set]
 by_cases h : i = j
 ·subst h
  by_cases H : i < l.length <;> simp [H]
 ·simp [h]
@[simp] theorem RJ (fr : Fr) (d : Option Tmp) (v : AB) : (put fr d v).length = fr.length := by cases d <;> simp [put]
structure Km where
 g : Nat
 base : Nat
 SQ : Nat
 total : Nat
structure BK where
 i : Nat → Option Km
 fz : Nat → Nat → Option Value
 df : Nat → Obj → Prop := fun _ _ => False
instance : CoeFun BK (fun _ => Nat → Option Km) := ⟨BK.i⟩
inductive VR (m : BK) : AB → Value → Prop where
 | undef (v : Value) : VR m .undef v
 | bool (b : Bool) : VR m (.bool b) (.bool b)
 | int (k : IntKind) (n : Int) : VR m (.int k n) (.int k n)
 | str (s : ByteArray) : VR m (.str s.data.toList) (.string s)
 | nilPtr : VR m (.ptr none) (.pointer none)
 | ptr (id o : Nat) (E : Km) : m id = some E → VR m (.ptr (some (id, o))) (.pointer (some ⟨E.g, E.base + o, none⟩))
 | IQ (g o : Nat) : VR m (.IQ g o) (.pointer (some ⟨g, o, none⟩))
 | DY : VR m (.slice none 0) (.slice none 0 0)
 | EO (a : Addr) : VR m (.slice none 0) (.slice (some a) 0 0)
 | slice (id o len cap : Nat) (E : Km) (a : Addr) : m id = some E → len ≤ cap → (cap ≠ 0 → a = ⟨E.g, E.base + o, none⟩ ∧ (E.SQ ≠ 0 → E.base + o + cap * E.SQ ≤ E.total)) → VR m (.slice (some (id, o)) len) (.slice (some a) len cap)
 | Jn : VR m (.map none) (.map none)
 | map (id : Nat) (E : Km) : m id = some E → VR m (.map (some id)) (.map (some E.g))
 | JC : VR m (.chan none) (.chan none)
 | chan (id : Nat) (E : Km) : m id = some E → VR m (.chan (some id)) (.chan (some E.g))
 | func (fn : Fn) (a b : List AB) (c d : Array Value) : a.length = c.size → (∀ (i : Nat) (x : AB) (y : Value), a[i]? = some x → c[i]? = some y → VR m x y) → b.length = d.size → (∀ (i : Nat) (x : AB) (y : Value), b[i]? = some x → d[i]? = some y → VR m x y) → VR m (.func fn a b) (.func fn c d)
 | nilFunc : VR m .nilFunc .nilFunc
 | iface (t : TypeId) (x : AB) (y : Value) : VR m x y → VR m (.iface t x) (.iface t y)
 | nilIface : VR m .nilIface .nilIface
 | agg (a : List AB) (c : Array Value) : a.length = c.size → (∀ (i : Nat) (x : AB) (y : Value), a[i]? = some x → c[i]? = some y → VR m x y) → VR m (.agg a) (.agg c)
 | tuple (a : List AB) (c : Array Value) : a.length = c.size → (∀ (i : Nat) (x : AB) (y : Value), a[i]? = some x → c[i]? = some y → VR m x y) → VR m (.tuple a) (.tuple c)
 | VJ (l : Nat) (E : Km) : m l = some E → VR m (.VJ l) (.func (.yield E.g) #[] #[])
 | Jk (a : Option Addr) (cap : Nat) : VR m (.Gt 0 []) (.slice a 0 cap)
 | Gt (n cap g o : Nat) (a : List AB) (c : Nat → Value) : n ≤ cap → (∀ i, i < a.length → m.fz g (o + i) = some (c i)) → (∀ (i : Nat) (x : AB), a[i]? = some x → VR m x (c i)) → VR m (.Gt n a) (.slice (some ⟨g, o, none⟩) n cap)
 | An (g o : Nat) (a : List AB) (c : Nat → Value) : (∀ i, i < a.length → m.fz g (o + i) = some (c i)) → (∀ (i : Nat) (x : AB), a[i]? = some x → VR m x (c i)) → VR m (.An a) (.pointer (some ⟨g, o, none⟩))
def CS (m : BK) (a : List AB) (c : List Value) : Prop := a.length = c.length ∧ ∀ (i : Nat) (x : AB) (y : Value), a[i]? = some x → c[i]? = some y → VR m x y
structure BK.le (m m' : BK) : Prop where
 i : ∀ id E, m id = some E → m' id = some E
 fz : ∀ g o v, m.fz g o = some v → m'.fz g o = some v
theorem VR.mono {m m' : BK} (hm : m.le m') {x : AB} {y : Value} (h : VR m x y) : VR m' x y := by
 induction h with
 | undef v => exact .undef v
 | bool b => exact .bool b
 | int k n => exact .int k n
 | str s => exact .str s
 | nilPtr => exact .nilPtr
 | ptr id o E h => exact .ptr id o E (hm.i _ _ h)
 | IQ g o => exact .IQ g o
 | DY => exact .DY
 | EO a => exact .EO a
 | slice id o len cap E a h H hc => exact .slice id o len cap E a (hm.i _ _ h) H hc
 | Jn => exact .Jn
 | map id E h => exact .map id E (hm.i _ _ h)
 | JC => exact .JC
 | chan id E h => exact .chan id E (hm.i _ _ h)
 | func fn a b c d h1 _ h2 _ i1 i2 => exact .func fn a b c d h1 i1 h2 i2
 | nilFunc => exact .nilFunc
 | iface t x y _ ih => exact .iface t x y ih
 | nilIface => exact .nilIface
 | agg a c h _ ih => exact .agg a c h ih
 | tuple a c h _ ih => exact .tuple a c h ih
 | VJ l E h => exact .VJ l E (hm.i _ _ h)
 | Jk a cap => exact .Jk a cap
 | Gt n cap g o a c hc J _ ih => exact .Gt n cap g o a c hc (fun i hi => hm.fz _ _ _ (J i hi)) ih
 | An g o a c J _ ih => exact .An g o a c (fun i hi => hm.fz _ _ _ (J i hi)) ih
def BK.with (m m' : BK) : BK := ⟨m.i, m'.fz, m'.df⟩
theorem VR.back {m m' : BK} (hm : m.le m') {x : AB} {y : Value} (h : VR m x y) : ∀ {z : Value}, VR m' x z → VR (m.with m') x z := by
 induction h with
 | undef v => intro z _; exact .undef z
 | bool b => intro z C; cases C; exact .bool b
 | int k n => intro z C; cases C; exact .int k n
 | str s => intro z C; generalize hs : s.data.toList = l at C; cases C; exact .str _
 | nilPtr => intro z C; cases C; exact .nilPtr
 | ptr id o E h =>
  intro z C
  cases C with
  | ptr _ _ E' h' =>
   have := (hm.i _ _ h).symm.trans h'
   injection this with this
   subst this
   exact .ptr id o _ h
 | IQ g o => intro z C; cases C; exact .IQ g o
 | DY => intro z C; cases C <;> first | exact .DY | exact .EO _
 | EO a => intro z C; cases C <;> first | exact .DY | exact .EO _
 | slice id o len cap E a h H hc =>
  intro z C
  cases C with
  | slice _ _ _ cap' E' a' h' hl' M =>
   have := (hm.i _ _ h).symm.trans h'
   injection this with this
   subst this
   exact .slice id o len cap' _ a' h hl' M
 | Jn => intro z C; cases C; exact .Jn
 | map id E h =>
  intro z C
  cases C with
  | map _ E' h' =>
   have := (hm.i _ _ h).symm.trans h'
   injection this with this
   subst this
   exact .map id _ h
 | JC => intro z C; cases C; exact .JC
 | chan id E h =>
  intro z C
  cases C with
  | chan _ E' h' =>
   have := (hm.i _ _ h).symm.trans h'
   injection this with this
   subst this
   exact .chan id _ h
 | func fn a b c d h1 k1 h2 k2 i1 i2 =>
  intro z C
  cases C with
  | func _ _ _ c' d' h1' k1' h2' k2' =>
   refine .func fn a b c' d' h1' (fun i x y B D => ?_) h2' (fun i x y B D => ?_)
   ·have hi : i < c.size := by have := (List.getElem?_eq_some_iff.1 B).1; omega
    exact i1 i x _ B (Array.getElem?_eq_getElem hi) (k1' i x y B D)
   ·have hi : i < d.size := by have := (List.getElem?_eq_some_iff.1 B).1; omega
    exact i2 i x _ B (Array.getElem?_eq_getElem hi) (k2' i x y B D)
 | nilFunc => intro z C; cases C; exact .nilFunc
 | iface t x y _ ih => intro z C; cases C with | iface _ _ y' h' => exact .iface t x y' (ih h')
 | nilIface => intro z C; cases C; exact .nilIface
 | agg a c h k ih =>
  intro z C
  cases C with
  | agg _ c' h' k' =>
   refine .agg a c' h' (fun i x y B D => ?_)
   have hi : i < c.size := by have := (List.getElem?_eq_some_iff.1 B).1; omega
   exact ih i x _ B (Array.getElem?_eq_getElem hi) (k' i x y B D)
 | tuple a c h k ih =>
  intro z C
  cases C with
  | tuple _ c' h' k' =>
   refine .tuple a c' h' (fun i x y B D => ?_)
   have hi : i < c.size := by have := (List.getElem?_eq_some_iff.1 B).1; omega
   exact ih i x _ B (Array.getElem?_eq_getElem hi) (k' i x y B D)
 | VJ l E h =>
  intro z C
  cases C with
  | VJ _ E' h' =>
   have := (hm.i _ _ h).symm.trans h'
   injection this with this
   subst this
   exact .VJ l _ h
 | Jk a cap => intro z C; cases C with
  | Jk a' cap' => exact .Jk a' cap'
  | Gt _ cap' g o _ c hc J G => exact .Gt 0 cap' g o [] c hc (fun i hi => by simp at hi) (fun i x B => by simp at B)
 | Gt n cap g o a c hc J G ih => intro z C; cases C with
  | Jk a' cap' => exact .Jk a' cap'
  | Gt _ cap' g' o' _ c' M L K => exact .Gt n cap' g' o' a c' M L (fun i x B => ih i x B (K i x B))
 | An g o a c J G ih => intro z C; cases C with
  | An g' o' _ c' L K => exact .An g' o' a c' L (fun i x B => ih i x B (K i x B))
theorem CS.mono {m m' : BK} (hm : m.le m') {a : List AB} {c : List Value} (h : CS m a c) : CS m' a c := ⟨h.1, fun i x y B D => (h.2 i x y B D).mono hm⟩
theorem CS.nil (m : BK) : CS m [] [] := ⟨rfl, fun i x y h => by simp at h⟩
theorem CS.cons {m : BK} {x : AB} {y : Value} {a : List AB} {c : List Value} (h : VR m x y) (k : CS m a c) : CS m (x :: a) (y :: c) := by
 refine ⟨by simp [k.1], fun i u v hu G => ?_⟩
 cases i with
 | zero => simp at hu G; subst hu; subst G; exact h
 | succ i => exact k.2 i u v (by simpa using hu) (by simpa using G)
theorem CS.app {m : BK} {a b : List AB} {c d : List Value} (h : CS m a c) (k : CS m b d) : CS m (a ++ b) (c ++ d) := by
 refine ⟨by simp [h.1, k.1], fun i x y B D => ?_⟩
 by_cases hi : i < a.length
 ·rw [List.getElem?_append_left hi] at B
  rw [List.getElem?_append_left (by rw [← h.1]; exact hi)] at D
  exact h.2 i x y B D
 ·rw [List.getElem?_append_right (by omega)] at B
  rw [List.getElem?_append_right (by rw [← h.1]; omega), ← h.1] at D
  exact k.2 _ x y B D
theorem CS.take {m : BK} {a : List AB} {c : List Value} (h : CS m a c) (n : Nat) : CS m (a.take n) (c.take n) := by
 refine ⟨by simp [h.1], fun i x y B D => ?_⟩
 rw [List.getElem?_take] at B D
 split at B
 ·rename_i hi; rw [if_pos hi] at D; exact h.2 i x y B D
 ·cases B
theorem CS.drop {m : BK} {a : List AB} {c : List Value} (h : CS m a c) (n : Nat) : CS m (a.drop n) (c.drop n) := by
 refine ⟨by simp [h.1], fun i x y B D => ?_⟩
 rw [List.getElem?_drop] at B D
 exact h.2 _ x y B D
theorem CS.map {m : BK} {α : Type} (f : α → AB) (g : α → Value) : ∀ (l : List α), (∀ x ∈ l, VR m (f x) (g x)) → CS m (l.map f) (l.map g)
 | [], _ => .nil m
 | x :: l, h => .cons (h x (by simp)) (CS.map f g l fun y D => h y (by simp [D]))
theorem CS.Ds {m : BK} {a b : List AB} {c d : List Value} (h : CS m a c) (k : CS m b d) (o : Nat) : CS m (Ds a o b) (c.take o ++ (d ++ c.drop (o + d.length))) := by
 unfold Av.Ds
 rw [k.1]
 exact (h.take o).app (k.app (h.drop _))
theorem CS.at_ {m : BK} {a : List AB} {c : List Value} (h : CS m a c) {i : Nat} {x : AB} (B : a[i]? = some x) : ∃ y, c[i]? = some y ∧ VR m x y := by
 have hi : i < c.length := by rw [← h.1]; exact (List.getElem?_eq_some_iff.1 B).1
 exact ⟨_, List.getElem?_eq_getElem hi, h.2 i x _ B (List.getElem?_eq_getElem hi)⟩
theorem CS.Ty {m : BK} {a : List AB} {c : Array Value} (h : VR m (.agg a) (.agg c)) : CS m a c.toList := by
 cases h with
 | agg _ _ H G => exact ⟨by simpa using H, fun i x y B D => G i x y B (by simpa using D)⟩
theorem CS.agg {m : BK} {a : List AB} {c : Array Value} (h : CS m a c.toList) : VR m (.agg a) (.agg c) :=
 .agg a c (by simpa using h.1) fun i x y B D => h.2 i x y B (by simpa using D)
theorem CS.tuple {m : BK} {a : List AB} {c : Array Value} (h : CS m a c.toList) : VR m (.tuple a) (.tuple c) :=
 .tuple a c (by simpa using h.1) fun i x y B D => h.2 i x y B (by simpa using D)
theorem CS.Uj {m : BK} {a : List AB} {c : Array Value} (h : VR m (.tuple a) (.tuple c)) : CS m a c.toList := by
 cases h with
 | tuple _ _ H G => exact ⟨by simpa using H, fun i x y B D => G i x y B (by simpa using D)⟩
theorem VR.Il {m : BK} {a : List AB} {v : Value} (h : VR m (.tuple a) v) : ∃ c, v = .tuple c ∧ CS m a c.toList := by
 cases h with
 | tuple _ c H G => exact ⟨c, rfl, CS.Uj (.tuple a c H G)⟩
theorem VR.E7 {m : BK} {a : List AB} {v : Value} (h : VR m (.agg a) v) : ∃ c, v = .agg c ∧ CS m a c.toList := by
 cases h with
 | agg _ c H G => exact ⟨c, rfl, CS.Ty (.agg a c H G)⟩
theorem VR.DJ {m : BK} {s : List UInt8} {v : Value} (h : VR m (.str s) v) : v = .string ⟨⟨s⟩⟩ := by
 generalize B : AB.str s = x at h
 cases h with
 | str b => injection B with B; subst B; rfl
 | _ => cases B
theorem VR.MD (m : BK) (v : Value) : VR m (MD v) v := by
 unfold Av.MD
 split
 ·exact .bool _
 ·exact .int _ _
 ·exact .str _
 ·exact .nilPtr
 ·exact .DY
 ·exact .Jn
 ·exact .JC
 ·exact .nilFunc
 ·exact .nilIface
 ·exact .undef _
theorem CS.MD (m : BK) (l : List Value) : CS m (l.map Av.MD) l := by
 have := CS.map (m := m) Av.MD id l (fun x _ => VR.MD m x)
 simpa using this
theorem VR.VC (m : BK) (v : Value) : VR m (VC v) v := by
 unfold Av.VC
 split
 ·exact CS.agg (CS.MD m _)
 ·exact CS.tuple (CS.MD m _)
 ·exact VR.MD m _
theorem VR.KZ {m : BK} {g o : Nat} {a : List AB} {c : Nat → Value} (J : ∀ i, i < a.length → m.fz g (o + i) = some (c i)) (G : ∀ (i : Nat) (x : AB), a[i]? = some x → VR m x (c i)) (k : Nat) : VR m (.An (a.drop k)) (.pointer (some ⟨g, o + k, none⟩)) :=
 .An g (o + k) _ (fun i => c (k + i)) (fun i hi => by rw [List.length_drop] at hi; rw [Nat.add_assoc]; exact J _ (by omega)) (fun i x B => G _ x (by rw [List.getElem?_drop] at B; exact B))
theorem VR.Oy {m : BK} {a : List AB} {v : Value} (h : VR m (.An a) v) (k : Nat) : VR m (.An (a.take k)) v := by
 cases h with
 | An g o _ c J G => exact .An g o _ c (fun i hi => J i (by rw [List.length_take] at hi; omega)) (fun i x B => G i x (by rw [List.getElem?_take] at B; split at B; exact B; cases B))
theorem VR.cells {m : BK} {x : AB} {v : Value} (h : VR m x v) {cs : List AB} (hc : x.cells? = some cs) : CS m cs v.cells.toList := by
 cases h <;> simp [AB.cells?] at hc
 case agg a c H G => subst hc; exact CS.Ty (.agg _ c H G)
 all_goals
  subst hc
  refine .cons ?_ (.nil m)
  first
   | exact .bool _ | exact .int _ _ | exact .str _ | exact .nilPtr | exact .IQ _ _ | exact .DY | exact .Jn | exact .JC | exact .nilFunc | exact .nilIface
   | (constructor <;> assumption)
theorem VR.one {m : BK} {x : AB} {v : Value} (h : VR m x v) (h1 : x.one = true) : v.oneCell' = true := by
 cases h <;> first | rfl | simp [AB.one] at h1
