/-
 A part.
-/
import Derived.Test.YtdjbadhilkmiiaaGreatDoorAvMap
import Derived.Shelf.SlicesE.Clone
import Derived.Shelf.Spec.SlicesGrow
import Derived.Shelf.SlIter.Nil
import Derived.Shelf.SortM.Plain
import Derived.Shelf.SortM.SortNone
import Derived.Lib.Bytealg
import Derived.Shelf.Strings.Repeat
import Derived.Shelf.Strings.OnBuilder
import Derived.Shelf.Strings.Cut
import Derived.Shelf.Strings.Search3
namespace Go.Av
open Go.RowKit Go.Shelf Go.Proofs Go.Lib Go.Maps Go.MapKept Go.ChangeMaps Go.WideShapes
set_option linter.unusedVariables false
section
variable {P : Program} {w0 : World} {m : Bc} {h : AJ} {w : World}
theorem ES {f : FuncId} {args : Array Value} {Q : Value → World → Prop} (he : ∀ args w, (callFunc f args).run P w = .ok (.enter f args) w) (hc : Calls P f args w fun e w' => ∃ v, e = .returned v ∧ Q v w') : Dq P f args w Q := by
 unfold Dq
 rw [he args w]
 exact hc
theorem Oa {w w' : World} (hb : Below w.heap.size w w') (g : Nat) : Ef w w' g := ⟨hb.os, hb.tape, hb.output, hb.size, fun k hk _ => hb.block k hk⟩
theorem Rel.newAt (r : Rel P w0 m h w) {w' : World} {E : Kf} {o : CY} (ht : Ef w w' E.g) (hg : w.heap.size ≤ E.g)
  (hobj : KD P (m.upd h.size E) w' E o) : Rel P w0 (m.upd h.size E) (h.push o) w' := by
 refine (r.ghost o).place ht (Nat.le_trans r.size hg) (fun id2 E2 o2 h2 ho2 hl2 => ?_) (r.Mg (by omega)) (fun hd => by have := r.LQ hd; omega) (r.fresh (Nat.le_refl _)) (h.Ds o) hobj
 have := ((r.ghost o).obj id2 E2 o2 h2 ho2).lt hl2
 omega
theorem Rel.row (r : Rel P w0 m h w) {w' : World} (hb : Below w.heap.size w w') {e : TypeId} {z n : Nat} {v : Value} {ds : List Value} {cs : List AB} (ho : w'.ownsRow w.heap.size e z v n ds) (hn : v ≠ .slice none 0 0) (hz : I2 P (some e) = z)
  (hv : Cr m cs ds) (h1 : cs.all AB.one = true) : ∃ m' : Bc, m.ext h.size m' ∧ Rel P w0 m' (h.push (.cells (some e) 2 cs)) w' ∧ VR m' (.slice (some (h.size, 0)) n) v := by
 obtain ⟨hl, ⟨h0, _⟩ | ⟨g, cap, cur, rfl, hg, hc, hnc, _, hsz, htk⟩⟩ := ho
 ·exact absurd h0 hn
 ·have hle := Bc.Kc (m := m) (id := h.size) ⟨g, 0, z, cap * z⟩ (r.fresh (Nat.le_refl _))
  refine ⟨m.upd h.size ⟨g, 0, z, cap * z⟩, Bc.L3 m _ (Nat.le_refl _), r.newAt (Oa hb _) hg ?_, ?_⟩
  ·refine Jh (e := e) (fz := (0, 0)) hc rfl hz.symm hsz.symm ?_ h1 (.inl rfl)
   rw [hv.1, hl, htk]
   exact hv.mono hle
  ·exact .slice _ _ _ _ ⟨g, 0, z, cap * z⟩ _ (Bc.Ep _ _ _) hnc (fun _ => ⟨by simp, fun _ => by simp⟩)
def Ko : AB → Option Nat
 | .slice _ n => some n
 | .HE n _ => some n
 | _ => none
theorem Ql (r : Rel P w0 m h w) {z n : Nat} {x : AB} {x' : Value} {cs : List AB} (hx : VR m x x') (hl : Ko x = some n) (h0 : 0 < n) (hf : Dz h z n x = some cs) :
  ∃ b off cap ds, x' = .slice (some ⟨b, off, none⟩) n cap ∧ ds.length = n * z ∧ Cr m cs ds ∧ ∀ (j : Nat) (v : Value), ds[j]? = some v → w.cell? ⟨b, off + j, none⟩ = some v := by
 cases hx <;> simp [Ko] at hl
 case D6 => omega
 case Ea => omega
 case slice id o len cap E a hE hle hc =>
  subst hl
  obtain ⟨rfl, _⟩ := hc (by omega)
  simp only [Dz, if_neg (show ¬ len = 0 by omega)] at hf
  obtain ⟨ds, h1, h2, h3, _⟩ := r.cells hE hf
  exact ⟨_, _, cap, ds, rfl, h1, h2, fun j v hj => by have := h3 j v hj; rwa [Addr.add_lit] at this⟩
 case JS => omega
 case HE len cap g o a c hle hf1 hv =>
  subst hl
  simp only [Dz] at hf
  split at hf
  ·rename_i hb
   injection hf with hf; subst hf
   obtain ⟨ds, h1, h2, h3⟩ := r.Mq hf1 hv
   have e : a.take (len * z) = a := List.take_of_length_le (by omega)
   rw [e]
   exact ⟨_, _, cap, ds, rfl, by omega, h2, fun j v hj => by have := h3 j v hj; rwa [Addr.add_lit] at this⟩
  ·cases hf
theorem SZ {x : AB} {x' : Value} (hx : VR m x x') (hl : Ko x = some 0) : ∃ a c, x' = .slice a 0 c := by
 cases hx <;> simp [Ko] at hl
 case D6 => exact ⟨_, _, rfl⟩
 case Ea => exact ⟨_, _, rfl⟩
 case slice => subst hl; exact ⟨_, _, rfl⟩
 case JS => exact ⟨_, _, rfl⟩
 case HE => subst hl; exact ⟨_, _, rfl⟩
set_option maxHeartbeats 2000000 in
theorem N4 {ρ : Ren} (L : SlLaysE0.n41 P ρ) {i0 : TypeInfo} (hi : P.info? (ρ.t 23) = some i0) (z23 : ∀ w, (Go.sizeOf (ρ.t 23)).run P w = .ok i0.size w) (a : Addr) (c : Nat) (w : World) :
  Calls P (ρ.f 41) #[.slice (some a) 0 c] w fun e w' => ∃ a', e = .returned (.slice (some a') 0 0) ∧ Below w.heap.size w w' := by
 have mixed := L.mixed; have t4 := L.t4; have a4 := L.a4; have z4 := L.z4; have v4 := L.v4; have t22 := L.t22; have a22 := L.a22; have z22 := L.z22; have v22 := L.v22
 have q22 : ∀ (w : World) (a : Option Addr) (n c n' c' : Nat), (binOp .eql (ρ.t 22) (.slice a n c) (.slice none n' c')).run P w = .ok (.bool a.isNone) w := fun w a n c n' c' => Lib.run_eql_slice_nil w _ _ a n c n' c' L.t22
 have u22 : ∀ w, Sem.run P (underlying (ρ.t 22)) w = .ok (TypeDesc.slice (ρ.t 23)) w := run_underlying t22
 have happ : ∀ ty (base : Option Addr) (w : World), (Builtin.append_ #[ρ.t 22, ρ.t 22] ty #[.slice base 0 0, .slice (some a) 0 c]).run P w = .ok (.slice base 0 0) w := fun ty base w =>
  JC rfl rfl t22 t22 rfl hi (Nat.le_refl _) (fun w => by simp [Builtin.lenOf]) (by simp [Builtin.firstCells, loadCells, loadCellsFrom])
 obtain ⟨_, _, FG⟩ := L.f41
 go_enter FG, SlBodyN.n41_ntmps ρ
 go_wp2
 go_ret
 exact ⟨_, rfl, (Below.refl _ w).alloc (Nat.le_refl _) _⟩
def M8 (i : TypeInfo) (n : Nat) : Bool := decide (i.size ≠ 0 ∧ n ≤ 1099511627776 ∧ n * i.bytes ≤ 1099511627776 ∧ i.zero.map (·.cells.size) = some i.size)
def N8 (P : Program) (e : TypeId) (h : AJ) : List AB → Option (AB × AJ)
 | [x] =>
  match Ko x with
  | some 0 =>
   match P.info? e with
   | some _ => some (.slice none 0, h)
   | none => none
  | some n =>
   match P.info? e with
   | some i =>
    match (Dz h i.size n x).map (·.map GY) with
    | some cs => if cs.all AB.one = true ∧ M8 i n = true then some (.slice (some (h.size, 0)) n, h.push (.cells (some e) 2 cs)) else none
    | none => none
   | none => none
  | none => none
 | _ => none
theorem Cr.Wm {cs : List AB} {ds : List Value} (hv : Cr m cs ds) (h1 : cs.all AB.one = true) : ∀ u ∈ ds, u.oneCell' = true := by
 intro u hu
 obtain ⟨j, hj, rfl⟩ := List.getElem_of_mem hu
 have hj' : j < cs.length := by rw [hv.1]; exact hj
 exact (hv.2 j _ _ (List.getElem?_eq_getElem hj') (List.getElem?_eq_getElem hj)).one (List.all_eq_true.1 h1 _ (List.getElem_mem hj'))
theorem L1 {m : Bc} {x : AB} {cargs : Array Value} (hv : Cr m [x] cargs.toList) : ∃ a, cargs = #[a] ∧ VR m x a := by
 have := hv.1
 match cargs, this with
 | ⟨[a]⟩, _ => exact ⟨a, rfl, hv.2 0 _ _ rfl rfl⟩
theorem N6 {m : Bc} {x y : AB} {cargs : Array Value} (hv : Cr m [x, y] cargs.toList) : ∃ a b, cargs = #[a, b] ∧ VR m x a ∧ VR m y b := by
 have := hv.1
 match cargs, this with
 | ⟨[a, b]⟩, _ => exact ⟨a, b, rfl, hv.2 0 _ _ rfl rfl, hv.2 1 _ _ rfl rfl⟩
def HD (P : Program) (G : Nat → Option (List AB)) (f : FuncId) (ext : Gd → AJ → List AB → Option (AB × AJ)) : Prop := Pg P G fun g h f' args => if f' = f then ext g h args else none
theorem HD.of {G : Nat → Option (List AB)} {f : FuncId} {ext : Gd → AJ → List AB → Option (AB × AJ)}
  (hx : ∀ g h args v h', ext g h args = some (v, h') → BY g h h' ∧ ∀ w0 m w (cargs : Array Value), Rel P w0 m h w → Cr m args cargs.toList → Dq P f cargs w fun v' w' => ∃ m' : Bc, (m.ext h.size m') ∧ Rel P w0 m' h' w' ∧ VR m' v v') : HD P G f ext := by
 intro g h f' args v h' hc
 dsimp only at hc
 split at hc
 ·rename_i e; subst e
  obtain ⟨k, q⟩ := hx g h args v h' hc
  exact ⟨k, fun w0 m w cargs _ r hv => q w0 m w cargs r hv⟩
 ·cases hc
theorem HD.Xu {G : Nat → Option (List AB)} {f : FuncId} {ext : Gd → AJ → List AB → Option (AB × AJ)}
  (hx : ∀ g h args v h', ext g h args = some (v, h') → BY g h h' ∧ ∀ w0 m w (cargs : Array Value), Cn G w → Rel P w0 m h w → Cr m args cargs.toList → Dq P f cargs w fun v' w' => ∃ m' : Bc, (m.ext h.size m') ∧ Rel P w0 m' h' w' ∧ VR m' v v') : HD P G f ext := by
 intro g h f' args v h' hc
 dsimp only at hc
 split at hc
 ·rename_i e; subst e
  obtain ⟨k, q⟩ := hx g h args v h' hc
  exact ⟨k, fun w0 m w cargs hz r hv => q w0 m w cargs (hz.later r.below) r hv⟩
 ·cases hc
theorem Qc {ρ : Ren} (L : SlLaysE0.n41 P ρ) (G : Nat → Option (List AB)) : HD P G (ρ.f 41) fun g h args => N8 P (ρ.t 23) h args := by
 refine HD.of fun g h args v h' hc => ?_
 have en := L.f41.enters rfl
 unfold N8 at hc
 split at hc
 ·rename_i x
  split at hc
  ·rename_i hl
   split at hc
   ·rename_i i hi
    simp only [Option.some.injEq, Prod.mk.injEq] at hc
    obtain ⟨rfl, rfl⟩ := hc
    refine ⟨BY.refl _ _, fun w0 m w cargs r hv => ?_⟩
    obtain ⟨x', rfl, hx⟩ := L1 hv
    obtain ⟨a, c, rfl⟩ := SZ hx hl
    refine ES en ?_
    cases a with
    | none =>
     refine (AnyE.slices_Clone_nil L 0 c w).mono ?_
     rintro e w' ⟨rfl, rfl⟩
     exact ⟨_, rfl, m, Bc.ext.refl _ _, r, .D6⟩
    | some a =>
     refine (N4 L hi (fun w => by simp [Go.sizeOf, typeInfo, hi]) a c w).mono ?_
     rintro e w' ⟨a', rfl, hb⟩
     exact ⟨_, rfl, m, Bc.ext.refl _ _, r.later hb, .Ea _⟩
   ·cases hc
  ·rename_i n hne hl
   split at hc
   ·rename_i i hi
    split at hc
    ·rename_i cs hcs
     split at hc
     ·rename_i hb
      obtain ⟨h1, hb⟩ := hb
      simp only [M8, decide_eq_true_eq] at hb
      obtain ⟨hs0, hn, hby, hz⟩ := hb
      simp only [Option.some.injEq, Prod.mk.injEq] at hc
      obtain ⟨rfl, rfl⟩ := hc
      refine ⟨BY.push _ _ _, fun w0 m w cargs r hv => ?_⟩
      obtain ⟨x', rfl, hx⟩ := L1 hv
      simp only [Option.map_eq_some_iff] at hcs hz
      obtain ⟨cs0, hf, rfl⟩ := hcs
      obtain ⟨z, hz, hzs⟩ := hz
      obtain ⟨b, off, cap, ds, rfl, d1, d2, d3⟩ := Ql r hx hl (Nat.pos_of_ne_zero fun e => hne e) hf
      have d2' := d2.GY
      refine ES en ?_
      refine (AnyE.slices_Clone L i z i.size i.bytes hi hz rfl rfl hzs (by omega) (fun w => by simp [Go.sizeOf, typeInfo, hi]) b off n cap ds w d1 (by unfold maxLen; omega) (by omega) d3 (d2'.Wm h1)).mono ?_
      rintro e w' ⟨v', rfl, ho, hne, hb⟩
      have hsz : DD P (ρ.t 23) = some i.size := by simp [DD, hi]
      obtain ⟨m', q1, q2, q3⟩ := r.row hb ho hne (by simp [I2, Ik hsz]) d2' h1
      exact ⟨_, rfl, m', q1, q2, q3⟩
     ·cases hc
    ·cases hc
   ·cases hc
  ·cases hc
 ·cases hc
theorem Rel.Tm (r : Rel P w0 m h w) {w' : World} (hb : Below w.heap.size w w') {g : Nat} {cur : Array Value} {e : TypeId} {fz : Nat × Nat} (hg : w.heap.size ≤ g) (hc : w'.heap[g]? = some (.cells cur e fz)) : Rel P w0 (m.still g cur) h w' ∧ m.ext h.size (m.still g cur) := by
 have hle := Bc.OW (m := m) (g := g) (cur := cur) (r.Mg hg)
 have k := r.later hb
 refine ⟨⟨k.below, k.O9, fun id E o hE ho => (k.obj id E o hE ho).mono hle fun _ => rfl, k.own, k.sep, fun g' j v hv => ?_, fun id E o hE ho hown j => ?_, k.df, k.RB⟩, ⟨fun _ _ => rfl, hle.fz, fun _ h => h⟩⟩
 ·by_cases e' : g' = g
  ·subst e'
   simp only [Bc.still, if_true] at hv
   exact ⟨cur, e, fz, hc, hv⟩
  ·simp only [Bc.still, if_neg e'] at hv
   exact k.fz g' j v hv
 ·have : E.g ≠ g := by have := (r.obj id E o hE ho).lt (CY.FM hown); omega
  simp only [Bc.still, if_neg this]
  exact k.Kx id E o hE ho hown j
def JY (P : Program) (e : TypeId) (h : AJ) : List AB → Option (AB × AJ)
 | [x] =>
  match Ko x with
  | some 0 =>
   match P.info? e with
   | some _ => some (.HE 0 [], h)
   | none => none
  | some n =>
   match P.info? e with
   | some i =>
    match (Dz h i.size n x).map (·.map GY) with
    | some cs => if cs.all AB.one = true ∧ M8 i n = true then some (.HE n cs, h) else none
    | none => none
   | none => none
  | none => none
 | _ => none
theorem M6 {ρ : Ren} (L : SlLaysE0.n41 P ρ) (G : Nat → Option (List AB)) : HD P G (ρ.f 41) fun g h args => JY P (ρ.t 23) h args := by
 refine HD.of fun g h args v h' hc => ?_
 have en := L.f41.enters rfl
 unfold JY at hc
 split at hc
 ·rename_i x
  split at hc
  ·rename_i hl
   split at hc
   ·rename_i i hi
    simp only [Option.some.injEq, Prod.mk.injEq] at hc
    obtain ⟨rfl, rfl⟩ := hc
    refine ⟨BY.refl _ _, fun w0 m w cargs r hv => ?_⟩
    obtain ⟨x', rfl, hx⟩ := L1 hv
    obtain ⟨a, c, rfl⟩ := SZ hx hl
    refine ES en ?_
    cases a with
    | none =>
     refine (AnyE.slices_Clone_nil L 0 c w).mono ?_
     rintro e w' ⟨rfl, rfl⟩
     exact ⟨_, rfl, m, Bc.ext.refl _ _, r, .JS _ _⟩
    | some a =>
     refine (N4 L hi (fun w => by simp [Go.sizeOf, typeInfo, hi]) a c w).mono ?_
     rintro e w' ⟨a', rfl, hb⟩
     exact ⟨_, rfl, m, Bc.ext.refl _ _, r.later hb, .JS _ _⟩
   ·cases hc
  ·rename_i n hne hl
   split at hc
   ·rename_i i hi
    split at hc
    ·rename_i cs hcs
     split at hc
     ·rename_i hb
      obtain ⟨h1, hb⟩ := hb
      simp only [M8, decide_eq_true_eq] at hb
      obtain ⟨hs0, hn, hby, hz⟩ := hb
      simp only [Option.some.injEq, Prod.mk.injEq] at hc
      obtain ⟨rfl, rfl⟩ := hc
      refine ⟨BY.refl _ _, fun w0 m w cargs r hv => ?_⟩
      obtain ⟨x', rfl, hx⟩ := L1 hv
      simp only [Option.map_eq_some_iff] at hcs hz
      obtain ⟨cs0, hf, rfl⟩ := hcs
      obtain ⟨z, hz, hzs⟩ := hz
      obtain ⟨b, off, cap, ds, rfl, d1, d2, d3⟩ := Ql r hx hl (Nat.pos_of_ne_zero fun e => hne e) hf
      have d2' := d2.GY
      refine ES en ?_
      refine (AnyE.slices_Clone L i z i.size i.bytes hi hz rfl rfl hzs (by omega) (fun w => by simp [Go.sizeOf, typeInfo, hi]) b off n cap ds w d1 (by unfold maxLen; omega) (by omega) d3 (d2'.Wm h1)).mono ?_
      rintro e w' ⟨v', rfl, ho, hne, hb⟩
      obtain ⟨hl', ⟨h0, _⟩ | ⟨g, cap', cur, rfl, hg, hc, hnc, _, hsz, htk⟩⟩ := ho
      ·exact absurd h0 hne
      ·obtain ⟨q1, q2⟩ := r.Tm hb hg hc
       have hle := Bc.OW (m := m) (g := g) (cur := cur) (r.Mg hg)
       have hat : ∀ i, i < (cs0.map GY).length → cur[i]? = ds[i]? := fun i hi => by
        rw [d2'.1, hl'] at hi
        have := congrArg (·[i]?) htk
        simp only [List.getElem?_take, if_pos hi, Array.getElem?_toList] at this
        exact this
       refine ⟨_, rfl, m.still g cur, q2, q1, .HE n cap' g 0 _ (fun i => cur.getD i undef) hnc (fun i hi => ?_) (fun i x hx => ?_)⟩
       ·have h2 : i < cur.size := by
         have h3 := hat i hi
         rw [d2'.1] at hi
         rw [List.getElem?_eq_getElem hi] at h3
         exact (Array.getElem?_eq_some_iff.1 h3).1
        simp [Bc.still, Array.getD_eq_getD_getElem?, Array.getElem?_eq_getElem h2]
       ·have hi := (List.getElem?_eq_some_iff.1 hx).1
        have h3 := hat i hi
        obtain ⟨y, hy, hv⟩ := d2'.at_ hx
        rw [hy] at h3
        rw [Array.getD_eq_getD_getElem?, h3]
        exact hv.mono hle
     ·cases hc
    ·cases hc
   ·cases hc
  ·cases hc
 ·cases hc
def U8 (P : Program) (e : TypeId) (h : AJ) : List AB → Option (AB × AJ)
 | [.slice none 0, .int .i64 n] =>
  if n = 0 then some (.slice none 0, h) else
  match P.info? e with
  | some i => if 0 < n ∧ M8 i n.toNat = true then some (.slice (some (h.size, 0)) 0, h.push (.cells (some e) 2 [])) else none
  | none => none
 | _ => none
def WH (h : AJ) : List AB → Option (AB × AJ)
 | [.str a, .str b] => some (.int .i64 (compareBytes a b), h)
 | _ => none
def UF (P : Program) (f : FuncId) : Bool :=
 match P.funcs[f]? with
 | some fn => !(fn.name == "runtime.NumGoroutine") && fn.body.isNone
 | none => false
theorem Ux {f : FuncId} (hx : UF P f = true) {F : Array Value → Sem Value} (hn : ∀ fn, P.funcs[f]? = some fn → Extern.findNext fn = none ∧ Extern.find fn = some F) {cargs : Array Value} {v : Value} {w' : World} (h1 : (F cargs).run P w = .ok v w') {Q : Value → World → Prop} (hq : Q v w') : Dq P f cargs w Q := by
 unfold UF at hx
 split at hx
 ·rename_i fn hfn
  simp only [Bool.and_eq_true, Bool.not_eq_true', Option.isNone_iff_eq_none] at hx
  obtain ⟨e1, e2⟩ := hn fn hfn
  have hrun : (callFunc f cargs).run P w = .ok (.value v) w' := by
   unfold callFunc
   simp only [Sem.run_bind, program, Sem.run, Result.andThen_ok, hfn]
   rw [if_neg (by rw [hx.1]; decide), if_pos (by rw [hx.2]; rfl)]
   simp only [e1, e2, Sem.run_bind]
   rw [show Sem.run P (Go.mark (Mark.extern f)) w = .ok () w from rfl]
   simp only [Result.andThen_ok, h1, Sem.run_pure]
  unfold Dq
  rw [hrun]
  exact hq
 ·cases hx
theorem UR {f : FuncId} (G : Nat → Option (List AB)) (hx : UF P f = true) (hn : ∀ fn, P.funcs[f]? = some fn → Extern.findNext fn = none ∧ Extern.find fn = some Extern.BytealgIndexByte.indexByte) : HD P G f fun g h args => Td h args := by
 refine HD.of fun g h args v h' hc => ?_
 unfold Td at hc
 split at hc
 ·rename_i s c
  split at hc
  ·rename_i hr
   simp only [Option.some.injEq, Prod.mk.injEq] at hc
   obtain ⟨rfl, rfl⟩ := hc
   refine ⟨BY.refl _ _, fun w0 m w cargs r hv => ?_⟩
   obtain ⟨a, b, rfl, ha, hb⟩ := N6 hv
   obtain rfl := ha.Dp
   obtain rfl := hb.DP
   refine Ux hx hn (v := .int .i64 (idxOf s (UInt8.ofNat c.toNat))) (w' := w) ?_ ⟨m, Bc.ext.refl _ _, r, .int _ _⟩
   show Sem.run P (do
    let b ← Extern.Bytes.bytesOf (.string ⟨⟨s⟩⟩)
    let c ← Extern.Bytes.asByte (.int .u8 c)
    match (List.range b.size).find? fun i => b[i]! == c with
    | some i => pure (goInt i)
    | none => pure (goInt (-1))) w = _
   simp only [Extern.Bytes.bytesOf, Extern.Bytes.asByte, Sem.run_bind, Sem.run_pure, Result.andThen_ok]
   rw [idx_eq s c.toNat.toUInt8]
   unfold idxOf
   rw [show UInt8.ofNat c.toNat = c.toNat.toUInt8 from rfl]
   cases (List.range s.length).find? fun i => s[i]? == some c.toNat.toUInt8 <;> rfl
  ·cases hc
 ·cases hc
def Qo : List (AB × AB) → Option (List (List UInt8))
 | [] => some []
 | (.str s, _) :: r => (Qo r).map (s :: ·)
 | _ => none
def Wj (x : List UInt8) : List (List UInt8) → List (List UInt8)
 | [] => [x]
 | y :: l => bif Op.bytesLess y x then y :: Wj x l else x :: y :: l
def W0 (l : List (List UInt8)) : List (List UInt8) := l.foldr Wj []
def Vm (ks : List (List UInt8)) : Bool := decide (ks.length ≤ 1099511627776) && ks.all fun s => decide (s.length ≤ 1099511627776)
def U0 (e : TypeId) (h : AJ) (ks : List (List UInt8)) : AB × AJ :=
 match ks with
 | [] => (.slice none 0, h)
 | _ => (.slice (some (h.size, 0)) ks.length, h.push (.cells (some e) 2 ((W0 ks).map .str)))
def U9 (h : AJ) (b : Nat) : Option AB :=
 match h.get b with
 | some (.cells none 2 [v]) => some v
 | _ => none
def TE (it : FuncId) (e : TypeId) (h : AJ) : List AB → Option (AB × AJ)
 | [.func (.func f) [] [.ptr (some (b, 0))]] =>
  if f = it then
   match U9 h b with
   | some (.map none) => some (.slice none 0, h)
   | some (.map (some mid)) =>
    match h.get mid with
    | some (.map st es) =>
     if st = 2 then
      match Qo es with
      | some ks => if Vm ks = true then some (U0 e h ks) else none
      | none => none
     else none
    | _ => none
   | _ => none
  else none
 | _ => none
def W8 (s : List UInt8) (n : Int) : Bool := decide (0 ≤ n ∧ n ≤ 1099511627776 ∧ s.length * n.toNat ≤ 1099511627776)
def TL (h : AJ) : List AB → Option (AB × AJ)
 | [.str s, .int .i64 n] => if W8 s n = true then some (.str (Lib.repeatL s n.toNat), h) else none
 | _ => none
def Ud : List AB → Option (List (List UInt8))
 | [] => some []
 | .str s :: r => (Ud r).map (s :: ·)
 | _ => none
def WC (ss : List (List UInt8)) (t : List UInt8) : Bool := decide (ss.length ≤ 1099511627776 ∧ (Lib.join ss t).length ≤ 1099511627776)
def Uk (h : AJ) : List AB → Option (AB × AJ)
 | [x, .str t] =>
  match Ko x with
  | some n =>
   match (bif Nat.beq n 0 then some [] else (Dz h 1 n x).bind Ud) with
   | some ss => if WC ss t = true then some (.str (Lib.join ss t), h) else none
   | none => none
  | none => none
 | _ => none
def OU (h : AJ) : List AB → Option (AB × AJ)
 | [.str s, .str t] => if s.length ≤ 4294967280 then some (.tuple [.str (Lib.cut s t).1, .str (Lib.cut s t).2.1, .bool (Lib.cut s t).2.2], h) else none
 | _ => none
def KL (h : AJ) : List AB → Option (AB × AJ)
 | [.str s, .str t] => if s.length ≤ 4294967280 then some (.int .i64 (Lib.index s t), h) else none
 | _ => none
theorem RD {B : Nat} {a w : World} (h : Below B a w) (n : Nat) : Below B a (w.drewN n) := h.trans ⟨rfl, rfl, rfl, Nat.le_refl _, fun _ _ => rfl⟩
theorem Ub {ρ : Ren} (L : Lays.n145 P ρ) {G : Nat → Option (List AB)} (hg : G (ρ.g 1) = some []) : HD P G (ρ.f 145) fun g h args => OU h args := by
 refine HD.Xu fun g h args v h' hc => ?_
 have en : ∀ args w, (callFunc (ρ.f 145) args).run P w = .ok (.enter (ρ.f 145) args) w := enters_of L.f145 (by kernel_rfl) rfl
 unfold OU at hc
 split at hc
 ·rename_i s t
  split at hc
  ·rename_i hb
   simp only [Option.some.injEq, Prod.mk.injEq] at hc
   obtain ⟨rfl, rfl⟩ := hc
   refine ⟨BY.refl _ _, fun w0 m w cargs hz r hv => ?_⟩
   obtain ⟨a, b, rfl, ha, hb'⟩ := N6 hv
   obtain rfl := ha.Dp
   obtain rfl := hb'.Dp
   obtain ⟨n, hn⟩ := hz.2 _ hg
   refine ES en ((Any.strings_Cut L ⟨⟨s⟩⟩ ⟨⟨t⟩⟩ n w (by show s.length < _; omega) hn).mono ?_)
   rintro e w' ⟨rfl, q, rfl⟩
   refine ⟨_, rfl, m, Bc.ext.refl _ _, r.later (RD (Below.refl _ _) _), VR.tuple _ _ rfl fun i x y hx hy => ?_⟩
   match i, hx, hy with
   | 0, hx, hy => cases hx; cases hy; exact VR.str ⟨⟨_⟩⟩
   | 1, hx, hy => cases hx; cases hy; exact VR.str ⟨⟨_⟩⟩
   | 2, hx, hy => cases hx; cases hy; exact VR.bool _
   | i + 3, hx, hy => simp at hx
  ·cases hc
 ·cases hc
theorem TW {ρ : Ren} (L : Lays.n143 P ρ) {G : Nat → Option (List AB)} (hg : G (ρ.g 1) = some []) : HD P G (ρ.f 143) fun g h args => KL h args := by
 refine HD.Xu fun g h args v h' hc => ?_
 have en : ∀ args w, (callFunc (ρ.f 143) args).run P w = .ok (.enter (ρ.f 143) args) w := enters_of L.f143 (by kernel_rfl) rfl
 unfold KL at hc
 split at hc
 ·rename_i s t
  split at hc
  ·rename_i hb
   simp only [Option.some.injEq, Prod.mk.injEq] at hc
   obtain ⟨rfl, rfl⟩ := hc
   refine ⟨BY.refl _ _, fun w0 m w cargs hz r hv => ?_⟩
   obtain ⟨a, b, rfl, ha, hb'⟩ := N6 hv
   obtain rfl := ha.Dp
   obtain rfl := hb'.Dp
   obtain ⟨n, hn⟩ := hz.2 _ hg
   refine ES en ((Any.strings_Index L ⟨⟨s⟩⟩ ⟨⟨t⟩⟩ n w (by show s.length < _; omega) hn).mono ?_)
   rintro e w' ⟨rfl, rfl⟩
   exact ⟨_, rfl, m, Bc.ext.refl _ _, r, VR.int _ _⟩
  ·cases hc
 ·cases hc
end
def U7 (h : AJ) : List AB → Option (AB × AJ)
 | [] => some (.bool true, h)
 | _ => none
def Uw (h : AJ) : List AB → Option (AB × AJ)
 | [] => some (.undef, h)
 | _ => none
def Ln (f : AB → Option AB) : List AB → Option (List AB)
 | [] => some []
 | v :: vs => match f v, Ln f vs with | some v', some vs' => some (v' :: vs') | _, _ => none
def T7 (args : List AB) (i o : Nat) : Option AB :=
 match args[i]? with
 | some (.ptr (some (id, b))) => some (.ptr (some (id, b + o)))
 | _ => none
def LM (args : List AB) : Nat → AB → Option AB
 | 0, _ => none
 | n + 1, v =>
  match v with
  | .ptr (some (i, o)) => T7 args i o
  | .BR cs => (Ln (LM args n) cs).map .BR
  | .agg cs => (Ln (LM args n) cs).map .agg
  | .func fn a b => match Ln (LM args n) a, Ln (LM args n) b with | some a', some b' => some (.func fn a' b') | _, _ => none
  | v => bif Fp v then some v else none
def S5 (args : List AB) : List (AB × AB) → Option (List (AB × AB))
 | [] => some []
 | (k, v) :: es => match LM args 10 v, S5 args es with | some v', some es' => some ((k, v') :: es') | _, _ => none
def Qi : AB → Bool
 | .ptr (some _) => true
 | _ => false
abbrev Vt := List (List (AB × AB))
def RT (es : List (AB × AB)) (n : Nat) (h : AJ) (args : List AB) : Option (AB × AJ) :=
 bif Nat.beq args.length n && args.all Qi then (S5 args es).map fun es' => (.map (some h.size), h.push (.map 2 es')) else none
def W5 (es : List (AB × AB)) (n : Nat) (h : AJ) (args : List AB) : Option (AB × AJ) :=
 bif Nat.beq args.length n && args.all Qi then (S5 args es).map fun es' => (.map (some h.size), h.push (.map 3 es')) else none
def Ty : AB → AB → Bool
 | .bool a, .bool b => a == b
 | .int k a, .int k' b => decide (k = k') && decide (a = b)
 | .str a, .str b => decide (a = b)
 | _, _ => false
def Pp : List AB → List AB → Bool
 | [], [] => true
 | a :: l, b :: r => Ty a b && Pp l r
 | _, _ => false
def WQ (tab : List (AB × AB)) (h : AJ) : List AB → Option (AB × AJ)
 | [.agg cs] => (tab.find? fun p => match p.1 with | .agg ds => Pp ds cs | _ => false).map fun p => (p.2, h)
 | _ => none
def XE : AB → AB → Bool
 | .HE n cs, .HE n' cs' => Nat.beq n n' && Pp cs cs'
 | x, y => Ty x y
def T1 : List AB → List AB → Bool
 | [], [] => true
 | x :: xs, y :: ys => XE x y && T1 xs ys
 | _, _ => false
def Vo (tab : List (AB × AB)) (h : AJ) (args : List AB) : Option (AB × AJ) := (tab.find? fun p => match p.1 with | .tuple ks => T1 ks args | _ => false).map fun p => (p.2, h)
def S1 (P : Program) (km : Vt) (c : Nat × Nat × Nat) (g : Gd) (h : AJ) (args : List AB) : Option (AB × AJ) :=
 match c.1 with
 | 1 => Td h args
 | 2 => TE c.2.1 c.2.2 h args
 | 3 => WH h args
 | 4 => N8 P c.2.2 h args
 | 5 => U8 P c.2.2 h args
 | 6 => JY P c.2.2 h args
 | 7 => TL h args
 | 8 => OU h args
 | 9 => KL h args
 | 10 => Uk h args
 | 30 => U7 h args
 | 31 => Uw h args
 | 32 => RT (km.getD c.2.1 []) c.2.2 h args
 | 33 => W5 (km.getD c.2.1 []) c.2.2 h args
 | 34 => WQ (km.getD c.2.1 []) h args
 | 35 => Vo (km.getD c.2.1 []) h args
 | _ => none
def KB : List (Nat × Nat × Nat × Nat) → Nat → Option (Nat × Nat × Nat)
 | [], _ => none
 | (f', c) :: l, f => bif Nat.beq f f' then some c else KB l f
theorem PN : ∀ {l : List (Nat × Nat × Nat × Nat)} {f : Nat} {c : Nat × Nat × Nat}, KB l f = some c → (f, c) ∈ l
 | (f', c') :: l, f, c, h => by
  unfold KB at h
  rw [H8] at h
  split at h
  ·rename_i e; subst e; injection h with h; subst h; simp
  ·exact List.mem_cons_of_mem _ (PN h)
def OO (P : Program) (km : Vt) (l : List (Nat × Nat × Nat × Nat)) (f : Nat) (g : Gd) (h : AJ) (args : List AB) : Option (AB × AJ) :=
 match KB l f with
 | some c => S1 P km c g h args
 | none => none
def QI (ks : List Nat) (l : List (Nat × Nat × Nat × Nat)) : Nat → Bool
 | 0 => true
 | n + 1 => QI ks l n && (!(Nat.beq (OH ks n) 3) || (KB l n).isSome)
theorem PJ {ks : List Nat} {l : List (Nat × Nat × Nat × Nat)} : ∀ {n : Nat}, QI ks l n = true → ∀ f, f < n → OH ks f = 3 → (KB l f).isSome = true
 | 0, _, f, hf, _ => by omega
 | n + 1, h, f, hf, h3 => by
  simp only [QI, Bool.and_eq_true] at h
  by_cases e : f = n
  ·subst e
   have := h.2
   rw [h3] at this
   simpa using this
  ·exact PJ h.1 f (by omega) h3
theorem PH {C : HS} {km : Vt} {ks : List Nat} {l : List (Nat × Nat × Nat × Nat)} (hk : C.kind = OH ks) (hmix : C.P.follows .mixedOrders = true) (hall : Sm C ks.length = true) (hro : C.T2 = SV C.P C.K6) (hx : C.ext = OO C.P km l) (h3 : QI ks l ks.length = true)
  (he : ∀ p ∈ l, HD C.P C.D9 p.1 (S1 C.P km p.2)) : Hy C := by
 refine ⟨hmix, fun f fn c hkf h1 h2 => ?_, fun f a b hr => ?_, fun f hf => ?_⟩
 ·have hne : C.kind f ≠ 0 := by omega
  refine QV hall ?_ hne (by omega) h1 h2
  rcases Nat.lt_or_ge f ks.length with h | h
  ·exact h
  ·rw [hk, Nx h] at hne; exact absurd rfl hne
 ·rw [hro] at hr
  simp only [SV, Bool.and_eq_true] at hr
  exact ⟨(NP (C := C) (C' := Uo C.P C.K6) rfl rfl f a).trans hr.1.1, (NP (C := C) (C' := Uo C.P C.K6) rfl rfl f b).trans hr.1.2, hr.2.1, hr.2.2⟩
 ·have hlt : f < ks.length := by
   rcases Nat.lt_or_ge f ks.length with h | h
   ·exact h
   ·rw [hk, Nx h] at hf; cases hf
  obtain ⟨c, hl⟩ := Option.isSome_iff_exists.1 (PJ h3 f hlt (by rw [← hk]; exact hf))
  have := he _ (PN hl)
  have e : (fun (g : Gd) (h : AJ) (f' : FuncId) (args : List AB) => if f' = f then C.ext f g h args else none) = fun (g : Gd) h f' args => if f' = f then S1 C.P km c g h args else none := by
   funext g h f' args
   rw [hx]
   simp only [OO, hl]
  rw [e]; exact this
section
variable {C : HS} {km : Vt} {l : List (Nat × Nat × Nat × Nat)} {g : Gd} {h : AJ} {f : Nat} {L F : List Ck}
theorem Qd {c : Nat × Nat × Nat} {args : List AB} {v : AB} {h' : AJ} (hk : C.kind f = 3) (hx : C.ext = OO C.P km l) (hl : KB l f = some c) (he : S1 C.P km c g h args = some (v, h')) : Bi C g h f args v h' := by
 refine ⟨1, ?_⟩
 show H0 C (Da C 0) g h f _ = _
 unfold H0
 rw [hk]
 simp only [hx, OO, hl, he]
theorem U5 {s : List UInt8} {c n : Int} (hk : C.kind f = 3) (hx : C.ext = OO C.P km l) (hl : KB l f = some (1, 0, 0)) (hm : Km s c = some n) : Bi C g h f [.str s, .int .u8 c] (.int .i64 n) h := by
 refine Qd hk hx hl ?_
 unfold Km at hm
 show Td h [.str s, .int .u8 c] = some (.int .i64 n, h)
 unfold Td
 split at hm
 ·rename_i hr; injection hm with hm; subst hm; dsimp only; rw [if_pos hr]
 ·cases hm
theorem QE {s t : List UInt8} {a : Nat} (hk : C.kind f = 3) (hx : C.ext = OO C.P km l) (hl : KB l f = some (8, a, 0)) (hb : decide (s.length ≤ 4294967280) = true) : Bi C g h f [.str s, .str t] (.tuple [.str (Lib.cut s t).1, .str (Lib.cut s t).2.1, .bool (Lib.cut s t).2.2]) h := by
 refine Qd hk hx hl ?_
 show OU h [.str s, .str t] = _
 unfold OU
 dsimp only
 rw [if_pos (of_decide_eq_true hb)]
theorem S2 {s t : List UInt8} {a : Nat} (hk : C.kind f = 3) (hx : C.ext = OO C.P km l) (hl : KB l f = some (9, a, 0)) (hb : decide (s.length ≤ 4294967280) = true) : Bi C g h f [.str s, .str t] (.int .i64 (Lib.index s t)) h := by
 refine Qd hk hx hl ?_
 show KL h [.str s, .str t] = _
 unfold KL
 dsimp only
 rw [if_pos (of_decide_eq_true hb)]
def Vd (P : Program) (t : TypeId) (z b : Nat) : Bool :=
 match P.info? t with
 | some i => decide (i.size = z ∧ i.bytes = b ∧ i.zero.map (·.cells.size) = some i.size)
 | none => false
theorem GU {α : Type} {e : α → List AB} {z bytes t a : Nat} {x : AB} {new : List AB} {xs : List α} (E : Ld e z) (hz : z ≠ 0) (hk : C.kind f = 3) (hx : C.ext = OO C.P km l) (hl : KB l f = some (6, a, t)) (hi : Vd C.P t z bytes = true)
  (hn : Ko x = some xs.length) (hf : Dz h z xs.length x = some new) (hc : new.map GY = AK e xs) (hb : Lw bytes xs.length = true) : Bi C g h f [x] (vs e xs) h := by
 unfold Vd at hi
 split at hi
 ·rename_i i hinf
  obtain ⟨h1, h2, h3⟩ := of_decide_eq_true hi
  subst h1; subst h2
  refine Qd hk hx hl ?_
  show JY C.P t h [x] = _
  unfold JY
  cases xs with
  | nil =>
   simp only [hn, List.length_nil, hinf]
   rfl
  | cons y ys =>
   simp only [hn, List.length_cons, hinf]
   rw [show ys.length + 1 = (y :: ys).length from rfl, hf]
   simp only [Option.map_some, hc]
   have ho := of_decide_eq_true hb
   rw [if_pos ⟨E.Vw _, by simp only [M8, decide_eq_true_eq]; exact ⟨hz, ho.1, ho.2, h3⟩⟩]
 ·cases hi
end
end Go.Av
