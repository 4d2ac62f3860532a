/-
  ABS, 30: functions of Go's library that are told by the kit's contracts: slices.Clone, slices.Grow (of nothing), slices.Sorted (of a map's keys), and the comparison of texts.
-/
import Derived.Test.YthnnciphldbmeaaGreatDoorAvNum
import Derived.Test.YthnnciphldbmeaaGreatDoorAvMap
import Derived.Shelf.SlicesE.Clone
import Derived.Shelf.Spec.SlicesGrow
import Derived.Shelf.SlIter.Nil
import Derived.Shelf.SortM.Plain
import Derived.Shelf.SortM.SortNone
import Derived.Lib.Bytealg
import Derived.Shelf.Strings.Repeat
import Derived.Shelf.Strings.OnBuilder
import Derived.Shelf.Strings.Cut
import Derived.Shelf.Strings.Search3
namespace Go.Av
open Go.RowKit Go.Shelf Go.Proofs Go.Lib Go.Maps Go.MapKept Go.ChangeMaps Go.WideShapes
set_option linter.unusedVariables false
section
variable {P : Program} {w0 : World} {m : BK} {h : AH} {w : World}
theorem C4 {f : FuncId} {args : Array Value} {Q : Value → World → Prop} (he : ∀ args w, (callFunc f args).run P w = .ok (.enter f args) w) (hc : Calls P f args w fun e w' => ∃ v, e = .returned v ∧ Q v w') : De P f args w Q := by
 unfold De
 rw [he args w]
 exact hc
theorem Ol {w w' : World} (hb : Below w.heap.size w w') (g : Nat) : ER w w' g := ⟨hb.os, hb.tape, hb.output, hb.size, fun k hk _ => hb.block k hk⟩
theorem Rel.newAt (r : Rel P w0 m h w) {w' : World} {E : Ks} {o : B4} (ht : ER w w' E.g) (hg : w.heap.size ≤ E.g)
  (hobj : KL P (m.upd h.size E) w' E o) : Rel P w0 (m.upd h.size E) (h.push o) w' := by
 refine (r.ghost o).place ht (Nat.le_trans r.size hg) (fun id2 E2 o2 h2 ho2 hl2 => ?_) (r.Mm (by omega)) (fun hd => by have := r.Ld hd; omega) (r.fresh (Nat.le_refl _)) (h.Dc o) hobj
 have := ((r.ghost o).obj id2 E2 o2 h2 ho2).lt hl2
 omega
theorem Rel.row (r : Rel P w0 m h w) {w' : World} (hb : Below w.heap.size w w') {e : TypeId} {z n : Nat} {v : Value} {ds : List Value} {cs : List AA} (ho : w'.ownsRow w.heap.size e z v n ds) (hn : v ≠ .slice none 0 0) (hz : I1 P (some e) = z)
  (hv : CT m cs ds) (h1 : cs.all AA.one = true) : ∃ m' : BK, m.ext h.size m' ∧ Rel P w0 m' (h.push (.cells (some e) 2 cs)) w' ∧ VR m' (.slice (some (h.size, 0)) n) v := by
 obtain ⟨hl, ⟨h0, _⟩ | ⟨g, cap, cur, rfl, hg, hc, hnc, _, hsz, htk⟩⟩ := ho
 ·exact absurd h0 hn
 ·have hle := BK.Kn (m := m) (id := h.size) ⟨g, 0, z, cap * z⟩ (r.fresh (Nat.le_refl _))
  refine ⟨m.upd h.size ⟨g, 0, z, cap * z⟩, BK.ML m _ (Nat.le_refl _), r.newAt (Ol hb _) hg ?_, ?_⟩
  ·refine Jj (e := e) (fz := (0, 0)) hc rfl hz.symm hsz.symm ?_ h1 (.inl rfl)
   rw [hv.1, hl, htk]
   exact hv.mono hle
  ·exact .slice _ _ _ _ ⟨g, 0, z, cap * z⟩ _ (BK.El _ _ _) hnc (fun _ => ⟨by simp, fun _ => by simp⟩)
def JV : AA → Option Nat
 | .slice _ n => some n
 | .G7 n _ => some n
 | _ => none
theorem Np (r : Rel P w0 m h w) {z n : Nat} {x : AA} {x' : Value} {cs : List AA} (hx : VR m x x') (hl : JV x = some n) (h0 : 0 < n) (hf : Dv h z n x = some cs) :
  ∃ b off cap ds, x' = .slice (some ⟨b, off, none⟩) n cap ∧ ds.length = n * z ∧ CT m cs ds ∧ ∀ (j : Nat) (v : Value), ds[j]? = some v → w.cell? ⟨b, off + j, none⟩ = some v := by
 cases hx <;> simp [JV] at hl
 case Di => omega
 case Dy => omega
 case slice id o len cap E a hE hle hc =>
  subst hl
  obtain ⟨rfl, _⟩ := hc (by omega)
  simp only [Dv, if_neg (show ¬ len = 0 by omega)] at hf
  obtain ⟨ds, h1, h2, h3, _⟩ := r.cells hE hf
  exact ⟨_, _, cap, ds, rfl, h1, h2, fun j v hj => by have := h3 j v hj; rwa [Addr.add_lit] at this⟩
 case IK => omega
 case G7 len cap g o a c hle hf1 hv =>
  subst hl
  simp only [Dv] at hf
  split at hf
  ·rename_i hb
   injection hf with hf; subst hf
   obtain ⟨ds, h1, h2, h3⟩ := r.Mv hf1 hv
   have e : a.take (len * z) = a := List.take_of_length_le (by omega)
   rw [e]
   exact ⟨_, _, cap, ds, rfl, by omega, h2, fun j v hj => by have := h3 j v hj; rwa [Addr.add_lit] at this⟩
  ·cases hf
theorem Pt {x : AA} {x' : Value} (hx : VR m x x') (hl : JV x = some 0) : ∃ a c, x' = .slice a 0 c := by
 cases hx <;> simp [JV] at hl
 case Di => exact ⟨_, _, rfl⟩
 case Dy => exact ⟨_, _, rfl⟩
 case slice => subst hl; exact ⟨_, _, rfl⟩
 case IK => exact ⟨_, _, rfl⟩
 case G7 => subst hl; exact ⟨_, _, rfl⟩
set_option maxHeartbeats 2000000 in
theorem N9 {ρ : Ren} (L : SlLaysE0.n41 P ρ) {i0 : TypeInfo} (hi : P.info? (ρ.t 23) = some i0) (z23 : ∀ w, (Go.sizeOf (ρ.t 23)).run P w = .ok i0.size w) (a : Addr) (c : Nat) (w : World) :
  Calls P (ρ.f 41) #[.slice (some a) 0 c] w fun e w' => ∃ a', e = .returned (.slice (some a') 0 0) ∧ Below w.heap.size w w' := by
 have mixed := L.mixed; have t4 := L.t4; have a4 := L.a4; have z4 := L.z4; have v4 := L.v4; have t22 := L.t22; have a22 := L.a22; have z22 := L.z22; have v22 := L.v22
 have q22 : ∀ (w : World) (a : Option Addr) (n c n' c' : Nat), (binOp .eql (ρ.t 22) (.slice a n c) (.slice none n' c')).run P w = .ok (.bool a.isNone) w := fun w a n c n' c' => Lib.run_eql_slice_nil w _ _ a n c n' c' L.t22
 have u22 : ∀ w, Sem.run P (underlying (ρ.t 22)) w = .ok (TypeDesc.slice (ρ.t 23)) w := run_underlying t22
 have happ : ∀ ty (base : Option Addr) (w : World), (Builtin.append_ #[ρ.t 22, ρ.t 22] ty #[.slice base 0 0, .slice (some a) 0 c]).run P w = .ok (.slice base 0 0) w := fun ty base w =>
  I0 rfl rfl t22 t22 rfl hi (Nat.le_refl _) (fun w => by simp [Builtin.lenOf]) (by simp [Builtin.firstCells, loadCells, loadCellsFrom])
 obtain ⟨_, _, FG⟩ := L.f41
 go_enter FG, SlBodyN.n41_ntmps ρ
 go_wp2
 go_ret
 exact ⟨_, rfl, (Below.refl _ w).alloc (Nat.le_refl _) _⟩
def Mh (i : TypeInfo) (n : Nat) : Bool := decide (i.size ≠ 0 ∧ n ≤ 1099511627776 ∧ n * i.bytes ≤ 1099511627776 ∧ i.zero.map (·.cells.size) = some i.size)
def OP (P : Program) (e : TypeId) (h : AH) : List AA → Option (AA × AH)
 | [x] =>
  match JV x with
  | some 0 =>
   match P.info? e with
   | some _ => some (.slice none 0, h)
   | none => none
  | some n =>
   match P.info? e with
   | some i =>
    match (Dv h i.size n x).map (·.map GS) with
    | some cs => if cs.all AA.one = true ∧ Mh i n = true then some (.slice (some (h.size, 0)) n, h.push (.cells (some e) 2 cs)) else none
    | none => none
   | none => none
  | none => none
 | _ => none
theorem CT.Wk {cs : List AA} {ds : List Value} (hv : CT m cs ds) (h1 : cs.all AA.one = true) : ∀ u ∈ ds, u.oneCell' = true := by
 intro u hu
 obtain ⟨j, hj, rfl⟩ := List.getElem_of_mem hu
 have hj' : j < cs.length := by rw [hv.1]; exact hj
 exact (hv.2 j _ _ (List.getElem?_eq_getElem hj') (List.getElem?_eq_getElem hj)).one (List.all_eq_true.1 h1 _ (List.getElem_mem hj'))
theorem MA {m : BK} {x : AA} {cargs : Array Value} (hv : CT m [x] cargs.toList) : ∃ a, cargs = #[a] ∧ VR m x a := by
 have := hv.1
 match cargs, this with
 | ⟨[a]⟩, _ => exact ⟨a, rfl, hv.2 0 _ _ rfl rfl⟩
theorem L0 {m : BK} {x y : AA} {cargs : Array Value} (hv : CT m [x, y] cargs.toList) : ∃ a b, cargs = #[a, b] ∧ VR m x a ∧ VR m y b := by
 have := hv.1
 match cargs, this with
 | ⟨[a, b]⟩, _ => exact ⟨a, b, rfl, hv.2 0 _ _ rfl rfl, hv.2 1 _ _ rfl rfl⟩
def Gh (P : Program) (G : Nat → Option (List AA)) (f : FuncId) (ext : Gd → AH → List AA → Option (AA × AH)) : Prop := Px P G fun g h f' args => if f' = f then ext g h args else none
theorem Gh.of {G : Nat → Option (List AA)} {f : FuncId} {ext : Gd → AH → List AA → Option (AA × AH)}
  (hx : ∀ g h args v h', ext g h args = some (v, h') → BF g h h' ∧ ∀ w0 m w (cargs : Array Value), Rel P w0 m h w → CT m args cargs.toList → De P f cargs w fun v' w' => ∃ m' : BK, (m.ext h.size m') ∧ Rel P w0 m' h' w' ∧ VR m' v v') : Gh P G f ext := by
 intro g h f' args v h' hc
 dsimp only at hc
 split at hc
 ·rename_i e; subst e
  obtain ⟨k, q⟩ := hx g h args v h' hc
  exact ⟨k, fun w0 m w cargs _ r hv => q w0 m w cargs r hv⟩
 ·cases hc
theorem Gh.Xr {G : Nat → Option (List AA)} {f : FuncId} {ext : Gd → AH → List AA → Option (AA × AH)}
  (hx : ∀ g h args v h', ext g h args = some (v, h') → BF g h h' ∧ ∀ w0 m w (cargs : Array Value), CU G w → Rel P w0 m h w → CT m args cargs.toList → De P f cargs w fun v' w' => ∃ m' : BK, (m.ext h.size m') ∧ Rel P w0 m' h' w' ∧ VR m' v v') : Gh P G f ext := by
 intro g h f' args v h' hc
 dsimp only at hc
 split at hc
 ·rename_i e; subst e
  obtain ⟨k, q⟩ := hx g h args v h' hc
  exact ⟨k, fun w0 m w cargs hz r hv => q w0 m w cargs (hz.later r.below) r hv⟩
 ·cases hc
theorem RQ {ρ : Ren} (L : SlLaysE0.n41 P ρ) (G : Nat → Option (List AA)) : Gh P G (ρ.f 41) fun g h args => OP P (ρ.t 23) h args := by
 refine Gh.of fun g h args v h' hc => ?_
 have en := L.f41.enters rfl
 unfold OP at hc
 split at hc
 ·rename_i x
  split at hc
  ·rename_i hl
   split at hc
   ·rename_i i hi
    simp only [Option.some.injEq, Prod.mk.injEq] at hc
    obtain ⟨rfl, rfl⟩ := hc
    refine ⟨BF.refl _ _, fun w0 m w cargs r hv => ?_⟩
    obtain ⟨x', rfl, hx⟩ := MA hv
    obtain ⟨a, c, rfl⟩ := Pt hx hl
    refine C4 en ?_
    cases a with
    | none =>
     refine (AnyE.slices_Clone_nil L 0 c w).mono ?_
     rintro e w' ⟨rfl, rfl⟩
     exact ⟨_, rfl, m, BK.ext.refl _ _, r, .Di⟩
    | some a =>
     refine (N9 L hi (fun w => by simp [Go.sizeOf, typeInfo, hi]) a c w).mono ?_
     rintro e w' ⟨a', rfl, hb⟩
     exact ⟨_, rfl, m, BK.ext.refl _ _, r.later hb, .Dy _⟩
   ·cases hc
  ·rename_i n hne hl
   split at hc
   ·rename_i i hi
    split at hc
    ·rename_i cs hcs
     split at hc
     ·rename_i hb
      obtain ⟨h1, hb⟩ := hb
      simp only [Mh, decide_eq_true_eq] at hb
      obtain ⟨hs0, hn, hby, hz⟩ := hb
      simp only [Option.some.injEq, Prod.mk.injEq] at hc
      obtain ⟨rfl, rfl⟩ := hc
      refine ⟨BF.push _ _ _, fun w0 m w cargs r hv => ?_⟩
      obtain ⟨x', rfl, hx⟩ := MA hv
      simp only [Option.map_eq_some_iff] at hcs hz
      obtain ⟨cs0, hf, rfl⟩ := hcs
      obtain ⟨z, hz, hzs⟩ := hz
      obtain ⟨b, off, cap, ds, rfl, d1, d2, d3⟩ := Np r hx hl (Nat.pos_of_ne_zero fun e => hne e) hf
      have d2' := d2.GS
      refine C4 en ?_
      refine (AnyE.slices_Clone L i z i.size i.bytes hi hz rfl rfl hzs (by omega) (fun w => by simp [Go.sizeOf, typeInfo, hi]) b off n cap ds w d1 (by unfold maxLen; omega) (by omega) d3 (d2'.Wk h1)).mono ?_
      rintro e w' ⟨v', rfl, ho, hne, hb⟩
      have hsz : Cv P (ρ.t 23) = some i.size := by simp [Cv, hi]
      obtain ⟨m', q1, q2, q3⟩ := r.row hb ho hne (by simp [I1, Ij hsz]) d2' h1
      exact ⟨_, rfl, m', q1, q2, q3⟩
     ·cases hc
    ·cases hc
   ·cases hc
  ·cases hc
 ·cases hc
theorem Rel.UN (r : Rel P w0 m h w) {w' : World} (hb : Below w.heap.size w w') {g : Nat} {cur : Array Value} {e : TypeId} {fz : Nat × Nat} (hg : w.heap.size ≤ g) (hc : w'.heap[g]? = some (.cells cur e fz)) : Rel P w0 (m.still g cur) h w' ∧ m.ext h.size (m.still g cur) := by
 have hle := BK.Nt (m := m) (g := g) (cur := cur) (r.Mm hg)
 have k := r.later hb
 refine ⟨⟨k.below, k.Pc, fun id E o hE ho => (k.obj id E o hE ho).mono hle fun _ => rfl, k.own, k.sep, fun g' j v hv => ?_, fun id E o hE ho hown j => ?_, k.df, k.Q3⟩, ⟨fun _ _ => rfl, hle.fz, fun _ h => h⟩⟩
 ·by_cases e' : g' = g
  ·subst e'
   simp only [BK.still, if_true] at hv
   exact ⟨cur, e, fz, hc, hv⟩
  ·simp only [BK.still, if_neg e'] at hv
   exact k.fz g' j v hv
 ·have : E.g ≠ g := by have := (r.obj id E o hE ho).lt (B4.FN hown); omega
  simp only [BK.still, if_neg this]
  exact k.K7 id E o hE ho hown j
def Jf (P : Program) (e : TypeId) (h : AH) : List AA → Option (AA × AH)
 | [x] =>
  match JV x with
  | some 0 =>
   match P.info? e with
   | some _ => some (.G7 0 [], h)
   | none => none
  | some n =>
   match P.info? e with
   | some i =>
    match (Dv h i.size n x).map (·.map GS) with
    | some cs => if cs.all AA.one = true ∧ Mh i n = true then some (.G7 n cs, h) else none
    | none => none
   | none => none
  | none => none
 | _ => none
theorem LI {ρ : Ren} (L : SlLaysE0.n41 P ρ) (G : Nat → Option (List AA)) : Gh P G (ρ.f 41) fun g h args => Jf P (ρ.t 23) h args := by
 refine Gh.of fun g h args v h' hc => ?_
 have en := L.f41.enters rfl
 unfold Jf at hc
 split at hc
 ·rename_i x
  split at hc
  ·rename_i hl
   split at hc
   ·rename_i i hi
    simp only [Option.some.injEq, Prod.mk.injEq] at hc
    obtain ⟨rfl, rfl⟩ := hc
    refine ⟨BF.refl _ _, fun w0 m w cargs r hv => ?_⟩
    obtain ⟨x', rfl, hx⟩ := MA hv
    obtain ⟨a, c, rfl⟩ := Pt hx hl
    refine C4 en ?_
    cases a with
    | none =>
     refine (AnyE.slices_Clone_nil L 0 c w).mono ?_
     rintro e w' ⟨rfl, rfl⟩
     exact ⟨_, rfl, m, BK.ext.refl _ _, r, .IK _ _⟩
    | some a =>
     refine (N9 L hi (fun w => by simp [Go.sizeOf, typeInfo, hi]) a c w).mono ?_
     rintro e w' ⟨a', rfl, hb⟩
     exact ⟨_, rfl, m, BK.ext.refl _ _, r.later hb, .IK _ _⟩
   ·cases hc
  ·rename_i n hne hl
   split at hc
   ·rename_i i hi
    split at hc
    ·rename_i cs hcs
     split at hc
     ·rename_i hb
      obtain ⟨h1, hb⟩ := hb
      simp only [Mh, decide_eq_true_eq] at hb
      obtain ⟨hs0, hn, hby, hz⟩ := hb
      simp only [Option.some.injEq, Prod.mk.injEq] at hc
      obtain ⟨rfl, rfl⟩ := hc
      refine ⟨BF.refl _ _, fun w0 m w cargs r hv => ?_⟩
      obtain ⟨x', rfl, hx⟩ := MA hv
      simp only [Option.map_eq_some_iff] at hcs hz
      obtain ⟨cs0, hf, rfl⟩ := hcs
      obtain ⟨z, hz, hzs⟩ := hz
      obtain ⟨b, off, cap, ds, rfl, d1, d2, d3⟩ := Np r hx hl (Nat.pos_of_ne_zero fun e => hne e) hf
      have d2' := d2.GS
      refine C4 en ?_
      refine (AnyE.slices_Clone L i z i.size i.bytes hi hz rfl rfl hzs (by omega) (fun w => by simp [Go.sizeOf, typeInfo, hi]) b off n cap ds w d1 (by unfold maxLen; omega) (by omega) d3 (d2'.Wk h1)).mono ?_
      rintro e w' ⟨v', rfl, ho, hne, hb⟩
      obtain ⟨hl', ⟨h0, _⟩ | ⟨g, cap', cur, rfl, hg, hc, hnc, _, hsz, htk⟩⟩ := ho
      ·exact absurd h0 hne
      ·obtain ⟨q1, q2⟩ := r.UN hb hg hc
       have hle := BK.Nt (m := m) (g := g) (cur := cur) (r.Mm hg)
       have hat : ∀ i, i < (cs0.map GS).length → cur[i]? = ds[i]? := fun i hi => by
        rw [d2'.1, hl'] at hi
        have := congrArg (·[i]?) htk
        simp only [List.getElem?_take, if_pos hi, Array.getElem?_toList] at this
        exact this
       refine ⟨_, rfl, m.still g cur, q2, q1, .G7 n cap' g 0 _ (fun i => cur.getD i undef) hnc (fun i hi => ?_) (fun i x hx => ?_)⟩
       ·have h2 : i < cur.size := by
         have h3 := hat i hi
         rw [d2'.1] at hi
         rw [List.getElem?_eq_getElem hi] at h3
         exact (Array.getElem?_eq_some_iff.1 h3).1
        simp [BK.still, Array.getD_eq_getD_getElem?, Array.getElem?_eq_getElem h2]
       ·have hi := (List.getElem?_eq_some_iff.1 hx).1
        have h3 := hat i hi
        obtain ⟨y, hy, hv⟩ := d2'.at_ hx
        rw [hy] at h3
        rw [Array.getD_eq_getD_getElem?, h3]
        exact hv.mono hle
     ·cases hc
    ·cases hc
   ·cases hc
  ·cases hc
 ·cases hc
def Ul (P : Program) (e : TypeId) (h : AH) : List AA → Option (AA × AH)
 | [.slice none 0, .int .i64 n] =>
  if n = 0 then some (.slice none 0, h) else
  match P.info? e with
  | some i => if 0 < n ∧ Mh i n.toNat = true then some (.slice (some (h.size, 0)) 0, h.push (.cells (some e) 2 [])) else none
  | none => none
 | _ => none
def WD (h : AH) : List AA → Option (AA × AH)
 | [.str a, .str b] => some (.int .i64 (compareBytes a b), h)
 | _ => none
def TY (P : Program) (f : FuncId) : Bool :=
 match P.funcs[f]? with
 | some fn => !(fn.name == "runtime.NumGoroutine") && fn.body.isNone
 | none => false
theorem Uw {f : FuncId} (hx : TY P f = true) {F : Array Value → Sem Value} (hn : ∀ fn, P.funcs[f]? = some fn → Extern.findNext fn = none ∧ Extern.find fn = some F) {cargs : Array Value} {v : Value} {w' : World} (h1 : (F cargs).run P w = .ok v w') {Q : Value → World → Prop} (hq : Q v w') : De P f cargs w Q := by
 unfold TY at hx
 split at hx
 ·rename_i fn hfn
  simp only [Bool.and_eq_true, Bool.not_eq_true', Option.isNone_iff_eq_none] at hx
  obtain ⟨e1, e2⟩ := hn fn hfn
  have hrun : (callFunc f cargs).run P w = .ok (.value v) w' := by
   unfold callFunc
   simp only [Sem.run_bind, program, Sem.run, Result.andThen_ok, hfn]
   rw [if_neg (by rw [hx.1]; decide), if_pos (by rw [hx.2]; rfl)]
   simp only [e1, e2, Sem.run_bind]
   rw [show Sem.run P (Go.mark (Mark.extern f)) w = .ok () w from rfl]
   simp only [Result.andThen_ok, h1, Sem.run_pure]
  unfold De
  rw [hrun]
  exact hq
 ·cases hx
theorem Tl {f : FuncId} (G : Nat → Option (List AA)) (hx : TY P f = true) (hn : ∀ fn, P.funcs[f]? = some fn → Extern.findNext fn = none ∧ Extern.find fn = some Extern.BytealgIndexByte.indexByte) : Gh P G f fun g h args => UL h args := by
 refine Gh.of fun g h args v h' hc => ?_
 unfold UL at hc
 split at hc
 ·rename_i s c
  split at hc
  ·rename_i hr
   simp only [Option.some.injEq, Prod.mk.injEq] at hc
   obtain ⟨rfl, rfl⟩ := hc
   refine ⟨BF.refl _ _, fun w0 m w cargs r hv => ?_⟩
   obtain ⟨a, b, rfl, ha, hb⟩ := L0 hv
   obtain rfl := ha.DK
   obtain rfl := hb.DE
   refine Uw hx hn (v := .int .i64 (idxOf s (UInt8.ofNat c.toNat))) (w' := w) ?_ ⟨m, BK.ext.refl _ _, r, .int _ _⟩
   show Sem.run P (do
    let b ← Extern.Bytes.bytesOf (.string ⟨⟨s⟩⟩)
    let c ← Extern.Bytes.asByte (.int .u8 c)
    match (List.range b.size).find? fun i => b[i]! == c with
    | some i => pure (goInt i)
    | none => pure (goInt (-1))) w = _
   simp only [Extern.Bytes.bytesOf, Extern.Bytes.asByte, Sem.run_bind, Sem.run_pure, Result.andThen_ok]
   rw [idx_eq s c.toNat.toUInt8]
   unfold idxOf
   rw [show UInt8.ofNat c.toNat = c.toNat.toUInt8 from rfl]
   cases (List.range s.length).find? fun i => s[i]? == some c.toNat.toUInt8 <;> rfl
  ·cases hc
 ·cases hc
def Ra : List (AA × AA) → Option (List (List UInt8))
 | [] => some []
 | (.str s, _) :: r => (Ra r).map (s :: ·)
 | _ => none
def U6 (x : List UInt8) : List (List UInt8) → List (List UInt8)
 | [] => [x]
 | y :: l => bif Op.bytesLess y x then y :: U6 x l else x :: y :: l
def W2 (l : List (List UInt8)) : List (List UInt8) := l.foldr U6 []
theorem TO (x : List UInt8) : ∀ l, (U6 x l).Perm (x :: l)
 | [] => .refl _
 | y :: l => by
  unfold U6
  cases Op.bytesLess y x
  ·exact .refl _
  ·exact ((TO x l).cons y).trans (.swap x y l)
def WL (ks : List (List UInt8)) : Bool := decide (ks.length ≤ 1099511627776) && ks.all fun s => decide (s.length ≤ 1099511627776)
def U8 (e : TypeId) (h : AH) (ks : List (List UInt8)) : AA × AH :=
 match ks with
 | [] => (.slice none 0, h)
 | _ => (.slice (some (h.size, 0)) ks.length, h.push (.cells (some e) 2 ((W2 ks).map .str)))
def Uk (h : AH) (b : Nat) : Option AA :=
 match h.get b with
 | some (.cells none 2 [v]) => some v
 | _ => none
def S6 (it : FuncId) (e : TypeId) (h : AH) : List AA → Option (AA × AH)
 | [.func (.func f) [] [.ptr (some (b, 0))]] =>
  if f = it then
   match Uk h b with
   | some (.map none) => some (.slice none 0, h)
   | some (.map (some mid)) =>
    match h.get mid with
    | some (.map st es) =>
     if st = 2 then
      match Ra es with
      | some ks => if WL ks = true then some (U8 e h ks) else none
      | none => none
     else none
    | _ => none
   | _ => none
  else none
 | _ => none
def Wv (s : List UInt8) (n : Int) : Bool := decide (0 ≤ n ∧ n ≤ 1099511627776 ∧ s.length * n.toNat ≤ 1099511627776)
def TD (h : AH) : List AA → Option (AA × AH)
 | [.str s, .int .i64 n] => if Wv s n = true then some (.str (Lib.repeatL s n.toNat), h) else none
 | _ => none
def Lo : List AA → Option (List (List UInt8))
 | [] => some []
 | .str s :: r => (Lo r).map (s :: ·)
 | _ => none
def QY (ss : List (List UInt8)) (t : List UInt8) : Bool := decide (ss.length ≤ 1099511627776 ∧ (Lib.join ss t).length ≤ 1099511627776)
def MI (h : AH) : List AA → Option (AA × AH)
 | [x, .str t] =>
  match JV x with
  | some n =>
   match (bif Nat.beq n 0 then some [] else (Dv h 1 n x).bind Lo) with
   | some ss => if QY ss t = true then some (.str (Lib.join ss t), h) else none
   | none => none
  | none => none
 | _ => none
theorem ON : ∀ {cs : List AA} {ss : List (List UInt8)} {ds : List Value}, Lo cs = some ss → CT m cs ds → ds = (ss.map fun s => (⟨⟨s⟩⟩ : ByteArray)).map Value.string
 | [], ss, ds, h, hv => by
  cases h
  exact List.length_eq_zero_iff.1 hv.1.symm
 | c :: cs, ss, [], h, hv => by have := hv.1; simp at this
 | c :: cs, ss, d :: ds, h, hv => by
  unfold Lo at h
  split at h
  ·rename_i e; cases e
  ·rename_i s r e
   cases e
   simp only [Option.map_eq_some_iff] at h
   obtain ⟨ss', h1, rfl⟩ := h
   have h2 : CT m cs ds := ⟨by simpa using hv.1, fun i x y hx hy => hv.2 (i + 1) x y (by simpa using hx) (by simpa using hy)⟩
   have h3 := hv.2 0 _ _ rfl rfl
   obtain rfl := h3.DK
   rw [ON h1 h2]
   rfl
  ·cases h
theorem Uz {ρ : Ren} (L : Lays.n156 P ρ) (X : Builder.Extra P ρ) (G : Nat → Option (List AA)) : Gh P G (ρ.f 156) fun g h args => MI h args := by
 refine Gh.of fun g h args v h' hc => ?_
 have en : ∀ args w, (callFunc (ρ.f 156) args).run P w = .ok (.enter (ρ.f 156) args) w := enters_of L.f156 (by kernel_rfl) rfl
 unfold MI at hc
 split at hc
 ·rename_i x t
  split at hc
  ·rename_i n hl
   split at hc
   ·rename_i ss hss
    split at hc
    ·rename_i hb
     obtain ⟨hb1, hb2⟩ := of_decide_eq_true hb
     simp only [Option.some.injEq, Prod.mk.injEq] at hc
     obtain ⟨rfl, rfl⟩ := hc
     refine ⟨BF.refl _ _, fun w0 m w cargs r hv => ?_⟩
     obtain ⟨a, b, rfl, ha, hb'⟩ := L0 hv
     obtain rfl := hb'.DK
     by_cases hn : n = 0
     ·subst hn
      cases hss
      obtain ⟨a', c, rfl⟩ := Pt ha hl
      refine C4 en ((Any.strings_Join_none L X a' c ⟨⟨t⟩⟩ w).mono ?_)
      rintro e w' ⟨rfl, rfl⟩
      exact ⟨_, rfl, m, BK.ext.refl _ _, r, VR.str ⟨⟨Lib.join [] t⟩⟩⟩
     ·have hnb : Nat.beq n 0 = false := by
       cases hq : Nat.beq n 0 with
       | true => exact absurd (Nat.eq_of_beq_eq_true hq) hn
       | false => rfl
      rw [hnb, cond_false] at hss
      obtain ⟨cs, hf, hs⟩ := Option.bind_eq_some_iff.1 hss
      obtain ⟨bk, off, cap, ds, rfl, d1, d2, d3⟩ := Np r ha hl (Nat.pos_of_ne_zero hn) hf
      have hds := ON hs d2
      have hlen : n = (ss.map fun s => (⟨⟨s⟩⟩ : ByteArray)).length := by
       rw [List.length_map]
       have := congrArg List.length hds
       simp only [List.length_map] at this
       omega
      have hmap : (ss.map fun s => (⟨⟨s⟩⟩ : ByteArray)).map (·.data.toList) = ss := by
       rw [List.map_map]
       exact List.map_id ss
      have hcells : ∀ (j : Nat) x, (ss.map fun s => (⟨⟨s⟩⟩ : ByteArray))[j]? = some x → w.cell? ⟨bk, off + j, none⟩ = some (.string x) := fun j x hx => d3 j _ (by rw [hds, List.getElem?_map, hx]; rfl)
      have hbk : bk < w.heap.size := by
       have h0 : 0 < ds.length := by omega
       have := d3 0 _ (List.getElem?_eq_getElem h0)
       rcases Nat.lt_or_ge bk w.heap.size with q | q
       ·exact q
       ·simp [World.cell?, Array.getElem?_eq_none q] at this
      have hcap : n ≤ cap := by
       cases ha with
       | slice _ _ _ _ _ _ _ hc => exact hc
       | G7 _ _ _ _ _ _ hc => exact hc
       | undef => simp [JV] at hl
       | Dy => exact absurd rfl hn
       | IK => exact absurd rfl hn
      refine C4 en ?_
      rw [hlen]
      refine (Any.strings_Join L X bk off cap (ss.map fun s => (⟨⟨s⟩⟩ : ByteArray)) ⟨⟨t⟩⟩ w hcells hbk (by rw [List.length_map]; omega) (by omega) (by rw [hmap]; show (Lib.join ss t).length ≤ _; omega)).mono ?_
      rintro e w' ⟨rfl, hbl⟩
      rw [hmap]
      exact ⟨_, rfl, m, BK.ext.refl _ _, r.later hbl, VR.str ⟨⟨Lib.join ss t⟩⟩⟩
    ·cases hc
   ·cases hc
  ·cases hc
 ·cases hc
def OL (h : AH) : List AA → Option (AA × AH)
 | [.str s, .str t] => if s.length ≤ 4294967280 then some (.tuple [.str (Lib.cut s t).1, .str (Lib.cut s t).2.1, .bool (Lib.cut s t).2.2], h) else none
 | _ => none
def Kt (h : AH) : List AA → Option (AA × AH)
 | [.str s, .str t] => if s.length ≤ 4294967280 then some (.int .i64 (Lib.index s t), h) else none
 | _ => none
theorem Qg {B : Nat} {a w : World} (h : Below B a w) (n : Nat) : Below B a (w.drewN n) := h.trans ⟨rfl, rfl, rfl, Nat.le_refl _, fun _ _ => rfl⟩
theorem UW {ρ : Ren} (L : Lays.n145 P ρ) {G : Nat → Option (List AA)} (hg : G (ρ.g 1) = some []) : Gh P G (ρ.f 145) fun g h args => OL h args := by
 refine Gh.Xr fun g h args v h' hc => ?_
 have en : ∀ args w, (callFunc (ρ.f 145) args).run P w = .ok (.enter (ρ.f 145) args) w := enters_of L.f145 (by kernel_rfl) rfl
 unfold OL at hc
 split at hc
 ·rename_i s t
  split at hc
  ·rename_i hb
   simp only [Option.some.injEq, Prod.mk.injEq] at hc
   obtain ⟨rfl, rfl⟩ := hc
   refine ⟨BF.refl _ _, fun w0 m w cargs hz r hv => ?_⟩
   obtain ⟨a, b, rfl, ha, hb'⟩ := L0 hv
   obtain rfl := ha.DK
   obtain rfl := hb'.DK
   obtain ⟨n, hn⟩ := hz.2 _ hg
   refine C4 en ((Any.strings_Cut L ⟨⟨s⟩⟩ ⟨⟨t⟩⟩ n w (by show s.length < _; omega) hn).mono ?_)
   rintro e w' ⟨rfl, q, rfl⟩
   refine ⟨_, rfl, m, BK.ext.refl _ _, r.later (Qg (Below.refl _ _) _), VR.tuple _ _ rfl fun i x y hx hy => ?_⟩
   match i, hx, hy with
   | 0, hx, hy => cases hx; cases hy; exact VR.str ⟨⟨_⟩⟩
   | 1, hx, hy => cases hx; cases hy; exact VR.str ⟨⟨_⟩⟩
   | 2, hx, hy => cases hx; cases hy; exact VR.bool _
   | i + 3, hx, hy => simp at hx
  ·cases hc
 ·cases hc
theorem Tq {ρ : Ren} (L : Lays.n143 P ρ) {G : Nat → Option (List AA)} (hg : G (ρ.g 1) = some []) : Gh P G (ρ.f 143) fun g h args => Kt h args := by
 refine Gh.Xr fun g h args v h' hc => ?_
 have en : ∀ args w, (callFunc (ρ.f 143) args).run P w = .ok (.enter (ρ.f 143) args) w := enters_of L.f143 (by kernel_rfl) rfl
 unfold Kt at hc
 split at hc
 ·rename_i s t
  split at hc
  ·rename_i hb
   simp only [Option.some.injEq, Prod.mk.injEq] at hc
   obtain ⟨rfl, rfl⟩ := hc
   refine ⟨BF.refl _ _, fun w0 m w cargs hz r hv => ?_⟩
   obtain ⟨a, b, rfl, ha, hb'⟩ := L0 hv
   obtain rfl := ha.DK
   obtain rfl := hb'.DK
   obtain ⟨n, hn⟩ := hz.2 _ hg
   refine C4 en ((Any.strings_Index L ⟨⟨s⟩⟩ ⟨⟨t⟩⟩ n w (by show s.length < _; omega) hn).mono ?_)
   rintro e w' ⟨rfl, rfl⟩
   exact ⟨_, rfl, m, BK.ext.refl _ _, r, VR.int _ _⟩
  ·cases hc
 ·cases hc
end
def VE (h : AH) : List AA → Option (AA × AH)
 | [] => some (.bool true, h)
 | _ => none
def Uv (h : AH) : List AA → Option (AA × AH)
 | [] => some (.undef, h)
 | _ => none
def Lv (f : AA → Option AA) : List AA → Option (List AA)
 | [] => some []
 | v :: vs => match f v, Lv f vs with | some v', some vs' => some (v' :: vs') | _, _ => none
def TV (args : List AA) (i o : Nat) : Option AA :=
 match args[i]? with
 | some (.ptr (some (id, b))) => some (.ptr (some (id, b + o)))
 | _ => none
def LK (args : List AA) : Nat → AA → Option AA
 | 0, _ => none
 | n + 1, v =>
  match v with
  | .ptr (some (i, o)) => TV args i o
  | .A7 cs => (Lv (LK args n) cs).map .A7
  | .agg cs => (Lv (LK args n) cs).map .agg
  | .func fn a b => match Lv (LK args n) a, Lv (LK args n) b with | some a', some b' => some (.func fn a' b') | _, _ => none
  | v => bif Fq v then some v else none
def TR (args : List AA) : List (AA × AA) → Option (List (AA × AA))
 | [] => some []
 | (k, v) :: es => match LK args 10 v, TR args es with | some v', some es' => some ((k, v') :: es') | _, _ => none
def Qs : AA → Bool
 | .ptr (some _) => true
 | _ => false
abbrev Vk := List (List (AA × AA))
def RW (es : List (AA × AA)) (n : Nat) (h : AH) (args : List AA) : Option (AA × AH) :=
 bif Nat.beq args.length n && args.all Qs then (TR args es).map fun es' => (.map (some h.size), h.push (.map 2 es')) else none
def W4 (es : List (AA × AA)) (n : Nat) (h : AH) (args : List AA) : Option (AA × AH) :=
 bif Nat.beq args.length n && args.all Qs then (TR args es).map fun es' => (.map (some h.size), h.push (.map 3 es')) else none
def To : AA → AA → Bool
 | .bool a, .bool b => a == b
 | .int k a, .int k' b => decide (k = k') && decide (a = b)
 | .str a, .str b => decide (a = b)
 | _, _ => false
def Ps : List AA → List AA → Bool
 | [], [] => true
 | a :: l, b :: r => To a b && Ps l r
 | _, _ => false
def Vw (tab : List (AA × AA)) (h : AH) : List AA → Option (AA × AH)
 | [.agg cs] => (tab.find? fun p => match p.1 with | .agg ds => Ps ds cs | _ => false).map fun p => (p.2, h)
 | _ => none
def Wh : AA → AA → Bool
 | .G7 n cs, .G7 n' cs' => Nat.beq n n' && Ps cs cs'
 | x, y => To x y
def TX : List AA → List AA → Bool
 | [], [] => true
 | x :: xs, y :: ys => Wh x y && TX xs ys
 | _, _ => false
def WN (tab : List (AA × AA)) (h : AH) (args : List AA) : Option (AA × AH) := (tab.find? fun p => match p.1 with | .tuple ks => TX ks args | _ => false).map fun p => (p.2, h)
def TN (P : Program) (km : Vk) (c : Nat × Nat × Nat) (g : Gd) (h : AH) (args : List AA) : Option (AA × AH) :=
 match c.1 with
 | 1 => UL h args
 | 2 => S6 c.2.1 c.2.2 h args
 | 3 => WD h args
 | 4 => OP P c.2.2 h args
 | 5 => Ul P c.2.2 h args
 | 6 => Jf P c.2.2 h args
 | 7 => TD h args
 | 8 => OL h args
 | 9 => Kt h args
 | 10 => MI h args
 | 30 => VE h args
 | 31 => Uv h args
 | 32 => RW (km.getD c.2.1 []) c.2.2 h args
 | 33 => W4 (km.getD c.2.1 []) c.2.2 h args
 | 34 => Vw (km.getD c.2.1 []) h args
 | 35 => WN (km.getD c.2.1 []) h args
 | _ => none
def Jc : List (Nat × Nat × Nat × Nat) → Nat → Option (Nat × Nat × Nat)
 | [], _ => none
 | (f', c) :: l, f => bif Nat.beq f f' then some c else Jc l f
theorem PH : ∀ {l : List (Nat × Nat × Nat × Nat)} {f : Nat} {c : Nat × Nat × Nat}, Jc l f = some c → (f, c) ∈ l
 | (f', c') :: l, f, c, h => by
  unfold Jc at h
  rw [IM] at h
  split at h
  ·rename_i e; subst e; injection h with h; subst h; simp
  ·exact List.mem_cons_of_mem _ (PH h)
def NK (P : Program) (km : Vk) (l : List (Nat × Nat × Nat × Nat)) (f : Nat) (g : Gd) (h : AH) (args : List AA) : Option (AA × AH) :=
 match Jc l f with
 | some c => TN P km c g h args
 | none => none
def Pw (ks : List Nat) (l : List (Nat × Nat × Nat × Nat)) : Nat → Bool
 | 0 => true
 | n + 1 => Pw ks l n && (!(Nat.beq (Ng ks n) 3) || (Jc l n).isSome)
theorem PG {ks : List Nat} {l : List (Nat × Nat × Nat × Nat)} : ∀ {n : Nat}, Pw ks l n = true → ∀ f, f < n → Ng ks f = 3 → (Jc l f).isSome = true
 | 0, _, f, hf, _ => by omega
 | n + 1, h, f, hf, h3 => by
  simp only [Pw, Bool.and_eq_true] at h
  by_cases e : f = n
  ·subst e
   have := h.2
   rw [h3] at this
   simpa using this
  ·exact PG h.1 f (by omega) h3
theorem Pg {C : HU} {km : Vk} {ks : List Nat} {l : List (Nat × Nat × Nat × Nat)} (hk : C.kind = Ng ks) (hmix : C.P.follows .mixedOrders = true) (hall : Sq C ks.length = true) (hro : C.UC = SS C.P C.Kb) (hx : C.ext = NK C.P km l) (h3 : Pw ks l ks.length = true)
  (he : ∀ p ∈ l, Gh C.P C.Dw p.1 (TN C.P km p.2)) : ID C := by
 refine ⟨hmix, fun f fn c hkf h1 h2 => ?_, fun f a b hr => ?_, fun f hf => ?_⟩
 ·have hne : C.kind f ≠ 0 := by omega
  refine Qq hall ?_ hne (by omega) h1 h2
  rcases Nat.lt_or_ge f ks.length with h | h
  ·exact h
  ·rw [hk, OO h] at hne; exact absurd rfl hne
 ·rw [hro] at hr
  simp only [SS, Bool.and_eq_true] at hr
  exact ⟨(M6 (C := C) (C' := U2 C.P C.Kb) rfl rfl f a).trans hr.1.1, (M6 (C := C) (C' := U2 C.P C.Kb) rfl rfl f b).trans hr.1.2, hr.2.1, hr.2.2⟩
 ·have hlt : f < ks.length := by
   rcases Nat.lt_or_ge f ks.length with h | h
   ·exact h
   ·rw [hk, OO h] at hf; cases hf
  obtain ⟨c, hl⟩ := Option.isSome_iff_exists.1 (PG h3 f hlt (by rw [← hk]; exact hf))
  have := he _ (PH hl)
  have e : (fun (g : Gd) (h : AH) (f' : FuncId) (args : List AA) => if f' = f then C.ext f g h args else none) = fun (g : Gd) h f' args => if f' = f then TN C.P km c g h args else none := by
   funext g h f' args
   rw [hx]
   simp only [NK, hl]
  rw [e]; exact this
section
variable {C : HU} {km : Vk} {l : List (Nat × Nat × Nat × Nat)} {g : Gd} {h : AH} {f : Nat} {L F : List Ck}
theorem PV {c : Nat × Nat × Nat} {args : List AA} {v : AA} {h' : AH} (hk : C.kind f = 3) (hx : C.ext = NK C.P km l) (hl : Jc l f = some c) (he : TN C.P km c g h args = some (v, h')) : BL C g h f args v h' := by
 refine ⟨1, ?_⟩
 show IA C (DN C 0) g h f _ = _
 unfold IA
 rw [hk]
 simp only [hx, NK, hl, he]
theorem Un {s : List UInt8} {c n : Int} (hk : C.kind f = 3) (hx : C.ext = NK C.P km l) (hl : Jc l f = some (1, 0, 0)) (hm : I9 s c = some n) : BL C g h f [.str s, .int .u8 c] (.int .i64 n) h := by
 refine PV hk hx hl ?_
 unfold I9 at hm
 show UL h [.str s, .int .u8 c] = some (.int .i64 n, h)
 unfold UL
 split at hm
 ·rename_i hr; injection hm with hm; subst hm; dsimp only; rw [if_pos hr]
 ·cases hm
theorem Ni : ∀ (xs : List (List UInt8)), Lo (AL eS xs) = some xs
 | [] => rfl
 | x :: xs => by
  show (Lo (AL eS xs)).map (x :: ·) = _
  rw [Ni xs]; rfl
theorem Th {x : AA} {xs : List (List UInt8)} {t : List UInt8} (hk : C.kind f = 3) (hx : C.ext = NK C.P km l) (hl : Jc l f = some (10, 0, 0)) (hn : JV x = some xs.length) (hf : Dv h 1 xs.length x = some (AL eS xs)) (hb : QY xs t = true) : BL C g h f [x, .str t] (.str (Lib.join xs t)) h := by
 refine PV hk hx hl ?_
 show MI h [x, .str t] = _
 unfold MI
 dsimp only
 rw [hn]
 dsimp only
 cases hq : Nat.beq xs.length 0 with
 | true =>
  have := List.length_eq_zero_iff.1 (Nat.eq_of_beq_eq_true hq)
  subst this
  rw [cond_true]
  dsimp only
  rw [if_pos hb]
 | false =>
  rw [cond_false, hf]
  show (match Lo (AL eS xs) with | some ss => _ | none => _) = _
  rw [Ni]
  dsimp only
  rw [if_pos hb]
theorem Sd {s t : List UInt8} {a : Nat} (hk : C.kind f = 3) (hx : C.ext = NK C.P km l) (hl : Jc l f = some (8, a, 0)) (hb : decide (s.length ≤ 4294967280) = true) : BL C g h f [.str s, .str t] (.tuple [.str (Lib.cut s t).1, .str (Lib.cut s t).2.1, .bool (Lib.cut s t).2.2]) h := by
 refine PV hk hx hl ?_
 show OL h [.str s, .str t] = _
 unfold OL
 dsimp only
 rw [if_pos (of_decide_eq_true hb)]
theorem TK {s t : List UInt8} {a : Nat} (hk : C.kind f = 3) (hx : C.ext = NK C.P km l) (hl : Jc l f = some (9, a, 0)) (hb : decide (s.length ≤ 4294967280) = true) : BL C g h f [.str s, .str t] (.int .i64 (Lib.index s t)) h := by
 refine PV hk hx hl ?_
 show Kt h [.str s, .str t] = _
 unfold Kt
 dsimp only
 rw [if_pos (of_decide_eq_true hb)]
def Vc (P : Program) (t : TypeId) (z b : Nat) : Bool :=
 match P.info? t with
 | some i => decide (i.size = z ∧ i.bytes = b ∧ i.zero.map (·.cells.size) = some i.size)
 | none => false
theorem GX {α : Type} {e : α → List AA} {z bytes t a : Nat} {x : AA} {new : List AA} {xs : List α} (E : LM e z) (hz : z ≠ 0) (hk : C.kind f = 3) (hx : C.ext = NK C.P km l) (hl : Jc l f = some (6, a, t)) (hi : Vc C.P t z bytes = true)
  (hn : JV x = some xs.length) (hf : Dv h z xs.length x = some new) (hc : new.map GS = AL e xs) (hb : OU bytes xs.length = true) : BL C g h f [x] (vs e xs) h := by
 unfold Vc at hi
 split at hi
 ·rename_i i hinf
  obtain ⟨h1, h2, h3⟩ := of_decide_eq_true hi
  subst h1; subst h2
  refine PV hk hx hl ?_
  show Jf C.P t h [x] = _
  unfold Jf
  cases xs with
  | nil =>
   simp only [hn, List.length_nil, hinf]
   rfl
  | cons y ys =>
   simp only [hn, List.length_cons, hinf]
   rw [show ys.length + 1 = (y :: ys).length from rfl, hf]
   simp only [Option.map_some, hc]
   have ho := of_decide_eq_true hb
   rw [if_pos ⟨E.Vr _, by simp only [Mh, decide_eq_true_eq]; exact ⟨hz, ho.1, ho.2, h3⟩⟩]
 ·cases hi
end
end Go.Av
