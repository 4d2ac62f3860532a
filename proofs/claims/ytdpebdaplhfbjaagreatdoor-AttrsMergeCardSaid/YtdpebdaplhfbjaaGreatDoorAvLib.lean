/-
  ABS, 30: functions of Go's library that are told by the kit's contracts: slices.Clone, slices.Grow (of nothing), slices.Sorted (of a map's keys), and the comparison of texts.
-/
import Derived.Test.YtdpebdaplhfbjaaGreatDoorAvExt
import Derived.Test.YtdpebdaplhfbjaaGreatDoorAvMap
import Derived.Shelf.SlicesE.Clone
import Derived.Shelf.Spec.SlicesGrow
import Derived.Shelf.SlIter.Nil
import Derived.Shelf.SortM.Plain
import Derived.Shelf.SortM.SortNone
import Derived.Lib.Bytealg
import Derived.Shelf.Strings.Repeat
import Derived.Shelf.Strings.Cut
import Derived.Shelf.Strings.Search3
namespace Go.Av
open Go.RowKit Go.Shelf Go.Proofs Go.Lib Go.Maps Go.MapKept Go.ChangeMaps Go.WideShapes
set_option linter.unusedVariables false
section
variable {P : Program} {w0 : World} {m : Inj} {h : AHeap} {w : World}
theorem invokes_of_calls {f : FuncId} {args : Array Value} {Q : Value → World → Prop} (he : ∀ args w, (callFunc f args).run P w = .ok (.enter f args) w) (hc : Calls P f args w fun e w' => ∃ v, e = .returned v ∧ Q v w') : Invokes P f args w Q := by
 unfold Invokes
 rw [he args w]
 exact hc
theorem turn_of_below {w w' : World} (hb : Below w.heap.size w w') (g : Nat) : Turn w w' g := ⟨hb.os, hb.tape, hb.output, hb.size, fun k hk _ => hb.block k hk⟩
theorem Rel.newAt (r : Rel P w0 m h w) {w' : World} {E : Ent} {o : AObj} (ht : Turn w w' E.g) (hg : w.heap.size ≤ E.g)
  (hobj : ObjR P (m.upd h.size E) w' E o) : Rel P w0 (m.upd h.size E) (h.push o) w' := by
 refine (r.ghost o).place ht (Nat.le_trans r.size hg) (fun id2 E2 o2 h2 ho2 hl2 => ?_) (r.fz_new (by omega)) (fun hd => by have := r.df_lt hd; omega) (r.fresh (Nat.le_refl _)) (h.get_push_new o) hobj
 have := ((r.ghost o).obj id2 E2 o2 h2 ho2).lt hl2
 omega
theorem Rel.row (r : Rel P w0 m h w) {w' : World} (hb : Below w.heap.size w w') {e : TypeId} {z n : Nat} {v : Value} {ds : List Value} {cs : List AVal} (ho : w'.ownsRow w.heap.size e z v n ds) (hn : v ≠ .slice none 0 0) (hz : eszOf P (some e) = z)
  (hv : VRs m cs ds) (h1 : cs.all AVal.one = true) : ∃ m' : Inj, m.ext h.size m' ∧ Rel P w0 m' (h.push (.cells (some e) 2 cs)) w' ∧ VR m' (.slice (some (h.size, 0)) n) v := by
 obtain ⟨hl, ⟨h0, _⟩ | ⟨g, cap, cur, rfl, hg, hc, hnc, _, hsz, htk⟩⟩ := ho
 ·exact absurd h0 hn
 ·have hle := Inj.le_upd (m := m) (id := h.size) ⟨g, 0, z, cap * z⟩ (r.fresh (Nat.le_refl _))
  refine ⟨m.upd h.size ⟨g, 0, z, cap * z⟩, Inj.ext_upd m _ (Nat.le_refl _), r.newAt (turn_of_below hb _) hg ?_, ?_⟩
  ·refine objR_new (e := e) (fz := (0, 0)) hc rfl hz.symm hsz.symm ?_ h1 (.inl rfl)
   rw [hv.1, hl, htk]
   exact hv.mono hle
  ·exact .slice _ _ _ _ ⟨g, 0, z, cap * z⟩ _ (Inj.upd_same _ _ _) hnc (fun _ => ⟨by simp, fun _ => by simp⟩)
def rowLen : AVal → Option Nat
 | .slice _ n => some n
 | .vsl n _ => some n
 | _ => none
theorem rowCells (r : Rel P w0 m h w) {z n : Nat} {x : AVal} {x' : Value} {cs : List AVal} (hx : VR m x x') (hl : rowLen x = some n) (h0 : 0 < n) (hf : firstA h z n x = some cs) :
  ∃ b off cap ds, x' = .slice (some ⟨b, off, none⟩) n cap ∧ ds.length = n * z ∧ VRs m cs ds ∧ ∀ (j : Nat) (v : Value), ds[j]? = some v → w.cell? ⟨b, off + j, none⟩ = some v := by
 cases hx <;> simp [rowLen] at hl
 case nilSlice => omega
 case empSlice => omega
 case slice id o len cap E a hE hle hc =>
  subst hl
  obtain ⟨rfl, _⟩ := hc (by omega)
  simp only [firstA, if_neg (show ¬ len = 0 by omega)] at hf
  obtain ⟨ds, h1, h2, h3, _⟩ := r.cells hE hf
  exact ⟨_, _, cap, ds, rfl, h1, h2, fun j v hj => by have := h3 j v hj; rwa [Addr.add_lit] at this⟩
 case vsl0 => omega
 case vsl len cap g o a c hle hf1 hv =>
  subst hl
  simp only [firstA] at hf
  split at hf
  ·rename_i hb
   injection hf with hf; subst hf
   obtain ⟨ds, h1, h2, h3⟩ := r.stills hf1 hv
   have e : a.take (len * z) = a := List.take_of_length_le (by omega)
   rw [e]
   exact ⟨_, _, cap, ds, rfl, by omega, h2, fun j v hj => by have := h3 j v hj; rwa [Addr.add_lit] at this⟩
  ·cases hf
theorem rowNone {x : AVal} {x' : Value} (hx : VR m x x') (hl : rowLen x = some 0) : ∃ a c, x' = .slice a 0 c := by
 cases hx <;> simp [rowLen] at hl
 case nilSlice => exact ⟨_, _, rfl⟩
 case empSlice => exact ⟨_, _, rfl⟩
 case slice => subst hl; exact ⟨_, _, rfl⟩
 case vsl0 => exact ⟨_, _, rfl⟩
 case vsl => subst hl; exact ⟨_, _, rfl⟩
set_option maxHeartbeats 2000000 in
theorem clone_zero {ρ : Ren} (L : SlLaysE0.n41 P ρ) {i0 : TypeInfo} (hi : P.info? (ρ.t 23) = some i0) (z23 : ∀ w, (Go.sizeOf (ρ.t 23)).run P w = .ok i0.size w) (a : Addr) (c : Nat) (w : World) :
  Calls P (ρ.f 41) #[.slice (some a) 0 c] w fun e w' => ∃ a', e = .returned (.slice (some a') 0 0) ∧ Below w.heap.size w w' := by
 have mixed := L.mixed; have t4 := L.t4; have a4 := L.a4; have z4 := L.z4; have v4 := L.v4; have t22 := L.t22; have a22 := L.a22; have z22 := L.z22; have v22 := L.v22
 have q22 : ∀ (w : World) (a : Option Addr) (n c n' c' : Nat), (binOp .eql (ρ.t 22) (.slice a n c) (.slice none n' c')).run P w = .ok (.bool a.isNone) w := fun w a n c n' c' => Lib.run_eql_slice_nil w _ _ a n c n' c' L.t22
 have u22 : ∀ w, Sem.run P (underlying (ρ.t 22)) w = .ok (TypeDesc.slice (ρ.t 23)) w := run_underlying t22
 have happ : ∀ ty (base : Option Addr) (w : World), (Builtin.append_ #[ρ.t 22, ρ.t 22] ty #[.slice base 0 0, .slice (some a) 0 c]).run P w = .ok (.slice base 0 0) w := fun ty base w =>
  append_none rfl rfl t22 t22 rfl hi (Nat.le_refl _) (fun w => by simp [Builtin.lenOf]) (by simp [Builtin.firstCells, loadCells, loadCellsFrom])
 obtain ⟨_, _, FG⟩ := L.f41
 go_enter FG, SlBodyN.n41_ntmps ρ
 go_wp2
 go_ret
 exact ⟨_, rfl, (Below.refl _ w).alloc (Nat.le_refl _) _⟩
def infoOk (i : TypeInfo) (n : Nat) : Bool := decide (i.size ≠ 0 ∧ n ≤ 1099511627776 ∧ n * i.bytes ≤ 1099511627776 ∧ i.zero.map (·.cells.size) = some i.size)
def extClone (P : Program) (e : TypeId) (h : AHeap) : List AVal → Option (AVal × AHeap)
 | [x] =>
  match rowLen x with
  | some 0 =>
   match P.info? e with
   | some _ => some (.slice none 0, h)
   | none => none
  | some n =>
   match P.info? e with
   | some i =>
    match (firstA h i.size n x).map (·.map can1) with
    | some cs => if cs.all AVal.one = true ∧ infoOk i n = true then some (.slice (some (h.size, 0)) n, h.push (.cells (some e) 2 cs)) else none
    | none => none
   | none => none
  | none => none
 | _ => none
theorem VRs.one1 {cs : List AVal} {ds : List Value} (hv : VRs m cs ds) (h1 : cs.all AVal.one = true) : ∀ u ∈ ds, u.oneCell' = true := by
 intro u hu
 obtain ⟨j, hj, rfl⟩ := List.getElem_of_mem hu
 have hj' : j < cs.length := by rw [hv.1]; exact hj
 exact (hv.2 j _ _ (List.getElem?_eq_getElem hj') (List.getElem?_eq_getElem hj)).one (List.all_eq_true.1 h1 _ (List.getElem_mem hj'))
theorem one_args {m : Inj} {x : AVal} {cargs : Array Value} (hv : VRs m [x] cargs.toList) : ∃ a, cargs = #[a] ∧ VR m x a := by
 have := hv.1
 match cargs, this with
 | ⟨[a]⟩, _ => exact ⟨a, rfl, hv.2 0 _ _ rfl rfl⟩
theorem two_args {m : Inj} {x y : AVal} {cargs : Array Value} (hv : VRs m [x, y] cargs.toList) : ∃ a b, cargs = #[a, b] ∧ VR m x a ∧ VR m y b := by
 have := hv.1
 match cargs, this with
 | ⟨[a, b]⟩, _ => exact ⟨a, b, rfl, hv.2 0 _ _ rfl rfl, hv.2 1 _ _ rfl rfl⟩
def ExtOk (P : Program) (G : Nat → Option (List AVal)) (f : FuncId) (ext : Gd → AHeap → List AVal → Option (AVal × AHeap)) : Prop := CallOk P G fun g h f' args => if f' = f then ext g h args else none
theorem ExtOk.of {G : Nat → Option (List AVal)} {f : FuncId} {ext : Gd → AHeap → List AVal → Option (AVal × AHeap)}
  (hx : ∀ g h args v h', ext g h args = some (v, h') → Keeps g h h' ∧ ∀ w0 m w (cargs : Array Value), Rel P w0 m h w → VRs m args cargs.toList → Invokes P f cargs w fun v' w' => ∃ m' : Inj, (m.ext h.size m') ∧ Rel P w0 m' h' w' ∧ VR m' v v') : ExtOk P G f ext := by
 intro g h f' args v h' hc
 dsimp only at hc
 split at hc
 ·rename_i e; subst e
  obtain ⟨k, q⟩ := hx g h args v h' hc
  exact ⟨k, fun w0 m w cargs _ r hv => q w0 m w cargs r hv⟩
 ·cases hc
theorem clone_ok {ρ : Ren} (L : SlLaysE0.n41 P ρ) (G : Nat → Option (List AVal)) : ExtOk P G (ρ.f 41) fun g h args => extClone P (ρ.t 23) h args := by
 refine ExtOk.of fun g h args v h' hc => ?_
 have en := L.f41.enters rfl
 unfold extClone at hc
 split at hc
 ·rename_i x
  split at hc
  ·rename_i hl
   split at hc
   ·rename_i i hi
    simp only [Option.some.injEq, Prod.mk.injEq] at hc
    obtain ⟨rfl, rfl⟩ := hc
    refine ⟨Keeps.refl _ _, fun w0 m w cargs r hv => ?_⟩
    obtain ⟨x', rfl, hx⟩ := one_args hv
    obtain ⟨a, c, rfl⟩ := rowNone hx hl
    refine invokes_of_calls en ?_
    cases a with
    | none =>
     refine (AnyE.slices_Clone_nil L 0 c w).mono ?_
     rintro e w' ⟨rfl, rfl⟩
     exact ⟨_, rfl, m, Inj.ext.refl _ _, r, .nilSlice⟩
    | some a =>
     refine (clone_zero L hi (fun w => by simp [Go.sizeOf, typeInfo, hi]) a c w).mono ?_
     rintro e w' ⟨a', rfl, hb⟩
     exact ⟨_, rfl, m, Inj.ext.refl _ _, r.later hb, .empSlice _⟩
   ·cases hc
  ·rename_i n hne hl
   split at hc
   ·rename_i i hi
    split at hc
    ·rename_i cs hcs
     split at hc
     ·rename_i hb
      obtain ⟨h1, hb⟩ := hb
      simp only [infoOk, decide_eq_true_eq] at hb
      obtain ⟨hs0, hn, hby, hz⟩ := hb
      simp only [Option.some.injEq, Prod.mk.injEq] at hc
      obtain ⟨rfl, rfl⟩ := hc
      refine ⟨Keeps.push _ _ _, fun w0 m w cargs r hv => ?_⟩
      obtain ⟨x', rfl, hx⟩ := one_args hv
      simp only [Option.map_eq_some_iff] at hcs hz
      obtain ⟨cs0, hf, rfl⟩ := hcs
      obtain ⟨z, hz, hzs⟩ := hz
      obtain ⟨b, off, cap, ds, rfl, d1, d2, d3⟩ := rowCells r hx hl (Nat.pos_of_ne_zero fun e => hne e) hf
      have d2' := d2.can1
      refine invokes_of_calls en ?_
      refine (AnyE.slices_Clone L i z i.size i.bytes hi hz rfl rfl hzs (by omega) (fun w => by simp [Go.sizeOf, typeInfo, hi]) b off n cap ds w d1 (by unfold maxLen; omega) (by omega) d3 (d2'.one1 h1)).mono ?_
      rintro e w' ⟨v', rfl, ho, hne, hb⟩
      have hsz : szOf P (ρ.t 23) = some i.size := by simp [szOf, hi]
      obtain ⟨m', q1, q2, q3⟩ := r.row hb ho hne (by simp [eszOf, szOf_cells hsz]) d2' h1
      exact ⟨_, rfl, m', q1, q2, q3⟩
     ·cases hc
    ·cases hc
   ·cases hc
  ·cases hc
 ·cases hc
def extCloneF (P : Program) (e : TypeId) (h : AHeap) : List AVal → Option (AVal × AHeap)
 | [x] =>
  match rowLen x with
  | some 0 =>
   match P.info? e with
   | some _ => some (.vsl 0 [], h)
   | none => none
  | some n =>
   match P.info? e with
   | some i =>
    match (firstA h i.size n x).map (·.map can1) with
    | some cs => if cs.all AVal.one = true ∧ infoOk i n = true then some (.vsl n cs, h) else none
    | none => none
   | none => none
  | none => none
 | _ => none
def extGrow (P : Program) (e : TypeId) (h : AHeap) : List AVal → Option (AVal × AHeap)
 | [.slice none 0, .int .i64 n] =>
  if n = 0 then some (.slice none 0, h) else
  match P.info? e with
  | some i => if 0 < n ∧ infoOk i n.toNat = true then some (.slice (some (h.size, 0)) 0, h.push (.cells (some e) 2 [])) else none
  | none => none
 | _ => none
def extCmp (h : AHeap) : List AVal → Option (AVal × AHeap)
 | [.str a, .str b] => some (.int .i64 (compareBytes a b), h)
 | _ => none
def isExt (P : Program) (f : FuncId) : Bool :=
 match P.funcs[f]? with
 | some fn => !(fn.name == "runtime.NumGoroutine") && fn.body.isNone
 | none => false
theorem run_ext {f : FuncId} (hx : isExt P f = true) {F : Array Value → Sem Value} (hn : ∀ fn, P.funcs[f]? = some fn → Extern.findNext fn = none ∧ Extern.find fn = some F) {cargs : Array Value} {v : Value} {w' : World} (h1 : (F cargs).run P w = .ok v w') {Q : Value → World → Prop} (hq : Q v w') : Invokes P f cargs w Q := by
 unfold isExt at hx
 split at hx
 ·rename_i fn hfn
  simp only [Bool.and_eq_true, Bool.not_eq_true', Option.isNone_iff_eq_none] at hx
  obtain ⟨e1, e2⟩ := hn fn hfn
  have hrun : (callFunc f cargs).run P w = .ok (.value v) w' := by
   unfold callFunc
   simp only [Sem.run_bind, program, Sem.run, Result.andThen_ok, hfn]
   rw [if_neg (by rw [hx.1]; decide), if_pos (by rw [hx.2]; rfl)]
   simp only [e1, e2, Sem.run_bind]
   rw [show Sem.run P (Go.mark (Mark.extern f)) w = .ok () w from rfl]
   simp only [Result.andThen_ok, h1, Sem.run_pure]
  unfold Invokes
  rw [hrun]
  exact hq
 ·cases hx
theorem cmp_ok {f : FuncId} (G : Nat → Option (List AVal)) (hx : isExt P f = true) (hn : ∀ fn, P.funcs[f]? = some fn → Extern.findNext fn = none ∧ Extern.find fn = some Extern.BytealgCompare.compare) : ExtOk P G f fun g h args => extCmp h args := by
 refine ExtOk.of fun g h args v h' hc => ?_
 unfold extCmp at hc
 split at hc
 ·rename_i a b
  simp only [Option.some.injEq, Prod.mk.injEq] at hc
  obtain ⟨rfl, rfl⟩ := hc
  refine ⟨Keeps.refl _ _, fun w0 m w cargs r hv => ?_⟩
  obtain ⟨s, t, rfl, hs, ht⟩ := two_args hv
  obtain rfl := hs.inv_str
  obtain rfl := ht.inv_str
  exact run_ext hx hn (run_compareString _ _ w) ⟨m, Inj.ext.refl _ _, r, .int _ _⟩
 ·cases hc
theorem idx_ok {f : FuncId} (G : Nat → Option (List AVal)) (hx : isExt P f = true) (hn : ∀ fn, P.funcs[f]? = some fn → Extern.findNext fn = none ∧ Extern.find fn = some Extern.BytealgIndexByte.indexByte) : ExtOk P G f fun g h args => ext1 h args := by
 refine ExtOk.of fun g h args v h' hc => ?_
 unfold ext1 at hc
 split at hc
 ·rename_i s c
  split at hc
  ·rename_i hr
   simp only [Option.some.injEq, Prod.mk.injEq] at hc
   obtain ⟨rfl, rfl⟩ := hc
   refine ⟨Keeps.refl _ _, fun w0 m w cargs r hv => ?_⟩
   obtain ⟨a, b, rfl, ha, hb⟩ := two_args hv
   obtain rfl := ha.inv_str
   obtain rfl := hb.inv_int
   refine run_ext hx hn (v := .int .i64 (idxOf s (UInt8.ofNat c.toNat))) (w' := w) ?_ ⟨m, Inj.ext.refl _ _, r, .int _ _⟩
   show Sem.run P (do
    let b ← Extern.Bytes.bytesOf (.string ⟨⟨s⟩⟩)
    let c ← Extern.Bytes.asByte (.int .u8 c)
    match (List.range b.size).find? fun i => b[i]! == c with
    | some i => pure (goInt i)
    | none => pure (goInt (-1))) w = _
   simp only [Extern.Bytes.bytesOf, Extern.Bytes.asByte, Sem.run_bind, Sem.run_pure, Result.andThen_ok]
   rw [idx_eq s c.toNat.toUInt8]
   unfold idxOf
   rw [show UInt8.ofNat c.toNat = c.toNat.toUInt8 from rfl]
   cases (List.range s.length).find? fun i => s[i]? == some c.toNat.toUInt8 <;> rfl
  ·cases hc
 ·cases hc
def strKeysA : List (AVal × AVal) → Option (List (List UInt8))
 | [] => some []
 | (.str s, _) :: r => (strKeysA r).map (s :: ·)
 | _ => none
def insT (x : List UInt8) : List (List UInt8) → List (List UInt8)
 | [] => [x]
 | y :: l => bif Op.bytesLess y x then y :: insT x l else x :: y :: l
def sortT (l : List (List UInt8)) : List (List UInt8) := l.foldr insT []
theorem insT_perm (x : List UInt8) : ∀ l, (insT x l).Perm (x :: l)
 | [] => .refl _
 | y :: l => by
  unfold insT
  cases Op.bytesLess y x
  ·exact .refl _
  ·exact ((insT_perm x l).cons y).trans (.swap x y l)
theorem sortT_perm : ∀ l, (sortT l).Perm l
 | [] => .refl _
 | x :: l => (insT_perm x (sortT l)).trans ((sortT_perm l).cons x)
theorem insT_sorted (x : List UInt8) : ∀ {l}, l.Pairwise (fun a b : List UInt8 => a ≤ b) → (insT x l).Pairwise fun a b : List UInt8 => a ≤ b
 | [], _ => by simp [insT]
 | y :: l, h => by
  unfold insT
  rw [bytesLess_eq]
  by_cases hlt : y < x
  ·rw [decide_eq_true hlt]
   refine List.pairwise_cons.2 ⟨fun z hz => ?_, insT_sorted x (List.pairwise_cons.1 h).2⟩
   rcases List.mem_cons.1 ((insT_perm x l).mem_iff.1 hz) with rfl | hz
   ·exact List.le_of_lt hlt
   ·exact (List.pairwise_cons.1 h).1 z hz
  ·rw [decide_eq_false hlt]
   have hxy : x ≤ y := List.not_lt.1 hlt
   refine List.pairwise_cons.2 ⟨fun z hz => ?_, h⟩
   rcases List.mem_cons.1 hz with rfl | hz
   ·exact hxy
   ·exact List.le_trans hxy ((List.pairwise_cons.1 h).1 z hz)
theorem sortT_sorted : ∀ l, (sortT l).Pairwise fun a b : List UInt8 => a ≤ b
 | [] => .nil
 | x :: l => insT_sorted x (sortT_sorted l)
theorem sortT_eq (l : List (List UInt8)) : l.mergeSort (fun x y => decide (x ≤ y)) = sortT l := by
 have tr : ∀ a b c : List UInt8, leB a b = true → leB b c = true → leB a c = true := fun a b c h1 h2 => by simp only [leB, decide_eq_true_eq] at *; exact List.le_trans h1 h2
 have tot : ∀ a b : List UInt8, (leB a b || leB b a) = true := fun a b => by simp only [leB, Bool.or_eq_true, decide_eq_true_eq]; exact List.le_total a b
 refine List.Perm.eq_of_pairwise (le := fun a b : List UInt8 => a ≤ b) (fun a b _ _ h1 h2 => List.le_antisymm h1 h2) ?_ (sortT_sorted l) ((List.mergeSort_perm l leB).trans (sortT_perm l).symm)
 exact (List.pairwise_mergeSort tr tot l).imp fun h => by simpa using h
def keysOk (ks : List (List UInt8)) : Bool := decide (ks.length ≤ 1099511627776) && ks.all fun s => decide (s.length ≤ 1099511627776)
def sortedA (e : TypeId) (h : AHeap) (ks : List (List UInt8)) : AVal × AHeap :=
 match ks with
 | [] => (.slice none 0, h)
 | _ => (.slice (some (h.size, 0)) ks.length, h.push (.cells (some e) 2 ((sortT ks).map .str)))
def boxCell (h : AHeap) (b : Nat) : Option AVal :=
 match h.get b with
 | some (.cells none 2 [v]) => some v
 | _ => none
def extSorted (it : FuncId) (e : TypeId) (h : AHeap) : List AVal → Option (AVal × AHeap)
 | [.func (.func f) [] [.ptr (some (b, 0))]] =>
  if f = it then
   match boxCell h b with
   | some (.map none) => some (.slice none 0, h)
   | some (.map (some mid)) =>
    match h.get mid with
    | some (.map st es) =>
     if st = 2 then
      match strKeysA es with
      | some ks => if keysOk ks = true then some (sortedA e h ks) else none
      | none => none
     else none
    | _ => none
   | _ => none
  else none
 | _ => none
theorem strKeysA_map {es : List (AVal × AVal)} {en : Array MapEntry} (hl : es.length = en.size) (hv : ∀ (i : Nat) (k v : AVal) (e : MapEntry), es[i]? = some (k, v) → en[i]? = some e → VR m k e.key ∧ VR m v e.val) {ks : List (List UInt8)} (hk : strKeysA es = some ks) :
  en.toList.map (·.key) = ks.map encStr := by
 have key : ∀ (es : List (AVal × AVal)) (l : List MapEntry) (ks : List (List UInt8)), es.length = l.length → (∀ (i : Nat) (k v : AVal) (e : MapEntry), es[i]? = some (k, v) → l[i]? = some e → VR m k e.key) → strKeysA es = some ks → l.map (·.key) = ks.map encStr := by
  intro es
  induction es with
  | nil =>
   intro l ks hl _ hk
   have : l = [] := List.length_eq_zero_iff.1 hl.symm
   subst this
   simp [strKeysA] at hk
   subst hk; rfl
  | cons p es ih =>
   intro l ks hl hv hk
   obtain ⟨k, v⟩ := p
   cases l with
   | nil => simp at hl
   | cons x l =>
    unfold strKeysA at hk
    split at hk
    ·cases ‹_ :: _ = []›
    ·rename_i s v' r heq
     injection heq with h1 h2
     injection h1 with h1 h3
     subst h1; subst h2
     simp only [Option.map_eq_some_iff] at hk
     obtain ⟨ks', hk', rfl⟩ := hk
     have hx := (hv 0 _ _ x rfl rfl).inv_str
     rw [List.map_cons, List.map_cons, ih l ks' (by simpa using hl) (fun i k v e h1 h2 => hv (i + 1) k v e (by simpa using h1) (by simpa using h2)) hk', hx]
    ·cases hk
 exact key es en.toList ks (by simpa using hl) (fun i k v e h1 h2 => (hv i k v e h1 (by simpa using h2)).1) hk
theorem encStr_nodup {l : List (List UInt8)} (h : l.Nodup) : (l.map encStr).Nodup := by
 rw [List.Nodup, List.pairwise_map]
 exact h.imp fun hne e => hne (encStr_inj e)
theorem MapOk.stamped {en : Array MapEntry} {clock : Nat} (h : MapOk en clock) {ks : List (List UInt8)} (hk : en.toList.map (·.key) = ks.map encStr) : MapKept.Stamped en clock := by
 refine ⟨h.1, h.2.1, ?_⟩
 have e : en.toList.filterMap strK = ks.map fun s => (⟨⟨s⟩⟩ : ByteArray) := by
  have key : ∀ (l : List MapEntry) (ks : List (List UInt8)), l.map (·.key) = ks.map encStr → l.filterMap strK = ks.map fun s => (⟨⟨s⟩⟩ : ByteArray) := by
   intro l
   induction l with
   | nil => intro ks h; cases ks with | nil => rfl | cons => simp at h
   | cons x l ih =>
    intro ks h
    cases ks with
    | nil => simp at h
    | cons s ks =>
     simp only [List.map_cons, List.cons.injEq] at h
     have hx : strK x = some ⟨⟨s⟩⟩ := by unfold strK; rw [h.1]
     rw [List.filterMap_cons, hx, ih ks h.2, List.map_cons]
  exact key _ _ hk
 have h3 := h.2.2
 rw [e] at h3
 rw [hk]
 refine encStr_nodup ?_
 rw [List.Nodup, List.pairwise_map] at h3
 exact h3.imp fun hne e => hne (by rw [e])
theorem sorted_ok {ρ σ τ : Ren} (L : SlLaysZ.n6 P ρ) (K : SlLaysZ.n7 P σ) (T : SlLaysM.n6 P τ) (hf9 : τ.f 6 = ρ.f 9) (ht : σ.t 26 = ρ.t 26) (hk : P.underlying (ρ.t 26) = some .string) (G : Nat → Option (List AVal)) :
  ExtOk P G (ρ.f 6) fun g h args => extSorted (σ.f 10) (ρ.t 26) h args := by
 refine ExtOk.of fun g h args v h' hc => ?_
 have en := L.f6.enters rfl
 have e9 : ∀ args w, (callFunc (ρ.f 9) args).run P w = .ok (.enter (ρ.f 9) args) w := by rw [← hf9]; exact T.f6.enters rfl
 have sorts : ∀ k, AnyZ.SortsIn P ρ Fence.wide k := fun k =>
  ⟨fun blk off cap ss W hH hblk hsz => callsIn_wide.2 (by rw [← hf9]; exact AnyM.slices_Sort_string T blk off cap ss W hH hblk hsz), fun p cap W => callsIn_wide.2 (by rw [← hf9]; exact AnyM.slices_Sort_string_none T p cap W)⟩
 have hsz : szOf P (ρ.t 26) = some 1 := by
  have := L.z26 default
  unfold Go.sizeOf typeInfo at this
  unfold szOf
  cases hi : P.info? (ρ.t 26) with
  | none => simp [hi] at this
  | some i => simp [hi] at this; simp [this]
 unfold extSorted at hc
 split at hc
 ·rename_i f b
  split at hc
  ·rename_i hf
   subst hf
   have box : ∀ {x : AVal}, boxCell h b = some x → ∀ {w0 : World} {m : Inj} {w : World} {cargs : Array Value}, Rel P w0 m h w → VRs m [.func (.func (σ.f 10)) [] [.ptr (some (b, 0))]] cargs.toList →
     ∃ Bm y, cargs = #[.func (.func (σ.f 10)) #[] #[.pointer (some ⟨Bm, 0, none⟩)]] ∧ Bm < w.heap.size ∧ w.cell? ⟨Bm, 0, none⟩ = some y ∧ VR m x y := by
    intro x hx w0 m w cargs r hv
    obtain ⟨a, rfl, ha⟩ := one_args hv
    cases ha with
    | func _ _ _ c d h1 k1 h2 k2 =>
     have hc0 : c = #[] := Array.eq_empty_of_size_eq_zero h1.symm
     subst hc0
     match d, h2, k2 with
     | ⟨[y]⟩, _, k2 =>
      have hy := k2 0 _ y rfl rfl
      cases hy with
      | ptr _ _ E hE =>
       unfold boxCell at hx
       split at hx
       ·rename_i v hg
        injection hx with hx
        subst hx
        obtain ⟨⟨_, hbase⟩, hobj⟩ := r.obj b E _ hE hg
        obtain ⟨cur, e, fz, q1, q2, q3, _⟩ := hobj (by decide)
        obtain ⟨_, c, q4, q5⟩ := q3 0 v rfl
        have hb0 := hbase rfl rfl
        rw [hb0] at q4 ⊢
        exact ⟨E.g, c, rfl, (Array.getElem?_eq_some_iff.1 q1).1, by simpa [World.cell?, q1] using q4, q5⟩
       ·cases hx
   have fin : ∀ {w0 : World} {m : Inj} {w : World} {Bm : Nat} {S : List (List UInt8) → Prop} {N : Nat} {Q : Value → World → Prop}, N ≤ 1099511627776 → SeqGives Fence.wide 2 P (σ.f 10) #[.pointer (some ⟨Bm, 0, none⟩)] encStr S N w →
     (∀ v ss w', S ss → w'.ownsRow w.heap.size (ρ.t 26) 1 v ss.length ((ss.mergeSort (fun x y => decide (x ≤ y))).map encStr) → (v = .slice none 0 0 ↔ ss = []) → Below w.heap.size w w' → Q v w') →
     Invokes P (ρ.f 6) #[.func (.func (σ.f 10)) #[] #[.pointer (some ⟨Bm, 0, none⟩)]] w Q := by
    intro w0 m w Bm S N Q hN hseq hQ
    refine invokes_of_calls en ((callsIn_wide (n := 5)).1 ?_)
    refine (AnyZ.sorted_in L Fence.wide 5 trivial trivial trivial trivial rfl (by omega) (sorts _) e9 (σ.f 10) _ trivial (K.f10.enters rfl) S N (by unfold maxLen; omega) (by omega) w hseq).mono ?_
    rintro e w' ⟨v, ss, rfl, hS, hrow, hnil, hb⟩
    exact ⟨_, rfl, hQ v ss w' hS hrow hnil hb⟩
   split at hc
   ·rename_i hbx
    simp only [Option.some.injEq, Prod.mk.injEq] at hc
    obtain ⟨rfl, rfl⟩ := hc
    refine ⟨Keeps.refl _ _, fun w0 m w cargs r hv => ?_⟩
    obtain ⟨Bm, y, rfl, hlt, hcell, hy⟩ := box hbx r hv
    cases hy
    refine fin (w0 := w0) (m := m) (Nat.zero_le _) (AnyZ.keys_gives_nil (ρ := σ) { K with } Fence.wide 2 trivial rfl Bm w hlt hcell) fun v ss w' hS hrow hnil hb => ?_
    obtain rfl := hnil.2 hS
    exact ⟨m, Inj.ext.refl _ _, r.later hb, .nilSlice⟩
   ·rename_i mid hbx
    split at hc
    ·rename_i st es hg
     split at hc
     ·rename_i hst
      split at hc
      ·rename_i ks hks
       split at hc
       ·rename_i hok
        injection hc with hc
        simp only [keysOk, Bool.and_eq_true, decide_eq_true_eq, List.all_eq_true] at hok
        obtain ⟨ok1, ok2⟩ := hok
        refine ⟨?_, fun w0 m w cargs r hv => ?_⟩
        ·unfold sortedA at hc
         split at hc
         ·injection hc with e1 e2; subst e2; exact Keeps.refl _ _
         ·injection hc with e1 e2; subst e2; exact Keeps.push _ _ _
        ·obtain ⟨Bm, y, rfl, hlt, hcell, hy⟩ := box hbx r hv
         cases hy with
         | map _ E hE =>
          obtain ⟨_, hobj⟩ := r.obj mid E _ hE hg
          obtain ⟨ents, clock, c1, c2, c3, c4⟩ := MapR.two (hobj (by rw [hst]; decide)) (by rw [hst]; decide)
          have hkeys := strKeysA_map c2 c3 hks
          have hlen : ents.size = ks.length := by have := congrArg List.length hkeys; simpa using this
          let R : Value → Option (DataW Unit × List MemPlace) := fun _ => some (.nil, [])
          have hrd : ∀ (l : List MapEntry) (ks : List (List UInt8)), l.map (·.key) = ks.map encStr → (∀ s ∈ ks, s.length ≤ 1099511627776) → l.map (Go.WideElems.rd P (σ.t 26) R) = ks.map fun s => some (.string s, .nil) := by
           intro l
           induction l with
           | nil => intro ks h _; cases ks with | nil => rfl | cons => simp at h
           | cons x l ih =>
            intro ks h hs
            cases ks with
            | nil => simp at h
            | cons s ks =>
             simp only [List.map_cons, List.cons.injEq] at h ⊢
             refine ⟨?_, ih ks h.2 fun t ht => hs t (by simp [ht])⟩
             have hs1 := hs s (by simp)
             have hk1 : keyOf P (σ.t 26) (encStr s) = some (.string s) := by
              have : s.length ≤ maxLen := by unfold maxLen; omega
              simp [keyOf, mapKey, ht, hk, encStr, ByteArray.size, this]
             unfold Go.WideElems.rd
             rw [h.1, hk1]
             rfl
          have hrd' := hrd _ _ hkeys ok2
          have hrg : ents.toList.map (Go.WideElems.rg P (σ.t 26) R) = ks.map fun s => (.string s, .nil) := by
           have := congrArg (List.map fun o : Option (Lit × DataW Unit) => o.getD (.bool false, .nil)) hrd'
           rw [List.map_map, List.map_map] at this
           exact this
          have hown : w.ownsMap P (σ.t 26) R E.g ents.size (.map ((ents.toList.map (Go.WideElems.rg P (σ.t 26) R)).foldr DataW.insert [])) := by
           refine ⟨ents, clock, c1, ⟨by rw [hlen]; unfold maxLen; omega, c4.stamped hkeys, fun x hx => ?_⟩, Nat.le_refl _, rfl⟩
           have hm := List.mem_map_of_mem (f := Go.WideElems.rd P (σ.t 26) R) hx
           rw [hrd'] at hm
           obtain ⟨s, _, hs⟩ := List.mem_map.1 hm
           exact ⟨_, hs.symm⟩
          rw [hrg] at hown
          have hperm : (strKeys (H := Unit) (.map ((ks.map fun s => (Lit.string s, (DataW.nil : DataW Unit))).foldr DataW.insert []))).Perm ks := by
           have := (sorted_perm (ks.map fun s => (Lit.string s, (DataW.nil : DataW Unit)))).map fun p => strOf p.1
           refine (show List.Perm _ _ from this).trans ?_
           simp [List.map_map, Function.comp_def, strOf]
          have hsize : Maps.size (H := Unit) (.map ((ks.map fun s => (Lit.string s, (DataW.nil : DataW Unit))).foldr DataW.insert [])) = ks.length := by
           rw [Maps.size_eq, (sorted_perm _).length_eq, List.length_map]
          refine fin (w0 := w0) (m := m) (by rw [hsize]; exact ok1) (AnyZ.keys_gives (ρ := σ) { K with } Fence.wide 2 trivial rfl (by omega) Bm E.g ents.size _ w hlt hcell hown) fun v ss w' hS hrow hnil hb => ?_
          have hp := hS.trans hperm
          unfold sortedA at hc
          split at hc
          ·injection hc with e1 e2
           subst e1; subst e2
           obtain rfl := hnil.2 hp.eq_nil
           exact ⟨m, Inj.ext.refl _ _, r.later hb, .nilSlice⟩
          ·rename_i hne
           injection hc with e1 e2
           subst e1; subst e2
           have hss : ss ≠ [] := fun e => hne (by subst e; exact hp.symm.eq_nil)
           rw [show (ss.mergeSort fun x y => decide (x ≤ y)) = sortT ks from (mergeSort_of_perm hp).trans (sortT_eq ks), hp.length_eq] at hrow
           exact r.row hb hrow (fun e => hss (hnil.1 e)) (by simp [eszOf, szOf_cells hsz]) (VRs.map _ _ _ fun x _ => VR.str ⟨⟨x⟩⟩) (by simp [AVal.one])
       ·cases hc
      ·cases hc
     ·cases hc
    ·cases hc
   ·cases hc
  ·cases hc
 ·cases hc
def repOk (s : List UInt8) (n : Int) : Bool := decide (0 ≤ n ∧ n ≤ 1099511627776 ∧ s.length * n.toNat ≤ 1099511627776)
def extRepeat (h : AHeap) : List AVal → Option (AVal × AHeap)
 | [.str s, .int .i64 n] => if repOk s n = true then some (.str (Lib.repeatL s n.toNat), h) else none
 | _ => none
def extCut (h : AHeap) : List AVal → Option (AVal × AHeap)
 | [.str s, .str t] => if s.length ≤ 4294967280 then some (.tuple [.str (Lib.cut s t).1, .str (Lib.cut s t).2.1, .bool (Lib.cut s t).2.2], h) else none
 | _ => none
def extIndex (h : AHeap) : List AVal → Option (AVal × AHeap)
 | [.str s, .str t] => if s.length ≤ 4294967280 then some (.int .i64 (Lib.index s t), h) else none
 | _ => none
end
def extTrue (h : AHeap) : List AVal → Option (AVal × AHeap)
 | [] => some (.bool true, h)
 | _ => none
def extNone (h : AHeap) : List AVal → Option (AVal × AHeap)
 | [] => some (.undef, h)
 | _ => none
def optL (f : AVal → Option AVal) : List AVal → Option (List AVal)
 | [] => some []
 | v :: vs => match f v, optL f vs with | some v', some vs' => some (v' :: vs') | _, _ => none
def argAt (args : List AVal) (i o : Nat) : Option AVal :=
 match args[i]? with
 | some (.ptr (some (id, b))) => some (.ptr (some (id, b + o)))
 | _ => none
def renV (args : List AVal) : Nat → AVal → Option AVal
 | 0, _ => none
 | n + 1, v =>
  match v with
  | .ptr (some (i, o)) => argAt args i o
  | .vptr cs => (optL (renV args n) cs).map .vptr
  | .agg cs => (optL (renV args n) cs).map .agg
  | .func fn a b => match optL (renV args n) a, optL (renV args n) b with | some a', some b' => some (.func fn a' b') | _, _ => none
  | v => bif flat1 v then some v else none
def renE (args : List AVal) : List (AVal × AVal) → Option (List (AVal × AVal))
 | [] => some []
 | (k, v) :: es => match renV args 10 v, renE args es with | some v', some es' => some ((k, v') :: es') | _, _ => none
def isPtr : AVal → Bool
 | .ptr (some _) => true
 | _ => false
abbrev KMs := List (List (AVal × AVal))
def extKM (es : List (AVal × AVal)) (n : Nat) (h : AHeap) (args : List AVal) : Option (AVal × AHeap) :=
 bif Nat.beq args.length n && args.all isPtr then (renE args es).map fun es' => (.map (some h.size), h.push (.map 2 es')) else none
def extLM (es : List (AVal × AVal)) (n : Nat) (h : AHeap) (args : List AVal) : Option (AVal × AHeap) :=
 bif Nat.beq args.length n && args.all isPtr then (renE args es).map fun es' => (.map (some h.size), h.push (.map 3 es')) else none
def flatEq : AVal → AVal → Bool
 | .bool a, .bool b => a == b
 | .int k a, .int k' b => decide (k = k') && decide (a = b)
 | .str a, .str b => decide (a = b)
 | _, _ => false
theorem flatEq_eq {a b : AVal} (h : flatEq a b = true) : a = b ∧ flat1 a = true := by
 unfold flatEq at h
 split at h
 ·exact ⟨by rw [eq_of_beq h], rfl⟩
 ·simp only [Bool.and_eq_true, decide_eq_true_eq] at h
  obtain ⟨rfl, rfl⟩ := h
  exact ⟨rfl, rfl⟩
 ·rw [of_decide_eq_true h]; exact ⟨rfl, rfl⟩
 ·cases h
def flatEqL : List AVal → List AVal → Bool
 | [], [] => true
 | a :: l, b :: r => flatEq a b && flatEqL l r
 | _, _ => false
theorem flatEqL_eq : ∀ {a b : List AVal}, flatEqL a b = true → a = b
 | [], [], _ => rfl
 | a :: l, b :: r, h => by
  simp only [flatEqL, Bool.and_eq_true] at h
  rw [(flatEq_eq h.1).1, flatEqL_eq h.2]
 | [], _ :: _, h => by cases h
 | _ :: _, [], h => by cases h
def extTab (tab : List (AVal × AVal)) (h : AHeap) : List AVal → Option (AVal × AHeap)
 | [.agg cs] => (tab.find? fun p => match p.1 with | .agg ds => flatEqL ds cs | _ => false).map fun p => (p.2, h)
 | _ => none
def extC (P : Program) (km : KMs) (c : Nat × Nat × Nat) (g : Gd) (h : AHeap) (args : List AVal) : Option (AVal × AHeap) :=
 match c.1 with
 | 1 => ext1 h args
 | 2 => extSorted c.2.1 c.2.2 h args
 | 3 => extCmp h args
 | 4 => extClone P c.2.2 h args
 | 5 => extGrow P c.2.2 h args
 | 6 => extCloneF P c.2.2 h args
 | 7 => extRepeat h args
 | 8 => extCut h args
 | 9 => extIndex h args
 | 30 => extTrue h args
 | 31 => extNone h args
 | 32 => extKM (km.getD c.2.1 []) c.2.2 h args
 | 33 => extLM (km.getD c.2.1 []) c.2.2 h args
 | 34 => extTab (km.getD c.2.1 []) h args
 | _ => none
def lookE : List (Nat × Nat × Nat × Nat) → Nat → Option (Nat × Nat × Nat)
 | [], _ => none
 | (f', c) :: l, f => bif Nat.beq f f' then some c else lookE l f
theorem lookE_mem : ∀ {l : List (Nat × Nat × Nat × Nat)} {f : Nat} {c : Nat × Nat × Nat}, lookE l f = some c → (f, c) ∈ l
 | (f', c') :: l, f, c, h => by
  unfold lookE at h
  rw [bif_beq] at h
  split at h
  ·rename_i e; subst e; injection h with h; subst h; simp
  ·exact List.mem_cons_of_mem _ (lookE_mem h)
def extL (P : Program) (km : KMs) (l : List (Nat × Nat × Nat × Nat)) (f : Nat) (g : Gd) (h : AHeap) (args : List AVal) : Option (AVal × AHeap) :=
 match lookE l f with
 | some c => extC P km c g h args
 | none => none
def threeL (ks : List Nat) (l : List (Nat × Nat × Nat × Nat)) : Nat → Bool
 | 0 => true
 | n + 1 => threeL ks l n && (!(Nat.beq (lookN ks n) 3) || (lookE l n).isSome)
theorem threeL_at {ks : List Nat} {l : List (Nat × Nat × Nat × Nat)} : ∀ {n : Nat}, threeL ks l n = true → ∀ f, f < n → lookN ks f = 3 → (lookE l f).isSome = true
 | 0, _, f, hf, _ => by omega
 | n + 1, h, f, hf, h3 => by
  simp only [threeL, Bool.and_eq_true] at h
  by_cases e : f = n
  ·subst e
   have := h.2
   rw [h3] at this
   simpa using this
  ·exact threeL_at h.1 f (by omega) h3
theorem cfgOk_lib {C : Cfg} {km : KMs} {ks : List Nat} {l : List (Nat × Nat × Nat × Nat)} (hk : C.kind = lookN ks) (hmix : C.P.follows .mixedOrders = true) (hall : okAll C ks.length = true) (hro : C.rok = rokOf C.P C.plan) (hx : C.ext = extL C.P km l) (h3 : threeL ks l ks.length = true)
  (he : ∀ p ∈ l, ExtOk C.P C.glob p.1 (extC C.P km p.2)) : CfgOk C := by
 refine ⟨hmix, fun f fn c hkf h1 h2 => ?_, fun f a b hr => ?_, fun f hf => ?_⟩
 ·have hne : C.kind f ≠ 0 := by omega
  refine okAll_at hall ?_ hne (by omega) h1 h2
  rcases Nat.lt_or_ge f ks.length with h | h
  ·exact h
  ·rw [hk, lookN_ge h] at hne; exact absurd rfl hne
 ·rw [hro] at hr
  simp only [rokOf, Bool.and_eq_true] at hr
  exact ⟨(codeOk_same (C := C) (C' := cfg0 C.P C.plan) rfl rfl f a).trans hr.1.1, (codeOk_same (C := C) (C' := cfg0 C.P C.plan) rfl rfl f b).trans hr.1.2, hr.2.1, hr.2.2⟩
 ·have hlt : f < ks.length := by
   rcases Nat.lt_or_ge f ks.length with h | h
   ·exact h
   ·rw [hk, lookN_ge h] at hf; cases hf
  obtain ⟨c, hl⟩ := Option.isSome_iff_exists.1 (threeL_at h3 f hlt (by rw [← hk]; exact hf))
  have := he _ (lookE_mem hl)
  have e : (fun (g : Gd) (h : AHeap) (f' : FuncId) (args : List AVal) => if f' = f then C.ext f g h args else none) = fun (g : Gd) h f' args => if f' = f then extC C.P km c g h args else none := by
   funext g h f' args
   rw [hx]
   simp only [extL, hl]
  rw [e]; exact this
section
variable {C : Cfg} {km : KMs} {l : List (Nat × Nat × Nat × Nat)} {g : Gd} {h : AHeap} {f : Nat} {L F : List Ck}
theorem runsX {c : Nat × Nat × Nat} {args : List AVal} {v : AVal} {h' : AHeap} (hk : C.kind f = 3) (hx : C.ext = extL C.P km l) (hl : lookE l f = some c) (he : extC C.P km c g h args = some (v, h')) : Runs C g h f args v h' := by
 refine ⟨1, ?_⟩
 show callA C (selfN C 0) g h f _ = _
 unfold callA
 rw [hk]
 simp only [hx, extL, hl, he]
theorem strKeysA_enc {V : Type} (ev : V → AVal) : ∀ m : List (List UInt8 × V), strKeysA (encM (fun k => AVal.str k) ev m) = some (m.map Prod.fst)
 | [] => rfl
 | (k, v) :: m => by
  show (strKeysA (encM (fun k => AVal.str k) ev m)).map (k :: ·) = _
  rw [strKeysA_enc ev m]; rfl
theorem lst_eS : ∀ l : List (List UInt8), lst eS l = l.map .str
 | [] => rfl
 | x :: l => by
  have := lst_eS l
  simp only [lst, List.flatMap_cons, List.map_cons] at *
  rw [this]; rfl
theorem HH.sorted {V : Type} {ev : V → AVal} {m : List (List UInt8 × V)} {it t b mid : Nat} (A : HH g h L F) (hk : C.kind f = 3) (hx : C.ext = extL C.P km l) (hl : lookE l f = some (2, it, t)) (k1 k2 : Nat) (h1 : L[k1]? = some (.obj b (.cells none 2 [.map (some mid)])))
  (h2 : L[k2]? = some (.obj mid (.map 2 (encM (fun k => AVal.str k) ev m)))) (hb : keysOk (m.map Prod.fst) = true) :
  ∃ r h', Runs C g h f [.func (.func it) [] [.ptr (some (b, 0))]] (rowV r (sortT (m.map Prod.fst)).length) h' ∧ HH g h' (.lst r t (lst eS (sortT (m.map Prod.fst))) :: L) F := by
 have hlen : (sortT (m.map Prod.fst)).length = (m.map Prod.fst).length := (sortT_perm _).length_eq
 have key : extSorted it t h [.func (.func it) [] [.ptr (some (b, 0))]] = some (sortedA t h (m.map Prod.fst)) := by
  unfold extSorted
  simp only [if_true, boxCell, A.get k1 h1, A.get k2 h2, strKeysA_enc, hb]
 rw [lst_eS]
 generalize hks : m.map Prod.fst = ks at *
 cases ks with
 | nil => exact ⟨none, h, runsX hk hx hl (key.trans rfl), A.nilL t⟩
 | cons x ks => exact ⟨some h.size, _, runsX hk hx hl (h' := h.push (.cells (some t) 2 ((sortT (x :: ks)).map .str))) (key.trans (by rw [hlen]; rfl)), A.pushL t _⟩
end
end Go.Av
