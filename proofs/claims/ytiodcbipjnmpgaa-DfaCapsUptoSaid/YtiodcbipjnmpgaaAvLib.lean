/-
  ABS, 30: functions of Go's library that are told by the kit's contracts: slices.Clone, slices.Grow (of nothing), slices.Sorted (of a map's keys), and the comparison of texts.
-/
import Derived.Test.YtiodcbipjnmpgaaAvMap
import Derived.Shelf.SlicesE.Clone
import Derived.Shelf.Spec.SlicesGrow
import Derived.Shelf.SlIter.Nil
import Derived.Shelf.SortM.Plain
import Derived.Shelf.SortM.SortNone
import Derived.Lib.Bytealg
import Derived.Shelf.Strings.Repeat
import Derived.Shelf.Strings.Cut
import Derived.Shelf.Strings.Search3
namespace Go.Av
open Go.RowKit Go.Shelf Go.Proofs Go.Lib Go.Maps Go.MapKept Go.ChangeMaps Go.WideShapes
set_option linter.unusedVariables false
section
variable {P : Program} {w0 : World} {m : Inj} {h : AHeap} {w : World}
theorem invokes_of_calls {f : FuncId} {args : Array Value} {Q : Value → World → Prop} (he : ∀ args w, (callFunc f args).run P w = .ok (.enter f args) w) (hc : Calls P f args w fun e w' => ∃ v, e = .returned v ∧ Q v w') : Invokes P f args w Q := by
 unfold Invokes
 rw [he args w]
 exact hc
theorem turn_of_below {w w' : World} (hb : Below w.heap.size w w') (g : Nat) : Turn w w' g := ⟨hb.os, hb.tape, hb.output, hb.size, fun k hk _ => hb.block k hk⟩
theorem Rel.newAt (r : Rel P w0 m h w) {w' : World} {E : Ent} {o : AObj} (ht : Turn w w' E.g) (hg : w.heap.size ≤ E.g)
  (hobj : ObjR P (m.upd h.size E) w' E o) : Rel P w0 (m.upd h.size E) (h.push o) w' := by
 refine (r.ghost o).place ht (Nat.le_trans r.size hg) (fun id2 E2 o2 h2 ho2 hl2 => ?_) (r.fz_new (by omega)) (fun hd => by have := r.df_lt hd; omega) (r.fresh (Nat.le_refl _)) (h.get_push_new o) hobj
 have := ((r.ghost o).obj id2 E2 o2 h2 ho2).lt hl2
 omega
theorem Rel.row (r : Rel P w0 m h w) {w' : World} (hb : Below w.heap.size w w') {e : TypeId} {z n : Nat} {v : Value} {ds : List Value} {cs : List AVal} (ho : w'.ownsRow w.heap.size e z v n ds) (hn : v ≠ .slice none 0 0) (hz : eszOf P (some e) = z)
  (hv : VRs m cs ds) (h1 : cs.all AVal.one = true) : ∃ m' : Inj, m.ext h.size m' ∧ Rel P w0 m' (h.push (.cells (some e) 2 cs)) w' ∧ VR m' (.slice (some (h.size, 0)) n) v := by
 obtain ⟨hl, ⟨h0, _⟩ | ⟨g, cap, cur, rfl, hg, hc, hnc, _, hsz, htk⟩⟩ := ho
 ·exact absurd h0 hn
 ·have hle := Inj.le_upd (m := m) (id := h.size) ⟨g, 0, z, cap * z⟩ (r.fresh (Nat.le_refl _))
  refine ⟨m.upd h.size ⟨g, 0, z, cap * z⟩, Inj.ext_upd m _ (Nat.le_refl _), r.newAt (turn_of_below hb _) hg ?_, ?_⟩
  ·refine objR_new (e := e) (fz := (0, 0)) hc rfl hz.symm hsz.symm ?_ h1 (.inl rfl)
   rw [hv.1, hl, htk]
   exact hv.mono hle
  ·exact .slice _ _ _ _ ⟨g, 0, z, cap * z⟩ _ (Inj.upd_same _ _ _) hnc (fun _ => ⟨by simp, fun _ => by simp⟩)
def rowLen : AVal → Option Nat
 | .slice _ n => some n
 | .vsl n _ => some n
 | _ => none
theorem rowCells (r : Rel P w0 m h w) {z n : Nat} {x : AVal} {x' : Value} {cs : List AVal} (hx : VR m x x') (hl : rowLen x = some n) (h0 : 0 < n) (hf : firstA h z n x = some cs) :
  ∃ b off cap ds, x' = .slice (some ⟨b, off, none⟩) n cap ∧ ds.length = n * z ∧ VRs m cs ds ∧ ∀ (j : Nat) (v : Value), ds[j]? = some v → w.cell? ⟨b, off + j, none⟩ = some v := by
 cases hx <;> simp [rowLen] at hl
 case nilSlice => omega
 case empSlice => omega
 case slice id o len cap E a hE hle hc =>
  subst hl
  obtain ⟨rfl, _⟩ := hc (by omega)
  simp only [firstA, if_neg (show ¬ len = 0 by omega)] at hf
  obtain ⟨ds, h1, h2, h3, _⟩ := r.cells hE hf
  exact ⟨_, _, cap, ds, rfl, h1, h2, fun j v hj => by have := h3 j v hj; rwa [Addr.add_lit] at this⟩
 case vsl0 => omega
 case vsl len cap g o a c hle hf1 hv =>
  subst hl
  simp only [firstA] at hf
  split at hf
  ·rename_i hb
   injection hf with hf; subst hf
   obtain ⟨ds, h1, h2, h3⟩ := r.stills hf1 hv
   have e : a.take (len * z) = a := List.take_of_length_le (by omega)
   rw [e]
   exact ⟨_, _, cap, ds, rfl, by omega, h2, fun j v hj => by have := h3 j v hj; rwa [Addr.add_lit] at this⟩
  ·cases hf
theorem rowNone {x : AVal} {x' : Value} (hx : VR m x x') (hl : rowLen x = some 0) : ∃ a c, x' = .slice a 0 c := by
 cases hx <;> simp [rowLen] at hl
 case nilSlice => exact ⟨_, _, rfl⟩
 case empSlice => exact ⟨_, _, rfl⟩
 case slice => subst hl; exact ⟨_, _, rfl⟩
 case vsl0 => exact ⟨_, _, rfl⟩
 case vsl => subst hl; exact ⟨_, _, rfl⟩
set_option maxHeartbeats 2000000 in
theorem clone_zero {ρ : Ren} (L : SlLaysE0.n41 P ρ) {i0 : TypeInfo} (hi : P.info? (ρ.t 23) = some i0) (z23 : ∀ w, (Go.sizeOf (ρ.t 23)).run P w = .ok i0.size w) (a : Addr) (c : Nat) (w : World) :
  Calls P (ρ.f 41) #[.slice (some a) 0 c] w fun e w' => ∃ a', e = .returned (.slice (some a') 0 0) ∧ Below w.heap.size w w' := by
 have mixed := L.mixed; have t4 := L.t4; have a4 := L.a4; have z4 := L.z4; have v4 := L.v4; have t22 := L.t22; have a22 := L.a22; have z22 := L.z22; have v22 := L.v22
 have q22 : ∀ (w : World) (a : Option Addr) (n c n' c' : Nat), (binOp .eql (ρ.t 22) (.slice a n c) (.slice none n' c')).run P w = .ok (.bool a.isNone) w := fun w a n c n' c' => Lib.run_eql_slice_nil w _ _ a n c n' c' L.t22
 have u22 : ∀ w, Sem.run P (underlying (ρ.t 22)) w = .ok (TypeDesc.slice (ρ.t 23)) w := run_underlying t22
 have happ : ∀ ty (base : Option Addr) (w : World), (Builtin.append_ #[ρ.t 22, ρ.t 22] ty #[.slice base 0 0, .slice (some a) 0 c]).run P w = .ok (.slice base 0 0) w := fun ty base w =>
  append_none rfl rfl t22 t22 rfl hi (Nat.le_refl _) (fun w => by simp [Builtin.lenOf]) (by simp [Builtin.firstCells, loadCells, loadCellsFrom])
 obtain ⟨_, _, FG⟩ := L.f41
 go_enter FG, SlBodyN.n41_ntmps ρ
 go_wp2
 go_ret
 exact ⟨_, rfl, (Below.refl _ w).alloc (Nat.le_refl _) _⟩
def infoOk (i : TypeInfo) (n : Nat) : Bool := decide (i.size ≠ 0 ∧ n ≤ 1099511627776 ∧ n * i.bytes ≤ 1099511627776 ∧ i.zero.map (·.cells.size) = some i.size)
def extClone (P : Program) (e : TypeId) (h : AHeap) : List AVal → Option (AVal × AHeap)
 | [x] =>
  match rowLen x with
  | some 0 =>
   match P.info? e with
   | some _ => some (.slice none 0, h)
   | none => none
  | some n =>
   match P.info? e with
   | some i =>
    match (firstA h i.size n x).map (·.map can1) with
    | some cs => if cs.all AVal.one = true ∧ infoOk i n = true then some (.slice (some (h.size, 0)) n, h.push (.cells (some e) 2 cs)) else none
    | none => none
   | none => none
  | none => none
 | _ => none
theorem VRs.one1 {cs : List AVal} {ds : List Value} (hv : VRs m cs ds) (h1 : cs.all AVal.one = true) : ∀ u ∈ ds, u.oneCell' = true := by
 intro u hu
 obtain ⟨j, hj, rfl⟩ := List.getElem_of_mem hu
 have hj' : j < cs.length := by rw [hv.1]; exact hj
 exact (hv.2 j _ _ (List.getElem?_eq_getElem hj') (List.getElem?_eq_getElem hj)).one (List.all_eq_true.1 h1 _ (List.getElem_mem hj'))
theorem one_args {m : Inj} {x : AVal} {cargs : Array Value} (hv : VRs m [x] cargs.toList) : ∃ a, cargs = #[a] ∧ VR m x a := by
 have := hv.1
 match cargs, this with
 | ⟨[a]⟩, _ => exact ⟨a, rfl, hv.2 0 _ _ rfl rfl⟩
def ExtOk (P : Program) (G : Nat → Option (List AVal)) (f : FuncId) (ext : Gd → AHeap → List AVal → Option (AVal × AHeap)) : Prop := CallOk P G fun g h f' args => if f' = f then ext g h args else none
theorem ExtOk.of {G : Nat → Option (List AVal)} {f : FuncId} {ext : Gd → AHeap → List AVal → Option (AVal × AHeap)}
  (hx : ∀ g h args v h', ext g h args = some (v, h') → Keeps g h h' ∧ ∀ w0 m w (cargs : Array Value), Rel P w0 m h w → VRs m args cargs.toList → Invokes P f cargs w fun v' w' => ∃ m' : Inj, (m.ext h.size m') ∧ Rel P w0 m' h' w' ∧ VR m' v v') : ExtOk P G f ext := by
 intro g h f' args v h' hc
 dsimp only at hc
 split at hc
 ·rename_i e; subst e
  obtain ⟨k, q⟩ := hx g h args v h' hc
  exact ⟨k, fun w0 m w cargs _ r hv => q w0 m w cargs r hv⟩
 ·cases hc
theorem clone_ok {ρ : Ren} (L : SlLaysE0.n41 P ρ) (G : Nat → Option (List AVal)) : ExtOk P G (ρ.f 41) fun g h args => extClone P (ρ.t 23) h args := by
 refine ExtOk.of fun g h args v h' hc => ?_
 have en := L.f41.enters rfl
 unfold extClone at hc
 split at hc
 ·rename_i x
  split at hc
  ·rename_i hl
   split at hc
   ·rename_i i hi
    simp only [Option.some.injEq, Prod.mk.injEq] at hc
    obtain ⟨rfl, rfl⟩ := hc
    refine ⟨Keeps.refl _ _, fun w0 m w cargs r hv => ?_⟩
    obtain ⟨x', rfl, hx⟩ := one_args hv
    obtain ⟨a, c, rfl⟩ := rowNone hx hl
    refine invokes_of_calls en ?_
    cases a with
    | none =>
     refine (AnyE.slices_Clone_nil L 0 c w).mono ?_
     rintro e w' ⟨rfl, rfl⟩
     exact ⟨_, rfl, m, Inj.ext.refl _ _, r, .nilSlice⟩
    | some a =>
     refine (clone_zero L hi (fun w => by simp [Go.sizeOf, typeInfo, hi]) a c w).mono ?_
     rintro e w' ⟨a', rfl, hb⟩
     exact ⟨_, rfl, m, Inj.ext.refl _ _, r.later hb, .empSlice _⟩
   ·cases hc
  ·rename_i n hne hl
   split at hc
   ·rename_i i hi
    split at hc
    ·rename_i cs hcs
     split at hc
     ·rename_i hb
      obtain ⟨h1, hb⟩ := hb
      simp only [infoOk, decide_eq_true_eq] at hb
      obtain ⟨hs0, hn, hby, hz⟩ := hb
      simp only [Option.some.injEq, Prod.mk.injEq] at hc
      obtain ⟨rfl, rfl⟩ := hc
      refine ⟨Keeps.push _ _ _, fun w0 m w cargs r hv => ?_⟩
      obtain ⟨x', rfl, hx⟩ := one_args hv
      simp only [Option.map_eq_some_iff] at hcs hz
      obtain ⟨cs0, hf, rfl⟩ := hcs
      obtain ⟨z, hz, hzs⟩ := hz
      obtain ⟨b, off, cap, ds, rfl, d1, d2, d3⟩ := rowCells r hx hl (Nat.pos_of_ne_zero fun e => hne e) hf
      have d2' := d2.can1
      refine invokes_of_calls en ?_
      refine (AnyE.slices_Clone L i z i.size i.bytes hi hz rfl rfl hzs (by omega) (fun w => by simp [Go.sizeOf, typeInfo, hi]) b off n cap ds w d1 (by unfold maxLen; omega) (by omega) d3 (d2'.one1 h1)).mono ?_
      rintro e w' ⟨v', rfl, ho, hne, hb⟩
      have hsz : szOf P (ρ.t 23) = some i.size := by simp [szOf, hi]
      obtain ⟨m', q1, q2, q3⟩ := r.row hb ho hne (by simp [eszOf, szOf_cells hsz]) d2' h1
      exact ⟨_, rfl, m', q1, q2, q3⟩
     ·cases hc
    ·cases hc
   ·cases hc
  ·cases hc
 ·cases hc
def extCloneF (P : Program) (e : TypeId) (h : AHeap) : List AVal → Option (AVal × AHeap)
 | [x] =>
  match rowLen x with
  | some 0 =>
   match P.info? e with
   | some _ => some (.vsl 0 [], h)
   | none => none
  | some n =>
   match P.info? e with
   | some i =>
    match (firstA h i.size n x).map (·.map can1) with
    | some cs => if cs.all AVal.one = true ∧ infoOk i n = true then some (.vsl n cs, h) else none
    | none => none
   | none => none
  | none => none
 | _ => none
def extGrow (P : Program) (e : TypeId) (h : AHeap) : List AVal → Option (AVal × AHeap)
 | [.slice none 0, .int .i64 n] =>
  if n = 0 then some (.slice none 0, h) else
  match P.info? e with
  | some i => if 0 < n ∧ infoOk i n.toNat = true then some (.slice (some (h.size, 0)) 0, h.push (.cells (some e) 2 [])) else none
  | none => none
 | _ => none
def extCmp (h : AHeap) : List AVal → Option (AVal × AHeap)
 | [.str a, .str b] => some (.int .i64 (compareBytes a b), h)
 | _ => none
def strKeysA : List (AVal × AVal) → Option (List (List UInt8))
 | [] => some []
 | (.str s, _) :: r => (strKeysA r).map (s :: ·)
 | _ => none
def insT (x : List UInt8) : List (List UInt8) → List (List UInt8)
 | [] => [x]
 | y :: l => bif Op.bytesLess y x then y :: insT x l else x :: y :: l
def sortT (l : List (List UInt8)) : List (List UInt8) := l.foldr insT []
def keysOk (ks : List (List UInt8)) : Bool := decide (ks.length ≤ 1099511627776) && ks.all fun s => decide (s.length ≤ 1099511627776)
def sortedA (e : TypeId) (h : AHeap) (ks : List (List UInt8)) : AVal × AHeap :=
 match ks with
 | [] => (.slice none 0, h)
 | _ => (.slice (some (h.size, 0)) ks.length, h.push (.cells (some e) 2 ((sortT ks).map .str)))
def boxCell (h : AHeap) (b : Nat) : Option AVal :=
 match h.get b with
 | some (.cells none 2 [v]) => some v
 | _ => none
def extSorted (it : FuncId) (e : TypeId) (h : AHeap) : List AVal → Option (AVal × AHeap)
 | [.func (.func f) [] [.ptr (some (b, 0))]] =>
  if f = it then
   match boxCell h b with
   | some (.map none) => some (.slice none 0, h)
   | some (.map (some mid)) =>
    match h.get mid with
    | some (.map st es) =>
     if st ≠ 0 then
      match strKeysA es with
      | some ks => if keysOk ks = true then some (sortedA e h ks) else none
      | none => none
     else none
    | _ => none
   | _ => none
  else none
 | _ => none
def repOk (s : List UInt8) (n : Int) : Bool := decide (0 ≤ n ∧ n ≤ 1099511627776 ∧ s.length * n.toNat ≤ 1099511627776)
def extRepeat (h : AHeap) : List AVal → Option (AVal × AHeap)
 | [.str s, .int .i64 n] => if repOk s n = true then some (.str (Lib.repeatL s n.toNat), h) else none
 | _ => none
def extCut (h : AHeap) : List AVal → Option (AVal × AHeap)
 | [.str s, .str t] => if s.length ≤ 4294967280 then some (.tuple [.str (Lib.cut s t).1, .str (Lib.cut s t).2.1, .bool (Lib.cut s t).2.2], h) else none
 | _ => none
def extIndex (h : AHeap) : List AVal → Option (AVal × AHeap)
 | [.str s, .str t] => if s.length ≤ 4294967280 then some (.int .i64 (Lib.index s t), h) else none
 | _ => none
end
def extTrue (h : AHeap) : List AVal → Option (AVal × AHeap)
 | [] => some (.bool true, h)
 | _ => none
def extNone (h : AHeap) : List AVal → Option (AVal × AHeap)
 | [] => some (.undef, h)
 | _ => none
def optL (f : AVal → Option AVal) : List AVal → Option (List AVal)
 | [] => some []
 | v :: vs => match f v, optL f vs with | some v', some vs' => some (v' :: vs') | _, _ => none
def argAt (args : List AVal) (i o : Nat) : Option AVal :=
 match args[i]? with
 | some (.ptr (some (id, b))) => some (.ptr (some (id, b + o)))
 | _ => none
def renV (args : List AVal) : Nat → AVal → Option AVal
 | 0, _ => none
 | n + 1, v =>
  match v with
  | .ptr (some (i, o)) => argAt args i o
  | .vptr cs => (optL (renV args n) cs).map .vptr
  | .agg cs => (optL (renV args n) cs).map .agg
  | .func fn a b => match optL (renV args n) a, optL (renV args n) b with | some a', some b' => some (.func fn a' b') | _, _ => none
  | v => bif flat1 v then some v else none
def renE (args : List AVal) : List (AVal × AVal) → Option (List (AVal × AVal))
 | [] => some []
 | (k, v) :: es => match renV args 10 v, renE args es with | some v', some es' => some ((k, v') :: es') | _, _ => none
def isPtr : AVal → Bool
 | .ptr (some _) => true
 | _ => false
abbrev KMs := List (List (AVal × AVal))
def extKM (es : List (AVal × AVal)) (n : Nat) (h : AHeap) (args : List AVal) : Option (AVal × AHeap) :=
 bif Nat.beq args.length n && args.all isPtr then (renE args es).map fun es' => (.map (some h.size), h.push (.map 2 es')) else none
def extC (P : Program) (km : KMs) (c : Nat × Nat × Nat) (g : Gd) (h : AHeap) (args : List AVal) : Option (AVal × AHeap) :=
 match c.1 with
 | 1 => ext1 h args
 | 2 => extSorted c.2.1 c.2.2 h args
 | 3 => extCmp h args
 | 4 => extClone P c.2.2 h args
 | 5 => extGrow P c.2.2 h args
 | 6 => extCloneF P c.2.2 h args
 | 7 => extRepeat h args
 | 8 => extCut h args
 | 9 => extIndex h args
 | 30 => extTrue h args
 | 31 => extNone h args
 | 32 => extKM (km.getD c.2.1 []) c.2.2 h args
 | _ => none
def lookE : List (Nat × Nat × Nat × Nat) → Nat → Option (Nat × Nat × Nat)
 | [], _ => none
 | (f', c) :: l, f => bif Nat.beq f f' then some c else lookE l f
theorem lookE_mem : ∀ {l : List (Nat × Nat × Nat × Nat)} {f : Nat} {c : Nat × Nat × Nat}, lookE l f = some c → (f, c) ∈ l
 | (f', c') :: l, f, c, h => by
  unfold lookE at h
  rw [bif_beq] at h
  split at h
  ·rename_i e; subst e; injection h with h; subst h; simp
  ·exact List.mem_cons_of_mem _ (lookE_mem h)
def extL (P : Program) (km : KMs) (l : List (Nat × Nat × Nat × Nat)) (f : Nat) (g : Gd) (h : AHeap) (args : List AVal) : Option (AVal × AHeap) :=
 match lookE l f with
 | some c => extC P km c g h args
 | none => none
def threeL (ks : List Nat) (l : List (Nat × Nat × Nat × Nat)) : Nat → Bool
 | 0 => true
 | n + 1 => threeL ks l n && (!(Nat.beq (lookN ks n) 3) || (lookE l n).isSome)
theorem threeL_at {ks : List Nat} {l : List (Nat × Nat × Nat × Nat)} : ∀ {n : Nat}, threeL ks l n = true → ∀ f, f < n → lookN ks f = 3 → (lookE l f).isSome = true
 | 0, _, f, hf, _ => by omega
 | n + 1, h, f, hf, h3 => by
  simp only [threeL, Bool.and_eq_true] at h
  by_cases e : f = n
  ·subst e
   have := h.2
   rw [h3] at this
   simpa using this
  ·exact threeL_at h.1 f (by omega) h3
theorem cfgOk_lib {C : Cfg} {km : KMs} {ks : List Nat} {l : List (Nat × Nat × Nat × Nat)} (hk : C.kind = lookN ks) (hmix : C.P.follows .mixedOrders = true) (hall : okAll C ks.length = true) (hro : C.rok = rokOf C.P C.plan) (hx : C.ext = extL C.P km l) (h3 : threeL ks l ks.length = true)
  (he : ∀ p ∈ l, ExtOk C.P C.glob p.1 (extC C.P km p.2)) : CfgOk C := by
 refine ⟨hmix, fun f fn c hkf h1 h2 => ?_, fun f a b hr => ?_, fun f hf => ?_⟩
 ·have hne : C.kind f ≠ 0 := by omega
  refine okAll_at hall ?_ hne h1 h2
  rcases Nat.lt_or_ge f ks.length with h | h
  ·exact h
  ·rw [hk, lookN_ge h] at hne; exact absurd rfl hne
 ·rw [hro] at hr
  simp only [rokOf, Bool.and_eq_true] at hr
  exact ⟨(codeOk_same (C := C) (C' := cfg0 C.P C.plan) rfl rfl f a).trans hr.1.1, (codeOk_same (C := C) (C' := cfg0 C.P C.plan) rfl rfl f b).trans hr.1.2, hr.2.1, hr.2.2⟩
 ·have hlt : f < ks.length := by
   rcases Nat.lt_or_ge f ks.length with h | h
   ·exact h
   ·rw [hk, lookN_ge h] at hf; cases hf
  obtain ⟨c, hl⟩ := Option.isSome_iff_exists.1 (threeL_at h3 f hlt (by rw [← hk]; exact hf))
  have := he _ (lookE_mem hl)
  have e : (fun (g : Gd) (h : AHeap) (f' : FuncId) (args : List AVal) => if f' = f then C.ext f g h args else none) = fun (g : Gd) h f' args => if f' = f then extC C.P km c g h args else none := by
   funext g h f' args
   rw [hx]
   simp only [extL, hl]
  rw [e]; exact this
section
variable {C : Cfg} {km : KMs} {l : List (Nat × Nat × Nat × Nat)} {g : Gd} {h : AHeap} {f : Nat} {L F : List Ck}
theorem runsX {c : Nat × Nat × Nat} {args : List AVal} {v : AVal} {h' : AHeap} (hk : C.kind f = 3) (hx : C.ext = extL C.P km l) (hl : lookE l f = some c) (he : extC C.P km c g h args = some (v, h')) : Runs C g h f args v h' := by
 refine ⟨1, ?_⟩
 show callA C (selfN C 0) g h f _ = _
 unfold callA
 rw [hk]
 simp only [hx, extL, hl, he]
def infoB (P : Program) (t : TypeId) (z b : Nat) : Bool :=
 match P.info? t with
 | some i => decide (i.size = z ∧ i.bytes = b ∧ i.zero.map (·.cells.size) = some i.size)
 | none => false
theorem HH.clone {α : Type} {e : α → List AVal} {z bytes t a : Nat} {x : AVal} {new : List AVal} {xs : List α} (E : Enc e z) (hz : z ≠ 0) (A : HH g h L F) (hk : C.kind f = 3) (hx : C.ext = extL C.P km l) (hl : lookE l f = some (4, a, t)) (hi : infoB C.P t z bytes = true)
  (hn : rowLen x = some xs.length) (hf : firstA h z xs.length x = some new) (hc : new.map can1 = lst e xs) (hb : okN bytes xs.length = true) :
  ∃ r h', Runs C g h f [x] (rowV r xs.length) h' ∧ HH g h' (.lst r t (lst e xs) :: L) F := by
 unfold infoB at hi
 split at hi
 ·rename_i i hinf
  obtain ⟨h1, h2, h3⟩ := of_decide_eq_true hi
  subst h1; subst h2
  cases xs with
  | nil =>
   refine ⟨none, h, runsX hk hx hl ?_, A.nilL t⟩
   show extClone C.P t h [x] = _
   unfold extClone
   simp only [hn, List.length_nil, hinf]
   rfl
  | cons y ys =>
   refine ⟨some h.size, _, runsX hk hx hl (h' := h.push (.cells (some t) 2 (lst e (y :: ys)))) ?_, A.pushL t _⟩
   show extClone C.P t h [x] = _
   unfold extClone
   simp only [hn, List.length_cons, hinf]
   rw [show ys.length + 1 = (y :: ys).length from rfl, hf]
   simp only [Option.map_some, hc]
   have ho := of_decide_eq_true hb
   rw [if_pos ⟨E.oneL _, by simp only [infoOk, decide_eq_true_eq]; exact ⟨hz, ho.1, ho.2, h3⟩⟩]
   rfl
 ·cases hi
end
end Go.Av
