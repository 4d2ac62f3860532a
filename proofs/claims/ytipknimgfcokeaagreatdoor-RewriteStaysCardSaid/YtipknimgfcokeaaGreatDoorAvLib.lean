/-
  ABS, 30: functions of Go's library that are told by the kit's contracts: slices.Clone, slices.Grow (of nothing), slices.Sorted (of a map's keys), and the comparison of texts.
-/
import Derived.Test.YtipknimgfcokeaaGreatDoorAvMap
import Derived.Shelf.SlicesE.Clone
import Derived.Shelf.Spec.SlicesGrow
import Derived.Shelf.SlIter.Nil
import Derived.Shelf.SortM.Plain
import Derived.Shelf.SortM.SortNone
import Derived.Lib.Bytealg
import Derived.Shelf.Strings.Repeat
import Derived.Shelf.Strings.Cut
import Derived.Shelf.Strings.Search3
namespace Go.Av
open Go.RowKit Go.Shelf Go.Proofs Go.Lib Go.Maps Go.MapKept Go.ChangeMaps Go.WideShapes
set_option linter.unusedVariables false
section
variable {P : Program} {w0 : World} {m : Bh} {h : AH} {w : World}
theorem Gw {f : FuncId} {args : Array Value} {Q : Value → World → Prop} (he : ∀ args w, (callFunc f args).run P w = .ok (.enter f args) w) (hc : Calls P f args w fun e w' => ∃ v, e = .returned v ∧ Q v w') : Dw P f args w Q := by
 unfold Dw
 rw [he args w]
 exact hc
theorem OK {w w' : World} (hb : Below w.heap.size w w') (g : Nat) : El w w' g := ⟨hb.os, hb.tape, hb.output, hb.size, fun k hk _ => hb.block k hk⟩
theorem Rel.newAt (r : Rel P w0 m h w) {w' : World} {E : Lp} {o : CR} (ht : El w w' E.g) (hg : w.heap.size ≤ E.g)
  (hobj : KE P (m.upd h.size E) w' E o) : Rel P w0 (m.upd h.size E) (h.push o) w' := by
 refine (r.ghost o).place ht (Nat.le_trans r.size hg) (fun id2 E2 o2 h2 ho2 hl2 => ?_) (r.RH (by omega)) (fun hd => by have := r.Lg hd; omega) (r.fresh (Nat.le_refl _)) (h.Dh o) hobj
 have := ((r.ghost o).obj id2 E2 o2 h2 ho2).lt hl2
 omega
theorem Rel.row (r : Rel P w0 m h w) {w' : World} (hb : Below w.heap.size w w') {e : TypeId} {z n : Nat} {v : Value} {ds : List Value} {cs : List AB} (ho : w'.ownsRow w.heap.size e z v n ds) (hn : v ≠ .slice none 0 0) (hz : Kb P (some e) = z)
  (hv : Cn m cs ds) (h1 : cs.all AB.one = true) : ∃ m' : Bh, m.ext h.size m' ∧ Rel P w0 m' (h.push (.cells (some e) 2 cs)) w' ∧ VR m' (.slice (some (h.size, 0)) n) v := by
 obtain ⟨hl, ⟨h0, _⟩ | ⟨g, cap, cur, rfl, hg, hc, hnc, _, hsz, htk⟩⟩ := ho
 ·exact absurd h0 hn
 ·have hle := Bh.KM (m := m) (id := h.size) ⟨g, 0, z, cap * z⟩ (r.fresh (Nat.le_refl _))
  refine ⟨m.upd h.size ⟨g, 0, z, cap * z⟩, Bh.Ll m _ (Nat.le_refl _), r.newAt (OK hb _) hg ?_, ?_⟩
  ·refine JE (e := e) (fz := (0, 0)) hc rfl hz.symm hsz.symm ?_ h1 (.inl rfl)
   rw [hv.1, hl, htk]
   exact hv.mono hle
  ·exact .slice _ _ _ _ ⟨g, 0, z, cap * z⟩ _ (Bh.Ev _ _ _) hnc (fun _ => ⟨by simp, fun _ => by simp⟩)
def LM : AB → Option Nat
 | .slice _ n => some n
 | .Hm n _ => some n
 | _ => none
theorem TY (r : Rel P w0 m h w) {z n : Nat} {x : AB} {x' : Value} {cs : List AB} (hx : VR m x x') (hl : LM x = some n) (h0 : 0 < n) (hf : DK h z n x = some cs) :
  ∃ b off cap ds, x' = .slice (some ⟨b, off, none⟩) n cap ∧ ds.length = n * z ∧ Cn m cs ds ∧ ∀ (j : Nat) (v : Value), ds[j]? = some v → w.cell? ⟨b, off + j, none⟩ = some v := by
 cases hx <;> simp [LM] at hl
 case D1 => omega
 case Ec => omega
 case slice id o len cap E a hE hle hc =>
  subst hl
  obtain ⟨rfl, _⟩ := hc (by omega)
  simp only [DK, if_neg (show ¬ len = 0 by omega)] at hf
  obtain ⟨ds, h1, h2, h3, _⟩ := r.cells hE hf
  exact ⟨_, _, cap, ds, rfl, h1, h2, fun j v hj => by have := h3 j v hj; rwa [Addr.add_lit] at this⟩
 case Jv => omega
 case Hm len cap g o a c hle hf1 hv =>
  subst hl
  simp only [DK] at hf
  split at hf
  ·rename_i hb
   injection hf with hf; subst hf
   obtain ⟨ds, h1, h2, h3⟩ := r.Me hf1 hv
   have e : a.take (len * z) = a := List.take_of_length_le (by omega)
   rw [e]
   exact ⟨_, _, cap, ds, rfl, by omega, h2, fun j v hj => by have := h3 j v hj; rwa [Addr.add_lit] at this⟩
  ·cases hf
theorem U6 {x : AB} {x' : Value} (hx : VR m x x') (hl : LM x = some 0) : ∃ a c, x' = .slice a 0 c := by
 cases hx <;> simp [LM] at hl
 case D1 => exact ⟨_, _, rfl⟩
 case Ec => exact ⟨_, _, rfl⟩
 case slice => subst hl; exact ⟨_, _, rfl⟩
 case Jv => exact ⟨_, _, rfl⟩
 case Hm => subst hl; exact ⟨_, _, rfl⟩
set_option maxHeartbeats 2000000 in
theorem RR {ρ : Ren} (L : SlLaysE0.n41 P ρ) {i0 : TypeInfo} (hi : P.info? (ρ.t 23) = some i0) (z23 : ∀ w, (Go.sizeOf (ρ.t 23)).run P w = .ok i0.size w) (a : Addr) (c : Nat) (w : World) :
  Calls P (ρ.f 41) #[.slice (some a) 0 c] w fun e w' => ∃ a', e = .returned (.slice (some a') 0 0) ∧ Below w.heap.size w w' := by
 have mixed := L.mixed; have t4 := L.t4; have a4 := L.a4; have z4 := L.z4; have v4 := L.v4; have t22 := L.t22; have a22 := L.a22; have z22 := L.z22; have v22 := L.v22
 have q22 : ∀ (w : World) (a : Option Addr) (n c n' c' : Nat), (binOp .eql (ρ.t 22) (.slice a n c) (.slice none n' c')).run P w = .ok (.bool a.isNone) w := fun w a n c n' c' => Lib.run_eql_slice_nil w _ _ a n c n' c' L.t22
 have u22 : ∀ w, Sem.run P (underlying (ρ.t 22)) w = .ok (TypeDesc.slice (ρ.t 23)) w := run_underlying t22
 have happ : ∀ ty (base : Option Addr) (w : World), (Builtin.append_ #[ρ.t 22, ρ.t 22] ty #[.slice base 0 0, .slice (some a) 0 c]).run P w = .ok (.slice base 0 0) w := fun ty base w =>
  Ic rfl rfl t22 t22 rfl hi (Nat.le_refl _) (fun w => by simp [Builtin.lenOf]) (by simp [Builtin.firstCells, loadCells, loadCellsFrom])
 obtain ⟨_, _, FG⟩ := L.f41
 go_enter FG, SlBodyN.n41_ntmps ρ
 go_wp2
 go_ret
 exact ⟨_, rfl, (Below.refl _ w).alloc (Nat.le_refl _) _⟩
def N5 (i : TypeInfo) (n : Nat) : Bool := decide (i.size ≠ 0 ∧ n ≤ 1099511627776 ∧ n * i.bytes ≤ 1099511627776 ∧ i.zero.map (·.cells.size) = some i.size)
def IS (P : Program) (e : TypeId) (h : AH) : List AB → Option (AB × AH)
 | [x] =>
  match LM x with
  | some 0 =>
   match P.info? e with
   | some _ => some (.slice none 0, h)
   | none => none
  | some n =>
   match P.info? e with
   | some i =>
    match (DK h i.size n x).map (·.map Gu) with
    | some cs => if cs.all AB.one = true ∧ N5 i n = true then some (.slice (some (h.size, 0)) n, h.push (.cells (some e) 2 cs)) else none
    | none => none
   | none => none
  | none => none
 | _ => none
theorem Cn.XO {cs : List AB} {ds : List Value} (hv : Cn m cs ds) (h1 : cs.all AB.one = true) : ∀ u ∈ ds, u.oneCell' = true := by
 intro u hu
 obtain ⟨j, hj, rfl⟩ := List.getElem_of_mem hu
 have hj' : j < cs.length := by rw [hv.1]; exact hj
 exact (hv.2 j _ _ (List.getElem?_eq_getElem hj') (List.getElem?_eq_getElem hj)).one (List.all_eq_true.1 h1 _ (List.getElem_mem hj'))
theorem Pz {m : Bh} {x : AB} {cargs : Array Value} (hv : Cn m [x] cargs.toList) : ∃ a, cargs = #[a] ∧ VR m x a := by
 have := hv.1
 match cargs, this with
 | ⟨[a]⟩, _ => exact ⟨a, rfl, hv.2 0 _ _ rfl rfl⟩
theorem P5 {m : Bh} {x y : AB} {cargs : Array Value} (hv : Cn m [x, y] cargs.toList) : ∃ a b, cargs = #[a, b] ∧ VR m x a ∧ VR m y b := by
 have := hv.1
 match cargs, this with
 | ⟨[a, b]⟩, _ => exact ⟨a, b, rfl, hv.2 0 _ _ rfl rfl, hv.2 1 _ _ rfl rfl⟩
def J3 (P : Program) (G : Nat → Option (List AB)) (f : FuncId) (ext : Gd → AH → List AB → Option (AB × AH)) : Prop := PT P G fun g h f' args => if f' = f then ext g h args else none
theorem J3.of {G : Nat → Option (List AB)} {f : FuncId} {ext : Gd → AH → List AB → Option (AB × AH)}
  (hx : ∀ g h args v h', ext g h args = some (v, h') → Bb g h h' ∧ ∀ w0 m w (cargs : Array Value), Rel P w0 m h w → Cn m args cargs.toList → Dw P f cargs w fun v' w' => ∃ m' : Bh, (m.ext h.size m') ∧ Rel P w0 m' h' w' ∧ VR m' v v') : J3 P G f ext := by
 intro g h f' args v h' hc
 dsimp only at hc
 split at hc
 ·rename_i e; subst e
  obtain ⟨k, q⟩ := hx g h args v h' hc
  exact ⟨k, fun w0 m w cargs _ r hv => q w0 m w cargs r hv⟩
 ·cases hc
theorem J3.YI {G : Nat → Option (List AB)} {f : FuncId} {ext : Gd → AH → List AB → Option (AB × AH)}
  (hx : ∀ g h args v h', ext g h args = some (v, h') → Bb g h h' ∧ ∀ w0 m w (cargs : Array Value), Ch G w → Rel P w0 m h w → Cn m args cargs.toList → Dw P f cargs w fun v' w' => ∃ m' : Bh, (m.ext h.size m') ∧ Rel P w0 m' h' w' ∧ VR m' v v') : J3 P G f ext := by
 intro g h f' args v h' hc
 dsimp only at hc
 split at hc
 ·rename_i e; subst e
  obtain ⟨k, q⟩ := hx g h args v h' hc
  exact ⟨k, fun w0 m w cargs hz r hv => q w0 m w cargs (hz.later r.below) r hv⟩
 ·cases hc
theorem TM {ρ : Ren} (L : SlLaysE0.n41 P ρ) (G : Nat → Option (List AB)) : J3 P G (ρ.f 41) fun g h args => IS P (ρ.t 23) h args := by
 refine J3.of fun g h args v h' hc => ?_
 have en := L.f41.enters rfl
 unfold IS at hc
 split at hc
 ·rename_i x
  split at hc
  ·rename_i hl
   split at hc
   ·rename_i i hi
    simp only [Option.some.injEq, Prod.mk.injEq] at hc
    obtain ⟨rfl, rfl⟩ := hc
    refine ⟨Bb.refl _ _, fun w0 m w cargs r hv => ?_⟩
    obtain ⟨x', rfl, hx⟩ := Pz hv
    obtain ⟨a, c, rfl⟩ := U6 hx hl
    refine Gw en ?_
    cases a with
    | none =>
     refine (AnyE.slices_Clone_nil L 0 c w).mono ?_
     rintro e w' ⟨rfl, rfl⟩
     exact ⟨_, rfl, m, Bh.ext.refl _ _, r, .D1⟩
    | some a =>
     refine (RR L hi (fun w => by simp [Go.sizeOf, typeInfo, hi]) a c w).mono ?_
     rintro e w' ⟨a', rfl, hb⟩
     exact ⟨_, rfl, m, Bh.ext.refl _ _, r.later hb, .Ec _⟩
   ·cases hc
  ·rename_i n hne hl
   split at hc
   ·rename_i i hi
    split at hc
    ·rename_i cs hcs
     split at hc
     ·rename_i hb
      obtain ⟨h1, hb⟩ := hb
      simp only [N5, decide_eq_true_eq] at hb
      obtain ⟨hs0, hn, hby, hz⟩ := hb
      simp only [Option.some.injEq, Prod.mk.injEq] at hc
      obtain ⟨rfl, rfl⟩ := hc
      refine ⟨Bb.push _ _ _, fun w0 m w cargs r hv => ?_⟩
      obtain ⟨x', rfl, hx⟩ := Pz hv
      simp only [Option.map_eq_some_iff] at hcs hz
      obtain ⟨cs0, hf, rfl⟩ := hcs
      obtain ⟨z, hz, hzs⟩ := hz
      obtain ⟨b, off, cap, ds, rfl, d1, d2, d3⟩ := TY r hx hl (Nat.pos_of_ne_zero fun e => hne e) hf
      have d2' := d2.Gu
      refine Gw en ?_
      refine (AnyE.slices_Clone L i z i.size i.bytes hi hz rfl rfl hzs (by omega) (fun w => by simp [Go.sizeOf, typeInfo, hi]) b off n cap ds w d1 (by unfold maxLen; omega) (by omega) d3 (d2'.XO h1)).mono ?_
      rintro e w' ⟨v', rfl, ho, hne, hb⟩
      have hsz : Cx P (ρ.t 23) = some i.size := by simp [Cx, hi]
      obtain ⟨m', q1, q2, q3⟩ := r.row hb ho hne (by simp [Kb, IG hsz]) d2' h1
      exact ⟨_, rfl, m', q1, q2, q3⟩
     ·cases hc
    ·cases hc
   ·cases hc
  ·cases hc
 ·cases hc
def S4 (P : Program) (e : TypeId) (h : AH) : List AB → Option (AB × AH)
 | [x] =>
  match LM x with
  | some 0 =>
   match P.info? e with
   | some _ => some (.Hm 0 [], h)
   | none => none
  | some n =>
   match P.info? e with
   | some i =>
    match (DK h i.size n x).map (·.map Gu) with
    | some cs => if cs.all AB.one = true ∧ N5 i n = true then some (.Hm n cs, h) else none
    | none => none
   | none => none
  | none => none
 | _ => none
def UY (P : Program) (e : TypeId) (h : AH) : List AB → Option (AB × AH)
 | [.slice none 0, .int .i64 n] =>
  if n = 0 then some (.slice none 0, h) else
  match P.info? e with
  | some i => if 0 < n ∧ N5 i n.toNat = true then some (.slice (some (h.size, 0)) 0, h.push (.cells (some e) 2 [])) else none
  | none => none
 | _ => none
def Vo (h : AH) : List AB → Option (AB × AH)
 | [.str a, .str b] => some (.int .i64 (compareBytes a b), h)
 | _ => none
def Tn (P : Program) (f : FuncId) : Bool :=
 match P.funcs[f]? with
 | some fn => !(fn.name == "runtime.NumGoroutine") && fn.body.isNone
 | none => false
theorem Uy {f : FuncId} (hx : Tn P f = true) {F : Array Value → Sem Value} (hn : ∀ fn, P.funcs[f]? = some fn → Extern.findNext fn = none ∧ Extern.find fn = some F) {cargs : Array Value} {v : Value} {w' : World} (h1 : (F cargs).run P w = .ok v w') {Q : Value → World → Prop} (hq : Q v w') : Dw P f cargs w Q := by
 unfold Tn at hx
 split at hx
 ·rename_i fn hfn
  simp only [Bool.and_eq_true, Bool.not_eq_true', Option.isNone_iff_eq_none] at hx
  obtain ⟨e1, e2⟩ := hn fn hfn
  have hrun : (callFunc f cargs).run P w = .ok (.value v) w' := by
   unfold callFunc
   simp only [Sem.run_bind, program, Sem.run, Result.andThen_ok, hfn]
   rw [if_neg (by rw [hx.1]; decide), if_pos (by rw [hx.2]; rfl)]
   simp only [e1, e2, Sem.run_bind]
   rw [show Sem.run P (Go.mark (Mark.extern f)) w = .ok () w from rfl]
   simp only [Result.andThen_ok, h1, Sem.run_pure]
  unfold Dw
  rw [hrun]
  exact hq
 ·cases hx
theorem RW {f : FuncId} (G : Nat → Option (List AB)) (hx : Tn P f = true) (hn : ∀ fn, P.funcs[f]? = some fn → Extern.findNext fn = none ∧ Extern.find fn = some Extern.BytealgIndexByte.indexByte) : J3 P G f fun g h args => KB h args := by
 refine J3.of fun g h args v h' hc => ?_
 unfold KB at hc
 split at hc
 ·rename_i s c
  split at hc
  ·rename_i hr
   simp only [Option.some.injEq, Prod.mk.injEq] at hc
   obtain ⟨rfl, rfl⟩ := hc
   refine ⟨Bb.refl _ _, fun w0 m w cargs r hv => ?_⟩
   obtain ⟨a, b, rfl, ha, hb⟩ := P5 hv
   obtain rfl := ha.ES
   obtain rfl := hb.DW
   refine Uy hx hn (v := .int .i64 (idxOf s (UInt8.ofNat c.toNat))) (w' := w) ?_ ⟨m, Bh.ext.refl _ _, r, .int _ _⟩
   show Sem.run P (do
    let b ← Extern.Bytes.bytesOf (.string ⟨⟨s⟩⟩)
    let c ← Extern.Bytes.asByte (.int .u8 c)
    match (List.range b.size).find? fun i => b[i]! == c with
    | some i => pure (goInt i)
    | none => pure (goInt (-1))) w = _
   simp only [Extern.Bytes.bytesOf, Extern.Bytes.asByte, Sem.run_bind, Sem.run_pure, Result.andThen_ok]
   rw [idx_eq s c.toNat.toUInt8]
   unfold idxOf
   rw [show UInt8.ofNat c.toNat = c.toNat.toUInt8 from rfl]
   cases (List.range s.length).find? fun i => s[i]? == some c.toNat.toUInt8 <;> rfl
  ·cases hc
 ·cases hc
def Qb : List (AB × AB) → Option (List (List UInt8))
 | [] => some []
 | (.str s, _) :: r => (Qb r).map (s :: ·)
 | _ => none
def Ww (x : List UInt8) : List (List UInt8) → List (List UInt8)
 | [] => [x]
 | y :: l => bif Op.bytesLess y x then y :: Ww x l else x :: y :: l
def XB (l : List (List UInt8)) : List (List UInt8) := l.foldr Ww []
def V6 (ks : List (List UInt8)) : Bool := decide (ks.length ≤ 1099511627776) && ks.all fun s => decide (s.length ≤ 1099511627776)
def U0 (e : TypeId) (h : AH) (ks : List (List UInt8)) : AB × AH :=
 match ks with
 | [] => (.slice none 0, h)
 | _ => (.slice (some (h.size, 0)) ks.length, h.push (.cells (some e) 2 ((XB ks).map .str)))
def U7 (h : AH) (b : Nat) : Option AB :=
 match h.get b with
 | some (.cells none 2 [v]) => some v
 | _ => none
def SX (it : FuncId) (e : TypeId) (h : AH) : List AB → Option (AB × AH)
 | [.func (.func f) [] [.ptr (some (b, 0))]] =>
  if f = it then
   match U7 h b with
   | some (.map none) => some (.slice none 0, h)
   | some (.map (some mid)) =>
    match h.get mid with
    | some (.map st es) =>
     if st ≠ 0 then
      match Qb es with
      | some ks => if V6 ks = true then some (U0 e h ks) else none
      | none => none
     else none
    | _ => none
   | _ => none
  else none
 | _ => none
def W3 (s : List UInt8) (n : Int) : Bool := decide (0 ≤ n ∧ n ≤ 1099511627776 ∧ s.length * n.toNat ≤ 1099511627776)
def Si (h : AH) : List AB → Option (AB × AH)
 | [.str s, .int .i64 n] => if W3 s n = true then some (.str (Lib.repeatL s n.toNat), h) else none
 | _ => none
def OC (h : AH) : List AB → Option (AB × AH)
 | [.str s, .str t] => if s.length ≤ 4294967280 then some (.tuple [.str (Lib.cut s t).1, .str (Lib.cut s t).2.1, .bool (Lib.cut s t).2.2], h) else none
 | _ => none
def Td (h : AH) : List AB → Option (AB × AH)
 | [.str s, .str t] => if s.length ≤ 4294967280 then some (.int .i64 (Lib.index s t), h) else none
 | _ => none
theorem QD {B : Nat} {a w : World} (h : Below B a w) (n : Nat) : Below B a (w.drewN n) := h.trans ⟨rfl, rfl, rfl, Nat.le_refl _, fun _ _ => rfl⟩
theorem V9 {ρ : Ren} (L : Lays.n145 P ρ) {G : Nat → Option (List AB)} (hg : G (ρ.g 1) = some []) : J3 P G (ρ.f 145) fun g h args => OC h args := by
 refine J3.YI fun g h args v h' hc => ?_
 have en : ∀ args w, (callFunc (ρ.f 145) args).run P w = .ok (.enter (ρ.f 145) args) w := enters_of L.f145 (by kernel_rfl) rfl
 unfold OC at hc
 split at hc
 ·rename_i s t
  split at hc
  ·rename_i hb
   simp only [Option.some.injEq, Prod.mk.injEq] at hc
   obtain ⟨rfl, rfl⟩ := hc
   refine ⟨Bb.refl _ _, fun w0 m w cargs hz r hv => ?_⟩
   obtain ⟨a, b, rfl, ha, hb'⟩ := P5 hv
   obtain rfl := ha.ES
   obtain rfl := hb'.ES
   obtain ⟨n, hn⟩ := hz.2 _ hg
   refine Gw en ((Any.strings_Cut L ⟨⟨s⟩⟩ ⟨⟨t⟩⟩ n w (by show s.length < _; omega) hn).mono ?_)
   rintro e w' ⟨rfl, q, rfl⟩
   refine ⟨_, rfl, m, Bh.ext.refl _ _, r.later (QD (Below.refl _ _) _), VR.tuple _ _ rfl fun i x y hx hy => ?_⟩
   match i, hx, hy with
   | 0, hx, hy => cases hx; cases hy; exact VR.str ⟨⟨_⟩⟩
   | 1, hx, hy => cases hx; cases hy; exact VR.str ⟨⟨_⟩⟩
   | 2, hx, hy => cases hx; cases hy; exact VR.bool _
   | i + 3, hx, hy => simp at hx
  ·cases hc
 ·cases hc
end
def Ur (h : AH) : List AB → Option (AB × AH)
 | [] => some (.bool true, h)
 | _ => none
def Uv (h : AH) : List AB → Option (AB × AH)
 | [] => some (.undef, h)
 | _ => none
def UN (f : AB → Option AB) : List AB → Option (List AB)
 | [] => some []
 | v :: vs => match f v, UN f vs with | some v', some vs' => some (v' :: vs') | _, _ => none
def WS (args : List AB) (i o : Nat) : Option AB :=
 match args[i]? with
 | some (.ptr (some (id, b))) => some (.ptr (some (id, b + o)))
 | _ => none
def Tx (args : List AB) : Nat → AB → Option AB
 | 0, _ => none
 | n + 1, v =>
  match v with
  | .ptr (some (i, o)) => WS args i o
  | .Aq cs => (UN (Tx args n) cs).map .Aq
  | .agg cs => (UN (Tx args n) cs).map .agg
  | .func fn a b => match UN (Tx args n) a, UN (Tx args n) b with | some a', some b' => some (.func fn a' b') | _, _ => none
  | v => bif IA v then some v else none
def W0 (args : List AB) : List (AB × AB) → Option (List (AB × AB))
 | [] => some []
 | (k, v) :: es => match Tx args 10 v, W0 args es with | some v', some es' => some ((k, v') :: es') | _, _ => none
def Wt : AB → Bool
 | .ptr (some _) => true
 | _ => false
abbrev W8 := List (List (AB × AB))
def WY (es : List (AB × AB)) (n : Nat) (h : AH) (args : List AB) : Option (AB × AH) :=
 bif Nat.beq args.length n && args.all Wt then (W0 args es).map fun es' => (.map (some h.size), h.push (.map 2 es')) else none
def Tq (P : Program) (km : W8) (c : Nat × Nat × Nat) (g : Gd) (h : AH) (args : List AB) : Option (AB × AH) :=
 match c.1 with
 | 1 => KB h args
 | 2 => SX c.2.1 c.2.2 h args
 | 3 => Vo h args
 | 4 => IS P c.2.2 h args
 | 5 => UY P c.2.2 h args
 | 6 => S4 P c.2.2 h args
 | 7 => Si h args
 | 8 => OC h args
 | 9 => Td h args
 | 30 => Ur h args
 | 31 => Uv h args
 | 32 => WY (km.getD c.2.1 []) c.2.2 h args
 | _ => none
def K7 : List (Nat × Nat × Nat × Nat) → Nat → Option (Nat × Nat × Nat)
 | [], _ => none
 | (f', c) :: l, f => bif Nat.beq f f' then some c else K7 l f
theorem Od : ∀ {l : List (Nat × Nat × Nat × Nat)} {f : Nat} {c : Nat × Nat × Nat}, K7 l f = some c → (f, c) ∈ l
 | (f', c') :: l, f, c, h => by
  unfold K7 at h
  rw [Hr] at h
  split at h
  ·rename_i e; subst e; injection h with h; subst h; simp
  ·exact List.mem_cons_of_mem _ (Od h)
def QW (P : Program) (km : W8) (l : List (Nat × Nat × Nat × Nat)) (f : Nat) (g : Gd) (h : AH) (args : List AB) : Option (AB × AH) :=
 match K7 l f with
 | some c => Tq P km c g h args
 | none => none
def O8 (ks : List Nat) (l : List (Nat × Nat × Nat × Nat)) : Nat → Bool
 | 0 => true
 | n + 1 => O8 ks l n && (!(Nat.beq (Of ks n) 3) || (K7 l n).isSome)
theorem Oe {ks : List Nat} {l : List (Nat × Nat × Nat × Nat)} : ∀ {n : Nat}, O8 ks l n = true → ∀ f, f < n → Of ks f = 3 → (K7 l f).isSome = true
 | 0, _, f, hf, _ => by omega
 | n + 1, h, f, hf, h3 => by
  simp only [O8, Bool.and_eq_true] at h
  by_cases e : f = n
  ·subst e
   have := h.2
   rw [h3] at this
   simpa using this
  ·exact Oe h.1 f (by omega) h3
theorem Su {C : IJ} {km : W8} {ks : List Nat} {l : List (Nat × Nat × Nat × Nat)} (hk : C.kind = Of ks) (hmix : C.P.follows .mixedOrders = true) (hall : SC C ks.length = true) (hro : C.WG = TO C.P C.LO) (hx : C.ext = QW C.P km l) (h3 : O8 ks l ks.length = true)
  (he : ∀ p ∈ l, J3 C.P C.EY p.1 (Tq C.P km p.2)) : Iv C := by
 refine ⟨hmix, fun f fn c hkf h1 h2 => ?_, fun f a b hr => ?_, fun f hf => ?_⟩
 ·have hne : C.kind f ≠ 0 := by omega
  refine Pt hall ?_ hne h1 h2
  rcases Nat.lt_or_ge f ks.length with h | h
  ·exact h
  ·rw [hk, Nf h] at hne; exact absurd rfl hne
 ·rw [hro] at hr
  simp only [TO, Bool.and_eq_true] at hr
  exact ⟨(Mg (C := C) (C' := Ua C.P C.LO) rfl rfl f a).trans hr.1.1, (Mg (C := C) (C' := Ua C.P C.LO) rfl rfl f b).trans hr.1.2, hr.2.1, hr.2.2⟩
 ·have hlt : f < ks.length := by
   rcases Nat.lt_or_ge f ks.length with h | h
   ·exact h
   ·rw [hk, Nf h] at hf; cases hf
  obtain ⟨c, hl⟩ := Option.isSome_iff_exists.1 (Oe h3 f hlt (by rw [← hk]; exact hf))
  have := he _ (Od hl)
  have e : (fun (g : Gd) (h : AH) (f' : FuncId) (args : List AB) => if f' = f then C.ext f g h args else none) = fun (g : Gd) h f' args => if f' = f then Tq C.P km c g h args else none := by
   funext g h f' args
   rw [hx]
   simp only [QW, hl]
  rw [e]; exact this
section
variable {C : IJ} {km : W8} {l : List (Nat × Nat × Nat × Nat)} {g : Gd} {h : AH} {f : Nat} {L F : List Ck}
theorem Rt {c : Nat × Nat × Nat} {args : List AB} {v : AB} {h' : AH} (hk : C.kind f = 3) (hx : C.ext = QW C.P km l) (hl : K7 l f = some c) (he : Tq C.P km c g h args = some (v, h')) : Bg C g h f args v h' := by
 refine ⟨1, ?_⟩
 show Ip C (EK C 0) g h f _ = _
 unfold Ip
 rw [hk]
 simp only [hx, QW, hl, he]
theorem U4 {s : List UInt8} {c n : Int} (hk : C.kind f = 3) (hx : C.ext = QW C.P km l) (hl : K7 l f = some (1, 0, 0)) (hm : IZ s c = some n) : Bg C g h f [.str s, .int .u8 c] (.int .i64 n) h := by
 refine Rt hk hx hl ?_
 unfold IZ at hm
 show KB h [.str s, .int .u8 c] = some (.int .i64 n, h)
 unfold KB
 split at hm
 ·rename_i hr; injection hm with hm; subst hm; dsimp only; rw [if_pos hr]
 ·cases hm
theorem Uj {s t : List UInt8} {a : Nat} (hk : C.kind f = 3) (hx : C.ext = QW C.P km l) (hl : K7 l f = some (8, a, 0)) (hb : decide (s.length ≤ 4294967280) = true) : Bg C g h f [.str s, .str t] (.tuple [.str (Lib.cut s t).1, .str (Lib.cut s t).2.1, .bool (Lib.cut s t).2.2]) h := by
 refine Rt hk hx hl ?_
 show OC h [.str s, .str t] = _
 unfold OC
 dsimp only
 rw [if_pos (of_decide_eq_true hb)]
def VQ (P : Program) (t : TypeId) (z b : Nat) : Bool :=
 match P.info? t with
 | some i => decide (i.size = z ∧ i.bytes = b ∧ i.zero.map (·.cells.size) = some i.size)
 | none => false
theorem HH.clone {α : Type} {e : α → List AB} {z bytes t a : Nat} {x : AB} {new : List AB} {xs : List α} (E : Ky e z) (hz : z ≠ 0) (A : HH g h L F) (hk : C.kind f = 3) (hx : C.ext = QW C.P km l) (hl : K7 l f = some (4, a, t)) (hi : VQ C.P t z bytes = true)
  (hn : LM x = some xs.length) (hf : DK h z xs.length x = some new) (hc : new.map Gu = AO e xs) (hb : KI bytes xs.length = true) :
  ∃ r h', Bg C g h f [x] (AG r xs.length) h' ∧ HH g h' (.AO r t (AO e xs) :: L) F := by
 unfold VQ at hi
 split at hi
 ·rename_i i hinf
  obtain ⟨h1, h2, h3⟩ := of_decide_eq_true hi
  subst h1; subst h2
  cases xs with
  | nil =>
   refine ⟨none, h, Rt hk hx hl ?_, A.IY t⟩
   show IS C.P t h [x] = _
   unfold IS
   simp only [hn, List.length_nil, hinf]
   rfl
  | cons y ys =>
   refine ⟨some h.size, _, Rt hk hx hl (h' := h.push (.cells (some t) 2 (AO e (y :: ys)))) ?_, A.UH t _⟩
   show IS C.P t h [x] = _
   unfold IS
   simp only [hn, List.length_cons, hinf]
   rw [show ys.length + 1 = (y :: ys).length from rfl, hf]
   simp only [Option.map_some, hc]
   have ho := of_decide_eq_true hb
   rw [if_pos ⟨E.T5 _, by simp only [N5, decide_eq_true_eq]; exact ⟨hz, ho.1, ho.2, h3⟩⟩]
   rfl
 ·cases hi
end
end Go.Av
