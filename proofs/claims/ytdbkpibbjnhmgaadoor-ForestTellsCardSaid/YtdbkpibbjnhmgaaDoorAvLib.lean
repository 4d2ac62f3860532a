/-
 A part.
-/
import Derived.Test.YtdbkpibbjnhmgaaDoorAvMap
import Derived.Test.YtdbkpibbjnhmgaaDoorAvNum
import Derived.Shelf.SlicesE.Clone
import Derived.Shelf.Spec.SlicesGrow
import Derived.Shelf.SlIter.Nil
import Derived.Shelf.SortM.Plain
import Derived.Shelf.SortM.SortNone
import Derived.Lib.Bytealg
import Derived.Lib.ItoaNum
import Derived.Lib.Itoa
import Derived.Shelf.Strings.Repeat
import Derived.Shelf.Strings.OnBuilder
import Derived.Shelf.Strings.Cut
import Derived.Shelf.Strings.Search3
namespace Go.Av
open Go.RowKit Go.Shelf Go.Proofs Go.Lib Go.Maps Go.MapKept Go.ChangeMaps Go.WideShapes
set_option linter.unusedVariables false
section
variable {P : Program} {w0 : World} {m : AU} {h : AB} {w : World}
theorem CO {f : FuncId} {args : Array Value} {Q : Value → World → Prop} (he : ∀ args w, (callFunc f args).run P w = .ok (.enter f args) w) (hc : Calls P f args w fun e w' => ∃ v, e = .returned v ∧ Q v w') : Bd P f args w Q := by
 unfold Bd
 rw [he args w]
 exact hc
theorem MN {w w' : World} (hb : Below w.heap.size w w') (g : Nat) : Ch w w' g := ⟨hb.os, hb.tape, hb.output, hb.size, fun k hk _ => hb.block k hk⟩
theorem Rel.newAt (r : Rel P w0 m h w) {w' : World} {E : HQ} {o : A9} (ht : Ch w w' E.g) (hg : w.heap.size ≤ E.g)
  (hobj : G9 P (m.upd h.size E) w' E o) : Rel P w0 (m.upd h.size E) (h.push o) w' := by
 refine (r.ghost o).place ht (Nat.le_trans r.size hg) (fun id2 E2 o2 h2 ho2 hl2 => ?_) (r.Pp (by omega)) (fun x hd => by have := r.IU hd; omega) (r.fresh (Nat.le_refl _)) (h.Cv o) hobj
 have := ((r.ghost o).obj id2 E2 o2 h2 ho2).lt hl2
 omega
theorem Rel.row (r : Rel P w0 m h w) {w' : World} (hb : Below w.heap.size w w') {e : TypeId} {z n : Nat} {v : Value} {ds : List Value} {cs : List AA} (ho : w'.ownsRow w.heap.size e z v n ds) (hn : v ≠ .slice none 0 0) (hz : E5 P (some e) = z)
  (hv : BU m cs ds) (h1 : cs.all AA.one = true) : ∃ m' : AU, m.ext h.size m' ∧ Rel P w0 m' (h.push (.cells (some e) 2 cs)) w' ∧ VR m' (.slice (some (h.size, 0)) n) v := by
 obtain ⟨hl, ⟨h0, _⟩ | ⟨g, cap, cur, rfl, hg, hc, hnc, _, hsz, htk⟩⟩ := ho
 ·exact absurd h0 hn
 ·have hle := AU.GN (m := m) (id := h.size) ⟨g, 0, z, cap * z⟩ (r.fresh (Nat.le_refl _))
  refine ⟨m.upd h.size ⟨g, 0, z, cap * z⟩, AU.G8 m _ (Nat.le_refl _), r.newAt (MN hb _) hg ?_, ?_⟩
  ·refine Ge (e := e) (fz := (0, 0)) hc rfl hz.symm hsz.symm ?_ h1 ⟨.inl rfl, fun _ => rfl⟩
   rw [hv.1, hl, htk]
   exact hv.mono hle
  ·exact .slice _ _ _ _ ⟨g, 0, z, cap * z⟩ _ (AU.Ci _ _ _) hnc (fun _ => ⟨by simp, fun _ => by simp⟩)
def GV : AA → Option Nat
 | .slice _ n => some n
 | .Ev n _ => some n
 | _ => none
theorem N8 (r : Rel P w0 m h w) {z n : Nat} {x : AA} {x' : Value} {cs : List AA} (hx : VR m x x') (hl : GV x = some n) (h0 : 0 < n) (hf : Cp h z n x = some cs) :
  ∃ b off cap ds, x' = .slice (some ⟨b, off, none⟩) n cap ∧ ds.length = n * z ∧ BU m cs ds ∧ ∀ (j : Nat) (v : Value), ds[j]? = some v → w.cell? ⟨b, off + j, none⟩ = some v := by
 cases hx <;> simp [GV] at hl
 case B8 => omega
 case CU => omega
 case slice id o len cap E a hE hle hc =>
  subst hl
  obtain ⟨rfl, _⟩ := hc (by omega)
  simp only [Cp, if_neg (show ¬ len = 0 by omega)] at hf
  obtain ⟨ds, h1, h2, h3, _⟩ := r.cells hE hf
  exact ⟨_, _, cap, ds, rfl, h1, h2, fun j v hj => by have := h3 j v hj; rwa [Addr.add_lit] at this⟩
 case Fy => omega
 case Ev len cap g o a c hle hf1 hv =>
  subst hl
  simp only [Cp] at hf
  split at hf
  ·rename_i hb
   injection hf with hf; subst hf
   obtain ⟨ds, h1, h2, h3⟩ := r.KO hf1 hv
   have e : a.take (len * z) = a := List.take_of_length_le (by omega)
   rw [e]
   exact ⟨_, _, cap, ds, rfl, by omega, h2, fun j v hj => by have := h3 j v hj; rwa [Addr.add_lit] at this⟩
  ·cases hf
theorem Qz {x : AA} {x' : Value} (hx : VR m x x') (hl : GV x = some 0) : ∃ a c, x' = .slice a 0 c := by
 cases hx <;> simp [GV] at hl
 case B8 => exact ⟨_, _, rfl⟩
 case CU => exact ⟨_, _, rfl⟩
 case slice => subst hl; exact ⟨_, _, rfl⟩
 case Fy => exact ⟨_, _, rfl⟩
 case Ev => subst hl; exact ⟨_, _, rfl⟩
set_option maxHeartbeats 2000000 in
theorem PG {ρ : Ren} (L : SlLaysE0.n41 P ρ) {i0 : TypeInfo} (hi : P.info? (ρ.t 23) = some i0) (z23 : ∀ w, (Go.sizeOf (ρ.t 23)).run P w = .ok i0.size w) (a : Addr) (c : Nat) (w : World) :
  Calls P (ρ.f 41) #[.slice (some a) 0 c] w fun e w' => ∃ a', e = .returned (.slice (some a') 0 0) ∧ Below w.heap.size w w' := by
 have mixed := L.mixed; have t4 := L.t4; have a4 := L.a4; have z4 := L.z4; have v4 := L.v4; have t22 := L.t22; have a22 := L.a22; have z22 := L.z22; have v22 := L.v22
 have q22 : ∀ (w : World) (a : Option Addr) (n c n' c' : Nat), (binOp .eql (ρ.t 22) (.slice a n c) (.slice none n' c')).run P w = .ok (.bool a.isNone) w := fun w a n c n' c' => Lib.run_eql_slice_nil w _ _ a n c n' c' L.t22
 have u22 : ∀ w, Sem.run P (underlying (ρ.t 22)) w = .ok (TypeDesc.slice (ρ.t 23)) w := run_underlying t22
 have happ : ∀ ty (base : Option Addr) (w : World), (Builtin.append_ #[ρ.t 22, ρ.t 22] ty #[.slice base 0 0, .slice (some a) 0 c]).run P w = .ok (.slice base 0 0) w := fun ty base w =>
  GH rfl rfl t22 t22 rfl hi (Nat.le_refl _) (fun w => by simp [Builtin.lenOf]) (by simp [Builtin.firstCells, loadCells, loadCellsFrom])
 obtain ⟨_, _, FG⟩ := L.f41
 go_enter FG, SlBodyN.n41_ntmps ρ
 go_wp2
 go_ret
 exact ⟨_, rfl, (Below.refl _ w).alloc (Nat.le_refl _) _⟩
def Ld (i : TypeInfo) (n : Nat) : Bool := decide (i.size ≠ 0 ∧ n ≤ 1099511627776 ∧ n * i.bytes ≤ 1099511627776 ∧ i.zero.map (·.cells.size) = some i.size)
def Fo (P : Program) (e : TypeId) (h : AB) : List AA → Option (AA × AB)
 | [x] =>
  match GV x with
  | some 0 =>
   match P.info? e with
   | some _ => some (.slice none 0, h)
   | none => none
  | some n =>
   match P.info? e with
   | some i =>
    match (Cp h i.size n x).map (·.map Dl) with
    | some cs => if cs.all AA.one = true ∧ Ld i n = true then some (.slice (some (h.size, 0)) n, h.push (.cells (some e) 2 cs)) else none
    | none => none
   | none => none
  | none => none
 | _ => none
theorem BU.VH {cs : List AA} {ds : List Value} (hv : BU m cs ds) (h1 : cs.all AA.one = true) : ∀ u ∈ ds, u.oneCell' = true := by
 intro u hu
 obtain ⟨j, hj, rfl⟩ := List.getElem_of_mem hu
 have hj' : j < cs.length := by rw [hv.1]; exact hj
 exact (hv.2 j _ _ (List.getElem?_eq_getElem hj') (List.getElem?_eq_getElem hj)).one (List.all_eq_true.1 h1 _ (List.getElem_mem hj'))
theorem LN {m : AU} {x : AA} {cargs : Array Value} (hv : BU m [x] cargs.toList) : ∃ a, cargs = #[a] ∧ VR m x a := by
 have := hv.1
 match cargs, this with
 | ⟨[a]⟩, _ => exact ⟨a, rfl, hv.2 0 _ _ rfl rfl⟩
theorem Ja {m : AU} {x y : AA} {cargs : Array Value} (hv : BU m [x, y] cargs.toList) : ∃ a b, cargs = #[a, b] ∧ VR m x a ∧ VR m y b := by
 have := hv.1
 match cargs, this with
 | ⟨[a, b]⟩, _ => exact ⟨a, b, rfl, hv.2 0 _ _ rfl rfl, hv.2 1 _ _ rfl rfl⟩
def EI (P : Program) (G : Nat → Option (List AA)) (f : FuncId) (ext : Gd → AB → List AA → Option (AA × AB)) : Prop := Nn P G fun g h f' args => if f' = f then ext g h args else none
theorem EI.of {G : Nat → Option (List AA)} {f : FuncId} {ext : Gd → AB → List AA → Option (AA × AB)}
  (hx : ∀ g h args v h', ext g h args = some (v, h') → AN g h h' ∧ ∀ w0 m w (cargs : Array Value), Rel P w0 m h w → BU m args cargs.toList → Bd P f cargs w fun v' w' => ∃ m' : AU, (m.ext h.size m') ∧ Rel P w0 m' h' w' ∧ VR m' v v') : EI P G f ext := by
 intro g h f' args v h' hc
 dsimp only at hc
 split at hc
 ·rename_i e; subst e
  obtain ⟨k, q⟩ := hx g h args v h' hc
  exact ⟨k, fun w0 m w cargs _ r hv => q w0 m w cargs r hv⟩
 ·cases hc
theorem EI.Xs {G : Nat → Option (List AA)} {f : FuncId} {ext : Gd → AB → List AA → Option (AA × AB)}
  (hx : ∀ g h args v h', ext g h args = some (v, h') → AN g h h' ∧ ∀ w0 m w (cargs : Array Value), BO G w → Rel P w0 m h w → BU m args cargs.toList → Bd P f cargs w fun v' w' => ∃ m' : AU, (m.ext h.size m') ∧ Rel P w0 m' h' w' ∧ VR m' v v') : EI P G f ext := by
 intro g h f' args v h' hc
 dsimp only at hc
 split at hc
 ·rename_i e; subst e
  obtain ⟨k, q⟩ := hx g h args v h' hc
  exact ⟨k, fun w0 m w cargs hz r hv => q w0 m w cargs (hz.later r.below) r hv⟩
 ·cases hc
theorem SM {ρ : Ren} (L : SlLaysE0.n41 P ρ) (G : Nat → Option (List AA)) : EI P G (ρ.f 41) fun g h args => Fo P (ρ.t 23) h args := by
 refine EI.of fun g h args v h' hc => ?_
 have en := L.f41.enters rfl
 unfold Fo at hc
 split at hc
 ·rename_i x
  split at hc
  ·rename_i hl
   split at hc
   ·rename_i i hi
    simp only [Option.some.injEq, Prod.mk.injEq] at hc
    obtain ⟨rfl, rfl⟩ := hc
    refine ⟨AN.refl _ _, fun w0 m w cargs r hv => ?_⟩
    obtain ⟨x', rfl, hx⟩ := LN hv
    obtain ⟨a, c, rfl⟩ := Qz hx hl
    refine CO en ?_
    cases a with
    | none =>
     refine (AnyE.slices_Clone_nil L 0 c w).mono ?_
     rintro e w' ⟨rfl, rfl⟩
     exact ⟨_, rfl, m, AU.ext.refl _ _, r, .B8⟩
    | some a =>
     refine (PG L hi (fun w => by simp [Go.sizeOf, typeInfo, hi]) a c w).mono ?_
     rintro e w' ⟨a', rfl, hb⟩
     exact ⟨_, rfl, m, AU.ext.refl _ _, r.later hb, .CU _⟩
   ·cases hc
  ·rename_i n hne hl
   split at hc
   ·rename_i i hi
    split at hc
    ·rename_i cs hcs
     split at hc
     ·rename_i hb
      obtain ⟨h1, hb⟩ := hb
      simp only [Ld, decide_eq_true_eq] at hb
      obtain ⟨hs0, hn, hby, hz⟩ := hb
      simp only [Option.some.injEq, Prod.mk.injEq] at hc
      obtain ⟨rfl, rfl⟩ := hc
      refine ⟨AN.push _ _ _, fun w0 m w cargs r hv => ?_⟩
      obtain ⟨x', rfl, hx⟩ := LN hv
      simp only [Option.map_eq_some_iff] at hcs hz
      obtain ⟨cs0, hf, rfl⟩ := hcs
      obtain ⟨z, hz, hzs⟩ := hz
      obtain ⟨b, off, cap, ds, rfl, d1, d2, d3⟩ := N8 r hx hl (Nat.pos_of_ne_zero fun e => hne e) hf
      have d2' := d2.Dl
      refine CO en ?_
      refine (AnyE.slices_Clone L i z i.size i.bytes hi hz rfl rfl hzs (by omega) (fun w => by simp [Go.sizeOf, typeInfo, hi]) b off n cap ds w d1 (by unfold maxLen; omega) (by omega) d3 (d2'.VH h1)).mono ?_
      rintro e w' ⟨v', rfl, ho, hne, hb⟩
      have hsz : Bf P (ρ.t 23) = some i.size := by simp [Bf, hi]
      obtain ⟨m', q1, q2, q3⟩ := r.row hb ho hne (by simp [E5, Ep hsz]) d2' h1
      exact ⟨_, rfl, m', q1, q2, q3⟩
     ·cases hc
    ·cases hc
   ·cases hc
  ·cases hc
 ·cases hc
def Rf (P : Program) (e : TypeId) (h : AB) : List AA → Option (AA × AB)
 | [x] =>
  match GV x with
  | some 0 =>
   match P.info? e with
   | some _ => some (.Ev 0 [], h)
   | none => none
  | some n =>
   match P.info? e with
   | some i =>
    match (Cp h i.size n x).map (·.map Dl) with
    | some cs => if cs.all AA.one = true ∧ Ld i n = true then some (.Ev n cs, h) else none
    | none => none
   | none => none
  | none => none
 | _ => none
def T1 (P : Program) (e : TypeId) (h : AB) : List AA → Option (AA × AB)
 | [.slice none 0, .int .i64 n] =>
  if n = 0 then some (.slice none 0, h) else
  match P.info? e with
  | some i => if 0 < n ∧ Ld i n.toNat = true then some (.slice (some (h.size, 0)) 0, h.push (.cells (some e) 2 [])) else none
  | none => none
 | _ => none
def U8 (h : AB) : List AA → Option (AA × AB)
 | [.str a, .str b] => some (.int .i64 (compareBytes a b), h)
 | _ => none
def Sx (P : Program) (f : FuncId) : Bool :=
 match P.funcs[f]? with
 | some fn => !(fn.name == "runtime.NumGoroutine") && fn.body.isNone
 | none => false
theorem Tw {f : FuncId} (hx : Sx P f = true) {F : Array Value → Sem Value} (hn : ∀ fn, P.funcs[f]? = some fn → Extern.findNext fn = none ∧ Extern.find fn = some F) {cargs : Array Value} {v : Value} {w' : World} (h1 : (F cargs).run P w = .ok v w') {Q : Value → World → Prop} (hq : Q v w') : Bd P f cargs w Q := by
 unfold Sx at hx
 split at hx
 ·rename_i fn Ig
  simp only [Bool.and_eq_true, Bool.not_eq_true', Option.isNone_iff_eq_none] at hx
  obtain ⟨e1, e2⟩ := hn fn Ig
  have hrun : (callFunc f cargs).run P w = .ok (.value v) w' := by
   unfold callFunc
   simp only [Sem.run_bind, program, Sem.run, Result.andThen_ok, Ig]
   rw [if_neg (by rw [hx.1]; decide), if_pos (by rw [hx.2]; rfl)]
   simp only [e1, e2, Sem.run_bind]
   rw [show Sem.run P (Go.mark (Mark.extern f)) w = .ok () w from rfl]
   simp only [Result.andThen_ok, h1, Sem.run_pure]
  unfold Bd
  rw [hrun]
  exact hq
 ·cases hx
theorem Xf {f : FuncId} (G : Nat → Option (List AA)) (hx : Sx P f = true) (hn : ∀ fn, P.funcs[f]? = some fn → Extern.findNext fn = none ∧ Extern.find fn = some Extern.BytealgIndexByte.indexByte) : EI P G f fun g h args => VZ h args := by
 refine EI.of fun g h args v h' hc => ?_
 unfold VZ at hc
 split at hc
 ·rename_i s c
  split at hc
  ·rename_i hr
   simp only [Option.some.injEq, Prod.mk.injEq] at hc
   obtain ⟨rfl, rfl⟩ := hc
   refine ⟨AN.refl _ _, fun w0 m w cargs r hv => ?_⟩
   obtain ⟨a, b, rfl, ha, hb⟩ := Ja hv
   obtain rfl := ha.B9
   obtain rfl := hb.B5
   refine Tw hx hn (v := .int .i64 (idxOf s (UInt8.ofNat c.toNat))) (w' := w) ?_ ⟨m, AU.ext.refl _ _, r, .int _ _⟩
   show Sem.run P (do
    let b ← Extern.Bytes.bytesOf (.string ⟨⟨s⟩⟩)
    let c ← Extern.Bytes.asByte (.int .u8 c)
    match (List.range b.size).find? fun i => b[i]! == c with
    | some i => pure (goInt i)
    | none => pure (goInt (-1))) w = _
   simp only [Extern.Bytes.bytesOf, Extern.Bytes.asByte, Sem.run_bind, Sem.run_pure, Result.andThen_ok]
   rw [idx_eq s c.toNat.toUInt8]
   unfold idxOf
   rw [show UInt8.ofNat c.toNat = c.toNat.toUInt8 from rfl]
   cases (List.range s.length).find? fun i => s[i]? == some c.toNat.toUInt8 <;> rfl
  ·cases hc
 ·cases hc
def E6 : List (AA × AA) → Option (List (List UInt8))
 | [] => some []
 | (.str s, _) :: r => (E6 r).map (s :: ·)
 | _ => none
def PQ (x : List UInt8) : List (List UInt8) → List (List UInt8)
 | [] => [x]
 | y :: l => bif Op.bytesLess y x then y :: PQ x l else x :: y :: l
def Bb (l : List (List UInt8)) : List (List UInt8) := l.foldr PQ []
theorem J1 (x : List UInt8) : ∀ l, (PQ x l).Perm (x :: l)
 | [] => .refl _
 | y :: l => by
  unfold PQ
  cases Op.bytesLess y x
  ·exact .refl _
  ·exact ((J1 x l).cons y).trans (.swap x y l)
theorem ED : ∀ l, (Bb l).Perm l
 | [] => .refl _
 | x :: l => (J1 x (Bb l)).trans ((ED l).cons x)
theorem Kn (x : List UInt8) : ∀ {l}, l.Pairwise (fun a b : List UInt8 => a ≤ b) → (PQ x l).Pairwise fun a b : List UInt8 => a ≤ b
 | [], _ => by simp [PQ]
 | y :: l, h => by
  unfold PQ
  rw [bytesLess_eq]
  by_cases hlt : y < x
  ·rw [decide_eq_true hlt]
   refine List.pairwise_cons.2 ⟨fun z hz => ?_, Kn x (List.pairwise_cons.1 h).2⟩
   rcases List.mem_cons.1 ((J1 x l).mem_iff.1 hz) with rfl | hz
   ·exact List.le_of_lt hlt
   ·exact (List.pairwise_cons.1 h).1 z hz
  ·rw [decide_eq_false hlt]
   have hxy : x ≤ y := List.not_lt.1 hlt
   refine List.pairwise_cons.2 ⟨fun z hz => ?_, h⟩
   rcases List.mem_cons.1 hz with rfl | hz
   ·exact hxy
   ·exact List.le_trans hxy ((List.pairwise_cons.1 h).1 z hz)
theorem Gx : ∀ l, (Bb l).Pairwise fun a b : List UInt8 => a ≤ b
 | [] => .nil
 | x :: l => Kn x (Gx l)
theorem TW (l : List (List UInt8)) : l.mergeSort (fun x y => decide (x ≤ y)) = Bb l := by
 have tr : ∀ a b c : List UInt8, leB a b = true → leB b c = true → leB a c = true := fun a b c h1 h2 => by simp only [leB, decide_eq_true_eq] at *; exact List.le_trans h1 h2
 have tot : ∀ a b : List UInt8, (leB a b || leB b a) = true := fun a b => by simp only [leB, Bool.or_eq_true, decide_eq_true_eq]; exact List.le_total a b
 refine List.Perm.eq_of_pairwise (le := fun a b : List UInt8 => a ≤ b) (fun a b _ _ h1 h2 => List.le_antisymm h1 h2) ?_ (Gx l) ((List.mergeSort_perm l leB).trans (ED l).symm)
 exact (List.pairwise_mergeSort tr tot l).imp fun h => by simpa using h
def Hu (ks : List (List UInt8)) : Bool := decide (ks.length ≤ 1099511627776) && ks.all fun s => decide (s.length ≤ 1099511627776)
def K7 (e : TypeId) (h : AB) (ks : List (List UInt8)) : AA × AB :=
 match ks with
 | [] => (.slice none 0, h)
 | _ => (.slice (some (h.size, 0)) ks.length, h.push (.cells (some e) 2 ((Bb ks).map .str)))
def K3 (h : AB) (b : Nat) : Option AA :=
 match h.get b with
 | some (.cells none 2 [v]) => some v
 | _ => none
def Gf (it : FuncId) (e : TypeId) (h : AB) : List AA → Option (AA × AB)
 | [.func (.func f) [] [.ptr (some (b, 0))]] =>
  if f = it then
   match K3 h b with
   | some (.map none) => some (.slice none 0, h)
   | some (.map (some mid)) =>
    match h.get mid with
    | some (.map st es) =>
     if st = 2 then
      match E6 es with
      | some ks => if Hu ks = true then some (K7 e h ks) else none
      | none => none
     else none
    | _ => none
   | _ => none
  else none
 | _ => none
theorem NC {es : List (AA × AA)} {en : Array MapEntry} (hl : es.length = en.size) (hv : ∀ (i : Nat) (k v : AA) (e : MapEntry), es[i]? = some (k, v) → en[i]? = some e → VR m k e.key ∧ VR m v e.val) {ks : List (List UInt8)} (hk : E6 es = some ks) :
  en.toList.map (·.key) = ks.map encStr := by
 have key : ∀ (es : List (AA × AA)) (l : List MapEntry) (ks : List (List UInt8)), es.length = l.length → (∀ (i : Nat) (k v : AA) (e : MapEntry), es[i]? = some (k, v) → l[i]? = some e → VR m k e.key) → E6 es = some ks → l.map (·.key) = ks.map encStr := by
  intro es
  induction es with
  | nil =>
   intro l ks hl _ hk
   have : l = [] := List.length_eq_zero_iff.1 hl.symm
   subst this
   simp [E6] at hk
   subst hk; rfl
  | cons p es ih =>
   intro l ks hl hv hk
   obtain ⟨k, v⟩ := p
   cases l with
   | nil => simp at hl
   | cons x l =>
    unfold E6 at hk
    split at hk
    ·cases ‹_ :: _ = []›
    ·rename_i s v' r heq
     injection heq with h1 h2
     injection h1 with h1 h3
     subst h1; subst h2
     simp only [Option.map_eq_some_iff] at hk
     obtain ⟨ks', hk', rfl⟩ := hk
     have hx := (hv 0 _ _ x rfl rfl).B9
     rw [List.map_cons, List.map_cons, ih l ks' (by simpa using hl) (fun i k v e h1 h2 => hv (i + 1) k v e (by simpa using h1) (by simpa using h2)) hk', hx]
    ·cases hk
 exact key es en.toList ks (by simpa using hl) (fun i k v e h1 h2 => (hv i k v e h1 (by simpa using h2)).1) hk
theorem NQ {l : List (List UInt8)} (h : l.Nodup) : (l.map encStr).Nodup := by
 rw [List.Nodup, List.pairwise_map]
 exact h.imp fun hne e => hne (encStr_inj e)
theorem Fu.stamped {en : Array MapEntry} {clock : Nat} (h : Fu en clock) {ks : List (List UInt8)} (hk : en.toList.map (·.key) = ks.map encStr) : MapKept.Stamped en clock := by
 refine ⟨h.1, h.2.1, ?_⟩
 have e : en.toList.filterMap Hr = ks.map fun s => (⟨⟨s⟩⟩ : ByteArray) := by
  have key : ∀ (l : List MapEntry) (ks : List (List UInt8)), l.map (·.key) = ks.map encStr → l.filterMap Hr = ks.map fun s => (⟨⟨s⟩⟩ : ByteArray) := by
   intro l
   induction l with
   | nil => intro ks h; cases ks with | nil => rfl | cons => simp at h
   | cons x l ih =>
    intro ks h
    cases ks with
    | nil => simp at h
    | cons s ks =>
     simp only [List.map_cons, List.cons.injEq] at h
     have hx : Hr x = some ⟨⟨s⟩⟩ := by unfold Hr; rw [h.1]
     rw [List.filterMap_cons, hx, ih ks h.2, List.map_cons]
  exact key _ _ hk
 have h3 := h.2.2
 rw [e] at h3
 rw [hk]
 refine NQ ?_
 rw [List.Nodup, List.pairwise_map] at h3
 exact h3.imp fun hne e => hne (by rw [e])
theorem Rb {ρ σ τ : Ren} (L : SlLaysZ.n6 P ρ) (K : SlLaysZ.n7 P σ) (T : SlLaysM.n6 P τ) (hf9 : τ.f 6 = ρ.f 9) (ht : σ.t 26 = ρ.t 26) (hk : P.underlying (ρ.t 26) = some .string) (G : Nat → Option (List AA)) :
  EI P G (ρ.f 6) fun g h args => Gf (σ.f 10) (ρ.t 26) h args := by
 refine EI.of fun g h args v h' hc => ?_
 have en := L.f6.enters rfl
 have e9 : ∀ args w, (callFunc (ρ.f 9) args).run P w = .ok (.enter (ρ.f 9) args) w := by rw [← hf9]; exact T.f6.enters rfl
 have sorts : ∀ k, AnyZ.SortsIn P ρ Fence.wide k := fun k =>
  ⟨fun blk off cap ss W hH hblk hsz => callsIn_wide.2 (by rw [← hf9]; exact AnyM.slices_Sort_string T blk off cap ss W hH hblk hsz), fun p cap W => callsIn_wide.2 (by rw [← hf9]; exact AnyM.slices_Sort_string_none T p cap W)⟩
 have hsz : Bf P (ρ.t 26) = some 1 := by
  have := L.z26 default
  unfold Go.sizeOf typeInfo at this
  unfold Bf
  cases hi : P.info? (ρ.t 26) with
  | none => simp [hi] at this
  | some i => simp [hi] at this; simp [this]
 unfold Gf at hc
 split at hc
 ·rename_i f b
  split at hc
  ·rename_i hf
   subst hf
   have box : ∀ {x : AA}, K3 h b = some x → ∀ {w0 : World} {m : AU} {w : World} {cargs : Array Value}, Rel P w0 m h w → BU m [.func (.func (σ.f 10)) [] [.ptr (some (b, 0))]] cargs.toList →
     ∃ Bm y, cargs = #[.func (.func (σ.f 10)) #[] #[.pointer (some ⟨Bm, 0, none⟩)]] ∧ Bm < w.heap.size ∧ w.cell? ⟨Bm, 0, none⟩ = some y ∧ VR m x y := by
    intro x hx w0 m w cargs r hv
    obtain ⟨a, rfl, ha⟩ := LN hv
    cases ha with
    | func _ _ _ c d h1 k1 h2 k2 =>
     have hc0 : c = #[] := Array.eq_empty_of_size_eq_zero h1.symm
     subst hc0
     match d, h2, k2 with
     | ⟨[y]⟩, _, k2 =>
      have hy := k2 0 _ y rfl rfl
      cases hy with
      | ptr _ _ E hE =>
       unfold K3 at hx
       split at hx
       ·rename_i v hg
        injection hx with hx
        subst hx
        obtain ⟨⟨_, hbase⟩, hobj⟩ := r.obj b E _ hE hg
        obtain ⟨cur, e, fz, q1, q2, q3, _⟩ := hobj (by decide)
        obtain ⟨_, c, q4, q5⟩ := q3 0 v rfl
        have hb0 := hbase rfl rfl
        rw [hb0] at q4 ⊢
        exact ⟨E.g, c, rfl, (Array.getElem?_eq_some_iff.1 q1).1, by simpa [World.cell?, q1] using q4, q5⟩
       ·cases hx
   have fin : ∀ {w0 : World} {m : AU} {w : World} {Bm : Nat} {S : List (List UInt8) → Prop} {N : Nat} {Q : Value → World → Prop}, N ≤ 1099511627776 → SeqGives Fence.wide 2 P (σ.f 10) #[.pointer (some ⟨Bm, 0, none⟩)] encStr S N w →
     (∀ v ss w', S ss → w'.ownsRow w.heap.size (ρ.t 26) 1 v ss.length ((ss.mergeSort (fun x y => decide (x ≤ y))).map encStr) → (v = .slice none 0 0 ↔ ss = []) → Below w.heap.size w w' → Q v w') →
     Bd P (ρ.f 6) #[.func (.func (σ.f 10)) #[] #[.pointer (some ⟨Bm, 0, none⟩)]] w Q := by
    intro w0 m w Bm S N Q hN hseq hQ
    refine CO en ((callsIn_wide (n := 5)).1 ?_)
    refine (AnyZ.sorted_in L Fence.wide 5 trivial trivial trivial trivial rfl (by omega) (sorts _) e9 (σ.f 10) _ trivial (K.f10.enters rfl) S N (by unfold maxLen; omega) (by omega) w hseq).mono ?_
    rintro e w' ⟨v, ss, rfl, hS, hrow, hnil, hb⟩
    exact ⟨_, rfl, hQ v ss w' hS hrow hnil hb⟩
   split at hc
   ·rename_i hbx
    simp only [Option.some.injEq, Prod.mk.injEq] at hc
    obtain ⟨rfl, rfl⟩ := hc
    refine ⟨AN.refl _ _, fun w0 m w cargs r hv => ?_⟩
    obtain ⟨Bm, y, rfl, hlt, hcell, hy⟩ := box hbx r hv
    cases hy
    refine fin (w0 := w0) (m := m) (Nat.zero_le _) (AnyZ.keys_gives_nil (ρ := σ) { K with } Fence.wide 2 trivial rfl Bm w hlt hcell) fun v ss w' hS hrow hnil hb => ?_
    obtain rfl := hnil.2 hS
    exact ⟨m, AU.ext.refl _ _, r.later hb, .B8⟩
   ·rename_i mid hbx
    split at hc
    ·rename_i st es hg
     split at hc
     ·rename_i hst
      split at hc
      ·rename_i ks hks
       split at hc
       ·rename_i hok
        injection hc with hc
        simp only [Hu, Bool.and_eq_true, decide_eq_true_eq, List.all_eq_true] at hok
        obtain ⟨ok1, ok2⟩ := hok
        refine ⟨?_, fun w0 m w cargs r hv => ?_⟩
        ·unfold K7 at hc
         split at hc
         ·injection hc with e1 e2; subst e2; exact AN.refl _ _
         ·injection hc with e1 e2; subst e2; exact AN.push _ _ _
        ·obtain ⟨Bm, y, rfl, hlt, hcell, hy⟩ := box hbx r hv
         cases hy with
         | map _ E hE =>
          obtain ⟨_, hobj⟩ := r.obj mid E _ hE hg
          obtain ⟨ents, clock, c1, c2, c3, c4⟩ := IM.two (hobj (by rw [hst]; decide)) (by rw [hst]; decide)
          have hkeys := NC c2 c3 hks
          have hlen : ents.size = ks.length := by have := congrArg List.length hkeys; simpa using this
          let R : Value → Option (DataW Unit × List MemPlace) := fun _ => some (.nil, [])
          have hrd : ∀ (l : List MapEntry) (ks : List (List UInt8)), l.map (·.key) = ks.map encStr → (∀ s ∈ ks, s.length ≤ 1099511627776) → l.map (Go.WideElems.rd P (σ.t 26) R) = ks.map fun s => some (.string s, .nil) := by
           intro l
           induction l with
           | nil => intro ks h _; cases ks with | nil => rfl | cons => simp at h
           | cons x l ih =>
            intro ks h hs
            cases ks with
            | nil => simp at h
            | cons s ks =>
             simp only [List.map_cons, List.cons.injEq] at h ⊢
             refine ⟨?_, ih ks h.2 fun t ht => hs t (by simp [ht])⟩
             have hs1 := hs s (by simp)
             have hk1 : keyOf P (σ.t 26) (encStr s) = some (.string s) := by
              have : s.length ≤ maxLen := by unfold maxLen; omega
              simp [keyOf, mapKey, ht, hk, encStr, ByteArray.size, this]
             unfold Go.WideElems.rd
             rw [h.1, hk1]
             rfl
          have hrd' := hrd _ _ hkeys ok2
          have hrg : ents.toList.map (Go.WideElems.rg P (σ.t 26) R) = ks.map fun s => (.string s, .nil) := by
           have := congrArg (List.map fun o : Option (Lit × DataW Unit) => o.getD (.bool false, .nil)) hrd'
           rw [List.map_map, List.map_map] at this
           exact this
          have hown : w.ownsMap P (σ.t 26) R E.g ents.size (.map ((ents.toList.map (Go.WideElems.rg P (σ.t 26) R)).foldr DataW.insert [])) := by
           refine ⟨ents, clock, c1, ⟨by rw [hlen]; unfold maxLen; omega, c4.stamped hkeys, fun x hx => ?_⟩, Nat.le_refl _, rfl⟩
           have hm := List.mem_map_of_mem (f := Go.WideElems.rd P (σ.t 26) R) hx
           rw [hrd'] at hm
           obtain ⟨s, _, hs⟩ := List.mem_map.1 hm
           exact ⟨_, hs.symm⟩
          rw [hrg] at hown
          have hperm : (strKeys (H := Unit) (.map ((ks.map fun s => (Lit.string s, (DataW.nil : DataW Unit))).foldr DataW.insert []))).Perm ks := by
           have := (sorted_perm (ks.map fun s => (Lit.string s, (DataW.nil : DataW Unit)))).map fun p => strOf p.1
           refine (show List.Perm _ _ from this).trans ?_
           simp [List.map_map, Function.comp_def, strOf]
          have hsize : Maps.size (H := Unit) (.map ((ks.map fun s => (Lit.string s, (DataW.nil : DataW Unit))).foldr DataW.insert [])) = ks.length := by
           rw [Maps.size_eq, (sorted_perm _).length_eq, List.length_map]
          refine fin (w0 := w0) (m := m) (by rw [hsize]; exact ok1) (AnyZ.keys_gives (ρ := σ) { K with } Fence.wide 2 trivial rfl (by omega) Bm E.g ents.size _ w hlt hcell hown) fun v ss w' hS hrow hnil hb => ?_
          have hp := hS.trans hperm
          unfold K7 at hc
          split at hc
          ·injection hc with e1 e2
           subst e1; subst e2
           obtain rfl := hnil.2 hp.eq_nil
           exact ⟨m, AU.ext.refl _ _, r.later hb, .B8⟩
          ·rename_i hne
           injection hc with e1 e2
           subst e1; subst e2
           have hss : ss ≠ [] := fun e => hne (by subst e; exact hp.symm.eq_nil)
           rw [show (ss.mergeSort fun x y => decide (x ≤ y)) = Bb ks from (mergeSort_of_perm hp).trans (TW ks), hp.length_eq] at hrow
           exact r.row hb hrow (fun e => hss (hnil.1 e)) (by simp [E5, Ep hsz]) (BU.map _ _ _ fun x _ => VR.str ⟨⟨x⟩⟩) (by simp [AA.one])
       ·cases hc
      ·cases hc
     ·cases hc
    ·cases hc
   ·cases hc
  ·cases hc
 ·cases hc
def We (s : List UInt8) (n : Int) : Bool := decide (0 ≤ n ∧ n ≤ 1099511627776 ∧ s.length * n.toNat ≤ 1099511627776)
def RV (h : AB) : List AA → Option (AA × AB)
 | [.str s, .int .i64 n] => if We s n = true then some (.str (Lib.repeatL s n.toNat), h) else none
 | _ => none
def Iy : List AA → Option (List (List UInt8))
 | [] => some []
 | .str s :: r => (Iy r).map (s :: ·)
 | _ => none
def Lt (ss : List (List UInt8)) (t : List UInt8) : Bool := decide (ss.length ≤ 1099511627776 ∧ (Lib.join ss t).length ≤ 1099511627776)
def Jw (h : AB) : List AA → Option (AA × AB)
 | [x, .str t] =>
  match GV x with
  | some n =>
   match (bif Nat.beq n 0 then some [] else (Cp h 1 n x).bind Iy) with
   | some ss => if Lt ss t = true then some (.str (Lib.join ss t), h) else none
   | none => none
  | none => none
 | _ => none
theorem Li : ∀ {cs : List AA} {ss : List (List UInt8)} {ds : List Value}, Iy cs = some ss → BU m cs ds → ds = (ss.map fun s => (⟨⟨s⟩⟩ : ByteArray)).map Value.string
 | [], ss, ds, h, hv => by
  cases h
  exact List.length_eq_zero_iff.1 hv.1.symm
 | c :: cs, ss, [], h, hv => by have := hv.1; simp at this
 | c :: cs, ss, d :: ds, h, hv => by
  unfold Iy at h
  split at h
  ·rename_i e; cases e
  ·rename_i s r e
   cases e
   simp only [Option.map_eq_some_iff] at h
   obtain ⟨ss', h1, rfl⟩ := h
   have h2 : BU m cs ds := ⟨by simpa using hv.1, fun i x y hx hy => hv.2 (i + 1) x y (by simpa using hx) (by simpa using hy)⟩
   have h3 := hv.2 0 _ _ rfl rfl
   obtain rfl := h3.B9
   rw [Li h1 h2]
   rfl
  ·cases h
theorem T8 {ρ : Ren} (L : Lays.n156 P ρ) (X : Builder.Extra P ρ) (G : Nat → Option (List AA)) : EI P G (ρ.f 156) fun g h args => Jw h args := by
 refine EI.of fun g h args v h' hc => ?_
 have en : ∀ args w, (callFunc (ρ.f 156) args).run P w = .ok (.enter (ρ.f 156) args) w := enters_of L.f156 (by kernel_rfl) rfl
 unfold Jw at hc
 split at hc
 ·rename_i x t
  split at hc
  ·rename_i n hl
   split at hc
   ·rename_i ss hss
    split at hc
    ·rename_i hb
     obtain ⟨hb1, hb2⟩ := of_decide_eq_true hb
     simp only [Option.some.injEq, Prod.mk.injEq] at hc
     obtain ⟨rfl, rfl⟩ := hc
     refine ⟨AN.refl _ _, fun w0 m w cargs r hv => ?_⟩
     obtain ⟨a, b, rfl, ha, hb'⟩ := Ja hv
     obtain rfl := hb'.B9
     by_cases hn : n = 0
     ·subst hn
      cases hss
      obtain ⟨a', c, rfl⟩ := Qz ha hl
      refine CO en ((Any.strings_Join_none L X a' c ⟨⟨t⟩⟩ w).mono ?_)
      rintro e w' ⟨rfl, rfl⟩
      exact ⟨_, rfl, m, AU.ext.refl _ _, r, VR.str ⟨⟨Lib.join [] t⟩⟩⟩
     ·have hnb : Nat.beq n 0 = false := by
       cases hq : Nat.beq n 0 with
       | true => exact absurd (Nat.eq_of_beq_eq_true hq) hn
       | false => rfl
      rw [hnb, cond_false] at hss
      obtain ⟨cs, hf, hs⟩ := Option.bind_eq_some_iff.1 hss
      obtain ⟨bk, off, cap, ds, rfl, d1, d2, d3⟩ := N8 r ha hl (Nat.pos_of_ne_zero hn) hf
      have hds := Li hs d2
      have hlen : n = (ss.map fun s => (⟨⟨s⟩⟩ : ByteArray)).length := by
       rw [List.length_map]
       have := congrArg List.length hds
       simp only [List.length_map] at this
       omega
      have hmap : (ss.map fun s => (⟨⟨s⟩⟩ : ByteArray)).map (·.data.toList) = ss := by
       rw [List.map_map]
       exact List.map_id ss
      have hcells : ∀ (j : Nat) x, (ss.map fun s => (⟨⟨s⟩⟩ : ByteArray))[j]? = some x → w.cell? ⟨bk, off + j, none⟩ = some (.string x) := fun j x hx => d3 j _ (by rw [hds, List.getElem?_map, hx]; rfl)
      have hbk : bk < w.heap.size := by
       have h0 : 0 < ds.length := by omega
       have := d3 0 _ (List.getElem?_eq_getElem h0)
       rcases Nat.lt_or_ge bk w.heap.size with q | q
       ·exact q
       ·simp [World.cell?, Array.getElem?_eq_none q] at this
      have hcap : n ≤ cap := by
       cases ha with
       | slice _ _ _ _ _ _ _ hc => exact hc
       | Ev _ _ _ _ _ _ hc => exact hc
       | undef => simp [GV] at hl
       | CU => exact absurd rfl hn
       | Fy => exact absurd rfl hn
      refine CO en ?_
      rw [hlen]
      refine (Any.strings_Join L X bk off cap (ss.map fun s => (⟨⟨s⟩⟩ : ByteArray)) ⟨⟨t⟩⟩ w hcells hbk (by rw [List.length_map]; omega) (by omega) (by rw [hmap]; show (Lib.join ss t).length ≤ _; omega)).mono ?_
      rintro e w' ⟨rfl, hbl⟩
      rw [hmap]
      exact ⟨_, rfl, m, AU.ext.refl _ _, r.later hbl, VR.str ⟨⟨Lib.join ss t⟩⟩⟩
    ·cases hc
   ·cases hc
  ·cases hc
 ·cases hc
def P9 (h : AB) : List AA → Option (AA × AB)
 | [.str s, .str t] => if s.length ≤ 4294967280 then some (.tuple [.str (Lib.cut s t).1, .str (Lib.cut s t).2.1, .bool (Lib.cut s t).2.2], h) else none
 | _ => none
def Ht (h : AB) : List AA → Option (AA × AB)
 | [.str s, .str t] => if s.length ≤ 4294967280 then some (.int .i64 (Lib.index s t), h) else none
 | _ => none
theorem OH {B : Nat} {a w : World} (h : Below B a w) (n : Nat) : Below B a (w.drewN n) := h.trans ⟨rfl, rfl, rfl, Nat.le_refl _, fun _ _ => rfl⟩
theorem Xb {ρ : Ren} (L : Lays.n145 P ρ) {G : Nat → Option (List AA)} (hg : G (ρ.g 1) = some []) : EI P G (ρ.f 145) fun g h args => P9 h args := by
 refine EI.Xs fun g h args v h' hc => ?_
 have en : ∀ args w, (callFunc (ρ.f 145) args).run P w = .ok (.enter (ρ.f 145) args) w := enters_of L.f145 (by kernel_rfl) rfl
 unfold P9 at hc
 split at hc
 ·rename_i s t
  split at hc
  ·rename_i hb
   simp only [Option.some.injEq, Prod.mk.injEq] at hc
   obtain ⟨rfl, rfl⟩ := hc
   refine ⟨AN.refl _ _, fun w0 m w cargs hz r hv => ?_⟩
   obtain ⟨a, b, rfl, ha, hb'⟩ := Ja hv
   obtain rfl := ha.B9
   obtain rfl := hb'.B9
   obtain ⟨n, hn⟩ := hz.2 _ hg
   refine CO en ((Any.strings_Cut L ⟨⟨s⟩⟩ ⟨⟨t⟩⟩ n w (by show s.length < _; omega) hn).mono ?_)
   rintro e w' ⟨rfl, q, rfl⟩
   refine ⟨_, rfl, m, AU.ext.refl _ _, r.later (OH (Below.refl _ _) _), VR.tuple _ _ rfl fun i x y hx hy => ?_⟩
   match i, hx, hy with
   | 0, hx, hy => cases hx; cases hy; exact VR.str ⟨⟨_⟩⟩
   | 1, hx, hy => cases hx; cases hy; exact VR.str ⟨⟨_⟩⟩
   | 2, hx, hy => cases hx; cases hy; exact VR.bool _
   | i + 3, hx, hy => simp at hx
  ·cases hc
 ·cases hc
theorem Sv {ρ : Ren} (L : Lays.n143 P ρ) {G : Nat → Option (List AA)} (hg : G (ρ.g 1) = some []) : EI P G (ρ.f 143) fun g h args => Ht h args := by
 refine EI.Xs fun g h args v h' hc => ?_
 have en : ∀ args w, (callFunc (ρ.f 143) args).run P w = .ok (.enter (ρ.f 143) args) w := enters_of L.f143 (by kernel_rfl) rfl
 unfold Ht at hc
 split at hc
 ·rename_i s t
  split at hc
  ·rename_i hb
   simp only [Option.some.injEq, Prod.mk.injEq] at hc
   obtain ⟨rfl, rfl⟩ := hc
   refine ⟨AN.refl _ _, fun w0 m w cargs hz r hv => ?_⟩
   obtain ⟨a, b, rfl, ha, hb'⟩ := Ja hv
   obtain rfl := ha.B9
   obtain rfl := hb'.B9
   obtain ⟨n, hn⟩ := hz.2 _ hg
   refine CO en ((Any.strings_Index L ⟨⟨s⟩⟩ ⟨⟨t⟩⟩ n w (by show s.length < _; omega) hn).mono ?_)
   rintro e w' ⟨rfl, rfl⟩
   exact ⟨_, rfl, m, AU.ext.refl _ _, r, VR.int _ _⟩
  ·cases hc
 ·cases hc
end
def UR (h : AB) : List AA → Option (AA × AB)
 | [] => some (.bool true, h)
 | _ => none
def Tv (h : AB) : List AA → Option (AA × AB)
 | [] => some (.undef, h)
 | _ => none
def Sf (f : AA → Option AA) : List AA → Option (List AA)
 | [] => some []
 | v :: vs => match f v, Sf f vs with | some v', some vs' => some (v' :: vs') | _, _ => none
def WU (args : List AA) (i o : Nat) : Option AA :=
 match args[i]? with
 | some (.ptr (some (id, b))) => some (.ptr (some (id, b + o)))
 | _ => none
def Se (args : List AA) : Nat → AA → Option AA
 | 0, _ => none
 | n + 1, v =>
  match v with
  | .ptr (some (i, o)) => WU args i o
  | .DF cs => (Sf (Se args n) cs).map .DF
  | .agg cs => (Sf (Se args n) cs).map .agg
  | .func fn a b => match Sf (Se args n) a, Sf (Se args n) b with | some a', some b' => some (.func fn a' b') | _, _ => none
  | v => bif DW v then some v else none
def Vs (args : List AA) : List (AA × AA) → Option (List (AA × AA))
 | [] => some []
 | (k, v) :: es => match Se args 10 v, Vs args es with | some v', some es' => some ((k, v') :: es') | _, _ => none
def U7 : AA → Bool
 | .ptr (some _) => true
 | _ => false
abbrev VY := List (List (AA × AA))
def WR (es : List (AA × AA)) (n : Nat) (h : AB) (args : List AA) : Option (AA × AB) :=
 bif Nat.beq args.length n && args.all U7 then (Vs args es).map fun es' => (.map (some h.size), h.push (.map 2 es')) else none
def Wm (es : List (AA × AA)) (n : Nat) (h : AB) (args : List AA) : Option (AA × AB) :=
 bif Nat.beq args.length n && args.all U7 then (Vs args es).map fun es' => (.map (some h.size), h.push (.map 3 es')) else none
def S6 : AA → AA → Bool
 | .bool a, .bool b => a == b
 | .int k a, .int k' b => decide (k = k') && decide (a = b)
 | .str a, .str b => decide (a = b)
 | _, _ => false
def NP : List AA → List AA → Bool
 | [], [] => true
 | a :: l, b :: r => S6 a b && NP l r
 | _, _ => false
def VP (tab : List (AA × AA)) (h : AB) : List AA → Option (AA × AB)
 | [.agg cs] => (tab.find? fun p => match p.1 with | .agg ds => NP ds cs | _ => false).map fun p => (p.2, h)
 | _ => none
def V8 : AA → AA → Bool
 | .Ev n cs, .Ev n' cs' => Nat.beq n n' && NP cs cs'
 | x, y => S6 x y
def TR : List AA → List AA → Bool
 | [], [] => true
 | x :: xs, y :: ys => V8 x y && TR xs ys
 | _, _ => false
def VI (tab : List (AA × AA)) (h : AB) (args : List AA) : Option (AA × AB) := (tab.find? fun p => match p.1 with | .tuple ks => TR ks args | _ => false).map fun p => (p.2, h)
def UQ (h : AB) : List AA → Option (AA × AB)
 | [.int .i64 n] => if -9223372036854775808 ≤ n ∧ n ≤ 9223372036854775807 then some (.str (Lib.itoa n), h) else none
 | _ => none
def VK (h : AB) : List AA → Option (AA × AB)
 | [.int .u64 u] => if 1 ≤ u ∧ u < 18446744073709551616 then some (.int .i64 (Lib.nDigits u.toNat : Nat), h) else none
 | _ => none
def XT (n u : Nat) : List UInt8 := (List.range n).map fun t => Lib.dg u (n - 1 - t)
def WH (n : Nat) (u : Int) : Bool := decide (n ≠ 0 ∧ n ≤ 24 ∧ 0 ≤ u ∧ u < 18446744073709551616 ∧ u.toNat < 10 ^ n)
def X9 : AA → Bool
 | .int .u8 k => decide (0 ≤ k ∧ k ≤ 255)
 | _ => false
def VV (g : Gd) (h : AB) : List AA → Option (AA × AB)
 | [.slice (some (id, 0)) n, .int .u64 u] =>
  if WH n u = true then
   match h.get id with
   | some (.cells gr 2 cs) => if g.may id = true ∧ n ≤ cs.length ∧ (cs.take n).all X9 = true then some (.tuple [], h.set id (.cells gr 2 ((XT n u.toNat).map (fun b => AA.int .u8 (b.toNat : Int)) ++ cs.drop n))) else none
   | _ => none
  else none
 | _ => none
abbrev Ut := List UInt8 × List UInt8
def U3 : List AA → Option (List Ut)
 | [] => some []
 | .str k :: .str v :: r => (U3 r).map ((k, v) :: ·)
 | _ => none
def T3 (l : List Ut) : List AA := l.flatMap fun p => [.str p.1, .str p.2]
def V4 (x : Ut) : List Ut → List Ut
 | [] => [x]
 | y :: l => if x.1 ≤ y.1 then x :: y :: l else y :: V4 x l
def Wv (l : List Ut) : List Ut := l.foldr V4 []
def Ux : List Ut → Bool
 | [] => true
 | x :: l => l.all (fun y => y.1 != x.1) && Ux l
def R6 (c : FuncId) (g : Gd) (h : AB) : List AA → Option (AA × AB)
 | [.slice r n, .func (.func f) [] []] =>
  if f = c then
   if n = 0 then some (.tuple [], h) else
   match r with
   | some (id, 0) =>
    match h.get id with
    | some (.cells gr 2 cs) =>
     if cs.length = n * 2 ∧ n ≤ 1099511627776 ∧ g.may id = true then
      match U3 cs with
      | some l => if Ux l = true then some (.tuple [], h.set id (.cells gr 2 (T3 (Wv l)))) else none
      | none => none
     else none
    | _ => none
   | _ => none
  else none
 | _ => none
def TE (P : Program) (km : VY) (c : Nat × Nat × Nat) (g : Gd) (h : AB) (args : List AA) : Option (AA × AB) :=
 match c.1 with
 | 1 => VZ h args
 | 2 => Gf c.2.1 c.2.2 h args
 | 3 => U8 h args
 | 4 => Fo P c.2.2 h args
 | 5 => T1 P c.2.2 h args
 | 6 => Rf P c.2.2 h args
 | 7 => RV h args
 | 8 => P9 h args
 | 9 => Ht h args
 | 10 => Jw h args
 | 11 => R6 c.2.1 g h args
 | 12 => UQ h args
 | 13 => VK h args
 | 14 => VV g h args
 | 30 => UR h args
 | 41 => Js h args
 | 31 => Tv h args
 | 32 => WR (km.getD c.2.1 []) c.2.2 h args
 | 33 => Wm (km.getD c.2.1 []) c.2.2 h args
 | 34 => VP (km.getD c.2.1 []) h args
 | 35 => VI (km.getD c.2.1 []) h args
 | _ => none
def HC : List (Nat × Nat × Nat × Nat) → Nat → Option (Nat × Nat × Nat)
 | [], _ => none
 | (f', c) :: l, f => bif Nat.beq f f' then some c else HC l f
theorem Mw : ∀ {l : List (Nat × Nat × Nat × Nat)} {f : Nat} {c : Nat × Nat × Nat}, HC l f = some c → (f, c) ∈ l
 | (f', c') :: l, f, c, h => by
  unfold HC at h
  rw [FU] at h
  split at h
  ·rename_i e; subst e; injection h with h; subst h; simp
  ·exact List.mem_cons_of_mem _ (Mw h)
def MH (P : Program) (km : VY) (l : List (Nat × Nat × Nat × Nat)) (f : Nat) (g : Gd) (h : AB) (args : List AA) : Option (AA × AB) :=
 match HC l f with
 | some c => TE P km c g h args
 | none => none
def NT (ks : List Nat) (l : List (Nat × Nat × Nat × Nat)) : Nat → Bool
 | 0 => true
 | n + 1 => NT ks l n && (!(Nat.beq (Mn ks n) 3) || (HC l n).isSome)
theorem Mc {ks : List Nat} {l : List (Nat × Nat × Nat × Nat)} : ∀ {n : Nat}, NT ks l n = true → ∀ f, f < n → Mn ks f = 3 → (HC l f).isSome = true
 | 0, _, f, hf, _ => by omega
 | n + 1, h, f, hf, h3 => by
  simp only [NT, Bool.and_eq_true] at h
  by_cases e : f = n
  ·subst e
   have := h.2
   rw [h3] at this
   simpa using this
  ·exact Mc h.1 f (by omega) h3
theorem Rh {C : EP} {km : VY} {ks : List Nat} {l : List (Nat × Nat × Nat × Nat)} (hk : C.kind = Mn ks) (hmix : C.P.follows .mixedOrders = true) (hall : Qg C ks.length = true) (hro : C.Rs = Sn C.P C.Ib) (hx : C.ext = MH C.P km l) (h3 : NT ks l ks.length = true)
  (he : ∀ p ∈ l, EI C.P C.CM p.1 (TE C.P km p.2)) : E9 C := by
 refine ⟨hmix, fun f fn c hkf h1 h2 => ?_, fun f a b hr => ?_, fun f hf => ?_⟩
 ·have hne : C.kind f ≠ 0 := by omega
  refine N2 hall ?_ hne (by omega) h1 h2
  rcases Nat.lt_or_ge f ks.length with h | h
  ·exact h
  ·rw [hk, LU h] at hne; exact absurd rfl hne
 ·rw [hro] at hr
  simp only [Sn, Bool.and_eq_true] at hr
  exact ⟨(Kh (C := C) (C' := Tq C.P C.Ib) rfl rfl f a).trans hr.1.1, (Kh (C := C) (C' := Tq C.P C.Ib) rfl rfl f b).trans hr.1.2, hr.2.1, hr.2.2⟩
 ·have hlt : f < ks.length := by
   rcases Nat.lt_or_ge f ks.length with h | h
   ·exact h
   ·rw [hk, LU h] at hf; cases hf
  obtain ⟨c, hl⟩ := Option.isSome_iff_exists.1 (Mc h3 f hlt (by rw [← hk]; exact hf))
  have := he _ (Mw hl)
  have e : (fun (g : Gd) (h : AB) (f' : FuncId) (args : List AA) => if f' = f then C.ext f g h args else none) = fun (g : Gd) h f' args => if f' = f then TE C.P km c g h args else none := by
   funext g h f' args
   rw [hx]
   simp only [MH, hl]
  rw [e]; exact this
section
variable {C : EP} {km : VY} {l : List (Nat × Nat × Nat × Nat)} {g : Gd} {h : AB} {f : Nat} {L F : List Ck}
theorem LR {c : Nat × Nat × Nat} {args : List AA} {v : AA} {h' : AB} (hk : C.kind f = 3) (hx : C.ext = MH C.P km l) (hl : HC l f = some c) (he : TE C.P km c g h args = some (v, h')) : CC C g h f args v h' := by
 refine ⟨1, ?_⟩
 show HK C (Ca C 0) g h f _ = _
 unfold HK
 rw [hk]
 simp only [hx, MH, hl, he]
theorem La : ∀ (xs : List (List UInt8)), Iy (AL eS xs) = some xs
 | [] => rfl
 | x :: xs => by
  show (Iy (AL eS xs)).map (x :: ·) = _
  rw [La xs]; rfl
theorem Sk {x : AA} {xs : List (List UInt8)} {t : List UInt8} (hk : C.kind f = 3) (hx : C.ext = MH C.P km l) (hl : HC l f = some (10, 0, 0)) (hn : GV x = some xs.length) (hf : Cp h 1 xs.length x = some (AL eS xs)) (hb : Lt xs t = true) : CC C g h f [x, .str t] (.str (Lib.join xs t)) h := by
 refine LR hk hx hl ?_
 show Jw h [x, .str t] = _
 unfold Jw
 dsimp only
 rw [hn]
 dsimp only
 cases hq : Nat.beq xs.length 0 with
 | true =>
  have := List.length_eq_zero_iff.1 (Nat.eq_of_beq_eq_true hq)
  subst this
  rw [cond_true]
  dsimp only
  rw [if_pos hb]
 | false =>
  rw [cond_false, hf]
  show (match Iy (AL eS xs) with | some ss => _ | none => _) = _
  rw [La]
  dsimp only
  rw [if_pos hb]
theorem RT {s t : List UInt8} {a : Nat} (hk : C.kind f = 3) (hx : C.ext = MH C.P km l) (hl : HC l f = some (9, a, 0)) (hb : decide (s.length ≤ 4294967280) = true) : CC C g h f [.str s, .str t] (.int .i64 (Lib.index s t)) h := by
 refine LR hk hx hl ?_
 show Ht h [.str s, .str t] = _
 unfold Ht
 dsimp only
 rw [if_pos (of_decide_eq_true hb)]
def Ua (P : Program) (t : TypeId) (z b : Nat) : Bool :=
 match P.info? t with
 | some i => decide (i.size = z ∧ i.bytes = b ∧ i.zero.map (·.cells.size) = some i.size)
 | none => false
theorem HH.clone {α : Type} {e : α → List AA} {z bytes t a : Nat} {x : AA} {new : List AA} {xs : List α} (E : J0 e z) (hz : z ≠ 0) (A : HH g h L F) (hk : C.kind f = 3) (hx : C.ext = MH C.P km l) (hl : HC l f = some (4, a, t)) (hi : Ua C.P t z bytes = true)
  (hn : GV x = some xs.length) (hf : Cp h z xs.length x = some new) (hc : new.map Dl = AL e xs) (hb : QY bytes xs.length = true) :
  ∃ r h', CC C g h f [x] (AJ r xs.length) h' ∧ HH g h' (.AL r t (AL e xs) :: L) F := by
 unfold Ua at hi
 split at hi
 ·rename_i i hinf
  obtain ⟨h1, h2, h3⟩ := of_decide_eq_true hi
  subst h1; subst h2
  cases xs with
  | nil =>
   refine ⟨none, h, LR hk hx hl ?_, A.PX t⟩
   show Fo C.P t h [x] = _
   unfold Fo
   simp only [hn, List.length_nil, hinf]
   rfl
  | cons y ys =>
   refine ⟨some h.size, _, LR hk hx hl (h' := h.push (.cells (some t) 2 (AL e (y :: ys)))) ?_, A.S3 t _⟩
   show Fo C.P t h [x] = _
   unfold Fo
   simp only [hn, List.length_cons, hinf]
   rw [show ys.length + 1 = (y :: ys).length from rfl, hf]
   simp only [Option.map_some, hc]
   have ho := of_decide_eq_true hb
   rw [if_pos ⟨E.VU _, by simp only [Ld, decide_eq_true_eq]; exact ⟨hz, ho.1, ho.2, h3⟩⟩]
   rfl
 ·cases hi
theorem JU {V : Type} (ev : V → AA) : ∀ m : List (List UInt8 × V), E6 (Ei (fun k => AA.str k) ev m) = some (m.map Prod.fst)
 | [] => rfl
 | (k, v) :: m => by
  show (E6 (Ei (fun k => AA.str k) ev m)).map (k :: ·) = _
  rw [JU ev m]; rfl
theorem JJ : ∀ l : List (List UInt8), AL eS l = l.map .str
 | [] => rfl
 | x :: l => by
  have := JJ l
  simp only [AL, List.flatMap_cons, List.map_cons] at *
  rw [this]; rfl
end
end Go.Av
