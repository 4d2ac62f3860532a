/-
 A part.
-/
import Derived.Test.YtlljeoogceblmaaGreatDoorAvMap
import Derived.Shelf.SlicesE.Clone
import Derived.Shelf.Spec.SlicesGrow
import Derived.Shelf.SlIter.Nil
import Derived.Shelf.SortM.Plain
import Derived.Shelf.SortM.SortNone
import Derived.Lib.Bytealg
import Derived.Lib.ItoaNum
import Derived.Lib.Itoa
import Derived.Shelf.Strings.Repeat
import Derived.Shelf.Strings.OnBuilder
import Derived.Shelf.Strings.Cut
import Derived.Shelf.Strings.Search3
namespace Go.Av
open Go.RowKit Go.Shelf Go.Proofs Go.Lib Go.Maps Go.MapKept Go.ChangeMaps Go.WideShapes
set_option linter.unusedVariables false
section
variable {P : Program} {w0 : World} {m : Aq} {h : AD} {w : World}
theorem Dz {f : FuncId} {args : Array Value} {Q : Value → World → Prop} (he : ∀ args w, (callFunc f args).run P w = .ok (.enter f args) w) (hc : Calls P f args w fun e w' => ∃ v, e = .returned v ∧ Q v w') : Bk P f args w Q := by
 unfold Bk
 rw [he args w]
 exact hc
theorem Oz {w w' : World} (hb : Below w.heap.size w w') (g : Nat) : DM w w' g := ⟨hb.os, hb.tape, hb.output, hb.size, fun k hk _ => hb.block k hk⟩
theorem Rel.newAt (r : Rel P w0 m h w) {w' : World} {E : Jl} {o : BY} (ht : DM w w' E.g) (hg : w.heap.size ≤ E.g)
  (hobj : I3 P (m.upd h.size E) w' E o) : Rel P w0 (m.upd h.size E) (h.push o) w' := by
 refine (r.ghost o).place ht (Nat.le_trans r.size hg) (fun id2 E2 o2 h2 ho2 hl2 => ?_) (r.R9 (by omega)) (fun x hd => by have := r.Jd hd; omega) (r.fresh (Nat.le_refl _)) (h.Bh o) hobj
 have := ((r.ghost o).obj id2 E2 o2 h2 ho2).lt hl2
 omega
theorem Rel.row (r : Rel P w0 m h w) {w' : World} (hb : Below w.heap.size w w') {e : TypeId} {z n : Nat} {v : Value} {ds : List Value} {cs : List AA} (ho : w'.ownsRow w.heap.size e z v n ds) (hn : v ≠ .slice none 0 0) (hz : Hf P (some e) = z)
  (hv : Ba m cs ds) (h1 : cs.all AA.one = true) : ∃ m' : Aq, m.ext h.size m' ∧ Rel P w0 m' (h.push (.cells (some e) 2 cs)) w' ∧ VR m' (.slice (some (h.size, 0)) n) v := by
 obtain ⟨hl, ⟨h0, _⟩ | ⟨g, cap, cur, rfl, hg, hc, hnc, _, hsz, htk⟩⟩ := ho
 ·exact absurd h0 hn
 ·have hle := Aq.Iv (m := m) (id := h.size) ⟨g, 0, z, cap * z⟩ (r.fresh (Nat.le_refl _))
  refine ⟨m.upd h.size ⟨g, 0, z, cap * z⟩, Aq.I7 m _ (Nat.le_refl _), r.newAt (Oz hb _) hg ?_, ?_⟩
  ·refine Ic (e := e) (fz := (0, 0)) hc rfl hz.symm hsz.symm ?_ h1 (.inl rfl)
   rw [hv.1, hl, htk]
   exact hv.mono hle
  ·exact .slice _ _ _ _ ⟨g, 0, z, cap * z⟩ _ (Aq.DZ _ _ _) hnc (fun _ => ⟨by simp, fun _ => by simp⟩)
def Nw : AA → Option Nat
 | .slice _ n => some n
 | .Gg n _ => some n
 | _ => none
theorem XC {x : AA} {x' : Value} (hx : VR m x x') (hl : Nw x = some 0) : ∃ a c, x' = .slice a 0 c := by
 cases hx <;> simp [Nw] at hl
 case Cw => exact ⟨_, _, rfl⟩
 case Dx => exact ⟨_, _, rfl⟩
 case slice => subst hl; exact ⟨_, _, rfl⟩
 case IP => exact ⟨_, _, rfl⟩
 case Gg => subst hl; exact ⟨_, _, rfl⟩
def S9 (i : TypeInfo) (n : Nat) : Bool := decide (i.size ≠ 0 ∧ n ≤ 1099511627776 ∧ n * i.bytes ≤ 1099511627776 ∧ i.zero.map (·.cells.size) = some i.size)
def WS (P : Program) (e : TypeId) (h : AD) : List AA → Option (AA × AD)
 | [x] =>
  match Nw x with
  | some 0 =>
   match P.info? e with
   | some _ => some (.slice none 0, h)
   | none => none
  | some n =>
   match P.info? e with
   | some i =>
    match (DC h i.size n x).map (·.map EV) with
    | some cs => if cs.all AA.one = true ∧ S9 i n = true then some (.slice (some (h.size, 0)) n, h.push (.cells (some e) 2 cs)) else none
    | none => none
   | none => none
  | none => none
 | _ => none
theorem RL {m : Aq} {x : AA} {cargs : Array Value} (hv : Ba m [x] cargs.toList) : ∃ a, cargs = #[a] ∧ VR m x a := by
 have := hv.1
 match cargs, this with
 | ⟨[a]⟩, _ => exact ⟨a, rfl, hv.2 0 _ _ rfl rfl⟩
theorem LA {m : Aq} {x y : AA} {cargs : Array Value} (hv : Ba m [x, y] cargs.toList) : ∃ a b, cargs = #[a, b] ∧ VR m x a ∧ VR m y b := by
 have := hv.1
 match cargs, this with
 | ⟨[a, b]⟩, _ => exact ⟨a, b, rfl, hv.2 0 _ _ rfl rfl, hv.2 1 _ _ rfl rfl⟩
def Er (P : Program) (G : Nat → Option (List AA)) (f : FuncId) (ext : Gd → AD → List AA → Option (AA × AD)) : Prop := QF P G fun g h f' args => if f' = f then ext g h args else none
theorem Er.of {G : Nat → Option (List AA)} {f : FuncId} {ext : Gd → AD → List AA → Option (AA × AD)}
  (hx : ∀ g h args v h', ext g h args = some (v, h') → Ap g h h' ∧ ∀ w0 m w (cargs : Array Value), Rel P w0 m h w → Ba m args cargs.toList → Bk P f cargs w fun v' w' => ∃ m' : Aq, (m.ext h.size m') ∧ Rel P w0 m' h' w' ∧ VR m' v v') : Er P G f ext := by
 intro g h f' args v h' hc
 dsimp only at hc
 split at hc
 ·rename_i e; subst e
  obtain ⟨k, q⟩ := hx g h args v h' hc
  exact ⟨k, fun w0 m w cargs _ r hv => q w0 m w cargs r hv⟩
 ·cases hc
theorem Er.bZ {G : Nat → Option (List AA)} {f : FuncId} {ext : Gd → AD → List AA → Option (AA × AD)}
  (hx : ∀ g h args v h', ext g h args = some (v, h') → Ap g h h' ∧ ∀ w0 m w (cargs : Array Value), BE G w → Rel P w0 m h w → Ba m args cargs.toList → Bk P f cargs w fun v' w' => ∃ m' : Aq, (m.ext h.size m') ∧ Rel P w0 m' h' w' ∧ VR m' v v') : Er P G f ext := by
 intro g h f' args v h' hc
 dsimp only at hc
 split at hc
 ·rename_i e; subst e
  obtain ⟨k, q⟩ := hx g h args v h' hc
  exact ⟨k, fun w0 m w cargs hz r hv => q w0 m w cargs (hz.later r.below) r hv⟩
 ·cases hc
def UI (P : Program) (e : TypeId) (h : AD) : List AA → Option (AA × AD)
 | [x] =>
  match Nw x with
  | some 0 =>
   match P.info? e with
   | some _ => some (.Gg 0 [], h)
   | none => none
  | some n =>
   match P.info? e with
   | some i =>
    match (DC h i.size n x).map (·.map EV) with
    | some cs => if cs.all AA.one = true ∧ S9 i n = true then some (.Gg n cs, h) else none
    | none => none
   | none => none
  | none => none
 | _ => none
def XY (P : Program) (e : TypeId) (h : AD) : List AA → Option (AA × AD)
 | [.slice none 0, .int .i64 n] =>
  if n = 0 then some (.slice none 0, h) else
  match P.info? e with
  | some i => if 0 < n ∧ S9 i n.toNat = true then some (.slice (some (h.size, 0)) 0, h.push (.cells (some e) 2 [])) else none
  | none => none
 | _ => none
def Y0 (h : AD) : List AA → Option (AA × AD)
 | [.str a, .str b] => some (.int .i64 (compareBytes a b), h)
 | _ => none
def Vo (P : Program) (f : FuncId) : Bool :=
 match P.funcs[f]? with
 | some fn => !(fn.name == "runtime.NumGoroutine") && fn.body.isNone
 | none => false
theorem XU {f : FuncId} (hx : Vo P f = true) {F : Array Value → Sem Value} (hn : ∀ fn, P.funcs[f]? = some fn → Extern.findNext fn = none ∧ Extern.find fn = some F) {cargs : Array Value} {v : Value} {w' : World} (h1 : (F cargs).run P w = .ok v w') {Q : Value → World → Prop} (hq : Q v w') : Bk P f cargs w Q := by
 unfold Vo at hx
 split at hx
 ·rename_i fn hfn
  simp only [Bool.and_eq_true, Bool.not_eq_true', Option.isNone_iff_eq_none] at hx
  obtain ⟨e1, e2⟩ := hn fn hfn
  have hrun : (callFunc f cargs).run P w = .ok (.value v) w' := by
   unfold callFunc
   simp only [Sem.run_bind, program, Sem.run, Result.andThen_ok, hfn]
   rw [if_neg (by rw [hx.1]; decide), if_pos (by rw [hx.2]; rfl)]
   simp only [e1, e2, Sem.run_bind]
   rw [show Sem.run P (Go.mark (Mark.extern f)) w = .ok () w from rfl]
   simp only [Result.andThen_ok, h1, Sem.run_pure]
  unfold Bk
  rw [hrun]
  exact hq
 ·cases hx
theorem Se {f : FuncId} (G : Nat → Option (List AA)) (hx : Vo P f = true) (hn : ∀ fn, P.funcs[f]? = some fn → Extern.findNext fn = none ∧ Extern.find fn = some Extern.BytealgIndexByte.indexByte) : Er P G f fun g h args => VS h args := by
 refine Er.of fun g h args v h' hc => ?_
 unfold VS at hc
 split at hc
 ·rename_i s c
  split at hc
  ·rename_i hr
   simp only [Option.some.injEq, Prod.mk.injEq] at hc
   obtain ⟨rfl, rfl⟩ := hc
   refine ⟨Ap.refl _ _, fun w0 m w cargs r hv => ?_⟩
   obtain ⟨a, b, rfl, ha, hb⟩ := LA hv
   obtain rfl := ha.Cv
   obtain rfl := hb.B8
   refine XU hx hn (v := .int .i64 (idxOf s (UInt8.ofNat c.toNat))) (w' := w) ?_ ⟨m, Aq.ext.refl _ _, r, .int _ _⟩
   show Sem.run P (do
    let b ← Extern.Bytes.bytesOf (.string ⟨⟨s⟩⟩)
    let c ← Extern.Bytes.asByte (.int .u8 c)
    match (List.range b.size).find? fun i => b[i]! == c with
    | some i => pure (goInt i)
    | none => pure (goInt (-1))) w = _
   simp only [Extern.Bytes.bytesOf, Extern.Bytes.asByte, Sem.run_bind, Sem.run_pure, Result.andThen_ok]
   rw [idx_eq s c.toNat.toUInt8]
   unfold idxOf
   rw [show UInt8.ofNat c.toNat = c.toNat.toUInt8 from rfl]
   cases (List.range s.length).find? fun i => s[i]? == some c.toNat.toUInt8 <;> rfl
  ·cases hc
 ·cases hc
def GX : List (AA × AA) → Option (List (List UInt8))
 | [] => some []
 | (.str s, _) :: r => (GX r).map (s :: ·)
 | _ => none
def Sz (x : List UInt8) : List (List UInt8) → List (List UInt8)
 | [] => [x]
 | y :: l => bif Op.bytesLess y x then y :: Sz x l else x :: y :: l
def Dv (l : List (List UInt8)) : List (List UInt8) := l.foldr Sz []
theorem L8 (x : List UInt8) : ∀ l, (Sz x l).Perm (x :: l)
 | [] => .refl _
 | y :: l => by
  unfold Sz
  cases Op.bytesLess y x
  ·exact .refl _
  ·exact ((L8 x l).cons y).trans (.swap x y l)
theorem Iz : ∀ l, (Dv l).Perm l
 | [] => .refl _
 | x :: l => (L8 x (Dv l)).trans ((Iz l).cons x)
theorem Mf (x : List UInt8) : ∀ {l}, l.Pairwise (fun a b : List UInt8 => a ≤ b) → (Sz x l).Pairwise fun a b : List UInt8 => a ≤ b
 | [], _ => by simp [Sz]
 | y :: l, h => by
  unfold Sz
  rw [bytesLess_eq]
  by_cases hlt : y < x
  ·rw [decide_eq_true hlt]
   refine List.pairwise_cons.2 ⟨fun z hz => ?_, Mf x (List.pairwise_cons.1 h).2⟩
   rcases List.mem_cons.1 ((L8 x l).mem_iff.1 hz) with rfl | hz
   ·exact List.le_of_lt hlt
   ·exact (List.pairwise_cons.1 h).1 z hz
  ·rw [decide_eq_false hlt]
   have hxy : x ≤ y := List.not_lt.1 hlt
   refine List.pairwise_cons.2 ⟨fun z hz => ?_, h⟩
   rcases List.mem_cons.1 hz with rfl | hz
   ·exact hxy
   ·exact List.le_trans hxy ((List.pairwise_cons.1 h).1 z hz)
theorem Iq : ∀ l, (Dv l).Pairwise fun a b : List UInt8 => a ≤ b
 | [] => .nil
 | x :: l => Mf x (Iq l)
theorem VB (l : List (List UInt8)) : l.mergeSort (fun x y => decide (x ≤ y)) = Dv l := by
 have tr : ∀ a b c : List UInt8, leB a b = true → leB b c = true → leB a c = true := fun a b c h1 h2 => by simp only [leB, decide_eq_true_eq] at *; exact List.le_trans h1 h2
 have tot : ∀ a b : List UInt8, (leB a b || leB b a) = true := fun a b => by simp only [leB, Bool.or_eq_true, decide_eq_true_eq]; exact List.le_total a b
 refine List.Perm.eq_of_pairwise (le := fun a b : List UInt8 => a ≤ b) (fun a b _ _ h1 h2 => List.le_antisymm h1 h2) ?_ (Iq l) ((List.mergeSort_perm l leB).trans (Iz l).symm)
 exact (List.pairwise_mergeSort tr tot l).imp fun h => by simpa using h
def MN (ks : List (List UInt8)) : Bool := decide (ks.length ≤ 1099511627776) && ks.all fun s => decide (s.length ≤ 1099511627776)
def NI (e : TypeId) (h : AD) (ks : List (List UInt8)) : AA × AD :=
 match ks with
 | [] => (.slice none 0, h)
 | _ => (.slice (some (h.size, 0)) ks.length, h.push (.cells (some e) 2 ((Dv ks).map .str)))
def NB (h : AD) (b : Nat) : Option AA :=
 match h.get b with
 | some (.cells none 2 [v]) => some v
 | _ => none
def II (it : FuncId) (e : TypeId) (h : AD) : List AA → Option (AA × AD)
 | [.func (.func f) [] [.ptr (some (b, 0))]] =>
  if f = it then
   match NB h b with
   | some (.map none) => some (.slice none 0, h)
   | some (.map (some mid)) =>
    match h.get mid with
    | some (.map st es) =>
     if st = 2 then
      match GX es with
      | some ks => if MN ks = true then some (NI e h ks) else none
      | none => none
     else none
    | _ => none
   | _ => none
  else none
 | _ => none
theorem P1 {es : List (AA × AA)} {en : Array MapEntry} (hl : es.length = en.size) (hv : ∀ (i : Nat) (k v : AA) (e : MapEntry), es[i]? = some (k, v) → en[i]? = some e → VR m k e.key ∧ VR m v e.val) {ks : List (List UInt8)} (hk : GX es = some ks) :
  en.toList.map (·.key) = ks.map encStr := by
 have key : ∀ (es : List (AA × AA)) (l : List MapEntry) (ks : List (List UInt8)), es.length = l.length → (∀ (i : Nat) (k v : AA) (e : MapEntry), es[i]? = some (k, v) → l[i]? = some e → VR m k e.key) → GX es = some ks → l.map (·.key) = ks.map encStr := by
  intro es
  induction es with
  | nil =>
   intro l ks hl _ hk
   have : l = [] := List.length_eq_zero_iff.1 hl.symm
   subst this
   simp [GX] at hk
   subst hk; rfl
  | cons p es ih =>
   intro l ks hl hv hk
   obtain ⟨k, v⟩ := p
   cases l with
   | nil => simp at hl
   | cons x l =>
    unfold GX at hk
    split at hk
    ·cases ‹_ :: _ = []›
    ·rename_i s v' r heq
     injection heq with h1 h2
     injection h1 with h1 h3
     subst h1; subst h2
     simp only [Option.map_eq_some_iff] at hk
     obtain ⟨ks', hk', rfl⟩ := hk
     have hx := (hv 0 _ _ x rfl rfl).Cv
     rw [List.map_cons, List.map_cons, ih l ks' (by simpa using hl) (fun i k v e h1 h2 => hv (i + 1) k v e (by simpa using h1) (by simpa using h2)) hk', hx]
    ·cases hk
 exact key es en.toList ks (by simpa using hl) (fun i k v e h1 h2 => (hv i k v e h1 (by simpa using h2)).1) hk
theorem Ql {l : List (List UInt8)} (h : l.Nodup) : (l.map encStr).Nodup := by
 rw [List.Nodup, List.pairwise_map]
 exact h.imp fun hne e => hne (encStr_inj e)
theorem HP.stamped {en : Array MapEntry} {clock : Nat} (h : HP en clock) {ks : List (List UInt8)} (hk : en.toList.map (·.key) = ks.map encStr) : MapKept.Stamped en clock := by
 refine ⟨h.1, h.2.1, ?_⟩
 have e : en.toList.filterMap Jt = ks.map fun s => (⟨⟨s⟩⟩ : ByteArray) := by
  have key : ∀ (l : List MapEntry) (ks : List (List UInt8)), l.map (·.key) = ks.map encStr → l.filterMap Jt = ks.map fun s => (⟨⟨s⟩⟩ : ByteArray) := by
   intro l
   induction l with
   | nil => intro ks h; cases ks with | nil => rfl | cons => simp at h
   | cons x l ih =>
    intro ks h
    cases ks with
    | nil => simp at h
    | cons s ks =>
     simp only [List.map_cons, List.cons.injEq] at h
     have hx : Jt x = some ⟨⟨s⟩⟩ := by unfold Jt; rw [h.1]
     rw [List.filterMap_cons, hx, ih ks h.2, List.map_cons]
  exact key _ _ hk
 have h3 := h.2.2
 rw [e] at h3
 rw [hk]
 refine Ql ?_
 rw [List.Nodup, List.pairwise_map] at h3
 exact h3.imp fun hne e => hne (by rw [e])
theorem UG {ρ σ τ : Ren} (L : SlLaysZ.n6 P ρ) (K : SlLaysZ.n7 P σ) (T : SlLaysM.n6 P τ) (hf9 : τ.f 6 = ρ.f 9) (ht : σ.t 26 = ρ.t 26) (hk : P.underlying (ρ.t 26) = some .string) (G : Nat → Option (List AA)) :
  Er P G (ρ.f 6) fun g h args => II (σ.f 10) (ρ.t 26) h args := by
 refine Er.of fun g h args v h' hc => ?_
 have en := L.f6.enters rfl
 have e9 : ∀ args w, (callFunc (ρ.f 9) args).run P w = .ok (.enter (ρ.f 9) args) w := by rw [← hf9]; exact T.f6.enters rfl
 have sorts : ∀ k, AnyZ.SortsIn P ρ Fence.wide k := fun k =>
  ⟨fun blk off cap ss W hH hblk hsz => callsIn_wide.2 (by rw [← hf9]; exact AnyM.slices_Sort_string T blk off cap ss W hH hblk hsz), fun p cap W => callsIn_wide.2 (by rw [← hf9]; exact AnyM.slices_Sort_string_none T p cap W)⟩
 have hsz : Bq P (ρ.t 26) = some 1 := by
  have := L.z26 default
  unfold Go.sizeOf typeInfo at this
  unfold Bq
  cases hi : P.info? (ρ.t 26) with
  | none => simp [hi] at this
  | some i => simp [hi] at this; simp [this]
 unfold II at hc
 split at hc
 ·rename_i f b
  split at hc
  ·rename_i hf
   subst hf
   have box : ∀ {x : AA}, NB h b = some x → ∀ {w0 : World} {m : Aq} {w : World} {cargs : Array Value}, Rel P w0 m h w → Ba m [.func (.func (σ.f 10)) [] [.ptr (some (b, 0))]] cargs.toList →
     ∃ Bm y, cargs = #[.func (.func (σ.f 10)) #[] #[.pointer (some ⟨Bm, 0, none⟩)]] ∧ Bm < w.heap.size ∧ w.cell? ⟨Bm, 0, none⟩ = some y ∧ VR m x y := by
    intro x hx w0 m w cargs r hv
    obtain ⟨a, rfl, ha⟩ := RL hv
    cases ha with
    | func _ _ _ c d h1 k1 h2 k2 =>
     have hc0 : c = #[] := Array.eq_empty_of_size_eq_zero h1.symm
     subst hc0
     match d, h2, k2 with
     | ⟨[y]⟩, _, k2 =>
      have hy := k2 0 _ y rfl rfl
      cases hy with
      | ptr _ _ E hE =>
       unfold NB at hx
       split at hx
       ·rename_i v hg
        injection hx with hx
        subst hx
        obtain ⟨⟨_, hbase⟩, hobj⟩ := r.obj b E _ hE hg
        obtain ⟨cur, e, fz, q1, q2, q3, _⟩ := hobj (by decide)
        obtain ⟨_, c, q4, q5⟩ := q3 0 v rfl
        have hb0 := hbase rfl rfl
        rw [hb0] at q4 ⊢
        exact ⟨E.g, c, rfl, (Array.getElem?_eq_some_iff.1 q1).1, by simpa [World.cell?, q1] using q4, q5⟩
       ·cases hx
   have fin : ∀ {w0 : World} {m : Aq} {w : World} {Bm : Nat} {S : List (List UInt8) → Prop} {N : Nat} {Q : Value → World → Prop}, N ≤ 1099511627776 → SeqGives Fence.wide 2 P (σ.f 10) #[.pointer (some ⟨Bm, 0, none⟩)] encStr S N w →
     (∀ v ss w', S ss → w'.ownsRow w.heap.size (ρ.t 26) 1 v ss.length ((ss.mergeSort (fun x y => decide (x ≤ y))).map encStr) → (v = .slice none 0 0 ↔ ss = []) → Below w.heap.size w w' → Q v w') →
     Bk P (ρ.f 6) #[.func (.func (σ.f 10)) #[] #[.pointer (some ⟨Bm, 0, none⟩)]] w Q := by
    intro w0 m w Bm S N Q hN hseq hQ
    refine Dz en ((callsIn_wide (n := 5)).1 ?_)
    refine (AnyZ.sorted_in L Fence.wide 5 trivial trivial trivial trivial rfl (by omega) (sorts _) e9 (σ.f 10) _ trivial (K.f10.enters rfl) S N (by unfold maxLen; omega) (by omega) w hseq).mono ?_
    rintro e w' ⟨v, ss, rfl, hS, hrow, hnil, hb⟩
    exact ⟨_, rfl, hQ v ss w' hS hrow hnil hb⟩
   split at hc
   ·rename_i hbx
    simp only [Option.some.injEq, Prod.mk.injEq] at hc
    obtain ⟨rfl, rfl⟩ := hc
    refine ⟨Ap.refl _ _, fun w0 m w cargs r hv => ?_⟩
    obtain ⟨Bm, y, rfl, hlt, hcell, hy⟩ := box hbx r hv
    cases hy
    refine fin (w0 := w0) (m := m) (Nat.zero_le _) (AnyZ.keys_gives_nil (ρ := σ) { K with } Fence.wide 2 trivial rfl Bm w hlt hcell) fun v ss w' hS hrow hnil hb => ?_
    obtain rfl := hnil.2 hS
    exact ⟨m, Aq.ext.refl _ _, r.later hb, .Cw⟩
   ·rename_i mid hbx
    split at hc
    ·rename_i st es hg
     split at hc
     ·rename_i hst
      split at hc
      ·rename_i ks hks
       split at hc
       ·rename_i hok
        injection hc with hc
        simp only [MN, Bool.and_eq_true, decide_eq_true_eq, List.all_eq_true] at hok
        obtain ⟨ok1, ok2⟩ := hok
        refine ⟨?_, fun w0 m w cargs r hv => ?_⟩
        ·unfold NI at hc
         split at hc
         ·injection hc with e1 e2; subst e2; exact Ap.refl _ _
         ·injection hc with e1 e2; subst e2; exact Ap.push _ _ _
        ·obtain ⟨Bm, y, rfl, hlt, hcell, hy⟩ := box hbx r hv
         cases hy with
         | map _ E hE =>
          obtain ⟨_, hobj⟩ := r.obj mid E _ hE hg
          obtain ⟨ents, clock, c1, c2, c3, c4⟩ := Jy.two (hobj (by rw [hst]; decide)) (by rw [hst]; decide)
          have hkeys := P1 c2 c3 hks
          have hlen : ents.size = ks.length := by have := congrArg List.length hkeys; simpa using this
          let R : Value → Option (DataW Unit × List MemPlace) := fun _ => some (.nil, [])
          have hrd : ∀ (l : List MapEntry) (ks : List (List UInt8)), l.map (·.key) = ks.map encStr → (∀ s ∈ ks, s.length ≤ 1099511627776) → l.map (Go.WideElems.rd P (σ.t 26) R) = ks.map fun s => some (.string s, .nil) := by
           intro l
           induction l with
           | nil => intro ks h _; cases ks with | nil => rfl | cons => simp at h
           | cons x l ih =>
            intro ks h hs
            cases ks with
            | nil => simp at h
            | cons s ks =>
             simp only [List.map_cons, List.cons.injEq] at h ⊢
             refine ⟨?_, ih ks h.2 fun t ht => hs t (by simp [ht])⟩
             have hs1 := hs s (by simp)
             have hk1 : keyOf P (σ.t 26) (encStr s) = some (.string s) := by
              have : s.length ≤ maxLen := by unfold maxLen; omega
              simp [keyOf, mapKey, ht, hk, encStr, ByteArray.size, this]
             unfold Go.WideElems.rd
             rw [h.1, hk1]
             rfl
          have hrd' := hrd _ _ hkeys ok2
          have hrg : ents.toList.map (Go.WideElems.rg P (σ.t 26) R) = ks.map fun s => (.string s, .nil) := by
           have := congrArg (List.map fun o : Option (Lit × DataW Unit) => o.getD (.bool false, .nil)) hrd'
           rw [List.map_map, List.map_map] at this
           exact this
          have hown : w.ownsMap P (σ.t 26) R E.g ents.size (.map ((ents.toList.map (Go.WideElems.rg P (σ.t 26) R)).foldr DataW.insert [])) := by
           refine ⟨ents, clock, c1, ⟨by rw [hlen]; unfold maxLen; omega, c4.stamped hkeys, fun x hx => ?_⟩, Nat.le_refl _, rfl⟩
           have hm := List.mem_map_of_mem (f := Go.WideElems.rd P (σ.t 26) R) hx
           rw [hrd'] at hm
           obtain ⟨s, _, hs⟩ := List.mem_map.1 hm
           exact ⟨_, hs.symm⟩
          rw [hrg] at hown
          have hperm : (strKeys (H := Unit) (.map ((ks.map fun s => (Lit.string s, (DataW.nil : DataW Unit))).foldr DataW.insert []))).Perm ks := by
           have := (sorted_perm (ks.map fun s => (Lit.string s, (DataW.nil : DataW Unit)))).map fun p => strOf p.1
           refine (show List.Perm _ _ from this).trans ?_
           simp [List.map_map, Function.comp_def, strOf]
          have hsize : Maps.size (H := Unit) (.map ((ks.map fun s => (Lit.string s, (DataW.nil : DataW Unit))).foldr DataW.insert [])) = ks.length := by
           rw [Maps.size_eq, (sorted_perm _).length_eq, List.length_map]
          refine fin (w0 := w0) (m := m) (by rw [hsize]; exact ok1) (AnyZ.keys_gives (ρ := σ) { K with } Fence.wide 2 trivial rfl (by omega) Bm E.g ents.size _ w hlt hcell hown) fun v ss w' hS hrow hnil hb => ?_
          have hp := hS.trans hperm
          unfold NI at hc
          split at hc
          ·injection hc with e1 e2
           subst e1; subst e2
           obtain rfl := hnil.2 hp.eq_nil
           exact ⟨m, Aq.ext.refl _ _, r.later hb, .Cw⟩
          ·rename_i hne
           injection hc with e1 e2
           subst e1; subst e2
           have hss : ss ≠ [] := fun e => hne (by subst e; exact hp.symm.eq_nil)
           rw [show (ss.mergeSort fun x y => decide (x ≤ y)) = Dv ks from (mergeSort_of_perm hp).trans (VB ks), hp.length_eq] at hrow
           exact r.row hb hrow (fun e => hss (hnil.1 e)) (by simp [Hf, HX hsz]) (Ba.map _ _ _ fun x _ => VR.str ⟨⟨x⟩⟩) (by simp [AA.one])
       ·cases hc
      ·cases hc
     ·cases hc
    ·cases hc
   ·cases hc
  ·cases hc
 ·cases hc
def Zt (s : List UInt8) (n : Int) : Bool := decide (0 ≤ n ∧ n ≤ 1099511627776 ∧ s.length * n.toNat ≤ 1099511627776)
def UM (h : AD) : List AA → Option (AA × AD)
 | [.str s, .int .i64 n] => if Zt s n = true then some (.str (Lib.repeatL s n.toNat), h) else none
 | _ => none
def Vz : List AA → Option (List (List UInt8))
 | [] => some []
 | .str s :: r => (Vz r).map (s :: ·)
 | _ => none
def YO (ss : List (List UInt8)) (t : List UInt8) : Bool := decide (ss.length ≤ 1099511627776 ∧ (Lib.join ss t).length ≤ 1099511627776)
def XW (h : AD) : List AA → Option (AA × AD)
 | [x, .str t] =>
  match Nw x with
  | some n =>
   match (bif Nat.beq n 0 then some [] else (DC h 1 n x).bind Vz) with
   | some ss => if YO ss t = true then some (.str (Lib.join ss t), h) else none
   | none => none
  | none => none
 | _ => none
def OA (h : AD) : List AA → Option (AA × AD)
 | [.str s, .str t] => if s.length ≤ 4294967280 then some (.tuple [.str (Lib.cut s t).1, .str (Lib.cut s t).2.1, .bool (Lib.cut s t).2.2], h) else none
 | _ => none
def VJ (h : AD) : List AA → Option (AA × AD)
 | [.str s, .str t] => if s.length ≤ 4294967280 then some (.int .i64 (Lib.index s t), h) else none
 | _ => none
theorem Qu {B : Nat} {a w : World} (h : Below B a w) (n : Nat) : Below B a (w.drewN n) := h.trans ⟨rfl, rfl, rfl, Nat.le_refl _, fun _ _ => rfl⟩
theorem YD {ρ : Ren} (L : Lays.n145 P ρ) {G : Nat → Option (List AA)} (hg : G (ρ.g 1) = some []) : Er P G (ρ.f 145) fun g h args => OA h args := by
 refine Er.bZ fun g h args v h' hc => ?_
 have en : ∀ args w, (callFunc (ρ.f 145) args).run P w = .ok (.enter (ρ.f 145) args) w := enters_of L.f145 (by kernel_rfl) rfl
 unfold OA at hc
 split at hc
 ·rename_i s t
  split at hc
  ·rename_i hb
   simp only [Option.some.injEq, Prod.mk.injEq] at hc
   obtain ⟨rfl, rfl⟩ := hc
   refine ⟨Ap.refl _ _, fun w0 m w cargs hz r hv => ?_⟩
   obtain ⟨a, b, rfl, ha, hb'⟩ := LA hv
   obtain rfl := ha.Cv
   obtain rfl := hb'.Cv
   obtain ⟨n, hn⟩ := hz.2 _ hg
   refine Dz en ((Any.strings_Cut L ⟨⟨s⟩⟩ ⟨⟨t⟩⟩ n w (by show s.length < _; omega) hn).mono ?_)
   rintro e w' ⟨rfl, q, rfl⟩
   refine ⟨_, rfl, m, Aq.ext.refl _ _, r.later (Qu (Below.refl _ _) _), VR.tuple _ _ rfl fun i x y hx hy => ?_⟩
   match i, hx, hy with
   | 0, hx, hy => cases hx; cases hy; exact VR.str ⟨⟨_⟩⟩
   | 1, hx, hy => cases hx; cases hy; exact VR.str ⟨⟨_⟩⟩
   | 2, hx, hy => cases hx; cases hy; exact VR.bool _
   | i + 3, hx, hy => simp at hx
  ·cases hc
 ·cases hc
end
def W1 (h : AD) : List AA → Option (AA × AD)
 | [] => some (.bool true, h)
 | _ => none
def Wv (h : AD) : List AA → Option (AA × AD)
 | [] => some (.undef, h)
 | _ => none
def WQ (f : AA → Option AA) : List AA → Option (List AA)
 | [] => some []
 | v :: vs => match f v, WQ f vs with | some v', some vs' => some (v' :: vs') | _, _ => none
def Z4 (args : List AA) (i o : Nat) : Option AA :=
 match args[i]? with
 | some (.ptr (some (id, b))) => some (.ptr (some (id, b + o)))
 | _ => none
def VY (args : List AA) : Nat → AA → Option AA
 | 0, _ => none
 | n + 1, v =>
  match v with
  | .ptr (some (i, o)) => Z4 args i o
  | .AR cs => (WQ (VY args n) cs).map .AR
  | .agg cs => (WQ (VY args n) cs).map .agg
  | .func fn a b => match WQ (VY args n) a, WQ (VY args n) b with | some a', some b' => some (.func fn a' b') | _, _ => none
  | v => bif EG v then some v else none
def Vg (args : List AA) : List (AA × AA) → Option (List (AA × AA))
 | [] => some []
 | (k, v) :: es => match VY args 10 v, Vg args es with | some v', some es' => some ((k, v') :: es') | _, _ => none
def PE : AA → Bool
 | .ptr (some _) => true
 | _ => false
abbrev Xx := List (List (AA × AA))
def Z0 (es : List (AA × AA)) (n : Nat) (h : AD) (args : List AA) : Option (AA × AD) :=
 bif Nat.beq args.length n && args.all PE then (Vg args es).map fun es' => (.map (some h.size), h.push (.map 2 es')) else none
def Pd (es : List (AA × AA)) (n : Nat) (h : AD) (args : List AA) : Option (AA × AD) :=
 bif Nat.beq args.length n && args.all PE then (Vg args es).map fun es' => (.map (some h.size), h.push (.map 3 es')) else none
def Vj : AA → AA → Bool
 | .bool a, .bool b => a == b
 | .int k a, .int k' b => decide (k = k') && decide (a = b)
 | .str a, .str b => decide (a = b)
 | _, _ => false
def QB : List AA → List AA → Bool
 | [], [] => true
 | a :: l, b :: r => Vj a b && QB l r
 | _, _ => false
def Yl (tab : List (AA × AA)) (h : AD) : List AA → Option (AA × AD)
 | [.agg cs] => (tab.find? fun p => match p.1 with | .agg ds => QB ds cs | _ => false).map fun p => (p.2, h)
 | _ => none
def Z1 : AA → AA → Bool
 | .Gg n cs, .Gg n' cs' => Nat.beq n n' && QB cs cs'
 | x, y => Vj x y
def Vk : List AA → List AA → Bool
 | [], [] => true
 | x :: xs, y :: ys => Z1 x y && Vk xs ys
 | _, _ => false
def Yt (tab : List (AA × AA)) (h : AD) (args : List AA) : Option (AA × AD) := (tab.find? fun p => match p.1 with | .tuple ks => Vk ks args | _ => false).map fun p => (p.2, h)
def Ls (h : AD) : List AA → Option (AA × AD)
 | [.int .i64 n] => if -9223372036854775808 ≤ n ∧ n ≤ 9223372036854775807 then some (.str (Lib.itoa n), h) else none
 | _ => none
def YQ (h : AD) : List AA → Option (AA × AD)
 | [.int .u64 u] => if 1 ≤ u ∧ u < 18446744073709551616 then some (.int .i64 (Lib.nDigits u.toNat : Nat), h) else none
 | _ => none
def aU (n u : Nat) : List UInt8 := (List.range n).map fun t => Lib.dg u (n - 1 - t)
def Zh (n : Nat) (u : Int) : Bool := decide (n ≠ 0 ∧ n ≤ 24 ∧ 0 ≤ u ∧ u < 18446744073709551616 ∧ u.toNat < 10 ^ n)
def bj : AA → Bool
 | .int .u8 k => decide (0 ≤ k ∧ k ≤ 255)
 | _ => false
def Yy (g : Gd) (h : AD) : List AA → Option (AA × AD)
 | [.slice (some (id, 0)) n, .int .u64 u] =>
  if Zh n u = true then
   match h.get id with
   | some (.cells gr 2 cs) => if g.may id = true ∧ n ≤ cs.length ∧ (cs.take n).all bj = true then some (.tuple [], h.set id (.cells gr 2 ((aU n u.toNat).map (fun b => AA.int .u8 (b.toNat : Int)) ++ cs.drop n))) else none
   | _ => none
  else none
 | _ => none
abbrev IF := List UInt8 × List UInt8
def Lg : List AA → Option (List IF)
 | [] => some []
 | .str k :: .str v :: r => (Lg r).map ((k, v) :: ·)
 | _ => none
def Ej (l : List IF) : List AA := l.flatMap fun p => [.str p.1, .str p.2]
def R7 (x : IF) : List IF → List IF
 | [] => [x]
 | y :: l => if x.1 ≤ y.1 then x :: y :: l else y :: R7 x l
def E7 (l : List IF) : List IF := l.foldr R7 []
def LX : List IF → Bool
 | [] => true
 | x :: l => l.all (fun y => y.1 != x.1) && LX l
def Fh (c : FuncId) (g : Gd) (h : AD) : List AA → Option (AA × AD)
 | [.slice r n, .func (.func f) [] []] =>
  if f = c then
   if n = 0 then some (.tuple [], h) else
   match r with
   | some (id, 0) =>
    match h.get id with
    | some (.cells gr 2 cs) =>
     if cs.length = n * 2 ∧ n ≤ 1099511627776 ∧ g.may id = true then
      match Lg cs with
      | some l => if LX l = true then some (.tuple [], h.set id (.cells gr 2 (Ej (E7 l)))) else none
      | none => none
     else none
    | _ => none
   | _ => none
  else none
 | _ => none
def U3 (P : Program) (km : Xx) (c : Nat × Nat × Nat) (g : Gd) (h : AD) (args : List AA) : Option (AA × AD) :=
 match c.1 with
 | 1 => VS h args
 | 2 => II c.2.1 c.2.2 h args
 | 3 => Y0 h args
 | 4 => WS P c.2.2 h args
 | 5 => XY P c.2.2 h args
 | 6 => UI P c.2.2 h args
 | 7 => UM h args
 | 8 => OA h args
 | 9 => VJ h args
 | 10 => XW h args
 | 11 => Fh c.2.1 g h args
 | 12 => Ls h args
 | 13 => YQ h args
 | 14 => Yy g h args
 | 30 => W1 h args
 | 31 => Wv h args
 | 32 => Z0 (km.getD c.2.1 []) c.2.2 h args
 | 33 => Pd (km.getD c.2.1 []) c.2.2 h args
 | 34 => Yl (km.getD c.2.1 []) h args
 | 35 => Yt (km.getD c.2.1 []) h args
 | _ => none
def Hn : List (Nat × Nat × Nat × Nat) → Nat → Option (Nat × Nat × Nat)
 | [], _ => none
 | (f', c) :: l, f => bif Nat.beq f f' then some c else Hn l f
theorem PT : ∀ {l : List (Nat × Nat × Nat × Nat)} {f : Nat} {c : Nat × Nat × Nat}, Hn l f = some c → (f, c) ∈ l
 | (f', c') :: l, f, c, h => by
  unfold Hn at h
  rw [G1] at h
  split at h
  ·rename_i e; subst e; injection h with h; subst h; simp
  ·exact List.mem_cons_of_mem _ (PT h)
def M5 (P : Program) (km : Xx) (l : List (Nat × Nat × Nat × Nat)) (f : Nat) (g : Gd) (h : AD) (args : List AA) : Option (AA × AD) :=
 match Hn l f with
 | some c => U3 P km c g h args
 | none => none
def QK (ks : List Nat) (l : List (Nat × Nat × Nat × Nat)) : Nat → Bool
 | 0 => true
 | n + 1 => QK ks l n && (!(Nat.beq (Ph ks n) 3) || (Hn l n).isSome)
theorem PC {ks : List Nat} {l : List (Nat × Nat × Nat × Nat)} : ∀ {n : Nat}, QK ks l n = true → ∀ f, f < n → Ph ks f = 3 → (Hn l f).isSome = true
 | 0, _, f, hf, _ => by omega
 | n + 1, h, f, hf, h3 => by
  simp only [QK, Bool.and_eq_true] at h
  by_cases e : f = n
  ·subst e
   have := h.2
   rw [h3] at this
   simpa using this
  ·exact PC h.1 f (by omega) h3
theorem UW {C : FY} {km : Xx} {ks : List Nat} {l : List (Nat × Nat × Nat × Nat)} (hk : C.kind = Ph ks) (hmix : C.P.follows .mixedOrders = true) (hall : TL C ks.length = true) (hro : C.Xq = V7 C.P C.KU) (hx : C.ext = M5 C.P km l) (h3 : QK ks l ks.length = true)
  (he : ∀ p ∈ l, Er C.P C.Bt p.1 (U3 C.P km p.2)) : GV C := by
 refine ⟨hmix, fun f fn c hkf h1 h2 => ?_, fun f a b hr => ?_, fun f hf => ?_⟩
 ·have hne : C.kind f ≠ 0 := by omega
  refine Ro hall ?_ hne (by omega) h1 h2
  rcases Nat.lt_or_ge f ks.length with h | h
  ·exact h
  ·rw [hk, Nf h] at hne; exact absurd rfl hne
 ·rw [hro] at hr
  simp only [V7, Bool.and_eq_true] at hr
  exact ⟨(Mn (C := C) (C' := Vx C.P C.KU) rfl rfl f a).trans hr.1.1, (Mn (C := C) (C' := Vx C.P C.KU) rfl rfl f b).trans hr.1.2, hr.2.1, hr.2.2⟩
 ·have hlt : f < ks.length := by
   rcases Nat.lt_or_ge f ks.length with h | h
   ·exact h
   ·rw [hk, Nf h] at hf; cases hf
  obtain ⟨c, hl⟩ := Option.isSome_iff_exists.1 (PC h3 f hlt (by rw [← hk]; exact hf))
  have := he _ (PT hl)
  have e : (fun (g : Gd) (h : AD) (f' : FuncId) (args : List AA) => if f' = f then C.ext f g h args else none) = fun (g : Gd) h f' args => if f' = f then U3 C.P km c g h args else none := by
   funext g h f' args
   rw [hx]
   simp only [M5, hl]
  rw [e]; exact this
section
variable {C : FY} {km : Xx} {l : List (Nat × Nat × Nat × Nat)} {g : Gd} {h : AD} {f : Nat} {L F : List Ck}
theorem LJ {c : Nat × Nat × Nat} {args : List AA} {v : AA} {h' : AD} (hk : C.kind f = 3) (hx : C.ext = M5 C.P km l) (hl : Hn l f = some c) (he : U3 C.P km c g h args = some (v, h')) : BH C g h f args v h' := by
 refine ⟨1, ?_⟩
 show Gm C (CR C 0) g h f _ = _
 unfold Gm
 rw [hk]
 simp only [hx, M5, hl, he]
theorem W8 {s : List UInt8} {c n : Int} (hk : C.kind f = 3) (hx : C.ext = M5 C.P km l) (hl : Hn l f = some (1, 0, 0)) (hm : FP s c = some n) : BH C g h f [.str s, .int .u8 c] (.int .i64 n) h := by
 refine LJ hk hx hl ?_
 unfold FP at hm
 show VS h [.str s, .int .u8 c] = some (.int .i64 n, h)
 unfold VS
 split at hm
 ·rename_i hr; injection hm with hm; subst hm; dsimp only; rw [if_pos hr]
 ·cases hm
theorem Tu {s t : List UInt8} {a : Nat} (hk : C.kind f = 3) (hx : C.ext = M5 C.P km l) (hl : Hn l f = some (8, a, 0)) (hb : decide (s.length ≤ 4294967280) = true) : BH C g h f [.str s, .str t] (.tuple [.str (Lib.cut s t).1, .str (Lib.cut s t).2.1, .bool (Lib.cut s t).2.2]) h := by
 refine LJ hk hx hl ?_
 show OA h [.str s, .str t] = _
 unfold OA
 dsimp only
 rw [if_pos (of_decide_eq_true hb)]
theorem Lf {V : Type} (ev : V → AA) : ∀ m : List (List UInt8 × V), GX (DQ (fun k => AA.str k) ev m) = some (m.map Prod.fst)
 | [] => rfl
 | (k, v) :: m => by
  show (GX (DQ (fun k => AA.str k) ev m)).map (k :: ·) = _
  rw [Lf ev m]; rfl
theorem Wd : ∀ l : List (List UInt8), Ak eS l = l.map .str
 | [] => rfl
 | x :: l => by
  have := Wd l
  simp only [Ak, List.flatMap_cons, List.map_cons] at *
  rw [this]; rfl
theorem HH.sorted {V : Type} {ev : V → AA} {m : List (List UInt8 × V)} {it t b mid : Nat} (A : HH g h L F) (hk : C.kind f = 3) (hx : C.ext = M5 C.P km l) (hl : Hn l f = some (2, it, t)) (k1 k2 : Nat) (h1 : L[k1]? = some (.obj b (.cells none 2 [.map (some mid)])))
  (h2 : L[k2]? = some (.obj mid (.map 2 (DQ (fun k => AA.str k) ev m)))) (hb : MN (m.map Prod.fst) = true) :
  ∃ r h', BH C g h f [.func (.func it) [] [.ptr (some (b, 0))]] (Af r (Dv (m.map Prod.fst)).length) h' ∧ HH g h' (.Ak r t (Ak eS (Dv (m.map Prod.fst))) :: L) F := by
 have hlen : (Dv (m.map Prod.fst)).length = (m.map Prod.fst).length := (Iz _).length_eq
 have key : II it t h [.func (.func it) [] [.ptr (some (b, 0))]] = some (NI t h (m.map Prod.fst)) := by
  unfold II
  simp only [if_true, NB, A.get k1 h1, A.get k2 h2, Lf, hb]
 rw [Wd]
 generalize hks : m.map Prod.fst = ks at *
 cases ks with
 | nil => exact ⟨none, h, LJ hk hx hl (key.trans rfl), A.T9 t⟩
 | cons x ks => exact ⟨some h.size, _, LJ hk hx hl (h' := h.push (.cells (some t) 2 ((Dv (x :: ks)).map .str))) (key.trans (by rw [hlen]; rfl)), A.X1 t _⟩
end
end Go.Av
