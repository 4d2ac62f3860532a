/-
  ABS, 30: functions of Go's library that are told by the kit's contracts: slices.Clone, slices.Grow (of nothing), slices.Sorted (of a map's keys), and the comparison of texts.
-/
import Derived.Test.YtdpebdaplhfbjaaGreatDoorAvExt
import Derived.Test.YtdpebdaplhfbjaaGreatDoorAvMap
import Derived.Shelf.SlicesE.Clone
import Derived.Shelf.Spec.SlicesGrow
import Derived.Shelf.SlIter.Nil
import Derived.Shelf.SortM.Plain
import Derived.Shelf.SortM.SortNone
import Derived.Lib.Bytealg
import Derived.Shelf.Strings.Repeat
import Derived.Shelf.Strings.Cut
import Derived.Shelf.Strings.Search3
namespace Go.Av
open Go.RowKit Go.Shelf Go.Proofs Go.Lib Go.Maps Go.MapKept Go.ChangeMaps Go.WideShapes
set_option linter.unusedVariables false
section
variable {P : Program} {w0 : World} {m : Inj} {h : AHeap} {w : World}
theorem invokes_of_calls {f : FuncId} {args : Array Value} {Q : Value → World → Prop} (he : ∀ args w, (callFunc f args).run P w = .ok (.enter f args) w) (hc : Calls P f args w fun e w' => ∃ v, e = .returned v ∧ Q v w') : Invokes P f args w Q := by
 unfold Invokes
 rw [he args w]
 exact hc
def rowLen : AVal → Option Nat
 | .slice _ n => some n
 | .vsl n _ => some n
 | _ => none
def infoOk (i : TypeInfo) (n : Nat) : Bool := decide (i.size ≠ 0 ∧ n ≤ 1099511627776 ∧ n * i.bytes ≤ 1099511627776 ∧ i.zero.map (·.cells.size) = some i.size)
def extClone (P : Program) (e : TypeId) (h : AHeap) : List AVal → Option (AVal × AHeap)
 | [x] =>
  match rowLen x with
  | some 0 =>
   match P.info? e with
   | some _ => some (.slice none 0, h)
   | none => none
  | some n =>
   match P.info? e with
   | some i =>
    match (firstA h i.size n x).map (·.map can1) with
    | some cs => if cs.all AVal.one = true ∧ infoOk i n = true then some (.slice (some (h.size, 0)) n, h.push (.cells (some e) 2 cs)) else none
    | none => none
   | none => none
  | none => none
 | _ => none
theorem VRs.one1 {cs : List AVal} {ds : List Value} (hv : VRs m cs ds) (h1 : cs.all AVal.one = true) : ∀ u ∈ ds, u.oneCell' = true := by
 intro u hu
 obtain ⟨j, hj, rfl⟩ := List.getElem_of_mem hu
 have hj' : j < cs.length := by rw [hv.1]; exact hj
 exact (hv.2 j _ _ (List.getElem?_eq_getElem hj') (List.getElem?_eq_getElem hj)).one (List.all_eq_true.1 h1 _ (List.getElem_mem hj'))
theorem two_args {m : Inj} {x y : AVal} {cargs : Array Value} (hv : VRs m [x, y] cargs.toList) : ∃ a b, cargs = #[a, b] ∧ VR m x a ∧ VR m y b := by
 have := hv.1
 match cargs, this with
 | ⟨[a, b]⟩, _ => exact ⟨a, b, rfl, hv.2 0 _ _ rfl rfl, hv.2 1 _ _ rfl rfl⟩
def ExtOk (P : Program) (G : Nat → Option (List AVal)) (f : FuncId) (ext : Gd → AHeap → List AVal → Option (AVal × AHeap)) : Prop := CallOk P G fun g h f' args => if f' = f then ext g h args else none
theorem ExtOk.of {G : Nat → Option (List AVal)} {f : FuncId} {ext : Gd → AHeap → List AVal → Option (AVal × AHeap)}
  (hx : ∀ g h args v h', ext g h args = some (v, h') → Keeps g h h' ∧ ∀ w0 m w (cargs : Array Value), Rel P w0 m h w → VRs m args cargs.toList → Invokes P f cargs w fun v' w' => ∃ m' : Inj, (m.ext h.size m') ∧ Rel P w0 m' h' w' ∧ VR m' v v') : ExtOk P G f ext := by
 intro g h f' args v h' hc
 dsimp only at hc
 split at hc
 ·rename_i e; subst e
  obtain ⟨k, q⟩ := hx g h args v h' hc
  exact ⟨k, fun w0 m w cargs _ r hv => q w0 m w cargs r hv⟩
 ·cases hc
theorem ExtOk.ofG {G : Nat → Option (List AVal)} {f : FuncId} {ext : Gd → AHeap → List AVal → Option (AVal × AHeap)}
  (hx : ∀ g h args v h', ext g h args = some (v, h') → Keeps g h h' ∧ ∀ w0 m w (cargs : Array Value), GlobOk G w → Rel P w0 m h w → VRs m args cargs.toList → Invokes P f cargs w fun v' w' => ∃ m' : Inj, (m.ext h.size m') ∧ Rel P w0 m' h' w' ∧ VR m' v v') : ExtOk P G f ext := by
 intro g h f' args v h' hc
 dsimp only at hc
 split at hc
 ·rename_i e; subst e
  obtain ⟨k, q⟩ := hx g h args v h' hc
  exact ⟨k, fun w0 m w cargs hz r hv => q w0 m w cargs (hz.later r.below) r hv⟩
 ·cases hc
def extCloneF (P : Program) (e : TypeId) (h : AHeap) : List AVal → Option (AVal × AHeap)
 | [x] =>
  match rowLen x with
  | some 0 =>
   match P.info? e with
   | some _ => some (.vsl 0 [], h)
   | none => none
  | some n =>
   match P.info? e with
   | some i =>
    match (firstA h i.size n x).map (·.map can1) with
    | some cs => if cs.all AVal.one = true ∧ infoOk i n = true then some (.vsl n cs, h) else none
    | none => none
   | none => none
  | none => none
 | _ => none
def extGrow (P : Program) (e : TypeId) (h : AHeap) : List AVal → Option (AVal × AHeap)
 | [.slice none 0, .int .i64 n] =>
  if n = 0 then some (.slice none 0, h) else
  match P.info? e with
  | some i => if 0 < n ∧ infoOk i n.toNat = true then some (.slice (some (h.size, 0)) 0, h.push (.cells (some e) 2 [])) else none
  | none => none
 | _ => none
def extCmp (h : AHeap) : List AVal → Option (AVal × AHeap)
 | [.str a, .str b] => some (.int .i64 (compareBytes a b), h)
 | _ => none
def isExt (P : Program) (f : FuncId) : Bool :=
 match P.funcs[f]? with
 | some fn => !(fn.name == "runtime.NumGoroutine") && fn.body.isNone
 | none => false
theorem run_ext {f : FuncId} (hx : isExt P f = true) {F : Array Value → Sem Value} (hn : ∀ fn, P.funcs[f]? = some fn → Extern.findNext fn = none ∧ Extern.find fn = some F) {cargs : Array Value} {v : Value} {w' : World} (h1 : (F cargs).run P w = .ok v w') {Q : Value → World → Prop} (hq : Q v w') : Invokes P f cargs w Q := by
 unfold isExt at hx
 split at hx
 ·rename_i fn hfn
  simp only [Bool.and_eq_true, Bool.not_eq_true', Option.isNone_iff_eq_none] at hx
  obtain ⟨e1, e2⟩ := hn fn hfn
  have hrun : (callFunc f cargs).run P w = .ok (.value v) w' := by
   unfold callFunc
   simp only [Sem.run_bind, program, Sem.run, Result.andThen_ok, hfn]
   rw [if_neg (by rw [hx.1]; decide), if_pos (by rw [hx.2]; rfl)]
   simp only [e1, e2, Sem.run_bind]
   rw [show Sem.run P (Go.mark (Mark.extern f)) w = .ok () w from rfl]
   simp only [Result.andThen_ok, h1, Sem.run_pure]
  unfold Invokes
  rw [hrun]
  exact hq
 ·cases hx
theorem cmp_ok {f : FuncId} (G : Nat → Option (List AVal)) (hx : isExt P f = true) (hn : ∀ fn, P.funcs[f]? = some fn → Extern.findNext fn = none ∧ Extern.find fn = some Extern.BytealgCompare.compare) : ExtOk P G f fun g h args => extCmp h args := by
 refine ExtOk.of fun g h args v h' hc => ?_
 unfold extCmp at hc
 split at hc
 ·rename_i a b
  simp only [Option.some.injEq, Prod.mk.injEq] at hc
  obtain ⟨rfl, rfl⟩ := hc
  refine ⟨Keeps.refl _ _, fun w0 m w cargs r hv => ?_⟩
  obtain ⟨s, t, rfl, hs, ht⟩ := two_args hv
  obtain rfl := hs.inv_str
  obtain rfl := ht.inv_str
  exact run_ext hx hn (run_compareString _ _ w) ⟨m, Inj.ext.refl _ _, r, .int _ _⟩
 ·cases hc
theorem idx_ok {f : FuncId} (G : Nat → Option (List AVal)) (hx : isExt P f = true) (hn : ∀ fn, P.funcs[f]? = some fn → Extern.findNext fn = none ∧ Extern.find fn = some Extern.BytealgIndexByte.indexByte) : ExtOk P G f fun g h args => ext1 h args := by
 refine ExtOk.of fun g h args v h' hc => ?_
 unfold ext1 at hc
 split at hc
 ·rename_i s c
  split at hc
  ·rename_i hr
   simp only [Option.some.injEq, Prod.mk.injEq] at hc
   obtain ⟨rfl, rfl⟩ := hc
   refine ⟨Keeps.refl _ _, fun w0 m w cargs r hv => ?_⟩
   obtain ⟨a, b, rfl, ha, hb⟩ := two_args hv
   obtain rfl := ha.inv_str
   obtain rfl := hb.inv_int
   refine run_ext hx hn (v := .int .i64 (idxOf s (UInt8.ofNat c.toNat))) (w' := w) ?_ ⟨m, Inj.ext.refl _ _, r, .int _ _⟩
   show Sem.run P (do
    let b ← Extern.Bytes.bytesOf (.string ⟨⟨s⟩⟩)
    let c ← Extern.Bytes.asByte (.int .u8 c)
    match (List.range b.size).find? fun i => b[i]! == c with
    | some i => pure (goInt i)
    | none => pure (goInt (-1))) w = _
   simp only [Extern.Bytes.bytesOf, Extern.Bytes.asByte, Sem.run_bind, Sem.run_pure, Result.andThen_ok]
   rw [idx_eq s c.toNat.toUInt8]
   unfold idxOf
   rw [show UInt8.ofNat c.toNat = c.toNat.toUInt8 from rfl]
   cases (List.range s.length).find? fun i => s[i]? == some c.toNat.toUInt8 <;> rfl
  ·cases hc
 ·cases hc
def strKeysA : List (AVal × AVal) → Option (List (List UInt8))
 | [] => some []
 | (.str s, _) :: r => (strKeysA r).map (s :: ·)
 | _ => none
def insT (x : List UInt8) : List (List UInt8) → List (List UInt8)
 | [] => [x]
 | y :: l => bif Op.bytesLess y x then y :: insT x l else x :: y :: l
def sortT (l : List (List UInt8)) : List (List UInt8) := l.foldr insT []
def keysOk (ks : List (List UInt8)) : Bool := decide (ks.length ≤ 1099511627776) && ks.all fun s => decide (s.length ≤ 1099511627776)
def sortedA (e : TypeId) (h : AHeap) (ks : List (List UInt8)) : AVal × AHeap :=
 match ks with
 | [] => (.slice none 0, h)
 | _ => (.slice (some (h.size, 0)) ks.length, h.push (.cells (some e) 2 ((sortT ks).map .str)))
def boxCell (h : AHeap) (b : Nat) : Option AVal :=
 match h.get b with
 | some (.cells none 2 [v]) => some v
 | _ => none
def extSorted (it : FuncId) (e : TypeId) (h : AHeap) : List AVal → Option (AVal × AHeap)
 | [.func (.func f) [] [.ptr (some (b, 0))]] =>
  if f = it then
   match boxCell h b with
   | some (.map none) => some (.slice none 0, h)
   | some (.map (some mid)) =>
    match h.get mid with
    | some (.map st es) =>
     if st = 2 then
      match strKeysA es with
      | some ks => if keysOk ks = true then some (sortedA e h ks) else none
      | none => none
     else none
    | _ => none
   | _ => none
  else none
 | _ => none
def repOk (s : List UInt8) (n : Int) : Bool := decide (0 ≤ n ∧ n ≤ 1099511627776 ∧ s.length * n.toNat ≤ 1099511627776)
def extRepeat (h : AHeap) : List AVal → Option (AVal × AHeap)
 | [.str s, .int .i64 n] => if repOk s n = true then some (.str (Lib.repeatL s n.toNat), h) else none
 | _ => none
def extCut (h : AHeap) : List AVal → Option (AVal × AHeap)
 | [.str s, .str t] => if s.length ≤ 4294967280 then some (.tuple [.str (Lib.cut s t).1, .str (Lib.cut s t).2.1, .bool (Lib.cut s t).2.2], h) else none
 | _ => none
def extIndex (h : AHeap) : List AVal → Option (AVal × AHeap)
 | [.str s, .str t] => if s.length ≤ 4294967280 then some (.int .i64 (Lib.index s t), h) else none
 | _ => none
theorem drawn_below {B : Nat} {a w : World} (h : Below B a w) (n : Nat) : Below B a (w.drewN n) := h.trans ⟨rfl, rfl, rfl, Nat.le_refl _, fun _ _ => rfl⟩
theorem cut_ok {ρ : Ren} (L : Lays.n145 P ρ) {G : Nat → Option (List AVal)} (hg : G (ρ.g 1) = some []) : ExtOk P G (ρ.f 145) fun g h args => extCut h args := by
 refine ExtOk.ofG fun g h args v h' hc => ?_
 have en : ∀ args w, (callFunc (ρ.f 145) args).run P w = .ok (.enter (ρ.f 145) args) w := enters_of L.f145 (by kernel_rfl) rfl
 unfold extCut at hc
 split at hc
 ·rename_i s t
  split at hc
  ·rename_i hb
   simp only [Option.some.injEq, Prod.mk.injEq] at hc
   obtain ⟨rfl, rfl⟩ := hc
   refine ⟨Keeps.refl _ _, fun w0 m w cargs hz r hv => ?_⟩
   obtain ⟨a, b, rfl, ha, hb'⟩ := two_args hv
   obtain rfl := ha.inv_str
   obtain rfl := hb'.inv_str
   obtain ⟨n, hn⟩ := hz.2 _ hg
   refine invokes_of_calls en ((Any.strings_Cut L ⟨⟨s⟩⟩ ⟨⟨t⟩⟩ n w (by show s.length < _; omega) hn).mono ?_)
   rintro e w' ⟨rfl, q, rfl⟩
   refine ⟨_, rfl, m, Inj.ext.refl _ _, r.later (drawn_below (Below.refl _ _) _), VR.tuple _ _ rfl fun i x y hx hy => ?_⟩
   match i, hx, hy with
   | 0, hx, hy => cases hx; cases hy; exact VR.str ⟨⟨_⟩⟩
   | 1, hx, hy => cases hx; cases hy; exact VR.str ⟨⟨_⟩⟩
   | 2, hx, hy => cases hx; cases hy; exact VR.bool _
   | i + 3, hx, hy => simp at hx
  ·cases hc
 ·cases hc
end
def extTrue (h : AHeap) : List AVal → Option (AVal × AHeap)
 | [] => some (.bool true, h)
 | _ => none
def extNone (h : AHeap) : List AVal → Option (AVal × AHeap)
 | [] => some (.undef, h)
 | _ => none
def optL (f : AVal → Option AVal) : List AVal → Option (List AVal)
 | [] => some []
 | v :: vs => match f v, optL f vs with | some v', some vs' => some (v' :: vs') | _, _ => none
def argAt (args : List AVal) (i o : Nat) : Option AVal :=
 match args[i]? with
 | some (.ptr (some (id, b))) => some (.ptr (some (id, b + o)))
 | _ => none
def renV (args : List AVal) : Nat → AVal → Option AVal
 | 0, _ => none
 | n + 1, v =>
  match v with
  | .ptr (some (i, o)) => argAt args i o
  | .vptr cs => (optL (renV args n) cs).map .vptr
  | .agg cs => (optL (renV args n) cs).map .agg
  | .func fn a b => match optL (renV args n) a, optL (renV args n) b with | some a', some b' => some (.func fn a' b') | _, _ => none
  | v => bif flat1 v then some v else none
def renE (args : List AVal) : List (AVal × AVal) → Option (List (AVal × AVal))
 | [] => some []
 | (k, v) :: es => match renV args 10 v, renE args es with | some v', some es' => some ((k, v') :: es') | _, _ => none
def isPtr : AVal → Bool
 | .ptr (some _) => true
 | _ => false
abbrev KMs := List (List (AVal × AVal))
def extKM (es : List (AVal × AVal)) (n : Nat) (h : AHeap) (args : List AVal) : Option (AVal × AHeap) :=
 bif Nat.beq args.length n && args.all isPtr then (renE args es).map fun es' => (.map (some h.size), h.push (.map 2 es')) else none
def extLM (es : List (AVal × AVal)) (n : Nat) (h : AHeap) (args : List AVal) : Option (AVal × AHeap) :=
 bif Nat.beq args.length n && args.all isPtr then (renE args es).map fun es' => (.map (some h.size), h.push (.map 3 es')) else none
def flatEq : AVal → AVal → Bool
 | .bool a, .bool b => a == b
 | .int k a, .int k' b => decide (k = k') && decide (a = b)
 | .str a, .str b => decide (a = b)
 | _, _ => false
theorem flatEq_eq {a b : AVal} (h : flatEq a b = true) : a = b ∧ flat1 a = true := by
 unfold flatEq at h
 split at h
 ·exact ⟨by rw [eq_of_beq h], rfl⟩
 ·simp only [Bool.and_eq_true, decide_eq_true_eq] at h
  obtain ⟨rfl, rfl⟩ := h
  exact ⟨rfl, rfl⟩
 ·rw [of_decide_eq_true h]; exact ⟨rfl, rfl⟩
 ·cases h
def flatEqL : List AVal → List AVal → Bool
 | [], [] => true
 | a :: l, b :: r => flatEq a b && flatEqL l r
 | _, _ => false
theorem flatEqL_eq : ∀ {a b : List AVal}, flatEqL a b = true → a = b
 | [], [], _ => rfl
 | a :: l, b :: r, h => by
  simp only [flatEqL, Bool.and_eq_true] at h
  rw [(flatEq_eq h.1).1, flatEqL_eq h.2]
 | [], _ :: _, h => by cases h
 | _ :: _, [], h => by cases h
def extTab (tab : List (AVal × AVal)) (h : AHeap) : List AVal → Option (AVal × AHeap)
 | [.agg cs] => (tab.find? fun p => match p.1 with | .agg ds => flatEqL ds cs | _ => false).map fun p => (p.2, h)
 | _ => none
def extC (P : Program) (km : KMs) (c : Nat × Nat × Nat) (g : Gd) (h : AHeap) (args : List AVal) : Option (AVal × AHeap) :=
 match c.1 with
 | 1 => ext1 h args
 | 2 => extSorted c.2.1 c.2.2 h args
 | 3 => extCmp h args
 | 4 => extClone P c.2.2 h args
 | 5 => extGrow P c.2.2 h args
 | 6 => extCloneF P c.2.2 h args
 | 7 => extRepeat h args
 | 8 => extCut h args
 | 9 => extIndex h args
 | 30 => extTrue h args
 | 31 => extNone h args
 | 32 => extKM (km.getD c.2.1 []) c.2.2 h args
 | 33 => extLM (km.getD c.2.1 []) c.2.2 h args
 | 34 => extTab (km.getD c.2.1 []) h args
 | _ => none
def lookE : List (Nat × Nat × Nat × Nat) → Nat → Option (Nat × Nat × Nat)
 | [], _ => none
 | (f', c) :: l, f => bif Nat.beq f f' then some c else lookE l f
theorem lookE_mem : ∀ {l : List (Nat × Nat × Nat × Nat)} {f : Nat} {c : Nat × Nat × Nat}, lookE l f = some c → (f, c) ∈ l
 | (f', c') :: l, f, c, h => by
  unfold lookE at h
  rw [bif_beq] at h
  split at h
  ·rename_i e; subst e; injection h with h; subst h; simp
  ·exact List.mem_cons_of_mem _ (lookE_mem h)
def extL (P : Program) (km : KMs) (l : List (Nat × Nat × Nat × Nat)) (f : Nat) (g : Gd) (h : AHeap) (args : List AVal) : Option (AVal × AHeap) :=
 match lookE l f with
 | some c => extC P km c g h args
 | none => none
def threeL (ks : List Nat) (l : List (Nat × Nat × Nat × Nat)) : Nat → Bool
 | 0 => true
 | n + 1 => threeL ks l n && (!(Nat.beq (lookN ks n) 3) || (lookE l n).isSome)
theorem threeL_at {ks : List Nat} {l : List (Nat × Nat × Nat × Nat)} : ∀ {n : Nat}, threeL ks l n = true → ∀ f, f < n → lookN ks f = 3 → (lookE l f).isSome = true
 | 0, _, f, hf, _ => by omega
 | n + 1, h, f, hf, h3 => by
  simp only [threeL, Bool.and_eq_true] at h
  by_cases e : f = n
  ·subst e
   have := h.2
   rw [h3] at this
   simpa using this
  ·exact threeL_at h.1 f (by omega) h3
theorem cfgOk_lib {C : Cfg} {km : KMs} {ks : List Nat} {l : List (Nat × Nat × Nat × Nat)} (hk : C.kind = lookN ks) (hmix : C.P.follows .mixedOrders = true) (hall : okAll C ks.length = true) (hro : C.rok = rokOf C.P C.plan) (hx : C.ext = extL C.P km l) (h3 : threeL ks l ks.length = true)
  (he : ∀ p ∈ l, ExtOk C.P C.glob p.1 (extC C.P km p.2)) : CfgOk C := by
 refine ⟨hmix, fun f fn c hkf h1 h2 => ?_, fun f a b hr => ?_, fun f hf => ?_⟩
 ·have hne : C.kind f ≠ 0 := by omega
  refine okAll_at hall ?_ hne (by omega) h1 h2
  rcases Nat.lt_or_ge f ks.length with h | h
  ·exact h
  ·rw [hk, lookN_ge h] at hne; exact absurd rfl hne
 ·rw [hro] at hr
  simp only [rokOf, Bool.and_eq_true] at hr
  exact ⟨(codeOk_same (C := C) (C' := cfg0 C.P C.plan) rfl rfl f a).trans hr.1.1, (codeOk_same (C := C) (C' := cfg0 C.P C.plan) rfl rfl f b).trans hr.1.2, hr.2.1, hr.2.2⟩
 ·have hlt : f < ks.length := by
   rcases Nat.lt_or_ge f ks.length with h | h
   ·exact h
   ·rw [hk, lookN_ge h] at hf; cases hf
  obtain ⟨c, hl⟩ := Option.isSome_iff_exists.1 (threeL_at h3 f hlt (by rw [← hk]; exact hf))
  have := he _ (lookE_mem hl)
  have e : (fun (g : Gd) (h : AHeap) (f' : FuncId) (args : List AVal) => if f' = f then C.ext f g h args else none) = fun (g : Gd) h f' args => if f' = f then extC C.P km c g h args else none := by
   funext g h f' args
   rw [hx]
   simp only [extL, hl]
  rw [e]; exact this
section
variable {C : Cfg} {km : KMs} {l : List (Nat × Nat × Nat × Nat)} {g : Gd} {h : AHeap} {f : Nat} {L F : List Ck}
theorem runsX {c : Nat × Nat × Nat} {args : List AVal} {v : AVal} {h' : AHeap} (hk : C.kind f = 3) (hx : C.ext = extL C.P km l) (hl : lookE l f = some c) (he : extC C.P km c g h args = some (v, h')) : Runs C g h f args v h' := by
 refine ⟨1, ?_⟩
 show callA C (selfN C 0) g h f _ = _
 unfold callA
 rw [hk]
 simp only [hx, extL, hl, he]
theorem runsIdx {s : List UInt8} {c n : Int} (hk : C.kind f = 3) (hx : C.ext = extL C.P km l) (hl : lookE l f = some (1, 0, 0)) (hm : X_IndexByte s c = some n) : Runs C g h f [.str s, .int .u8 c] (.int .i64 n) h := by
 refine runsX hk hx hl ?_
 unfold X_IndexByte at hm
 show ext1 h [.str s, .int .u8 c] = some (.int .i64 n, h)
 unfold ext1
 split at hm
 ·rename_i hr; injection hm with hm; subst hm; dsimp only; rw [if_pos hr]
 ·cases hm
theorem runsCut {s t : List UInt8} {a : Nat} (hk : C.kind f = 3) (hx : C.ext = extL C.P km l) (hl : lookE l f = some (8, a, 0)) (hb : decide (s.length ≤ 4294967280) = true) : Runs C g h f [.str s, .str t] (.tuple [.str (Lib.cut s t).1, .str (Lib.cut s t).2.1, .bool (Lib.cut s t).2.2]) h := by
 refine runsX hk hx hl ?_
 show extCut h [.str s, .str t] = _
 unfold extCut
 dsimp only
 rw [if_pos (of_decide_eq_true hb)]
end
end Go.Av
