/-
  Several texts in one.
-/
import Derived.Test.YtipknimgfcokeaaGreatDoorAvTy
import Derived.Carry
import Derived.WideShapes
import Derived.ChangeShapes
import Derived.OpenShut
/-
  ABS, 25: THE ARGUMENTS AS PLAIN LEAN VALUES: what is handed in lies in memory that nobody writes; and from an abstract run of a law to its row's contract.
-/
section
namespace Go.Av
open Go.RowKit Go.ChangeShapes Go.WideShapes
set_option linter.unusedVariables false
def TB : List AB → Option AB
 | [a] => some a
 | _ => none
def toArg (P : Program) (t : TypeId) (cs : List AB) : Option AB :=
 match P.underlying t with
 | some (.struct _) | some (.array _ _) => some (.agg cs)
 | some .bool | some (.int _) | some .string | some (.pointer _) | some (.slice _) | some (.map _ _) | some (.interface _) => TB cs
 | _ => none
def mW (W : World) : Bh := ⟨fun _ => none, fun g o => match W.heap[g]? with | some (.cells cur _ _) => cur[o]? | _ => none, fun _ => False⟩
section
variable {H : Type} {enc : TypeId × Value → H} {P : Program} {W : World}
theorem VY : Rel P W (mW W) ⟨0, .leaf⟩ W := by
 refine ⟨Below.refl _ _, fun id E hE => by simp [mW] at hE, fun id E o hE => by simp [mW] at hE, fun id E o hE => by simp [mW] at hE, fun id id' E E' o o' _ hE => by simp [mW] at hE, fun g o v hv => ?_, fun id E o hE => by simp [mW] at hE, fun g hg => hg.elim, fun id E o hE => by simp [mW] at hE⟩
 simp only [mW] at hv
 split at hv
 ·rename_i cur e z hc; exact ⟨cur, e, z, hc, hv⟩
 ·cases hv
end
structure Pp (P : Program) {α : Type} (t : TypeId) (e : α → List AB) (ok : α → Prop) : Prop where
 h : ∀ {H : Type} {enc : TypeId × Value → H} {W : World} {held : Bool} (fuel : Nat) (cs : List Value) (d : DataW H) (ps : List MemPlace), DataW.trod enc P W 0 (fun _ => true) held fuel t cs = some (d, ps) → ∃ x, Cn (mW W) (e x) cs ∧ ok x
section
variable {P : Program}
theorem Wa {t : TypeId} (hu : P.underlying t = some .bool) : Pp P t eB (fun _ => True) := .mk fun {H enc W held} fuel cs d ps ht => by
 cases fuel with
 | zero => simp [DataW.trod] at ht
 | succ fuel =>
  unfold DataW.trod at ht
  rw [hu] at ht
  split at ht <;> first | contradiction | cases ‹(some (_ : TypeDesc)) = some _›
  rename_i b
  exact ⟨b, .cons (.bool _) (.nil _), trivial⟩
def X7 (k : IntKind) (x : Int) : Prop := k.min ≤ x ∧ x ≤ k.max
theorem XS {t : TypeId} {k : IntKind} (hu : P.underlying t = some (.int k)) : Pp P t (eI k) (X7 k) := .mk fun {H enc W held} fuel cs d ps ht => by
 cases fuel with
 | zero => simp [DataW.trod] at ht
 | succ fuel =>
  unfold DataW.trod at ht
  rw [hu] at ht
  split at ht <;> first | contradiction | cases ‹(some (_ : TypeDesc)) = some _›
  rename_i k2 n
  split at ht <;> try contradiction
  rename_i hk
  refine ⟨n, ?_, ?_⟩
  ·rw [hk.1]; exact .cons (.int _ _) (.nil _)
  ·have := hk.2
   simp only [Lit.wf, Bool.and_eq_true, decide_eq_true_eq] at this
   exact this
def Xn (x : List UInt8) : Prop := x.length ≤ 9223372036854775807
theorem We {t : TypeId} (hu : P.underlying t = some .string) : Pp P t eS Xn := .mk fun {H enc W held} fuel cs d ps ht => by
 cases fuel with
 | zero => simp [DataW.trod] at ht
 | succ fuel =>
  unfold DataW.trod at ht
  rw [hu] at ht
  split at ht <;> first | contradiction | cases ‹(some (_ : TypeDesc)) = some _›
  rename_i s
  split at ht <;> try contradiction
  rename_i hk
  exact ⟨s.data.toList, .cons (.str _) (.nil _), hk⟩
end
section
variable {H : Type} {enc : TypeId × Value → H} {P : Program} {W : World}
theorem KJ {t : TypeId} {v : Value} {base : Nat} (hv : Value.okWide P W .any base t v) {m : Bh} {cs : List AB} {a : AB} (hc : Cn m cs v.cells.toList) (ha : toArg P t cs = some a) : VR m a v := by
 have one : ∀ {w : Value}, v = w → w.cells.toList = [w] → TB cs = some a → VR m a v := by
  intro w hw hcells hx
  subst hw
  rw [hcells] at hc
  unfold TB at hx
  split at hx
  ·injection hx with hx
   subst hx
   exact hc.2 0 _ _ rfl rfl
  ·cases hx
 unfold toArg at ha
 split at ha
 ·rename_i hu
  obtain ⟨c, hce, _⟩ := okWide_struct hu hv
  subst hce
  injection ha with ha
  subst ha
  exact Cn.agg hc
 ·rename_i hu
  unfold Value.okWide at hv
  rw [hu] at hv
  obtain ⟨c, hce, _⟩ := hv
  subst hce
  injection ha with ha
  subst ha
  exact Cn.agg hc
 ·rename_i hu; obtain ⟨b, hb⟩ := okWide_bool hu hv; exact one hb rfl ha
 ·rename_i hu; obtain ⟨b, hb⟩ := okWide_int hu hv; exact one hb rfl ha
 ·rename_i hu; obtain ⟨b, hb⟩ := okWide_string hu hv; exact one hb rfl ha
 ·rename_i hu; obtain ⟨b, hb⟩ := okWide_pointer hu hv; exact one hb rfl ha
 ·rename_i hu; obtain ⟨b, c, d, hb⟩ := okWide_slice hu hv; exact one hb rfl ha
 ·rename_i hu; obtain ⟨b, hb⟩ := okWide_map hu hv; exact one hb rfl ha
 ·rename_i hu
  rcases okWide_iface hu hv with hb | ⟨u, x, hb⟩
  ·exact one hb rfl ha
  ·exact one hb rfl ha
 ·cases ha
theorem K9 (hl : laidOutB P = true) {W' : World} (hb : Below W.heap.size W W') : ∀ (ts : List TypeId) (vs : List Value) (ds : List (DataW H)) (ps : List MemPlace), (∀ t ∈ ts, P.readableRec t = true ∧ t < P.types.size) →
  DataW.TrodAll enc P W 0 (fun _ => true) true ts vs ds ps → (∀ x ∈ ps, x.block < W.heap.size) → DataW.TrodAll enc P W' 0 (fun b => decide (b < W.heap.size)) true ts vs ds ps
 | [], vs, ds, ps, _, hA, _ => by
  obtain ⟨rfl, rfl, rfl⟩ := trodAll_nil hA
  rfl
 | t :: ts, vs, ds, ps, hr, hA, hlt => by
  obtain ⟨v, vs', d, ds', p, q, rfl, rfl, rfl, h0, r0⟩ := trodAll_cons hA
  have h1 := hr t (by simp)
  exact trodAll_cons_mk (Below.trod hl h1.1 h1.2 h0 hb fun x hx => hlt x (by simp [hx])) (K9 hl hb ts vs' ds' q (fun t ht => hr t (by simp [ht])) r0 fun x hx => hlt x (by simp [hx]))
theorem SZ {C : IJ} (hC : Iv C) (hz : Ch C.EY W) (hl : laidOutB C.P = true) {f : FuncId} {fn : Func} {c : Code} (hfn : C.P.funcs[f]? = some fn) (hn : (fn.name == "runtime.NumGoroutine") = false) (hb : fn.body = some c)
  (hts : ∀ t ∈ fn.params.toList, C.P.readableRec t = true ∧ t < C.P.types.size) {tb : TypeId} (hrt : fn.resultTypes = #[tb]) (hub : C.P.underlying tb = some .bool)
  {s : ChangeSpec} (hvars : s.vars = []) {args : Array Value} {ds gs : List (DataW H)} {before : List MemPlace} (hspec : s.fn H (ds ++ []) = { results := [.lit (.bool true)], args := ds })
  (hW : DataW.Whole enc C.P fn.params.toList s.vars false W args.toList ds gs before)
  {av : List AB} (hvs : Cn (mW W) av args.toList) {h' : AH} (hrun : Bg C ⟨0, []⟩ ⟨0, .leaf⟩ f av (.bool true) h') :
  Calls C.P f args W fun e W' => ∃ v, e = .returned v ∧ s.post enc C.P fn false true false false W args v W' := by
 have hW' := hW
 obtain ⟨p, q, hA0, hV, rfl, hfz, hnd⟩ := hW
 rw [hvars] at hV
 have hV' : gs = [] ∧ q = [] := by cases gs <;> simp [DataW.TrodVars] at hV <;> simp [hV]
 obtain ⟨rfl, rfl⟩ := hV'
 obtain ⟨n, hn'⟩ := hrun
 refine (RQ hC (n := n) hn' hfn hn hb hz VY hvs).mono fun e W' ⟨v', he, m', _, hr', hv'⟩ => ?_
 subst he
 have ev : v' = .bool true := by cases hv'; rfl
 subst ev
 have bel := hr'.below
 have hlt : ∀ x ∈ p, x.block < W.heap.size := fun x hx => by simpa using hW'.lt x (by simpa using hx)
 refine ⟨_, rfl, ds, [], p ++ [], [], p, [], hW', ?_, ?_, ?_, bel.frame _, fun h => by cases h⟩
 ·rw [hspec, hrt]
  exact trodAll_mk1 (shut_bool hub _)
 ·rw [hspec]
  exact K9 hl bel _ _ _ _ hts hA0 hlt
 ·rw [hspec, hvars]
  rfl
theorem HH.start : HH ⟨0, []⟩ ⟨0, .leaf⟩ [] [] := ⟨fun c hc => (by cases hc), by simp [Dt], fun i hi => (by simp [Dt] at hi), fun i hi => (by cases hi), Nat.le_refl _⟩
end
end Go.Av
end
/-
  ABS, 26: functions without a body that the model knows: internal/bytealg.IndexByteString.
-/
section
namespace Go.Av
open Go.RowKit
set_option linter.unusedVariables false
def idxOf (s : List UInt8) (c : UInt8) : Int := match (List.range s.length).find? fun i => s[i]? == some c with | some i => (i : Int) | none => -1
def KB (h : AH) : List AB → Option (AB × AH)
 | [.str s, .int .u8 c] => if 0 ≤ c ∧ c ≤ 255 then some (.int .i64 (idxOf s (UInt8.ofNat c.toNat)), h) else none
 | _ => none
theorem Ob {α : Type} {p q : α → Bool} : ∀ (l : List α), (∀ x ∈ l, p x = q x) → l.find? p = l.find? q
 | [], _ => rfl
 | x :: l, h => by rw [List.find?_cons, List.find?_cons, h x (by simp), Ob l fun y hy => h y (by simp [hy])]
theorem idx_eq (s : List UInt8) (c : UInt8) : ((List.range (⟨⟨s⟩⟩ : ByteArray).size).find? fun i => (⟨⟨s⟩⟩ : ByteArray)[i]! == c) = (List.range s.length).find? fun i => s[i]? == some c := by
 refine Ob _ fun i hi => ?_
 have hi : i < s.length := by have := List.mem_range.1 hi; exact this
 have : (⟨⟨s⟩⟩ : ByteArray)[i]! = s[i] := getElem!_pos (⟨⟨s⟩⟩ : ByteArray) i hi
 rw [this, List.getElem?_eq_getElem hi]
 rfl
def IZ (s : List UInt8) (c : Int) : Option Int := if 0 ≤ c ∧ c ≤ 255 then some (idxOf s (UInt8.ofNat c.toNat)) else none
end Go.Av
end
/-
  AV: maps of one's own, as plain lists of keys and values.
-/
section
namespace Go.Av
set_option linter.unusedVariables false
set_option linter.unusedSimpArgs false
structure Tc (P : Program) (t : TypeId) {K : Type} [DecidableEq K] (ek : K → AB) : Prop where
 ok : ∀ x, GF P 20 t (ek x) = true
 eq : ∀ x y, La P 10000 t (ek x) (ek y) = some (decide (x = y))
 same : ∀ x, KR (ek x) (ek x) = true
theorem WR {P : Program} {t : TypeId} (hu : P.underlying t = some .string) : Tc P t (fun s : List UInt8 => AB.str s) := by
 refine ⟨fun x => ?_, fun x y => ?_, fun x => by simp [KR, Mu]⟩
 ·unfold GF; rw [hu]
 ·show La P (9999 + 1) t _ _ = _
  unfold La
  rw [hu]
  simp only [Option.some.injEq]
  rw [Bool.eq_iff_iff]; simp
theorem Qj {P : Program} {t : TypeId} {k : IntKind} (hu : P.underlying t = some (.int k)) : Tc P t (fun n : Int => AB.int k n) := by
 refine ⟨fun x => ?_, fun x y => ?_, fun x => by simp [KR, Mu]⟩
 ·unfold GF; rw [hu]
 ·show La P (9999 + 1) t _ _ = _
  unfold La
  rw [hu]
  simp only [if_true, Option.some.injEq]
  rw [Bool.eq_iff_iff]; simp
section
variable {K V : Type} [DecidableEq K]
def Dm : List (K × V) → K → Option V
 | [], _ => none
 | (k', v) :: r, k => if k = k' then some v else Dm r k
def CO : List (K × V) → K → V → List (K × V)
 | [], k, v => [(k, v)]
 | (k', v') :: r, k, v => if k = k' then (k, v) :: r else (k', v') :: CO r k v
def RP : List (K × V) → K → List (K × V)
 | [], _ => []
 | (k', v') :: r, k => if k = k' then r else (k', v') :: RP r k
def Cz (ek : K → AB) (ev : V → AB) (m : List (K × V)) : List (AB × AB) := m.map fun p => (ek p.1, ev p.2)
variable {P : Program} {t kt et : TypeId} {ek : K → AB} {ev : V → AB} {g : Gd} {h : AH} {L F : List Ck}
theorem LX (E : Tc P kt ek) (k : K) (v : V) : ∀ (m : List (K × V)) (i : Nat),
  (HR P kt (ek k) (Cz ek ev m) i = some none ∧ Dm m k = none ∧ Cz ek ev (CO m k v) = Cz ek ev m ++ [(ek k, ev v)] ∧ RP m k = m) ∨
  (∃ j w, HR P kt (ek k) (Cz ek ev m) i = some (some (i + j, ev w)) ∧ Dm m k = some w ∧ (Cz ek ev m)[j]? = some (ek k, ev w) ∧ Cz ek ev (CO m k v) = (Cz ek ev m).set j (ek k, ev v) ∧ Cz ek ev (RP m k) = (Cz ek ev m).eraseIdx j)
 | [], i => .inl ⟨rfl, rfl, rfl, rfl⟩
 | (k', v') :: r, i => by
  have e1 : Cz ek ev ((k', v') :: r) = (ek k', ev v') :: Cz ek ev r := rfl
  rw [e1, HR, E.eq]
  by_cases hk : k = k'
  ·subst hk
   refine .inr ⟨0, v', ?_, ?_, rfl, ?_, ?_⟩
   ·simp
   ·simp [Dm]
   ·simp [CO, Cz]
   ·simp [RP]
  ·rw [decide_eq_false hk]
   rcases LX E k v r (i + 1) with ⟨h1, h2, h3, h4⟩ | ⟨j, w, h1, h2, h3, h4, h5⟩
   ·refine .inl ⟨h1, ?_, ?_, ?_⟩
    ·rw [Dm, if_neg hk]; exact h2
    ·rw [CO, if_neg hk]
     show (ek k', ev v') :: Cz ek ev (CO r k v) = _
     rw [h3]; rfl
    ·rw [RP, if_neg hk, h4]
   ·refine .inr ⟨j + 1, w, ?_, ?_, ?_, ?_, ?_⟩
    ·dsimp only
     rw [h1]; simp; omega
    ·rw [Dm, if_neg hk]; exact h2
    ·rw [List.getElem?_cons_succ]; exact h3
    ·rw [CO, if_neg hk]
     show (ek k', ev v') :: Cz ek ev (CO r k v) = _
     rw [h4]; rfl
    ·rw [RP, if_neg hk]
     show (ek k', ev v') :: Cz ek ev (RP r k) = _
     rw [h5]; rfl
theorem HH.Tz (E : Tc P kt ek) (a : HH g h L F) (n : Nat) {id : Nat} {m : List (K × V)} (hk : L[n]? = some (.obj id (.map 2 (Cz ek ev m)))) (hu : P.underlying t = some (.map kt et)) {z : V} (hz : Hk P et = some (ev z)) (k : K) :
  WK P h t (some id) (ek k) = some (ev ((Dm m k).getD z), (Dm m k).isSome) := by
 have hg := a.get n hk
 unfold WK
 rw [hu]
 simp only [E.ok, if_true, XJ, hg]
 rw [if_pos (by decide)]
 dsimp only
 rcases LX (ev := ev) E k z m 0 with ⟨h1, h2, _, _⟩ | ⟨j, w, h1, h2, _, _, _⟩
 ·rw [h1, h2]; simp [hz]
 ·rw [h1, h2]; rfl
theorem HH.RJ (E : Tc P kt ek) (a : HH g h L F) (n : Nat) {id : Nat} {m : List (K × V)} (hk : L[n]? = some (.obj id (.map 2 (Cz ek ev m)))) (hu : P.underlying t = some (.map kt et)) (k : K) (v : V) :
  ∃ h', XH P g h t (some id) (ek k) (ev v) = some h' ∧ HH g h' (L.set n (.obj id (.map 2 (Cz ek ev (CO m k v))))) F := by
 have hg := a.get n hk
 have hm : g.may id = true := a.PS hk (by simp [Ck.ids])
 refine ⟨h.set id (.map 2 (Cz ek ev (CO m k v))), ?_, a.set n _ hk⟩
 unfold XH Gk
 rw [hu]
 simp only [E.ok, hm, and_self, if_true, hg]
 rcases LX (ev := ev) E k v m 0 with ⟨h1, h2, h3, _⟩ | ⟨j, w, h1, h2, h3, h4, _⟩
 ·rw [h1, h3]
 ·rw [h1]
  simp only [Nat.zero_add, h3, E.same, if_true, h4]
end
end Go.Av
end
