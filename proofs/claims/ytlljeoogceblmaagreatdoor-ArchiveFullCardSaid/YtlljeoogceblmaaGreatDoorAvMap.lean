/-
  Several texts in one.
-/
import Derived.Test.YtlljeoogceblmaaGreatDoorAvTy
import Derived.Carry
import Derived.WideShapes
import Derived.ChangeShapes
import Derived.OpenShut
import Derived.IntWalk
/-
 A part.
-/
section
namespace Go.Av
open Go.RowKit Go.ChangeShapes Go.WideShapes
set_option linter.unusedVariables false
def Tm : List AB → Option AB
 | [a] => some a
 | _ => none
def toArg (P : Program) (t : TypeId) (cs : List AB) : Option AB :=
 match P.underlying t with
 | some (.struct _) | some (.array _ _) => some (.agg cs)
 | some .bool | some (.int _) | some .string | some (.pointer _) | some (.slice _) | some (.map _ _) | some (.interface _) => Tm cs
 | _ => none
def mW (W : World) : BK := ⟨fun _ => none, fun g o => match W.heap[g]? with | some (.cells cur _ _) => cur[o]? | _ => none, fun _ _ => False⟩
section
variable {H : Type} {enc : TypeId × Value → H} {P : Program} {W : World}
theorem XI : Rel P W (mW W) ⟨0, .leaf⟩ W := by
 refine ⟨Below.refl _ _, fun id E N => by simp [mW] at N, fun id E o N => by simp [mW] at N, fun id E o N => by simp [mW] at N, fun id id' E E' o o' _ N => by simp [mW] at N, fun g o v I => ?_, fun id E o N => by simp [mW] at N, fun g x hg => hg.elim, fun id E o N => by simp [mW] at N⟩
 simp only [mW] at I
 split at I
 ·rename_i cur e z hc; exact ⟨cur, e, z, hc, I⟩
 ·cases I
end
structure YV (P : Program) {α : Type} (t : TypeId) (e : α → List AB) (ok : α → Prop) : Prop where
 h : ∀ {H : Type} {enc : TypeId × Value → H} {W : World} {held : Bool} (fuel : Nat) (cs : List Value) (d : DataW H) (ps : List MemPlace), DataW.trod enc P W 0 (fun _ => true) held fuel t cs = some (d, ps) → ∃ x, CS (mW W) (e x) cs ∧ ok x
section
variable {P : Program}
def Yl (k : IntKind) (x : Int) : Prop := k.min ≤ x ∧ x ≤ k.max
theorem Ys {t : TypeId} {k : IntKind} (hu : P.underlying t = some (.int k)) : YV P t (eI k) (Yl k) := .mk fun {H enc W held} fuel cs d ps R => by
 cases fuel with
 | zero => simp [DataW.trod] at R
 | succ fuel =>
  unfold DataW.trod at R
  rw [hu] at R
  split at R <;> first | contradiction | cases ‹(some (_ : TypeDesc)) = some _›
  rename_i k2 n
  split at R <;> try contradiction
  rename_i hk
  refine ⟨n, ?_, ?_⟩
  ·rw [hk.1]; exact .cons (.int _ _) (.nil _)
  ·have := hk.2
   simp only [Lit.wf, Bool.and_eq_true, decide_eq_true_eq] at this
   exact this
end
section
variable {H : Type} {enc : TypeId × Value → H} {P : Program} {W : World}
theorem Uf {t : TypeId} {v : Value} {base : Nat} (I : Value.okWide P W .any base t v) {m : BK} {cs : List AB} {a : AB} (hc : CS m cs v.cells.toList) (D : toArg P t cs = some a) : VR m a v := by
 have one : ∀ {w : Value}, v = w → w.cells.toList = [w] → Tm cs = some a → VR m a v := by
  intro w hw hcells G
  subst hw
  rw [hcells] at hc
  unfold Tm at G
  split at G
  ·injection G with G
   subst G
   exact hc.2 0 _ _ rfl rfl
  ·cases G
 unfold toArg at D
 split at D
 ·rename_i hu
  obtain ⟨c, S, _⟩ := okWide_struct hu I
  subst S
  injection D with D
  subst D
  exact CS.agg hc
 ·rename_i hu
  unfold Value.okWide at I
  rw [hu] at I
  obtain ⟨c, S, _⟩ := I
  subst S
  injection D with D
  subst D
  exact CS.agg hc
 ·rename_i hu; obtain ⟨b, B⟩ := okWide_bool hu I; exact one B rfl D
 ·rename_i hu; obtain ⟨b, B⟩ := okWide_int hu I; exact one B rfl D
 ·rename_i hu; obtain ⟨b, B⟩ := okWide_string hu I; exact one B rfl D
 ·rename_i hu; obtain ⟨b, B⟩ := okWide_pointer hu I; exact one B rfl D
 ·rename_i hu; obtain ⟨b, c, d, B⟩ := okWide_slice hu I; exact one B rfl D
 ·rename_i hu; obtain ⟨b, B⟩ := okWide_map hu I; exact one B rfl D
 ·rename_i hu
  rcases okWide_iface hu I with B | ⟨u, x, B⟩
  ·exact one B rfl D
  ·exact one B rfl D
 ·cases D
theorem Kx (U : laidOutB P = true) {W' : World} (B : Below W.heap.size W W') : ∀ (ts : List TypeId) (vs : List Value) (ds : List (DataW H)) (ps : List MemPlace), (∀ t ∈ ts, P.readableRec t = true ∧ t < P.types.size) →
  DataW.TrodAll enc P W 0 (fun _ => true) true ts vs ds ps → (∀ x ∈ ps, x.block < W.heap.size) → DataW.TrodAll enc P W' 0 (fun b => decide (b < W.heap.size)) true ts vs ds ps
 | [], vs, ds, ps, _, hA, _ => by
  obtain ⟨rfl, rfl, rfl⟩ := trodAll_nil hA
  rfl
 | t :: ts, vs, ds, ps, Y, hA, O => by
  obtain ⟨v, vs', d, ds', p, q, rfl, rfl, rfl, h0, r0⟩ := trodAll_cons hA
  have h1 := Y t (by simp)
  exact trodAll_cons_mk (Below.trod U h1.1 h1.2 h0 B fun x G => O x (by simp [G])) (Kx U B ts vs' ds' q (fun t R => Y t (by simp [R])) r0 fun x G => O x (by simp [G]))
theorem S2 {C : E8} (hC : G2 C) (X : Bt C.Ca W) (U : laidOutB C.P = true) {f : FuncId} {fn : Func} {c : Code} (hfn : C.P.funcs[f]? = some fn) (Z : (fn.name == "runtime.NumGoroutine") = false) (B : fn.body = some c)
  (hts : ∀ t ∈ fn.params.toList, C.P.readableRec t = true ∧ t < C.P.types.size) {tb : TypeId} (hrt : fn.resultTypes = #[tb]) (hub : C.P.underlying tb = some .bool)
  {s : ChangeSpec} (M : s.vars = []) {args : Array Value} {ds gs : List (DataW H)} {before : List MemPlace} (J : s.fn H (ds ++ []) = { results := [.lit (.bool true)], args := ds })
  (hW : DataW.Whole enc C.P fn.params.toList s.vars false W args.toList ds gs before)
  {av : List AB} (hvs : CS (mW W) av args.toList) {h' : AF} (hrun : BZ C ⟨0, []⟩ ⟨0, .leaf⟩ f av (.bool true) h') :
  Calls C.P f args W fun e W' => ∃ v, e = .returned v ∧ s.post enc C.P fn false true false false W args v W' := by
 have hW' := hW
 obtain ⟨p, q, hA0, hV, rfl, hfz, hnd⟩ := hW
 rw [M] at hV
 have hV' : gs = [] ∧ q = [] := by cases gs <;> simp [DataW.TrodVars] at hV <;> simp [hV]
 obtain ⟨rfl, rfl⟩ := hV'
 obtain ⟨n, hn'⟩ := hrun
 refine (Rq hC (n := n) hn' hfn Z B X XI hvs).mono fun e W' ⟨v', he, m', _, hr', hv'⟩ => ?_
 subst he
 have ev : v' = .bool true := by cases hv'; rfl
 subst ev
 have bel := hr'.below
 have O : ∀ x ∈ p, x.block < W.heap.size := fun x G => by simpa using hW'.lt x (by simpa using G)
 refine ⟨_, rfl, ds, [], p ++ [], [], p, [], hW', ?_, ?_, ?_, bel.frame _, fun h => by cases h⟩
 ·rw [J, hrt]
  exact trodAll_mk1 (shut_bool hub _)
 ·rw [J]
  exact Kx U bel _ _ _ _ hts hA0 O
 ·rw [J, M]
  rfl
theorem HH.start : HH ⟨0, []⟩ ⟨0, .leaf⟩ [] [] := ⟨fun c hc => (by cases hc), by simp [C6], fun i hi => (by simp [C6] at hi), fun i hi => (by cases hi), Nat.le_refl _⟩
end
end Go.Av
end
/-
 A part.
-/
section
namespace Go.Av
open Go.RowKit
set_option linter.unusedVariables false
def idxOf (s : List UInt8) (c : UInt8) : Int := match (List.range s.length).find? fun i => s[i]? == some c with | some i => (i : Int) | none => -1
def Tc (h : AF) : List AB → Option (AB × AF)
 | [.str s, .int .u8 c] => if 0 ≤ c ∧ c ≤ 255 then some (.int .i64 (idxOf s (UInt8.ofNat c.toNat)), h) else none
 | _ => none
theorem PC {α : Type} {p q : α → Bool} : ∀ (l : List α), (∀ x ∈ l, p x = q x) → l.find? p = l.find? q
 | [], _ => rfl
 | x :: l, h => by rw [List.find?_cons, List.find?_cons, h x (by simp), PC l fun y hy => h y (by simp [hy])]
theorem idx_eq (s : List UInt8) (c : UInt8) : ((List.range (⟨⟨s⟩⟩ : ByteArray).size).find? fun i => (⟨⟨s⟩⟩ : ByteArray)[i]! == c) = (List.range s.length).find? fun i => s[i]? == some c := by
 refine PC _ fun i hi => ?_
 have hi : i < s.length := by have := List.mem_range.1 hi; exact this
 have : (⟨⟨s⟩⟩ : ByteArray)[i]! = s[i] := getElem!_pos (⟨⟨s⟩⟩ : ByteArray) i hi
 rw [this, List.getElem?_eq_getElem hi]
 rfl
def IK (s : List UInt8) (c : Int) : Option Int := if 0 ≤ c ∧ c ≤ 255 then some (idxOf s (UInt8.ofNat c.toNat)) else none
end Go.Av
end
/-
 A part.
-/
section
namespace Go.Av
set_option linter.unusedVariables false
set_option linter.unusedSimpArgs false
theorem RC {x : Int} (h1 : -9223372036854775808 ≤ x) (h2 : x ≤ 9223372036854775807) : IntKind.i64.wrap x = x := by rw [IntKind.wrap_i64]; omega
theorem Zm {x : Int} (h1 : 0 ≤ x) (h2 : x ≤ 255) : IntKind.u8.wrap x = x := by rw [IntKind.wrap_u8]; omega
theorem N8 {α : Type} (p : Prop) [Decidable p] (x y : Option α) : Ao (decide p) x y = if p then x else y := by
 by_cases h : p <;> simp [h]
theorem B9 {σ ρ : Type} {step : σ → Option (σ ⊕ ρ)} {s s' : σ} (h : step s = some (.inl s')) : loop step s = loop step s' := by
 by_cases G : ∃ r, loop step s' = some r
 ·obtain ⟨r, Y⟩ := G
  rw [Y]; exact Oz h Y
 ·cases U : loop step s with
  | none =>
   cases hl' : loop step s' with
   | none => rfl
   | some r => exact absurd ⟨r, hl'⟩ G
  | some r =>
   obtain ⟨n, Z⟩ := P3 U
   cases n with
   | zero => cases Z
   | succ n =>
    simp only [G0, h] at Z
    exact absurd ⟨r, P0 Z⟩ G
theorem De {σ ρ : Type} {step : σ → Option (σ ⊕ ρ)} {s : σ} {r : ρ} (h : step s = some (.inr r)) : loop step s = some r := PJ h
def W {α : Type} (m : Option α) (Q : α → Prop) : Prop := ∃ r, m = some r ∧ Q r
theorem W.mono {α : Type} {m : Option α} {Q Q' : α → Prop} (w : W m Q) (h : ∀ r, Q r → Q' r) : W m Q' := by obtain ⟨r, e, q⟩ := w; exact ⟨r, e, h r q⟩
theorem W.ret {α : Type} {x : α} {Q : α → Prop} (h : Q x) : W (some x) Q := ⟨x, rfl, h⟩
theorem W.bind {α β : Type} {m : Option α} {k : α → Option β} {Q : β → Prop} (w : W m fun x => W (k x) Q) : W (m.bind k) Q := by obtain ⟨r, e, q⟩ := w; rw [e]; exact q
theorem W.ite {α : Type} {b : Bool} {x y : Option α} {Q : α → Prop} (h1 : b = true → W x Q) (h2 : b = false → W y Q) : W (Ao b x y) Q := by cases b; exact h2 rfl; exact h1 rfl
theorem W.Wb {α : Type} {p : Prop} [Decidable p] {x y : Option α} {Q : α → Prop} (h1 : p → W x Q) (h2 : ¬ p → W y Q) : W (Ao (decide p) x y) Q := by by_cases h : p <;> simp [h, h1, h2]
theorem W.Cl {α : Type} {b : Bool} {x : Option α} {Q : α → Prop} (h1 : b = true) (h2 : W x Q) : W (Cl b x) Q := by rw [h1]; exact h2
theorem W.loop {σ ρ : Type} {step : σ → Option (σ ⊕ ρ)} {s : σ} {Q : ρ → Prop} (inv : σ → Prop) (μ : σ → Nat) (hi : inv s)
  (hs : ∀ s, inv s → W (step s) (fun r => match r with | .inl s' => inv s' ∧ μ s' < μ s | .inr r => Q r)) : W (Av.loop step s) Q := by
 refine TE inv μ Q (fun s hi => ?_) s hi
 obtain ⟨r, e, q⟩ := hs s hi
 cases r with
 | inl s' => exact .inl ⟨s', e, q⟩
 | inr r => exact .inr ⟨r, e, q⟩
theorem Tk {n : Nat} {u : Int} (h : 0 ≤ u ∧ u ≤ n) : RD n none (some u) = some (0, u.toNat) := by simp only [RD]; rw [if_pos h]
theorem UK {n : Nat} {l : Int} (h : 0 ≤ l ∧ l ≤ n) : RD n (some l) none = some (l.toNat, n) := by simp only [RD]; rw [if_pos h]
theorem UB {k : Nat} (h : k < 4611686018427387904) : IntKind.i64.wrap ((k : Int) + 1) = ((k + 1 : Nat) : Int) := by rw [RC (by omega) (by omega)]; omega
theorem G5 {α : Type} {l : List α} {i : Nat} {x : α} (h : l[i]? = some x) : Ii l (i : Int) = some x := by
 unfold Ii
 rw [if_pos (by omega), Int.toNat_natCast, h]
theorem SY {s : List UInt8} {i : Nat} (h : i ≤ s.length) : IX s (some (i : Int)) none = some (s.drop i) := by
 unfold IX
 rw [UK ⟨by omega, by omega⟩]
 simp only [Option.map_some, Int.toNat_natCast]
 rw [List.take_of_length_le (by simp)]
theorem SS {s : List UInt8} {i : Nat} (h : i ≤ s.length) : IX s none (some (i : Int)) = some (s.take i) := by
 unfold IX
 rw [Tk ⟨by omega, by omega⟩]
 simp
theorem Vo {α : Type} {s : List α} {i : Nat} (h : i ≤ s.length) : Kd s (some (i : Int)) none = some (s.drop i) := by
 unfold Kd
 rw [UK ⟨by omega, by omega⟩]
 simp only [Option.map_some, Int.toNat_natCast]
 rw [List.take_of_length_le (by simp)]
theorem SJ {α : Type} {s : List α} {i : Nat} (h : i ≤ s.length) : Kd s none (some (i : Int)) = some (s.take i) := by
 unfold Kd
 rw [Tk ⟨by omega, by omega⟩]
 simp
theorem Jt {b n : Nat} (h : n ≤ 1099511627776) (h2 : n * b ≤ 1099511627776) : Hs b n = true := decide_eq_true ⟨h, h2⟩
theorem V2 {α : Type} {l : List α} {i : Nat} (h : i < l.length) : Ii l (i : Int) = some l[i] := G5 (List.getElem?_eq_getElem h)
end Go.Av
end
/-
 A part.
-/
section
namespace Go.Av
set_option linter.unusedVariables false
set_option linter.unusedSimpArgs false
structure Tl (P : Program) (t : TypeId) {K : Type} [DecidableEq K] (ek : K → AB) : Prop where
 ok : ∀ x, Ed P 20 t (ek x) = true
 eq : ∀ x y, Ho P 10000 t (ek x) (ek y) = some (decide (x = y))
 same : ∀ x, KJ (ek x) (ek x) = true
theorem Wu {P : Program} {t : TypeId} (hu : P.underlying t = some .string) : Tl P t (fun s : List UInt8 => AB.str s) := by
 refine ⟨fun x => ?_, fun x y => ?_, fun x => by simp [KJ, Mo]⟩
 ·unfold Ed; rw [hu]
 ·show Ho P (9999 + 1) t _ _ = _
  unfold Ho
  rw [hu]
  simp only [Option.some.injEq]
  rw [Bool.eq_iff_iff]; simp
theorem M4 {P : Program} {t : TypeId} {k : IntKind} (hu : P.underlying t = some (.int k)) : Tl P t (fun n : Int => AB.int k n) := by
 refine ⟨fun x => ?_, fun x y => ?_, fun x => by simp [KJ, Mo]⟩
 ·unfold Ed; rw [hu]
 ·show Ho P (9999 + 1) t _ _ = _
  unfold Ho
  rw [hu]
  simp only [if_true, Option.some.injEq]
  rw [Bool.eq_iff_iff]; simp
section
variable {K V : Type} [DecidableEq K]
def E9 : List (K × V) → K → Option V
 | [], _ => none
 | (k', v) :: r, k => if k = k' then some v else E9 r k
def Cf : List (K × V) → K → V → List (K × V)
 | [], k, v => [(k, v)]
 | (k', v') :: r, k, v => if k = k' then (k, v) :: r else (k', v') :: Cf r k v
def Rx : List (K × V) → K → List (K × V)
 | [], _ => []
 | (k', v') :: r, k => if k = k' then r else (k', v') :: Rx r k
def Di (ek : K → AB) (ev : V → AB) (m : List (K × V)) : List (AB × AB) := m.map fun p => (ek p.1, ev p.2)
variable {P : Program} {t kt et : TypeId} {ek : K → AB} {ev : V → AB} {g : Gd} {h : AF} {L F : List Ck}
theorem LS (E : Tl P kt ek) (k : K) (v : V) : ∀ (m : List (K × V)) (i : Nat),
  (DG P kt (ek k) (Di ek ev m) i = some none ∧ E9 m k = none ∧ Di ek ev (Cf m k v) = Di ek ev m ++ [(ek k, ev v)] ∧ Rx m k = m) ∨
  (∃ j w, DG P kt (ek k) (Di ek ev m) i = some (some (i + j, ev w)) ∧ E9 m k = some w ∧ (Di ek ev m)[j]? = some (ek k, ev w) ∧ Di ek ev (Cf m k v) = (Di ek ev m).set j (ek k, ev v) ∧ Di ek ev (Rx m k) = (Di ek ev m).eraseIdx j)
 | [], i => .inl ⟨rfl, rfl, rfl, rfl⟩
 | (k', v') :: r, i => by
  have e1 : Di ek ev ((k', v') :: r) = (ek k', ev v') :: Di ek ev r := rfl
  rw [e1, DG, E.eq]
  by_cases hk : k = k'
  ·subst hk
   refine .inr ⟨0, v', ?_, ?_, rfl, ?_, ?_⟩
   ·simp
   ·simp [E9]
   ·simp [Cf, Di]
   ·simp [Rx]
  ·rw [decide_eq_false hk]
   rcases LS E k v r (i + 1) with ⟨h1, h2, T, h4⟩ | ⟨j, w, h1, h2, T, h4, h5⟩
   ·refine .inl ⟨h1, ?_, ?_, ?_⟩
    ·rw [E9, if_neg hk]; exact h2
    ·rw [Cf, if_neg hk]
     show (ek k', ev v') :: Di ek ev (Cf r k v) = _
     rw [T]; rfl
    ·rw [Rx, if_neg hk, h4]
   ·refine .inr ⟨j + 1, w, ?_, ?_, ?_, ?_, ?_⟩
    ·dsimp only
     rw [h1]; simp; omega
    ·rw [E9, if_neg hk]; exact h2
    ·rw [List.getElem?_cons_succ]; exact T
    ·rw [Cf, if_neg hk]
     show (ek k', ev v') :: Di ek ev (Cf r k v) = _
     rw [h4]; rfl
    ·rw [Rx, if_neg hk]
     show (ek k', ev v') :: Di ek ev (Rx r k) = _
     rw [h5]; rfl
theorem HH.WO (E : Tl P kt ek) (a : HH g h L F) (n : Nat) {id : Nat} {m : List (K × V)} (hk : L[n]? = some (.obj id (.map 2 (Di ek ev m)))) (hu : P.underlying t = some (.map kt et)) {z : V} (X : Fm P et = some (ev z)) (k : K) :
  T3 P h t (some id) (ek k) = some (ev ((E9 m k).getD z), (E9 m k).isSome) := by
 have hg := a.get n hk
 unfold T3
 rw [hu]
 simp only [E.ok, if_true, XU, hg]
 rw [if_pos (by decide)]
 dsimp only
 rcases LS (ev := ev) E k z m 0 with ⟨h1, h2, _, _⟩ | ⟨j, w, h1, h2, _, _, _⟩
 ·rw [h1, h2]; simp [X]
 ·rw [h1, h2]; rfl
theorem HH.MF (E : Tl P kt ek) (a : HH g h L F) (n : Nat) {id : Nat} {m : List (K × V)} (hk : L[n]? = some (.obj id (.map 2 (Di ek ev m)))) (hu : P.underlying t = some (.map kt et)) (k : K) (v : V) (X : HT g h (ev v) = some (ev v, h) := by rfl) :
  ∃ h', Yd P g h t (some id) (ek k) (ev v) = some h' ∧ HH g h' (L.set n (.obj id (.map 2 (Di ek ev (Cf m k v))))) F := by
 have hg := a.get n hk
 have hm : g.may id = true := a.Jf hk (by simp [Ck.ids])
 refine ⟨h.set id (.map 2 (Di ek ev (Cf m k v))), ?_, a.set n _ hk⟩
 unfold Yd E3
 rw [X]
 show HA P g h t (.map (some id)) (ek k) (ev v) = _
 unfold HA
 rw [hu]
 simp only [E.ok, hm, and_self, if_true, hg]
 rcases LS (ev := ev) E k v m 0 with ⟨h1, h2, T, _⟩ | ⟨j, w, h1, h2, T, h4, _⟩
 ·rw [h1, T]
 ·rw [h1]
  simp only [Nat.zero_add, T, E.same, if_true, h4]
end
end Go.Av
end
