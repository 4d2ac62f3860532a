/-
 A part.
-/
import Derived.Test.YtdjbadhilkmiiaaGreatDoorAvTy
import Derived.Carry
import Derived.WideShapes
import Derived.ChangeShapes
import Derived.OpenShut
namespace Go.Av
open Go.RowKit Go.ChangeShapes Go.WideShapes
set_option linter.unusedVariables false
def QZ (P : Program) : List Field → Nat → Nat → Bool
 | [], o, n => Nat.beq o n
 | f :: fs, o, n => Nat.beq f.offset o && QZ P fs (o + P.cellsOf f.type) n
def Ue : List AB → Option AB
 | [a] => some a
 | _ => none
def toArg (P : Program) (t : TypeId) (cs : List AB) : Option AB :=
 match P.underlying t with
 | some (.struct _) | some (.array _ _) => some (.agg cs)
 | some .bool | some (.int _) | some .string | some (.pointer _) | some (.slice _) | some (.map _ _) | some (.interface _) => Ue cs
 | _ => none
def mW (W : World) : Bc := ⟨fun _ => none, fun g o => match W.heap[g]? with | some (.cells cur _ _) => cur[o]? | _ => none, fun _ => False⟩
section
variable {H : Type} {enc : TypeId × Value → H} {P : Program} {W : World}
theorem Vs : Rel P W (mW W) ⟨0, .leaf⟩ W := by
 refine ⟨Below.refl _ _, fun id E hE => by simp [mW] at hE, fun id E o hE => by simp [mW] at hE, fun id E o hE => by simp [mW] at hE, fun id id' E E' o o' _ hE => by simp [mW] at hE, fun g o v hv => ?_, fun id E o hE => by simp [mW] at hE, fun g hg => hg.elim, fun id E o hE => by simp [mW] at hE⟩
 simp only [mW] at hv
 split at hv
 ·rename_i cur e z hc; exact ⟨cur, e, z, hc, hv⟩
 ·cases hv
theorem Kl {α : Type} {n : Nat} : ∀ (fs : List Field) (o : Nat) (l : List α), QZ P fs o n = true → l.length = n → o ≤ n → (fs.map fun f => (l.drop f.offset).take (P.cellsOf f.type)).flatten = l.drop o ∧ o ≤ n
 | [], o, l, h, hl, ho => by
  simp only [QZ] at h
  have := Nat.eq_of_beq_eq_true h
  exact ⟨by simp [← hl, this] , ho⟩
 | f :: fs, o, l, h, hl, ho => by
  simp only [QZ, Bool.and_eq_true] at h
  have e := Nat.eq_of_beq_eq_true h.1
  by_cases hle : o + P.cellsOf f.type ≤ n
  ·have ih := Kl fs (o + P.cellsOf f.type) l h.2 hl hle
   refine ⟨?_, ho⟩
   rw [List.map_cons, List.flatten_cons, ih.1, e, ← List.drop_drop, List.take_append_drop]
  ·exfalso
   have mono : ∀ (fs : List Field) (o n : Nat), QZ P fs o n = true → o ≤ n := by
    intro fs
    induction fs with
    | nil => intro o n h; simp only [QZ] at h; exact Nat.le_of_eq (Nat.eq_of_beq_eq_true h)
    | cons f fs ih => intro o n h; simp only [QZ, Bool.and_eq_true] at h; have := ih _ _ h.2; omega
   exact hle (mono fs _ _ h.2)
end
structure Lm (P : Program) {α : Type} (t : TypeId) (e : α → List AB) (ok : α → Prop) : Prop where
 h : ∀ {H : Type} {enc : TypeId × Value → H} {W : World} {held : Bool} (fuel : Nat) (cs : List Value) (d : DataW H) (ps : List MemPlace), DataW.trod enc P W 0 (fun _ => true) held fuel t cs = some (d, ps) → ∃ x, Cr (mW W) (e x) cs ∧ ok x
section
variable {P : Program}
theorem Xk {t : TypeId} (hu : P.underlying t = some .bool) : Lm P t eB (fun _ => True) := .mk fun {H enc W held} fuel cs d ps ht => by
 cases fuel with
 | zero => simp [DataW.trod] at ht
 | succ fuel =>
  unfold DataW.trod at ht
  rw [hu] at ht
  split at ht <;> first | contradiction | cases ‹(some (_ : TypeDesc)) = some _›
  rename_i b
  exact ⟨b, .cons (.bool _) (.nil _), trivial⟩
def TV (k : IntKind) (x : Int) : Prop := k.min ≤ x ∧ x ≤ k.max
theorem QF {t : TypeId} {k : IntKind} (hu : P.underlying t = some (.int k)) : Lm P t (eI k) (TV k) := .mk fun {H enc W held} fuel cs d ps ht => by
 cases fuel with
 | zero => simp [DataW.trod] at ht
 | succ fuel =>
  unfold DataW.trod at ht
  rw [hu] at ht
  split at ht <;> first | contradiction | cases ‹(some (_ : TypeDesc)) = some _›
  rename_i k2 n
  split at ht <;> try contradiction
  rename_i hk
  refine ⟨n, ?_, ?_⟩
  ·rw [hk.1]; exact .cons (.int _ _) (.nil _)
  ·have := hk.2
   simp only [Lit.wf, Bool.and_eq_true, decide_eq_true_eq] at this
   exact this
def Xt (x : List UInt8) : Prop := x.length ≤ 9223372036854775807
theorem XW {t : TypeId} (hu : P.underlying t = some .string) : Lm P t eS Xt := .mk fun {H enc W held} fuel cs d ps ht => by
 cases fuel with
 | zero => simp [DataW.trod] at ht
 | succ fuel =>
  unfold DataW.trod at ht
  rw [hu] at ht
  split at ht <;> first | contradiction | cases ‹(some (_ : TypeDesc)) = some _›
  rename_i s
  split at ht <;> try contradiction
  rename_i hk
  exact ⟨s.data.toList, .cons (.str _) (.nil _), hk⟩
structure Sj (P : Program) {α : Type} (ts : List TypeId) (e : α → List AB) (ok : α → Prop) : Prop where
 h : ∀ {H : Type} {enc : TypeId × Value → H} {W : World} {held : Bool} (fuel : Nat) (css : List (List Value)), css.length = ts.length → (∀ (i : Nat) c t, css[i]? = some c → ts[i]? = some t → ∃ (d : DataW H) (ps : List MemPlace), DataW.trod enc P W 0 (fun _ => true) held fuel t c = some (d, ps)) → ∃ x, Cr (mW W) (e x) css.flatten ∧ ok x
theorem VG : Sj P (α := Unit) [] (fun _ => []) (fun _ => True) := .mk fun {H enc W held} fuel css hl _ => by
 have : css = [] := List.length_eq_zero_iff.1 hl
 subst this
 exact ⟨(), .nil _, trivial⟩
theorem QP {α β : Type} {t : TypeId} {ts : List TypeId} {e : α → List AB} {e' : β → List AB} {ok : α → Prop} {ok' : β → Prop} (a : Lm P t e ok) (b : Sj P ts e' ok') : Sj P (t :: ts) (fun x : α × β => e x.1 ++ e' x.2) (fun x => ok x.1 ∧ ok' x.2) := .mk fun {H enc W held} fuel css hl hd => by
 cases css with
 | nil => simp at hl
 | cons c css =>
  obtain ⟨d, ps, ht⟩ := hd 0 c t rfl rfl
  obtain ⟨x, hx, k1⟩ := a.h fuel c d ps ht
  obtain ⟨y, hy, k2⟩ := b.h fuel css (by simpa using hl) (fun i c t hd' ht' => hd (i + 1) c t (by simpa using hd') (by simpa using ht'))
  exact ⟨(x, y), by rw [List.flatten_cons]; exact hx.app hy, k1, k2⟩
def QR (P : Program) (t : TypeId) (ts : List TypeId) : Bool :=
 match P.underlying t with
 | some (.struct fs) => QZ P fs.toList 0 (P.cellsOf t) && (fs.toList.map (·.type) == ts)
 | _ => false
theorem Xd {α β : Type} {t : TypeId} {ts : List TypeId} {e : α → List AB} {ok : α → Prop} {e' : β → List AB} {ok' : β → Prop} (hs : QR P t ts = true) (f : α → β) (he : ∀ x, e' (f x) = e x) (hk : ∀ x, ok x → ok' (f x)) (a : Sj P ts e ok) : Lm P t e' ok' := .mk fun {H enc W held} fuel cs d ps ht => by
 unfold QR at hs
 split at hs
 ·rename_i fs hu
  simp only [Bool.and_eq_true, beq_iff_eq] at hs
  cases fuel with
  | zero => simp [DataW.trod] at ht
  | succ fuel =>
   unfold DataW.trod at ht
   rw [hu] at ht
   split at ht <;> first | contradiction | cases ‹(some (_ : TypeDesc)) = some _› | exact absurd rfl (‹∀ fs_1 : Array Field, (some (TypeDesc.struct fs) : Option TypeDesc) = some (TypeDesc.struct fs_1) → False› fs)
   split at ht <;> try contradiction
   rename_i cs _ _ hl
   simp only [Option.map_eq_some_iff, Prod.mk.injEq] at ht
   obtain ⟨xs, hx, _⟩ := ht
   obtain ⟨x, h1, h2⟩ := a.h fuel (fs.toList.map fun f => (cs.drop f.offset).take (P.cellsOf f.type)) (by rw [← hs.2]; simp) (fun i c t hc ht => by
    rw [← hs.2] at ht
    rw [List.getElem?_map, Option.map_eq_some_iff] at hc ht
    obtain ⟨f1, hf1, rfl⟩ := hc
    obtain ⟨f2, hf2, rfl⟩ := ht
    have : f1 = f2 := Option.some.inj (hf1.symm.trans hf2)
    subst this
    have hg := mapM_some_get hx i f1 hf1
    have hi : i < xs.length := by rw [mapM_some_length hx]; exact (List.getElem?_eq_some_iff.1 hf1).1
    rw [List.getElem?_eq_getElem hi] at hg
    exact ⟨_, _, hg⟩)
   rw [(Kl (P := P) fs.toList 0 cs hs.1 hl (Nat.zero_le _)).1, List.drop_zero] at h1
   exact ⟨f x, by rw [he]; exact h1, hk x h2⟩
 ·cases hs
end
section
variable {H : Type} {enc : TypeId × Value → H} {P : Program} {W : World}
theorem GG {t : TypeId} {v : Value} {base : Nat} (hv : Value.okWide P W .any base t v) {m : Bc} {cs : List AB} {a : AB} (hc : Cr m cs v.cells.toList) (ha : toArg P t cs = some a) : VR m a v := by
 have one : ∀ {w : Value}, v = w → w.cells.toList = [w] → Ue cs = some a → VR m a v := by
  intro w hw hcells hx
  subst hw
  rw [hcells] at hc
  unfold Ue at hx
  split at hx
  ·injection hx with hx
   subst hx
   exact hc.2 0 _ _ rfl rfl
  ·cases hx
 unfold toArg at ha
 split at ha
 ·rename_i hu
  obtain ⟨c, hce, _⟩ := okWide_struct hu hv
  subst hce
  injection ha with ha
  subst ha
  exact Cr.agg hc
 ·rename_i hu
  unfold Value.okWide at hv
  rw [hu] at hv
  obtain ⟨c, hce, _⟩ := hv
  subst hce
  injection ha with ha
  subst ha
  exact Cr.agg hc
 ·rename_i hu; obtain ⟨b, hb⟩ := okWide_bool hu hv; exact one hb rfl ha
 ·rename_i hu; obtain ⟨b, hb⟩ := okWide_int hu hv; exact one hb rfl ha
 ·rename_i hu; obtain ⟨b, hb⟩ := okWide_string hu hv; exact one hb rfl ha
 ·rename_i hu; obtain ⟨b, hb⟩ := okWide_pointer hu hv; exact one hb rfl ha
 ·rename_i hu; obtain ⟨b, c, d, hb⟩ := okWide_slice hu hv; exact one hb rfl ha
 ·rename_i hu; obtain ⟨b, hb⟩ := okWide_map hu hv; exact one hb rfl ha
 ·rename_i hu
  rcases okWide_iface hu hv with hb | ⟨u, x, hb⟩
  ·exact one hb rfl ha
  ·exact one hb rfl ha
 ·cases ha
theorem LU (hl : laidOutB P = true) {W' : World} (hb : Below W.heap.size W W') : ∀ (ts : List TypeId) (vs : List Value) (ds : List (DataW H)) (ps : List MemPlace), (∀ t ∈ ts, P.readableRec t = true ∧ t < P.types.size) →
  DataW.TrodAll enc P W 0 (fun _ => true) true ts vs ds ps → (∀ x ∈ ps, x.block < W.heap.size) → DataW.TrodAll enc P W' 0 (fun b => decide (b < W.heap.size)) true ts vs ds ps
 | [], vs, ds, ps, _, hA, _ => by
  obtain ⟨rfl, rfl, rfl⟩ := trodAll_nil hA
  rfl
 | t :: ts, vs, ds, ps, hr, hA, hlt => by
  obtain ⟨v, vs', d, ds', p, q, rfl, rfl, rfl, h0, r0⟩ := trodAll_cons hA
  have h1 := hr t (by simp)
  exact trodAll_cons_mk (Below.trod hl h1.1 h1.2 h0 hb fun x hx => hlt x (by simp [hx])) (LU hl hb ts vs' ds' q (fun t ht => hr t (by simp [ht])) r0 fun x hx => hlt x (by simp [hx]))
theorem TR {C : HS} (hC : Hy C) (hz : Cn C.D9 W) (hl : laidOutB C.P = true) {f : FuncId} {fn : Func} {c : Code} (hfn : C.P.funcs[f]? = some fn) (hn : (fn.name == "runtime.NumGoroutine") = false) (hb : fn.body = some c)
  (hts : ∀ t ∈ fn.params.toList, C.P.readableRec t = true ∧ t < C.P.types.size) {tb : TypeId} (hrt : fn.resultTypes = #[tb]) (hub : C.P.underlying tb = some .bool)
  {s : ChangeSpec} (hvars : s.vars = []) {args : Array Value} {ds gs : List (DataW H)} {before : List MemPlace} (hspec : s.fn H (ds ++ []) = { results := [.lit (.bool true)], args := ds })
  (hW : DataW.Whole enc C.P fn.params.toList s.vars false W args.toList ds gs before)
  {av : List AB} (hvs : Cr (mW W) av args.toList) {h' : AJ} (hrun : Bi C ⟨0, []⟩ ⟨0, .leaf⟩ f av (.bool true) h') :
  Calls C.P f args W fun e W' => ∃ v, e = .returned v ∧ s.post enc C.P fn false true false false W args v W' := by
 have hW' := hW
 obtain ⟨p, q, hA0, hV, rfl, hfz, hnd⟩ := hW
 rw [hvars] at hV
 have hV' : gs = [] ∧ q = [] := by cases gs <;> simp [DataW.TrodVars] at hV <;> simp [hV]
 obtain ⟨rfl, rfl⟩ := hV'
 obtain ⟨n, hn'⟩ := hrun
 refine (R6 hC (n := n) hn' hfn hn hb hz Vs hvs).mono fun e W' ⟨v', he, m', _, hr', hv'⟩ => ?_
 subst he
 have ev : v' = .bool true := by cases hv'; rfl
 subst ev
 have bel := hr'.below
 have hlt : ∀ x ∈ p, x.block < W.heap.size := fun x hx => by simpa using hW'.lt x (by simpa using hx)
 refine ⟨_, rfl, ds, [], p ++ [], [], p, [], hW', ?_, ?_, ?_, bel.frame _, fun h => by cases h⟩
 ·rw [hspec, hrt]
  exact trodAll_mk1 (shut_bool hub _)
 ·rw [hspec]
  exact LU hl bel _ _ _ _ hts hA0 hlt
 ·rw [hspec, hvars]
  rfl
theorem HH.start : HH ⟨0, []⟩ ⟨0, .leaf⟩ [] [] := ⟨fun c hc => (by cases hc), by simp [CV], fun i hi => (by simp [CV] at hi), fun i hi => (by cases hi), Nat.le_refl _⟩
end
end Go.Av
