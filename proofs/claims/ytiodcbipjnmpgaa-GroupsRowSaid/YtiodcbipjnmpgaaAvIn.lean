/-
  ABS, 25: THE ARGUMENTS AS PLAIN LEAN VALUES: what is handed in lies in memory that nobody writes; and from an abstract run of a law to its row's contract.
-/
import Derived.Test.YtiodcbipjnmpgaaAvTy
import Derived.Carry
import Derived.WideShapes
import Derived.ChangeShapes
import Derived.OpenShut
namespace Go.Av
open Go.RowKit Go.ChangeShapes Go.WideShapes
set_option linter.unusedVariables false
def only1 : List AVal → Option AVal
 | [a] => some a
 | _ => none
def toArg (P : Program) (t : TypeId) (cs : List AVal) : Option AVal :=
 match P.underlying t with
 | some (.struct _) | some (.array _ _) => some (.agg cs)
 | some .bool | some (.int _) | some .string | some (.pointer _) | some (.slice _) | some (.map _ _) | some (.interface _) => only1 cs
 | _ => none
def mW (W : World) : Inj := ⟨fun _ => none, fun g o => match W.heap[g]? with | some (.cells cur _ _) => cur[o]? | _ => none, fun _ => False⟩
section
variable {H : Type} {enc : TypeId × Value → H} {P : Program} {W : World}
theorem rel_mW : Rel P W (mW W) ⟨0, .leaf⟩ W := by
 refine ⟨Below.refl _ _, fun id E hE => by simp [mW] at hE, fun id E o hE => by simp [mW] at hE, fun id E o hE => by simp [mW] at hE, fun id id' E E' o o' _ hE => by simp [mW] at hE, fun g o v hv => ?_, fun id E o hE => by simp [mW] at hE, fun g hg => hg.elim, fun id E o hE => by simp [mW] at hE⟩
 simp only [mW] at hv
 split at hv
 ·rename_i cur e z hc; exact ⟨cur, e, z, hc, hv⟩
 ·cases hv
end
structure ArgV (P : Program) {α : Type} (t : TypeId) (e : α → List AVal) (ok : α → Prop) : Prop where
 h : ∀ {H : Type} {enc : TypeId × Value → H} {W : World} {held : Bool} (fuel : Nat) (cs : List Value) (d : DataW H) (ps : List MemPlace), DataW.trod enc P W 0 (fun _ => true) held fuel t cs = some (d, ps) → ∃ x, VRs (mW W) (e x) cs ∧ ok x
section
variable {P : Program}
def okT (x : List UInt8) : Prop := x.length ≤ 9223372036854775807
theorem argS {t : TypeId} (hu : P.underlying t = some .string) : ArgV P t eS okT := .mk fun {H enc W held} fuel cs d ps ht => by
 cases fuel with
 | zero => simp [DataW.trod] at ht
 | succ fuel =>
  unfold DataW.trod at ht
  rw [hu] at ht
  split at ht <;> first | contradiction | cases ‹(some (_ : TypeDesc)) = some _›
  rename_i s
  split at ht <;> try contradiction
  rename_i hk
  exact ⟨s.data.toList, .cons (.str _) (.nil _), hk⟩
end
section
variable {H : Type} {enc : TypeId × Value → H} {P : Program} {W : World}
theorem toArg_ok {t : TypeId} {v : Value} {base : Nat} (hv : Value.okWide P W .any base t v) {m : Inj} {cs : List AVal} {a : AVal} (hc : VRs m cs v.cells.toList) (ha : toArg P t cs = some a) : VR m a v := by
 have one : ∀ {w : Value}, v = w → w.cells.toList = [w] → only1 cs = some a → VR m a v := by
  intro w hw hcells hx
  subst hw
  rw [hcells] at hc
  unfold only1 at hx
  split at hx
  ·injection hx with hx
   subst hx
   exact hc.2 0 _ _ rfl rfl
  ·cases hx
 unfold toArg at ha
 split at ha
 ·rename_i hu
  obtain ⟨c, hce, _⟩ := okWide_struct hu hv
  subst hce
  injection ha with ha
  subst ha
  exact VRs.agg hc
 ·rename_i hu
  unfold Value.okWide at hv
  rw [hu] at hv
  obtain ⟨c, hce, _⟩ := hv
  subst hce
  injection ha with ha
  subst ha
  exact VRs.agg hc
 ·rename_i hu; obtain ⟨b, hb⟩ := okWide_bool hu hv; exact one hb rfl ha
 ·rename_i hu; obtain ⟨b, hb⟩ := okWide_int hu hv; exact one hb rfl ha
 ·rename_i hu; obtain ⟨b, hb⟩ := okWide_string hu hv; exact one hb rfl ha
 ·rename_i hu; obtain ⟨b, hb⟩ := okWide_pointer hu hv; exact one hb rfl ha
 ·rename_i hu; obtain ⟨b, c, d, hb⟩ := okWide_slice hu hv; exact one hb rfl ha
 ·rename_i hu; obtain ⟨b, hb⟩ := okWide_map hu hv; exact one hb rfl ha
 ·rename_i hu
  rcases okWide_iface hu hv with hb | ⟨u, x, hb⟩
  ·exact one hb rfl ha
  ·exact one hb rfl ha
 ·cases ha
theorem trodAll_below (hl : laidOutB P = true) {W' : World} (hb : Below W.heap.size W W') : ∀ (ts : List TypeId) (vs : List Value) (ds : List (DataW H)) (ps : List MemPlace), (∀ t ∈ ts, P.readableRec t = true ∧ t < P.types.size) →
  DataW.TrodAll enc P W 0 (fun _ => true) true ts vs ds ps → (∀ x ∈ ps, x.block < W.heap.size) → DataW.TrodAll enc P W' 0 (fun b => decide (b < W.heap.size)) true ts vs ds ps
 | [], vs, ds, ps, _, hA, _ => by
  obtain ⟨rfl, rfl, rfl⟩ := trodAll_nil hA
  rfl
 | t :: ts, vs, ds, ps, hr, hA, hlt => by
  obtain ⟨v, vs', d, ds', p, q, rfl, rfl, rfl, h0, r0⟩ := trodAll_cons hA
  have h1 := hr t (by simp)
  exact trodAll_cons_mk (Below.trod hl h1.1 h1.2 h0 hb fun x hx => hlt x (by simp [hx])) (trodAll_below hl hb ts vs' ds' q (fun t ht => hr t (by simp [ht])) r0 fun x hx => hlt x (by simp [hx]))
theorem contractV {C : Cfg} (hC : CfgOk C) (hz : GlobOk C.glob W) (hl : laidOutB C.P = true) {f : FuncId} {fn : Func} {c : Code} (hfn : C.P.funcs[f]? = some fn) (hn : (fn.name == "runtime.NumGoroutine") = false) (hb : fn.body = some c)
  (hts : ∀ t ∈ fn.params.toList, C.P.readableRec t = true ∧ t < C.P.types.size) {tb : TypeId} (hrt : fn.resultTypes = #[tb]) (hub : C.P.underlying tb = some .bool)
  {s : ChangeSpec} (hvars : s.vars = []) {args : Array Value} {ds gs : List (DataW H)} {before : List MemPlace} (hspec : s.fn H (ds ++ []) = { results := [.lit (.bool true)], args := ds })
  (hW : DataW.Whole enc C.P fn.params.toList s.vars false W args.toList ds gs before)
  {av : List AVal} (hvs : VRs (mW W) av args.toList) {h' : AHeap} (hrun : Runs C ⟨0, []⟩ ⟨0, .leaf⟩ f av (.bool true) h') :
  Calls C.P f args W fun e W' => ∃ v, e = .returned v ∧ s.post enc C.P fn false true false false W args v W' := by
 have hW' := hW
 obtain ⟨p, q, hA0, hV, rfl, hfz, hnd⟩ := hW
 rw [hvars] at hV
 have hV' : gs = [] ∧ q = [] := by cases gs <;> simp [DataW.TrodVars] at hV <;> simp [hV]
 obtain ⟨rfl, rfl⟩ := hV'
 obtain ⟨n, hn'⟩ := hrun
 refine (runA_calls hC (n := n) hn' hfn hn hb hz rel_mW hvs).mono fun e W' ⟨v', he, m', _, hr', hv'⟩ => ?_
 subst he
 have ev : v' = .bool true := by cases hv'; rfl
 subst ev
 have bel := hr'.below
 have hlt : ∀ x ∈ p, x.block < W.heap.size := fun x hx => by simpa using hW'.lt x (by simpa using hx)
 refine ⟨_, rfl, ds, [], p ++ [], [], p, [], hW', ?_, ?_, ?_, bel.frame _, fun h => by cases h⟩
 ·rw [hspec, hrt]
  exact trodAll_mk1 (shut_bool hub _)
 ·rw [hspec]
  exact trodAll_below hl bel _ _ _ _ hts hA0 hlt
 ·rw [hspec, hvars]
  rfl
theorem HH.start : HH ⟨0, []⟩ ⟨0, .leaf⟩ [] [] := ⟨fun c hc => (by cases hc), by simp [idsL], fun i hi => (by simp [idsL] at hi), fun i hi => (by cases hi), Nat.le_refl _⟩
end
end Go.Av
