/-
  ABS, 20: FROM AN ABSTRACT RUN OF A LAW TO THE ROW's CONTRACT.
-/
import Derived.Test.YtmjljpnalhknfaaDoorAbsArg
import Derived.WideShapes
import Derived.ChangeShapes
import Derived.OpenShut
namespace Go.Abs
open Go.RowKit Go.ChangeShapes Go.WideShapes

def only1 : List AVal → Option AVal
  | [a] => some a
  | _ => none
/-- an argument's value, of its cells -/
def toArg (P : Program) (t : TypeId) (cs : List AVal) : Option AVal :=
  match P.underlying t with
  | some (.struct _) | some (.array _ _) => some (.agg cs)
  | some .bool | some (.int _) | some .string | some (.pointer _) | some (.slice _) | some (.map _ _) | some (.interface _) => only1 cs
  | _ => none
def argsA {H : Type} (P : Program) : List TypeId → AHeap → List (DataW H) → Option (List AVal × AHeap)
  | [], h, [] => some ([], h)
  | t :: ts, h, d :: ds => (absD P t h d).bind fun x => (toArg P t x.1).bind fun a => (argsA P ts x.2 ds).map fun y => (a :: y.1, y.2)
  | _, _, _ => none

section
variable {H : Type} {enc : TypeId × Value → H} {P : Program} {W : World}

theorem toArg_ok {t : TypeId} {v : Value} {base : Nat} (hv : Value.okWide P W .any base t v) {m : Inj} {cs : List AVal} {a : AVal} (hc : VRs m cs v.cells.toList) (ha : toArg P t cs = some a) : VR m a v := by
  have one : ∀ {w : Value}, v = w → w.cells.toList = [w] → only1 cs = some a → VR m a v := by
    intro w hw hcells hx
    subst hw
    rw [hcells] at hc
    unfold only1 at hx
    split at hx
    · injection hx with hx
      subst hx
      exact hc.2 0 _ _ rfl rfl
    · cases hx
  unfold toArg at ha
  split at ha
  · rename_i hu
    obtain ⟨c, hce, _⟩ := okWide_struct hu hv
    subst hce
    injection ha with ha
    subst ha
    exact VRs.agg hc
  · rename_i hu
    unfold Value.okWide at hv
    rw [hu] at hv
    obtain ⟨c, hce, _⟩ := hv
    subst hce
    injection ha with ha
    subst ha
    exact VRs.agg hc
  · rename_i hu; obtain ⟨b, hb⟩ := okWide_bool hu hv; exact one hb rfl ha
  · rename_i hu; obtain ⟨b, hb⟩ := okWide_int hu hv; exact one hb rfl ha
  · rename_i hu; obtain ⟨b, hb⟩ := okWide_string hu hv; exact one hb rfl ha
  · rename_i hu; obtain ⟨b, hb⟩ := okWide_pointer hu hv; exact one hb rfl ha
  · rename_i hu; obtain ⟨b, c, d, hb⟩ := okWide_slice hu hv; exact one hb rfl ha
  · rename_i hu; obtain ⟨b, hb⟩ := okWide_map hu hv; exact one hb rfl ha
  · rename_i hu
    rcases okWide_iface hu hv with hb | ⟨u, x, hb⟩
    · exact one hb rfl ha
    · exact one hb rfl ha
  · cases ha

theorem argsA_ok {base : Nat} : ∀ (ts : List TypeId) (vs : List Value) (ds : List (DataW H)) (ps : List MemPlace) (h : AHeap) (m : Inj) (as : List AVal) (h' : AHeap), DataW.TrodAll enc P W 0 (fun _ => true) true ts vs ds ps →
    (∀ (j : Nat) t v, ts[j]? = some t → vs[j]? = some v → Value.okWide P W .any base t v) → argsA P ts h ds = some (as, h') → Rel P W m h W → ∃ m' : Inj, (∀ id, id < h.size → m' id = m id) ∧ h.size ≤ h'.size ∧ Rel P W m' h' W ∧ VRs m' as vs
  | [], vs, ds, ps, h, m, as, h', hA, _, ha, r => by
    obtain ⟨rfl, rfl, rfl⟩ := trodAll_nil hA
    simp only [argsA, Option.some.injEq, Prod.mk.injEq] at ha
    obtain ⟨rfl, rfl⟩ := ha
    exact ⟨m, fun _ _ => rfl, Nat.le_refl _, r, .nil m⟩
  | t :: ts, vs, ds, ps, h, m, as, h', hA, hval, ha, r => by
    obtain ⟨v, vs', d, ds', p, q, rfl, rfl, rfl, h0, r0⟩ := trodAll_cons hA
    simp only [argsA] at ha
    obtain ⟨⟨cs, h1⟩, e1, ha⟩ := bind_some ha
    obtain ⟨a, e2, ha⟩ := bind_some ha
    simp only [Option.map_eq_some_iff, Prod.mk.injEq] at ha
    obtain ⟨⟨bs, h2⟩, e3, e4, e5⟩ := ha
    dsimp only at e2 e3 e4 e5
    subst e4
    subst e5
    obtain ⟨fuel, hf⟩ := h0
    obtain ⟨m1, g1, g2, g3, g4, g5⟩ := absD_ok fuel t _ d p hf h m cs h1 e1 r
    obtain ⟨m2, k1, k2, k3, k4⟩ := argsA_ok ts vs' ds' q h1 m1 bs h2 r0 (fun j t' v' ht hv => hval (j + 1) t' v' (by simpa using ht) (by simpa using hv)) e3 g3
    refine ⟨m2, fun id hid => (k1 id (by omega)).trans (g1 id hid), by omega, k3, .cons ?_ k4⟩
    exact (toArg_ok (hval 0 t v rfl rfl) g4 e2).mono (ArgOk.le g3 k1)

/-- what is read stays -/
theorem trodAll_below (hl : laidOutB P = true) {W' : World} (hb : Below W.heap.size W W') : ∀ (ts : List TypeId) (vs : List Value) (ds : List (DataW H)) (ps : List MemPlace), (∀ t ∈ ts, P.readableRec t = true ∧ t < P.types.size) →
    DataW.TrodAll enc P W 0 (fun _ => true) true ts vs ds ps → (∀ x ∈ ps, x.block < W.heap.size) → DataW.TrodAll enc P W' 0 (fun b => decide (b < W.heap.size)) true ts vs ds ps
  | [], vs, ds, ps, _, hA, _ => by
    obtain ⟨rfl, rfl, rfl⟩ := trodAll_nil hA
    rfl
  | t :: ts, vs, ds, ps, hr, hA, hlt => by
    obtain ⟨v, vs', d, ds', p, q, rfl, rfl, rfl, h0, r0⟩ := trodAll_cons hA
    have h1 := hr t (by simp)
    exact trodAll_cons_mk (Below.trod hl h1.1 h1.2 h0 hb fun x hx => hlt x (by simp [hx])) (trodAll_below hl hb ts vs' ds' q (fun t ht => hr t (by simp [ht])) r0 fun x hx => hlt x (by simp [hx]))

/-- ████ THE CONTRACT OF A LAW's ROW ████ -/
theorem contract_of {C : Cfg} (hC : CfgOk C) (hz : GlobOk C.glob W) (hl : laidOutB C.P = true) {f : FuncId} {fn : Func} {c : Code} (hfn : C.P.funcs[f]? = some fn) (hn : (fn.name == "runtime.NumGoroutine") = false) (hb : fn.body = some c)
    (hts : ∀ t ∈ fn.params.toList, C.P.readableRec t = true ∧ t < C.P.types.size) {tb : TypeId} (hrt : fn.resultTypes = #[tb]) (hub : C.P.underlying tb = some .bool)
    {s : ChangeSpec} (hvars : s.vars = []) {args : Array Value} {ds gs : List (DataW H)} {before : List MemPlace} (hspec : s.fn H (ds ++ []) = { results := [.lit (.bool true)], args := ds }) {base : Nat}
    (hval : ∀ (j : Nat) t v, fn.params[j]? = some t → args[j]? = some v → Value.okWide C.P W .any base t v)
    (hW : DataW.Whole enc C.P fn.params.toList s.vars false W args.toList ds gs before)
    {as : List AVal} {h0 h' : AHeap} (hargs : argsA C.P fn.params.toList ⟨0, .leaf⟩ ds = some (as, h0)) (hrun : Runs C ⟨0, []⟩ h0 f as (.bool true) h') :
    Calls C.P f args W fun e W' => ∃ v, e = .returned v ∧ s.post enc C.P fn false true false false W args v W' := by
  have hW' := hW
  obtain ⟨p, q, hA0, hV, rfl, hfz, hnd⟩ := hW
  rw [hvars] at hV
  have hV' : gs = [] ∧ q = [] := by cases gs <;> simp [DataW.TrodVars] at hV <;> simp [hV]
  obtain ⟨rfl, rfl⟩ := hV'
  have r0 : Rel C.P W (fun _ => none) ⟨0, .leaf⟩ W := ⟨Below.refl _ _, fun id E hE => by simp at hE, fun id E o hE => by simp at hE, fun id E o hE => by simp at hE, fun id id' E E' o o' _ hE => by simp at hE⟩
  obtain ⟨m, _, _, hr, hvs⟩ := argsA_ok (base := base) fn.params.toList args.toList ds p ⟨0, .leaf⟩ _ as h0 hA0 (fun j t v ht hv => hval j t v (by simpa using ht) (by simpa using hv)) hargs r0
  obtain ⟨n, hn'⟩ := hrun
  refine (runA_calls hC (n := n) hn' hfn hn hb hz hr hvs).mono fun e W' ⟨v', he, m', _, hr', hv'⟩ => ?_
  subst he
  have ev : v' = .bool true := by cases hv'; rfl
  subst ev
  have bel := hr'.below
  have hlt : ∀ x ∈ p, x.block < W.heap.size := fun x hx => by simpa using hW'.lt x (by simpa using hx)
  refine ⟨_, rfl, ds, [], p ++ [], [], p, [], hW', ?_, ?_, ?_, bel.frame _, fun h => by cases h⟩
  · rw [hspec, hrt]
    exact trodAll_mk1 (shut_bool hub _)
  · rw [hspec]
    exact trodAll_below hl bel _ _ _ _ hts hA0 hlt
  · rw [hspec, hvars]
    rfl
end
end Go.Abs
