/-
  ABS, 25: THE ARGUMENTS AS PLAIN LEAN VALUES: what is handed in lies in memory that nobody writes; and from an abstract run of a law to its row's contract.
-/
import Derived.Test.YthnnciphldbmeaaGreatDoorAvTy
import Derived.Carry
import Derived.WideShapes
import Derived.ChangeShapes
import Derived.OpenShut
namespace Go.Av
open Go.RowKit Go.ChangeShapes Go.WideShapes
set_option linter.unusedVariables false
def Qd (P : Program) : List Field → Nat → Nat → Bool
 | [], o, n => Nat.beq o n
 | f :: fs, o, n => Nat.beq f.offset o && Qd P fs (o + P.cellsOf f.type) n
def T3 : List AA → Option AA
 | [a] => some a
 | _ => none
def toArg (P : Program) (t : TypeId) (cs : List AA) : Option AA :=
 match P.underlying t with
 | some (.struct _) | some (.array _ _) => some (.agg cs)
 | some .bool | some (.int _) | some .string | some (.pointer _) | some (.slice _) | some (.map _ _) | some (.interface _) => T3 cs
 | _ => none
def mW (W : World) : BK := ⟨fun _ => none, fun g o => match W.heap[g]? with | some (.cells cur _ _) => cur[o]? | _ => none, fun _ => False⟩
section
variable {H : Type} {enc : TypeId × Value → H} {P : Program} {W : World}
theorem WE : Rel P W (mW W) ⟨0, .leaf⟩ W := by
 refine ⟨Below.refl _ _, fun id E hE => by simp [mW] at hE, fun id E o hE => by simp [mW] at hE, fun id E o hE => by simp [mW] at hE, fun id id' E E' o o' _ hE => by simp [mW] at hE, fun g o v hv => ?_, fun id E o hE => by simp [mW] at hE, fun g hg => hg.elim, fun id E o hE => by simp [mW] at hE⟩
 simp only [mW] at hv
 split at hv
 ·rename_i cur e z hc; exact ⟨cur, e, z, hc, hv⟩
 ·cases hv
theorem Pb {a : Addr} {n : Nat} {cs : List Value} (hc : W.cells? 0 a n = some cs) (hn : 0 < n) : ∃ cur e fz, W.heap[a.block]? = some (.cells cur e fz) ∧ a.spot = none ∧ cs.length = n ∧ ∀ j, j < n → cur[a.off + j]? = cs[j]? := by
  obtain ⟨_, hl, hall⟩ := World.cells?_some hc
  have h0 := hall 0 hn
  unfold World.cell? at h0
  have hadd : ∀ j, (a.add j).block = a.block := fun j => by unfold Addr.add; split <;> rfl
  rw [hadd] at h0
  cases hb : W.heap[a.block]? with
  | none => rw [hb] at h0; have : (0 : Nat) < cs.length := by omega
            rw [List.getElem?_eq_getElem this] at h0; cases h0
  | some o =>
    rw [hb] at h0
    cases o with
    | cells cur e fz =>
      have hlt : (0 : Nat) < cs.length := by omega
      have hs : a.spot = none := by
        cases hsp : a.spot with
        | none => rfl
        | some q =>
          have : (a.add 0).spot.isSome = true := by simp [Addr.add, hsp]
          simp only [this, if_true] at h0
          rw [List.getElem?_eq_getElem hlt] at h0; cases h0
      refine ⟨cur, e, fz, rfl, hs, hl, fun j hj => ?_⟩
      have h1 := hall j hj
      unfold World.cell? at h1
      rw [hadd, hb] at h1
      have e1 : (a.add j).spot = none := by unfold Addr.add; split <;> simp [hs]
      have e2 : (a.add j).off = a.off + j := by unfold Addr.add; split <;> simp_all
      simpa [e1, e2] using h1
    | _ =>
      have : (0 : Nat) < cs.length := by omega
      simp only at h0
      rw [List.getElem?_eq_getElem this] at h0; cases h0
theorem KQ {α : Type} {n : Nat} : ∀ (fs : List Field) (o : Nat) (l : List α), Qd P fs o n = true → l.length = n → o ≤ n → (fs.map fun f => (l.drop f.offset).take (P.cellsOf f.type)).flatten = l.drop o ∧ o ≤ n
 | [], o, l, h, hl, ho => by
  simp only [Qd] at h
  have := Nat.eq_of_beq_eq_true h
  exact ⟨by simp [← hl, this] , ho⟩
 | f :: fs, o, l, h, hl, ho => by
  simp only [Qd, Bool.and_eq_true] at h
  have e := Nat.eq_of_beq_eq_true h.1
  by_cases hle : o + P.cellsOf f.type ≤ n
  ·have ih := KQ fs (o + P.cellsOf f.type) l h.2 hl hle
   refine ⟨?_, ho⟩
   rw [List.map_cons, List.flatten_cons, ih.1, e, ← List.drop_drop, List.take_append_drop]
  ·exfalso
   have mono : ∀ (fs : List Field) (o n : Nat), Qd P fs o n = true → o ≤ n := by
    intro fs
    induction fs with
    | nil => intro o n h; simp only [Qd] at h; exact Nat.le_of_eq (Nat.eq_of_beq_eq_true h)
    | cons f fs ih => intro o n h; simp only [Qd, Bool.and_eq_true] at h; have := ih _ _ h.2; omega
   exact hle (mono fs _ _ h.2)
theorem NB {α : Type} {z : Nat} (hz : 0 < z) : ∀ (css : List (List α)) (q : Nat), (∀ c ∈ css, c.length = z) → css.flatten[q]? = (css[q / z]?).bind (·[q % z]?)
 | [], q, _ => by simp
 | c :: css, q, h => by
  have hc : c.length = z := h c (by simp)
  rw [List.flatten_cons]
  by_cases hq : q < z
  ·rw [List.getElem?_append_left (by omega), Nat.div_eq_of_lt hq, Nat.mod_eq_of_lt hq]; rfl
  ·rw [List.getElem?_append_right (by omega), NB hz css (q - c.length) (fun c' hc' => h c' (by simp [hc'])), hc]
   have e1 : q / z = (q - z) / z + 1 := by rw [Nat.div_eq q z, if_pos ⟨hz, by omega⟩]
   have e2 : q % z = (q - z) % z := Nat.mod_eq_sub_mod (by omega)
   rw [e1, e2]; rfl
theorem S8 (a : Addr) (j : Nat) : (a.add j).block = a.block := by unfold Addr.add; split <;> rfl
theorem Us (a : Addr) (j : Nat) : (a.add j).off = a.off + j := by unfold Addr.add; split <;> simp_all
theorem add_zero (a : Addr) : a.add 0 = a := by simp [Addr.add]
end
section
variable {P : Program}
def P6 (k : IntKind) (x : Int) : Prop := k.min ≤ x ∧ x ≤ k.max
theorem VS {α : Type} {e : α → List AA} {z : Nat} (E : LM e z) (hz : 0 < z) (xs : List α) (q : Nat) : (AL e xs)[q]? = (xs[q / z]?).bind fun x => (e x)[q % z]? := by
 have h := NB (z := z) hz (xs.map e) q (fun c hc => by obtain ⟨x, _, rfl⟩ := List.mem_map.1 hc; exact E.len x)
 rw [show (xs.map e).flatten = AL e xs from by simp [AL, List.flatMap]] at h
 rw [h, List.getElem?_map]
 cases xs[q / z]? <;> rfl
def Qr (P : Program) (t : TypeId) (ts : List TypeId) : Bool :=
 match P.underlying t with
 | some (.struct fs) => Qd P fs.toList 0 (P.cellsOf t) && (fs.toList.map (·.type) == ts)
 | _ => false
end
section
variable {H : Type} {enc : TypeId × Value → H} {P : Program} {W : World}
theorem Qx {t : TypeId} {v : Value} {base : Nat} (hv : Value.okWide P W .any base t v) {m : BK} {cs : List AA} {a : AA} (hc : CT m cs v.cells.toList) (ha : toArg P t cs = some a) : VR m a v := by
 have one : ∀ {w : Value}, v = w → w.cells.toList = [w] → T3 cs = some a → VR m a v := by
  intro w hw hcells hx
  subst hw
  rw [hcells] at hc
  unfold T3 at hx
  split at hx
  ·injection hx with hx
   subst hx
   exact hc.2 0 _ _ rfl rfl
  ·cases hx
 unfold toArg at ha
 split at ha
 ·rename_i hu
  obtain ⟨c, hce, _⟩ := okWide_struct hu hv
  subst hce
  injection ha with ha
  subst ha
  exact CT.agg hc
 ·rename_i hu
  unfold Value.okWide at hv
  rw [hu] at hv
  obtain ⟨c, hce, _⟩ := hv
  subst hce
  injection ha with ha
  subst ha
  exact CT.agg hc
 ·rename_i hu; obtain ⟨b, hb⟩ := okWide_bool hu hv; exact one hb rfl ha
 ·rename_i hu; obtain ⟨b, hb⟩ := okWide_int hu hv; exact one hb rfl ha
 ·rename_i hu; obtain ⟨b, hb⟩ := okWide_string hu hv; exact one hb rfl ha
 ·rename_i hu; obtain ⟨b, hb⟩ := okWide_pointer hu hv; exact one hb rfl ha
 ·rename_i hu; obtain ⟨b, c, d, hb⟩ := okWide_slice hu hv; exact one hb rfl ha
 ·rename_i hu; obtain ⟨b, hb⟩ := okWide_map hu hv; exact one hb rfl ha
 ·rename_i hu
  rcases okWide_iface hu hv with hb | ⟨u, x, hb⟩
  ·exact one hb rfl ha
  ·exact one hb rfl ha
 ·cases ha
theorem LZ (hl : laidOutB P = true) {W' : World} (hb : Below W.heap.size W W') : ∀ (ts : List TypeId) (vs : List Value) (ds : List (DataW H)) (ps : List MemPlace), (∀ t ∈ ts, P.readableRec t = true ∧ t < P.types.size) →
  DataW.TrodAll enc P W 0 (fun _ => true) true ts vs ds ps → (∀ x ∈ ps, x.block < W.heap.size) → DataW.TrodAll enc P W' 0 (fun b => decide (b < W.heap.size)) true ts vs ds ps
 | [], vs, ds, ps, _, hA, _ => by
  obtain ⟨rfl, rfl, rfl⟩ := trodAll_nil hA
  rfl
 | t :: ts, vs, ds, ps, hr, hA, hlt => by
  obtain ⟨v, vs', d, ds', p, q, rfl, rfl, rfl, h0, r0⟩ := trodAll_cons hA
  have h1 := hr t (by simp)
  exact trodAll_cons_mk (Below.trod hl h1.1 h1.2 h0 hb fun x hx => hlt x (by simp [hx])) (LZ hl hb ts vs' ds' q (fun t ht => hr t (by simp [ht])) r0 fun x hx => hlt x (by simp [hx]))
theorem TG {C : HU} (hC : ID C) (hz : CU C.Dw W) (hl : laidOutB C.P = true) {f : FuncId} {fn : Func} {c : Code} (hfn : C.P.funcs[f]? = some fn) (hn : (fn.name == "runtime.NumGoroutine") = false) (hb : fn.body = some c)
  (hts : ∀ t ∈ fn.params.toList, C.P.readableRec t = true ∧ t < C.P.types.size) {tb : TypeId} (hrt : fn.resultTypes = #[tb]) (hub : C.P.underlying tb = some .bool)
  {s : ChangeSpec} (hvars : s.vars = []) {args : Array Value} {ds gs : List (DataW H)} {before : List MemPlace} (hspec : s.fn H (ds ++ []) = { results := [.lit (.bool true)], args := ds })
  (hW : DataW.Whole enc C.P fn.params.toList s.vars false W args.toList ds gs before)
  {av : List AA} (hvs : CT (mW W) av args.toList) {h' : AH} (hrun : BL C ⟨0, []⟩ ⟨0, .leaf⟩ f av (.bool true) h') :
  Calls C.P f args W fun e W' => ∃ v, e = .returned v ∧ s.post enc C.P fn false true false false W args v W' := by
 have hW' := hW
 obtain ⟨p, q, hA0, hV, rfl, hfz, hnd⟩ := hW
 rw [hvars] at hV
 have hV' : gs = [] ∧ q = [] := by cases gs <;> simp [DataW.TrodVars] at hV <;> simp [hV]
 obtain ⟨rfl, rfl⟩ := hV'
 obtain ⟨n, hn'⟩ := hrun
 refine (Rm hC (n := n) hn' hfn hn hb hz WE hvs).mono fun e W' ⟨v', he, m', _, hr', hv'⟩ => ?_
 subst he
 have ev : v' = .bool true := by cases hv'; rfl
 subst ev
 have bel := hr'.below
 have hlt : ∀ x ∈ p, x.block < W.heap.size := fun x hx => by simpa using hW'.lt x (by simpa using hx)
 refine ⟨_, rfl, ds, [], p ++ [], [], p, [], hW', ?_, ?_, ?_, bel.frame _, fun h => by cases h⟩
 ·rw [hspec, hrt]
  exact trodAll_mk1 (shut_bool hub _)
 ·rw [hspec]
  exact LZ hl bel _ _ _ _ hts hA0 hlt
 ·rw [hspec, hvars]
  rfl
theorem HH.start : HH ⟨0, []⟩ ⟨0, .leaf⟩ [] [] := ⟨fun c hc => (by cases hc), by simp [CE], fun i hi => (by simp [CE] at hi), fun i hi => (by cases hi), Nat.le_refl _⟩
end
end Go.Av
