/-
 A part.
-/
import Derived.Test.YtdbkpibbjnhmgaaDoorAvTy
import Derived.Carry
import Derived.WideShapes
import Derived.ChangeShapes
import Derived.OpenShut
namespace Go.Av
open Go.RowKit Go.ChangeShapes Go.WideShapes
set_option linter.unusedVariables false
def OG (P : Program) : List Field → Nat → Nat → Bool
 | [], o, n => Nat.beq o n
 | f :: fs, o, n => Nat.beq f.offset o && OG P fs (o + P.cellsOf f.type) n
def R8 : List AA → Option AA
 | [a] => some a
 | _ => none
def toArg (P : Program) (t : TypeId) (cs : List AA) : Option AA :=
 match P.underlying t with
 | some (.struct _) | some (.array _ _) => some (.agg cs)
 | some .bool | some (.int _) | some .string | some (.pointer _) | some (.slice _) | some (.map _ _) | some (.interface _) => R8 cs
 | _ => none
def mW (W : World) : AU := ⟨fun _ => none, fun g o => match W.heap[g]? with | some (.cells cur _ _) => cur[o]? | _ => none, fun _ _ => False⟩
section
variable {H : Type} {enc : TypeId × Value → H} {P : Program} {W : World}
theorem VS : Rel P W (mW W) ⟨0, .leaf⟩ W := by
 refine ⟨Below.refl _ _, fun id E hE => by simp [mW] at hE, fun id E o hE => by simp [mW] at hE, fun id E o hE => by simp [mW] at hE, fun id id' E E' o o' _ hE => by simp [mW] at hE, fun g o v hv => ?_, fun id E o hE => by simp [mW] at hE, fun g x hg => hg.elim, fun id E o hE => by simp [mW] at hE⟩
 simp only [mW] at hv
 split at hv
 ·rename_i cur e z hc; exact ⟨cur, e, z, hc, hv⟩
 ·cases hv
theorem Mx {a : Addr} {n : Nat} {cs : List Value} (hc : W.cells? 0 a n = some cs) (hn : 0 < n) : ∃ cur e fz, W.heap[a.block]? = some (.cells cur e fz) ∧ a.spot = none ∧ cs.length = n ∧ ∀ j, j < n → cur[a.off + j]? = cs[j]? := by
  obtain ⟨_, hl, hall⟩ := World.cells?_some hc
  have h0 := hall 0 hn
  unfold World.cell? at h0
  have hadd : ∀ j, (a.add j).block = a.block := fun j => by unfold Addr.add; split <;> rfl
  rw [hadd] at h0
  cases hb : W.heap[a.block]? with
  | none => rw [hb] at h0; have : (0 : Nat) < cs.length := by omega
            rw [List.getElem?_eq_getElem this] at h0; cases h0
  | some o =>
    rw [hb] at h0
    cases o with
    | cells cur e fz =>
      have hlt : (0 : Nat) < cs.length := by omega
      have hs : a.spot = none := by
        cases Jt : a.spot with
        | none => rfl
        | some q =>
          have : (a.add 0).spot.isSome = true := by simp [Addr.add, Jt]
          simp only [this, if_true] at h0
          rw [List.getElem?_eq_getElem hlt] at h0; cases h0
      refine ⟨cur, e, fz, rfl, hs, hl, fun j hj => ?_⟩
      have h1 := hall j hj
      unfold World.cell? at h1
      rw [hadd, hb] at h1
      have e1 : (a.add j).spot = none := by unfold Addr.add; split <;> simp [hs]
      have e2 : (a.add j).off = a.off + j := by unfold Addr.add; split <;> simp_all
      simpa [e1, e2] using h1
    | _ =>
      have : (0 : Nat) < cs.length := by omega
      simp only at h0
      rw [List.getElem?_eq_getElem this] at h0; cases h0
theorem IP {α : Type} {n : Nat} : ∀ (fs : List Field) (o : Nat) (l : List α), OG P fs o n = true → l.length = n → o ≤ n → (fs.map fun f => (l.drop f.offset).take (P.cellsOf f.type)).flatten = l.drop o ∧ o ≤ n
 | [], o, l, h, hl, ho => by
  simp only [OG] at h
  have := Nat.eq_of_beq_eq_true h
  exact ⟨by simp [← hl, this] , ho⟩
 | f :: fs, o, l, h, hl, ho => by
  simp only [OG, Bool.and_eq_true] at h
  have e := Nat.eq_of_beq_eq_true h.1
  by_cases hle : o + P.cellsOf f.type ≤ n
  ·have ih := IP fs (o + P.cellsOf f.type) l h.2 hl hle
   refine ⟨?_, ho⟩
   rw [List.map_cons, List.flatten_cons, ih.1, e, ← List.drop_drop, List.take_append_drop]
  ·exfalso
   have mono : ∀ (fs : List Field) (o n : Nat), OG P fs o n = true → o ≤ n := by
    intro fs
    induction fs with
    | nil => intro o n h; simp only [OG] at h; exact Nat.le_of_eq (Nat.eq_of_beq_eq_true h)
    | cons f fs ih => intro o n h; simp only [OG, Bool.and_eq_true] at h; have := ih _ _ h.2; omega
   exact hle (mono fs _ _ h.2)
theorem Kd {α : Type} {z : Nat} (hz : 0 < z) : ∀ (css : List (List α)) (q : Nat), (∀ c ∈ css, c.length = z) → css.flatten[q]? = (css[q / z]?).bind (·[q % z]?)
 | [], q, _ => by simp
 | c :: css, q, h => by
  have hc : c.length = z := h c (by simp)
  rw [List.flatten_cons]
  by_cases hq : q < z
  ·rw [List.getElem?_append_left (by omega), Nat.div_eq_of_lt hq, Nat.mod_eq_of_lt hq]; rfl
  ·rw [List.getElem?_append_right (by omega), Kd hz css (q - c.length) (fun c' hc' => h c' (by simp [hc'])), hc]
   have e1 : q / z = (q - z) / z + 1 := by rw [Nat.div_eq q z, if_pos ⟨hz, by omega⟩]
   have e2 : q % z = (q - z) % z := Nat.mod_eq_sub_mod (by omega)
   rw [e1, e2]; rfl
theorem Re (a : Addr) (j : Nat) : (a.add j).block = a.block := by unfold Addr.add; split <;> rfl
theorem UK (a : Addr) (j : Nat) : (a.add j).off = a.off + j := by unfold Addr.add; split <;> simp_all
theorem add_zero (a : Addr) : a.add 0 = a := by simp [Addr.add]
end
structure Ph (P : Program) {α : Type} (t : TypeId) (e : α → List AA) (ok : α → Prop) : Prop where
 h : ∀ {H : Type} {enc : TypeId × Value → H} {W : World} {held : Bool} (fuel : Nat) (cs : List Value) (d : DataW H) (ps : List MemPlace), DataW.trod enc P W 0 (fun _ => true) held fuel t cs = some (d, ps) → ∃ x, BU (mW W) (e x) cs ∧ ok x
section
variable {P : Program}
def NR (k : IntKind) (x : Int) : Prop := k.min ≤ x ∧ x ≤ k.max
theorem OX {t : TypeId} {k : IntKind} (hu : P.underlying t = some (.int k)) : Ph P t (eI k) (NR k) := .mk fun {H enc W held} fuel cs d ps ht => by
 cases fuel with
 | zero => simp [DataW.trod] at ht
 | succ fuel =>
  unfold DataW.trod at ht
  rw [hu] at ht
  split at ht <;> first | contradiction | cases ‹(some (_ : TypeDesc)) = some _›
  rename_i k2 n
  split at ht <;> try contradiction
  rename_i hk
  refine ⟨n, ?_, ?_⟩
  ·rw [hk.1]; exact .cons (.int _ _) (.nil _)
  ·have := hk.2
   simp only [Lit.wf, Bool.and_eq_true, decide_eq_true_eq] at this
   exact this
def PA (x : List UInt8) : Prop := x.length ≤ 9223372036854775807
theorem PO {t : TypeId} (hu : P.underlying t = some .string) : Ph P t eS PA := .mk fun {H enc W held} fuel cs d ps ht => by
 cases fuel with
 | zero => simp [DataW.trod] at ht
 | succ fuel =>
  unfold DataW.trod at ht
  rw [hu] at ht
  split at ht <;> first | contradiction | cases ‹(some (_ : TypeDesc)) = some _›
  rename_i s
  split at ht <;> try contradiction
  rename_i hk
  exact ⟨s.data.toList, .cons (.str _) (.nil _), hk⟩
theorem UF {α : Type} {e : α → List AA} {z : Nat} (E : J0 e z) (hz : 0 < z) (xs : List α) (q : Nat) : (AL e xs)[q]? = (xs[q / z]?).bind fun x => (e x)[q % z]? := by
 have h := Kd (z := z) hz (xs.map e) q (fun c hc => by obtain ⟨x, _, rfl⟩ := List.mem_map.1 hc; exact E.len x)
 rw [show (xs.map e).flatten = AL e xs from by simp [AL, List.flatMap]] at h
 rw [h, List.getElem?_map]
 cases xs[q / z]? <;> rfl
def W8 {α : Type} (ok : α → Prop) (xs : List α) : Prop := xs.length ≤ 9223372036854775807 ∧ ∀ x ∈ xs, ok x
theorem Wc {α : Type} {t el : TypeId} {e : α → List AA} {z : Nat} {ok : α → Prop} (E : J0 e z) (hu : P.underlying t = some (.slice el)) (hz : P.cellsOf el = z) (hz0 : 0 < z) (a : Ph P el e ok) : Ph P t (eL e) (W8 ok) := .mk fun {H enc W held} fuel cs d ps ht => by
 cases fuel with
 | zero => simp [DataW.trod] at ht
 | succ fuel =>
  unfold DataW.trod at ht
  rw [hu] at ht
  split at ht <;> first | contradiction | cases ‹(some (_ : TypeDesc)) = some _›
  ·exact ⟨[], .cons (.Fy _ _) (.nil _), by simp, by simp⟩
  ·rename_i ad len cap
   simp only at ht
   split at ht <;> try contradiction
   rename_i hb
   obtain ⟨elems, he, ht⟩ := bind_some ht
   have hlen : elems.length = len := by simpa using mapM_some_length he
   have hel : ∀ i, i < len → ∃ c x, W.cells? 0 (ad.add (i * z)) z = some c ∧ BU (mW W) (e x) c ∧ ok x := by
    intro i hi
    have := mapM_some_get he i i (by simp [hi])
    rw [List.getElem?_eq_getElem (by omega)] at this
    obtain ⟨c, hc, h2⟩ := bind_some this
    rw [hz] at hc
    obtain ⟨x, hx, hk⟩ := a.h fuel c _ _ h2
    exact ⟨c, x, hc, hx, hk⟩
   have hxs : ∀ n, n ≤ len → ∃ xs : List α, xs.length = n ∧ ∀ i x, xs[i]? = some x → ok x ∧ ∃ c, W.cells? 0 (ad.add (i * z)) z = some c ∧ BU (mW W) (e x) c := by
    intro n
    induction n with
    | zero => intro _; exact ⟨[], rfl, fun i x h => by simp at h⟩
    | succ n ih =>
     intro hn
     obtain ⟨xs, h1, h2⟩ := ih (by omega)
     obtain ⟨c, x, hc, hx, hk⟩ := hel n (by omega)
     refine ⟨xs ++ [x], by simp [h1], fun i y hy => ?_⟩
     by_cases hi : i < xs.length
     ·rw [List.getElem?_append_left hi] at hy; exact h2 i y hy
     ·have hi2 : i = n := by
       have := (List.getElem?_eq_some_iff.1 hy).1
       simp at this; omega
      subst hi2
      rw [List.getElem?_append_right (by omega), h1] at hy
      simp at hy
      subst hy
      exact ⟨hk, c, hc, hx⟩
   obtain ⟨xs, hl, hall⟩ := hxs len (Nat.le_refl _)
   have hle : len ≤ 9223372036854775807 := by
    have : len ≤ maxLen := by omega
    have e2 : maxLen = 9223372036854775807 := by decide
    omega
   refine ⟨xs, .cons ?_ (.nil _), by omega, fun x hx => ?_⟩
   ·by_cases h0 : len = 0
    ·have : xs = [] := List.eq_nil_of_length_eq_zero (by omega)
     subst this
     subst h0
     exact .Fy _ _
    ·obtain ⟨_, c0, hc0, _⟩ := hall 0 _ (List.getElem?_eq_getElem (by omega))
     simp only [Nat.zero_mul, add_zero] at hc0
     obtain ⟨cur, et, fz, b1, b2, b3, b4⟩ := Mx hc0 hz0
     have ea : ad = ⟨ad.block, ad.off, none⟩ := by cases ad; simp_all
     have key : ∀ q v, (AL e xs)[q]? = some v → ∃ u, cur[ad.off + q]? = some u ∧ VR (mW W) v u := by
      intro q v hv
      rw [UF E hz0] at hv
      obtain ⟨x, hx, hv⟩ := bind_some hv
      obtain ⟨_, c, hc, hvr⟩ := hall _ x hx
      obtain ⟨cur', et', fz', d1, d2, d3, d4⟩ := Mx hc hz0
      rw [Re] at d1
      rw [b1] at d1
      injection d1 with d1
      injection d1 with d1
      subst d1
      obtain ⟨u, hu', hvu⟩ := hvr.at_ hv
      refine ⟨u, ?_, hvu⟩
      have hm := d4 (q % z) (Nat.mod_lt _ hz0)
      rw [UK] at hm
      have ej : q / z * z + q % z = q := by rw [Nat.mul_comm]; exact Nat.div_add_mod _ _
      rw [Nat.add_assoc, ej] at hm
      rw [hm]; exact hu'
     rw [ea, ← hl]
     refine .Ev xs.length cap ad.block ad.off (AL e xs) (fun i => (cur[ad.off + i]?).getD undef) (by omega) (fun i hi => ?_) (fun i x hx => ?_)
     ·obtain ⟨u, hu', _⟩ := key i _ (List.getElem?_eq_getElem hi)
      simp only [mW, b1, hu', Option.getD_some]
     ·obtain ⟨u, hu', hvu⟩ := key i x hx
      rw [hu']; exact hvu
   ·obtain ⟨i, hi, rfl⟩ := List.getElem_of_mem hx
    exact (hall i _ (List.getElem?_eq_getElem hi)).1
structure Qx (P : Program) {α : Type} (ts : List TypeId) (e : α → List AA) (ok : α → Prop) : Prop where
 h : ∀ {H : Type} {enc : TypeId × Value → H} {W : World} {held : Bool} (fuel : Nat) (css : List (List Value)), css.length = ts.length → (∀ (i : Nat) c t, css[i]? = some c → ts[i]? = some t → ∃ (d : DataW H) (ps : List MemPlace), DataW.trod enc P W 0 (fun _ => true) held fuel t c = some (d, ps)) → ∃ x, BU (mW W) (e x) css.flatten ∧ ok x
theorem NN : Qx P (α := Unit) [] (fun _ => []) (fun _ => True) := .mk fun {H enc W held} fuel css hl _ => by
 have : css = [] := List.length_eq_zero_iff.1 hl
 subst this
 exact ⟨(), .nil _, trivial⟩
theorem CZ {α β : Type} {t : TypeId} {ts : List TypeId} {e : α → List AA} {e' : β → List AA} {ok : α → Prop} {ok' : β → Prop} (a : Ph P t e ok) (b : Qx P ts e' ok') : Qx P (t :: ts) (fun x : α × β => e x.1 ++ e' x.2) (fun x => ok x.1 ∧ ok' x.2) := .mk fun {H enc W held} fuel css hl hd => by
 cases css with
 | nil => simp at hl
 | cons c css =>
  obtain ⟨d, ps, ht⟩ := hd 0 c t rfl rfl
  obtain ⟨x, hx, k1⟩ := a.h fuel c d ps ht
  obtain ⟨y, hy, k2⟩ := b.h fuel css (by simpa using hl) (fun i c t hd' ht' => hd (i + 1) c t (by simpa using hd') (by simpa using ht'))
  exact ⟨(x, y), by rw [List.flatten_cons]; exact hx.app hy, k1, k2⟩
def Oa (P : Program) (t : TypeId) (ts : List TypeId) : Bool :=
 match P.underlying t with
 | some (.struct fs) => OG P fs.toList 0 (P.cellsOf t) && (fs.toList.map (·.type) == ts)
 | _ => false
theorem VO {α β : Type} {t : TypeId} {ts : List TypeId} {e : α → List AA} {ok : α → Prop} {e' : β → List AA} {ok' : β → Prop} (hs : Oa P t ts = true) (f : α → β) (he : ∀ x, e' (f x) = e x) (hk : ∀ x, ok x → ok' (f x)) (a : Qx P ts e ok) : Ph P t e' ok' := .mk fun {H enc W held} fuel cs d ps ht => by
 unfold Oa at hs
 split at hs
 ·rename_i fs hu
  simp only [Bool.and_eq_true, beq_iff_eq] at hs
  cases fuel with
  | zero => simp [DataW.trod] at ht
  | succ fuel =>
   unfold DataW.trod at ht
   rw [hu] at ht
   split at ht <;> first | contradiction | cases ‹(some (_ : TypeDesc)) = some _› | exact absurd rfl (‹∀ fs_1 : Array Field, (some (TypeDesc.struct fs) : Option TypeDesc) = some (TypeDesc.struct fs_1) → False› fs)
   split at ht <;> try contradiction
   rename_i cs _ _ hl
   simp only [Option.map_eq_some_iff, Prod.mk.injEq] at ht
   obtain ⟨xs, hx, _⟩ := ht
   obtain ⟨x, h1, h2⟩ := a.h fuel (fs.toList.map fun f => (cs.drop f.offset).take (P.cellsOf f.type)) (by rw [← hs.2]; simp) (fun i c t hc ht => by
    rw [← hs.2] at ht
    rw [List.getElem?_map, Option.map_eq_some_iff] at hc ht
    obtain ⟨f1, hf1, rfl⟩ := hc
    obtain ⟨f2, hf2, rfl⟩ := ht
    have : f1 = f2 := Option.some.inj (hf1.symm.trans hf2)
    subst this
    have hg := mapM_some_get hx i f1 hf1
    have hi : i < xs.length := by rw [mapM_some_length hx]; exact (List.getElem?_eq_some_iff.1 hf1).1
    rw [List.getElem?_eq_getElem hi] at hg
    exact ⟨_, _, hg⟩)
   rw [(IP (P := P) fs.toList 0 cs hs.1 hl (Nat.zero_le _)).1, List.drop_zero] at h1
   exact ⟨f x, by rw [he]; exact h1, hk x h2⟩
 ·cases hs
end
section
variable {H : Type} {enc : TypeId × Value → H} {P : Program} {W : World}
theorem Ru {t : TypeId} {v : Value} {base : Nat} (hv : Value.okWide P W .any base t v) {m : AU} {cs : List AA} {a : AA} (hc : BU m cs v.cells.toList) (ha : toArg P t cs = some a) : VR m a v := by
 have one : ∀ {w : Value}, v = w → w.cells.toList = [w] → R8 cs = some a → VR m a v := by
  intro w hw hcells hx
  subst hw
  rw [hcells] at hc
  unfold R8 at hx
  split at hx
  ·injection hx with hx
   subst hx
   exact hc.2 0 _ _ rfl rfl
  ·cases hx
 unfold toArg at ha
 split at ha
 ·rename_i hu
  obtain ⟨c, hce, _⟩ := okWide_struct hu hv
  subst hce
  injection ha with ha
  subst ha
  exact BU.agg hc
 ·rename_i hu
  unfold Value.okWide at hv
  rw [hu] at hv
  obtain ⟨c, hce, _⟩ := hv
  subst hce
  injection ha with ha
  subst ha
  exact BU.agg hc
 ·rename_i hu; obtain ⟨b, hb⟩ := okWide_bool hu hv; exact one hb rfl ha
 ·rename_i hu; obtain ⟨b, hb⟩ := okWide_int hu hv; exact one hb rfl ha
 ·rename_i hu; obtain ⟨b, hb⟩ := okWide_string hu hv; exact one hb rfl ha
 ·rename_i hu; obtain ⟨b, hb⟩ := okWide_pointer hu hv; exact one hb rfl ha
 ·rename_i hu; obtain ⟨b, c, d, hb⟩ := okWide_slice hu hv; exact one hb rfl ha
 ·rename_i hu; obtain ⟨b, hb⟩ := okWide_map hu hv; exact one hb rfl ha
 ·rename_i hu
  rcases okWide_iface hu hv with hb | ⟨u, x, hb⟩
  ·exact one hb rfl ha
  ·exact one hb rfl ha
 ·cases ha
theorem Ie (hl : laidOutB P = true) {W' : World} (hb : Below W.heap.size W W') : ∀ (ts : List TypeId) (vs : List Value) (ds : List (DataW H)) (ps : List MemPlace), (∀ t ∈ ts, P.readableRec t = true ∧ t < P.types.size) →
  DataW.TrodAll enc P W 0 (fun _ => true) true ts vs ds ps → (∀ x ∈ ps, x.block < W.heap.size) → DataW.TrodAll enc P W' 0 (fun b => decide (b < W.heap.size)) true ts vs ds ps
 | [], vs, ds, ps, _, hA, _ => by
  obtain ⟨rfl, rfl, rfl⟩ := trodAll_nil hA
  rfl
 | t :: ts, vs, ds, ps, hr, hA, hlt => by
  obtain ⟨v, vs', d, ds', p, q, rfl, rfl, rfl, h0, r0⟩ := trodAll_cons hA
  have h1 := hr t (by simp)
  exact trodAll_cons_mk (Below.trod hl h1.1 h1.2 h0 hb fun x hx => hlt x (by simp [hx])) (Ie hl hb ts vs' ds' q (fun t ht => hr t (by simp [ht])) r0 fun x hx => hlt x (by simp [hx]))
theorem Rj {C : EP} (hC : E9 C) (hz : BO C.CM W) (hl : laidOutB C.P = true) {f : FuncId} {fn : Func} {c : Code} (Ig : C.P.funcs[f]? = some fn) (hn : (fn.name == "runtime.NumGoroutine") = false) (hb : fn.body = some c)
  (hts : ∀ t ∈ fn.params.toList, C.P.readableRec t = true ∧ t < C.P.types.size) {tb : TypeId} (hrt : fn.resultTypes = #[tb]) (hub : C.P.underlying tb = some .bool)
  {s : ChangeSpec} (hvars : s.vars = []) {args : Array Value} {ds gs : List (DataW H)} {before : List MemPlace} (hspec : s.fn H (ds ++ []) = { results := [.lit (.bool true)], args := ds })
  (hW : DataW.Whole enc C.P fn.params.toList s.vars false W args.toList ds gs before)
  {av : List AA} (hvs : BU (mW W) av args.toList) {h' : AB} (hrun : CC C ⟨0, []⟩ ⟨0, .leaf⟩ f av (.bool true) h') :
  Calls C.P f args W fun e W' => ∃ v, e = .returned v ∧ s.post enc C.P fn false true false false W args v W' := by
 have hW' := hW
 obtain ⟨p, q, hA0, hV, rfl, hfz, hnd⟩ := hW
 rw [hvars] at hV
 have hV' : gs = [] ∧ q = [] := by cases gs <;> simp [DataW.TrodVars] at hV <;> simp [hV]
 obtain ⟨rfl, rfl⟩ := hV'
 obtain ⟨n, hn'⟩ := hrun
 refine (PI hC (n := n) hn' Ig hn hb hz VS hvs).mono fun e W' ⟨v', he, m', _, hr', hv'⟩ => ?_
 subst he
 have ev : v' = .bool true := by cases hv'; rfl
 subst ev
 have bel := hr'.below
 have hlt : ∀ x ∈ p, x.block < W.heap.size := fun x hx => by simpa using hW'.lt x (by simpa using hx)
 refine ⟨_, rfl, ds, [], p ++ [], [], p, [], hW', ?_, ?_, ?_, bel.frame _, fun h => by cases h⟩
 ·rw [hspec, hrt]
  exact trodAll_mk1 (shut_bool hub _)
 ·rw [hspec]
  exact Ie hl bel _ _ _ _ hts hA0 hlt
 ·rw [hspec, hvars]
  rfl
theorem HH.start : HH ⟨0, []⟩ ⟨0, .leaf⟩ [] [] := ⟨fun c hc => (by cases hc), by simp [AX], fun i hi => (by simp [AX] at hi), fun i hi => (by cases hi), Nat.le_refl _⟩
end
end Go.Av
