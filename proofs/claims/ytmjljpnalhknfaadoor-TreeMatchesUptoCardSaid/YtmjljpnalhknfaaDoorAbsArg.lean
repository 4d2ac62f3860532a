/-
  ABS, 19: THE ARGUMENTS: what a reading of them (DataW.trod) is as abstract values and objects that are only read; the world that they were read in stands to it.
-/
import Derived.Test.YtmjljpnalhknfaaDoorAbsWalk
import Derived.Carry
namespace Go.Abs
open Go.RowKit

/-- a struct's fields lie one behind the other from 'o' on, up to 'n' cells -/
def okFs (P : Program) : List Field → Nat → Nat → Bool
  | [], o, n => Nat.beq o n
  | f :: fs, o, n => Nat.beq f.offset o && okFs P fs (o + P.cellsOf f.type) n

mutual
def absD {H : Type} (P : Program) (t : TypeId) (h : AHeap) : DataW H → Option (List AVal × AHeap)
  | .lit (.bool b) => some ([.bool b], h)
  | .lit (.int k n) => some ([.int k n], h)
  | .lit (.string s) => some ([.str s], h)
  | .nil =>
    match P.underlying t with
    | some (.pointer _) => some ([.ptr none], h)
    | some (.slice _) => some ([.slice none 0], h)
    | some (.map _ _) => some ([.map none], h)
    | some (.func _ _ _) => some ([.nilFunc], h)
    | some (.interface _) => some ([.nilIface], h)
    | _ => none
  | .ptr d =>
    match P.underlying t with
    | some (.pointer e) => if P.cellsOf e = 0 then none else (absD P e h d).map fun x => ([.ptr (some (x.2.size, 0))], x.2.push (.cells none 1 x.1))
    | _ => none
  | .slice elems _ =>
    match P.underlying t with
    | some (.slice e) =>
      if P.cellsOf e = 0 then none else
      (absL P (List.replicate elems.length e) h elems).map fun x => ([.slice (some (x.2.size, 0)) elems.length], x.2.push (.cells none (if elems.length = 0 then 0 else 1) x.1))
    | _ => none
  | .agg parts =>
    match P.underlying t with
    | some (.struct fs) => if okFs P fs.toList 0 (P.cellsOf t) = true then absL P (fs.toList.map (·.type)) h parts else none
    | some (.array n e) => if n * P.cellsOf e = P.cellsOf t then absL P (List.replicate n e) h parts else none
    | _ => none
  | _ => none
def absL {H : Type} (P : Program) (ts : List TypeId) (h : AHeap) : List (DataW H) → Option (List AVal × AHeap)
  | [] => match ts with | [] => some ([], h) | _ => none
  | d :: r =>
    match ts with
    | [] => none
    | t :: ts => (absD P t h d).bind fun x => (absL P ts x.2 r).map fun y => (x.1 ++ y.1, y.2)
end

section
variable {H : Type} {enc : TypeId × Value → H} {P : Program} {W : World} {spare : Nat → Bool}

/-- what is shown of a reading's abstract form -/
def ArgOk (P : Program) (W : World) (h : AHeap) (m : Inj) (as : List AVal) (h' : AHeap) (cs : List Value) : Prop :=
  ∃ m' : Inj, (∀ id, id < h.size → m' id = m id) ∧ h.size ≤ h'.size ∧ Rel P W m' h' W ∧ VRs m' as cs ∧ as.all AVal.one = true

theorem ArgOk.le {h : AHeap} {m m' : Inj} (r : Rel P W m h W) (hm : ∀ id, id < h.size → m' id = m id) : m.le m' := fun id E hE => by rw [hm id (r.dom id E hE)]; exact hE

/-- a list's, from each one's -/
theorem absL_ok : ∀ (ds : List (DataW H)) (ts : List TypeId) (css : List (List Value)) (h : AHeap) (m : Inj) (as : List AVal) (h' : AHeap),
    (∀ (i : Nat) (d : DataW H) (t : TypeId), ds[i]? = some d → ts[i]? = some t → ∃ cs, css[i]? = some cs ∧ ∀ h m as h', absD P t h d = some (as, h') → Rel P W m h W → ArgOk P W h m as h' cs) →
    css.length = ds.length → absL P ts h ds = some (as, h') → Rel P W m h W → ArgOk P W h m as h' css.flatten
  | [], ts, css, h, m, as, h', _, hc, ha, r => by
    unfold absL at ha
    split at ha
    · simp only [Option.some.injEq, Prod.mk.injEq] at ha
      obtain ⟨rfl, rfl⟩ := ha
      have : css = [] := List.length_eq_zero_iff.1 hc
      subst this
      exact ⟨m, fun _ _ => rfl, Nat.le_refl _, r, by simpa using VRs.nil m, rfl⟩
    · cases ha
  | d :: ds, ts, css, h, m, as, h', hall, hc, ha, r => by
    unfold absL at ha
    split at ha
    · cases ha
    · rename_i t ts
      obtain ⟨⟨a1, h1⟩, e1, e2⟩ := bind_some ha
      simp only [Option.map_eq_some_iff, Prod.mk.injEq] at e2
      obtain ⟨⟨a2, h2⟩, e2, e3, e4⟩ := e2
      dsimp only at e3 e4
      subst e3
      subst e4
      obtain ⟨cs, hcs, k⟩ := hall 0 d t rfl rfl
      cases css with
      | nil => simp at hc
      | cons c css =>
        simp only [List.getElem?_cons_zero, Option.some.injEq] at hcs
        subst hcs
        obtain ⟨m1, g1, g2, g3, g4, g5⟩ := k h m a1 h1 e1 r
        obtain ⟨m2, k1, k2, k3, k4, k5⟩ := absL_ok ds ts css h1 m1 a2 h2 (fun i d' t' hd ht => by simpa using hall (i + 1) d' t' (by simpa using hd) (by simpa using ht)) (by simpa using hc) e2 g3
        refine ⟨m2, fun id hid => (k1 id (by omega)).trans (g1 id hid), by omega, k3, ?_, ?_⟩
        · rw [List.flatten_cons]
          exact (g4.mono (ArgOk.le g3 k1)).app k4
        · rw [List.all_append, g5, k5]; rfl

/-- an object that is only read gets its place -/
theorem Rel.readOnly {h : AHeap} {m : Inj} (r : Rel P W m h W) {o : AObj} {E : Ent} (ho : o.own = false) (hobj : ObjR P m W E o) : Rel P W (m.upd h.size E) (h.push o) W := by
  have hid : m h.size = none := r.fresh (Nat.le_refl _)
  have hle := Inj.le_upd E hid
  have other : ∀ {i F}, m.upd h.size E i = some F → i ≠ h.size → m i = some F := fun h1 h2 => by rw [Inj.upd_ne _ _ h2] at h1; exact h1
  have mine : ∀ {i F}, m.upd h.size E i = some F → i = h.size → F = E := fun h1 h2 => by subst h2; rw [Inj.upd_same] at h1; injection h1 with h1; exact h1.symm
  have old : ∀ {i F o'}, m.upd h.size E i = some F → i ≠ h.size → (h.push o).get i = some o' → h.get i = some o' := fun h1 h2 h3 => by
    rw [h.get_push_old o (r.dom _ _ (other h1 h2))] at h3; exact h3
  have new : ∀ {i o'}, i = h.size → (h.push o).get i = some o' → o' = o := fun h1 h2 => by subst h1; rw [h.get_push_new] at h2; injection h2 with h2; exact h2.symm
  refine ⟨r.below, fun i F hF => ?_, fun i F o' hF ho' => ?_, fun i F o' hF ho' hown => ?_, fun i i' F F' o1 o2 hne h1 h2 g1 g2 hown hlive => ?_⟩
  · by_cases e : i = h.size
    · subst e; simp
    · have := r.dom i F (other hF e); simp; omega
  · by_cases e : i = h.size
    · rw [mine hF e, new e ho']; exact hobj.mono hle (fun _ => rfl)
    · exact (r.obj i F o' (other hF e) (old hF e ho')).mono hle (fun _ => rfl)
  · by_cases e : i = h.size
    · rw [new e ho', ho] at hown; cases hown
    · exact r.own i F o' (other hF e) (old hF e ho') hown
  · by_cases e : i = h.size
    · rw [new e g1, ho] at hown; cases hown
    · by_cases e' : i' = h.size
      · -- own objects lie from W's size on; what is only read lies below
        have hge := r.own i F o1 (other h1 e) (old h1 e g1) hown
        have hlt : F.g < W.heap.size := (r.obj i F o1 (other h1 e) (old h1 e g1)).lt (AObj.live_of_own hown)
        omega
      · exact r.sep i i' F F' o1 o2 hne (other h1 e) (other h2 e') (old h1 e g1) (old h2 e' g2) hown hlive

theorem cells?_at {a : Addr} {n : Nat} {cs : List Value} (hc : W.cells? 0 a n = some cs) (hn : 0 < n) : ∃ cur e fz, W.heap[a.block]? = some (.cells cur e fz) ∧ a.spot = none ∧ cs.length = n ∧ ∀ j, j < n → cur[a.off + j]? = cs[j]? := by
  obtain ⟨_, hl, hall⟩ := World.cells?_some hc
  have h0 := hall 0 hn
  unfold World.cell? at h0
  have hadd : ∀ j, (a.add j).block = a.block := fun j => by unfold Addr.add; split <;> rfl
  rw [hadd] at h0
  cases hb : W.heap[a.block]? with
  | none => rw [hb] at h0; have : (0 : Nat) < cs.length := by omega
            rw [List.getElem?_eq_getElem this] at h0; cases h0
  | some o =>
    rw [hb] at h0
    cases o with
    | cells cur e fz =>
      have hlt : (0 : Nat) < cs.length := by omega
      have hs : a.spot = none := by
        cases hsp : a.spot with
        | none => rfl
        | some q =>
          have : (a.add 0).spot.isSome = true := by simp [Addr.add, hsp]
          simp only [this, if_true] at h0
          rw [List.getElem?_eq_getElem hlt] at h0; cases h0
      refine ⟨cur, e, fz, rfl, hs, hl, fun j hj => ?_⟩
      have h1 := hall j hj
      unfold World.cell? at h1
      rw [hadd, hb] at h1
      have e1 : (a.add j).spot = none := by unfold Addr.add; split <;> simp [hs]
      have e2 : (a.add j).off = a.off + j := by unfold Addr.add; split <;> simp_all
      simpa [e1, e2] using h1
    | _ =>
      have : (0 : Nat) < cs.length := by omega
      simp only at h0
      rw [List.getElem?_eq_getElem this] at h0; cases h0

theorem argOk_flat {h : AHeap} {m : Inj} (r : Rel P W m h W) {a : AVal} {v : Value} (hv : VR m a v) (h1 : a.one = true) : ArgOk P W h m [a] h [v] :=
  ⟨m, fun _ _ => rfl, Nat.le_refl _, r, .cons hv (.nil m), by simp [h1]⟩

theorem flatten_take_drop {α : Type} (z : Nat) : ∀ (n : Nat) (l : List α), l.length = n * z → ((List.range n).map fun i => (l.drop (i * z)).take z).flatten = l
  | 0, l, h => by have : l = [] := List.length_eq_zero_iff.1 (by simpa using h); simp [this]
  | n + 1, l, h => by
    rw [List.range_succ_eq_map, List.map_cons, List.flatten_cons, List.map_map]
    have h2 : (l.drop z).length = n * z := by rw [List.length_drop, h, Nat.add_mul]; omega
    have ih := flatten_take_drop z n (l.drop z) h2
    have e : ((fun i => List.take z (List.drop (i * z) l)) ∘ Nat.succ) = fun i => List.take z (List.drop (i * z) (List.drop z l)) := by
      funext i
      simp only [Function.comp, List.drop_drop]
      congr 2
      rw [Nat.succ_mul]; omega
    rw [e, ih]
    simp [List.take_append_drop]

theorem flatten_fields {α : Type} {n : Nat} : ∀ (fs : List Field) (o : Nat) (l : List α), okFs P fs o n = true → l.length = n → o ≤ n → (fs.map fun f => (l.drop f.offset).take (P.cellsOf f.type)).flatten = l.drop o ∧ o ≤ n
  | [], o, l, h, hl, ho => by
    simp only [okFs] at h
    have := Nat.eq_of_beq_eq_true h
    exact ⟨by simp [← hl, this] , ho⟩
  | f :: fs, o, l, h, hl, ho => by
    simp only [okFs, Bool.and_eq_true] at h
    have e := Nat.eq_of_beq_eq_true h.1
    by_cases hle : o + P.cellsOf f.type ≤ n
    · have ih := flatten_fields fs (o + P.cellsOf f.type) l h.2 hl hle
      refine ⟨?_, ho⟩
      rw [List.map_cons, List.flatten_cons, ih.1, e, ← List.drop_drop, List.take_append_drop]
    · exfalso
      have mono : ∀ (fs : List Field) (o n : Nat), okFs P fs o n = true → o ≤ n := by
        intro fs
        induction fs with
        | nil => intro o n h; simp only [okFs] at h; exact Nat.le_of_eq (Nat.eq_of_beq_eq_true h)
        | cons f fs ih => intro o n h; simp only [okFs, Bool.and_eq_true] at h; have := ih _ _ h.2; omega
      exact hle (mono fs _ _ h.2)

theorem flatten_get {α : Type} {z : Nat} (hz : 0 < z) : ∀ (css : List (List α)) (q : Nat), (∀ c ∈ css, c.length = z) → css.flatten[q]? = (css[q / z]?).bind (·[q % z]?)
  | [], q, _ => by simp
  | c :: css, q, h => by
    have hc : c.length = z := h c (by simp)
    rw [List.flatten_cons]
    by_cases hq : q < z
    · rw [List.getElem?_append_left (by omega), Nat.div_eq_of_lt hq, Nat.mod_eq_of_lt hq]; rfl
    · rw [List.getElem?_append_right (by omega), flatten_get hz css (q - c.length) (fun c' hc' => h c' (by simp [hc'])), hc]
      have e1 : q / z = (q - z) / z + 1 := by rw [Nat.div_eq q z, if_pos ⟨hz, by omega⟩]
      have e2 : q % z = (q - z) % z := Nat.mod_eq_sub_mod (by omega)
      rw [e1, e2]; rfl
theorem add_block (a : Addr) (j : Nat) : (a.add j).block = a.block := by unfold Addr.add; split <;> rfl
theorem add_off (a : Addr) (j : Nat) : (a.add j).off = a.off + j := by unfold Addr.add; split <;> simp_all
theorem add_zero (a : Addr) : a.add 0 = a := by simp [Addr.add]

variable {held : Bool}
theorem absD_ok : ∀ (fuel : Nat) (t : TypeId) (cs : List Value) (d : DataW H) (ps : List MemPlace), DataW.trod enc P W 0 (fun _ => true) held fuel t cs = some (d, ps) →
    ∀ (h : AHeap) (m : Inj) (as : List AVal) (h' : AHeap), absD P t h d = some (as, h') → Rel P W m h W → ArgOk P W h m as h' cs
  | 0, t, cs, d, ps, ht, _, _, _, _, _, _ => by simp [DataW.trod] at ht
  | fuel + 1, t, cs, d, ps, ht, h, m, as, h', ha, r => by
    unfold DataW.trod at ht
    split at ht
    · -- bool
      simp only [Option.some.injEq, Prod.mk.injEq] at ht
      obtain ⟨rfl, _⟩ := ht
      simp only [absD, Option.some.injEq, Prod.mk.injEq] at ha
      obtain ⟨rfl, rfl⟩ := ha
      exact argOk_flat r (.bool _) rfl
    · -- int
      split at ht
      · rename_i hk
        simp only [Option.some.injEq, Prod.mk.injEq] at ht
        obtain ⟨rfl, _⟩ := ht
        simp only [absD, Option.some.injEq, Prod.mk.injEq] at ha
        obtain ⟨rfl, rfl⟩ := ha
        rw [hk.1]
        exact argOk_flat r (.int _ _) rfl
      · cases ht
    · -- float
      split at ht
      · simp only [Option.some.injEq, Prod.mk.injEq] at ht
        obtain ⟨rfl, _⟩ := ht
        simp [absD] at ha
      · cases ht
    · -- string
      split at ht
      · simp only [Option.some.injEq, Prod.mk.injEq] at ht
        obtain ⟨rfl, _⟩ := ht
        simp only [absD, Option.some.injEq, Prod.mk.injEq] at ha
        obtain ⟨rfl, rfl⟩ := ha
        exact argOk_flat r (.str _) rfl
      · cases ht
    · -- nil pointer
      rename_i hu
      simp only [Option.some.injEq, Prod.mk.injEq] at ht
      obtain ⟨rfl, _⟩ := ht
      simp only [absD, hu, Option.some.injEq, Prod.mk.injEq] at ha
      obtain ⟨rfl, rfl⟩ := ha
      exact argOk_flat r .nilPtr rfl
    · -- pointer
      rename_i e a hu
      simp only [Option.map_eq_some_iff, Prod.mk.injEq] at ht
      obtain ⟨⟨d1, ps1⟩, h1, rfl, _⟩ := ht
      obtain ⟨cs1, hc, h1⟩ := bind_some h1
      simp only [absD, hu] at ha
      split at ha
      · cases ha
      · rename_i hz
        simp only [Option.map_eq_some_iff, Prod.mk.injEq] at ha
        obtain ⟨⟨as1, h2⟩, ha, e1, e2⟩ := ha
        dsimp only at e1 e2
        subst e1
        subst e2
        obtain ⟨m1, g1, g2, g3, g4, g5⟩ := absD_ok fuel e cs1 d1 ps1 h1 h m as1 h2 ha r
        obtain ⟨cur, et, fz, b1, b2, b3, b4⟩ := cells?_at hc (by omega)
        have hobj : ObjR P m1 W ⟨a.block, a.off, 0, cur.size⟩ (.cells none 1 as1) := by
          refine ⟨rfl, fun _ => ⟨cur, et, fz, b1, rfl, fun j x hx => ?_, fun h => by cases h⟩⟩
          obtain ⟨y, hy, hv⟩ := g4.at_ hx
          refine ⟨List.all_eq_true.1 g5 x (List.mem_of_getElem? hx), y, ?_, hv⟩
          have hj : j < cs1.length := (List.getElem?_eq_some_iff.1 hy).1
          rw [b4 j (by omega)]; exact hy
        have hnew := Rel.readOnly g3 (o := .cells none 1 as1) rfl hobj
        refine ⟨_, fun id hid => (Inj.upd_ne _ _ (by omega)).trans (g1 id hid), by simp; omega, hnew, .cons ?_ (.nil _), rfl⟩
        have := VR.ptr (m := m1.upd h2.size ⟨a.block, a.off, 0, cur.size⟩) h2.size 0 _ (Inj.upd_same _ _ _)
        have ea : a = ⟨a.block, a.off + 0, none⟩ := by cases a; simp_all
        rw [ea]; exact this
    · -- nil slice
      rename_i hu
      simp only [Option.some.injEq, Prod.mk.injEq] at ht
      obtain ⟨rfl, _⟩ := ht
      simp only [absD, hu, Option.some.injEq, Prod.mk.injEq] at ha
      obtain ⟨rfl, rfl⟩ := ha
      exact argOk_flat r .nilSlice rfl
    · -- slice
      rename_i e a len cap hu
      simp only at ht
      split at ht
      · rename_i hb
        obtain ⟨elems, he, ht⟩ := bind_some ht
        simp only [if_true, Option.map_eq_some_iff, Prod.mk.injEq] at ht
        obtain ⟨rest, hr, rfl, _⟩ := ht
        simp only [absD, hu] at ha
        split at ha
        · cases ha
        · rename_i hz
          simp only [Option.map_eq_some_iff, Prod.mk.injEq, List.length_map] at ha
          obtain ⟨⟨as1, h2⟩, ha, e1, e2⟩ := ha
          dsimp only at e1 e2
          subst e1
          subst e2
          have hlen : elems.length = len := by simpa using mapM_some_length he
          have hel : ∀ i x, elems[i]? = some x → ∃ c, W.cells? 0 (a.add (i * P.cellsOf e)) (P.cellsOf e) = some c ∧ DataW.trod enc P W 0 (fun _ => true) held fuel e c = some x := by
            intro i x hx
            have hi : i < len := by rw [← hlen]; exact (List.getElem?_eq_some_iff.1 hx).1
            have := mapM_some_get he i i (by simp [hi])
            rw [hx] at this
            exact bind_some this
          let css := (List.range len).map fun i => (W.cells? 0 (a.add (i * P.cellsOf e)) (P.cellsOf e)).getD []
          have hcss : ∀ i c, i < len → W.cells? 0 (a.add (i * P.cellsOf e)) (P.cellsOf e) = some c → css[i]? = some c := by
            intro i c hi hc
            simp [css, hi, hc]
          have ok := absL_ok (P := P) (W := W) (elems.map (·.1)) (List.replicate elems.length e) css h m as1 h2 (fun i d t hd ht => by
            rw [List.getElem?_map, Option.map_eq_some_iff] at hd
            obtain ⟨x, hx, rfl⟩ := hd
            obtain ⟨c, hc1, hc2⟩ := hel i x hx
            have hi : i < len := by rw [← hlen]; exact (List.getElem?_eq_some_iff.1 hx).1
            have et : t = e := by rw [List.getElem?_replicate] at ht; split at ht <;> simp_all
            subst et
            exact ⟨c, hcss i c hi hc1, fun h m as h' ha r => absD_ok fuel t c x.1 x.2 hc2 h m as h' ha r⟩) (by simp [css, hlen]) ha r
          obtain ⟨m1, g1, g2, g3, g4, g5⟩ := ok
          have hzp : 0 < P.cellsOf e := by omega
          have key : ∀ tot : Nat, ObjR P m1 W ⟨a.block, a.off, 0, tot⟩ (.cells none (if elems.length = 0 then 0 else 1) as1) → (cap ≠ 0 → a.spot = none) → ArgOk P W h m [.slice (some (h2.size, 0)) elems.length] (h2.push (.cells none (if elems.length = 0 then 0 else 1) as1)) [.slice (some a) len cap] := by
            intro tot hobj hspot
            have hnew := Rel.readOnly g3 (o := .cells none (if elems.length = 0 then 0 else 1) as1) (by by_cases hh : elems.length = 0 <;> simp [AObj.own, hh]) hobj
            refine ⟨_, fun id hid => (Inj.upd_ne _ _ (by omega)).trans (g1 id hid), by simp; omega, hnew, .cons ?_ (.nil _), rfl⟩
            rw [hlen]
            refine .slice h2.size 0 len cap _ a (Inj.upd_same _ _ _) hb.2.1 fun hcap => ⟨?_, fun h => absurd rfl h⟩
            have hsp := hspot hcap
            show a = ⟨a.block, a.off + 0, none⟩
            rw [← hsp]; rfl
          by_cases h0 : len = 0
          · refine key 0 ⟨rfl, fun h => by simp [hlen, h0] at h⟩ fun hcap => ?_
            have hr0 := mapM_some_get hr 0 0 (List.getElem?_range (by omega))
            have hl : rest.length = cap - len := by simpa using mapM_some_length hr
            rw [List.getElem?_eq_getElem (by omega)] at hr0
            obtain ⟨c, hc, _⟩ := bind_some hr0
            rw [h0] at hc
            simp only [Nat.add_zero, Nat.zero_mul, add_zero] at hc
            obtain ⟨_, _, _, _, hs, _⟩ := cells?_at hc hzp
            exact hs
          · have hx0 : elems[0]? = some elems[0] := List.getElem?_eq_getElem (by omega)
            obtain ⟨c0, hc0, _⟩ := hel 0 _ hx0
            simp only [Nat.zero_mul, add_zero] at hc0
            obtain ⟨cur, et, fz, b1, b2, b3, b4⟩ := cells?_at hc0 hzp
            refine key cur.size ⟨rfl, fun _ => ⟨cur, et, fz, b1, rfl, fun j x hx => ?_, fun h => by rw [if_neg (by omega)] at h; cases h⟩⟩ fun _ => b2
            obtain ⟨y, hy, hv⟩ := g4.at_ hx
            refine ⟨List.all_eq_true.1 g5 x (List.mem_of_getElem? hx), y, ?_, hv⟩
            have hall : ∀ c ∈ css, c.length = P.cellsOf e := by
              intro c hc
              simp only [css, List.mem_map, List.mem_range] at hc
              obtain ⟨i, hi, rfl⟩ := hc
              obtain ⟨c, hc, _⟩ := hel i _ (List.getElem?_eq_getElem (by omega : i < elems.length))
              rw [hc]
              exact (World.cells?_some hc).2.1
            rw [flatten_get hzp css j hall] at hy
            obtain ⟨c, hc, hy⟩ := bind_some hy
            have hi : j / P.cellsOf e < len := by
              have := (List.getElem?_eq_some_iff.1 hc).1
              simpa [css] using this
            obtain ⟨c', hc', _⟩ := hel (j / P.cellsOf e) _ (List.getElem?_eq_getElem (by omega))
            have := (hcss _ _ hi hc').symm.trans hc
            injection this with this
            subst this
            obtain ⟨cur', et', fz', d1, d2, d3, d4⟩ := cells?_at hc' hzp
            rw [add_block] at d1
            rw [b1] at d1
            injection d1 with d1
            injection d1 with d1
            subst d1
            have hm := d4 (j % P.cellsOf e) (Nat.mod_lt _ hzp)
            rw [add_off] at hm
            have ej : j / P.cellsOf e * P.cellsOf e + j % P.cellsOf e = j := by rw [Nat.mul_comm]; exact Nat.div_add_mod _ _
            rw [Nat.add_assoc, ej] at hm
            rw [hm]; exact hy
      · cases ht
    · -- struct
      rename_i cs _ c0 fs hu
      split at ht
      · rename_i hl
        simp only [Option.map_eq_some_iff, Prod.mk.injEq] at ht
        obtain ⟨xs, hx, rfl, _⟩ := ht
        simp only [absD, hu] at ha
        split at ha
        · rename_i hok
          have hlen : xs.length = fs.toList.length := mapM_some_length hx
          have ok := absL_ok (P := P) (W := W) (xs.map (·.1)) (fs.toList.map (·.type)) (fs.toList.map fun f => (cs.drop f.offset).take (P.cellsOf f.type)) h m as h' (fun i d t hd ht => by
            rw [List.getElem?_map, Option.map_eq_some_iff] at hd ht
            obtain ⟨x, hx', rfl⟩ := hd
            obtain ⟨f, hf, rfl⟩ := ht
            have := mapM_some_get hx i f hf
            rw [hx'] at this
            exact ⟨_, by rw [List.getElem?_map, hf]; rfl, fun h m as h' ha r => absD_ok fuel f.type _ x.1 x.2 this h m as h' ha r⟩) (by simp [hlen]) ha r
          rw [(flatten_fields (P := P) fs.toList 0 cs hok hl (Nat.zero_le _)).1, List.drop_zero] at ok
          exact ok
        · cases ha
      · cases ht
    · -- array
      rename_i cs _ c0 n e hu
      split at ht
      · rename_i hl
        simp only [Option.map_eq_some_iff, Prod.mk.injEq] at ht
        obtain ⟨xs, hx, rfl, _⟩ := ht
        simp only [absD, hu] at ha
        split at ha
        · rename_i hok
          have hlen : xs.length = n := by simpa using mapM_some_length hx
          have ok := absL_ok (P := P) (W := W) (xs.map (·.1)) (List.replicate n e) ((List.range n).map fun i => (cs.drop (i * P.cellsOf e)).take (P.cellsOf e)) h m as h' (fun i d t hd ht => by
            rw [List.getElem?_map, Option.map_eq_some_iff] at hd
            obtain ⟨x, hx', rfl⟩ := hd
            have hi : i < n := by rw [← hlen]; exact (List.getElem?_eq_some_iff.1 hx').1
            have et : t = e := by rw [List.getElem?_replicate] at ht; split at ht <;> simp_all
            subst et
            have := mapM_some_get hx i i (by simp [hi])
            rw [hx'] at this
            exact ⟨_, by rw [List.getElem?_map, List.getElem?_range hi]; rfl, fun h m as h' ha r => absD_ok fuel t _ x.1 x.2 this h m as h' ha r⟩) (by simp [hlen]) ha r
          rw [flatten_take_drop (P.cellsOf e) n cs (by rw [hl, hok])] at ok
          exact ok
        · cases ha
      · cases ht
    · -- nil interface
      rename_i hu
      simp only [Option.some.injEq, Prod.mk.injEq] at ht
      obtain ⟨rfl, _⟩ := ht
      simp only [absD, hu, Option.some.injEq, Prod.mk.injEq] at ha
      obtain ⟨rfl, rfl⟩ := ha
      exact argOk_flat r .nilIface rfl
    · -- interface
      split at ht
      · simp only [Option.some.injEq, Prod.mk.injEq] at ht
        obtain ⟨rfl, _⟩ := ht
        simp [absD] at ha
      · simp only [Option.map_eq_some_iff, Prod.mk.injEq] at ht
        obtain ⟨_, _, rfl, _⟩ := ht
        simp [absD] at ha
      · cases ht
    · -- nil map
      rename_i hu
      simp only [Option.some.injEq, Prod.mk.injEq] at ht
      obtain ⟨rfl, _⟩ := ht
      simp only [absD, hu, Option.some.injEq, Prod.mk.injEq] at ha
      obtain ⟨rfl, rfl⟩ := ha
      exact argOk_flat r .nilMap rfl
    · -- map
      split at ht
      · split at ht
        · obtain ⟨_, _, ht⟩ := bind_some ht
          simp only at ht
          split at ht
          · simp only [Option.some.injEq, Prod.mk.injEq] at ht
            obtain ⟨rfl, _⟩ := ht
            simp [absD] at ha
          · cases ht
        · cases ht
      · cases ht
    · -- nil function
      rename_i hu
      simp only [Option.some.injEq, Prod.mk.injEq] at ht
      obtain ⟨rfl, _⟩ := ht
      simp only [absD, hu, Option.some.injEq, Prod.mk.injEq] at ha
      obtain ⟨rfl, rfl⟩ := ha
      exact argOk_flat r .nilFunc rfl
    · rename_i hu
      simp only [Option.some.injEq, Prod.mk.injEq] at ht
      obtain ⟨rfl, _⟩ := ht
      simp [absD, hu] at ha
    · rename_i hu
      simp only [Option.some.injEq, Prod.mk.injEq] at ht
      obtain ⟨rfl, _⟩ := ht
      simp [absD, hu] at ha
    · split at ht
      · simp only [Option.some.injEq, Prod.mk.injEq] at ht
        obtain ⟨rfl, _⟩ := ht
        simp [absD] at ha
      · cases ht
    · split at ht
      · simp only [Option.some.injEq, Prod.mk.injEq] at ht
        obtain ⟨rfl, _⟩ := ht
        simp [absD] at ha
      · cases ht
    · split at ht
      · simp only [Option.some.injEq, Prod.mk.injEq] at ht
        obtain ⟨rfl, _⟩ := ht
        simp [absD] at ha
      · cases ht
    · cases ht
end
end Go.Abs
