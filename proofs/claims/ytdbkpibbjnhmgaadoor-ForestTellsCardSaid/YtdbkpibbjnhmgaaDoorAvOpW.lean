/-
 A part.
-/
import Derived.Test.YtdbkpibbjnhmgaaDoorAvOpN
namespace Go.Av
open Go.RowKit
section
variable {P : Program} {w0 : World} {m : AU} {h : AB} {w : World}
def Qs (n : Next) (v : Value) : Prop := n = .value v ∨ (n = .skip ∧ v = undef)
theorem Fl (g off : Nat) (e : TypeId) (fz : Nat × Nat) : ∀ (vs : List Value) (i : Nat) (cur : Array Value) (w : World), w.heap[g]? = some (.cells cur e fz) → off + i + vs.length ≤ cur.size →
  (∀ v ∈ vs, v.oneCell' = true) → (∀ j, j < cur.size → ¬ (fz.1 ≤ j ∧ j < fz.2)) →
  ∃ w', (storeCells ⟨g, off, none⟩ vs i).run P w = .ok () w' ∧ w'.heap[g]? = some (.cells ⟨cur.toList.take (off + i) ++ (vs ++ cur.toList.drop (off + i + vs.length))⟩ e fz) ∧ Ch w w' g ∧ w'.heap.size = w.heap.size
 | [], i, cur, w, hg, _, _, _ => by
  refine ⟨w, by simp [storeCells], ?_, Ch.refl w g, rfl⟩
  rw [hg]
  congr 2
  apply Array.ext'
  simp
 | v :: vs, i, cur, w, hg, hl, h1, hfz => by
  simp only [List.length_cons] at hl
  have hcell : w.cell? ⟨g, off + i, none⟩ = some cur[off + i] := by
   rw [cell_of_row w g (off + i) cur e fz hg]; exact Array.getElem?_eq_getElem (by omega)
  have hfr : w.frozen? ⟨g, off + i, none⟩ = false := by
   have := hfz (off + i) (by omega)
   simp only [World.frozen?, hg]
   simp only [Bool.and_eq_false_iff, decide_eq_false_iff_not]
   omega
  have hs : (store ((⟨g, off, none⟩ : Addr).add i) v).run P w = .ok () (w.setCell ⟨g, off + i, none⟩ v) := by
   rw [Addr.add_lit, run_store P w _ v _ (h1 v (by simp)), hcell]
   simp [hfr]
  have hg1 : (w.setCell ⟨g, off + i, none⟩ v).heap[g]? = some (.cells (cur.setIfInBounds (off + i) v) e fz) := by
   simp [World.setCell, Array.getElem?_modify, hg]
  obtain ⟨w', r1, r2, r3, r4⟩ := Fl g off e fz vs (i + 1) (cur.setIfInBounds (off + i) v) _ hg1 (by simp; omega) (fun u hu => h1 u (by simp [hu])) (by simpa using hfz)
  refine ⟨w', by simp [storeCells, hs, r1], ?_, ?_, ?_⟩
  ·rw [r2]
   congr 2
   have hlen : cur.toList.length = cur.size := by simp
   apply Array.ext'
   show (cur.setIfInBounds (off + i) v).toList.take (off + (i + 1)) ++ (vs ++ (cur.setIfInBounds (off + i) v).toList.drop (off + (i + 1) + vs.length)) = cur.toList.take (off + i) ++ (v :: vs ++ cur.toList.drop (off + i + (v :: vs).length))
   rw [Array.toList_setIfInBounds]
   generalize cur.toList = L at hlen
   have e1 : L.set (off + i) v = L.take (off + i) ++ v :: L.drop (off + i + 1) := by
    rw [List.set_eq_take_append_cons_drop, if_pos (by omega)]
   have hl2 : (L.take (off + i)).length = off + i := by simp; omega
   rw [e1, show off + (i + 1) + vs.length = (L.take (off + i)).length + (1 + vs.length) by omega, List.drop_length_add_append,
    show off + (i + 1) = (L.take (off + i)).length + 1 by omega, List.take_length_add_append, List.append_assoc, show 1 + vs.length = vs.length + 1 by omega, List.drop_succ_cons, List.drop_drop]
   simp only [List.take_succ_cons, List.take_zero, List.cons_append, List.nil_append, List.length_cons]
   rw [show off + i + 1 + vs.length = off + i + (vs.length + 1) by omega]
  ·have t1 : Ch w (w.setCell ⟨g, off + i, none⟩ v) g := ⟨rfl, rfl, rfl, by simp [World.setCell], fun k hk hne => Below.heap_setCell w ⟨g, off + i, none⟩ v k hne⟩
   exact t1.trans r3
  ·rw [r4]; simp [World.setCell]
theorem O4 (gr : Option TypeId) (l : List AA) : (JR gr l).length = l.length := by cases gr <;> simp [JR]
theorem TI {l : List AA} (h : l.all AA.one = true) : (l.map Av.Dl).all AA.one = true := by
 rw [List.all_eq_true] at h ⊢
 intro x hx
 obtain ⟨y, hy, rfl⟩ := List.mem_map.1 hx
 have := h y hy
 unfold Av.Dl
 split
 ·rfl
 ·exact this
theorem Ee (r : Rel P w0 m h w) {g : Gd} {id o : Nat} {E : HQ} {new : List AA} {ds : List Value} {h' : AB} (hE : m id = some E) (hv : BU m new ds) (hs : Bq g h id o new = some h') :
  ∃ w', (storeCells ⟨E.g, E.base + o, none⟩ ds).run P w = .ok () w' ∧ Rel P w0 m h' w' := by
 unfold Bq at hs
 split at hs
 ·rename_i gr cs hg
  split at hs
  ·rename_i hb
   obtain ⟨_, hb2, hb3⟩ := hb
   injection hs with hs
   subst hs
   replace hv : BU m (JR gr new) ds := by cases gr with | none => exact hv | some t => exact hv.Dl
   replace hb3 : (JR gr new).all AA.one = true := by cases gr with | none => exact hb3 | some t => exact TI hb3
   replace hb2 : o + (JR gr new).length ≤ cs.length := by rw [O4]; exact hb2
   revert hv hb2 hb3
   generalize JR gr new = nw
   clear new
   revert nw
   intro new hv hb3 hb2
   obtain ⟨hesz, hobj⟩ := r.obj id E _ hE hg
   obtain ⟨cur, e, fz, c1, c2, c3, c4⟩ := hobj (by omega)
   have hfz := c4 rfl
   have hin : ∀ j, j < cs.length → E.base + j < cur.size := fun j hj => by
    obtain ⟨_, c, hc, _⟩ := c3 j _ (List.getElem?_eq_getElem hj)
    exact (Array.getElem?_eq_some_iff.1 hc).1
   have hlen : E.base + o + 0 + ds.length ≤ cur.size ∨ ds = [] := by
    rcases Nat.eq_zero_or_pos ds.length with h0 | h0
    ·right; exact List.eq_nil_of_length_eq_zero h0
    ·left
     have := hin (o + new.length - 1) (by have := hv.1; omega)
     have := hv.1
     omega
   rcases hlen with hlen | hnil
   ·obtain ⟨w', r1, r2, r3, r4⟩ := Fl (P := P) E.g (E.base + o) e fz ds 0 cur w c1 hlen (fun v hv' => by
     obtain ⟨j, hj⟩ := List.mem_iff_getElem?.1 hv'
     have hj' : j < new.length := by rw [hv.1]; exact (List.getElem?_eq_some_iff.1 hj).1
     exact (hv.2 j _ v (List.getElem?_eq_getElem hj') hj).one (List.all_eq_true.1 hb3 _ (List.getElem_mem hj'))) (by rw [c2]; exact hfz.1.no)
    refine ⟨w', r1, r.write hE hg rfl rfl r3 ⟨⟨⟨hesz.1.1, fun h => by cases h⟩, hesz.2⟩, fun _ => ⟨_, e, fz, r2, ?_, fun j a ha => ?_, fun _ => hfz⟩⟩⟩
    ·rw [← c2]; simp; omega
    ·unfold C1 at ha
     rw [List.getElem?_append] at ha
     split at ha
     ·rename_i hj
      rw [List.getElem?_take] at ha
      split at ha
      ·rename_i hjo
       obtain ⟨a1, c, hc, hvc⟩ := c3 j a ha
       refine ⟨a1, c, ?_, hvc⟩
       have : (cur.toList.take (E.base + o + 0))[E.base + j]? = some c := by
        rw [List.getElem?_take, if_pos (by omega)]; simpa using hc
       simp only [List.getElem?_toArray]
       rw [List.getElem?_append_left (List.getElem?_eq_some_iff.1 this).1]
       exact this
      ·cases ha
     ·rename_i hj
      have htl : (cs.take o).length = o := by simp at hj ⊢; omega
      rw [htl] at ha hj
      have hctl : (cur.toList.take (E.base + o + 0)).length = E.base + o := by simp; omega
      rw [List.getElem?_append] at ha
      split at ha
      ·rename_i hjn
       obtain ⟨y, hy, hvy⟩ := hv.at_ ha
       refine ⟨List.all_eq_true.1 hb3 _ (List.mem_of_getElem? ha), y, ?_, hvy⟩
       simp only [List.getElem?_toArray]
       rw [List.getElem?_append_right (by omega), hctl, show E.base + j - (E.base + o) = j - o by omega, List.getElem?_append_left (List.getElem?_eq_some_iff.1 hy).1]
       exact hy
      ·rename_i hjn
       rw [List.getElem?_drop] at ha
       obtain ⟨a1, c, hc, hvc⟩ := c3 _ a ha
       refine ⟨a1, c, ?_, hvc⟩
       have hl := hv.1
       simp only [List.getElem?_toArray]
       rw [List.getElem?_append_right (by omega), hctl, List.getElem?_append_right (by omega), List.getElem?_drop]
       rw [show E.base + o + 0 + ds.length + (E.base + j - (E.base + o) - ds.length) = E.base + (o + new.length + (j - o - new.length)) by omega]
       simpa using hc
   ·subst hnil
    have hn : new = [] := List.eq_nil_of_length_eq_zero (by simpa using hv.1)
    subst hn
    refine ⟨w, by simp [storeCells], ?_⟩
    refine r.write hE hg rfl rfl (Ch.refl w _) ?_
    have : C1 cs o [] = cs := by simp [C1]
    rw [this]
    exact r.obj id E _ hE hg
  ·cases hs
 ·cases hs
theorem NW (r : Rel P w0 m h w) {g : Gd} {t : TypeId} {id o : Nat} {E : HQ} {x : AA} {x' : Value} {h' : AB} (hE : m id = some E) (hx : VR m x x') (hs : IT P g h t id o x = some h') :
  ∃ w', (storeVar t ⟨E.g, E.base + o, none⟩ x').run P w = .ok () w' ∧ Rel P w0 m h' w' := by
 unfold IT at hs
 split at hs
 ·rename_i new n hnew hn
  split at hs
  ·rename_i hl
   have hv := hx.cells hnew
   obtain ⟨w', r1, r2⟩ := Ee r hE hv hs
   refine ⟨w', ?_, r2⟩
   have : x'.cells.size = n := by rw [← hl, hv.1]; simp
   simp [storeVar, run_sizeOf w hn, this, r1]
  ·cases hs
 ·cases hs
theorem PB {x y : AA} (hs : LZ x y = true) : x = y := by
 unfold LZ at hs
 split at hs
 ·simp only [Bool.and_eq_true, decide_eq_true_eq, beq_iff_eq] at hs; obtain ⟨rfl, rfl⟩ := hs; rfl
 ·simp only [beq_iff_eq] at hs; rw [hs]
 ·simp only [beq_iff_eq] at hs; rw [hs]
 ·cases hs
theorem LL : ∀ (a b : List AA), a.length = b.length → ((a.zip b).all fun p => LZ p.1 p.2) = true → a = b
 | [], [], _, _ => rfl
 | [], _ :: _, hl, _ => by simp at hl
 | _ :: _, [], hl, _ => by simp at hl
 | x :: a, y :: b, hl, hs => by
  simp only [List.zip_cons_cons, List.all_cons, Bool.and_eq_true] at hs
  rw [PB hs.1, LL a b (by simpa using hl) hs.2]
theorem SG {x y : AA} (hs : Il x y = true) : x = y := by
 unfold Il at hs
 split at hs
 ·rename_i a b
  simp only [Bool.and_eq_true, beq_iff_eq] at hs
  rw [LL a b hs.1 hs.2]
 ·exact PB hs
theorem J7 (FY new : Value) (w : World) : ∃ v w', (Instr.keyThatStays FY new).run P w = .ok v w' ∧ (v = FY ∨ v = new) ∧ (w' = w ∨ w' = w.drew) := by
 unfold Instr.keyThatStays
 by_cases hb : Instr.sameBits 10000 FY new = true
 ·exact ⟨new, w, by simp [hb], .inr rfl, .inl rfl⟩
 ·have hch : (choose (.extern "map.whichKeyStays" 2)).run P w = .ok ((Question.extern "map.whichKeyStays" 2).cut (w.tape w.drawn (.extern "map.whichKeyStays" 2))) w.drew := rfl
  simp only [hb, Bool.false_eq_true, if_false, Sem.run_bind, hch, Result.andThen_ok, Sem.run_pure]
  by_cases h0 : (Question.extern "map.whichKeyStays" 2).cut (w.tape w.drawn (.extern "map.whichKeyStays" 2)) = 0
  ·exact ⟨new, w.drew, by simp [h0], .inr rfl, .inr rfl⟩
  ·exact ⟨FY, w.drew, by simp [h0], .inl rfl, .inr rfl⟩
theorem Fp {w : World} {g : Nat} {o o' : Obj} (ho : w.heap[g]? = some o) (hc : ∀ a b c, o ≠ .cells a b c) :
  ∃ w', (setObj g o').run P w = .ok () w' ∧ w'.heap[g]? = some o' ∧ Ch w w' g ∧ w'.heap.size = w.heap.size := by
 have hlt : g < w.heap.size := (Array.getElem?_eq_some_iff.1 ho).1
 refine ⟨{ w with heap := w.heap.setIfInBounds g o' }, ?_, ?_, ⟨rfl, rfl, rfl, by simp, fun k hk hne => ?_⟩, by simp⟩
 ·cases o with
  | cells a b c => exact absurd rfl (hc a b c)
  | _ => simp [setObj, Sem.run, ho]
 ·simp [hlt]
 ·simp [Ne.symm hne]
theorem Th {k : AA} {a : Value} (ha : VR m k a) {en : MapEntry} {v : Value} (hb : VR m k en.key) (hq : Il k k = true := by assumption) : Hr { en with key := a, val := v } = Hr en := by
 unfold Hr
 dsimp only
 generalize en.key = y at hb
 cases k with
 | str s => rw [ha.B9, hb.B9]
 | int => cases ha; cases hb; rfl
 | bool => cases ha; cases hb; rfl
 | agg => cases ha; cases hb; rfl
 | _ => simp [Il, LZ] at hq
theorem Oq {kt : TypeId} {k : AA} {k' : Value} {es : List (AA × AA)} {en : Array MapEntry} (hk : VR m k k') {s : ByteArray} (hs : k' = .string s) (c2 : es.length = en.size)
    (c3 : ∀ (i : Nat) (a b : AA) (e : MapEntry), es[i]? = some (a, b) → en[i]? = some e → VR m a e.key ∧ VR m b e.val) {n : Nat} (hf : DN P kt k es n = some none) : s ∉ en.toList.filterMap Hr := by
  subst hs
  intro hm
  obtain ⟨e, he, hse⟩ := List.mem_filterMap.1 hm
  obtain ⟨i, hi, rfl⟩ := List.getElem_of_mem he
  have hi' : i < es.length := by rw [c2]; simpa using hi
  have hv := (c3 i es[i].1 es[i].2 en.toList[i] (by simp [List.getElem?_eq_getElem hi']) (by rw [← Array.getElem?_toList]; exact List.getElem?_eq_getElem hi)).1
  have hkey : en.toList[i].key = .string s := by
    unfold Hr at hse
    split at hse
    · rename_i s' h; injection hse with hse; subst hse; exact h
    · cases hse
  rw [hkey] at hv
  have key : ∀ (es : List (AA × AA)) (n : Nat), DN P kt k es n = some none → ∀ x ∈ es, HP P 10000 kt k x.1 = some false := by
    intro es
    induction es with
    | nil => intro n _ x hx; cases hx
    | cons p es ih =>
      intro n h x hx
      obtain ⟨a, b⟩ := p
      unfold DN at h
      split at h
      · cases h
      · rename_i hq
        rcases List.mem_cons.1 hx with rfl | hx
        · exact hq
        · exact ih _ h x hx
      · cases h
  have hq := key es n hf es[i] (List.getElem_mem hi')
  generalize es[i].1 = a at hv hq
  unfold HP at hq
  split at hq
  all_goals first
    | (cases hq; done)
    | (exfalso; cases hk; done)
    | (exfalso; cases hv; done)
    | (have e1 := hk.B9
       have e2 := hv.B9
       have e3 := e1.symm.trans e2
       injection e3 with e3
       injection e3 with e3
       injection e3 with e3
       subst e3
       simp at hq)
theorem MF (r : Rel P w0 m h w) {g : Gd} {t : TypeId} {x k v : AA} {x' k' v' : Value} {h' : AB} (hx : VR m x x') (hk : VR m k k') (hv : VR m v v') (hs : Gm P g h t x k v = some h') :
  ∃ w', (Instr.mapUpdate t x' k' v').run P w = .ok () w' ∧ Rel P w0 m h' w' := by
 unfold Gm at hs
 split at hs
 ·rename_i kt et id hu
  split at hs
  ·rename_i hb
   obtain ⟨hkey, _⟩ := hb
   obtain ⟨d, hd⟩ := G0 hkey
   cases hx with
   | map _ E hE =>
    split at hs
    ·rename_i es hg
     obtain ⟨hbase, hobj⟩ := r.obj id E _ hE hg
     obtain ⟨en, clock, c1, c2, c3, c4⟩ := IM.two (hobj (by omega)) (by decide)
     have hck : ∀ e (w : World), (Instr.checkKey e 10000 kt k').run P w = .ok () w := fun e w => F6 20 10000 kt k k' e (by omega) hk hkey
     split at hs
     ·rename_i i v0 hf
      obtain ⟨res', f1, f2⟩ := Da (w := w) hk hd (by rw [c2, Array.length_toList]) (fun j a b e ha he => c3 j a b e ha (by simpa using he)) hf
      cases res' with
      | none => exact f2.elim
      | some p =>
       obtain ⟨i', u'⟩ := p
       obtain ⟨hi, _, hil, _⟩ := f2
       subst hi
       split at hs
       ·rename_i k0 v1 hki
        split at hs
        ·rename_i hsame
         injection hs with hs
         subst hs
         have hke := SG hsame
         subst hke
         have hil' : i < en.size := by omega
         have hold : VR m k0 en[i].key := (c3 i k0 v1 en[i] hki (Array.getElem?_eq_getElem hil')).1
         obtain ⟨kk, w1, s1, s2, s3⟩ := J7 (P := P) (en[i].key) k' w
         have hkk : VR m k0 kk := by rcases s2 with rfl | rfl; exact hold; exact hk
         have hw1 : w1.heap = w.heap := by rcases s3 with e | e <;> rw [e] <;> rfl
         have t1 : Ch w w1 E.g := by rcases s3 with e | e <;> rw [e]; exact Ch.refl w _; exact (Ch.refl w _).drew
         obtain ⟨w2, q1, q2, q3, _⟩ := Fp (P := P) (w := w1) (o := .map en clock) (o' := .map (en.modify i fun e => { e with key := kk, val := v' }) clock) (by rw [hw1]; exact c1) (by simp)
         refine ⟨w2, ?_, ?_⟩
         ·have e1 : ((en[i]?).map (·.key)).getD k' = en[i].key := by simp [hil']
          simp only [Instr.mapUpdate, Sem.run_bind, AK w hu, Result.andThen_ok, getObj, Sem.run, c1, hck, f1, e1, s1]
          exact q1
         ·refine r.write hE hg rfl rfl (t1.trans q3) ⟨hbase, fun _ => IM.of ⟨_, clock, q2, by simpa using c2, fun j a b e ha he => ?_, c4.modify hil' (Th hkk hold)⟩ (by decide)⟩
          rw [List.getElem?_set] at ha
          simp only [Array.getElem?_modify] at he
          by_cases hj : i = j
          ·subst hj
           have hil2 : i < es.length := hil
           simp only [hil2, if_true, Option.some.injEq, Prod.mk.injEq] at ha
           obtain ⟨rfl, rfl⟩ := ha
           simp only [Array.getElem?_eq_getElem hil', if_true, Option.map_some, Option.some.injEq] at he
           subst he
           exact ⟨hkk, hv⟩
          ·rw [if_neg hj] at ha he
           exact c3 j a b e ha he
        ·cases hs
       ·cases hs
     ·rename_i hf
      injection hs with hs
      subst hs
      obtain ⟨res', f1, f2⟩ := Da (w := w) hk hd (by rw [c2, Array.length_toList]) (fun j a b e ha he => c3 j a b e ha (by simpa using he)) hf
      cases res' with
      | some p => exact f2.elim
      | none =>
       obtain ⟨w2, q1, q2, q3, _⟩ := Fp (P := P) (w := w) (o := .map en clock) (o' := .map (en.push { key := k', val := v', born := clock }) (clock + 1)) c1 (by simp)
       refine ⟨w2, ?_, ?_⟩
       ·simp only [Instr.mapUpdate, Sem.run_bind, AK w hu, Result.andThen_ok, getObj, Sem.run, c1, hck, f1]
        exact q1
       ·refine r.write hE hg rfl rfl q3 ⟨hbase, fun _ => IM.of ⟨_, _, q2, by simp [c2], fun j a b e ha he => ?_, c4.push fun s hs => Oq hk hs c2 c3 hf⟩ (by decide)⟩
        rw [Array.getElem?_push] at he
        by_cases hj : j = en.size
        ·subst hj
         rw [if_pos rfl] at he
         injection he with he
         subst he
         rw [List.getElem?_append_right (by omega), c2, Nat.sub_self] at ha
         simp at ha
         obtain ⟨rfl, rfl⟩ := ha
         exact ⟨hk, hv⟩
        ·rw [if_neg hj] at he
         have hjl : j < es.length := by rw [c2]; exact (Array.getElem?_eq_some_iff.1 he).1
         rw [List.getElem?_append_left hjl] at ha
         exact c3 j a b e ha he
     ·cases hs
    ·cases hs
  ·cases hs
 ·cases hs
theorem ML (r : Rel P w0 m h w) {g : Gd} {ts : Array TypeId} {ty : TypeId} {x k : AA} {x' k' : Value} {h' : AB} (hx : VR m x x') (hk : VR m k k') (hs : IV P g h ts x k = some h') :
  ∃ w', (Builtin.delete_ ts ty #[x', k']).run P w = .ok (.tuple #[]) w' ∧ Rel P w0 m h' w' := by
 unfold IV at hs
 split at hs
 ·cases hs
 ·rename_i t ht
  split at hs
  ·rename_i kt et id hu
   split at hs
   ·rename_i hb
    obtain ⟨hkey, _⟩ := hb
    obtain ⟨d, hd⟩ := G0 hkey
    cases hx with
    | map _ E hE =>
     split at hs
     ·rename_i es hg
      obtain ⟨hbase, hobj⟩ := r.obj id E _ hE hg
      obtain ⟨en, clock, c1, c2, c3, c4⟩ := IM.two (hobj (by omega)) (by decide)
      have hck : ∀ e (w : World), (Instr.checkKey e 10000 kt k').run P w = .ok () w := fun e w => F6 20 10000 kt k k' e (by omega) hk hkey
      split at hs
      ·rename_i i v0 hf
       injection hs with hs
       subst hs
       obtain ⟨res', f1, f2⟩ := Da (w := w) hk hd (by rw [c2, Array.length_toList]) (fun j a b e ha he => c3 j a b e ha (by simpa using he)) hf
       cases res' with
       | none => exact f2.elim
       | some p =>
        obtain ⟨i', u'⟩ := p
        obtain ⟨hi, _, hil, _⟩ := f2
        subst hi
        have hil' : i < en.size := by omega
        obtain ⟨w2, q1, q2, q3, _⟩ := Fp (P := P) (w := w) (o := .map en clock) (o' := .map (en.eraseIdxIfInBounds i) clock) c1 (by simp)
        refine ⟨w2, ?_, ?_⟩
        ·simp [Builtin.delete_, ht, AK w hu, getObj, Sem.run, c1, hck, f1, q1]
        ·refine r.write hE hg rfl rfl q3 ⟨hbase, fun _ => IM.of ⟨_, _, q2, ?_, fun j a b e ha he => ?_, c4.erase i⟩ (by decide)⟩
         ·simp [Array.eraseIdxIfInBounds, hil', List.length_eraseIdx, c2]
         ·have he' : (en.toList.eraseIdx i)[j]? = some e := by
           rw [← he]
           simp [Array.eraseIdxIfInBounds, hil', ← Array.getElem?_toList]
          rw [List.getElem?_eraseIdx] at ha he'
          split at ha
          ·rename_i hj
           rw [if_pos hj] at he'
           exact c3 j a b e ha (by simpa using he')
          ·rename_i hj
           rw [if_neg hj] at he'
           exact c3 (j + 1) a b e ha (by simpa using he')
      ·rename_i hf
       injection hs with hs
       subst hs
       obtain ⟨res', f1, f2⟩ := Da (w := w) hk hd (by rw [c2, Array.length_toList]) (fun j a b e ha he => c3 j a b e ha (by simpa using he)) hf
       cases res' with
       | some p => exact f2.elim
       | none =>
        obtain ⟨w2, q1, q2, q3, _⟩ := Fp (P := P) (w := w) (o := .map en clock) (o' := .map en clock) c1 (by simp)
        refine ⟨w2, ?_, ?_⟩
        ·simp [Builtin.delete_, ht, AK w hu, getObj, Sem.run, c1, hck, f1, q1]
        ·have rr := r.write (o' := .map 2 es) hE hg rfl rfl q3 ⟨hbase, fun _ => IM.of ⟨en, clock, q2, c2, c3, c4⟩ (by decide)⟩
         have same : ∀ i, (h.set id (.map 2 es)).get i = h.get i := fun i => by
          rw [h.GI _ _ _ (h.An hg)]
          split
          ·rename_i e; rw [e, hg]
          ·rfl
         exact ⟨rr.below, rr.Ku, fun i F o hF ho => rr.obj i F o hF (by rw [same]; exact ho), fun i F o hF ho => rr.own i F o hF (by rw [same]; exact ho), fun i j F F' o o' hne h1 h2 g1 g2 => rr.sep i j F F' o o' hne h1 h2 (by rw [same]; exact g1) (by rw [same]; exact g2), rr.fz, fun i F o hF ho => rr.GX i F o hF (by rw [same]; exact ho), rr.df, fun i F o hF ho => rr.ME i F o hF (by rw [same]; exact ho)⟩
      ·cases hs
     ·cases hs
   ·cases hs
  ·cases hs
end
end Go.Av
