/-
 A part.
-/
import Derived.Test.YtdbkpibbjnhmgaaDoorAvOpW
namespace Go.Av
open Go.RowKit
section
variable {P : Program} {w0 : World} {m : AU} {h : AB} {w : World}
theorem LO {x : AA} {x' : Value} {n : Nat} (hx : VR m x x') (hl : MT x = some n) (w : World) : (Builtin.lenOf x').run P w = .ok n w := by
 cases hx <;> simp [MT] at hl
 case str s => subst hl; simp [Builtin.lenOf]
 case B8 => subst hl; simp [Builtin.lenOf]
 case CU => subst hl; simp [Builtin.lenOf]
 case slice => subst hl; simp [Builtin.lenOf]
 case Fy => subst hl; simp [Builtin.lenOf]
 case Ev => subst hl; simp [Builtin.lenOf]
theorem FP (r : Rel P w0 m h w) {z n : Nat} {x : AA} {x' : Value} {cs : List AA} (hx : VR m x x') (hn : ∃ l, MT x = some l ∧ n ≤ l) (hf : Cp h z n x = some cs) :
  ∃ ds : List Value, ds.length = n * z ∧ BU m cs ds ∧ ∀ w', w'.heap = w.heap → (Builtin.firstCells z n x').run P w' = .ok ds.toArray w' := by
 unfold Cp at hf
 split at hf
 ·rename_i id o l
  cases hx with
  | slice _ _ _ cap E a hE hle hc =>
   split at hf
   ·rename_i h0
    injection hf with hf; subst hf; subst h0
    exact ⟨[], by simp, .nil m, fun w' _ => by simp [Builtin.firstCells, loadCells, loadCellsFrom]⟩
   ·rename_i h0
    obtain ⟨l', hl', hnl⟩ := hn
    simp [MT] at hl'
    obtain ⟨ha, _⟩ := hc (by omega)
    subst ha
    obtain ⟨ds, h1, h2, h3, _⟩ := r.cells hE hf
    refine ⟨ds, h1, h2, fun w' hw' => ?_⟩
    have h3' : ∀ (j : Nat) (v : Value), ds[j]? = some v → w'.cell? ((⟨E.g, E.base + o, none⟩ : Addr).add j) = some v := fun j v hv => by
     rw [← h3 j v hv]; simp [World.cell?, hw']
    exact run_firstCells_some w' z n _ l cap ds h1 h3'
 ·rename_i l
  split at hf
  ·rename_i h0
   injection hf with hf; subst hf; subst h0
   exact ⟨[], by simp, .nil m, fun w' _ => by cases hx <;> simp [Builtin.firstCells, loadCells, loadCellsFrom]⟩
  ·cases hf
 ·rename_i s
  split at hf
  ·rename_i hz
   injection hf with hf
   subst hf; subst hz
   have := hx.B9
   subst this
   obtain ⟨l', hl', hnl⟩ := hn
   simp [MT] at hl'
   refine ⟨(s.take n).map fun (b : UInt8) => Value.int .u8 b.toNat, by simp; omega, BU.map _ _ _ fun b _ => .int _ _, fun w' _ => ?_⟩
   simp [Builtin.firstCells, Ip]
  ·cases hf
 ·rename_i n' a
  split at hf
  ·rename_i hb
   injection hf with hf; subst hf
   cases hx with
   | Fy A cap =>
    have h0 : n = 0 := by omega
    subst h0
    exact ⟨[], by simp, by simpa using BU.nil m, fun w' _ => by cases A <;> simp [Builtin.firstCells, loadCells, loadCellsFrom]⟩
   | Ev _ cap g o _ c hc hf1 hv =>
    obtain ⟨ds, h1, h2, h3⟩ := r.KO hf1 hv
    have hle : n * z ≤ n' * z := Nat.mul_le_mul_right _ hb.1
    have hl1 : (ds.take (n * z)).length = n * z := by rw [List.length_take]; omega
    refine ⟨ds.take (n * z), hl1, h2.take _, fun w' hw' => ?_⟩
    refine run_firstCells_some w' z n _ n' cap _ hl1 fun j v hj => ?_
    rw [List.getElem?_take] at hj
    split at hj
    ·rw [← h3 j v hj]; simp [World.cell?, hw']
    ·cases hj
  ·cases hf
 ·cases hf
theorem O8 {st xt e ty : TypeId} {ts : Array TypeId} {d : TypeDesc} {i : TypeInfo} {base : Option Addr} {sl cap n : Nat} {x' z : Value} {FY new : List AA} {ods nds : List Value}
  (hts0 : ts[0]? = some st) (hts1 : ts[1]? = some xt) (hu : P.underlying st = some (.slice e)) (hux : P.underlying xt = some d) (hd : GM d = true) (hi : P.info? e = some i) (hz : i.zero = some z) (hzs : z.cells.size = i.size)
  (hcap : cap < sl + n) (hb1 : sl + n ≤ 1099511627776) (hb2 : (sl + n) * i.bytes ≤ 1099511627776)
  (hl : ∀ w : World, (Builtin.lenOf x').run P w = .ok n w)
  (ho1 : ods.length = sl * i.size) (hold : ∀ w', w'.heap = w.heap → (Builtin.firstCells i.size sl (.slice base sl cap)).run P w' = .ok ods.toArray w')
  (hn1 : nds.length = n * i.size) (hnew : ∀ w', w'.heap = w.heap → (Builtin.firstCells i.size n x').run P w' = .ok nds.toArray w')
  (hvo : BU m FY ods) (hvn : BU m new nds) (h1 : (FY ++ new).all AA.one = true) :
  ∃ v' w' E, (Builtin.append_ ts ty #[.slice base sl cap, x']).run P w = .ok v' w' ∧ Kg P m w w' E (fun k => .slice (some (k, 0)) (sl + n), .cells (some e) 2 (FY ++ new)) v' := by
 obtain ⟨c, hc⟩ : ∃ c, c = (Question.appendCap (sl + n) cap e).cut (w.tape w.drawn (.appendCap (sl + n) cap e)) := ⟨_, rfl⟩
 have hcge : sl + n ≤ c := by rw [hc]; simp [Question.cut]
 have hch : (choose (.appendCap (sl + n) cap e)).run P w = .ok c w.drew := by rw [hc]; rfl
 have hfit := growslice_fits (bytes := i.bytes) hcap (by omega)
 obtain ⟨row, hrow⟩ : ∃ row, row = ods.toArray ++ nds.toArray ++ Builtin.zeroCells z.cells (c - (sl + n)) := ⟨_, rfl⟩
 have hsize : row.size = c * i.size := by
  rw [hrow]
  simp only [Array.size_append, List.size_toArray, ho1, hn1, size_zeroCells, hzs]
  rw [← Nat.add_mul, ← Nat.add_mul]
  congr 1
  omega
 have hvall := hvo.app hvn
 have hlen : (FY ++ new).length = (sl + n) * i.size := by rw [hvall.1, List.length_append, ho1, hn1, Nat.add_mul]
 have hsz : Bf P e = some i.size := by simp [Bf, hi]
 refine ⟨.slice (some ⟨w.heap.size, 0, none⟩) (sl + n) c, w.drew.alloc (.cells row e), ⟨w.heap.size, 0, i.size, c * i.size⟩, ?_, Ch.alloc_drew w _ _, rfl, by show _ < (w.heap.push _).size; simp, fun m' hm id hid => ⟨?_, ?_⟩⟩
 ·have hzv : ∀ w : World, (zeroValue e).run P w = .ok z w := fun w => by simp [zeroValue, typeInfo, hi, hz]
  have hti : ∀ w : World, (typeInfo e).run P w = .ok i w := fun w => by simp [typeInfo, hi]
  have hmark : ∀ (n : Nat) (w : World), (askRoom n).run P w = .ok () w := fun n w => by unfold askRoom; split <;> rfl
  have hn63 : ¬ (((sl + n : Nat) : Int) > IntKind.i64.max) := by simp [IntKind.max_i64]; omega
  have hnotInt : (match d with | .int _ => true | _ => false) = false := by cases d <;> simp [GM] at hd <;> rfl
  have hnr : ¬ (sl + n ≤ cap) := by omega
  have hnf : ¬ (Builtin.nextslicecap (sl + n) cap * i.bytes > 2 ^ 48) := by omega
  have e2 : (newRow e row).run P w.drew = .ok ⟨w.heap.size, 0, none⟩ (w.drew.alloc (.cells row e)) := EE w.drew e row
  rw [hrow] at e2 ⊢
  clear hnotInt
  simp only [Builtin.append_, List.getElem?_toArray, List.getElem?_cons_zero, List.getElem?_cons_succ, hts0, hts1, Sem.run_bind, AK w hu, Result.andThen_ok, run_sizeOf w hsz, AK w hux, Sem.run_pure]
  cases d <;> simp [GM] at hd <;>
   simp only [Bool.false_eq_true, if_false, Sem.run_bind, hl, Result.andThen_ok, Sem.run_ite, if_neg hnr, hn63, false_and, hti, if_neg hnf, hch, hmark, hold w.drew rfl, hnew w.drew rfl, hzv, e2, Sem.run_pure, Bool.not_false, if_true]
 ·exact .slice id 0 (sl + n) c _ _ hid hcge (fun _ => ⟨by simp, fun _ => by simp⟩)
 ·refine Ge (e := e) (fz := (0, 0)) (heap_alloc_new w.drew _) rfl (by simp [E5, Ep hsz]) (by simp [hsize]) ?_ h1 ⟨.inl rfl, fun _ => rfl⟩
  have : row.toList.take (FY ++ new).length = ods ++ nds := by
   rw [hrow, hlen]
   have : (sl + n) * i.size = (ods ++ nds).length := by simp [ho1, hn1, Nat.add_mul]
   rw [this]
   simp only [Array.toList_append]
   rw [List.take_left]
  rw [this]
  exact hvall.mono hm
theorem Oj {st xt e ty : TypeId} {ts : Array TypeId} {d : TypeDesc} {i : TypeInfo} {base : Addr} {sl cap n : Nat} {x' : Value} {nds : List Value} {w1 : World}
  (hts0 : ts[0]? = some st) (hts1 : ts[1]? = some xt) (hu : P.underlying st = some (.slice e)) (hux : P.underlying xt = some d) (hd : GM d = true) (hi : P.info? e = some i)
  (hcap : sl + n ≤ cap) (hl : ∀ w : World, (Builtin.lenOf x').run P w = .ok n w)
  (hnew : (Builtin.firstCells i.size n x').run P w = .ok nds.toArray w) (hst : (storeCells (base.add (sl * i.size)) nds).run P w = .ok () w1) :
  (Builtin.append_ ts ty #[.slice (some base) sl cap, x']).run P w = .ok (.slice (some base) (sl + n) cap) w1 := by
 have hsz : Bf P e = some i.size := by simp [Bf, hi]
 simp only [Builtin.append_, List.getElem?_toArray, List.getElem?_cons_zero, List.getElem?_cons_succ, hts0, hts1, Sem.run_bind, AK w hu, Result.andThen_ok, run_sizeOf w hsz, AK w hux, Sem.run_pure]
 cases d <;> simp [GM] at hd <;>
  simp only [Bool.false_eq_true, if_false, Sem.run_bind, hl, Result.andThen_ok, Sem.run_ite, if_pos hcap, hnew, hst, Sem.run_pure, Bool.not_false, if_true]
theorem GH {st xt e ty : TypeId} {ts : Array TypeId} {d : TypeDesc} {i : TypeInfo} {base : Option Addr} {sl cap : Nat} {x' : Value}
  (hts0 : ts[0]? = some st) (hts1 : ts[1]? = some xt) (hu : P.underlying st = some (.slice e)) (hux : P.underlying xt = some d) (hd : GM d = true) (hi : P.info? e = some i)
  (hcap : sl ≤ cap) (hl : ∀ w : World, (Builtin.lenOf x').run P w = .ok 0 w) (hnew : (Builtin.firstCells i.size 0 x').run P w = .ok #[] w) :
  (Builtin.append_ ts ty #[.slice base sl cap, x']).run P w = .ok (.slice base sl cap) w := by
 have hsz : Bf P e = some i.size := by simp [Bf, hi]
 simp only [Builtin.append_, List.getElem?_toArray, List.getElem?_cons_zero, List.getElem?_cons_succ, hts0, hts1, Sem.run_bind, AK w hu, Result.andThen_ok, run_sizeOf w hsz, AK w hux, Sem.run_pure]
 cases d <;> simp [GM] at hd <;> cases base <;>
  simp [hl, hcap, hnew, storeCells]
theorem KH (r : Rel P w0 m h w) {g : Gd} {st xt e ty : TypeId} {ts : Array TypeId} {d : TypeDesc} {i : TypeInfo} {rr : Option (Nat × Nat)} {sl n : Nat} {x v : AA} {s' x' : Value} {h' : AB}
  (hts0 : ts[0]? = some st) (hts1 : ts[1]? = some xt) (hu : P.underlying st = some (.slice e)) (hux : P.underlying xt = some d) (hd : GM d = true) (hi : P.info? e = some i)
  (hs : VR m (.slice rr sl) s') (hx : VR m x x') (hln : MT x = some n) (ha : appendCore g h e i rr sl n x = some (v, h')) :
  ∃ m' v' w', (Builtin.append_ ts ty #[s', x']).run P w = .ok v' w' ∧ (m.ext h.size m') ∧ Rel P w0 m' h' w' ∧ VR m' v v' := by
 have hl := fun w => LO (P := P) hx hln w
 unfold appendCore at ha
 split at ha
 ·-- nothing is appended
  rename_i h0
  subst h0
  injection ha with ha
  injection ha with e1 e2
  subst e1; subst e2
  have hnew : (Builtin.firstCells i.size 0 x').run P w = .ok #[] w := by
   cases hx <;> simp [MT] at hln <;> first | (simp [Builtin.firstCells, loadCells, loadCellsFrom]; done) | (rename_i A _; cases A <;> simp [Builtin.firstCells, loadCells, loadCellsFrom])
  cases hs with
  | B8 => exact ⟨m, _, w, GH hts0 hts1 hu hux hd hi (Nat.le_refl _) hl hnew, AU.ext.refl _ _, r, .B8⟩
  | CU a => exact ⟨m, _, w, GH hts0 hts1 hu hux hd hi (Nat.le_refl _) hl hnew, AU.ext.refl _ _, r, .CU a⟩
  | slice id o _ cap E a hE hle hc => exact ⟨m, _, w, GH hts0 hts1 hu hux hd hi hle hl hnew, AU.ext.refl _ _, r, .slice id o sl cap E a hE hle hc⟩
 ·rename_i hn0
  split at ha
  ·rename_i hb
   obtain ⟨hb0, hb1, hb2, hb3⟩ := hb
   cases hz : i.zero with
   | none => simp [hz] at hb3
   | some z =>
    simp only [hz, Option.map_some, Option.some.injEq] at hb3
    split at ha
    ·rename_i new FY Ig hfo
     split at ha
     ·rename_i h1
      simp only [Option.map_eq_some_iff] at Ig
      obtain ⟨new0, Ig, rfl⟩ := Ig
      obtain ⟨nds, hn1, hvn0, hnew⟩ := FP r hx ⟨n, hln, Nat.le_refl _⟩ Ig
      have hvn := hvn0.Dl
      generalize hnm : new0.map Dl = new at *
      obtain ⟨ods, ho1, hvo, hold⟩ := FP r hs ⟨sl, rfl, Nat.le_refl _⟩ hfo
      have grow : ∀ (h1' : AB) (cap : Nat) (base : Option Addr), s' = .slice base sl cap → cap < sl + n → h1'.size = h.size → Rel P w0 m h1' w →
        ∃ m' v' w', (Builtin.append_ ts ty #[s', x']).run P w = .ok v' w' ∧ (m.ext h.size m') ∧ Rel P w0 m' (h1'.push (.cells (some e) 2 (FY ++ new))) w' ∧ VR m' (.slice (some (h.size, 0)) (sl + n)) v' := by
       intro h1' cap base hs' hcap hsz rel
       subst hs'
       obtain ⟨v', w', E, g1, t1, t2, _, t4⟩ := O8 (ty := ty) hts0 hts1 hu hux hd hi hz hb3 hcap hb1 hb2 hl ho1 hold hn1 hnew hvo hvn h1
       have hle := AU.GN (m := m) E (r.fresh (Nat.le_refl h.size))
       obtain ⟨q1, q2⟩ := t4 (m.upd h.size E) hle h.size (AU.Ci m _ E)
       refine ⟨m.upd h.size E, v', w', g1, AU.G8 m _ (by omega), ?_, q1⟩
       rw [← hsz] at q2 ⊢
       exact rel.new t1 t2 q2
      split at ha
      ·-- onto nil
       injection ha with ha
       injection ha with e1 e2
       subst e1; subst e2
       cases hs with
       | B8 => exact grow h 0 none rfl (by omega) rfl r
       | CU a => exact grow h 0 (some a) rfl (by omega) rfl r
      ·rename_i id o
       split at ha
       ·rename_i e' cs hg
        split at ha
        ·rename_i hmay
         obtain ⟨_, he⟩ := hmay
         subst he
         injection ha with ha
         injection ha with e1 e2
         subst e1; subst e2
         cases hs with
         | slice _ _ _ cap E a hE hle hc =>
          have rk : Rel P w0 m (h.set id (.cells (some e') 0 [])) w := r.kill hg
          by_cases hcap : sl + n ≤ cap
          ·-- in place
           obtain ⟨haa, hbd⟩ := hc (by omega)
           subst haa
           obtain ⟨hesz, hobj⟩ := r.obj id E _ hE hg
           have hesz' : E.QK = i.size := by rw [hesz.1.1]; simp [E5, Program.cellsOf, hi]
           have hbd := hbd (by omega)
           rw [hesz'] at hbd
           obtain ⟨cur, et, fz, c1, c2, c3, c4⟩ := hobj (by omega)
           have hfit : E.base + o + (sl + n) * i.size ≤ cur.size := by
            have := Nat.mul_le_mul_right i.size hcap
            omega
           have e3 : E.base + o + sl * i.size + 0 + nds.length ≤ cur.size := by rw [hn1]; rw [Nat.add_mul] at hfit; omega
           obtain ⟨w1, r1, r2, r3, _⟩ := Fl (P := P) E.g (E.base + o + sl * i.size) et fz nds 0 cur w c1 e3 (fun u hu' => by
            obtain ⟨j, hj⟩ := List.mem_iff_getElem?.1 hu'
            have hj' : j < new.length := by rw [hvn.1]; exact (List.getElem?_eq_some_iff.1 hj).1
            refine (hvn.2 j _ u (List.getElem?_eq_getElem hj') hj).one (List.all_eq_true.1 h1 _ ?_)
            exact List.mem_append.2 (.inr (List.getElem_mem hj'))) (by rw [c2]; exact (c4 rfl).1.no)
           have hrun : (Builtin.append_ ts ty #[.slice (some ⟨E.g, E.base + o, none⟩) sl cap, x']).run P w = .ok (.slice (some ⟨E.g, E.base + o, none⟩) (sl + n) cap) w1 :=
            Oj hts0 hts1 hu hux hd hi hcap hl (hnew w rfl) (by rw [Addr.add_lit]; exact r1)
           have hle' := AU.GN (m := m) ⟨E.g, E.base + o, i.size, E.total⟩ (r.fresh (Nat.le_refl h.size))
           have hB := r.own id E _ hE hg rfl
           have hobj' : G9 P (m.upd h.size ⟨E.g, E.base + o, i.size, E.total⟩) w1 ⟨E.g, E.base + o, i.size, E.total⟩ (.cells (some e') 2 (FY ++ new)) := by
            refine ⟨⟨by simp [E5, Program.cellsOf, hi], fun h => by cases h⟩, fun _ => ⟨_, et, fz, r2, ?_, fun j a ha => ⟨List.all_eq_true.1 h1 a (List.mem_of_getElem? ha), ?_⟩, fun _ => c4 rfl⟩⟩
            ·rw [← c2]; simp; omega
            ·have hcl : (cur.toList.take (E.base + o + sl * i.size + 0)).length = E.base + o + sl * i.size := by simp; omega
             have holl : FY.length = sl * i.size := by rw [hvo.1, ho1]
             rw [List.getElem?_append] at ha
             split at ha
             ·rename_i hj
              have hcc : cs[o + j]? = some a := by
               simp only [Cp] at hfo
               split at hfo
               ·injection hfo with hfo; subst hfo; simp at ha
               ·unfold CB at hfo
                rw [hg] at hfo
                simp only at hfo
                split at hfo
                ·injection hfo with hfo
                 subst hfo
                 rw [List.getElem?_take] at ha
                 split at ha
                 ·rwa [List.getElem?_drop] at ha
                 ·cases ha
                ·cases hfo
              obtain ⟨_, c, hc', hvc⟩ := c3 (o + j) a hcc
              refine ⟨c, ?_, hvc.mono hle'⟩
              have : (cur.toList.take (E.base + o + sl * i.size + 0))[E.base + o + j]? = some c := by
               rw [List.getElem?_take, if_pos (by omega)]
               rw [← Nat.add_assoc] at hc'
               simpa using hc'
              simp only [List.getElem?_toArray]
              rw [List.getElem?_append_left (List.getElem?_eq_some_iff.1 this).1]
              exact this
             ·rename_i hj
              obtain ⟨y, hy, hvy⟩ := hvn.at_ ha
              refine ⟨y, ?_, hvy.mono hle'⟩
              simp only [List.getElem?_toArray]
              rw [List.getElem?_append_right (by omega), hcl, List.getElem?_append_left (by have := (List.getElem?_eq_some_iff.1 hy).1; omega)]
              rw [← hy]
              congr 1
              omega
           refine ⟨m.upd h.size ⟨E.g, E.base + o, i.size, E.total⟩, _, w1, hrun, AU.G8 m _ (by omega), ?_, ?_⟩
           ·refine (rk.ghost (.cells (some e') 2 (FY ++ new))).place (E := ⟨E.g, E.base + o, i.size, E.total⟩) r3 hB (fun id2 E2 o2 h2 ho2 hl2 => ?_) (fun j => r.GX _ _ _ hE hg rfl j) (fun hd => r.ME _ _ _ hE hg rfl hd) (r.fresh (Nat.le_refl _)) ?_ hobj'
            ·have hid2 := r.Ku id2 E2 h2
             rw [AB.CF _ _ (by simpa using hid2)] at ho2
             by_cases he2 : id2 = id
             ·subst he2
              rw [h.get_set_same _ hid2] at ho2
              injection ho2 with ho2
              subst ho2
              simp [A9.live] at hl2
             ·rw [h.Ar _ (h.An hg) he2] at ho2
              exact fun e => r.sep id id2 E E2 _ o2 (fun e => he2 e.symm) hE h2 hg ho2 rfl hl2 e.symm
            ·exact AB.Cv _ _
           ·refine .slice h.size 0 (sl + n) cap ⟨E.g, E.base + o, i.size, E.total⟩ _ (AU.Ci m _ _) hcap (fun _ => ⟨by simp, fun _ => by simpa using hbd⟩)
          ·exact grow _ cap (some a) rfl (by omega) rfl rk
        ·cases ha
       ·cases ha
     ·cases ha
    ·cases ha
  ·cases ha
theorem MP (r : Rel P w0 m h w) {g : Gd} {ts : Array TypeId} {ty : TypeId} {s x v : AA} {s' x' : Value} {h' : AB} (hs : VR m s s') (hx : VR m x x') (ha : JX P g h ts s x = some (v, h')) :
  ∃ m' v' w', (Builtin.append_ ts ty #[s', x']).run P w = .ok v' w' ∧ (m.ext h.size m') ∧ Rel P w0 m' h' w' ∧ VR m' v v' := by
 unfold JX at ha
 split at ha
 ·rename_i st xt rr sl n hts0 hts1 hln
  split at ha
  ·rename_i e dd hu hux
   split at ha
   ·rename_i i hi
    split at ha
    ·rename_i hd
     exact KH r hts0 hts1 hu hux hd hi hs hx hln ha
    ·cases ha
   ·cases ha
  ·cases ha
 ·cases ha
theorem Ob (r : Rel P w0 m h w) {g : Gd} {ts : Array TypeId} {ty : TypeId} {d x v : AA} {d' x' : Value} {h' : AB} (hd : VR m d d') (hx : VR m x x') (ha : Qm P g h ts d x = some (v, h')) :
  ∃ v' w', (Builtin.copy_ ts ty #[d', x']).run P w = .ok v' w' ∧ Rel P w0 m h' w' ∧ VR m v v' := by
 unfold Qm at ha
 split at ha
 ·rename_i dt rr dl sl hts hln
  split at ha
  ·rename_i e hu
   split at ha
   ·rename_i z hz
    have hl := fun w => LO (P := P) hx hln w
    split at ha
    ·rename_i new id o hf
     obtain ⟨ds, n1, hv, hfc⟩ := FP r hx ⟨sl, hln, Nat.min_le_left _ _⟩ hf
     cases hd with
     | slice _ _ _ cap E a hE hle hc =>
      split at ha
      ·rename_i h0
       injection ha with ha
       injection ha with e1 e2
       subst e1; subst e2
       have hnil : ds = [] := List.eq_nil_of_length_eq_zero (by rw [n1, h0]; simp)
       subst hnil
       refine ⟨.int .i64 0, w, ?_, r, .int _ _⟩
       have hfc' := hfc w rfl
       rw [h0] at hfc'
       have hmin : Nat.min sl dl = 0 := h0
       simp [Builtin.copy_, hts, AK w hu, hl, run_sizeOf w hz, hmin, hfc', storeCells, goInt]
      ·rename_i h0
       cases hsc : Bq g h id o new with
       | none => simp [hsc] at ha
       | some h2 =>
        simp only [hsc, Option.map_some, Option.some.injEq, Prod.mk.injEq] at ha
        obtain ⟨rfl, rfl⟩ := ha
        obtain ⟨haa, _⟩ := hc (by omega)
        subst haa
        obtain ⟨w', r1, r2⟩ := Ee r hE hv hsc
        refine ⟨.int .i64 (min sl dl : Nat), w', ?_, r2, .int _ _⟩
        have hmin : Nat.min sl dl = min sl dl := rfl
        simp [Builtin.copy_, hts, AK w hu, hl, run_sizeOf w hz, hmin, hfc w rfl, r1, goInt]
    ·rename_i new hf
     split at ha
     ·rename_i h0
      injection ha with ha
      injection ha with e1 e2
      subst e1; subst e2
      obtain ⟨ds, n1, hv, hfc⟩ := FP r hx ⟨sl, hln, Nat.min_le_left _ _⟩ hf
      have hnil : ds = [] := List.eq_nil_of_length_eq_zero (by rw [n1, h0]; simp)
      subst hnil
      have hfc' := hfc w rfl
      cases hd
      ·refine ⟨.int .i64 0, w, ?_, r, .int _ _⟩
       rw [h0] at hfc'
       have hmin : Nat.min sl 0 = 0 := h0
       simp [Builtin.copy_, hts, AK w hu, hl, run_sizeOf w hz, hfc', goInt]
      ·refine ⟨.int .i64 0, w, ?_, r, .int _ _⟩
       rw [h0] at hfc'
       simp [Builtin.copy_, hts, AK w hu, hl, run_sizeOf w hz, hfc', goInt, storeCells]
     ·cases ha
    ·cases ha
   ·cases ha
  ·cases ha
 ·cases ha
theorem Od (r : Rel P w0 m h w) {g : Gd} {s d : TypeId} {x v : AA} {x' : Value} {h' : AB} (hx : VR m x x') (hc : QX P g h s d x = some (v, h')) :
  ∃ v' w', (convert s d x').run P w = .ok v' w' ∧ Rel P w0 m h' w' ∧ VR m v v' := by
 unfold QX at hc
 split at hc
 ·rename_i e0 e id o n hs hd
  split at hc
  ·rename_i gr cs he hg
   cases hb : (Nat.beq s d && (g.may id && !(Nat.beq n 0))) with
   | false => rw [hb] at hc; cases hc
   | true =>
    rw [hb] at hc
    simp only [cond_true, Option.some.injEq, Prod.mk.injEq] at hc
    obtain ⟨rfl, rfl⟩ := hc
    simp only [Bool.and_eq_true, Bool.not_eq_true'] at hb
    obtain rfl := Nat.eq_of_beq_eq_true hb.1
    have hn : n ≠ 0 := fun e => by subst e; simp at hb
    cases hx with
    | slice _ _ _ cap E a hE hle hcp =>
     obtain ⟨rfl, _⟩ := hcp (by omega)
     obtain ⟨he1, hobj⟩ := r.obj id E _ hE hg
     obtain ⟨cur, ee, fz, h1, h2, h3, h4⟩ := hobj (by simp)
     obtain ⟨w', fz', q1, q2, q3, q4⟩ := JN (P := P) (w := w) (a := ⟨E.g, E.base + o, none⟩) rfl h1 (by rw [h2]; exact (h4 rfl).1)
     refine ⟨_, w', ?_, r.write hE hg rfl rfl q4 ⟨he1, fun _ => ⟨cur, ee, fz', q2, h2, h3, fun _ => ⟨by rw [← h2]; exact q3, fun e => by cases e⟩⟩⟩, .slice id o n cap E _ hE hle hcp⟩
     have ee0 : e0 = e := by rw [hs] at hd; injection hd with hd; injection hd
     subst ee0
     simp [convert, AK w hs, AK w he, q1]
  ·cases hc
 ·cases hc
theorem Lq {P : Program} {g : Gd} {h : AB} {v v' : AA} {h' : AB} (hf : Fm g h v = some (v', h')) : ∀ w0 (m : AU) w u, Rel P w0 m h w → VR m v u → ∃ m' : AU, m.ext h.size m' ∧ Rel P w0 m' h' w ∧ VR m' v' u := by
 unfold Fm at hf
 split at hf
 ·injection hf with hf; injection hf with e1 e2; subst e1; subst e2
  exact fun w0 m w u r hv => ⟨m, AU.ext.refl _ _, r, by cases hv <;> exact .Fy _ _⟩
 ·rename_i id n
  by_cases hn : n = 0
  ·subst hn
   simp only [Nat.beq_refl, cond_true, Option.some.injEq, Prod.mk.injEq] at hf
   obtain ⟨rfl, rfl⟩ := hf
   exact fun w0 m w u r hv => ⟨m, AU.ext.refl _ _, r, by cases hv; exact .Fy _ _⟩
  ·have : Nat.beq n 0 = false := by cases n; exact absurd rfl hn; rfl
   rw [this] at hf
   simp only [cond_false] at hf
   split at hf
   ·rename_i gr cs hg
    cases hm : g.may id with
    | false => rw [hm] at hf; cases hf
    | true =>
     rw [hm] at hf
     simp only [cond_true, Option.some.injEq, Prod.mk.injEq] at hf
     obtain ⟨rfl, rfl⟩ := hf
     refine fun w0 m w u r hv => ?_
     cases hv with
     | slice _ _ _ cap E a hE hle hc =>
      obtain ⟨ha, _⟩ := hc (by omega)
      subst ha
      obtain ⟨cur, r', hle', _, _, hcs⟩ := r.freeze hE hg
      refine ⟨m.still E.g cur, ⟨fun _ _ => rfl, hle'.fz, fun _ _ h => h⟩, r', .Ev n cap _ _ cs (fun i => (cur[E.base + i]?).getD undef) hle (fun i hi => ?_) (fun i x hx => ?_)⟩
      ·obtain ⟨c, h1, _⟩ := hcs i _ (List.getElem?_eq_getElem hi)
       simp [AU.still, h1]
      ·obtain ⟨c, h1, h2⟩ := hcs i x hx
       rw [h1]
       exact h2.mono hle'
   ·rename_i gr c0 cs hg
    simp only [Option.some.injEq, Prod.mk.injEq] at hf
    obtain ⟨rfl, rfl⟩ := hf
    refine fun w0 m w u r hv => ⟨m, AU.ext.refl _ _, r, ?_⟩
    cases hv with
    | slice _ _ _ cap E a hE hle hc =>
     obtain ⟨ha, _⟩ := hc (by omega)
     subst ha
     have hz := (r.obj id E _ hE hg).1.1.2 rfl
     refine .Ev n cap _ _ (c0 :: cs) (fun i => (m.fz E.g (E.base + i)).getD undef) hle (fun i hi => ?_) (fun i x hx => ?_)
     ·obtain ⟨c, h1, _⟩ := hz i _ (List.getElem?_eq_getElem hi)
      rw [Nat.add_zero, h1]; rfl
     ·obtain ⟨c, h1, h2⟩ := hz i x hx
      rw [h1]
      exact h2
   ·cases hf
 ·injection hf with hf; injection hf with e1 e2; subst e1; subst e2
  exact fun w0 m w u r hv => ⟨m, AU.ext.refl _ _, r, hv⟩
theorem Ih (r : Rel P w0 m h w) {g : Gd} {t : TypeId} {x k v : AA} {x' k' v' : Value} {h' : AB} (hx : VR m x x') (hk : VR m k k') (hv : VR m v v') (hs : EY P g h t x k v = some h') :
  ∃ m' w', (Instr.mapUpdate t x' k' v').run P w = .ok () w' ∧ m.ext h.size m' ∧ Rel P w0 m' h' w' := by
 unfold EY at hs
 cases hz : Fm g h v with
 | none => rw [hz] at hs; cases hs
 | some q =>
  obtain ⟨v1, h1⟩ := q
  rw [hz] at hs
  obtain ⟨m1, he, r1, hv1⟩ := Lq hz w0 m w v' r hv
  have hle : m.le m1 := ⟨fun id E hE => by rw [he.i id (r.Ku id E hE)]; exact hE, he.fz⟩
  obtain ⟨w', q1, q2⟩ := MF r1 (hx.mono hle) (hk.mono hle) hv1 hs
  exact ⟨m1, w', q1, he, q2⟩
theorem NU (r : Rel P w0 m h w) {g : Gd} {ts : Array TypeId} {ty : TypeId} {x : AA} {x' : Value} {h' : AB} (hx : VR m x x') (ha : IQ P g h ts x = some h') :
  ∃ w', (Builtin.clear_ ts ty #[x']).run P w = .ok (.tuple #[]) w' ∧ Rel P w0 m h' w' := by
 unfold IQ at ha
 split at ha
 ·rename_i t rr n hts
  split at ha
  ·rename_i e hu
   split at ha
   ·rename_i h0
    injection ha with ha
    subst ha
    subst h0
    refine ⟨w, ?_, r⟩
    cases hx with
    | B8 => simp [Builtin.clear_, hts, AK w hu]
    | CU a => simp [Builtin.clear_, hts, AK w hu]
    | slice id o len cap E a hE hle hcp => simp [Builtin.clear_, hts, AK w hu]
   ·rename_i h0
    split at ha
    ·rename_i id o z hz
     obtain ⟨zv, hz0, hzc⟩ := Option.bind_eq_some_iff.1 hz
     obtain ⟨i, zz, hi, hiz, hvz⟩ := Dt (m := m) hz0
     cases hx with
     | slice _ _ _ cap E a hE hle hcp =>
      obtain ⟨rfl, _⟩ := hcp (by omega)
      have hcells := hvz.cells hzc
      have hzl : z.length = zz.cells.size := by rw [hcells.1]; simp
      have hzeros := Gs hcells n (n * zz.cells.size) (by rw [hzl])
      obtain ⟨w', r1, r2⟩ := Ee r hE hzeros ha
      have hzv : (zeroValue e).run P w = .ok zz w := by simp [zeroValue, typeInfo, hi, hiz]
      refine ⟨w', ?_, r2⟩
      have hr : (storeCells ⟨E.g, E.base + o, none⟩ (Builtin.zeroCells zz.cells n).toList).run P w = .ok () w' := r1
      have hn : n ≠ 0 := h0
      obtain ⟨k, rfl⟩ : ∃ k, n = k + 1 := ⟨n - 1, by omega⟩
      simp [Builtin.clear_, hts, AK w hu, hzv, hr]
    ·cases ha
  ·cases ha
 ·cases ha
theorem LK {a b : Addr} {ca cb : Array Value} {ta tb : TypeId} {fa fb : Nat × Nat} (hne : a.block ≠ b.block) (ha : w.heap[a.block]? = some (.cells ca ta fa)) (hb : w.heap[b.block]? = some (.cells cb tb fb)) (fa0 : fa.1 = fa.2) (fb0 : fb.1 = fb.2) (sb : cb.size ≠ 0) :
  (sameAddr a b).run P w = .ok false w := by
 obtain ⟨a1, a2⟩ := fa
 obtain ⟨b1, b2⟩ := fb
 simp only at fa0 fb0
 subst fa0
 subst fb0
 have nf : ∀ x y : Nat, (decide (x ≤ y) && decide (y < x)) = false := fun x y => by
  rw [Bool.eq_false_iff]; intro h; simp at h; omega
 simp [sameAddr, hne, World.frozen?, ha, hb, noView, viewAt, World.shape?, mayBeOne, stringish, nf, sb]
theorem Oh (r : Rel P w0 m h w) {t : TypeId} {i o j q : Nat} {E E' : HQ} (hE : m.i i = some E) (hE' : m.i j = some E') {b : Bool} (he : HA P h t i o j q = some b) (d : Nat) :
  (Op.equalIn (d + 1) t (.pointer (some ⟨E.g, E.base + o, none⟩)) (.pointer (some ⟨E'.g, E'.base + q, none⟩))).run P w = .ok b w := by
 unfold HA at he
 split at he
 ·rename_i e hu
  split at he
  ·rename_i k c1 r1 c2 r2 hsz hi hj
   simp only [Option.some.injEq] at he
   subst he
   unfold Bf at hsz
   cases hinfo : P.info? e with
   | none => simp [hinfo] at hsz
   | some inf =>
    have hz : inf.size ≠ 0 := by simp [hinfo] at hsz; omega
    obtain ⟨⟨_, bs1⟩, o1⟩ := r.obj i E _ hE hi
    obtain ⟨⟨_, bs2⟩, o2⟩ := r.obj j E' _ hE' hj
    obtain ⟨cur, ee, fz, h1, h2, h3, h4⟩ := o1 (by simp)
    obtain ⟨cur', ee', fz', h1', h2', h3', h4'⟩ := o2 (by simp)
    have s2 : cur'.size ≠ 0 := by
     obtain ⟨_, c, hc, _⟩ := h3' 0 c2 rfl
     have := (Array.getElem?_eq_some_iff.1 hc).1
     omega
    by_cases hij : i = j
    ·subst hij
     rw [hE] at hE'
     injection hE' with hE'
     subst hE'
     by_cases hoq : o = q
     ·subst hoq
      simp [Op.equalIn, AK w hu, sizeOf, typeInfo, hinfo, sameAddr, Nat.beq_refl]
     ·have hb : Nat.beq o q = false := by
       cases hb : Nat.beq o q with
       | false => rfl
       | true => exact absurd (Nat.eq_of_beq_eq_true hb) hoq
      simp [Op.equalIn, AK w hu, sizeOf, typeInfo, hinfo, hz, sameAddr, Nat.beq_refl, hb, hoq]
    ·have hb : Nat.beq i j = false := by
      cases hb : Nat.beq i j with
      | false => rfl
      | true => exact absurd (Nat.eq_of_beq_eq_true hb) hij
     have hsep : E.g ≠ E'.g := r.sep i j E E' _ _ hij hE hE' hi hj rfl rfl
     have hs := LK (P := P) (w := w) (a := ⟨E.g, E.base + o, none⟩) (b := ⟨E'.g, E'.base + q, none⟩) hsep h1 h1' ((h4 rfl).2 rfl) ((h4' rfl).2 rfl) s2
     simp [Op.equalIn, AK w hu, sizeOf, typeInfo, hinfo, hz, hs, hb]
  ·cases he
 ·cases he
theorem RP (r : Rel P w0 m h w) {g : Gd} {fr : Fr} {a : Act} (hf : FR m fr a) {o : Oper} {v : AA} {h' : AB} (ho : Gk P g h fr o.op = some (v, h')) :
  ∃ m' n v' w', (execOp a.eval o).run P w = .ok n w' ∧ Qs n v' ∧ (m.ext h.size m') ∧ Rel P w0 m' h' w' ∧ VR m' v v' := by
 obtain ⟨dst, op, ty, pos, aft, gd⟩ := o
 simp only at ho
 cases op with
 | binOp op t x y yt =>
  have lift : ∀ {s : Sem Value} {v' : Value}, s.run P w = .ok v' w → (do pure (.value (← s)) : Sem Next).run P w = .ok (.value v') w := fun h1 => by simp [h1]
  have key : ∀ {i o j q b}, ev fr x = .ptr (some (i, o)) → ev fr y = .ptr (some (j, q)) → HA P h t i o j q = some b → (op = .eql ∨ op = .neq) →
    ∃ m' n v' w', (execOp a.eval ⟨dst, .binOp op t x y yt, ty, pos, aft, gd⟩).run P w = .ok n w' ∧ Qs n v' ∧ (m.ext h.size m') ∧ Rel P w0 m' h w' ∧ VR m' (.bool (if op = .eql then b else !b)) v' := by
   intro i o j q b hx hy he hop
   have vx := hf.ev x
   have vy := hf.ev y
   rw [hx] at vx
   rw [hy] at vy
   obtain ⟨E, hE, ex⟩ : ∃ E, m.i i = some E ∧ a.eval x = .pointer (some ⟨E.g, E.base + o, none⟩) := by
    generalize a.eval x = q at vx
    cases vx with
    | ptr _ _ E hE => exact ⟨E, hE, rfl⟩
   obtain ⟨E', hE', ey⟩ : ∃ E', m.i j = some E' ∧ a.eval y = .pointer (some ⟨E'.g, E'.base + q, none⟩) := by
    generalize a.eval y = q at vy
    cases vy with
    | ptr _ _ E hE => exact ⟨E, hE, rfl⟩
   have hr := C5 (P := P) (ox := x) (oy := y) w (D5 w (op := op) (t := t) (ox := x) (oy := y) (x := a.eval x) (y := a.eval y) (fun _ => by rw [ex]; simp) (by rw [ex]; simp))
    (DT w (by rw [ex]; simp) (by rw [ex]; simp) (by rw [ex]; simp) (by rw [ex]; simp) hop (by rw [ex, ey]; exact Oh r hE hE' he 9999))
   exact ⟨m, _, _, w, lift hr, .inl rfl, AU.ext.refl _ _, r, .bool _⟩
  simp only [Gk] at ho
  split at ho
  ·rename_i i o j q hx hy
   cases he : HA P h t i o j q with
   | none => simp [he] at ho
   | some b =>
    simp only [he, Option.map_some, Option.some.injEq, Prod.mk.injEq] at ho
    obtain ⟨rfl, rfl⟩ := ho
    simpa using key hx hy he (.inl rfl)
  ·rename_i i o j q hx hy
   cases he : HA P h t i o j q with
   | none => simp [he] at ho
   | some b =>
    simp only [he, Option.map_some, Option.some.injEq, Prod.mk.injEq] at ho
    obtain ⟨rfl, rfl⟩ := ho
    simpa using key hx hy he (.inr rfl)
  ·cases ho
 | convert s d x =>
  simp only [Gk] at ho
  obtain ⟨v', w', h1, h2, h3⟩ := Od r (hf.ev x) ho
  exact ⟨m, .value v', v', w', by simp [execOp, h1], .inl rfl, AU.ext.refl _ _, h2, h3⟩
 | store t x y =>
  simp only [Gk] at ho
  split at ho
  ·rename_i id o hx
   cases hs : IT P g h t id o (ev fr y) with
   | none => simp [hs] at ho
   | some h2 =>
    simp only [hs, Option.map_some, Option.some.injEq, Prod.mk.injEq] at ho
    obtain ⟨rfl, rfl⟩ := ho
    have hv := hf.ev x
    rw [hx] at hv
    generalize hq : a.eval x = q at hv
    cases hv with
    | ptr _ _ E hE =>
     obtain ⟨w', r1, r2⟩ := NW r hE (hf.ev y) hs
     exact ⟨m, .skip, undef, w', by simp [execOp, Instr.storeAt, Instr.sureAddr, hq, r1], .inr ⟨rfl, rfl⟩, AU.ext.refl _ _, r2, VR.Dr m⟩
  ·cases ho
 | mapUpdate t x k y =>
  simp only [Gk] at ho
  cases hs : EY P g h t (ev fr x) (ev fr k) (ev fr y) with
  | none => simp [hs] at ho
  | some h2 =>
   simp only [hs, Option.map_some, Option.some.injEq, Prod.mk.injEq] at ho
   obtain ⟨rfl, rfl⟩ := ho
   obtain ⟨m1, w', r1, he, r2⟩ := Ih r (hf.ev x) (hf.ev k) (hf.ev y) hs
   exact ⟨m1, .skip, undef, w', by simp [execOp, r1], .inr ⟨rfl, rfl⟩, he, r2, VR.Dr m1⟩
 | insert t x k y =>
  simp only [Gk] at ho
  cases hs : EY P g h t (ev fr x) (ev fr k) (ev fr y) with
  | none => simp [hs] at ho
  | some h2 =>
   simp only [hs, Option.map_some, Option.some.injEq, Prod.mk.injEq] at ho
   obtain ⟨rfl, rfl⟩ := ho
   obtain ⟨m1, w', r1, he, r2⟩ := Ih r (hf.ev x) (hf.ev k) (hf.ev y) hs
   exact ⟨m1, .skip, undef, w', by simp [execOp, r1], .inr ⟨rfl, rfl⟩, he, r2, VR.Dr m1⟩
 | next it s =>
  cases s with
  | false => simp [Gk] at ho
  | true =>
   simp only [Gk] at ho
   split at ho
   ·rename_i id hx
    split at ho
    ·rename_i s pos hg
     have hv := hf.ev it
     rw [hx] at hv
     generalize hq : a.eval it = q at hv
     cases hv with
     | ptr _ _ E hE =>
      obtain ⟨hbase, hobj⟩ := r.obj id E _ hE hg
      rw [hbase] at hq
      split at ho
      ·split at ho
       ·rename_i hlt
        injection ho with ho
        injection ho with e1 e2
        subst e1; subst e2
        obtain ⟨w', q1, q2, q3, _⟩ := Fp (P := P) (w := w) (o := .stringIter ⟨⟨s⟩⟩ pos) (o' := .stringIter ⟨⟨s⟩⟩ (pos + (Utf8.decode ⟨⟨s⟩⟩ pos).2)) hobj (by simp)
        have hsz : pos < (⟨⟨s⟩⟩ : ByteArray).size := hlt
        refine ⟨m, .value (.tuple #[.bool true, goInt pos, .int .i32 (Utf8.decode ⟨⟨s⟩⟩ pos).1]), _, w', ?_, .inl rfl, AU.ext.refl _ _, r.write hE hg rfl rfl q3 ⟨hbase, q2⟩, ?_⟩
        ·have hget : (getObj E.g).run P w = .ok (.stringIter ⟨⟨s⟩⟩ pos) w := by simp [getObj, Sem.run, hobj]
         simp only [execOp, Instr.next, hq, Nat.add_zero, Sem.run_bind, hget, Result.andThen_ok, if_pos hsz, q1, Sem.run_pure]
        ·exact BU.tuple (.cons (.bool true) (.cons (.int _ _) (.cons (.int _ _) (.nil m))))
       ·rename_i hlt
        injection ho with ho
        injection ho with e1 e2
        subst e1; subst e2
        have hsz : ¬ pos < (⟨⟨s⟩⟩ : ByteArray).size := hlt
        refine ⟨m, .value (.tuple #[.bool false]), _, w, ?_, .inl rfl, AU.ext.refl _ _, r, BU.tuple (.cons (.bool false) (.nil m))⟩
        have hget : (getObj E.g).run P w = .ok (.stringIter ⟨⟨s⟩⟩ pos) w := by simp [getObj, Sem.run, hobj]
        simp only [execOp, Instr.next, hq, Nat.add_zero, Sem.run_bind, hget, Result.andThen_ok, if_neg hsz, Sem.run_pure]
      ·cases ho
    ·cases ho
   ·cases ho
 | call c =>
  obtain ⟨callee, as, ts⟩ := c
  cases callee with
  | value f => simp [Gk] at ho
  | invoke r mth => simp [Gk] at ho
  | builtin b =>
   simp only [Gk] at ho
   have hall := hf.Vz as.toList
   have res : ∀ (w : World), (resolve a.eval { callee := .builtin b, args := as, argTypes := ts } ty).run P w = .ok { target := .builtin b ts ty (as.map fun | .const _ => true | _ => false), args := as.map a.eval } w := fun w => rfl
   have two : ∀ x y, as.toList.map (ev fr) = [x, y] → ∃ x' y', as.map a.eval = #[x', y'] ∧ VR m x x' ∧ VR m y y' := by
    intro x y heq
    rw [heq] at hall
    have hlen : (as.toList.map a.eval).length = 2 := by rw [← hall.1]; rfl
    match hq : as.toList.map a.eval, hlen with
    | [x', y'], _ => exact ⟨x', y', Array.ext' (by simpa using hq), hall.2 0 x x' rfl (by rw [hq]; rfl), hall.2 1 y y' rfl (by rw [hq]; rfl)⟩
   have VH : ∀ x, as.toList.map (ev fr) = [x] → ∃ x', as.map a.eval = #[x'] ∧ VR m x x' := by
    intro x heq
    rw [heq] at hall
    have hlen : (as.toList.map a.eval).length = 1 := by rw [← hall.1]; rfl
    match hq : as.toList.map a.eval, hlen with
    | [x'], _ => exact ⟨x', Array.ext' (by simpa using hq), hall.2 0 x x' rfl (by rw [hq]; rfl)⟩
   split at ho
   ·rename_i s x heq
    obtain ⟨s', x', hsx, hvs, hvx⟩ := two s x heq
    obtain ⟨m', v', w', r1, r2, r3, r4⟩ := MP (ty := ty) r hvs hvx ho
    exact ⟨m', .value v', v', w', by simp [execOp, res, invoke, builtin, hsx, r1], .inl rfl, r2, r3, r4⟩
   ·rename_i s x heq
    obtain ⟨s', x', hsx, hvs, hvx⟩ := two s x heq
    obtain ⟨v', w', r1, r2, r3⟩ := Ob (ty := ty) r hvs hvx ho
    exact ⟨m, .value v', v', w', by simp [execOp, res, invoke, builtin, hsx, r1], .inl rfl, AU.ext.refl _ _, r2, r3⟩
   ·rename_i s x heq
    obtain ⟨s', x', hsx, hvs, hvx⟩ := two s x heq
    cases hs : IV P g h ts s x with
    | none => simp [hs] at ho
    | some h2 =>
     simp only [hs, Option.map_some, Option.some.injEq, Prod.mk.injEq] at ho
     obtain ⟨rfl, rfl⟩ := ho
     obtain ⟨w', r1, r2⟩ := ML (ty := ty) r hvs hvx hs
     exact ⟨m, .value (.tuple #[]), .tuple #[], w', by simp [execOp, res, invoke, builtin, hsx, r1], .inl rfl, AU.ext.refl _ _, r2, VR.Dr m⟩
   ·rename_i s heq
    cases hs : IQ P g h ts s with
    | none => simp [hs] at ho
    | some h2 =>
     simp only [hs, Option.map_some, Option.some.injEq, Prod.mk.injEq] at ho
     obtain ⟨rfl, rfl⟩ := ho
     obtain ⟨s', hsx, hvs⟩ := VH s heq
     obtain ⟨w', r1, r2⟩ := NU (ty := ty) r hvs hs
     exact ⟨m, .value (.tuple #[]), .tuple #[], w', by simp [execOp, res, invoke, builtin, hsx, r1], .inl rfl, AU.ext.refl _ _, r2, VR.Dr m⟩
   ·cases ho
 | _ => simp [Gk] at ho
end
end Go.Av
