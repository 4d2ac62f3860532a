/-
 A part.
-/
import Derived.Test.YtlljeoogceblmaaGreatDoorAvOpW
namespace Go.Av
open Go.RowKit
section
variable {P : Program} {w0 : World} {m : BK} {h : AF} {w : World}
theorem N3 {x : AB} {x' : Value} {n : Nat} (L : VR m x x') (R : NR x = some n) (w : World) : (Builtin.lenOf x').run P w = .ok n w := by
 cases L <;> simp [NR] at R
 case str s => subst R; simp [Builtin.lenOf]
 case DY => subst R; simp [Builtin.lenOf]
 case EO => subst R; simp [Builtin.lenOf]
 case slice => subst R; simp [Builtin.lenOf]
 case Jk => subst R; simp [Builtin.lenOf]
 case Gt => subst R; simp [Builtin.lenOf]
theorem HD (r : Rel P w0 m h w) {z n : Nat} {x : AB} {x' : Value} {cs : List AB} (L : VR m x x') (hn : ∃ l, NR x = some l ∧ n ≤ l) (C : Cg h z n x = some cs) :
  ∃ ds : List Value, ds.length = n * z ∧ CS m cs ds ∧ ∀ w', w'.heap = w.heap → (Builtin.firstCells z n x').run P w' = .ok ds.toArray w' := by
 unfold Cg at C
 split at C
 ·rename_i id o l
  cases L with
  | slice _ _ _ cap E a N hle hc =>
   split at C
   ·rename_i h0
    injection C with C; subst C; subst h0
    exact ⟨[], by simp, .nil m, fun w' _ => by simp [Builtin.firstCells, loadCells, loadCellsFrom]⟩
   ·rename_i h0
    obtain ⟨l', hl', hnl⟩ := hn
    simp [NR] at hl'
    obtain ⟨B, _⟩ := hc (by omega)
    subst B
    obtain ⟨ds, h1, h2, h3, _⟩ := r.cells N C
    refine ⟨ds, h1, h2, fun w' hw' => ?_⟩
    have h3' : ∀ (j : Nat) (v : Value), ds[j]? = some v → w'.cell? ((⟨E.g, E.base + o, none⟩ : Addr).add j) = some v := fun j v O => by
     rw [← h3 j v O]; simp [World.cell?, hw']
    exact run_firstCells_some w' z n _ l cap ds h1 h3'
 ·rename_i l
  split at C
  ·rename_i h0
   injection C with C; subst C; subst h0
   exact ⟨[], by simp, .nil m, fun w' _ => by cases L <;> simp [Builtin.firstCells, loadCells, loadCellsFrom]⟩
  ·cases C
 ·rename_i s
  split at C
  ·rename_i U
   injection C with C
   subst C; subst U
   have := L.DJ
   subst this
   obtain ⟨l', hl', hnl⟩ := hn
   simp [NR] at hl'
   refine ⟨(s.take n).map fun (b : UInt8) => Value.int .u8 b.toNat, by simp; omega, CS.map _ _ _ fun b _ => .int _ _, fun w' _ => ?_⟩
   simp [Builtin.firstCells, Kr]
  ·cases C
 ·rename_i n' a
  split at C
  ·rename_i hb
   injection C with C; subst C
   cases L with
   | Jk A cap =>
    have h0 : n = 0 := by omega
    subst h0
    exact ⟨[], by simp, by simpa using CS.nil m, fun w' _ => by cases A <;> simp [Builtin.firstCells, loadCells, loadCellsFrom]⟩
   | Gt _ cap g o _ c hc hf1 O =>
    obtain ⟨ds, h1, h2, h3⟩ := r.N4 hf1 O
    have hle : n * z ≤ n' * z := Nat.mul_le_mul_right _ hb.1
    have hl1 : (ds.take (n * z)).length = n * z := by rw [List.length_take]; omega
    refine ⟨ds.take (n * z), hl1, h2.take _, fun w' hw' => ?_⟩
    refine run_firstCells_some w' z n _ n' cap _ hl1 fun j v hj => ?_
    rw [List.getElem?_take] at hj
    split at hj
    ·rw [← h3 j v hj]; simp [World.cell?, hw']
    ·cases hj
  ·cases C
 ·cases C
theorem QV {st xt e ty : TypeId} {ts : Array TypeId} {d : TypeDesc} {i : TypeInfo} {base : Option Addr} {sl cap n : Nat} {x' z : Value} {GV new : List AB} {ods nds : List Value}
  (G : ts[0]? = some st) (F : ts[1]? = some xt) (hu : P.underlying st = some (.slice e)) (M : P.underlying xt = some d) (hd : IY d = true) (hi : P.info? e = some i) (U : i.zero = some z) (hzs : z.cells.size = i.size)
  (I : cap < sl + n) (hb1 : sl + n ≤ 1099511627776) (hb2 : (sl + n) * i.bytes ≤ 1099511627776)
  (R : ∀ w : World, (Builtin.lenOf x').run P w = .ok n w)
  (ho1 : ods.length = sl * i.size) (hold : ∀ w', w'.heap = w.heap → (Builtin.firstCells i.size sl (.slice base sl cap)).run P w' = .ok ods.toArray w')
  (hn1 : nds.length = n * i.size) (H : ∀ w', w'.heap = w.heap → (Builtin.firstCells i.size n x').run P w' = .ok nds.toArray w')
  (hvo : CS m GV ods) (hvn : CS m new nds) (h1 : (GV ++ new).all AB.one = true) :
  ∃ v' w' E, (Builtin.append_ ts ty #[.slice base sl cap, x']).run P w = .ok v' w' ∧ Ma P m w w' E (fun k => .slice (some (k, 0)) (sl + n), .cells (some e) 2 (GV ++ new)) v' := by
 obtain ⟨c, hc⟩ : ∃ c, c = (Question.appendCap (sl + n) cap e).cut (w.tape w.drawn (.appendCap (sl + n) cap e)) := ⟨_, rfl⟩
 have hcge : sl + n ≤ c := by rw [hc]; simp [Question.cut]
 have hch : (choose (.appendCap (sl + n) cap e)).run P w = .ok c w.drew := by rw [hc]; rfl
 have hfit := growslice_fits (bytes := i.bytes) I (by omega)
 obtain ⟨row, hrow⟩ : ∃ row, row = ods.toArray ++ nds.toArray ++ Builtin.zeroCells z.cells (c - (sl + n)) := ⟨_, rfl⟩
 have hsize : row.size = c * i.size := by
  rw [hrow]
  simp only [Array.size_append, List.size_toArray, ho1, hn1, size_zeroCells, hzs]
  rw [← Nat.add_mul, ← Nat.add_mul]
  congr 1
  omega
 have hvall := hvo.app hvn
 have hlen : (GV ++ new).length = (sl + n) * i.size := by rw [hvall.1, List.length_append, ho1, hn1, Nat.add_mul]
 have Q : CQ P e = some i.size := by simp [CQ, hi]
 refine ⟨.slice (some ⟨w.heap.size, 0, none⟩) (sl + n) c, w.drew.alloc (.cells row e), ⟨w.heap.size, 0, i.size, c * i.size⟩, ?_, Dq.alloc_drew w _ _, rfl, by show _ < (w.heap.push _).size; simp, fun m' hm id hid => ⟨?_, ?_⟩⟩
 ·have hzv : ∀ w : World, (zeroValue e).run P w = .ok z w := fun w => by simp [zeroValue, typeInfo, hi, U]
  have hti : ∀ w : World, (typeInfo e).run P w = .ok i w := fun w => by simp [typeInfo, hi]
  have hmark : ∀ (n : Nat) (w : World), (askRoom n).run P w = .ok () w := fun n w => by unfold askRoom; split <;> rfl
  have hn63 : ¬ (((sl + n : Nat) : Int) > IntKind.i64.max) := by simp [IntKind.max_i64]; omega
  have hnotInt : (match d with | .int _ => true | _ => false) = false := by cases d <;> simp [IY] at hd <;> rfl
  have hnr : ¬ (sl + n ≤ cap) := by omega
  have hnf : ¬ (Builtin.nextslicecap (sl + n) cap * i.bytes > 2 ^ 48) := by omega
  have e2 : (newRow e row).run P w.drew = .ok ⟨w.heap.size, 0, none⟩ (w.drew.alloc (.cells row e)) := FO w.drew e row
  rw [hrow] at e2 ⊢
  clear hnotInt
  simp only [Builtin.append_, List.getElem?_toArray, List.getElem?_cons_zero, List.getElem?_cons_succ, G, F, Sem.run_bind, Am w hu, Result.andThen_ok, run_sizeOf w Q, Am w M, Sem.run_pure]
  cases d <;> simp [IY] at hd <;>
   simp only [Bool.false_eq_true, if_false, Sem.run_bind, R, Result.andThen_ok, Sem.run_ite, if_neg hnr, hn63, false_and, hti, if_neg hnf, hch, hmark, hold w.drew rfl, H w.drew rfl, hzv, e2, Sem.run_pure, Bool.not_false, if_true]
 ·exact .slice id 0 (sl + n) c _ _ hid hcge (fun _ => ⟨by simp, fun _ => by simp⟩)
 ·refine Io (e := e) (fz := (0, 0)) (heap_alloc_new w.drew _) rfl (by simp [H4, Hh Q]) (by simp [hsize]) ?_ h1 (.inl rfl)
  have : row.toList.take (GV ++ new).length = ods ++ nds := by
   rw [hrow, hlen]
   have : (sl + n) * i.size = (ods ++ nds).length := by simp [ho1, hn1, Nat.add_mul]
   rw [this]
   simp only [Array.toList_append]
   rw [List.take_left]
  rw [this]
  exact hvall.mono hm
theorem Qn {st xt e ty : TypeId} {ts : Array TypeId} {d : TypeDesc} {i : TypeInfo} {base : Addr} {sl cap n : Nat} {x' : Value} {nds : List Value} {w1 : World}
  (G : ts[0]? = some st) (F : ts[1]? = some xt) (hu : P.underlying st = some (.slice e)) (M : P.underlying xt = some d) (hd : IY d = true) (hi : P.info? e = some i)
  (I : sl + n ≤ cap) (R : ∀ w : World, (Builtin.lenOf x').run P w = .ok n w)
  (H : (Builtin.firstCells i.size n x').run P w = .ok nds.toArray w) (hst : (storeCells (base.add (sl * i.size)) nds).run P w = .ok () w1) :
  (Builtin.append_ ts ty #[.slice (some base) sl cap, x']).run P w = .ok (.slice (some base) (sl + n) cap) w1 := by
 have Q : CQ P e = some i.size := by simp [CQ, hi]
 simp only [Builtin.append_, List.getElem?_toArray, List.getElem?_cons_zero, List.getElem?_cons_succ, G, F, Sem.run_bind, Am w hu, Result.andThen_ok, run_sizeOf w Q, Am w M, Sem.run_pure]
 cases d <;> simp [IY] at hd <;>
  simp only [Bool.false_eq_true, if_false, Sem.run_bind, R, Result.andThen_ok, Sem.run_ite, if_pos I, H, hst, Sem.run_pure, Bool.not_false, if_true]
theorem KG {st xt e ty : TypeId} {ts : Array TypeId} {d : TypeDesc} {i : TypeInfo} {base : Option Addr} {sl cap : Nat} {x' : Value}
  (G : ts[0]? = some st) (F : ts[1]? = some xt) (hu : P.underlying st = some (.slice e)) (M : P.underlying xt = some d) (hd : IY d = true) (hi : P.info? e = some i)
  (I : sl ≤ cap) (R : ∀ w : World, (Builtin.lenOf x').run P w = .ok 0 w) (H : (Builtin.firstCells i.size 0 x').run P w = .ok #[] w) :
  (Builtin.append_ ts ty #[.slice base sl cap, x']).run P w = .ok (.slice base sl cap) w := by
 have Q : CQ P e = some i.size := by simp [CQ, hi]
 simp only [Builtin.append_, List.getElem?_toArray, List.getElem?_cons_zero, List.getElem?_cons_succ, G, F, Sem.run_bind, Am w hu, Result.andThen_ok, run_sizeOf w Q, Am w M, Sem.run_pure]
 cases d <;> simp [IY] at hd <;> cases base <;>
  simp [R, I, H, storeCells]
theorem MP (r : Rel P w0 m h w) {g : Gd} {st xt e ty : TypeId} {ts : Array TypeId} {d : TypeDesc} {i : TypeInfo} {rr : Option (Nat × Nat)} {sl n : Nat} {x v : AB} {s' x' : Value} {h' : AF}
  (G : ts[0]? = some st) (F : ts[1]? = some xt) (hu : P.underlying st = some (.slice e)) (M : P.underlying xt = some d) (hd : IY d = true) (hi : P.info? e = some i)
  (J : VR m (.slice rr sl) s') (L : VR m x x') (V : NR x = some n) (B : appendCore g h e i rr sl n x = some (v, h')) :
  ∃ m' v' w', (Builtin.append_ ts ty #[s', x']).run P w = .ok v' w' ∧ (m.ext h.size m') ∧ Rel P w0 m' h' w' ∧ VR m' v v' := by
 have R := fun w => N3 (P := P) L V w
 unfold appendCore at B
 split at B
 ·-- nothing is appended
  rename_i h0
  subst h0
  injection B with B
  injection B with e1 e2
  subst e1; subst e2
  have H : (Builtin.firstCells i.size 0 x').run P w = .ok #[] w := by
   cases L <;> simp [NR] at V <;> first | (simp [Builtin.firstCells, loadCells, loadCellsFrom]; done) | (rename_i A _; cases A <;> simp [Builtin.firstCells, loadCells, loadCellsFrom])
  cases J with
  | DY => exact ⟨m, _, w, KG G F hu M hd hi (Nat.le_refl _) R H, BK.ext.refl _ _, r, .DY⟩
  | EO a => exact ⟨m, _, w, KG G F hu M hd hi (Nat.le_refl _) R H, BK.ext.refl _ _, r, .EO a⟩
  | slice id o _ cap E a N hle hc => exact ⟨m, _, w, KG G F hu M hd hi hle R H, BK.ext.refl _ _, r, .slice id o sl cap E a N hle hc⟩
 ·rename_i hn0
  split at B
  ·rename_i hb
   obtain ⟨hb0, hb1, hb2, hb3⟩ := hb
   cases U : i.zero with
   | none => simp [U] at hb3
   | some z =>
    simp only [U, Option.map_some, Option.some.injEq] at hb3
    split at B
    ·rename_i new GV hfn K
     split at B
     ·rename_i h1
      simp only [Option.map_eq_some_iff] at hfn
      obtain ⟨new0, hfn, rfl⟩ := hfn
      obtain ⟨nds, hn1, hvn0, H⟩ := HD r L ⟨n, V, Nat.le_refl _⟩ hfn
      have hvn := hvn0.Em
      generalize hnm : new0.map Em = new at *
      obtain ⟨ods, ho1, hvo, hold⟩ := HD r J ⟨sl, rfl, Nat.le_refl _⟩ K
      have grow : ∀ (h1' : AF) (cap : Nat) (base : Option Addr), s' = .slice base sl cap → cap < sl + n → h1'.size = h.size → Rel P w0 m h1' w →
        ∃ m' v' w', (Builtin.append_ ts ty #[s', x']).run P w = .ok v' w' ∧ (m.ext h.size m') ∧ Rel P w0 m' (h1'.push (.cells (some e) 2 (GV ++ new))) w' ∧ VR m' (.slice (some (h.size, 0)) (sl + n)) v' := by
       intro h1' cap base hs' I Q rel
       subst hs'
       obtain ⟨v', w', E, g1, t1, t2, _, t4⟩ := QV (ty := ty) G F hu M hd hi U hb3 I hb1 hb2 R ho1 hold hn1 H hvo hvn h1
       have hle := BK.LP (m := m) E (r.fresh (Nat.le_refl h.size))
       obtain ⟨q1, q2⟩ := t4 (m.upd h.size E) hle h.size (BK.EU m _ E)
       refine ⟨m.upd h.size E, v', w', g1, BK.JE m _ (by omega), ?_, q1⟩
       rw [← Q] at q2 ⊢
       exact rel.new t1 t2 q2
      split at B
      ·-- onto nil
       injection B with B
       injection B with e1 e2
       subst e1; subst e2
       cases J with
       | DY => exact grow h 0 none rfl (by omega) rfl r
       | EO a => exact grow h 0 (some a) rfl (by omega) rfl r
      ·rename_i id o
       split at B
       ·rename_i e' cs W
        split at B
        ·rename_i hmay
         obtain ⟨_, he⟩ := hmay
         subst he
         injection B with B
         injection B with e1 e2
         subst e1; subst e2
         cases J with
         | slice _ _ _ cap E a N hle hc =>
          have rk : Rel P w0 m (h.set id (.cells (some e') 0 [])) w := r.kill W
          by_cases I : sl + n ≤ cap
          ·-- in place
           obtain ⟨haa, hbd⟩ := hc (by omega)
           subst haa
           obtain ⟨hesz, S⟩ := r.obj id E _ N W
           have hesz' : E.SQ = i.size := by rw [hesz.1.1]; simp [H4, Program.cellsOf, hi]
           have hbd := hbd (by omega)
           rw [hesz'] at hbd
           obtain ⟨cur, et, fz, c1, c2, c3, c4⟩ := S (by omega)
           have hfit : E.base + o + (sl + n) * i.size ≤ cur.size := by
            have := Nat.mul_le_mul_right i.size I
            omega
           have e3 : E.base + o + sl * i.size + 0 + nds.length ≤ cur.size := by rw [hn1]; rw [Nat.add_mul] at hfit; omega
           obtain ⟨w1, r1, r2, r3, _⟩ := HS (P := P) E.g (E.base + o + sl * i.size) et fz nds 0 cur w c1 e3 (fun u hu' => by
            obtain ⟨j, hj⟩ := List.mem_iff_getElem?.1 hu'
            have hj' : j < new.length := by rw [hvn.1]; exact (List.getElem?_eq_some_iff.1 hj).1
            refine (hvn.2 j _ u (List.getElem?_eq_getElem hj') hj).one (List.all_eq_true.1 h1 _ ?_)
            exact List.mem_append.2 (.inr (List.getElem_mem hj'))) (by rw [c2]; exact (c4 rfl).no)
           have hrun : (Builtin.append_ ts ty #[.slice (some ⟨E.g, E.base + o, none⟩) sl cap, x']).run P w = .ok (.slice (some ⟨E.g, E.base + o, none⟩) (sl + n) cap) w1 :=
            Qn G F hu M hd hi I R (H w rfl) (by rw [Addr.add_lit]; exact r1)
           have X := BK.LP (m := m) ⟨E.g, E.base + o, i.size, E.total⟩ (r.fresh (Nat.le_refl h.size))
           have hB := r.own id E _ N W rfl
           have hobj' : JJ P (m.upd h.size ⟨E.g, E.base + o, i.size, E.total⟩) w1 ⟨E.g, E.base + o, i.size, E.total⟩ (.cells (some e') 2 (GV ++ new)) := by
            refine ⟨⟨by simp [H4, Program.cellsOf, hi], fun h => by cases h⟩, fun _ => ⟨_, et, fz, r2, ?_, fun j a B => ⟨List.all_eq_true.1 h1 a (List.mem_of_getElem? B), ?_⟩, fun _ => c4 rfl⟩⟩
            ·rw [← c2]; simp; omega
            ·have hcl : (cur.toList.take (E.base + o + sl * i.size + 0)).length = E.base + o + sl * i.size := by simp; omega
             have holl : GV.length = sl * i.size := by rw [hvo.1, ho1]
             rw [List.getElem?_append] at B
             split at B
             ·rename_i hj
              have hcc : cs[o + j]? = some a := by
               simp only [Cg] at K
               split at K
               ·injection K with K; subst K; simp at B
               ·unfold CP at K
                rw [W] at K
                simp only at K
                split at K
                ·injection K with K
                 subst K
                 rw [List.getElem?_take] at B
                 split at B
                 ·rwa [List.getElem?_drop] at B
                 ·cases B
                ·cases K
              obtain ⟨_, c, hc', hvc⟩ := c3 (o + j) a hcc
              refine ⟨c, ?_, hvc.mono X⟩
              have : (cur.toList.take (E.base + o + sl * i.size + 0))[E.base + o + j]? = some c := by
               rw [List.getElem?_take, if_pos (by omega)]
               rw [← Nat.add_assoc] at hc'
               simpa using hc'
              simp only [List.getElem?_toArray]
              rw [List.getElem?_append_left (List.getElem?_eq_some_iff.1 this).1]
              exact this
             ·rename_i hj
              obtain ⟨y, hy, hvy⟩ := hvn.at_ B
              refine ⟨y, ?_, hvy.mono X⟩
              simp only [List.getElem?_toArray]
              rw [List.getElem?_append_right (by omega), hcl, List.getElem?_append_left (by have := (List.getElem?_eq_some_iff.1 hy).1; omega)]
              rw [← hy]
              congr 1
              omega
           refine ⟨m.upd h.size ⟨E.g, E.base + o, i.size, E.total⟩, _, w1, hrun, BK.JE m _ (by omega), ?_, ?_⟩
           ·refine (rk.ghost (.cells (some e') 2 (GV ++ new))).place (E := ⟨E.g, E.base + o, i.size, E.total⟩) r3 hB (fun id2 E2 o2 h2 Y hl2 => ?_) (fun j => r.Ht _ _ _ N W rfl j) (fun hd => r.NA _ _ _ N W rfl hd) (r.fresh (Nat.le_refl _)) ?_ hobj'
            ·have hid2 := r.Mr id2 E2 h2
             rw [AF.B1 _ _ (by simpa using hid2)] at Y
             by_cases he2 : id2 = id
             ·subst he2
              rw [h.get_set_same _ hid2] at Y
              injection Y with Y
              subst Y
              simp [CJ.live] at hl2
             ·rw [h.Bc _ (h.BV W) he2] at Y
              exact fun e => r.sep id id2 E E2 _ o2 (fun e => he2 e.symm) N h2 W Y rfl hl2 e.symm
            ·exact AF.CB _ _
           ·refine .slice h.size 0 (sl + n) cap ⟨E.g, E.base + o, i.size, E.total⟩ _ (BK.EU m _ _) I (fun _ => ⟨by simp, fun _ => by simpa using hbd⟩)
          ·exact grow _ cap (some a) rfl (by omega) rfl rk
        ·cases B
       ·cases B
     ·cases B
    ·cases B
  ·cases B
theorem OM (r : Rel P w0 m h w) {g : Gd} {ts : Array TypeId} {ty : TypeId} {s x v : AB} {s' x' : Value} {h' : AF} (J : VR m s s') (L : VR m x x') (B : LX P g h ts s x = some (v, h')) :
  ∃ m' v' w', (Builtin.append_ ts ty #[s', x']).run P w = .ok v' w' ∧ (m.ext h.size m') ∧ Rel P w0 m' h' w' ∧ VR m' v v' := by
 unfold LX at B
 split at B
 ·rename_i st xt rr sl n G F V
  split at B
  ·rename_i e dd hu M
   split at B
   ·rename_i i hi
    split at B
    ·rename_i hd
     exact MP r G F hu M hd hi J L V B
    ·cases B
   ·cases B
  ·cases B
 ·cases B
theorem Qt (r : Rel P w0 m h w) {g : Gd} {ts : Array TypeId} {ty : TypeId} {d x v : AB} {d' x' : Value} {h' : AF} (hd : VR m d d') (L : VR m x x') (B : Qc P g h ts d x = some (v, h')) :
  ∃ v' w', (Builtin.copy_ ts ty #[d', x']).run P w = .ok v' w' ∧ Rel P w0 m h' w' ∧ VR m v v' := by
 unfold Qc at B
 split at B
 ·rename_i dt rr dl sl hts V
  split at B
  ·rename_i e hu
   split at B
   ·rename_i z U
    have R := fun w => N3 (P := P) L V w
    split at B
    ·rename_i new id o C
     obtain ⟨ds, n1, O, hfc⟩ := HD r L ⟨sl, V, Nat.min_le_left _ _⟩ C
     cases hd with
     | slice _ _ _ cap E a N hle hc =>
      split at B
      ·rename_i h0
       injection B with B
       injection B with e1 e2
       subst e1; subst e2
       have hnil : ds = [] := List.eq_nil_of_length_eq_zero (by rw [n1, h0]; simp)
       subst hnil
       refine ⟨.int .i64 0, w, ?_, r, .int _ _⟩
       have T := hfc w rfl
       rw [h0] at T
       have Z : Nat.min sl dl = 0 := h0
       simp [Builtin.copy_, hts, Am w hu, R, run_sizeOf w U, Z, T, storeCells, goInt]
      ·rename_i h0
       cases hsc : Ci g h id o new with
       | none => simp [hsc] at B
       | some h2 =>
        simp only [hsc, Option.map_some, Option.some.injEq, Prod.mk.injEq] at B
        obtain ⟨rfl, rfl⟩ := B
        obtain ⟨haa, _⟩ := hc (by omega)
        subst haa
        obtain ⟨w', r1, r2⟩ := IB r N O hsc
        refine ⟨.int .i64 (min sl dl : Nat), w', ?_, r2, .int _ _⟩
        have Z : Nat.min sl dl = min sl dl := rfl
        simp [Builtin.copy_, hts, Am w hu, R, run_sizeOf w U, Z, hfc w rfl, r1, goInt]
    ·rename_i new C
     split at B
     ·rename_i h0
      injection B with B
      injection B with e1 e2
      subst e1; subst e2
      obtain ⟨ds, n1, O, hfc⟩ := HD r L ⟨sl, V, Nat.min_le_left _ _⟩ C
      have hnil : ds = [] := List.eq_nil_of_length_eq_zero (by rw [n1, h0]; simp)
      subst hnil
      have T := hfc w rfl
      cases hd
      ·refine ⟨.int .i64 0, w, ?_, r, .int _ _⟩
       rw [h0] at T
       have Z : Nat.min sl 0 = 0 := h0
       simp [Builtin.copy_, hts, Am w hu, R, run_sizeOf w U, T, goInt]
      ·refine ⟨.int .i64 0, w, ?_, r, .int _ _⟩
       rw [h0] at T
       simp [Builtin.copy_, hts, Am w hu, R, run_sizeOf w U, T, goInt, storeCells]
     ·cases B
    ·cases B
   ·cases B
  ·cases B
 ·cases B
theorem QY (r : Rel P w0 m h w) {g : Gd} {s d : TypeId} {x v : AB} {x' : Value} {h' : AF} (L : VR m x x') (hc : SG P g h s d x = some (v, h')) :
  ∃ v' w', (convert s d x').run P w = .ok v' w' ∧ Rel P w0 m h' w' ∧ VR m v v' := by
 unfold SG at hc
 split at hc
 ·rename_i e0 e id o n J hd
  split at hc
  ·rename_i gr cs he W
   cases hb : (Nat.beq s d && (g.may id && !(Nat.beq n 0))) with
   | false => rw [hb] at hc; cases hc
   | true =>
    rw [hb] at hc
    simp only [cond_true, Option.some.injEq, Prod.mk.injEq] at hc
    obtain ⟨rfl, rfl⟩ := hc
    simp only [Bool.and_eq_true, Bool.not_eq_true'] at hb
    obtain rfl := Nat.eq_of_beq_eq_true hb.1
    have hn : n ≠ 0 := fun e => by subst e; simp at hb
    cases L with
    | slice _ _ _ cap E a N hle hcp =>
     obtain ⟨rfl, _⟩ := hcp (by omega)
     obtain ⟨he1, S⟩ := r.obj id E _ N W
     obtain ⟨cur, ee, fz, h1, h2, h3, h4⟩ := S (by simp)
     obtain ⟨w', fz', q1, q2, q3, q4⟩ := LB (P := P) (w := w) (a := ⟨E.g, E.base + o, none⟩) rfl h1 (by rw [h2]; exact h4 rfl)
     refine ⟨_, w', ?_, r.write N W rfl rfl q4 ⟨he1, fun _ => ⟨cur, ee, fz', q2, h2, h3, fun _ => by rw [← h2]; exact q3⟩⟩, .slice id o n cap E _ N hle hcp⟩
     have ee0 : e0 = e := by rw [J] at hd; injection hd with hd; injection hd
     subst ee0
     simp [convert, Am w J, Am w he, q1]
  ·cases hc
 ·cases hc
theorem Nr {P : Program} {g : Gd} {h : AF} {v v' : AB} {h' : AF} (C : HT g h v = some (v', h')) : ∀ w0 (m : BK) w u, Rel P w0 m h w → VR m v u → ∃ m' : BK, m.ext h.size m' ∧ Rel P w0 m' h' w ∧ VR m' v' u := by
 unfold HT at C
 split at C
 ·injection C with C; injection C with e1 e2; subst e1; subst e2
  exact fun w0 m w u r O => ⟨m, BK.ext.refl _ _, r, by cases O <;> exact .Jk _ _⟩
 ·rename_i id n
  by_cases hn : n = 0
  ·subst hn
   simp only [Nat.beq_refl, cond_true, Option.some.injEq, Prod.mk.injEq] at C
   obtain ⟨rfl, rfl⟩ := C
   exact fun w0 m w u r O => ⟨m, BK.ext.refl _ _, r, by cases O; exact .Jk _ _⟩
  ·have : Nat.beq n 0 = false := by cases n; exact absurd rfl hn; rfl
   rw [this] at C
   simp only [cond_false] at C
   split at C
   ·rename_i gr cs W
    cases hm : g.may id with
    | false => rw [hm] at C; cases C
    | true =>
     rw [hm] at C
     simp only [cond_true, Option.some.injEq, Prod.mk.injEq] at C
     obtain ⟨rfl, rfl⟩ := C
     refine fun w0 m w u r O => ?_
     cases O with
     | slice _ _ _ cap E a N hle hc =>
      obtain ⟨B, _⟩ := hc (by omega)
      subst B
      obtain ⟨cur, r', X, _, _, hcs⟩ := r.freeze N W
      refine ⟨m.still E.g cur, ⟨fun _ _ => rfl, X.fz, fun _ _ h => h⟩, r', .Gt n cap _ _ cs (fun i => (cur[E.base + i]?).getD undef) hle (fun i hi => ?_) (fun i x L => ?_)⟩
      ·obtain ⟨c, h1, _⟩ := hcs i _ (List.getElem?_eq_getElem hi)
       simp [BK.still, h1]
      ·obtain ⟨c, h1, h2⟩ := hcs i x L
       rw [h1]
       exact h2.mono X
   ·rename_i gr c0 cs W
    simp only [Option.some.injEq, Prod.mk.injEq] at C
    obtain ⟨rfl, rfl⟩ := C
    refine fun w0 m w u r O => ⟨m, BK.ext.refl _ _, r, ?_⟩
    cases O with
    | slice _ _ _ cap E a N hle hc =>
     obtain ⟨B, _⟩ := hc (by omega)
     subst B
     have U := (r.obj id E _ N W).1.1.2 rfl
     refine .Gt n cap _ _ (c0 :: cs) (fun i => (m.fz E.g (E.base + i)).getD undef) hle (fun i hi => ?_) (fun i x L => ?_)
     ·obtain ⟨c, h1, _⟩ := U i _ (List.getElem?_eq_getElem hi)
      rw [Nat.add_zero, h1]; rfl
     ·obtain ⟨c, h1, h2⟩ := U i x L
      rw [h1]
      exact h2
   ·cases C
 ·injection C with C; injection C with e1 e2; subst e1; subst e2
  exact fun w0 m w u r O => ⟨m, BK.ext.refl _ _, r, O⟩
theorem Ky (r : Rel P w0 m h w) {g : Gd} {t : TypeId} {x k v : AB} {x' k' v' : Value} {h' : AF} (L : VR m x x') (hk : VR m k k') (O : VR m v v') (J : E3 P g h t x k v = some h') :
  ∃ m' w', (Instr.mapUpdate t x' k' v').run P w = .ok () w' ∧ m.ext h.size m' ∧ Rel P w0 m' h' w' := by
 unfold E3 at J
 cases U : HT g h v with
 | none => rw [U] at J; cases J
 | some q =>
  obtain ⟨v1, h1⟩ := q
  rw [U] at J
  obtain ⟨m1, he, r1, hv1⟩ := Nr U w0 m w v' r O
  have hle : m.le m1 := ⟨fun id E N => by rw [he.i id (r.Mr id E N)]; exact N, he.fz⟩
  obtain ⟨w', q1, q2⟩ := OX r1 (L.mono hle) (hk.mono hle) hv1 J
  exact ⟨m1, w', q1, he, q2⟩
theorem TA (r : Rel P w0 m h w) {g : Gd} {fr : Fr} {a : Act} (C : FR m fr a) {o : Oper} {v : AB} {h' : AF} (D : Ji P g h fr o.op = some (v, h')) :
  ∃ m' n v' w', (execOp a.eval o).run P w = .ok n w' ∧ Ue n v' ∧ (m.ext h.size m') ∧ Rel P w0 m' h' w' ∧ VR m' v v' := by
 obtain ⟨dst, op, ty, pos, aft, gd⟩ := o
 simp only at D
 cases op with
 | convert s d x =>
  simp only [Ji] at D
  obtain ⟨v', w', h1, h2, h3⟩ := QY r (C.ev x) D
  exact ⟨m, .value v', v', w', by simp [execOp, h1], .inl rfl, BK.ext.refl _ _, h2, h3⟩
 | store t x y =>
  simp only [Ji] at D
  split at D
  ·rename_i id o L
   cases J : KL P g h t id o (ev fr y) with
   | none => simp [J] at D
   | some h2 =>
    simp only [J, Option.map_some, Option.some.injEq, Prod.mk.injEq] at D
    obtain ⟨rfl, rfl⟩ := D
    have O := C.ev x
    rw [L] at O
    generalize hq : a.eval x = q at O
    cases O with
    | ptr _ _ E N =>
     obtain ⟨w', r1, r2⟩ := Pg r N (C.ev y) J
     exact ⟨m, .skip, undef, w', by simp [execOp, Instr.storeAt, Instr.sureAddr, hq, r1], .inr ⟨rfl, rfl⟩, BK.ext.refl _ _, r2, VR.Eu m⟩
  ·cases D
 | mapUpdate t x k y =>
  simp only [Ji] at D
  cases J : E3 P g h t (ev fr x) (ev fr k) (ev fr y) with
  | none => simp [J] at D
  | some h2 =>
   simp only [J, Option.map_some, Option.some.injEq, Prod.mk.injEq] at D
   obtain ⟨rfl, rfl⟩ := D
   obtain ⟨m1, w', r1, he, r2⟩ := Ky r (C.ev x) (C.ev k) (C.ev y) J
   exact ⟨m1, .skip, undef, w', by simp [execOp, r1], .inr ⟨rfl, rfl⟩, he, r2, VR.Eu m1⟩
 | insert t x k y =>
  simp only [Ji] at D
  cases J : E3 P g h t (ev fr x) (ev fr k) (ev fr y) with
  | none => simp [J] at D
  | some h2 =>
   simp only [J, Option.map_some, Option.some.injEq, Prod.mk.injEq] at D
   obtain ⟨rfl, rfl⟩ := D
   obtain ⟨m1, w', r1, he, r2⟩ := Ky r (C.ev x) (C.ev k) (C.ev y) J
   exact ⟨m1, .skip, undef, w', by simp [execOp, r1], .inr ⟨rfl, rfl⟩, he, r2, VR.Eu m1⟩
 | next it s =>
  cases s with
  | false => simp [Ji] at D
  | true =>
   simp only [Ji] at D
   split at D
   ·rename_i id L
    split at D
    ·rename_i s pos W
     have O := C.ev it
     rw [L] at O
     generalize hq : a.eval it = q at O
     cases O with
     | ptr _ _ E N =>
      obtain ⟨hbase, S⟩ := r.obj id E _ N W
      rw [hbase] at hq
      split at D
      ·split at D
       ·rename_i hlt
        injection D with D
        injection D with e1 e2
        subst e1; subst e2
        obtain ⟨w', q1, q2, q3, _⟩ := HZ (P := P) (w := w) (o := .stringIter ⟨⟨s⟩⟩ pos) (o' := .stringIter ⟨⟨s⟩⟩ (pos + (Utf8.decode ⟨⟨s⟩⟩ pos).2)) S (by simp)
        have Q : pos < (⟨⟨s⟩⟩ : ByteArray).size := hlt
        refine ⟨m, .value (.tuple #[.bool true, goInt pos, .int .i32 (Utf8.decode ⟨⟨s⟩⟩ pos).1]), _, w', ?_, .inl rfl, BK.ext.refl _ _, r.write N W rfl rfl q3 ⟨hbase, q2⟩, ?_⟩
        ·have hget : (getObj E.g).run P w = .ok (.stringIter ⟨⟨s⟩⟩ pos) w := by simp [getObj, Sem.run, S]
         simp only [execOp, Instr.next, hq, Nat.add_zero, Sem.run_bind, hget, Result.andThen_ok, if_pos Q, q1, Sem.run_pure]
        ·exact CS.tuple (.cons (.bool true) (.cons (.int _ _) (.cons (.int _ _) (.nil m))))
       ·rename_i hlt
        injection D with D
        injection D with e1 e2
        subst e1; subst e2
        have Q : ¬ pos < (⟨⟨s⟩⟩ : ByteArray).size := hlt
        refine ⟨m, .value (.tuple #[.bool false]), _, w, ?_, .inl rfl, BK.ext.refl _ _, r, CS.tuple (.cons (.bool false) (.nil m))⟩
        have hget : (getObj E.g).run P w = .ok (.stringIter ⟨⟨s⟩⟩ pos) w := by simp [getObj, Sem.run, S]
        simp only [execOp, Instr.next, hq, Nat.add_zero, Sem.run_bind, hget, Result.andThen_ok, if_neg Q, Sem.run_pure]
      ·cases D
    ·cases D
   ·cases D
 | call c =>
  obtain ⟨callee, as, ts⟩ := c
  cases callee with
  | value f => simp [Ji] at D
  | invoke r mth => simp [Ji] at D
  | builtin b =>
   simp only [Ji] at D
   have hall := C.evs as.toList
   have res : ∀ (w : World), (resolve a.eval { callee := .builtin b, args := as, argTypes := ts } ty).run P w = .ok { target := .builtin b ts ty (as.map fun | .const _ => true | _ => false), args := as.map a.eval } w := fun w => rfl
   have two : ∀ x y, as.toList.map (ev fr) = [x, y] → ∃ x' y', as.map a.eval = #[x', y'] ∧ VR m x x' ∧ VR m y y' := by
    intro x y heq
    rw [heq] at hall
    have hlen : (as.toList.map a.eval).length = 2 := by rw [← hall.1]; rfl
    match hq : as.toList.map a.eval, hlen with
    | [x', y'], _ => exact ⟨x', y', Array.ext' (by simpa using hq), hall.2 0 x x' rfl (by rw [hq]; rfl), hall.2 1 y y' rfl (by rw [hq]; rfl)⟩
   split at D
   ·rename_i s x heq
    obtain ⟨s', x', hsx, hvs, hvx⟩ := two s x heq
    obtain ⟨m', v', w', r1, r2, r3, r4⟩ := OM (ty := ty) r hvs hvx D
    exact ⟨m', .value v', v', w', by simp [execOp, res, invoke, builtin, hsx, r1], .inl rfl, r2, r3, r4⟩
   ·rename_i s x heq
    obtain ⟨s', x', hsx, hvs, hvx⟩ := two s x heq
    obtain ⟨v', w', r1, r2, r3⟩ := Qt (ty := ty) r hvs hvx D
    exact ⟨m, .value v', v', w', by simp [execOp, res, invoke, builtin, hsx, r1], .inl rfl, BK.ext.refl _ _, r2, r3⟩
   ·rename_i s x heq
    obtain ⟨s', x', hsx, hvs, hvx⟩ := two s x heq
    cases J : KS P g h ts s x with
    | none => simp [J] at D
    | some h2 =>
     simp only [J, Option.map_some, Option.some.injEq, Prod.mk.injEq] at D
     obtain ⟨rfl, rfl⟩ := D
     obtain ⟨w', r1, r2⟩ := OO (ty := ty) r hvs hvx J
     exact ⟨m, .value (.tuple #[]), .tuple #[], w', by simp [execOp, res, invoke, builtin, hsx, r1], .inl rfl, BK.ext.refl _ _, r2, VR.Eu m⟩
   ·cases D
 | _ => simp [Ji] at D
end
end Go.Av
