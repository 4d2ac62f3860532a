/-
 A part.
-/
import Derived.Test.YtlljeoogceblmaaGreatDoorAvOpR
namespace Go.Av
open Go.RowKit
section
variable {P : Program} {m : BK} (w : World)
theorem FO (e : TypeId) (cs : Array Value) : (newRow e cs).run P w = .ok ⟨w.heap.size, 0, none⟩ (w.alloc (.cells cs e)) := rfl
def Ma (P : Program) (m : BK) (w w' : World) (E : Km) (x : Uw) (v' : Value) : Prop :=
 Dq w w' E.g ∧ E.g = w.heap.size ∧ E.g < w'.heap.size ∧ ∀ m' : BK, m.le m' → ∀ id, m' id = some E → VR m' (x.1 id) v' ∧ JJ P m' w' E x.2
theorem Io {m' : BK} {gr : Option TypeId} {cs : List AB} {ds : Array Value} {e : TypeId} {E : Km} {w' : World} {fz : Nat × Nat} (hg : w'.heap[E.g]? = some (.cells ds e fz)) (W : E.base = 0) (D : E.SQ = H4 P gr) (ht : E.total = ds.size)
  (J : CS m' cs (ds.toList.take cs.length)) (h1 : cs.all AB.one = true) (H : Rn E.total fz) : JJ P m' w' E (.cells gr 2 cs) := by
 refine ⟨⟨⟨D, fun h => by cases h⟩, fun _ _ => W⟩, fun _ => ⟨ds, e, fz, hg, ht.symm, fun j a ha => ⟨List.all_eq_true.1 h1 a (List.mem_of_getElem? ha), ?_⟩, fun _ => H⟩⟩
 obtain ⟨y, L, hvy⟩ := J.at_ ha
 rw [List.getElem?_take] at L
 split at L
 ·exact ⟨y, by rw [W, Nat.zero_add]; simpa using L, hvy⟩
 ·cases L
theorem Kp {t : TypeId} {x : AB} {x' : Value} {n : Uw} (G : VR m x x') (h : M8 x = some n) :
  ∃ v' w' E, (newVar t x').run P w = .ok (v' : Addr) w' ∧ Ma P m w w' E n (.pointer (some v')) := by
 unfold M8 at h
 split at h
 ·rename_i cs hcs
  split at h
  ·rename_i h1
   injection h with h
   subst h
   refine ⟨⟨w.heap.size, 0, none⟩, w.alloc (.cells x'.cells t), ⟨w.heap.size, 0, 0, x'.cells.size⟩, by simp [newVar, FO], Dq.alloc w _ _, rfl, by simp, fun m' hm id hid => ⟨?_, ?_⟩⟩
   ·simpa using VR.ptr (m := m') id 0 _ hid
   ·have J := (G.mono hm).cells hcs
    have U : cs.length = x'.cells.size := by rw [J.1]; simp
    exact Io (e := t) (fz := (0, 0)) (heap_alloc_new w _) rfl rfl rfl (by rw [U, List.take_of_length_le (by simp)]; exact J) h1 (.inl rfl)
  ·cases h
 ·cases h
theorem NS (z : List AB) : ∀ (n j : Nat), j < n * z.length → (Ec z n)[j]? = z[j % z.length]?
 | 0, j, h => by simp at h
 | n + 1, j, h => by
  unfold Ec
  have D : 0 < z.length := by
   rcases Nat.eq_zero_or_pos z.length with h0 | h0
   ·rw [h0] at h; simp at h
   ·exact h0
  by_cases hj : j < z.length
  ·rw [List.getElem?_append_left hj, Nat.mod_eq_of_lt hj]
  ·have h' : j < n * z.length + z.length := by rw [Nat.add_mul, Nat.one_mul] at h; exact h
   rw [List.getElem?_append_right (by omega), NS z n (j - z.length) (by omega), ← Nat.mod_eq_sub_mod (by omega)]
theorem FI (z : List AB) : ∀ n, (Ec z n).length = n * z.length
 | 0 => by simp [Ec]
 | n + 1 => by simp [Ec, FI z n, Nat.add_mul]; omega
theorem Li {z : List AB} {z' : Value} (D : CS m z z'.cells.toList) (n k : Nat) (hk : k = n * z.length) : CS m (Ec z n) ((Array.range k).map fun i => z'.cells[i % z'.cells.size]!).toList := by
 subst hk
 have U : z.length = z'.cells.size := by rw [D.1]; simp
 refine ⟨by simp [FI], fun i x y G L => ?_⟩
 have hi : i < n * z.length := by have := (List.getElem?_eq_some_iff.1 G).1; rwa [FI] at this
 rw [NS z n i hi] at G
 have hzp : 0 < z.length := by
  rcases Nat.eq_zero_or_pos z.length with h0 | h0
  ·rw [h0] at hi; simp at hi
  ·exact h0
 have hm : i % z.length < z'.cells.size := by rw [← U]; exact Nat.mod_lt _ hzp
 simp only [Array.toList_map, Array.toList_range, List.getElem?_map, List.getElem?_range hi, Option.map_some, Option.some.injEq] at L
 subst L
 rw [← U, getElem!_pos z'.cells (i % z.length) hm]
 exact D.2 _ x _ G (by simp [hm])
theorem OC {z : List AB} (h : z.all AB.one = true) : ∀ n, (Ec z n).all AB.one = true
 | 0 => by simp [Ec]
 | n + 1 => by simp only [Ec, List.all_append, h, OC h n]; rfl
theorem Hh {t : TypeId} {n : Nat} (h : CQ P t = some n) : P.cellsOf t = n := by
 unfold CQ at h; unfold Program.cellsOf; rw [h]; rfl
theorem Lx {t : TypeId} {len : Nat} {parts : List (Nat × AB)} {parts' : Array (Nat × Value)} {n : Uw} (U : parts.length = parts'.toList.length)
  (hp : ∀ (j i i' : Nat) (x : AB) (y : Value), parts[j]? = some (i, x) → parts'.toList[j]? = some (i', y) → i = i' ∧ VR m x y) (h : KO P t len parts = some n) :
  ∃ v' w' E, (Instr.buildSlice t len parts').run P w = .ok v' w' ∧ Ma P m w w' E n v' := by
 unfold KO at h
 split at h
 ·rename_i e hu
  split at h
  ·rename_i sz z F D
   split at h
   ·rename_i W
    obtain ⟨hb1, hb2, hb3⟩ := W
    split at h
    ·rename_i cs O
     split at h
     ·rename_i h1
      injection h with h
      subst h
      cases X : Fm P e with
      | none => simp [X] at D
      | some zv =>
       simp only [X, Option.bind_some] at D
       obtain ⟨i, zz, hi, I, Y⟩ := Fe (m := m) X
       have B := Y.cells D
       have hzl : z.length = zz.cells.size := by rw [B.1]; simp
       have C := Li B len (len * sz) (by rw [hb2])
       obtain ⟨ds', f1, f2⟩ := IE (m := m) (place := fun i => some (i * sz, sz)) parts parts'.toList _ _ cs U hp C O
       have hlen : cs.length = ds'.size := by rw [f2.1]; simp
       have K : (zeroValue e).run P w = .ok zz w := by simp [zeroValue, typeInfo, hi, I]
       have hcl : ∀ (parts : List (Nat × AB)) (a b : List AB), Jb (fun i => some (i * sz, sz)) a parts = some b → b.length = a.length := by
        intro parts
        induction parts with
        | nil => intro a b R; simp [Jb] at R; rw [R]
        | cons p ps ih =>
         intro a b R
         obtain ⟨i, x⟩ := p
         unfold Jb at R
         split at R
         ·rename_i off size new e1 e2
          split at R
          ·rename_i W
           rw [ih _ _ R]
           simp [Ds]; omega
          ·cases R
         ·cases R
       have hds : ds'.size = len * sz := by rw [← hlen, hcl _ _ _ O, FI, hb2]
       refine ⟨.slice (some ⟨w.heap.size, 0, none⟩) len len, w.alloc (.cells ds' e), ⟨w.heap.size, 0, sz, len * sz⟩, ?_, Dq.alloc w _ _, rfl, by simp, fun m' hm id hid => ⟨?_, ?_⟩⟩
       ·have hb1' : ¬ (len * sz > 2 ^ 24) := by omega
        by_cases h0 : len * sz = 0
        ·have hlen0 : len = 0 := by
          rcases Nat.mul_eq_zero.1 h0 with h | h
          ·exact h
          ·omega
         subst hlen0
         have f1' : Instr.fill (fun i => some (i * sz, sz)) #[] parts'.toList = some ds' := by simpa [Array.range_zero'] using f1
         simp [Instr.buildSlice, Am w hu, run_sizeOf w F, FO, f1', Array.range_zero']
        ·simp only [Instr.buildSlice, Sem.run_bind, Am w hu, Result.andThen_ok, run_sizeOf w F, Sem.run_ite, if_neg hb1', Sem.run_pure, if_neg h0, K]
         rw [f1]
         simp [FO]
       ·refine .slice id 0 len len _ _ hid (Nat.le_refl _) (fun _ => ⟨by simp, fun _ => by simp⟩)
       ·exact Io (e := e) (fz := (0, 0)) (heap_alloc_new w _) rfl (by simp [H4, Hh F]) (by simp [hds]) (by rw [List.length_map, hlen, List.take_of_length_le (by simp)]; exact (f2.mono hm).Em) h1 (.inl rfl)
     ·cases h
    ·cases h
   ·cases h
  ·cases h
 ·cases h
theorem Lh {w : World} {g : Nat} {cs : Array Value} {e : TypeId} (hg : w.heap[g]? = some (.cells cs e (0, 0))) :
  ∃ w', (markStringish ⟨g, 0, none⟩).run P w = .ok () w' ∧ w'.heap[g]? = some (.cells cs e (cs.size, cs.size + 1)) ∧ Dq w w' g ∧ w'.heap.size = w.heap.size := by
 refine ⟨w.freeze { block := g, off := cs.size } 1, ?_, ?_, ?_, ?_⟩
 ·simp [markStringish, shape, freeze, Sem.run, World.shape?, hg]
 ·simp [World.freeze, Array.getElem?_modify, hg]
 ·refine ⟨rfl, rfl, rfl, by simp [World.freeze], fun k hk N => ?_⟩
  simp [World.freeze, Array.getElem?_modify, Ne.symm N]
 ·simp [World.freeze]
theorem LB {w : World} {a : Addr} {g : Nat} {cs : Array Value} {e : TypeId} {fz : Nat × Nat} (ha : a.block = g) (hg : w.heap[g]? = some (.cells cs e fz)) (H : Rn cs.size fz) :
  ∃ w' fz', (markStringish a).run P w = .ok () w' ∧ w'.heap[g]? = some (.cells cs e fz') ∧ Rn cs.size fz' ∧ Dq w w' g := by
 subst ha
 obtain ⟨lo, hi⟩ := fz
 refine ⟨w.freeze { block := a.block, off := cs.size } 1, (if lo == hi then (cs.size, cs.size + 1) else (min lo cs.size, max hi (cs.size + 1))), ?_, ?_, ?_, ?_⟩
 ·simp [markStringish, shape, freeze, Sem.run, World.shape?, hg]
 ·simp [World.freeze, Array.getElem?_modify, hg]
 ·unfold Rn at H ⊢
  split
  ·exact .inr (Nat.le_refl _)
  ·rename_i N
   rcases H with H | H
   ·exact absurd (by simpa using H) N
   ·right; simp only; simp only at H; omega
 ·refine ⟨rfl, rfl, rfl, by simp [World.freeze], fun k hk N => ?_⟩
  simp [World.freeze, Array.getElem?_modify, Ne.symm N]
def HB (s : List UInt8) (c : Nat) : Array Value := (s.map fun (b : UInt8) => Value.int .u8 b.toNat).toArray ++ Array.replicate (c - s.length) (.int .u8 0)
theorem Pf (s : List UInt8) (c : Nat) (h : s.length ≤ c) : (HB s c).size = c := by simp [HB]; omega
theorem Qg {src dst : TypeId} {x : AB} {x' : Value} {n : Uw} (G : VR m x x') (h : Sc P src dst x = some n) :
  ∃ v' w' E, (convert src dst x').run P w = .ok v' w' ∧ Ma P m w w' E n v' := by
 unfold Sc at h
 split at h
 ·rename_i d e s hs hd
  split at h
  ·rename_i he F
   split at h
   ·rename_i hlen
    injection h with h
    subst h
    have := G.DJ
    subst this
    obtain ⟨c, hc⟩ : ∃ c, c = (Question.appendCap s.length 0 e).cut (w.tape w.drawn (.appendCap s.length 0 e)) := ⟨_, rfl⟩
    have V : s.length ≤ c := by rw [hc]; simp [Question.cut]
    have S := Pf s c V
    have hblk : (w.drew.alloc (.cells (HB s c) e)).heap[w.heap.size]? = some (.cells (HB s c) e (0, 0)) := heap_alloc_new w.drew _
    obtain ⟨w', r1, r2, r3, r4⟩ := Lh (P := P) hblk
    refine ⟨.slice (some ⟨w.heap.size, 0, none⟩) s.length c, w', ⟨w.heap.size, 0, 1, c⟩, ?_, (Dq.alloc_drew w _ _).trans r3, rfl, by rw [r4]; show _ < (w.heap.push _).size; simp, fun m' hm id hid => ⟨?_, ?_⟩⟩
    ·have hch : (choose (.appendCap s.length 0 e)).run P w = .ok c w.drew := by rw [hc]; rfl
     have hmap : ((⟨⟨s⟩⟩ : ByteArray).data.map fun b => Value.int .u8 b.toNat) = (s.map fun (b : UInt8) => Value.int .u8 b.toNat).toArray := by simp
     simp only [convert, Sem.run_bind, Am w hs, Am w hd, Am w he, Result.andThen_ok, Conv.stringToBytes]
     rw [show (⟨⟨s⟩⟩ : ByteArray).size = s.length from rfl, hch, hmap]
     simp only [Result.andThen_ok]
     have T : (newRow e (HB s c)).run P w.drew = .ok ⟨w.heap.size, 0, none⟩ (w.drew.alloc (.cells (HB s c) e)) := FO w.drew e _
     unfold HB at T r1
     rw [T]
     simp only [Result.andThen_ok, r1, Sem.run_pure]
    ·exact .slice id 0 s.length c _ _ hid V (fun _ => ⟨by simp, fun _ => by simp⟩)
    ·refine Io (e := e) (fz := (c, c + 1)) (by rw [r2, S]) rfl (by simp [H4, Hh F]) (by simp [S]) ?_ ?_ (.inr (Nat.le_refl _))
     ·have : (HB s c).toList.take (s.map fun (b : UInt8) => AB.int .u8 b.toNat).length = s.map (fun (b : UInt8) => Value.int .u8 b.toNat) := by
       simp [HB]
      rw [this]
      exact CS.map _ _ s fun b _ => .int _ _
     ·simp [List.all_eq_true, AB.one]
   ·cases h
  ·cases h
 ·cases h
theorem MG {t : TypeId} {l c : AB} {l' c' : Value} {n : Uw} (U : VR m l l') (hc : VR m c c') (h : JB P t l c = some n) :
  ∃ v' w' E, (Instr.makeSlice t l' c').run P w = .ok v' w' ∧ Ma P m w w' E n v' := by
 unfold JB at h
 split at h
 ·rename_i e kl a kc b hu
  have := U.Cd; subst this
  have := hc.Cd; subst this
  split at h
  ·rename_i i hi
   split at h
   ·rename_i z D
    split at h
    ·rename_i zc Q
     simp only [Option.map_eq_some_iff] at Q
     obtain ⟨zc0, Q, hzc'⟩ := Q
     split at h
     ·rename_i W
      obtain ⟨b1, b2, b3, b4, b5, b6⟩ := W
      injection h with h
      subst h
      cases I : i.zero with
      | none => simp [I] at D
      | some zz =>
       simp only [I, Option.map_some, Option.some.injEq] at D
       subst D
       have B := ((VR.VC m zz).cells Q).Em
       rw [hzc'] at B
       have hzl : zc.length = zz.cells.size := by rw [B.1]; simp
       have F : CQ P e = some i.size := by simp [CQ, hi]
       have wl : IntKind.i64.wrap a = a := by simp [IntKind.wrap, IntKind.signed, IntKind.bits]; omega
       have wc : IntKind.i64.wrap b = b := by simp [IntKind.wrap, IntKind.signed, IntKind.bits]; omega
       have C := Li B b.toNat (b.toNat * i.size) (by rw [b5])
       obtain ⟨row, M⟩ : ∃ row, row = ((Array.range (b.toNat * i.size)).map fun j => zz.cells[j % zz.cells.size]!) := ⟨_, rfl⟩
       have Z : row.size = b.toNat * i.size := by rw [M]; simp
       rw [← M] at C
       refine ⟨.slice (some ⟨w.heap.size, 0, none⟩) a.toNat b.toNat, w.alloc (.cells row e), ⟨w.heap.size, 0, i.size, b.toNat * i.size⟩, ?_, Dq.alloc w _ _, rfl, by simp, fun m' hm id hid => ⟨?_, ?_⟩⟩
       ·have big1 : ¬ (b < 0) := by omega
        have big2 : ¬ (((i.bytes : Int) * b) > 2 ^ 48) := by omega
        have big3 : ¬ (a < 0) := by omega
        have big4 : ¬ (a > b) := by omega
        have room : ¬ (b.toNat * i.bytes > roomBytes) := by
         have e1 : ((b.toNat * i.bytes : Nat) : Int) = (i.bytes : Int) * b := by
          rw [Int.natCast_mul, Int.toNat_of_nonneg (by omega), Int.mul_comm]
         simp only [roomBytes]
         omega
        have K : (zeroValue e).run P w = .ok zz w := by simp [zeroValue, typeInfo, hi, I]
        have hti : (typeInfo e).run P w = .ok i w := by simp [typeInfo, hi]
        have hcond : (((decide (b < 0) || decide ((i.bytes : Int) * b > 2 ^ 48)) || decide (a < 0) || decide (a > b)) = true) = False := by
         simp; omega
        simp only [Instr.makeSlice, Sem.run_bind, Am w hu, Result.andThen_ok, asInt, asIntOf, Sem.run_pure, hti, wl, wc, Sem.run_ite, hcond, if_false, askRoom, if_neg room, run_sizeOf w F]
        by_cases h0 : b.toNat * i.size = 0
        ·have hr0 : row = #[] := by apply Array.eq_empty_of_size_eq_zero; rw [Z, h0]
         simp [h0, hr0, FO, Array.range_zero']
        ·simp only [if_neg h0, K, Result.andThen_ok]
         rw [← M]
         simp [FO]
       ·exact .slice id 0 a.toNat b.toNat _ _ hid (by omega) (fun _ => ⟨by simp, fun _ => by simp⟩)
       ·exact Io (e := e) (fz := (0, 0)) (heap_alloc_new w _) rfl (by simp [H4, Hh F]) (by simp [Z]) (by rw [FI, b5, ← Z, List.take_of_length_le (by simp)]; exact C.mono hm) (OC b6 _) (.inl rfl)
     ·cases h
    ·cases h
   ·cases h
  ·cases h
 ·cases h
theorem Oj {fr : Fr} {a : Act} (H : FR m fr a) {o : Oper} {n : Uw} (h : OG P fr o.op = some n) : ∃ v' w' E, (execOp a.eval o).run P w = .ok (.value v') w' ∧ Ma P m w w' E n v' := by
 obtain ⟨dst, op, ty, pos, aft, gd⟩ := o
 simp only at h
 have lift : ∀ {s : Sem Value}, (∃ v' w' E, s.run P w = .ok v' w' ∧ Ma P m w w' E n v') → ∃ v' w' E, (do pure (.value (← s)) : Sem Next).run P w = .ok (.value v') w' ∧ Ma P m w w' E n v' := by
  rintro s ⟨v', w', E, h1, h2⟩
  exact ⟨v', w', E, by simp [h1], h2⟩
 cases op with
 | alloc e =>
  simp only [OG] at h
  cases D : Fm P e with
  | none => simp [D] at h
  | some z =>
   simp only [D, Option.bind_some] at h
   obtain ⟨i, zz, hi, I, Y⟩ := Fe (m := m) D
   obtain ⟨v', w', E, h1, h2⟩ := Kp (P := P) (t := e) w Y h
   have K : (zeroValue e).run P w = .ok zz w := by simp [zeroValue, typeInfo, hi, I]
   exact lift ⟨_, w', E, by simp [Instr.alloc, K, h1], h2⟩
 | box e x =>
  simp only [OG] at h
  obtain ⟨v', w', E, h1, h2⟩ := Kp (P := P) (t := e) w (H.ev x) h
  exact lift ⟨_, w', E, by simp [Instr.box, h1], h2⟩
 | buildSlice t len parts =>
  simp only [OG] at h
  have hp : ∀ (j i i' : Nat) (x : AB) (y : Value), (parts.toList.map fun (i, x) => (i, ev fr x))[j]? = some (i, x) → (parts.map fun (i, x) => (i, a.eval x)).toList[j]? = some (i', y) → i = i' ∧ VR m x y := by
   intro j i i' x y G L
   simp only [List.getElem?_map, Array.toList_map] at G L
   cases hj : parts.toList[j]? with
   | none => simp [hj] at G
   | some p =>
    simp only [hj, Option.map_some, Option.some.injEq, Prod.mk.injEq] at G L
    obtain ⟨rfl, rfl⟩ := G
    obtain ⟨rfl, rfl⟩ := L
    exact ⟨rfl, H.ev p.2⟩
  obtain ⟨v', w', E, h1, h2⟩ := Lx (P := P) w (by simp) hp h
  exact lift ⟨v', w', E, h1, h2⟩
 | convert s d x =>
  simp only [OG] at h
  obtain ⟨v', w', E, h1, h2⟩ := Qg (P := P) w (H.ev x) h
  exact lift ⟨v', w', E, h1, h2⟩
 | makeMap t r =>
  cases r with
  | some r => simp [OG] at h
  | none =>
   simp only [OG, Option.some.injEq] at h
   subst h
   refine lift ⟨.map (some w.heap.size), w.alloc (.map #[] 0), ⟨w.heap.size, 0, 0, 0⟩, by simp [Instr.makeMap], Dq.alloc w _ _, rfl, by simp, fun m' hm id hid => ⟨VR.map id _ hid, rfl, fun _ => J6.of ⟨#[], 0, heap_alloc_new w _, rfl, fun i k v e h => by simp at h, HJ.nil⟩ (by decide)⟩⟩
 | makeSlice t l c =>
  simp only [OG] at h
  obtain ⟨v', w', E, h1, h2⟩ := MG (P := P) w (H.ev l) (H.ev c) h
  exact lift ⟨v', w', E, h1, h2⟩
 | makeChan t n =>
  simp only [OG] at h
  split at h
  ·rename_i dir e k n0 hu G
   split at h
   ·rename_i i hi
    split at h
    ·rename_i W
     injection h with h
     subst h
     have J := H.ev n
     rw [G] at J
     have J := J.Cd
     have hn : n0 = ((n0.toNat : Nat) : Int) := by omega
     refine lift ⟨.chan (some w.heap.size), w.alloc (.chan n0.toNat #[] false 0 0 false), ⟨w.heap.size, 0, 0, 0⟩, ?_, Dq.alloc w _ _, rfl, by simp, fun m' hm id hid => ⟨VR.chan id _ hid, #[], 0, 0, heap_alloc_new w _, .nil _⟩⟩
     have n1 : ¬ (n0 < 0) := by omega
     have n2 : ¬ (9223372036854775807 < n0) := by omega
     have n3 : ¬ (281474976710544 < (i.bytes : Int) * n0) := by omega
     simp [Instr.makeChan, J, asInt, asIntOf, run_underlying hu, typeInfo, hi, n1, n2, n3, IntKind.max, IntKind.bits, IntKind.signed]
    ·cases h
   ·cases h
  ·cases h
 | range t x =>
  simp only [OG] at h
  split at h
  ·rename_i s hu G
   injection h with h
   subst h
   have J := H.ev x
   rw [G] at J
   have J := J.DJ
   refine lift ⟨.pointer (some ⟨w.heap.size, 0, none⟩), w.alloc (.stringIter ⟨⟨s⟩⟩ 0), ⟨w.heap.size, 0, 0, 0⟩, by simp [Instr.range, Am w hu, J], Dq.alloc w _ _, rfl, by simp, fun m' hm id hid => ⟨by simpa using VR.ptr (m := m') id 0 _ hid, rfl, heap_alloc_new w _⟩⟩
  ·cases h
 | _ => simp [OG] at h
end
end Go.Av
