/-
 A part.
-/
import Derived.Test.YtdbkpibbjnhmgaaDoorAvOpR
namespace Go.Av
open Go.RowKit
section
variable {P : Program} {m : AU} (w : World)
theorem EE (e : TypeId) (cs : Array Value) : (newRow e cs).run P w = .ok ⟨w.heap.size, 0, none⟩ (w.alloc (.cells cs e)) := rfl
def Kg (P : Program) (m : AU) (w w' : World) (E : HQ) (x : S8) (v' : Value) : Prop :=
 Ch w w' E.g ∧ E.g = w.heap.size ∧ E.g < w'.heap.size ∧ ∀ m' : AU, m.le m' → ∀ id, m' id = some E → VR m' (x.1 id) v' ∧ G9 P m' w' E x.2
theorem Ge {m' : AU} {gr : Option TypeId} {cs : List AA} {ds : Array Value} {e : TypeId} {E : HQ} {w' : World} {fz : Nat × Nat} (hg : w'.heap[E.g]? = some (.cells ds e fz)) (hb : E.base = 0) (hz : E.QK = E5 P gr) (ht : E.total = ds.size)
  (hv : BU m' cs (ds.toList.take cs.length)) (h1 : cs.all AA.one = true) (hf : Xp gr E.total fz) : G9 P m' w' E (.cells gr 2 cs) := by
 refine ⟨⟨⟨hz, fun h => by cases h⟩, fun _ _ => hb⟩, fun _ => ⟨ds, e, fz, hg, ht.symm, fun j a ha => ⟨List.all_eq_true.1 h1 a (List.mem_of_getElem? ha), ?_⟩, fun _ => hf⟩⟩
 obtain ⟨y, hy, hvy⟩ := hv.at_ ha
 rw [List.getElem?_take] at hy
 split at hy
 ·exact ⟨y, by rw [hb, Nat.zero_add]; simpa using hy, hvy⟩
 ·cases hy
theorem Ii {t : TypeId} {x : AA} {x' : Value} {n : S8} (hx : VR m x x') (h : K1 x = some n) :
  ∃ v' w' E, (newVar t x').run P w = .ok (v' : Addr) w' ∧ Kg P m w w' E n (.pointer (some v')) := by
 unfold K1 at h
 split at h
 ·rename_i cs hcs
  split at h
  ·rename_i h1
   injection h with h
   subst h
   refine ⟨⟨w.heap.size, 0, none⟩, w.alloc (.cells x'.cells t), ⟨w.heap.size, 0, 0, x'.cells.size⟩, by simp [newVar, EE], Ch.alloc w _ _, rfl, by simp, fun m' hm id hid => ⟨?_, ?_⟩⟩
   ·simpa using VR.ptr (m := m') id 0 _ hid
   ·have hv := (hx.mono hm).cells hcs
    have hl : cs.length = x'.cells.size := by rw [hv.1]; simp
    exact Ge (e := t) (fz := (0, 0)) (heap_alloc_new w _) rfl rfl rfl (by rw [hl, List.take_of_length_le (by simp)]; exact hv) h1 ⟨.inl rfl, fun _ => rfl⟩
  ·cases h
 ·cases h
theorem Le (z : List AA) : ∀ (n j : Nat), j < n * z.length → (Cq z n)[j]? = z[j % z.length]?
 | 0, j, h => by simp at h
 | n + 1, j, h => by
  unfold Cq
  have hz : 0 < z.length := by
   rcases Nat.eq_zero_or_pos z.length with h0 | h0
   ·rw [h0] at h; simp at h
   ·exact h0
  by_cases hj : j < z.length
  ·rw [List.getElem?_append_left hj, Nat.mod_eq_of_lt hj]
  ·have h' : j < n * z.length + z.length := by rw [Nat.add_mul, Nat.one_mul] at h; exact h
   rw [List.getElem?_append_right (by omega), Le z n (j - z.length) (by omega), ← Nat.mod_eq_sub_mod (by omega)]
theorem D3 (z : List AA) : ∀ n, (Cq z n).length = n * z.length
 | 0 => by simp [Cq]
 | n + 1 => by simp [Cq, D3 z n, Nat.add_mul]; omega
theorem Gs {z : List AA} {z' : Value} (hz : BU m z z'.cells.toList) (n k : Nat) (hk : k = n * z.length) : BU m (Cq z n) ((Array.range k).map fun i => z'.cells[i % z'.cells.size]!).toList := by
 subst hk
 have hl : z.length = z'.cells.size := by rw [hz.1]; simp
 refine ⟨by simp [D3], fun i x y hx hy => ?_⟩
 have hi : i < n * z.length := by have := (List.getElem?_eq_some_iff.1 hx).1; rwa [D3] at this
 rw [Le z n i hi] at hx
 have hzp : 0 < z.length := by
  rcases Nat.eq_zero_or_pos z.length with h0 | h0
  ·rw [h0] at hi; simp at hi
  ·exact h0
 have hm : i % z.length < z'.cells.size := by rw [← hl]; exact Nat.mod_lt _ hzp
 simp only [Array.toList_map, Array.toList_range, List.getElem?_map, List.getElem?_range hi, Option.map_some, Option.some.injEq] at hy
 subst hy
 rw [← hl, getElem!_pos z'.cells (i % z.length) hm]
 exact hz.2 _ x _ hx (by simp [hm])
theorem Lh {z : List AA} (h : z.all AA.one = true) : ∀ n, (Cq z n).all AA.one = true
 | 0 => by simp [Cq]
 | n + 1 => by simp only [Cq, List.all_append, h, Lh h n]; rfl
theorem Ep {t : TypeId} {n : Nat} (h : Bf P t = some n) : P.cellsOf t = n := by
 unfold Bf at h; unfold Program.cellsOf; rw [h]; rfl
theorem Jv {t : TypeId} {len : Nat} {parts : List (Nat × AA)} {parts' : Array (Nat × Value)} {n : S8} (hl : parts.length = parts'.toList.length)
  (hp : ∀ (j i i' : Nat) (x : AA) (y : Value), parts[j]? = some (i, x) → parts'.toList[j]? = some (i', y) → i = i' ∧ VR m x y) (h : Hm P t len parts = some n) :
  ∃ v' w' E, (Instr.buildSlice t len parts').run P w = .ok v' w' ∧ Kg P m w w' E n v' := by
 unfold Hm at h
 split at h
 ·rename_i e hu
  split at h
  ·rename_i sz z hsz hz
   split at h
   ·rename_i hb
    obtain ⟨hb1, hb2, hb3⟩ := hb
    split at h
    ·rename_i cs hfill
     split at h
     ·rename_i h1
      injection h with h
      subst h
      cases hz0 : Ec P e with
      | none => simp [hz0] at hz
      | some zv =>
       simp only [hz0, Option.bind_some] at hz
       obtain ⟨i, zz, hi, hiz, hvz⟩ := Dt (m := m) hz0
       have hcells := hvz.cells hz
       have hzl : z.length = zz.cells.size := by rw [hcells.1]; simp
       have hzeros := Gs hcells len (len * sz) (by rw [hb2])
       obtain ⟨ds', f1, f2⟩ := GC (m := m) (place := fun i => some (i * sz, sz)) parts parts'.toList _ _ cs hl hp hzeros hfill
       have hlen : cs.length = ds'.size := by rw [f2.1]; simp
       have hzv : (zeroValue e).run P w = .ok zz w := by simp [zeroValue, typeInfo, hi, hiz]
       have hcl : ∀ (parts : List (Nat × AA)) (a b : List AA), HD (fun i => some (i * sz, sz)) a parts = some b → b.length = a.length := by
        intro parts
        induction parts with
        | nil => intro a b hh; simp [HD] at hh; rw [hh]
        | cons p ps ih =>
         intro a b hh
         obtain ⟨i, x⟩ := p
         unfold HD at hh
         split at hh
         ·rename_i off size new e1 e2
          split at hh
          ·rename_i hb
           rw [ih _ _ hh]
           simp [C1]; omega
          ·cases hh
         ·cases hh
       have hds : ds'.size = len * sz := by rw [← hlen, hcl _ _ _ hfill, D3, hb2]
       refine ⟨.slice (some ⟨w.heap.size, 0, none⟩) len len, w.alloc (.cells ds' e), ⟨w.heap.size, 0, sz, len * sz⟩, ?_, Ch.alloc w _ _, rfl, by simp, fun m' hm id hid => ⟨?_, ?_⟩⟩
       ·have hb1' : ¬ (len * sz > 2 ^ 24) := by omega
        by_cases h0 : len * sz = 0
        ·have hlen0 : len = 0 := by
          rcases Nat.mul_eq_zero.1 h0 with h | h
          ·exact h
          ·omega
         subst hlen0
         have f1' : Instr.fill (fun i => some (i * sz, sz)) #[] parts'.toList = some ds' := by simpa [Array.range_zero'] using f1
         simp [Instr.buildSlice, AK w hu, run_sizeOf w hsz, EE, f1', Array.range_zero']
        ·simp only [Instr.buildSlice, Sem.run_bind, AK w hu, Result.andThen_ok, run_sizeOf w hsz, Sem.run_ite, if_neg hb1', Sem.run_pure, if_neg h0, hzv]
         rw [f1]
         simp [EE]
       ·refine .slice id 0 len len _ _ hid (Nat.le_refl _) (fun _ => ⟨by simp, fun _ => by simp⟩)
       ·exact Ge (e := e) (fz := (0, 0)) (heap_alloc_new w _) rfl (by simp [E5, Ep hsz]) (by simp [hds]) (by rw [List.length_map, hlen, List.take_of_length_le (by simp)]; exact (f2.mono hm).Dl) h1 ⟨.inl rfl, fun _ => rfl⟩
     ·cases h
    ·cases h
   ·cases h
  ·cases h
 ·cases h
theorem JW {w : World} {g : Nat} {cs : Array Value} {e : TypeId} (hg : w.heap[g]? = some (.cells cs e (0, 0))) :
  ∃ w', (markStringish ⟨g, 0, none⟩).run P w = .ok () w' ∧ w'.heap[g]? = some (.cells cs e (cs.size, cs.size + 1)) ∧ Ch w w' g ∧ w'.heap.size = w.heap.size := by
 refine ⟨w.freeze { block := g, off := cs.size } 1, ?_, ?_, ?_, ?_⟩
 ·simp [markStringish, shape, freeze, Sem.run, World.shape?, hg]
 ·simp [World.freeze, Array.getElem?_modify, hg]
 ·refine ⟨rfl, rfl, rfl, by simp [World.freeze], fun k hk hne => ?_⟩
  simp [World.freeze, Array.getElem?_modify, Ne.symm hne]
 ·simp [World.freeze]
theorem JN {w : World} {a : Addr} {g : Nat} {cs : Array Value} {e : TypeId} {fz : Nat × Nat} (ha : a.block = g) (hg : w.heap[g]? = some (.cells cs e fz)) (hf : Rn cs.size fz) :
  ∃ w' fz', (markStringish a).run P w = .ok () w' ∧ w'.heap[g]? = some (.cells cs e fz') ∧ Rn cs.size fz' ∧ Ch w w' g := by
 subst ha
 obtain ⟨lo, hi⟩ := fz
 refine ⟨w.freeze { block := a.block, off := cs.size } 1, (if lo == hi then (cs.size, cs.size + 1) else (min lo cs.size, max hi (cs.size + 1))), ?_, ?_, ?_, ?_⟩
 ·simp [markStringish, shape, freeze, Sem.run, World.shape?, hg]
 ·simp [World.freeze, Array.getElem?_modify, hg]
 ·unfold Rn at hf ⊢
  split
  ·exact .inr (Nat.le_refl _)
  ·rename_i hne
   rcases hf with hf | hf
   ·exact absurd (by simpa using hf) hne
   ·right; simp only; simp only at hf; omega
 ·refine ⟨rfl, rfl, rfl, by simp [World.freeze], fun k hk hne => ?_⟩
  simp [World.freeze, Array.getElem?_modify, Ne.symm hne]
def FQ (s : List UInt8) (c : Nat) : Array Value := (s.map fun (b : UInt8) => Value.int .u8 b.toNat).toArray ++ Array.replicate (c - s.length) (.int .u8 0)
theorem M7 (s : List UInt8) (c : Nat) (h : s.length ≤ c) : (FQ s c).size = c := by simp [FQ]; omega
theorem OP {src dst : TypeId} {x : AA} {x' : Value} {n : S8} (hx : VR m x x') (h : TP P src dst x = some n) :
  ∃ v' w' E, (convert src dst x').run P w = .ok v' w' ∧ Kg P m w w' E n v' := by
 unfold TP at h
 split at h
 ·rename_i d e s hs hd
  split at h
  ·rename_i he hsz
   split at h
   ·rename_i hlen
    injection h with h
    subst h
    have := hx.B9
    subst this
    obtain ⟨c, hc⟩ : ∃ c, c = (Question.appendCap s.length 0 e).cut (w.tape w.drawn (.appendCap s.length 0 e)) := ⟨_, rfl⟩
    have hcge : s.length ≤ c := by rw [hc]; simp [Question.cut]
    have hsz0 := M7 s c hcge
    have hblk : (w.drew.alloc (.cells (FQ s c) e)).heap[w.heap.size]? = some (.cells (FQ s c) e (0, 0)) := heap_alloc_new w.drew _
    obtain ⟨w', r1, r2, r3, r4⟩ := JW (P := P) hblk
    refine ⟨.slice (some ⟨w.heap.size, 0, none⟩) s.length c, w', ⟨w.heap.size, 0, 1, c⟩, ?_, (Ch.alloc_drew w _ _).trans r3, rfl, by rw [r4]; show _ < (w.heap.push _).size; simp, fun m' hm id hid => ⟨?_, ?_⟩⟩
    ·have hch : (choose (.appendCap s.length 0 e)).run P w = .ok c w.drew := by rw [hc]; rfl
     have hmap : ((⟨⟨s⟩⟩ : ByteArray).data.map fun b => Value.int .u8 b.toNat) = (s.map fun (b : UInt8) => Value.int .u8 b.toNat).toArray := by simp
     simp only [convert, Sem.run_bind, AK w hs, AK w hd, AK w he, Result.andThen_ok, Conv.stringToBytes]
     rw [show (⟨⟨s⟩⟩ : ByteArray).size = s.length from rfl, hch, hmap]
     simp only [Result.andThen_ok]
     have hnew : (newRow e (FQ s c)).run P w.drew = .ok ⟨w.heap.size, 0, none⟩ (w.drew.alloc (.cells (FQ s c) e)) := EE w.drew e _
     unfold FQ at hnew r1
     rw [hnew]
     simp only [Result.andThen_ok, r1, Sem.run_pure]
    ·exact .slice id 0 s.length c _ _ hid hcge (fun _ => ⟨by simp, fun _ => by simp⟩)
    ·refine Ge (e := e) (fz := (c, c + 1)) (by rw [r2, hsz0]) rfl (by simp [E5, Ep hsz]) (by simp [hsz0]) ?_ ?_ ⟨.inr (Nat.le_refl _), fun e => by cases e⟩
     ·have : (FQ s c).toList.take (s.map fun (b : UInt8) => AA.int .u8 b.toNat).length = s.map (fun (b : UInt8) => Value.int .u8 b.toNat) := by
       simp [FQ]
      rw [this]
      exact BU.map _ _ s fun b _ => .int _ _
     ·simp [List.all_eq_true, AA.one]
   ·cases h
  ·cases h
 ·cases h
theorem KE {t : TypeId} {l c : AA} {l' c' : Value} {n : S8} (hl : VR m l l') (hc : VR m c c') (h : I9 P t l c = some n) :
  ∃ v' w' E, (Instr.makeSlice t l' c').run P w = .ok v' w' ∧ Kg P m w w' E n v' := by
 unfold I9 at h
 split at h
 ·rename_i e kl a kc b hu
  have := hl.B5; subst this
  have := hc.B5; subst this
  split at h
  ·rename_i i hi
   split at h
   ·rename_i z hz
    split at h
    ·rename_i zc hzc
     simp only [Option.map_eq_some_iff] at hzc
     obtain ⟨zc0, hzc, hzc'⟩ := hzc
     split at h
     ·rename_i hb
      obtain ⟨b1, b2, b3, b4, b5, b6⟩ := hb
      injection h with h
      subst h
      cases hiz : i.zero with
      | none => simp [hiz] at hz
      | some zz =>
       simp only [hiz, Option.map_some, Option.some.injEq] at hz
       subst hz
       have hcells := ((VR.Te m zz).cells hzc).Dl
       rw [hzc'] at hcells
       have hzl : zc.length = zz.cells.size := by rw [hcells.1]; simp
       have hsz : Bf P e = some i.size := by simp [Bf, hi]
       have wl : IntKind.i64.wrap a = a := by simp [IntKind.wrap, IntKind.signed, IntKind.bits]; omega
       have wc : IntKind.i64.wrap b = b := by simp [IntKind.wrap, IntKind.signed, IntKind.bits]; omega
       have hzeros := Gs hcells b.toNat (b.toNat * i.size) (by rw [b5])
       obtain ⟨row, hrow⟩ : ∃ row, row = ((Array.range (b.toNat * i.size)).map fun j => zz.cells[j % zz.cells.size]!) := ⟨_, rfl⟩
       have hrs : row.size = b.toNat * i.size := by rw [hrow]; simp
       rw [← hrow] at hzeros
       refine ⟨.slice (some ⟨w.heap.size, 0, none⟩) a.toNat b.toNat, w.alloc (.cells row e), ⟨w.heap.size, 0, i.size, b.toNat * i.size⟩, ?_, Ch.alloc w _ _, rfl, by simp, fun m' hm id hid => ⟨?_, ?_⟩⟩
       ·have big1 : ¬ (b < 0) := by omega
        have big2 : ¬ (((i.bytes : Int) * b) > 2 ^ 48) := by omega
        have big3 : ¬ (a < 0) := by omega
        have big4 : ¬ (a > b) := by omega
        have room : ¬ (b.toNat * i.bytes > roomBytes) := by
         have e1 : ((b.toNat * i.bytes : Nat) : Int) = (i.bytes : Int) * b := by
          rw [Int.natCast_mul, Int.toNat_of_nonneg (by omega), Int.mul_comm]
         simp only [roomBytes]
         omega
        have hzv : (zeroValue e).run P w = .ok zz w := by simp [zeroValue, typeInfo, hi, hiz]
        have hti : (typeInfo e).run P w = .ok i w := by simp [typeInfo, hi]
        have hcond : (((decide (b < 0) || decide ((i.bytes : Int) * b > 2 ^ 48)) || decide (a < 0) || decide (a > b)) = true) = False := by
         simp; omega
        simp only [Instr.makeSlice, Sem.run_bind, AK w hu, Result.andThen_ok, asInt, asIntOf, Sem.run_pure, hti, wl, wc, Sem.run_ite, hcond, if_false, askRoom, if_neg room, run_sizeOf w hsz]
        by_cases h0 : b.toNat * i.size = 0
        ·have hr0 : row = #[] := by apply Array.eq_empty_of_size_eq_zero; rw [hrs, h0]
         simp [h0, hr0, EE, Array.range_zero']
        ·simp only [if_neg h0, hzv, Result.andThen_ok]
         rw [← hrow]
         simp [EE]
       ·exact .slice id 0 a.toNat b.toNat _ _ hid (by omega) (fun _ => ⟨by simp, fun _ => by simp⟩)
       ·exact Ge (e := e) (fz := (0, 0)) (heap_alloc_new w _) rfl (by simp [E5, Ep hsz]) (by simp [hrs]) (by rw [D3, b5, ← hrs, List.take_of_length_le (by simp)]; exact hzeros.mono hm) (Lh b6 _) ⟨.inl rfl, fun _ => rfl⟩
     ·cases h
    ·cases h
   ·cases h
  ·cases h
 ·cases h
theorem MY {fr : Fr} {a : Act} (hf : FR m fr a) {o : Oper} {n : S8} (h : Mq P fr o.op = some n) : ∃ v' w' E, (execOp a.eval o).run P w = .ok (.value v') w' ∧ Kg P m w w' E n v' := by
 obtain ⟨dst, op, ty, pos, aft, gd⟩ := o
 simp only at h
 have lift : ∀ {s : Sem Value}, (∃ v' w' E, s.run P w = .ok v' w' ∧ Kg P m w w' E n v') → ∃ v' w' E, (do pure (.value (← s)) : Sem Next).run P w = .ok (.value v') w' ∧ Kg P m w w' E n v' := by
  rintro s ⟨v', w', E, h1, h2⟩
  exact ⟨v', w', E, by simp [h1], h2⟩
 cases op with
 | alloc e =>
  simp only [Mq] at h
  cases hz : Ec P e with
  | none => simp [hz] at h
  | some z =>
   simp only [hz, Option.bind_some] at h
   obtain ⟨i, zz, hi, hiz, hvz⟩ := Dt (m := m) hz
   obtain ⟨v', w', E, h1, h2⟩ := Ii (P := P) (t := e) w hvz h
   have hzv : (zeroValue e).run P w = .ok zz w := by simp [zeroValue, typeInfo, hi, hiz]
   exact lift ⟨_, w', E, by simp [Instr.alloc, hzv, h1], h2⟩
 | box e x =>
  simp only [Mq] at h
  obtain ⟨v', w', E, h1, h2⟩ := Ii (P := P) (t := e) w (hf.ev x) h
  exact lift ⟨_, w', E, by simp [Instr.box, h1], h2⟩
 | buildSlice t len parts =>
  simp only [Mq] at h
  have hp : ∀ (j i i' : Nat) (x : AA) (y : Value), (parts.toList.map fun (i, x) => (i, ev fr x))[j]? = some (i, x) → (parts.map fun (i, x) => (i, a.eval x)).toList[j]? = some (i', y) → i = i' ∧ VR m x y := by
   intro j i i' x y hx hy
   simp only [List.getElem?_map, Array.toList_map] at hx hy
   cases hj : parts.toList[j]? with
   | none => simp [hj] at hx
   | some p =>
    simp only [hj, Option.map_some, Option.some.injEq, Prod.mk.injEq] at hx hy
    obtain ⟨rfl, rfl⟩ := hx
    obtain ⟨rfl, rfl⟩ := hy
    exact ⟨rfl, hf.ev p.2⟩
  obtain ⟨v', w', E, h1, h2⟩ := Jv (P := P) w (by simp) hp h
  exact lift ⟨v', w', E, h1, h2⟩
 | convert s d x =>
  simp only [Mq] at h
  obtain ⟨v', w', E, h1, h2⟩ := OP (P := P) w (hf.ev x) h
  exact lift ⟨v', w', E, h1, h2⟩
 | makeMap t r =>
  cases r with
  | some r => simp [Mq] at h
  | none =>
   simp only [Mq, Option.some.injEq] at h
   subst h
   refine lift ⟨.map (some w.heap.size), w.alloc (.map #[] 0), ⟨w.heap.size, 0, 0, 0⟩, by simp [Instr.makeMap], Ch.alloc w _ _, rfl, by simp, fun m' hm id hid => ⟨VR.map id _ hid, rfl, fun _ => IM.of ⟨#[], 0, heap_alloc_new w _, rfl, fun i k v e h => by simp at h, Fu.nil⟩ (by decide)⟩⟩
 | makeSlice t l c =>
  simp only [Mq] at h
  obtain ⟨v', w', E, h1, h2⟩ := KE (P := P) w (hf.ev l) (hf.ev c) h
  exact lift ⟨v', w', E, h1, h2⟩
 | makeChan t n =>
  simp only [Mq] at h
  split at h
  ·rename_i dir e k n0 hu hx
   split at h
   ·rename_i i hi
    split at h
    ·rename_i hb
     injection h with h
     subst h
     have hv := hf.ev n
     rw [hx] at hv
     have hv := hv.B5
     have hn : n0 = ((n0.toNat : Nat) : Int) := by omega
     refine lift ⟨.chan (some w.heap.size), w.alloc (.chan n0.toNat #[] false 0 0 false), ⟨w.heap.size, 0, 0, 0⟩, ?_, Ch.alloc w _ _, rfl, by simp, fun m' hm id hid => ⟨VR.chan id _ hid, #[], 0, 0, heap_alloc_new w _, .nil _⟩⟩
     have n1 : ¬ (n0 < 0) := by omega
     have n2 : ¬ (9223372036854775807 < n0) := by omega
     have n3 : ¬ (281474976710544 < (i.bytes : Int) * n0) := by omega
     simp [Instr.makeChan, hv, asInt, asIntOf, run_underlying hu, typeInfo, hi, n1, n2, n3, IntKind.max, IntKind.bits, IntKind.signed]
    ·cases h
   ·cases h
  ·cases h
 | range t x =>
  simp only [Mq] at h
  split at h
  ·rename_i s hu hx
   injection h with h
   subst h
   have hv := hf.ev x
   rw [hx] at hv
   have hv := hv.B9
   refine lift ⟨.pointer (some ⟨w.heap.size, 0, none⟩), w.alloc (.stringIter ⟨⟨s⟩⟩ 0), ⟨w.heap.size, 0, 0, 0⟩, by simp [Instr.range, AK w hu, hv], Ch.alloc w _ _, rfl, by simp, fun m' hm id hid => ⟨by simpa using VR.ptr (m := m') id 0 _ hid, rfl, heap_alloc_new w _⟩⟩
  ·cases h
 | _ => simp [Mq] at h
end
end Go.Av
