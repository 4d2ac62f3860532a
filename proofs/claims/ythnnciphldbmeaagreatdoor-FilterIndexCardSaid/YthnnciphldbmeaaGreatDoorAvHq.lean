/-
  AV: steps joined with what they read, write or call; things that are written, called with and set aside, by their places.
-/
import Derived.Test.YthnnciphldbmeaaGreatDoorAvTy
import Derived.Test.YthnnciphldbmeaaGreatDoorAvCo
namespace Go.Av
set_option linter.unusedVariables false
set_option linter.unusedSimpArgs false
section
variable {g : Gd} {h h' : AH} {L F : List Ck}
theorem HH.EX (a : HH g h L F) (b : HH g h' [] (List.append L F)) : HH g h' L F := a.CY (n := 0) b
theorem HH.X0 {pr : List Nat} (a : HH g h L F) (b : HH ⟨g.floor, List.append pr g.Bq⟩ h' [] (List.append L F)) : HH g h' L F := a.VA (n := 0) b
theorem HH.YL {c0' : Ck} (a : HH g h L F) (b : HH g h' [c0'] (List.append L F)) : HH g h' (c0' :: L) F := a.CY (n := 0) b
theorem HH.YE {c0' c1' : Ck} (a : HH g h L F) (b : HH g h' [c0', c1'] (List.append L F)) : HH g h' (c0' :: c1' :: L) F := a.CY (n := 0) b
theorem HH.ZI {c0' c1' c2' : Ck} (a : HH g h L F) (b : HH g h' [c0', c1', c2'] (List.append L F)) : HH g h' (c0' :: c1' :: c2' :: L) F := a.CY (n := 0) b
theorem HH.g11 {c0 c0' : Ck} (a : HH g h (c0 :: L) F) (b : HH g h' [c0'] (List.append L F)) : HH g h' (c0' :: L) F := a.CY (n := 1) b
theorem HH.YO {c0 c0' : Ck} {pr : List Nat} (a : HH g h (c0 :: L) F) (b : HH ⟨g.floor, List.append pr g.Bq⟩ h' [c0'] (List.append L F)) : HH g h' (c0' :: L) F := a.VA (n := 1) b
theorem HH.g12 {c0 c0' c1' : Ck} (a : HH g h (c0 :: L) F) (b : HH g h' [c0', c1'] (List.append L F)) : HH g h' (c0' :: c1' :: L) F := a.CY (n := 1) b
theorem HH.g13 {c0 c0' c1' c2' : Ck} (a : HH g h (c0 :: L) F) (b : HH g h' [c0', c1', c2'] (List.append L F)) : HH g h' (c0' :: c1' :: c2' :: L) F := a.CY (n := 1) b
theorem HH.g22 {c0 c1 c0' c1' : Ck} (a : HH g h (c0 :: c1 :: L) F) (b : HH g h' [c0', c1'] (List.append L F)) : HH g h' (c0' :: c1' :: L) F := a.CY (n := 2) b
theorem HH.ZL {c0 c1 c0' c1' : Ck} {pr : List Nat} (a : HH g h (c0 :: c1 :: L) F) (b : HH ⟨g.floor, List.append pr g.Bq⟩ h' [c0', c1'] (List.append L F)) : HH g h' (c0' :: c1' :: L) F := a.VA (n := 2) b
theorem HH.g23 {c0 c1 c0' c1' c2' : Ck} (a : HH g h (c0 :: c1 :: L) F) (b : HH g h' [c0', c1', c2'] (List.append L F)) : HH g h' (c0' :: c1' :: c2' :: L) F := a.CY (n := 2) b
theorem HH.d0 (a : HH g h L F) : HH g h [] F := a.JS 0
theorem HH.d1 {c0 : Ck} (a : HH g h (c0 :: L) F) : HH g h [c0] F := a.JS 1
theorem HH.d2 {c0 c1 : Ck} (a : HH g h (c0 :: c1 :: L) F) : HH g h [c0, c1] F := a.JS 2
theorem HH.d5 {c0 c1 c2 c3 c4 : Ck} (a : HH g h (c0 :: c1 :: c2 :: c3 :: c4 :: L) F) : HH g h [c0, c1, c2, c3, c4] F := a.JS 5
theorem HH.d8 {c0 c1 c2 c3 c4 c5 c6 c7 : Ck} (a : HH g h (c0 :: c1 :: c2 :: c3 :: c4 :: c5 :: c6 :: c7 :: L) F) : HH g h [c0, c1, c2, c3, c4, c5, c6, c7] F := a.JS 8
theorem HH.s0 {id : Nat} {gr : Option TypeId} {cs : List AA} (a : HH g h (.obj id (.cells gr 2 cs) :: L) F) (o : Nat) (new ds : List AA) (hd : Dh cs o new = ds := by rfl) (hl : o + new.length ≤ cs.length := by exact Nat.le_of_ble_eq_true rfl) (h1 : new.all AA.one = true := by rfl) : ∃ h', Av.st g h (id, o) new = some h' ∧ HH g h' (.obj id (.cells gr 2 ds) :: L) F := a.st 0 rfl hl h1 hd
theorem HH.s1 {c0 : Ck} {id : Nat} {gr : Option TypeId} {cs : List AA} (a : HH g h (c0 :: .obj id (.cells gr 2 cs) :: L) F) (o : Nat) (new ds : List AA) (hd : Dh cs o new = ds := by rfl) (hl : o + new.length ≤ cs.length := by exact Nat.le_of_ble_eq_true rfl) (h1 : new.all AA.one = true := by rfl) : ∃ h', Av.st g h (id, o) new = some h' ∧ HH g h' (c0 :: .obj id (.cells gr 2 ds) :: L) F := a.st 1 rfl hl h1 hd
theorem HH.s2 {c0 c1 : Ck} {id : Nat} {gr : Option TypeId} {cs : List AA} (a : HH g h (c0 :: c1 :: .obj id (.cells gr 2 cs) :: L) F) (o : Nat) (new ds : List AA) (hd : Dh cs o new = ds := by rfl) (hl : o + new.length ≤ cs.length := by exact Nat.le_of_ble_eq_true rfl) (h1 : new.all AA.one = true := by rfl) : ∃ h', Av.st g h (id, o) new = some h' ∧ HH g h' (c0 :: c1 :: .obj id (.cells gr 2 ds) :: L) F := a.st 2 rfl hl h1 hd
theorem HH.s3 {c0 c1 c2 : Ck} {id : Nat} {gr : Option TypeId} {cs : List AA} (a : HH g h (c0 :: c1 :: c2 :: .obj id (.cells gr 2 cs) :: L) F) (o : Nat) (new ds : List AA) (hd : Dh cs o new = ds := by rfl) (hl : o + new.length ≤ cs.length := by exact Nat.le_of_ble_eq_true rfl) (h1 : new.all AA.one = true := by rfl) : ∃ h', Av.st g h (id, o) new = some h' ∧ HH g h' (c0 :: c1 :: c2 :: .obj id (.cells gr 2 ds) :: L) F := a.st 3 rfl hl h1 hd
theorem HH.s4 {c0 c1 c2 c3 : Ck} {id : Nat} {gr : Option TypeId} {cs : List AA} (a : HH g h (c0 :: c1 :: c2 :: c3 :: .obj id (.cells gr 2 cs) :: L) F) (o : Nat) (new ds : List AA) (hd : Dh cs o new = ds := by rfl) (hl : o + new.length ≤ cs.length := by exact Nat.le_of_ble_eq_true rfl) (h1 : new.all AA.one = true := by rfl) : ∃ h', Av.st g h (id, o) new = some h' ∧ HH g h' (c0 :: c1 :: c2 :: c3 :: .obj id (.cells gr 2 ds) :: L) F := a.st 4 rfl hl h1 hd
theorem HH.s5 {c0 c1 c2 c3 c4 : Ck} {id : Nat} {gr : Option TypeId} {cs : List AA} (a : HH g h (c0 :: c1 :: c2 :: c3 :: c4 :: .obj id (.cells gr 2 cs) :: L) F) (o : Nat) (new ds : List AA) (hd : Dh cs o new = ds := by rfl) (hl : o + new.length ≤ cs.length := by exact Nat.le_of_ble_eq_true rfl) (h1 : new.all AA.one = true := by rfl) : ∃ h', Av.st g h (id, o) new = some h' ∧ HH g h' (c0 :: c1 :: c2 :: c3 :: c4 :: .obj id (.cells gr 2 ds) :: L) F := a.st 5 rfl hl h1 hd
theorem HH.s6 {c0 c1 c2 c3 c4 c5 : Ck} {id : Nat} {gr : Option TypeId} {cs : List AA} (a : HH g h (c0 :: c1 :: c2 :: c3 :: c4 :: c5 :: .obj id (.cells gr 2 cs) :: L) F) (o : Nat) (new ds : List AA) (hd : Dh cs o new = ds := by rfl) (hl : o + new.length ≤ cs.length := by exact Nat.le_of_ble_eq_true rfl) (h1 : new.all AA.one = true := by rfl) : ∃ h', Av.st g h (id, o) new = some h' ∧ HH g h' (c0 :: c1 :: c2 :: c3 :: c4 :: c5 :: .obj id (.cells gr 2 ds) :: L) F := a.st 6 rfl hl h1 hd
theorem HH.s7 {c0 c1 c2 c3 c4 c5 c6 : Ck} {id : Nat} {gr : Option TypeId} {cs : List AA} (a : HH g h (c0 :: c1 :: c2 :: c3 :: c4 :: c5 :: c6 :: .obj id (.cells gr 2 cs) :: L) F) (o : Nat) (new ds : List AA) (hd : Dh cs o new = ds := by rfl) (hl : o + new.length ≤ cs.length := by exact Nat.le_of_ble_eq_true rfl) (h1 : new.all AA.one = true := by rfl) : ∃ h', Av.st g h (id, o) new = some h' ∧ HH g h' (c0 :: c1 :: c2 :: c3 :: c4 :: c5 :: c6 :: .obj id (.cells gr 2 ds) :: L) F := a.st 7 rfl hl h1 hd
theorem HH.s8 {c0 c1 c2 c3 c4 c5 c6 c7 : Ck} {id : Nat} {gr : Option TypeId} {cs : List AA} (a : HH g h (c0 :: c1 :: c2 :: c3 :: c4 :: c5 :: c6 :: c7 :: .obj id (.cells gr 2 cs) :: L) F) (o : Nat) (new ds : List AA) (hd : Dh cs o new = ds := by rfl) (hl : o + new.length ≤ cs.length := by exact Nat.le_of_ble_eq_true rfl) (h1 : new.all AA.one = true := by rfl) : ∃ h', Av.st g h (id, o) new = some h' ∧ HH g h' (c0 :: c1 :: c2 :: c3 :: c4 :: c5 :: c6 :: c7 :: .obj id (.cells gr 2 ds) :: L) F := a.st 8 rfl hl h1 hd
theorem HH.YK (a : HH g h L F) : ∀ (ks : List Nat) (M : List Ck), ks.Nodup → ks.map (fun k => L[k]?) = M.map some → (CA (M ++ F)).Nodup := by
 intro ks
 induction ks with
 | nil =>
  intro M _ he
  cases M with
  | nil =>
   have := a.nd
   rw [CH] at this
   exact (List.nodup_append.1 this).2.1
  | cons c M => simp at he
 | cons k ks ih =>
  intro M hn he
  cases M with
  | nil => simp at he
  | cons c M =>
   simp only [List.map_cons, List.cons.injEq] at he
   have hd := (a.front k he.1).nd
   have e : CA (c :: L.eraseIdx k ++ F) = c.ids ++ CA (L.eraseIdx k ++ F) := by simp [CA]
   have e2 : CA (c :: M ++ F) = c.ids ++ CA (M ++ F) := by simp [CA]
   rw [e] at hd
   rw [e2]
   refine List.nodup_append.2 ⟨(List.nodup_append.1 hd).1, ih M (List.nodup_cons.1 hn).2 he.2, fun i hi j hj => ?_⟩
   refine (List.nodup_append.1 hd).2.2 i hi j ?_
   simp only [CA, List.mem_flatMap] at hj ⊢
   obtain ⟨d, hd, hj⟩ := hj
   refine ⟨d, ?_, hj⟩
   rcases List.mem_append.1 hd with hd | hd
   ·refine List.mem_append.2 (.inl ?_)
    have hm : some d ∈ M.map some := List.mem_map.2 ⟨d, hd, rfl⟩
    rw [← he.2] at hm
    obtain ⟨x, hx, hxd⟩ := List.mem_map.1 hm
    exact List.mem_eraseIdx_iff_getElem?.2 ⟨x, fun e => (List.nodup_cons.1 hn).1 (e ▸ hx), hxd⟩
   ·exact List.mem_append.2 (.inr hd)
theorem HH.pick (a : HH g h L F) (ks : List Nat) (M : List Ck) (hn : ks.Nodup) (he : ks.map (fun k => L[k]?) = M.map some) : HH g h M F := by
 have hm : ∀ c ∈ M, c ∈ L := fun c hc => by
  have hm : some c ∈ M.map some := List.mem_map.2 ⟨c, hc, rfl⟩
  rw [← he] at hm
  obtain ⟨x, hx, hxd⟩ := List.mem_map.1 hm
  exact List.mem_of_getElem? hxd
 refine ⟨fun c hc => a.ok c ?_, a.YK ks M hn he, fun i hi => a.may i ?_, a.Bq, a.floor⟩
 ·rcases List.mem_append.1 hc with h | h
  ·exact List.mem_append.2 (.inl (hm c h))
  ·exact List.mem_append.2 (.inr h)
 ·simp only [CA, List.mem_flatMap] at hi ⊢
  obtain ⟨c, hc, hi⟩ := hi
  exact ⟨c, hm c hc, hi⟩
theorem HH.k1 (a : HH g h L F) (i0 : Nat) {c0 : Ck} (e0 : L[i0]? = some c0 := by rfl) (hd : [i0].Nodup := by decide) : HH g h [c0] F := a.pick [i0] [c0] hd (by simp only [List.map, e0])
theorem HH.k2 (a : HH g h L F) (i0 i1 : Nat) {c0 c1 : Ck} (e0 : L[i0]? = some c0 := by rfl) (e1 : L[i1]? = some c1 := by rfl) (hd : [i0, i1].Nodup := by decide) : HH g h [c0, c1] F := a.pick [i0, i1] [c0, c1] hd (by simp only [List.map, e0, e1])
theorem HH.k3 (a : HH g h L F) (i0 i1 i2 : Nat) {c0 c1 c2 : Ck} (e0 : L[i0]? = some c0 := by rfl) (e1 : L[i1]? = some c1 := by rfl) (e2 : L[i2]? = some c2 := by rfl) (hd : [i0, i1, i2].Nodup := by decide) : HH g h [c0, c1, c2] F := a.pick [i0, i1, i2] [c0, c1, c2] hd (by simp only [List.map, e0, e1, e2])
theorem HH.k4 (a : HH g h L F) (i0 i1 i2 i3 : Nat) {c0 c1 c2 c3 : Ck} (e0 : L[i0]? = some c0 := by rfl) (e1 : L[i1]? = some c1 := by rfl) (e2 : L[i2]? = some c2 := by rfl) (e3 : L[i3]? = some c3 := by rfl) (hd : [i0, i1, i2, i3].Nodup := by decide) : HH g h [c0, c1, c2, c3] F := a.pick [i0, i1, i2, i3] [c0, c1, c2, c3] hd (by simp only [List.map, e0, e1, e2, e3])
theorem HH.k5 (a : HH g h L F) (i0 i1 i2 i3 i4 : Nat) {c0 c1 c2 c3 c4 : Ck} (e0 : L[i0]? = some c0 := by rfl) (e1 : L[i1]? = some c1 := by rfl) (e2 : L[i2]? = some c2 := by rfl) (e3 : L[i3]? = some c3 := by rfl) (e4 : L[i4]? = some c4 := by rfl) (hd : [i0, i1, i2, i3, i4].Nodup := by decide) : HH g h [c0, c1, c2, c3, c4] F := a.pick [i0, i1, i2, i3, i4] [c0, c1, c2, c3, c4] hd (by simp only [List.map, e0, e1, e2, e3, e4])
theorem HH.k6 (a : HH g h L F) (i0 i1 i2 i3 i4 i5 : Nat) {c0 c1 c2 c3 c4 c5 : Ck} (e0 : L[i0]? = some c0 := by rfl) (e1 : L[i1]? = some c1 := by rfl) (e2 : L[i2]? = some c2 := by rfl) (e3 : L[i3]? = some c3 := by rfl) (e4 : L[i4]? = some c4 := by rfl) (e5 : L[i5]? = some c5 := by rfl) (hd : [i0, i1, i2, i3, i4, i5].Nodup := by decide) : HH g h [c0, c1, c2, c3, c4, c5] F := a.pick [i0, i1, i2, i3, i4, i5] [c0, c1, c2, c3, c4, c5] hd (by simp only [List.map, e0, e1, e2, e3, e4, e5])
theorem HH.k7 (a : HH g h L F) (i0 i1 i2 i3 i4 i5 i6 : Nat) {c0 c1 c2 c3 c4 c5 c6 : Ck} (e0 : L[i0]? = some c0 := by rfl) (e1 : L[i1]? = some c1 := by rfl) (e2 : L[i2]? = some c2 := by rfl) (e3 : L[i3]? = some c3 := by rfl) (e4 : L[i4]? = some c4 := by rfl) (e5 : L[i5]? = some c5 := by rfl) (e6 : L[i6]? = some c6 := by rfl) (hd : [i0, i1, i2, i3, i4, i5, i6].Nodup := by decide) : HH g h [c0, c1, c2, c3, c4, c5, c6] F := a.pick [i0, i1, i2, i3, i4, i5, i6] [c0, c1, c2, c3, c4, c5, c6] hd (by simp only [List.map, e0, e1, e2, e3, e4, e5, e6])
theorem HH.k8 (a : HH g h L F) (i0 i1 i2 i3 i4 i5 i6 i7 : Nat) {c0 c1 c2 c3 c4 c5 c6 c7 : Ck} (e0 : L[i0]? = some c0 := by rfl) (e1 : L[i1]? = some c1 := by rfl) (e2 : L[i2]? = some c2 := by rfl) (e3 : L[i3]? = some c3 := by rfl) (e4 : L[i4]? = some c4 := by rfl) (e5 : L[i5]? = some c5 := by rfl) (e6 : L[i6]? = some c6 := by rfl) (e7 : L[i7]? = some c7 := by rfl) (hd : [i0, i1, i2, i3, i4, i5, i6, i7].Nodup := by decide) : HH g h [c0, c1, c2, c3, c4, c5, c6, c7] F := a.pick [i0, i1, i2, i3, i4, i5, i6, i7] [c0, c1, c2, c3, c4, c5, c6, c7] hd (by simp only [List.map, e0, e1, e2, e3, e4, e5, e6, e7])
theorem HH.k9 (a : HH g h L F) (i0 i1 i2 i3 i4 i5 i6 i7 i8 : Nat) {c0 c1 c2 c3 c4 c5 c6 c7 c8 : Ck} (e0 : L[i0]? = some c0 := by rfl) (e1 : L[i1]? = some c1 := by rfl) (e2 : L[i2]? = some c2 := by rfl) (e3 : L[i3]? = some c3 := by rfl) (e4 : L[i4]? = some c4 := by rfl) (e5 : L[i5]? = some c5 := by rfl) (e6 : L[i6]? = some c6 := by rfl) (e7 : L[i7]? = some c7 := by rfl) (e8 : L[i8]? = some c8 := by rfl) (hd : [i0, i1, i2, i3, i4, i5, i6, i7, i8].Nodup := by decide) : HH g h [c0, c1, c2, c3, c4, c5, c6, c7, c8] F := a.pick [i0, i1, i2, i3, i4, i5, i6, i7, i8] [c0, c1, c2, c3, c4, c5, c6, c7, c8] hd (by simp only [List.map, e0, e1, e2, e3, e4, e5, e6, e7, e8])
theorem HH.pu (a : HH g h L F) (o : Bz) : ∃ h', h' = h.push o ∧ HH g h' (.obj h.size o :: L) F := ⟨_, rfl, a.push o⟩
theorem HH.pL (a : HH g h L F) (e : TypeId) (cs : List AA) : ∃ h', h' = h.push (.cells (some e) 2 cs) ∧ HH g h' (.AI (some h.size) e cs :: L) F := ⟨_, rfl, a.Ws e cs⟩
theorem HH.la (a : HH g h L F) (k o n : Nat) {id : Nat} {gr : Option TypeId} {cs ds : List AA} (hk : L[k]? = some (.obj id (.cells gr 2 cs)) := by rfl) (hd : o + n ≤ cs.length ∧ (cs.drop o).take n = ds := by exact ⟨Nat.le_of_ble_eq_true rfl, rfl⟩) : Av.HG h (id, o) n = some ds := a.HG k hk hd
theorem HH.l1 (a : HH g h L F) (k o : Nat) {id : Nat} {gr : Option TypeId} {cs : List AA} {v : AA} (hk : L[k]? = some (.obj id (.cells gr 2 cs)) := by rfl) (hv : cs[o]? = some v := by rfl) : Av.OI h (id, o) = some v := a.OI k hk hv
end
section
variable {C : Hc} {f : FuncId} {g : Gd} {ops : Array Oper} {tch : List (Nat × Nat)} {fr : Fr} {h h1 : AH} {K : Fr → AH → Prop} {N : Nat} {l : List (Nat × AA)} {i : Nat} {pl : List (Nat × List Nat)} {v : AA} {L F : List Ck}
theorem Has.kn (H : Has fr N l) (d : Nat) {b w : Bool} (hb : b = w) (hd : P5 l d = some (.bool b) := by kernel_rfl) : Has fr N (TI l d (.bool w)) := H.XE d hb hd
theorem rH {P : Program} {rs : List ResultVar} (H : Has fr N l) (hr : ∀ fr, Lv P rs (Cz N l fr) h = some v := by intro _; kernel_rfl) : Lv P rs fr h = some v := Ys H hr
theorem rT {t : Nat} (H : Has fr N l) (hr : ∀ fr, nth (Cz N l fr) t = v := by intro _; kernel_rfl) : nth fr t = v := Y2 H hr
theorem Dr {args args' : List AA} (n : Nat) (rs : List ResultVar) {R : AA → AH → Prop} (hc : BF (C.still f) args = args') (hh : AW C f g (L2 C.P f) (args' ++ List.replicate (n - args'.length) (.tuple [])) h (fun e fr h' => (e = .ret ∨ e = .normal) ∧ ∃ v, Lv C.P rs fr h' = some v ∧ R v h')) (hk : C.kind f = 1 := by kernel_rfl) (hf : IK C.P f = some (n, rs) := by kernel_rfl) : ∃ v h', BL C g h f args v h' ∧ R v h' := XS hk hc hf hh
theorem Xk {args args' : List AA} (n : Nat) (rs : List ResultVar) {R : AA → AH → Prop} (hc : BF (C.still f) args = args') (hh : AW C f g (L2 C.P f) (args' ++ List.replicate (n - args'.length) (.tuple [])) h (fun e fr h' => (e = .ret ∨ e = .normal) ∧ ∃ v, Lv C.P rs fr h' = some v ∧ ∃ v' h'', Pk g h' v = some (v', h'') ∧ R v' h'')) (hk : C.kind f = 7 := by kernel_rfl) (hf : IK C.P f = some (n, rs) := by kernel_rfl) : ∃ v h', BL C g h f args v h' ∧ R v h' := XG hk hc hf hh
theorem Y3 {args args' : List AA} (n : Nat) (rs : List ResultVar) {R : AA → AH → Prop} (hc : BF (C.still f) args = args') (hh : AW C f g (L2 C.P f) (args' ++ List.replicate (n - args'.length) (.tuple [])) h (fun e fr h' => (e = .ret ∨ e = .normal) ∧ ∃ v, Lv C.P rs fr h' = some v ∧ ∃ v' h'', SW g h' v = some (v', h'') ∧ R v' h'')) (hk : C.kind f = 9 := by kernel_rfl) (hf : IK C.P f = some (n, rs) := by kernel_rfl) : ∃ v h', BL C g h f args v h' ∧ R v h' := XT hk hc hf hh
theorem bg {args : List AA} {c : Code} {Q : C3 → Fr → AH → Prop} (n : Nat) (ins : List (Nat × AA)) (hh : ∀ fr, Has fr n ins → AW C f g c fr h Q) (hl : (args ++ List.replicate (n - args.length) (AA.tuple [])).length = n := by kernel_rfl) (hi : ins.map (fun p => nth (args ++ List.replicate (n - args.length) (AA.tuple [])) p.1) = ins.map (·.2) := by kernel_rfl) : AW C f g c (args ++ List.replicate (n - args.length) (.tuple [])) h Q := start ins hl hi hh
theorem Ag (k : Nat) (nw : List (Nat × AA)) (d : Nat) (j o : Nat) (A : HH g h L F) {id : Nat} {gr : Option TypeId} {cs : List AA} (H : Has fr N l) (hn : ∀ fr' t, Has fr' N (((d, v) :: List.append nw l)) → AT C g ops (pl.drop (k + 1)) t fr' h K) (hj : L[j]? = some (.obj id (.cells gr 2 cs)) := by rfl) (hv : cs[o]? = some v := by rfl) (hsp : ∀ fr, NU C.P (N7 C.P ops (EU (pl.take k)) (Cz N l fr)) (Nx ops (Gx pl k)) = some ((id, o), none) := by intro _; kernel_rfl) (hk : ∀ fr, (Pg pl k && (Sd (pl.take k) && (Ex ops l (EU (pl.take k)) && (Hm d l && (Hm d nw && Nat.blt d N)))), (Gf C.P ops (EU (pl.take k)) (Cz N l fr)).map (fun x => (runs ops x (Gx pl k), HF ops (Gx pl k), nw.map (fun p => nth x p.1)))) = (true, some (true, some d, nw.map (·.2))) := by intro _; kernel_rfl) : AT C g ops pl tch fr h K := Ap k nw d v h H (fun fr => .of (Da (hsp fr) (A.OI j hj hv))) hn hk
theorem FK (d : Nat) (j o : Nat) (A : HH g h L F) {id : Nat} {gr : Option TypeId} {cs : List AA} (H : Has fr N l) (hn : ∀ fr' t, Has fr' N ((d, v) :: l) → AT C g ops pl t fr' h K) (hj : L[j]? = some (.obj id (.cells gr 2 cs)) := by rfl) (hv : cs[o]? = some v := by rfl) (hsp : ∀ fr, NU C.P (Cz N l fr) (Nx ops i) = some ((id, o), none) := by intro _; kernel_rfl) (hw : ∀ fr, (runs ops (Cz N l fr) i, HF ops i, Nat.blt d N, Hm d l) = (true, some d, true, true) := by intro _; kernel_rfl) : AT C g ops ((i, []) :: pl) tch fr h K := Aq d v h H (fun fr => .of (Da (hsp fr) (A.OI j hj hv))) hn hw
theorem Qk (k : Nat) (nw : List (Nat × AA)) {f' : FuncId} {args : List AA} (hr : BL C g h f' args v h1) (H : Has fr N l) (hn : ∀ fr' t, Has fr' N ((List.append nw l)) → AT C g ops (pl.drop (k + 1)) t fr' h1 K) (hsp : ∀ fr, MQ (N7 C.P ops (EU (pl.take k)) (Cz N l fr)) (Nx ops (Gx pl k)) = some (f', args) := by intro _; kernel_rfl) (hk : ∀ fr, (Pg pl k && (Sd (pl.take k) && (Ex ops l (EU (pl.take k)) && (ID ops (Gx pl k) l && ID ops (Gx pl k) nw))), (Gf C.P ops (EU (pl.take k)) (Cz N l fr)).map (fun x => (runs ops x (Gx pl k), nw.map (fun p => nth x p.1)))) = (true, some (true, nw.map (·.2))) := by intro _; kernel_rfl) : AT C g ops pl tch fr h K := Vl k nw _ h1 H (fun fr => Steps.call (hsp fr) hr) hn hk
theorem A0 (k : Nat) (nw : List (Nat × AA)) (d : Nat) {f' : FuncId} {args : List AA} (hr : BL C g h f' args v h1) (H : Has fr N l) (hn : ∀ fr' t, Has fr' N (((d, v) :: List.append nw l)) → AT C g ops (pl.drop (k + 1)) t fr' h1 K) (hsp : ∀ fr, MQ (N7 C.P ops (EU (pl.take k)) (Cz N l fr)) (Nx ops (Gx pl k)) = some (f', args) := by intro _; kernel_rfl) (hk : ∀ fr, (Pg pl k && (Sd (pl.take k) && (Ex ops l (EU (pl.take k)) && (Hm d l && (Hm d nw && Nat.blt d N)))), (Gf C.P ops (EU (pl.take k)) (Cz N l fr)).map (fun x => (runs ops x (Gx pl k), HF ops (Gx pl k), nw.map (fun p => nth x p.1)))) = (true, some (true, some d, nw.map (·.2))) := by intro _; kernel_rfl) : AT C g ops pl tch fr h K := Ap k nw d v h1 H (fun fr => Steps.call (hsp fr) hr) hn hk
theorem Ue {f' : FuncId} {args : List AA} (hr : BL C g h f' args v h1) (H : Has fr N l) (hn : ∀ fr' t, Has fr' N l → AT C g ops pl t fr' h1 K) (hsp : ∀ fr, MQ (Cz N l fr) (Nx ops i) = some (f', args) := by intro _; kernel_rfl) (hw : ∀ fr, (runs ops (Cz N l fr) i, ID ops i l) = (true, true) := by intro _; kernel_rfl) : AT C g ops ((i, []) :: pl) tch fr h K := Mg _ h1 H (fun fr => Steps.call (hsp fr) hr) hn hw
theorem BA (d : Nat) {f' : FuncId} {args : List AA} (hr : BL C g h f' args v h1) (H : Has fr N l) (hn : ∀ fr' t, Has fr' N ((d, v) :: l) → AT C g ops pl t fr' h1 K) (hsp : ∀ fr, MQ (Cz N l fr) (Nx ops i) = some (f', args) := by intro _; kernel_rfl) (hw : ∀ fr, (runs ops (Cz N l fr) i, HF ops i, Nat.blt d N, Hm d l) = (true, some d, true, true) := by intro _; kernel_rfl) : AT C g ops ((i, []) :: pl) tch fr h K := Aq d v h1 H (fun fr => Steps.call (hsp fr) hr) hn hw
theorem KB (k : Nat) (nw : List (Nat × AA)) (d : Nat) (v : AA) {ob : Bz} (e : h1 = h.push ob) (H : Has fr N l) (hn : ∀ fr' t, Has fr' N (((d, v) :: List.append nw l)) → AT C g ops (pl.drop (k + 1)) t fr' h1 K) (hsp : ∀ fr, YS C.P (N7 C.P ops (EU (pl.take k)) (Cz N l fr)) (Nx ops (Gx pl k)) h.size = some (v, ob) := by intro _; kernel_rfl) (hk : ∀ fr, (Pg pl k && (Sd (pl.take k) && (Ex ops l (EU (pl.take k)) && (Hm d l && (Hm d nw && Nat.blt d N)))), (Gf C.P ops (EU (pl.take k)) (Cz N l fr)).map (fun x => (runs ops x (Gx pl k), HF ops (Gx pl k), nw.map (fun p => nth x p.1)))) = (true, some (true, some d, nw.map (·.2))) := by intro _; kernel_rfl) : AT C g ops pl tch fr h K := Ap k nw d v h1 H (fun fr => .of (VT (hsp fr) (congrArg some e.symm))) hn hk
theorem BB (d : Nat) (v : AA) {ob : Bz} (e : h1 = h.push ob) (H : Has fr N l) (hn : ∀ fr' t, Has fr' N ((d, v) :: l) → AT C g ops pl t fr' h1 K) (hsp : ∀ fr, YS C.P (Cz N l fr) (Nx ops i) h.size = some (v, ob) := by intro _; kernel_rfl) (hw : ∀ fr, (runs ops (Cz N l fr) i, HF ops i, Nat.blt d N, Hm d l) = (true, some d, true, true) := by intro _; kernel_rfl) : AT C g ops ((i, []) :: pl) tch fr h K := Aq d v h1 H (fun fr => .of (VT (hsp fr) (congrArg some e.symm))) hn hw
theorem FJ (k : Nat) (nw : List (Nat × AA)) {a : Nat × Nat} {v : AA} (hx : Av.st g h a [v] = some h1) (H : Has fr N l) (hn : ∀ fr' t, Has fr' N ((List.append nw l)) → AT C g ops (pl.drop (k + 1)) t fr' h1 K) (hc : v.cells? = some [v] := by rfl) (hsp : ∀ fr, JL C.P (N7 C.P ops (EU (pl.take k)) (Cz N l fr)) (Nx ops (Gx pl k)) = some (a, 1, v) := by intro _; kernel_rfl) (hk : ∀ fr, (Pg pl k && (Sd (pl.take k) && (Ex ops l (EU (pl.take k)) && (ID ops (Gx pl k) l && ID ops (Gx pl k) nw))), (Gf C.P ops (EU (pl.take k)) (Cz N l fr)).map (fun x => (runs ops x (Gx pl k), nw.map (fun p => nth x p.1)))) = (true, some (true, nw.map (·.2))) := by intro _; kernel_rfl) : AT C g ops pl tch fr h K := Vl k nw _ h1 H (fun fr => .of (OU (hsp fr) hc hx)) hn hk
theorem GK {a : Nat × Nat} {v : AA} (hx : Av.st g h a [v] = some h1) (H : Has fr N l) (hn : ∀ fr' t, Has fr' N l → AT C g ops pl t fr' h1 K) (hc : v.cells? = some [v] := by rfl) (hsp : ∀ fr, JL C.P (Cz N l fr) (Nx ops i) = some (a, 1, v) := by intro _; kernel_rfl) (hw : ∀ fr, (runs ops (Cz N l fr) i, ID ops i l) = (true, true) := by intro _; kernel_rfl) : AT C g ops ((i, []) :: pl) tch fr h K := Mg _ h1 H (fun fr => .of (OU (hsp fr) hc hx)) hn hw
theorem Fk (k : Nat) (nw : List (Nat × AA)) {a : Nat × Nat} {n : Nat} {cs : List AA} (hx : Av.st g h a cs = some h1) (H : Has fr N l) (hn : ∀ fr' t, Has fr' N ((List.append nw l)) → AT C g ops (pl.drop (k + 1)) t fr' h1 K) (hl : cs.length = n := by rfl) (hsp : ∀ fr, JL C.P (N7 C.P ops (EU (pl.take k)) (Cz N l fr)) (Nx ops (Gx pl k)) = some (a, n, .agg cs) := by intro _; kernel_rfl) (hk : ∀ fr, (Pg pl k && (Sd (pl.take k) && (Ex ops l (EU (pl.take k)) && (ID ops (Gx pl k) l && ID ops (Gx pl k) nw))), (Gf C.P ops (EU (pl.take k)) (Cz N l fr)).map (fun x => (runs ops x (Gx pl k), nw.map (fun p => nth x p.1)))) = (true, some (true, nw.map (·.2))) := by intro _; kernel_rfl) : AT C g ops pl tch fr h K := Vl k nw _ h1 H (fun fr => .of (Tv (hsp fr) (RG hx hl))) hn hk
theorem F4 {a : Nat × Nat} {n : Nat} {cs : List AA} (hx : Av.st g h a cs = some h1) (H : Has fr N l) (hn : ∀ fr' t, Has fr' N l → AT C g ops pl t fr' h1 K) (hl : cs.length = n := by rfl) (hsp : ∀ fr, JL C.P (Cz N l fr) (Nx ops i) = some (a, n, .agg cs) := by intro _; kernel_rfl) (hw : ∀ fr, (runs ops (Cz N l fr) i, ID ops i l) = (true, true) := by intro _; kernel_rfl) : AT C g ops ((i, []) :: pl) tch fr h K := Mg _ h1 H (fun fr => .of (Tv (hsp fr) (RG hx hl))) hn hw
end
section
variable {C : Hc} {f : FuncId} {g : Gd} {ops : Array Oper} {tch : List (Nat × Nat)} {fr : Fr} {h : AH} {N : Nat} {l out : List (Nat × AA)} {c c' : Code} {Q Q' : C3 → Fr → AH → Prop}
theorem Bf (hK : AW C f g c' fr h Q' → Q .normal fr h) (hh : AW C f g c' fr h Q') (hs : shape c = .skip := by kernel_rfl) : AW C f g c fr h Q := OO hs (hK hh)
theorem Fh (n : Nat) (hK : AW C f g c' fr h Q' → Q .normal fr h) (hh : AT C g (opsOf c') (JW 0 n) [] fr h (fun fr' h' => Q' .normal fr' h')) (hs : shape c = .skip := by kernel_rfl) (hr : M5 c' n = true := by kernel_rfl) : AW C f g c fr h Q := OO hs (hK (Cy n hh hr))
theorem Ce (n : Nat) (hK : AW C f g c' fr h Q' → Q .normal fr h) (hh : AT C g (opsOf (left c')) (JW 0 n) [] fr h (fun fr' h' => M9 (fun fr h => AW C f g (right c') fr h Q') Q' .normal fr' h')) (hs : shape c = .skip := by kernel_rfl) (hq : shape c' = .seq := by kernel_rfl) (hr : M5 (left c') n = true := by kernel_rfl) : AW C f g c fr h Q := OO hs (hK (TG hq (Cy n hh hr)))
theorem BH {b w : Bool} (H : Has fr N l) (hb : b = w) (hx : b = w → ∀ fr, out.map (fun p => nth (Cz N l fr) p.1) = out.map (·.2) := by intro hb _; first | rfl | (rw [hb]; rfl)) : AT C g ops [] tch fr h (fun fr' h' => h = h' ∧ Has fr' N out) := at_nil ⟨rfl, H.less _ (hx hb)⟩
end
theorem nx {σ ρ : Type} {a : σ} {o : σ ⊕ ρ} {P : σ → Prop} (hm : some (.inl a) = some o) (h : P a) : ∃ s', o = .inl s' ∧ P s' := ⟨a, (Option.some.inj hm).symm, h⟩
theorem nr {σ ρ : Type} {a : ρ} {o : σ ⊕ ρ} {P : ρ → Prop} (hm : some (.inr a) = some o) (h : P a) : ∃ s', o = .inr s' ∧ P s' := ⟨a, (Option.some.inj hm).symm, h⟩
abbrev Ai (x : Int) : AA := .int .i64 x
abbrev Au (x : Int) : AA := .int .u64 x
abbrev Ab (x : Int) : AA := .int .u8 x
section
variable {C : Hc} {f : FuncId} {g : Gd} {ops : Array Oper} {tch : List (Nat × Nat)} {fr : Fr} {h : AH} {N : Nat} {l : List (Nat × AA)} {pl : List (Nat × List Nat)} {c : Code} {Q : C3 → Fr → AH → Prop}
theorem AO (k : Nat) (nw : List (Nat × AA)) (H : Has fr N l) (hh : ∀ fr', Has fr' N (List.append nw l) → AW C f g c fr' h Q)
  (hk : ∀ fr, (Sd pl, Nat.beq pl.length k, Ex ops l (EU pl), (Gf C.P ops (EU pl) (Cz N l fr)).map (fun x => nw.map (fun p => nth x p.1))) = (true, true, true, some (nw.map (·.2))) := by intro _; kernel_rfl) : AT C g ops pl tch fr h (fun fr h => AW C f g c fr h Q) := Wq k nw H (fun _ => id) hh hk
theorem Bc (k : Nat) (nw : List (Nat × AA)) (n : Nat) (H : Has fr N l) (hh : ∀ fr', Has fr' N (List.append nw l) → AT C g (opsOf (left c)) (JW 0 n) [] fr' h (fun fr' h' => M9 (fun fr h => AW C f g (right c) fr h Q) Q .normal fr' h'))
  (hk : ∀ fr, (Sd pl, Nat.beq pl.length k, Ex ops l (EU pl), (Gf C.P ops (EU pl) (Cz N l fr)).map (fun x => nw.map (fun p => nth x p.1))) = (true, true, true, some (nw.map (·.2))) := by intro _; kernel_rfl) (hs : shape c = .seq := by kernel_rfl) (hr : M5 (left c) n = true := by kernel_rfl) : AT C g ops pl tch fr h (fun fr h => AW C f g c fr h Q) := YP k nw n H (fun _ => id) hh hk hs hr
end
end Go.Av
