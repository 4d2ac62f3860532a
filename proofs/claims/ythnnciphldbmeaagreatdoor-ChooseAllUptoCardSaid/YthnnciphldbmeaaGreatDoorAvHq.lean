/-
  AV: steps joined with what they read, write or call; things that are written, called with and set aside, by their places.
-/
import Derived.Test.YthnnciphldbmeaaGreatDoorAvTy
import Derived.Test.YthnnciphldbmeaaGreatDoorAvCo
namespace Go.Av
set_option linter.unusedVariables false
set_option linter.unusedSimpArgs false
section
variable {g : Gd} {h h' : AH} {L F : List Ck}
theorem HH.EV (a : HH g h L F) (b : HH g h' [] (List.append L F)) : HH g h' L F := a.CL (n := 0) b
theorem HH.VX {pr : List Nat} (a : HH g h L F) (b : HH ⟨g.floor, List.append pr g.BU⟩ h' [] (List.append L F)) : HH g h' L F := a.OS (n := 0) b
theorem HH.XJ {c0' : Ck} (a : HH g h L F) (b : HH g h' [c0'] (List.append L F)) : HH g h' (c0' :: L) F := a.CL (n := 0) b
theorem HH.XM {c0' c1' : Ck} (a : HH g h L F) (b : HH g h' [c0', c1'] (List.append L F)) : HH g h' (c0' :: c1' :: L) F := a.CL (n := 0) b
theorem HH.YG {c0' c1' c2' : Ck} (a : HH g h L F) (b : HH g h' [c0', c1', c2'] (List.append L F)) : HH g h' (c0' :: c1' :: c2' :: L) F := a.CL (n := 0) b
theorem HH.g11 {c0 c0' : Ck} (a : HH g h (c0 :: L) F) (b : HH g h' [c0'] (List.append L F)) : HH g h' (c0' :: L) F := a.CL (n := 1) b
theorem HH.XK {c0 c0' : Ck} {pr : List Nat} (a : HH g h (c0 :: L) F) (b : HH ⟨g.floor, List.append pr g.BU⟩ h' [c0'] (List.append L F)) : HH g h' (c0' :: L) F := a.OS (n := 1) b
theorem HH.g22 {c0 c1 c0' c1' : Ck} (a : HH g h (c0 :: c1 :: L) F) (b : HH g h' [c0', c1'] (List.append L F)) : HH g h' (c0' :: c1' :: L) F := a.CL (n := 2) b
theorem HH.Xc {c0 c1 c0' c1' : Ck} {pr : List Nat} (a : HH g h (c0 :: c1 :: L) F) (b : HH ⟨g.floor, List.append pr g.BU⟩ h' [c0', c1'] (List.append L F)) : HH g h' (c0' :: c1' :: L) F := a.OS (n := 2) b
theorem HH.d0 (a : HH g h L F) : HH g h [] F := a.KS 0
theorem HH.d2 {c0 c1 : Ck} (a : HH g h (c0 :: c1 :: L) F) : HH g h [c0, c1] F := a.KS 2
theorem HH.d5 {c0 c1 c2 c3 c4 : Ck} (a : HH g h (c0 :: c1 :: c2 :: c3 :: c4 :: L) F) : HH g h [c0, c1, c2, c3, c4] F := a.KS 5
theorem HH.d6 {c0 c1 c2 c3 c4 c5 : Ck} (a : HH g h (c0 :: c1 :: c2 :: c3 :: c4 :: c5 :: L) F) : HH g h [c0, c1, c2, c3, c4, c5] F := a.KS 6
theorem HH.d8 {c0 c1 c2 c3 c4 c5 c6 c7 : Ck} (a : HH g h (c0 :: c1 :: c2 :: c3 :: c4 :: c5 :: c6 :: c7 :: L) F) : HH g h [c0, c1, c2, c3, c4, c5, c6, c7] F := a.KS 8
theorem HH.s0 {id : Nat} {gr : Option TypeId} {cs : List AA} (a : HH g h (.obj id (.cells gr 2 cs) :: L) F) (o : Nat) (new ds : List AA) (hd : DY cs o new = ds := by rfl) (hl : o + new.length ≤ cs.length := by exact Nat.le_of_ble_eq_true rfl) (h1 : new.all AA.one = true := by rfl) : ∃ h', Av.st g h (id, o) new = some h' ∧ HH g h' (.obj id (.cells gr 2 ds) :: L) F := a.st 0 rfl hl h1 hd
theorem HH.s1 {c0 : Ck} {id : Nat} {gr : Option TypeId} {cs : List AA} (a : HH g h (c0 :: .obj id (.cells gr 2 cs) :: L) F) (o : Nat) (new ds : List AA) (hd : DY cs o new = ds := by rfl) (hl : o + new.length ≤ cs.length := by exact Nat.le_of_ble_eq_true rfl) (h1 : new.all AA.one = true := by rfl) : ∃ h', Av.st g h (id, o) new = some h' ∧ HH g h' (c0 :: .obj id (.cells gr 2 ds) :: L) F := a.st 1 rfl hl h1 hd
theorem HH.s2 {c0 c1 : Ck} {id : Nat} {gr : Option TypeId} {cs : List AA} (a : HH g h (c0 :: c1 :: .obj id (.cells gr 2 cs) :: L) F) (o : Nat) (new ds : List AA) (hd : DY cs o new = ds := by rfl) (hl : o + new.length ≤ cs.length := by exact Nat.le_of_ble_eq_true rfl) (h1 : new.all AA.one = true := by rfl) : ∃ h', Av.st g h (id, o) new = some h' ∧ HH g h' (c0 :: c1 :: .obj id (.cells gr 2 ds) :: L) F := a.st 2 rfl hl h1 hd
theorem HH.s3 {c0 c1 c2 : Ck} {id : Nat} {gr : Option TypeId} {cs : List AA} (a : HH g h (c0 :: c1 :: c2 :: .obj id (.cells gr 2 cs) :: L) F) (o : Nat) (new ds : List AA) (hd : DY cs o new = ds := by rfl) (hl : o + new.length ≤ cs.length := by exact Nat.le_of_ble_eq_true rfl) (h1 : new.all AA.one = true := by rfl) : ∃ h', Av.st g h (id, o) new = some h' ∧ HH g h' (c0 :: c1 :: c2 :: .obj id (.cells gr 2 ds) :: L) F := a.st 3 rfl hl h1 hd
theorem HH.s4 {c0 c1 c2 c3 : Ck} {id : Nat} {gr : Option TypeId} {cs : List AA} (a : HH g h (c0 :: c1 :: c2 :: c3 :: .obj id (.cells gr 2 cs) :: L) F) (o : Nat) (new ds : List AA) (hd : DY cs o new = ds := by rfl) (hl : o + new.length ≤ cs.length := by exact Nat.le_of_ble_eq_true rfl) (h1 : new.all AA.one = true := by rfl) : ∃ h', Av.st g h (id, o) new = some h' ∧ HH g h' (c0 :: c1 :: c2 :: c3 :: .obj id (.cells gr 2 ds) :: L) F := a.st 4 rfl hl h1 hd
theorem HH.s5 {c0 c1 c2 c3 c4 : Ck} {id : Nat} {gr : Option TypeId} {cs : List AA} (a : HH g h (c0 :: c1 :: c2 :: c3 :: c4 :: .obj id (.cells gr 2 cs) :: L) F) (o : Nat) (new ds : List AA) (hd : DY cs o new = ds := by rfl) (hl : o + new.length ≤ cs.length := by exact Nat.le_of_ble_eq_true rfl) (h1 : new.all AA.one = true := by rfl) : ∃ h', Av.st g h (id, o) new = some h' ∧ HH g h' (c0 :: c1 :: c2 :: c3 :: c4 :: .obj id (.cells gr 2 ds) :: L) F := a.st 5 rfl hl h1 hd
theorem HH.s6 {c0 c1 c2 c3 c4 c5 : Ck} {id : Nat} {gr : Option TypeId} {cs : List AA} (a : HH g h (c0 :: c1 :: c2 :: c3 :: c4 :: c5 :: .obj id (.cells gr 2 cs) :: L) F) (o : Nat) (new ds : List AA) (hd : DY cs o new = ds := by rfl) (hl : o + new.length ≤ cs.length := by exact Nat.le_of_ble_eq_true rfl) (h1 : new.all AA.one = true := by rfl) : ∃ h', Av.st g h (id, o) new = some h' ∧ HH g h' (c0 :: c1 :: c2 :: c3 :: c4 :: c5 :: .obj id (.cells gr 2 ds) :: L) F := a.st 6 rfl hl h1 hd
theorem HH.s7 {c0 c1 c2 c3 c4 c5 c6 : Ck} {id : Nat} {gr : Option TypeId} {cs : List AA} (a : HH g h (c0 :: c1 :: c2 :: c3 :: c4 :: c5 :: c6 :: .obj id (.cells gr 2 cs) :: L) F) (o : Nat) (new ds : List AA) (hd : DY cs o new = ds := by rfl) (hl : o + new.length ≤ cs.length := by exact Nat.le_of_ble_eq_true rfl) (h1 : new.all AA.one = true := by rfl) : ∃ h', Av.st g h (id, o) new = some h' ∧ HH g h' (c0 :: c1 :: c2 :: c3 :: c4 :: c5 :: c6 :: .obj id (.cells gr 2 ds) :: L) F := a.st 7 rfl hl h1 hd
theorem HH.s8 {c0 c1 c2 c3 c4 c5 c6 c7 : Ck} {id : Nat} {gr : Option TypeId} {cs : List AA} (a : HH g h (c0 :: c1 :: c2 :: c3 :: c4 :: c5 :: c6 :: c7 :: .obj id (.cells gr 2 cs) :: L) F) (o : Nat) (new ds : List AA) (hd : DY cs o new = ds := by rfl) (hl : o + new.length ≤ cs.length := by exact Nat.le_of_ble_eq_true rfl) (h1 : new.all AA.one = true := by rfl) : ∃ h', Av.st g h (id, o) new = some h' ∧ HH g h' (c0 :: c1 :: c2 :: c3 :: c4 :: c5 :: c6 :: c7 :: .obj id (.cells gr 2 ds) :: L) F := a.st 8 rfl hl h1 hd
theorem HH.s9 {c0 c1 c2 c3 c4 c5 c6 c7 c8 : Ck} {id : Nat} {gr : Option TypeId} {cs : List AA} (a : HH g h (c0 :: c1 :: c2 :: c3 :: c4 :: c5 :: c6 :: c7 :: c8 :: .obj id (.cells gr 2 cs) :: L) F) (o : Nat) (new ds : List AA) (hd : DY cs o new = ds := by rfl) (hl : o + new.length ≤ cs.length := by exact Nat.le_of_ble_eq_true rfl) (h1 : new.all AA.one = true := by rfl) : ∃ h', Av.st g h (id, o) new = some h' ∧ HH g h' (c0 :: c1 :: c2 :: c3 :: c4 :: c5 :: c6 :: c7 :: c8 :: .obj id (.cells gr 2 ds) :: L) F := a.st 9 rfl hl h1 hd
theorem HH.Wu (a : HH g h L F) : ∀ (ks : List Nat) (M : List Ck), ks.Nodup → ks.map (fun k => L[k]?) = M.map some → (CE (M ++ F)).Nodup := by
 intro ks
 induction ks with
 | nil =>
  intro M _ he
  cases M with
  | nil =>
   have := a.nd
   rw [CH] at this
   exact (List.nodup_append.1 this).2.1
  | cons c M => simp at he
 | cons k ks ih =>
  intro M hn he
  cases M with
  | nil => simp at he
  | cons c M =>
   simp only [List.map_cons, List.cons.injEq] at he
   have hd := (a.front k he.1).nd
   have e : CE (c :: L.eraseIdx k ++ F) = c.ids ++ CE (L.eraseIdx k ++ F) := by simp [CE]
   have e2 : CE (c :: M ++ F) = c.ids ++ CE (M ++ F) := by simp [CE]
   rw [e] at hd
   rw [e2]
   refine List.nodup_append.2 ⟨(List.nodup_append.1 hd).1, ih M (List.nodup_cons.1 hn).2 he.2, fun i hi j hj => ?_⟩
   refine (List.nodup_append.1 hd).2.2 i hi j ?_
   simp only [CE, List.mem_flatMap] at hj ⊢
   obtain ⟨d, hd, hj⟩ := hj
   refine ⟨d, ?_, hj⟩
   rcases List.mem_append.1 hd with hd | hd
   ·refine List.mem_append.2 (.inl ?_)
    have hm : some d ∈ M.map some := List.mem_map.2 ⟨d, hd, rfl⟩
    rw [← he.2] at hm
    obtain ⟨x, hx, hxd⟩ := List.mem_map.1 hm
    exact List.mem_eraseIdx_iff_getElem?.2 ⟨x, fun e => (List.nodup_cons.1 hn).1 (e ▸ hx), hxd⟩
   ·exact List.mem_append.2 (.inr hd)
theorem HH.pick (a : HH g h L F) (ks : List Nat) (M : List Ck) (hn : ks.Nodup) (he : ks.map (fun k => L[k]?) = M.map some) : HH g h M F := by
 have hm : ∀ c ∈ M, c ∈ L := fun c hc => by
  have hm : some c ∈ M.map some := List.mem_map.2 ⟨c, hc, rfl⟩
  rw [← he] at hm
  obtain ⟨x, hx, hxd⟩ := List.mem_map.1 hm
  exact List.mem_of_getElem? hxd
 refine ⟨fun c hc => a.ok c ?_, a.Wu ks M hn he, fun i hi => a.may i ?_, a.BU, a.floor⟩
 ·rcases List.mem_append.1 hc with h | h
  ·exact List.mem_append.2 (.inl (hm c h))
  ·exact List.mem_append.2 (.inr h)
 ·simp only [CE, List.mem_flatMap] at hi ⊢
  obtain ⟨c, hc, hi⟩ := hi
  exact ⟨c, hm c hc, hi⟩
theorem HH.k1 (a : HH g h L F) (i0 : Nat) {c0 : Ck} (e0 : L[i0]? = some c0 := by rfl) (hd : [i0].Nodup := by decide) : HH g h [c0] F := a.pick [i0] [c0] hd (by simp only [List.map, e0])
theorem HH.k2 (a : HH g h L F) (i0 i1 : Nat) {c0 c1 : Ck} (e0 : L[i0]? = some c0 := by rfl) (e1 : L[i1]? = some c1 := by rfl) (hd : [i0, i1].Nodup := by decide) : HH g h [c0, c1] F := a.pick [i0, i1] [c0, c1] hd (by simp only [List.map, e0, e1])
theorem HH.k3 (a : HH g h L F) (i0 i1 i2 : Nat) {c0 c1 c2 : Ck} (e0 : L[i0]? = some c0 := by rfl) (e1 : L[i1]? = some c1 := by rfl) (e2 : L[i2]? = some c2 := by rfl) (hd : [i0, i1, i2].Nodup := by decide) : HH g h [c0, c1, c2] F := a.pick [i0, i1, i2] [c0, c1, c2] hd (by simp only [List.map, e0, e1, e2])
theorem HH.k4 (a : HH g h L F) (i0 i1 i2 i3 : Nat) {c0 c1 c2 c3 : Ck} (e0 : L[i0]? = some c0 := by rfl) (e1 : L[i1]? = some c1 := by rfl) (e2 : L[i2]? = some c2 := by rfl) (e3 : L[i3]? = some c3 := by rfl) (hd : [i0, i1, i2, i3].Nodup := by decide) : HH g h [c0, c1, c2, c3] F := a.pick [i0, i1, i2, i3] [c0, c1, c2, c3] hd (by simp only [List.map, e0, e1, e2, e3])
theorem HH.k5 (a : HH g h L F) (i0 i1 i2 i3 i4 : Nat) {c0 c1 c2 c3 c4 : Ck} (e0 : L[i0]? = some c0 := by rfl) (e1 : L[i1]? = some c1 := by rfl) (e2 : L[i2]? = some c2 := by rfl) (e3 : L[i3]? = some c3 := by rfl) (e4 : L[i4]? = some c4 := by rfl) (hd : [i0, i1, i2, i3, i4].Nodup := by decide) : HH g h [c0, c1, c2, c3, c4] F := a.pick [i0, i1, i2, i3, i4] [c0, c1, c2, c3, c4] hd (by simp only [List.map, e0, e1, e2, e3, e4])
theorem HH.k6 (a : HH g h L F) (i0 i1 i2 i3 i4 i5 : Nat) {c0 c1 c2 c3 c4 c5 : Ck} (e0 : L[i0]? = some c0 := by rfl) (e1 : L[i1]? = some c1 := by rfl) (e2 : L[i2]? = some c2 := by rfl) (e3 : L[i3]? = some c3 := by rfl) (e4 : L[i4]? = some c4 := by rfl) (e5 : L[i5]? = some c5 := by rfl) (hd : [i0, i1, i2, i3, i4, i5].Nodup := by decide) : HH g h [c0, c1, c2, c3, c4, c5] F := a.pick [i0, i1, i2, i3, i4, i5] [c0, c1, c2, c3, c4, c5] hd (by simp only [List.map, e0, e1, e2, e3, e4, e5])
theorem HH.k7 (a : HH g h L F) (i0 i1 i2 i3 i4 i5 i6 : Nat) {c0 c1 c2 c3 c4 c5 c6 : Ck} (e0 : L[i0]? = some c0 := by rfl) (e1 : L[i1]? = some c1 := by rfl) (e2 : L[i2]? = some c2 := by rfl) (e3 : L[i3]? = some c3 := by rfl) (e4 : L[i4]? = some c4 := by rfl) (e5 : L[i5]? = some c5 := by rfl) (e6 : L[i6]? = some c6 := by rfl) (hd : [i0, i1, i2, i3, i4, i5, i6].Nodup := by decide) : HH g h [c0, c1, c2, c3, c4, c5, c6] F := a.pick [i0, i1, i2, i3, i4, i5, i6] [c0, c1, c2, c3, c4, c5, c6] hd (by simp only [List.map, e0, e1, e2, e3, e4, e5, e6])
theorem HH.k8 (a : HH g h L F) (i0 i1 i2 i3 i4 i5 i6 i7 : Nat) {c0 c1 c2 c3 c4 c5 c6 c7 : Ck} (e0 : L[i0]? = some c0 := by rfl) (e1 : L[i1]? = some c1 := by rfl) (e2 : L[i2]? = some c2 := by rfl) (e3 : L[i3]? = some c3 := by rfl) (e4 : L[i4]? = some c4 := by rfl) (e5 : L[i5]? = some c5 := by rfl) (e6 : L[i6]? = some c6 := by rfl) (e7 : L[i7]? = some c7 := by rfl) (hd : [i0, i1, i2, i3, i4, i5, i6, i7].Nodup := by decide) : HH g h [c0, c1, c2, c3, c4, c5, c6, c7] F := a.pick [i0, i1, i2, i3, i4, i5, i6, i7] [c0, c1, c2, c3, c4, c5, c6, c7] hd (by simp only [List.map, e0, e1, e2, e3, e4, e5, e6, e7])
theorem HH.k9 (a : HH g h L F) (i0 i1 i2 i3 i4 i5 i6 i7 i8 : Nat) {c0 c1 c2 c3 c4 c5 c6 c7 c8 : Ck} (e0 : L[i0]? = some c0 := by rfl) (e1 : L[i1]? = some c1 := by rfl) (e2 : L[i2]? = some c2 := by rfl) (e3 : L[i3]? = some c3 := by rfl) (e4 : L[i4]? = some c4 := by rfl) (e5 : L[i5]? = some c5 := by rfl) (e6 : L[i6]? = some c6 := by rfl) (e7 : L[i7]? = some c7 := by rfl) (e8 : L[i8]? = some c8 := by rfl) (hd : [i0, i1, i2, i3, i4, i5, i6, i7, i8].Nodup := by decide) : HH g h [c0, c1, c2, c3, c4, c5, c6, c7, c8] F := a.pick [i0, i1, i2, i3, i4, i5, i6, i7, i8] [c0, c1, c2, c3, c4, c5, c6, c7, c8] hd (by simp only [List.map, e0, e1, e2, e3, e4, e5, e6, e7, e8])
theorem HH.pu (a : HH g h L F) (o : B4) : ∃ h', h' = h.push o ∧ HH g h' (.obj h.size o :: L) F := ⟨_, rfl, a.push o⟩
theorem HH.pL (a : HH g h L F) (e : TypeId) (cs : List AA) : ∃ h', h' = h.push (.cells (some e) 2 cs) ∧ HH g h' (.AL (some h.size) e cs :: L) F := ⟨_, rfl, a.W7 e cs⟩
theorem HH.la (a : HH g h L F) (k o n : Nat) {id : Nat} {gr : Option TypeId} {cs ds : List AA} (hk : L[k]? = some (.obj id (.cells gr 2 cs)) := by rfl) (hd : o + n ≤ cs.length ∧ (cs.drop o).take n = ds := by exact ⟨Nat.le_of_ble_eq_true rfl, rfl⟩) : Av.GA h (id, o) n = some ds := a.GA k hk hd
theorem HH.l1 (a : HH g h L F) (k o : Nat) {id : Nat} {gr : Option TypeId} {cs : List AA} {v : AA} (hk : L[k]? = some (.obj id (.cells gr 2 cs)) := by rfl) (hv : cs[o]? = some v := by rfl) : Av.NX h (id, o) = some v := a.NX k hk hv
end
section
variable {C : HU} {f : FuncId} {g : Gd} {ops : Array Oper} {tch : List (Nat × Nat)} {fr : Fr} {h h1 : AH} {K : Fr → AH → Prop} {N : Nat} {l : List (Nat × AA)} {i : Nat} {pl : List (Nat × List Nat)} {v : AA} {L F : List Ck}
theorem Has.kn (H : Has fr N l) (d : Nat) {b w : Bool} (hb : b = w) (hd : Pk l d = some (.bool b) := by kernel_rfl) : Has fr N (Rv l d (.bool w)) := H.Vs d hb hd
theorem rH {P : Program} {rs : List ResultVar} (H : Has fr N l) (hr : ∀ fr, LL P rs (C3 N l fr) h = some v := by intro _; kernel_rfl) : LL P rs fr h = some v := Xh H hr
theorem rT {t : Nat} (H : Has fr N l) (hr : ∀ fr, nth (C3 N l fr) t = v := by intro _; kernel_rfl) : nth fr t = v := Xm H hr
theorem D5 {args args' : List AA} (n : Nat) (rs : List ResultVar) {R : AA → AH → Prop} (hc : BI (C.still f) args = args') (hh : AW C f g (Le C.P f) (args' ++ List.replicate (n - args'.length) (.tuple [])) h (fun e fr h' => (e = .ret ∨ e = .normal) ∧ ∃ v, LL C.P rs fr h' = some v ∧ R v h')) (hk : C.kind f = 1 := by kernel_rfl) (hf : IT C.P f = some (n, rs) := by kernel_rfl) : ∃ v h', BL C g h f args v h' ∧ R v h' := V2 hk hc hf hh
theorem Vz {args args' : List AA} (n : Nat) (rs : List ResultVar) {R : AA → AH → Prop} (hc : BI (C.still f) args = args') (hh : AW C f g (Le C.P f) (args' ++ List.replicate (n - args'.length) (.tuple [])) h (fun e fr h' => (e = .ret ∨ e = .normal) ∧ ∃ v, LL C.P rs fr h' = some v ∧ ∃ v' h'', Og g h' v = some (v', h'') ∧ R v' h'')) (hk : C.kind f = 7 := by kernel_rfl) (hf : IT C.P f = some (n, rs) := by kernel_rfl) : ∃ v h', BL C g h f args v h' ∧ R v h' := Vy hk hc hf hh
theorem Xp {args args' : List AA} (n : Nat) (rs : List ResultVar) {R : AA → AH → Prop} (hc : BI (C.still f) args = args') (hh : AW C f g (Le C.P f) (args' ++ List.replicate (n - args'.length) (.tuple [])) h (fun e fr h' => (e = .ret ∨ e = .normal) ∧ ∃ v, LL C.P rs fr h' = some v ∧ ∃ v' h'', Qz g h' v = some (v', h'') ∧ R v' h'')) (hk : C.kind f = 9 := by kernel_rfl) (hf : IT C.P f = some (n, rs) := by kernel_rfl) : ∃ v h', BL C g h f args v h' ∧ R v h' := Vu hk hc hf hh
theorem bg {args : List AA} {c : Code} {Q : C9 → Fr → AH → Prop} (n : Nat) (ins : List (Nat × AA)) (hh : ∀ fr, Has fr n ins → AW C f g c fr h Q) (hl : (args ++ List.replicate (n - args.length) (AA.tuple [])).length = n := by kernel_rfl) (hi : ins.map (fun p => nth (args ++ List.replicate (n - args.length) (AA.tuple [])) p.1) = ins.map (·.2) := by kernel_rfl) : AW C f g c (args ++ List.replicate (n - args.length) (.tuple [])) h Q := start ins hl hi hh
theorem AR (k : Nat) (nw : List (Nat × AA)) (d : Nat) (j o : Nat) (A : HH g h L F) {id : Nat} {gr : Option TypeId} {cs : List AA} (H : Has fr N l) (hn : ∀ fr' t, Has fr' N (((d, v) :: List.append nw l)) → AT C g ops (pl.drop (k + 1)) t fr' h K) (hj : L[j]? = some (.obj id (.cells gr 2 cs)) := by rfl) (hv : cs[o]? = some v := by rfl) (hsp : ∀ fr, MW C.P (NM C.P ops (ES (pl.take k)) (C3 N l fr)) (M0 ops (Gr pl k)) = some ((id, o), none) := by intro _; kernel_rfl) (hk : ∀ fr, (Oy pl k && (Q8 (pl.take k) && (E1 ops l (ES (pl.take k)) && (HY d l && (HY d nw && Nat.blt d N)))), (GV C.P ops (ES (pl.take k)) (C3 N l fr)).map (fun x => (runs ops x (Gr pl k), G8 ops (Gr pl k), nw.map (fun p => nth x p.1)))) = (true, some (true, some d, nw.map (·.2))) := by intro _; kernel_rfl) : AT C g ops pl tch fr h K := As k nw d v h H (fun fr => .of (Dj (hsp fr) (A.NX j hj hv))) hn hk
theorem Eu (d : Nat) (j o : Nat) (A : HH g h L F) {id : Nat} {gr : Option TypeId} {cs : List AA} (H : Has fr N l) (hn : ∀ fr' t, Has fr' N ((d, v) :: l) → AT C g ops pl t fr' h K) (hj : L[j]? = some (.obj id (.cells gr 2 cs)) := by rfl) (hv : cs[o]? = some v := by rfl) (hsp : ∀ fr, MW C.P (C3 N l fr) (M0 ops i) = some ((id, o), none) := by intro _; kernel_rfl) (hw : ∀ fr, (runs ops (C3 N l fr) i, G8 ops i, Nat.blt d N, HY d l) = (true, some d, true, true) := by intro _; kernel_rfl) : AT C g ops ((i, []) :: pl) tch fr h K := Az d v h H (fun fr => .of (Dj (hsp fr) (A.NX j hj hv))) hn hw
theorem SG (k : Nat) (nw : List (Nat × AA)) {f' : FuncId} {args : List AA} (hr : BL C g h f' args v h1) (H : Has fr N l) (hn : ∀ fr' t, Has fr' N ((List.append nw l)) → AT C g ops (pl.drop (k + 1)) t fr' h1 K) (hsp : ∀ fr, Ly (NM C.P ops (ES (pl.take k)) (C3 N l fr)) (M0 ops (Gr pl k)) = some (f', args) := by intro _; kernel_rfl) (hk : ∀ fr, (Oy pl k && (Q8 (pl.take k) && (E1 ops l (ES (pl.take k)) && (IB ops (Gr pl k) l && IB ops (Gr pl k) nw))), (GV C.P ops (ES (pl.take k)) (C3 N l fr)).map (fun x => (runs ops x (Gr pl k), nw.map (fun p => nth x p.1)))) = (true, some (true, nw.map (·.2))) := by intro _; kernel_rfl) : AT C g ops pl tch fr h K := Ug k nw _ h1 H (fun fr => Steps.call (hsp fr) hr) hn hk
theorem BH (k : Nat) (nw : List (Nat × AA)) (d : Nat) {f' : FuncId} {args : List AA} (hr : BL C g h f' args v h1) (H : Has fr N l) (hn : ∀ fr' t, Has fr' N (((d, v) :: List.append nw l)) → AT C g ops (pl.drop (k + 1)) t fr' h1 K) (hsp : ∀ fr, Ly (NM C.P ops (ES (pl.take k)) (C3 N l fr)) (M0 ops (Gr pl k)) = some (f', args) := by intro _; kernel_rfl) (hk : ∀ fr, (Oy pl k && (Q8 (pl.take k) && (E1 ops l (ES (pl.take k)) && (HY d l && (HY d nw && Nat.blt d N)))), (GV C.P ops (ES (pl.take k)) (C3 N l fr)).map (fun x => (runs ops x (Gr pl k), G8 ops (Gr pl k), nw.map (fun p => nth x p.1)))) = (true, some (true, some d, nw.map (·.2))) := by intro _; kernel_rfl) : AT C g ops pl tch fr h K := As k nw d v h1 H (fun fr => Steps.call (hsp fr) hr) hn hk
theorem Uf {f' : FuncId} {args : List AA} (hr : BL C g h f' args v h1) (H : Has fr N l) (hn : ∀ fr' t, Has fr' N l → AT C g ops pl t fr' h1 K) (hsp : ∀ fr, Ly (C3 N l fr) (M0 ops i) = some (f', args) := by intro _; kernel_rfl) (hw : ∀ fr, (runs ops (C3 N l fr) i, IB ops i l) = (true, true) := by intro _; kernel_rfl) : AT C g ops ((i, []) :: pl) tch fr h K := LR _ h1 H (fun fr => Steps.call (hsp fr) hr) hn hw
theorem Ay (d : Nat) {f' : FuncId} {args : List AA} (hr : BL C g h f' args v h1) (H : Has fr N l) (hn : ∀ fr' t, Has fr' N ((d, v) :: l) → AT C g ops pl t fr' h1 K) (hsp : ∀ fr, Ly (C3 N l fr) (M0 ops i) = some (f', args) := by intro _; kernel_rfl) (hw : ∀ fr, (runs ops (C3 N l fr) i, G8 ops i, Nat.blt d N, HY d l) = (true, some d, true, true) := by intro _; kernel_rfl) : AT C g ops ((i, []) :: pl) tch fr h K := Az d v h1 H (fun fr => Steps.call (hsp fr) hr) hn hw
theorem Gy (k : Nat) (nw : List (Nat × AA)) (d : Nat) (v : AA) {ob : B4} (e : h1 = h.push ob) (H : Has fr N l) (hn : ∀ fr' t, Has fr' N (((d, v) :: List.append nw l)) → AT C g ops (pl.drop (k + 1)) t fr' h1 K) (hsp : ∀ fr, Wt C.P (NM C.P ops (ES (pl.take k)) (C3 N l fr)) (M0 ops (Gr pl k)) h.size = some (v, ob) := by intro _; kernel_rfl) (hk : ∀ fr, (Oy pl k && (Q8 (pl.take k) && (E1 ops l (ES (pl.take k)) && (HY d l && (HY d nw && Nat.blt d N)))), (GV C.P ops (ES (pl.take k)) (C3 N l fr)).map (fun x => (runs ops x (Gr pl k), G8 ops (Gr pl k), nw.map (fun p => nth x p.1)))) = (true, some (true, some d, nw.map (·.2))) := by intro _; kernel_rfl) : AT C g ops pl tch fr h K := As k nw d v h1 H (fun fr => .of (Qk (hsp fr) (congrArg some e.symm))) hn hk
theorem BC (d : Nat) (v : AA) {ob : B4} (e : h1 = h.push ob) (H : Has fr N l) (hn : ∀ fr' t, Has fr' N ((d, v) :: l) → AT C g ops pl t fr' h1 K) (hsp : ∀ fr, Wt C.P (C3 N l fr) (M0 ops i) h.size = some (v, ob) := by intro _; kernel_rfl) (hw : ∀ fr, (runs ops (C3 N l fr) i, G8 ops i, Nat.blt d N, HY d l) = (true, some d, true, true) := by intro _; kernel_rfl) : AT C g ops ((i, []) :: pl) tch fr h K := Az d v h1 H (fun fr => .of (Qk (hsp fr) (congrArg some e.symm))) hn hw
theorem E8 (k : Nat) (nw : List (Nat × AA)) {a : Nat × Nat} {v : AA} (hx : Av.st g h a [v] = some h1) (H : Has fr N l) (hn : ∀ fr' t, Has fr' N ((List.append nw l)) → AT C g ops (pl.drop (k + 1)) t fr' h1 K) (hc : v.cells? = some [v] := by rfl) (hsp : ∀ fr, JF C.P (NM C.P ops (ES (pl.take k)) (C3 N l fr)) (M0 ops (Gr pl k)) = some (a, 1, v) := by intro _; kernel_rfl) (hk : ∀ fr, (Oy pl k && (Q8 (pl.take k) && (E1 ops l (ES (pl.take k)) && (IB ops (Gr pl k) l && IB ops (Gr pl k) nw))), (GV C.P ops (ES (pl.take k)) (C3 N l fr)).map (fun x => (runs ops x (Gr pl k), nw.map (fun p => nth x p.1)))) = (true, some (true, nw.map (·.2))) := by intro _; kernel_rfl) : AT C g ops pl tch fr h K := Ug k nw _ h1 H (fun fr => .of (RG (hsp fr) hc hx)) hn hk
theorem Jo {a : Nat × Nat} {v : AA} (hx : Av.st g h a [v] = some h1) (H : Has fr N l) (hn : ∀ fr' t, Has fr' N l → AT C g ops pl t fr' h1 K) (hc : v.cells? = some [v] := by rfl) (hsp : ∀ fr, JF C.P (C3 N l fr) (M0 ops i) = some (a, 1, v) := by intro _; kernel_rfl) (hw : ∀ fr, (runs ops (C3 N l fr) i, IB ops i l) = (true, true) := by intro _; kernel_rfl) : AT C g ops ((i, []) :: pl) tch fr h K := LR _ h1 H (fun fr => .of (RG (hsp fr) hc hx)) hn hw
theorem EL (k : Nat) (nw : List (Nat × AA)) {a : Nat × Nat} {n : Nat} {cs : List AA} (hx : Av.st g h a cs = some h1) (H : Has fr N l) (hn : ∀ fr' t, Has fr' N ((List.append nw l)) → AT C g ops (pl.drop (k + 1)) t fr' h1 K) (hl : cs.length = n := by rfl) (hsp : ∀ fr, JF C.P (NM C.P ops (ES (pl.take k)) (C3 N l fr)) (M0 ops (Gr pl k)) = some (a, n, .agg cs) := by intro _; kernel_rfl) (hk : ∀ fr, (Oy pl k && (Q8 (pl.take k) && (E1 ops l (ES (pl.take k)) && (IB ops (Gr pl k) l && IB ops (Gr pl k) nw))), (GV C.P ops (ES (pl.take k)) (C3 N l fr)).map (fun x => (runs ops x (Gr pl k), nw.map (fun p => nth x p.1)))) = (true, some (true, nw.map (·.2))) := by intro _; kernel_rfl) : AT C g ops pl tch fr h K := Ug k nw _ h1 H (fun fr => .of (Nr (hsp fr) (Lj hx hl))) hn hk
theorem Ev {a : Nat × Nat} {n : Nat} {cs : List AA} (hx : Av.st g h a cs = some h1) (H : Has fr N l) (hn : ∀ fr' t, Has fr' N l → AT C g ops pl t fr' h1 K) (hl : cs.length = n := by rfl) (hsp : ∀ fr, JF C.P (C3 N l fr) (M0 ops i) = some (a, n, .agg cs) := by intro _; kernel_rfl) (hw : ∀ fr, (runs ops (C3 N l fr) i, IB ops i l) = (true, true) := by intro _; kernel_rfl) : AT C g ops ((i, []) :: pl) tch fr h K := LR _ h1 H (fun fr => .of (Nr (hsp fr) (Lj hx hl))) hn hw
end
section
variable {C : HU} {f : FuncId} {g : Gd} {ops : Array Oper} {tch : List (Nat × Nat)} {fr : Fr} {h : AH} {N : Nat} {l out : List (Nat × AA)} {c c' : Code} {Q Q' : C9 → Fr → AH → Prop}
theorem Be (hK : AW C f g c' fr h Q' → Q .normal fr h) (hh : AW C f g c' fr h Q') (hs : shape c = .skip := by kernel_rfl) : AW C f g c fr h Q := NU hs (hK hh)
theorem FH (n : Nat) (hK : AW C f g c' fr h Q' → Q .normal fr h) (hh : AT C g (opsOf c') (JC 0 n) [] fr h (fun fr' h' => Q' .normal fr' h')) (hs : shape c = .skip := by kernel_rfl) (hr : MB c' n = true := by kernel_rfl) : AW C f g c fr h Q := NU hs (hK (EW n hh hr))
theorem Cm (n : Nat) (hK : AW C f g c' fr h Q' → Q .normal fr h) (hh : AT C g (opsOf (left c')) (JC 0 n) [] fr h (fun fr' h' => L2 (fun fr h => AW C f g (right c') fr h Q') Q' .normal fr' h')) (hs : shape c = .skip := by kernel_rfl) (hq : shape c' = .seq := by kernel_rfl) (hr : MB (left c') n = true := by kernel_rfl) : AW C f g c fr h Q := NU hs (hK (Rg hq (EW n hh hr)))
theorem AY {b w : Bool} (H : Has fr N l) (hb : b = w) (hx : b = w → ∀ fr, out.map (fun p => nth (C3 N l fr) p.1) = out.map (·.2) := by intro hb _; first | rfl | (rw [hb]; rfl)) : AT C g ops [] tch fr h (fun fr' h' => h = h' ∧ Has fr' N out) := at_nil ⟨rfl, H.less _ (hx hb)⟩
end
theorem nx {σ ρ : Type} {a : σ} {o : σ ⊕ ρ} {P : σ → Prop} (hm : some (.inl a) = some o) (h : P a) : ∃ s', o = .inl s' ∧ P s' := ⟨a, (Option.some.inj hm).symm, h⟩
theorem nr {σ ρ : Type} {a : ρ} {o : σ ⊕ ρ} {P : ρ → Prop} (hm : some (.inr a) = some o) (h : P a) : ∃ s', o = .inr s' ∧ P s' := ⟨a, (Option.some.inj hm).symm, h⟩
abbrev Ai (x : Int) : AA := .int .i64 x
abbrev Au (x : Int) : AA := .int .u64 x
abbrev Ab (x : Int) : AA := .int .u8 x
section
variable {C : HU} {f : FuncId} {g : Gd} {ops : Array Oper} {tch : List (Nat × Nat)} {fr : Fr} {h : AH} {N : Nat} {l : List (Nat × AA)} {pl : List (Nat × List Nat)} {c : Code} {Q : C9 → Fr → AH → Prop}
theorem AN (k : Nat) (nw : List (Nat × AA)) (H : Has fr N l) (hh : ∀ fr', Has fr' N (List.append nw l) → AW C f g c fr' h Q)
  (hk : ∀ fr, (Q8 pl, Nat.beq pl.length k, E1 ops l (ES pl), (GV C.P ops (ES pl) (C3 N l fr)).map (fun x => nw.map (fun p => nth x p.1))) = (true, true, true, some (nw.map (·.2))) := by intro _; kernel_rfl) : AT C g ops pl tch fr h (fun fr h => AW C f g c fr h Q) := VZ k nw H (fun _ => id) hh hk
theorem BT (k : Nat) (nw : List (Nat × AA)) (n : Nat) (H : Has fr N l) (hh : ∀ fr', Has fr' N (List.append nw l) → AT C g (opsOf (left c)) (JC 0 n) [] fr' h (fun fr' h' => L2 (fun fr h => AW C f g (right c) fr h Q) Q .normal fr' h'))
  (hk : ∀ fr, (Q8 pl, Nat.beq pl.length k, E1 ops l (ES pl), (GV C.P ops (ES pl) (C3 N l fr)).map (fun x => nw.map (fun p => nth x p.1))) = (true, true, true, some (nw.map (·.2))) := by intro _; kernel_rfl) (hs : shape c = .seq := by kernel_rfl) (hr : MB (left c) n = true := by kernel_rfl) : AT C g ops pl tch fr h (fun fr h => AW C f g c fr h Q) := Wz k nw n H (fun _ => id) hh hk hs hr
end
end Go.Av
