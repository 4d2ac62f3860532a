/-
 A part.
-/
import Derived.Test.YtdjbadhilkmiiaaGreatDoorAvTy
import Derived.Test.YtdjbadhilkmiiaaGreatDoorAvCo
namespace Go.Av
set_option linter.unusedVariables false
set_option linter.unusedSimpArgs false
section
variable {g : Gd} {h h' : AJ} {L F : List Ck}
theorem HH.C4 (a : HH g h L F) (b : HH g h' [] (List.append L F)) : HH g h' L F := a.Cp (n := 0) b
theorem HH.WW {pr : List Nat} (a : HH g h L F) (b : HH ⟨g.floor, List.append pr g.Bo⟩ h' [] (List.append L F)) : HH g h' L F := a.Si (n := 0) b
theorem HH.Ve {c0' : Ck} (a : HH g h L F) (b : HH g h' [c0'] (List.append L F)) : HH g h' (c0' :: L) F := a.Cp (n := 0) b
theorem HH.Xh {c0' c1' : Ck} (a : HH g h L F) (b : HH g h' [c0', c1'] (List.append L F)) : HH g h' (c0' :: c1' :: L) F := a.Cp (n := 0) b
theorem HH.YA {c0' c1' c2' : Ck} (a : HH g h L F) (b : HH g h' [c0', c1', c2'] (List.append L F)) : HH g h' (c0' :: c1' :: c2' :: L) F := a.Cp (n := 0) b
theorem HH.g11 {c0 c0' : Ck} (a : HH g h (c0 :: L) F) (b : HH g h' [c0'] (List.append L F)) : HH g h' (c0' :: L) F := a.Cp (n := 1) b
theorem HH.XJ {c0 c0' : Ck} {pr : List Nat} (a : HH g h (c0 :: L) F) (b : HH ⟨g.floor, List.append pr g.Bo⟩ h' [c0'] (List.append L F)) : HH g h' (c0' :: L) F := a.Si (n := 1) b
theorem HH.g12 {c0 c0' c1' : Ck} (a : HH g h (c0 :: L) F) (b : HH g h' [c0', c1'] (List.append L F)) : HH g h' (c0' :: c1' :: L) F := a.Cp (n := 1) b
theorem HH.g22 {c0 c1 c0' c1' : Ck} (a : HH g h (c0 :: c1 :: L) F) (b : HH g h' [c0', c1'] (List.append L F)) : HH g h' (c0' :: c1' :: L) F := a.Cp (n := 2) b
theorem HH.YI {c0 c1 c0' c1' : Ck} {pr : List Nat} (a : HH g h (c0 :: c1 :: L) F) (b : HH ⟨g.floor, List.append pr g.Bo⟩ h' [c0', c1'] (List.append L F)) : HH g h' (c0' :: c1' :: L) F := a.Si (n := 2) b
theorem HH.d0 (a : HH g h L F) : HH g h [] F := a.Kw 0
theorem HH.d2 {c0 c1 : Ck} (a : HH g h (c0 :: c1 :: L) F) : HH g h [c0, c1] F := a.Kw 2
theorem HH.d5 {c0 c1 c2 c3 c4 : Ck} (a : HH g h (c0 :: c1 :: c2 :: c3 :: c4 :: L) F) : HH g h [c0, c1, c2, c3, c4] F := a.Kw 5
theorem HH.d6 {c0 c1 c2 c3 c4 c5 : Ck} (a : HH g h (c0 :: c1 :: c2 :: c3 :: c4 :: c5 :: L) F) : HH g h [c0, c1, c2, c3, c4, c5] F := a.Kw 6
theorem HH.d8 {c0 c1 c2 c3 c4 c5 c6 c7 : Ck} (a : HH g h (c0 :: c1 :: c2 :: c3 :: c4 :: c5 :: c6 :: c7 :: L) F) : HH g h [c0, c1, c2, c3, c4, c5, c6, c7] F := a.Kw 8
theorem HH.s0 {id : Nat} {gr : Option TypeId} {cs : List AB} (a : HH g h (.obj id (.cells gr 2 cs) :: L) F) (o : Nat) (new ds : List AB) (hd : Dv cs o new = ds := by rfl) (hl : o + new.length ≤ cs.length := by exact Nat.le_of_ble_eq_true rfl) (h1 : new.all AB.one = true := by rfl) : ∃ h', Av.st g h (id, o) new = some h' ∧ HH g h' (.obj id (.cells gr 2 ds) :: L) F := a.st 0 rfl hl h1 hd
theorem HH.s1 {c0 : Ck} {id : Nat} {gr : Option TypeId} {cs : List AB} (a : HH g h (c0 :: .obj id (.cells gr 2 cs) :: L) F) (o : Nat) (new ds : List AB) (hd : Dv cs o new = ds := by rfl) (hl : o + new.length ≤ cs.length := by exact Nat.le_of_ble_eq_true rfl) (h1 : new.all AB.one = true := by rfl) : ∃ h', Av.st g h (id, o) new = some h' ∧ HH g h' (c0 :: .obj id (.cells gr 2 ds) :: L) F := a.st 1 rfl hl h1 hd
theorem HH.s2 {c0 c1 : Ck} {id : Nat} {gr : Option TypeId} {cs : List AB} (a : HH g h (c0 :: c1 :: .obj id (.cells gr 2 cs) :: L) F) (o : Nat) (new ds : List AB) (hd : Dv cs o new = ds := by rfl) (hl : o + new.length ≤ cs.length := by exact Nat.le_of_ble_eq_true rfl) (h1 : new.all AB.one = true := by rfl) : ∃ h', Av.st g h (id, o) new = some h' ∧ HH g h' (c0 :: c1 :: .obj id (.cells gr 2 ds) :: L) F := a.st 2 rfl hl h1 hd
theorem HH.s3 {c0 c1 c2 : Ck} {id : Nat} {gr : Option TypeId} {cs : List AB} (a : HH g h (c0 :: c1 :: c2 :: .obj id (.cells gr 2 cs) :: L) F) (o : Nat) (new ds : List AB) (hd : Dv cs o new = ds := by rfl) (hl : o + new.length ≤ cs.length := by exact Nat.le_of_ble_eq_true rfl) (h1 : new.all AB.one = true := by rfl) : ∃ h', Av.st g h (id, o) new = some h' ∧ HH g h' (c0 :: c1 :: c2 :: .obj id (.cells gr 2 ds) :: L) F := a.st 3 rfl hl h1 hd
theorem HH.s4 {c0 c1 c2 c3 : Ck} {id : Nat} {gr : Option TypeId} {cs : List AB} (a : HH g h (c0 :: c1 :: c2 :: c3 :: .obj id (.cells gr 2 cs) :: L) F) (o : Nat) (new ds : List AB) (hd : Dv cs o new = ds := by rfl) (hl : o + new.length ≤ cs.length := by exact Nat.le_of_ble_eq_true rfl) (h1 : new.all AB.one = true := by rfl) : ∃ h', Av.st g h (id, o) new = some h' ∧ HH g h' (c0 :: c1 :: c2 :: c3 :: .obj id (.cells gr 2 ds) :: L) F := a.st 4 rfl hl h1 hd
theorem HH.s5 {c0 c1 c2 c3 c4 : Ck} {id : Nat} {gr : Option TypeId} {cs : List AB} (a : HH g h (c0 :: c1 :: c2 :: c3 :: c4 :: .obj id (.cells gr 2 cs) :: L) F) (o : Nat) (new ds : List AB) (hd : Dv cs o new = ds := by rfl) (hl : o + new.length ≤ cs.length := by exact Nat.le_of_ble_eq_true rfl) (h1 : new.all AB.one = true := by rfl) : ∃ h', Av.st g h (id, o) new = some h' ∧ HH g h' (c0 :: c1 :: c2 :: c3 :: c4 :: .obj id (.cells gr 2 ds) :: L) F := a.st 5 rfl hl h1 hd
theorem HH.s6 {c0 c1 c2 c3 c4 c5 : Ck} {id : Nat} {gr : Option TypeId} {cs : List AB} (a : HH g h (c0 :: c1 :: c2 :: c3 :: c4 :: c5 :: .obj id (.cells gr 2 cs) :: L) F) (o : Nat) (new ds : List AB) (hd : Dv cs o new = ds := by rfl) (hl : o + new.length ≤ cs.length := by exact Nat.le_of_ble_eq_true rfl) (h1 : new.all AB.one = true := by rfl) : ∃ h', Av.st g h (id, o) new = some h' ∧ HH g h' (c0 :: c1 :: c2 :: c3 :: c4 :: c5 :: .obj id (.cells gr 2 ds) :: L) F := a.st 6 rfl hl h1 hd
theorem HH.s7 {c0 c1 c2 c3 c4 c5 c6 : Ck} {id : Nat} {gr : Option TypeId} {cs : List AB} (a : HH g h (c0 :: c1 :: c2 :: c3 :: c4 :: c5 :: c6 :: .obj id (.cells gr 2 cs) :: L) F) (o : Nat) (new ds : List AB) (hd : Dv cs o new = ds := by rfl) (hl : o + new.length ≤ cs.length := by exact Nat.le_of_ble_eq_true rfl) (h1 : new.all AB.one = true := by rfl) : ∃ h', Av.st g h (id, o) new = some h' ∧ HH g h' (c0 :: c1 :: c2 :: c3 :: c4 :: c5 :: c6 :: .obj id (.cells gr 2 ds) :: L) F := a.st 7 rfl hl h1 hd
theorem HH.s9 {c0 c1 c2 c3 c4 c5 c6 c7 c8 : Ck} {id : Nat} {gr : Option TypeId} {cs : List AB} (a : HH g h (c0 :: c1 :: c2 :: c3 :: c4 :: c5 :: c6 :: c7 :: c8 :: .obj id (.cells gr 2 cs) :: L) F) (o : Nat) (new ds : List AB) (hd : Dv cs o new = ds := by rfl) (hl : o + new.length ≤ cs.length := by exact Nat.le_of_ble_eq_true rfl) (h1 : new.all AB.one = true := by rfl) : ∃ h', Av.st g h (id, o) new = some h' ∧ HH g h' (c0 :: c1 :: c2 :: c3 :: c4 :: c5 :: c6 :: c7 :: c8 :: .obj id (.cells gr 2 ds) :: L) F := a.st 9 rfl hl h1 hd
theorem HH.Wn (a : HH g h L F) : ∀ (ks : List Nat) (M : List Ck), ks.Nodup → ks.map (fun k => L[k]?) = M.map some → (CV (M ++ F)).Nodup := by
 intro ks
 induction ks with
 | nil =>
  intro M _ he
  cases M with
  | nil =>
   have := a.nd
   rw [CZ] at this
   exact (List.nodup_append.1 this).2.1
  | cons c M => simp at he
 | cons k ks ih =>
  intro M hn he
  cases M with
  | nil => simp at he
  | cons c M =>
   simp only [List.map_cons, List.cons.injEq] at he
   have hd := (a.front k he.1).nd
   have e : CV (c :: L.eraseIdx k ++ F) = c.ids ++ CV (L.eraseIdx k ++ F) := by simp [CV]
   have e2 : CV (c :: M ++ F) = c.ids ++ CV (M ++ F) := by simp [CV]
   rw [e] at hd
   rw [e2]
   refine List.nodup_append.2 ⟨(List.nodup_append.1 hd).1, ih M (List.nodup_cons.1 hn).2 he.2, fun i hi j hj => ?_⟩
   refine (List.nodup_append.1 hd).2.2 i hi j ?_
   simp only [CV, List.mem_flatMap] at hj ⊢
   obtain ⟨d, hd, hj⟩ := hj
   refine ⟨d, ?_, hj⟩
   rcases List.mem_append.1 hd with hd | hd
   ·refine List.mem_append.2 (.inl ?_)
    have hm : some d ∈ M.map some := List.mem_map.2 ⟨d, hd, rfl⟩
    rw [← he.2] at hm
    obtain ⟨x, hx, hxd⟩ := List.mem_map.1 hm
    exact List.mem_eraseIdx_iff_getElem?.2 ⟨x, fun e => (List.nodup_cons.1 hn).1 (e ▸ hx), hxd⟩
   ·exact List.mem_append.2 (.inr hd)
theorem HH.pick (a : HH g h L F) (ks : List Nat) (M : List Ck) (hn : ks.Nodup) (he : ks.map (fun k => L[k]?) = M.map some) : HH g h M F := by
 have hm : ∀ c ∈ M, c ∈ L := fun c hc => by
  have hm : some c ∈ M.map some := List.mem_map.2 ⟨c, hc, rfl⟩
  rw [← he] at hm
  obtain ⟨x, hx, hxd⟩ := List.mem_map.1 hm
  exact List.mem_of_getElem? hxd
 refine ⟨fun c hc => a.ok c ?_, a.Wn ks M hn he, fun i hi => a.may i ?_, a.Bo, a.floor⟩
 ·rcases List.mem_append.1 hc with h | h
  ·exact List.mem_append.2 (.inl (hm c h))
  ·exact List.mem_append.2 (.inr h)
 ·simp only [CV, List.mem_flatMap] at hi ⊢
  obtain ⟨c, hc, hi⟩ := hi
  exact ⟨c, hm c hc, hi⟩
theorem HH.k1 (a : HH g h L F) (i0 : Nat) {c0 : Ck} (e0 : L[i0]? = some c0 := by rfl) (hd : [i0].Nodup := by decide) : HH g h [c0] F := a.pick [i0] [c0] hd (by simp only [List.map, e0])
theorem HH.k2 (a : HH g h L F) (i0 i1 : Nat) {c0 c1 : Ck} (e0 : L[i0]? = some c0 := by rfl) (e1 : L[i1]? = some c1 := by rfl) (hd : [i0, i1].Nodup := by decide) : HH g h [c0, c1] F := a.pick [i0, i1] [c0, c1] hd (by simp only [List.map, e0, e1])
theorem HH.k3 (a : HH g h L F) (i0 i1 i2 : Nat) {c0 c1 c2 : Ck} (e0 : L[i0]? = some c0 := by rfl) (e1 : L[i1]? = some c1 := by rfl) (e2 : L[i2]? = some c2 := by rfl) (hd : [i0, i1, i2].Nodup := by decide) : HH g h [c0, c1, c2] F := a.pick [i0, i1, i2] [c0, c1, c2] hd (by simp only [List.map, e0, e1, e2])
theorem HH.k4 (a : HH g h L F) (i0 i1 i2 i3 : Nat) {c0 c1 c2 c3 : Ck} (e0 : L[i0]? = some c0 := by rfl) (e1 : L[i1]? = some c1 := by rfl) (e2 : L[i2]? = some c2 := by rfl) (e3 : L[i3]? = some c3 := by rfl) (hd : [i0, i1, i2, i3].Nodup := by decide) : HH g h [c0, c1, c2, c3] F := a.pick [i0, i1, i2, i3] [c0, c1, c2, c3] hd (by simp only [List.map, e0, e1, e2, e3])
theorem HH.k5 (a : HH g h L F) (i0 i1 i2 i3 i4 : Nat) {c0 c1 c2 c3 c4 : Ck} (e0 : L[i0]? = some c0 := by rfl) (e1 : L[i1]? = some c1 := by rfl) (e2 : L[i2]? = some c2 := by rfl) (e3 : L[i3]? = some c3 := by rfl) (e4 : L[i4]? = some c4 := by rfl) (hd : [i0, i1, i2, i3, i4].Nodup := by decide) : HH g h [c0, c1, c2, c3, c4] F := a.pick [i0, i1, i2, i3, i4] [c0, c1, c2, c3, c4] hd (by simp only [List.map, e0, e1, e2, e3, e4])
theorem HH.k6 (a : HH g h L F) (i0 i1 i2 i3 i4 i5 : Nat) {c0 c1 c2 c3 c4 c5 : Ck} (e0 : L[i0]? = some c0 := by rfl) (e1 : L[i1]? = some c1 := by rfl) (e2 : L[i2]? = some c2 := by rfl) (e3 : L[i3]? = some c3 := by rfl) (e4 : L[i4]? = some c4 := by rfl) (e5 : L[i5]? = some c5 := by rfl) (hd : [i0, i1, i2, i3, i4, i5].Nodup := by decide) : HH g h [c0, c1, c2, c3, c4, c5] F := a.pick [i0, i1, i2, i3, i4, i5] [c0, c1, c2, c3, c4, c5] hd (by simp only [List.map, e0, e1, e2, e3, e4, e5])
theorem HH.k7 (a : HH g h L F) (i0 i1 i2 i3 i4 i5 i6 : Nat) {c0 c1 c2 c3 c4 c5 c6 : Ck} (e0 : L[i0]? = some c0 := by rfl) (e1 : L[i1]? = some c1 := by rfl) (e2 : L[i2]? = some c2 := by rfl) (e3 : L[i3]? = some c3 := by rfl) (e4 : L[i4]? = some c4 := by rfl) (e5 : L[i5]? = some c5 := by rfl) (e6 : L[i6]? = some c6 := by rfl) (hd : [i0, i1, i2, i3, i4, i5, i6].Nodup := by decide) : HH g h [c0, c1, c2, c3, c4, c5, c6] F := a.pick [i0, i1, i2, i3, i4, i5, i6] [c0, c1, c2, c3, c4, c5, c6] hd (by simp only [List.map, e0, e1, e2, e3, e4, e5, e6])
theorem HH.k8 (a : HH g h L F) (i0 i1 i2 i3 i4 i5 i6 i7 : Nat) {c0 c1 c2 c3 c4 c5 c6 c7 : Ck} (e0 : L[i0]? = some c0 := by rfl) (e1 : L[i1]? = some c1 := by rfl) (e2 : L[i2]? = some c2 := by rfl) (e3 : L[i3]? = some c3 := by rfl) (e4 : L[i4]? = some c4 := by rfl) (e5 : L[i5]? = some c5 := by rfl) (e6 : L[i6]? = some c6 := by rfl) (e7 : L[i7]? = some c7 := by rfl) (hd : [i0, i1, i2, i3, i4, i5, i6, i7].Nodup := by decide) : HH g h [c0, c1, c2, c3, c4, c5, c6, c7] F := a.pick [i0, i1, i2, i3, i4, i5, i6, i7] [c0, c1, c2, c3, c4, c5, c6, c7] hd (by simp only [List.map, e0, e1, e2, e3, e4, e5, e6, e7])
theorem HH.k9 (a : HH g h L F) (i0 i1 i2 i3 i4 i5 i6 i7 i8 : Nat) {c0 c1 c2 c3 c4 c5 c6 c7 c8 : Ck} (e0 : L[i0]? = some c0 := by rfl) (e1 : L[i1]? = some c1 := by rfl) (e2 : L[i2]? = some c2 := by rfl) (e3 : L[i3]? = some c3 := by rfl) (e4 : L[i4]? = some c4 := by rfl) (e5 : L[i5]? = some c5 := by rfl) (e6 : L[i6]? = some c6 := by rfl) (e7 : L[i7]? = some c7 := by rfl) (e8 : L[i8]? = some c8 := by rfl) (hd : [i0, i1, i2, i3, i4, i5, i6, i7, i8].Nodup := by decide) : HH g h [c0, c1, c2, c3, c4, c5, c6, c7, c8] F := a.pick [i0, i1, i2, i3, i4, i5, i6, i7, i8] [c0, c1, c2, c3, c4, c5, c6, c7, c8] hd (by simp only [List.map, e0, e1, e2, e3, e4, e5, e6, e7, e8])
theorem HH.pu (a : HH g h L F) (o : CY) : ∃ h', h' = h.push o ∧ HH g h' (.obj h.size o :: L) F := ⟨_, rfl, a.push o⟩
theorem HH.pL (a : HH g h L F) (e : TypeId) (cs : List AB) : ∃ h', h' = h.push (.cells (some e) 2 cs) ∧ HH g h' (.AK (some h.size) e cs :: L) F := ⟨_, rfl, a.Wf e cs⟩
theorem HH.la (a : HH g h L F) (k o n : Nat) {id : Nat} {gr : Option TypeId} {cs ds : List AB} (hk : L[k]? = some (.obj id (.cells gr 2 cs)) := by rfl) (hd : o + n ≤ cs.length ∧ (cs.drop o).take n = ds := by exact ⟨Nat.le_of_ble_eq_true rfl, rfl⟩) : Av.F5 h (id, o) n = some ds := a.F5 k hk hd
theorem HH.l1 (a : HH g h L F) (k o : Nat) {id : Nat} {gr : Option TypeId} {cs : List AB} {v : AB} (hk : L[k]? = some (.obj id (.cells gr 2 cs)) := by rfl) (hv : cs[o]? = some v := by rfl) : Av.Ni h (id, o) = some v := a.Ni k hk hv
end
section
variable {C : HS} {f : FuncId} {g : Gd} {ops : Array Oper} {tch : List (Nat × Nat)} {fr : Fr} {h h1 : AJ} {K : Fr → AJ → Prop} {N : Nat} {l : List (Nat × AB)} {i : Nat} {pl : List (Nat × List Nat)} {v : AB} {L F : List Ck}
theorem Has.kn (H : Has fr N l) (d : Nat) {b w : Bool} (hb : b = w) (hd : PE l d = some (.bool b) := by kernel_rfl) : Has fr N (R9 l d (.bool w)) := H.Vi d hb hd
theorem rH {P : Program} {rs : List ResultVar} (H : Has fr N l) (hr : ∀ fr, LL P rs (DG N l fr) h = some v := by intro _; kernel_rfl) : LL P rs fr h = some v := XV H hr
theorem rT {t : Nat} (H : Has fr N l) (hr : ∀ fr, nth (DG N l fr) t = v := by intro _; kernel_rfl) : nth fr t = v := Xa H hr
theorem EN {args args' : List AB} (n : Nat) (rs : List ResultVar) {R : AB → AJ → Prop} (hc : Ba (C.still f) args = args') (hh : AW C f g (LW C.P f) (args' ++ List.replicate (n - args'.length) (.tuple [])) h (fun e fr h' => (e = .ret ∨ e = .normal) ∧ ∃ v, LL C.P rs fr h' = some v ∧ R v h')) (hk : C.kind f = 1 := by kernel_rfl) (hf : IB C.P f = some (n, rs) := by kernel_rfl) : ∃ v h', Bi C g h f args v h' ∧ R v h' := WT hk hc hf hh
theorem XL {args args' : List AB} (n : Nat) (rs : List ResultVar) {R : AB → AJ → Prop} (hc : Ba (C.still f) args = args') (hh : AW C f g (LW C.P f) (args' ++ List.replicate (n - args'.length) (.tuple [])) h (fun e fr h' => (e = .ret ∨ e = .normal) ∧ ∃ v, LL C.P rs fr h' = some v ∧ ∃ v' h'', Oi g h' v = some (v', h'') ∧ R v' h'')) (hk : C.kind f = 7 := by kernel_rfl) (hf : IB C.P f = some (n, rs) := by kernel_rfl) : ∃ v h', Bi C g h f args v h' ∧ R v h' := WD hk hc hf hh
theorem Xy {args args' : List AB} (n : Nat) (rs : List ResultVar) {R : AB → AJ → Prop} (hc : Ba (C.still f) args = args') (hh : AW C f g (LW C.P f) (args' ++ List.replicate (n - args'.length) (.tuple [])) h (fun e fr h' => (e = .ret ∨ e = .normal) ∧ ∃ v, LL C.P rs fr h' = some v ∧ ∃ v' h'', Qy g h' v = some (v', h'') ∧ R v' h'')) (hk : C.kind f = 9 := by kernel_rfl) (hf : IB C.P f = some (n, rs) := by kernel_rfl) : ∃ v h', Bi C g h f args v h' ∧ R v h' := WB hk hc hf hh
theorem bg {args : List AB} {c : Code} {Q : DN → Fr → AJ → Prop} (n : Nat) (ins : List (Nat × AB)) (hh : ∀ fr, Has fr n ins → AW C f g c fr h Q) (hl : (args ++ List.replicate (n - args.length) (AB.tuple [])).length = n := by kernel_rfl) (hi : ins.map (fun p => nth (args ++ List.replicate (n - args.length) (AB.tuple [])) p.1) = ins.map (·.2) := by kernel_rfl) : AW C f g c (args ++ List.replicate (n - args.length) (.tuple [])) h Q := start ins hl hi hh
theorem Ah (k : Nat) (nw : List (Nat × AB)) (d : Nat) (j o : Nat) (A : HH g h L F) {id : Nat} {gr : Option TypeId} {cs : List AB} (H : Has fr N l) (hn : ∀ fr' t, Has fr' N (((d, v) :: List.append nw l)) → AT C g ops (pl.drop (k + 1)) t fr' h K) (hj : L[j]? = some (.obj id (.cells gr 2 cs)) := by rfl) (hv : cs[o]? = some v := by rfl) (hsp : ∀ fr, M9 C.P (Nf C.P ops (ED (pl.take k)) (DG N l fr)) (NJ ops (Gn pl k)) = some ((id, o), none) := by intro _; kernel_rfl) (hk : ∀ fr, (O3 pl k && (Pu (pl.take k) && (Ec ops l (ED (pl.take k)) && (Hf d l && (Hf d nw && Nat.blt d N)))), (F7 C.P ops (ED (pl.take k)) (DG N l fr)).map (fun x => (runs ops x (Gn pl k), HM ops (Gn pl k), nw.map (fun p => nth x p.1)))) = (true, some (true, some d, nw.map (·.2))) := by intro _; kernel_rfl) : AT C g ops pl tch fr h K := BA k nw d v h H (fun fr => .of (EP (hsp fr) (A.Ni j hj hv))) hn hk
theorem GI (d : Nat) (j o : Nat) (A : HH g h L F) {id : Nat} {gr : Option TypeId} {cs : List AB} (H : Has fr N l) (hn : ∀ fr' t, Has fr' N ((d, v) :: l) → AT C g ops pl t fr' h K) (hj : L[j]? = some (.obj id (.cells gr 2 cs)) := by rfl) (hv : cs[o]? = some v := by rfl) (hsp : ∀ fr, M9 C.P (DG N l fr) (NJ ops i) = some ((id, o), none) := by intro _; kernel_rfl) (hw : ∀ fr, (runs ops (DG N l fr) i, HM ops i, Nat.blt d N, Hf d l) = (true, some d, true, true) := by intro _; kernel_rfl) : AT C g ops ((i, []) :: pl) tch fr h K := As d v h H (fun fr => .of (EP (hsp fr) (A.Ni j hj hv))) hn hw
theorem P6 (k : Nat) (nw : List (Nat × AB)) {f' : FuncId} {args : List AB} (hr : Bi C g h f' args v h1) (H : Has fr N l) (hn : ∀ fr' t, Has fr' N ((List.append nw l)) → AT C g ops (pl.drop (k + 1)) t fr' h1 K) (hsp : ∀ fr, Lx (Nf C.P ops (ED (pl.take k)) (DG N l fr)) (NJ ops (Gn pl k)) = some (f', args) := by intro _; kernel_rfl) (hk : ∀ fr, (O3 pl k && (Pu (pl.take k) && (Ec ops l (ED (pl.take k)) && (H3 ops (Gn pl k) l && H3 ops (Gn pl k) nw))), (F7 C.P ops (ED (pl.take k)) (DG N l fr)).map (fun x => (runs ops x (Gn pl k), nw.map (fun p => nth x p.1)))) = (true, some (true, nw.map (·.2))) := by intro _; kernel_rfl) : AT C g ops pl tch fr h K := Tv k nw _ h1 H (fun fr => Steps.call (hsp fr) hr) hn hk
theorem Ap (k : Nat) (nw : List (Nat × AB)) (d : Nat) {f' : FuncId} {args : List AB} (hr : Bi C g h f' args v h1) (H : Has fr N l) (hn : ∀ fr' t, Has fr' N (((d, v) :: List.append nw l)) → AT C g ops (pl.drop (k + 1)) t fr' h1 K) (hsp : ∀ fr, Lx (Nf C.P ops (ED (pl.take k)) (DG N l fr)) (NJ ops (Gn pl k)) = some (f', args) := by intro _; kernel_rfl) (hk : ∀ fr, (O3 pl k && (Pu (pl.take k) && (Ec ops l (ED (pl.take k)) && (Hf d l && (Hf d nw && Nat.blt d N)))), (F7 C.P ops (ED (pl.take k)) (DG N l fr)).map (fun x => (runs ops x (Gn pl k), HM ops (Gn pl k), nw.map (fun p => nth x p.1)))) = (true, some (true, some d, nw.map (·.2))) := by intro _; kernel_rfl) : AT C g ops pl tch fr h K := BA k nw d v h1 H (fun fr => Steps.call (hsp fr) hr) hn hk
theorem RV {f' : FuncId} {args : List AB} (hr : Bi C g h f' args v h1) (H : Has fr N l) (hn : ∀ fr' t, Has fr' N l → AT C g ops pl t fr' h1 K) (hsp : ∀ fr, Lx (DG N l fr) (NJ ops i) = some (f', args) := by intro _; kernel_rfl) (hw : ∀ fr, (runs ops (DG N l fr) i, H3 ops i l) = (true, true) := by intro _; kernel_rfl) : AT C g ops ((i, []) :: pl) tch fr h K := Lb _ h1 H (fun fr => Steps.call (hsp fr) hr) hn hw
theorem A8 (d : Nat) {f' : FuncId} {args : List AB} (hr : Bi C g h f' args v h1) (H : Has fr N l) (hn : ∀ fr' t, Has fr' N ((d, v) :: l) → AT C g ops pl t fr' h1 K) (hsp : ∀ fr, Lx (DG N l fr) (NJ ops i) = some (f', args) := by intro _; kernel_rfl) (hw : ∀ fr, (runs ops (DG N l fr) i, HM ops i, Nat.blt d N, Hf d l) = (true, some d, true, true) := by intro _; kernel_rfl) : AT C g ops ((i, []) :: pl) tch fr h K := As d v h1 H (fun fr => Steps.call (hsp fr) hr) hn hw
theorem Gf (k : Nat) (nw : List (Nat × AB)) (d : Nat) (v : AB) {ob : CY} (e : h1 = h.push ob) (H : Has fr N l) (hn : ∀ fr' t, Has fr' N (((d, v) :: List.append nw l)) → AT C g ops (pl.drop (k + 1)) t fr' h1 K) (hsp : ∀ fr, Wh C.P (Nf C.P ops (ED (pl.take k)) (DG N l fr)) (NJ ops (Gn pl k)) h.size = some (v, ob) := by intro _; kernel_rfl) (hk : ∀ fr, (O3 pl k && (Pu (pl.take k) && (Ec ops l (ED (pl.take k)) && (Hf d l && (Hf d nw && Nat.blt d N)))), (F7 C.P ops (ED (pl.take k)) (DG N l fr)).map (fun x => (runs ops x (Gn pl k), HM ops (Gn pl k), nw.map (fun p => nth x p.1)))) = (true, some (true, some d, nw.map (·.2))) := by intro _; kernel_rfl) : AT C g ops pl tch fr h K := BA k nw d v h1 H (fun fr => .of (TQ (hsp fr) (congrArg some e.symm))) hn hk
theorem BP (d : Nat) (v : AB) {ob : CY} (e : h1 = h.push ob) (H : Has fr N l) (hn : ∀ fr' t, Has fr' N ((d, v) :: l) → AT C g ops pl t fr' h1 K) (hsp : ∀ fr, Wh C.P (DG N l fr) (NJ ops i) h.size = some (v, ob) := by intro _; kernel_rfl) (hw : ∀ fr, (runs ops (DG N l fr) i, HM ops i, Nat.blt d N, Hf d l) = (true, some d, true, true) := by intro _; kernel_rfl) : AT C g ops ((i, []) :: pl) tch fr h K := As d v h1 H (fun fr => .of (TQ (hsp fr) (congrArg some e.symm))) hn hw
theorem Dn (k : Nat) (nw : List (Nat × AB)) {a : Nat × Nat} {v : AB} (hx : Av.st g h a [v] = some h1) (H : Has fr N l) (hn : ∀ fr' t, Has fr' N ((List.append nw l)) → AT C g ops (pl.drop (k + 1)) t fr' h1 K) (hc : v.cells? = some [v] := by rfl) (hsp : ∀ fr, I1 C.P (Nf C.P ops (ED (pl.take k)) (DG N l fr)) (NJ ops (Gn pl k)) = some (a, 1, v) := by intro _; kernel_rfl) (hk : ∀ fr, (O3 pl k && (Pu (pl.take k) && (Ec ops l (ED (pl.take k)) && (H3 ops (Gn pl k) l && H3 ops (Gn pl k) nw))), (F7 C.P ops (ED (pl.take k)) (DG N l fr)).map (fun x => (runs ops x (Gn pl k), nw.map (fun p => nth x p.1)))) = (true, some (true, nw.map (·.2))) := by intro _; kernel_rfl) : AT C g ops pl tch fr h K := Tv k nw _ h1 H (fun fr => .of (N5 (hsp fr) hc hx)) hn hk
theorem Hk {a : Nat × Nat} {v : AB} (hx : Av.st g h a [v] = some h1) (H : Has fr N l) (hn : ∀ fr' t, Has fr' N l → AT C g ops pl t fr' h1 K) (hc : v.cells? = some [v] := by rfl) (hsp : ∀ fr, I1 C.P (DG N l fr) (NJ ops i) = some (a, 1, v) := by intro _; kernel_rfl) (hw : ∀ fr, (runs ops (DG N l fr) i, H3 ops i l) = (true, true) := by intro _; kernel_rfl) : AT C g ops ((i, []) :: pl) tch fr h K := Lb _ h1 H (fun fr => .of (N5 (hsp fr) hc hx)) hn hw
theorem Dm (k : Nat) (nw : List (Nat × AB)) {a : Nat × Nat} {n : Nat} {cs : List AB} (hx : Av.st g h a cs = some h1) (H : Has fr N l) (hn : ∀ fr' t, Has fr' N ((List.append nw l)) → AT C g ops (pl.drop (k + 1)) t fr' h1 K) (hl : cs.length = n := by rfl) (hsp : ∀ fr, I1 C.P (Nf C.P ops (ED (pl.take k)) (DG N l fr)) (NJ ops (Gn pl k)) = some (a, n, .agg cs) := by intro _; kernel_rfl) (hk : ∀ fr, (O3 pl k && (Pu (pl.take k) && (Ec ops l (ED (pl.take k)) && (H3 ops (Gn pl k) l && H3 ops (Gn pl k) nw))), (F7 C.P ops (ED (pl.take k)) (DG N l fr)).map (fun x => (runs ops x (Gn pl k), nw.map (fun p => nth x p.1)))) = (true, some (true, nw.map (·.2))) := by intro _; kernel_rfl) : AT C g ops pl tch fr h K := Tv k nw _ h1 H (fun fr => .of (LZ (hsp fr) (JU hx hl))) hn hk
theorem Cy {a : Nat × Nat} {n : Nat} {cs : List AB} (hx : Av.st g h a cs = some h1) (H : Has fr N l) (hn : ∀ fr' t, Has fr' N l → AT C g ops pl t fr' h1 K) (hl : cs.length = n := by rfl) (hsp : ∀ fr, I1 C.P (DG N l fr) (NJ ops i) = some (a, n, .agg cs) := by intro _; kernel_rfl) (hw : ∀ fr, (runs ops (DG N l fr) i, H3 ops i l) = (true, true) := by intro _; kernel_rfl) : AT C g ops ((i, []) :: pl) tch fr h K := Lb _ h1 H (fun fr => .of (LZ (hsp fr) (JU hx hl))) hn hw
end
section
variable {C : HS} {f : FuncId} {g : Gd} {ops : Array Oper} {tch : List (Nat × Nat)} {fr : Fr} {h : AJ} {N : Nat} {l out : List (Nat × AB)} {c c' : Code} {Q Q' : DN → Fr → AJ → Prop}
theorem B0 (hK : AW C f g c' fr h Q' → Q .normal fr h) (hh : AW C f g c' fr h Q') (hs : shape c = .skip := by kernel_rfl) : AW C f g c fr h Q := Nl hs (hK hh)
theorem F3 (n : Nat) (hK : AW C f g c' fr h Q' → Q .normal fr h) (hh : AT C g (opsOf c') (H2 0 n) [] fr h (fun fr' h' => Q' .normal fr' h')) (hs : shape c = .skip := by kernel_rfl) (hr : Kz c' n = true := by kernel_rfl) : AW C f g c fr h Q := Nl hs (hK (DQ n hh hr))
theorem CN (n : Nat) (hK : AW C f g c' fr h Q' → Q .normal fr h) (hh : AT C g (opsOf (left c')) (H2 0 n) [] fr h (fun fr' h' => L7 (fun fr h => AW C f g (right c') fr h Q') Q' .normal fr' h')) (hs : shape c = .skip := by kernel_rfl) (hq : shape c' = .seq := by kernel_rfl) (hr : Kz (left c') n = true := by kernel_rfl) : AW C f g c fr h Q := Nl hs (hK (Rs hq (DQ n hh hr)))
theorem BK {b w : Bool} (H : Has fr N l) (hb : b = w) (hx : b = w → ∀ fr, out.map (fun p => nth (DG N l fr) p.1) = out.map (·.2) := by intro hb _; first | rfl | (rw [hb]; rfl)) : AT C g ops [] tch fr h (fun fr' h' => h = h' ∧ Has fr' N out) := at_nil ⟨rfl, H.less _ (hx hb)⟩
end
theorem nx {σ ρ : Type} {a : σ} {o : σ ⊕ ρ} {P : σ → Prop} (hm : some (.inl a) = some o) (h : P a) : ∃ s', o = .inl s' ∧ P s' := ⟨a, (Option.some.inj hm).symm, h⟩
theorem nr {σ ρ : Type} {a : ρ} {o : σ ⊕ ρ} {P : ρ → Prop} (hm : some (.inr a) = some o) (h : P a) : ∃ s', o = .inr s' ∧ P s' := ⟨a, (Option.some.inj hm).symm, h⟩
theorem XT {A0 A1 A2 A3 A4 A5 : Type} {x0 y0 : A0} {x1 y1 : A1} {x2 y2 : A2} {x3 y3 : A3} {x4 y4 : A4} {x5 y5 : A5} (h : some (x0, x1, x2, x3, x4, x5) = some (y0, y1, y2, y3, y4, y5)) : x0 = y0 ∧ x1 = y1 ∧ x2 = y2 ∧ x3 = y3 ∧ x4 = y4 ∧ x5 = y5 := by
 obtain ⟨h1, h2⟩ := B6 h
 exact ⟨h1, Tl (congrArg some h2)⟩
theorem Xl {A0 A1 A2 A3 A4 A5 A6 : Type} {x0 y0 : A0} {x1 y1 : A1} {x2 y2 : A2} {x3 y3 : A3} {x4 y4 : A4} {x5 y5 : A5} {x6 y6 : A6} (h : some (x0, x1, x2, x3, x4, x5, x6) = some (y0, y1, y2, y3, y4, y5, y6)) : x0 = y0 ∧ x1 = y1 ∧ x2 = y2 ∧ x3 = y3 ∧ x4 = y4 ∧ x5 = y5 ∧ x6 = y6 := by
 obtain ⟨h1, h2⟩ := B6 h
 exact ⟨h1, XT (congrArg some h2)⟩
theorem U2 {A0 A1 A2 A3 A4 A5 A6 A7 : Type} {x0 y0 : A0} {x1 y1 : A1} {x2 y2 : A2} {x3 y3 : A3} {x4 y4 : A4} {x5 y5 : A5} {x6 y6 : A6} {x7 y7 : A7} (h : some (x0, x1, x2, x3, x4, x5, x6, x7) = some (y0, y1, y2, y3, y4, y5, y6, y7)) : x0 = y0 ∧ x1 = y1 ∧ x2 = y2 ∧ x3 = y3 ∧ x4 = y4 ∧ x5 = y5 ∧ x6 = y6 ∧ x7 = y7 := by
 obtain ⟨h1, h2⟩ := B6 h
 exact ⟨h1, Xl (congrArg some h2)⟩
abbrev Ai (x : Int) : AB := .int .i64 x
abbrev Au (x : Int) : AB := .int .u64 x
abbrev Ab (x : Int) : AB := .int .u8 x
section
variable {C : HS} {f : FuncId} {g : Gd} {ops : Array Oper} {tch : List (Nat × Nat)} {fr : Fr} {h : AJ} {N : Nat} {l : List (Nat × AB)} {pl : List (Nat × List Nat)} {c : Code} {Q : DN → Fr → AJ → Prop}
theorem AP (k : Nat) (nw : List (Nat × AB)) (H : Has fr N l) (hh : ∀ fr', Has fr' N (List.append nw l) → AW C f g c fr' h Q)
  (hk : ∀ fr, (Pu pl, Nat.beq pl.length k, Ec ops l (ED pl), (F7 C.P ops (ED pl) (DG N l fr)).map (fun x => nw.map (fun p => nth x p.1))) = (true, true, true, some (nw.map (·.2))) := by intro _; kernel_rfl) : AT C g ops pl tch fr h (fun fr h => AW C f g c fr h Q) := Ug k nw H (fun _ => id) hh hk
theorem Wy (k : Nat) (nw : List (Nat × AB)) (n : Nat) (H : Has fr N l) (hh : ∀ fr', Has fr' N (List.append nw l) → AT C g (opsOf c) (H2 0 n) [] fr' h (fun fr' h' => Q .normal fr' h'))
  (hk : ∀ fr, (Pu pl, Nat.beq pl.length k, Ec ops l (ED pl), (F7 C.P ops (ED pl) (DG N l fr)).map (fun x => nw.map (fun p => nth x p.1))) = (true, true, true, some (nw.map (·.2))) := by intro _; kernel_rfl) (hr : Kz c n = true := by kernel_rfl) : AT C g ops pl tch fr h (fun fr h => AW C f g c fr h Q) := Wd k nw n H (fun _ => id) hh hk hr
theorem B1 (k : Nat) (nw : List (Nat × AB)) (n : Nat) (H : Has fr N l) (hh : ∀ fr', Has fr' N (List.append nw l) → AT C g (opsOf (left c)) (H2 0 n) [] fr' h (fun fr' h' => L7 (fun fr h => AW C f g (right c) fr h Q) Q .normal fr' h'))
  (hk : ∀ fr, (Pu pl, Nat.beq pl.length k, Ec ops l (ED pl), (F7 C.P ops (ED pl) (DG N l fr)).map (fun x => nw.map (fun p => nth x p.1))) = (true, true, true, some (nw.map (·.2))) := by intro _; kernel_rfl) (hs : shape c = .seq := by kernel_rfl) (hr : Kz (left c) n = true := by kernel_rfl) : AT C g ops pl tch fr h (fun fr h => AW C f g c fr h Q) := W7 k nw n H (fun _ => id) hh hk hs hr
end
end Go.Av
