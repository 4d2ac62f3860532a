/-
 A part.
-/
import Derived.Test.YtlljeoogceblmaaGreatDoorAvTy
import Derived.Test.YtlljeoogceblmaaGreatDoorAvCo
namespace Go.Av
set_option linter.unusedVariables false
set_option linter.unusedSimpArgs false
section
variable {g : Gd} {h h' : AF} {L F : List Ck}
theorem HH.Dx (a : HH g h L F) (b : HH g h' [] (List.append L F)) : HH g h' L F := a.Eg (n := 0) b
theorem HH.YJ {pr : List Nat} (a : HH g h L F) (b : HH ⟨g.floor, List.append pr g.CD⟩ h' [] (List.append L F)) : HH g h' L F := a.Ot (n := 0) b
theorem HH.VA {c0' : Ck} (a : HH g h L F) (b : HH g h' [c0'] (List.append L F)) : HH g h' (c0' :: L) F := a.Eg (n := 0) b
theorem HH.g11 {c0 c0' : Ck} (a : HH g h (c0 :: L) F) (b : HH g h' [c0'] (List.append L F)) : HH g h' (c0' :: L) F := a.Eg (n := 1) b
theorem HH.Y6 {c0 c0' : Ck} {pr : List Nat} (a : HH g h (c0 :: L) F) (b : HH ⟨g.floor, List.append pr g.CD⟩ h' [c0'] (List.append L F)) : HH g h' (c0' :: L) F := a.Ot (n := 1) b
theorem HH.g22 {c0 c1 c0' c1' : Ck} (a : HH g h (c0 :: c1 :: L) F) (b : HH g h' [c0', c1'] (List.append L F)) : HH g h' (c0' :: c1' :: L) F := a.Eg (n := 2) b
theorem HH.Y7 {c0 c1 c0' c1' : Ck} {pr : List Nat} (a : HH g h (c0 :: c1 :: L) F) (b : HH ⟨g.floor, List.append pr g.CD⟩ h' [c0', c1'] (List.append L F)) : HH g h' (c0' :: c1' :: L) F := a.Ot (n := 2) b
theorem HH.g23 {c0 c1 c0' c1' c2' : Ck} (a : HH g h (c0 :: c1 :: L) F) (b : HH g h' [c0', c1', c2'] (List.append L F)) : HH g h' (c0' :: c1' :: c2' :: L) F := a.Eg (n := 2) b
theorem HH.Zd {c0 c1 c2 c0' c1' c2' : Ck} (a : HH g h (c0 :: c1 :: c2 :: L) F) (b : HH g h' [c0', c1', c2'] (List.append L F)) : HH g h' (c0' :: c1' :: c2' :: L) F := a.Eg (n := 3) b
theorem HH.P5 {c0 c1 c2 c3 c0' c1' c2' c3' : Ck} (a : HH g h (c0 :: c1 :: c2 :: c3 :: L) F) (b : HH g h' [c0', c1', c2', c3'] (List.append L F)) : HH g h' (c0' :: c1' :: c2' :: c3' :: L) F := a.Eg (n := 4) b
theorem HH.Zp {c0 c1 c2 c3 c0' c1' c2' c3' c4' : Ck} (a : HH g h (c0 :: c1 :: c2 :: c3 :: L) F) (b : HH g h' [c0', c1', c2', c3', c4'] (List.append L F)) : HH g h' (c0' :: c1' :: c2' :: c3' :: c4' :: L) F := a.Eg (n := 4) b
theorem HH.d0 (a : HH g h L F) : HH g h [] F := a.Nz 0
theorem HH.d1 {c0 : Ck} (a : HH g h (c0 :: L) F) : HH g h [c0] F := a.Nz 1
theorem HH.d5 {c0 c1 c2 c3 c4 : Ck} (a : HH g h (c0 :: c1 :: c2 :: c3 :: c4 :: L) F) : HH g h [c0, c1, c2, c3, c4] F := a.Nz 5
theorem HH.s0 {id : Nat} {gr : Option TypeId} {cs : List AB} (a : HH g h (.obj id (.cells gr 2 cs) :: L) F) (o : Nat) (new ds : List AB) (hd : Ds cs o (LU gr new) = ds := by rfl) (I : o + new.length ≤ cs.length := by exact Nat.le_of_ble_eq_true rfl) (h1 : new.all AB.one = true := by rfl) : ∃ h', Av.st g h (id, o) new = some h' ∧ HH g h' (.obj id (.cells gr 2 ds) :: L) F := a.st 0 rfl I h1 hd
theorem HH.s1 {c0 : Ck} {id : Nat} {gr : Option TypeId} {cs : List AB} (a : HH g h (c0 :: .obj id (.cells gr 2 cs) :: L) F) (o : Nat) (new ds : List AB) (hd : Ds cs o (LU gr new) = ds := by rfl) (I : o + new.length ≤ cs.length := by exact Nat.le_of_ble_eq_true rfl) (h1 : new.all AB.one = true := by rfl) : ∃ h', Av.st g h (id, o) new = some h' ∧ HH g h' (c0 :: .obj id (.cells gr 2 ds) :: L) F := a.st 1 rfl I h1 hd
theorem HH.s2 {c0 c1 : Ck} {id : Nat} {gr : Option TypeId} {cs : List AB} (a : HH g h (c0 :: c1 :: .obj id (.cells gr 2 cs) :: L) F) (o : Nat) (new ds : List AB) (hd : Ds cs o (LU gr new) = ds := by rfl) (I : o + new.length ≤ cs.length := by exact Nat.le_of_ble_eq_true rfl) (h1 : new.all AB.one = true := by rfl) : ∃ h', Av.st g h (id, o) new = some h' ∧ HH g h' (c0 :: c1 :: .obj id (.cells gr 2 ds) :: L) F := a.st 2 rfl I h1 hd
theorem HH.s3 {c0 c1 c2 : Ck} {id : Nat} {gr : Option TypeId} {cs : List AB} (a : HH g h (c0 :: c1 :: c2 :: .obj id (.cells gr 2 cs) :: L) F) (o : Nat) (new ds : List AB) (hd : Ds cs o (LU gr new) = ds := by rfl) (I : o + new.length ≤ cs.length := by exact Nat.le_of_ble_eq_true rfl) (h1 : new.all AB.one = true := by rfl) : ∃ h', Av.st g h (id, o) new = some h' ∧ HH g h' (c0 :: c1 :: c2 :: .obj id (.cells gr 2 ds) :: L) F := a.st 3 rfl I h1 hd
theorem HH.s4 {c0 c1 c2 c3 : Ck} {id : Nat} {gr : Option TypeId} {cs : List AB} (a : HH g h (c0 :: c1 :: c2 :: c3 :: .obj id (.cells gr 2 cs) :: L) F) (o : Nat) (new ds : List AB) (hd : Ds cs o (LU gr new) = ds := by rfl) (I : o + new.length ≤ cs.length := by exact Nat.le_of_ble_eq_true rfl) (h1 : new.all AB.one = true := by rfl) : ∃ h', Av.st g h (id, o) new = some h' ∧ HH g h' (c0 :: c1 :: c2 :: c3 :: .obj id (.cells gr 2 ds) :: L) F := a.st 4 rfl I h1 hd
theorem HH.s5 {c0 c1 c2 c3 c4 : Ck} {id : Nat} {gr : Option TypeId} {cs : List AB} (a : HH g h (c0 :: c1 :: c2 :: c3 :: c4 :: .obj id (.cells gr 2 cs) :: L) F) (o : Nat) (new ds : List AB) (hd : Ds cs o (LU gr new) = ds := by rfl) (I : o + new.length ≤ cs.length := by exact Nat.le_of_ble_eq_true rfl) (h1 : new.all AB.one = true := by rfl) : ∃ h', Av.st g h (id, o) new = some h' ∧ HH g h' (c0 :: c1 :: c2 :: c3 :: c4 :: .obj id (.cells gr 2 ds) :: L) F := a.st 5 rfl I h1 hd
theorem HH.Xy (a : HH g h L F) : ∀ (ks : List Nat) (M : List Ck), ks.Nodup → ks.map (fun k => L[k]?) = M.map some → (C6 (M ++ F)).Nodup := by
 intro ks
 induction ks with
 | nil =>
  intro M _ he
  cases M with
  | nil =>
   have := a.nd
   rw [Cn] at this
   exact (List.nodup_append.1 this).2.1
  | cons c M => simp at he
 | cons k ks ih =>
  intro M D he
  cases M with
  | nil => simp at he
  | cons c M =>
   simp only [List.map_cons, List.cons.injEq] at he
   have hd := (a.front k he.1).nd
   have e : C6 (c :: L.eraseIdx k ++ F) = c.ids ++ C6 (L.eraseIdx k ++ F) := by simp [C6]
   have e2 : C6 (c :: M ++ F) = c.ids ++ C6 (M ++ F) := by simp [C6]
   rw [e] at hd
   rw [e2]
   refine List.nodup_append.2 ⟨(List.nodup_append.1 hd).1, ih M (List.nodup_cons.1 D).2 he.2, fun i hi j O => ?_⟩
   refine (List.nodup_append.1 hd).2.2 i hi j ?_
   simp only [C6, List.mem_flatMap] at O ⊢
   obtain ⟨d, hd, O⟩ := O
   refine ⟨d, ?_, O⟩
   rcases List.mem_append.1 hd with hd | hd
   ·refine List.mem_append.2 (.inl ?_)
    have hm : some d ∈ M.map some := List.mem_map.2 ⟨d, hd, rfl⟩
    rw [← he.2] at hm
    obtain ⟨x, J, S⟩ := List.mem_map.1 hm
    exact List.mem_eraseIdx_iff_getElem?.2 ⟨x, fun e => (List.nodup_cons.1 D).1 (e ▸ J), S⟩
   ·exact List.mem_append.2 (.inr hd)
theorem HH.pick (a : HH g h L F) (ks : List Nat) (M : List Ck) (D : ks.Nodup) (he : ks.map (fun k => L[k]?) = M.map some) : HH g h M F := by
 have hm : ∀ c ∈ M, c ∈ L := fun c hc => by
  have hm : some c ∈ M.map some := List.mem_map.2 ⟨c, hc, rfl⟩
  rw [← he] at hm
  obtain ⟨x, J, S⟩ := List.mem_map.1 hm
  exact List.mem_of_getElem? S
 refine ⟨fun c hc => a.ok c ?_, a.Xy ks M D he, fun i hi => a.may i ?_, a.CD, a.floor⟩
 ·rcases List.mem_append.1 hc with h | h
  ·exact List.mem_append.2 (.inl (hm c h))
  ·exact List.mem_append.2 (.inr h)
 ·simp only [C6, List.mem_flatMap] at hi ⊢
  obtain ⟨c, hc, hi⟩ := hi
  exact ⟨c, hm c hc, hi⟩
theorem HH.k1 (a : HH g h L F) (i0 : Nat) {c0 : Ck} (e0 : L[i0]? = some c0 := by rfl) (hd : [i0].Nodup := by decide) : HH g h [c0] F := a.pick [i0] [c0] hd (by simp only [List.map, e0])
theorem HH.k2 (a : HH g h L F) (i0 i1 : Nat) {c0 c1 : Ck} (e0 : L[i0]? = some c0 := by rfl) (e1 : L[i1]? = some c1 := by rfl) (hd : [i0, i1].Nodup := by decide) : HH g h [c0, c1] F := a.pick [i0, i1] [c0, c1] hd (by simp only [List.map, e0, e1])
theorem HH.k3 (a : HH g h L F) (i0 i1 i2 : Nat) {c0 c1 c2 : Ck} (e0 : L[i0]? = some c0 := by rfl) (e1 : L[i1]? = some c1 := by rfl) (e2 : L[i2]? = some c2 := by rfl) (hd : [i0, i1, i2].Nodup := by decide) : HH g h [c0, c1, c2] F := a.pick [i0, i1, i2] [c0, c1, c2] hd (by simp only [List.map, e0, e1, e2])
theorem HH.k4 (a : HH g h L F) (i0 i1 i2 i3 : Nat) {c0 c1 c2 c3 : Ck} (e0 : L[i0]? = some c0 := by rfl) (e1 : L[i1]? = some c1 := by rfl) (e2 : L[i2]? = some c2 := by rfl) (e3 : L[i3]? = some c3 := by rfl) (hd : [i0, i1, i2, i3].Nodup := by decide) : HH g h [c0, c1, c2, c3] F := a.pick [i0, i1, i2, i3] [c0, c1, c2, c3] hd (by simp only [List.map, e0, e1, e2, e3])
theorem HH.k5 (a : HH g h L F) (i0 i1 i2 i3 i4 : Nat) {c0 c1 c2 c3 c4 : Ck} (e0 : L[i0]? = some c0 := by rfl) (e1 : L[i1]? = some c1 := by rfl) (e2 : L[i2]? = some c2 := by rfl) (e3 : L[i3]? = some c3 := by rfl) (e4 : L[i4]? = some c4 := by rfl) (hd : [i0, i1, i2, i3, i4].Nodup := by decide) : HH g h [c0, c1, c2, c3, c4] F := a.pick [i0, i1, i2, i3, i4] [c0, c1, c2, c3, c4] hd (by simp only [List.map, e0, e1, e2, e3, e4])
theorem HH.k6 (a : HH g h L F) (i0 i1 i2 i3 i4 i5 : Nat) {c0 c1 c2 c3 c4 c5 : Ck} (e0 : L[i0]? = some c0 := by rfl) (e1 : L[i1]? = some c1 := by rfl) (e2 : L[i2]? = some c2 := by rfl) (e3 : L[i3]? = some c3 := by rfl) (e4 : L[i4]? = some c4 := by rfl) (e5 : L[i5]? = some c5 := by rfl) (hd : [i0, i1, i2, i3, i4, i5].Nodup := by decide) : HH g h [c0, c1, c2, c3, c4, c5] F := a.pick [i0, i1, i2, i3, i4, i5] [c0, c1, c2, c3, c4, c5] hd (by simp only [List.map, e0, e1, e2, e3, e4, e5])
theorem HH.k7 (a : HH g h L F) (i0 i1 i2 i3 i4 i5 i6 : Nat) {c0 c1 c2 c3 c4 c5 c6 : Ck} (e0 : L[i0]? = some c0 := by rfl) (e1 : L[i1]? = some c1 := by rfl) (e2 : L[i2]? = some c2 := by rfl) (e3 : L[i3]? = some c3 := by rfl) (e4 : L[i4]? = some c4 := by rfl) (e5 : L[i5]? = some c5 := by rfl) (e6 : L[i6]? = some c6 := by rfl) (hd : [i0, i1, i2, i3, i4, i5, i6].Nodup := by decide) : HH g h [c0, c1, c2, c3, c4, c5, c6] F := a.pick [i0, i1, i2, i3, i4, i5, i6] [c0, c1, c2, c3, c4, c5, c6] hd (by simp only [List.map, e0, e1, e2, e3, e4, e5, e6])
theorem HH.k8 (a : HH g h L F) (i0 i1 i2 i3 i4 i5 i6 i7 : Nat) {c0 c1 c2 c3 c4 c5 c6 c7 : Ck} (e0 : L[i0]? = some c0 := by rfl) (e1 : L[i1]? = some c1 := by rfl) (e2 : L[i2]? = some c2 := by rfl) (e3 : L[i3]? = some c3 := by rfl) (e4 : L[i4]? = some c4 := by rfl) (e5 : L[i5]? = some c5 := by rfl) (e6 : L[i6]? = some c6 := by rfl) (e7 : L[i7]? = some c7 := by rfl) (hd : [i0, i1, i2, i3, i4, i5, i6, i7].Nodup := by decide) : HH g h [c0, c1, c2, c3, c4, c5, c6, c7] F := a.pick [i0, i1, i2, i3, i4, i5, i6, i7] [c0, c1, c2, c3, c4, c5, c6, c7] hd (by simp only [List.map, e0, e1, e2, e3, e4, e5, e6, e7])
theorem HH.k9 (a : HH g h L F) (i0 i1 i2 i3 i4 i5 i6 i7 i8 : Nat) {c0 c1 c2 c3 c4 c5 c6 c7 c8 : Ck} (e0 : L[i0]? = some c0 := by rfl) (e1 : L[i1]? = some c1 := by rfl) (e2 : L[i2]? = some c2 := by rfl) (e3 : L[i3]? = some c3 := by rfl) (e4 : L[i4]? = some c4 := by rfl) (e5 : L[i5]? = some c5 := by rfl) (e6 : L[i6]? = some c6 := by rfl) (e7 : L[i7]? = some c7 := by rfl) (e8 : L[i8]? = some c8 := by rfl) (hd : [i0, i1, i2, i3, i4, i5, i6, i7, i8].Nodup := by decide) : HH g h [c0, c1, c2, c3, c4, c5, c6, c7, c8] F := a.pick [i0, i1, i2, i3, i4, i5, i6, i7, i8] [c0, c1, c2, c3, c4, c5, c6, c7, c8] hd (by simp only [List.map, e0, e1, e2, e3, e4, e5, e6, e7, e8])
theorem HH.pu (a : HH g h L F) (o : CJ) : ∃ h', h' = h.push o ∧ HH g h' (.obj h.size o :: L) F := ⟨_, rfl, a.push o⟩
theorem HH.pL (a : HH g h L F) (e : TypeId) (cs : List AB) : ∃ h', h' = h.push (.cells (some e) 2 cs) ∧ HH g h' (.AQ (some h.size) e cs :: L) F := ⟨_, rfl, a.Se e cs⟩
theorem HH.la (a : HH g h L F) (k o n : Nat) {id : Nat} {gr : Option TypeId} {cs ds : List AB} (hk : L[k]? = some (.obj id (.cells gr 2 cs)) := by rfl) (hd : o + n ≤ cs.length ∧ (cs.drop o).take n = ds := by exact ⟨Nat.le_of_ble_eq_true rfl, rfl⟩) : Av.Ef h (id, o) n = some ds := a.Ef k hk hd
theorem HH.l1 (a : HH g h L F) (k o : Nat) {id : Nat} {gr : Option TypeId} {cs : List AB} {v : AB} (hk : L[k]? = some (.obj id (.cells gr 2 cs)) := by rfl) (U : cs[o]? = some v := by rfl) : Av.ld1 h (id, o) = some v := a.ld1 k hk U
end
section
variable {C : E8} {f : FuncId} {g : Gd} {ops : Array Oper} {tch : List (Nat × Nat)} {fr : Fr} {h h1 : AF} {K : Fr → AF → Prop} {N : Nat} {l : List (Nat × AB)} {i : Nat} {pl : List (Nat × List Nat)} {v : AB} {L F : List Ck}
theorem Has.kn (H : Has fr N l) (d : Nat) {b w : Bool} (W : b = w) (hd : PF l d = some (.bool b) := by kernel_rfl) : Has fr N (Nd l d (.bool w)) := H.XO d W hd
theorem rH {P : Program} {rs : List ResultVar} (H : Has fr N l) (G : ∀ fr, Jd P rs (Cm N l fr) h = some v := by intro _; kernel_rfl) : Jd P rs fr h = some v := ZT H G
theorem rT {t : Nat} (H : Has fr N l) (G : ∀ fr, nth (Cm N l fr) t = v := by intro _; kernel_rfl) : nth fr t = v := Y9 H G
theorem EE {args args' : List AB} (n : Nat) (rs : List ResultVar) {R : AB → AF → Prop} (hc : BP (C.still f) args = args') (E : AW C f g (DS C.P f) (args' ++ List.replicate (n - args'.length) (.tuple [])) h (fun e fr h' => (e = .ret ∨ e = .normal) ∧ ∃ v, Jd C.P rs fr h' = some v ∧ R v h')) (hk : C.kind f = 1 := by kernel_rfl) (V : Ez C.P f = some (n, rs) := by kernel_rfl) : ∃ v h', BZ C g h f args v h' ∧ R v h' := Wq hk hc V E
theorem Zo {args args' : List AB} (n : Nat) (rs : List ResultVar) {R : AB → AF → Prop} (hc : BP (C.still f) args = args') (E : AW C f g (DS C.P f) (args' ++ List.replicate (n - args'.length) (.tuple [])) h (fun e fr h' => (e = .ret ∨ e = .normal) ∧ ∃ v, Jd C.P rs fr h' = some v ∧ ∃ v' h'', M1 g h' v = some (v', h'') ∧ R v' h'')) (hk : C.kind f = 7 := by kernel_rfl) (V : Ez C.P f = some (n, rs) := by kernel_rfl) : ∃ v h', BZ C g h f args v h' ∧ R v h' := W6 hk hc V E
theorem Ze {args args' : List AB} (n : Nat) (rs : List ResultVar) {R : AB → AF → Prop} (hc : BP (C.still f) args = args') (E : OJ C f g (DS C.P f) (args' ++ List.replicate (n - args'.length) (.tuple [])) h (fun e fr h' => (e = .ret ∨ e = .normal) ∧ ∃ v, Jd C.P rs fr h' = some v ∧ R v h')) (hk : C.kind f = 8 := by kernel_rfl) (V : Ez C.P f = some (n, rs) := by kernel_rfl) : ∃ v h', BZ C g h f args v h' ∧ R v h' := W9 hk hc V E
theorem bg {args : List AB} {c : Code} {Q : B2 → Fr → AF → Prop} (n : Nat) (ins : List (Nat × AB)) (E : ∀ fr, Has fr n ins → AW C f g c fr h Q) (I : (args ++ List.replicate (n - args.length) (AB.tuple [])).length = n := by kernel_rfl) (hi : ins.map (fun p => nth (args ++ List.replicate (n - args.length) (AB.tuple [])) p.1) = ins.map (·.2) := by kernel_rfl) : AW C f g c (args ++ List.replicate (n - args.length) (.tuple [])) h Q := start ins I hi E
theorem Zc {args : List AB} {c : Code} {Q : B2 → Fr → AF → Prop} (n : Nat) (ins : List (Nat × AB)) (E : ∀ fr, Has fr n ins → OJ C f g c fr h Q) (I : (args ++ List.replicate (n - args.length) (AB.tuple [])).length = n := by kernel_rfl) (hi : ins.map (fun p => nth (args ++ List.replicate (n - args.length) (AB.tuple [])) p.1) = ins.map (·.2) := by kernel_rfl) : OJ C f g c (args ++ List.replicate (n - args.length) (.tuple [])) h Q := Wt ins I hi E
theorem AX (k : Nat) (nw : List (Nat × AB)) (d : Nat) (j o : Nat) (A : HH g h L F) {id : Nat} {gr : Option TypeId} {cs : List AB} (H : Has fr N l) (D : ∀ fr' t, Has fr' N (((d, v) :: List.append nw l)) → AT C g ops (pl.drop (k + 1)) t fr' h K) (O : L[j]? = some (.obj id (.cells gr 2 cs)) := by rfl) (U : cs[o]? = some v := by rfl) (B : ∀ fr, MO C.P (M5 C.P ops (Dc (pl.take k)) (Cm N l fr)) (L4 ops (Fk pl k)) = some ((id, o), none) := by intro _; kernel_rfl) (hk : ∀ fr, (OQ pl k && (P4 (pl.take k) && (Dw ops l (Dc (pl.take k)) && (Gh d l && (Gh d nw && Nat.blt d N)))), (FB C.P ops (Dc (pl.take k)) (Cm N l fr)).map (fun x => (runs ops x (Fk pl k), F3 ops (Fk pl k), nw.map (fun p => nth x p.1)))) = (true, some (true, some d, nw.map (·.2))) := by intro _; kernel_rfl) : AT C g ops pl tch fr h K := B0 k nw d v h H (fun fr => .of (Ib (B fr) (A.ld1 j O U))) D hk
theorem Mg (d : Nat) (j o : Nat) (A : HH g h L F) {id : Nat} {gr : Option TypeId} {cs : List AB} (H : Has fr N l) (D : ∀ fr' t, Has fr' N ((d, v) :: l) → AT C g ops pl t fr' h K) (O : L[j]? = some (.obj id (.cells gr 2 cs)) := by rfl) (U : cs[o]? = some v := by rfl) (B : ∀ fr, MO C.P (Cm N l fr) (L4 ops i) = some ((id, o), none) := by intro _; kernel_rfl) (hw : ∀ fr, (runs ops (Cm N l fr) i, F3 ops i, Nat.blt d N, Gh d l) = (true, some d, true, true) := by intro _; kernel_rfl) : AT C g ops ((i, []) :: pl) tch fr h K := Ae d v h H (fun fr => .of (Ib (B fr) (A.ld1 j O U))) D hw
theorem El (k : Nat) (nw : List (Nat × AB)) {f' : FuncId} {args : List AB} (G : BZ C g h f' args v h1) (H : Has fr N l) (D : ∀ fr' t, Has fr' N ((List.append nw l)) → AT C g ops (pl.drop (k + 1)) t fr' h1 K) (B : ∀ fr, K7 (M5 C.P ops (Dc (pl.take k)) (Cm N l fr)) (L4 ops (Fk pl k)) = some (f', args) := by intro _; kernel_rfl) (hk : ∀ fr, (OQ pl k && (P4 (pl.take k) && (Dw ops l (Dc (pl.take k)) && (Gy ops (Fk pl k) l && Gy ops (Fk pl k) nw))), (FB C.P ops (Dc (pl.take k)) (Cm N l fr)).map (fun x => (runs ops x (Fk pl k), nw.map (fun p => nth x p.1)))) = (true, some (true, nw.map (·.2))) := by intro _; kernel_rfl) : AT C g ops pl tch fr h K := Tz k nw _ h1 H (fun fr => Steps.call (B fr) G) D hk
theorem BC (k : Nat) (nw : List (Nat × AB)) (d : Nat) {f' : FuncId} {args : List AB} (G : BZ C g h f' args v h1) (H : Has fr N l) (D : ∀ fr' t, Has fr' N (((d, v) :: List.append nw l)) → AT C g ops (pl.drop (k + 1)) t fr' h1 K) (B : ∀ fr, K7 (M5 C.P ops (Dc (pl.take k)) (Cm N l fr)) (L4 ops (Fk pl k)) = some (f', args) := by intro _; kernel_rfl) (hk : ∀ fr, (OQ pl k && (P4 (pl.take k) && (Dw ops l (Dc (pl.take k)) && (Gh d l && (Gh d nw && Nat.blt d N)))), (FB C.P ops (Dc (pl.take k)) (Cm N l fr)).map (fun x => (runs ops x (Fk pl k), F3 ops (Fk pl k), nw.map (fun p => nth x p.1)))) = (true, some (true, some d, nw.map (·.2))) := by intro _; kernel_rfl) : AT C g ops pl tch fr h K := B0 k nw d v h1 H (fun fr => Steps.call (B fr) G) D hk
theorem KB {f' : FuncId} {args : List AB} (G : BZ C g h f' args v h1) (H : Has fr N l) (D : ∀ fr' t, Has fr' N l → AT C g ops pl t fr' h1 K) (B : ∀ fr, K7 (Cm N l fr) (L4 ops i) = some (f', args) := by intro _; kernel_rfl) (hw : ∀ fr, (runs ops (Cm N l fr) i, Gy ops i l) = (true, true) := by intro _; kernel_rfl) : AT C g ops ((i, []) :: pl) tch fr h K := Fu _ h1 H (fun fr => Steps.call (B fr) G) D hw
theorem BM (d : Nat) {f' : FuncId} {args : List AB} (G : BZ C g h f' args v h1) (H : Has fr N l) (D : ∀ fr' t, Has fr' N ((d, v) :: l) → AT C g ops pl t fr' h1 K) (B : ∀ fr, K7 (Cm N l fr) (L4 ops i) = some (f', args) := by intro _; kernel_rfl) (hw : ∀ fr, (runs ops (Cm N l fr) i, F3 ops i, Nat.blt d N, Gh d l) = (true, some d, true, true) := by intro _; kernel_rfl) : AT C g ops ((i, []) :: pl) tch fr h K := Ae d v h1 H (fun fr => Steps.call (B fr) G) D hw
theorem K2 (k : Nat) (nw : List (Nat × AB)) (d : Nat) (v : AB) {ob : CJ} (e : h1 = h.push ob) (H : Has fr N l) (D : ∀ fr' t, Has fr' N (((d, v) :: List.append nw l)) → AT C g ops (pl.drop (k + 1)) t fr' h1 K) (B : ∀ fr, Xe C.P (M5 C.P ops (Dc (pl.take k)) (Cm N l fr)) (L4 ops (Fk pl k)) h.size = some (v, ob) := by intro _; kernel_rfl) (hk : ∀ fr, (OQ pl k && (P4 (pl.take k) && (Dw ops l (Dc (pl.take k)) && (Gh d l && (Gh d nw && Nat.blt d N)))), (FB C.P ops (Dc (pl.take k)) (Cm N l fr)).map (fun x => (runs ops x (Fk pl k), F3 ops (Fk pl k), nw.map (fun p => nth x p.1)))) = (true, some (true, some d, nw.map (·.2))) := by intro _; kernel_rfl) : AT C g ops pl tch fr h K := B0 k nw d v h1 H (fun fr => .of (TQ (B fr) (congrArg some e.symm))) D hk
theorem BU (d : Nat) (v : AB) {ob : CJ} (e : h1 = h.push ob) (H : Has fr N l) (D : ∀ fr' t, Has fr' N ((d, v) :: l) → AT C g ops pl t fr' h1 K) (B : ∀ fr, Xe C.P (Cm N l fr) (L4 ops i) h.size = some (v, ob) := by intro _; kernel_rfl) (hw : ∀ fr, (runs ops (Cm N l fr) i, F3 ops i, Nat.blt d N, Gh d l) = (true, some d, true, true) := by intro _; kernel_rfl) : AT C g ops ((i, []) :: pl) tch fr h K := Ae d v h1 H (fun fr => .of (TQ (B fr) (congrArg some e.symm))) D hw
theorem Bu (k : Nat) (nw : List (Nat × AB)) {a : Nat × Nat} {v : AB} (J : Av.st g h a [v] = some h1) (H : Has fr N l) (D : ∀ fr' t, Has fr' N ((List.append nw l)) → AT C g ops (pl.drop (k + 1)) t fr' h1 K) (hc : v.cells? = some [v] := by rfl) (B : ∀ fr, IC C.P (M5 C.P ops (Dc (pl.take k)) (Cm N l fr)) (L4 ops (Fk pl k)) = some (a, 1, v) := by intro _; kernel_rfl) (hk : ∀ fr, (OQ pl k && (P4 (pl.take k) && (Dw ops l (Dc (pl.take k)) && (Gy ops (Fk pl k) l && Gy ops (Fk pl k) nw))), (FB C.P ops (Dc (pl.take k)) (Cm N l fr)).map (fun x => (runs ops x (Fk pl k), nw.map (fun p => nth x p.1)))) = (true, some (true, nw.map (·.2))) := by intro _; kernel_rfl) : AT C g ops pl tch fr h K := Tz k nw _ h1 H (fun fr => .of (Sr (B fr) hc J)) D hk
theorem JX {a : Nat × Nat} {v : AB} (J : Av.st g h a [v] = some h1) (H : Has fr N l) (D : ∀ fr' t, Has fr' N l → AT C g ops pl t fr' h1 K) (hc : v.cells? = some [v] := by rfl) (B : ∀ fr, IC C.P (Cm N l fr) (L4 ops i) = some (a, 1, v) := by intro _; kernel_rfl) (hw : ∀ fr, (runs ops (Cm N l fr) i, Gy ops i l) = (true, true) := by intro _; kernel_rfl) : AT C g ops ((i, []) :: pl) tch fr h K := Fu _ h1 H (fun fr => .of (Sr (B fr) hc J)) D hw
theorem Jp (k : Nat) (nw : List (Nat × AB)) {a : Nat × Nat} {n : Nat} {cs : List AB} (J : Av.st g h a cs = some h1) (H : Has fr N l) (D : ∀ fr' t, Has fr' N ((List.append nw l)) → AT C g ops (pl.drop (k + 1)) t fr' h1 K) (I : cs.length = n := by rfl) (B : ∀ fr, IC C.P (M5 C.P ops (Dc (pl.take k)) (Cm N l fr)) (L4 ops (Fk pl k)) = some (a, n, .agg cs) := by intro _; kernel_rfl) (hk : ∀ fr, (OQ pl k && (P4 (pl.take k) && (Dw ops l (Dc (pl.take k)) && (Gy ops (Fk pl k) l && Gy ops (Fk pl k) nw))), (FB C.P ops (Dc (pl.take k)) (Cm N l fr)).map (fun x => (runs ops x (Fk pl k), nw.map (fun p => nth x p.1)))) = (true, some (true, nw.map (·.2))) := by intro _; kernel_rfl) : AT C g ops pl tch fr h K := Tz k nw _ h1 H (fun fr => .of (Nj (B fr) (LK J I))) D hk
theorem C9 {a : Nat × Nat} {n : Nat} {cs : List AB} (J : Av.st g h a cs = some h1) (H : Has fr N l) (D : ∀ fr' t, Has fr' N l → AT C g ops pl t fr' h1 K) (I : cs.length = n := by rfl) (B : ∀ fr, IC C.P (Cm N l fr) (L4 ops i) = some (a, n, .agg cs) := by intro _; kernel_rfl) (hw : ∀ fr, (runs ops (Cm N l fr) i, Gy ops i l) = (true, true) := by intro _; kernel_rfl) : AT C g ops ((i, []) :: pl) tch fr h K := Fu _ h1 H (fun fr => .of (Nj (B fr) (LK J I))) D hw
end
section
variable {C : E8} {f : FuncId} {g : Gd} {ops : Array Oper} {tch : List (Nat × Nat)} {fr : Fr} {h : AF} {N : Nat} {l out : List (Nat × AB)} {c c' : Code} {Q Q' : B2 → Fr → AF → Prop}
theorem CT (X : AW C f g c' fr h Q' → Q .normal fr h) (E : AW C f g c' fr h Q') (T : shape c = .skip := by kernel_rfl) : AW C f g c fr h Q := NH T (X E)
theorem EX (n : Nat) (X : AW C f g c' fr h Q' → Q .normal fr h) (E : AT C g (opsOf c') (Eo 0 n) [] fr h (fun fr' h' => Q' .normal fr' h')) (T : shape c = .skip := by kernel_rfl) (G : J8 c' n = true := by kernel_rfl) : AW C f g c fr h Q := NH T (X (CE n E G))
theorem B3 (n : Nat) (X : AW C f g c' fr h Q' → Q .normal fr h) (E : AT C g (opsOf (left c')) (Eo 0 n) [] fr h (fun fr' h' => KF (fun fr h => AW C f g (right c') fr h Q') Q' .normal fr' h')) (T : shape c = .skip := by kernel_rfl) (hq : shape c' = .seq := by kernel_rfl) (G : J8 (left c') n = true := by kernel_rfl) : AW C f g c fr h Q := NH T (X (R4 hq (CE n E G)))
theorem A8 {b w : Bool} (H : Has fr N l) (W : b = w) (J : b = w → ∀ fr, out.map (fun p => nth (Cm N l fr) p.1) = out.map (·.2) := by intro W _; first | rfl | (rw [W]; rfl)) : AT C g ops [] tch fr h (fun fr' h' => h = h' ∧ Has fr' N out) := at_nil ⟨rfl, H.less _ (J W)⟩
end
theorem nx {σ ρ : Type} {a : σ} {o : σ ⊕ ρ} {P : σ → Prop} (hm : some (.inl a) = some o) (h : P a) : ∃ s', o = .inl s' ∧ P s' := ⟨a, (Option.some.inj hm).symm, h⟩
theorem nr {σ ρ : Type} {a : ρ} {o : σ ⊕ ρ} {P : ρ → Prop} (hm : some (.inr a) = some o) (h : P a) : ∃ s', o = .inr s' ∧ P s' := ⟨a, (Option.some.inj hm).symm, h⟩
theorem Y0 {A0 A1 A2 A3 A4 A5 : Type} {x0 y0 : A0} {x1 y1 : A1} {x2 y2 : A2} {x3 y3 : A3} {x4 y4 : A4} {x5 y5 : A5} (h : some (x0, x1, x2, x3, x4, x5) = some (y0, y1, y2, y3, y4, y5)) : x0 = y0 ∧ x1 = y1 ∧ x2 = y2 ∧ x3 = y3 ∧ x4 = y4 ∧ x5 = y5 := by
 obtain ⟨h1, h2⟩ := B4 h
 exact ⟨h1, Va (congrArg some h2)⟩
abbrev Ai (x : Int) : AB := .int .i64 x
abbrev Ab (x : Int) : AB := .int .u8 x
section
variable {C : E8} {f : FuncId} {g : Gd} {ops : Array Oper} {tch : List (Nat × Nat)} {fr : Fr} {h : AF} {N : Nat} {l : List (Nat × AB)} {pl : List (Nat × List Nat)} {c : Code} {Q : B2 → Fr → AF → Prop}
theorem AN (k : Nat) (nw : List (Nat × AB)) (H : Has fr N l) (E : ∀ fr', Has fr' N (List.append nw l) → AW C f g c fr' h Q)
  (hk : ∀ fr, (P4 pl, Nat.beq pl.length k, Dw ops l (Dc pl), (FB C.P ops (Dc pl) (Cm N l fr)).map (fun x => nw.map (fun p => nth x p.1))) = (true, true, true, some (nw.map (·.2))) := by intro _; kernel_rfl) : AT C g ops pl tch fr h (fun fr h => AW C f g c fr h Q) := U1 k nw H (fun _ => id) E hk
theorem RW (k : Nat) (nw : List (Nat × AB)) (n : Nat) (H : Has fr N l) (E : ∀ fr', Has fr' N (List.append nw l) → AT C g (opsOf c) (Eo 0 n) [] fr' h (fun fr' h' => Q .normal fr' h'))
  (hk : ∀ fr, (P4 pl, Nat.beq pl.length k, Dw ops l (Dc pl), (FB C.P ops (Dc pl) (Cm N l fr)).map (fun x => nw.map (fun p => nth x p.1))) = (true, true, true, some (nw.map (·.2))) := by intro _; kernel_rfl) (G : J8 c n = true := by kernel_rfl) : AT C g ops pl tch fr h (fun fr h => AW C f g c fr h Q) := Xh k nw n H (fun _ => id) E hk G
theorem B5 (k : Nat) (nw : List (Nat × AB)) (n : Nat) (H : Has fr N l) (E : ∀ fr', Has fr' N (List.append nw l) → AT C g (opsOf (left c)) (Eo 0 n) [] fr' h (fun fr' h' => KF (fun fr h => AW C f g (right c) fr h Q) Q .normal fr' h'))
  (hk : ∀ fr, (P4 pl, Nat.beq pl.length k, Dw ops l (Dc pl), (FB C.P ops (Dc pl) (Cm N l fr)).map (fun x => nw.map (fun p => nth x p.1))) = (true, true, true, some (nw.map (·.2))) := by intro _; kernel_rfl) (T : shape c = .seq := by kernel_rfl) (G : J8 (left c) n = true := by kernel_rfl) : AT C g ops pl tch fr h (fun fr h => AW C f g c fr h Q) := Xu k nw n H (fun _ => id) E hk T G
end
end Go.Av
