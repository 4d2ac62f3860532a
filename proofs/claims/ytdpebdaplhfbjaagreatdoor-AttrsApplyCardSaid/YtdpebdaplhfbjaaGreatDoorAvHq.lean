/-
  AV: steps joined with what they read, write or call; things that are written, called with and set aside, by their places.
-/
import Derived.Test.YtdpebdaplhfbjaaGreatDoorAvTy
import Derived.Test.YtdpebdaplhfbjaaGreatDoorAvCo
namespace Go.Av
set_option linter.unusedVariables false
set_option linter.unusedSimpArgs false
section
variable {g : Gd} {h h' : AHeap} {L F : List Ck}
theorem HH.g00 (a : HH g h L F) (b : HH g h' [] (List.append L F)) : HH g h' L F := a.glue0 (n := 0) b
theorem HH.g01 {c0' : Ck} (a : HH g h L F) (b : HH g h' [c0'] (List.append L F)) : HH g h' (c0' :: L) F := a.glue0 (n := 0) b
theorem HH.g11 {c0 c0' : Ck} (a : HH g h (c0 :: L) F) (b : HH g h' [c0'] (List.append L F)) : HH g h' (c0' :: L) F := a.glue0 (n := 1) b
theorem HH.p11 {c0 c0' : Ck} {pr : List Nat} (a : HH g h (c0 :: L) F) (b : HH ⟨g.floor, List.append pr g.prot⟩ h' [c0'] (List.append L F)) : HH g h' (c0' :: L) F := a.glueP (n := 1) b
theorem HH.g12 {c0 c0' c1' : Ck} (a : HH g h (c0 :: L) F) (b : HH g h' [c0', c1'] (List.append L F)) : HH g h' (c0' :: c1' :: L) F := a.glue0 (n := 1) b
theorem HH.g22 {c0 c1 c0' c1' : Ck} (a : HH g h (c0 :: c1 :: L) F) (b : HH g h' [c0', c1'] (List.append L F)) : HH g h' (c0' :: c1' :: L) F := a.glue0 (n := 2) b
theorem HH.d0 (a : HH g h L F) : HH g h [] F := a.dropF 0
theorem HH.d1 {c0 : Ck} (a : HH g h (c0 :: L) F) : HH g h [c0] F := a.dropF 1
theorem HH.s0 {id : Nat} {gr : Option TypeId} {cs : List AVal} (a : HH g h (.obj id (.cells gr 2 cs) :: L) F) (o : Nat) (new ds : List AVal) (hd : splice cs o new = ds := by rfl) (hl : o + new.length ≤ cs.length := by exact Nat.le_of_ble_eq_true rfl) (h1 : new.all AVal.one = true := by rfl) : ∃ h', Av.st g h (id, o) new = some h' ∧ HH g h' (.obj id (.cells gr 2 ds) :: L) F := a.st 0 rfl hl h1 hd
theorem HH.s1 {c0 : Ck} {id : Nat} {gr : Option TypeId} {cs : List AVal} (a : HH g h (c0 :: .obj id (.cells gr 2 cs) :: L) F) (o : Nat) (new ds : List AVal) (hd : splice cs o new = ds := by rfl) (hl : o + new.length ≤ cs.length := by exact Nat.le_of_ble_eq_true rfl) (h1 : new.all AVal.one = true := by rfl) : ∃ h', Av.st g h (id, o) new = some h' ∧ HH g h' (c0 :: .obj id (.cells gr 2 ds) :: L) F := a.st 1 rfl hl h1 hd
theorem HH.s3 {c0 c1 c2 : Ck} {id : Nat} {gr : Option TypeId} {cs : List AVal} (a : HH g h (c0 :: c1 :: c2 :: .obj id (.cells gr 2 cs) :: L) F) (o : Nat) (new ds : List AVal) (hd : splice cs o new = ds := by rfl) (hl : o + new.length ≤ cs.length := by exact Nat.le_of_ble_eq_true rfl) (h1 : new.all AVal.one = true := by rfl) : ∃ h', Av.st g h (id, o) new = some h' ∧ HH g h' (c0 :: c1 :: c2 :: .obj id (.cells gr 2 ds) :: L) F := a.st 3 rfl hl h1 hd
theorem HH.s5 {c0 c1 c2 c3 c4 : Ck} {id : Nat} {gr : Option TypeId} {cs : List AVal} (a : HH g h (c0 :: c1 :: c2 :: c3 :: c4 :: .obj id (.cells gr 2 cs) :: L) F) (o : Nat) (new ds : List AVal) (hd : splice cs o new = ds := by rfl) (hl : o + new.length ≤ cs.length := by exact Nat.le_of_ble_eq_true rfl) (h1 : new.all AVal.one = true := by rfl) : ∃ h', Av.st g h (id, o) new = some h' ∧ HH g h' (c0 :: c1 :: c2 :: c3 :: c4 :: .obj id (.cells gr 2 ds) :: L) F := a.st 5 rfl hl h1 hd
theorem HH.pickN (a : HH g h L F) : ∀ (ks : List Nat) (M : List Ck), ks.Nodup → ks.map (fun k => L[k]?) = M.map some → (idsL (M ++ F)).Nodup := by
 intro ks
 induction ks with
 | nil =>
  intro M _ he
  cases M with
  | nil =>
   have := a.nd
   rw [idsL_app] at this
   exact (List.nodup_append.1 this).2.1
  | cons c M => simp at he
 | cons k ks ih =>
  intro M hn he
  cases M with
  | nil => simp at he
  | cons c M =>
   simp only [List.map_cons, List.cons.injEq] at he
   have hd := (a.front k he.1).nd
   have e : idsL (c :: L.eraseIdx k ++ F) = c.ids ++ idsL (L.eraseIdx k ++ F) := by simp [idsL]
   have e2 : idsL (c :: M ++ F) = c.ids ++ idsL (M ++ F) := by simp [idsL]
   rw [e] at hd
   rw [e2]
   refine List.nodup_append.2 ⟨(List.nodup_append.1 hd).1, ih M (List.nodup_cons.1 hn).2 he.2, fun i hi j hj => ?_⟩
   refine (List.nodup_append.1 hd).2.2 i hi j ?_
   simp only [idsL, List.mem_flatMap] at hj ⊢
   obtain ⟨d, hd, hj⟩ := hj
   refine ⟨d, ?_, hj⟩
   rcases List.mem_append.1 hd with hd | hd
   ·refine List.mem_append.2 (.inl ?_)
    have hm : some d ∈ M.map some := List.mem_map.2 ⟨d, hd, rfl⟩
    rw [← he.2] at hm
    obtain ⟨x, hx, hxd⟩ := List.mem_map.1 hm
    exact List.mem_eraseIdx_iff_getElem?.2 ⟨x, fun e => (List.nodup_cons.1 hn).1 (e ▸ hx), hxd⟩
   ·exact List.mem_append.2 (.inr hd)
theorem HH.pick (a : HH g h L F) (ks : List Nat) (M : List Ck) (hn : ks.Nodup) (he : ks.map (fun k => L[k]?) = M.map some) : HH g h M F := by
 have hm : ∀ c ∈ M, c ∈ L := fun c hc => by
  have hm : some c ∈ M.map some := List.mem_map.2 ⟨c, hc, rfl⟩
  rw [← he] at hm
  obtain ⟨x, hx, hxd⟩ := List.mem_map.1 hm
  exact List.mem_of_getElem? hxd
 refine ⟨fun c hc => a.ok c ?_, a.pickN ks M hn he, fun i hi => a.may i ?_, a.prot, a.floor⟩
 ·rcases List.mem_append.1 hc with h | h
  ·exact List.mem_append.2 (.inl (hm c h))
  ·exact List.mem_append.2 (.inr h)
 ·simp only [idsL, List.mem_flatMap] at hi ⊢
  obtain ⟨c, hc, hi⟩ := hi
  exact ⟨c, hm c hc, hi⟩
theorem HH.k1 (a : HH g h L F) (i0 : Nat) {c0 : Ck} (e0 : L[i0]? = some c0 := by rfl) (hd : [i0].Nodup := by decide) : HH g h [c0] F := a.pick [i0] [c0] hd (by simp only [List.map, e0])
theorem HH.k2 (a : HH g h L F) (i0 i1 : Nat) {c0 c1 : Ck} (e0 : L[i0]? = some c0 := by rfl) (e1 : L[i1]? = some c1 := by rfl) (hd : [i0, i1].Nodup := by decide) : HH g h [c0, c1] F := a.pick [i0, i1] [c0, c1] hd (by simp only [List.map, e0, e1])
theorem HH.k3 (a : HH g h L F) (i0 i1 i2 : Nat) {c0 c1 c2 : Ck} (e0 : L[i0]? = some c0 := by rfl) (e1 : L[i1]? = some c1 := by rfl) (e2 : L[i2]? = some c2 := by rfl) (hd : [i0, i1, i2].Nodup := by decide) : HH g h [c0, c1, c2] F := a.pick [i0, i1, i2] [c0, c1, c2] hd (by simp only [List.map, e0, e1, e2])
theorem HH.k6 (a : HH g h L F) (i0 i1 i2 i3 i4 i5 : Nat) {c0 c1 c2 c3 c4 c5 : Ck} (e0 : L[i0]? = some c0 := by rfl) (e1 : L[i1]? = some c1 := by rfl) (e2 : L[i2]? = some c2 := by rfl) (e3 : L[i3]? = some c3 := by rfl) (e4 : L[i4]? = some c4 := by rfl) (e5 : L[i5]? = some c5 := by rfl) (hd : [i0, i1, i2, i3, i4, i5].Nodup := by decide) : HH g h [c0, c1, c2, c3, c4, c5] F := a.pick [i0, i1, i2, i3, i4, i5] [c0, c1, c2, c3, c4, c5] hd (by simp only [List.map, e0, e1, e2, e3, e4, e5])
theorem HH.k7 (a : HH g h L F) (i0 i1 i2 i3 i4 i5 i6 : Nat) {c0 c1 c2 c3 c4 c5 c6 : Ck} (e0 : L[i0]? = some c0 := by rfl) (e1 : L[i1]? = some c1 := by rfl) (e2 : L[i2]? = some c2 := by rfl) (e3 : L[i3]? = some c3 := by rfl) (e4 : L[i4]? = some c4 := by rfl) (e5 : L[i5]? = some c5 := by rfl) (e6 : L[i6]? = some c6 := by rfl) (hd : [i0, i1, i2, i3, i4, i5, i6].Nodup := by decide) : HH g h [c0, c1, c2, c3, c4, c5, c6] F := a.pick [i0, i1, i2, i3, i4, i5, i6] [c0, c1, c2, c3, c4, c5, c6] hd (by simp only [List.map, e0, e1, e2, e3, e4, e5, e6])
theorem HH.k8 (a : HH g h L F) (i0 i1 i2 i3 i4 i5 i6 i7 : Nat) {c0 c1 c2 c3 c4 c5 c6 c7 : Ck} (e0 : L[i0]? = some c0 := by rfl) (e1 : L[i1]? = some c1 := by rfl) (e2 : L[i2]? = some c2 := by rfl) (e3 : L[i3]? = some c3 := by rfl) (e4 : L[i4]? = some c4 := by rfl) (e5 : L[i5]? = some c5 := by rfl) (e6 : L[i6]? = some c6 := by rfl) (e7 : L[i7]? = some c7 := by rfl) (hd : [i0, i1, i2, i3, i4, i5, i6, i7].Nodup := by decide) : HH g h [c0, c1, c2, c3, c4, c5, c6, c7] F := a.pick [i0, i1, i2, i3, i4, i5, i6, i7] [c0, c1, c2, c3, c4, c5, c6, c7] hd (by simp only [List.map, e0, e1, e2, e3, e4, e5, e6, e7])
theorem HH.pu (a : HH g h L F) (o : AObj) : ∃ h', h' = h.push o ∧ HH g h' (.obj h.size o :: L) F := ⟨_, rfl, a.push o⟩
theorem HH.pL (a : HH g h L F) (e : TypeId) (cs : List AVal) : ∃ h', h' = h.push (.cells (some e) 2 cs) ∧ HH g h' (.lst (some h.size) e cs :: L) F := ⟨_, rfl, a.pushL e cs⟩
theorem HH.la (a : HH g h L F) (k o n : Nat) {id : Nat} {gr : Option TypeId} {cs ds : List AVal} (hk : L[k]? = some (.obj id (.cells gr 2 cs)) := by rfl) (hd : o + n ≤ cs.length ∧ (cs.drop o).take n = ds := by exact ⟨Nat.le_of_ble_eq_true rfl, rfl⟩) : Av.ldA h (id, o) n = some ds := a.ldA k hk hd
theorem HH.l1 (a : HH g h L F) (k o : Nat) {id : Nat} {gr : Option TypeId} {cs : List AVal} {v : AVal} (hk : L[k]? = some (.obj id (.cells gr 2 cs)) := by rfl) (hv : cs[o]? = some v := by rfl) : Av.ld1 h (id, o) = some v := a.ld1 k hk hv
end
section
variable {C : Cfg} {f : FuncId} {g : Gd} {ops : Array Oper} {tch : List (Nat × Nat)} {fr : Fr} {h h1 : AHeap} {K : Fr → AHeap → Prop} {N : Nat} {l : List (Nat × AVal)} {i : Nat} {pl : List (Nat × List Nat)} {v : AVal} {L F : List Ck}
theorem Has.kn (H : Has fr N l) (d : Nat) {b w : Bool} (hb : b = w) (hd : lookK l d = some (.bool b) := by kernel_rfl) : Has fr N (setK l d (.bool w)) := H.know d hb hd
theorem rH {P : Program} {rs : List ResultVar} (H : Has fr N l) (hr : ∀ fr, resL P rs (mkFr N l fr) h = some v := by intro _; kernel_rfl) : resL P rs fr h = some v := resH H hr
theorem rT {t : Nat} (H : Has fr N l) (hr : ∀ fr, nth (mkFr N l fr) t = v := by intro _; kernel_rfl) : nth fr t = v := resT H hr
theorem rq1 {args args' : List AVal} (n : Nat) (rs : List ResultVar) {R : AVal → AHeap → Prop} (hc : canL (C.still f) args = args') (hh : AW C f g (bodyC C.P f) (args' ++ List.replicate (n - args'.length) (.tuple [])) h (fun e fr h' => (e = .ret ∨ e = .normal) ∧ ∃ v, resL C.P rs fr h' = some v ∧ R v h')) (hk : C.kind f = 1 := by kernel_rfl) (hf : hasBody C.P f = some (n, rs) := by kernel_rfl) : ∃ v h', Runs C g h f args v h' ∧ R v h' := runsQ1 hk hc hf hh
theorem rq7 {args args' : List AVal} (n : Nat) (rs : List ResultVar) {R : AVal → AHeap → Prop} (hc : canL (C.still f) args = args') (hh : AW C f g (bodyC C.P f) (args' ++ List.replicate (n - args'.length) (.tuple [])) h (fun e fr h' => (e = .ret ∨ e = .normal) ∧ ∃ v, resL C.P rs fr h' = some v ∧ ∃ v' h'', frz3 g h' v = some (v', h'') ∧ R v' h'')) (hk : C.kind f = 7 := by kernel_rfl) (hf : hasBody C.P f = some (n, rs) := by kernel_rfl) : ∃ v h', Runs C g h f args v h' ∧ R v h' := runsQ7 hk hc hf hh
theorem bg {args : List AVal} {c : Code} {Q : AExit → Fr → AHeap → Prop} (n : Nat) (ins : List (Nat × AVal)) (hh : ∀ fr, Has fr n ins → AW C f g c fr h Q) (hl : (args ++ List.replicate (n - args.length) (AVal.tuple [])).length = n := by kernel_rfl) (hi : ins.map (fun p => nth (args ++ List.replicate (n - args.length) (AVal.tuple [])) p.1) = ins.map (·.2) := by kernel_rfl) : AW C f g c (args ++ List.replicate (n - args.length) (.tuple [])) h Q := start ins hl hi hh
theorem at_gl (k : Nat) (nw : List (Nat × AVal)) (d : Nat) (j o : Nat) (A : HH g h L F) {id : Nat} {gr : Option TypeId} {cs : List AVal} (H : Has fr N l) (hn : ∀ fr' t, Has fr' N (((d, v) :: List.append nw l)) → AT C g ops (pl.drop (k + 1)) t fr' h K) (hj : L[j]? = some (.obj id (.cells gr 2 cs)) := by rfl) (hv : cs[o]? = some v := by rfl) (hsp : ∀ fr, spLoad C.P (segF C.P ops (segI (pl.take k)) (mkFr N l fr)) (opI ops (idxK pl k)) = some ((id, o), none) := by intro _; kernel_rfl) (hk : ∀ fr, (hasK pl k && (noU (pl.take k) && (dstsNoL ops l (segI (pl.take k)) && (keyNo d l && (keyNo d nw && Nat.blt d N)))), (segP C.P ops (segI (pl.take k)) (mkFr N l fr)).map (fun x => (runs ops x (idxK pl k), dstI ops (idxK pl k), nw.map (fun p => nth x p.1)))) = (true, some (true, some d, nw.map (·.2))) := by intro _; kernel_rfl) : AT C g ops pl tch fr h K := at_g1 k nw d v h H (fun fr => .of (s_ld (hsp fr) (A.ld1 j hj hv))) hn hk
theorem at_gc1 (k : Nat) (nw : List (Nat × AVal)) (d : Nat) {f' : FuncId} {args : List AVal} (hr : Runs C g h f' args v h1) (H : Has fr N l) (hn : ∀ fr' t, Has fr' N (((d, v) :: List.append nw l)) → AT C g ops (pl.drop (k + 1)) t fr' h1 K) (hsp : ∀ fr, spCall (segF C.P ops (segI (pl.take k)) (mkFr N l fr)) (opI ops (idxK pl k)) = some (f', args) := by intro _; kernel_rfl) (hk : ∀ fr, (hasK pl k && (noU (pl.take k) && (dstsNoL ops l (segI (pl.take k)) && (keyNo d l && (keyNo d nw && Nat.blt d N)))), (segP C.P ops (segI (pl.take k)) (mkFr N l fr)).map (fun x => (runs ops x (idxK pl k), dstI ops (idxK pl k), nw.map (fun p => nth x p.1)))) = (true, some (true, some d, nw.map (·.2))) := by intro _; kernel_rfl) : AT C g ops pl tch fr h K := at_g1 k nw d v h1 H (fun fr => Steps.call (hsp fr) hr) hn hk
theorem at_lc1 (d : Nat) {f' : FuncId} {args : List AVal} (hr : Runs C g h f' args v h1) (H : Has fr N l) (hn : ∀ fr' t, Has fr' N ((d, v) :: l) → AT C g ops pl t fr' h1 K) (hsp : ∀ fr, spCall (mkFr N l fr) (opI ops i) = some (f', args) := by intro _; kernel_rfl) (hw : ∀ fr, (runs ops (mkFr N l fr) i, dstI ops i, Nat.blt d N, keyNo d l) = (true, some d, true, true) := by intro _; kernel_rfl) : AT C g ops ((i, []) :: pl) tch fr h K := at_l1 d v h1 H (fun fr => Steps.call (hsp fr) hr) hn hw
theorem at_gn (k : Nat) (nw : List (Nat × AVal)) (d : Nat) (v : AVal) {ob : AObj} (e : h1 = h.push ob) (H : Has fr N l) (hn : ∀ fr' t, Has fr' N (((d, v) :: List.append nw l)) → AT C g ops (pl.drop (k + 1)) t fr' h1 K) (hsp : ∀ fr, spN C.P (segF C.P ops (segI (pl.take k)) (mkFr N l fr)) (opI ops (idxK pl k)) h.size = some (v, ob) := by intro _; kernel_rfl) (hk : ∀ fr, (hasK pl k && (noU (pl.take k) && (dstsNoL ops l (segI (pl.take k)) && (keyNo d l && (keyNo d nw && Nat.blt d N)))), (segP C.P ops (segI (pl.take k)) (mkFr N l fr)).map (fun x => (runs ops x (idxK pl k), dstI ops (idxK pl k), nw.map (fun p => nth x p.1)))) = (true, some (true, some d, nw.map (·.2))) := by intro _; kernel_rfl) : AT C g ops pl tch fr h K := at_g1 k nw d v h1 H (fun fr => .of (s_n' (hsp fr) (congrArg some e.symm))) hn hk
theorem at_ln (d : Nat) (v : AVal) {ob : AObj} (e : h1 = h.push ob) (H : Has fr N l) (hn : ∀ fr' t, Has fr' N ((d, v) :: l) → AT C g ops pl t fr' h1 K) (hsp : ∀ fr, spN C.P (mkFr N l fr) (opI ops i) h.size = some (v, ob) := by intro _; kernel_rfl) (hw : ∀ fr, (runs ops (mkFr N l fr) i, dstI ops i, Nat.blt d N, keyNo d l) = (true, some d, true, true) := by intro _; kernel_rfl) : AT C g ops ((i, []) :: pl) tch fr h K := at_l1 d v h1 H (fun fr => .of (s_n' (hsp fr) (congrArg some e.symm))) hn hw
theorem at_gs (k : Nat) (nw : List (Nat × AVal)) {a : Nat × Nat} {v : AVal} (hx : Av.st g h a [v] = some h1) (H : Has fr N l) (hn : ∀ fr' t, Has fr' N ((List.append nw l)) → AT C g ops (pl.drop (k + 1)) t fr' h1 K) (hc : v.cells? = some [v] := by rfl) (hsp : ∀ fr, spStore C.P (segF C.P ops (segI (pl.take k)) (mkFr N l fr)) (opI ops (idxK pl k)) = some (a, 1, v) := by intro _; kernel_rfl) (hk : ∀ fr, (hasK pl k && (noU (pl.take k) && (dstsNoL ops l (segI (pl.take k)) && (dstNo ops (idxK pl k) l && dstNo ops (idxK pl k) nw))), (segP C.P ops (segI (pl.take k)) (mkFr N l fr)).map (fun x => (runs ops x (idxK pl k), nw.map (fun p => nth x p.1)))) = (true, some (true, nw.map (·.2))) := by intro _; kernel_rfl) : AT C g ops pl tch fr h K := at_g0 k nw _ h1 H (fun fr => .of (s_st (hsp fr) hc hx)) hn hk
theorem at_ls {a : Nat × Nat} {v : AVal} (hx : Av.st g h a [v] = some h1) (H : Has fr N l) (hn : ∀ fr' t, Has fr' N l → AT C g ops pl t fr' h1 K) (hc : v.cells? = some [v] := by rfl) (hsp : ∀ fr, spStore C.P (mkFr N l fr) (opI ops i) = some (a, 1, v) := by intro _; kernel_rfl) (hw : ∀ fr, (runs ops (mkFr N l fr) i, dstNo ops i l) = (true, true) := by intro _; kernel_rfl) : AT C g ops ((i, []) :: pl) tch fr h K := at_l0 _ h1 H (fun fr => .of (s_st (hsp fr) hc hx)) hn hw
theorem at_gS (k : Nat) (nw : List (Nat × AVal)) {a : Nat × Nat} {n : Nat} {cs : List AVal} (hx : Av.st g h a cs = some h1) (H : Has fr N l) (hn : ∀ fr' t, Has fr' N ((List.append nw l)) → AT C g ops (pl.drop (k + 1)) t fr' h1 K) (hl : cs.length = n := by rfl) (hsp : ∀ fr, spStore C.P (segF C.P ops (segI (pl.take k)) (mkFr N l fr)) (opI ops (idxK pl k)) = some (a, n, .agg cs) := by intro _; kernel_rfl) (hk : ∀ fr, (hasK pl k && (noU (pl.take k) && (dstsNoL ops l (segI (pl.take k)) && (dstNo ops (idxK pl k) l && dstNo ops (idxK pl k) nw))), (segP C.P ops (segI (pl.take k)) (mkFr N l fr)).map (fun x => (runs ops x (idxK pl k), nw.map (fun p => nth x p.1)))) = (true, some (true, nw.map (·.2))) := by intro _; kernel_rfl) : AT C g ops pl tch fr h K := at_g0 k nw _ h1 H (fun fr => .of (s_stG (hsp fr) (stG_st hx hl))) hn hk
theorem at_lS {a : Nat × Nat} {n : Nat} {cs : List AVal} (hx : Av.st g h a cs = some h1) (H : Has fr N l) (hn : ∀ fr' t, Has fr' N l → AT C g ops pl t fr' h1 K) (hl : cs.length = n := by rfl) (hsp : ∀ fr, spStore C.P (mkFr N l fr) (opI ops i) = some (a, n, .agg cs) := by intro _; kernel_rfl) (hw : ∀ fr, (runs ops (mkFr N l fr) i, dstNo ops i l) = (true, true) := by intro _; kernel_rfl) : AT C g ops ((i, []) :: pl) tch fr h K := at_l0 _ h1 H (fun fr => .of (s_stG (hsp fr) (stG_st hx hl))) hn hw
end
section
variable {C : Cfg} {f : FuncId} {g : Gd} {ops : Array Oper} {tch : List (Nat × Nat)} {fr : Fr} {h : AHeap} {N : Nat} {l out : List (Nat × AVal)} {c c' : Code} {Q Q' : AExit → Fr → AHeap → Prop}
theorem aw_kn (hK : AW C f g c' fr h Q' → Q .normal fr h) (hh : AW C f g c' fr h Q') (hs : shape c = .skip := by kernel_rfl) : AW C f g c fr h Q := aw_skip hs (hK hh)
theorem aw_kr (n : Nat) (hK : AW C f g c' fr h Q' → Q .normal fr h) (hh : AT C g (opsOf c') (plan0 0 n) [] fr h (fun fr' h' => Q' .normal fr' h')) (hs : shape c = .skip := by kernel_rfl) (hr : isReg c' n = true := by kernel_rfl) : AW C f g c fr h Q := aw_skip hs (hK (aw_rg n hh hr))
theorem aw_ks (n : Nat) (hK : AW C f g c' fr h Q' → Q .normal fr h) (hh : AT C g (opsOf (left c')) (plan0 0 n) [] fr h (fun fr' h' => thenQ (fun fr h => AW C f g (right c') fr h Q') Q' .normal fr' h')) (hs : shape c = .skip := by kernel_rfl) (hq : shape c' = .seq := by kernel_rfl) (hr : isReg (left c') n = true := by kernel_rfl) : AW C f g c fr h Q := aw_skip hs (hK (aw_seq hq (aw_rg n hh hr)))
theorem at_zb {b w : Bool} (H : Has fr N l) (hb : b = w) (hx : b = w → ∀ fr, out.map (fun p => nth (mkFr N l fr) p.1) = out.map (·.2) := by intro hb _; first | rfl | (rw [hb]; rfl)) : AT C g ops [] tch fr h (fun fr' h' => h = h' ∧ Has fr' N out) := at_nil ⟨rfl, H.less _ (hx hb)⟩
end
theorem nx {σ ρ : Type} {a : σ} {o : σ ⊕ ρ} {P : σ → Prop} (hm : some (.inl a) = some o) (h : P a) : ∃ s', o = .inl s' ∧ P s' := ⟨a, (Option.some.inj hm).symm, h⟩
theorem nr {σ ρ : Type} {a : ρ} {o : σ ⊕ ρ} {P : ρ → Prop} (hm : some (.inr a) = some o) (h : P a) : ∃ s', o = .inr s' ∧ P s' := ⟨a, (Option.some.inj hm).symm, h⟩
abbrev Ai (x : Int) : AVal := .int .i64 x
abbrev Ab (x : Int) : AVal := .int .u8 x
section
variable {C : Cfg} {f : FuncId} {g : Gd} {ops : Array Oper} {tch : List (Nat × Nat)} {fr : Fr} {h : AHeap} {N : Nat} {l : List (Nat × AVal)} {pl : List (Nat × List Nat)} {c : Code} {Q : AExit → Fr → AHeap → Prop}
theorem at_L (k : Nat) (nw : List (Nat × AVal)) (H : Has fr N l) (hh : ∀ fr', Has fr' N (List.append nw l) → AW C f g c fr' h Q)
  (hk : ∀ fr, (noU pl, Nat.beq pl.length k, dstsNoL ops l (segI pl), (segP C.P ops (segI pl) (mkFr N l fr)).map (fun x => nw.map (fun p => nth x p.1))) = (true, true, true, some (nw.map (·.2))) := by intro _; kernel_rfl) : AT C g ops pl tch fr h (fun fr h => AW C f g c fr h Q) := at_el k nw H (fun _ => id) hh hk
theorem at_S (k : Nat) (nw : List (Nat × AVal)) (n : Nat) (H : Has fr N l) (hh : ∀ fr', Has fr' N (List.append nw l) → AT C g (opsOf (left c)) (plan0 0 n) [] fr' h (fun fr' h' => thenQ (fun fr h => AW C f g (right c) fr h Q) Q .normal fr' h'))
  (hk : ∀ fr, (noU pl, Nat.beq pl.length k, dstsNoL ops l (segI pl), (segP C.P ops (segI pl) (mkFr N l fr)).map (fun x => nw.map (fun p => nth x p.1))) = (true, true, true, some (nw.map (·.2))) := by intro _; kernel_rfl) (hs : shape c = .seq := by kernel_rfl) (hr : isReg (left c) n = true := by kernel_rfl) : AT C g ops pl tch fr h (fun fr h => AW C f g c fr h Q) := at_es k nw n H (fun _ => id) hh hk hs hr
end
end Go.Av
