/-
 A part.
-/
import Derived.Test.YtlljeoogceblmaaGreatDoorAvTy
import Derived.Test.YtlljeoogceblmaaGreatDoorAvCo
namespace Go.Av
set_option linter.unusedVariables false
set_option linter.unusedSimpArgs false
section
variable {g : Gd} {h h' : AD} {L F : List Ck}
theorem HH.DN (a : HH g h L F) (b : HH g h' [] (List.append L F)) : HH g h' L F := a.Fp (n := 0) b
theorem HH.aM {pr : List Nat} (a : HH g h L F) (b : HH ⟨g.floor, List.append pr g.Cl⟩ h' [] (List.append L F)) : HH g h' L F := a.Wa (n := 0) b
theorem HH.Yc {c0' : Ck} (a : HH g h L F) (b : HH g h' [c0'] (List.append L F)) : HH g h' (c0' :: L) F := a.Fp (n := 0) b
theorem HH.bx {c0' : Ck} {pr : List Nat} (a : HH g h L F) (b : HH ⟨g.floor, List.append pr g.Cl⟩ h' [c0'] (List.append L F)) : HH g h' (c0' :: L) F := a.Wa (n := 0) b
theorem HH.g11 {c0 c0' : Ck} (a : HH g h (c0 :: L) F) (b : HH g h' [c0'] (List.append L F)) : HH g h' (c0' :: L) F := a.Fp (n := 1) b
theorem HH.aw {c0 c0' : Ck} {pr : List Nat} (a : HH g h (c0 :: L) F) (b : HH ⟨g.floor, List.append pr g.Cl⟩ h' [c0'] (List.append L F)) : HH g h' (c0' :: L) F := a.Wa (n := 1) b
theorem HH.g22 {c0 c1 c0' c1' : Ck} (a : HH g h (c0 :: c1 :: L) F) (b : HH g h' [c0', c1'] (List.append L F)) : HH g h' (c0' :: c1' :: L) F := a.Fp (n := 2) b
theorem HH.g23 {c0 c1 c0' c1' c2' : Ck} (a : HH g h (c0 :: c1 :: L) F) (b : HH g h' [c0', c1', c2'] (List.append L F)) : HH g h' (c0' :: c1' :: c2' :: L) F := a.Fp (n := 2) b
theorem HH.bV {c0 c1 c2 c0' c1' c2' : Ck} (a : HH g h (c0 :: c1 :: c2 :: L) F) (b : HH g h' [c0', c1', c2'] (List.append L F)) : HH g h' (c0' :: c1' :: c2' :: L) F := a.Fp (n := 3) b
theorem HH.Xn {c0 c1 c2 c3 c0' c1' c2' c3' : Ck} (a : HH g h (c0 :: c1 :: c2 :: c3 :: L) F) (b : HH g h' [c0', c1', c2', c3'] (List.append L F)) : HH g h' (c0' :: c1' :: c2' :: c3' :: L) F := a.Fp (n := 4) b
theorem HH.d0 (a : HH g h L F) : HH g h [] F := a.Xy 0
theorem HH.d1 {c0 : Ck} (a : HH g h (c0 :: L) F) : HH g h [c0] F := a.Xy 1
theorem HH.s0 {id : Nat} {gr : Option TypeId} {cs : List AA} (a : HH g h (.obj id (.cells gr 2 cs) :: L) F) (o : Nat) (new ds : List AA) (hd : DT cs o (Kw gr new) = ds := by rfl) (hl : o + new.length ≤ cs.length := by exact Nat.le_of_ble_eq_true rfl) (h1 : new.all AA.one = true := by rfl) : ∃ h', Av.st g h (id, o) new = some h' ∧ HH g h' (.obj id (.cells gr 2 ds) :: L) F := a.st 0 rfl hl h1 hd
theorem HH.s1 {c0 : Ck} {id : Nat} {gr : Option TypeId} {cs : List AA} (a : HH g h (c0 :: .obj id (.cells gr 2 cs) :: L) F) (o : Nat) (new ds : List AA) (hd : DT cs o (Kw gr new) = ds := by rfl) (hl : o + new.length ≤ cs.length := by exact Nat.le_of_ble_eq_true rfl) (h1 : new.all AA.one = true := by rfl) : ∃ h', Av.st g h (id, o) new = some h' ∧ HH g h' (c0 :: .obj id (.cells gr 2 ds) :: L) F := a.st 1 rfl hl h1 hd
theorem HH.s2 {c0 c1 : Ck} {id : Nat} {gr : Option TypeId} {cs : List AA} (a : HH g h (c0 :: c1 :: .obj id (.cells gr 2 cs) :: L) F) (o : Nat) (new ds : List AA) (hd : DT cs o (Kw gr new) = ds := by rfl) (hl : o + new.length ≤ cs.length := by exact Nat.le_of_ble_eq_true rfl) (h1 : new.all AA.one = true := by rfl) : ∃ h', Av.st g h (id, o) new = some h' ∧ HH g h' (c0 :: c1 :: .obj id (.cells gr 2 ds) :: L) F := a.st 2 rfl hl h1 hd
theorem HH.s3 {c0 c1 c2 : Ck} {id : Nat} {gr : Option TypeId} {cs : List AA} (a : HH g h (c0 :: c1 :: c2 :: .obj id (.cells gr 2 cs) :: L) F) (o : Nat) (new ds : List AA) (hd : DT cs o (Kw gr new) = ds := by rfl) (hl : o + new.length ≤ cs.length := by exact Nat.le_of_ble_eq_true rfl) (h1 : new.all AA.one = true := by rfl) : ∃ h', Av.st g h (id, o) new = some h' ∧ HH g h' (c0 :: c1 :: c2 :: .obj id (.cells gr 2 ds) :: L) F := a.st 3 rfl hl h1 hd
theorem HH.s4 {c0 c1 c2 c3 : Ck} {id : Nat} {gr : Option TypeId} {cs : List AA} (a : HH g h (c0 :: c1 :: c2 :: c3 :: .obj id (.cells gr 2 cs) :: L) F) (o : Nat) (new ds : List AA) (hd : DT cs o (Kw gr new) = ds := by rfl) (hl : o + new.length ≤ cs.length := by exact Nat.le_of_ble_eq_true rfl) (h1 : new.all AA.one = true := by rfl) : ∃ h', Av.st g h (id, o) new = some h' ∧ HH g h' (c0 :: c1 :: c2 :: c3 :: .obj id (.cells gr 2 ds) :: L) F := a.st 4 rfl hl h1 hd
theorem HH.s5 {c0 c1 c2 c3 c4 : Ck} {id : Nat} {gr : Option TypeId} {cs : List AA} (a : HH g h (c0 :: c1 :: c2 :: c3 :: c4 :: .obj id (.cells gr 2 cs) :: L) F) (o : Nat) (new ds : List AA) (hd : DT cs o (Kw gr new) = ds := by rfl) (hl : o + new.length ≤ cs.length := by exact Nat.le_of_ble_eq_true rfl) (h1 : new.all AA.one = true := by rfl) : ∃ h', Av.st g h (id, o) new = some h' ∧ HH g h' (c0 :: c1 :: c2 :: c3 :: c4 :: .obj id (.cells gr 2 ds) :: L) F := a.st 5 rfl hl h1 hd
theorem HH.Zl (a : HH g h L F) : ∀ (ks : List Nat) (M : List Ck), ks.Nodup → ks.map (fun k => L[k]?) = M.map some → (CT (M ++ F)).Nodup := by
 intro ks
 induction ks with
 | nil =>
  intro M _ he
  cases M with
  | nil =>
   have := a.nd
   rw [CE] at this
   exact (List.nodup_append.1 this).2.1
  | cons c M => simp at he
 | cons k ks ih =>
  intro M hn he
  cases M with
  | nil => simp at he
  | cons c M =>
   simp only [List.map_cons, List.cons.injEq] at he
   have hd := (a.front k he.1).nd
   have e : CT (c :: L.eraseIdx k ++ F) = c.ids ++ CT (L.eraseIdx k ++ F) := by simp [CT]
   have e2 : CT (c :: M ++ F) = c.ids ++ CT (M ++ F) := by simp [CT]
   rw [e] at hd
   rw [e2]
   refine List.nodup_append.2 ⟨(List.nodup_append.1 hd).1, ih M (List.nodup_cons.1 hn).2 he.2, fun i hi j hj => ?_⟩
   refine (List.nodup_append.1 hd).2.2 i hi j ?_
   simp only [CT, List.mem_flatMap] at hj ⊢
   obtain ⟨d, hd, hj⟩ := hj
   refine ⟨d, ?_, hj⟩
   rcases List.mem_append.1 hd with hd | hd
   ·refine List.mem_append.2 (.inl ?_)
    have hm : some d ∈ M.map some := List.mem_map.2 ⟨d, hd, rfl⟩
    rw [← he.2] at hm
    obtain ⟨x, hx, hxd⟩ := List.mem_map.1 hm
    exact List.mem_eraseIdx_iff_getElem?.2 ⟨x, fun e => (List.nodup_cons.1 hn).1 (e ▸ hx), hxd⟩
   ·exact List.mem_append.2 (.inr hd)
theorem HH.pick (a : HH g h L F) (ks : List Nat) (M : List Ck) (hn : ks.Nodup) (he : ks.map (fun k => L[k]?) = M.map some) : HH g h M F := by
 have hm : ∀ c ∈ M, c ∈ L := fun c hc => by
  have hm : some c ∈ M.map some := List.mem_map.2 ⟨c, hc, rfl⟩
  rw [← he] at hm
  obtain ⟨x, hx, hxd⟩ := List.mem_map.1 hm
  exact List.mem_of_getElem? hxd
 refine ⟨fun c hc => a.ok c ?_, a.Zl ks M hn he, fun i hi => a.may i ?_, a.Cl, a.floor⟩
 ·rcases List.mem_append.1 hc with h | h
  ·exact List.mem_append.2 (.inl (hm c h))
  ·exact List.mem_append.2 (.inr h)
 ·simp only [CT, List.mem_flatMap] at hi ⊢
  obtain ⟨c, hc, hi⟩ := hi
  exact ⟨c, hm c hc, hi⟩
theorem HH.k1 (a : HH g h L F) (i0 : Nat) {c0 : Ck} (e0 : L[i0]? = some c0 := by rfl) (hd : [i0].Nodup := by decide) : HH g h [c0] F := a.pick [i0] [c0] hd (by simp only [List.map, e0])
theorem HH.k2 (a : HH g h L F) (i0 i1 : Nat) {c0 c1 : Ck} (e0 : L[i0]? = some c0 := by rfl) (e1 : L[i1]? = some c1 := by rfl) (hd : [i0, i1].Nodup := by decide) : HH g h [c0, c1] F := a.pick [i0, i1] [c0, c1] hd (by simp only [List.map, e0, e1])
theorem HH.k3 (a : HH g h L F) (i0 i1 i2 : Nat) {c0 c1 c2 : Ck} (e0 : L[i0]? = some c0 := by rfl) (e1 : L[i1]? = some c1 := by rfl) (e2 : L[i2]? = some c2 := by rfl) (hd : [i0, i1, i2].Nodup := by decide) : HH g h [c0, c1, c2] F := a.pick [i0, i1, i2] [c0, c1, c2] hd (by simp only [List.map, e0, e1, e2])
theorem HH.k4 (a : HH g h L F) (i0 i1 i2 i3 : Nat) {c0 c1 c2 c3 : Ck} (e0 : L[i0]? = some c0 := by rfl) (e1 : L[i1]? = some c1 := by rfl) (e2 : L[i2]? = some c2 := by rfl) (e3 : L[i3]? = some c3 := by rfl) (hd : [i0, i1, i2, i3].Nodup := by decide) : HH g h [c0, c1, c2, c3] F := a.pick [i0, i1, i2, i3] [c0, c1, c2, c3] hd (by simp only [List.map, e0, e1, e2, e3])
theorem HH.k5 (a : HH g h L F) (i0 i1 i2 i3 i4 : Nat) {c0 c1 c2 c3 c4 : Ck} (e0 : L[i0]? = some c0 := by rfl) (e1 : L[i1]? = some c1 := by rfl) (e2 : L[i2]? = some c2 := by rfl) (e3 : L[i3]? = some c3 := by rfl) (e4 : L[i4]? = some c4 := by rfl) (hd : [i0, i1, i2, i3, i4].Nodup := by decide) : HH g h [c0, c1, c2, c3, c4] F := a.pick [i0, i1, i2, i3, i4] [c0, c1, c2, c3, c4] hd (by simp only [List.map, e0, e1, e2, e3, e4])
theorem HH.k6 (a : HH g h L F) (i0 i1 i2 i3 i4 i5 : Nat) {c0 c1 c2 c3 c4 c5 : Ck} (e0 : L[i0]? = some c0 := by rfl) (e1 : L[i1]? = some c1 := by rfl) (e2 : L[i2]? = some c2 := by rfl) (e3 : L[i3]? = some c3 := by rfl) (e4 : L[i4]? = some c4 := by rfl) (e5 : L[i5]? = some c5 := by rfl) (hd : [i0, i1, i2, i3, i4, i5].Nodup := by decide) : HH g h [c0, c1, c2, c3, c4, c5] F := a.pick [i0, i1, i2, i3, i4, i5] [c0, c1, c2, c3, c4, c5] hd (by simp only [List.map, e0, e1, e2, e3, e4, e5])
theorem HH.k7 (a : HH g h L F) (i0 i1 i2 i3 i4 i5 i6 : Nat) {c0 c1 c2 c3 c4 c5 c6 : Ck} (e0 : L[i0]? = some c0 := by rfl) (e1 : L[i1]? = some c1 := by rfl) (e2 : L[i2]? = some c2 := by rfl) (e3 : L[i3]? = some c3 := by rfl) (e4 : L[i4]? = some c4 := by rfl) (e5 : L[i5]? = some c5 := by rfl) (e6 : L[i6]? = some c6 := by rfl) (hd : [i0, i1, i2, i3, i4, i5, i6].Nodup := by decide) : HH g h [c0, c1, c2, c3, c4, c5, c6] F := a.pick [i0, i1, i2, i3, i4, i5, i6] [c0, c1, c2, c3, c4, c5, c6] hd (by simp only [List.map, e0, e1, e2, e3, e4, e5, e6])
theorem HH.k8 (a : HH g h L F) (i0 i1 i2 i3 i4 i5 i6 i7 : Nat) {c0 c1 c2 c3 c4 c5 c6 c7 : Ck} (e0 : L[i0]? = some c0 := by rfl) (e1 : L[i1]? = some c1 := by rfl) (e2 : L[i2]? = some c2 := by rfl) (e3 : L[i3]? = some c3 := by rfl) (e4 : L[i4]? = some c4 := by rfl) (e5 : L[i5]? = some c5 := by rfl) (e6 : L[i6]? = some c6 := by rfl) (e7 : L[i7]? = some c7 := by rfl) (hd : [i0, i1, i2, i3, i4, i5, i6, i7].Nodup := by decide) : HH g h [c0, c1, c2, c3, c4, c5, c6, c7] F := a.pick [i0, i1, i2, i3, i4, i5, i6, i7] [c0, c1, c2, c3, c4, c5, c6, c7] hd (by simp only [List.map, e0, e1, e2, e3, e4, e5, e6, e7])
theorem HH.pu (a : HH g h L F) (o : BY) : ∃ h', h' = h.push o ∧ HH g h' (.obj h.size o :: L) F := ⟨_, rfl, a.push o⟩
theorem HH.pL (a : HH g h L F) (e : TypeId) (cs : List AA) : ∃ h', h' = h.push (.cells (some e) 2 cs) ∧ HH g h' (.Ak (some h.size) e cs :: L) F := ⟨_, rfl, a.X1 e cs⟩
theorem HH.la (a : HH g h L F) (k o n : Nat) {id : Nat} {gr : Option TypeId} {cs ds : List AA} (hk : L[k]? = some (.obj id (.cells gr 2 cs)) := by rfl) (hd : o + n ≤ cs.length ∧ (cs.drop o).take n = ds := by exact ⟨Nat.le_of_ble_eq_true rfl, rfl⟩) : Av.Eh h (id, o) n = some ds := a.Eh k hk hd
theorem HH.l1 (a : HH g h L F) (k o : Nat) {id : Nat} {gr : Option TypeId} {cs : List AA} {v : AA} (hk : L[k]? = some (.obj id (.cells gr 2 cs)) := by rfl) (hv : cs[o]? = some v := by rfl) : Av.ld1 h (id, o) = some v := a.ld1 k hk hv
end
section
variable {C : FY} {f : FuncId} {g : Gd} {ops : Array Oper} {tch : List (Nat × Nat)} {fr : Fr} {h h1 : AD} {K : Fr → AD → Prop} {N : Nat} {l : List (Nat × AA)} {i : Nat} {pl : List (Nat × List Nat)} {v : AA} {L F : List Ck}
theorem Has.kn (H : Has fr N l) (d : Nat) {b w : Bool} (hb : b = w) (hd : PN l d = some (.bool b) := by kernel_rfl) : Has fr N (NV l d (.bool w)) := H.Yn d hb hd
theorem rH {P : Program} {rs : List ResultVar} (H : Has fr N l) (hr : ∀ fr, KX P rs (CN N l fr) h = some v := by intro _; kernel_rfl) : KX P rs fr h = some v := ai H hr
theorem rT {t : Nat} (H : Has fr N l) (hr : ∀ fr, nth (CN N l fr) t = v := by intro _; kernel_rfl) : nth fr t = v := bK H hr
theorem ES {args args' : List AA} (n : Nat) (rs : List ResultVar) {R : AA → AD → Prop} (hc : BG (C.still f) args = args') (hh : AW C f g (EX C.P f) (args' ++ List.replicate (n - args'.length) (.tuple [])) h (fun e fr h' => (e = .ret ∨ e = .normal) ∧ ∃ v, KX C.P rs fr h' = some v ∧ R v h')) (hk : C.kind f = 1 := by kernel_rfl) (hf : GQ C.P f = some (n, rs) := by kernel_rfl) : ∃ v h', BH C g h f args v h' ∧ R v h' := YZ hk hc hf hh
theorem bd {args args' : List AA} (n : Nat) (rs : List ResultVar) {R : AA → AD → Prop} (hc : BG (C.still f) args = args') (hh : AW C f g (EX C.P f) (args' ++ List.replicate (n - args'.length) (.tuple [])) h (fun e fr h' => (e = .ret ∨ e = .normal) ∧ ∃ v, KX C.P rs fr h' = some v ∧ ∃ v' h'', NA g h' v = some (v', h'') ∧ R v' h'')) (hk : C.kind f = 7 := by kernel_rfl) (hf : GQ C.P f = some (n, rs) := by kernel_rfl) : ∃ v h', BH C g h f args v h' ∧ R v h' := Yv hk hc hf hh
theorem bg {args : List AA} {c : Code} {Q : BN → Fr → AD → Prop} (n : Nat) (ins : List (Nat × AA)) (hh : ∀ fr, Has fr n ins → AW C f g c fr h Q) (hl : (args ++ List.replicate (n - args.length) (AA.tuple [])).length = n := by kernel_rfl) (hi : ins.map (fun p => nth (args ++ List.replicate (n - args.length) (AA.tuple [])) p.1) = ins.map (·.2) := by kernel_rfl) : AW C f g c (args ++ List.replicate (n - args.length) (.tuple [])) h Q := start ins hl hi hh
theorem AV (k : Nat) (nw : List (Nat × AA)) (d : Nat) (j o : Nat) (A : HH g h L F) {id : Nat} {gr : Option TypeId} {cs : List AA} (H : Has fr N l) (hn : ∀ fr' t, Has fr' N (((d, v) :: List.append nw l)) → AT C g ops (pl.drop (k + 1)) t fr' h K) (hj : L[j]? = some (.obj id (.cells gr 2 cs)) := by rfl) (hv : cs[o]? = some v := by rfl) (hsp : ∀ fr, L9 C.P (M8 C.P ops (DF (pl.take k)) (CN N l fr)) (NN ops (Fa pl k)) = some ((id, o), none) := by intro _; kernel_rfl) (hk : ∀ fr, (Oe pl k && (Pt (pl.take k) && (Db ops l (DF (pl.take k)) && (Ge d l && (Ge d nw && Nat.blt d N)))), (Ev C.P ops (DF (pl.take k)) (CN N l fr)).map (fun x => (runs ops x (Fa pl k), GY ops (Fa pl k), nw.map (fun p => nth x p.1)))) = (true, some (true, some d, nw.map (·.2))) := by intro _; kernel_rfl) : AT C g ops pl tch fr h K := BC k nw d v h H (fun fr => .of (O0 (hsp fr) (A.ld1 j hj hv))) hn hk
theorem Mi (d : Nat) (j o : Nat) (A : HH g h L F) {id : Nat} {gr : Option TypeId} {cs : List AA} (H : Has fr N l) (hn : ∀ fr' t, Has fr' N ((d, v) :: l) → AT C g ops pl t fr' h K) (hj : L[j]? = some (.obj id (.cells gr 2 cs)) := by rfl) (hv : cs[o]? = some v := by rfl) (hsp : ∀ fr, L9 C.P (CN N l fr) (NN ops i) = some ((id, o), none) := by intro _; kernel_rfl) (hw : ∀ fr, (runs ops (CN N l fr) i, GY ops i, Nat.blt d N, Ge d l) = (true, some d, true, true) := by intro _; kernel_rfl) : AT C g ops ((i, []) :: pl) tch fr h K := Ae d v h H (fun fr => .of (O0 (hsp fr) (A.ld1 j hj hv))) hn hw
theorem Ef (k : Nat) (nw : List (Nat × AA)) {f' : FuncId} {args : List AA} (hr : BH C g h f' args v h1) (H : Has fr N l) (hn : ∀ fr' t, Has fr' N ((List.append nw l)) → AT C g ops (pl.drop (k + 1)) t fr' h1 K) (hsp : ∀ fr, L7 (M8 C.P ops (DF (pl.take k)) (CN N l fr)) (NN ops (Fa pl k)) = some (f', args) := by intro _; kernel_rfl) (hk : ∀ fr, (Oe pl k && (Pt (pl.take k) && (Db ops l (DF (pl.take k)) && (HQ ops (Fa pl k) l && HQ ops (Fa pl k) nw))), (Ev C.P ops (DF (pl.take k)) (CN N l fr)).map (fun x => (runs ops x (Fa pl k), nw.map (fun p => nth x p.1)))) = (true, some (true, nw.map (·.2))) := by intro _; kernel_rfl) : AT C g ops pl tch fr h K := WM k nw _ h1 H (fun fr => Steps.call (hsp fr) hr) hn hk
theorem A6 (k : Nat) (nw : List (Nat × AA)) (d : Nat) {f' : FuncId} {args : List AA} (hr : BH C g h f' args v h1) (H : Has fr N l) (hn : ∀ fr' t, Has fr' N (((d, v) :: List.append nw l)) → AT C g ops (pl.drop (k + 1)) t fr' h1 K) (hsp : ∀ fr, L7 (M8 C.P ops (DF (pl.take k)) (CN N l fr)) (NN ops (Fa pl k)) = some (f', args) := by intro _; kernel_rfl) (hk : ∀ fr, (Oe pl k && (Pt (pl.take k) && (Db ops l (DF (pl.take k)) && (Ge d l && (Ge d nw && Nat.blt d N)))), (Ev C.P ops (DF (pl.take k)) (CN N l fr)).map (fun x => (runs ops x (Fa pl k), GY ops (Fa pl k), nw.map (fun p => nth x p.1)))) = (true, some (true, some d, nw.map (·.2))) := by intro _; kernel_rfl) : AT C g ops pl tch fr h K := BC k nw d v h1 H (fun fr => Steps.call (hsp fr) hr) hn hk
theorem Aw (d : Nat) {f' : FuncId} {args : List AA} (hr : BH C g h f' args v h1) (H : Has fr N l) (hn : ∀ fr' t, Has fr' N ((d, v) :: l) → AT C g ops pl t fr' h1 K) (hsp : ∀ fr, L7 (CN N l fr) (NN ops i) = some (f', args) := by intro _; kernel_rfl) (hw : ∀ fr, (runs ops (CN N l fr) i, GY ops i, Nat.blt d N, Ge d l) = (true, some d, true, true) := by intro _; kernel_rfl) : AT C g ops ((i, []) :: pl) tch fr h K := Ae d v h1 H (fun fr => Steps.call (hsp fr) hr) hn hw
theorem JA (k : Nat) (nw : List (Nat × AA)) (d : Nat) (v : AA) {ob : BY} (e : h1 = h.push ob) (H : Has fr N l) (hn : ∀ fr' t, Has fr' N (((d, v) :: List.append nw l)) → AT C g ops (pl.drop (k + 1)) t fr' h1 K) (hsp : ∀ fr, ZQ C.P (M8 C.P ops (DF (pl.take k)) (CN N l fr)) (NN ops (Fa pl k)) h.size = some (v, ob) := by intro _; kernel_rfl) (hk : ∀ fr, (Oe pl k && (Pt (pl.take k) && (Db ops l (DF (pl.take k)) && (Ge d l && (Ge d nw && Nat.blt d N)))), (Ev C.P ops (DF (pl.take k)) (CN N l fr)).map (fun x => (runs ops x (Fa pl k), GY ops (Fa pl k), nw.map (fun p => nth x p.1)))) = (true, some (true, some d, nw.map (·.2))) := by intro _; kernel_rfl) : AT C g ops pl tch fr h K := BC k nw d v h1 H (fun fr => .of (Ye (hsp fr) (congrArg some e.symm))) hn hk
theorem BK (d : Nat) (v : AA) {ob : BY} (e : h1 = h.push ob) (H : Has fr N l) (hn : ∀ fr' t, Has fr' N ((d, v) :: l) → AT C g ops pl t fr' h1 K) (hsp : ∀ fr, ZQ C.P (CN N l fr) (NN ops i) h.size = some (v, ob) := by intro _; kernel_rfl) (hw : ∀ fr, (runs ops (CN N l fr) i, GY ops i, Nat.blt d N, Ge d l) = (true, some d, true, true) := by intro _; kernel_rfl) : AT C g ops ((i, []) :: pl) tch fr h K := Ae d v h1 H (fun fr => .of (Ye (hsp fr) (congrArg some e.symm))) hn hw
theorem CF (k : Nat) (nw : List (Nat × AA)) {a : Nat × Nat} {v : AA} (hx : Av.st g h a [v] = some h1) (H : Has fr N l) (hn : ∀ fr' t, Has fr' N ((List.append nw l)) → AT C g ops (pl.drop (k + 1)) t fr' h1 K) (hc : v.cells? = some [v] := by rfl) (hsp : ∀ fr, Ho C.P (M8 C.P ops (DF (pl.take k)) (CN N l fr)) (NN ops (Fa pl k)) = some (a, 1, v) := by intro _; kernel_rfl) (hk : ∀ fr, (Oe pl k && (Pt (pl.take k) && (Db ops l (DF (pl.take k)) && (HQ ops (Fa pl k) l && HQ ops (Fa pl k) nw))), (Ev C.P ops (DF (pl.take k)) (CN N l fr)).map (fun x => (runs ops x (Fa pl k), nw.map (fun p => nth x p.1)))) = (true, some (true, nw.map (·.2))) := by intro _; kernel_rfl) : AT C g ops pl tch fr h K := WM k nw _ h1 H (fun fr => .of (Wq (hsp fr) hc hx)) hn hk
theorem JB {a : Nat × Nat} {v : AA} (hx : Av.st g h a [v] = some h1) (H : Has fr N l) (hn : ∀ fr' t, Has fr' N l → AT C g ops pl t fr' h1 K) (hc : v.cells? = some [v] := by rfl) (hsp : ∀ fr, Ho C.P (CN N l fr) (NN ops i) = some (a, 1, v) := by intro _; kernel_rfl) (hw : ∀ fr, (runs ops (CN N l fr) i, HQ ops i l) = (true, true) := by intro _; kernel_rfl) : AT C g ops ((i, []) :: pl) tch fr h K := Fv _ h1 H (fun fr => .of (Wq (hsp fr) hc hx)) hn hw
theorem Es (k : Nat) (nw : List (Nat × AA)) {a : Nat × Nat} {n : Nat} {cs : List AA} (hx : Av.st g h a cs = some h1) (H : Has fr N l) (hn : ∀ fr' t, Has fr' N ((List.append nw l)) → AT C g ops (pl.drop (k + 1)) t fr' h1 K) (hl : cs.length = n := by rfl) (hsp : ∀ fr, Ho C.P (M8 C.P ops (DF (pl.take k)) (CN N l fr)) (NN ops (Fa pl k)) = some (a, n, .agg cs) := by intro _; kernel_rfl) (hk : ∀ fr, (Oe pl k && (Pt (pl.take k) && (Db ops l (DF (pl.take k)) && (HQ ops (Fa pl k) l && HQ ops (Fa pl k) nw))), (Ev C.P ops (DF (pl.take k)) (CN N l fr)).map (fun x => (runs ops x (Fa pl k), nw.map (fun p => nth x p.1)))) = (true, some (true, nw.map (·.2))) := by intro _; kernel_rfl) : AT C g ops pl tch fr h K := WM k nw _ h1 H (fun fr => .of (RV (hsp fr) (NY hx hl))) hn hk
theorem Ch {a : Nat × Nat} {n : Nat} {cs : List AA} (hx : Av.st g h a cs = some h1) (H : Has fr N l) (hn : ∀ fr' t, Has fr' N l → AT C g ops pl t fr' h1 K) (hl : cs.length = n := by rfl) (hsp : ∀ fr, Ho C.P (CN N l fr) (NN ops i) = some (a, n, .agg cs) := by intro _; kernel_rfl) (hw : ∀ fr, (runs ops (CN N l fr) i, HQ ops i l) = (true, true) := by intro _; kernel_rfl) : AT C g ops ((i, []) :: pl) tch fr h K := Fv _ h1 H (fun fr => .of (RV (hsp fr) (NY hx hl))) hn hw
end
section
variable {C : FY} {f : FuncId} {g : Gd} {ops : Array Oper} {tch : List (Nat × Nat)} {fr : Fr} {h : AD} {N : Nat} {l out : List (Nat × AA)} {c c' : Code} {Q Q' : BN → Fr → AD → Prop}
theorem CI (hK : AW C f g c' fr h Q' → Q .normal fr h) (hh : AW C f g c' fr h Q') (hs : shape c = .skip := by kernel_rfl) : AW C f g c fr h Q := NM hs (hK hh)
theorem DI (n : Nat) (hK : AW C f g c' fr h Q' → Q .normal fr h) (hh : AT C g (opsOf c') (EZ 0 n) [] fr h (fun fr' h' => Q' .normal fr' h')) (hs : shape c = .skip := by kernel_rfl) (hr : JV c' n = true := by kernel_rfl) : AW C f g c fr h Q := NM hs (hK (CX n hh hr))
theorem Br (n : Nat) (hK : AW C f g c' fr h Q' → Q .normal fr h) (hh : AT C g (opsOf (left c')) (EZ 0 n) [] fr h (fun fr' h' => Kb (fun fr h => AW C f g (right c') fr h Q') Q' .normal fr' h')) (hs : shape c = .skip := by kernel_rfl) (hq : shape c' = .seq := by kernel_rfl) (hr : JV (left c') n = true := by kernel_rfl) : AW C f g c fr h Q := NM hs (hK (TB hq (CX n hh hr)))
theorem Ao {b w : Bool} (H : Has fr N l) (hb : b = w) (hx : b = w → ∀ fr, out.map (fun p => nth (CN N l fr) p.1) = out.map (·.2) := by intro hb _; first | rfl | (rw [hb]; rfl)) : AT C g ops [] tch fr h (fun fr' h' => h = h' ∧ Has fr' N out) := at_nil ⟨rfl, H.less _ (hx hb)⟩
end
theorem nx {σ ρ : Type} {a : σ} {o : σ ⊕ ρ} {P : σ → Prop} (hm : some (.inl a) = some o) (h : P a) : ∃ s', o = .inl s' ∧ P s' := ⟨a, (Option.some.inj hm).symm, h⟩
theorem nr {σ ρ : Type} {a : ρ} {o : σ ⊕ ρ} {P : ρ → Prop} (hm : some (.inr a) = some o) (h : P a) : ∃ s', o = .inr s' ∧ P s' := ⟨a, (Option.some.inj hm).symm, h⟩
abbrev Ai (x : Int) : AA := .int .i64 x
abbrev Ab (x : Int) : AA := .int .u8 x
section
variable {C : FY} {f : FuncId} {g : Gd} {ops : Array Oper} {tch : List (Nat × Nat)} {fr : Fr} {h : AD} {N : Nat} {l : List (Nat × AA)} {pl : List (Nat × List Nat)} {c : Code} {Q : BN → Fr → AD → Prop}
theorem AK (k : Nat) (nw : List (Nat × AA)) (H : Has fr N l) (hh : ∀ fr', Has fr' N (List.append nw l) → AW C f g c fr' h Q)
  (hk : ∀ fr, (Pt pl, Nat.beq pl.length k, Db ops l (DF pl), (Ev C.P ops (DF pl) (CN N l fr)).map (fun x => nw.map (fun p => nth x p.1))) = (true, true, true, some (nw.map (·.2))) := by intro _; kernel_rfl) : AT C g ops pl tch fr h (fun fr h => AW C f g c fr h Q) := WW k nw H (fun _ => id) hh hk
theorem Y3 (k : Nat) (nw : List (Nat × AA)) (n : Nat) (H : Has fr N l) (hh : ∀ fr', Has fr' N (List.append nw l) → AT C g (opsOf c) (EZ 0 n) [] fr' h (fun fr' h' => Q .normal fr' h'))
  (hk : ∀ fr, (Pt pl, Nat.beq pl.length k, Db ops l (DF pl), (Ev C.P ops (DF pl) (CN N l fr)).map (fun x => nw.map (fun p => nth x p.1))) = (true, true, true, some (nw.map (·.2))) := by intro _; kernel_rfl) (hr : JV c n = true := by kernel_rfl) : AT C g ops pl tch fr h (fun fr h => AW C f g c fr h Q) := Zk k nw n H (fun _ => id) hh hk hr
theorem Bg (k : Nat) (nw : List (Nat × AA)) (n : Nat) (H : Has fr N l) (hh : ∀ fr', Has fr' N (List.append nw l) → AT C g (opsOf (left c)) (EZ 0 n) [] fr' h (fun fr' h' => Kb (fun fr h => AW C f g (right c) fr h Q) Q .normal fr' h'))
  (hk : ∀ fr, (Pt pl, Nat.beq pl.length k, Db ops l (DF pl), (Ev C.P ops (DF pl) (CN N l fr)).map (fun x => nw.map (fun p => nth x p.1))) = (true, true, true, some (nw.map (·.2))) := by intro _; kernel_rfl) (hs : shape c = .seq := by kernel_rfl) (hr : JV (left c) n = true := by kernel_rfl) : AT C g ops pl tch fr h (fun fr h => AW C f g c fr h Q) := aF k nw n H (fun _ => id) hh hk hs hr
end
end Go.Av
