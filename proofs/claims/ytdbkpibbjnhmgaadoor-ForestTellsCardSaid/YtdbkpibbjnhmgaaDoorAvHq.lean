/-
 A part.
-/
import Derived.Test.YtdbkpibbjnhmgaaDoorAvTy
import Derived.Test.YtdbkpibbjnhmgaaDoorAvCo
namespace Go.Av
set_option linter.unusedVariables false
set_option linter.unusedSimpArgs false
section
variable {g : Gd} {h h' : AB} {L F : List Ck}
theorem HH.Ri (a : HH g h L F) (b : HH g h' [] (List.append L F)) : HH g h' L F := a.HI (n := 0) b
theorem HH.V3 {c0' : Ck} (a : HH g h L F) (b : HH g h' [c0'] (List.append L F)) : HH g h' (c0' :: L) F := a.HI (n := 0) b
theorem HH.Wh {c0' c1' : Ck} (a : HH g h L F) (b : HH g h' [c0', c1'] (List.append L F)) : HH g h' (c0' :: c1' :: L) F := a.HI (n := 0) b
theorem HH.X1 {c0' c1' c2' : Ck} (a : HH g h L F) (b : HH g h' [c0', c1', c2'] (List.append L F)) : HH g h' (c0' :: c1' :: c2' :: L) F := a.HI (n := 0) b
theorem HH.g11 {c0 c0' : Ck} (a : HH g h (c0 :: L) F) (b : HH g h' [c0'] (List.append L F)) : HH g h' (c0' :: L) F := a.HI (n := 1) b
theorem HH.YB {c0 c0' : Ck} {pr : List Nat} (a : HH g h (c0 :: L) F) (b : HH ⟨g.floor, List.append pr g.Bg⟩ h' [c0'] (List.append L F)) : HH g h' (c0' :: L) F := a.SD (n := 1) b
theorem HH.g12 {c0 c0' c1' : Ck} (a : HH g h (c0 :: L) F) (b : HH g h' [c0', c1'] (List.append L F)) : HH g h' (c0' :: c1' :: L) F := a.HI (n := 1) b
theorem HH.g22 {c0 c1 c0' c1' : Ck} (a : HH g h (c0 :: c1 :: L) F) (b : HH g h' [c0', c1'] (List.append L F)) : HH g h' (c0' :: c1' :: L) F := a.HI (n := 2) b
theorem HH.d0 (a : HH g h L F) : HH g h [] F := a.UY 0
theorem HH.d1 {c0 : Ck} (a : HH g h (c0 :: L) F) : HH g h [c0] F := a.UY 1
theorem HH.s0 {id : Nat} {gr : Option TypeId} {cs : List AA} (a : HH g h (.obj id (.cells gr 2 cs) :: L) F) (o : Nat) (new ds : List AA) (hd : C1 cs o (JR gr new) = ds := by rfl) (hl : o + new.length ≤ cs.length := by exact Nat.le_of_ble_eq_true rfl) (h1 : new.all AA.one = true := by rfl) : ∃ h', Av.st g h (id, o) new = some h' ∧ HH g h' (.obj id (.cells gr 2 ds) :: L) F := a.st 0 rfl hl h1 hd
theorem HH.s3 {c0 c1 c2 : Ck} {id : Nat} {gr : Option TypeId} {cs : List AA} (a : HH g h (c0 :: c1 :: c2 :: .obj id (.cells gr 2 cs) :: L) F) (o : Nat) (new ds : List AA) (hd : C1 cs o (JR gr new) = ds := by rfl) (hl : o + new.length ≤ cs.length := by exact Nat.le_of_ble_eq_true rfl) (h1 : new.all AA.one = true := by rfl) : ∃ h', Av.st g h (id, o) new = some h' ∧ HH g h' (c0 :: c1 :: c2 :: .obj id (.cells gr 2 ds) :: L) F := a.st 3 rfl hl h1 hd
theorem HH.s5 {c0 c1 c2 c3 c4 : Ck} {id : Nat} {gr : Option TypeId} {cs : List AA} (a : HH g h (c0 :: c1 :: c2 :: c3 :: c4 :: .obj id (.cells gr 2 cs) :: L) F) (o : Nat) (new ds : List AA) (hd : C1 cs o (JR gr new) = ds := by rfl) (hl : o + new.length ≤ cs.length := by exact Nat.le_of_ble_eq_true rfl) (h1 : new.all AA.one = true := by rfl) : ∃ h', Av.st g h (id, o) new = some h' ∧ HH g h' (c0 :: c1 :: c2 :: c3 :: c4 :: .obj id (.cells gr 2 ds) :: L) F := a.st 5 rfl hl h1 hd
theorem HH.s8 {c0 c1 c2 c3 c4 c5 c6 c7 : Ck} {id : Nat} {gr : Option TypeId} {cs : List AA} (a : HH g h (c0 :: c1 :: c2 :: c3 :: c4 :: c5 :: c6 :: c7 :: .obj id (.cells gr 2 cs) :: L) F) (o : Nat) (new ds : List AA) (hd : C1 cs o (JR gr new) = ds := by rfl) (hl : o + new.length ≤ cs.length := by exact Nat.le_of_ble_eq_true rfl) (h1 : new.all AA.one = true := by rfl) : ∃ h', Av.st g h (id, o) new = some h' ∧ HH g h' (c0 :: c1 :: c2 :: c3 :: c4 :: c5 :: c6 :: c7 :: .obj id (.cells gr 2 ds) :: L) F := a.st 8 rfl hl h1 hd
theorem HH.V7 (a : HH g h L F) : ∀ (ks : List Nat) (M : List Ck), ks.Nodup → ks.map (fun k => L[k]?) = M.map some → (AX (M ++ F)).Nodup := by
 intro ks
 induction ks with
 | nil =>
  intro M _ he
  cases M with
  | nil =>
   have := a.nd
   rw [AY] at this
   exact (List.nodup_append.1 this).2.1
  | cons c M => simp at he
 | cons k ks ih =>
  intro M hn he
  cases M with
  | nil => simp at he
  | cons c M =>
   simp only [List.map_cons, List.cons.injEq] at he
   have hd := (a.front k he.1).nd
   have e : AX (c :: L.eraseIdx k ++ F) = c.ids ++ AX (L.eraseIdx k ++ F) := by simp [AX]
   have e2 : AX (c :: M ++ F) = c.ids ++ AX (M ++ F) := by simp [AX]
   rw [e] at hd
   rw [e2]
   refine List.nodup_append.2 ⟨(List.nodup_append.1 hd).1, ih M (List.nodup_cons.1 hn).2 he.2, fun i hi j hj => ?_⟩
   refine (List.nodup_append.1 hd).2.2 i hi j ?_
   simp only [AX, List.mem_flatMap] at hj ⊢
   obtain ⟨d, hd, hj⟩ := hj
   refine ⟨d, ?_, hj⟩
   rcases List.mem_append.1 hd with hd | hd
   ·refine List.mem_append.2 (.inl ?_)
    have hm : some d ∈ M.map some := List.mem_map.2 ⟨d, hd, rfl⟩
    rw [← he.2] at hm
    obtain ⟨x, hx, hxd⟩ := List.mem_map.1 hm
    exact List.mem_eraseIdx_iff_getElem?.2 ⟨x, fun e => (List.nodup_cons.1 hn).1 (e ▸ hx), hxd⟩
   ·exact List.mem_append.2 (.inr hd)
theorem HH.pick (a : HH g h L F) (ks : List Nat) (M : List Ck) (hn : ks.Nodup) (he : ks.map (fun k => L[k]?) = M.map some) : HH g h M F := by
 have hm : ∀ c ∈ M, c ∈ L := fun c hc => by
  have hm : some c ∈ M.map some := List.mem_map.2 ⟨c, hc, rfl⟩
  rw [← he] at hm
  obtain ⟨x, hx, hxd⟩ := List.mem_map.1 hm
  exact List.mem_of_getElem? hxd
 refine ⟨fun c hc => a.ok c ?_, a.V7 ks M hn he, fun i hi => a.may i ?_, a.Bg, a.floor⟩
 ·rcases List.mem_append.1 hc with h | h
  ·exact List.mem_append.2 (.inl (hm c h))
  ·exact List.mem_append.2 (.inr h)
 ·simp only [AX, List.mem_flatMap] at hi ⊢
  obtain ⟨c, hc, hi⟩ := hi
  exact ⟨c, hm c hc, hi⟩
theorem HH.k1 (a : HH g h L F) (i0 : Nat) {c0 : Ck} (e0 : L[i0]? = some c0 := by rfl) (hd : [i0].Nodup := by decide) : HH g h [c0] F := a.pick [i0] [c0] hd (by simp only [List.map, e0])
theorem HH.k2 (a : HH g h L F) (i0 i1 : Nat) {c0 c1 : Ck} (e0 : L[i0]? = some c0 := by rfl) (e1 : L[i1]? = some c1 := by rfl) (hd : [i0, i1].Nodup := by decide) : HH g h [c0, c1] F := a.pick [i0, i1] [c0, c1] hd (by simp only [List.map, e0, e1])
theorem HH.k3 (a : HH g h L F) (i0 i1 i2 : Nat) {c0 c1 c2 : Ck} (e0 : L[i0]? = some c0 := by rfl) (e1 : L[i1]? = some c1 := by rfl) (e2 : L[i2]? = some c2 := by rfl) (hd : [i0, i1, i2].Nodup := by decide) : HH g h [c0, c1, c2] F := a.pick [i0, i1, i2] [c0, c1, c2] hd (by simp only [List.map, e0, e1, e2])
theorem HH.k4 (a : HH g h L F) (i0 i1 i2 i3 : Nat) {c0 c1 c2 c3 : Ck} (e0 : L[i0]? = some c0 := by rfl) (e1 : L[i1]? = some c1 := by rfl) (e2 : L[i2]? = some c2 := by rfl) (e3 : L[i3]? = some c3 := by rfl) (hd : [i0, i1, i2, i3].Nodup := by decide) : HH g h [c0, c1, c2, c3] F := a.pick [i0, i1, i2, i3] [c0, c1, c2, c3] hd (by simp only [List.map, e0, e1, e2, e3])
theorem HH.k5 (a : HH g h L F) (i0 i1 i2 i3 i4 : Nat) {c0 c1 c2 c3 c4 : Ck} (e0 : L[i0]? = some c0 := by rfl) (e1 : L[i1]? = some c1 := by rfl) (e2 : L[i2]? = some c2 := by rfl) (e3 : L[i3]? = some c3 := by rfl) (e4 : L[i4]? = some c4 := by rfl) (hd : [i0, i1, i2, i3, i4].Nodup := by decide) : HH g h [c0, c1, c2, c3, c4] F := a.pick [i0, i1, i2, i3, i4] [c0, c1, c2, c3, c4] hd (by simp only [List.map, e0, e1, e2, e3, e4])
theorem HH.k6 (a : HH g h L F) (i0 i1 i2 i3 i4 i5 : Nat) {c0 c1 c2 c3 c4 c5 : Ck} (e0 : L[i0]? = some c0 := by rfl) (e1 : L[i1]? = some c1 := by rfl) (e2 : L[i2]? = some c2 := by rfl) (e3 : L[i3]? = some c3 := by rfl) (e4 : L[i4]? = some c4 := by rfl) (e5 : L[i5]? = some c5 := by rfl) (hd : [i0, i1, i2, i3, i4, i5].Nodup := by decide) : HH g h [c0, c1, c2, c3, c4, c5] F := a.pick [i0, i1, i2, i3, i4, i5] [c0, c1, c2, c3, c4, c5] hd (by simp only [List.map, e0, e1, e2, e3, e4, e5])
theorem HH.k7 (a : HH g h L F) (i0 i1 i2 i3 i4 i5 i6 : Nat) {c0 c1 c2 c3 c4 c5 c6 : Ck} (e0 : L[i0]? = some c0 := by rfl) (e1 : L[i1]? = some c1 := by rfl) (e2 : L[i2]? = some c2 := by rfl) (e3 : L[i3]? = some c3 := by rfl) (e4 : L[i4]? = some c4 := by rfl) (e5 : L[i5]? = some c5 := by rfl) (e6 : L[i6]? = some c6 := by rfl) (hd : [i0, i1, i2, i3, i4, i5, i6].Nodup := by decide) : HH g h [c0, c1, c2, c3, c4, c5, c6] F := a.pick [i0, i1, i2, i3, i4, i5, i6] [c0, c1, c2, c3, c4, c5, c6] hd (by simp only [List.map, e0, e1, e2, e3, e4, e5, e6])
theorem HH.k8 (a : HH g h L F) (i0 i1 i2 i3 i4 i5 i6 i7 : Nat) {c0 c1 c2 c3 c4 c5 c6 c7 : Ck} (e0 : L[i0]? = some c0 := by rfl) (e1 : L[i1]? = some c1 := by rfl) (e2 : L[i2]? = some c2 := by rfl) (e3 : L[i3]? = some c3 := by rfl) (e4 : L[i4]? = some c4 := by rfl) (e5 : L[i5]? = some c5 := by rfl) (e6 : L[i6]? = some c6 := by rfl) (e7 : L[i7]? = some c7 := by rfl) (hd : [i0, i1, i2, i3, i4, i5, i6, i7].Nodup := by decide) : HH g h [c0, c1, c2, c3, c4, c5, c6, c7] F := a.pick [i0, i1, i2, i3, i4, i5, i6, i7] [c0, c1, c2, c3, c4, c5, c6, c7] hd (by simp only [List.map, e0, e1, e2, e3, e4, e5, e6, e7])
theorem HH.pu (a : HH g h L F) (o : A9) : ∃ h', h' = h.push o ∧ HH g h' (.obj h.size o :: L) F := ⟨_, rfl, a.push o⟩
theorem HH.pL (a : HH g h L F) (e : TypeId) (cs : List AA) : ∃ h', h' = h.push (.cells (some e) 2 cs) ∧ HH g h' (.AL (some h.size) e cs :: L) F := ⟨_, rfl, a.S3 e cs⟩
theorem HH.l1 (a : HH g h L F) (k o : Nat) {id : Nat} {gr : Option TypeId} {cs : List AA} {v : AA} (hk : L[k]? = some (.obj id (.cells gr 2 cs)) := by rfl) (hv : cs[o]? = some v := by rfl) : Av.PK h (id, o) = some v := a.PK k hk hv
end
section
variable {C : EP} {f : FuncId} {g : Gd} {ops : Array Oper} {tch : List (Nat × Nat)} {fr : Fr} {h h1 : AB} {K : Fr → AB → Prop} {N : Nat} {l : List (Nat × AA)} {i : Nat} {pl : List (Nat × List Nat)} {v : AA} {L F : List Ck}
theorem Has.kn (H : Has fr N l) (d : Nat) {b w : Bool} (hb : b = w) (hd : MU l d = some (.bool b) := by kernel_rfl) : Has fr N (Pm l d (.bool w)) := H.Vg d hb hd
theorem rH {P : Program} {rs : List ResultVar} (H : Has fr N l) (hr : ∀ fr, Kq P rs (Bx N l fr) h = some v := by intro _; kernel_rfl) : Kq P rs fr h = some v := Xm H hr
theorem rT {t : Nat} (H : Has fr N l) (hr : ∀ fr, nth (Bx N l fr) t = v := by intro _; kernel_rfl) : nth fr t = v := XN H hr
theorem HO {args args' : List AA} (n : Nat) (rs : List ResultVar) {R : AA → AB → Prop} (hc : B3 (C.still f) args = args') (hh : AW C f g (Kk C.P f) (args' ++ List.replicate (n - args'.length) (.tuple [])) h (fun e fr h' => (e = .ret ∨ e = .normal) ∧ ∃ v, Kq C.P rs fr h' = some v ∧ R v h')) (hk : C.kind f = 1 := by kernel_rfl) (hf : Gl C.P f = some (n, rs) := by kernel_rfl) : ∃ v h', CC C g h f args v h' ∧ R v h' := Vn hk hc hf hh
theorem X7 {args args' : List AA} (n : Nat) (rs : List ResultVar) {R : AA → AB → Prop} (hc : B3 (C.still f) args = args') (hh : AW C f g (Kk C.P f) (args' ++ List.replicate (n - args'.length) (.tuple [])) h (fun e fr h' => (e = .ret ∨ e = .normal) ∧ ∃ v, Kq C.P rs fr h' = some v ∧ ∃ v' h'', Kr g h' v = some (v', h'') ∧ R v' h'')) (hk : C.kind f = 7 := by kernel_rfl) (hf : Gl C.P f = some (n, rs) := by kernel_rfl) : ∃ v h', CC C g h f args v h' ∧ R v h' := Ve hk hc hf hh
theorem bg {args : List AA} {c : Code} {Q : BL → Fr → AB → Prop} (n : Nat) (ins : List (Nat × AA)) (hh : ∀ fr, Has fr n ins → AW C f g c fr h Q) (hl : (args ++ List.replicate (n - args.length) (AA.tuple [])).length = n := by kernel_rfl) (hi : ins.map (fun p => nth (args ++ List.replicate (n - args.length) (AA.tuple [])) p.1) = ins.map (·.2) := by kernel_rfl) : AW C f g c (args ++ List.replicate (n - args.length) (.tuple [])) h Q := start ins hl hi hh
theorem DV (k : Nat) (nw : List (Nat × AA)) (d : Nat) (j o : Nat) (A : HH g h L F) {id : Nat} {gr : Option TypeId} {cs : List AA} (H : Has fr N l) (hn : ∀ fr' t, Has fr' N (((d, v) :: List.append nw l)) → AT C g ops (pl.drop (k + 1)) t fr' h K) (hj : L[j]? = some (.obj id (.cells gr 2 cs)) := by rfl) (hv : cs[o]? = some v := by rfl) (Jt : ∀ fr, KK C.P (Kw C.P ops (Cj (pl.take k)) (Bx N l fr)) (Kt ops (EO pl k)) = some ((id, o), none) := by intro _; kernel_rfl) (hk : ∀ fr, (MS pl k && (NO (pl.take k) && (C7 ops l (Cj (pl.take k)) && (E4 d l && (E4 d nw && Nat.blt d N)))), (D2 C.P ops (Cj (pl.take k)) (Bx N l fr)).map (fun x => (runs ops x (EO pl k), Eg ops (EO pl k), nw.map (fun p => nth x p.1)))) = (true, some (true, some d, nw.map (·.2))) := by intro _; kernel_rfl) : AT C g ops pl tch fr h K := BE k nw d v h H (fun fr => .of (Dk (Jt fr) (A.PK j hj hv))) hn hk
theorem Fi (d : Nat) (j o : Nat) (A : HH g h L F) {id : Nat} {gr : Option TypeId} {cs : List AA} (H : Has fr N l) (hn : ∀ fr' t, Has fr' N ((d, v) :: l) → AT C g ops pl t fr' h K) (hj : L[j]? = some (.obj id (.cells gr 2 cs)) := by rfl) (hv : cs[o]? = some v := by rfl) (Jt : ∀ fr, KK C.P (Bx N l fr) (Kt ops i) = some ((id, o), none) := by intro _; kernel_rfl) (hw : ∀ fr, (runs ops (Bx N l fr) i, Eg ops i, Nat.blt d N, E4 d l) = (true, some d, true, true) := by intro _; kernel_rfl) : AT C g ops ((i, []) :: pl) tch fr h K := Az d v h H (fun fr => .of (Dk (Jt fr) (A.PK j hj hv))) hn hw
theorem Vd (k : Nat) (nw : List (Nat × AA)) {f' : FuncId} {args : List AA} (hr : CC C g h f' args v h1) (H : Has fr N l) (hn : ∀ fr' t, Has fr' N ((List.append nw l)) → AT C g ops (pl.drop (k + 1)) t fr' h1 K) (Jt : ∀ fr, KP (Kw C.P ops (Cj (pl.take k)) (Bx N l fr)) (Kt ops (EO pl k)) = some (f', args) := by intro _; kernel_rfl) (hk : ∀ fr, (MS pl k && (NO (pl.take k) && (C7 ops l (Cj (pl.take k)) && (Fs ops (EO pl k) l && Fs ops (EO pl k) nw))), (D2 C.P ops (Cj (pl.take k)) (Bx N l fr)).map (fun x => (runs ops x (EO pl k), nw.map (fun p => nth x p.1)))) = (true, some (true, nw.map (·.2))) := by intro _; kernel_rfl) : AT C g ops pl tch fr h K := SH k nw _ h1 H (fun fr => Steps.call (Jt fr) hr) hn hk
theorem CP (k : Nat) (nw : List (Nat × AA)) (d : Nat) {f' : FuncId} {args : List AA} (hr : CC C g h f' args v h1) (H : Has fr N l) (hn : ∀ fr' t, Has fr' N (((d, v) :: List.append nw l)) → AT C g ops (pl.drop (k + 1)) t fr' h1 K) (Jt : ∀ fr, KP (Kw C.P ops (Cj (pl.take k)) (Bx N l fr)) (Kt ops (EO pl k)) = some (f', args) := by intro _; kernel_rfl) (hk : ∀ fr, (MS pl k && (NO (pl.take k) && (C7 ops l (Cj (pl.take k)) && (E4 d l && (E4 d nw && Nat.blt d N)))), (D2 C.P ops (Cj (pl.take k)) (Bx N l fr)).map (fun x => (runs ops x (EO pl k), Eg ops (EO pl k), nw.map (fun p => nth x p.1)))) = (true, some (true, some d, nw.map (·.2))) := by intro _; kernel_rfl) : AT C g ops pl tch fr h K := BE k nw d v h1 H (fun fr => Steps.call (Jt fr) hr) hn hk
theorem Cc (d : Nat) {f' : FuncId} {args : List AA} (hr : CC C g h f' args v h1) (H : Has fr N l) (hn : ∀ fr' t, Has fr' N ((d, v) :: l) → AT C g ops pl t fr' h1 K) (Jt : ∀ fr, KP (Bx N l fr) (Kt ops i) = some (f', args) := by intro _; kernel_rfl) (hw : ∀ fr, (runs ops (Bx N l fr) i, Eg ops i, Nat.blt d N, E4 d l) = (true, some d, true, true) := by intro _; kernel_rfl) : AT C g ops ((i, []) :: pl) tch fr h K := Az d v h1 H (fun fr => Steps.call (Jt fr) hr) hn hw
theorem TD (k : Nat) (nw : List (Nat × AA)) (d : Nat) (v : AA) {ob : A9} (e : h1 = h.push ob) (H : Has fr N l) (hn : ∀ fr' t, Has fr' N (((d, v) :: List.append nw l)) → AT C g ops (pl.drop (k + 1)) t fr' h1 K) (Jt : ∀ fr, WB C.P (Kw C.P ops (Cj (pl.take k)) (Bx N l fr)) (Kt ops (EO pl k)) h.size = some (v, ob) := by intro _; kernel_rfl) (hk : ∀ fr, (MS pl k && (NO (pl.take k) && (C7 ops l (Cj (pl.take k)) && (E4 d l && (E4 d nw && Nat.blt d N)))), (D2 C.P ops (Cj (pl.take k)) (Bx N l fr)).map (fun x => (runs ops x (EO pl k), Eg ops (EO pl k), nw.map (fun p => nth x p.1)))) = (true, some (true, some d, nw.map (·.2))) := by intro _; kernel_rfl) : AT C g ops pl tch fr h K := BE k nw d v h1 H (fun fr => .of (Wt (Jt fr) (congrArg some e.symm))) hn hk
theorem Cw (d : Nat) (v : AA) {ob : A9} (e : h1 = h.push ob) (H : Has fr N l) (hn : ∀ fr' t, Has fr' N ((d, v) :: l) → AT C g ops pl t fr' h1 K) (Jt : ∀ fr, WB C.P (Bx N l fr) (Kt ops i) h.size = some (v, ob) := by intro _; kernel_rfl) (hw : ∀ fr, (runs ops (Bx N l fr) i, Eg ops i, Nat.blt d N, E4 d l) = (true, some d, true, true) := by intro _; kernel_rfl) : AT C g ops ((i, []) :: pl) tch fr h K := Az d v h1 H (fun fr => .of (Wt (Jt fr) (congrArg some e.symm))) hn hw
theorem QI (k : Nat) (nw : List (Nat × AA)) {a : Nat × Nat} {v : AA} (hx : Av.st g h a [v] = some h1) (H : Has fr N l) (hn : ∀ fr' t, Has fr' N ((List.append nw l)) → AT C g ops (pl.drop (k + 1)) t fr' h1 K) (hc : v.cells? = some [v] := by rfl) (Jt : ∀ fr, F7 C.P (Kw C.P ops (Cj (pl.take k)) (Bx N l fr)) (Kt ops (EO pl k)) = some (a, 1, v) := by intro _; kernel_rfl) (hk : ∀ fr, (MS pl k && (NO (pl.take k) && (C7 ops l (Cj (pl.take k)) && (Fs ops (EO pl k) l && Fs ops (EO pl k) nw))), (D2 C.P ops (Cj (pl.take k)) (Bx N l fr)).map (fun x => (runs ops x (EO pl k), nw.map (fun p => nth x p.1)))) = (true, some (true, nw.map (·.2))) := by intro _; kernel_rfl) : AT C g ops pl tch fr h K := SH k nw _ h1 H (fun fr => .of (Rg (Jt fr) hc hx)) hn hk
theorem IJ {a : Nat × Nat} {v : AA} (hx : Av.st g h a [v] = some h1) (H : Has fr N l) (hn : ∀ fr' t, Has fr' N l → AT C g ops pl t fr' h1 K) (hc : v.cells? = some [v] := by rfl) (Jt : ∀ fr, F7 C.P (Bx N l fr) (Kt ops i) = some (a, 1, v) := by intro _; kernel_rfl) (hw : ∀ fr, (runs ops (Bx N l fr) i, Fs ops i l) = (true, true) := by intro _; kernel_rfl) : AT C g ops ((i, []) :: pl) tch fr h K := L0 _ h1 H (fun fr => .of (Rg (Jt fr) hc hx)) hn hw
theorem Ue (k : Nat) (nw : List (Nat × AA)) {a : Nat × Nat} {n : Nat} {cs : List AA} (hx : Av.st g h a cs = some h1) (H : Has fr N l) (hn : ∀ fr' t, Has fr' N ((List.append nw l)) → AT C g ops (pl.drop (k + 1)) t fr' h1 K) (hl : cs.length = n := by rfl) (Jt : ∀ fr, F7 C.P (Kw C.P ops (Cj (pl.take k)) (Bx N l fr)) (Kt ops (EO pl k)) = some (a, n, .agg cs) := by intro _; kernel_rfl) (hk : ∀ fr, (MS pl k && (NO (pl.take k) && (C7 ops l (Cj (pl.take k)) && (Fs ops (EO pl k) l && Fs ops (EO pl k) nw))), (D2 C.P ops (Cj (pl.take k)) (Bx N l fr)).map (fun x => (runs ops x (EO pl k), nw.map (fun p => nth x p.1)))) = (true, some (true, nw.map (·.2))) := by intro _; kernel_rfl) : AT C g ops pl tch fr h K := SH k nw _ h1 H (fun fr => .of (U2 (Jt fr) (Sa hx hl))) hn hk
theorem Sb {a : Nat × Nat} {n : Nat} {cs : List AA} (hx : Av.st g h a cs = some h1) (H : Has fr N l) (hn : ∀ fr' t, Has fr' N l → AT C g ops pl t fr' h1 K) (hl : cs.length = n := by rfl) (Jt : ∀ fr, F7 C.P (Bx N l fr) (Kt ops i) = some (a, n, .agg cs) := by intro _; kernel_rfl) (hw : ∀ fr, (runs ops (Bx N l fr) i, Fs ops i l) = (true, true) := by intro _; kernel_rfl) : AT C g ops ((i, []) :: pl) tch fr h K := L0 _ h1 H (fun fr => .of (U2 (Jt fr) (Sa hx hl))) hn hw
end
section
variable {C : EP} {f : FuncId} {g : Gd} {ops : Array Oper} {tch : List (Nat × Nat)} {fr : Fr} {h : AB} {N : Nat} {l out : List (Nat × AA)} {c c' : Code} {Q Q' : BL → Fr → AB → Prop}
theorem C8 (hK : AW C f g c' fr h Q' → Q .normal fr h) (hh : AW C f g c' fr h Q') (hs : shape c = .skip := by kernel_rfl) : AW C f g c fr h Q := Kx hs (hK hh)
theorem Ik (n : Nat) (hK : AW C f g c' fr h Q' → Q .normal fr h) (hh : AT C g (opsOf c') (FJ 0 n) [] fr h (fun fr' h' => Q' .normal fr' h')) (hs : shape c = .skip := by kernel_rfl) (hr : Hx c' n = true := by kernel_rfl) : AW C f g c fr h Q := Kx hs (hK (CQ n hh hr))
theorem Q9 (n : Nat) (hK : AW C f g c' fr h Q' → Q .normal fr h) (hh : AT C g (opsOf (left c')) (FJ 0 n) [] fr h (fun fr' h' => Ke (fun fr h => AW C f g (right c') fr h Q') Q' .normal fr' h')) (hs : shape c = .skip := by kernel_rfl) (hq : shape c' = .seq := by kernel_rfl) (hr : Hx (left c') n = true := by kernel_rfl) : AW C f g c fr h Q := Kx hs (hK (Pf hq (CQ n hh hr)))
theorem Qn {b w : Bool} (H : Has fr N l) (hb : b = w) (hx : b = w → ∀ fr, out.map (fun p => nth (Bx N l fr) p.1) = out.map (·.2) := by intro hb _; first | rfl | (rw [hb]; rfl)) : AT C g ops [] tch fr h (fun fr' h' => h = h' ∧ Has fr' N out) := at_nil ⟨rfl, H.less _ (hx hb)⟩
end
theorem nx {σ ρ : Type} {a : σ} {o : σ ⊕ ρ} {P : σ → Prop} (hm : some (.inl a) = some o) (h : P a) : ∃ s', o = .inl s' ∧ P s' := ⟨a, (Option.some.inj hm).symm, h⟩
theorem nr {σ ρ : Type} {a : ρ} {o : σ ⊕ ρ} {P : ρ → Prop} (hm : some (.inr a) = some o) (h : P a) : ∃ s', o = .inr s' ∧ P s' := ⟨a, (Option.some.inj hm).symm, h⟩
abbrev Ai (x : Int) : AA := .int .i64 x
abbrev Ab (x : Int) : AA := .int .u8 x
section
variable {C : EP} {f : FuncId} {g : Gd} {ops : Array Oper} {tch : List (Nat × Nat)} {fr : Fr} {h : AB} {N : Nat} {l : List (Nat × AA)} {pl : List (Nat × List Nat)} {c : Code} {Q : BL → Fr → AB → Prop}
theorem AQ (k : Nat) (nw : List (Nat × AA)) (H : Has fr N l) (hh : ∀ fr', Has fr' N (List.append nw l) → AW C f g c fr' h Q)
  (hk : ∀ fr, (NO pl, Nat.beq pl.length k, C7 ops l (Cj pl), (D2 C.P ops (Cj pl) (Bx N l fr)).map (fun x => nw.map (fun p => nth x p.1))) = (true, true, true, some (nw.map (·.2))) := by intro _; kernel_rfl) : AT C g ops pl tch fr h (fun fr h => AW C f g c fr h Q) := TT k nw H (fun _ => id) hh hk
theorem TA (k : Nat) (nw : List (Nat × AA)) (n : Nat) (H : Has fr N l) (hh : ∀ fr', Has fr' N (List.append nw l) → AT C g (opsOf c) (FJ 0 n) [] fr' h (fun fr' h' => Q .normal fr' h'))
  (hk : ∀ fr, (NO pl, Nat.beq pl.length k, C7 ops l (Cj pl), (D2 C.P ops (Cj pl) (Bx N l fr)).map (fun x => nw.map (fun p => nth x p.1))) = (true, true, true, some (nw.map (·.2))) := by intro _; kernel_rfl) (hr : Hx c n = true := by kernel_rfl) : AT C g ops pl tch fr h (fun fr h => AW C f g c fr h Q) := V6 k nw n H (fun _ => id) hh hk hr
theorem DP (k : Nat) (nw : List (Nat × AA)) (n : Nat) (H : Has fr N l) (hh : ∀ fr', Has fr' N (List.append nw l) → AT C g (opsOf (left c)) (FJ 0 n) [] fr' h (fun fr' h' => Ke (fun fr h => AW C f g (right c) fr h Q) Q .normal fr' h'))
  (hk : ∀ fr, (NO pl, Nat.beq pl.length k, C7 ops l (Cj pl), (D2 C.P ops (Cj pl) (Bx N l fr)).map (fun x => nw.map (fun p => nth x p.1))) = (true, true, true, some (nw.map (·.2))) := by intro _; kernel_rfl) (hs : shape c = .seq := by kernel_rfl) (hr : Hx (left c) n = true := by kernel_rfl) : AT C g ops pl tch fr h (fun fr h => AW C f g c fr h Q) := WS k nw n H (fun _ => id) hh hk hs hr
end
end Go.Av
