/-
  Several texts in one.
-/
import Derived.Test.YtlljeoogceblmaaGreatDoorAvTy
import Derived.Test.YtlljeoogceblmaaGreatDoorAvCo
import Derived.Test.YtlljeoogceblmaaGreatDoorAvMap
/-
 A part.
-/
section
namespace Go.Av
set_option linter.unusedVariables false
set_option linter.unusedSimpArgs false
section
variable {g : Gd} {h h' : AD} {L F : List Ck}
theorem HH.De (a : HH g h L F) (b : HH g h' [] (List.append L F)) : HH g h' L F := a.GC (n := 0) b
theorem HH.Sm {pr : List Nat} (a : HH g h L F) (b : HH ⟨g.floor, List.append pr g.BP⟩ h' [] (List.append L F)) : HH g h' L F := a.VC (n := 0) b
theorem HH.YV {c0' : Ck} (a : HH g h L F) (b : HH g h' [c0'] (List.append L F)) : HH g h' (c0' :: L) F := a.GC (n := 0) b
theorem HH.g11 {c0 c0' : Ck} (a : HH g h (c0 :: L) F) (b : HH g h' [c0'] (List.append L F)) : HH g h' (c0' :: L) F := a.GC (n := 1) b
theorem HH.bM {c0 c0' : Ck} {pr : List Nat} (a : HH g h (c0 :: L) F) (b : HH ⟨g.floor, List.append pr g.BP⟩ h' [c0'] (List.append L F)) : HH g h' (c0' :: L) F := a.VC (n := 1) b
theorem HH.g12 {c0 c0' c1' : Ck} (a : HH g h (c0 :: L) F) (b : HH g h' [c0', c1'] (List.append L F)) : HH g h' (c0' :: c1' :: L) F := a.GC (n := 1) b
theorem HH.g22 {c0 c1 c0' c1' : Ck} (a : HH g h (c0 :: c1 :: L) F) (b : HH g h' [c0', c1'] (List.append L F)) : HH g h' (c0' :: c1' :: L) F := a.GC (n := 2) b
theorem HH.YS {c0 c1 c2 c3 c0' c1' c2' c3' : Ck} (a : HH g h (c0 :: c1 :: c2 :: c3 :: L) F) (b : HH g h' [c0', c1', c2', c3'] (List.append L F)) : HH g h' (c0' :: c1' :: c2' :: c3' :: L) F := a.GC (n := 4) b
theorem HH.d0 (a : HH g h L F) : HH g h [] F := a.YX 0
theorem HH.d1 {c0 : Ck} (a : HH g h (c0 :: L) F) : HH g h [c0] F := a.YX 1
theorem HH.s0 {id : Nat} {gr : Option TypeId} {cs : List AB} (a : HH g h (.obj id (.cells gr 2 cs) :: L) F) (o : Nat) (new ds : List AB) (hd : ER cs o (Nb gr new) = ds := by rfl) (hl : o + new.length ≤ cs.length := by exact Nat.le_of_ble_eq_true rfl) (h1 : new.all AB.one = true := by rfl) : ∃ h', Av.st g h (id, o) new = some h' ∧ HH g h' (.obj id (.cells gr 2 ds) :: L) F := a.st 0 rfl hl h1 hd
theorem HH.s1 {c0 : Ck} {id : Nat} {gr : Option TypeId} {cs : List AB} (a : HH g h (c0 :: .obj id (.cells gr 2 cs) :: L) F) (o : Nat) (new ds : List AB) (hd : ER cs o (Nb gr new) = ds := by rfl) (hl : o + new.length ≤ cs.length := by exact Nat.le_of_ble_eq_true rfl) (h1 : new.all AB.one = true := by rfl) : ∃ h', Av.st g h (id, o) new = some h' ∧ HH g h' (c0 :: .obj id (.cells gr 2 ds) :: L) F := a.st 1 rfl hl h1 hd
theorem HH.s2 {c0 c1 : Ck} {id : Nat} {gr : Option TypeId} {cs : List AB} (a : HH g h (c0 :: c1 :: .obj id (.cells gr 2 cs) :: L) F) (o : Nat) (new ds : List AB) (hd : ER cs o (Nb gr new) = ds := by rfl) (hl : o + new.length ≤ cs.length := by exact Nat.le_of_ble_eq_true rfl) (h1 : new.all AB.one = true := by rfl) : ∃ h', Av.st g h (id, o) new = some h' ∧ HH g h' (c0 :: c1 :: .obj id (.cells gr 2 ds) :: L) F := a.st 2 rfl hl h1 hd
theorem HH.Zk (a : HH g h L F) : ∀ (ks : List Nat) (M : List Ck), ks.Nodup → ks.map (fun k => L[k]?) = M.map some → (Cr (M ++ F)).Nodup := by
 intro ks
 induction ks with
 | nil =>
  intro M _ he
  cases M with
  | nil =>
   have := a.nd
   rw [CV] at this
   exact (List.nodup_append.1 this).2.1
  | cons c M => simp at he
 | cons k ks ih =>
  intro M hn he
  cases M with
  | nil => simp at he
  | cons c M =>
   simp only [List.map_cons, List.cons.injEq] at he
   have hd := (a.front k he.1).nd
   have e : Cr (c :: L.eraseIdx k ++ F) = c.ids ++ Cr (L.eraseIdx k ++ F) := by simp [Cr]
   have e2 : Cr (c :: M ++ F) = c.ids ++ Cr (M ++ F) := by simp [Cr]
   rw [e] at hd
   rw [e2]
   refine List.nodup_append.2 ⟨(List.nodup_append.1 hd).1, ih M (List.nodup_cons.1 hn).2 he.2, fun i hi j hj => ?_⟩
   refine (List.nodup_append.1 hd).2.2 i hi j ?_
   simp only [Cr, List.mem_flatMap] at hj ⊢
   obtain ⟨d, hd, hj⟩ := hj
   refine ⟨d, ?_, hj⟩
   rcases List.mem_append.1 hd with hd | hd
   ·refine List.mem_append.2 (.inl ?_)
    have hm : some d ∈ M.map some := List.mem_map.2 ⟨d, hd, rfl⟩
    rw [← he.2] at hm
    obtain ⟨x, hx, hxd⟩ := List.mem_map.1 hm
    exact List.mem_eraseIdx_iff_getElem?.2 ⟨x, fun e => (List.nodup_cons.1 hn).1 (e ▸ hx), hxd⟩
   ·exact List.mem_append.2 (.inr hd)
theorem HH.pick (a : HH g h L F) (ks : List Nat) (M : List Ck) (hn : ks.Nodup) (he : ks.map (fun k => L[k]?) = M.map some) : HH g h M F := by
 have hm : ∀ c ∈ M, c ∈ L := fun c hc => by
  have hm : some c ∈ M.map some := List.mem_map.2 ⟨c, hc, rfl⟩
  rw [← he] at hm
  obtain ⟨x, hx, hxd⟩ := List.mem_map.1 hm
  exact List.mem_of_getElem? hxd
 refine ⟨fun c hc => a.ok c ?_, a.Zk ks M hn he, fun i hi => a.may i ?_, a.BP, a.floor⟩
 ·rcases List.mem_append.1 hc with h | h
  ·exact List.mem_append.2 (.inl (hm c h))
  ·exact List.mem_append.2 (.inr h)
 ·simp only [Cr, List.mem_flatMap] at hi ⊢
  obtain ⟨c, hc, hi⟩ := hi
  exact ⟨c, hm c hc, hi⟩
theorem HH.k1 (a : HH g h L F) (i0 : Nat) {c0 : Ck} (e0 : L[i0]? = some c0 := by rfl) (hd : [i0].Nodup := by decide) : HH g h [c0] F := a.pick [i0] [c0] hd (by simp only [List.map, e0])
theorem HH.k2 (a : HH g h L F) (i0 i1 : Nat) {c0 c1 : Ck} (e0 : L[i0]? = some c0 := by rfl) (e1 : L[i1]? = some c1 := by rfl) (hd : [i0, i1].Nodup := by decide) : HH g h [c0, c1] F := a.pick [i0, i1] [c0, c1] hd (by simp only [List.map, e0, e1])
theorem HH.k3 (a : HH g h L F) (i0 i1 i2 : Nat) {c0 c1 c2 : Ck} (e0 : L[i0]? = some c0 := by rfl) (e1 : L[i1]? = some c1 := by rfl) (e2 : L[i2]? = some c2 := by rfl) (hd : [i0, i1, i2].Nodup := by decide) : HH g h [c0, c1, c2] F := a.pick [i0, i1, i2] [c0, c1, c2] hd (by simp only [List.map, e0, e1, e2])
theorem HH.k4 (a : HH g h L F) (i0 i1 i2 i3 : Nat) {c0 c1 c2 c3 : Ck} (e0 : L[i0]? = some c0 := by rfl) (e1 : L[i1]? = some c1 := by rfl) (e2 : L[i2]? = some c2 := by rfl) (e3 : L[i3]? = some c3 := by rfl) (hd : [i0, i1, i2, i3].Nodup := by decide) : HH g h [c0, c1, c2, c3] F := a.pick [i0, i1, i2, i3] [c0, c1, c2, c3] hd (by simp only [List.map, e0, e1, e2, e3])
theorem HH.k5 (a : HH g h L F) (i0 i1 i2 i3 i4 : Nat) {c0 c1 c2 c3 c4 : Ck} (e0 : L[i0]? = some c0 := by rfl) (e1 : L[i1]? = some c1 := by rfl) (e2 : L[i2]? = some c2 := by rfl) (e3 : L[i3]? = some c3 := by rfl) (e4 : L[i4]? = some c4 := by rfl) (hd : [i0, i1, i2, i3, i4].Nodup := by decide) : HH g h [c0, c1, c2, c3, c4] F := a.pick [i0, i1, i2, i3, i4] [c0, c1, c2, c3, c4] hd (by simp only [List.map, e0, e1, e2, e3, e4])
theorem HH.k6 (a : HH g h L F) (i0 i1 i2 i3 i4 i5 : Nat) {c0 c1 c2 c3 c4 c5 : Ck} (e0 : L[i0]? = some c0 := by rfl) (e1 : L[i1]? = some c1 := by rfl) (e2 : L[i2]? = some c2 := by rfl) (e3 : L[i3]? = some c3 := by rfl) (e4 : L[i4]? = some c4 := by rfl) (e5 : L[i5]? = some c5 := by rfl) (hd : [i0, i1, i2, i3, i4, i5].Nodup := by decide) : HH g h [c0, c1, c2, c3, c4, c5] F := a.pick [i0, i1, i2, i3, i4, i5] [c0, c1, c2, c3, c4, c5] hd (by simp only [List.map, e0, e1, e2, e3, e4, e5])
theorem HH.pu (a : HH g h L F) (o : Bm) : ∃ h', h' = h.push o ∧ HH g h' (.obj h.size o :: L) F := ⟨_, rfl, a.push o⟩
theorem HH.pL (a : HH g h L F) (e : TypeId) (cs : List AB) : ∃ h', h' = h.push (.cells (some e) 2 cs) ∧ HH g h' (.Ag (some h.size) e cs :: L) F := ⟨_, rfl, a.ZV e cs⟩
theorem HH.la (a : HH g h L F) (k o n : Nat) {id : Nat} {gr : Option TypeId} {cs ds : List AB} (hk : L[k]? = some (.obj id (.cells gr 2 cs)) := by rfl) (hd : o + n ≤ cs.length ∧ (cs.drop o).take n = ds := by exact ⟨Nat.le_of_ble_eq_true rfl, rfl⟩) : Av.ET h (id, o) n = some ds := a.ET k hk hd
theorem HH.l1 (a : HH g h L F) (k o : Nat) {id : Nat} {gr : Option TypeId} {cs : List AB} {v : AB} (hk : L[k]? = some (.obj id (.cells gr 2 cs)) := by rfl) (hv : cs[o]? = some v := by rfl) : Av.ld1 h (id, o) = some v := a.ld1 k hk hv
end
section
variable {C : Ft} {f : FuncId} {g : Gd} {ops : Array Oper} {tch : List (Nat × Nat)} {fr : Fr} {h h1 : AD} {K : Fr → AD → Prop} {N : Nat} {l : List (Nat × AB)} {i : Nat} {pl : List (Nat × List Nat)} {v : AB} {L F : List Ck}
theorem Has.kn (H : Has fr N l) (d : Nat) {b w : Bool} (hb : b = w) (hd : PJ l d = some (.bool b) := by kernel_rfl) : Has fr N (OI l d (.bool w)) := H.Ys d hb hd
theorem rH {P : Program} {rs : List ResultVar} (H : Has fr N l) (hr : ∀ fr, Ma P rs (Cb N l fr) h = some v := by intro _; kernel_rfl) : Ma P rs fr h = some v := ao H hr
theorem rT {t : Nat} (H : Has fr N l) (hr : ∀ fr, nth (Cb N l fr) t = v := by intro _; kernel_rfl) : nth fr t = v := aZ H hr
theorem Dj {args args' : List AB} (n : Nat) (rs : List ResultVar) {R : AB → AD → Prop} (hc : A9 (C.still f) args = args') (hh : AW C f g (GF C.P f) (args' ++ List.replicate (n - args'.length) (.tuple [])) h (fun e fr h' => (e = .ret ∨ e = .normal) ∧ ∃ v, Ma C.P rs fr h' = some v ∧ R v h')) (hk : C.kind f = 1 := by kernel_rfl) (hf : JJ C.P f = some (n, rs) := by kernel_rfl) : ∃ v h', BB C g h f args v h' ∧ R v h' := Yr hk hc hf hh
theorem bg {args : List AB} {c : Code} {Q : By → Fr → AD → Prop} (n : Nat) (ins : List (Nat × AB)) (hh : ∀ fr, Has fr n ins → AW C f g c fr h Q) (hl : (args ++ List.replicate (n - args.length) (AB.tuple [])).length = n := by kernel_rfl) (hi : ins.map (fun p => nth (args ++ List.replicate (n - args.length) (AB.tuple [])) p.1) = ins.map (·.2) := by kernel_rfl) : AW C f g c (args ++ List.replicate (n - args.length) (.tuple [])) h Q := start ins hl hi hh
theorem AV (k : Nat) (nw : List (Nat × AB)) (d : Nat) (j o : Nat) (A : HH g h L F) {id : Nat} {gr : Option TypeId} {cs : List AB} (H : Has fr N l) (hn : ∀ fr' t, Has fr' N (((d, v) :: List.append nw l)) → AT C g ops (pl.drop (k + 1)) t fr' h K) (hj : L[j]? = some (.obj id (.cells gr 2 cs)) := by rfl) (hv : cs[o]? = some v := by rfl) (hsp : ∀ fr, Mx C.P (NW C.P ops (Dd (pl.take k)) (Cb N l fr)) (Ns ops (GG pl k)) = some ((id, o), none) := by intro _; kernel_rfl) (hk : ∀ fr, (PC pl k && (Qe (pl.take k) && (D8 ops l (Dd (pl.take k)) && (G0 d l && (G0 d nw && Nat.blt d N)))), (FU C.P ops (Dd (pl.take k)) (Cb N l fr)).map (fun x => (runs ops x (GG pl k), Gk ops (GG pl k), nw.map (fun p => nth x p.1)))) = (true, some (true, some d, nw.map (·.2))) := by intro _; kernel_rfl) : AT C g ops pl tch fr h K := Ax k nw d v h H (fun fr => .of (GN (hsp fr) (A.ld1 j hj hv))) hn hk
theorem NO (d : Nat) (j o : Nat) (A : HH g h L F) {id : Nat} {gr : Option TypeId} {cs : List AB} (H : Has fr N l) (hn : ∀ fr' t, Has fr' N ((d, v) :: l) → AT C g ops pl t fr' h K) (hj : L[j]? = some (.obj id (.cells gr 2 cs)) := by rfl) (hv : cs[o]? = some v := by rfl) (hsp : ∀ fr, Mx C.P (Cb N l fr) (Ns ops i) = some ((id, o), none) := by intro _; kernel_rfl) (hw : ∀ fr, (runs ops (Cb N l fr) i, Gk ops i, Nat.blt d N, G0 d l) = (true, some d, true, true) := by intro _; kernel_rfl) : AT C g ops ((i, []) :: pl) tch fr h K := AZ d v h H (fun fr => .of (GN (hsp fr) (A.ld1 j hj hv))) hn hw
theorem Em (k : Nat) (nw : List (Nat × AB)) {f' : FuncId} {args : List AB} (hr : BB C g h f' args v h1) (H : Has fr N l) (hn : ∀ fr' t, Has fr' N ((List.append nw l)) → AT C g ops (pl.drop (k + 1)) t fr' h1 K) (hsp : ∀ fr, Mw (NW C.P ops (Dd (pl.take k)) (Cb N l fr)) (Ns ops (GG pl k)) = some (f', args) := by intro _; kernel_rfl) (hk : ∀ fr, (PC pl k && (Qe (pl.take k) && (D8 ops l (Dd (pl.take k)) && (H0 ops (GG pl k) l && H0 ops (GG pl k) nw))), (FU C.P ops (Dd (pl.take k)) (Cb N l fr)).map (fun x => (runs ops x (GG pl k), nw.map (fun p => nth x p.1)))) = (true, some (true, nw.map (·.2))) := by intro _; kernel_rfl) : AT C g ops pl tch fr h K := Wb k nw _ h1 H (fun fr => Steps.call (hsp fr) hr) hn hk
theorem Aq (k : Nat) (nw : List (Nat × AB)) (d : Nat) {f' : FuncId} {args : List AB} (hr : BB C g h f' args v h1) (H : Has fr N l) (hn : ∀ fr' t, Has fr' N (((d, v) :: List.append nw l)) → AT C g ops (pl.drop (k + 1)) t fr' h1 K) (hsp : ∀ fr, Mw (NW C.P ops (Dd (pl.take k)) (Cb N l fr)) (Ns ops (GG pl k)) = some (f', args) := by intro _; kernel_rfl) (hk : ∀ fr, (PC pl k && (Qe (pl.take k) && (D8 ops l (Dd (pl.take k)) && (G0 d l && (G0 d nw && Nat.blt d N)))), (FU C.P ops (Dd (pl.take k)) (Cb N l fr)).map (fun x => (runs ops x (GG pl k), Gk ops (GG pl k), nw.map (fun p => nth x p.1)))) = (true, some (true, some d, nw.map (·.2))) := by intro _; kernel_rfl) : AT C g ops pl tch fr h K := Ax k nw d v h1 H (fun fr => Steps.call (hsp fr) hr) hn hk
theorem A0 (d : Nat) {f' : FuncId} {args : List AB} (hr : BB C g h f' args v h1) (H : Has fr N l) (hn : ∀ fr' t, Has fr' N ((d, v) :: l) → AT C g ops pl t fr' h1 K) (hsp : ∀ fr, Mw (Cb N l fr) (Ns ops i) = some (f', args) := by intro _; kernel_rfl) (hw : ∀ fr, (runs ops (Cb N l fr) i, Gk ops i, Nat.blt d N, G0 d l) = (true, some d, true, true) := by intro _; kernel_rfl) : AT C g ops ((i, []) :: pl) tch fr h K := AZ d v h1 H (fun fr => Steps.call (hsp fr) hr) hn hw
theorem Jg (k : Nat) (nw : List (Nat × AB)) (d : Nat) (v : AB) {ob : Bm} (e : h1 = h.push ob) (H : Has fr N l) (hn : ∀ fr' t, Has fr' N (((d, v) :: List.append nw l)) → AT C g ops (pl.drop (k + 1)) t fr' h1 K) (hsp : ∀ fr, aA C.P (NW C.P ops (Dd (pl.take k)) (Cb N l fr)) (Ns ops (GG pl k)) h.size = some (v, ob) := by intro _; kernel_rfl) (hk : ∀ fr, (PC pl k && (Qe (pl.take k) && (D8 ops l (Dd (pl.take k)) && (G0 d l && (G0 d nw && Nat.blt d N)))), (FU C.P ops (Dd (pl.take k)) (Cb N l fr)).map (fun x => (runs ops x (GG pl k), Gk ops (GG pl k), nw.map (fun p => nth x p.1)))) = (true, some (true, some d, nw.map (·.2))) := by intro _; kernel_rfl) : AT C g ops pl tch fr h K := Ax k nw d v h1 H (fun fr => .of (ZW (hsp fr) (congrArg some e.symm))) hn hk
theorem BF (d : Nat) (v : AB) {ob : Bm} (e : h1 = h.push ob) (H : Has fr N l) (hn : ∀ fr' t, Has fr' N ((d, v) :: l) → AT C g ops pl t fr' h1 K) (hsp : ∀ fr, aA C.P (Cb N l fr) (Ns ops i) h.size = some (v, ob) := by intro _; kernel_rfl) (hw : ∀ fr, (runs ops (Cb N l fr) i, Gk ops i, Nat.blt d N, G0 d l) = (true, some d, true, true) := by intro _; kernel_rfl) : AT C g ops ((i, []) :: pl) tch fr h K := AZ d v h1 H (fun fr => .of (ZW (hsp fr) (congrArg some e.symm))) hn hw
theorem CO (k : Nat) (nw : List (Nat × AB)) {a : Nat × Nat} {v : AB} (hx : Av.st g h a [v] = some h1) (H : Has fr N l) (hn : ∀ fr' t, Has fr' N ((List.append nw l)) → AT C g ops (pl.drop (k + 1)) t fr' h1 K) (hc : v.cells? = some [v] := by rfl) (hsp : ∀ fr, IT C.P (NW C.P ops (Dd (pl.take k)) (Cb N l fr)) (Ns ops (GG pl k)) = some (a, 1, v) := by intro _; kernel_rfl) (hk : ∀ fr, (PC pl k && (Qe (pl.take k) && (D8 ops l (Dd (pl.take k)) && (H0 ops (GG pl k) l && H0 ops (GG pl k) nw))), (FU C.P ops (Dd (pl.take k)) (Cb N l fr)).map (fun x => (runs ops x (GG pl k), nw.map (fun p => nth x p.1)))) = (true, some (true, nw.map (·.2))) := by intro _; kernel_rfl) : AT C g ops pl tch fr h K := Wb k nw _ h1 H (fun fr => .of (ZZ (hsp fr) hc hx)) hn hk
theorem KY {a : Nat × Nat} {v : AB} (hx : Av.st g h a [v] = some h1) (H : Has fr N l) (hn : ∀ fr' t, Has fr' N l → AT C g ops pl t fr' h1 K) (hc : v.cells? = some [v] := by rfl) (hsp : ∀ fr, IT C.P (Cb N l fr) (Ns ops i) = some (a, 1, v) := by intro _; kernel_rfl) (hw : ∀ fr, (runs ops (Cb N l fr) i, H0 ops i l) = (true, true) := by intro _; kernel_rfl) : AT C g ops ((i, []) :: pl) tch fr h K := G2 _ h1 H (fun fr => .of (ZZ (hsp fr) hc hx)) hn hw
theorem JI (k : Nat) (nw : List (Nat × AB)) {a : Nat × Nat} {n : Nat} {cs : List AB} (hx : Av.st g h a cs = some h1) (H : Has fr N l) (hn : ∀ fr' t, Has fr' N ((List.append nw l)) → AT C g ops (pl.drop (k + 1)) t fr' h1 K) (hl : cs.length = n := by rfl) (hsp : ∀ fr, IT C.P (NW C.P ops (Dd (pl.take k)) (Cb N l fr)) (Ns ops (GG pl k)) = some (a, n, .agg cs) := by intro _; kernel_rfl) (hk : ∀ fr, (PC pl k && (Qe (pl.take k) && (D8 ops l (Dd (pl.take k)) && (H0 ops (GG pl k) l && H0 ops (GG pl k) nw))), (FU C.P ops (Dd (pl.take k)) (Cb N l fr)).map (fun x => (runs ops x (GG pl k), nw.map (fun p => nth x p.1)))) = (true, some (true, nw.map (·.2))) := by intro _; kernel_rfl) : AT C g ops pl tch fr h K := Wb k nw _ h1 H (fun fr => .of (VM (hsp fr) (Si hx hl))) hn hk
theorem DG {a : Nat × Nat} {n : Nat} {cs : List AB} (hx : Av.st g h a cs = some h1) (H : Has fr N l) (hn : ∀ fr' t, Has fr' N l → AT C g ops pl t fr' h1 K) (hl : cs.length = n := by rfl) (hsp : ∀ fr, IT C.P (Cb N l fr) (Ns ops i) = some (a, n, .agg cs) := by intro _; kernel_rfl) (hw : ∀ fr, (runs ops (Cb N l fr) i, H0 ops i l) = (true, true) := by intro _; kernel_rfl) : AT C g ops ((i, []) :: pl) tch fr h K := G2 _ h1 H (fun fr => .of (VM (hsp fr) (Si hx hl))) hn hw
end
section
variable {C : Ft} {f : FuncId} {g : Gd} {ops : Array Oper} {tch : List (Nat × Nat)} {fr : Fr} {h : AD} {N : Nat} {l out : List (Nat × AB)} {c c' : Code} {Q Q' : By → Fr → AD → Prop}
theorem Bl (hK : AW C f g c' fr h Q' → Q .normal fr h) (hh : AW C f g c' fr h Q') (hs : shape c = .skip := by kernel_rfl) : AW C f g c fr h Q := Nt hs (hK hh)
theorem FL (n : Nat) (hK : AW C f g c' fr h Q' → Q .normal fr h) (hh : AT C g (opsOf c') (E6 0 n) [] fr h (fun fr' h' => Q' .normal fr' h')) (hs : shape c = .skip := by kernel_rfl) (hr : J9 c' n = true := by kernel_rfl) : AW C f g c fr h Q := Nt hs (hK (BO n hh hr))
theorem Bs (n : Nat) (hK : AW C f g c' fr h Q' → Q .normal fr h) (hh : AT C g (opsOf (left c')) (E6 0 n) [] fr h (fun fr' h' => MU (fun fr h => AW C f g (right c') fr h Q') Q' .normal fr' h')) (hs : shape c = .skip := by kernel_rfl) (hq : shape c' = .seq := by kernel_rfl) (hr : J9 (left c') n = true := by kernel_rfl) : AW C f g c fr h Q := Nt hs (hK (TH hq (BO n hh hr)))
theorem Ac {b w : Bool} (H : Has fr N l) (hb : b = w) (hx : b = w → ∀ fr, out.map (fun p => nth (Cb N l fr) p.1) = out.map (·.2) := by intro hb _; first | rfl | (rw [hb]; rfl)) : AT C g ops [] tch fr h (fun fr' h' => h = h' ∧ Has fr' N out) := at_nil ⟨rfl, H.less _ (hx hb)⟩
end
theorem nx {σ ρ : Type} {a : σ} {o : σ ⊕ ρ} {P : σ → Prop} (hm : some (.inl a) = some o) (h : P a) : ∃ s', o = .inl s' ∧ P s' := ⟨a, (Option.some.inj hm).symm, h⟩
theorem nr {σ ρ : Type} {a : ρ} {o : σ ⊕ ρ} {P : ρ → Prop} (hm : some (.inr a) = some o) (h : P a) : ∃ s', o = .inr s' ∧ P s' := ⟨a, (Option.some.inj hm).symm, h⟩
abbrev Ai (x : Int) : AB := .int .i64 x
abbrev Au (x : Int) : AB := .int .u64 x
abbrev Ab (x : Int) : AB := .int .u8 x
section
variable {C : Ft} {f : FuncId} {g : Gd} {ops : Array Oper} {tch : List (Nat × Nat)} {fr : Fr} {h : AD} {N : Nat} {l : List (Nat × AB)} {pl : List (Nat × List Nat)} {c : Code} {Q : By → Fr → AD → Prop}
theorem AL (k : Nat) (nw : List (Nat × AB)) (H : Has fr N l) (hh : ∀ fr', Has fr' N (List.append nw l) → AW C f g c fr' h Q)
  (hk : ∀ fr, (Qe pl, Nat.beq pl.length k, D8 ops l (Dd pl), (FU C.P ops (Dd pl) (Cb N l fr)).map (fun x => nw.map (fun p => nth x p.1))) = (true, true, true, some (nw.map (·.2))) := by intro _; kernel_rfl) : AT C g ops pl tch fr h (fun fr h => AW C f g c fr h Q) := WR k nw H (fun _ => id) hh hk
theorem XT (k : Nat) (nw : List (Nat × AB)) (n : Nat) (H : Has fr N l) (hh : ∀ fr', Has fr' N (List.append nw l) → AT C g (opsOf c) (E6 0 n) [] fr' h (fun fr' h' => Q .normal fr' h'))
  (hk : ∀ fr, (Qe pl, Nat.beq pl.length k, D8 ops l (Dd pl), (FU C.P ops (Dd pl) (Cb N l fr)).map (fun x => nw.map (fun p => nth x p.1))) = (true, true, true, some (nw.map (·.2))) := by intro _; kernel_rfl) (hr : J9 c n = true := by kernel_rfl) : AT C g ops pl tch fr h (fun fr h => AW C f g c fr h Q) := Z8 k nw n H (fun _ => id) hh hk hr
theorem Be (k : Nat) (nw : List (Nat × AB)) (n : Nat) (H : Has fr N l) (hh : ∀ fr', Has fr' N (List.append nw l) → AT C g (opsOf (left c)) (E6 0 n) [] fr' h (fun fr' h' => MU (fun fr h => AW C f g (right c) fr h Q) Q .normal fr' h'))
  (hk : ∀ fr, (Qe pl, Nat.beq pl.length k, D8 ops l (Dd pl), (FU C.P ops (Dd pl) (Cb N l fr)).map (fun x => nw.map (fun p => nth x p.1))) = (true, true, true, some (nw.map (·.2))) := by intro _; kernel_rfl) (hs : shape c = .seq := by kernel_rfl) (hr : J9 (left c) n = true := by kernel_rfl) : AT C g ops pl tch fr h (fun fr h => AW C f g c fr h Q) := Zu k nw n H (fun _ => id) hh hk hs hr
end
end Go.Av
end
/-
 A part.
-/
section
namespace Go.Av
set_option linter.unusedVariables false
set_option linter.unusedSimpArgs false
inductive NB (s : List UInt8) : List (AB × AB) → Option AB → Prop
 | nil : NB s [] none
 | hit {k : List UInt8} {v : AB} {es : List (AB × AB)} : (s == k) = true → NB s ((.str k, v) :: es) (some v)
 | EX {k : List UInt8} {v : AB} {es : List (AB × AB)} {r : Option AB} : (s == k) = false → NB s es r → NB s ((.str k, v) :: es) r
section
variable {P : Program} {t kt et : TypeId} {g : Gd} {h : AD} {L F : List Ck}
theorem NB.C1 {s : List UInt8} (hs : P.underlying kt = some .string) : ∀ {es : List (AB × AB)} {r : Option AB} (f : NB s es r) (i : Nat), (r = none ∧ Av.C1 P kt (.str s) es i = some none) ∨ ∃ v j, r = some v ∧ Av.C1 P kt (.str s) es i = some (some (j, v))
 | _, _, .nil, i => .inl ⟨rfl, rfl⟩
 | _, _, .hit (k := k) (v := v) (es := es) hb, i => by
  refine .inr ⟨v, i, rfl, ?_⟩
  unfold Av.C1
  have e : IG P 10000 kt (.str s) (.str k) = some true := by
   show IG P (9999 + 1) kt _ _ = _
   unfold IG
   rw [hs]
   simp only [hb]
  rw [e]
 | _, _, .EX (k := k) (v := v) (es := es) hb f, i => by
  have e : IG P 10000 kt (.str s) (.str k) = some false := by
   show IG P (9999 + 1) kt _ _ = _
   unfold IG
   rw [hs]
   simp only [hb]
  unfold Av.C1
  rw [e]
  exact f.C1 hs (i + 1)
theorem Pg (hs : P.underlying kt = some .string) (s : List UInt8) : En P 20 kt (.str s) = true := by
 unfold En; rw [hs]
theorem HH.KI (a : HH g h L F) (n : Nat) {id st : Nat} {es : List (AB × AB)} (hk : L[n]? = some (.obj id (.map st es))) (hu : P.underlying t = some (.map kt et)) (hs : P.underlying kt = some .string) {s : List UInt8} {v : AB} (f : NB s es (some v)) (hst : st ≠ 0 := by decide) :
  YI P h t (some id) (.str s) = some (v, true) := by
 have hg := a.get n hk
 unfold YI
 rw [hu]
 simp only [Pg hs, if_true, Z4, hg]
 rw [if_pos hst]
 dsimp only
 rcases f.C1 hs 0 with ⟨h1, _⟩ | ⟨w, j, h1, h2⟩
 ·cases h1
 ·cases h1
  rw [h2]
theorem HH.XZ (a : HH g h L F) (n : Nat) {id st : Nat} {es : List (AB × AB)} (hk : L[n]? = some (.obj id (.map st es))) (hu : P.underlying t = some (.map kt et)) (hs : P.underlying kt = some .string) {z : AB} (hz : Hh P et = some z) {s : List UInt8} (f : NB s es none) (hst : st ≠ 0 := by decide) :
  YI P h t (some id) (.str s) = some (z, false) := by
 have hg := a.get n hk
 unfold YI
 rw [hu]
 simp only [Pg hs, if_true, Z4, hg]
 rw [if_pos hst]
 dsimp only
 rcases f.C1 hs 0 with ⟨_, h2⟩ | ⟨w, j, h1, h2⟩
 ·rw [h2]
  simp [hz]
 ·cases h1
end
end Go.Av
end
