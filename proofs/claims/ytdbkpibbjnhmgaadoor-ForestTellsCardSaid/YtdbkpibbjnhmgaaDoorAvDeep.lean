/-
 A part.
-/
import Derived.Test.YtdbkpibbjnhmgaaDoorAvMap
import Derived.Test.YtdbkpibbjnhmgaaDoorProg
import Derived.Test.YtdbkpibbjnhmgaaDoorAvCo
import Derived.Maps.RangeRun
namespace Go.Av
open Go.RowKit Go.ChangeMaps
set_option linter.unusedVariables false
set_option linter.unusedSimpArgs false
namespace Deep
noncomputable section
theorem VM (a b : Int) : RQ a b = max a b := by unfold RQ; split <;> omega
theorem Tn (a b c : Int) : RQ (RQ a b) c = RQ (RQ a c) b := by simp only [VM]; omega
theorem RW {f : AA → Option Int} {l l' : List (AA × AA)} (h : l.Perm l') : ∀ m, Hs f l m = Hs f l' m := by
 induction h with
 | nil => intro m; rfl
 | cons x _ ih =>
  intro m
  simp only [Hs]
  cases f x.2 with
  | none => rfl
  | some d => exact ih _
 | swap x y l =>
  intro m
  simp only [Hs]
  cases f x.2 <;> cases f y.2 <;> simp only []
  rw [Tn]
 | trans _ _ ih1 ih2 => intro m; rw [ih1, ih2]
theorem OS {f : AA → Option Int} : ∀ (l r : List (AA × AA)) (m : Int), Hs f (l ++ r) m = (Hs f l m).bind fun x => Hs f r x
 | [], r, m => rfl
 | p :: l, r, m => by
  simp only [List.cons_append, Hs]
  cases f p.2 with
  | none => rfl
  | some d => exact OS l r _
theorem PD {f : AA → Option Int} : ∀ {l : List (AA × AA)} {m d : Int}, Hs f l m = some d → ∀ p ∈ l, ∃ e, f p.2 = some e
 | q :: l, m, d, h, p, hp => by
  simp only [Hs] at h
  cases hq : f q.2 with
  | none => rw [hq] at h; cases h
  | some e =>
   rw [hq] at h
   rcases List.mem_cons.1 hp with rfl | hp
   ·exact ⟨e, hq⟩
   ·exact PD h p hp
noncomputable def On (P : Program) : List Oper → Fr → Option Fr
 | [], fr => some fr
 | o :: l, fr =>
  match o.guard, GR P fr o.op with
  | none, some v => On P l (put fr o.dst v)
  | _, _ => none
theorem Ol {P : Program} {fr : Fr} {op : Op} {v : AA} (h : GR P fr op = some v) : ∀ c, op ≠ .defer c := by
 rintro c rfl
 simp [GR] at h
theorem Lm {P : Program} {m : AU} {ops : Array Oper} {Q : Exit → Act → World → Prop} {l2 : List Oper} {w : World} : ∀ (l : List Oper) {fr fr' : Fr} {a : Act}, FR m fr a → On P l fr = some fr' →
  (∀ a', FR m fr' a' → a'.defers = a.defers → wpListIn (FW none) 0 P ops Q l2 a' w) → wpListIn (FW none) 0 P ops Q (l ++ l2) a w
 | [], fr, fr', a, hf, hr, hk => by
  simp only [On, Option.some.injEq] at hr
  subst hr
  exact hk a hf rfl
 | o :: l, fr, fr', a, hf, hr, hk => by
  unfold On at hr
  split at hr
  ·rename_i v hg ho
   obtain ⟨v', h1, h2⟩ := J3 (P := P) (w := w) hf ho
   rw [List.cons_append]
   refine wpListIn_plain hg fun K hK => EX (Ol ho) h1 none (hK _ _ ?_)
   exact Lm l (hf.put o.dst h2) hr fun a' f' d' => hk a' f' (by rw [d', BD])
  ·cases hr
theorem Lz {P : Program} {ops : Array Oper} {Q : Exit → Act → World → Prop} {a : Act} {w : World} (h : Q .normal a w) : wpListIn (FW none) 0 P ops Q [] a w := h
theorem C6 (fr : Fr) (d : Option Tmp) (v : AA) : (put fr d v).length = fr.length := by cases d <;> simp [put]
theorem Oz {P : Program} : ∀ (l : List Oper) {fr fr' : Fr}, On P l fr = some fr' → fr'.length = fr.length
 | [], fr, fr', h => by simp only [On, Option.some.injEq] at h; rw [h]
 | o :: l, fr, fr', h => by
  unfold On at h
  split at h
  ·rw [Oz l h, C6]
  ·cases h
theorem PV {P : Program} {m : AU} {ops : Array Oper} {Q : Exit → Act → World → Prop} {l2 : List Oper} {w : World} {N : Nat} {AL : List (Nat × AA)} (lst' : List (Nat × AA)) (l : List Oper) {fr : Fr} {a : Act} (ff : FR m fr a) (H : Has fr N AL)
  (hr : ∀ fr, (On P l (Bx N AL fr)).map (fun x => lst'.map (fun p => nth x p.1)) = some (lst'.map (·.2)))
  (hk : ∀ fr' a', FR m fr' a' → Has fr' N lst' → a'.defers = a.defers → wpListIn (FW none) 0 P ops Q l2 a' w) : wpListIn (FW none) 0 P ops Q (l ++ l2) a w := by
 have hr' := hr fr
 rw [Cf H] at hr'
 obtain ⟨fr', h1, h2⟩ := Option.map_eq_some_iff.1 hr'
 exact Lm l ff h1 fun a' f' d' => hk fr' a' f' (Has.of_map ((Oz l h1).trans H.1) h2) d'
theorem Tc {P : Program} {m : AU} {fr : Fr} {a : Act} {w : World} {K : Act → World → Prop} {Q : Exit → Act → World → Prop} {o : Oper} {x : Operand} {ag : Array Operand} {ts : Array TypeId} {f : FuncId} (heq : o.op = .call { callee := .value x, args := ag, argTypes := ts }) (hx : ev fr x = .func (.func f) [] []) (hf : FR m fr a)
  (hi : Bd P f (ag.map a.eval) w fun v' w' => K (a.put o.dst v') w') : o.wpIn (FW none) 0 P a w K Q := by
 have hv := hf.ev x
 rw [hx] at hv
 generalize hq : a.eval x = q at hv
 cases hv with
 | func _ _ _ fi ca h1 h2 h3 h4 =>
  have e1 : fi = #[] := Array.eq_empty_of_size_eq_zero (by simpa using h1.symm)
  have e2 : ca = #[] := Array.eq_empty_of_size_eq_zero (by simpa using h3.symm)
  subst e1; subst e2
  have hrun : (execOp a.eval o).run P w = (callFunc f (ag.map a.eval)).run P w := by
   simp only [execOp, heq, resolve, hq, Deferred.ofValue, Sem.run_bind, Sem.run_pure, Result.andThen_ok, invoke, Array.empty_append, Array.append_empty]
  refine ⟨fun _ _ => trivial, ?_⟩
  rw [Oper.semAt_eq _ _ _ (by rw [heq]; intro c hc; cases hc), hrun]
  unfold Bd at hi
  split at hi
  ·rename_i v' w' he
   rw [he]
   exact hi
  ·rename_i f' args' w' he
   rw [he]
   refine ⟨fun h => (by cases h), I8 (hi.mono fun e w'' hh => ?_)⟩
   obtain ⟨v', rfl, hh⟩ := hh
   exact hh
  ·exact hi.elim
noncomputable abbrev fD : FuncId := 31
noncomputable def WL : Code → Option (Array Oper × Array Oper × ON × Array Oper × Array Oper)
 | .seq (.region _ o0 false) (.seq (.region _ o1 false) (.seq ml (.seq (.region _ o6 false) .ret))) =>
  match RN ml with
  | some q =>
   match q.body with
   | .region _ o5 false => some (o0, o1, q, o5, o6)
   | _ => none
  | none => none
 | _ => none
theorem Vc {c : Code} {o0 o1 o5 o6 : Array Oper} {q : ON} (h : WL c = some (o0, o1, q, o5, o6)) : ∃ i0 i1 i6 i5 ml, c = .seq (.region i0 o0 false) (.seq (.region i1 o1 false) (.seq ml (.seq (.region i6 o6 false) .ret))) ∧ RN ml = some q ∧ q.body = .region i5 o5 false := by
 unfold WL at h
 split at h
 ·split at h
  ·rename_i q' hq
   split at h
   ·rename_i i5 o5' hb
    simp only [Option.some.injEq, Prod.mk.injEq] at h
    obtain ⟨rfl, rfl, rfl, rfl, rfl⟩ := h
    exact ⟨_, _, _, _, _, rfl, hq, hb⟩
   ·cases h
  ·cases h
 ·cases h
theorem UU : fD < Go.Proofs.Tryd.prog.funcs.size := by
 have : decide (fD < Go.Proofs.Tryd.prog.funcs.size) = true := by kernel_rfl
 exact of_decide_eq_true this
noncomputable def Rt : Func := Go.Proofs.Tryd.prog.funcs[fD]'UU
theorem Ig : Go.Proofs.Tryd.prog.funcs[fD]? = some Rt := Array.getElem?_eq_getElem UU
noncomputable def cD : Code := Rt.body.getD .skip
noncomputable def Vw : Array Oper × Array Oper × ON × Array Oper × Array Oper := (WL cD).getD (#[], #[], ⟨#[], 0, #[], 0, 0, #[], .skip⟩, #[], #[])
theorem WG : Rt.body = some cD := by kernel_rfl
theorem WO : (Rt.name == "runtime.NumGoroutine") = false := by kernel_rfl
theorem Jt : WL cD = some Vw := by kernel_rfl
theorem VW : Rt.ntmps = 21 := by kernel_rfl
noncomputable def o0 : Array Oper := Vw.1
noncomputable def o1 : Array Oper := Vw.2.1
noncomputable def qD : ON := Vw.2.2.1
noncomputable def o5 : Array Oper := Vw.2.2.2.1
noncomputable def o6 : Array Oper := Vw.2.2.2.2
noncomputable def Xv : Oper := { dst := none, op := .move (.tmp 0), type := 0, pos := "", after := #[], guard := none }
noncomputable def at8 (i : Nat) : Oper := qD.o8.toList.getD i Xv
noncomputable def W4 (i : Nat) : Oper := o5.toList.getD i Xv
theorem WI : qD.o8.toList = qD.o8.toList.take 3 ++ [at8 3, at8 4] := by kernel_rfl
theorem Wd : o5.toList = o5.toList.take 2 ++ W4 2 :: o5.toList.drop 3 := by kernel_rfl
theorem Uq : (at8 3).op = .load 56 (.tmp 8) := by kernel_rfl
theorem VC : (at8 3).dst = some 9 := by kernel_rfl
theorem Wg : (at8 3).guard = none := by kernel_rfl
theorem UX : (at8 4).op = .range 56 (.tmp 9) := by kernel_rfl
theorem Vl : (at8 4).dst = some 10 := by kernel_rfl
theorem WM : (at8 4).guard = none := by kernel_rfl
theorem Vk : Go.Proofs.Tryd.prog.underlying 56 = some (.map 9 52) := by kernel_rfl
theorem WZ : (W4 2).op = .call { callee := .value (.func fD), args := #[.tmp 16], argTypes := #[52] } := by kernel_rfl
theorem Vt : (W4 2).dst = some 17 := by kernel_rfl
theorem Wr : (W4 2).guard = none := by kernel_rfl
theorem Wa : Sr qD.o9 10 qD.tb = some 11 := by kernel_rfl
theorem OU : qD.tb = 12 := by kernel_rfl
theorem Ws : TL qD.Of 10 = some (13, qD.Of.toList.drop 1) := by kernel_rfl
theorem Og {P : Program} (tmps : Array Value) (w : World) : (results Rt tmps).run P w = .ok (tmps.getD 2 undef) w := by
 unfold results
 have : Rt.results = #[.tmp 2] := by kernel_rfl
 rw [this, Array.mapM_eq_mapM_toList]
 simp [Sem.run_bind, Sem.run_map]
abbrev PT (n : Nat) : Prop := ∀ {h : AB} {id : Nat} {d : Int} {w0 : World} {m : AU} {w : World} {cargs : Array Value}, Oi h n id = some d → Rel Go.Proofs.Tryd.prog w0 m h w → BU m [.ptr (some (id, 0))] cargs.toList →
 Bd Go.Proofs.Tryd.prog fD cargs w fun v' w' => Below w.heap.size w w' ∧ v' = .int .i64 d
theorem TU {h : AB} {id : Nat} {q : Nat × List (AA × AA)} (hk : N5 h id = some q) : ∃ x0 x1, h.get id = some (.cells none 2 [x0, x1, .map (some q.1)]) ∧ h.get q.1 = some (.map 2 q.2) := by
 unfold N5 at hk
 split at hk
 ·rename_i x0 x1 mid hg
  split at hk
  ·rename_i es hm
   simp only [Option.some.injEq] at hk
   subst hk
   exact ⟨x0, x1, hg, hm⟩
  ·cases hk
 ·cases hk
set_option maxRecDepth 100000 in
theorem Rc {n : Nat} (ih : PT n) : PT (n + 1) := by
 intro h id d w0 m w cargs hd r hv
 simp only [Oi, Option.bind_eq_some_iff] at hd
 obtain ⟨⟨mid, es⟩, hk, hd⟩ := hd
 dsimp only at hd
 obtain ⟨x0, x1, hget, hmid⟩ := TU hk
 dsimp only at hget hmid
 obtain ⟨i0, i1, i6, i5, ml, hc, hml, hq5⟩ := Vc (show WL cD = some (o0, o1, qD, o5, o6) from Jt)
 obtain ⟨hbb, i8, i9, i10, rfl⟩ := K2 hml
 have hb' := WG
 rw [hc] at hb'
 unfold Bd
 rw [C3 Ig WO hb']
 simp only
 have hlen : cargs.size = 1 := by have := hv.1; simpa using this.symm
 refine (callsIn_wide (n := 0)).1 (callsIn_of_wp_marks Ig hb' trivial ?_)
 have hFR : FR m ([.ptr (some (id, 0))] ++ List.replicate (Rt.ntmps - [AA.ptr (some (id, 0))].length) (.tuple [])) { tmps := cargs ++ Array.replicate (Rt.ntmps - cargs.size) undef, defers := [] } := by
  refine ⟨by simp [hlen]; omega, fun i => ?_⟩
  rw [FE, List.getD_eq_getElem?_getD]
  simp only [Array.getD_eq_getD_getElem?]
  by_cases hi : i < 1
  ·rw [List.getElem?_append_left (by simpa using hi), Array.getElem?_append_left (by omega)]
   rw [List.getElem?_eq_getElem (by simpa using hi), Array.getElem?_eq_getElem (by omega)]
   exact hv.2 i _ _ (List.getElem?_eq_getElem (by simpa using hi)) (by simp [hlen, hi])
  ·rw [List.getElem?_append_right (by simp; omega), Array.getElem?_append_right (by omega)]
   rw [List.getElem?_replicate, Array.getElem?_replicate, hlen]
   simp only [List.length_cons, List.length_nil]
   split
   ·exact VR.Dr m
   ·exact VR.Dr m
 have hH : Has ([.ptr (some (id, 0))] ++ List.replicate (Rt.ntmps - [AA.ptr (some (id, 0))].length) (.tuple [])) 21 [(0, .ptr (some (id, 0)))] := by
  refine ⟨by rw [VW]; rfl, fun p hp => ?_⟩
  have : p = (0, .ptr (some (id, 0))) := by simpa using hp
  rw [this]; rfl
 generalize ([.ptr (some (id, 0))] ++ List.replicate (Rt.ntmps - [AA.ptr (some (id, 0))].length) (.tuple []) : Fr) = fr0 at hFR hH
 refine wpIn_seq (wpIn_region_list ?_)
 rw [← List.append_nil o0.toList]
 refine PV [(0, .ptr (some (id, 0)))] _ hFR hH (fun fr => by kernel_rfl) fun fr1 a1 f1 H1 d1 => Lz ?_
 refine wpIn_seq (wpIn_region_list ?_)
 rw [← List.append_nil o1.toList]
 refine PV [(0, .ptr (some (id, 0))), (3, .int .i64 0)] _ f1 H1 (fun fr => by kernel_rfl) fun fr2 a2 f2 H2 d2 => Lz ?_
 refine wpIn_seq (wpIn_seq (wpIn_region_list ?_))
 rw [WI]
 refine PV [(8, .ptr (some (id, 2))), (3, .int .i64 0)] _ f2 H2 (fun fr => by kernel_rfl) fun fr3 a3 f3 H3 d3 => ?_
 have n8 : nth fr3 8 = .ptr (some (id, 2)) := H3.2 (8, .ptr (some (id, 2))) (by simp)
 obtain ⟨vl, hl1, hl2⟩ := KN (P := Go.Proofs.Tryd.prog) (BO.none w0) r f3 (o := at8 3) (v := .map (some mid)) (by
  rw [Uq]
  simp only [CJ, ev, n8, DD, Option.bind_some, hget, HB]
  rfl)
 refine wpListIn_plain Wg fun K hK => EX (by rw [Uq]; intro c hc; cases hc) hl1 none (hK _ _ ?_)
 rw [VC]
 cases hl2 with
 | map _ E1 hE1 =>
 obtain ⟨hEb, hmo⟩ := r.obj mid E1 _ hE1 hmid
 obtain ⟨ents, clock, p1, p2, p3, p4⟩ := IM.two (hmo (by decide)) (by decide)
 have hsz3 : a3.tmps.size = 21 := by rw [← f3.1]; exact H3.1
 have f4 := f3.put (some 9) (VR.map (m := m) mid E1 hE1)
 have H4 : Has (put fr3 (some 9) (.map (some mid))) 21 [(3, .int .i64 0)] := by
  refine ⟨by rw [C6]; exact H3.1, fun p hp => ?_⟩
  have : p = (3, .int .i64 0) := by simpa using hp
  rw [this]
  show nth (fr3.set 9 _) 3 = _
  rw [Bu, if_neg (by omega)]
  exact H3.2 (3, .int .i64 0) (by simp)
 obtain ⟨a4, ha4⟩ : ∃ a4, a4 = a3.put (some 9) (.map (some E1.g)) := ⟨_, rfl⟩
 have hev4 : a4.eval (.tmp 9) = .map (some E1.g) := by rw [ha4]; exact CS (by rw [hsz3]; decide)
 rw [← ha4] at f4
 rw [← ha4]
 have hrng := run_range_map (P := Go.Proofs.Tryd.prog) w 56 9 52 E1.g ents clock Vk p1
 refine wpListIn_plain WM fun K' hK => EX (v := .pointer (some ⟨w.heap.size, 0, none⟩)) (w' := w.alloc (.mapIter (some E1.g) clock #[] clock)) (by rw [UX]; intro c hc; cases hc) (by
  unfold execOp
  rw [UX]
  simp only [hev4, Sem.run_bind, hrng, Result.andThen_ok, Sem.run_pure]) none (hK _ _ ?_)
 rw [Vl]
 obtain ⟨it, hit⟩ : ∃ it, it = w.heap.size := ⟨_, rfl⟩
 rw [← hit]
 have hEg : E1.g < it := by rw [hit]; exact (Array.getElem?_eq_some_iff.1 p1).1
 obtain ⟨m2, hm2⟩ : ∃ m2, m2 = m.upd h.size ⟨it, 0, E5 Go.Proofs.Tryd.prog none, 0⟩ := ⟨_, rfl⟩
 have hle : m.le m2 := by rw [hm2]; exact AU.GN _ (r.fresh (Nat.le_refl _))
 have m2i : m2.i h.size = some ⟨it, 0, E5 Go.Proofs.Tryd.prog none, 0⟩ := by rw [hm2]; exact AU.Ci _ _ _
 have m2o : ∀ k, k ≠ h.size → m2.i k = m.i k := fun k hk => by rw [hm2]; exact AU.JI _ _ hk
 have f5 : FR m2 (put (put fr3 (some 9) (.map (some mid))) (some 10) (.ptr (some (h.size, 0)))) (a4.put (some 10) (.pointer (some ⟨it, 0, none⟩))) :=
  (f4.mono hle).put (some 10) (VR.ptr (m := m2) h.size 0 _ m2i)
 have H5 : Has (put (put fr3 (some 9) (.map (some mid))) (some 10) (.ptr (some (h.size, 0)))) 21 [(3, .int .i64 0), (10, .ptr (some (h.size, 0)))] := by
  refine ⟨by rw [C6]; exact H4.1, fun p hp => ?_⟩
  have h4l := H4.1
  have : p = (3, .int .i64 0) ∨ p = (10, .ptr (some (h.size, 0))) := by simpa using hp
  show nth (List.set _ 10 _) p.1 = _
  rcases this with rfl | rfl
  ·rw [Bu, if_neg (by omega)]
   exact H4.2 (3, .int .i64 0) (by simp)
  ·rw [Bu, if_pos ⟨rfl, by omega⟩]
 have d5 : (a4.put (some 10) (.pointer (some ⟨it, 0, none⟩))).defers = [] := by rw [BD, ha4, BD, d3, d2, d1]
 generalize (put (put fr3 (some 9) (.map (some mid))) (some 10) (.ptr (some (h.size, 0)))) = fr5 at f5 H5
 generalize (a4.put (some 10) (.pointer (some ⟨it, 0, none⟩))) = a5 at f5 d5
 have hst1 := p4.1
 have hst2 := p4.2.1
 have b5 : Below w.heap.size w (w.alloc (.mapIter (some E1.g) clock #[] clock)) := (Below.refl _ _).alloc (Nat.le_refl _) _
 have it5 : (w.alloc (.mapIter (some E1.g) clock #[] clock)).heap[it]? = some (.mapIter (some E1.g) clock #[] clock) := by rw [hit]; exact heap_alloc_new w _
 generalize (w.alloc (.mapIter (some E1.g) clock #[] clock)) = w5 at b5 it5
 obtain ⟨f, hfd⟩ : ∃ f, f = T9 (Oi h n) := ⟨_, rfl⟩
 rw [← hfd] at hd
 suffices main : ∀ Q : Exit → Act → World → Prop, (∀ a9 w9 fr9, FR m2 fr9 a9 → Has fr9 21 [(3, .int .i64 d)] → a9.defers = [] → Below w.heap.size w w9 → Q .normal a9 w9) →
   (Code.block qD.b (.loop (.seq (.region i9 qD.o9 false) (.seq (.cond (.tmp qD.tb) .skip (.exit qD.b)) (.block qD.b2 (.seq (.region i10 qD.Of false) qD.body)))))).wpIn (FW none) 0 Go.Proofs.Tryd.prog Q a5 w5 by
  refine main _ fun a8 ww fr8 fb Hb db bb => ?_
  refine wpIn_seq (wpIn_region_list ?_)
  rw [← List.append_nil o6.toList]
  refine PV [(2, .int .i64 d)] _ fb Hb (fun fr => by kernel_rfl) fun fr9 a9 f9 H9 d9 => Lz (wpIn_ret ?_)
  show LeavesInM Fence.wide 0 Go.Proofs.Tryd.prog Rt a9.tmps (fun e w' => ∃ v', e = .returned v' ∧ Below it w w' ∧ v' = .int .i64 d) a9.defers .returning ww
  rw [d9, db]
  have q1 := Og (P := Go.Proofs.Tryd.prog) a9.tmps ww
  have q2 := f9.2 2
  rw [H9.2 (2, .int .i64 d) (by simp)] at q2
  exact ⟨_, q1, _, rfl, hit ▸ bb, q2.B5⟩
 intro Q hQ
 refine wpIn_block (wpIn_loop (fun a ww => ∃ (fr : Fr) (vis : List Nat) (most : Int) (seen : Array Nat), Below w.heap.size w ww ∧ FR m2 fr a ∧ Has fr 21 [(3, .int .i64 most), (10, .ptr (some (h.size, 0)))] ∧ a.defers = [] ∧
   ww.heap[it]? = some (.mapIter (some E1.g) clock seen clock) ∧ vis.Nodup ∧ (∀ i ∈ vis, i < ents.size) ∧
   (∀ (i : Nat) (en : MapEntry), ents[i]? = some en → (seen.contains en.born = true ↔ i ∈ vis)) ∧ Hs f (vis.map (PF es)) 0 = some most)
  (fun _ ww => ww.rangeLeft E1.g it) ⟨fr5, [], 0, #[], b5, f5, H5, d5, it5, List.nodup_nil, fun i hi => (by cases hi), fun i en hen => (by simp), rfl⟩ ?_)
 rintro aa ww ⟨fr, vis, most, seen, bb, ff, HH, dd, hitr, vn, vl, vs, vf⟩
 have hmp : ww.heap[E1.g]? = some (.map ents clock) := by rw [bb.block _ (by omega)]; exact p1
 have hsza : aa.tmps.size = 21 := by rw [← ff.1]; exact HH.1
 have J8 : ∀ {fr : Fr} {a : Act} {l : List (Nat × AA)}, FR m2 fr a → Has fr 21 l → (10, AA.ptr (some (h.size, 0))) ∈ l → a.eval (.tmp 10) = .pointer (some ⟨it, 0, none⟩) := fun {fr a l} ff HH hm => by
  have := ff.2 10
  rw [HH.2 _ hm] at this
  obtain ⟨E', hE', hv⟩ := this.MC
  rw [m2i] at hE'
  cases hE'
  exact hv
 have heI := J8 ff HH (by simp)
 obtain ⟨nx, ex, hl9, nop, ndst, ngu, xop, xdst, xgu, hne1, hne2⟩ := Q3 Wa
 obtain ⟨en, hl10, eop, edst, egu⟩ := Qp Ws
 refine wpIn_seq (wpIn_region_list ?_)
 rw [hl9]
 rcases run_next_at (P := Go.Proofs.Tryd.prog) ww nx.type it E1.g clock clock seen ents clock hitr hmp hst1 (Nat.le_refl _) with ⟨h0, hrun⟩ | ⟨e0, he0, w3, hal, hrun⟩
 ·-- nothing is left
  refine wpListIn_plain ngu fun K hK => EX (v := .tuple #[.bool false]) (w' := ww) (by rw [nop]; intro c hc; cases hc) (by
   unfold execOp
   rw [nop]
   simp only [heI, Sem.run_bind, hrun, Result.andThen_ok, Sem.run_pure]) none (hK _ _ ?_)
  rw [ndst]
  have fa := ff.put (some 11) (x := .undef) (v := .tuple #[.bool false]) (.undef _)
  have hsn : (aa.put (some 11) (.tuple #[.bool false])).eval (.tmp 11) = .tuple #[.bool false] := CS (by rw [hsza]; decide)
  refine wpListIn_plain xgu fun K hK => EX (v := .bool false) (w' := ww) (by rw [xop]; intro c hc; cases hc) (by
   unfold execOp
   rw [xop]
   simp only [hsn, Sem.run_bind, Instr.extract]
   rfl) none (hK _ _ ?_)
  rw [xdst]
  have fb := fa.put (some qD.tb) (x := .undef) (v := .bool false) (.undef _)
  refine wpIn_seq (wpIn_cond_false (CS (by rw [size_put, OU, hsza]; decide)) (wpIn_exit ?_))
  show (if qD.b = qD.b then Q .normal ((aa.put (some 11) (.tuple #[.bool false])).put (some qD.tb) (.bool false)) ww else Q (.exit qD.b) ((aa.put (some 11) (.tuple #[.bool false])).put (some qD.tb) (.bool false)) ww)
  rw [if_pos rfl]
  have hpv : vis.Perm (List.range es.length) := JB vn fun i => ⟨fun hi => by rw [p2]; exact vl i hi, fun hi => by
   have hi2 : i < ents.size := by rw [← p2]; exact hi
   exact (vs i _ (Array.getElem?_eq_getElem hi2)).1 (all_seen ents seen h0 _ (by simp))⟩
  have hfin := RW (f := f) ((hpv.map (PF es)).trans (by rw [M9])) 0
  rw [vf, hd] at hfin
  injection hfin with hfin
  subst hfin
  have Hb : Has (put (put fr (some 11) .undef) (some qD.tb) .undef) 21 [(3, .int .i64 most)] := by
   refine ⟨by rw [C6, C6]; exact HH.1, fun p hp => ?_⟩
   have : p = (3, .int .i64 most) := by simpa using hp
   rw [this]
   show nth (List.set (List.set fr 11 _) qD.tb _) 3 = _
   rw [Bu, if_neg (by rw [OU]; omega), Bu, if_neg (by omega)]
   exact HH.2 (3, .int .i64 most) (by simp)
  have db : ((aa.put (some 11) (.tuple #[.bool false])).put (some qD.tb) (.bool false)).defers = [] := by rw [BD, BD, dd]
  exact hQ _ _ _ fb Hb db bb
 ·-- one more
  obtain ⟨hmem, hns⟩ := mem_left he0
  obtain ⟨i0, hi0, hei0⟩ := List.mem_iff_getElem.1 hmem
  have hi0' : i0 < ents.size := by simpa using hi0
  have hent : ents[i0]? = some e0 := by rw [Array.getElem?_eq_getElem hi0']; exact congrArg some (by simpa using hei0)
  obtain ⟨⟨k, v⟩, hkv⟩ : ∃ p, es[i0]? = some p := ⟨_, List.getElem?_eq_getElem (by rw [p2]; exact hi0')⟩
  obtain ⟨hvk, hvv⟩ := p3 i0 k v e0 hkv hent
  have hatI : PF es i0 = (k, v) := by unfold Av.PF; rw [hkv]; rfl
  have hi0v : i0 ∉ vis := fun hi => by
   have := (vs i0 e0 hent).2 hi
   rw [hns] at this
   cases this
  obtain ⟨dk, hdk⟩ := PD hd (k, v) (List.mem_of_getElem? hkv)
  dsimp only at hdk
  obtain ⟨Ic, rfl, hkid⟩ : ∃ Ic, v = .ptr (some (Ic, 0)) ∧ Oi h n Ic = some dk := by
   rw [hfd] at hdk
   unfold T9 at hdk
   split at hdk
   ·rename_i kk
    exact ⟨kk, rfl, hdk⟩
   ·cases hdk
  obtain ⟨ww3, hww3⟩ : ∃ x, x = setBlock w3 it (.mapIter (some E1.g) clock (seen.push e0.born) clock) := ⟨_, rfl⟩
  rw [← hww3] at hrun
  have hitlt : it < ww.heap.size := (Array.getElem?_eq_some_iff.1 hitr).1
  have hheap : ww3.heap = ww.heap.setIfInBounds it (.mapIter (some E1.g) clock (seen.push e0.born) clock) := by
   rw [hww3]
   rcases hal with rfl | rfl <;> rfl
  have ht : Ch ww ww3 it := ⟨by rw [hww3]; rcases hal with rfl | rfl <;> rfl, by rw [hww3]; rcases hal with rfl | rfl <;> rfl, by rw [hww3]; rcases hal with rfl | rfl <;> rfl, by rw [hheap]; simp, fun k hk hne => by rw [hheap]; simp [Array.getElem?_setIfInBounds_ne (Ne.symm hne)]⟩
  have hit3 : ww3.heap[it]? = some (.mapIter (some E1.g) clock (seen.push e0.born) clock) := by
   rw [hheap]
   simp [hitlt]
  have b3 : Below w.heap.size w ww3 := ht.below bb bb.size (by omega)
  have hmp3 : ww3.heap[E1.g]? = some (.map ents clock) := by rw [b3.block _ (by omega)]; exact p1
  refine wpListIn_plain ngu fun K hK => EX (v := .tuple #[.bool true, e0.key, e0.val]) (w' := ww3) (by rw [nop]; intro c hc; cases hc) (by
   unfold execOp
   rw [nop]
   simp only [heI, Sem.run_bind, hrun, Result.andThen_ok, Sem.run_pure]) none (hK _ _ ?_)
  rw [ndst]
  have fa := ff.put (some 11) (x := .undef) (v := .tuple #[.bool true, e0.key, e0.val]) (.undef _)
  have hsn : (aa.put (some 11) (.tuple #[.bool true, e0.key, e0.val])).eval (.tmp 11) = .tuple #[.bool true, e0.key, e0.val] := CS (by rw [hsza]; decide)
  refine wpListIn_plain xgu fun K hK => EX (v := .bool true) (w' := ww3) (by rw [xop]; intro c hc; cases hc) (by
   unfold execOp
   rw [xop]
   simp only [hsn, Sem.run_bind, Instr.extract]
   rfl) none (hK _ _ ?_)
  rw [xdst]
  have fb := fa.put (some qD.tb) (x := .undef) (v := .bool true) (.undef _)
  have Hb : Has (put (put fr (some 11) .undef) (some qD.tb) .undef) 21 [(3, .int .i64 most), (10, .ptr (some (h.size, 0)))] := by
   refine ⟨by rw [C6, C6]; exact HH.1, fun p hp => ?_⟩
   have : p = (3, .int .i64 most) ∨ p = (10, .ptr (some (h.size, 0))) := by simpa using hp
   show nth (List.set (List.set fr 11 _) qD.tb _) p.1 = _
   rcases this with rfl | rfl
   ·rw [Bu, if_neg (by rw [OU]; omega), Bu, if_neg (by omega)]
    exact HH.2 (3, .int .i64 most) (by simp)
   ·rw [Bu, if_neg (by rw [OU]; omega), Bu, if_neg (by omega)]
    exact HH.2 (10, .ptr (some (h.size, 0))) (by simp)
  have db : ((aa.put (some 11) (.tuple #[.bool true, e0.key, e0.val])).put (some qD.tb) (.bool true)).defers = [] := by rw [BD, BD, dd]
  refine wpIn_seq (wpIn_cond_true (CS (by rw [size_put, OU, hsza]; decide)) (wpIn_skip ?_))
  generalize ((aa.put (some 11) (.tuple #[.bool true, e0.key, e0.val])).put (some qD.tb) (.bool true)) = ab at fb db
  generalize (put (put fr (some 11) .undef) (some qD.tb) .undef) = frb at fb Hb
  suffices main : ∀ Q' : Exit → Act → World → Prop, (∀ a9 w9 fr9, FR m2 fr9 a9 → Has fr9 21 [(3, .int .i64 (RQ most (IntKind.i64.wrap (dk + 1)))), (10, .ptr (some (h.size, 0)))] → a9.defers = [] → Below ww3.heap.size ww3 w9 → Q' .normal a9 w9) →
    (Code.seq (.region i10 qD.Of false) qD.body).wpIn (FW none) 0 Go.Proofs.Tryd.prog Q' ab ww3 by
   show (Code.block qD.b2 _).wpIn _ _ _ _ _ _
   refine wpIn_block (main _ fun a9 w9 fr9 f9 H9 d9 b9 => ?_)
   have hit9 : w9.heap[it]? = some (.mapIter (some E1.g) clock (seen.push e0.born) clock) := by rw [b9.block _ (Array.getElem?_eq_some_iff.1 hit3).1]; exact hit3
   refine ⟨⟨fr9, vis ++ [i0], _, seen.push e0.born, b3.trans (b9.mono b3.size), f9, H9, d9, hit9, ?_, fun i hi => ?_, fun i en' hen' => ?_, ?_⟩, ?_⟩
   ·rw [List.nodup_append]
    exact ⟨vn, by simp, fun a ha b hb e => by simp at hb; subst hb; subst e; exact hi0v ha⟩
   ·rcases List.mem_append.1 hi with hi | hi
    ·exact vl i hi
    ·simp at hi; subst hi; exact hi0'
   ·rw [contains_push, Bool.or_eq_true, List.mem_append, List.mem_singleton]
    constructor
    ·rintro (hc | hc)
     ·exact .inl ((vs i en' hen').1 hc)
     ·exact .inr (Qt hst2 hen' hent (eq_of_beq hc))
    ·rintro (hc | rfl)
     ·exact .inl ((vs i en' hen').2 hc)
     ·rw [hent] at hen'
      cases hen'
      exact .inr (by simp)
   ·rw [List.map_append, OS, vf, List.map_cons, hatI, List.map_nil, Option.bind_some]
    simp only [Hs, hdk]
   ·have := left_shrinks ents seen e0 he0
    have hmp9 : w9.heap[E1.g]? = some (.map ents clock) := by rw [b9.block _ (Array.getElem?_eq_some_iff.1 hmp3).1]; exact hmp3
    unfold World.rangeLeft
    rw [hmp9, hit9, hmp, hitr]
    exact this
  intro Q' hQ'
  refine wpIn_seq (wpIn_region_list ?_)
  rw [hl10]
  have heI3 := J8 fb Hb (by simp)
  have hent3 := run_entry_at (P := Go.Proofs.Tryd.prog) ww3 it E1.g clock seen ents clock e0 hit3 hmp3 hmem hst2
  refine wpListIn_plain egu fun K hK => EX (v := .tuple #[e0.key, e0.val]) (w' := ww3) (by rw [eop]; intro c hc; cases hc) (by
   unfold execOp
   rw [eop]
   simp only [heI3, Sem.run_bind, hent3, Result.andThen_ok, Sem.run_pure]) none (hK _ _ ?_)
  rw [edst]
  have fc := fb.put (some 13) (BU.tuple (.cons (hvk.mono hle) (.cons (hvv.mono hle) (.nil _))))
  have Hc : Has (put frb (some 13) (.tuple [k, .ptr (some (Ic, 0))])) 21 [(13, .tuple [k, .ptr (some (Ic, 0))]), (3, .int .i64 most), (10, .ptr (some (h.size, 0)))] := by
   have hl := Hb.1
   refine ⟨by rw [C6]; exact Hb.1, fun p hp => ?_⟩
   have : p = (13, .tuple [k, .ptr (some (Ic, 0))]) ∨ p = (3, .int .i64 most) ∨ p = (10, .ptr (some (h.size, 0))) := by simpa using hp
   show nth (List.set frb 13 _) p.1 = _
   rcases this with rfl | rfl | rfl
   ·rw [Bu, if_pos ⟨rfl, by omega⟩]
   ·rw [Bu, if_neg (by omega)]
    exact Hb.2 (3, .int .i64 most) (by simp)
   ·rw [Bu, if_neg (by omega)]
    exact Hb.2 (10, .ptr (some (h.size, 0))) (by simp)
  have dc : (ab.put (some 13) (.tuple #[e0.key, e0.val])).defers = [] := by rw [BD, db]
  rw [← List.append_nil (qD.Of.toList.drop 1)]
  refine PV [(5, .ptr (some (Ic, 0))), (3, .int .i64 most), (10, .ptr (some (h.size, 0)))] _ fc Hc (fun fr => by kernel_rfl) fun fr6 a6 f6 H6 d6 => Lz ?_
  show qD.body.wpIn (FW none) 0 Go.Proofs.Tryd.prog Q' a6 ww3
  rw [hq5]
  refine wpIn_region_list ?_
  rw [Wd]
  refine PV [(16, .ptr (some (Ic, 0))), (15, .int .i64 most), (3, .int .i64 most), (10, .ptr (some (h.size, 0)))] _ f6 H6 (fun fr => by kernel_rfl) fun fr7 a7 f7 H7 d7 => ?_
  have hvr : VR m (.ptr (some (Ic, 0))) (a7.eval (.tmp 16)) := by
   have := f7.2 16
   rw [H7.2 (16, .ptr (some (Ic, 0))) (by simp)] at this
   obtain ⟨E', hE', hv'⟩ := this.MC
   obtain ⟨E2, hE2, _⟩ := hvv.MC
   have hne : Ic ≠ h.size := by
    have := r.Ku Ic E2 hE2
    omega
   rw [m2o Ic hne] at hE'
   show VR m _ (a7.tmps.getD 16 undef)
   rw [hv']
   exact VR.ptr Ic 0 E' hE'
  have r3 : Rel Go.Proofs.Tryd.prog w0 m h ww3 := r.later b3
  have hvs : BU m [.ptr (some (Ic, 0))] (#[a7.eval (.tmp 16)] : Array Value).toList := BU.cons hvr (.nil _)
  have hiv := ih (cargs := #[a7.eval (.tmp 16)]) hkid r3 hvs
  have hxf : ev fr7 (.func fD) = .func (.func fD) [] [] := rfl
  have hmap : (#[.tmp 16] : Array Operand).map a7.eval = #[a7.eval (.tmp 16)] := by simp
  refine wpListIn_plain Wr fun K hK => Tc (f := fD) WZ hxf f7 ?_
  rw [hmap]
  refine hiv.mono fun v' w7 hq => hK _ _ ?_
  obtain ⟨b7, rfl⟩ := hq
  rw [Vt]
  have f8 := f7.put (some 17) (VR.int (m := m2) .i64 dk)
  have H8 : Has (put fr7 (some 17) (.int .i64 dk)) 21 [(17, .int .i64 dk), (15, .int .i64 most), (10, .ptr (some (h.size, 0)))] := by
   have hl := H7.1
   refine ⟨by rw [C6]; exact H7.1, fun p hp => ?_⟩
   have : p = (17, .int .i64 dk) ∨ p = (15, .int .i64 most) ∨ p = (10, .ptr (some (h.size, 0))) := by simpa using hp
   show nth (List.set fr7 17 _) p.1 = _
   rcases this with rfl | rfl | rfl
   ·rw [Bu, if_pos ⟨rfl, by omega⟩]
   ·rw [Bu, if_neg (by omega)]
    exact H7.2 (15, .int .i64 most) (by simp)
   ·rw [Bu, if_neg (by omega)]
    exact H7.2 (10, .ptr (some (h.size, 0))) (by simp)
  rw [← List.append_nil (o5.toList.drop 3)]
  refine PV [(3, .int .i64 (RQ most (IntKind.i64.wrap (dk + 1)))), (10, .ptr (some (h.size, 0)))] _ f8 H8 (fun fr => by kernel_rfl) fun fr9 a9 f9 H9 d9 => Lz ?_
  exact hQ' _ _ _ f9 H9 (by rw [d9, BD, d7, d6, dc]) b7
theorem TO : ∀ n, PT n
 | 0 => fun hd => by cases hd
 | n + 1 => Rc (TO n)
end
end Deep
end Go.Av
