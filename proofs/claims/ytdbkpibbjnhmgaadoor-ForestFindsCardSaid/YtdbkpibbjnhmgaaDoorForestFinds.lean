/-
 A part.
-/
import Derived.Test.YtdbkpibbjnhmgaaDoorRows
import Derived.Test.YtdbkpibbjnhmgaaDoorFoW
import Derived.WalkKit
import Derived.ProofKit
import Derived.OpenShut
import Derived.JoinedCond
import Derived.Shelf.Vars
import Derived.HandedShaped
import Derived.Test.YtdbkpibbjnhmgaaDoorAvGlob
import Derived.Test.YtdbkpibbjnhmgaaDoorCards
import Derived.Test.YtdbkpibbjnhmgaaDoorTie
import Derived.Deep.DeepHandedRow
import Derived.Lib.LaidTab
namespace Go.Proofs.YtdbkpibbjnhmgaaDoor.forestFinds
open Go.ChangeShapes Go.WideShapes Go.ChangeAt Go.RowKit Go.Av Go.Av.L
set_option linter.unusedVariables false
set_option linter.unusedSimpArgs false
theorem own : ownKnob Tryd.prog.godebug = none := by kernel_rfl
theorem Wh : Og Tryd.prog 22 (eL AE) (V8 (fun x : AS => Nx x.Name ∧ Nx x.Ue ∧ (M1 .u8) x.Kind ∧ (M1 .i64) x.Mode ∧ (M1 .i64) x.WO ∧ (M1 .i64) x.WW ∧ Nx x.RS ∧ Nx x.Sa ∧ (M1 .i64) x.Rx ∧ (M1 .i64) x.Rq ∧ (fun x : BI => (M1 .i64) x.Vk ∧ (M1 .i64) x.Sd ∧ True) x.Time ∧ (V8 (fun x : BK => Nx x.Key ∧ Nx x.Value ∧ True)) x.Extra ∧ Nx x.Data ∧ True)) := Vn (t := 22) (el := 51) CU (by kernel_rfl) (by kernel_rfl) (by decide) (Up (P := Tryd.prog) (t := 51) (e' := AE) (ok' := (fun x : AS => Nx x.Name ∧ Nx x.Ue ∧ (M1 .u8) x.Kind ∧ (M1 .i64) x.Mode ∧ (M1 .i64) x.WO ∧ (M1 .i64) x.WW ∧ Nx x.RS ∧ Nx x.Sa ∧ (M1 .i64) x.Rx ∧ (M1 .i64) x.Rq ∧ (fun x : BI => (M1 .i64) x.Vk ∧ (M1 .i64) x.Sd ∧ True) x.Time ∧ (V8 (fun x : BK => Nx x.Key ∧ Nx x.Value ∧ True)) x.Extra ∧ Nx x.Data ∧ True)) (ts := [9, 9, 5, 3, 3, 3, 9, 9, 3, 3, 48, 49, 9]) (by kernel_rfl) (fun x : (List UInt8) × (List UInt8) × (Int) × (Int) × (Int) × (Int) × (List UInt8) × (List UInt8) × (Int) × (Int) × (BI) × (List BK) × (List UInt8) × Unit => (⟨x.1, x.2.1, x.2.2.1, x.2.2.2.1, x.2.2.2.2.1, x.2.2.2.2.2.1, x.2.2.2.2.2.2.1, x.2.2.2.2.2.2.2.1, x.2.2.2.2.2.2.2.2.1, x.2.2.2.2.2.2.2.2.2.1, x.2.2.2.2.2.2.2.2.2.2.1, x.2.2.2.2.2.2.2.2.2.2.2.1, x.2.2.2.2.2.2.2.2.2.2.2.2.1⟩ : AS)) (fun x => rfl) (fun x h => h) (CY (N7 (t := 9) (by kernel_rfl)) (CY (N7 (t := 9) (by kernel_rfl)) (CY (OQ (t := 5) (k := .u8) (by kernel_rfl)) (CY (OQ (t := 3) (k := .i64) (by kernel_rfl)) (CY (OQ (t := 3) (k := .i64) (by kernel_rfl)) (CY (OQ (t := 3) (k := .i64) (by kernel_rfl)) (CY (N7 (t := 9) (by kernel_rfl)) (CY (N7 (t := 9) (by kernel_rfl)) (CY (OQ (t := 3) (k := .i64) (by kernel_rfl)) (CY (OQ (t := 3) (k := .i64) (by kernel_rfl)) (CY (Up (P := Tryd.prog) (t := 48) (e' := MF) (ok' := (fun x : BI => (M1 .i64) x.Vk ∧ (M1 .i64) x.Sd ∧ True)) (ts := [3, 3]) (by kernel_rfl) (fun x : (Int) × (Int) × Unit => (⟨x.1, x.2.1⟩ : BI)) (fun x => rfl) (fun x h => h) (CY (OQ (t := 3) (k := .i64) (by kernel_rfl)) (CY (OQ (t := 3) (k := .i64) (by kernel_rfl)) (Ng)))) (CY (Vn (t := 49) (el := 143) Ls (by kernel_rfl) (by kernel_rfl) (by decide) (Up (P := Tryd.prog) (t := 143) (e' := Eh) (ok' := (fun x : BK => Nx x.Key ∧ Nx x.Value ∧ True)) (ts := [9, 9]) (by kernel_rfl) (fun x : (List UInt8) × (List UInt8) × Unit => (⟨x.1, x.2.1⟩ : BK)) (fun x => rfl) (fun x h => h) (CY (N7 (t := 9) (by kernel_rfl)) (CY (N7 (t := 9) (by kernel_rfl)) (Ng))))) (CY (N7 (t := 9) (by kernel_rfl)) (Ng)))))))))))))))
theorem Wp : Og Tryd.prog 9 eS Nx := N7 (t := 9) (by kernel_rfl)
theorem maxLen {W : World} (hs : W.ShapedOpen Tryd.prog) : ∃ n : Int, W.cell? ⟨2, 0, none⟩ = some (.int .i64 n) :=
 cell_of_shapedOpen_int (g := 2) (t := 3) (zero := #[.int .i64 0]) (k := .i64) hs (of_decide_eq_true (by kernel_rfl)) (by kernel_rfl) rfl (by kernel_rfl) (by kernel_rfl) (by kernel_rfl)
theorem S4 {W : World} (hL : laidMetH Tryd.prog Rows.forestFindsRow.laid W) (hs : W.ShapedOpen Tryd.prog) : BV cfg.CP W := by
 have l0 : laidMet Tryd.prog Rows.forestFindsRow.laid W := hL
 have l1 := MV l0
 have l2 := MV l1
 exact O9 (maxLen hs) (O8 W)
set_option maxRecDepth 100000 in
theorem SS (H : Type) (enc : TypeId × Value → H) (W : World) (base : Nat) (args : Array Value) (ds gs : List (DataW H)) (before : List MemPlace)
  (hval : ∀ (j : Nat) t v, Tryd.f5.params[j]? = some t → args[j]? = some v → Value.okWide Tryd.prog W .any base t v)
  (hW : DataW.Whole enc Tryd.prog Tryd.f5.params.toList Rows.forestFindsSpec.vars false W args.toList ds gs before) (hL : laidMetH Tryd.prog Rows.forestFindsRow.laid W) (hs : W.ShapedOpen Tryd.prog) :
  Calls Tryd.prog 5 args W fun e W' => ∃ v, e = .returned v ∧ Rows.forestFindsSpec.post enc Tryd.prog Tryd.f5 false true false false W args v W' := by
 have hW' := hW
 obtain ⟨p, q, hA0, hV, rfl, hfz, hnd⟩ := hW
 have hA : DataW.TrodAll enc Tryd.prog W 0 (fun _ => true) true Tryd.f5.params.toList args.toList ds p := hA0
 rw [Tryd.params5] at hA
 obtain ⟨v0, vs0, d0, ds0, p0, q0, g0, rfl, _, ⟨fu0, t0⟩, r0⟩ := trodAll_cons hA
 obtain ⟨v1, vs1, d1, ds1, p1, q1, g1, rfl, _, ⟨fu1, t1⟩, r1⟩ := trodAll_cons r0
 obtain ⟨gE, rfl, _⟩ := trodAll_nil r1
 have hargs : args.toList = [v0, v1] := by rw [g0, g1, gE]
 obtain ⟨x0, c0, k0⟩ := Wh.h fu0 _ d0 p0 t0
 have V0 := Oc (hval 0 22 v0 (by rw [Tryd.params5]; rfl) (by rw [← Array.getElem?_toList, hargs]; rfl)) c0 (show toArg Tryd.prog 22 ((eL AE) x0) = some (vs AE x0) from by kernel_rfl)
 obtain ⟨x1, c1, k1⟩ := Wp.h fu1 _ d1 p1 t1
 have V1 := Oc (hval 1 9 v1 (by rw [Tryd.params5]; rfl) (by rw [← Array.getElem?_toList, hargs]; rfl)) c1 (show toArg Tryd.prog 9 (eS x1) = some (.str x1) from by kernel_rfl)
 have hm := LV x0 k0 x1 k1
 obtain ⟨v, h', hr, ev, _⟩ := Fk (g := ⟨0, []⟩) (h := ⟨0, .leaf⟩) (F := []) (av := [vs AE x0, .str x1]) hm (hc := rfl) HH.start
 subst ev
 exact RL (C := cfg) Uh (S4 hL hs) (by kernel_rfl) Tryd.func5 (by kernel_rfl) (c := KX cfg.P 5) (by kernel_rfl) (by rw [Tryd.params5]; intro t ht; simp only [List.mem_cons, List.not_mem_nil, or_false] at ht; rcases ht with rfl | rfl <;> exact ⟨by kernel_rfl, of_decide_eq_true (by kernel_rfl)⟩) (tb := 4) (by kernel_rfl) (by kernel_rfl) rfl (by rfl) hW' (by rw [hargs]; exact .cons V0 (.cons V1 (.nil _))) hr
noncomputable def J0 (os : Os) : World := { World.holding Tryd.prog os ⟨#[], #[], []⟩ with heap := (((World.holding Tryd.prog os ⟨#[], #[], []⟩).heap.modify 1 fun
      | .cells _ t frozen => .cells #[.int .u8 128, .int .u8 191, .int .u8 160, .int .u8 191, .int .u8 128, .int .u8 159, .int .u8 144, .int .u8 191, .int .u8 128, .int .u8 143, .int .u8 0, .int .u8 0, .int .u8 0, .int .u8 0, .int .u8 0, .int .u8 0, .int .u8 0, .int .u8 0, .int .u8 0, .int .u8 0, .int .u8 0, .int .u8 0, .int .u8 0, .int .u8 0, .int .u8 0, .int .u8 0, .int .u8 0, .int .u8 0, .int .u8 0, .int .u8 0, .int .u8 0, .int .u8 0] t frozen
      | o => o).modify 0 fun
      | .cells _ t frozen => .cells (Go.Pinned.utf8FirstZ.map fun n => Value.int .u8 (Int.ofNat n)).toArray t frozen
      | o => o) }
theorem SR (os : Os) : laidMet Tryd.prog Rows.forestFindsRow.laid ((J0 os).forCall (fun _ _ => 0) ⟨#[], #[.slice none 0 0, .string ⟨#[]⟩], []⟩).memory :=
 laidMet_of_run' 8 (by kernel_rfl) (by kernel_rfl)
theorem reads (os : Os) {H : Type} (enc : TypeId × Value → H) : ∃ places, DataW.whole enc Tryd.prog ((J0 os).forCall (fun _ _ => 0) ⟨#[], #[.slice none 0 0, .string ⟨#[]⟩], []⟩).memory Tryd.f5.params.toList Rows.forestFindsSpec.vars false (#[.slice none 0 0, .string ⟨#[]⟩] : Array Value).toList 8 = some ([.nil, .lit (.string [])], [], places) :=
 ⟨[], by kernel_rfl⟩
set_option maxRecDepth 100000 in
theorem lifted (os : Os) (started : os.Started) (H : Type) (enc : TypeId × Value → H) (F : Stop.Interp) :
  ReturnsInHanded {} Tryd.checked os 5 .any ((OpenSpec.ofChange Rows.forestFindsSpec).preRow enc Tryd.prog Tryd.f5 Rows.forestFindsRow.domain false Rows.forestFindsRow.laid) (((OpenSpec.ofChange Rows.forestFindsSpec).at F).post enc Tryd.prog Tryd.f5 false true false false) := by
 obtain ⟨places, hx⟩ := reads os enc
 refine returnsInHanded_of_row (C := Tryd.checked) (s := OpenSpec.ofChange Rows.forestFindsSpec) own started (by kernel_rfl) Tryd.func5
  (witness_row_at (enc := enc) (C := Tryd.checked) false (J0 os) #[.slice none 0 0, .string ⟨#[]⟩] rfl (by kernel_rfl) (by kernel_rfl) (by kernel_rfl)
   (OpenSpec.preRow_of_cond 8 hx (by kernel_rfl) (fun k hk => by cases hk) (by kernel_rfl) (SR os))) ?_
 intro W base args ds gs before hval hW _ hcond _ hL hs _
 exact SS H enc W base args ds gs before hval hW hL hs
set_option maxRecDepth 100000 in
theorem said : Rows.ForestFindsSaid :=
 OpenClaim.holds_of_cond 5 Tryd.f5 rfl rfl rfl rfl rfl rfl rfl ⟨rfl, rfl, rfl, rfl, rfl⟩ rfl rfl rfl rfl rfl (by kernel_rfl) Tryd.func5 (by kernel_rfl)
  (of_decide_eq_true (by kernel_rfl)) (by unfold Func.isWrapper; first | (rw [if_pos (by decide +kernel)]; kernel_rfl) | (rw [if_neg (by decide +kernel)]; exact ⟨rfl, rfl⟩))
  (fun os started H enc _ F => by rw [OpenClaim.pre_eq_preRow]; exact lifted os started H enc F)
theorem plain (f : FuncId) (fn : Func) (hf : Tryd.pinned.checked.prog.funcNamed "boulter/boulterlaw37.ForestFinds" = some f) (hfn : Tryd.pinned.checked.prog.funcs[f]? = some fn) :
  false = Tryd.pinned.checked.prog.looks [] ∧ ∀ (j : Nat) t, fn.params[j]? = some t → Tryd.pinned.checked.prog.wantsStandIn t = false := by
 obtain rfl : f = 5 := Option.some.inj ((show Tryd.prog.funcNamed "boulter/boulterlaw37.ForestFinds" = some 5 by kernel_rfl).symm.trans hf) |>.symm
 obtain rfl : fn = Tryd.f5 := (Option.some.inj (Tryd.func5.symm.trans hfn)).symm
 refine ⟨by kernel_rfl, fun j t ht => ?_⟩
 rw [Tryd.params5] at ht
 have hm := Array.mem_of_getElem? ht
 simp only [List.mem_toArray, List.mem_cons, List.not_mem_nil, or_false] at hm
 rcases hm with rfl | rfl
 ·exact (show Tryd.prog.wantsStandIn 22 = false by kernel_rfl)
 ·exact (show Tryd.prog.wantsStandIn 9 = false by kernel_rfl)
theorem proved : Rows.ForestFindsCardSaid :=
 Claim7.holds_tied_plain_at .later [] _ _ _ _ said (fun _ h => by cases h) (by kernel_rfl) (fun _ h => by cases h) forestFinds_row_tie rfl ⟨rfl, rfl⟩ (by kernel_rfl) rfl plain (by kernel_rfl)
#print axioms proved
end Go.Proofs.YtdbkpibbjnhmgaaDoor.forestFinds
