/-
 A part.
-/
import Derived.Test.YtdbkpibbjnhmgaaDoorRows
import Derived.Test.YtdbkpibbjnhmgaaDoorFoX
import Derived.WalkKit
import Derived.ProofKit
import Derived.OpenShut
import Derived.JoinedCond
import Derived.Shelf.Vars
import Derived.HandedShaped
import Derived.Test.YtdbkpibbjnhmgaaDoorAvGlob
import Derived.Test.YtdbkpibbjnhmgaaDoorCards
import Derived.Test.YtdbkpibbjnhmgaaDoorTie
import Derived.Deep.DeepHandedRow
import Derived.Lib.LaidTab
namespace Go.Proofs.YtdbkpibbjnhmgaaDoor.forestTells
open Go.ChangeShapes Go.WideShapes Go.ChangeAt Go.RowKit Go.Av Go.Av.L
set_option linter.unusedVariables false
set_option linter.unusedSimpArgs false
theorem own : ownKnob Tryd.prog.godebug = none := by kernel_rfl
theorem XK : Ph Tryd.prog 22 (eL AE) (W8 (fun x : AO => PA x.Name ∧ PA x.Vm ∧ (NR .u8) x.Kind ∧ (NR .i64) x.Mode ∧ (NR .i64) x.Xa ∧ (NR .i64) x.XE ∧ PA x.Rz ∧ PA x.SK ∧ (NR .i64) x.SI ∧ (NR .i64) x.SE ∧ (fun x : BH => (NR .i64) x.Wo ∧ (NR .i64) x.Rv ∧ True) x.Time ∧ (W8 (fun x : BN => PA x.Key ∧ PA x.Value ∧ True)) x.Extra ∧ PA x.Data ∧ True)) := Wc (t := 22) (el := 51) Cy (by kernel_rfl) (by kernel_rfl) (by decide) (VO (P := Tryd.prog) (t := 51) (e' := AE) (ok' := (fun x : AO => PA x.Name ∧ PA x.Vm ∧ (NR .u8) x.Kind ∧ (NR .i64) x.Mode ∧ (NR .i64) x.Xa ∧ (NR .i64) x.XE ∧ PA x.Rz ∧ PA x.SK ∧ (NR .i64) x.SI ∧ (NR .i64) x.SE ∧ (fun x : BH => (NR .i64) x.Wo ∧ (NR .i64) x.Rv ∧ True) x.Time ∧ (W8 (fun x : BN => PA x.Key ∧ PA x.Value ∧ True)) x.Extra ∧ PA x.Data ∧ True)) (ts := [9, 9, 5, 3, 3, 3, 9, 9, 3, 3, 48, 49, 9]) (by kernel_rfl) (fun x : (List UInt8) × (List UInt8) × (Int) × (Int) × (Int) × (Int) × (List UInt8) × (List UInt8) × (Int) × (Int) × (BH) × (List BN) × (List UInt8) × Unit => (⟨x.1, x.2.1, x.2.2.1, x.2.2.2.1, x.2.2.2.2.1, x.2.2.2.2.2.1, x.2.2.2.2.2.2.1, x.2.2.2.2.2.2.2.1, x.2.2.2.2.2.2.2.2.1, x.2.2.2.2.2.2.2.2.2.1, x.2.2.2.2.2.2.2.2.2.2.1, x.2.2.2.2.2.2.2.2.2.2.2.1, x.2.2.2.2.2.2.2.2.2.2.2.2.1⟩ : AO)) (fun x => rfl) (fun x h => h) (CZ (PO (t := 9) (by kernel_rfl)) (CZ (PO (t := 9) (by kernel_rfl)) (CZ (OX (t := 5) (k := .u8) (by kernel_rfl)) (CZ (OX (t := 3) (k := .i64) (by kernel_rfl)) (CZ (OX (t := 3) (k := .i64) (by kernel_rfl)) (CZ (OX (t := 3) (k := .i64) (by kernel_rfl)) (CZ (PO (t := 9) (by kernel_rfl)) (CZ (PO (t := 9) (by kernel_rfl)) (CZ (OX (t := 3) (k := .i64) (by kernel_rfl)) (CZ (OX (t := 3) (k := .i64) (by kernel_rfl)) (CZ (VO (P := Tryd.prog) (t := 48) (e' := MJ) (ok' := (fun x : BH => (NR .i64) x.Wo ∧ (NR .i64) x.Rv ∧ True)) (ts := [3, 3]) (by kernel_rfl) (fun x : (Int) × (Int) × Unit => (⟨x.1, x.2.1⟩ : BH)) (fun x => rfl) (fun x h => h) (CZ (OX (t := 3) (k := .i64) (by kernel_rfl)) (CZ (OX (t := 3) (k := .i64) (by kernel_rfl)) (NN)))) (CZ (Wc (t := 49) (el := 143) L3 (by kernel_rfl) (by kernel_rfl) (by decide) (VO (P := Tryd.prog) (t := 143) (e' := EV) (ok' := (fun x : BN => PA x.Key ∧ PA x.Value ∧ True)) (ts := [9, 9]) (by kernel_rfl) (fun x : (List UInt8) × (List UInt8) × Unit => (⟨x.1, x.2.1⟩ : BN)) (fun x => rfl) (fun x h => h) (CZ (PO (t := 9) (by kernel_rfl)) (CZ (PO (t := 9) (by kernel_rfl)) (NN))))) (CZ (PO (t := 9) (by kernel_rfl)) (NN)))))))))))))))
theorem maxLen {W : World} (hs : W.ShapedOpen Tryd.prog) : ∃ n : Int, W.cell? ⟨2, 0, none⟩ = some (.int .i64 n) :=
 cell_of_shapedOpen_int (g := 2) (t := 3) (zero := #[.int .i64 0]) (k := .i64) hs (of_decide_eq_true (by kernel_rfl)) (by kernel_rfl) rfl (by kernel_rfl) (by kernel_rfl) (by kernel_rfl)
theorem Tz {W : World} (hL : laidMetH Tryd.prog Rows.forestTellsRow.laid W) (hs : W.ShapedOpen Tryd.prog) : BO cfg.CM W := by
 have l0 : laidMet Tryd.prog Rows.forestTellsRow.laid W := hL
 have l1 := M0 l0
 have l2 := M0 l1
 exact QA (maxLen hs) (PY W)
set_option maxRecDepth 100000 in
theorem Rx (H : Type) (enc : TypeId × Value → H) (W : World) (base : Nat) (args : Array Value) (ds gs : List (DataW H)) (before : List MemPlace)
  (hval : ∀ (j : Nat) t v, Tryd.f4.params[j]? = some t → args[j]? = some v → Value.okWide Tryd.prog W .any base t v)
  (hW : DataW.Whole enc Tryd.prog Tryd.f4.params.toList Rows.forestTellsSpec.vars false W args.toList ds gs before) (hL : laidMetH Tryd.prog Rows.forestTellsRow.laid W) (hs : W.ShapedOpen Tryd.prog) :
  Calls Tryd.prog 4 args W fun e W' => ∃ v, e = .returned v ∧ Rows.forestTellsSpec.post enc Tryd.prog Tryd.f4 false true false false W args v W' := by
 have hW' := hW
 obtain ⟨p, q, hA0, hV, rfl, hfz, hnd⟩ := hW
 have hA : DataW.TrodAll enc Tryd.prog W 0 (fun _ => true) true Tryd.f4.params.toList args.toList ds p := hA0
 rw [Tryd.params4] at hA
 obtain ⟨v0, vs0, d0, ds0, p0, q0, g0, rfl, _, ⟨fu0, t0⟩, r0⟩ := trodAll_cons hA
 obtain ⟨gE, rfl, _⟩ := trodAll_nil r0
 have hargs : args.toList = [v0] := by rw [g0, gE]
 obtain ⟨x0, c0, k0⟩ := XK.h fu0 _ d0 p0 t0
 have V0 := Ru (hval 0 22 v0 (by rw [Tryd.params4]; rfl) (by rw [← Array.getElem?_toList, hargs]; rfl)) c0 (show toArg Tryd.prog 22 ((eL AE) x0) = some (vs AE x0) from by kernel_rfl)
 have hm := L4 x0 k0
 obtain ⟨v, h', hr, ev, _⟩ := FO (g := ⟨0, []⟩) (h := ⟨0, .leaf⟩) (F := []) (av := [vs AE x0]) hm (hc := rfl) HH.start
 subst ev
 exact Rj (C := cfg) Vq (Tz hL hs) (by kernel_rfl) Tryd.func4 (by kernel_rfl) (c := Kk cfg.P 4) (by kernel_rfl) (by rw [Tryd.params4]; intro t ht; simp only [List.mem_cons, List.not_mem_nil, or_false] at ht; rcases ht with rfl <;> exact ⟨by kernel_rfl, of_decide_eq_true (by kernel_rfl)⟩) (tb := 4) (by kernel_rfl) (by kernel_rfl) rfl (by rfl) hW' (by rw [hargs]; exact .cons V0 (.nil _)) hr
noncomputable def J5 (os : Os) : World := { World.holding Tryd.prog os ⟨#[], #[], []⟩ with heap := (((World.holding Tryd.prog os ⟨#[], #[], []⟩).heap.modify 1 fun
      | .cells _ t frozen => .cells #[.int .u8 128, .int .u8 191, .int .u8 160, .int .u8 191, .int .u8 128, .int .u8 159, .int .u8 144, .int .u8 191, .int .u8 128, .int .u8 143, .int .u8 0, .int .u8 0, .int .u8 0, .int .u8 0, .int .u8 0, .int .u8 0, .int .u8 0, .int .u8 0, .int .u8 0, .int .u8 0, .int .u8 0, .int .u8 0, .int .u8 0, .int .u8 0, .int .u8 0, .int .u8 0, .int .u8 0, .int .u8 0, .int .u8 0, .int .u8 0, .int .u8 0, .int .u8 0] t frozen
      | o => o).modify 0 fun
      | .cells _ t frozen => .cells (Go.Pinned.utf8FirstZ.map fun n => Value.int .u8 (Int.ofNat n)).toArray t frozen
      | o => o) }
theorem SO (os : Os) : laidMet Tryd.prog Rows.forestTellsRow.laid ((J5 os).forCall (fun _ _ => 0) ⟨#[], #[.slice none 0 0], []⟩).memory :=
 laidMet_of_run' 8 (by kernel_rfl) (by kernel_rfl)
theorem reads (os : Os) {H : Type} (enc : TypeId × Value → H) : ∃ places, DataW.whole enc Tryd.prog ((J5 os).forCall (fun _ _ => 0) ⟨#[], #[.slice none 0 0], []⟩).memory Tryd.f4.params.toList Rows.forestTellsSpec.vars false (#[.slice none 0 0] : Array Value).toList 8 = some ([.nil], [], places) :=
 ⟨[], by kernel_rfl⟩
set_option maxRecDepth 100000 in
theorem lifted (os : Os) (started : os.Started) (H : Type) (enc : TypeId × Value → H) (F : Stop.Interp) :
  ReturnsInHanded {} Tryd.checked os 4 .any ((OpenSpec.ofChange Rows.forestTellsSpec).preRow enc Tryd.prog Tryd.f4 Rows.forestTellsRow.domain false Rows.forestTellsRow.laid) (((OpenSpec.ofChange Rows.forestTellsSpec).at F).post enc Tryd.prog Tryd.f4 false true false false) := by
 obtain ⟨places, hx⟩ := reads os enc
 refine returnsInHanded_of_row (C := Tryd.checked) (s := OpenSpec.ofChange Rows.forestTellsSpec) own started (by kernel_rfl) Tryd.func4
  (witness_row_at (enc := enc) (C := Tryd.checked) false (J5 os) #[.slice none 0 0] rfl (by kernel_rfl) (by kernel_rfl) (by kernel_rfl)
   (OpenSpec.preRow_of_cond 8 hx (by kernel_rfl) (fun k hk => by cases hk) (by kernel_rfl) (SO os))) ?_
 intro W base args ds gs before hval hW _ hcond _ hL hs _
 exact Rx H enc W base args ds gs before hval hW hL hs
set_option maxRecDepth 100000 in
theorem said : Rows.ForestTellsSaid :=
 OpenClaim.holds_of_cond 4 Tryd.f4 rfl rfl rfl rfl rfl rfl rfl ⟨rfl, rfl, rfl, rfl, rfl⟩ rfl rfl rfl rfl rfl (by kernel_rfl) Tryd.func4 (by kernel_rfl)
  (of_decide_eq_true (by kernel_rfl)) (by unfold Func.isWrapper; first | (rw [if_pos (by decide +kernel)]; kernel_rfl) | (rw [if_neg (by decide +kernel)]; exact ⟨rfl, rfl⟩))
  (fun os started H enc _ F => by rw [OpenClaim.pre_eq_preRow]; exact lifted os started H enc F)
theorem plain (f : FuncId) (fn : Func) (hf : Tryd.pinned.checked.prog.funcNamed "boulter/boulterlaw37.ForestTells" = some f) (Ig : Tryd.pinned.checked.prog.funcs[f]? = some fn) :
  false = Tryd.pinned.checked.prog.looks [] ∧ ∀ (j : Nat) t, fn.params[j]? = some t → Tryd.pinned.checked.prog.wantsStandIn t = false := by
 obtain rfl : f = 4 := Option.some.inj ((show Tryd.prog.funcNamed "boulter/boulterlaw37.ForestTells" = some 4 by kernel_rfl).symm.trans hf) |>.symm
 obtain rfl : fn = Tryd.f4 := (Option.some.inj (Tryd.func4.symm.trans Ig)).symm
 refine ⟨by kernel_rfl, fun j t ht => ?_⟩
 rw [Tryd.params4] at ht
 have hm := Array.mem_of_getElem? ht
 simp only [List.mem_toArray, List.mem_cons, List.not_mem_nil, or_false] at hm
 rcases hm with rfl
 ·exact (show Tryd.prog.wantsStandIn 22 = false by kernel_rfl)
theorem proved : Rows.ForestTellsCardSaid :=
 Claim7.holds_tied_plain_at .later [] _ _ _ _ said (fun _ h => by cases h) (by kernel_rfl) (fun _ h => by cases h) forestTells_row_tie rfl ⟨rfl, rfl⟩ (by kernel_rfl) rfl plain (by kernel_rfl)
#print axioms proved
end Go.Proofs.YtdbkpibbjnhmgaaDoor.forestTells
