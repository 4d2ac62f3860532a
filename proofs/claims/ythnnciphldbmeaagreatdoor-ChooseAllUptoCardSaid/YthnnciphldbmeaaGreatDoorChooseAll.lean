/-
  ChooseAll: for every input the law returns true, and each argument reads behind the call as it read before.
-/
import Derived.Test.YthnnciphldbmeaaGreatDoorRows
import Derived.Test.YthnnciphldbmeaaGreatDoorAvGlob
import Derived.WalkKit
import Derived.ProofKit
import Derived.OpenShut
import Derived.JoinedCond
import Derived.Shelf.Vars
import Derived.HandedShaped
import Derived.Test.YthnnciphldbmeaaGreatDoorAvUp
import Derived.Test.YthnnciphldbmeaaGreatDoorCards
import Derived.Test.YthnnciphldbmeaaGreatDoorTie
import Derived.Deep.DeepHandedRow
import Derived.Lib.LaidTab
namespace Go.Proofs.YthnnciphldbmeaaGreatDoor.chooseAll
open Go.ChangeShapes Go.WideShapes Go.ChangeAt Go.RowKit Go.Av Go.Av.L
set_option linter.unusedVariables false
set_option linter.unusedSimpArgs false
theorem own : ownKnob Tryz.prog.godebug = none := by kernel_rfl
theorem XY : Qc Tryz.prog 44 AD (fun x : AV => JU x.Name ∧ JU x.Bf ∧ (P6 .u8) x.Kind ∧ (P6 .i64) x.Mode ∧ (P6 .i64) x.Dm ∧ (P6 .i64) x.Eb ∧ JU x.CB ∧ JU x.Ca ∧ (P6 .i64) x.CY ∧ (P6 .i64) x.EX ∧ (fun x : Aw => (P6 .i64) x.DF ∧ (P6 .i64) x.Bp ∧ True) x.Time ∧ (UM (fun x : Am => JU x.Key ∧ JU x.Value ∧ True)) x.Extra ∧ JU x.Data ∧ True) := uR (P := Tryz.prog) (t := 44) (e' := AD) (ok' := (fun x : AV => JU x.Name ∧ JU x.Bf ∧ (P6 .u8) x.Kind ∧ (P6 .i64) x.Mode ∧ (P6 .i64) x.Dm ∧ (P6 .i64) x.Eb ∧ JU x.CB ∧ JU x.Ca ∧ (P6 .i64) x.CY ∧ (P6 .i64) x.EX ∧ (fun x : Aw => (P6 .i64) x.DF ∧ (P6 .i64) x.Bp ∧ True) x.Time ∧ (UM (fun x : Am => JU x.Key ∧ JU x.Value ∧ True)) x.Extra ∧ JU x.Data ∧ True)) (ts := [9, 9, 5, 3, 3, 3, 9, 9, 3, 3, 23, 42, 9]) (by kernel_rfl) (fun x : (List UInt8) × (List UInt8) × (Int) × (Int) × (Int) × (Int) × (List UInt8) × (List UInt8) × (Int) × (Int) × (Aw) × (List Am) × (List UInt8) × Unit => (⟨x.1, x.2.1, x.2.2.1, x.2.2.2.1, x.2.2.2.2.1, x.2.2.2.2.2.1, x.2.2.2.2.2.2.1, x.2.2.2.2.2.2.2.1, x.2.2.2.2.2.2.2.2.1, x.2.2.2.2.2.2.2.2.2.1, x.2.2.2.2.2.2.2.2.2.2.1, x.2.2.2.2.2.2.2.2.2.2.2.1, x.2.2.2.2.2.2.2.2.2.2.2.2.1⟩ : AV)) (fun x => rfl) (fun x h => h) (Ft (uS (t := 9) (by kernel_rfl)) (Ft (uS (t := 9) (by kernel_rfl)) (Ft (uI (t := 5) (k := .u8) (by kernel_rfl)) (Ft (uI (t := 3) (k := .i64) (by kernel_rfl)) (Ft (uI (t := 3) (k := .i64) (by kernel_rfl)) (Ft (uI (t := 3) (k := .i64) (by kernel_rfl)) (Ft (uS (t := 9) (by kernel_rfl)) (Ft (uS (t := 9) (by kernel_rfl)) (Ft (uI (t := 3) (k := .i64) (by kernel_rfl)) (Ft (uI (t := 3) (k := .i64) (by kernel_rfl)) (Ft (uR (P := Tryz.prog) (t := 23) (e' := Oq) (ok' := (fun x : Aw => (P6 .i64) x.DF ∧ (P6 .i64) x.Bp ∧ True)) (ts := [3, 3]) (by kernel_rfl) (fun x : (Int) × (Int) × Unit => (⟨x.1, x.2.1⟩ : Aw)) (fun x => rfl) (fun x h => h) (Ft (uI (t := 3) (k := .i64) (by kernel_rfl)) (Ft (uI (t := 3) (k := .i64) (by kernel_rfl)) (Ty)))) (Ft (uL (t := 42) (el := 90) Bt (by kernel_rfl) (by kernel_rfl) (by decide) (uR (P := Tryz.prog) (t := 90) (e' := Af) (ok' := (fun x : Am => JU x.Key ∧ JU x.Value ∧ True)) (ts := [9, 9]) (by kernel_rfl) (fun x : (List UInt8) × (List UInt8) × Unit => (⟨x.1, x.2.1⟩ : Am)) (fun x => rfl) (fun x h => h) (Ft (uS (t := 9) (by kernel_rfl)) (Ft (uS (t := 9) (by kernel_rfl)) (Ty))))) (Ft (uS (t := 9) (by kernel_rfl)) (Ty))))))))))))))
theorem Xj : Qc Tryz.prog 45 (eL eS) (UM JU) := uL (t := 45) (el := 9) Go.Av.encS (by kernel_rfl) (by kernel_rfl) (by decide) (uS (t := 9) (by kernel_rfl))
theorem maxLen {W : World} (hs : W.ShapedOpen Tryz.prog) : ∃ n : Int, W.cell? ⟨0, 0, none⟩ = some (.int .i64 n) :=
 cell_of_shapedOpen_int (g := 0) (t := 3) (zero := #[.int .i64 0]) (k := .i64) hs (of_decide_eq_true (by kernel_rfl)) (by kernel_rfl) rfl (by kernel_rfl) (by kernel_rfl) (by kernel_rfl)
theorem VD {W : World} (hL : laidMetH Tryz.prog Rows.chooseAllUptoRow.laid W) (hs : W.ShapedOpen Tryz.prog) : CU cfg.Dw W := by
 have l0 : laidMet Tryz.prog Rows.chooseAllUptoRow.laid W := hL
 have e0 := Io (P := Tryz.prog) (W := W) (g := 6) (by kernel_rfl) (Lib.tabIs_of_head (P := Tryz.prog) (g := 6) (name := "math/bits.deBruijn32tab") (k := .u8) (zs := [0, 1, 28, 2, 29, 14, 24, 3, 30, 22, 20, 15, 25, 17, 4, 8, 31, 27, 13, 23, 21, 19, 16, 7, 26, 12, 18, 6, 11, 5, 10, 9]) (t := 458) (e := 5) (n := 32) (by kernel_rfl) (by kernel_rfl) (by kernel_rfl) (by kernel_rfl) (by kernel_rfl) (by kernel_rfl) l0)
 have l1 := HL l0
 have e1 := Io (P := Tryz.prog) (W := W) (g := 7) (by kernel_rfl) (Lib.tabIs_of_head (P := Tryz.prog) (g := 7) (name := "math/bits.deBruijn64tab") (k := .u8) (zs := [0, 1, 56, 2, 57, 49, 28, 3, 61, 58, 42, 50, 38, 29, 17, 4, 62, 47, 59, 36, 45, 43, 51, 22, 53, 39, 33, 30, 24, 18, 12, 5, 63, 55, 48, 27, 60, 41, 37, 16, 46, 35, 44, 21, 52, 32, 23, 11, 54, 26, 40, 15, 34, 20, 31, 10, 25, 14, 19, 9, 13, 8, 7, 6]) (t := 459) (e := 5) (n := 64) (by kernel_rfl) (by kernel_rfl) (by kernel_rfl) (by kernel_rfl) (by kernel_rfl) (by kernel_rfl) l1)
 have l2 := HL l1
 have e2 := Io (P := Tryz.prog) (W := W) (g := 5) (by kernel_rfl) (Lib.tabIs_of_head (P := Tryz.prog) (g := 5) (name := "internal/strconv.uint64pow10") (k := .u64) (zs := [1, 10, 100, 1000, 10000, 100000, 1000000, 10000000, 100000000, 1000000000, 10000000000, 100000000000, 1000000000000, 10000000000000, 100000000000000, 1000000000000000, 10000000000000000, 100000000000000000, 1000000000000000000, 10000000000000000000]) (t := 456) (e := 260) (n := 20) (by kernel_rfl) (by kernel_rfl) (by kernel_rfl) (by kernel_rfl) (by kernel_rfl) (by kernel_rfl) l2)
 have l3 := HL l2
 have l4 := HL l3
 have l5 := HL l4
 have l6 := HL l5
 have l7 := HL l6
 exact Rf (maxLen hs) (Ki e2 (Ki e0 (Ki e1 (R7 W))))
set_option maxRecDepth 100000 in
theorem T4 (H : Type) (enc : TypeId × Value → H) (W : World) (base : Nat) (args : Array Value) (ds gs : List (DataW H)) (before : List MemPlace)
  (hval : ∀ (j : Nat) t v, Tryz.f4.params[j]? = some t → args[j]? = some v → Value.okWide Tryz.prog W .any base t v)
  (hW : DataW.Whole enc Tryz.prog Tryz.f4.params.toList Rows.chooseAllSpec.vars false W args.toList ds gs before) (hL : laidMetH Tryz.prog Rows.chooseAllUptoRow.laid W) (hs : W.ShapedOpen Tryz.prog) (hk : Rows.uptoSmall H (ds ++ gs) = true) :
  Calls Tryz.prog 4 args W fun e W' => ∃ v, e = .returned v ∧ Rows.chooseAllSpec.post enc Tryz.prog Tryz.f4 false true false false W args v W' := by
 have hW' := hW
 obtain ⟨p, q, hA0, hV, rfl, hfz, hnd⟩ := hW
 have hA : DataW.TrodAll enc Tryz.prog W 0 (fun _ => true) true Tryz.f4.params.toList args.toList ds p := hA0
 rw [Tryz.params4] at hA
 obtain ⟨v0, vs0, d0, ds0, p0, q0, g0, rfl, _, ⟨fu0, t0⟩, r0⟩ := trodAll_cons hA
 obtain ⟨v1, vs1, d1, ds1, p1, q1, g1, rfl, _, ⟨fu1, t1⟩, r1⟩ := trodAll_cons r0
 obtain ⟨gE, rfl, _⟩ := trodAll_nil r1
 have hargs : args.toList = [v0, v1] := by rw [g0, g1, gE]
 obtain ⟨x0, c0, k0⟩ := XY.h fu0 _ d0 p0 t0 (Bulk.RA hk (by simp))
 have V0 := Qx (hval 0 44 v0 (by rw [Tryz.params4]; rfl) (by rw [← Array.getElem?_toList, hargs]; rfl)) c0 (show toArg Tryz.prog 44 (AD x0) = some (.agg (AD x0)) from by kernel_rfl)
 obtain ⟨x1, c1, k1⟩ := Xj.h fu1 _ d1 p1 t1 (Bulk.RA hk (by simp))
 have V1 := Qx (hval 1 45 v1 (by rw [Tryz.params4]; rfl) (by rw [← Array.getElem?_toList, hargs]; rfl)) c1 (show toArg Tryz.prog 45 ((eL eS) x1) = some (vs eS x1) from by kernel_rfl)
 have hm := Pu x0 k0 x1 k1
 obtain ⟨v, h', hr, ev, _⟩ := Iu (g := ⟨0, []⟩) (h := ⟨0, .leaf⟩) (F := []) (av := [.agg (AD x0), vs eS x1]) hm (hc := rfl) HH.start
 subst ev
 exact TG (C := cfg) R1 (VD hL hs) (by kernel_rfl) Tryz.func4 (by kernel_rfl) (c := Le cfg.P 4) (by kernel_rfl) (by rw [Tryz.params4]; intro t ht; simp only [List.mem_cons, List.not_mem_nil, or_false] at ht; rcases ht with rfl | rfl <;> exact ⟨by kernel_rfl, of_decide_eq_true (by kernel_rfl)⟩) (tb := 4) (by kernel_rfl) (by kernel_rfl) rfl (by rfl) hW' (by rw [hargs]; exact .cons V0 (.cons V1 (.nil _))) hr
noncomputable def low : Nat := (World.holding Tryz.prog default ⟨#[], #[], []⟩).heap.size
noncomputable def Md (os : Os) : World := { World.holding Tryz.prog os ⟨#[.cells #[.string ⟨#[118, 97, 108, 117, 101, 32, 111, 117, 116, 32, 111, 102, 32, 114, 97, 110, 103, 101]⟩] 449, .cells #[.string ⟨#[105, 110, 118, 97, 108, 105, 100, 32, 115, 121, 110, 116, 97, 120]⟩] 449], #[], []⟩ with heap := ((((((((World.holding Tryz.prog os ⟨#[.cells #[.string ⟨#[118, 97, 108, 117, 101, 32, 111, 117, 116, 32, 111, 102, 32, 114, 97, 110, 103, 101]⟩] 449, .cells #[.string ⟨#[105, 110, 118, 97, 108, 105, 100, 32, 115, 121, 110, 116, 97, 120]⟩] 449], #[], []⟩).heap.modify 6 fun
      | .cells _ t frozen => .cells #[.int .u8 0, .int .u8 1, .int .u8 28, .int .u8 2, .int .u8 29, .int .u8 14, .int .u8 24, .int .u8 3, .int .u8 30, .int .u8 22, .int .u8 20, .int .u8 15, .int .u8 25, .int .u8 17, .int .u8 4, .int .u8 8, .int .u8 31, .int .u8 27, .int .u8 13, .int .u8 23, .int .u8 21, .int .u8 19, .int .u8 16, .int .u8 7, .int .u8 26, .int .u8 12, .int .u8 18, .int .u8 6, .int .u8 11, .int .u8 5, .int .u8 10, .int .u8 9] t frozen
      | o => o).modify 7 fun
      | .cells _ t frozen => .cells #[.int .u8 0, .int .u8 1, .int .u8 56, .int .u8 2, .int .u8 57, .int .u8 49, .int .u8 28, .int .u8 3, .int .u8 61, .int .u8 58, .int .u8 42, .int .u8 50, .int .u8 38, .int .u8 29, .int .u8 17, .int .u8 4, .int .u8 62, .int .u8 47, .int .u8 59, .int .u8 36, .int .u8 45, .int .u8 43, .int .u8 51, .int .u8 22, .int .u8 53, .int .u8 39, .int .u8 33, .int .u8 30, .int .u8 24, .int .u8 18, .int .u8 12, .int .u8 5, .int .u8 63, .int .u8 55, .int .u8 48, .int .u8 27, .int .u8 60, .int .u8 41, .int .u8 37, .int .u8 16, .int .u8 46, .int .u8 35, .int .u8 44, .int .u8 21, .int .u8 52, .int .u8 32, .int .u8 23, .int .u8 11, .int .u8 54, .int .u8 26, .int .u8 40, .int .u8 15, .int .u8 34, .int .u8 20, .int .u8 31, .int .u8 10, .int .u8 25, .int .u8 14, .int .u8 19, .int .u8 9, .int .u8 13, .int .u8 8, .int .u8 7, .int .u8 6] t frozen
      | o => o).modify 5 fun
      | .cells _ t frozen => .cells #[.int .u64 1, .int .u64 10, .int .u64 100, .int .u64 1000, .int .u64 10000, .int .u64 100000, .int .u64 1000000, .int .u64 10000000, .int .u64 100000000, .int .u64 1000000000, .int .u64 10000000000, .int .u64 100000000000, .int .u64 1000000000000, .int .u64 10000000000000, .int .u64 100000000000000, .int .u64 1000000000000000, .int .u64 10000000000000000, .int .u64 100000000000000000, .int .u64 1000000000000000000, .int .u64 10000000000000000000] t frozen
      | o => o).modify 2 fun
      | .cells _ t frozen => .cells #[.int .u8 128, .int .u8 191, .int .u8 160, .int .u8 191, .int .u8 128, .int .u8 159, .int .u8 144, .int .u8 191, .int .u8 128, .int .u8 143, .int .u8 0, .int .u8 0, .int .u8 0, .int .u8 0, .int .u8 0, .int .u8 0, .int .u8 0, .int .u8 0, .int .u8 0, .int .u8 0, .int .u8 0, .int .u8 0, .int .u8 0, .int .u8 0, .int .u8 0, .int .u8 0, .int .u8 0, .int .u8 0, .int .u8 0, .int .u8 0, .int .u8 0, .int .u8 0] t frozen
      | o => o).modify 4 fun
      | .cells _ t frozen => .cells #[.iface 447 (.pointer (some ⟨low + 0, 0, none⟩))] t frozen
      | o => o).modify 3 fun
      | .cells _ t frozen => .cells #[.iface 447 (.pointer (some ⟨low + 1, 0, none⟩))] t frozen
      | o => o).modify 1 fun
      | .cells _ t frozen => .cells (Go.Pinned.utf8FirstZ.map fun n => Value.int .u8 (Int.ofNat n)).toArray t frozen
      | o => o) }
theorem UE (os : Os) : laidMet Tryz.prog Rows.chooseAllUptoRow.laid ((Md os).forCall (fun _ _ => 0) ⟨#[], #[.agg #[.string ⟨#[]⟩, .string ⟨#[]⟩, .int .u8 0, .int .i64 0, .int .i64 0, .int .i64 0, .string ⟨#[]⟩, .string ⟨#[]⟩, .int .i64 0, .int .i64 0, .int .i64 0, .int .i64 0, .slice none 0 0, .string ⟨#[]⟩], .slice none 0 0], []⟩).memory :=
 laidMet_of_run' 8 (by kernel_rfl) (by kernel_rfl)
theorem reads (os : Os) {H : Type} (enc : TypeId × Value → H) : ∃ places, DataW.whole enc Tryz.prog ((Md os).forCall (fun _ _ => 0) ⟨#[], #[.agg #[.string ⟨#[]⟩, .string ⟨#[]⟩, .int .u8 0, .int .i64 0, .int .i64 0, .int .i64 0, .string ⟨#[]⟩, .string ⟨#[]⟩, .int .i64 0, .int .i64 0, .int .i64 0, .int .i64 0, .slice none 0 0, .string ⟨#[]⟩], .slice none 0 0], []⟩).memory Tryz.f4.params.toList Rows.chooseAllSpec.vars false (#[.agg #[.string ⟨#[]⟩, .string ⟨#[]⟩, .int .u8 0, .int .i64 0, .int .i64 0, .int .i64 0, .string ⟨#[]⟩, .string ⟨#[]⟩, .int .i64 0, .int .i64 0, .int .i64 0, .int .i64 0, .slice none 0 0, .string ⟨#[]⟩], .slice none 0 0] : Array Value).toList 8 = some ([.agg [.lit (.string []), .lit (.string []), .lit (.int .u8 0), .lit (.int .i64 0), .lit (.int .i64 0), .lit (.int .i64 0), .lit (.string []), .lit (.string []), .lit (.int .i64 0), .lit (.int .i64 0), .agg [.lit (.int .i64 0), .lit (.int .i64 0)], .nil, .lit (.string [])], .nil], [], places) :=
 ⟨[], by kernel_rfl⟩
set_option maxRecDepth 100000 in
theorem lifted (os : Os) (started : os.Started) (H : Type) (enc : TypeId × Value → H) (F : Stop.Interp) :
  ReturnsInHanded {} Tryz.checked os 4 .any ((Rows.OpenSpec.upto Rows.chooseAllSpec).preRow enc Tryz.prog Tryz.f4 Rows.chooseAllUptoRow.domain false Rows.chooseAllUptoRow.laid) (((Rows.OpenSpec.upto Rows.chooseAllSpec).at F).post enc Tryz.prog Tryz.f4 false true false false) := by
 obtain ⟨places, hx⟩ := reads os enc
 refine returnsInHanded_of_row (C := Tryz.checked) (s := Rows.OpenSpec.upto Rows.chooseAllSpec) own started (by kernel_rfl) Tryz.func4
  (witness_row_at (enc := enc) (C := Tryz.checked) false (Md os) #[.agg #[.string ⟨#[]⟩, .string ⟨#[]⟩, .int .u8 0, .int .i64 0, .int .i64 0, .int .i64 0, .string ⟨#[]⟩, .string ⟨#[]⟩, .int .i64 0, .int .i64 0, .int .i64 0, .int .i64 0, .slice none 0 0, .string ⟨#[]⟩], .slice none 0 0] rfl (by kernel_rfl) (by kernel_rfl) (by kernel_rfl)
   (OpenSpec.preRow_of_cond 8 hx (by kernel_rfl) (fun k hk => by cases hk; kernel_rfl) (by kernel_rfl) (UE os))) ?_
 intro W base args ds gs before hval hW _ hcond _ hL hs _
 exact T4 H enc W base args ds gs before hval hW hL hs (hcond _ rfl)
set_option maxRecDepth 100000 in
theorem X6 : laidOutB Tryz.pinned.checked.prog = true := by kernel_rfl
set_option maxRecDepth 100000 in
theorem Xw : mapsRowed Tryz.pinned.checked.prog = true := by kernel_rfl
set_option maxRecDepth 100000 in
theorem X3 : (Rows.chooseAllUptoRow.inPlace == Tryz.pinned.checked.prog.inPlace 4) = true := by kernel_rfl
set_option maxRecDepth 100000 in
theorem YD : (Rows.chooseAllUptoRow.unfollowed == Tryz.pinned.checked.prog.unfollowed 4) = true := by kernel_rfl
set_option maxRecDepth 100000 in
theorem X0 : (Rows.chooseAllUptoRow.recurses == Tryz.pinned.checked.prog.recurses 4) = true := by kernel_rfl
set_option maxRecDepth 100000 in
theorem YE : (Rows.chooseAllUptoRow.named == Tryz.pinned.checked.prog.varsNamed 4) = true := by kernel_rfl
set_option maxRecDepth 100000 in
theorem Xx : (Rows.chooseAllUptoRow.plainKeys == Tryz.pinned.checked.prog.plainKeys) = true := by kernel_rfl
set_option maxRecDepth 100000 in
theorem X5 : Tryz.pinned.checked.prog.stopsHeard = true := by kernel_rfl
set_option maxRecDepth 100000 in
theorem X9 : Tryz.pinned.checked.prog.mayEnter = true := by kernel_rfl
set_option maxRecDepth 100000 in
theorem X4 : (Rows.chooseAllUptoRow.lifted == Tryz.pinned.checked.prog.liftsFinal) = true := by kernel_rfl
set_option maxRecDepth 100000 in
theorem closed : joinedFacts Tryz.pinned.checked.prog 4 Tryz.f4 (Rows.OpenSpec.upto Rows.chooseAllSpec).bare Rows.chooseAllUptoRow = true := by
 unfold joinedFacts
 rw [X6, Xw, X3, YD, X0, YE, Xx, X5, X9, X4]
 kernel_rfl
set_option maxRecDepth 100000 in
theorem said : Rows.ChooseAllUptoSaid :=
 OpenClaim.holds_of_cond 4 Tryz.f4 rfl rfl rfl rfl rfl rfl rfl ⟨rfl, rfl, rfl, rfl, rfl⟩ rfl rfl rfl rfl rfl (by kernel_rfl) Tryz.func4 closed
  (of_decide_eq_true (by kernel_rfl)) (by unfold Func.isWrapper; first | (rw [if_pos (by decide +kernel)]; kernel_rfl) | (rw [if_neg (by decide +kernel)]; exact ⟨rfl, rfl⟩))
  (fun os started H enc _ F => by rw [OpenClaim.pre_eq_preRow]; exact lifted os started H enc F)
theorem plain (f : FuncId) (fn : Func) (hf : Tryz.pinned.checked.prog.funcNamed "boulter/boulterlaw33.ChooseAll" = some f) (hfn : Tryz.pinned.checked.prog.funcs[f]? = some fn) :
  true = Tryz.pinned.checked.prog.looks [] ∧ ∀ (j : Nat) t, fn.params[j]? = some t → Tryz.pinned.checked.prog.wantsStandIn t = false := by
 obtain rfl : f = 4 := Option.some.inj ((show Tryz.prog.funcNamed "boulter/boulterlaw33.ChooseAll" = some 4 by kernel_rfl).symm.trans hf) |>.symm
 obtain rfl : fn = Tryz.f4 := (Option.some.inj (Tryz.func4.symm.trans hfn)).symm
 refine ⟨by kernel_rfl, fun j t ht => ?_⟩
 rw [Tryz.params4] at ht
 have hm := Array.mem_of_getElem? ht
 simp only [List.mem_toArray, List.mem_cons, List.not_mem_nil, or_false] at hm
 rcases hm with rfl | rfl
 ·exact (show Tryz.prog.wantsStandIn 44 = false by kernel_rfl)
 ·exact (show Tryz.prog.wantsStandIn 45 = false by kernel_rfl)
theorem proved : Rows.ChooseAllUptoCardSaid :=
 Claim7.holds_tied_plain_at .later [] _ _ _ _ said (fun _ h => by cases h) (by kernel_rfl) (fun _ h => by cases h) chooseAllUpto_row_tie rfl ⟨rfl, rfl⟩ (by kernel_rfl) rfl plain (by kernel_rfl)
#print axioms proved
end Go.Proofs.YthnnciphldbmeaaGreatDoor.chooseAll
