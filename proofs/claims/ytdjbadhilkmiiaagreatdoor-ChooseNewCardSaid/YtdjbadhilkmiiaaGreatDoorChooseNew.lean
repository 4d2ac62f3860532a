/-
 A part.
-/
import Derived.Test.YtdjbadhilkmiiaaGreatDoorRows
import Derived.Test.YtdjbadhilkmiiaaGreatDoorNwL
import Derived.WalkKit
import Derived.ProofKit
import Derived.OpenShut
import Derived.JoinedCond
import Derived.Shelf.Vars
import Derived.HandedShaped
import Derived.Test.YtdjbadhilkmiiaaGreatDoorAvGlob
import Derived.Test.YtdjbadhilkmiiaaGreatDoorCards
import Derived.Test.YtdjbadhilkmiiaaGreatDoorTie
import Derived.Deep.DeepHandedRow
import Derived.Lib.LaidTab
namespace Go.Proofs.YtdjbadhilkmiiaaGreatDoor.chooseNew
open Go.ChangeShapes Go.WideShapes Go.ChangeAt Go.RowKit Go.Av Go.Av.L
set_option linter.unusedVariables false
set_option linter.unusedSimpArgs false
theorem own : ownKnob Tryz.prog.godebug = none := by kernel_rfl
theorem XS : Lm Tryz.prog 3 (eI .i64) (TV .i64) := QF (t := 3) (k := .i64) (by kernel_rfl)
theorem Xi : Lm Tryz.prog 3 (eI .i64) (TV .i64) := QF (t := 3) (k := .i64) (by kernel_rfl)
theorem Xg : Lm Tryz.prog 3 (eI .i64) (TV .i64) := QF (t := 3) (k := .i64) (by kernel_rfl)
theorem Xm : Lm Tryz.prog 3 (eI .i64) (TV .i64) := QF (t := 3) (k := .i64) (by kernel_rfl)
theorem Xr : Lm Tryz.prog 3 (eI .i64) (TV .i64) := QF (t := 3) (k := .i64) (by kernel_rfl)
theorem Xc : Lm Tryz.prog 3 (eI .i64) (TV .i64) := QF (t := 3) (k := .i64) (by kernel_rfl)
theorem XY : Lm Tryz.prog 23 GJ (fun x : Bb => (TV .i64) x.CX ∧ (TV .i64) x.BS ∧ True) := Xd (P := Tryz.prog) (t := 23) (e' := GJ) (ok' := (fun x : Bb => (TV .i64) x.CX ∧ (TV .i64) x.BS ∧ True)) (ts := [3, 3]) (by kernel_rfl) (fun x : (Int) × (Int) × Unit => (⟨x.1, x.2.1⟩ : Bb)) (fun x => rfl) (fun x h => h) (QP (QF (t := 3) (k := .i64) (by kernel_rfl)) (QP (QF (t := 3) (k := .i64) (by kernel_rfl)) (VG)))
theorem XR : Lm Tryz.prog 4 eB (fun _ => True) := Xk (t := 4) (by kernel_rfl)
theorem Xf : Lm Tryz.prog 24 (eI .u16) (TV .u16) := QF (t := 24) (k := .u16) (by kernel_rfl)
theorem XZ : Lm Tryz.prog 9 eS Xt := XW (t := 9) (by kernel_rfl)
theorem maxLen {W : World} (hs : W.ShapedOpen Tryz.prog) : ∃ n : Int, W.cell? ⟨0, 0, none⟩ = some (.int .i64 n) :=
 cell_of_shapedOpen_int (g := 0) (t := 3) (zero := #[.int .i64 0]) (k := .i64) hs (of_decide_eq_true (by kernel_rfl)) (by kernel_rfl) rfl (by kernel_rfl) (by kernel_rfl) (by kernel_rfl)
theorem Ur {W : World} (hL : laidMetH Tryz.prog Rows.chooseNewRow.laid W) (hs : W.ShapedOpen Tryz.prog) : Cn cfg.D9 W := by
 have l0 : laidMet Tryz.prog Rows.chooseNewRow.laid W := hL
 have e0 := IN (P := Tryz.prog) (W := W) (g := 6) (by kernel_rfl) (Lib.tabIs_of_head (P := Tryz.prog) (g := 6) (name := "math/bits.deBruijn32tab") (k := .u8) (zs := [0, 1, 28, 2, 29, 14, 24, 3, 30, 22, 20, 15, 25, 17, 4, 8, 31, 27, 13, 23, 21, 19, 16, 7, 26, 12, 18, 6, 11, 5, 10, 9]) (t := 412) (e := 5) (n := 32) (by kernel_rfl) (by kernel_rfl) (by kernel_rfl) (by kernel_rfl) (by kernel_rfl) (by kernel_rfl) l0)
 have l1 := HL l0
 have e1 := IN (P := Tryz.prog) (W := W) (g := 7) (by kernel_rfl) (Lib.tabIs_of_head (P := Tryz.prog) (g := 7) (name := "math/bits.deBruijn64tab") (k := .u8) (zs := [0, 1, 56, 2, 57, 49, 28, 3, 61, 58, 42, 50, 38, 29, 17, 4, 62, 47, 59, 36, 45, 43, 51, 22, 53, 39, 33, 30, 24, 18, 12, 5, 63, 55, 48, 27, 60, 41, 37, 16, 46, 35, 44, 21, 52, 32, 23, 11, 54, 26, 40, 15, 34, 20, 31, 10, 25, 14, 19, 9, 13, 8, 7, 6]) (t := 413) (e := 5) (n := 64) (by kernel_rfl) (by kernel_rfl) (by kernel_rfl) (by kernel_rfl) (by kernel_rfl) (by kernel_rfl) l1)
 have l2 := HL l1
 have e2 := IN (P := Tryz.prog) (W := W) (g := 5) (by kernel_rfl) (Lib.tabIs_of_head (P := Tryz.prog) (g := 5) (name := "internal/strconv.uint64pow10") (k := .u64) (zs := [1, 10, 100, 1000, 10000, 100000, 1000000, 10000000, 100000000, 1000000000, 10000000000, 100000000000, 1000000000000, 10000000000000, 100000000000000, 1000000000000000, 10000000000000000, 100000000000000000, 1000000000000000000, 10000000000000000000]) (t := 408) (e := 215) (n := 20) (by kernel_rfl) (by kernel_rfl) (by kernel_rfl) (by kernel_rfl) (by kernel_rfl) (by kernel_rfl) l2)
 have l3 := HL l2
 have l4 := HL l3
 have l5 := HL l4
 have l6 := HL l5
 have l7 := HL l6
 exact Rp (maxLen hs) (Kq e2 (Kq e0 (Kq e1 (Rh W))))
set_option maxRecDepth 100000 in
theorem Uc (H : Type) (enc : TypeId × Value → H) (W : World) (base : Nat) (args : Array Value) (ds gs : List (DataW H)) (before : List MemPlace)
  (hval : ∀ (j : Nat) t v, Tryz.f3.params[j]? = some t → args[j]? = some v → Value.okWide Tryz.prog W .any base t v)
  (hW : DataW.Whole enc Tryz.prog Tryz.f3.params.toList Rows.chooseNewSpec.vars false W args.toList ds gs before) (hL : laidMetH Tryz.prog Rows.chooseNewRow.laid W) (hs : W.ShapedOpen Tryz.prog) :
  Calls Tryz.prog 3 args W fun e W' => ∃ v, e = .returned v ∧ Rows.chooseNewSpec.post enc Tryz.prog Tryz.f3 false true false false W args v W' := by
 have hW' := hW
 obtain ⟨p, q, hA0, hV, rfl, hfz, hnd⟩ := hW
 have hA : DataW.TrodAll enc Tryz.prog W 0 (fun _ => true) true Tryz.f3.params.toList args.toList ds p := hA0
 rw [Tryz.params3] at hA
 obtain ⟨v0, vs0, d0, ds0, p0, q0, g0, rfl, _, ⟨fu0, t0⟩, r0⟩ := trodAll_cons hA
 obtain ⟨v1, vs1, d1, ds1, p1, q1, g1, rfl, _, ⟨fu1, t1⟩, r1⟩ := trodAll_cons r0
 obtain ⟨v2, vs2, d2, ds2, p2, q2, g2, rfl, _, ⟨fu2, t2⟩, r2⟩ := trodAll_cons r1
 obtain ⟨v3, vs3, d3, ds3, p3, q3, g3, rfl, _, ⟨fu3, t3⟩, r3⟩ := trodAll_cons r2
 obtain ⟨v4, vs4, d4, ds4, p4, q4, g4, rfl, _, ⟨fu4, t4⟩, r4⟩ := trodAll_cons r3
 obtain ⟨v5, vs5, d5, ds5, p5, q5, g5, rfl, _, ⟨fu5, t5⟩, r5⟩ := trodAll_cons r4
 obtain ⟨v6, vs6, d6, ds6, p6, q6, g6, rfl, _, ⟨fu6, t6⟩, r6⟩ := trodAll_cons r5
 obtain ⟨v7, vs7, d7, ds7, p7, q7, g7, rfl, _, ⟨fu7, t7⟩, r7⟩ := trodAll_cons r6
 obtain ⟨v8, vs8, d8, ds8, p8, q8, g8, rfl, _, ⟨fu8, t8⟩, r8⟩ := trodAll_cons r7
 obtain ⟨v9, vs9, d9, ds9, p9, q9, g9, rfl, _, ⟨fu9, t9⟩, r9⟩ := trodAll_cons r8
 obtain ⟨gE, rfl, _⟩ := trodAll_nil r9
 have hargs : args.toList = [v0, v1, v2, v3, v4, v5, v6, v7, v8, v9] := by rw [g0, g1, g2, g3, g4, g5, g6, g7, g8, g9, gE]
 obtain ⟨x0, c0, k0⟩ := XS.h fu0 _ d0 p0 t0
 have V0 := GG (hval 0 3 v0 (by rw [Tryz.params3]; rfl) (by rw [← Array.getElem?_toList, hargs]; rfl)) c0 (show toArg Tryz.prog 3 ((eI .i64) x0) = some (.int .i64 x0) from by kernel_rfl)
 obtain ⟨x1, c1, k1⟩ := Xi.h fu1 _ d1 p1 t1
 have V1 := GG (hval 1 3 v1 (by rw [Tryz.params3]; rfl) (by rw [← Array.getElem?_toList, hargs]; rfl)) c1 (show toArg Tryz.prog 3 ((eI .i64) x1) = some (.int .i64 x1) from by kernel_rfl)
 obtain ⟨x2, c2, k2⟩ := Xg.h fu2 _ d2 p2 t2
 have V2 := GG (hval 2 3 v2 (by rw [Tryz.params3]; rfl) (by rw [← Array.getElem?_toList, hargs]; rfl)) c2 (show toArg Tryz.prog 3 ((eI .i64) x2) = some (.int .i64 x2) from by kernel_rfl)
 obtain ⟨x3, c3, k3⟩ := Xm.h fu3 _ d3 p3 t3
 have V3 := GG (hval 3 3 v3 (by rw [Tryz.params3]; rfl) (by rw [← Array.getElem?_toList, hargs]; rfl)) c3 (show toArg Tryz.prog 3 ((eI .i64) x3) = some (.int .i64 x3) from by kernel_rfl)
 obtain ⟨x4, c4, k4⟩ := Xr.h fu4 _ d4 p4 t4
 have V4 := GG (hval 4 3 v4 (by rw [Tryz.params3]; rfl) (by rw [← Array.getElem?_toList, hargs]; rfl)) c4 (show toArg Tryz.prog 3 ((eI .i64) x4) = some (.int .i64 x4) from by kernel_rfl)
 obtain ⟨x5, c5, k5⟩ := Xc.h fu5 _ d5 p5 t5
 have V5 := GG (hval 5 3 v5 (by rw [Tryz.params3]; rfl) (by rw [← Array.getElem?_toList, hargs]; rfl)) c5 (show toArg Tryz.prog 3 ((eI .i64) x5) = some (.int .i64 x5) from by kernel_rfl)
 obtain ⟨x6, c6, k6⟩ := XY.h fu6 _ d6 p6 t6
 have V6 := GG (hval 6 23 v6 (by rw [Tryz.params3]; rfl) (by rw [← Array.getElem?_toList, hargs]; rfl)) c6 (show toArg Tryz.prog 23 (GJ x6) = some (.agg (GJ x6)) from by kernel_rfl)
 obtain ⟨x7, c7, k7⟩ := XR.h fu7 _ d7 p7 t7
 have V7 := GG (hval 7 4 v7 (by rw [Tryz.params3]; rfl) (by rw [← Array.getElem?_toList, hargs]; rfl)) c7 (show toArg Tryz.prog 4 (eB x7) = some (.bool x7) from by kernel_rfl)
 obtain ⟨x8, c8, k8⟩ := Xf.h fu8 _ d8 p8 t8
 have V8 := GG (hval 8 24 v8 (by rw [Tryz.params3]; rfl) (by rw [← Array.getElem?_toList, hargs]; rfl)) c8 (show toArg Tryz.prog 24 ((eI .u16) x8) = some (.int .u16 x8) from by kernel_rfl)
 obtain ⟨x9, c9, k9⟩ := XZ.h fu9 _ d9 p9 t9
 have V9 := GG (hval 9 9 v9 (by rw [Tryz.params3]; rfl) (by rw [← Array.getElem?_toList, hargs]; rfl)) c9 (show toArg Tryz.prog 9 (eS x9) = some (.str x9) from by kernel_rfl)
 have hm := P5 x0 k0 x1 k1 x2 k2 x3 k3 x4 k4 x5 k5 x6 k6 x7 k7 x8 k8 x9 k9
 obtain ⟨v, h', hr, ev, _⟩ := Ix (g := ⟨0, []⟩) (h := ⟨0, .leaf⟩) (F := []) (av := [.int .i64 x0, .int .i64 x1, .int .i64 x2, .int .i64 x3, .int .i64 x4, .int .i64 x5, .agg (GJ x6), .bool x7, .int .u16 x8, .str x9]) hm (hc := rfl) HH.start
 subst ev
 exact TR (C := cfg) SD (Ur hL hs) (by kernel_rfl) Tryz.func3 (by kernel_rfl) (c := LW cfg.P 3) (by kernel_rfl) (by rw [Tryz.params3]; intro t ht; simp only [List.mem_cons, List.not_mem_nil, or_false] at ht; rcases ht with rfl | rfl | rfl | rfl | rfl | rfl | rfl | rfl | rfl | rfl <;> exact ⟨by kernel_rfl, of_decide_eq_true (by kernel_rfl)⟩) (tb := 4) (by kernel_rfl) (by kernel_rfl) rfl (by rfl) hW' (by rw [hargs]; exact .cons V0 (.cons V1 (.cons V2 (.cons V3 (.cons V4 (.cons V5 (.cons V6 (.cons V7 (.cons V8 (.cons V9 (.nil _))))))))))) hr
noncomputable def low : Nat := (World.holding Tryz.prog default ⟨#[], #[], []⟩).heap.size
noncomputable def Ml (os : Os) : World := { World.holding Tryz.prog os ⟨#[.cells #[.string ⟨#[118, 97, 108, 117, 101, 32, 111, 117, 116, 32, 111, 102, 32, 114, 97, 110, 103, 101]⟩] 400, .cells #[.string ⟨#[105, 110, 118, 97, 108, 105, 100, 32, 115, 121, 110, 116, 97, 120]⟩] 400], #[], []⟩ with heap := ((((((((World.holding Tryz.prog os ⟨#[.cells #[.string ⟨#[118, 97, 108, 117, 101, 32, 111, 117, 116, 32, 111, 102, 32, 114, 97, 110, 103, 101]⟩] 400, .cells #[.string ⟨#[105, 110, 118, 97, 108, 105, 100, 32, 115, 121, 110, 116, 97, 120]⟩] 400], #[], []⟩).heap.modify 6 fun
      | .cells _ t frozen => .cells #[.int .u8 0, .int .u8 1, .int .u8 28, .int .u8 2, .int .u8 29, .int .u8 14, .int .u8 24, .int .u8 3, .int .u8 30, .int .u8 22, .int .u8 20, .int .u8 15, .int .u8 25, .int .u8 17, .int .u8 4, .int .u8 8, .int .u8 31, .int .u8 27, .int .u8 13, .int .u8 23, .int .u8 21, .int .u8 19, .int .u8 16, .int .u8 7, .int .u8 26, .int .u8 12, .int .u8 18, .int .u8 6, .int .u8 11, .int .u8 5, .int .u8 10, .int .u8 9] t frozen
      | o => o).modify 7 fun
      | .cells _ t frozen => .cells #[.int .u8 0, .int .u8 1, .int .u8 56, .int .u8 2, .int .u8 57, .int .u8 49, .int .u8 28, .int .u8 3, .int .u8 61, .int .u8 58, .int .u8 42, .int .u8 50, .int .u8 38, .int .u8 29, .int .u8 17, .int .u8 4, .int .u8 62, .int .u8 47, .int .u8 59, .int .u8 36, .int .u8 45, .int .u8 43, .int .u8 51, .int .u8 22, .int .u8 53, .int .u8 39, .int .u8 33, .int .u8 30, .int .u8 24, .int .u8 18, .int .u8 12, .int .u8 5, .int .u8 63, .int .u8 55, .int .u8 48, .int .u8 27, .int .u8 60, .int .u8 41, .int .u8 37, .int .u8 16, .int .u8 46, .int .u8 35, .int .u8 44, .int .u8 21, .int .u8 52, .int .u8 32, .int .u8 23, .int .u8 11, .int .u8 54, .int .u8 26, .int .u8 40, .int .u8 15, .int .u8 34, .int .u8 20, .int .u8 31, .int .u8 10, .int .u8 25, .int .u8 14, .int .u8 19, .int .u8 9, .int .u8 13, .int .u8 8, .int .u8 7, .int .u8 6] t frozen
      | o => o).modify 5 fun
      | .cells _ t frozen => .cells #[.int .u64 1, .int .u64 10, .int .u64 100, .int .u64 1000, .int .u64 10000, .int .u64 100000, .int .u64 1000000, .int .u64 10000000, .int .u64 100000000, .int .u64 1000000000, .int .u64 10000000000, .int .u64 100000000000, .int .u64 1000000000000, .int .u64 10000000000000, .int .u64 100000000000000, .int .u64 1000000000000000, .int .u64 10000000000000000, .int .u64 100000000000000000, .int .u64 1000000000000000000, .int .u64 10000000000000000000] t frozen
      | o => o).modify 2 fun
      | .cells _ t frozen => .cells #[.int .u8 128, .int .u8 191, .int .u8 160, .int .u8 191, .int .u8 128, .int .u8 159, .int .u8 144, .int .u8 191, .int .u8 128, .int .u8 143, .int .u8 0, .int .u8 0, .int .u8 0, .int .u8 0, .int .u8 0, .int .u8 0, .int .u8 0, .int .u8 0, .int .u8 0, .int .u8 0, .int .u8 0, .int .u8 0, .int .u8 0, .int .u8 0, .int .u8 0, .int .u8 0, .int .u8 0, .int .u8 0, .int .u8 0, .int .u8 0, .int .u8 0, .int .u8 0] t frozen
      | o => o).modify 4 fun
      | .cells _ t frozen => .cells #[.iface 398 (.pointer (some ⟨low + 0, 0, none⟩))] t frozen
      | o => o).modify 3 fun
      | .cells _ t frozen => .cells #[.iface 398 (.pointer (some ⟨low + 1, 0, none⟩))] t frozen
      | o => o).modify 1 fun
      | .cells _ t frozen => .cells (Go.Pinned.utf8FirstZ.map fun n => Value.int .u8 (Int.ofNat n)).toArray t frozen
      | o => o) }
theorem Tq (os : Os) : laidMet Tryz.prog Rows.chooseNewRow.laid ((Ml os).forCall (fun _ _ => 0) ⟨#[], #[.int .i64 0, .int .i64 0, .int .i64 0, .int .i64 0, .int .i64 0, .int .i64 0, .agg #[.int .i64 0, .int .i64 0], .bool false, .int .u16 0, .string ⟨#[]⟩], []⟩).memory :=
 laidMet_of_run' 8 (by kernel_rfl) (by kernel_rfl)
theorem reads (os : Os) {H : Type} (enc : TypeId × Value → H) : ∃ places, DataW.whole enc Tryz.prog ((Ml os).forCall (fun _ _ => 0) ⟨#[], #[.int .i64 0, .int .i64 0, .int .i64 0, .int .i64 0, .int .i64 0, .int .i64 0, .agg #[.int .i64 0, .int .i64 0], .bool false, .int .u16 0, .string ⟨#[]⟩], []⟩).memory Tryz.f3.params.toList Rows.chooseNewSpec.vars false (#[.int .i64 0, .int .i64 0, .int .i64 0, .int .i64 0, .int .i64 0, .int .i64 0, .agg #[.int .i64 0, .int .i64 0], .bool false, .int .u16 0, .string ⟨#[]⟩] : Array Value).toList 8 = some ([.lit (.int .i64 0), .lit (.int .i64 0), .lit (.int .i64 0), .lit (.int .i64 0), .lit (.int .i64 0), .lit (.int .i64 0), .agg [.lit (.int .i64 0), .lit (.int .i64 0)], .lit (.bool false), .lit (.int .u16 0), .lit (.string [])], [], places) :=
 ⟨[], by kernel_rfl⟩
set_option maxRecDepth 100000 in
theorem lifted (os : Os) (started : os.Started) (H : Type) (enc : TypeId × Value → H) (F : Stop.Interp) :
  ReturnsInHanded {} Tryz.checked os 3 .any ((OpenSpec.ofChange Rows.chooseNewSpec).preRow enc Tryz.prog Tryz.f3 Rows.chooseNewRow.domain false Rows.chooseNewRow.laid) (((OpenSpec.ofChange Rows.chooseNewSpec).at F).post enc Tryz.prog Tryz.f3 false true false false) := by
 obtain ⟨places, hx⟩ := reads os enc
 refine returnsInHanded_of_row (C := Tryz.checked) (s := OpenSpec.ofChange Rows.chooseNewSpec) own started (by kernel_rfl) Tryz.func3
  (witness_row_at (enc := enc) (C := Tryz.checked) false (Ml os) #[.int .i64 0, .int .i64 0, .int .i64 0, .int .i64 0, .int .i64 0, .int .i64 0, .agg #[.int .i64 0, .int .i64 0], .bool false, .int .u16 0, .string ⟨#[]⟩] rfl (by kernel_rfl) (by kernel_rfl) (by kernel_rfl)
   (OpenSpec.preRow_of_cond 8 hx (by kernel_rfl) (fun k hk => by cases hk) (by kernel_rfl) (Tq os))) ?_
 intro W base args ds gs before hval hW _ hcond _ hL hs _
 exact Uc H enc W base args ds gs before hval hW hL hs
set_option maxRecDepth 100000 in
theorem X6 : laidOutB Tryz.pinned.checked.prog = true := by kernel_rfl
set_option maxRecDepth 100000 in
theorem X8 : mapsRowed Tryz.pinned.checked.prog = true := by kernel_rfl
set_option maxRecDepth 100000 in
theorem YL : (Rows.chooseNewRow.inPlace == Tryz.pinned.checked.prog.inPlace 3) = true := by kernel_rfl
set_option maxRecDepth 100000 in
theorem YD : (Rows.chooseNewRow.unfollowed == Tryz.pinned.checked.prog.unfollowed 3) = true := by kernel_rfl
set_option maxRecDepth 100000 in
theorem YB : (Rows.chooseNewRow.recurses == Tryz.pinned.checked.prog.recurses 3) = true := by kernel_rfl
set_option maxRecDepth 100000 in
theorem X9 : (Rows.chooseNewRow.named == Tryz.pinned.checked.prog.varsNamed 3) = true := by kernel_rfl
set_option maxRecDepth 100000 in
theorem X2 : (Rows.chooseNewRow.plainKeys == Tryz.pinned.checked.prog.plainKeys) = true := by kernel_rfl
set_option maxRecDepth 100000 in
theorem YJ : Tryz.pinned.checked.prog.stopsHeard = true := by kernel_rfl
set_option maxRecDepth 100000 in
theorem YC : Tryz.pinned.checked.prog.mayEnter = true := by kernel_rfl
set_option maxRecDepth 100000 in
theorem YK : (Rows.chooseNewRow.lifted == Tryz.pinned.checked.prog.liftsFinal) = true := by kernel_rfl
set_option maxRecDepth 100000 in
theorem closed : joinedFacts Tryz.pinned.checked.prog 3 Tryz.f3 (OpenSpec.ofChange Rows.chooseNewSpec).bare Rows.chooseNewRow = true := by
 unfold joinedFacts
 rw [X6, X8, YL, YD, YB, X9, X2, YJ, YC, YK]
 kernel_rfl
set_option maxRecDepth 100000 in
theorem said : Rows.ChooseNewSaid :=
 OpenClaim.holds_of_cond 3 Tryz.f3 rfl rfl rfl rfl rfl rfl rfl ⟨rfl, rfl, rfl, rfl, rfl⟩ rfl rfl rfl rfl rfl (by kernel_rfl) Tryz.func3 closed
  (of_decide_eq_true (by kernel_rfl)) (by unfold Func.isWrapper; first | (rw [if_pos (by decide +kernel)]; kernel_rfl) | (rw [if_neg (by decide +kernel)]; exact ⟨rfl, rfl⟩))
  (fun os started H enc _ F => by rw [OpenClaim.pre_eq_preRow]; exact lifted os started H enc F)
theorem plain (f : FuncId) (fn : Func) (hf : Tryz.pinned.checked.prog.funcNamed "boulter/boulterlaw33.ChooseNew" = some f) (hfn : Tryz.pinned.checked.prog.funcs[f]? = some fn) :
  true = Tryz.pinned.checked.prog.looks [] ∧ ∀ (j : Nat) t, fn.params[j]? = some t → Tryz.pinned.checked.prog.wantsStandIn t = false := by
 obtain rfl : f = 3 := Option.some.inj ((show Tryz.prog.funcNamed "boulter/boulterlaw33.ChooseNew" = some 3 by kernel_rfl).symm.trans hf) |>.symm
 obtain rfl : fn = Tryz.f3 := (Option.some.inj (Tryz.func3.symm.trans hfn)).symm
 refine ⟨by kernel_rfl, fun j t ht => ?_⟩
 rw [Tryz.params3] at ht
 have hm := Array.mem_of_getElem? ht
 simp only [List.mem_toArray, List.mem_cons, List.not_mem_nil, or_false] at hm
 have hm : t = 3 ∨ t = 23 ∨ t = 4 ∨ t = 24 ∨ t = 9 := by rcases hm with rfl | rfl | rfl | rfl | rfl | rfl | rfl | rfl | rfl | rfl <;> simp
 rcases hm with rfl | rfl | rfl | rfl | rfl
 ·exact (show Tryz.prog.wantsStandIn 3 = false by kernel_rfl)
 ·exact (show Tryz.prog.wantsStandIn 23 = false by kernel_rfl)
 ·exact (show Tryz.prog.wantsStandIn 4 = false by kernel_rfl)
 ·exact (show Tryz.prog.wantsStandIn 24 = false by kernel_rfl)
 ·exact (show Tryz.prog.wantsStandIn 9 = false by kernel_rfl)
theorem proved : Rows.ChooseNewCardSaid :=
 Claim7.holds_tied_plain_at .later [] _ _ _ _ said (fun _ h => by cases h) (by kernel_rfl) (fun _ h => by cases h) chooseNew_row_tie rfl ⟨rfl, rfl⟩ (by kernel_rfl) rfl plain (by kernel_rfl)
#print axioms proved
end Go.Proofs.YtdjbadhilkmiiaaGreatDoor.chooseNew
