/-
 A part.
-/
import Derived.Test.YtlljeoogceblmaaGreatDoorRows
import Derived.Test.YtlljeoogceblmaaGreatDoorAvGlob
import Derived.WalkKit
import Derived.ProofKit
import Derived.OpenShut
import Derived.JoinedCond
import Derived.Shelf.Vars
import Derived.HandedShaped
import Derived.Test.YtlljeoogceblmaaGreatDoorCards
import Derived.Test.YtlljeoogceblmaaGreatDoorTie
import Derived.Deep.DeepHandedRow
import Derived.Lib.LaidTab
namespace Go.Proofs.YtlljeoogceblmaaGreatDoor.writerHeads
open Go.ChangeShapes Go.WideShapes Go.ChangeAt Go.RowKit Go.Av Go.Av.L
set_option linter.unusedVariables false
set_option linter.unusedSimpArgs false
theorem own : ownKnob Tryz.prog.godebug = none := by kernel_rfl
theorem aW : Ri Tryz.prog 26 AE (fun x : AR => RO x.Name ∧ RO x.Az ∧ (Pp .u8) x.Kind ∧ (Pp .i64) x.Mode ∧ (Pp .i64) x.Br ∧ (Pp .i64) x.CH ∧ RO x.Ah ∧ RO x.Aj ∧ (Pp .i64) x.An ∧ (Pp .i64) x.A2 ∧ (fun x : BZ => (Pp .i64) x.Cn ∧ (Pp .i64) x.BV ∧ True) x.Time ∧ (al (fun x : AA => RO x.Key ∧ RO x.Value ∧ True)) x.Extra ∧ RO x.Data ∧ True) := Y7 (P := Tryz.prog) (t := 26) (e' := AE) (ok' := (fun x : AR => RO x.Name ∧ RO x.Az ∧ (Pp .u8) x.Kind ∧ (Pp .i64) x.Mode ∧ (Pp .i64) x.Br ∧ (Pp .i64) x.CH ∧ RO x.Ah ∧ RO x.Aj ∧ (Pp .i64) x.An ∧ (Pp .i64) x.A2 ∧ (fun x : BZ => (Pp .i64) x.Cn ∧ (Pp .i64) x.BV ∧ True) x.Time ∧ (al (fun x : AA => RO x.Key ∧ RO x.Value ∧ True)) x.Extra ∧ RO x.Data ∧ True)) (ts := [9, 9, 5, 3, 3, 3, 9, 9, 3, 3, 23, 24, 9]) (by kernel_rfl) (fun x : (List UInt8) × (List UInt8) × (Int) × (Int) × (Int) × (Int) × (List UInt8) × (List UInt8) × (Int) × (Int) × (BZ) × (List AA) × (List UInt8) × Unit => (⟨x.1, x.2.1, x.2.2.1, x.2.2.2.1, x.2.2.2.2.1, x.2.2.2.2.2.1, x.2.2.2.2.2.2.1, x.2.2.2.2.2.2.2.1, x.2.2.2.2.2.2.2.2.1, x.2.2.2.2.2.2.2.2.2.1, x.2.2.2.2.2.2.2.2.2.2.1, x.2.2.2.2.2.2.2.2.2.2.2.1, x.2.2.2.2.2.2.2.2.2.2.2.2.1⟩ : AR)) (fun x => rfl) (fun x h => h) (DL (TE (t := 9) (by kernel_rfl)) (DL (TE (t := 9) (by kernel_rfl)) (DL (QS (t := 5) (k := .u8) (by kernel_rfl)) (DL (QS (t := 3) (k := .i64) (by kernel_rfl)) (DL (QS (t := 3) (k := .i64) (by kernel_rfl)) (DL (QS (t := 3) (k := .i64) (by kernel_rfl)) (DL (TE (t := 9) (by kernel_rfl)) (DL (TE (t := 9) (by kernel_rfl)) (DL (QS (t := 3) (k := .i64) (by kernel_rfl)) (DL (QS (t := 3) (k := .i64) (by kernel_rfl)) (DL (Y7 (P := Tryz.prog) (t := 23) (e' := O9) (ok' := (fun x : BZ => (Pp .i64) x.Cn ∧ (Pp .i64) x.BV ∧ True)) (ts := [3, 3]) (by kernel_rfl) (fun x : (Int) × (Int) × Unit => (⟨x.1, x.2.1⟩ : BZ)) (fun x => rfl) (fun x h => h) (DL (QS (t := 3) (k := .i64) (by kernel_rfl)) (DL (QS (t := 3) (k := .i64) (by kernel_rfl)) (Qd)))) (DL (aV (t := 24) (el := 117) AS (by kernel_rfl) (by kernel_rfl) (by decide) (Y7 (P := Tryz.prog) (t := 117) (e' := AJ) (ok' := (fun x : AA => RO x.Key ∧ RO x.Value ∧ True)) (ts := [9, 9]) (by kernel_rfl) (fun x : (List UInt8) × (List UInt8) × Unit => (⟨x.1, x.2.1⟩ : AA)) (fun x => rfl) (fun x h => h) (DL (TE (t := 9) (by kernel_rfl)) (DL (TE (t := 9) (by kernel_rfl)) (Qd))))) (DL (TE (t := 9) (by kernel_rfl)) (Qd))))))))))))))
theorem aS : Ri Tryz.prog 3 (eI .i64) (Pp .i64) := QS (t := 3) (k := .i64) (by kernel_rfl)
theorem maxLen {W : World} (hs : W.ShapedOpen Tryz.prog) : ∃ n : Int, W.cell? ⟨0, 0, none⟩ = some (.int .i64 n) :=
 cell_of_shapedOpen_int (g := 0) (t := 3) (zero := #[.int .i64 0]) (k := .i64) hs (of_decide_eq_true (by kernel_rfl)) (by kernel_rfl) rfl (by kernel_rfl) (by kernel_rfl) (by kernel_rfl)
theorem X2 {W : World} (hL : laidMetH Tryz.prog Rows.writerHeadsRow.laid W) (hs : W.ShapedOpen Tryz.prog) : BY cfg.Cd W := by
 have l0 : laidMet Tryz.prog Rows.writerHeadsRow.laid W := hL
 have e0 := Hd (P := Tryz.prog) (W := W) (g := 2) (by kernel_rfl) (Lib.tabIs_of_head (P := Tryz.prog) (g := 2) (name := "math/bits.deBruijn32tab") (k := .u8) (zs := [0, 1, 28, 2, 29, 14, 24, 3, 30, 22, 20, 15, 25, 17, 4, 8, 31, 27, 13, 23, 21, 19, 16, 7, 26, 12, 18, 6, 11, 5, 10, 9]) (t := 307) (e := 5) (n := 32) (by kernel_rfl) (by kernel_rfl) (by kernel_rfl) (by kernel_rfl) (by kernel_rfl) (by kernel_rfl) l0)
 have l1 := I0 l0
 have e1 := Hd (P := Tryz.prog) (W := W) (g := 3) (by kernel_rfl) (Lib.tabIs_of_head (P := Tryz.prog) (g := 3) (name := "math/bits.deBruijn64tab") (k := .u8) (zs := [0, 1, 56, 2, 57, 49, 28, 3, 61, 58, 42, 50, 38, 29, 17, 4, 62, 47, 59, 36, 45, 43, 51, 22, 53, 39, 33, 30, 24, 18, 12, 5, 63, 55, 48, 27, 60, 41, 37, 16, 46, 35, 44, 21, 52, 32, 23, 11, 54, 26, 40, 15, 34, 20, 31, 10, 25, 14, 19, 9, 13, 8, 7, 6]) (t := 308) (e := 5) (n := 64) (by kernel_rfl) (by kernel_rfl) (by kernel_rfl) (by kernel_rfl) (by kernel_rfl) (by kernel_rfl) l1)
 have l2 := I0 l1
 have e2 := Hd (P := Tryz.prog) (W := W) (g := 1) (by kernel_rfl) (Lib.tabIs_of_head (P := Tryz.prog) (g := 1) (name := "internal/strconv.uint64pow10") (k := .u64) (zs := [1, 10, 100, 1000, 10000, 100000, 1000000, 10000000, 100000000, 1000000000, 10000000000, 100000000000, 1000000000000, 10000000000000, 100000000000000, 1000000000000000, 10000000000000000, 100000000000000000, 1000000000000000000, 10000000000000000000]) (t := 299) (e := 245) (n := 20) (by kernel_rfl) (by kernel_rfl) (by kernel_rfl) (by kernel_rfl) (by kernel_rfl) (by kernel_rfl) l2)
 have l3 := I0 l2
 have l4 := I0 l3
 have l5 := I0 l4
 exact TD (maxLen hs) (KR e2 (KR e0 (KR e1 (SV W))))
set_option maxRecDepth 100000 in
theorem VE (H : Type) (enc : TypeId × Value → H) (W : World) (base : Nat) (args : Array Value) (ds gs : List (DataW H)) (before : List MemPlace)
  (hval : ∀ (j : Nat) t v, Tryz.f3.params[j]? = some t → args[j]? = some v → Value.okWide Tryz.prog W .any base t v)
  (hW : DataW.Whole enc Tryz.prog Tryz.f3.params.toList Rows.writerHeadsSpec.vars false W args.toList ds gs before) (hL : laidMetH Tryz.prog Rows.writerHeadsRow.laid W) (hs : W.ShapedOpen Tryz.prog) :
  Calls Tryz.prog 3 args W fun e W' => ∃ v, e = .returned v ∧ Rows.writerHeadsSpec.post enc Tryz.prog Tryz.f3 false true false false W args v W' := by
 have hW' := hW
 obtain ⟨p, q, hA0, hV, rfl, hfz, hnd⟩ := hW
 have hA : DataW.TrodAll enc Tryz.prog W 0 (fun _ => true) true Tryz.f3.params.toList args.toList ds p := hA0
 rw [Tryz.params3] at hA
 obtain ⟨v0, vs0, d0, ds0, p0, q0, g0, rfl, _, ⟨fu0, t0⟩, r0⟩ := trodAll_cons hA
 obtain ⟨v1, vs1, d1, ds1, p1, q1, g1, rfl, _, ⟨fu1, t1⟩, r1⟩ := trodAll_cons r0
 obtain ⟨gE, rfl, _⟩ := trodAll_nil r1
 have hargs : args.toList = [v0, v1] := by rw [g0, g1, gE]
 obtain ⟨x0, c0, k0⟩ := aW.h fu0 _ d0 p0 t0
 have V0 := Rt (hval 0 26 v0 (by rw [Tryz.params3]; rfl) (by rw [← Array.getElem?_toList, hargs]; rfl)) c0 (show toArg Tryz.prog 26 (AE x0) = some (.agg (AE x0)) from by kernel_rfl)
 obtain ⟨x1, c1, k1⟩ := aS.h fu1 _ d1 p1 t1
 have V1 := Rt (hval 1 3 v1 (by rw [Tryz.params3]; rfl) (by rw [← Array.getElem?_toList, hargs]; rfl)) c1 (show toArg Tryz.prog 3 ((eI .i64) x1) = some (.int .i64 x1) from by kernel_rfl)
 have hm := Oo x0 k0 x1 k1
 obtain ⟨v, h', hr, ev, _⟩ := HU (g := ⟨0, []⟩) (h := ⟨0, .leaf⟩) (F := []) (av := [.agg (AE x0), .int .i64 x1]) hm (hc := rfl) HH.start
 subst ev
 exact UU (C := cfg) ZG (X2 hL hs) (by kernel_rfl) Tryz.func3 (by kernel_rfl) (c := GF cfg.P 3) (by kernel_rfl) (by rw [Tryz.params3]; intro t ht; simp only [List.mem_cons, List.not_mem_nil, or_false] at ht; rcases ht with rfl | rfl <;> exact ⟨by kernel_rfl, of_decide_eq_true (by kernel_rfl)⟩) (tb := 4) (by kernel_rfl) (by kernel_rfl) rfl (by rfl) hW' (by rw [hargs]; exact .cons V0 (.cons V1 (.nil _))) hr
noncomputable def Ml (os : Os) : World := { World.holding Tryz.prog os ⟨#[], #[], []⟩ with heap := ((((((World.holding Tryz.prog os ⟨#[], #[], []⟩).heap.modify 2 fun
      | .cells _ t frozen => .cells #[.int .u8 0, .int .u8 1, .int .u8 28, .int .u8 2, .int .u8 29, .int .u8 14, .int .u8 24, .int .u8 3, .int .u8 30, .int .u8 22, .int .u8 20, .int .u8 15, .int .u8 25, .int .u8 17, .int .u8 4, .int .u8 8, .int .u8 31, .int .u8 27, .int .u8 13, .int .u8 23, .int .u8 21, .int .u8 19, .int .u8 16, .int .u8 7, .int .u8 26, .int .u8 12, .int .u8 18, .int .u8 6, .int .u8 11, .int .u8 5, .int .u8 10, .int .u8 9] t frozen
      | o => o).modify 3 fun
      | .cells _ t frozen => .cells #[.int .u8 0, .int .u8 1, .int .u8 56, .int .u8 2, .int .u8 57, .int .u8 49, .int .u8 28, .int .u8 3, .int .u8 61, .int .u8 58, .int .u8 42, .int .u8 50, .int .u8 38, .int .u8 29, .int .u8 17, .int .u8 4, .int .u8 62, .int .u8 47, .int .u8 59, .int .u8 36, .int .u8 45, .int .u8 43, .int .u8 51, .int .u8 22, .int .u8 53, .int .u8 39, .int .u8 33, .int .u8 30, .int .u8 24, .int .u8 18, .int .u8 12, .int .u8 5, .int .u8 63, .int .u8 55, .int .u8 48, .int .u8 27, .int .u8 60, .int .u8 41, .int .u8 37, .int .u8 16, .int .u8 46, .int .u8 35, .int .u8 44, .int .u8 21, .int .u8 52, .int .u8 32, .int .u8 23, .int .u8 11, .int .u8 54, .int .u8 26, .int .u8 40, .int .u8 15, .int .u8 34, .int .u8 20, .int .u8 31, .int .u8 10, .int .u8 25, .int .u8 14, .int .u8 19, .int .u8 9, .int .u8 13, .int .u8 8, .int .u8 7, .int .u8 6] t frozen
      | o => o).modify 1 fun
      | .cells _ t frozen => .cells #[.int .u64 1, .int .u64 10, .int .u64 100, .int .u64 1000, .int .u64 10000, .int .u64 100000, .int .u64 1000000, .int .u64 10000000, .int .u64 100000000, .int .u64 1000000000, .int .u64 10000000000, .int .u64 100000000000, .int .u64 1000000000000, .int .u64 10000000000000, .int .u64 100000000000000, .int .u64 1000000000000000, .int .u64 10000000000000000, .int .u64 100000000000000000, .int .u64 1000000000000000000, .int .u64 10000000000000000000] t frozen
      | o => o).modify 5 fun
      | .cells _ t frozen => .cells #[.int .u8 128, .int .u8 191, .int .u8 160, .int .u8 191, .int .u8 128, .int .u8 159, .int .u8 144, .int .u8 191, .int .u8 128, .int .u8 143, .int .u8 0, .int .u8 0, .int .u8 0, .int .u8 0, .int .u8 0, .int .u8 0, .int .u8 0, .int .u8 0, .int .u8 0, .int .u8 0, .int .u8 0, .int .u8 0, .int .u8 0, .int .u8 0, .int .u8 0, .int .u8 0, .int .u8 0, .int .u8 0, .int .u8 0, .int .u8 0, .int .u8 0, .int .u8 0] t frozen
      | o => o).modify 4 fun
      | .cells _ t frozen => .cells (Go.Pinned.utf8FirstZ.map fun n => Value.int .u8 (Int.ofNat n)).toArray t frozen
      | o => o) }
theorem We (os : Os) : laidMet Tryz.prog Rows.writerHeadsRow.laid ((Ml os).forCall (fun _ _ => 0) ⟨#[], #[.agg #[.string ⟨#[]⟩, .string ⟨#[]⟩, .int .u8 0, .int .i64 0, .int .i64 0, .int .i64 0, .string ⟨#[]⟩, .string ⟨#[]⟩, .int .i64 0, .int .i64 0, .int .i64 0, .int .i64 0, .slice none 0 0, .string ⟨#[]⟩], .int .i64 0], []⟩).memory :=
 laidMet_of_run' 8 (by kernel_rfl) (by kernel_rfl)
theorem reads (os : Os) {H : Type} (enc : TypeId × Value → H) : ∃ places, DataW.whole enc Tryz.prog ((Ml os).forCall (fun _ _ => 0) ⟨#[], #[.agg #[.string ⟨#[]⟩, .string ⟨#[]⟩, .int .u8 0, .int .i64 0, .int .i64 0, .int .i64 0, .string ⟨#[]⟩, .string ⟨#[]⟩, .int .i64 0, .int .i64 0, .int .i64 0, .int .i64 0, .slice none 0 0, .string ⟨#[]⟩], .int .i64 0], []⟩).memory Tryz.f3.params.toList Rows.writerHeadsSpec.vars false (#[.agg #[.string ⟨#[]⟩, .string ⟨#[]⟩, .int .u8 0, .int .i64 0, .int .i64 0, .int .i64 0, .string ⟨#[]⟩, .string ⟨#[]⟩, .int .i64 0, .int .i64 0, .int .i64 0, .int .i64 0, .slice none 0 0, .string ⟨#[]⟩], .int .i64 0] : Array Value).toList 8 = some ([.agg [.lit (.string []), .lit (.string []), .lit (.int .u8 0), .lit (.int .i64 0), .lit (.int .i64 0), .lit (.int .i64 0), .lit (.string []), .lit (.string []), .lit (.int .i64 0), .lit (.int .i64 0), .agg [.lit (.int .i64 0), .lit (.int .i64 0)], .nil, .lit (.string [])], .lit (.int .i64 0)], [], places) :=
 ⟨[], by kernel_rfl⟩
set_option maxRecDepth 100000 in
theorem lifted (os : Os) (started : os.Started) (H : Type) (enc : TypeId × Value → H) (F : Stop.Interp) :
  ReturnsInHanded {} Tryz.checked os 3 .any ((OpenSpec.ofChange Rows.writerHeadsSpec).preRow enc Tryz.prog Tryz.f3 Rows.writerHeadsRow.domain false Rows.writerHeadsRow.laid) (((OpenSpec.ofChange Rows.writerHeadsSpec).at F).post enc Tryz.prog Tryz.f3 false true false false) := by
 obtain ⟨places, hx⟩ := reads os enc
 refine returnsInHanded_of_row (C := Tryz.checked) (s := OpenSpec.ofChange Rows.writerHeadsSpec) own started (by kernel_rfl) Tryz.func3
  (witness_row_at (enc := enc) (C := Tryz.checked) false (Ml os) #[.agg #[.string ⟨#[]⟩, .string ⟨#[]⟩, .int .u8 0, .int .i64 0, .int .i64 0, .int .i64 0, .string ⟨#[]⟩, .string ⟨#[]⟩, .int .i64 0, .int .i64 0, .int .i64 0, .int .i64 0, .slice none 0 0, .string ⟨#[]⟩], .int .i64 0] rfl (by kernel_rfl) (by kernel_rfl) (by kernel_rfl)
   (OpenSpec.preRow_of_cond 8 hx (by kernel_rfl) (fun k hk => by cases hk) (by kernel_rfl) (We os))) ?_
 intro W base args ds gs before hval hW _ hcond _ hL hs _
 exact VE H enc W base args ds gs before hval hW hL hs
set_option maxRecDepth 100000 in
theorem bF : laidOutB Tryz.pinned.checked.prog = true := by kernel_rfl
set_option maxRecDepth 100000 in
theorem bC : mapsRowed Tryz.pinned.checked.prog = true := by kernel_rfl
set_option maxRecDepth 100000 in
theorem bP : (Rows.writerHeadsRow.inPlace == Tryz.pinned.checked.prog.inPlace 3) = true := by kernel_rfl
set_option maxRecDepth 100000 in
theorem bO : (Rows.writerHeadsRow.unfollowed == Tryz.pinned.checked.prog.unfollowed 3) = true := by kernel_rfl
set_option maxRecDepth 100000 in
theorem bQ : (Rows.writerHeadsRow.recurses == Tryz.pinned.checked.prog.recurses 3) = true := by kernel_rfl
set_option maxRecDepth 100000 in
theorem bL : (Rows.writerHeadsRow.named == Tryz.pinned.checked.prog.varsNamed 3) = true := by kernel_rfl
set_option maxRecDepth 100000 in
theorem bE : (Rows.writerHeadsRow.plainKeys == Tryz.pinned.checked.prog.plainKeys) = true := by kernel_rfl
set_option maxRecDepth 100000 in
theorem bG : Tryz.pinned.checked.prog.stopsHeard = true := by kernel_rfl
set_option maxRecDepth 100000 in
theorem bD : Tryz.pinned.checked.prog.mayEnter = true := by kernel_rfl
set_option maxRecDepth 100000 in
theorem bJ : (Rows.writerHeadsRow.lifted == Tryz.pinned.checked.prog.liftsFinal) = true := by kernel_rfl
set_option maxRecDepth 100000 in
theorem closed : joinedFacts Tryz.pinned.checked.prog 3 Tryz.f3 (OpenSpec.ofChange Rows.writerHeadsSpec).bare Rows.writerHeadsRow = true := by
 unfold joinedFacts
 rw [bF, bC, bP, bO, bQ, bL, bE, bG, bD, bJ]
 kernel_rfl
set_option maxRecDepth 100000 in
theorem said : Rows.WriterHeadsSaid :=
 OpenClaim.holds_of_cond 3 Tryz.f3 rfl rfl rfl rfl rfl rfl rfl ⟨rfl, rfl, rfl, rfl, rfl⟩ rfl rfl rfl rfl rfl (by kernel_rfl) Tryz.func3 closed
  (of_decide_eq_true (by kernel_rfl)) (by unfold Func.isWrapper; first | (rw [if_pos (by decide +kernel)]; kernel_rfl) | (rw [if_neg (by decide +kernel)]; exact ⟨rfl, rfl⟩))
  (fun os started H enc _ F => by rw [OpenClaim.pre_eq_preRow]; exact lifted os started H enc F)
theorem plain (f : FuncId) (fn : Func) (hf : Tryz.pinned.checked.prog.funcNamed "boulter/boulterlaw11.WriterHeads" = some f) (hfn : Tryz.pinned.checked.prog.funcs[f]? = some fn) :
  false = Tryz.pinned.checked.prog.looks [] ∧ ∀ (j : Nat) t, fn.params[j]? = some t → Tryz.pinned.checked.prog.wantsStandIn t = false := by
 obtain rfl : f = 3 := Option.some.inj ((show Tryz.prog.funcNamed "boulter/boulterlaw11.WriterHeads" = some 3 by kernel_rfl).symm.trans hf) |>.symm
 obtain rfl : fn = Tryz.f3 := (Option.some.inj (Tryz.func3.symm.trans hfn)).symm
 refine ⟨by kernel_rfl, fun j t ht => ?_⟩
 rw [Tryz.params3] at ht
 have hm := Array.mem_of_getElem? ht
 simp only [List.mem_toArray, List.mem_cons, List.not_mem_nil, or_false] at hm
 rcases hm with rfl | rfl
 ·exact (show Tryz.prog.wantsStandIn 26 = false by kernel_rfl)
 ·exact (show Tryz.prog.wantsStandIn 3 = false by kernel_rfl)
theorem proved : Rows.WriterHeadsCardSaid :=
 Claim7.holds_tied_plain_at .later [] _ _ _ _ said (fun _ h => by cases h) (by kernel_rfl) (fun _ h => by cases h) writerHeads_row_tie rfl ⟨rfl, rfl⟩ (by kernel_rfl) rfl plain (by kernel_rfl)
#print axioms proved
end Go.Proofs.YtlljeoogceblmaaGreatDoor.writerHeads
