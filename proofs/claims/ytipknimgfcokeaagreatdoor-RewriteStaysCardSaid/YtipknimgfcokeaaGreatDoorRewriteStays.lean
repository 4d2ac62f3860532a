/-
  RewriteStays: for every input the law returns true, and each argument reads behind the call as it read before.
-/
import Derived.Test.YtipknimgfcokeaaGreatDoorRows
import Derived.Test.YtipknimgfcokeaaGreatDoorAvGlob
import Derived.WalkKit
import Derived.ProofKit
import Derived.OpenShut
import Derived.JoinedCond
import Derived.Shelf.Vars
import Derived.HandedShaped
import Derived.Test.YtipknimgfcokeaaGreatDoorCards
import Derived.Test.YtipknimgfcokeaaGreatDoorTie
import Derived.Deep.DeepHandedRow
import Derived.Lib.LaidTab
namespace Go.Proofs.YtipknimgfcokeaaGreatDoor.rewriteStays
open Go.ChangeShapes Go.WideShapes Go.ChangeAt Go.RowKit Go.Av Go.Av.L
set_option linter.unusedVariables false
set_option linter.unusedSimpArgs false
theorem own : ownKnob Tryz.prog.godebug = none := by kernel_rfl
theorem Xp : Pp Tryz.prog 9 eS Xn := We (t := 9) (by kernel_rfl)
theorem XT : Pp Tryz.prog 4 eB (fun _ => True) := Wa (t := 4) (by kernel_rfl)
theorem XQ : Pp Tryz.prog 3 (eI .i64) (X7 .i64) := XS (t := 3) (k := .i64) (by kernel_rfl)
theorem Xb : Pp Tryz.prog 4 eB (fun _ => True) := Wa (t := 4) (by kernel_rfl)
theorem Xf : Pp Tryz.prog 9 eS Xn := We (t := 9) (by kernel_rfl)
theorem maxLen {W : World} (hs : W.ShapedOpen Tryz.prog) : ∃ n : Int, W.cell? ⟨2, 0, none⟩ = some (.int .i64 n) :=
 cell_of_shapedOpen_int (g := 2) (t := 3) (zero := #[.int .i64 0]) (k := .i64) hs (of_decide_eq_true (by kernel_rfl)) (by kernel_rfl) rfl (by kernel_rfl) (by kernel_rfl) (by kernel_rfl)
theorem Ut {W : World} (hL : laidMetH Tryz.prog Rows.rewriteStaysRow.laid W) (hs : W.ShapedOpen Tryz.prog) : Ch cfg.EY W := by
 have l0 : laidMet Tryz.prog Rows.rewriteStaysRow.laid W := hL
 have e0 := IU (P := Tryz.prog) (W := W) (g := 4) (by kernel_rfl) (Lib.tabIs_of_head (P := Tryz.prog) (g := 4) (name := "math/bits.deBruijn32tab") (k := .u8) (zs := [0, 1, 28, 2, 29, 14, 24, 3, 30, 22, 20, 15, 25, 17, 4, 8, 31, 27, 13, 23, 21, 19, 16, 7, 26, 12, 18, 6, 11, 5, 10, 9]) (t := 220) (e := 5) (n := 32) (by kernel_rfl) (by kernel_rfl) (by kernel_rfl) (by kernel_rfl) (by kernel_rfl) (by kernel_rfl) l0)
 have l1 := JS l0
 have e1 := IU (P := Tryz.prog) (W := W) (g := 5) (by kernel_rfl) (Lib.tabIs_of_head (P := Tryz.prog) (g := 5) (name := "math/bits.deBruijn64tab") (k := .u8) (zs := [0, 1, 56, 2, 57, 49, 28, 3, 61, 58, 42, 50, 38, 29, 17, 4, 62, 47, 59, 36, 45, 43, 51, 22, 53, 39, 33, 30, 24, 18, 12, 5, 63, 55, 48, 27, 60, 41, 37, 16, 46, 35, 44, 21, 52, 32, 23, 11, 54, 26, 40, 15, 34, 20, 31, 10, 25, 14, 19, 9, 13, 8, 7, 6]) (t := 221) (e := 5) (n := 64) (by kernel_rfl) (by kernel_rfl) (by kernel_rfl) (by kernel_rfl) (by kernel_rfl) (by kernel_rfl) l1)
 have l2 := JS l1
 have e2 := IU (P := Tryz.prog) (W := W) (g := 3) (by kernel_rfl) (Lib.tabIs_of_head (P := Tryz.prog) (g := 3) (name := "internal/strconv.uint64pow10") (k := .u64) (zs := [1, 10, 100, 1000, 10000, 100000, 1000000, 10000000, 100000000, 1000000000, 10000000000, 100000000000, 1000000000000, 10000000000000, 100000000000000, 1000000000000000, 10000000000000000, 100000000000000000, 1000000000000000000, 10000000000000000000]) (t := 213) (e := 90) (n := 20) (by kernel_rfl) (by kernel_rfl) (by kernel_rfl) (by kernel_rfl) (by kernel_rfl) (by kernel_rfl) l2)
 have l3 := JS l2
 have l4 := JS l3
 have l5 := JS l4
 exact Qz (maxLen hs) (KO e2 (KO e0 (KO e1 (Ra W))))
set_option maxRecDepth 100000 in
theorem Tm (H : Type) (enc : TypeId × Value → H) (W : World) (base : Nat) (args : Array Value) (ds gs : List (DataW H)) (before : List MemPlace)
  (hval : ∀ (j : Nat) t v, Tryz.f3.params[j]? = some t → args[j]? = some v → Value.okWide Tryz.prog W .any base t v)
  (hW : DataW.Whole enc Tryz.prog Tryz.f3.params.toList Rows.rewriteStaysSpec.vars false W args.toList ds gs before) (hL : laidMetH Tryz.prog Rows.rewriteStaysRow.laid W) (hs : W.ShapedOpen Tryz.prog) :
  Calls Tryz.prog 3 args W fun e W' => ∃ v, e = .returned v ∧ Rows.rewriteStaysSpec.post enc Tryz.prog Tryz.f3 false true false false W args v W' := by
 have hW' := hW
 obtain ⟨p, q, hA0, hV, rfl, hfz, hnd⟩ := hW
 have hA : DataW.TrodAll enc Tryz.prog W 0 (fun _ => true) true Tryz.f3.params.toList args.toList ds p := hA0
 rw [Tryz.params3] at hA
 obtain ⟨v0, vs0, d0, ds0, p0, q0, g0, rfl, _, ⟨fu0, t0⟩, r0⟩ := trodAll_cons hA
 obtain ⟨v1, vs1, d1, ds1, p1, q1, g1, rfl, _, ⟨fu1, t1⟩, r1⟩ := trodAll_cons r0
 obtain ⟨v2, vs2, d2, ds2, p2, q2, g2, rfl, _, ⟨fu2, t2⟩, r2⟩ := trodAll_cons r1
 obtain ⟨v3, vs3, d3, ds3, p3, q3, g3, rfl, _, ⟨fu3, t3⟩, r3⟩ := trodAll_cons r2
 obtain ⟨v4, vs4, d4, ds4, p4, q4, g4, rfl, _, ⟨fu4, t4⟩, r4⟩ := trodAll_cons r3
 obtain ⟨gE, rfl, _⟩ := trodAll_nil r4
 have hargs : args.toList = [v0, v1, v2, v3, v4] := by rw [g0, g1, g2, g3, g4, gE]
 obtain ⟨x0, c0, k0⟩ := Xp.h fu0 _ d0 p0 t0
 have V0 := KJ (hval 0 9 v0 (by rw [Tryz.params3]; rfl) (by rw [← Array.getElem?_toList, hargs]; rfl)) c0 (show toArg Tryz.prog 9 (eS x0) = some (.str x0) from by kernel_rfl)
 obtain ⟨x1, c1, k1⟩ := XT.h fu1 _ d1 p1 t1
 have V1 := KJ (hval 1 4 v1 (by rw [Tryz.params3]; rfl) (by rw [← Array.getElem?_toList, hargs]; rfl)) c1 (show toArg Tryz.prog 4 (eB x1) = some (.bool x1) from by kernel_rfl)
 obtain ⟨x2, c2, k2⟩ := XQ.h fu2 _ d2 p2 t2
 have V2 := KJ (hval 2 3 v2 (by rw [Tryz.params3]; rfl) (by rw [← Array.getElem?_toList, hargs]; rfl)) c2 (show toArg Tryz.prog 3 ((eI .i64) x2) = some (.int .i64 x2) from by kernel_rfl)
 obtain ⟨x3, c3, k3⟩ := Xb.h fu3 _ d3 p3 t3
 have V3 := KJ (hval 3 4 v3 (by rw [Tryz.params3]; rfl) (by rw [← Array.getElem?_toList, hargs]; rfl)) c3 (show toArg Tryz.prog 4 (eB x3) = some (.bool x3) from by kernel_rfl)
 obtain ⟨x4, c4, k4⟩ := Xf.h fu4 _ d4 p4 t4
 have V4 := KJ (hval 4 9 v4 (by rw [Tryz.params3]; rfl) (by rw [← Array.getElem?_toList, hargs]; rfl)) c4 (show toArg Tryz.prog 9 (eS x4) = some (.str x4) from by kernel_rfl)
 have hm := M6 x0 k0 x1 k1 x2 k2 x3 k3 x4 k4
 obtain ⟨v, h', hr, ev, _⟩ := Hf (g := ⟨0, []⟩) (h := ⟨0, .leaf⟩) (F := []) (av := [.str x0, .bool x1, .int .i64 x2, .bool x3, .str x4]) hm (hc := rfl) HH.start
 subst ev
 exact SZ (C := cfg) Vp (Ut hL hs) (by kernel_rfl) Tryz.func3 (by kernel_rfl) (c := LD cfg.P 3) (by kernel_rfl) (by rw [Tryz.params3]; intro t ht; simp only [List.mem_cons, List.not_mem_nil, or_false] at ht; rcases ht with rfl | rfl | rfl | rfl | rfl <;> exact ⟨by kernel_rfl, of_decide_eq_true (by kernel_rfl)⟩) (tb := 4) (by kernel_rfl) (by kernel_rfl) rfl (by rfl) hW' (by rw [hargs]; exact .cons V0 (.cons V1 (.cons V2 (.cons V3 (.cons V4 (.nil _)))))) hr
noncomputable def low : Nat := (World.holding Tryz.prog default ⟨#[], #[], []⟩).heap.size
noncomputable def MG (os : Os) : World := { World.holding Tryz.prog os ⟨#[.cells #[.string ⟨#[118, 97, 108, 117, 101, 32, 111, 117, 116, 32, 111, 102, 32, 114, 97, 110, 103, 101]⟩] 199, .cells #[.string ⟨#[105, 110, 118, 97, 108, 105, 100, 32, 115, 121, 110, 116, 97, 120]⟩] 199], #[], []⟩ with heap := ((((((World.holding Tryz.prog os ⟨#[.cells #[.string ⟨#[118, 97, 108, 117, 101, 32, 111, 117, 116, 32, 111, 102, 32, 114, 97, 110, 103, 101]⟩] 199, .cells #[.string ⟨#[105, 110, 118, 97, 108, 105, 100, 32, 115, 121, 110, 116, 97, 120]⟩] 199], #[], []⟩).heap.modify 4 fun
      | .cells _ t frozen => .cells #[.int .u8 0, .int .u8 1, .int .u8 28, .int .u8 2, .int .u8 29, .int .u8 14, .int .u8 24, .int .u8 3, .int .u8 30, .int .u8 22, .int .u8 20, .int .u8 15, .int .u8 25, .int .u8 17, .int .u8 4, .int .u8 8, .int .u8 31, .int .u8 27, .int .u8 13, .int .u8 23, .int .u8 21, .int .u8 19, .int .u8 16, .int .u8 7, .int .u8 26, .int .u8 12, .int .u8 18, .int .u8 6, .int .u8 11, .int .u8 5, .int .u8 10, .int .u8 9] t frozen
      | o => o).modify 5 fun
      | .cells _ t frozen => .cells #[.int .u8 0, .int .u8 1, .int .u8 56, .int .u8 2, .int .u8 57, .int .u8 49, .int .u8 28, .int .u8 3, .int .u8 61, .int .u8 58, .int .u8 42, .int .u8 50, .int .u8 38, .int .u8 29, .int .u8 17, .int .u8 4, .int .u8 62, .int .u8 47, .int .u8 59, .int .u8 36, .int .u8 45, .int .u8 43, .int .u8 51, .int .u8 22, .int .u8 53, .int .u8 39, .int .u8 33, .int .u8 30, .int .u8 24, .int .u8 18, .int .u8 12, .int .u8 5, .int .u8 63, .int .u8 55, .int .u8 48, .int .u8 27, .int .u8 60, .int .u8 41, .int .u8 37, .int .u8 16, .int .u8 46, .int .u8 35, .int .u8 44, .int .u8 21, .int .u8 52, .int .u8 32, .int .u8 23, .int .u8 11, .int .u8 54, .int .u8 26, .int .u8 40, .int .u8 15, .int .u8 34, .int .u8 20, .int .u8 31, .int .u8 10, .int .u8 25, .int .u8 14, .int .u8 19, .int .u8 9, .int .u8 13, .int .u8 8, .int .u8 7, .int .u8 6] t frozen
      | o => o).modify 3 fun
      | .cells _ t frozen => .cells #[.int .u64 1, .int .u64 10, .int .u64 100, .int .u64 1000, .int .u64 10000, .int .u64 100000, .int .u64 1000000, .int .u64 10000000, .int .u64 100000000, .int .u64 1000000000, .int .u64 10000000000, .int .u64 100000000000, .int .u64 1000000000000, .int .u64 10000000000000, .int .u64 100000000000000, .int .u64 1000000000000000, .int .u64 10000000000000000, .int .u64 100000000000000000, .int .u64 1000000000000000000, .int .u64 10000000000000000000] t frozen
      | o => o).modify 1 fun
      | .cells _ t frozen => .cells #[.iface 197 (.pointer (some ⟨low + 0, 0, none⟩))] t frozen
      | o => o).modify 0 fun
      | .cells _ t frozen => .cells #[.iface 197 (.pointer (some ⟨low + 1, 0, none⟩))] t frozen
      | o => o) }
theorem Tj (os : Os) : laidMet Tryz.prog Rows.rewriteStaysRow.laid ((MG os).forCall (fun _ _ => 0) ⟨#[], #[.string ⟨#[]⟩, .bool false, .int .i64 0, .bool false, .string ⟨#[]⟩], []⟩).memory :=
 laidMet_of_run' 8 (by kernel_rfl) (by kernel_rfl)
theorem reads (os : Os) {H : Type} (enc : TypeId × Value → H) : ∃ places, DataW.whole enc Tryz.prog ((MG os).forCall (fun _ _ => 0) ⟨#[], #[.string ⟨#[]⟩, .bool false, .int .i64 0, .bool false, .string ⟨#[]⟩], []⟩).memory Tryz.f3.params.toList Rows.rewriteStaysSpec.vars false (#[.string ⟨#[]⟩, .bool false, .int .i64 0, .bool false, .string ⟨#[]⟩] : Array Value).toList 8 = some ([.lit (.string []), .lit (.bool false), .lit (.int .i64 0), .lit (.bool false), .lit (.string [])], [], places) :=
 ⟨[], by kernel_rfl⟩
set_option maxRecDepth 100000 in
theorem lifted (os : Os) (started : os.Started) (H : Type) (enc : TypeId × Value → H) (F : Stop.Interp) :
  ReturnsInHanded {} Tryz.checked os 3 .any ((OpenSpec.ofChange Rows.rewriteStaysSpec).preRow enc Tryz.prog Tryz.f3 Rows.rewriteStaysRow.domain false Rows.rewriteStaysRow.laid) (((OpenSpec.ofChange Rows.rewriteStaysSpec).at F).post enc Tryz.prog Tryz.f3 false true false false) := by
 obtain ⟨places, hx⟩ := reads os enc
 refine returnsInHanded_of_row (C := Tryz.checked) (s := OpenSpec.ofChange Rows.rewriteStaysSpec) own started (by kernel_rfl) Tryz.func3
  (witness_row_at (enc := enc) (C := Tryz.checked) false (MG os) #[.string ⟨#[]⟩, .bool false, .int .i64 0, .bool false, .string ⟨#[]⟩] rfl (by kernel_rfl) (by kernel_rfl) (by kernel_rfl)
   (OpenSpec.preRow_of_cond 8 hx (by kernel_rfl) (fun k hk => by cases hk) (by kernel_rfl) (Tj os))) ?_
 intro W base args ds gs before hval hW _ hcond _ hL hs _
 exact Tm H enc W base args ds gs before hval hW hL hs
set_option maxRecDepth 100000 in
theorem said : Rows.RewriteStaysSaid :=
 OpenClaim.holds_of_cond 3 Tryz.f3 rfl rfl rfl rfl rfl rfl rfl ⟨rfl, rfl, rfl, rfl, rfl⟩ rfl rfl rfl rfl rfl (by kernel_rfl) Tryz.func3 (by kernel_rfl)
  (of_decide_eq_true (by kernel_rfl)) (by unfold Func.isWrapper; first | (rw [if_pos (by decide +kernel)]; kernel_rfl) | (rw [if_neg (by decide +kernel)]; exact ⟨rfl, rfl⟩))
  (fun os started H enc _ F => by rw [OpenClaim.pre_eq_preRow]; exact lifted os started H enc F)
theorem plain (f : FuncId) (fn : Func) (hf : Tryz.pinned.checked.prog.funcNamed "boulter/boulterlaw24.RewriteStays" = some f) (hfn : Tryz.pinned.checked.prog.funcs[f]? = some fn) :
  true = Tryz.pinned.checked.prog.looks [] ∧ ∀ (j : Nat) t, fn.params[j]? = some t → Tryz.pinned.checked.prog.wantsStandIn t = false := by
 obtain rfl : f = 3 := Option.some.inj ((show Tryz.prog.funcNamed "boulter/boulterlaw24.RewriteStays" = some 3 by kernel_rfl).symm.trans hf) |>.symm
 obtain rfl : fn = Tryz.f3 := (Option.some.inj (Tryz.func3.symm.trans hfn)).symm
 refine ⟨by kernel_rfl, fun j t ht => ?_⟩
 rw [Tryz.params3] at ht
 have hm := Array.mem_of_getElem? ht
 simp only [List.mem_toArray, List.mem_cons, List.not_mem_nil, or_false] at hm
 have hm : t = 9 ∨ t = 4 ∨ t = 3 := by rcases hm with rfl | rfl | rfl | rfl | rfl <;> simp
 rcases hm with rfl | rfl | rfl
 ·exact (show Tryz.prog.wantsStandIn 9 = false by kernel_rfl)
 ·exact (show Tryz.prog.wantsStandIn 4 = false by kernel_rfl)
 ·exact (show Tryz.prog.wantsStandIn 3 = false by kernel_rfl)
theorem proved : Rows.RewriteStaysCardSaid :=
 Claim7.holds_tied_plain_at .later [] _ _ _ _ said (fun _ h => by cases h) (by kernel_rfl) (fun _ h => by cases h) rewriteStays_row_tie rfl ⟨rfl, rfl⟩ (by kernel_rfl) rfl plain (by kernel_rfl)
#print axioms proved
end Go.Proofs.YtipknimgfcokeaaGreatDoor.rewriteStays
