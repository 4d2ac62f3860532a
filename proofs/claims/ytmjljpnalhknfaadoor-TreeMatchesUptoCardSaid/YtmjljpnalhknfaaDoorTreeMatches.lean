/-
  TreeMatches: for every input of at most 1048576 values and letters the law returns true, and each argument reads behind the call as it read before.
-/
import Derived.Test.YtmjljpnalhknfaaDoorRows
import Derived.Test.YtmjljpnalhknfaaDoorTreeMatchesLaw
import Derived.WalkKit
import Derived.ProofKit
import Derived.OpenShut
import Derived.JoinedCond
import Derived.Test.YtmjljpnalhknfaaDoorAbsGlob
import Derived.Test.YtmjljpnalhknfaaDoorCards
import Derived.Test.YtmjljpnalhknfaaDoorTie
import Derived.Deep.DeepHandedRow
import Derived.Lib.LaidTab
namespace Go.Proofs.YtmjljpnalhknfaaDoor.treeMatches
open Go.ChangeShapes Go.WideShapes Go.ChangeAt Go.RowKit Go.Abs Go.Abs.L
set_option linter.unusedVariables false
set_option linter.unusedSimpArgs false

theorem own : ownKnob Tryd.prog.godebug = none := by kernel_rfl

theorem arg0 : ArgT Tryd.prog 25 (RTree) := argTree
theorem arg1 : ArgT Tryd.prog 9 (RStr cfg.P) := argStr (by kernel_rfl) (by kernel_rfl)
theorem arg2 : ArgT Tryd.prog 3 (RInt cfg.P .i64) := argInt (by kernel_rfl) (by kernel_rfl)
theorem arg3 : ArgT Tryd.prog 3 (RInt cfg.P .i64) := argInt (by kernel_rfl) (by kernel_rfl)
theorem globsOk {W : World} (hL : laidMetH Tryd.prog Rows.treeMatchesUptoRow.laid W) : GlobOk cfg.glob W := by
  have l0 : laidMet Tryd.prog Rows.treeMatchesUptoRow.laid W := hL
  have e0 := globEnt_of_tab (P := Tryd.prog) (W := W) (g := 1) (by kernel_rfl) (Lib.tabIs_of_head (P := Tryd.prog) (g := 1) (name := "math/bits.deBruijn32tab") (k := .u8) (zs := [0, 1, 28, 2, 29, 14, 24, 3, 30, 22, 20, 15, 25, 17, 4, 8, 31, 27, 13, 23, 21, 19, 16, 7, 26, 12, 18, 6, 11, 5, 10, 9]) (t := 102) (e := 5) (n := 32) (by kernel_rfl) (by kernel_rfl) (by kernel_rfl) (by kernel_rfl) (by kernel_rfl) (by kernel_rfl) l0)
  have l1 := laid_rest l0
  have e1 := globEnt_of_tab (P := Tryd.prog) (W := W) (g := 2) (by kernel_rfl) (Lib.tabIs_of_head (P := Tryd.prog) (g := 2) (name := "math/bits.deBruijn64tab") (k := .u8) (zs := [0, 1, 56, 2, 57, 49, 28, 3, 61, 58, 42, 50, 38, 29, 17, 4, 62, 47, 59, 36, 45, 43, 51, 22, 53, 39, 33, 30, 24, 18, 12, 5, 63, 55, 48, 27, 60, 41, 37, 16, 46, 35, 44, 21, 52, 32, 23, 11, 54, 26, 40, 15, 34, 20, 31, 10, 25, 14, 19, 9, 13, 8, 7, 6]) (t := 103) (e := 5) (n := 64) (by kernel_rfl) (by kernel_rfl) (by kernel_rfl) (by kernel_rfl) (by kernel_rfl) (by kernel_rfl) l1)
  have l2 := laid_rest l1
  have e2 := globEnt_of_tab (P := Tryd.prog) (W := W) (g := 0) (by kernel_rfl) (Lib.tabIs_of_head (P := Tryd.prog) (g := 0) (name := "internal/strconv.uint64pow10") (k := .u64) (zs := [1, 10, 100, 1000, 10000, 100000, 1000000, 10000000, 100000000, 1000000000, 10000000000, 100000000000, 1000000000000, 10000000000000, 100000000000000, 1000000000000000, 10000000000000000, 100000000000000000, 1000000000000000000, 10000000000000000000]) (t := 97) (e := 26) (n := 20) (by kernel_rfl) (by kernel_rfl) (by kernel_rfl) (by kernel_rfl) (by kernel_rfl) (by kernel_rfl) l2)
  have l3 := laid_rest l2
  exact globOk_cons e2 (globOk_cons e0 (globOk_cons e1 (globOk_nil W)))
mutual
theorem bulk_le {H : Type} : ∀ d : DataW H, bulk d ≤ Rows.uptoBulk d
  | .lit (.string _) => by simp [bulk, Rows.uptoBulk]
  | .lit (.bool _) => by simp [bulk, Rows.uptoBulk]
  | .lit (.int _ _) => by simp [bulk, Rows.uptoBulk]
  | .lit (.float _ _) => by simp [bulk, Rows.uptoBulk]
  | .lit .nil => by simp [bulk, Rows.uptoBulk]
  | .nil => by simp [bulk, Rows.uptoBulk]
  | .ptr d => by have := bulk_le d; simp only [bulk, Rows.uptoBulk]; omega
  | .slice a b => by have := bulkAll_le a; have := bulkAll_le b; simp only [bulk, Rows.uptoBulk]; omega
  | .agg a => by have := bulkAll_le a; simp only [bulk, Rows.uptoBulk]; omega
  | .iface _ _ => by simp only [bulk, Rows.uptoBulk]; omega
  | .map _ => by simp only [bulk, Rows.uptoBulk]; omega
  | .held _ => by simp [bulk, Rows.uptoBulk]
theorem bulkAll_le {H : Type} : ∀ ds : List (DataW H), bulkAll ds ≤ Rows.uptoBulkAll ds
  | [] => by simp [bulkAll, Rows.uptoBulkAll]
  | d :: r => by have := bulk_le d; have := bulkAll_le r; simp only [bulkAll, Rows.uptoBulkAll]; omega
end

set_option maxRecDepth 100000 in
theorem contract (H : Type) (enc : TypeId × Value → H) (W : World) (base : Nat) (args : Array Value) (ds gs : List (DataW H)) (before : List MemPlace)
    (hval : ∀ (j : Nat) t v, Tryd.f4.params[j]? = some t → args[j]? = some v → Value.okWide Tryd.prog W .any base t v)
    (hW : DataW.Whole enc Tryd.prog Tryd.f4.params.toList Rows.treeMatchesSpec.vars false W args.toList ds gs before) (hk : Rows.uptoSmall H (ds ++ gs) = true) (hL : laidMetH Tryd.prog Rows.treeMatchesUptoRow.laid W) :
    Calls Tryd.prog 4 args W fun e W' => ∃ v, e = .returned v ∧ Rows.treeMatchesSpec.post enc Tryd.prog Tryd.f4 false true false false W args v W' := by
  have hW' := hW
  obtain ⟨p, q, hA0, hV, rfl, hfz, hnd⟩ := hW
  have hA : DataW.TrodAll enc Tryd.prog W 0 (fun _ => true) true Tryd.f4.params.toList args.toList ds p := hA0
  rw [Tryd.params4] at hA
  obtain ⟨v0, vs0, d0, ds0, p0, q0, _, rfl, _, ⟨fu0, t0⟩, r0⟩ := trodAll_cons hA
  obtain ⟨v1, vs1, d1, ds1, p1, q1, _, rfl, _, ⟨fu1, t1⟩, r1⟩ := trodAll_cons r0
  obtain ⟨v2, vs2, d2, ds2, p2, q2, _, rfl, _, ⟨fu2, t2⟩, r2⟩ := trodAll_cons r1
  obtain ⟨v3, vs3, d3, ds3, p3, q3, _, rfl, _, ⟨fu3, t3⟩, r3⟩ := trodAll_cons r2
  obtain ⟨_, rfl, _⟩ := trodAll_nil r3
  obtain ⟨hgs, _⟩ := trodVars_none hV
  subst hgs
  obtain ⟨x0, as0, h0, e0, b0, l0, s0, k0, w0⟩ := arg0.2 fu0 _ d0 p0 t0 (⟨0, .leaf⟩ : AHeap)
  obtain ⟨x1, as1, h1, e1, b1, l1, s1, k1, w1⟩ := arg1.2 fu1 _ d1 p1 t1 h0
  obtain ⟨x2, as2, h2, e2, b2, l2, s2, k2, w2⟩ := arg2.2 fu2 _ d2 p2 t2 h1
  obtain ⟨x3, as3, h3, e3, b3, l3, s3, k3, w3⟩ := arg3.2 fu3 _ d3 p3 t3 h2
  have hk2 := of_decide_eq_true hk
  have hbl := bulkAll_le (d0 :: d1 :: d2 :: d3 :: [] ++ [])
  simp only [List.append_nil, List.cons_append, List.nil_append, bulkAll] at hk2 hbl
  have b0 := RT.mono _ b0 s1 (fun id hi => show id < h1.size by omega)
  have b0 := RT.mono _ b0 s2 (fun id hi => show id < h2.size by omega)
  have b0 := RT.mono _ b0 s3 (fun id hi => show id < h3.size by omega)
  have b1 := RT.mono _ b1 s2 (fun id hi => show id < h2.size by omega)
  have b1 := RT.mono _ b1 s3 (fun id hi => show id < h3.size by omega)
  have b2 := RT.mono _ b2 s3 (fun id hi => show id < h3.size by omega)
  have b1 : as1 = [.str x1] := b1
  subst b1
  have b2 : as2 = [.int .i64 x2] := b2
  subst b2
  have b3 : as3 = [.int .i64 x3] := b3
  subst b3
  have hm := lawTreeMatches h3 x0 k0 as0 b0 x1 k1 x2 k2 x3 k3 (by omega)
  have hargs : argsA Tryd.prog Tryd.f4.params.toList (⟨0, .leaf⟩ : AHeap) [d0, d1, d2, d3] = some ([.agg as0, .str x1, .int .i64 x2, .int .i64 x3], h3) := by
    rw [Tryd.params4]
    simp only [argsA, e0, e1, e2, e3, Option.bind_some, Option.map_some]
    rw [show toArg Tryd.prog 25 _ = some (.agg as0) from by kernel_rfl]
    simp only [Option.bind_some]
    rw [show toArg Tryd.prog 9 _ = some (.str x1) from by kernel_rfl]
    simp only [Option.bind_some]
    rw [show toArg Tryd.prog 3 _ = some (.int .i64 x2) from by kernel_rfl]
    simp only [Option.bind_some]
    rw [show toArg Tryd.prog 3 _ = some (.int .i64 x3) from by kernel_rfl]
    simp only [Option.bind_some, Option.map_some]
  exact contract_of (C := cfg) cfg_ok (globsOk hL) (by kernel_rfl) Tryd.func4 (by kernel_rfl) (c := bodyC cfg.P 4) (by kernel_rfl) (by rw [Tryd.params4]; intro t ht; simp only [List.mem_cons, List.not_mem_nil, or_false] at ht; rcases ht with rfl | rfl | rfl | rfl <;> exact ⟨by kernel_rfl, of_decide_eq_true (by kernel_rfl)⟩) (tb := 4) (by kernel_rfl) (by kernel_rfl) rfl (by rfl) hval hW' hargs (ok_boulterlaw18_TreeMatches hm)

noncomputable def laidWorld (os : Os) : World := { World.holding Tryd.prog os ⟨#[], #[], []⟩ with heap := ((((World.holding Tryd.prog os ⟨#[], #[], []⟩).heap.modify 1 fun
      | .cells _ t frozen => .cells #[.int .u8 0, .int .u8 1, .int .u8 28, .int .u8 2, .int .u8 29, .int .u8 14, .int .u8 24, .int .u8 3, .int .u8 30, .int .u8 22, .int .u8 20, .int .u8 15, .int .u8 25, .int .u8 17, .int .u8 4, .int .u8 8, .int .u8 31, .int .u8 27, .int .u8 13, .int .u8 23, .int .u8 21, .int .u8 19, .int .u8 16, .int .u8 7, .int .u8 26, .int .u8 12, .int .u8 18, .int .u8 6, .int .u8 11, .int .u8 5, .int .u8 10, .int .u8 9] t frozen
      | o => o).modify 2 fun
      | .cells _ t frozen => .cells #[.int .u8 0, .int .u8 1, .int .u8 56, .int .u8 2, .int .u8 57, .int .u8 49, .int .u8 28, .int .u8 3, .int .u8 61, .int .u8 58, .int .u8 42, .int .u8 50, .int .u8 38, .int .u8 29, .int .u8 17, .int .u8 4, .int .u8 62, .int .u8 47, .int .u8 59, .int .u8 36, .int .u8 45, .int .u8 43, .int .u8 51, .int .u8 22, .int .u8 53, .int .u8 39, .int .u8 33, .int .u8 30, .int .u8 24, .int .u8 18, .int .u8 12, .int .u8 5, .int .u8 63, .int .u8 55, .int .u8 48, .int .u8 27, .int .u8 60, .int .u8 41, .int .u8 37, .int .u8 16, .int .u8 46, .int .u8 35, .int .u8 44, .int .u8 21, .int .u8 52, .int .u8 32, .int .u8 23, .int .u8 11, .int .u8 54, .int .u8 26, .int .u8 40, .int .u8 15, .int .u8 34, .int .u8 20, .int .u8 31, .int .u8 10, .int .u8 25, .int .u8 14, .int .u8 19, .int .u8 9, .int .u8 13, .int .u8 8, .int .u8 7, .int .u8 6] t frozen
      | o => o).modify 0 fun
      | .cells _ t frozen => .cells #[.int .u64 1, .int .u64 10, .int .u64 100, .int .u64 1000, .int .u64 10000, .int .u64 100000, .int .u64 1000000, .int .u64 10000000, .int .u64 100000000, .int .u64 1000000000, .int .u64 10000000000, .int .u64 100000000000, .int .u64 1000000000000, .int .u64 10000000000000, .int .u64 100000000000000, .int .u64 1000000000000000, .int .u64 10000000000000000, .int .u64 100000000000000000, .int .u64 1000000000000000000, .int .u64 10000000000000000000] t frozen
      | o => o) }
theorem laid_met (os : Os) : laidMet Tryd.prog Rows.treeMatchesUptoRow.laid ((laidWorld os).forCall (fun _ _ => 0) ⟨#[], #[.agg #[.slice none 0 0, .int .i64 0], .string ⟨#[]⟩, .int .i64 0, .int .i64 0], []⟩).memory :=
  laidMet_of_run' 8 (by kernel_rfl) (by kernel_rfl)
theorem reads (os : Os) {H : Type} (enc : TypeId × Value → H) : ∃ places, DataW.whole enc Tryd.prog ((laidWorld os).forCall (fun _ _ => 0) ⟨#[], #[.agg #[.slice none 0 0, .int .i64 0], .string ⟨#[]⟩, .int .i64 0, .int .i64 0], []⟩).memory Tryd.f4.params.toList Rows.treeMatchesSpec.vars false (#[.agg #[.slice none 0 0, .int .i64 0], .string ⟨#[]⟩, .int .i64 0, .int .i64 0] : Array Value).toList 8 = some ([.agg [.nil, .lit (.int .i64 0)], .lit (.string []), .lit (.int .i64 0), .lit (.int .i64 0)], [], places) :=
  ⟨[], by kernel_rfl⟩
set_option maxRecDepth 100000 in
theorem lifted (os : Os) (started : os.Started) (H : Type) (enc : TypeId × Value → H) (F : Stop.Interp) :
    ReturnsInHanded {} Tryd.checked os 4 .any ((Rows.OpenSpec.upto Rows.treeMatchesSpec).preRow enc Tryd.prog Tryd.f4 Rows.treeMatchesUptoRow.domain false Rows.treeMatchesUptoRow.laid) (((Rows.OpenSpec.upto Rows.treeMatchesSpec).at F).post enc Tryd.prog Tryd.f4 false true false false) := by
  obtain ⟨places, hx⟩ := reads os enc
  refine returnsInHanded_of_row (C := Tryd.checked) (s := Rows.OpenSpec.upto Rows.treeMatchesSpec) own started (by kernel_rfl) Tryd.func4
    (witness_row_at (enc := enc) (C := Tryd.checked) false (laidWorld os) #[.agg #[.slice none 0 0, .int .i64 0], .string ⟨#[]⟩, .int .i64 0, .int .i64 0] rfl (by kernel_rfl) (by kernel_rfl) (by kernel_rfl)
      (OpenSpec.preRow_of_cond 8 hx (by kernel_rfl) (fun k hk => by cases hk; kernel_rfl) (by kernel_rfl) (laid_met os))) ?_
  intro W base args ds gs before hval hW _ hcond _ hL _ _
  exact contract H enc W base args ds gs before hval hW (hcond _ rfl) hL

set_option maxRecDepth 100000 in
theorem said : Rows.TreeMatchesUptoSaid :=
  OpenClaim.holds_of_cond 4 Tryd.f4 rfl rfl rfl rfl rfl rfl rfl ⟨rfl, rfl, rfl, rfl, rfl⟩ rfl rfl rfl rfl rfl (by kernel_rfl) Tryd.func4 (by kernel_rfl)
    (of_decide_eq_true (by kernel_rfl)) (by unfold Func.isWrapper; first | (rw [if_pos (by decide +kernel)]; kernel_rfl) | (rw [if_neg (by decide +kernel)]; exact ⟨rfl, rfl⟩))
    (fun os started H enc _ F => by rw [OpenClaim.pre_eq_preRow]; exact lifted os started H enc F)
theorem plain (f : FuncId) (fn : Func) (hf : Tryd.pinned.checked.prog.funcNamed "boulter/boulterlaw18.TreeMatches" = some f) (hfn : Tryd.pinned.checked.prog.funcs[f]? = some fn) :
    false = Tryd.pinned.checked.prog.looks [] ∧ ∀ (j : Nat) t, fn.params[j]? = some t → Tryd.pinned.checked.prog.wantsStandIn t = false := by
  obtain rfl : f = 4 := Option.some.inj ((show Tryd.prog.funcNamed "boulter/boulterlaw18.TreeMatches" = some 4 by kernel_rfl).symm.trans hf) |>.symm
  obtain rfl : fn = Tryd.f4 := (Option.some.inj (Tryd.func4.symm.trans hfn)).symm
  refine ⟨by kernel_rfl, fun j t ht => ?_⟩
  rw [Tryd.params4] at ht
  have hm := Array.mem_of_getElem? ht
  simp only [List.mem_toArray, List.mem_cons, List.not_mem_nil, or_false] at hm
  have hm : t = 25 ∨ t = 9 ∨ t = 3 := by simpa using hm
  rcases hm with rfl | rfl | rfl
  · exact (show Tryd.prog.wantsStandIn 25 = false by kernel_rfl)
  · exact (show Tryd.prog.wantsStandIn 9 = false by kernel_rfl)
  · exact (show Tryd.prog.wantsStandIn 3 = false by kernel_rfl)
theorem proved : Rows.TreeMatchesUptoCardSaid :=
  Claim7.holds_tied_plain_at .later [] _ _ _ _ said (fun _ h => by cases h) (by kernel_rfl) (fun _ h => by cases h) treeMatchesUpto_row_tie rfl ⟨rfl, rfl⟩ (by kernel_rfl) rfl plain (by kernel_rfl)
#print axioms proved
end Go.Proofs.YtmjljpnalhknfaaDoor.treeMatches
