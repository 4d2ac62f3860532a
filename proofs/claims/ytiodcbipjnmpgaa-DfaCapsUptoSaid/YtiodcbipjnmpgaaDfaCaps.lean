/-
  DfaCaps: for every input the law returns true, and each argument reads behind the call as it read before.
-/
import Derived.Test.YtiodcbipjnmpgaaRows
import Derived.Test.YtiodcbipjnmpgaaAvGlob
import Derived.WalkKit
import Derived.ProofKit
import Derived.OpenShut
import Derived.JoinedCond
import Derived.Shelf.Vars
import Derived.HandedShaped
import Derived.Test.YtiodcbipjnmpgaaAvUp
namespace Go.Proofs.Ytiodcbipjnmpgaa.dfaCaps
open Go.ChangeShapes Go.WideShapes Go.ChangeAt Go.RowKit Go.Av Go.Av.L
set_option linter.unusedVariables false
set_option linter.unusedSimpArgs false
theorem own : ownKnob Try.prog.godebug = none := by kernel_rfl
theorem arg0 : ArgU Try.prog 26 e_S_tree_Tree (fun x : S_tree_Tree => (okLu (fun x : S_tree_Node => (okI .i64) x.Kind ∧ (okI .i64) x.A ∧ (okI .i64) x.B ∧ (okI .i64) x.Min ∧ (okI .i64) x.Max ∧ (okI .i64) x.Group ∧ (fun x : A4_uint64 => (okI .u64) x.w0 ∧ (okI .u64) x.w1 ∧ (okI .u64) x.w2 ∧ (okI .u64) x.w3 ∧ True) x.Set ∧ True)) x.Nodes ∧ (okI .i64) x.Root ∧ True) := uR (P := Try.prog) (t := 26) (e' := e_S_tree_Tree) (ok' := (fun x : S_tree_Tree => (okLu (fun x : S_tree_Node => (okI .i64) x.Kind ∧ (okI .i64) x.A ∧ (okI .i64) x.B ∧ (okI .i64) x.Min ∧ (okI .i64) x.Max ∧ (okI .i64) x.Group ∧ (fun x : A4_uint64 => (okI .u64) x.w0 ∧ (okI .u64) x.w1 ∧ (okI .u64) x.w2 ∧ (okI .u64) x.w3 ∧ True) x.Set ∧ True)) x.Nodes ∧ (okI .i64) x.Root ∧ True)) (ts := [24, 3]) (by kernel_rfl) (fun x : (List S_tree_Node) × (Int) × Unit => (⟨x.1, x.2.1⟩ : S_tree_Tree)) (fun x => rfl) (fun x h => h) (usCons (uL (t := 24) (el := 68) enc_S_tree_Node (by kernel_rfl) (by kernel_rfl) (by decide) (uR (P := Try.prog) (t := 68) (e' := e_S_tree_Node) (ok' := (fun x : S_tree_Node => (okI .i64) x.Kind ∧ (okI .i64) x.A ∧ (okI .i64) x.B ∧ (okI .i64) x.Min ∧ (okI .i64) x.Max ∧ (okI .i64) x.Group ∧ (fun x : A4_uint64 => (okI .u64) x.w0 ∧ (okI .u64) x.w1 ∧ (okI .u64) x.w2 ∧ (okI .u64) x.w3 ∧ True) x.Set ∧ True)) (ts := [3, 3, 3, 3, 3, 3, 66]) (by kernel_rfl) (fun x : (Int) × (Int) × (Int) × (Int) × (Int) × (Int) × (A4_uint64) × Unit => (⟨x.1, x.2.1, x.2.2.1, x.2.2.2.1, x.2.2.2.2.1, x.2.2.2.2.2.1, x.2.2.2.2.2.2.1⟩ : S_tree_Node)) (fun x => rfl) (fun x h => h) (usCons (uI (t := 3) (k := .i64) (by kernel_rfl)) (usCons (uI (t := 3) (k := .i64) (by kernel_rfl)) (usCons (uI (t := 3) (k := .i64) (by kernel_rfl)) (usCons (uI (t := 3) (k := .i64) (by kernel_rfl)) (usCons (uI (t := 3) (k := .i64) (by kernel_rfl)) (usCons (uI (t := 3) (k := .i64) (by kernel_rfl)) (usCons (uA (P := Try.prog) (t := 66) (e' := e_A4_uint64) (ok' := (fun x : A4_uint64 => (okI .u64) x.w0 ∧ (okI .u64) x.w1 ∧ (okI .u64) x.w2 ∧ (okI .u64) x.w3 ∧ True)) (n := 4) (el := 64) (by kernel_rfl) (by kernel_rfl) (fun x : (Int) × (Int) × (Int) × (Int) × Unit => (⟨x.1, x.2.1, x.2.2.1, x.2.2.2.1⟩ : A4_uint64)) (fun x => rfl) (fun x h => h) (usCons (uI (t := 64) (k := .u64) (by kernel_rfl)) (usCons (uI (t := 64) (k := .u64) (by kernel_rfl)) (usCons (uI (t := 64) (k := .u64) (by kernel_rfl)) (usCons (uI (t := 64) (k := .u64) (by kernel_rfl)) (usNil)))))) (usNil)))))))))) (usCons (uI (t := 3) (k := .i64) (by kernel_rfl)) (usNil)))
theorem arg1 : ArgU Try.prog 3 (eI .i64) (okI .i64) := uI (t := 3) (k := .i64) (by kernel_rfl)
set_option maxRecDepth 100000 in
theorem contract (H : Type) (enc : TypeId × Value → H) (W : World) (base : Nat) (args : Array Value) (ds gs : List (DataW H)) (before : List MemPlace)
  (hval : ∀ (j : Nat) t v, Try.f9.params[j]? = some t → args[j]? = some v → Value.okWide Try.prog W .any base t v)
  (hW : DataW.Whole enc Try.prog Try.f9.params.toList Rows.dfaCapsSpec.vars false W args.toList ds gs before) (hk : Rows.uptoSmall H (ds ++ gs) = true) :
  Calls Try.prog 9 args W fun e W' => ∃ v, e = .returned v ∧ Rows.dfaCapsSpec.post enc Try.prog Try.f9 false true false false W args v W' := by
 have hW' := hW
 obtain ⟨p, q, hA0, hV, rfl, hfz, hnd⟩ := hW
 have hA : DataW.TrodAll enc Try.prog W 0 (fun _ => true) true Try.f9.params.toList args.toList ds p := hA0
 rw [Try.params9] at hA
 obtain ⟨v0, vs0, d0, ds0, p0, q0, g0, rfl, _, ⟨fu0, t0⟩, r0⟩ := trodAll_cons hA
 obtain ⟨v1, vs1, d1, ds1, p1, q1, g1, rfl, _, ⟨fu1, t1⟩, r1⟩ := trodAll_cons r0
 obtain ⟨gE, rfl, _⟩ := trodAll_nil r1
 have hargs : args.toList = [v0, v1] := by rw [g0, g1, gE]
 obtain ⟨x0, c0, k0⟩ := arg0.h fu0 _ d0 p0 t0 (Bulk.of_small hk (by simp))
 have V0 := toArg_ok (hval 0 26 v0 (by rw [Try.params9]; rfl) (by rw [← Array.getElem?_toList, hargs]; rfl)) c0 (show toArg Try.prog 26 (e_S_tree_Tree x0) = some (.agg (e_S_tree_Tree x0)) from by kernel_rfl)
 obtain ⟨x1, c1, k1⟩ := arg1.h fu1 _ d1 p1 t1 (Bulk.of_small hk (by simp))
 have V1 := toArg_ok (hval 1 3 v1 (by rw [Try.params9]; rfl) (by rw [← Array.getElem?_toList, hargs]; rfl)) c1 (show toArg Try.prog 3 ((eI .i64) x1) = some (.int .i64 x1) from by kernel_rfl)
 have hm := lawDfaCaps x0 k0 x1 k1
 obtain ⟨v, h', hr, ev, _⟩ := ok_boulterlaw21_DfaCaps (g := ⟨0, []⟩) (h := ⟨0, .leaf⟩) (F := []) (av := [.agg (e_S_tree_Tree x0), .int .i64 x1]) hm (hc := rfl) HH.start
 subst ev
 exact contractV (C := cfg) cfg_ok (globOk_nil W) (by kernel_rfl) Try.func9 (by kernel_rfl) (c := bodyC cfg.P 9) (by kernel_rfl) (by rw [Try.params9]; intro t ht; simp only [List.mem_cons, List.not_mem_nil, or_false] at ht; rcases ht with rfl | rfl <;> exact ⟨by kernel_rfl, of_decide_eq_true (by kernel_rfl)⟩) (tb := 4) (by kernel_rfl) (by kernel_rfl) rfl (by rfl) hW' (by rw [hargs]; exact .cons V0 (.cons V1 (.nil _))) hr
set_option maxRecDepth 100000 in
theorem lifted (os : Os) (started : os.Started) (H : Type) (enc : TypeId × Value → H) (F : Stop.Interp) :
  ReturnsInHanded {} Try.checked os 9 .any ((Rows.OpenSpec.upto Rows.dfaCapsSpec).pre6 enc Try.prog Try.f9 Rows.dfaCapsUptoRow.domain false) (((Rows.OpenSpec.upto Rows.dfaCapsSpec).at F).post enc Try.prog Try.f9 false true false false) := by
 refine returnsInHanded_of_cond (C := Try.checked) (s := (Rows.OpenSpec.upto Rows.dfaCapsSpec)) (k := Rows.uptoSmall) rfl own started (by kernel_rfl) Try.func9
  (OpenSpec.witness (enc := enc) (C := Try.checked) (s := (Rows.OpenSpec.upto Rows.dfaCapsSpec)) (k := Rows.uptoSmall) rfl false ⟨#[], #[.agg #[.slice none 0 0, .int .i64 0], .int .i64 0], []⟩ 8 (by kernel_rfl) (by kernel_rfl) (by kernel_rfl)
   (x := ([.agg [.nil, .lit (.int .i64 0)], .lit (.int .i64 0)], [], [])) (by kernel_rfl) rfl (by kernel_rfl)) ?_
 intro W base args ds gs before hval hW _ hk _
 exact contract H enc W base args ds gs before hval hW hk
set_option maxRecDepth 100000 in
theorem over : Rows.dfaCapsUptoRow.holds Try.pinned (Rows.OpenSpec.upto Rows.dfaCapsSpec) :=
 OpenClaim.holds_of_cond 9 Try.f9 rfl rfl rfl rfl rfl rfl rfl ⟨rfl, rfl, rfl, rfl, rfl⟩ rfl rfl rfl rfl rfl (by kernel_rfl) Try.func9 (by kernel_rfl)
  (of_decide_eq_true (by kernel_rfl)) (by unfold Func.isWrapper; first | (rw [if_pos (by decide +kernel)]; kernel_rfl) | (rw [if_neg (by decide +kernel)]; exact ⟨rfl, rfl⟩))
  (fun os started H enc _ F => lifted os started H enc F)
theorem proved : Rows.DfaCapsUptoSaid := over
#print axioms proved
end Go.Proofs.Ytiodcbipjnmpgaa.dfaCaps
