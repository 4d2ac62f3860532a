/-
  DfaRex: for every input the law returns true, and each argument reads behind the call as it read before.
-/
import Derived.Test.YtiodcbipjnmpgaaRows
import Derived.Test.YtiodcbipjnmpgaaAvGlob
import Derived.WalkKit
import Derived.ProofKit
import Derived.OpenShut
import Derived.JoinedCond
import Derived.Shelf.Vars
import Derived.HandedShaped
namespace Go.Proofs.Ytiodcbipjnmpgaa.dfaRex
open Go.ChangeShapes Go.WideShapes Go.ChangeAt Go.RowKit Go.Av Go.Av.L
set_option linter.unusedVariables false
set_option linter.unusedSimpArgs false
theorem own : ownKnob Try.prog.godebug = none := by kernel_rfl
theorem arg0 : ArgV Try.prog 9 eS okT := argS (t := 9) (by kernel_rfl)
theorem arg1 : ArgV Try.prog 4 eB (fun _ => True) := argB (t := 4) (by kernel_rfl)
theorem arg2 : ArgV Try.prog 9 eS okT := argS (t := 9) (by kernel_rfl)
theorem arg3 : ArgV Try.prog 3 (eI .i64) (okI .i64) := argI (t := 3) (k := .i64) (by kernel_rfl)
theorem maxLen {W : World} (hs : W.ShapedOpen Try.prog) : ∃ n : Int, W.cell? ⟨0, 0, none⟩ = some (.int .i64 n) :=
 cell_of_shapedOpen_int (g := 0) (t := 3) (zero := #[.int .i64 0]) (k := .i64) hs (of_decide_eq_true (by kernel_rfl)) (by kernel_rfl) rfl (by kernel_rfl) (by kernel_rfl) (by kernel_rfl)
theorem globsOk {W : World} (hs : W.ShapedOpen Try.prog) : GlobOk cfg.glob W := globOk_int (maxLen hs) (globOk_nil W)
set_option maxRecDepth 100000 in
theorem contract (H : Type) (enc : TypeId × Value → H) (W : World) (base : Nat) (args : Array Value) (ds gs : List (DataW H)) (before : List MemPlace)
  (hval : ∀ (j : Nat) t v, Try.f8.params[j]? = some t → args[j]? = some v → Value.okWide Try.prog W .any base t v)
  (hW : DataW.Whole enc Try.prog Try.f8.params.toList Rows.dfaRexSpec.vars false W args.toList ds gs before) (hs : W.ShapedOpen Try.prog) :
  Calls Try.prog 8 args W fun e W' => ∃ v, e = .returned v ∧ Rows.dfaRexSpec.post enc Try.prog Try.f8 false true false false W args v W' := by
 have hW' := hW
 obtain ⟨p, q, hA0, hV, rfl, hfz, hnd⟩ := hW
 have hA : DataW.TrodAll enc Try.prog W 0 (fun _ => true) true Try.f8.params.toList args.toList ds p := hA0
 rw [Try.params8] at hA
 obtain ⟨v0, vs0, d0, ds0, p0, q0, g0, rfl, _, ⟨fu0, t0⟩, r0⟩ := trodAll_cons hA
 obtain ⟨v1, vs1, d1, ds1, p1, q1, g1, rfl, _, ⟨fu1, t1⟩, r1⟩ := trodAll_cons r0
 obtain ⟨v2, vs2, d2, ds2, p2, q2, g2, rfl, _, ⟨fu2, t2⟩, r2⟩ := trodAll_cons r1
 obtain ⟨v3, vs3, d3, ds3, p3, q3, g3, rfl, _, ⟨fu3, t3⟩, r3⟩ := trodAll_cons r2
 obtain ⟨gE, rfl, _⟩ := trodAll_nil r3
 have hargs : args.toList = [v0, v1, v2, v3] := by rw [g0, g1, g2, g3, gE]
 obtain ⟨x0, c0, k0⟩ := arg0.h fu0 _ d0 p0 t0
 have V0 := toArg_ok (hval 0 9 v0 (by rw [Try.params8]; rfl) (by rw [← Array.getElem?_toList, hargs]; rfl)) c0 (show toArg Try.prog 9 (eS x0) = some (.str x0) from by kernel_rfl)
 obtain ⟨x1, c1, k1⟩ := arg1.h fu1 _ d1 p1 t1
 have V1 := toArg_ok (hval 1 4 v1 (by rw [Try.params8]; rfl) (by rw [← Array.getElem?_toList, hargs]; rfl)) c1 (show toArg Try.prog 4 (eB x1) = some (.bool x1) from by kernel_rfl)
 obtain ⟨x2, c2, k2⟩ := arg2.h fu2 _ d2 p2 t2
 have V2 := toArg_ok (hval 2 9 v2 (by rw [Try.params8]; rfl) (by rw [← Array.getElem?_toList, hargs]; rfl)) c2 (show toArg Try.prog 9 (eS x2) = some (.str x2) from by kernel_rfl)
 obtain ⟨x3, c3, k3⟩ := arg3.h fu3 _ d3 p3 t3
 have V3 := toArg_ok (hval 3 3 v3 (by rw [Try.params8]; rfl) (by rw [← Array.getElem?_toList, hargs]; rfl)) c3 (show toArg Try.prog 3 ((eI .i64) x3) = some (.int .i64 x3) from by kernel_rfl)
 have hm := lawDfaRex x0 k0 x1 k1 x2 k2 x3 k3
 obtain ⟨v, h', hr, ev, _⟩ := ok_boulterlaw21_DfaRex (g := ⟨0, []⟩) (h := ⟨0, .leaf⟩) (F := []) (av := [.str x0, .bool x1, .str x2, .int .i64 x3]) hm (hc := rfl) HH.start
 subst ev
 exact contractV (C := cfg) cfg_ok (globsOk hs) (by kernel_rfl) Try.func8 (by kernel_rfl) (c := bodyC cfg.P 8) (by kernel_rfl) (by rw [Try.params8]; intro t ht; simp only [List.mem_cons, List.not_mem_nil, or_false] at ht; rcases ht with rfl | rfl | rfl | rfl <;> exact ⟨by kernel_rfl, of_decide_eq_true (by kernel_rfl)⟩) (tb := 4) (by kernel_rfl) (by kernel_rfl) rfl (by rfl) hW' (by rw [hargs]; exact .cons V0 (.cons V1 (.cons V2 (.cons V3 (.nil _))))) hr
set_option maxRecDepth 100000 in
theorem lifted (os : Os) (started : os.Started) (H : Type) (enc : TypeId × Value → H) :
  ReturnsInHanded {} Try.checked os 8 .any (Rows.dfaRexSpec.pre6 enc Try.prog Try.f8 Rows.dfaRexRow.domain false) (Rows.dfaRexSpec.post enc Try.prog Try.f8 false true false false) := by
 refine returnsInHanded_of_change_shaped (C := Try.checked) (s := Rows.dfaRexSpec) own started (by kernel_rfl) Try.func8
  (ChangeSpec.witness6 (enc := enc) (C := Try.checked) (s := Rows.dfaRexSpec) false ⟨#[], #[.string ⟨#[]⟩, .bool false, .string ⟨#[]⟩, .int .i64 0], []⟩ 8 (by kernel_rfl) (by kernel_rfl) (by kernel_rfl) (by kernel_rfl)) ?_
 intro W base args ds gs before hval hW _ _ hs _
 exact contract H enc W base args ds gs before hval hW hs
set_option maxRecDepth 100000 in
theorem over : Rows.dfaRexRow.holds Try.pinned (OpenSpec.ofChange Rows.dfaRexSpec) :=
 OpenClaim.holds_of_wide 8 Try.f8 rfl rfl rfl rfl rfl rfl rfl ⟨rfl, rfl, rfl, rfl, rfl⟩ rfl rfl rfl rfl rfl (by kernel_rfl) Try.func8 (by kernel_rfl)
  (of_decide_eq_true (by kernel_rfl)) (by unfold Func.isWrapper; first | (rw [if_pos (by decide +kernel)]; kernel_rfl) | (rw [if_neg (by decide +kernel)]; exact ⟨rfl, rfl⟩))
  (fun os started H enc _ => lifted os started H enc)
theorem proved : Rows.DfaRexSaid := over
#print axioms proved
end Go.Proofs.Ytiodcbipjnmpgaa.dfaRex
