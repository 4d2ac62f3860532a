/-
  GroupsRow: for every input the law returns true, and each argument reads behind the call as it read before.
-/
import Derived.Test.YtiodcbipjnmpgaaRows
import Derived.Test.YtiodcbipjnmpgaaGrL
import Derived.WalkKit
import Derived.ProofKit
import Derived.OpenShut
import Derived.JoinedCond
import Derived.Shelf.Vars
import Derived.HandedShaped
import Derived.Test.YtiodcbipjnmpgaaAvGlob
namespace Go.Proofs.Ytiodcbipjnmpgaa.groupsRow
open Go.ChangeShapes Go.WideShapes Go.ChangeAt Go.RowKit Go.Av Go.Av.L
set_option linter.unusedVariables false
set_option linter.unusedSimpArgs false
theorem own : ownKnob Try.prog.godebug = none := by kernel_rfl
theorem arg0 : ArgV Try.prog 9 eS okT := argS (t := 9) (by kernel_rfl)
theorem arg1 : ArgV Try.prog 9 eS okT := argS (t := 9) (by kernel_rfl)
theorem maxLen {W : World} (hs : W.ShapedOpen Try.prog) : ∃ n : Int, W.cell? ⟨0, 0, none⟩ = some (.int .i64 n) :=
 cell_of_shapedOpen_int (g := 0) (t := 3) (zero := #[.int .i64 0]) (k := .i64) hs (of_decide_eq_true (by kernel_rfl)) (by kernel_rfl) rfl (by kernel_rfl) (by kernel_rfl) (by kernel_rfl)
theorem globsOk {W : World} (hs : W.ShapedOpen Try.prog) : GlobOk cfg.glob W := globOk_int (maxLen hs) (globOk_nil W)
set_option maxRecDepth 100000 in
theorem contract (H : Type) (enc : TypeId × Value → H) (W : World) (base : Nat) (args : Array Value) (ds gs : List (DataW H)) (before : List MemPlace)
  (hval : ∀ (j : Nat) t v, Try.f3.params[j]? = some t → args[j]? = some v → Value.okWide Try.prog W .any base t v)
  (hW : DataW.Whole enc Try.prog Try.f3.params.toList Rows.groupsRowSpec.vars false W args.toList ds gs before) (hs : W.ShapedOpen Try.prog) :
  Calls Try.prog 3 args W fun e W' => ∃ v, e = .returned v ∧ Rows.groupsRowSpec.post enc Try.prog Try.f3 false true false false W args v W' := by
 have hW' := hW
 obtain ⟨p, q, hA0, hV, rfl, hfz, hnd⟩ := hW
 have hA : DataW.TrodAll enc Try.prog W 0 (fun _ => true) true Try.f3.params.toList args.toList ds p := hA0
 rw [Try.params3] at hA
 obtain ⟨v0, vs0, d0, ds0, p0, q0, g0, rfl, _, ⟨fu0, t0⟩, r0⟩ := trodAll_cons hA
 obtain ⟨v1, vs1, d1, ds1, p1, q1, g1, rfl, _, ⟨fu1, t1⟩, r1⟩ := trodAll_cons r0
 obtain ⟨gE, rfl, _⟩ := trodAll_nil r1
 have hargs : args.toList = [v0, v1] := by rw [g0, g1, gE]
 obtain ⟨x0, c0, k0⟩ := arg0.h fu0 _ d0 p0 t0
 have V0 := toArg_ok (hval 0 9 v0 (by rw [Try.params3]; rfl) (by rw [← Array.getElem?_toList, hargs]; rfl)) c0 (show toArg Try.prog 9 (eS x0) = some (.str x0) from by kernel_rfl)
 obtain ⟨x1, c1, k1⟩ := arg1.h fu1 _ d1 p1 t1
 have V1 := toArg_ok (hval 1 9 v1 (by rw [Try.params3]; rfl) (by rw [← Array.getElem?_toList, hargs]; rfl)) c1 (show toArg Try.prog 9 (eS x1) = some (.str x1) from by kernel_rfl)
 have hm := lawGroupsRow x0 k0 x1 k1
 obtain ⟨v, h', hr, ev, _⟩ := ok_boulterlaw22_GroupsRow (g := ⟨0, []⟩) (h := ⟨0, .leaf⟩) (F := []) (av := [.str x0, .str x1]) hm (hc := rfl) HH.start
 subst ev
 exact contractV (C := cfg) cfg_ok (globsOk hs) (by kernel_rfl) Try.func3 (by kernel_rfl) (c := bodyC cfg.P 3) (by kernel_rfl) (by rw [Try.params3]; intro t ht; simp only [List.mem_cons, List.not_mem_nil, or_false] at ht; rcases ht with rfl | rfl <;> exact ⟨by kernel_rfl, of_decide_eq_true (by kernel_rfl)⟩) (tb := 4) (by kernel_rfl) (by kernel_rfl) rfl (by rfl) hW' (by rw [hargs]; exact .cons V0 (.cons V1 (.nil _))) hr
set_option maxRecDepth 100000 in
theorem lifted (os : Os) (started : os.Started) (H : Type) (enc : TypeId × Value → H) :
  ReturnsInHanded {} Try.checked os 3 .any (Rows.groupsRowSpec.pre6 enc Try.prog Try.f3 Rows.groupsRowRow.domain false) (Rows.groupsRowSpec.post enc Try.prog Try.f3 false true false false) := by
 refine returnsInHanded_of_change_shaped (C := Try.checked) (s := Rows.groupsRowSpec) own started (by kernel_rfl) Try.func3
  (ChangeSpec.witness6 (enc := enc) (C := Try.checked) (s := Rows.groupsRowSpec) false ⟨#[], #[.string ⟨#[]⟩, .string ⟨#[]⟩], []⟩ 8 (by kernel_rfl) (by kernel_rfl) (by kernel_rfl) (by kernel_rfl)) ?_
 intro W base args ds gs before hval hW _ _ hs _
 exact contract H enc W base args ds gs before hval hW hs
set_option maxRecDepth 100000 in
theorem over : Rows.groupsRowRow.holds Try.pinned (OpenSpec.ofChange Rows.groupsRowSpec) :=
 OpenClaim.holds_of_wide 3 Try.f3 rfl rfl rfl rfl rfl rfl rfl ⟨rfl, rfl, rfl, rfl, rfl⟩ rfl rfl rfl rfl rfl (by kernel_rfl) Try.func3 (by kernel_rfl)
  (of_decide_eq_true (by kernel_rfl)) (by unfold Func.isWrapper; first | (rw [if_pos (by decide +kernel)]; kernel_rfl) | (rw [if_neg (by decide +kernel)]; exact ⟨rfl, rfl⟩))
  (fun os started H enc _ => lifted os started H enc)
theorem proved : Rows.GroupsRowSaid := over
#print axioms proved
end Go.Proofs.Ytiodcbipjnmpgaa.groupsRow
