/-
  FeedPlays: for every input the law returns true, and each argument reads behind the call as it read before.
-/
import Derived.Test.YteeaeioplbameaaRows
import Derived.Test.YteeaeioplbameaaFeedP
import Derived.WalkKit
import Derived.ProofKit
import Derived.OpenShut
import Derived.JoinedCond
import Derived.Test.YteeaeioplbameaaAvGlob
namespace Go.Proofs.Yteeaeioplbameaa.feedPlays
open Go.ChangeShapes Go.WideShapes Go.ChangeAt Go.RowKit Go.Av Go.Av.L
set_option linter.unusedVariables false
set_option linter.unusedSimpArgs false

theorem own : ownKnob Try.prog.godebug = none := by kernel_rfl

theorem arg0 : ArgV Try.prog 32 (eL e_S_boulterlaw08_Op) (okL (fun x : S_boulterlaw08_Op => (okI .i64) x.Kind ∧ (okI .i64) x.N ∧ okT x.S ∧ True)) := argL (t := 32) (el := 37) enc_S_boulterlaw08_Op (by kernel_rfl) (by kernel_rfl) (by decide) (argR (P := Try.prog) (t := 37) (e' := e_S_boulterlaw08_Op) (ok' := (fun x : S_boulterlaw08_Op => (okI .i64) x.Kind ∧ (okI .i64) x.N ∧ okT x.S ∧ True)) (ts := [3, 3, 9]) (by kernel_rfl) (fun x : (Int) × (Int) × (List UInt8) × Unit => (⟨x.1, x.2.1, x.2.2.1⟩ : S_boulterlaw08_Op)) (fun x => rfl) (fun x h => h) (argsCons (argI (t := 3) (k := .i64) (by kernel_rfl)) (argsCons (argI (t := 3) (k := .i64) (by kernel_rfl)) (argsCons (argS (t := 9) (by kernel_rfl)) (argsNil)))))

set_option maxRecDepth 100000 in
theorem contract (H : Type) (enc : TypeId × Value → H) (W : World) (base : Nat) (args : Array Value) (ds gs : List (DataW H)) (before : List MemPlace)
    (hval : ∀ (j : Nat) t v, Try.f5.params[j]? = some t → args[j]? = some v → Value.okWide Try.prog W .any base t v)
    (hW : DataW.Whole enc Try.prog Try.f5.params.toList Rows.feedPlaysSpec.vars false W args.toList ds gs before) :
    Calls Try.prog 5 args W fun e W' => ∃ v, e = .returned v ∧ Rows.feedPlaysSpec.post enc Try.prog Try.f5 false true false false W args v W' := by
  have hW' := hW
  obtain ⟨p, q, hA0, hV, rfl, hfz, hnd⟩ := hW
  have hA : DataW.TrodAll enc Try.prog W 0 (fun _ => true) true Try.f5.params.toList args.toList ds p := hA0
  rw [Try.params5] at hA
  obtain ⟨v0, vs0, d0, ds0, p0, q0, g0, rfl, _, ⟨fu0, t0⟩, r0⟩ := trodAll_cons hA
  obtain ⟨gE, rfl, _⟩ := trodAll_nil r0
  have hargs : args.toList = [v0] := by rw [g0, gE]
  obtain ⟨x0, c0, k0⟩ := arg0.h fu0 _ d0 p0 t0
  have V0 := toArg_ok (hval 0 32 v0 (by rw [Try.params5]; rfl) (by rw [← Array.getElem?_toList, hargs]; rfl)) c0 (show toArg Try.prog 32 ((eL e_S_boulterlaw08_Op) x0) = some (vs e_S_boulterlaw08_Op x0) from by kernel_rfl)
  have hm := lawFeedPlays x0 k0
  obtain ⟨v, h', hr, ev, _⟩ := ok_boulterlaw08_FeedPlays (g := ⟨0, []⟩) (h := ⟨0, .leaf⟩) (F := []) (av := [vs e_S_boulterlaw08_Op x0]) hm rfl HH.start
  subst ev
  exact contractV (C := cfg) cfg_ok (globOk_nil W) (by kernel_rfl) Try.func5 (by kernel_rfl) (c := bodyC cfg.P 5) (by kernel_rfl) (by rw [Try.params5]; intro t ht; simp only [List.mem_cons, List.not_mem_nil, or_false] at ht; rcases ht with rfl <;> exact ⟨by kernel_rfl, of_decide_eq_true (by kernel_rfl)⟩) (tb := 4) (by kernel_rfl) (by kernel_rfl) rfl (by rfl) hW' (by rw [hargs]; exact .cons V0 (.nil _)) hr

set_option maxRecDepth 100000 in
theorem lifted (os : Os) (started : os.Started) (H : Type) (enc : TypeId × Value → H) :
    ReturnsInHanded {} Try.checked os 5 .any (Rows.feedPlaysSpec.pre6 enc Try.prog Try.f5 Rows.feedPlaysRow.domain false) (Rows.feedPlaysSpec.post enc Try.prog Try.f5 false true false false) := by
  refine returnsInHanded_of_change (C := Try.checked) (s := Rows.feedPlaysSpec) own started (by kernel_rfl) Try.func5
    (ChangeSpec.witness6 (enc := enc) (C := Try.checked) (s := Rows.feedPlaysSpec) false ⟨#[], #[.slice none 0 0], []⟩ 8 (by kernel_rfl) (by kernel_rfl) (by kernel_rfl) (by kernel_rfl)) ?_
  intro W base args ds gs before hval hW _ _
  exact contract H enc W base args ds gs before hval hW

set_option maxRecDepth 100000 in
theorem over : Rows.feedPlaysRow.holds Try.pinned (OpenSpec.ofChange Rows.feedPlaysSpec) :=
  OpenClaim.holds_of_wide 5 Try.f5 rfl rfl rfl rfl rfl rfl rfl ⟨rfl, rfl, rfl, rfl, rfl⟩ rfl rfl rfl rfl rfl (by kernel_rfl) Try.func5 (by kernel_rfl)
    (of_decide_eq_true (by kernel_rfl)) (by unfold Func.isWrapper; first | (rw [if_pos (by decide +kernel)]; kernel_rfl) | (rw [if_neg (by decide +kernel)]; exact ⟨rfl, rfl⟩))
    (fun os started H enc _ => lifted os started H enc)

theorem proved : Rows.FeedPlaysSaid := over
#print axioms proved
end Go.Proofs.Yteeaeioplbameaa.feedPlays
