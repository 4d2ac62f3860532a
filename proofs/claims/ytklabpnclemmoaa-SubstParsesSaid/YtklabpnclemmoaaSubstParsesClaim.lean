/-
  SubstParses: for every input the law returns true, and each argument reads behind the call as it read before.
-/
import Derived.Test.YtklabpnclemmoaaRows
import Derived.Test.YtklabpnclemmoaaSubstLaws
import Derived.WalkKit
import Derived.ProofKit
import Derived.OpenShut
import Derived.JoinedCond
namespace Go.Proofs.Ytklabpnclemmoaa.substParses
open Go.ChangeShapes Go.WideShapes Go.ChangeAt Go.RowKit Go.Abs Go.Abs.L
set_option linter.unusedVariables false
set_option linter.unusedSimpArgs false

theorem own : ownKnob Try.prog.godebug = none := by kernel_rfl

theorem arg0 : ArgT Try.prog 9 (RStr _) := argStr (by kernel_rfl) (by kernel_rfl)

set_option maxRecDepth 100000 in
theorem contract (H : Type) (enc : TypeId × Value → H) (W : World) (base : Nat) (args : Array Value) (ds gs : List (DataW H)) (before : List MemPlace)
    (hval : ∀ (j : Nat) t v, Try.f12.params[j]? = some t → args[j]? = some v → Value.okWide Try.prog W .any base t v)
    (hW : DataW.Whole enc Try.prog Try.f12.params.toList Rows.substParsesSpec.vars false W args.toList ds gs before) :
    Calls Try.prog 12 args W fun e W' => ∃ v, e = .returned v ∧ Rows.substParsesSpec.post enc Try.prog Try.f12 false true false false W args v W' := by
  have hW' := hW
  obtain ⟨p, q, hA0, hV, rfl, hfz, hnd⟩ := hW
  have hA : DataW.TrodAll enc Try.prog W 0 (fun _ => true) true Try.f12.params.toList args.toList ds p := hA0
  rw [Try.params12] at hA
  obtain ⟨v0, vs0, d0, ds0, p0, q0, _, rfl, _, ⟨fu0, t0⟩, r0⟩ := trodAll_cons hA
  obtain ⟨_, rfl, _⟩ := trodAll_nil r0
  obtain ⟨hgs, _⟩ := trodVars_none hV
  subst hgs
  obtain ⟨x0, as0, h0, e0, b0, l0, s0, k0, w0⟩ := arg0.2 fu0 _ d0 p0 t0 (⟨0, .leaf⟩ : AHeap)
  have b0 : as0 = [.str x0] := b0
  subst b0
  have hm := lawSubstParses h0 x0 k0
  have hargs : argsA Try.prog Try.f12.params.toList (⟨0, .leaf⟩ : AHeap) [d0] = some ([.str x0], h0) := by
    rw [Try.params12]
    simp only [argsA, e0, Option.bind_some, Option.map_some]
    rw [show toArg Try.prog 9 _ = some (.str x0) from by kernel_rfl]
    simp only [Option.bind_some, Option.map_some]
  exact contract_of (C := cfg) cfg_ok (by kernel_rfl) Try.func12 (by kernel_rfl) (c := bodyC cfg.P 12) (by kernel_rfl) (by rw [Try.params12]; intro t ht; simp only [List.mem_cons, List.not_mem_nil, or_false] at ht; rcases ht with rfl <;> exact ⟨by kernel_rfl, of_decide_eq_true (by kernel_rfl)⟩) (tb := 4) (by kernel_rfl) (by kernel_rfl) rfl (by rfl) hval hW' hargs (ok_boulterlaw23_SubstParses hm)

set_option maxRecDepth 100000 in
theorem lifted (os : Os) (started : os.Started) (H : Type) (enc : TypeId × Value → H) :
    ReturnsInHanded {} Try.checked os 12 .any (Rows.substParsesSpec.pre6 enc Try.prog Try.f12 Rows.substParsesRow.domain false) (Rows.substParsesSpec.post enc Try.prog Try.f12 false true false false) := by
  refine returnsInHanded_of_change (C := Try.checked) (s := Rows.substParsesSpec) own started (by kernel_rfl) Try.func12
    (ChangeSpec.witness6 (enc := enc) (C := Try.checked) (s := Rows.substParsesSpec) false ⟨#[], #[.string ⟨#[]⟩], []⟩ 8 (by kernel_rfl) (by kernel_rfl) (by kernel_rfl) (by kernel_rfl)) ?_
  intro W base args ds gs before hval hW _ _
  exact contract H enc W base args ds gs before hval hW

set_option maxRecDepth 100000 in
theorem over : Rows.substParsesRow.holds Try.pinned (OpenSpec.ofChange Rows.substParsesSpec) :=
  OpenClaim.holds_of_wide 12 Try.f12 rfl rfl rfl rfl rfl rfl rfl ⟨rfl, rfl, rfl, rfl, rfl⟩ rfl rfl rfl rfl rfl (by kernel_rfl) Try.func12 (by kernel_rfl)
    (of_decide_eq_true (by kernel_rfl)) (by unfold Func.isWrapper; first | (rw [if_pos (by decide +kernel)]; kernel_rfl) | (rw [if_neg (by decide +kernel)]; exact ⟨rfl, rfl⟩))
    (fun os started H enc _ => lifted os started H enc)

theorem proved : Rows.SubstParsesSaid := over
#print axioms proved
end Go.Proofs.Ytklabpnclemmoaa.substParses
