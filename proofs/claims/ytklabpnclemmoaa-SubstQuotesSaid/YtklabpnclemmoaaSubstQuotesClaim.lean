/-
  SubstQuotes: for every input the law returns true, and each argument reads behind the call as it read before.
-/
import Derived.Test.YtklabpnclemmoaaRows
import Derived.Test.YtklabpnclemmoaaSubstLaws
import Derived.WalkKit
import Derived.ProofKit
import Derived.OpenShut
import Derived.JoinedCond
namespace Go.Proofs.Ytklabpnclemmoaa.substQuotes
open Go.ChangeShapes Go.WideShapes Go.ChangeAt Go.RowKit Go.Abs Go.Abs.L
set_option linter.unusedVariables false
set_option linter.unusedSimpArgs false

theorem own : ownKnob Try.prog.godebug = none := by kernel_rfl

theorem arg0 : ArgT Try.prog 9 (RStr _) := argStr (by kernel_rfl) (by kernel_rfl)
theorem arg1 : ArgT Try.prog 9 (RStr _) := argStr (by kernel_rfl) (by kernel_rfl)

set_option maxRecDepth 100000 in
theorem contract (H : Type) (enc : TypeId × Value → H) (W : World) (base : Nat) (args : Array Value) (ds gs : List (DataW H)) (before : List MemPlace)
    (hval : ∀ (j : Nat) t v, Try.f13.params[j]? = some t → args[j]? = some v → Value.okWide Try.prog W .any base t v)
    (hW : DataW.Whole enc Try.prog Try.f13.params.toList Rows.substQuotesSpec.vars false W args.toList ds gs before) :
    Calls Try.prog 13 args W fun e W' => ∃ v, e = .returned v ∧ Rows.substQuotesSpec.post enc Try.prog Try.f13 false true false false W args v W' := by
  have hW' := hW
  obtain ⟨p, q, hA0, hV, rfl, hfz, hnd⟩ := hW
  have hA : DataW.TrodAll enc Try.prog W 0 (fun _ => true) true Try.f13.params.toList args.toList ds p := hA0
  rw [Try.params13] at hA
  obtain ⟨v0, vs0, d0, ds0, p0, q0, _, rfl, _, ⟨fu0, t0⟩, r0⟩ := trodAll_cons hA
  obtain ⟨v1, vs1, d1, ds1, p1, q1, _, rfl, _, ⟨fu1, t1⟩, r1⟩ := trodAll_cons r0
  obtain ⟨_, rfl, _⟩ := trodAll_nil r1
  obtain ⟨hgs, _⟩ := trodVars_none hV
  subst hgs
  obtain ⟨x0, as0, h0, e0, b0, l0, s0, k0, w0⟩ := arg0.2 fu0 _ d0 p0 t0 (⟨0, .leaf⟩ : AHeap)
  obtain ⟨x1, as1, h1, e1, b1, l1, s1, k1, w1⟩ := arg1.2 fu1 _ d1 p1 t1 h0
  have b0 := RT.mono _ b0 s1 (fun id hi => show id < h1.size by omega)
  have b0 : as0 = [.str x0] := b0
  subst b0
  have b1 : as1 = [.str x1] := b1
  subst b1
  have hm := lawSubstQuotes h1 x0 k0 x1 k1
  have hargs : argsA Try.prog Try.f13.params.toList (⟨0, .leaf⟩ : AHeap) [d0, d1] = some ([.str x0, .str x1], h1) := by
    rw [Try.params13]
    simp only [argsA, e0, e1, Option.bind_some, Option.map_some]
    rw [show toArg Try.prog 9 _ = some (.str x0) from by kernel_rfl]
    simp only [Option.bind_some]
    rw [show toArg Try.prog 9 _ = some (.str x1) from by kernel_rfl]
    simp only [Option.bind_some, Option.map_some]
  exact contract_of (C := cfg) cfg_ok (by kernel_rfl) Try.func13 (by kernel_rfl) (c := bodyC cfg.P 13) (by kernel_rfl) (by rw [Try.params13]; intro t ht; simp only [List.mem_cons, List.not_mem_nil, or_false] at ht; rcases ht with rfl | rfl <;> exact ⟨by kernel_rfl, of_decide_eq_true (by kernel_rfl)⟩) (tb := 4) (by kernel_rfl) (by kernel_rfl) rfl (by rfl) hval hW' hargs (ok_boulterlaw23_SubstQuotes hm)

set_option maxRecDepth 100000 in
theorem lifted (os : Os) (started : os.Started) (H : Type) (enc : TypeId × Value → H) :
    ReturnsInHanded {} Try.checked os 13 .any (Rows.substQuotesSpec.pre6 enc Try.prog Try.f13 Rows.substQuotesRow.domain false) (Rows.substQuotesSpec.post enc Try.prog Try.f13 false true false false) := by
  refine returnsInHanded_of_change (C := Try.checked) (s := Rows.substQuotesSpec) own started (by kernel_rfl) Try.func13
    (ChangeSpec.witness6 (enc := enc) (C := Try.checked) (s := Rows.substQuotesSpec) false ⟨#[], #[.string ⟨#[]⟩, .string ⟨#[]⟩], []⟩ 8 (by kernel_rfl) (by kernel_rfl) (by kernel_rfl) (by kernel_rfl)) ?_
  intro W base args ds gs before hval hW _ _
  exact contract H enc W base args ds gs before hval hW

set_option maxRecDepth 100000 in
theorem over : Rows.substQuotesRow.holds Try.pinned (OpenSpec.ofChange Rows.substQuotesSpec) :=
  OpenClaim.holds_of_wide 13 Try.f13 rfl rfl rfl rfl rfl rfl rfl ⟨rfl, rfl, rfl, rfl, rfl⟩ rfl rfl rfl rfl rfl (by kernel_rfl) Try.func13 (by kernel_rfl)
    (of_decide_eq_true (by kernel_rfl)) (by unfold Func.isWrapper; first | (rw [if_pos (by decide +kernel)]; kernel_rfl) | (rw [if_neg (by decide +kernel)]; exact ⟨rfl, rfl⟩))
    (fun os started H enc _ => lifted os started H enc)

theorem proved : Rows.SubstQuotesSaid := over
#print axioms proved
end Go.Proofs.Ytklabpnclemmoaa.substQuotes
