/-
  SubstExpands: for every input the law returns true, and each argument reads behind the call as it read before.
-/
import Derived.Test.YtklabpnclemmoaaRows
import Derived.Test.YtklabpnclemmoaaSubstRefExp
import Derived.WalkKit
import Derived.ProofKit
import Derived.OpenShut
import Derived.JoinedCond
namespace Go.Proofs.Ytklabpnclemmoaa.substExpands
open Go.ChangeShapes Go.WideShapes Go.ChangeAt Go.RowKit Go.Abs Go.Abs.L
set_option linter.unusedVariables false
set_option linter.unusedSimpArgs false

theorem own : ownKnob Try.prog.godebug = none := by kernel_rfl

theorem arg0 : ArgT Try.prog 46 (RSlice RPart) := argSlice (by kernel_rfl) (by kernel_rfl) (by kernel_rfl) (argIso (argFields (t := 50) (ts := [3, 3, 9]) (by kernel_rfl) (by kernel_rfl) (argCons (argInt (by kernel_rfl) (by kernel_rfl)) (argCons (argInt (by kernel_rfl) (by kernel_rfl)) (argCons (argStr (by kernel_rfl) (by kernel_rfl)) argNil)))) (fun x => (x.1, x.2.1, x.2.2.1)) (fun _ => rfl))
theorem arg1 : ArgT Try.prog 9 (RStr _) := argStr (by kernel_rfl) (by kernel_rfl)
theorem arg2 : ArgT Try.prog 47 (RSlice RSpan) := argSlice (by kernel_rfl) (by kernel_rfl) (by kernel_rfl) (argIso (argFields (t := 54) (ts := [3, 3, 4]) (by kernel_rfl) (by kernel_rfl) (argCons (argInt (by kernel_rfl) (by kernel_rfl)) (argCons (argInt (by kernel_rfl) (by kernel_rfl)) (argCons (argBool (by kernel_rfl) (by kernel_rfl)) argNil)))) (fun x => (x.1, x.2.1, x.2.2.1)) (fun _ => rfl))

set_option maxRecDepth 100000 in
theorem contract (H : Type) (enc : TypeId × Value → H) (W : World) (base : Nat) (args : Array Value) (ds gs : List (DataW H)) (before : List MemPlace)
    (hval : ∀ (j : Nat) t v, Try.f7.params[j]? = some t → args[j]? = some v → Value.okWide Try.prog W .any base t v)
    (hW : DataW.Whole enc Try.prog Try.f7.params.toList Rows.substExpandsSpec.vars false W args.toList ds gs before) :
    Calls Try.prog 7 args W fun e W' => ∃ v, e = .returned v ∧ Rows.substExpandsSpec.post enc Try.prog Try.f7 false true false false W args v W' := by
  have hW' := hW
  obtain ⟨p, q, hA0, hV, rfl, hfz, hnd⟩ := hW
  have hA : DataW.TrodAll enc Try.prog W 0 (fun _ => true) true Try.f7.params.toList args.toList ds p := hA0
  rw [Try.params7] at hA
  obtain ⟨v0, vs0, d0, ds0, p0, q0, _, rfl, _, ⟨fu0, t0⟩, r0⟩ := trodAll_cons hA
  obtain ⟨v1, vs1, d1, ds1, p1, q1, _, rfl, _, ⟨fu1, t1⟩, r1⟩ := trodAll_cons r0
  obtain ⟨v2, vs2, d2, ds2, p2, q2, _, rfl, _, ⟨fu2, t2⟩, r2⟩ := trodAll_cons r1
  obtain ⟨_, rfl, _⟩ := trodAll_nil r2
  obtain ⟨hgs, _⟩ := trodVars_none hV
  subst hgs
  obtain ⟨x0, as0, h0, e0, b0, l0, s0, k0, w0⟩ := arg0.2 fu0 _ d0 p0 t0 (⟨0, .leaf⟩ : AHeap)
  obtain ⟨x1, as1, h1, e1, b1, l1, s1, k1, w1⟩ := arg1.2 fu1 _ d1 p1 t1 h0
  obtain ⟨x2, as2, h2, e2, b2, l2, s2, k2, w2⟩ := arg2.2 fu2 _ d2 p2 t2 h1
  have b0 := RT.mono _ b0 s1 (fun id hi => show id < h1.size by omega)
  have b0 := RT.mono _ b0 s2 (fun id hi => show id < h2.size by omega)
  have b1 := RT.mono _ b1 s2 (fun id hi => show id < h2.size by omega)
  obtain ⟨c0, rfl, m0, u0⟩ := b0
  have b1 : as1 = [.str x1] := b1
  subst b1
  obtain ⟨c2, rfl, m2, u2⟩ := b2
  have hm := lawSubstExpands h2 x0 k0 c0 m0 u0 x1 k1 x2 k2 c2 m2 u2
  have hargs : argsA Try.prog Try.f7.params.toList (⟨0, .leaf⟩ : AHeap) [d0, d1, d2] = some ([c0.v, .str x1, c2.v], h2) := by
    rw [Try.params7]
    simp only [argsA, e0, e1, e2, Option.bind_some, Option.map_some]
    rw [show toArg Try.prog 46 _ = some (c0.v) from by kernel_rfl]
    simp only [Option.bind_some]
    rw [show toArg Try.prog 9 _ = some (.str x1) from by kernel_rfl]
    simp only [Option.bind_some]
    rw [show toArg Try.prog 47 _ = some (c2.v) from by kernel_rfl]
    simp only [Option.bind_some, Option.map_some]
  exact contract_of (C := cfg) cfg_ok (by kernel_rfl) Try.func7 (by kernel_rfl) (c := bodyC cfg.P 7) (by kernel_rfl) (by rw [Try.params7]; intro t ht; simp only [List.mem_cons, List.not_mem_nil, or_false] at ht; rcases ht with rfl | rfl | rfl <;> exact ⟨by kernel_rfl, of_decide_eq_true (by kernel_rfl)⟩) (tb := 4) (by kernel_rfl) (by kernel_rfl) rfl (by rfl) hval hW' hargs (ok_boulterlaw23_SubstExpands hm)

set_option maxRecDepth 100000 in
theorem lifted (os : Os) (started : os.Started) (H : Type) (enc : TypeId × Value → H) :
    ReturnsInHanded {} Try.checked os 7 .any (Rows.substExpandsSpec.pre6 enc Try.prog Try.f7 Rows.substExpandsRow.domain false) (Rows.substExpandsSpec.post enc Try.prog Try.f7 false true false false) := by
  refine returnsInHanded_of_change (C := Try.checked) (s := Rows.substExpandsSpec) own started (by kernel_rfl) Try.func7
    (ChangeSpec.witness6 (enc := enc) (C := Try.checked) (s := Rows.substExpandsSpec) false ⟨#[], #[.slice none 0 0, .string ⟨#[]⟩, .slice none 0 0], []⟩ 8 (by kernel_rfl) (by kernel_rfl) (by kernel_rfl) (by kernel_rfl)) ?_
  intro W base args ds gs before hval hW _ _
  exact contract H enc W base args ds gs before hval hW

set_option maxRecDepth 100000 in
theorem over : Rows.substExpandsRow.holds Try.pinned (OpenSpec.ofChange Rows.substExpandsSpec) :=
  OpenClaim.holds_of_wide 7 Try.f7 rfl rfl rfl rfl rfl rfl rfl ⟨rfl, rfl, rfl, rfl, rfl⟩ rfl rfl rfl rfl rfl (by kernel_rfl) Try.func7 (by kernel_rfl)
    (of_decide_eq_true (by kernel_rfl)) (by unfold Func.isWrapper; first | (rw [if_pos (by decide +kernel)]; kernel_rfl) | (rw [if_neg (by decide +kernel)]; exact ⟨rfl, rfl⟩))
    (fun os started H enc _ => lifted os started H enc)

theorem proved : Rows.SubstExpandsSaid := over
#print axioms proved
end Go.Proofs.Ytklabpnclemmoaa.substExpands
