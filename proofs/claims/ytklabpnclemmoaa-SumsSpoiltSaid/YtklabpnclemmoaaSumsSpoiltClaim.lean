/-
  SumsSpoilt: for every input the law returns true, and each argument reads behind the call as it read before.
-/
import Derived.Test.YtklabpnclemmoaaRows
import Derived.Test.YtklabpnclemmoaaSumsLaws
import Derived.WalkKit
import Derived.ProofKit
import Derived.OpenShut
import Derived.JoinedCond
namespace Go.Proofs.Ytklabpnclemmoaa.sumsSpoilt
open Go.ChangeShapes Go.WideShapes Go.ChangeAt Go.RowKit Go.Abs Go.Abs.L
set_option linter.unusedVariables false
set_option linter.unusedSimpArgs false

theorem own : ownKnob Try.prog.godebug = none := by kernel_rfl

theorem arg0 : ArgT Try.prog 9 (RStr _) := argStr (by kernel_rfl) (by kernel_rfl)
theorem arg1 : ArgT Try.prog 71 (RInt _ .u16) := argInt (by kernel_rfl) (by kernel_rfl)
theorem arg2 : ArgT Try.prog 5 (RInt _ .u8) := argInt (by kernel_rfl) (by kernel_rfl)

set_option maxRecDepth 100000 in
theorem contract (H : Type) (enc : TypeId × Value → H) (W : World) (base : Nat) (args : Array Value) (ds gs : List (DataW H)) (before : List MemPlace)
    (hval : ∀ (j : Nat) t v, Try.f15.params[j]? = some t → args[j]? = some v → Value.okWide Try.prog W .any base t v)
    (hW : DataW.Whole enc Try.prog Try.f15.params.toList Rows.sumsSpoiltSpec.vars false W args.toList ds gs before) :
    Calls Try.prog 15 args W fun e W' => ∃ v, e = .returned v ∧ Rows.sumsSpoiltSpec.post enc Try.prog Try.f15 false true false false W args v W' := by
  have hW' := hW
  obtain ⟨p, q, hA0, hV, rfl, hfz, hnd⟩ := hW
  have hA : DataW.TrodAll enc Try.prog W 0 (fun _ => true) true Try.f15.params.toList args.toList ds p := hA0
  rw [Try.params15] at hA
  obtain ⟨v0, vs0, d0, ds0, p0, q0, _, rfl, _, ⟨fu0, t0⟩, r0⟩ := trodAll_cons hA
  obtain ⟨v1, vs1, d1, ds1, p1, q1, _, rfl, _, ⟨fu1, t1⟩, r1⟩ := trodAll_cons r0
  obtain ⟨v2, vs2, d2, ds2, p2, q2, _, rfl, _, ⟨fu2, t2⟩, r2⟩ := trodAll_cons r1
  obtain ⟨_, rfl, _⟩ := trodAll_nil r2
  obtain ⟨hgs, _⟩ := trodVars_none hV
  subst hgs
  obtain ⟨x0, as0, h0, e0, b0, l0, s0, k0, w0⟩ := arg0.2 fu0 _ d0 p0 t0 (⟨0, .leaf⟩ : AHeap)
  obtain ⟨x1, as1, h1, e1, b1, l1, s1, k1, w1⟩ := arg1.2 fu1 _ d1 p1 t1 h0
  obtain ⟨x2, as2, h2, e2, b2, l2, s2, k2, w2⟩ := arg2.2 fu2 _ d2 p2 t2 h1
  have b0 := RT.mono _ b0 s1 (fun id hi => show id < h1.size by omega)
  have b0 := RT.mono _ b0 s2 (fun id hi => show id < h2.size by omega)
  have b1 := RT.mono _ b1 s2 (fun id hi => show id < h2.size by omega)
  have b0 : as0 = [.str x0] := b0
  subst b0
  have b1 : as1 = [.int .u16 x1] := b1
  subst b1
  have b2 : as2 = [.int .u8 x2] := b2
  subst b2
  have hm := lawSumsSpoilt h2 x0 k0 x1 k1 x2 k2
  have hargs : argsA Try.prog Try.f15.params.toList (⟨0, .leaf⟩ : AHeap) [d0, d1, d2] = some ([.str x0, .int .u16 x1, .int .u8 x2], h2) := by
    rw [Try.params15]
    simp only [argsA, e0, e1, e2, Option.bind_some, Option.map_some]
    rw [show toArg Try.prog 9 _ = some (.str x0) from by kernel_rfl]
    simp only [Option.bind_some]
    rw [show toArg Try.prog 71 _ = some (.int .u16 x1) from by kernel_rfl]
    simp only [Option.bind_some]
    rw [show toArg Try.prog 5 _ = some (.int .u8 x2) from by kernel_rfl]
    simp only [Option.bind_some, Option.map_some]
  exact contract_of (C := cfg) cfg_ok (by kernel_rfl) Try.func15 (by kernel_rfl) (c := bodyC cfg.P 15) (by kernel_rfl) (by rw [Try.params15]; intro t ht; simp only [List.mem_cons, List.not_mem_nil, or_false] at ht; rcases ht with rfl | rfl | rfl <;> exact ⟨by kernel_rfl, of_decide_eq_true (by kernel_rfl)⟩) (tb := 4) (by kernel_rfl) (by kernel_rfl) rfl (by rfl) hval hW' hargs (ok_boulterlaw03_SumsSpoilt hm)

set_option maxRecDepth 100000 in
theorem lifted (os : Os) (started : os.Started) (H : Type) (enc : TypeId × Value → H) :
    ReturnsInHanded {} Try.checked os 15 .any (Rows.sumsSpoiltSpec.pre6 enc Try.prog Try.f15 Rows.sumsSpoiltRow.domain false) (Rows.sumsSpoiltSpec.post enc Try.prog Try.f15 false true false false) := by
  refine returnsInHanded_of_change (C := Try.checked) (s := Rows.sumsSpoiltSpec) own started (by kernel_rfl) Try.func15
    (ChangeSpec.witness6 (enc := enc) (C := Try.checked) (s := Rows.sumsSpoiltSpec) false ⟨#[], #[.string ⟨#[]⟩, .int .u16 0, .int .u8 0], []⟩ 8 (by kernel_rfl) (by kernel_rfl) (by kernel_rfl) (by kernel_rfl)) ?_
  intro W base args ds gs before hval hW _ _
  exact contract H enc W base args ds gs before hval hW

set_option maxRecDepth 100000 in
theorem over : Rows.sumsSpoiltRow.holds Try.pinned (OpenSpec.ofChange Rows.sumsSpoiltSpec) :=
  OpenClaim.holds_of_wide 15 Try.f15 rfl rfl rfl rfl rfl rfl rfl ⟨rfl, rfl, rfl, rfl, rfl⟩ rfl rfl rfl rfl rfl (by kernel_rfl) Try.func15 (by kernel_rfl)
    (of_decide_eq_true (by kernel_rfl)) (by unfold Func.isWrapper; first | (rw [if_pos (by decide +kernel)]; kernel_rfl) | (rw [if_neg (by decide +kernel)]; exact ⟨rfl, rfl⟩))
    (fun os started H enc _ => lifted os started H enc)

theorem proved : Rows.SumsSpoiltSaid := over
#print axioms proved
end Go.Proofs.Ytklabpnclemmoaa.sumsSpoilt
