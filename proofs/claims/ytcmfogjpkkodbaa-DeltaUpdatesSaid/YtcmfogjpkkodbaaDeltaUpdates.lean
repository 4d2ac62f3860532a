/-
  DeltaUpdates: for every input the law returns true, and each argument reads behind the call as it read before.
-/
import Derived.Test.YtcmfogjpkkodbaaRows
import Derived.Test.YtcmfogjpkkodbaaDeUpdates
import Derived.WalkKit
import Derived.ProofKit
import Derived.OpenShut
import Derived.JoinedCond
import Derived.Test.YtcmfogjpkkodbaaAvGlob
namespace Go.Proofs.Ytcmfogjpkkodbaa.deltaUpdates
open Go.ChangeShapes Go.WideShapes Go.ChangeAt Go.RowKit Go.Av Go.Av.L
set_option linter.unusedVariables false
set_option linter.unusedSimpArgs false

theorem own : ownKnob Try.prog.godebug = none := by kernel_rfl

theorem arg0 : ArgV Try.prog 35 (eL e_S_api_Member) (okL (fun x : S_api_Member => okT x.Name ∧ okT x.Link ∧ (okI .u8) x.Kind ∧ (okI .i64) x.Mode ∧ (okI .i64) x.Uid ∧ (okI .i64) x.Gid ∧ okT x.Uname ∧ okT x.Gname ∧ (okI .i64) x.Major ∧ (okI .i64) x.Minor ∧ (fun x : S_api_Stamp => (okI .i64) x.Sec ∧ (okI .i64) x.Nsec ∧ True) x.Time ∧ (okL (fun x : S_api_Pair => okT x.Key ∧ okT x.Value ∧ True)) x.Extra ∧ okT x.Data ∧ True)) := argL (t := 35) (el := 63) enc_S_api_Member (by kernel_rfl) (by kernel_rfl) (by decide) (argR (P := Try.prog) (t := 63) (e' := e_S_api_Member) (ok' := (fun x : S_api_Member => okT x.Name ∧ okT x.Link ∧ (okI .u8) x.Kind ∧ (okI .i64) x.Mode ∧ (okI .i64) x.Uid ∧ (okI .i64) x.Gid ∧ okT x.Uname ∧ okT x.Gname ∧ (okI .i64) x.Major ∧ (okI .i64) x.Minor ∧ (fun x : S_api_Stamp => (okI .i64) x.Sec ∧ (okI .i64) x.Nsec ∧ True) x.Time ∧ (okL (fun x : S_api_Pair => okT x.Key ∧ okT x.Value ∧ True)) x.Extra ∧ okT x.Data ∧ True)) (ts := [9, 9, 5, 3, 3, 3, 9, 9, 3, 3, 60, 61, 9]) (by kernel_rfl) (fun x : (List UInt8) × (List UInt8) × (Int) × (Int) × (Int) × (Int) × (List UInt8) × (List UInt8) × (Int) × (Int) × (S_api_Stamp) × (List S_api_Pair) × (List UInt8) × Unit => (⟨x.1, x.2.1, x.2.2.1, x.2.2.2.1, x.2.2.2.2.1, x.2.2.2.2.2.1, x.2.2.2.2.2.2.1, x.2.2.2.2.2.2.2.1, x.2.2.2.2.2.2.2.2.1, x.2.2.2.2.2.2.2.2.2.1, x.2.2.2.2.2.2.2.2.2.2.1, x.2.2.2.2.2.2.2.2.2.2.2.1, x.2.2.2.2.2.2.2.2.2.2.2.2.1⟩ : S_api_Member)) (fun x => rfl) (fun x h => h) (argsCons (argS (t := 9) (by kernel_rfl)) (argsCons (argS (t := 9) (by kernel_rfl)) (argsCons (argI (t := 5) (k := .u8) (by kernel_rfl)) (argsCons (argI (t := 3) (k := .i64) (by kernel_rfl)) (argsCons (argI (t := 3) (k := .i64) (by kernel_rfl)) (argsCons (argI (t := 3) (k := .i64) (by kernel_rfl)) (argsCons (argS (t := 9) (by kernel_rfl)) (argsCons (argS (t := 9) (by kernel_rfl)) (argsCons (argI (t := 3) (k := .i64) (by kernel_rfl)) (argsCons (argI (t := 3) (k := .i64) (by kernel_rfl)) (argsCons (argR (P := Try.prog) (t := 60) (e' := e_S_api_Stamp) (ok' := (fun x : S_api_Stamp => (okI .i64) x.Sec ∧ (okI .i64) x.Nsec ∧ True)) (ts := [3, 3]) (by kernel_rfl) (fun x : (Int) × (Int) × Unit => (⟨x.1, x.2.1⟩ : S_api_Stamp)) (fun x => rfl) (fun x h => h) (argsCons (argI (t := 3) (k := .i64) (by kernel_rfl)) (argsCons (argI (t := 3) (k := .i64) (by kernel_rfl)) (argsNil)))) (argsCons (argL (t := 61) (el := 88) enc_S_api_Pair (by kernel_rfl) (by kernel_rfl) (by decide) (argR (P := Try.prog) (t := 88) (e' := e_S_api_Pair) (ok' := (fun x : S_api_Pair => okT x.Key ∧ okT x.Value ∧ True)) (ts := [9, 9]) (by kernel_rfl) (fun x : (List UInt8) × (List UInt8) × Unit => (⟨x.1, x.2.1⟩ : S_api_Pair)) (fun x => rfl) (fun x h => h) (argsCons (argS (t := 9) (by kernel_rfl)) (argsCons (argS (t := 9) (by kernel_rfl)) (argsNil))))) (argsCons (argS (t := 9) (by kernel_rfl)) (argsNil)))))))))))))))
theorem arg1 : ArgV Try.prog 35 (eL e_S_api_Member) (okL (fun x : S_api_Member => okT x.Name ∧ okT x.Link ∧ (okI .u8) x.Kind ∧ (okI .i64) x.Mode ∧ (okI .i64) x.Uid ∧ (okI .i64) x.Gid ∧ okT x.Uname ∧ okT x.Gname ∧ (okI .i64) x.Major ∧ (okI .i64) x.Minor ∧ (fun x : S_api_Stamp => (okI .i64) x.Sec ∧ (okI .i64) x.Nsec ∧ True) x.Time ∧ (okL (fun x : S_api_Pair => okT x.Key ∧ okT x.Value ∧ True)) x.Extra ∧ okT x.Data ∧ True)) := argL (t := 35) (el := 63) enc_S_api_Member (by kernel_rfl) (by kernel_rfl) (by decide) (argR (P := Try.prog) (t := 63) (e' := e_S_api_Member) (ok' := (fun x : S_api_Member => okT x.Name ∧ okT x.Link ∧ (okI .u8) x.Kind ∧ (okI .i64) x.Mode ∧ (okI .i64) x.Uid ∧ (okI .i64) x.Gid ∧ okT x.Uname ∧ okT x.Gname ∧ (okI .i64) x.Major ∧ (okI .i64) x.Minor ∧ (fun x : S_api_Stamp => (okI .i64) x.Sec ∧ (okI .i64) x.Nsec ∧ True) x.Time ∧ (okL (fun x : S_api_Pair => okT x.Key ∧ okT x.Value ∧ True)) x.Extra ∧ okT x.Data ∧ True)) (ts := [9, 9, 5, 3, 3, 3, 9, 9, 3, 3, 60, 61, 9]) (by kernel_rfl) (fun x : (List UInt8) × (List UInt8) × (Int) × (Int) × (Int) × (Int) × (List UInt8) × (List UInt8) × (Int) × (Int) × (S_api_Stamp) × (List S_api_Pair) × (List UInt8) × Unit => (⟨x.1, x.2.1, x.2.2.1, x.2.2.2.1, x.2.2.2.2.1, x.2.2.2.2.2.1, x.2.2.2.2.2.2.1, x.2.2.2.2.2.2.2.1, x.2.2.2.2.2.2.2.2.1, x.2.2.2.2.2.2.2.2.2.1, x.2.2.2.2.2.2.2.2.2.2.1, x.2.2.2.2.2.2.2.2.2.2.2.1, x.2.2.2.2.2.2.2.2.2.2.2.2.1⟩ : S_api_Member)) (fun x => rfl) (fun x h => h) (argsCons (argS (t := 9) (by kernel_rfl)) (argsCons (argS (t := 9) (by kernel_rfl)) (argsCons (argI (t := 5) (k := .u8) (by kernel_rfl)) (argsCons (argI (t := 3) (k := .i64) (by kernel_rfl)) (argsCons (argI (t := 3) (k := .i64) (by kernel_rfl)) (argsCons (argI (t := 3) (k := .i64) (by kernel_rfl)) (argsCons (argS (t := 9) (by kernel_rfl)) (argsCons (argS (t := 9) (by kernel_rfl)) (argsCons (argI (t := 3) (k := .i64) (by kernel_rfl)) (argsCons (argI (t := 3) (k := .i64) (by kernel_rfl)) (argsCons (argR (P := Try.prog) (t := 60) (e' := e_S_api_Stamp) (ok' := (fun x : S_api_Stamp => (okI .i64) x.Sec ∧ (okI .i64) x.Nsec ∧ True)) (ts := [3, 3]) (by kernel_rfl) (fun x : (Int) × (Int) × Unit => (⟨x.1, x.2.1⟩ : S_api_Stamp)) (fun x => rfl) (fun x h => h) (argsCons (argI (t := 3) (k := .i64) (by kernel_rfl)) (argsCons (argI (t := 3) (k := .i64) (by kernel_rfl)) (argsNil)))) (argsCons (argL (t := 61) (el := 88) enc_S_api_Pair (by kernel_rfl) (by kernel_rfl) (by decide) (argR (P := Try.prog) (t := 88) (e' := e_S_api_Pair) (ok' := (fun x : S_api_Pair => okT x.Key ∧ okT x.Value ∧ True)) (ts := [9, 9]) (by kernel_rfl) (fun x : (List UInt8) × (List UInt8) × Unit => (⟨x.1, x.2.1⟩ : S_api_Pair)) (fun x => rfl) (fun x h => h) (argsCons (argS (t := 9) (by kernel_rfl)) (argsCons (argS (t := 9) (by kernel_rfl)) (argsNil))))) (argsCons (argS (t := 9) (by kernel_rfl)) (argsNil)))))))))))))))

set_option maxRecDepth 100000 in
theorem contract (H : Type) (enc : TypeId × Value → H) (W : World) (base : Nat) (args : Array Value) (ds gs : List (DataW H)) (before : List MemPlace)
    (hval : ∀ (j : Nat) t v, Try.f5.params[j]? = some t → args[j]? = some v → Value.okWide Try.prog W .any base t v)
    (hW : DataW.Whole enc Try.prog Try.f5.params.toList Rows.deltaUpdatesSpec.vars false W args.toList ds gs before) :
    Calls Try.prog 5 args W fun e W' => ∃ v, e = .returned v ∧ Rows.deltaUpdatesSpec.post enc Try.prog Try.f5 false true false false W args v W' := by
  have hW' := hW
  obtain ⟨p, q, hA0, hV, rfl, hfz, hnd⟩ := hW
  have hA : DataW.TrodAll enc Try.prog W 0 (fun _ => true) true Try.f5.params.toList args.toList ds p := hA0
  rw [Try.params5] at hA
  obtain ⟨v0, vs0, d0, ds0, p0, q0, g0, rfl, _, ⟨fu0, t0⟩, r0⟩ := trodAll_cons hA
  obtain ⟨v1, vs1, d1, ds1, p1, q1, g1, rfl, _, ⟨fu1, t1⟩, r1⟩ := trodAll_cons r0
  obtain ⟨gE, rfl, _⟩ := trodAll_nil r1
  have hargs : args.toList = [v0, v1] := by rw [g0, g1, gE]
  obtain ⟨x0, c0, k0⟩ := arg0.h fu0 _ d0 p0 t0
  have V0 := toArg_ok (hval 0 35 v0 (by rw [Try.params5]; rfl) (by rw [← Array.getElem?_toList, hargs]; rfl)) c0 (show toArg Try.prog 35 ((eL e_S_api_Member) x0) = some (vs e_S_api_Member x0) from by kernel_rfl)
  obtain ⟨x1, c1, k1⟩ := arg1.h fu1 _ d1 p1 t1
  have V1 := toArg_ok (hval 1 35 v1 (by rw [Try.params5]; rfl) (by rw [← Array.getElem?_toList, hargs]; rfl)) c1 (show toArg Try.prog 35 ((eL e_S_api_Member) x1) = some (vs e_S_api_Member x1) from by kernel_rfl)
  have hm := lawDeltaUpdates x0 k0 x1 k1
  obtain ⟨v, h', hr, ev, _⟩ := ok_boulterlaw38_DeltaUpdates (g := ⟨0, []⟩) (h := ⟨0, .leaf⟩) (F := []) (av := [vs e_S_api_Member x0, vs e_S_api_Member x1]) hm rfl HH.start
  subst ev
  exact contractV (C := cfg) cfg_ok (globOk_nil W) (by kernel_rfl) Try.func5 (by kernel_rfl) (c := bodyC cfg.P 5) (by kernel_rfl) (by rw [Try.params5]; intro t ht; simp only [List.mem_cons, List.not_mem_nil, or_false] at ht; rcases ht with rfl | rfl <;> exact ⟨by kernel_rfl, of_decide_eq_true (by kernel_rfl)⟩) (tb := 4) (by kernel_rfl) (by kernel_rfl) rfl (by rfl) hW' (by rw [hargs]; exact .cons V0 (.cons V1 (.nil _))) hr

set_option maxRecDepth 100000 in
theorem lifted (os : Os) (started : os.Started) (H : Type) (enc : TypeId × Value → H) :
    ReturnsInHanded {} Try.checked os 5 .any (Rows.deltaUpdatesSpec.pre6 enc Try.prog Try.f5 Rows.deltaUpdatesRow.domain false) (Rows.deltaUpdatesSpec.post enc Try.prog Try.f5 false true false false) := by
  refine returnsInHanded_of_change (C := Try.checked) (s := Rows.deltaUpdatesSpec) own started (by kernel_rfl) Try.func5
    (ChangeSpec.witness6 (enc := enc) (C := Try.checked) (s := Rows.deltaUpdatesSpec) false ⟨#[], #[.slice none 0 0, .slice none 0 0], []⟩ 8 (by kernel_rfl) (by kernel_rfl) (by kernel_rfl) (by kernel_rfl)) ?_
  intro W base args ds gs before hval hW _ _
  exact contract H enc W base args ds gs before hval hW

set_option maxRecDepth 100000 in
theorem over : Rows.deltaUpdatesRow.holds Try.pinned (OpenSpec.ofChange Rows.deltaUpdatesSpec) :=
  OpenClaim.holds_of_wide 5 Try.f5 rfl rfl rfl rfl rfl rfl rfl ⟨rfl, rfl, rfl, rfl, rfl⟩ rfl rfl rfl rfl rfl (by kernel_rfl) Try.func5 (by kernel_rfl)
    (of_decide_eq_true (by kernel_rfl)) (by unfold Func.isWrapper; first | (rw [if_pos (by decide +kernel)]; kernel_rfl) | (rw [if_neg (by decide +kernel)]; exact ⟨rfl, rfl⟩))
    (fun os started H enc _ => lifted os started H enc)

theorem proved : Rows.DeltaUpdatesSaid := over
#print axioms proved
end Go.Proofs.Ytcmfogjpkkodbaa.deltaUpdates
