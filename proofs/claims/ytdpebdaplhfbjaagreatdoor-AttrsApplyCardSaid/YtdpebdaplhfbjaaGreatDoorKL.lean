/-
  Map literals whose entries are put in in whatever order. Written by lift2.py.
-/
import Derived.Test.YtdpebdaplhfbjaaGreatDoorAvLit
import Derived.Test.YtdpebdaplhfbjaaGreatDoorProg
namespace Go.Av.LT
open Go.Av Go.Lib
set_option linter.unusedSimpArgs false
set_option linter.unusedVariables false
set_option maxRecDepth 100000
noncomputable def lcfg : Cfg := cfg0 Go.Proofs.Tryz.prog (fun _ _ => [])
theorem maker28 : Maker lcfg.P lcfg.glob 28 54 := maker_ok (C := lcfg) (litS_ok (mk := []) fun p h => by cases h) (fn := Go.Proofs.Tryz.f28) (i0 := 0) (i1 := 1) (ops0 := regO Go.Proofs.Tryz.f28 0) (ops1 := regO Go.Proofs.Tryz.f28 1) (tb := 1) (tr := 2) (z := .nilFunc) (fr2 := fun r => [pA r, .vptr [pA r], .func (.func 54) [] [.vptr [pA r]], .func (.func 54) [] [.vptr [pA r]]])
 Go.Proofs.Tryz.func28 (by kernel_rfl) (by kernel_rfl) (fun m => ⟨_, .nilFunc⟩) (by decide) (fun r h => by kernel_rfl) (fun r h => by kernel_rfl) (fun r h => by kernel_rfl)
theorem maker29 : Maker lcfg.P lcfg.glob 29 55 := maker_ok (C := lcfg) (litS_ok (mk := []) fun p h => by cases h) (fn := Go.Proofs.Tryz.f29) (i0 := 0) (i1 := 1) (ops0 := regO Go.Proofs.Tryz.f29 0) (ops1 := regO Go.Proofs.Tryz.f29 1) (tb := 1) (tr := 2) (z := .nilFunc) (fr2 := fun r => [pA r, .vptr [pA r], .func (.func 55) [] [.vptr [pA r]], .func (.func 55) [] [.vptr [pA r]]])
 Go.Proofs.Tryz.func29 (by kernel_rfl) (by kernel_rfl) (fun m => ⟨_, .nilFunc⟩) (by decide) (fun r h => by kernel_rfl) (fun r h => by kernel_rfl) (fun r h => by kernel_rfl)
def lmk : List (FuncId × FuncId) := [(28, 54), (29, 55)]
theorem litSok : SubOk lcfg.P lcfg.glob (litS lmk) := litS_ok fun p h => by
 simp only [lmk, List.mem_cons, List.not_mem_nil, or_false] at h
 rcases h with rfl | rfl
 ·exact maker28
 ·exact maker29
def lval16 (r s : Nat × Nat) (n : Nat) : Fr := [pA r, pA s, .vptr [pA r], .tuple [], .map (some n), .map (some n), pA r, pA r, .ptr (some (r.1, r.2 + 5)), .func (.func 54) [] [.vptr [.ptr (some (r.1, r.2 + 5))]], pA r, pA r, .ptr (some (r.1, r.2 + 4)), .func (.func 54) [] [.vptr [.ptr (some (r.1, r.2 + 4))]], pA s, .func (.func 54) [] [.vptr [pA s]], pA r, pA r, .ptr (some (r.1, r.2 + 7)), .func (.func 55) [] [.vptr [.ptr (some (r.1, r.2 + 7))]], pA r, pA r, .ptr (some (r.1, r.2 + 6)), .func (.func 55) [] [.vptr [.ptr (some (r.1, r.2 + 6))]], pA r, pA r, pA r, .func (.func 55) [] [.vptr [pA r]], pA r, pA r, .ptr (some (r.1, r.2 + 1)), .func (.func 55) [] [.vptr [.ptr (some (r.1, r.2 + 1))]], .func (.func 30) [] [.vptr [pA r]], .map (some n)]
def les16 (r s : Nat × Nat) : List (AVal × AVal) := [(.str [103, 105, 100], .func (.func 54) [] [.vptr [.ptr (some (r.1, r.2 + 5))]]), (.str [117, 105, 100], .func (.func 54) [] [.vptr [.ptr (some (r.1, r.2 + 4))]]), (.str [115, 105, 122, 101], .func (.func 54) [] [.vptr [pA s]]), (.str [103, 110, 97, 109, 101], .func (.func 55) [] [.vptr [.ptr (some (r.1, r.2 + 7))]]), (.str [117, 110, 97, 109, 101], .func (.func 55) [] [.vptr [.ptr (some (r.1, r.2 + 6))]]), (.str [112, 97, 116, 104], .func (.func 55) [] [.vptr [pA r]]), (.str [108, 105, 110, 107, 112, 97, 116, 104], .func (.func 55) [] [.vptr [.ptr (some (r.1, r.2 + 1))]]), (.str [109, 116, 105, 109, 101], .func (.func 30) [] [.vptr [pA r]])]
def lkm16 : List (AVal × AVal) := [(.str [103, 105, 100], .func (.func 54) [] [.vptr [.ptr (some (0, 5))]]), (.str [117, 105, 100], .func (.func 54) [] [.vptr [.ptr (some (0, 4))]]), (.str [115, 105, 122, 101], .func (.func 54) [] [.vptr [.ptr (some (1, 0))]]), (.str [103, 110, 97, 109, 101], .func (.func 55) [] [.vptr [.ptr (some (0, 7))]]), (.str [117, 110, 97, 109, 101], .func (.func 55) [] [.vptr [.ptr (some (0, 6))]]), (.str [112, 97, 116, 104], .func (.func 55) [] [.vptr [.ptr (some (0, 0))]]), (.str [108, 105, 110, 107, 112, 97, 116, 104], .func (.func 55) [] [.vptr [.ptr (some (0, 1))]]), (.str [109, 116, 105, 109, 101], .func (.func 30) [] [.vptr [.ptr (some (0, 0))]])]
theorem lL16 (r s : Nat × Nat) (h : AHeap) : Lit lcfg (litS lmk) h (regO Go.Proofs.Tryz.f16 1) (fr1L (fr0L [pA r, pA s] Go.Proofs.Tryz.f16.ntmps) 2 4 (.vptr [pA r]) (.map none)) (lval16 r s h.size) 47 9 52 5 0 :=
 Lit.of (by kernel_rfl) (by kernel_rfl) (by kernel_rfl) (by kernel_rfl) (by kernel_rfl) (fun H => by kernel_rfl) (by kernel_rfl) (by kernel_rfl)
theorem lit16 {G : Nat → Option (List AVal)} : ExtOk lcfg.P G 16 fun _ h args => extLM lkm16 2 h args :=
 ExtOk.nil <| litKM_ok (C := lcfg) (by kernel_rfl) litSok (fn := Go.Proofs.Tryz.f16) (i0 := 0) (i1 := 1) (ops0 := regO Go.Proofs.Tryz.f16 0) (ops := (regO Go.Proofs.Tryz.f16 1)) (tb := 2) (tr := 4) (z := .map none) (val := lval16) (es' := les16)
  Go.Proofs.Tryz.func16 (by kernel_rfl) (by kernel_rfl) (fun m => ⟨_, .nilMap⟩) (by decide) (fun r s h => by kernel_rfl) lL16 (fun r s n => by kernel_rfl) (fun r s => by kernel_rfl) (fun r s => nodup_strs (ks := [[103, 105, 100], [117, 105, 100], [115, 105, 122, 101], [103, 110, 97, 109, 101], [117, 110, 97, 109, 101], [112, 97, 116, 104], [108, 105, 110, 107, 112, 97, 116, 104], [109, 116, 105, 109, 101]]) (by kernel_rfl) (by decide)) (fun r s => by kernel_rfl) (fun r s h H => by kernel_rfl)
end Go.Av.LT
