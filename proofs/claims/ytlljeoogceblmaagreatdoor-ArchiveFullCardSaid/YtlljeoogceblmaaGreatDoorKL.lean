/-
 A part.
-/
import Derived.Test.YtlljeoogceblmaaGreatDoorAvLit
import Derived.Test.YtlljeoogceblmaaGreatDoorProg
namespace Go.Av.LT
open Go.Av Go.Lib
set_option linter.unusedSimpArgs false
set_option linter.unusedVariables false
set_option maxRecDepth 100000
noncomputable def NI : E8 := UA Go.Proofs.Tryz.prog (fun _ _ => [])
theorem TU : Sa NI.P NI.Ca 140 194 := QT (C := NI) (PX (mk := []) fun p h => by cases h) (fn := Go.Proofs.Tryz.f140) (i0 := 0) (i1 := 1) (ops0 := Rb Go.Proofs.Tryz.f140 0) (ops1 := Rb Go.Proofs.Tryz.f140 1) (tb := 1) (tr := 2) (z := .nilFunc) (fr2 := fun r => [pA r, .An [pA r], .func (.func 194) [] [.An [pA r]], .func (.func 194) [] [.An [pA r]]])
 Go.Proofs.Tryz.func140 (by kernel_rfl) (by kernel_rfl) (fun m => ⟨_, .nilFunc⟩) (by decide) (fun r h => by kernel_rfl) (fun r h => by kernel_rfl) (fun r h => by kernel_rfl)
theorem Uq : Sa NI.P NI.Ca 141 195 := QT (C := NI) (PX (mk := []) fun p h => by cases h) (fn := Go.Proofs.Tryz.f141) (i0 := 0) (i1 := 1) (ops0 := Rb Go.Proofs.Tryz.f141 0) (ops1 := Rb Go.Proofs.Tryz.f141 1) (tb := 1) (tr := 2) (z := .nilFunc) (fr2 := fun r => [pA r, .An [pA r], .func (.func 195) [] [.An [pA r]], .func (.func 195) [] [.An [pA r]]])
 Go.Proofs.Tryz.func141 (by kernel_rfl) (by kernel_rfl) (fun m => ⟨_, .nilFunc⟩) (by decide) (fun r h => by kernel_rfl) (fun r h => by kernel_rfl) (fun r h => by kernel_rfl)
def Yy : List (FuncId × FuncId) := [(140, 194), (141, 195)]
theorem Wf : Ew NI.P NI.Ca (V1 Yy) := PX fun p h => by
 simp only [Yy, List.mem_cons, List.not_mem_nil, or_false] at h
 rcases h with rfl | rfl
 ·exact TU
 ·exact Uq
def UQ (r s : Nat × Nat) (n : Nat) : Fr := [pA r, pA s, .An [pA r], .tuple [], .map (some n), .map (some n), pA r, pA r, .ptr (some (r.1, r.2 + 5)), .func (.func 194) [] [.An [.ptr (some (r.1, r.2 + 5))]], pA r, pA r, .ptr (some (r.1, r.2 + 4)), .func (.func 194) [] [.An [.ptr (some (r.1, r.2 + 4))]], pA s, .func (.func 194) [] [.An [pA s]], pA r, pA r, .ptr (some (r.1, r.2 + 7)), .func (.func 195) [] [.An [.ptr (some (r.1, r.2 + 7))]], pA r, pA r, .ptr (some (r.1, r.2 + 6)), .func (.func 195) [] [.An [.ptr (some (r.1, r.2 + 6))]], pA r, pA r, pA r, .func (.func 195) [] [.An [pA r]], pA r, pA r, .ptr (some (r.1, r.2 + 1)), .func (.func 195) [] [.An [.ptr (some (r.1, r.2 + 1))]], .func (.func 142) [] [.An [pA r]], .map (some n)]
def X0 (r s : Nat × Nat) : List (AB × AB) := [(.str [103, 105, 100], .func (.func 194) [] [.An [.ptr (some (r.1, r.2 + 5))]]), (.str [117, 105, 100], .func (.func 194) [] [.An [.ptr (some (r.1, r.2 + 4))]]), (.str [115, 105, 122, 101], .func (.func 194) [] [.An [pA s]]), (.str [103, 110, 97, 109, 101], .func (.func 195) [] [.An [.ptr (some (r.1, r.2 + 7))]]), (.str [117, 110, 97, 109, 101], .func (.func 195) [] [.An [.ptr (some (r.1, r.2 + 6))]]), (.str [112, 97, 116, 104], .func (.func 195) [] [.An [pA r]]), (.str [108, 105, 110, 107, 112, 97, 116, 104], .func (.func 195) [] [.An [.ptr (some (r.1, r.2 + 1))]]), (.str [109, 116, 105, 109, 101], .func (.func 142) [] [.An [pA r]])]
def V8 : List (AB × AB) := [(.str [103, 105, 100], .func (.func 194) [] [.An [.ptr (some (0, 5))]]), (.str [117, 105, 100], .func (.func 194) [] [.An [.ptr (some (0, 4))]]), (.str [115, 105, 122, 101], .func (.func 194) [] [.An [.ptr (some (1, 0))]]), (.str [103, 110, 97, 109, 101], .func (.func 195) [] [.An [.ptr (some (0, 7))]]), (.str [117, 110, 97, 109, 101], .func (.func 195) [] [.An [.ptr (some (0, 6))]]), (.str [112, 97, 116, 104], .func (.func 195) [] [.An [.ptr (some (0, 0))]]), (.str [108, 105, 110, 107, 112, 97, 116, 104], .func (.func 195) [] [.An [.ptr (some (0, 1))]]), (.str [109, 116, 105, 109, 101], .func (.func 142) [] [.An [.ptr (some (0, 0))]])]
theorem ZJ (r s : Nat × Nat) (h : AF) : Lit NI (V1 Yy) h (Rb Go.Proofs.Tryz.f82 1) (T4 (R1 [pA r, pA s] Go.Proofs.Tryz.f82.ntmps) 2 4 (.An [pA r]) (.map none)) (UQ r s h.size) 140 9 144 5 0 :=
 Lit.of (by kernel_rfl) (by kernel_rfl) (by kernel_rfl) (by kernel_rfl) (by kernel_rfl) (fun H => by kernel_rfl) (by kernel_rfl) (by kernel_rfl)
theorem YD {G : Nat → Option (List AB)} : En NI.P G 82 fun _ h args => Ox V8 2 h args :=
 En.nil <| U4 (C := NI) (by kernel_rfl) Wf (fn := Go.Proofs.Tryz.f82) (i0 := 0) (i1 := 1) (ops0 := Rb Go.Proofs.Tryz.f82 0) (ops := (Rb Go.Proofs.Tryz.f82 1)) (tb := 2) (tr := 4) (z := .map none) (val := UQ) (es' := X0)
  Go.Proofs.Tryz.func82 (by kernel_rfl) (by kernel_rfl) (fun m => ⟨_, .Jn⟩) (by decide) (fun r s h => by kernel_rfl) ZJ (fun r s n => by kernel_rfl) (fun r s => by kernel_rfl) (fun r s => Ru (ks := [[103, 105, 100], [117, 105, 100], [115, 105, 122, 101], [103, 110, 97, 109, 101], [117, 110, 97, 109, 101], [112, 97, 116, 104], [108, 105, 110, 107, 112, 97, 116, 104], [109, 116, 105, 109, 101]]) (by kernel_rfl) (by decide)) (fun r s => by kernel_rfl) (fun r s h H => by kernel_rfl)
end Go.Av.LT
