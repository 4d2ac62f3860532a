/-
  Several texts in one.
-/
import Derived.Test.YtlljeoogceblmaaGreatDoorAvLit
import Derived.Test.YtlljeoogceblmaaGreatDoorProg
import Derived.Shelf.SlGeneric
import Derived.Shelf.SlIter.Nil
import Derived.Shelf.SortM.Plain
import Derived.Shelf.SortM.SortNone
import Derived.Shelf.SlicesE.Clone
import Derived.Shelf.Spec.SlicesGrow
import Derived.Ground.GgzProg
import Derived.Ground.SlgmProg
import Derived.Ground.SlgnProg
import Derived.Ground.Names8Prog
import Derived.Shelf.Lays
import Derived.Ground.NamesProg
import Derived.Shelf.LaysM
import Derived.Shelf.SlLaysF0
import Derived.Ground.SlsfProg
/-
 A part.
-/
section
namespace Go.Av.LT
open Go.Av Go.Lib
set_option linter.unusedSimpArgs false
set_option linter.unusedVariables false
set_option maxRecDepth 100000
noncomputable def OY : Ft := Wk Go.Proofs.Tryz.prog (fun _ _ => [])
theorem Wh : Ts OY.P OY.Cd 140 194 := RF (C := OY) (QU (mk := []) fun p h => by cases h) (fn := Go.Proofs.Tryz.f140) (i0 := 0) (i1 := 1) (ops0 := TK Go.Proofs.Tryz.f140 0) (ops1 := TK Go.Proofs.Tryz.f140 1) (tb := 1) (tr := 2) (z := .nilFunc) (fr2 := fun r => [pA r, .Am [pA r], .func (.func 194) [] [.Am [pA r]], .func (.func 194) [] [.Am [pA r]]])
 Go.Proofs.Tryz.func140 (by kernel_rfl) (by kernel_rfl) (fun m => ⟨_, .nilFunc⟩) (by decide) (fun r h => by kernel_rfl) (fun r h => by kernel_rfl) (fun r h => by kernel_rfl)
theorem Vz : Ts OY.P OY.Cd 141 195 := RF (C := OY) (QU (mk := []) fun p h => by cases h) (fn := Go.Proofs.Tryz.f141) (i0 := 0) (i1 := 1) (ops0 := TK Go.Proofs.Tryz.f141 0) (ops1 := TK Go.Proofs.Tryz.f141 1) (tb := 1) (tr := 2) (z := .nilFunc) (fr2 := fun r => [pA r, .Am [pA r], .func (.func 195) [] [.Am [pA r]], .func (.func 195) [] [.Am [pA r]]])
 Go.Proofs.Tryz.func141 (by kernel_rfl) (by kernel_rfl) (fun m => ⟨_, .nilFunc⟩) (by decide) (fun r h => by kernel_rfl) (fun r h => by kernel_rfl) (fun r h => by kernel_rfl)
def aU : List (FuncId × FuncId) := [(140, 194), (141, 195)]
theorem ZE : E3 OY.P OY.Cd (XP aU) := QU fun p h => by
 simp only [aU, List.mem_cons, List.not_mem_nil, or_false] at h
 rcases h with rfl | rfl
 ·exact Wh
 ·exact Vz
def WW (r s : Nat × Nat) (n : Nat) : Fr := [pA r, pA s, .Am [pA r], .tuple [], .map (some n), .map (some n), pA r, pA r, .ptr (some (r.1, r.2 + 5)), .func (.func 194) [] [.Am [.ptr (some (r.1, r.2 + 5))]], pA r, pA r, .ptr (some (r.1, r.2 + 4)), .func (.func 194) [] [.Am [.ptr (some (r.1, r.2 + 4))]], pA s, .func (.func 194) [] [.Am [pA s]], pA r, pA r, .ptr (some (r.1, r.2 + 7)), .func (.func 195) [] [.Am [.ptr (some (r.1, r.2 + 7))]], pA r, pA r, .ptr (some (r.1, r.2 + 6)), .func (.func 195) [] [.Am [.ptr (some (r.1, r.2 + 6))]], pA r, pA r, pA r, .func (.func 195) [] [.Am [pA r]], pA r, pA r, .ptr (some (r.1, r.2 + 1)), .func (.func 195) [] [.Am [.ptr (some (r.1, r.2 + 1))]], .func (.func 142) [] [.Am [pA r]], .map (some n)]
def aC (r s : Nat × Nat) : List (AB × AB) := [(.str [103, 105, 100], .func (.func 194) [] [.Am [.ptr (some (r.1, r.2 + 5))]]), (.str [117, 105, 100], .func (.func 194) [] [.Am [.ptr (some (r.1, r.2 + 4))]]), (.str [115, 105, 122, 101], .func (.func 194) [] [.Am [pA s]]), (.str [103, 110, 97, 109, 101], .func (.func 195) [] [.Am [.ptr (some (r.1, r.2 + 7))]]), (.str [117, 110, 97, 109, 101], .func (.func 195) [] [.Am [.ptr (some (r.1, r.2 + 6))]]), (.str [112, 97, 116, 104], .func (.func 195) [] [.Am [pA r]]), (.str [108, 105, 110, 107, 112, 97, 116, 104], .func (.func 195) [] [.Am [.ptr (some (r.1, r.2 + 1))]]), (.str [109, 116, 105, 109, 101], .func (.func 142) [] [.Am [pA r]])]
def YR : List (AB × AB) := [(.str [103, 105, 100], .func (.func 194) [] [.Am [.ptr (some (0, 5))]]), (.str [117, 105, 100], .func (.func 194) [] [.Am [.ptr (some (0, 4))]]), (.str [115, 105, 122, 101], .func (.func 194) [] [.Am [.ptr (some (1, 0))]]), (.str [103, 110, 97, 109, 101], .func (.func 195) [] [.Am [.ptr (some (0, 7))]]), (.str [117, 110, 97, 109, 101], .func (.func 195) [] [.Am [.ptr (some (0, 6))]]), (.str [112, 97, 116, 104], .func (.func 195) [] [.Am [.ptr (some (0, 0))]]), (.str [108, 105, 110, 107, 112, 97, 116, 104], .func (.func 195) [] [.Am [.ptr (some (0, 1))]]), (.str [109, 116, 105, 109, 101], .func (.func 142) [] [.Am [.ptr (some (0, 0))]])]
theorem aX (r s : Nat × Nat) (h : AD) : Lit OY (XP aU) h (TK Go.Proofs.Tryz.f82 1) (XA (TC [pA r, pA s] Go.Proofs.Tryz.f82.ntmps) 2 4 (.Am [pA r]) (.map none)) (WW r s h.size) 140 9 144 5 0 :=
 Lit.of (by kernel_rfl) (by kernel_rfl) (by kernel_rfl) (by kernel_rfl) (by kernel_rfl) (fun H => by kernel_rfl) (by kernel_rfl) (by kernel_rfl)
theorem Zl {G : Nat → Option (List AB)} : Es OY.P G 82 fun _ h args => PZ YR 2 h args :=
 Es.nil <| W6 (C := OY) (by kernel_rfl) ZE (fn := Go.Proofs.Tryz.f82) (i0 := 0) (i1 := 1) (ops0 := TK Go.Proofs.Tryz.f82 0) (ops := (TK Go.Proofs.Tryz.f82 1)) (tb := 2) (tr := 4) (z := .map none) (val := WW) (es' := aC)
  Go.Proofs.Tryz.func82 (by kernel_rfl) (by kernel_rfl) (fun m => ⟨_, .Kh⟩) (by decide) (fun r s h => by kernel_rfl) aX (fun r s n => by kernel_rfl) (fun r s => by kernel_rfl) (fun r s => TQ (ks := [[103, 105, 100], [117, 105, 100], [115, 105, 122, 101], [103, 110, 97, 109, 101], [117, 110, 97, 109, 101], [112, 97, 116, 104], [108, 105, 110, 107, 112, 97, 116, 104], [109, 116, 105, 109, 101]]) (by kernel_rfl) (by decide)) (fun r s => by kernel_rfl) (fun r s h H => by kernel_rfl)
end Go.Av.LT
end
/-
 A part.
-/
section
namespace Go.Proofs
open Go.Shelf
def Tryz.OZ : Go.Shelf.Ren := ⟨fun | 105 => 115 | 212 => 167 | 99 => 168 | 165 => 169 | 166 => 170 | 170 => 171 | 169 => 172 | 263 => 208 | 264 => 209 | 206 => 210 | 240 => 211 | 241 => 212 | 276 => 243 | 277 => 244 | n => n, fun | 9 => 9 | 3 => 3 | 4 => 4 | 20 => 20 | 0 => 0 | 46 => 192 | 109 => 220 | 5 => 5 | 72 => 225 | 76 => 229 | 51 => 243 | 146 => 256 | 53 => 245 | 148 => 258 | 70 => 223 | 37 => 73 | 75 => 228 | 127 => 260 | 164 => 283 | 80 => 106 | n => n, fun | n => n⟩
theorem Tryz.Og : Go.Proofs.Lays.n105 Tryz.prog Tryz.OZ := {
 mixed := by kernel_rfl
 f99 := Tryz.func168.trans (congrArg some (by kernel_rfl))
 f105 := Tryz.func115.trans (congrArg some (by kernel_rfl))
 f165 := Tryz.func169.trans (congrArg some (by kernel_rfl))
 f166 := Tryz.func170.trans (congrArg some (by kernel_rfl))
 f169 := Tryz.func172.trans (congrArg some (by kernel_rfl))
 f170 := Tryz.func171.trans (congrArg some (by kernel_rfl))
 f206 := Tryz.func210.trans (congrArg some (by kernel_rfl))
 f212 := Tryz.func167.trans (congrArg some (by kernel_rfl))
 f240 := Tryz.func211.trans (congrArg some (by kernel_rfl))
 f241 := Tryz.func212.trans (congrArg some (by kernel_rfl))
 f263 := Tryz.func208.trans (congrArg some (by kernel_rfl))
 f264 := Tryz.func209.trans (congrArg some (by kernel_rfl))
 f276 := Tryz.func243.trans (congrArg some (by kernel_rfl))
 f277 := Tryz.func244.trans (congrArg some (by kernel_rfl))
 t0 := Tryz.underlying0
 a0 := Tryz.isAgg0
 z0 := Tryz.sizeOf0
 v0 := Tryz.zeroValue0
 t3 := Tryz.underlying3
 a3 := Tryz.isAgg3
 z3 := Tryz.sizeOf3
 v3 := Tryz.zeroValue3
 t4 := Tryz.underlying4
 a4 := Tryz.isAgg4
 z4 := Tryz.sizeOf4
 v4 := Tryz.zeroValue4
 t5 := Tryz.underlying5
 a5 := Tryz.isAgg5
 z5 := Tryz.sizeOf5
 v5 := Tryz.zeroValue5
 t9 := Tryz.underlying9
 a9 := Tryz.isAgg9
 z9 := Tryz.sizeOf9
 v9 := Tryz.zeroValue9
 t20 := Tryz.underlying20
 a20 := Tryz.isAgg20
 z20 := Tryz.sizeOf20
 v20 := Tryz.zeroValue20
 t37 := Tryz.underlying73
 a37 := Tryz.isAgg73
 z37 := Tryz.sizeOf73
 v37 := Tryz.zeroValue73
 t46 := Tryz.underlying192
 a46 := Tryz.isAgg192
 z46 := Tryz.sizeOf192
 v46 := Tryz.zeroValue192
 t51 := Tryz.underlying243
 a51 := Tryz.isAgg243
 z51 := Tryz.sizeOf243
 v51 := Tryz.zeroValue243
 t53 := Tryz.underlying245
 a53 := Tryz.isAgg245
 z53 := Tryz.sizeOf245
 v53 := Tryz.zeroValue245
 t70 := Tryz.underlying223
 a70 := Tryz.isAgg223
 z70 := Tryz.sizeOf223
 v70 := Tryz.zeroValue223
 t72 := Tryz.underlying225
 a72 := Tryz.isAgg225
 z72 := Tryz.sizeOf225
 v72 := Tryz.zeroValue225
 t75 := Tryz.underlying228
 a75 := Tryz.isAgg228
 z75 := Tryz.sizeOf228
 v75 := Tryz.zeroValue228
 t76 := Tryz.underlying229
 a76 := Tryz.isAgg229
 z76 := Tryz.sizeOf229
 v76 := Tryz.zeroValue229
 t109 := Tryz.underlying220
 a109 := Tryz.isAgg220
 z109 := Tryz.sizeOf220
 v109 := Tryz.zeroValue220
 t127 := Tryz.underlying260
 a127 := Tryz.isAgg260
 z127 := Tryz.sizeOf260
 v127 := Tryz.zeroValue260
 t146 := Tryz.underlying256
 a146 := Tryz.isAgg256
 z146 := Tryz.sizeOf256
 v146 := Tryz.zeroValue256
 t148 := Tryz.underlying258
 a148 := Tryz.isAgg258
 z148 := Tryz.sizeOf258
 v148 := Tryz.zeroValue258
 t164 := Tryz.underlying283
 a164 := Tryz.isAgg283
 z164 := Tryz.sizeOf283
 v164 := Tryz.zeroValue283 }
def Tryz.Sk : Go.Shelf.Ren := ⟨fun | 106 => 69 | 213 => 133 | 265 => 188 | n => n, fun | 9 => 9 | 3 => 3 | n => n, fun | n => n⟩
theorem Tryz.ZL : Go.Proofs.Lays.n106 Tryz.prog Tryz.Sk := {
 mixed := by kernel_rfl
 f106 := Tryz.func69.trans (congrArg some (by kernel_rfl))
 f213 := Tryz.func133.trans (congrArg some (by kernel_rfl))
 f265 := Tryz.func188.trans (congrArg some (by kernel_rfl))
 t3 := Tryz.underlying3
 a3 := Tryz.isAgg3
 z3 := Tryz.sizeOf3
 v3 := Tryz.zeroValue3
 t9 := Tryz.underlying9
 a9 := Tryz.isAgg9
 z9 := Tryz.sizeOf9
 v9 := Tryz.zeroValue9 }
def Tryz.Sa : Go.Shelf.Ren := ⟨fun | 285 => 247 | n => n, fun | 37 => 73 | 53 => 245 | 3 => 3 | 4 => 4 | 51 => 243 | 9 => 9 | 5 => 5 | 0 => 0 | n => n, fun | n => n⟩
theorem Tryz.ZF : Go.Proofs.Lays.n285 Tryz.prog Tryz.Sa := {
 mixed := by kernel_rfl
 f285 := Tryz.func247.trans (congrArg some (by kernel_rfl))
 t0 := Tryz.underlying0
 a0 := Tryz.isAgg0
 z0 := Tryz.sizeOf0
 v0 := Tryz.zeroValue0
 t3 := Tryz.underlying3
 a3 := Tryz.isAgg3
 z3 := Tryz.sizeOf3
 v3 := Tryz.zeroValue3
 t4 := Tryz.underlying4
 a4 := Tryz.isAgg4
 z4 := Tryz.sizeOf4
 v4 := Tryz.zeroValue4
 t5 := Tryz.underlying5
 a5 := Tryz.isAgg5
 z5 := Tryz.sizeOf5
 v5 := Tryz.zeroValue5
 t9 := Tryz.underlying9
 a9 := Tryz.isAgg9
 z9 := Tryz.sizeOf9
 v9 := Tryz.zeroValue9
 t37 := Tryz.underlying73
 a37 := Tryz.isAgg73
 z37 := Tryz.sizeOf73
 v37 := Tryz.zeroValue73
 t51 := Tryz.underlying243
 a51 := Tryz.isAgg243
 z51 := Tryz.sizeOf243
 v51 := Tryz.zeroValue243
 t53 := Tryz.underlying245
 a53 := Tryz.isAgg245
 z53 := Tryz.sizeOf245
 v53 := Tryz.zeroValue245 }
def Tryz.Rq : Go.Shelf.Ren := ⟨fun | 171 => 121 | 243 => 175 | 246 => 214 | 283 => 245 | 284 => 246 | 285 => 247 | 286 => 248 | 129 => 187 | 317 => 264 | 318 => 265 | 319 => 266 | 320 => 267 | 337 => 276 | 338 => 277 | n => n, fun | 3 => 3 | 9 => 9 | 2 => 2 | 4 => 4 | 171 => 286 | 0 => 0 | 53 => 245 | 37 => 73 | 5 => 5 | 173 => 288 | 212 => 299 | 51 => 243 | 20 => 20 | 213 => 300 | 46 => 192 | 232 => 307 | 233 => 308 | n => n, fun | 17 => 1 | 18 => 2 | 19 => 3 | n => n⟩
theorem Tryz.Xr : Go.Proofs.LaysM.n171 Tryz.prog Tryz.Rq := {
 mixed := by kernel_rfl
 f129 := Tryz.func187.trans (congrArg some (by kernel_rfl))
 f171 := Tryz.func121.trans (congrArg some (by kernel_rfl))
 f243 := Tryz.func175.trans (congrArg some (by kernel_rfl))
 f246 := Tryz.func214.trans (congrArg some (by kernel_rfl))
 f283 := Tryz.func245.trans (congrArg some (by kernel_rfl))
 f284 := Tryz.func246.trans (congrArg some (by kernel_rfl))
 f285 := Tryz.func247.trans (congrArg some (by kernel_rfl))
 f286 := Tryz.func248.trans (congrArg some (by kernel_rfl))
 f317 := Tryz.func264.trans (congrArg some (by kernel_rfl))
 f318 := Tryz.func265.trans (congrArg some (by kernel_rfl))
 f319 := Tryz.func266.trans (congrArg some (by kernel_rfl))
 f320 := Tryz.func267.trans (congrArg some (by kernel_rfl))
 f337 := Tryz.func276.trans (congrArg some (by kernel_rfl))
 f338 := Tryz.func277.trans (congrArg some (by kernel_rfl))
 t0 := Tryz.underlying0
 a0 := Tryz.isAgg0
 z0 := Tryz.sizeOf0
 v0 := Tryz.zeroValue0
 t2 := Tryz.underlying2
 a2 := Tryz.isAgg2
 z2 := Tryz.sizeOf2
 v2 := Tryz.zeroValue2
 t3 := Tryz.underlying3
 a3 := Tryz.isAgg3
 z3 := Tryz.sizeOf3
 v3 := Tryz.zeroValue3
 t4 := Tryz.underlying4
 a4 := Tryz.isAgg4
 z4 := Tryz.sizeOf4
 v4 := Tryz.zeroValue4
 t5 := Tryz.underlying5
 a5 := Tryz.isAgg5
 z5 := Tryz.sizeOf5
 v5 := Tryz.zeroValue5
 t9 := Tryz.underlying9
 a9 := Tryz.isAgg9
 z9 := Tryz.sizeOf9
 v9 := Tryz.zeroValue9
 t20 := Tryz.underlying20
 a20 := Tryz.isAgg20
 z20 := Tryz.sizeOf20
 v20 := Tryz.zeroValue20
 t37 := Tryz.underlying73
 a37 := Tryz.isAgg73
 z37 := Tryz.sizeOf73
 v37 := Tryz.zeroValue73
 t46 := Tryz.underlying192
 a46 := Tryz.isAgg192
 z46 := Tryz.sizeOf192
 v46 := Tryz.zeroValue192
 t51 := Tryz.underlying243
 a51 := Tryz.isAgg243
 z51 := Tryz.sizeOf243
 v51 := Tryz.zeroValue243
 t53 := Tryz.underlying245
 a53 := Tryz.isAgg245
 z53 := Tryz.sizeOf245
 v53 := Tryz.zeroValue245
 t171 := Tryz.underlying286
 a171 := Tryz.isAgg286
 z171 := Tryz.sizeOf286
 v171 := Tryz.zeroValue286
 t173 := Tryz.underlying288
 a173 := Tryz.isAgg288
 z173 := Tryz.sizeOf288
 v173 := Tryz.zeroValue288
 t212 := Tryz.underlying299
 a212 := Tryz.isAgg299
 z212 := Tryz.sizeOf299
 v212 := Tryz.zeroValue299
 t213 := Tryz.underlying300
 a213 := Tryz.isAgg300
 z213 := Tryz.sizeOf300
 t232 := Tryz.underlying307
 a232 := Tryz.isAgg307
 z232 := Tryz.sizeOf307
 v232 := Tryz.zeroValue307
 t233 := Tryz.underlying308
 a233 := Tryz.isAgg308
 z233 := Tryz.sizeOf308
 v233 := Tryz.zeroValue308
 g17 := by kernel_rfl
 g18 := by kernel_rfl
 g19 := by kernel_rfl
 i0 := by kernel_rfl
 i2 := by kernel_rfl
 i3 := by kernel_rfl
 i4 := by kernel_rfl
 i5 := by kernel_rfl
 i9 := by kernel_rfl
 i20 := by kernel_rfl
 i37 := by kernel_rfl
 i46 := by kernel_rfl
 i51 := by kernel_rfl
 i53 := by kernel_rfl
 i171 := by kernel_rfl
 i173 := by kernel_rfl
 i212 := by kernel_rfl
 i232 := by kernel_rfl
 i233 := by kernel_rfl
 m17 := by kernel_rfl
 m18 := by kernel_rfl
 m19 := by kernel_rfl }
def Tryz.Sz : Go.Shelf.Ren := ⟨fun | 284 => 246 | 129 => 187 | 317 => 264 | 318 => 265 | n => n, fun | 53 => 245 | 3 => 3 | 212 => 299 | 0 => 0 | 4 => 4 | 46 => 192 | 5 => 5 | 9 => 9 | n => n, fun | 17 => 1 | n => n⟩
theorem Tryz.Yu : Go.Proofs.LaysM.n284 Tryz.prog Tryz.Sz := {
 mixed := by kernel_rfl
 f129 := Tryz.func187.trans (congrArg some (by kernel_rfl))
 f284 := Tryz.func246.trans (congrArg some (by kernel_rfl))
 f317 := Tryz.func264.trans (congrArg some (by kernel_rfl))
 f318 := Tryz.func265.trans (congrArg some (by kernel_rfl))
 t0 := Tryz.underlying0
 a0 := Tryz.isAgg0
 z0 := Tryz.sizeOf0
 v0 := Tryz.zeroValue0
 t3 := Tryz.underlying3
 a3 := Tryz.isAgg3
 z3 := Tryz.sizeOf3
 v3 := Tryz.zeroValue3
 t4 := Tryz.underlying4
 a4 := Tryz.isAgg4
 z4 := Tryz.sizeOf4
 v4 := Tryz.zeroValue4
 t5 := Tryz.underlying5
 a5 := Tryz.isAgg5
 z5 := Tryz.sizeOf5
 v5 := Tryz.zeroValue5
 t9 := Tryz.underlying9
 a9 := Tryz.isAgg9
 z9 := Tryz.sizeOf9
 v9 := Tryz.zeroValue9
 t46 := Tryz.underlying192
 a46 := Tryz.isAgg192
 z46 := Tryz.sizeOf192
 v46 := Tryz.zeroValue192
 t53 := Tryz.underlying245
 a53 := Tryz.isAgg245
 z53 := Tryz.sizeOf245
 v53 := Tryz.zeroValue245
 t212 := Tryz.underlying299
 a212 := Tryz.isAgg299
 z212 := Tryz.sizeOf299
 v212 := Tryz.zeroValue299
 g17 := by kernel_rfl
 i0 := by kernel_rfl
 i3 := by kernel_rfl
 i4 := by kernel_rfl
 i5 := by kernel_rfl
 i9 := by kernel_rfl
 i46 := by kernel_rfl
 i53 := by kernel_rfl
 i212 := by kernel_rfl
 m17 := by kernel_rfl }
def Tryz.RZ : Go.Shelf.Ren := ⟨fun | 6 => 67 | 15 => 132 | 14 => 131 | 28 => 186 | 29 => 187 | 20 => 178 | 21 => 179 | 22 => 180 | 23 => 181 | 24 => 182 | 25 => 183 | 26 => 184 | 27 => 185 | 46 => 219 | 47 => 220 | 48 => 221 | 49 => 222 | 50 => 223 | 57 => 252 | n => n, fun | 22 => 24 | 24 => 117 | 25 => 120 | 3 => 3 | 39 => 192 | 0 => 0 | 53 => 243 | 55 => 245 | 4 => 4 | 46 => 236 | 45 => 235 | 50 => 240 | 5 => 5 | 9 => 9 | 66 => 269 | 70 => 135 | 76 => 293 | 77 => 100 | n => n, fun | n => n⟩
theorem Tryz.XL : Go.Proofs.SlLaysF0.n6 Tryz.prog Tryz.RZ := {
 mixed := by kernel_rfl
 f6 := ⟨Tryz.f67.name, by decide, Tryz.func67.trans (congrArg some (by kernel_rfl))⟩
 f14 := ⟨Tryz.f131.name, by decide, Tryz.func131.trans (congrArg some (by kernel_rfl))⟩
 f15 := Tryz.func132.trans (congrArg some (by kernel_rfl))
 f20 := ⟨Tryz.f178.name, by decide, Tryz.func178.trans (congrArg some (by kernel_rfl))⟩
 f21 := ⟨Tryz.f179.name, by decide, Tryz.func179.trans (congrArg some (by kernel_rfl))⟩
 f22 := ⟨Tryz.f180.name, by decide, Tryz.func180.trans (congrArg some (by kernel_rfl))⟩
 f23 := ⟨Tryz.f181.name, by decide, Tryz.func181.trans (congrArg some (by kernel_rfl))⟩
 f24 := ⟨Tryz.f182.name, by decide, Tryz.func182.trans (congrArg some (by kernel_rfl))⟩
 f25 := ⟨Tryz.f183.name, by decide, Tryz.func183.trans (congrArg some (by kernel_rfl))⟩
 f26 := ⟨Tryz.f184.name, by decide, Tryz.func184.trans (congrArg some (by kernel_rfl))⟩
 f27 := ⟨Tryz.f185.name, by decide, Tryz.func185.trans (congrArg some (by kernel_rfl))⟩
 f28 := Tryz.func186.trans (congrArg some (by kernel_rfl))
 f29 := Tryz.func187.trans (congrArg some (by kernel_rfl))
 f46 := ⟨Tryz.f219.name, by decide, Tryz.func219.trans (congrArg some (by kernel_rfl))⟩
 f47 := Tryz.func220.trans (congrArg some (by kernel_rfl))
 f48 := Tryz.func221.trans (congrArg some (by kernel_rfl))
 f49 := ⟨Tryz.f222.name, by decide, Tryz.func222.trans (congrArg some (by kernel_rfl))⟩
 f50 := ⟨Tryz.f223.name, by decide, Tryz.func223.trans (congrArg some (by kernel_rfl))⟩
 f57 := ⟨Tryz.f252.name, by decide, Tryz.func252.trans (congrArg some (by kernel_rfl))⟩
 t0 := Tryz.underlying0
 a0 := Tryz.isAgg0
 z0 := Tryz.sizeOf0
 v0 := Tryz.zeroValue0
 t3 := Tryz.underlying3
 a3 := Tryz.isAgg3
 z3 := Tryz.sizeOf3
 v3 := Tryz.zeroValue3
 t4 := Tryz.underlying4
 a4 := Tryz.isAgg4
 z4 := Tryz.sizeOf4
 v4 := Tryz.zeroValue4
 t5 := Tryz.underlying5
 a5 := Tryz.isAgg5
 z5 := Tryz.sizeOf5
 v5 := Tryz.zeroValue5
 t9 := Tryz.underlying9
 a9 := Tryz.isAgg9
 z9 := Tryz.sizeOf9
 v9 := Tryz.zeroValue9
 t22 := Tryz.underlying24
 a22 := Tryz.isAgg24
 z22 := Tryz.sizeOf24
 v22 := Tryz.zeroValue24
 t25 := Tryz.underlying120
 a25 := Tryz.isAgg120
 z25 := Tryz.sizeOf120
 v25 := Tryz.zeroValue120
 t39 := Tryz.underlying192
 a39 := Tryz.isAgg192
 z39 := Tryz.sizeOf192
 v39 := Tryz.zeroValue192
 t45 := Tryz.underlying235
 a45 := Tryz.isAgg235
 z45 := Tryz.sizeOf235
 v45 := Tryz.zeroValue235
 t46 := Tryz.underlying236
 a46 := Tryz.isAgg236
 z46 := Tryz.sizeOf236
 v46 := Tryz.zeroValue236
 t50 := Tryz.underlying240
 a50 := Tryz.isAgg240
 z50 := Tryz.sizeOf240
 v50 := Tryz.zeroValue240
 t53 := Tryz.underlying243
 a53 := Tryz.isAgg243
 z53 := Tryz.sizeOf243
 v53 := Tryz.zeroValue243
 t55 := Tryz.underlying245
 a55 := Tryz.isAgg245
 z55 := Tryz.sizeOf245
 v55 := Tryz.zeroValue245
 t66 := Tryz.underlying269
 a66 := Tryz.isAgg269
 z66 := Tryz.sizeOf269
 v66 := Tryz.zeroValue269
 t70 := Tryz.underlying135
 a70 := Tryz.isAgg135
 z70 := Tryz.sizeOf135
 v70 := Tryz.zeroValue135
 t76 := Tryz.underlying293
 a76 := Tryz.isAgg293
 z76 := Tryz.sizeOf293
 v76 := Tryz.zeroValue293
 t77 := Tryz.underlying100
 a77 := Tryz.isAgg100
 z77 := Tryz.sizeOf100
 v77 := Tryz.zeroValue100 }
end Go.Proofs
end
