/-
  Several texts in one.
-/
import Derived.Test.YtlljeoogceblmaaGreatDoorAvLit
import Derived.Test.YtlljeoogceblmaaGreatDoorProg
import Derived.Shelf.SlGeneric
import Derived.Shelf.SlIter.Nil
import Derived.Shelf.SortM.Plain
import Derived.Shelf.SortM.SortNone
import Derived.Shelf.SlicesE.Clone
import Derived.Shelf.Spec.SlicesGrow
import Derived.Ground.GgzProg
import Derived.Ground.SlgmProg
import Derived.Ground.SlgnProg
import Derived.Ground.Names8Prog
import Derived.Shelf.Lays
import Derived.Ground.NamesProg
import Derived.Shelf.LaysM
import Derived.Shelf.SlLaysF0
import Derived.Ground.SlsfProg
/-
 A part.
-/
section
namespace Go.Av.LT
open Go.Av Go.Lib
set_option linter.unusedSimpArgs false
set_option linter.unusedVariables false
set_option maxRecDepth 100000
noncomputable def Ng : FY := Vx Go.Proofs.Tryz.prog (fun _ _ => [])
theorem Ux : TP Ng.P Ng.Bt 140 194 := Re (C := Ng) (Qn (mk := []) fun p h => by cases h) (fn := Go.Proofs.Tryz.f140) (i0 := 0) (i1 := 1) (ops0 := R6 Go.Proofs.Tryz.f140 0) (ops1 := R6 Go.Proofs.Tryz.f140 1) (tb := 1) (tr := 2) (z := .nilFunc) (fr2 := fun r => [pA r, .AR [pA r], .func (.func 194) [] [.AR [pA r]], .func (.func 194) [] [.AR [pA r]]])
 Go.Proofs.Tryz.func140 (by kernel_rfl) (by kernel_rfl) (fun m => ⟨_, .nilFunc⟩) (by decide) (fun r h => by kernel_rfl) (fun r h => by kernel_rfl) (fun r h => by kernel_rfl)
theorem VM : TP Ng.P Ng.Bt 141 195 := Re (C := Ng) (Qn (mk := []) fun p h => by cases h) (fn := Go.Proofs.Tryz.f141) (i0 := 0) (i1 := 1) (ops0 := R6 Go.Proofs.Tryz.f141 0) (ops1 := R6 Go.Proofs.Tryz.f141 1) (tb := 1) (tr := 2) (z := .nilFunc) (fr2 := fun r => [pA r, .AR [pA r], .func (.func 195) [] [.AR [pA r]], .func (.func 195) [] [.AR [pA r]]])
 Go.Proofs.Tryz.func141 (by kernel_rfl) (by kernel_rfl) (fun m => ⟨_, .nilFunc⟩) (by decide) (fun r h => by kernel_rfl) (fun r h => by kernel_rfl) (fun r h => by kernel_rfl)
def ao : List (FuncId × FuncId) := [(140, 194), (141, 195)]
theorem YP : EY Ng.P Ng.Bt (Wt ao) := Qn fun p h => by
 simp only [ao, List.mem_cons, List.not_mem_nil, or_false] at h
 rcases h with rfl | rfl
 ·exact Ux
 ·exact VM
def Vf (r s : Nat × Nat) (n : Nat) : Fr := [pA r, pA s, .AR [pA r], .tuple [], .map (some n), .map (some n), pA r, pA r, .ptr (some (r.1, r.2 + 5)), .func (.func 194) [] [.AR [.ptr (some (r.1, r.2 + 5))]], pA r, pA r, .ptr (some (r.1, r.2 + 4)), .func (.func 194) [] [.AR [.ptr (some (r.1, r.2 + 4))]], pA s, .func (.func 194) [] [.AR [pA s]], pA r, pA r, .ptr (some (r.1, r.2 + 7)), .func (.func 195) [] [.AR [.ptr (some (r.1, r.2 + 7))]], pA r, pA r, .ptr (some (r.1, r.2 + 6)), .func (.func 195) [] [.AR [.ptr (some (r.1, r.2 + 6))]], pA r, pA r, pA r, .func (.func 195) [] [.AR [pA r]], pA r, pA r, .ptr (some (r.1, r.2 + 1)), .func (.func 195) [] [.AR [.ptr (some (r.1, r.2 + 1))]], .func (.func 142) [] [.AR [pA r]], .map (some n)]
def Zb (r s : Nat × Nat) : List (AA × AA) := [(.str [103, 105, 100], .func (.func 194) [] [.AR [.ptr (some (r.1, r.2 + 5))]]), (.str [117, 105, 100], .func (.func 194) [] [.AR [.ptr (some (r.1, r.2 + 4))]]), (.str [115, 105, 122, 101], .func (.func 194) [] [.AR [pA s]]), (.str [103, 110, 97, 109, 101], .func (.func 195) [] [.AR [.ptr (some (r.1, r.2 + 7))]]), (.str [117, 110, 97, 109, 101], .func (.func 195) [] [.AR [.ptr (some (r.1, r.2 + 6))]]), (.str [112, 97, 116, 104], .func (.func 195) [] [.AR [pA r]]), (.str [108, 105, 110, 107, 112, 97, 116, 104], .func (.func 195) [] [.AR [.ptr (some (r.1, r.2 + 1))]]), (.str [109, 116, 105, 109, 101], .func (.func 142) [] [.AR [pA r]])]
def Xo : List (AA × AA) := [(.str [103, 105, 100], .func (.func 194) [] [.AR [.ptr (some (0, 5))]]), (.str [117, 105, 100], .func (.func 194) [] [.AR [.ptr (some (0, 4))]]), (.str [115, 105, 122, 101], .func (.func 194) [] [.AR [.ptr (some (1, 0))]]), (.str [103, 110, 97, 109, 101], .func (.func 195) [] [.AR [.ptr (some (0, 7))]]), (.str [117, 110, 97, 109, 101], .func (.func 195) [] [.AR [.ptr (some (0, 6))]]), (.str [112, 97, 116, 104], .func (.func 195) [] [.AR [.ptr (some (0, 0))]]), (.str [108, 105, 110, 107, 112, 97, 116, 104], .func (.func 195) [] [.AR [.ptr (some (0, 1))]]), (.str [109, 116, 105, 109, 101], .func (.func 142) [] [.AR [.ptr (some (0, 0))]])]
theorem bQ (r s : Nat × Nat) (h : AD) : Lit Ng (Wt ao) h (R6 Go.Proofs.Tryz.f82 1) (WD (SI [pA r, pA s] Go.Proofs.Tryz.f82.ntmps) 2 4 (.AR [pA r]) (.map none)) (Vf r s h.size) 140 9 144 5 0 :=
 Lit.of (by kernel_rfl) (by kernel_rfl) (by kernel_rfl) (by kernel_rfl) (by kernel_rfl) (fun H => by kernel_rfl) (by kernel_rfl) (by kernel_rfl)
theorem Zg {G : Nat → Option (List AA)} : Er Ng.P G 82 fun _ h args => Pd Xo 2 h args :=
 Er.nil <| WC (C := Ng) (by kernel_rfl) YP (fn := Go.Proofs.Tryz.f82) (i0 := 0) (i1 := 1) (ops0 := R6 Go.Proofs.Tryz.f82 0) (ops := (R6 Go.Proofs.Tryz.f82 1)) (tb := 2) (tr := 4) (z := .map none) (val := Vf) (es' := Zb)
  Go.Proofs.Tryz.func82 (by kernel_rfl) (by kernel_rfl) (fun m => ⟨_, .Jq⟩) (by decide) (fun r s h => by kernel_rfl) bQ (fun r s n => by kernel_rfl) (fun r s => by kernel_rfl) (fun r s => Sb (ks := [[103, 105, 100], [117, 105, 100], [115, 105, 122, 101], [103, 110, 97, 109, 101], [117, 110, 97, 109, 101], [112, 97, 116, 104], [108, 105, 110, 107, 112, 97, 116, 104], [109, 116, 105, 109, 101]]) (by kernel_rfl) (by decide)) (fun r s => by kernel_rfl) (fun r s h H => by kernel_rfl)
end Go.Av.LT
end
/-
 A part.
-/
section
namespace Go.Proofs
open Go.Shelf
def Tryz.R5 : Go.Shelf.Ren := ⟨fun | 106 => 69 | 213 => 133 | 265 => 188 | n => n, fun | 9 => 9 | 3 => 3 | n => n, fun | n => n⟩
theorem Tryz.Ya : Go.Proofs.Lays.n106 Tryz.prog Tryz.R5 := {
 mixed := by kernel_rfl
 f106 := Tryz.func69.trans (congrArg some (by kernel_rfl))
 f213 := Tryz.func133.trans (congrArg some (by kernel_rfl))
 f265 := Tryz.func188.trans (congrArg some (by kernel_rfl))
 t3 := Tryz.underlying3
 a3 := Tryz.isAgg3
 z3 := Tryz.sizeOf3
 v3 := Tryz.zeroValue3
 t9 := Tryz.underlying9
 a9 := Tryz.isAgg9
 z9 := Tryz.sizeOf9
 v9 := Tryz.zeroValue9 }
def Tryz.SK : Go.Shelf.Ren := ⟨fun | 145 => 139 | 220 => 193 | 219 => 226 | 217 => 189 | 225 => 253 | 224 => 254 | 267 => 255 | 266 => 224 | 314 => 271 | n => n, fun | 9 => 9 | 4 => 4 | 59 => 173 | 3 => 3 | 5 => 5 | 46 => 192 | 146 => 256 | 51 => 243 | n => n, fun | 1 => 0 | n => n⟩
theorem Tryz.YV : Go.Proofs.Lays.n145 Tryz.prog Tryz.SK := {
 mixed := by kernel_rfl
 f145 := Tryz.func139.trans (congrArg some (by kernel_rfl))
 f217 := Tryz.func189.trans (congrArg some (by kernel_rfl))
 f219 := Tryz.func226.trans (congrArg some (by kernel_rfl))
 f220 := Tryz.func193.trans (congrArg some (by kernel_rfl))
 f224 := Tryz.func254.trans (congrArg some (by kernel_rfl))
 f225 := Tryz.func253.trans (congrArg some (by kernel_rfl))
 f266 := Tryz.func224.trans (congrArg some (by kernel_rfl))
 f267 := Tryz.func255.trans (congrArg some (by kernel_rfl))
 f314 := Tryz.func271.trans (congrArg some (by kernel_rfl))
 t3 := Tryz.underlying3
 a3 := Tryz.isAgg3
 z3 := Tryz.sizeOf3
 v3 := Tryz.zeroValue3
 t4 := Tryz.underlying4
 a4 := Tryz.isAgg4
 z4 := Tryz.sizeOf4
 v4 := Tryz.zeroValue4
 t5 := Tryz.underlying5
 a5 := Tryz.isAgg5
 z5 := Tryz.sizeOf5
 v5 := Tryz.zeroValue5
 t9 := Tryz.underlying9
 a9 := Tryz.isAgg9
 z9 := Tryz.sizeOf9
 v9 := Tryz.zeroValue9
 t46 := Tryz.underlying192
 a46 := Tryz.isAgg192
 z46 := Tryz.sizeOf192
 v46 := Tryz.zeroValue192
 t51 := Tryz.underlying243
 a51 := Tryz.isAgg243
 z51 := Tryz.sizeOf243
 v51 := Tryz.zeroValue243
 t59 := Tryz.underlying173
 a59 := Tryz.isAgg173
 z59 := Tryz.sizeOf173
 v59 := Tryz.zeroValue173
 t146 := Tryz.underlying256
 a146 := Tryz.isAgg256
 z146 := Tryz.sizeOf256
 v146 := Tryz.zeroValue256
 g1 := by kernel_rfl }
def Tryz.Rm : Go.Shelf.Ren := ⟨fun | 171 => 121 | 243 => 175 | 246 => 214 | 283 => 245 | 284 => 246 | 285 => 247 | 286 => 248 | 129 => 187 | 317 => 264 | 318 => 265 | 319 => 266 | 320 => 267 | 337 => 276 | 338 => 277 | n => n, fun | 3 => 3 | 9 => 9 | 2 => 2 | 4 => 4 | 171 => 286 | 0 => 0 | 53 => 245 | 37 => 73 | 5 => 5 | 173 => 288 | 212 => 299 | 51 => 243 | 20 => 20 | 213 => 300 | 46 => 192 | 232 => 307 | 233 => 308 | n => n, fun | 17 => 1 | 18 => 2 | 19 => 3 | n => n⟩
theorem Tryz.XG : Go.Proofs.LaysM.n171 Tryz.prog Tryz.Rm := {
 mixed := by kernel_rfl
 f129 := Tryz.func187.trans (congrArg some (by kernel_rfl))
 f171 := Tryz.func121.trans (congrArg some (by kernel_rfl))
 f243 := Tryz.func175.trans (congrArg some (by kernel_rfl))
 f246 := Tryz.func214.trans (congrArg some (by kernel_rfl))
 f283 := Tryz.func245.trans (congrArg some (by kernel_rfl))
 f284 := Tryz.func246.trans (congrArg some (by kernel_rfl))
 f285 := Tryz.func247.trans (congrArg some (by kernel_rfl))
 f286 := Tryz.func248.trans (congrArg some (by kernel_rfl))
 f317 := Tryz.func264.trans (congrArg some (by kernel_rfl))
 f318 := Tryz.func265.trans (congrArg some (by kernel_rfl))
 f319 := Tryz.func266.trans (congrArg some (by kernel_rfl))
 f320 := Tryz.func267.trans (congrArg some (by kernel_rfl))
 f337 := Tryz.func276.trans (congrArg some (by kernel_rfl))
 f338 := Tryz.func277.trans (congrArg some (by kernel_rfl))
 t0 := Tryz.underlying0
 a0 := Tryz.isAgg0
 z0 := Tryz.sizeOf0
 v0 := Tryz.zeroValue0
 t2 := Tryz.underlying2
 a2 := Tryz.isAgg2
 z2 := Tryz.sizeOf2
 v2 := Tryz.zeroValue2
 t3 := Tryz.underlying3
 a3 := Tryz.isAgg3
 z3 := Tryz.sizeOf3
 v3 := Tryz.zeroValue3
 t4 := Tryz.underlying4
 a4 := Tryz.isAgg4
 z4 := Tryz.sizeOf4
 v4 := Tryz.zeroValue4
 t5 := Tryz.underlying5
 a5 := Tryz.isAgg5
 z5 := Tryz.sizeOf5
 v5 := Tryz.zeroValue5
 t9 := Tryz.underlying9
 a9 := Tryz.isAgg9
 z9 := Tryz.sizeOf9
 v9 := Tryz.zeroValue9
 t20 := Tryz.underlying20
 a20 := Tryz.isAgg20
 z20 := Tryz.sizeOf20
 v20 := Tryz.zeroValue20
 t37 := Tryz.underlying73
 a37 := Tryz.isAgg73
 z37 := Tryz.sizeOf73
 v37 := Tryz.zeroValue73
 t46 := Tryz.underlying192
 a46 := Tryz.isAgg192
 z46 := Tryz.sizeOf192
 v46 := Tryz.zeroValue192
 t51 := Tryz.underlying243
 a51 := Tryz.isAgg243
 z51 := Tryz.sizeOf243
 v51 := Tryz.zeroValue243
 t53 := Tryz.underlying245
 a53 := Tryz.isAgg245
 z53 := Tryz.sizeOf245
 v53 := Tryz.zeroValue245
 t171 := Tryz.underlying286
 a171 := Tryz.isAgg286
 z171 := Tryz.sizeOf286
 v171 := Tryz.zeroValue286
 t173 := Tryz.underlying288
 a173 := Tryz.isAgg288
 z173 := Tryz.sizeOf288
 v173 := Tryz.zeroValue288
 t212 := Tryz.underlying299
 a212 := Tryz.isAgg299
 z212 := Tryz.sizeOf299
 v212 := Tryz.zeroValue299
 t213 := Tryz.underlying300
 a213 := Tryz.isAgg300
 z213 := Tryz.sizeOf300
 t232 := Tryz.underlying307
 a232 := Tryz.isAgg307
 z232 := Tryz.sizeOf307
 v232 := Tryz.zeroValue307
 t233 := Tryz.underlying308
 a233 := Tryz.isAgg308
 z233 := Tryz.sizeOf308
 v233 := Tryz.zeroValue308
 g17 := by kernel_rfl
 g18 := by kernel_rfl
 g19 := by kernel_rfl
 i0 := by kernel_rfl
 i2 := by kernel_rfl
 i3 := by kernel_rfl
 i4 := by kernel_rfl
 i5 := by kernel_rfl
 i9 := by kernel_rfl
 i20 := by kernel_rfl
 i37 := by kernel_rfl
 i46 := by kernel_rfl
 i51 := by kernel_rfl
 i53 := by kernel_rfl
 i171 := by kernel_rfl
 i173 := by kernel_rfl
 i212 := by kernel_rfl
 i232 := by kernel_rfl
 i233 := by kernel_rfl
 m17 := by kernel_rfl
 m18 := by kernel_rfl
 m19 := by kernel_rfl }
def Tryz.Qr : Go.Shelf.Ren := ⟨fun | 6 => 67 | 15 => 132 | 14 => 131 | 28 => 186 | 29 => 187 | 20 => 178 | 21 => 179 | 22 => 180 | 23 => 181 | 24 => 182 | 25 => 183 | 26 => 184 | 27 => 185 | 46 => 219 | 47 => 220 | 48 => 221 | 49 => 222 | 50 => 223 | 57 => 252 | n => n, fun | 22 => 24 | 24 => 117 | 25 => 120 | 3 => 3 | 39 => 192 | 0 => 0 | 53 => 243 | 55 => 245 | 4 => 4 | 46 => 236 | 45 => 235 | 50 => 240 | 5 => 5 | 9 => 9 | 66 => 269 | 70 => 135 | 76 => 293 | 77 => 100 | n => n, fun | n => n⟩
theorem Tryz.XZ : Go.Proofs.SlLaysF0.n6 Tryz.prog Tryz.Qr := {
 mixed := by kernel_rfl
 f6 := ⟨Tryz.f67.name, by decide, Tryz.func67.trans (congrArg some (by kernel_rfl))⟩
 f14 := ⟨Tryz.f131.name, by decide, Tryz.func131.trans (congrArg some (by kernel_rfl))⟩
 f15 := Tryz.func132.trans (congrArg some (by kernel_rfl))
 f20 := ⟨Tryz.f178.name, by decide, Tryz.func178.trans (congrArg some (by kernel_rfl))⟩
 f21 := ⟨Tryz.f179.name, by decide, Tryz.func179.trans (congrArg some (by kernel_rfl))⟩
 f22 := ⟨Tryz.f180.name, by decide, Tryz.func180.trans (congrArg some (by kernel_rfl))⟩
 f23 := ⟨Tryz.f181.name, by decide, Tryz.func181.trans (congrArg some (by kernel_rfl))⟩
 f24 := ⟨Tryz.f182.name, by decide, Tryz.func182.trans (congrArg some (by kernel_rfl))⟩
 f25 := ⟨Tryz.f183.name, by decide, Tryz.func183.trans (congrArg some (by kernel_rfl))⟩
 f26 := ⟨Tryz.f184.name, by decide, Tryz.func184.trans (congrArg some (by kernel_rfl))⟩
 f27 := ⟨Tryz.f185.name, by decide, Tryz.func185.trans (congrArg some (by kernel_rfl))⟩
 f28 := Tryz.func186.trans (congrArg some (by kernel_rfl))
 f29 := Tryz.func187.trans (congrArg some (by kernel_rfl))
 f46 := ⟨Tryz.f219.name, by decide, Tryz.func219.trans (congrArg some (by kernel_rfl))⟩
 f47 := Tryz.func220.trans (congrArg some (by kernel_rfl))
 f48 := Tryz.func221.trans (congrArg some (by kernel_rfl))
 f49 := ⟨Tryz.f222.name, by decide, Tryz.func222.trans (congrArg some (by kernel_rfl))⟩
 f50 := ⟨Tryz.f223.name, by decide, Tryz.func223.trans (congrArg some (by kernel_rfl))⟩
 f57 := ⟨Tryz.f252.name, by decide, Tryz.func252.trans (congrArg some (by kernel_rfl))⟩
 t0 := Tryz.underlying0
 a0 := Tryz.isAgg0
 z0 := Tryz.sizeOf0
 v0 := Tryz.zeroValue0
 t3 := Tryz.underlying3
 a3 := Tryz.isAgg3
 z3 := Tryz.sizeOf3
 v3 := Tryz.zeroValue3
 t4 := Tryz.underlying4
 a4 := Tryz.isAgg4
 z4 := Tryz.sizeOf4
 v4 := Tryz.zeroValue4
 t5 := Tryz.underlying5
 a5 := Tryz.isAgg5
 z5 := Tryz.sizeOf5
 v5 := Tryz.zeroValue5
 t9 := Tryz.underlying9
 a9 := Tryz.isAgg9
 z9 := Tryz.sizeOf9
 v9 := Tryz.zeroValue9
 t22 := Tryz.underlying24
 a22 := Tryz.isAgg24
 z22 := Tryz.sizeOf24
 v22 := Tryz.zeroValue24
 t25 := Tryz.underlying120
 a25 := Tryz.isAgg120
 z25 := Tryz.sizeOf120
 v25 := Tryz.zeroValue120
 t39 := Tryz.underlying192
 a39 := Tryz.isAgg192
 z39 := Tryz.sizeOf192
 v39 := Tryz.zeroValue192
 t45 := Tryz.underlying235
 a45 := Tryz.isAgg235
 z45 := Tryz.sizeOf235
 v45 := Tryz.zeroValue235
 t46 := Tryz.underlying236
 a46 := Tryz.isAgg236
 z46 := Tryz.sizeOf236
 v46 := Tryz.zeroValue236
 t50 := Tryz.underlying240
 a50 := Tryz.isAgg240
 z50 := Tryz.sizeOf240
 v50 := Tryz.zeroValue240
 t53 := Tryz.underlying243
 a53 := Tryz.isAgg243
 z53 := Tryz.sizeOf243
 v53 := Tryz.zeroValue243
 t55 := Tryz.underlying245
 a55 := Tryz.isAgg245
 z55 := Tryz.sizeOf245
 v55 := Tryz.zeroValue245
 t66 := Tryz.underlying269
 a66 := Tryz.isAgg269
 z66 := Tryz.sizeOf269
 v66 := Tryz.zeroValue269
 t70 := Tryz.underlying135
 a70 := Tryz.isAgg135
 z70 := Tryz.sizeOf135
 v70 := Tryz.zeroValue135
 t76 := Tryz.underlying293
 a76 := Tryz.isAgg293
 z76 := Tryz.sizeOf293
 v76 := Tryz.zeroValue293
 t77 := Tryz.underlying100
 a77 := Tryz.isAgg100
 z77 := Tryz.sizeOf100
 v77 := Tryz.zeroValue100 }
def Tryz.RP : Go.Shelf.Ren := ⟨fun | 6 => 145 | 8 => 132 | 9 => 199 | 19 => 186 | 20 => 187 | 21 => 228 | 22 => 229 | 23 => 230 | 24 => 231 | 25 => 232 | 26 => 233 | 27 => 234 | 28 => 235 | 29 => 236 | 36 => 256 | 31 => 220 | 32 => 221 | 37 => 257 | 38 => 258 | 39 => 259 | 41 => 272 | n => n, fun | 27 => 148 | 29 => 9 | 3 => 3 | 32 => 192 | 26 => 148 | 0 => 0 | 44 => 243 | 46 => 245 | 4 => 4 | 36 => 236 | 35 => 235 | 41 => 240 | 5 => 5 | 9 => 9 | 53 => 269 | 57 => 135 | 63 => 293 | 64 => 100 | n => n, fun | n => n⟩
theorem Tryz.W3 : Go.Proofs.SlLaysM.n6 Tryz.prog Tryz.RP := {
 mixed := by kernel_rfl
 f6 := ⟨Tryz.f145.name, by decide, Tryz.func145.trans (congrArg some (by kernel_rfl))⟩
 f8 := Tryz.func132.trans (congrArg some (by kernel_rfl))
 f9 := ⟨Tryz.f199.name, by decide, Tryz.func199.trans (congrArg some (by kernel_rfl))⟩
 f19 := Tryz.func186.trans (congrArg some (by kernel_rfl))
 f20 := Tryz.func187.trans (congrArg some (by kernel_rfl))
 f21 := ⟨Tryz.f228.name, by decide, Tryz.func228.trans (congrArg some (by kernel_rfl))⟩
 f22 := ⟨Tryz.f229.name, by decide, Tryz.func229.trans (congrArg some (by kernel_rfl))⟩
 f23 := ⟨Tryz.f230.name, by decide, Tryz.func230.trans (congrArg some (by kernel_rfl))⟩
 f24 := ⟨Tryz.f231.name, by decide, Tryz.func231.trans (congrArg some (by kernel_rfl))⟩
 f25 := ⟨Tryz.f232.name, by decide, Tryz.func232.trans (congrArg some (by kernel_rfl))⟩
 f26 := ⟨Tryz.f233.name, by decide, Tryz.func233.trans (congrArg some (by kernel_rfl))⟩
 f27 := ⟨Tryz.f234.name, by decide, Tryz.func234.trans (congrArg some (by kernel_rfl))⟩
 f28 := ⟨Tryz.f235.name, by decide, Tryz.func235.trans (congrArg some (by kernel_rfl))⟩
 f29 := ⟨Tryz.f236.name, by decide, Tryz.func236.trans (congrArg some (by kernel_rfl))⟩
 f31 := Tryz.func220.trans (congrArg some (by kernel_rfl))
 f32 := Tryz.func221.trans (congrArg some (by kernel_rfl))
 f36 := ⟨Tryz.f256.name, by decide, Tryz.func256.trans (congrArg some (by kernel_rfl))⟩
 f37 := ⟨Tryz.f257.name, by decide, Tryz.func257.trans (congrArg some (by kernel_rfl))⟩
 f38 := ⟨Tryz.f258.name, by decide, Tryz.func258.trans (congrArg some (by kernel_rfl))⟩
 f39 := ⟨Tryz.f259.name, by decide, Tryz.func259.trans (congrArg some (by kernel_rfl))⟩
 f41 := ⟨Tryz.f272.name, by decide, Tryz.func272.trans (congrArg some (by kernel_rfl))⟩
 t0 := Tryz.underlying0
 a0 := Tryz.isAgg0
 z0 := Tryz.sizeOf0
 v0 := Tryz.zeroValue0
 t3 := Tryz.underlying3
 a3 := Tryz.isAgg3
 z3 := Tryz.sizeOf3
 v3 := Tryz.zeroValue3
 t4 := Tryz.underlying4
 a4 := Tryz.isAgg4
 z4 := Tryz.sizeOf4
 v4 := Tryz.zeroValue4
 t5 := Tryz.underlying5
 a5 := Tryz.isAgg5
 z5 := Tryz.sizeOf5
 v5 := Tryz.zeroValue5
 t9 := Tryz.underlying9
 a9 := Tryz.isAgg9
 z9 := Tryz.sizeOf9
 v9 := Tryz.zeroValue9
 t26 := Tryz.underlying148
 a26 := Tryz.isAgg148
 z26 := Tryz.sizeOf148
 v26 := Tryz.zeroValue148
 t27 := Tryz.underlying148
 a27 := Tryz.isAgg148
 z27 := Tryz.sizeOf148
 v27 := Tryz.zeroValue148
 t29 := Tryz.underlying9
 a29 := Tryz.isAgg9
 z29 := Tryz.sizeOf9
 v29 := Tryz.zeroValue9
 t32 := Tryz.underlying192
 a32 := Tryz.isAgg192
 z32 := Tryz.sizeOf192
 v32 := Tryz.zeroValue192
 t35 := Tryz.underlying235
 a35 := Tryz.isAgg235
 z35 := Tryz.sizeOf235
 v35 := Tryz.zeroValue235
 t36 := Tryz.underlying236
 a36 := Tryz.isAgg236
 z36 := Tryz.sizeOf236
 v36 := Tryz.zeroValue236
 t41 := Tryz.underlying240
 a41 := Tryz.isAgg240
 z41 := Tryz.sizeOf240
 v41 := Tryz.zeroValue240
 t44 := Tryz.underlying243
 a44 := Tryz.isAgg243
 z44 := Tryz.sizeOf243
 v44 := Tryz.zeroValue243
 t46 := Tryz.underlying245
 a46 := Tryz.isAgg245
 z46 := Tryz.sizeOf245
 v46 := Tryz.zeroValue245
 t53 := Tryz.underlying269
 a53 := Tryz.isAgg269
 z53 := Tryz.sizeOf269
 v53 := Tryz.zeroValue269
 t57 := Tryz.underlying135
 a57 := Tryz.isAgg135
 z57 := Tryz.sizeOf135
 v57 := Tryz.zeroValue135
 t63 := Tryz.underlying293
 a63 := Tryz.isAgg293
 z63 := Tryz.sizeOf293
 v63 := Tryz.zeroValue293
 t64 := Tryz.underlying100
 a64 := Tryz.isAgg100
 z64 := Tryz.sizeOf100
 v64 := Tryz.zeroValue100 }
def Tryz.QO : Go.Shelf.Ren := ⟨fun | 6 => 83 | 8 => 144 | 9 => 145 | 11 => 198 | 13 => 132 | 12 => 199 | 23 => 186 | 24 => 187 | 14 => 228 | 15 => 229 | 16 => 230 | 17 => 231 | 18 => 232 | 19 => 233 | 20 => 234 | 21 => 235 | 22 => 236 | 25 => 256 | 26 => 220 | 27 => 221 | 28 => 257 | 29 => 258 | 30 => 259 | 31 => 272 | n => n, fun | 26 => 9 | 28 => 151 | 24 => 148 | 0 => 0 | 3 => 3 | 37 => 192 | 48 => 243 | 50 => 245 | 4 => 4 | 40 => 236 | 39 => 235 | 45 => 240 | 5 => 5 | 9 => 9 | 51 => 269 | 55 => 135 | 57 => 293 | 58 => 100 | 33 => 99 | n => n, fun | n => n⟩
theorem Tryz.Vh : Go.Proofs.SlLaysZ.n6 Tryz.prog Tryz.QO := {
 mixed := by kernel_rfl
 f6 := ⟨Tryz.f83.name, by decide, Tryz.func83.trans (congrArg some (by kernel_rfl))⟩
 f8 := ⟨Tryz.f144.name, by decide, Tryz.func144.trans (congrArg some (by kernel_rfl))⟩
 f11 := ⟨Tryz.f198.name, by decide, Tryz.func198.trans (congrArg some (by kernel_rfl))⟩
 t0 := Tryz.underlying0
 a0 := Tryz.isAgg0
 z0 := Tryz.sizeOf0
 v0 := Tryz.zeroValue0
 t24 := Tryz.underlying148
 a24 := Tryz.isAgg148
 z24 := Tryz.sizeOf148
 v24 := Tryz.zeroValue148
 t26 := Tryz.underlying9
 a26 := Tryz.isAgg9
 z26 := Tryz.sizeOf9
 v26 := Tryz.zeroValue9
 t28 := Tryz.underlying151
 a28 := Tryz.isAgg151
 z28 := Tryz.sizeOf151
 v28 := Tryz.zeroValue151
 i26 := by kernel_rfl }
def Tryz.Su : Go.Shelf.Ren := ⟨fun | 7 => 84 | 10 => 146 | n => n, fun | 23 => 146 | 26 => 9 | 3 => 9 | 28 => 151 | 0 => 0 | 27 => 150 | 33 => 99 | 4 => 4 | n => n, fun | n => n⟩
theorem Tryz.Yi : Go.Proofs.SlLaysZ.n7 Tryz.prog Tryz.Su := {
 mixed := by kernel_rfl
 f7 := ⟨Tryz.f84.name, by decide, Tryz.func84.trans (congrArg some (by kernel_rfl))⟩
 f10 := ⟨Tryz.f146.name, by decide, Tryz.func146.trans (congrArg some (by kernel_rfl))⟩
 t0 := Tryz.underlying0
 a0 := Tryz.isAgg0
 z0 := Tryz.sizeOf0
 v0 := Tryz.zeroValue0
 t4 := Tryz.underlying4
 a4 := Tryz.isAgg4
 z4 := Tryz.sizeOf4
 v4 := Tryz.zeroValue4
 t23 := Tryz.underlying146
 a23 := Tryz.isAgg146
 z23 := Tryz.sizeOf146
 v23 := Tryz.zeroValue146
 t26 := Tryz.underlying9
 a26 := Tryz.isAgg9
 z26 := Tryz.sizeOf9
 v26 := Tryz.zeroValue9
 t27 := Tryz.underlying150
 a27 := Tryz.isAgg150
 z27 := Tryz.sizeOf150
 v27 := Tryz.zeroValue150
 t28 := Tryz.underlying151
 a28 := Tryz.isAgg151
 z28 := Tryz.sizeOf151
 v28 := Tryz.zeroValue151
 t33 := Tryz.underlying99
 a33 := Tryz.isAgg99
 z33 := Tryz.sizeOf99
 v33 := Tryz.zeroValue99 }
end Go.Proofs
end
