/-
  Functions of Go's library at this program: what the kit's contracts ask of them. Written by a program.
-/
import Derived.Shelf.SlGeneric
import Derived.Shelf.SlIter.Nil
import Derived.Shelf.SortM.Plain
import Derived.Shelf.SortM.SortNone
import Derived.Shelf.SlicesE.Clone
import Derived.Shelf.Spec.SlicesGrow
import Derived.Ground.GgzProg
import Derived.Ground.SlgmProg
import Derived.Ground.SlgnProg
import Derived.Ground.Names8Prog
import Derived.Shelf.Lays
import Derived.Ground.NamesProg
import Derived.Test.YthnnciphldbmeaaGreatDoorProg
namespace Go.Proofs
open Go.Shelf
def Tryz.R5 : Go.Shelf.Ren := ⟨fun | 143 => 228 | 219 => 178 | 217 => 147 | 225 => 241 | 224 => 242 | 267 => 243 | 266 => 208 | 314 => 283 | n => n, fun | 9 => 9 | 3 => 3 | 4 => 4 | 5 => 5 | 46 => 234 | 146 => 382 | 51 => 326 | n => n, fun | 1 => 0 | n => n⟩
theorem Tryz.V7 : Go.Proofs.Lays.n143 Tryz.prog Tryz.R5 := {
 mixed := by kernel_rfl
 f143 := Tryz.func228.trans (congrArg some (by kernel_rfl))
 f217 := Tryz.func147.trans (congrArg some (by kernel_rfl))
 f219 := Tryz.func178.trans (congrArg some (by kernel_rfl))
 f224 := Tryz.func242.trans (congrArg some (by kernel_rfl))
 f225 := Tryz.func241.trans (congrArg some (by kernel_rfl))
 f266 := Tryz.func208.trans (congrArg some (by kernel_rfl))
 f267 := Tryz.func243.trans (congrArg some (by kernel_rfl))
 f314 := Tryz.func283.trans (congrArg some (by kernel_rfl))
 t3 := Tryz.underlying3
 a3 := Tryz.isAgg3
 z3 := Tryz.sizeOf3
 v3 := Tryz.zeroValue3
 t4 := Tryz.underlying4
 a4 := Tryz.isAgg4
 z4 := Tryz.sizeOf4
 v4 := Tryz.zeroValue4
 t5 := Tryz.underlying5
 a5 := Tryz.isAgg5
 z5 := Tryz.sizeOf5
 v5 := Tryz.zeroValue5
 t9 := Tryz.underlying9
 a9 := Tryz.isAgg9
 z9 := Tryz.sizeOf9
 v9 := Tryz.zeroValue9
 t46 := Tryz.underlying234
 a46 := Tryz.isAgg234
 z46 := Tryz.sizeOf234
 v46 := Tryz.zeroValue234
 t51 := Tryz.underlying326
 a51 := Tryz.isAgg326
 z51 := Tryz.sizeOf326
 v51 := Tryz.zeroValue326
 t146 := Tryz.underlying382
 a146 := Tryz.isAgg382
 z146 := Tryz.sizeOf382
 v146 := Tryz.zeroValue382
 g1 := by kernel_rfl }
def Tryz.TF : Go.Shelf.Ren := ⟨fun | 145 => 61 | 220 => 128 | 219 => 178 | 217 => 147 | 225 => 241 | 224 => 242 | 267 => 243 | 266 => 208 | 314 => 283 | n => n, fun | 9 => 9 | 4 => 4 | 59 => 125 | 3 => 3 | 5 => 5 | 46 => 234 | 146 => 382 | 51 => 326 | n => n, fun | 1 => 0 | n => n⟩
theorem Tryz.Vd : Go.Proofs.Lays.n145 Tryz.prog Tryz.TF := {
 mixed := by kernel_rfl
 f145 := Tryz.func61.trans (congrArg some (by kernel_rfl))
 f217 := Tryz.func147.trans (congrArg some (by kernel_rfl))
 f219 := Tryz.func178.trans (congrArg some (by kernel_rfl))
 f220 := Tryz.func128.trans (congrArg some (by kernel_rfl))
 f224 := Tryz.func242.trans (congrArg some (by kernel_rfl))
 f225 := Tryz.func241.trans (congrArg some (by kernel_rfl))
 f266 := Tryz.func208.trans (congrArg some (by kernel_rfl))
 f267 := Tryz.func243.trans (congrArg some (by kernel_rfl))
 f314 := Tryz.func283.trans (congrArg some (by kernel_rfl))
 t3 := Tryz.underlying3
 a3 := Tryz.isAgg3
 z3 := Tryz.sizeOf3
 v3 := Tryz.zeroValue3
 t4 := Tryz.underlying4
 a4 := Tryz.isAgg4
 z4 := Tryz.sizeOf4
 v4 := Tryz.zeroValue4
 t5 := Tryz.underlying5
 a5 := Tryz.isAgg5
 z5 := Tryz.sizeOf5
 v5 := Tryz.zeroValue5
 t9 := Tryz.underlying9
 a9 := Tryz.isAgg9
 z9 := Tryz.sizeOf9
 v9 := Tryz.zeroValue9
 t46 := Tryz.underlying234
 a46 := Tryz.isAgg234
 z46 := Tryz.sizeOf234
 v46 := Tryz.zeroValue234
 t51 := Tryz.underlying326
 a51 := Tryz.isAgg326
 z51 := Tryz.sizeOf326
 v51 := Tryz.zeroValue326
 t59 := Tryz.underlying125
 a59 := Tryz.isAgg125
 z59 := Tryz.sizeOf125
 v59 := Tryz.zeroValue125
 t146 := Tryz.underlying382
 a146 := Tryz.isAgg382
 z146 := Tryz.sizeOf382
 v146 := Tryz.zeroValue382
 g1 := by kernel_rfl }
def Tryz.Nx : Go.Shelf.Ren := ⟨fun | 156 => 97 | 165 => 158 | 166 => 159 | 169 => 160 | 240 => 229 | 241 => 230 | 276 => 279 | 277 => 280 | n => n, fun | 31 => 45 | 9 => 9 | 3 => 3 | 4 => 4 | 0 => 0 | 20 => 20 | 72 => 238 | 76 => 242 | 70 => 236 | 37 => 219 | 75 => 241 | 127 => 328 | 164 => 377 | 5 => 5 | 80 => 244 | n => n, fun | n => n⟩
theorem Tryz.V9 : Go.Proofs.Lays.n156 Tryz.prog Tryz.Nx := {
 mixed := by kernel_rfl
 f156 := Tryz.func97.trans (congrArg some (by kernel_rfl))
 f165 := Tryz.func158.trans (congrArg some (by kernel_rfl))
 f166 := Tryz.func159.trans (congrArg some (by kernel_rfl))
 f169 := Tryz.func160.trans (congrArg some (by kernel_rfl))
 f240 := Tryz.func229.trans (congrArg some (by kernel_rfl))
 f241 := Tryz.func230.trans (congrArg some (by kernel_rfl))
 f276 := Tryz.func279.trans (congrArg some (by kernel_rfl))
 f277 := Tryz.func280.trans (congrArg some (by kernel_rfl))
 t0 := Tryz.underlying0
 a0 := Tryz.isAgg0
 z0 := Tryz.sizeOf0
 v0 := Tryz.zeroValue0
 t3 := Tryz.underlying3
 a3 := Tryz.isAgg3
 z3 := Tryz.sizeOf3
 v3 := Tryz.zeroValue3
 t4 := Tryz.underlying4
 a4 := Tryz.isAgg4
 z4 := Tryz.sizeOf4
 v4 := Tryz.zeroValue4
 t9 := Tryz.underlying9
 a9 := Tryz.isAgg9
 z9 := Tryz.sizeOf9
 v9 := Tryz.zeroValue9
 t20 := Tryz.underlying20
 a20 := Tryz.isAgg20
 z20 := Tryz.sizeOf20
 v20 := Tryz.zeroValue20
 t31 := Tryz.underlying45
 a31 := Tryz.isAgg45
 z31 := Tryz.sizeOf45
 v31 := Tryz.zeroValue45
 t37 := Tryz.underlying219
 a37 := Tryz.isAgg219
 z37 := Tryz.sizeOf219
 v37 := Tryz.zeroValue219
 t70 := Tryz.underlying236
 a70 := Tryz.isAgg236
 z70 := Tryz.sizeOf236
 v70 := Tryz.zeroValue236
 t72 := Tryz.underlying238
 a72 := Tryz.isAgg238
 z72 := Tryz.sizeOf238
 v72 := Tryz.zeroValue238
 t75 := Tryz.underlying241
 a75 := Tryz.isAgg241
 z75 := Tryz.sizeOf241
 v75 := Tryz.zeroValue241
 t76 := Tryz.underlying242
 a76 := Tryz.isAgg242
 z76 := Tryz.sizeOf242
 v76 := Tryz.zeroValue242
 t127 := Tryz.underlying328
 a127 := Tryz.isAgg328
 z127 := Tryz.sizeOf328
 v127 := Tryz.zeroValue328
 t164 := Tryz.underlying377
 a164 := Tryz.isAgg377
 z164 := Tryz.sizeOf377
 v164 := Tryz.zeroValue377 }
def Tryz.QP : Go.Shelf.Ren := ⟨fun | 41 => 191 | n => n, fun | 22 => 203 | 23 => 289 | 4 => 4 | n => n, fun | n => n⟩
theorem Tryz.Tb : Go.Proofs.SlLaysE0.n41 Tryz.prog Tryz.QP := {
 mixed := by kernel_rfl
 f41 := ⟨Tryz.f191.name, by decide, Tryz.func191.trans (congrArg some (by kernel_rfl))⟩
 t4 := Tryz.underlying4
 a4 := Tryz.isAgg4
 z4 := Tryz.sizeOf4
 v4 := Tryz.zeroValue4
 t22 := Tryz.underlying203
 a22 := Tryz.isAgg203
 z22 := Tryz.sizeOf203
 v22 := Tryz.zeroValue203 }
def Tryz.P9 : Go.Shelf.Ren := ⟨fun | 41 => 300 | n => n, fun | 22 => 296 | 23 => 3 | 4 => 4 | n => n, fun | n => n⟩
theorem Tryz.T1 : Go.Proofs.SlLaysE0.n41 Tryz.prog Tryz.P9 := {
 mixed := by kernel_rfl
 f41 := ⟨Tryz.f300.name, by decide, Tryz.func300.trans (congrArg some (by kernel_rfl))⟩
 t4 := Tryz.underlying4
 a4 := Tryz.isAgg4
 z4 := Tryz.sizeOf4
 v4 := Tryz.zeroValue4
 t22 := Tryz.underlying296
 a22 := Tryz.isAgg296
 z22 := Tryz.sizeOf296
 v22 := Tryz.zeroValue296 }
def Tryz.Qy : Go.Shelf.Ren := ⟨fun | 41 => 66 | n => n, fun | 22 => 26 | 23 => 31 | 4 => 4 | n => n, fun | n => n⟩
theorem Tryz.VP : Go.Proofs.SlLaysE0.n41 Tryz.prog Tryz.Qy := {
 mixed := by kernel_rfl
 f41 := ⟨Tryz.f66.name, by decide, Tryz.func66.trans (congrArg some (by kernel_rfl))⟩
 t4 := Tryz.underlying4
 a4 := Tryz.isAgg4
 z4 := Tryz.sizeOf4
 v4 := Tryz.zeroValue4
 t22 := Tryz.underlying26
 a22 := Tryz.isAgg26
 z22 := Tryz.sizeOf26
 v22 := Tryz.zeroValue26 }
def Tryz.Q6 : Go.Shelf.Ren := ⟨fun | 41 => 67 | n => n, fun | 22 => 27 | 23 => 135 | 4 => 4 | n => n, fun | n => n⟩
theorem Tryz.U1 : Go.Proofs.SlLaysE0.n41 Tryz.prog Tryz.Q6 := {
 mixed := by kernel_rfl
 f41 := ⟨Tryz.f67.name, by decide, Tryz.func67.trans (congrArg some (by kernel_rfl))⟩
 t4 := Tryz.underlying4
 a4 := Tryz.isAgg4
 z4 := Tryz.sizeOf4
 v4 := Tryz.zeroValue4
 t22 := Tryz.underlying27
 a22 := Tryz.isAgg27
 z22 := Tryz.sizeOf27
 v22 := Tryz.zeroValue27 }
def Tryz.RF : Go.Shelf.Ren := ⟨fun | 41 => 88 | n => n, fun | 22 => 42 | 23 => 90 | 4 => 4 | n => n, fun | n => n⟩
theorem Tryz.U0 : Go.Proofs.SlLaysE0.n41 Tryz.prog Tryz.RF := {
 mixed := by kernel_rfl
 f41 := ⟨Tryz.f88.name, by decide, Tryz.func88.trans (congrArg some (by kernel_rfl))⟩
 t4 := Tryz.underlying4
 a4 := Tryz.isAgg4
 z4 := Tryz.sizeOf4
 v4 := Tryz.zeroValue4
 t22 := Tryz.underlying42
 a22 := Tryz.isAgg42
 z22 := Tryz.sizeOf42
 v22 := Tryz.zeroValue42 }
def Tryz.Qa : Go.Shelf.Ren := ⟨fun | 41 => 99 | n => n, fun | 22 => 45 | 23 => 9 | 4 => 4 | n => n, fun | n => n⟩
theorem Tryz.VF : Go.Proofs.SlLaysE0.n41 Tryz.prog Tryz.Qa := {
 mixed := by kernel_rfl
 f41 := ⟨Tryz.f99.name, by decide, Tryz.func99.trans (congrArg some (by kernel_rfl))⟩
 t4 := Tryz.underlying4
 a4 := Tryz.isAgg4
 z4 := Tryz.sizeOf4
 v4 := Tryz.zeroValue4
 t22 := Tryz.underlying45
 a22 := Tryz.isAgg45
 z22 := Tryz.sizeOf45
 v22 := Tryz.zeroValue45 }
end Go.Proofs
