/-
  Functions of Go's library at this program: what the kit's contracts ask of them. Written by a program.
-/
import Derived.Shelf.SlGeneric
import Derived.Shelf.SlIter.Nil
import Derived.Shelf.SortM.Plain
import Derived.Shelf.SortM.SortNone
import Derived.Shelf.SlicesE.Clone
import Derived.Shelf.Spec.SlicesGrow
import Derived.Ground.GgzProg
import Derived.Ground.SlgmProg
import Derived.Ground.SlgnProg
import Derived.Ground.Names8Prog
import Derived.Test.YtdpebdaplhfbjaaGreatDoorProg
namespace Go.Proofs
open Go.Shelf
def Tryz.sort35_ren : Go.Shelf.Ren := ⟨fun | 6 => 35 | 8 => 52 | 9 => 63 | 19 => 79 | 20 => 80 | 21 => 85 | 22 => 86 | 23 => 87 | 24 => 88 | 25 => 89 | 26 => 90 | 27 => 91 | 28 => 92 | 29 => 93 | 36 => 109 | 31 => 102 | 32 => 103 | 37 => 110 | 38 => 111 | 39 => 112 | 41 => 125 | n => n, fun | 27 => 62 | 29 => 9 | 3 => 3 | 32 => 92 | 26 => 62 | 0 => 0 | 44 => 124 | 46 => 126 | 4 => 4 | 36 => 118 | 35 => 117 | 41 => 98 | 5 => 5 | 9 => 9 | 53 => 144 | 57 => 50 | 63 => 158 | 64 => 55 | n => n, fun | n => n⟩
theorem Tryz.sort35 : Go.Proofs.SlLaysM.n6 Tryz.prog Tryz.sort35_ren := {
 mixed := by kernel_rfl
 f6 := ⟨Tryz.f35.name, by decide, Tryz.func35.trans (congrArg some (by kernel_rfl))⟩
 f8 := Tryz.func52.trans (congrArg some (by kernel_rfl))
 f9 := ⟨Tryz.f63.name, by decide, Tryz.func63.trans (congrArg some (by kernel_rfl))⟩
 f19 := Tryz.func79.trans (congrArg some (by kernel_rfl))
 f20 := Tryz.func80.trans (congrArg some (by kernel_rfl))
 f21 := ⟨Tryz.f85.name, by decide, Tryz.func85.trans (congrArg some (by kernel_rfl))⟩
 f22 := ⟨Tryz.f86.name, by decide, Tryz.func86.trans (congrArg some (by kernel_rfl))⟩
 f23 := ⟨Tryz.f87.name, by decide, Tryz.func87.trans (congrArg some (by kernel_rfl))⟩
 f24 := ⟨Tryz.f88.name, by decide, Tryz.func88.trans (congrArg some (by kernel_rfl))⟩
 f25 := ⟨Tryz.f89.name, by decide, Tryz.func89.trans (congrArg some (by kernel_rfl))⟩
 f26 := ⟨Tryz.f90.name, by decide, Tryz.func90.trans (congrArg some (by kernel_rfl))⟩
 f27 := ⟨Tryz.f91.name, by decide, Tryz.func91.trans (congrArg some (by kernel_rfl))⟩
 f28 := ⟨Tryz.f92.name, by decide, Tryz.func92.trans (congrArg some (by kernel_rfl))⟩
 f29 := ⟨Tryz.f93.name, by decide, Tryz.func93.trans (congrArg some (by kernel_rfl))⟩
 f31 := Tryz.func102.trans (congrArg some (by kernel_rfl))
 f32 := Tryz.func103.trans (congrArg some (by kernel_rfl))
 f36 := ⟨Tryz.f109.name, by decide, Tryz.func109.trans (congrArg some (by kernel_rfl))⟩
 f37 := ⟨Tryz.f110.name, by decide, Tryz.func110.trans (congrArg some (by kernel_rfl))⟩
 f38 := ⟨Tryz.f111.name, by decide, Tryz.func111.trans (congrArg some (by kernel_rfl))⟩
 f39 := ⟨Tryz.f112.name, by decide, Tryz.func112.trans (congrArg some (by kernel_rfl))⟩
 f41 := ⟨Tryz.f125.name, by decide, Tryz.func125.trans (congrArg some (by kernel_rfl))⟩
 t0 := Tryz.underlying0
 a0 := Tryz.isAgg0
 z0 := Tryz.sizeOf0
 v0 := Tryz.zeroValue0
 t3 := Tryz.underlying3
 a3 := Tryz.isAgg3
 z3 := Tryz.sizeOf3
 v3 := Tryz.zeroValue3
 t4 := Tryz.underlying4
 a4 := Tryz.isAgg4
 z4 := Tryz.sizeOf4
 v4 := Tryz.zeroValue4
 t5 := Tryz.underlying5
 a5 := Tryz.isAgg5
 z5 := Tryz.sizeOf5
 v5 := Tryz.zeroValue5
 t9 := Tryz.underlying9
 a9 := Tryz.isAgg9
 z9 := Tryz.sizeOf9
 v9 := Tryz.zeroValue9
 t26 := Tryz.underlying62
 a26 := Tryz.isAgg62
 z26 := Tryz.sizeOf62
 v26 := Tryz.zeroValue62
 t27 := Tryz.underlying62
 a27 := Tryz.isAgg62
 z27 := Tryz.sizeOf62
 v27 := Tryz.zeroValue62
 t29 := Tryz.underlying9
 a29 := Tryz.isAgg9
 z29 := Tryz.sizeOf9
 v29 := Tryz.zeroValue9
 t32 := Tryz.underlying92
 a32 := Tryz.isAgg92
 z32 := Tryz.sizeOf92
 v32 := Tryz.zeroValue92
 t35 := Tryz.underlying117
 a35 := Tryz.isAgg117
 z35 := Tryz.sizeOf117
 v35 := Tryz.zeroValue117
 t36 := Tryz.underlying118
 a36 := Tryz.isAgg118
 z36 := Tryz.sizeOf118
 v36 := Tryz.zeroValue118
 t41 := Tryz.underlying98
 a41 := Tryz.isAgg98
 z41 := Tryz.sizeOf98
 v41 := Tryz.zeroValue98
 t44 := Tryz.underlying124
 a44 := Tryz.isAgg124
 z44 := Tryz.sizeOf124
 v44 := Tryz.zeroValue124
 t46 := Tryz.underlying126
 a46 := Tryz.isAgg126
 z46 := Tryz.sizeOf126
 v46 := Tryz.zeroValue126
 t53 := Tryz.underlying144
 a53 := Tryz.isAgg144
 z53 := Tryz.sizeOf144
 v53 := Tryz.zeroValue144
 t57 := Tryz.underlying50
 a57 := Tryz.isAgg50
 z57 := Tryz.sizeOf50
 v57 := Tryz.zeroValue50
 t63 := Tryz.underlying158
 a63 := Tryz.isAgg158
 z63 := Tryz.sizeOf158
 v63 := Tryz.zeroValue158
 t64 := Tryz.underlying55
 a64 := Tryz.isAgg55
 z64 := Tryz.sizeOf55
 v64 := Tryz.zeroValue55 }
def Tryz.sorted21_ren : Go.Shelf.Ren := ⟨fun | 6 => 21 | 8 => 34 | 9 => 35 | 11 => 62 | 13 => 52 | 12 => 63 | 23 => 79 | 24 => 80 | 14 => 85 | 15 => 86 | 16 => 87 | 17 => 88 | 18 => 89 | 19 => 90 | 20 => 91 | 21 => 92 | 22 => 93 | 25 => 109 | 26 => 102 | 27 => 103 | 28 => 110 | 29 => 111 | 30 => 112 | 31 => 125 | n => n, fun | 26 => 9 | 28 => 65 | 24 => 62 | 0 => 0 | 3 => 3 | 37 => 92 | 48 => 124 | 50 => 126 | 4 => 4 | 40 => 118 | 39 => 117 | 45 => 98 | 5 => 5 | 9 => 9 | 51 => 144 | 55 => 50 | 57 => 158 | 58 => 55 | 33 => 54 | n => n, fun | n => n⟩
theorem Tryz.sorted21 : Go.Proofs.SlLaysZ.n6 Tryz.prog Tryz.sorted21_ren := {
 mixed := by kernel_rfl
 f6 := ⟨Tryz.f21.name, by decide, Tryz.func21.trans (congrArg some (by kernel_rfl))⟩
 f8 := ⟨Tryz.f34.name, by decide, Tryz.func34.trans (congrArg some (by kernel_rfl))⟩
 f11 := ⟨Tryz.f62.name, by decide, Tryz.func62.trans (congrArg some (by kernel_rfl))⟩
 t0 := Tryz.underlying0
 a0 := Tryz.isAgg0
 z0 := Tryz.sizeOf0
 v0 := Tryz.zeroValue0
 t24 := Tryz.underlying62
 a24 := Tryz.isAgg62
 z24 := Tryz.sizeOf62
 v24 := Tryz.zeroValue62
 t26 := Tryz.underlying9
 a26 := Tryz.isAgg9
 z26 := Tryz.sizeOf9
 v26 := Tryz.zeroValue9
 t28 := Tryz.underlying65
 a28 := Tryz.isAgg65
 z28 := Tryz.sizeOf65
 v28 := Tryz.zeroValue65
 i26 := by kernel_rfl }
def Tryz.keys22_ren : Go.Shelf.Ren := ⟨fun | 7 => 22 | 10 => 36 | n => n, fun | 23 => 60 | 26 => 9 | 3 => 9 | 28 => 65 | 0 => 0 | 27 => 64 | 33 => 54 | 4 => 4 | n => n, fun | n => n⟩
theorem Tryz.keys22 : Go.Proofs.SlLaysZ.n7 Tryz.prog Tryz.keys22_ren := {
 mixed := by kernel_rfl
 f7 := ⟨Tryz.f22.name, by decide, Tryz.func22.trans (congrArg some (by kernel_rfl))⟩
 f10 := ⟨Tryz.f36.name, by decide, Tryz.func36.trans (congrArg some (by kernel_rfl))⟩
 t0 := Tryz.underlying0
 a0 := Tryz.isAgg0
 z0 := Tryz.sizeOf0
 v0 := Tryz.zeroValue0
 t4 := Tryz.underlying4
 a4 := Tryz.isAgg4
 z4 := Tryz.sizeOf4
 v4 := Tryz.zeroValue4
 t23 := Tryz.underlying60
 a23 := Tryz.isAgg60
 z23 := Tryz.sizeOf60
 v23 := Tryz.zeroValue60
 t26 := Tryz.underlying9
 a26 := Tryz.isAgg9
 z26 := Tryz.sizeOf9
 v26 := Tryz.zeroValue9
 t27 := Tryz.underlying64
 a27 := Tryz.isAgg64
 z27 := Tryz.sizeOf64
 v27 := Tryz.zeroValue64
 t28 := Tryz.underlying65
 a28 := Tryz.isAgg65
 z28 := Tryz.sizeOf65
 v28 := Tryz.zeroValue65
 t33 := Tryz.underlying54
 a33 := Tryz.isAgg54
 z33 := Tryz.sizeOf54
 v33 := Tryz.zeroValue54 }
end Go.Proofs
