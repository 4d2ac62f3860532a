/-
  Functions of Go's library at this program: what the kit's contracts ask of them. Written by a program.
-/
import Derived.Shelf.SlGeneric
import Derived.Shelf.SlIter.Nil
import Derived.Shelf.SortM.Plain
import Derived.Shelf.SortM.SortNone
import Derived.Shelf.SlicesE.Clone
import Derived.Shelf.Spec.SlicesGrow
import Derived.Ground.GgzProg
import Derived.Ground.SlgmProg
import Derived.Ground.SlgnProg
import Derived.Ground.Names8Prog
import Derived.Shelf.Lays
import Derived.Ground.NamesProg
import Derived.Test.YtdpebdaplhfbjaaGreatDoorProg
namespace Go.Proofs
open Go.Shelf
def Tryz.str58_ren : Go.Shelf.Ren := ⟨fun | 145 => 58 | 220 => 84 | 219 => 108 | 217 => 82 | 225 => 122 | 224 => 123 | 267 => 124 | 266 => 106 | 314 => 134 | n => n, fun | 9 => 9 | 4 => 4 | 59 => 96 | 3 => 3 | 5 => 5 | 46 => 92 | 146 => 166 | 51 => 124 | n => n, fun | 1 => 0 | n => n⟩
theorem Tryz.str58 : Go.Proofs.Lays.n145 Tryz.prog Tryz.str58_ren := {
 mixed := by kernel_rfl
 f145 := Tryz.func58.trans (congrArg some (by kernel_rfl))
 f217 := Tryz.func82.trans (congrArg some (by kernel_rfl))
 f219 := Tryz.func108.trans (congrArg some (by kernel_rfl))
 f220 := Tryz.func84.trans (congrArg some (by kernel_rfl))
 f224 := Tryz.func123.trans (congrArg some (by kernel_rfl))
 f225 := Tryz.func122.trans (congrArg some (by kernel_rfl))
 f266 := Tryz.func106.trans (congrArg some (by kernel_rfl))
 f267 := Tryz.func124.trans (congrArg some (by kernel_rfl))
 f314 := Tryz.func134.trans (congrArg some (by kernel_rfl))
 t3 := Tryz.underlying3
 a3 := Tryz.isAgg3
 z3 := Tryz.sizeOf3
 v3 := Tryz.zeroValue3
 t4 := Tryz.underlying4
 a4 := Tryz.isAgg4
 z4 := Tryz.sizeOf4
 v4 := Tryz.zeroValue4
 t5 := Tryz.underlying5
 a5 := Tryz.isAgg5
 z5 := Tryz.sizeOf5
 v5 := Tryz.zeroValue5
 t9 := Tryz.underlying9
 a9 := Tryz.isAgg9
 z9 := Tryz.sizeOf9
 v9 := Tryz.zeroValue9
 t46 := Tryz.underlying92
 a46 := Tryz.isAgg92
 z46 := Tryz.sizeOf92
 v46 := Tryz.zeroValue92
 t51 := Tryz.underlying124
 a51 := Tryz.isAgg124
 z51 := Tryz.sizeOf124
 v51 := Tryz.zeroValue124
 t59 := Tryz.underlying96
 a59 := Tryz.isAgg96
 z59 := Tryz.sizeOf96
 v59 := Tryz.zeroValue96
 t146 := Tryz.underlying166
 a146 := Tryz.isAgg166
 z146 := Tryz.sizeOf166
 v146 := Tryz.zeroValue166
 g1 := by kernel_rfl }
end Go.Proofs
