/-
  Functions of Go's library at this program: what the kit's contracts ask of them. Written by a program.
-/
import Derived.Shelf.SlGeneric
import Derived.Shelf.SlIter.Nil
import Derived.Shelf.SortM.Plain
import Derived.Shelf.SortM.SortNone
import Derived.Shelf.SlicesE.Clone
import Derived.Shelf.Spec.SlicesGrow
import Derived.Ground.GgzProg
import Derived.Ground.SlgmProg
import Derived.Ground.SlgnProg
import Derived.Ground.Names8Prog
import Derived.Shelf.Lays
import Derived.Ground.NamesProg
import Derived.Test.YtiodcbipjnmpgaaProg
namespace Go.Proofs
open Go.Shelf
def Try.str110_ren : Go.Shelf.Ren := ⟨fun | 145 => 110 | 220 => 113 | 219 => 116 | 217 => 109 | 225 => 117 | 224 => 118 | 267 => 119 | 266 => 112 | 314 => 120 | n => n, fun | 9 => 9 | 4 => 4 | 59 => 177 | 3 => 3 | 5 => 5 | 46 => 113 | 146 => 184 | 51 => 183 | n => n, fun | 1 => 0 | n => n⟩
theorem Try.str110 : Go.Proofs.Lays.n145 Try.prog Try.str110_ren := {
 mixed := by kernel_rfl
 f145 := Try.func110.trans (congrArg some (by kernel_rfl))
 f217 := Try.func109.trans (congrArg some (by kernel_rfl))
 f219 := Try.func116.trans (congrArg some (by kernel_rfl))
 f220 := Try.func113.trans (congrArg some (by kernel_rfl))
 f224 := Try.func118.trans (congrArg some (by kernel_rfl))
 f225 := Try.func117.trans (congrArg some (by kernel_rfl))
 f266 := Try.func112.trans (congrArg some (by kernel_rfl))
 f267 := Try.func119.trans (congrArg some (by kernel_rfl))
 f314 := Try.func120.trans (congrArg some (by kernel_rfl))
 t3 := Try.underlying3
 a3 := Try.isAgg3
 z3 := Try.sizeOf3
 v3 := Try.zeroValue3
 t4 := Try.underlying4
 a4 := Try.isAgg4
 z4 := Try.sizeOf4
 v4 := Try.zeroValue4
 t5 := Try.underlying5
 a5 := Try.isAgg5
 z5 := Try.sizeOf5
 v5 := Try.zeroValue5
 t9 := Try.underlying9
 a9 := Try.isAgg9
 z9 := Try.sizeOf9
 v9 := Try.zeroValue9
 t46 := Try.underlying113
 a46 := Try.isAgg113
 z46 := Try.sizeOf113
 v46 := Try.zeroValue113
 t51 := Try.underlying183
 a51 := Try.isAgg183
 z51 := Try.sizeOf183
 v51 := Try.zeroValue183
 t59 := Try.underlying177
 a59 := Try.isAgg177
 z59 := Try.sizeOf177
 v59 := Try.zeroValue177
 t146 := Try.underlying184
 a146 := Try.isAgg184
 z146 := Try.sizeOf184
 v146 := Try.zeroValue184
 g1 := by kernel_rfl }
end Go.Proofs
