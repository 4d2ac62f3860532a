/-
  Functions of Go's library at this program: what the kit's contracts ask of them. Written by a program.
-/
import Derived.Shelf.SlGeneric
import Derived.Shelf.SlIter.Nil
import Derived.Shelf.SortM.Plain
import Derived.Shelf.SortM.SortNone
import Derived.Shelf.SlicesE.Clone
import Derived.Shelf.Spec.SlicesGrow
import Derived.Ground.GgzProg
import Derived.Ground.SlgmProg
import Derived.Ground.SlgnProg
import Derived.Ground.Names8Prog
import Derived.Test.YtiodcbipjnmpgaaProg
namespace Go.Proofs
open Go.Shelf
def Try.clone69_ren : Go.Shelf.Ren := ⟨fun | 41 => 69 | n => n, fun | 22 => 54 | 23 => 3 | 4 => 4 | n => n, fun | n => n⟩
theorem Try.clone69 : Go.Proofs.SlLaysE0.n41 Try.prog Try.clone69_ren := {
 mixed := by kernel_rfl
 f41 := ⟨Try.f69.name, by decide, Try.func69.trans (congrArg some (by kernel_rfl))⟩
 t4 := Try.underlying4
 a4 := Try.isAgg4
 z4 := Try.sizeOf4
 v4 := Try.zeroValue4
 t22 := Try.underlying54
 a22 := Try.isAgg54
 z22 := Try.sizeOf54
 v22 := Try.zeroValue54 }
end Go.Proofs
