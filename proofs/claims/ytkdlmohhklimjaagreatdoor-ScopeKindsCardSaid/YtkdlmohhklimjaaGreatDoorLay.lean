/-
  Functions of Go's library at this program: what the kit's contracts ask of them. Written by a program.
-/
import Derived.Shelf.SlGeneric
import Derived.Shelf.SlIter.Nil
import Derived.Shelf.SortM.Plain
import Derived.Shelf.SortM.SortNone
import Derived.Shelf.SlicesE.Clone
import Derived.Shelf.Spec.SlicesGrow
import Derived.Ground.GgzProg
import Derived.Ground.SlgmProg
import Derived.Ground.SlgnProg
import Derived.Ground.Names8Prog
import Derived.Test.YtkdlmohhklimjaaGreatDoorProg
namespace Go.Proofs
open Go.Shelf
def Tryz.clone166_ren : Go.Shelf.Ren := ⟨fun | 41 => 166 | n => n, fun | 22 => 171 | 23 => 3 | 4 => 4 | n => n, fun | n => n⟩
theorem Tryz.clone166 : Go.Proofs.SlLaysE0.n41 Tryz.prog Tryz.clone166_ren := {
 mixed := by kernel_rfl
 f41 := ⟨Tryz.f166.name, by decide, Tryz.func166.trans (congrArg some (by kernel_rfl))⟩
 t4 := Tryz.underlying4
 a4 := Tryz.isAgg4
 z4 := Tryz.sizeOf4
 v4 := Tryz.zeroValue4
 t22 := Tryz.underlying171
 a22 := Tryz.isAgg171
 z22 := Tryz.sizeOf171
 v22 := Tryz.zeroValue171 }
def Tryz.clone32_ren : Go.Shelf.Ren := ⟨fun | 41 => 32 | n => n, fun | 22 => 42 | 23 => 82 | 4 => 4 | n => n, fun | n => n⟩
theorem Tryz.clone32 : Go.Proofs.SlLaysE0.n41 Tryz.prog Tryz.clone32_ren := {
 mixed := by kernel_rfl
 f41 := ⟨Tryz.f32.name, by decide, Tryz.func32.trans (congrArg some (by kernel_rfl))⟩
 t4 := Tryz.underlying4
 a4 := Tryz.isAgg4
 z4 := Tryz.sizeOf4
 v4 := Tryz.zeroValue4
 t22 := Tryz.underlying42
 a22 := Tryz.isAgg42
 z22 := Tryz.sizeOf42
 v22 := Tryz.zeroValue42 }
end Go.Proofs
