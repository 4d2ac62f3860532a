/-
 A part.
-/
import Derived.Shelf.SlGeneric
import Derived.Shelf.SlIter.Nil
import Derived.Shelf.SortM.Plain
import Derived.Shelf.SortM.SortNone
import Derived.Shelf.SlicesE.Clone
import Derived.Shelf.Spec.SlicesGrow
import Derived.Ground.GgzProg
import Derived.Ground.SlgmProg
import Derived.Ground.SlgnProg
import Derived.Ground.Names8Prog
import Derived.Shelf.Lays
import Derived.Ground.NamesProg
import Derived.Test.YtdjbadhilkmiiaaGreatDoorProg
namespace Go.Proofs
open Go.Shelf
def Tryz.Rb : Go.Shelf.Ren := ⟨fun | 143 => 208 | 219 => 110 | 217 => 127 | 225 => 161 | 224 => 162 | 267 => 163 | 266 => 181 | 314 => 206 | n => n, fun | 9 => 9 | 3 => 3 | 4 => 4 | 5 => 5 | 46 => 231 | 146 => 322 | 51 => 321 | n => n, fun | 1 => 0 | n => n⟩
theorem Tryz.WL : Go.Proofs.Lays.n143 Tryz.prog Tryz.Rb := {
 mixed := by kernel_rfl
 f143 := Tryz.func208.trans (congrArg some (by kernel_rfl))
 f217 := Tryz.func127.trans (congrArg some (by kernel_rfl))
 f219 := Tryz.func110.trans (congrArg some (by kernel_rfl))
 f224 := Tryz.func162.trans (congrArg some (by kernel_rfl))
 f225 := Tryz.func161.trans (congrArg some (by kernel_rfl))
 f266 := Tryz.func181.trans (congrArg some (by kernel_rfl))
 f267 := Tryz.func163.trans (congrArg some (by kernel_rfl))
 f314 := Tryz.func206.trans (congrArg some (by kernel_rfl))
 t3 := Tryz.underlying3
 a3 := Tryz.isAgg3
 z3 := Tryz.sizeOf3
 v3 := Tryz.zeroValue3
 t4 := Tryz.underlying4
 a4 := Tryz.isAgg4
 z4 := Tryz.sizeOf4
 v4 := Tryz.zeroValue4
 t5 := Tryz.underlying5
 a5 := Tryz.isAgg5
 z5 := Tryz.sizeOf5
 v5 := Tryz.zeroValue5
 t9 := Tryz.underlying9
 a9 := Tryz.isAgg9
 z9 := Tryz.sizeOf9
 v9 := Tryz.zeroValue9
 t46 := Tryz.underlying231
 a46 := Tryz.isAgg231
 z46 := Tryz.sizeOf231
 v46 := Tryz.zeroValue231
 t51 := Tryz.underlying321
 a51 := Tryz.isAgg321
 z51 := Tryz.sizeOf321
 v51 := Tryz.zeroValue321
 t146 := Tryz.underlying322
 a146 := Tryz.isAgg322
 z146 := Tryz.sizeOf322
 v146 := Tryz.zeroValue322
 g1 := by kernel_rfl }
def Tryz.TT : Go.Shelf.Ren := ⟨fun | 145 => 19 | 220 => 69 | 219 => 110 | 217 => 127 | 225 => 161 | 224 => 162 | 267 => 163 | 266 => 181 | 314 => 206 | n => n, fun | 9 => 9 | 4 => 4 | 59 => 74 | 3 => 3 | 5 => 5 | 46 => 231 | 146 => 322 | 51 => 321 | n => n, fun | 1 => 0 | n => n⟩
theorem Tryz.VS : Go.Proofs.Lays.n145 Tryz.prog Tryz.TT := {
 mixed := by kernel_rfl
 f145 := Tryz.func19.trans (congrArg some (by kernel_rfl))
 f217 := Tryz.func127.trans (congrArg some (by kernel_rfl))
 f219 := Tryz.func110.trans (congrArg some (by kernel_rfl))
 f220 := Tryz.func69.trans (congrArg some (by kernel_rfl))
 f224 := Tryz.func162.trans (congrArg some (by kernel_rfl))
 f225 := Tryz.func161.trans (congrArg some (by kernel_rfl))
 f266 := Tryz.func181.trans (congrArg some (by kernel_rfl))
 f267 := Tryz.func163.trans (congrArg some (by kernel_rfl))
 f314 := Tryz.func206.trans (congrArg some (by kernel_rfl))
 t3 := Tryz.underlying3
 a3 := Tryz.isAgg3
 z3 := Tryz.sizeOf3
 v3 := Tryz.zeroValue3
 t4 := Tryz.underlying4
 a4 := Tryz.isAgg4
 z4 := Tryz.sizeOf4
 v4 := Tryz.zeroValue4
 t5 := Tryz.underlying5
 a5 := Tryz.isAgg5
 z5 := Tryz.sizeOf5
 v5 := Tryz.zeroValue5
 t9 := Tryz.underlying9
 a9 := Tryz.isAgg9
 z9 := Tryz.sizeOf9
 v9 := Tryz.zeroValue9
 t46 := Tryz.underlying231
 a46 := Tryz.isAgg231
 z46 := Tryz.sizeOf231
 v46 := Tryz.zeroValue231
 t51 := Tryz.underlying321
 a51 := Tryz.isAgg321
 z51 := Tryz.sizeOf321
 v51 := Tryz.zeroValue321
 t59 := Tryz.underlying74
 a59 := Tryz.isAgg74
 z59 := Tryz.sizeOf74
 v59 := Tryz.zeroValue74
 t146 := Tryz.underlying322
 a146 := Tryz.isAgg322
 z146 := Tryz.sizeOf322
 v146 := Tryz.zeroValue322
 g1 := by kernel_rfl }
def Tryz.QK : Go.Shelf.Ren := ⟨fun | 41 => 143 | n => n, fun | 22 => 165 | 23 => 246 | 4 => 4 | n => n, fun | n => n⟩
theorem Tryz.UY : Go.Proofs.SlLaysE0.n41 Tryz.prog Tryz.QK := {
 mixed := by kernel_rfl
 f41 := ⟨Tryz.f143.name, by decide, Tryz.func143.trans (congrArg some (by kernel_rfl))⟩
 t4 := Tryz.underlying4
 a4 := Tryz.isAgg4
 z4 := Tryz.sizeOf4
 v4 := Tryz.zeroValue4
 t22 := Tryz.underlying165
 a22 := Tryz.isAgg165
 z22 := Tryz.sizeOf165
 v22 := Tryz.zeroValue165 }
def Tryz.QH : Go.Shelf.Ren := ⟨fun | 41 => 241 | n => n, fun | 22 => 253 | 23 => 3 | 4 => 4 | n => n, fun | n => n⟩
theorem Tryz.Tf : Go.Proofs.SlLaysE0.n41 Tryz.prog Tryz.QH := {
 mixed := by kernel_rfl
 f41 := ⟨Tryz.f241.name, by decide, Tryz.func241.trans (congrArg some (by kernel_rfl))⟩
 t4 := Tryz.underlying4
 a4 := Tryz.isAgg4
 z4 := Tryz.sizeOf4
 v4 := Tryz.zeroValue4
 t22 := Tryz.underlying253
 a22 := Tryz.isAgg253
 z22 := Tryz.sizeOf253
 v22 := Tryz.zeroValue253 }
def Tryz.Qe : Go.Shelf.Ren := ⟨fun | 41 => 32 | n => n, fun | 22 => 26 | 23 => 31 | 4 => 4 | n => n, fun | n => n⟩
theorem Tryz.VK : Go.Proofs.SlLaysE0.n41 Tryz.prog Tryz.Qe := {
 mixed := by kernel_rfl
 f41 := ⟨Tryz.f32.name, by decide, Tryz.func32.trans (congrArg some (by kernel_rfl))⟩
 t4 := Tryz.underlying4
 a4 := Tryz.isAgg4
 z4 := Tryz.sizeOf4
 v4 := Tryz.zeroValue4
 t22 := Tryz.underlying26
 a22 := Tryz.isAgg26
 z22 := Tryz.sizeOf26
 v22 := Tryz.zeroValue26 }
def Tryz.Qm : Go.Shelf.Ren := ⟨fun | 41 => 33 | n => n, fun | 22 => 27 | 23 => 92 | 4 => 4 | n => n, fun | n => n⟩
theorem Tryz.VC : Go.Proofs.SlLaysE0.n41 Tryz.prog Tryz.Qm := {
 mixed := by kernel_rfl
 f41 := ⟨Tryz.f33.name, by decide, Tryz.func33.trans (congrArg some (by kernel_rfl))⟩
 t4 := Tryz.underlying4
 a4 := Tryz.isAgg4
 z4 := Tryz.sizeOf4
 v4 := Tryz.zeroValue4
 t22 := Tryz.underlying27
 a22 := Tryz.isAgg27
 z22 := Tryz.sizeOf27
 v22 := Tryz.zeroValue27 }
def Tryz.Qt : Go.Shelf.Ren := ⟨fun | 41 => 84 | n => n, fun | 22 => 44 | 23 => 154 | 4 => 4 | n => n, fun | n => n⟩
theorem Tryz.U1 : Go.Proofs.SlLaysE0.n41 Tryz.prog Tryz.Qt := {
 mixed := by kernel_rfl
 f41 := ⟨Tryz.f84.name, by decide, Tryz.func84.trans (congrArg some (by kernel_rfl))⟩
 t4 := Tryz.underlying4
 a4 := Tryz.isAgg4
 z4 := Tryz.sizeOf4
 v4 := Tryz.zeroValue4
 t22 := Tryz.underlying44
 a22 := Tryz.isAgg44
 z22 := Tryz.sizeOf44
 v22 := Tryz.zeroValue44 }
end Go.Proofs
