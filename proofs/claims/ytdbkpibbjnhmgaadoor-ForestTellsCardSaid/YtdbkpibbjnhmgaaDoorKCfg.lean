/-
 A part.
-/
import Derived.Test.YtdbkpibbjnhmgaaDoorAvLib
import Derived.Test.YtdbkpibbjnhmgaaDoorAvYld
import Derived.Test.YtdbkpibbjnhmgaaDoorAvMap
import Derived.Test.YtdbkpibbjnhmgaaDoorAvTail
import Derived.Test.YtdbkpibbjnhmgaaDoorAvCo
import Derived.Test.YtdbkpibbjnhmgaaDoorAvHq
import Derived.Test.YtdbkpibbjnhmgaaDoorAvArena
import Derived.Test.YtdbkpibbjnhmgaaDoorAvYl2
import Derived.Test.YtdbkpibbjnhmgaaDoorAvClr
import Derived.Test.YtdbkpibbjnhmgaaDoorAvDeepX
import Derived.Test.YtdbkpibbjnhmgaaDoorLay
import Derived.Test.YtdbkpibbjnhmgaaDoorProg
namespace Go.Av.L
open Go.Av Go.Lib
set_option linter.unusedSimpArgs false
set_option linter.unusedVariables false
def kinds : List Nat := [0, 0, 0, 0, 1, 0, 1, 1, 1, 1, 1, 1, 1, 1, 1, 1, 1, 7, 0, 0, 0, 0, 1, 1, 1, 1, 1, 1, 1, 3, 1, 3, 1, 0, 1, 0, 1, 1, 1, 1, 1, 1, 0, 0, 0, 1, 3, 3, 1, 1, 0, 0, 0, 1, 0, 0, 0, 0, 0, 0, 0, 0, 0, 0, 0, 0, 0, 0, 1, 0, 3, 0, 0, 0, 0, 0, 0, 0, 0, 0, 0, 0, 0, 0, 0, 0, 0, 0, 0, 0, 0, 0, 0, 0, 0, 0, 0, 0, 0, 0, 0, 0, 0, 0, 0, 0, 0, 0, 0, 0, 0, 0]
def Ud : List ((Nat × Nat) × List (Nat × List Nat)) := [((4, 24), [(0, []), (1, []), (2, []), (3, []), (4, []), (5, []), (7, []), (6, [7]), (8, []), (9, []), (10, []), (11, []), (12, []), (13, []), (14, []), (15, []), (16, []), (17, []), (18, []), (19, []), (20, []), (21, []), (22, []), (23, []), (24, []), (25, [])]),
 ((8, 17), [(0, []), (1, []), (2, []), (3, []), (4, []), (5, []), (6, []), (7, []), (8, [4]), (9, []), (10, []), (11, [])]),
 ((15, 6), [(0, []), (1, []), (2, []), (3, []), (4, []), (5, []), (6, []), (7, []), (8, [])]),
 ((25, 4), [(0, []), (1, []), (2, []), (3, []), (4, []), (5, []), (6, []), (7, [])]),
 ((37, 4), [(0, []), (1, []), (2, []), (3, []), (4, []), (5, []), (6, []), (7, []), (8, [])]),
 ((37, 5), [(0, []), (1, []), (2, []), (3, []), (4, []), (5, []), (6, []), (7, []), (8, []), (9, [])])]
def KO : List (Nat × List Bool) := [(4, [true]), (6, [true]), (9, [true]), (11, [true]), (24, [false, true, false]), (37, [true, true])]
def WJ : List (Nat × List AA) := [(2, [])]
def exts : List (Nat × Nat × Nat × Nat) := [(29, 2, 44, 9), (31, 41, 0, 0), (46, 10, 0, 0), (47, 4, 0, 9), (70, 9, 2, 0)]
def Xz : VY := []
noncomputable def cfg : EP := { P := Go.Proofs.Tryd.prog, kind := Mn kinds, Ib := Lk Ud, ext := MH Go.Proofs.Tryd.prog Xz exts, CM := JZ WJ, Rs := Sn Go.Proofs.Tryd.prog (Lk Ud), still := Uk KO }
theorem Tx : Go.Proofs.Builder.Extra cfg.P Go.Proofs.Tryd.Ly where
 sizeBuilder := by kernel_rfl
 liesBuilder := by kernel_rfl
 t5 := by kernel_rfl
 a5 := fun _ => by kernel_rfl
 z5 := fun _ => by kernel_rfl
 v5 := fun _ => by kernel_rfl
 infoByte := by kernel_rfl
 cellsByte := by kernel_rfl
 sizeByte := by kernel_rfl
 neB5 := by decide
theorem UG : ∀ p ∈ exts, EI cfg.P cfg.CM p.1 (TE cfg.P Xz p.2) := by
 intro p hp
 simp only [exts, List.mem_cons, List.not_mem_nil, or_false] at hp
 rcases hp with rfl | rfl | rfl | rfl | rfl
 ·exact Rb Go.Proofs.Tryd.Ta Go.Proofs.Tryd.VT Go.Proofs.Tryd.Va rfl rfl (by kernel_rfl) _
 ·exact PM _
 ·exact T8 Go.Proofs.Tryd.Vp Tx _
 ·exact SM Go.Proofs.Tryd.T5 _
 ·exact Sv Go.Proofs.Tryd.Ww (by kernel_rfl)
theorem Vq : E9 cfg := Rh (ks := kinds) (l := exts) rfl (by kernel_rfl) (by kernel_rfl) rfl rfl (by kernel_rfl) UG
structure BH where
 Wo : Int
 Rv : Int
def MJ (x : BH) : List AA := [.int .i64 x.Wo, .int .i64 x.Rv]
structure BN where
 Key : List UInt8
 Value : List UInt8
def EV (x : BN) : List AA := [.str x.Key, .str x.Value]
theorem L3 : J0 EV 2 := ⟨fun _ => rfl, fun _ => rfl, fun _ => rfl⟩
structure AO where
 Name : List UInt8
 Vm : List UInt8
 Kind : Int
 Mode : Int
 Xa : Int
 XE : Int
 Rz : List UInt8
 SK : List UInt8
 SI : Int
 SE : Int
 Time : BH
 Extra : List BN
 Data : List UInt8
def AE (x : AO) : List AA := [.str x.Name, .str x.Vm, .int .u8 x.Kind, .int .i64 x.Mode, .int .i64 x.Xa, .int .i64 x.XE, .str x.Rz, .str x.SK, .int .i64 x.SI, .int .i64 x.SE, .int .i64 x.Time.Wo, .int .i64 x.Time.Rv, vs EV x.Extra, .str x.Data]
theorem Cy : J0 AE 14 := ⟨fun _ => rfl, fun _ => rfl, fun _ => rfl⟩
structure AG where
 at_ : Int
 Dp : Int
 AP : List ((List UInt8) × Nat)
structure AV where
 Au : Nat
 n_ : Int
structure AD where
 L : List (List UInt8)
 At : Int
def AF (x : AD) : List AA := [vs eS x.L, .int .i64 x.At]
theorem Ad : J0 AF 2 := ⟨fun _ => rfl, fun _ => rfl, fun _ => rfl⟩
def BF : SB AG := ⟨fun x => [.int .i64 x.at_, .int .i64 x.Dp], fun x => x.AP⟩
theorem Qv (a : AG) : BF.pre a ≠ [] := fun h => by cases h
abbrev XC : List AA := [.str ([] : List UInt8), .str ([] : List UInt8), Ab 0, Ai 0, Ai 0, Ai 0, .str ([] : List UInt8), .str ([] : List UInt8), Ai 0, Ai 0, Ai 0, Ai 0, .slice none 0, .str ([] : List UInt8)]
end Go.Av.L
