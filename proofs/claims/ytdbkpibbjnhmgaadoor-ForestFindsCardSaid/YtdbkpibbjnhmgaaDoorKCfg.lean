/-
 A part.
-/
import Derived.Test.YtdbkpibbjnhmgaaDoorAvLib
import Derived.Test.YtdbkpibbjnhmgaaDoorAvYld
import Derived.Test.YtdbkpibbjnhmgaaDoorAvMap
import Derived.Test.YtdbkpibbjnhmgaaDoorAvTail
import Derived.Test.YtdbkpibbjnhmgaaDoorAvCo
import Derived.Test.YtdbkpibbjnhmgaaDoorAvHq
import Derived.Test.YtdbkpibbjnhmgaaDoorAvArena
import Derived.Test.YtdbkpibbjnhmgaaDoorAvYl2
import Derived.Test.YtdbkpibbjnhmgaaDoorAvClr
import Derived.Test.YtdbkpibbjnhmgaaDoorLay
import Derived.Test.YtdbkpibbjnhmgaaDoorProg
namespace Go.Av.L
open Go.Av Go.Lib
set_option linter.unusedSimpArgs false
set_option linter.unusedVariables false
def kinds : List Nat := [0, 0, 0, 0, 0, 1, 1, 1, 1, 1, 0, 1, 1, 1, 0, 1, 1, 7, 1, 1, 1, 1, 1, 1, 1, 0, 1, 1, 1, 3, 1, 0, 1, 1, 1, 1, 1, 1, 1, 1, 1, 1, 0, 0, 0, 1, 3, 3, 1, 1, 0, 0, 0, 1, 0, 0, 0, 0, 0, 0, 0, 0, 0, 0, 0, 0, 0, 0, 1, 0, 3, 0, 0, 0, 0, 0, 0, 0, 0, 0, 0, 0, 0, 0, 0, 0, 0, 0, 0, 0, 0, 0, 0, 0, 0, 0, 0, 0, 0, 0, 0, 0, 0, 0, 0, 0, 0, 0, 0, 0, 0, 0]
def UW : List ((Nat × Nat) × List (Nat × List Nat)) := [((8, 17), [(0, []), (1, []), (2, []), (3, []), (4, []), (5, []), (6, []), (7, []), (8, [4]), (9, []), (10, []), (11, [])]),
 ((15, 6), [(0, []), (1, []), (2, []), (3, []), (4, []), (5, []), (6, []), (7, []), (8, [])]),
 ((33, 6), [(0, []), (1, []), (2, []), (3, []), (4, []), (5, []), (6, []), (7, []), (8, [])]),
 ((35, 1), [(0, []), (1, []), (2, []), (3, []), (4, []), (5, []), (6, [])]),
 ((37, 4), [(0, []), (1, []), (2, []), (3, []), (4, []), (5, []), (6, []), (7, []), (8, [])]),
 ((37, 5), [(0, []), (1, []), (2, []), (3, []), (4, []), (5, []), (6, []), (7, []), (8, []), (9, [])])]
def KR : List (Nat × List Bool) := [(5, [true, false]), (6, [true]), (9, [true]), (11, [true]), (19, [false, true]), (21, [false, true, true]), (24, [false, true, false]), (33, [true, true]), (37, [true, true])]
def VM : List (Nat × List AA) := [(2, [])]
def exts : List (Nat × Nat × Nat × Nat) := [(29, 2, 44, 9), (46, 10, 0, 0), (47, 4, 0, 9), (70, 9, 2, 0)]
def W3 : VI := []
noncomputable def cfg : En := { P := Go.Proofs.Tryd.prog, kind := Mj kinds, Ig := LX UW, ext := Nc Go.Proofs.Tryd.prog W3 exts, CP := Jm VM, RN := RR Go.Proofs.Tryd.prog (LX UW), still := UE KR }
theorem TQ : Go.Proofs.Builder.Extra cfg.P Go.Proofs.Tryd.LM where
 sizeBuilder := by kernel_rfl
 liesBuilder := by kernel_rfl
 t5 := by kernel_rfl
 a5 := fun _ => by kernel_rfl
 z5 := fun _ => by kernel_rfl
 v5 := fun _ => by kernel_rfl
 infoByte := by kernel_rfl
 cellsByte := by kernel_rfl
 sizeByte := by kernel_rfl
 neB5 := by decide
theorem TT : ∀ p ∈ exts, Er cfg.P cfg.CP p.1 (SL cfg.P W3 p.2) := by
 intro p hp
 simp only [exts, List.mem_cons, List.not_mem_nil, or_false] at hp
 rcases hp with rfl | rfl | rfl | rfl
 ·exact Q6 Go.Proofs.Tryd.Rk Go.Proofs.Tryd.Um Go.Proofs.Tryd.Ud rfl rfl (by kernel_rfl) _
 ·exact Ta Go.Proofs.Tryd.Uq TQ _
 ·exact Ry Go.Proofs.Tryd.Tg _
 ·exact RT Go.Proofs.Tryd.VQ (by kernel_rfl)
theorem Uh : FH cfg := Q5 (ks := kinds) (l := exts) rfl (by kernel_rfl) (by kernel_rfl) rfl rfl (by kernel_rfl) TT
structure BI where
 Vk : Int
 Sd : Int
def MF (x : BI) : List AA := [.int .i64 x.Vk, .int .i64 x.Sd]
structure BK where
 Key : List UInt8
 Value : List UInt8
def Eh (x : BK) : List AA := [.str x.Key, .str x.Value]
theorem Ls : Jy Eh 2 := ⟨fun _ => rfl, fun _ => rfl, fun _ => rfl⟩
structure AS where
 Name : List UInt8
 Ue : List UInt8
 Kind : Int
 Mode : Int
 WO : Int
 WW : Int
 RS : List UInt8
 Sa : List UInt8
 Rx : Int
 Rq : Int
 Time : BI
 Extra : List BK
 Data : List UInt8
def AE (x : AS) : List AA := [.str x.Name, .str x.Ue, .int .u8 x.Kind, .int .i64 x.Mode, .int .i64 x.WO, .int .i64 x.WW, .str x.RS, .str x.Sa, .int .i64 x.Rx, .int .i64 x.Rq, .int .i64 x.Time.Vk, .int .i64 x.Time.Sd, vs Eh x.Extra, .str x.Data]
theorem CU : Jy AE 14 := ⟨fun _ => rfl, fun _ => rfl, fun _ => rfl⟩
structure AF where
 at_ : Int
 CW : Int
 AP : List ((List UInt8) × Nat)
structure Aj where
 Bb : Nat
 n_ : Int
structure AD where
 L : List (List UInt8)
 At : Int
def AG (x : AD) : List AA := [vs eS x.L, .int .i64 x.At]
theorem AM : Jy AG 2 := ⟨fun _ => rfl, fun _ => rfl, fun _ => rfl⟩
def BC : Ti AF := ⟨fun x => [.int .i64 x.at_, .int .i64 x.CW], fun x => x.AP⟩
theorem Nw (a : AF) : BC.pre a ≠ [] := fun h => by cases h
abbrev WG : List AA := [.str ([] : List UInt8), .str ([] : List UInt8), Ab 0, Ai 0, Ai 0, Ai 0, .str ([] : List UInt8), .str ([] : List UInt8), Ai 0, Ai 0, Ai 0, Ai 0, .slice none 0, .str ([] : List UInt8)]
end Go.Av.L
