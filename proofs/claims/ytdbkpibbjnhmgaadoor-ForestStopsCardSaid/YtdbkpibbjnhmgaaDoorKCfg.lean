/-
 A part.
-/
import Derived.Test.YtdbkpibbjnhmgaaDoorAvLib
import Derived.Test.YtdbkpibbjnhmgaaDoorAvYld
import Derived.Test.YtdbkpibbjnhmgaaDoorAvMap
import Derived.Test.YtdbkpibbjnhmgaaDoorAvTail
import Derived.Test.YtdbkpibbjnhmgaaDoorAvCo
import Derived.Test.YtdbkpibbjnhmgaaDoorAvHq
import Derived.Test.YtdbkpibbjnhmgaaDoorAvArena
import Derived.Test.YtdbkpibbjnhmgaaDoorAvYl2
import Derived.Test.YtdbkpibbjnhmgaaDoorAvClr
import Derived.Test.YtdbkpibbjnhmgaaDoorLay
import Derived.Test.YtdbkpibbjnhmgaaDoorProg
namespace Go.Av.L
open Go.Av Go.Lib
set_option linter.unusedSimpArgs false
set_option linter.unusedVariables false
def kinds : List Nat := [0, 0, 0, 1, 0, 0, 1, 1, 1, 1, 1, 1, 0, 1, 0, 1, 1, 7, 0, 0, 0, 0, 1, 1, 1, 1, 1, 0, 1, 3, 1, 0, 1, 0, 1, 0, 1, 1, 1, 1, 1, 1, 0, 0, 0, 1, 3, 3, 1, 1, 0, 0, 0, 1, 0, 0, 0, 0, 0, 0, 0, 0, 0, 0, 0, 0, 0, 0, 1, 0, 3, 0, 0, 0, 0, 0, 0, 0, 0, 0, 0, 0, 0, 0, 0, 0, 0, 0, 0, 0, 0, 0, 0, 0, 0, 0, 0, 0, 0, 0, 0, 0, 0, 0, 0, 0, 0, 0, 0, 0, 0, 0]
def Th : List ((Nat × Nat) × List (Nat × List Nat)) := [((8, 17), [(0, []), (1, []), (2, []), (3, []), (4, []), (5, []), (6, []), (7, []), (8, [4]), (9, []), (10, []), (11, [])]),
 ((15, 6), [(0, []), (1, []), (2, []), (3, []), (4, []), (5, []), (6, []), (7, []), (8, [])]),
 ((25, 4), [(0, []), (1, []), (2, []), (3, []), (4, []), (5, []), (6, []), (7, [])]),
 ((37, 4), [(0, []), (1, []), (2, []), (3, []), (4, []), (5, []), (6, []), (7, []), (8, [])]),
 ((37, 5), [(0, []), (1, []), (2, []), (3, []), (4, []), (5, []), (6, []), (7, []), (8, []), (9, [])])]
def Jd : List (Nat × List Bool) := [(3, [true, false]), (6, [true]), (9, [true]), (11, [true]), (24, [false, true, false]), (37, [true, true])]
def Ue : List (Nat × List AA) := [(2, [])]
def exts : List (Nat × Nat × Nat × Nat) := [(29, 2, 44, 9), (46, 10, 0, 0), (47, 4, 0, 9), (70, 9, 2, 0)]
def WG : UX := []
noncomputable def cfg : EB := { P := Go.Proofs.Tryd.prog, kind := L9 kinds, Ht := LA Th, ext := Mj Go.Proofs.Tryd.prog WG exts, B4 := IX Ue, QV := Rm Go.Proofs.Tryd.prog (LA Th), still := TP Jd }
theorem Sx : Go.Proofs.Builder.Extra cfg.P Go.Proofs.Tryd.LB where
 sizeBuilder := by kernel_rfl
 liesBuilder := by kernel_rfl
 t5 := by kernel_rfl
 a5 := fun _ => by kernel_rfl
 z5 := fun _ => by kernel_rfl
 v5 := fun _ => by kernel_rfl
 infoByte := by kernel_rfl
 cellsByte := by kernel_rfl
 sizeByte := by kernel_rfl
 neB5 := by decide
theorem Sc : ∀ p ∈ exts, EN cfg.P cfg.B4 p.1 (Q1 cfg.P WG p.2) := by
 intro p hp
 simp only [exts, List.mem_cons, List.not_mem_nil, or_false] at hp
 rcases hp with rfl | rfl | rfl | rfl
 ·exact QC Go.Proofs.Tryd.Rr Go.Proofs.Tryd.UN Go.Proofs.Tryd.Tp rfl rfl (by kernel_rfl) _
 ·exact Sg Go.Proofs.Tryd.Tu Sx _
 ·exact RC Go.Proofs.Tryd.SM _
 ·exact Re Go.Proofs.Tryd.VD (by kernel_rfl)
theorem UH : Ep cfg := P7 (ks := kinds) (l := exts) rfl (by kernel_rfl) (by kernel_rfl) rfl rfl (by kernel_rfl) Sc
structure Au where
 U1 : Int
 Qt : Int
def LP (x : Au) : List AA := [.int .i64 x.U1, .int .i64 x.Qt]
structure Ay where
 Key : List UInt8
 Value : List UInt8
def EE (x : Ay) : List AA := [.str x.Key, .str x.Value]
theorem K2 : JJ EE 2 := ⟨fun _ => rfl, fun _ => rfl, fun _ => rfl⟩
structure AN where
 Name : List UInt8
 Tw : List UInt8
 Kind : Int
 Mode : Int
 V7 : Int
 Vg : Int
 RM : List UInt8
 Qa : List UInt8
 Q7 : Int
 RU : Int
 Time : Au
 Extra : List Ay
 Data : List UInt8
def AE (x : AN) : List AA := [.str x.Name, .str x.Tw, .int .u8 x.Kind, .int .i64 x.Mode, .int .i64 x.V7, .int .i64 x.Vg, .str x.RM, .str x.Qa, .int .i64 x.Q7, .int .i64 x.RU, .int .i64 x.Time.U1, .int .i64 x.Time.Qt, vs EE x.Extra, .str x.Data]
theorem Cd : JJ AE 14 := ⟨fun _ => rfl, fun _ => rfl, fun _ => rfl⟩
structure AG where
 at_ : Int
 Da : Int
 Aa : List ((List UInt8) × Nat)
structure A9 where
 Bv : Nat
 n_ : Int
structure AD where
 L : List (List UInt8)
 At : Int
def AF (x : AD) : List AA := [vs eS x.L, .int .i64 x.At]
theorem BL : JJ AF 2 := ⟨fun _ => rfl, fun _ => rfl, fun _ => rfl⟩
def BT : Sr AG := ⟨fun x => [.int .i64 x.at_, .int .i64 x.Da], fun x => x.Aa⟩
theorem Pn (a : AG) : BT.pre a ≠ [] := fun h => by cases h
abbrev VT : List AA := [.str ([] : List UInt8), .str ([] : List UInt8), Ab 0, Ai 0, Ai 0, Ai 0, .str ([] : List UInt8), .str ([] : List UInt8), Ai 0, Ai 0, Ai 0, Ai 0, .slice none 0, .str ([] : List UInt8)]
end Go.Av.L
