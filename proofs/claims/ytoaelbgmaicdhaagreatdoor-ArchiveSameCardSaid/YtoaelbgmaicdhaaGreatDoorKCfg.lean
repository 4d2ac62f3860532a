/-
 The run: which functions are run how, and in which order regions that draw are run. Written by lift2.py.
-/
import Derived.Test.YtoaelbgmaicdhaaGreatDoorAvLib
import Derived.Test.YtoaelbgmaicdhaaGreatDoorAvMap
import Derived.Test.YtoaelbgmaicdhaaGreatDoorAvFast
import Derived.Test.YtoaelbgmaicdhaaGreatDoorLay
import Derived.Test.YtoaelbgmaicdhaaGreatDoorProg
namespace Go.Av.L
open Go.Av Go.Lib
set_option linter.unusedSimpArgs false
set_option linter.unusedVariables false
def kinds : List Nat := [0, 0, 0, 0, 0, 1, 0, 0, 0, 0, 0, 1, 0, 1, 1, 4, 1, 1, 1, 1, 1, 0, 0, 0, 0, 0, 0, 0, 0, 0, 0, 1, 1, 1, 7, 1, 1, 0, 0, 0, 0, 0, 0, 0, 0, 0, 0, 0, 0, 0, 0, 1, 1, 0, 1, 1, 1, 1, 1, 1, 1, 0, 0, 0, 0, 0, 0, 0, 0, 0, 0, 0, 0, 0, 0, 0, 0, 0, 0, 0, 0, 0, 0, 0, 0, 0, 0, 0, 0, 1, 1, 1, 8, 1, 1, 1, 1, 1, 0, 0, 0, 0, 0, 0, 0, 0, 0, 0, 0, 0, 0, 0, 0, 0, 0, 0, 0, 0, 0, 0, 0, 0, 0, 0, 0, 0, 0, 0, 0, 0, 0, 0, 1, 1, 3, 1, 1, 1, 0, 8, 1, 0, 0, 0, 0, 0, 0, 0, 0, 0, 0, 0, 0, 0, 0, 0, 0, 0, 0, 0, 0, 0, 0, 0, 0, 0, 0, 0, 0, 0, 1, 1, 0, 0, 0, 0, 0, 0, 0, 0, 0, 0, 0, 0, 0, 0, 0, 0, 0, 0, 0, 0, 0, 0, 0, 0, 0, 0, 0, 0, 0, 0, 0, 0, 0, 0, 0, 0, 0, 0, 0, 0, 0, 0, 0, 0, 0, 0, 0, 0, 0, 0, 0, 0, 0, 0, 0, 0, 0, 0, 0, 0, 0, 0, 0, 0, 0, 0, 0, 0, 0, 0, 0, 0, 0, 0, 0, 0, 0, 0, 0, 0, 0, 0, 0, 0, 0, 0]
def plans : List ((Nat × Nat) × List (Nat × List Nat)) := [((5, 6), [(0, []), (1, []), (2, []), (3, []), (4, []), (5, []), (6, []), (7, []), (9, []), (10, []), (11, []), (12, []), (13, []), (14, []), (15, []), (16, []), (8, [12, 16]), (17, []), (18, [])]),
 ((13, 6), [(0, []), (1, []), (2, []), (3, []), (4, []), (5, []), (6, []), (7, []), (8, [])]),
 ((20, 6), [(0, []), (1, []), (2, []), (3, []), (4, []), (5, []), (6, []), (7, []), (8, []), (9, [])]),
 ((35, 6), [(0, []), (1, []), (2, []), (3, []), (4, []), (5, []), (6, []), (7, []), (8, [])]),
 ((57, 3), [(0, []), (1, [0]), (2, []), (3, []), (4, []), (5, [])]),
 ((58, 4), [(0, []), (1, []), (2, []), (3, []), (4, []), (5, []), (6, []), (7, [])]),
 ((58, 8), [(0, []), (1, []), (2, []), (3, []), (4, []), (5, []), (6, []), (7, []), (8, [3]), (9, [])]),
 ((58, 9), [(0, []), (1, []), (2, []), (3, []), (4, []), (5, []), (6, [])]),
 ((60, 1), [(0, []), (1, []), (2, []), (3, []), (4, []), (5, []), (6, []), (7, []), (8, []), (9, [])]),
 ((93, 3), [(0, []), (1, []), (2, []), (3, []), (4, []), (5, []), (6, []), (7, []), (8, []), (9, []), (10, []), (11, []), (12, []), (13, []), (14, []), (15, [4]), (16, []), (17, []), (18, []), (19, [])]),
 ((93, 10), [(0, []), (1, []), (2, []), (3, []), (4, []), (5, []), (6, []), (7, []), (8, []), (9, [])]),
 ((93, 19), [(0, []), (1, []), (2, []), (3, []), (4, []), (5, []), (6, []), (7, []), (8, []), (9, [])]),
 ((93, 28), [(0, []), (1, []), (2, []), (3, []), (4, []), (5, []), (6, []), (7, []), (8, []), (9, []), (10, []), (11, []), (12, [3]), (13, []), (14, []), (15, []), (16, []), (17, [])]),
 ((97, 7), [(0, []), (1, []), (2, []), (3, []), (4, []), (5, []), (6, []), (7, []), (8, []), (9, []), (10, []), (11, []), (12, [])])]
def stills : List (Nat × List Bool) := [(5, [true, true, false]), (11, [true, true]), (13, [true, true]), (14, [true]), (16, [true, true]), (17, [true, false]), (18, [true, false]), (19, [true, true]), (20, [true, true]), (31, [true]), (34, [true]), (35, [true, true]), (36, [true, true, false]), (51, [true])]
def globs : List (Nat × List AVal) := [(0, []),
 (1, [.int .u64 1, .int .u64 10, .int .u64 100, .int .u64 1000, .int .u64 10000, .int .u64 100000, .int .u64 1000000, .int .u64 10000000, .int .u64 100000000, .int .u64 1000000000, .int .u64 10000000000, .int .u64 100000000000, .int .u64 1000000000000, .int .u64 10000000000000, .int .u64 100000000000000, .int .u64 1000000000000000, .int .u64 10000000000000000, .int .u64 100000000000000000, .int .u64 1000000000000000000, .int .u64 10000000000000000000]),
 (2, [.int .u8 0, .int .u8 1, .int .u8 28, .int .u8 2, .int .u8 29, .int .u8 14, .int .u8 24, .int .u8 3, .int .u8 30, .int .u8 22, .int .u8 20, .int .u8 15, .int .u8 25, .int .u8 17, .int .u8 4, .int .u8 8, .int .u8 31, .int .u8 27, .int .u8 13, .int .u8 23, .int .u8 21, .int .u8 19, .int .u8 16, .int .u8 7, .int .u8 26, .int .u8 12, .int .u8 18, .int .u8 6, .int .u8 11, .int .u8 5, .int .u8 10, .int .u8 9]),
 (3, [.int .u8 0, .int .u8 1, .int .u8 56, .int .u8 2, .int .u8 57, .int .u8 49, .int .u8 28, .int .u8 3, .int .u8 61, .int .u8 58, .int .u8 42, .int .u8 50, .int .u8 38, .int .u8 29, .int .u8 17, .int .u8 4, .int .u8 62, .int .u8 47, .int .u8 59, .int .u8 36, .int .u8 45, .int .u8 43, .int .u8 51, .int .u8 22, .int .u8 53, .int .u8 39, .int .u8 33, .int .u8 30, .int .u8 24, .int .u8 18, .int .u8 12, .int .u8 5, .int .u8 63, .int .u8 55, .int .u8 48, .int .u8 27, .int .u8 60, .int .u8 41, .int .u8 37, .int .u8 16, .int .u8 46, .int .u8 35, .int .u8 44, .int .u8 21, .int .u8 52, .int .u8 32, .int .u8 23, .int .u8 11, .int .u8 54, .int .u8 26, .int .u8 40, .int .u8 15, .int .u8 34, .int .u8 20, .int .u8 31, .int .u8 10, .int .u8 25, .int .u8 14, .int .u8 19, .int .u8 9, .int .u8 13, .int .u8 8, .int .u8 7, .int .u8 6])]
def exts : List (Nat × Nat × Nat × Nat) := [(134, 7, 0, 0)]
noncomputable def cfg : Cfg := ⟨Go.Proofs.Tryz.prog, lookN kinds, lookPlan plans, extL Go.Proofs.Tryz.prog exts, lookG globs, rokOf Go.Proofs.Tryz.prog (lookPlan plans), lookB stills⟩
theorem repX134 : Go.Proofs.Builder.Extra cfg.P Go.Proofs.Tryz.rep134_ren where
 sizeBuilder := by kernel_rfl
 liesBuilder := by kernel_rfl
 t5 := Go.Proofs.Tryz.rep134.t5
 a5 := Go.Proofs.Tryz.rep134.a5
 z5 := Go.Proofs.Tryz.rep134.z5
 v5 := Go.Proofs.Tryz.rep134.v5
 infoByte := by kernel_rfl
 cellsByte := by kernel_rfl
 sizeByte := by kernel_rfl
 neB5 := by decide
theorem exts_ok : ∀ p ∈ exts, ExtOk cfg.P cfg.glob p.1 (extC cfg.P p.2) := by
 intro p hp
 simp only [exts, List.mem_cons, List.not_mem_nil, or_false] at hp
 subst hp
 exact repeat_ok Go.Proofs.Tryz.rep134 repX134 _
theorem cfg_ok : CfgOk cfg := cfgOk_lib (ks := kinds) (l := exts) rfl (by kernel_rfl) (by kernel_rfl) rfl rfl (by kernel_rfl) exts_ok
structure S_api_Stamp where
 Sec : Int
 Nsec : Int
def e_S_api_Stamp (x : S_api_Stamp) : List AVal := [.int .i64 x.Sec, .int .i64 x.Nsec]
theorem enc_S_api_Stamp : Enc e_S_api_Stamp 2 := ⟨fun _ => rfl, fun _ => rfl, fun _ => rfl⟩
structure S_api_Pair where
 Key : List UInt8
 Value : List UInt8
def e_S_api_Pair (x : S_api_Pair) : List AVal := [.str x.Key, .str x.Value]
theorem enc_S_api_Pair : Enc e_S_api_Pair 2 := ⟨fun _ => rfl, fun _ => rfl, fun _ => rfl⟩
structure S_api_Member where
 Name : List UInt8
 Link : List UInt8
 Kind : Int
 Mode : Int
 Uid : Int
 Gid : Int
 Uname : List UInt8
 Gname : List UInt8
 Major : Int
 Minor : Int
 Time : S_api_Stamp
 Extra : List S_api_Pair
 Data : List UInt8
def e_S_api_Member (x : S_api_Member) : List AVal := [.str x.Name, .str x.Link, .int .u8 x.Kind, .int .i64 x.Mode, .int .i64 x.Uid, .int .i64 x.Gid, .str x.Uname, .str x.Gname, .int .i64 x.Major, .int .i64 x.Minor, .int .i64 x.Time.Sec, .int .i64 x.Time.Nsec, vs e_S_api_Pair x.Extra, .str x.Data]
theorem enc_S_api_Member : Enc e_S_api_Member 14 := ⟨fun _ => rfl, fun _ => rfl, fun _ => rfl⟩
end Go.Av.L
