/-
 The run: which functions are run how, and in which order regions that draw are run. Written by lift2.py.
-/
import Derived.Test.YtdpebdaplhfbjaaGreatDoorAvLib
import Derived.Test.YtdpebdaplhfbjaaGreatDoorAvMap
import Derived.Test.YtdpebdaplhfbjaaGreatDoorAvCo
import Derived.Test.YtdpebdaplhfbjaaGreatDoorAvHq
import Derived.Test.YtdpebdaplhfbjaaGreatDoorAvKm
import Derived.Test.YtdpebdaplhfbjaaGreatDoorAvFast
import Derived.Test.YtdpebdaplhfbjaaGreatDoorAvTold
import Derived.Test.YtdpebdaplhfbjaaGreatDoorKA
import Derived.Test.YtdpebdaplhfbjaaGreatDoorKL
import Derived.Test.YtdpebdaplhfbjaaGreatDoorKB
import Derived.Test.YtdpebdaplhfbjaaGreatDoorLay
import Derived.Test.YtdpebdaplhfbjaaGreatDoorProg
namespace Go.Av.L
open Go.Av Go.Lib
set_option linter.unusedSimpArgs false
set_option linter.unusedVariables false
def kinds : List Nat := [0, 0, 0, 1, 0, 1, 3, 1, 7, 7, 1, 0, 1, 0, 0, 1, 3, 1, 1, 1, 1, 0, 0, 0, 0, 0, 0, 0, 0, 0, 1, 1, 1, 1, 0, 0, 0, 0, 0, 0, 0, 0, 0, 0, 0, 0, 0, 0, 0, 0, 0, 0, 0, 0, 1, 1, 1, 1, 3, 1, 1, 1, 0, 0, 0, 0, 0, 0, 0, 0, 0, 0, 0, 0, 0, 0, 0, 0, 0, 0, 0, 0, 1, 1, 0, 0, 0, 0, 0, 0, 0, 0, 0, 0, 0, 0, 0, 0, 0, 0, 0, 0, 0, 0, 0, 0, 3, 1, 0, 0, 0, 0, 0, 0, 0, 0, 0, 0, 0, 0, 0, 0, 0, 0, 0, 0, 0, 0, 0, 0, 0, 0, 0, 0, 0, 0, 0, 0, 0, 0, 0, 0, 0, 0, 0, 0, 0, 0, 0, 0, 0, 0, 0, 0, 0, 0, 0, 0, 0, 0, 0, 0, 0]
def plans : List ((Nat × Nat) × List (Nat × List Nat)) := [((8, 14), [(0, []), (1, []), (2, [1]), (3, []), (4, [])]),
 ((9, 8), [(0, []), (1, []), (2, []), (3, []), (4, []), (5, []), (6, []), (7, []), (8, []), (9, []), (10, []), (11, [])]),
 ((9, 10), [(0, []), (1, []), (2, []), (3, []), (4, []), (5, []), (6, []), (7, []), (8, []), (9, [])]),
 ((12, 6), [(0, []), (1, []), (2, []), (3, []), (4, []), (5, []), (6, []), (7, []), (8, [])]),
 ((15, 6), [(0, []), (1, []), (2, []), (3, []), (4, []), (5, []), (6, []), (7, []), (8, []), (9, []), (10, []), (11, [])]),
 ((15, 9), [(0, []), (1, []), (2, []), (3, []), (4, []), (5, []), (6, []), (7, [])])]
def stills : List (Nat × List Bool) := [(3, [true, true, true]), (5, [true]), (7, [true, true]), (8, [true, false]), (9, [true, false]), (10, [true, true]), (12, [true, true]), (15, [false, true]), (60, [true]), (61, [true])]
def globs : List (Nat × List AVal) := [(0, []),
 (1, [.int .u64 1, .int .u64 10, .int .u64 100, .int .u64 1000, .int .u64 10000, .int .u64 100000, .int .u64 1000000, .int .u64 10000000, .int .u64 100000000, .int .u64 1000000000, .int .u64 10000000000, .int .u64 100000000000, .int .u64 1000000000000, .int .u64 10000000000000, .int .u64 100000000000000, .int .u64 1000000000000000, .int .u64 10000000000000000, .int .u64 100000000000000000, .int .u64 1000000000000000000, .int .u64 10000000000000000000]),
 (2, [.int .u8 0, .int .u8 1, .int .u8 28, .int .u8 2, .int .u8 29, .int .u8 14, .int .u8 24, .int .u8 3, .int .u8 30, .int .u8 22, .int .u8 20, .int .u8 15, .int .u8 25, .int .u8 17, .int .u8 4, .int .u8 8, .int .u8 31, .int .u8 27, .int .u8 13, .int .u8 23, .int .u8 21, .int .u8 19, .int .u8 16, .int .u8 7, .int .u8 26, .int .u8 12, .int .u8 18, .int .u8 6, .int .u8 11, .int .u8 5, .int .u8 10, .int .u8 9]),
 (3, [.int .u8 0, .int .u8 1, .int .u8 56, .int .u8 2, .int .u8 57, .int .u8 49, .int .u8 28, .int .u8 3, .int .u8 61, .int .u8 58, .int .u8 42, .int .u8 50, .int .u8 38, .int .u8 29, .int .u8 17, .int .u8 4, .int .u8 62, .int .u8 47, .int .u8 59, .int .u8 36, .int .u8 45, .int .u8 43, .int .u8 51, .int .u8 22, .int .u8 53, .int .u8 39, .int .u8 33, .int .u8 30, .int .u8 24, .int .u8 18, .int .u8 12, .int .u8 5, .int .u8 63, .int .u8 55, .int .u8 48, .int .u8 27, .int .u8 60, .int .u8 41, .int .u8 37, .int .u8 16, .int .u8 46, .int .u8 35, .int .u8 44, .int .u8 21, .int .u8 52, .int .u8 32, .int .u8 23, .int .u8 11, .int .u8 54, .int .u8 26, .int .u8 40, .int .u8 15, .int .u8 34, .int .u8 20, .int .u8 31, .int .u8 10, .int .u8 25, .int .u8 14, .int .u8 19, .int .u8 9, .int .u8 13, .int .u8 8, .int .u8 7, .int .u8 6])]
def exts : List (Nat × Nat × Nat × Nat) := [(6, 30, 0, 0), (16, 33, 0, 2), (58, 8, 0, 0), (106, 1, 0, 0)]
def kms : KMs := [LT.lkm16, LB.tab40]
noncomputable def cfg : Cfg := ⟨Go.Proofs.Tryz.prog, lookN kinds, lookPlan plans, extL Go.Proofs.Tryz.prog kms exts, lookG globs, rokOf Go.Proofs.Tryz.prog (lookPlan plans), lookB stills⟩
theorem exts_ok : ∀ p ∈ exts, ExtOk cfg.P cfg.glob p.1 (extC cfg.P kms p.2) := by
 intro p hp
 simp only [exts, List.mem_cons, List.not_mem_nil, or_false] at hp
 rcases hp with rfl | rfl | rfl | rfl
 ·exact tellTrue_ok LA.cfg_ok (by kernel_rfl) LA.b6
 ·exact LT.lit16
 ·exact cut_ok Go.Proofs.Tryz.str58 (by kernel_rfl)
 ·exact idx_ok _ (by kernel_rfl) (fun fn h => by
   obtain rfl := Option.some.inj (Go.Proofs.Tryz.func106.symm.trans h)
   exact ⟨by kernel_rfl, by kernel_rfl⟩)
theorem cfg_ok : CfgOk cfg := cfgOk_lib (ks := kinds) (l := exts) rfl (by kernel_rfl) (by kernel_rfl) rfl rfl (by kernel_rfl) exts_ok
structure S_api_Head where
 Name : List UInt8
 Link : List UInt8
 Kind : Int
 Mode : Int
 Uid : Int
 Gid : Int
 Size : Int
 Time : Int
 Uname : List UInt8
 Gname : List UInt8
 Major : Int
 Minor : Int
 Form : Int
def e_S_api_Head (x : S_api_Head) : List AVal := [.str x.Name, .str x.Link, .int .u8 x.Kind, .int .i64 x.Mode, .int .i64 x.Uid, .int .i64 x.Gid, .int .i64 x.Size, .int .i64 x.Time, .str x.Uname, .str x.Gname, .int .i64 x.Major, .int .i64 x.Minor, .int .i64 x.Form]
structure S_api_Pair where
 Key : List UInt8
 Value : List UInt8
def e_S_api_Pair (x : S_api_Pair) : List AVal := [.str x.Key, .str x.Value]
theorem enc_S_api_Pair : Enc e_S_api_Pair 2 := ⟨fun _ => rfl, fun _ => rfl, fun _ => rfl⟩
structure S_api_Stamp where
 Sec : Int
 Nsec : Int
def e_S_api_Stamp (x : S_api_Stamp) : List AVal := [.int .i64 x.Sec, .int .i64 x.Nsec]
structure S_api_Member where
 Name : List UInt8
 Link : List UInt8
 Kind : Int
 Mode : Int
 Uid : Int
 Gid : Int
 Uname : List UInt8
 Gname : List UInt8
 Major : Int
 Minor : Int
 Time : S_api_Stamp
 Extra : List S_api_Pair
 Data : List UInt8
def e_S_api_Member (x : S_api_Member) : List AVal := [.str x.Name, .str x.Link, .int .u8 x.Kind, .int .i64 x.Mode, .int .i64 x.Uid, .int .i64 x.Gid, .str x.Uname, .str x.Gname, .int .i64 x.Major, .int .i64 x.Minor, .int .i64 x.Time.Sec, .int .i64 x.Time.Nsec, vs e_S_api_Pair x.Extra, .str x.Data]
abbrev w_api_Member_12 (x : S_api_Member) (c12 : AVal) : List AVal := [.str x.Name, .str x.Link, .int .u8 x.Kind, .int .i64 x.Mode, .int .i64 x.Uid, .int .i64 x.Gid, .str x.Uname, .str x.Gname, .int .i64 x.Major, .int .i64 x.Minor, .int .i64 x.Time.Sec, .int .i64 x.Time.Nsec, c12, .str x.Data]
end Go.Av.L
