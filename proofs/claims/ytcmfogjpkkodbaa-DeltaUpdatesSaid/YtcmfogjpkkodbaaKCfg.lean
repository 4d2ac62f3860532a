/-
  The run: which functions are run how, and in which order regions that draw are run. Written by lift2.py.
-/
import Derived.Test.YtcmfogjpkkodbaaAvLib
import Derived.Test.YtcmfogjpkkodbaaAvYld
import Derived.Test.YtcmfogjpkkodbaaAvMap
import Derived.Test.YtcmfogjpkkodbaaAvArr
import Derived.Test.YtcmfogjpkkodbaaLay
import Derived.Test.YtcmfogjpkkodbaaProg
namespace Go.Av.L
open Go.Av Go.Lib
def kinds : List Nat := [0, 0, 0, 0, 0, 1, 0, 0, 0, 0, 0, 0, 0, 0, 0, 1, 0, 0, 0, 1, 4, 1, 7, 1, 1, 7, 0, 0, 0, 0, 0, 0, 0, 0, 0, 0, 0, 0, 0, 0, 0, 0, 1, 1, 1, 1, 1, 3, 1, 3, 1, 1, 0, 0, 0, 0, 0, 0, 0, 0, 0, 0, 0, 0, 1, 1, 3, 3, 0, 0, 0, 7, 1, 0, 0, 0, 0, 0, 0, 0, 0, 0, 0, 0, 0, 0, 0, 0, 0, 0, 0, 0, 0, 0, 0, 0, 0, 0, 0, 0, 0, 0, 0, 0, 0, 0, 0, 0, 0, 0, 0, 0, 0, 0, 0, 0, 0, 0, 0, 0, 0, 0, 0, 0, 0, 0, 0]
def plans : List ((Nat × Nat) × List (Nat × List Nat)) := [((15, 6), [(0, []), (1, []), (2, []), (3, []), (4, []), (5, []), (6, []), (7, []), (8, [])]),
  ((21, 6), [(0, []), (1, []), (2, []), (3, []), (4, []), (5, []), (6, []), (7, []), (8, []), (9, [])]),
  ((24, 7), [(0, []), (1, []), (2, []), (3, []), (4, []), (5, []), (6, []), (7, []), (8, []), (9, []), (10, []), (11, []), (12, [])]),
  ((25, 9), [(0, []), (1, []), (2, []), (3, []), (4, []), (5, []), (6, []), (7, []), (8, []), (9, []), (10, []), (11, []), (12, [])]),
  ((65, 6), [(0, []), (1, []), (2, []), (3, []), (4, []), (5, []), (6, []), (7, []), (8, [])]),
  ((72, 6), [(0, []), (1, []), (2, []), (3, []), (4, []), (5, []), (6, []), (7, []), (8, [])])]
def stills : List (Nat × List Bool) := [(5, [true, true]), (19, [true]), (22, [true, true]), (24, [true, true]), (25, [true, true]), (42, [true]), (43, [true, true]), (48, [true, true]), (51, [true, true]), (64, [true]), (65, [true, true]), (71, [true]), (72, [true, true])]
def globs : List (Nat × List AVal) := []
def exts : List (Nat × Nat × Nat × Nat) := [(47, 4, 0, 63), (49, 2, 70, 9), (66, 5, 0, 63), (67, 6, 0, 88)]
noncomputable def cfg : Cfg := ⟨Go.Proofs.Try.prog, lookN kinds, lookPlan plans, extL Go.Proofs.Try.prog exts, lookG globs, rokOf Go.Proofs.Try.prog (lookPlan plans), lookB stills⟩
theorem exts_ok : ∀ p ∈ exts, ExtOk cfg.P cfg.glob p.1 (extC cfg.P p.2) := by
  intro p hp
  simp only [exts, List.mem_cons, List.not_mem_nil, or_false] at hp
  rcases hp with rfl | rfl | rfl | rfl
  · exact clone_ok Go.Proofs.Try.clone47 _
  · exact sorted_ok Go.Proofs.Try.sorted49 Go.Proofs.Try.keys50 Go.Proofs.Try.sort69 rfl rfl (by kernel_rfl) _
  · exact grow_ok Go.Proofs.Try.grow66 _
  · exact cloneF_ok Go.Proofs.Try.clone67 _
theorem cfg_ok : CfgOk cfg := cfgOk_lib (ks := kinds) (l := exts) rfl (by kernel_rfl) (by kernel_rfl) rfl rfl (by kernel_rfl) exts_ok
structure S_api_Stamp where
  Sec : Int
  Nsec : Int
def e_S_api_Stamp (x : S_api_Stamp) : List AVal := [.int .i64 x.Sec, .int .i64 x.Nsec]
theorem enc_S_api_Stamp : Enc e_S_api_Stamp 2 := ⟨fun _ => rfl, fun _ => rfl, fun _ => rfl⟩
structure S_api_Pair where
  Key : List UInt8
  Value : List UInt8
def e_S_api_Pair (x : S_api_Pair) : List AVal := [.str x.Key, .str x.Value]
theorem enc_S_api_Pair : Enc e_S_api_Pair 2 := ⟨fun _ => rfl, fun _ => rfl, fun _ => rfl⟩
structure S_api_Member where
  Name : List UInt8
  Link : List UInt8
  Kind : Int
  Mode : Int
  Uid : Int
  Gid : Int
  Uname : List UInt8
  Gname : List UInt8
  Major : Int
  Minor : Int
  Time : S_api_Stamp
  Extra : List S_api_Pair
  Data : List UInt8
def e_S_api_Member (x : S_api_Member) : List AVal := [.str x.Name, .str x.Link, .int .u8 x.Kind, .int .i64 x.Mode, .int .i64 x.Uid, .int .i64 x.Gid, .str x.Uname, .str x.Gname, .int .i64 x.Major, .int .i64 x.Minor, .int .i64 x.Time.Sec, .int .i64 x.Time.Nsec, vs e_S_api_Pair x.Extra, .str x.Data]
theorem enc_S_api_Member : Enc e_S_api_Member 14 := ⟨fun _ => rfl, fun _ => rfl, fun _ => rfl⟩
structure S_delta_Diff where
  Added : List (List UInt8)
  Removed : List (List UInt8)
  Changed : List (List UInt8)
def e_S_delta_Diff (x : S_delta_Diff) : List AVal := [vs eS x.Added, vs eS x.Removed, vs eS x.Changed]
theorem enc_S_delta_Diff : Enc e_S_delta_Diff 3 := ⟨fun _ => rfl, fun _ => rfl, fun _ => rfl⟩
end Go.Av.L
