/-
 The run: which functions are run how, and in which order regions that draw are run. Written by lift2.py.
-/
import Derived.Test.YtkdlmohhklimjaaGreatDoorAvLib
import Derived.Test.YtkdlmohhklimjaaGreatDoorAvYld
import Derived.Test.YtkdlmohhklimjaaGreatDoorAvMap
import Derived.Test.YtkdlmohhklimjaaGreatDoorAvKm
import Derived.Test.YtkdlmohhklimjaaGreatDoorAvFast
import Derived.Test.YtkdlmohhklimjaaGreatDoorAvTold
import Derived.Test.YtkdlmohhklimjaaGreatDoorKA
import Derived.Test.YtkdlmohhklimjaaGreatDoorLay
import Derived.Test.YtkdlmohhklimjaaGreatDoorProg
namespace Go.Av.L
open Go.Av Go.Lib
set_option linter.unusedSimpArgs false
set_option linter.unusedVariables false
def kinds : List Nat := [0, 0, 0, 0, 0, 0, 1, 0, 0, 0, 0, 0, 0, 0, 0, 7, 1, 3, 0, 1, 0, 0, 0, 0, 0, 0, 1, 0, 0, 0, 0, 0, 0, 0, 0, 3, 3, 1, 1, 1, 1, 0, 0, 0, 0, 0, 0, 0, 0, 0, 0, 1, 0, 0, 0, 0, 0, 0, 0, 0, 0, 1, 1, 1, 1, 1, 0, 0, 0, 0, 0, 0, 0, 0, 0, 0, 0, 0, 0, 0, 0, 0, 0, 0, 0, 0, 0, 0, 0, 0, 0, 0, 0, 0, 0, 0, 0, 0, 0, 0, 0, 0, 3, 0, 1, 1, 1, 1, 1, 0, 0, 0, 0, 0, 0, 0, 1, 0, 0, 0, 0, 0, 0, 0, 0, 0, 0, 0, 0, 0, 0, 0, 0, 0, 0, 0, 0, 0, 0, 0, 0, 0, 0, 0, 1, 1, 0, 0, 0, 0, 0, 0, 1, 0, 0, 0, 0, 0, 0, 0, 0, 0, 0, 0, 0, 0, 0, 0, 0, 0, 0, 0, 0, 0, 0, 0, 0, 0, 0, 1, 0, 1, 0, 0, 0, 0, 0, 0, 0, 0, 0, 0, 0, 0, 0, 0, 0, 0, 0, 0, 0, 0, 0, 0, 0, 0, 0, 0, 0, 0, 0, 0, 0, 0, 0, 0, 0, 0, 0, 0, 0, 0, 0, 0, 0, 0, 0, 0, 0, 0, 0, 0, 0, 0, 0, 0, 0, 0, 0, 0, 0, 0, 0, 0, 0, 0, 0, 0, 0]
def plans : List ((Nat × Nat) × List (Nat × List Nat)) := [((15, 8), [(0, []), (1, []), (2, []), (3, []), (4, []), (5, []), (6, []), (7, []), (8, []), (9, []), (10, []), (11, []), (12, []), (13, []), (14, []), (15, [])]),
 ((15, 11), [(0, []), (1, [0]), (2, [])]),
 ((15, 12), [(0, []), (1, []), (2, []), (3, []), (4, []), (5, [2, 4]), (6, []), (7, [])]),
 ((39, 6), [(0, []), (1, []), (2, []), (3, []), (4, []), (5, []), (6, []), (7, []), (8, [])]),
 ((40, 6), [(0, []), (1, []), (2, []), (3, []), (4, []), (5, []), (6, []), (7, []), (8, [])]),
 ((62, 4), [(0, []), (1, []), (2, []), (3, []), (4, []), (5, []), (6, []), (7, []), (8, []), (9, []), (10, []), (11, []), (12, []), (13, [])]),
 ((62, 8), [(0, []), (1, []), (2, []), (3, []), (4, []), (5, []), (6, []), (7, []), (8, [])]),
 ((65, 8), [(0, []), (1, []), (2, []), (3, []), (4, []), (5, []), (6, []), (7, []), (8, []), (9, []), (10, []), (11, []), (12, [1]), (13, []), (14, []), (15, [])]),
 ((65, 14), [(0, []), (1, []), (2, []), (3, []), (4, []), (5, []), (6, []), (7, []), (9, []), (8, [9]), (10, [])]),
 ((65, 15), [(0, []), (1, [0]), (2, [])]),
 ((106, 12), [(0, []), (1, []), (2, []), (3, []), (4, []), (5, []), (6, []), (7, []), (8, [])]),
 ((144, 4), [(0, []), (1, []), (2, []), (3, []), (4, []), (5, []), (6, []), (7, []), (8, []), (9, [])])]
def stills : List (Nat × List Bool) := [(16, [true, true]), (39, [true, true]), (40, [true, true])]
def globs : List (Nat × List AVal) := [(0, []),
 (3, [.int .u64 1, .int .u64 10, .int .u64 100, .int .u64 1000, .int .u64 10000, .int .u64 100000, .int .u64 1000000, .int .u64 10000000, .int .u64 100000000, .int .u64 1000000000, .int .u64 10000000000, .int .u64 100000000000, .int .u64 1000000000000, .int .u64 10000000000000, .int .u64 100000000000000, .int .u64 1000000000000000, .int .u64 10000000000000000, .int .u64 100000000000000000, .int .u64 1000000000000000000, .int .u64 10000000000000000000]),
 (4, [.int .u8 0, .int .u8 1, .int .u8 28, .int .u8 2, .int .u8 29, .int .u8 14, .int .u8 24, .int .u8 3, .int .u8 30, .int .u8 22, .int .u8 20, .int .u8 15, .int .u8 25, .int .u8 17, .int .u8 4, .int .u8 8, .int .u8 31, .int .u8 27, .int .u8 13, .int .u8 23, .int .u8 21, .int .u8 19, .int .u8 16, .int .u8 7, .int .u8 26, .int .u8 12, .int .u8 18, .int .u8 6, .int .u8 11, .int .u8 5, .int .u8 10, .int .u8 9]),
 (5, [.int .u8 0, .int .u8 1, .int .u8 56, .int .u8 2, .int .u8 57, .int .u8 49, .int .u8 28, .int .u8 3, .int .u8 61, .int .u8 58, .int .u8 42, .int .u8 50, .int .u8 38, .int .u8 29, .int .u8 17, .int .u8 4, .int .u8 62, .int .u8 47, .int .u8 59, .int .u8 36, .int .u8 45, .int .u8 43, .int .u8 51, .int .u8 22, .int .u8 53, .int .u8 39, .int .u8 33, .int .u8 30, .int .u8 24, .int .u8 18, .int .u8 12, .int .u8 5, .int .u8 63, .int .u8 55, .int .u8 48, .int .u8 27, .int .u8 60, .int .u8 41, .int .u8 37, .int .u8 16, .int .u8 46, .int .u8 35, .int .u8 44, .int .u8 21, .int .u8 52, .int .u8 32, .int .u8 23, .int .u8 11, .int .u8 54, .int .u8 26, .int .u8 40, .int .u8 15, .int .u8 34, .int .u8 20, .int .u8 31, .int .u8 10, .int .u8 25, .int .u8 14, .int .u8 19, .int .u8 9, .int .u8 13, .int .u8 8, .int .u8 7, .int .u8 6])]
def exts : List (Nat × Nat × Nat × Nat) := [(17, 30, 0, 0), (35, 32, 0, 0), (36, 8, 0, 0), (102, 1, 0, 0)]
def kms : KMs := [LA.km35]
noncomputable def cfg : Cfg := ⟨Go.Proofs.Tryz.prog, lookN kinds, lookPlan plans, extL Go.Proofs.Tryz.prog kms exts, lookG globs, rokOf Go.Proofs.Tryz.prog (lookPlan plans), lookB stills⟩
theorem exts_ok : ∀ p ∈ exts, ExtOk cfg.P cfg.glob p.1 (extC cfg.P kms p.2) := by
 intro p hp
 simp only [exts, List.mem_cons, List.not_mem_nil, or_false] at hp
 rcases hp with rfl | rfl | rfl | rfl
 ·exact tellTrue_ok LA.cfg_ok (by kernel_rfl) LA.b17
 ·exact tellKM_ok LA.cfg_ok (by kernel_rfl) (by kernel_rfl) LA.b35
 ·exact cut_ok Go.Proofs.Tryz.str36 (by kernel_rfl)
 ·exact idx_ok _ (by kernel_rfl) (fun fn h => by
   obtain rfl := Option.some.inj (Go.Proofs.Tryz.func102.symm.trans h)
   exact ⟨by kernel_rfl, by kernel_rfl⟩)
theorem cfg_ok : CfgOk cfg := cfgOk_lib (ks := kinds) (l := exts) rfl (by kernel_rfl) (by kernel_rfl) rfl rfl (by kernel_rfl) exts_ok
structure S_pattern_Rule where
 Text : List UInt8
 Anchored : Bool
 Fold : Bool
 Slash : Bool
def e_S_pattern_Rule (x : S_pattern_Rule) : List AVal := [.str x.Text, .bool x.Anchored, .bool x.Fold, .bool x.Slash]
theorem enc_S_pattern_Rule : Enc e_S_pattern_Rule 4 := ⟨fun _ => rfl, fun _ => rfl, fun _ => rfl⟩
structure S_rewrite_Expr where
 Re : List UInt8
 Template : List UInt8
 Global : Bool
 Fold : Bool
 Extended : Bool
 Number : Int
 Names : Bool
 Soft : Bool
 Hard : Bool
def e_S_rewrite_Expr (x : S_rewrite_Expr) : List AVal := [.str x.Re, .str x.Template, .bool x.Global, .bool x.Fold, .bool x.Extended, .int .i64 x.Number, .bool x.Names, .bool x.Soft, .bool x.Hard]
theorem enc_S_rewrite_Expr : Enc e_S_rewrite_Expr 9 := ⟨fun _ => rfl, fun _ => rfl, fun _ => rfl⟩
structure S_api_Stamp where
 Sec : Int
 Nsec : Int
structure S_option_Config where
 Includes : List S_pattern_Rule
 Excludes : List S_pattern_Rule
 Exprs : List S_rewrite_Expr
 Vcs : Bool
 Backups : Bool
 Caches : Int
 Dated : Bool
 Newer : S_api_Stamp
 Nth : Int
 Strip : Int
 Name : Int
 Head : Int
 States : Int
def e_S_option_Config (x : S_option_Config) : List AVal := [vs e_S_pattern_Rule x.Includes, vs e_S_pattern_Rule x.Excludes, vs e_S_rewrite_Expr x.Exprs, .bool x.Vcs, .bool x.Backups, .int .i64 x.Caches, .bool x.Dated, .int .i64 x.Newer.Sec, .int .i64 x.Newer.Nsec, .int .i64 x.Nth, .int .i64 x.Strip, .int .i64 x.Name, .int .i64 x.Head, .int .i64 x.States]
structure S_option_reading where
 c_ : S_option_Config
 flags_ : S_pattern_Rule
 rest_ : List UInt8
 at_ : Int
 seen_ : List ((List UInt8) × Bool)
structure S_option_flaw where
 e_ : Int
 at_ : Int
structure A4_uint64 where
 w0 : Int
 w1 : Int
 w2 : Int
 w3 : Int
structure S_glob_Token where
 Kind : Int
 B : Int
 Set : A4_uint64
def e_S_glob_Token (x : S_glob_Token) : List AVal := [.int .i64 x.Kind, .int .u8 x.B, .int .u64 x.Set.w0, .int .u64 x.Set.w1, .int .u64 x.Set.w2, .int .u64 x.Set.w3]
theorem enc_S_glob_Token : Enc e_S_glob_Token 6 := ⟨fun _ => rfl, fun _ => rfl, fun _ => rfl⟩
end Go.Av.L
