/-
 The run: which functions are run how, and in which order regions that draw are run. Written by lift2.py.
-/
import Derived.Test.YtiodcbipjnmpgaaDoorAvLib
import Derived.Test.YtiodcbipjnmpgaaDoorAvMap
import Derived.Test.YtiodcbipjnmpgaaDoorAvArr
import Derived.Test.YtiodcbipjnmpgaaDoorAvFast
import Derived.Test.YtiodcbipjnmpgaaDoorProg
namespace Go.Av.L
open Go.Av Go.Lib
set_option linter.unusedSimpArgs false
set_option linter.unusedVariables false
def kinds : List Nat := [0, 0, 0, 0, 1, 0, 7, 4, 1, 1, 0, 0, 1, 1, 1, 1, 1, 1, 0, 0, 1, 1, 1, 1, 1, 1, 0, 0, 1, 1, 1, 1, 1, 1, 1, 1, 0, 0, 1, 0, 0, 0, 0, 1, 0, 1, 1, 0, 0, 1, 1, 0, 1, 1, 0, 1, 0, 0, 0, 1, 0, 0, 0, 0, 1, 0, 1, 0, 0, 0, 0, 0, 0, 0, 0, 0, 0, 0, 0, 0, 0, 0, 0, 0, 0, 0, 0, 0, 0, 0, 0, 0, 0, 0, 0, 0, 0, 0, 0, 0, 0, 0, 0, 0, 0, 0, 0]
def plans : List ((Nat × Nat) × List (Nat × List Nat)) := [((6, 8), [(0, []), (1, []), (2, []), (3, []), (4, []), (5, [4]), (6, []), (7, [])]),
 ((15, 9), [(0, []), (1, []), (2, []), (3, []), (4, []), (5, []), (6, []), (7, []), (8, []), (9, []), (10, []), (11, []), (12, []), (13, [])]),
 ((17, 11), [(0, []), (1, []), (2, []), (3, []), (4, []), (5, []), (6, []), (7, [5]), (8, []), (9, [])]),
 ((20, 6), [(0, []), (1, []), (2, []), (3, []), (4, []), (5, []), (6, []), (7, []), (8, []), (9, []), (10, []), (11, []), (12, []), (13, []), (14, []), (15, []), (16, []), (17, []), (18, []), (19, []), (20, []), (21, []), (22, [])]),
 ((20, 10), [(0, []), (1, []), (2, []), (3, []), (4, []), (5, []), (6, []), (7, []), (8, []), (9, []), (10, []), (11, []), (12, []), (13, []), (14, []), (15, []), (16, []), (17, []), (18, []), (19, [])]),
 ((23, 9), [(0, []), (1, []), (2, []), (3, []), (4, []), (5, []), (6, []), (7, []), (8, []), (9, [])]),
 ((23, 13), [(0, []), (1, []), (2, []), (3, []), (4, []), (5, []), (6, []), (7, []), (8, []), (9, []), (10, []), (11, []), (12, []), (13, []), (14, [])]),
 ((23, 15), [(0, []), (1, []), (2, []), (3, []), (4, []), (5, []), (6, []), (7, []), (8, []), (9, []), (10, []), (11, []), (12, []), (13, []), (14, [])]),
 ((23, 20), [(0, []), (1, []), (5, []), (8, []), (9, []), (10, []), (11, []), (12, []), (2, [10, 12]), (3, []), (4, []), (6, []), (7, []), (13, []), (14, []), (15, [])]),
 ((23, 22), [(0, []), (1, []), (5, []), (6, []), (7, []), (8, []), (9, []), (2, [7, 9]), (3, []), (4, []), (10, []), (11, []), (12, [])]),
 ((28, 1), [(0, []), (1, []), (2, []), (3, []), (4, []), (5, []), (6, []), (7, []), (8, []), (9, []), (10, []), (11, []), (12, []), (13, []), (14, []), (15, []), (16, []), (17, []), (18, [])]),
 ((29, 5), [(0, []), (1, []), (2, []), (3, []), (4, []), (5, []), (6, []), (7, []), (8, []), (9, []), (10, [])]),
 ((31, 3), [(0, []), (1, []), (2, []), (3, []), (4, []), (5, []), (6, []), (7, []), (8, []), (9, [])]),
 ((32, 1), [(0, []), (1, []), (2, []), (3, []), (4, []), (5, []), (6, []), (7, []), (8, []), (9, [])]),
 ((32, 3), [(0, []), (1, []), (2, []), (3, []), (4, []), (5, []), (6, []), (7, []), (13, []), (8, [13]), (9, []), (10, []), (11, []), (12, []), (14, []), (15, []), (16, [])]),
 ((33, 3), [(0, []), (1, []), (2, []), (3, []), (4, []), (5, []), (6, []), (7, []), (8, []), (9, []), (10, []), (11, [])]),
 ((46, 3), [(0, []), (1, []), (2, []), (3, []), (4, []), (5, []), (6, []), (7, []), (8, [])]),
 ((46, 5), [(0, []), (1, []), (2, []), (3, []), (4, []), (5, []), (6, []), (7, []), (8, []), (9, []), (10, [])]),
 ((55, 0), [(0, []), (1, []), (2, []), (3, []), (4, []), (5, []), (6, []), (7, []), (8, []), (9, []), (10, []), (11, []), (12, [])]),
 ((66, 7), [(0, []), (1, []), (2, []), (3, []), (4, []), (5, []), (6, []), (7, []), (8, []), (9, []), (10, []), (11, []), (12, []), (13, []), (14, [])]),
 ((66, 8), [(0, []), (1, []), (2, []), (3, []), (4, []), (5, []), (6, []), (7, []), (8, []), (9, []), (10, []), (11, []), (12, []), (13, []), (14, [])]),
 ((66, 9), [(0, []), (1, []), (2, []), (3, []), (4, []), (5, []), (6, []), (7, []), (8, []), (9, []), (10, []), (11, []), (12, []), (13, []), (14, [])]),
 ((66, 10), [(0, []), (1, []), (2, []), (3, []), (4, []), (5, []), (6, []), (7, []), (8, []), (9, []), (10, []), (11, []), (12, []), (13, []), (14, [])]),
 ((66, 17), [(0, []), (1, []), (2, []), (3, []), (4, []), (5, []), (6, []), (7, []), (8, []), (9, []), (10, []), (11, []), (12, []), (13, []), (14, [])]),
 ((66, 18), [(0, []), (1, []), (2, []), (3, []), (4, []), (5, []), (6, []), (7, []), (8, []), (9, []), (10, []), (11, []), (12, []), (13, []), (14, [])]),
 ((66, 23), [(0, []), (1, []), (2, []), (3, []), (4, []), (5, []), (6, []), (7, []), (8, []), (9, []), (10, []), (11, []), (12, []), (13, []), (14, [])])]
def stills : List (Nat × List Bool) := [(8, [true]), (9, [true]), (16, [true, false]), (17, [true]), (24, [true]), (31, [false, true]), (46, [false, true])]
def globs : List (Nat × List AVal) := [(0, []),
 (1, [.int .u64 1, .int .u64 10, .int .u64 100, .int .u64 1000, .int .u64 10000, .int .u64 100000, .int .u64 1000000, .int .u64 10000000, .int .u64 100000000, .int .u64 1000000000, .int .u64 10000000000, .int .u64 100000000000, .int .u64 1000000000000, .int .u64 10000000000000, .int .u64 100000000000000, .int .u64 1000000000000000, .int .u64 10000000000000000, .int .u64 100000000000000000, .int .u64 1000000000000000000, .int .u64 10000000000000000000]),
 (2, [.int .u8 0, .int .u8 1, .int .u8 28, .int .u8 2, .int .u8 29, .int .u8 14, .int .u8 24, .int .u8 3, .int .u8 30, .int .u8 22, .int .u8 20, .int .u8 15, .int .u8 25, .int .u8 17, .int .u8 4, .int .u8 8, .int .u8 31, .int .u8 27, .int .u8 13, .int .u8 23, .int .u8 21, .int .u8 19, .int .u8 16, .int .u8 7, .int .u8 26, .int .u8 12, .int .u8 18, .int .u8 6, .int .u8 11, .int .u8 5, .int .u8 10, .int .u8 9]),
 (3, [.int .u8 0, .int .u8 1, .int .u8 56, .int .u8 2, .int .u8 57, .int .u8 49, .int .u8 28, .int .u8 3, .int .u8 61, .int .u8 58, .int .u8 42, .int .u8 50, .int .u8 38, .int .u8 29, .int .u8 17, .int .u8 4, .int .u8 62, .int .u8 47, .int .u8 59, .int .u8 36, .int .u8 45, .int .u8 43, .int .u8 51, .int .u8 22, .int .u8 53, .int .u8 39, .int .u8 33, .int .u8 30, .int .u8 24, .int .u8 18, .int .u8 12, .int .u8 5, .int .u8 63, .int .u8 55, .int .u8 48, .int .u8 27, .int .u8 60, .int .u8 41, .int .u8 37, .int .u8 16, .int .u8 46, .int .u8 35, .int .u8 44, .int .u8 21, .int .u8 52, .int .u8 32, .int .u8 23, .int .u8 11, .int .u8 54, .int .u8 26, .int .u8 40, .int .u8 15, .int .u8 34, .int .u8 20, .int .u8 31, .int .u8 10, .int .u8 25, .int .u8 14, .int .u8 19, .int .u8 9, .int .u8 13, .int .u8 8, .int .u8 7, .int .u8 6])]
def exts : List (Nat × Nat × Nat × Nat) := []
noncomputable def cfg : Cfg := ⟨Go.Proofs.Tryd.prog, lookN kinds, lookPlan plans, extL Go.Proofs.Tryd.prog exts, lookG globs, rokOf Go.Proofs.Tryd.prog (lookPlan plans), lookB stills⟩
theorem exts_ok : ∀ p ∈ exts, ExtOk cfg.P cfg.glob p.1 (extC cfg.P p.2) := by
 intro p hp
 simp only [exts, List.mem_cons, List.not_mem_nil, or_false] at hp
theorem cfg_ok : CfgOk cfg := cfgOk_lib (ks := kinds) (l := exts) rfl (by kernel_rfl) (by kernel_rfl) rfl rfl (by kernel_rfl) exts_ok
structure A4_uint64 where
 w0 : Int
 w1 : Int
 w2 : Int
 w3 : Int
def e_A4_uint64 (x : A4_uint64) : List AVal := [.int .u64 x.w0, .int .u64 x.w1, .int .u64 x.w2, .int .u64 x.w3]
theorem enc_A4_uint64 : Enc e_A4_uint64 4 := ⟨fun _ => rfl, fun _ => rfl, fun _ => rfl⟩
structure S_tree_Node where
 Kind : Int
 A : Int
 B : Int
 Min : Int
 Max : Int
 Group : Int
 Set : A4_uint64
def e_S_tree_Node (x : S_tree_Node) : List AVal := [.int .i64 x.Kind, .int .i64 x.A, .int .i64 x.B, .int .i64 x.Min, .int .i64 x.Max, .int .i64 x.Group, .int .u64 x.Set.w0, .int .u64 x.Set.w1, .int .u64 x.Set.w2, .int .u64 x.Set.w3]
theorem enc_S_tree_Node : Enc e_S_tree_Node 10 := ⟨fun _ => rfl, fun _ => rfl, fun _ => rfl⟩
structure S_tree_Tree where
 Nodes : List S_tree_Node
 Root : Int
def e_S_tree_Tree (x : S_tree_Tree) : List AVal := [vs e_S_tree_Node x.Nodes, .int .i64 x.Root]
theorem enc_S_tree_Tree : Enc e_S_tree_Tree 2 := ⟨fun _ => rfl, fun _ => rfl, fun _ => rfl⟩
structure S_rex_walk where
 s_ : List UInt8
 at_ : Int
 extended_ : Bool
 t_ : S_tree_Tree
 groups_ : Int
 depth_ : Int
 wrong_ : Int
 full_ : Bool
def e_S_rex_walk (x : S_rex_walk) : List AVal := [.str x.s_, .int .i64 x.at_, .bool x.extended_, vs e_S_tree_Node x.t_.Nodes, .int .i64 x.t_.Root, .int .i64 x.groups_, .int .i64 x.depth_, .int .i64 x.wrong_, .bool x.full_]
theorem enc_S_rex_walk : Enc e_S_rex_walk 9 := ⟨fun _ => rfl, fun _ => rfl, fun _ => rfl⟩
end Go.Av.L
