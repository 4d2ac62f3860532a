/-
 The run: which functions are run how, and in which order regions that draw are run. Written by lift2.py.
-/
import Derived.Test.YtiodcbipjnmpgaaDoorAvLib
import Derived.Test.YtiodcbipjnmpgaaDoorAvMap
import Derived.Test.YtiodcbipjnmpgaaDoorAvArr
import Derived.Test.YtiodcbipjnmpgaaDoorAvBig
import Derived.Test.YtiodcbipjnmpgaaDoorAvCo
import Derived.Test.YtiodcbipjnmpgaaDoorAvHq
import Derived.Test.YtiodcbipjnmpgaaDoorAvFast
import Derived.Test.YtiodcbipjnmpgaaDoorProg
namespace Go.Av.L
open Go.Av Go.Lib
set_option linter.unusedSimpArgs false
set_option linter.unusedVariables false
def kinds : List Nat := [0, 0, 0, 0, 0, 1, 7, 1, 1, 1, 1, 1, 1, 1, 1, 1, 1, 1, 1, 1, 1, 1, 1, 1, 1, 1, 1, 1, 1, 1, 1, 1, 1, 1, 1, 1, 3, 1, 1, 1, 1, 1, 0, 1, 0, 1, 1, 0, 0, 1, 1, 1, 1, 1, 0, 1, 0, 0, 0, 1, 0, 0, 0, 0, 1, 0, 0, 0, 0, 0, 0, 0, 0, 0, 0, 0, 0, 0, 0, 0, 0, 0, 0, 0, 0, 0, 0, 0, 0, 0, 0, 0, 0, 0, 0, 0, 0, 0, 0, 0, 0, 0, 0, 0, 0, 0, 0]
def plans : List ((Nat × Nat) × List (Nat × List Nat)) := [((6, 8), [(0, []), (1, []), (2, []), (3, []), (4, []), (5, [4]), (6, []), (7, [])]),
 ((15, 9), [(0, []), (1, []), (2, []), (3, []), (4, []), (5, []), (6, []), (7, []), (8, []), (9, []), (10, []), (11, []), (12, []), (13, [])]),
 ((17, 11), [(0, []), (1, []), (2, []), (3, []), (4, []), (5, []), (6, []), (7, [5]), (8, []), (9, [])]),
 ((19, 1), [(0, []), (1, []), (2, []), (3, []), (4, []), (5, []), (6, []), (7, []), (8, []), (9, []), (10, [])]),
 ((19, 5), [(0, []), (1, []), (2, []), (3, []), (4, []), (5, []), (6, [])]),
 ((20, 6), [(0, []), (1, []), (2, []), (3, []), (4, []), (5, []), (6, []), (7, []), (8, []), (9, []), (10, []), (11, []), (12, []), (13, []), (14, []), (15, []), (16, []), (17, []), (18, []), (19, []), (20, []), (21, []), (22, [])]),
 ((20, 10), [(0, []), (1, []), (2, []), (3, []), (4, []), (5, []), (6, []), (7, []), (8, []), (9, []), (10, []), (11, []), (12, []), (13, []), (14, []), (15, []), (16, []), (17, []), (18, []), (19, [])]),
 ((23, 9), [(0, []), (1, []), (2, []), (3, []), (4, []), (5, []), (6, []), (7, []), (8, []), (9, [])]),
 ((23, 13), [(0, []), (1, []), (2, []), (3, []), (4, []), (5, []), (6, []), (7, []), (8, []), (9, []), (10, []), (11, []), (12, []), (13, []), (14, [])]),
 ((23, 15), [(0, []), (1, []), (2, []), (3, []), (4, []), (5, []), (6, []), (7, []), (8, []), (9, []), (10, []), (11, []), (12, []), (13, []), (14, [])]),
 ((23, 20), [(0, []), (1, []), (5, []), (8, []), (9, []), (10, []), (11, []), (12, []), (2, [10, 12]), (3, []), (4, []), (6, []), (7, []), (13, []), (14, []), (15, [])]),
 ((23, 22), [(0, []), (1, []), (5, []), (6, []), (7, []), (8, []), (9, []), (2, [7, 9]), (3, []), (4, []), (10, []), (11, []), (12, [])]),
 ((27, 1), [(0, []), (1, []), (2, []), (3, []), (4, []), (5, []), (6, []), (7, []), (8, []), (9, []), (10, [])]),
 ((27, 7), [(0, []), (1, []), (2, []), (3, []), (4, []), (5, []), (6, []), (7, []), (8, []), (9, []), (10, []), (11, []), (12, []), (13, []), (14, []), (15, []), (16, []), (17, []), (18, [])]),
 ((27, 11), [(0, []), (1, []), (2, []), (3, []), (4, []), (5, []), (6, []), (7, []), (8, []), (9, []), (10, []), (11, []), (12, []), (13, []), (14, []), (15, []), (16, []), (17, []), (18, [])]),
 ((28, 1), [(0, []), (1, []), (2, []), (3, []), (4, []), (5, []), (6, []), (7, []), (8, []), (9, []), (10, []), (11, []), (12, []), (13, []), (14, []), (15, []), (16, []), (17, []), (18, [])]),
 ((29, 5), [(0, []), (1, []), (2, []), (3, []), (4, []), (5, []), (6, []), (7, []), (8, []), (9, []), (10, [])]),
 ((31, 3), [(0, []), (1, []), (2, []), (3, []), (4, []), (5, []), (6, []), (7, []), (8, []), (9, [])]),
 ((32, 1), [(0, []), (1, []), (2, []), (3, []), (4, []), (5, []), (6, []), (7, []), (8, []), (9, [])]),
 ((32, 3), [(0, []), (1, []), (2, []), (3, []), (4, []), (5, []), (6, []), (7, []), (13, []), (8, [13]), (9, []), (10, []), (11, []), (12, []), (14, []), (15, []), (16, [])]),
 ((33, 3), [(0, []), (1, []), (2, []), (3, []), (4, []), (5, []), (6, []), (7, []), (8, []), (9, []), (10, []), (11, [])]),
 ((46, 3), [(0, []), (1, []), (2, []), (3, []), (4, []), (5, []), (6, []), (7, []), (8, [])]),
 ((46, 5), [(0, []), (1, []), (2, []), (3, []), (4, []), (5, []), (6, []), (7, []), (8, []), (9, []), (10, [])]),
 ((51, 4), [(0, []), (1, []), (2, []), (3, []), (4, []), (5, []), (6, []), (7, []), (8, []), (9, []), (10, []), (11, []), (12, []), (13, []), (14, []), (15, []), (16, []), (17, []), (18, []), (19, []), (20, []), (21, []), (22, []), (23, []), (24, []), (25, [])]),
 ((51, 8), [(0, []), (1, []), (2, []), (3, []), (4, []), (5, []), (6, []), (7, []), (8, []), (9, []), (10, []), (11, []), (12, [])]),
 ((55, 0), [(0, []), (1, []), (2, []), (3, []), (4, []), (5, []), (6, []), (7, []), (8, []), (9, []), (10, []), (11, []), (12, [])])]
def stills : List (Nat × List Bool) := [(8, [true]), (9, [true]), (11, [true, false, false, false]), (15, [true]), (16, [true, false]), (17, [true]), (19, [false, true]), (23, [true, false]), (24, [true]), (27, [false, true]), (31, [false, true]), (34, [true]), (38, [true, false]), (39, [false, true, false, false]), (46, [false, true])]
def globs : List (Nat × List AVal) := [(0, []),
 (1, [.int .u64 1, .int .u64 10, .int .u64 100, .int .u64 1000, .int .u64 10000, .int .u64 100000, .int .u64 1000000, .int .u64 10000000, .int .u64 100000000, .int .u64 1000000000, .int .u64 10000000000, .int .u64 100000000000, .int .u64 1000000000000, .int .u64 10000000000000, .int .u64 100000000000000, .int .u64 1000000000000000, .int .u64 10000000000000000, .int .u64 100000000000000000, .int .u64 1000000000000000000, .int .u64 10000000000000000000]),
 (2, [.int .u8 0, .int .u8 1, .int .u8 28, .int .u8 2, .int .u8 29, .int .u8 14, .int .u8 24, .int .u8 3, .int .u8 30, .int .u8 22, .int .u8 20, .int .u8 15, .int .u8 25, .int .u8 17, .int .u8 4, .int .u8 8, .int .u8 31, .int .u8 27, .int .u8 13, .int .u8 23, .int .u8 21, .int .u8 19, .int .u8 16, .int .u8 7, .int .u8 26, .int .u8 12, .int .u8 18, .int .u8 6, .int .u8 11, .int .u8 5, .int .u8 10, .int .u8 9]),
 (3, [.int .u8 0, .int .u8 1, .int .u8 56, .int .u8 2, .int .u8 57, .int .u8 49, .int .u8 28, .int .u8 3, .int .u8 61, .int .u8 58, .int .u8 42, .int .u8 50, .int .u8 38, .int .u8 29, .int .u8 17, .int .u8 4, .int .u8 62, .int .u8 47, .int .u8 59, .int .u8 36, .int .u8 45, .int .u8 43, .int .u8 51, .int .u8 22, .int .u8 53, .int .u8 39, .int .u8 33, .int .u8 30, .int .u8 24, .int .u8 18, .int .u8 12, .int .u8 5, .int .u8 63, .int .u8 55, .int .u8 48, .int .u8 27, .int .u8 60, .int .u8 41, .int .u8 37, .int .u8 16, .int .u8 46, .int .u8 35, .int .u8 44, .int .u8 21, .int .u8 52, .int .u8 32, .int .u8 23, .int .u8 11, .int .u8 54, .int .u8 26, .int .u8 40, .int .u8 15, .int .u8 34, .int .u8 20, .int .u8 31, .int .u8 10, .int .u8 25, .int .u8 14, .int .u8 19, .int .u8 9, .int .u8 13, .int .u8 8, .int .u8 7, .int .u8 6])]
def exts : List (Nat × Nat × Nat × Nat) := [(36, 1, 0, 0)]
def kms : KMs := []
noncomputable def cfg : Cfg := ⟨Go.Proofs.Tryd.prog, lookN kinds, lookPlan plans, extL Go.Proofs.Tryd.prog kms exts, lookG globs, rokOf Go.Proofs.Tryd.prog (lookPlan plans), lookB stills⟩
theorem exts_ok : ∀ p ∈ exts, ExtOk cfg.P cfg.glob p.1 (extC cfg.P kms p.2) := by
 intro p hp
 simp only [exts, List.mem_cons, List.not_mem_nil, or_false] at hp
 subst hp
 exact idx_ok _ (by kernel_rfl) (fun fn h => by
   obtain rfl := Option.some.inj (Go.Proofs.Tryd.func36.symm.trans h)
   exact ⟨by kernel_rfl, by kernel_rfl⟩)
theorem cfg_ok : CfgOk cfg := cfgOk_lib (ks := kinds) (l := exts) rfl (by kernel_rfl) (by kernel_rfl) rfl rfl (by kernel_rfl) exts_ok
structure A4_uint64 where
 w0 : Int
 w1 : Int
 w2 : Int
 w3 : Int
def e_A4_uint64 (x : A4_uint64) : List AVal := [.int .u64 x.w0, .int .u64 x.w1, .int .u64 x.w2, .int .u64 x.w3]
structure S_tree_Node where
 Kind : Int
 A : Int
 B : Int
 Min : Int
 Max : Int
 Group : Int
 Set : A4_uint64
def e_S_tree_Node (x : S_tree_Node) : List AVal := [.int .i64 x.Kind, .int .i64 x.A, .int .i64 x.B, .int .i64 x.Min, .int .i64 x.Max, .int .i64 x.Group, .int .u64 x.Set.w0, .int .u64 x.Set.w1, .int .u64 x.Set.w2, .int .u64 x.Set.w3]
theorem enc_S_tree_Node : Enc e_S_tree_Node 10 := ⟨fun _ => rfl, fun _ => rfl, fun _ => rfl⟩
structure S_tree_Tree where
 Nodes : List S_tree_Node
 Root : Int
def e_S_tree_Tree (x : S_tree_Tree) : List AVal := [vs e_S_tree_Node x.Nodes, .int .i64 x.Root]
structure S_rex_walk where
 s_ : List UInt8
 at_ : Int
 extended_ : Bool
 t_ : S_tree_Tree
 groups_ : Int
 depth_ : Int
 wrong_ : Int
 full_ : Bool
structure S_tree_question where
 node_ : Int
 times_ : Int
 i_ : Int
 j_ : Int
def e_S_tree_question (x : S_tree_question) : List AVal := [.int .i64 x.node_, .int .i64 x.times_, .int .i64 x.i_, .int .i64 x.j_]
structure S_tree_asker where
 t_ : S_tree_Tree
 s_ : List UInt8
 told_ : List (S_tree_question × Bool)
instance : DecidableEq S_tree_question := fun x y => decidable_of_iff (x.node_ = y.node_ ∧ x.times_ = y.times_ ∧ x.i_ = y.i_ ∧ x.j_ = y.j_) (by cases x; cases y; simp)
theorem key_S_tree_question : KeyE cfg.P 56 (fun k : S_tree_question => .agg (e_S_tree_question k)) := by
 refine ⟨fun x => by kernel_rfl, fun x y => ?_, fun x => by simp [sameA, same1, e_S_tree_question]⟩
 have e : eqA cfg.P 10000 56 (.agg (e_S_tree_question x)) (.agg (e_S_tree_question y)) = iteB (x.node_ == y.node_) (iteB (x.times_ == y.times_) (iteB (x.i_ == y.i_) (iteB (x.j_ == y.j_) (some true) (some false)) (some false)) (some false)) (some false) := by kernel_rfl
 rw [e]
 simp only [iteB_an, Option.some.injEq]
 rw [Bool.eq_iff_iff]
 simp only [Bool.and_eq_true, beq_iff_eq, decide_eq_true_eq]
 cases x; cases y; simp
abbrev w_rex_walk_1_3 (x : S_rex_walk) (c1 c3 : AVal) : List AVal := [.str x.s_, c1, .bool x.extended_, c3, .int .i64 x.t_.Root, .int .i64 x.groups_, .int .i64 x.depth_, .int .i64 x.wrong_, .bool x.full_]
abbrev w_rex_walk_3 (x : S_rex_walk) (c3 : AVal) : List AVal := [.str x.s_, .int .i64 x.at_, .bool x.extended_, c3, .int .i64 x.t_.Root, .int .i64 x.groups_, .int .i64 x.depth_, .int .i64 x.wrong_, .bool x.full_]
abbrev w_rex_walk_3_4 (x : S_rex_walk) (c3 c4 : AVal) : List AVal := [.str x.s_, .int .i64 x.at_, .bool x.extended_, c3, c4, .int .i64 x.groups_, .int .i64 x.depth_, .int .i64 x.wrong_, .bool x.full_]
abbrev w_rex_walk_3_8 (x : S_rex_walk) (c3 c8 : AVal) : List AVal := [.str x.s_, .int .i64 x.at_, .bool x.extended_, c3, .int .i64 x.t_.Root, .int .i64 x.groups_, .int .i64 x.depth_, .int .i64 x.wrong_, c8]
end Go.Av.L
