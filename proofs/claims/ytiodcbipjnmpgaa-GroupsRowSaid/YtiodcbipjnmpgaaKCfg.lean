/-
  The run: which functions are run how, and in which order regions that draw are run. Written by lift2.py.
-/
import Derived.Test.YtiodcbipjnmpgaaAvLib
import Derived.Test.YtiodcbipjnmpgaaAvMap
import Derived.Test.YtiodcbipjnmpgaaAvArr
import Derived.Test.YtiodcbipjnmpgaaAvTail
import Derived.Test.YtiodcbipjnmpgaaAvCo
import Derived.Test.YtiodcbipjnmpgaaAvHq
import Derived.Test.YtiodcbipjnmpgaaAvFast
import Derived.Test.YtiodcbipjnmpgaaLay
import Derived.Test.YtiodcbipjnmpgaaProg
namespace Go.Av.L
open Go.Av Go.Lib
set_option linter.unusedSimpArgs false
set_option linter.unusedVariables false
def kinds : List Nat := [0, 0, 0, 1, 0, 0, 0, 0, 0, 0, 1, 7, 1, 0, 0, 0, 0, 0, 0, 0, 0, 0, 0, 0, 0, 0, 0, 0, 0, 0, 0, 1, 0, 0, 0, 0, 1, 1, 1, 1, 7, 1, 1, 1, 0, 0, 0, 0, 0, 0, 0, 0, 0, 0, 0, 0, 1, 1, 1, 1, 1, 1, 1, 1, 1, 0, 0, 0, 0, 0, 0, 0, 0, 1, 1, 1, 1, 1, 1, 1, 1, 0, 0, 0, 0, 0, 0, 0, 1, 1, 1, 1, 1, 1, 1, 1, 1, 0, 1, 1, 1, 1, 1, 1, 1, 1, 1, 1, 1, 1, 3, 1, 3, 0, 1, 1, 0, 0, 0, 0, 0, 0, 0, 0, 0, 0, 0, 0, 0, 0, 0, 0, 0, 0, 0, 0, 0, 0]
def plans : List ((Nat × Nat) × List (Nat × List Nat)) := [((3, 17), [(0, []), (1, []), (2, []), (3, []), (4, []), (5, []), (6, []), (7, []), (8, []), (9, []), (10, []), (11, []), (12, []), (13, []), (14, []), (15, []), (16, []), (17, []), (18, []), (19, []), (20, [])]),
 ((3, 28), [(0, []), (1, []), (2, []), (3, []), (4, []), (5, []), (6, [])]),
 ((11, 8), [(0, []), (1, []), (2, []), (3, []), (4, []), (5, [4]), (6, []), (7, [])]),
 ((40, 2), [(0, []), (1, []), (2, []), (3, []), (4, []), (5, []), (6, []), (7, []), (8, []), (9, []), (10, [])]),
 ((40, 11), [(0, []), (1, []), (2, []), (3, []), (4, []), (5, []), (6, []), (7, []), (8, []), (9, []), (10, []), (11, []), (12, []), (13, []), (14, []), (15, []), (16, []), (17, [])]),
 ((40, 31), [(0, []), (1, []), (2, []), (3, []), (4, []), (5, []), (6, [])]),
 ((42, 3), [(0, []), (1, []), (2, []), (3, []), (4, []), (5, []), (6, []), (7, []), (8, []), (9, []), (10, [])]),
 ((42, 10), [(0, []), (1, []), (2, []), (3, []), (4, []), (6, []), (7, []), (5, [7]), (8, []), (9, []), (10, [])]),
 ((56, 6), [(0, []), (1, []), (2, []), (3, []), (4, []), (5, []), (6, []), (7, []), (8, []), (9, []), (10, []), (11, []), (12, []), (13, []), (14, []), (15, []), (16, []), (17, []), (18, []), (19, []), (20, []), (21, []), (22, [])]),
 ((56, 10), [(0, []), (1, []), (2, []), (3, []), (4, []), (5, []), (6, []), (7, []), (8, []), (9, []), (10, []), (11, []), (12, []), (13, []), (14, []), (15, []), (16, []), (17, []), (18, []), (19, [])]),
 ((62, 11), [(0, []), (1, []), (2, []), (3, []), (4, []), (5, []), (6, []), (7, [5]), (8, []), (9, [])]),
 ((63, 5), [(0, []), (1, []), (2, []), (3, []), (4, []), (5, []), (6, []), (7, []), (8, []), (10, []), (11, []), (9, [11]), (12, []), (13, []), (14, [])]),
 ((73, 1), [(0, []), (1, []), (2, []), (3, []), (4, []), (5, []), (6, []), (7, []), (8, []), (9, []), (10, []), (11, []), (12, []), (13, []), (14, []), (15, []), (16, []), (17, []), (18, [])]),
 ((74, 5), [(0, []), (1, []), (2, []), (3, []), (4, []), (5, []), (6, []), (7, []), (8, []), (9, []), (10, [])]),
 ((76, 3), [(0, []), (1, []), (2, []), (3, []), (4, []), (5, []), (6, []), (7, []), (8, []), (9, [])]),
 ((77, 1), [(0, []), (1, []), (2, []), (3, []), (4, []), (5, []), (6, []), (7, []), (8, []), (9, [])]),
 ((77, 3), [(0, []), (1, []), (2, []), (3, []), (4, []), (5, []), (6, []), (7, []), (13, []), (8, [13]), (9, []), (10, []), (11, []), (12, []), (14, []), (15, []), (16, [])]),
 ((78, 3), [(0, []), (1, []), (2, []), (3, []), (4, []), (5, []), (6, []), (7, []), (8, []), (9, []), (10, []), (11, [])]),
 ((89, 5), [(0, []), (1, []), (2, []), (3, []), (4, []), (5, []), (6, []), (7, []), (8, []), (9, [])]),
 ((91, 3), [(0, []), (1, []), (2, []), (3, []), (4, []), (5, []), (6, []), (7, []), (8, [])]),
 ((91, 5), [(0, []), (1, []), (2, []), (3, []), (4, []), (5, []), (6, []), (7, []), (8, []), (9, []), (10, [])]),
 ((92, 14), [(0, []), (1, []), (2, []), (3, []), (4, []), (5, []), (6, []), (7, []), (8, []), (9, [7]), (10, []), (11, [])]),
 ((96, 4), [(0, []), (1, []), (2, []), (3, []), (4, []), (5, []), (6, []), (7, []), (8, []), (9, []), (10, []), (11, []), (12, []), (13, []), (14, []), (15, []), (16, []), (17, []), (18, []), (19, []), (20, []), (21, []), (22, []), (23, []), (24, []), (25, [])]),
 ((96, 8), [(0, []), (1, []), (2, []), (3, []), (4, []), (5, []), (6, []), (7, []), (8, []), (9, []), (10, []), (11, []), (12, [])]),
 ((99, 2), [(0, []), (1, []), (2, []), (3, []), (4, []), (5, []), (6, []), (7, []), (8, []), (9, []), (10, []), (11, []), (12, []), (13, []), (14, []), (15, []), (16, []), (17, []), (18, []), (19, []), (20, []), (21, []), (22, []), (23, []), (24, []), (25, []), (26, []), (27, []), (28, []), (29, []), (30, []), (31, []), (32, []), (33, []), (34, []), (35, []), (36, []), (37, [])]),
 ((99, 3), [(0, []), (1, []), (2, []), (3, []), (4, []), (5, []), (6, []), (7, []), (8, []), (9, []), (10, []), (11, []), (12, []), (13, []), (14, [])]),
 ((100, 0), [(0, []), (1, []), (2, []), (3, []), (4, []), (5, []), (6, []), (7, []), (8, []), (9, []), (10, []), (11, []), (12, [])]),
 ((101, 1), [(0, []), (1, []), (2, []), (3, []), (4, []), (5, []), (6, []), (7, []), (8, []), (9, []), (10, []), (11, [])]),
 ((102, 5), [(0, []), (1, []), (2, []), (3, []), (4, []), (5, []), (6, []), (7, [4]), (8, []), (9, []), (10, []), (11, [])]),
 ((102, 11), [(0, []), (1, []), (2, []), (3, []), (4, []), (5, []), (6, []), (7, []), (8, []), (9, [])]),
 ((102, 20), [(0, []), (1, []), (2, []), (3, []), (4, []), (5, []), (6, []), (7, [4]), (8, []), (9, []), (10, []), (11, [])]),
 ((105, 1), [(0, []), (1, []), (2, []), (3, []), (4, []), (5, []), (6, []), (7, []), (8, []), (9, []), (10, []), (11, []), (12, []), (13, []), (14, []), (15, []), (16, [])]),
 ((105, 5), [(0, []), (1, []), (2, []), (3, []), (4, []), (5, []), (6, []), (7, []), (8, []), (9, [])]),
 ((106, 1), [(0, []), (1, []), (2, []), (3, []), (4, []), (5, []), (6, []), (7, []), (8, []), (9, []), (10, []), (11, []), (12, []), (13, []), (14, []), (15, []), (16, []), (17, []), (18, []), (19, []), (20, []), (21, []), (22, []), (23, []), (24, []), (25, []), (26, []), (27, []), (28, []), (29, [])]),
 ((106, 3), [(0, []), (1, []), (2, []), (3, []), (4, []), (5, []), (6, []), (7, []), (8, []), (9, [])]),
 ((107, 4), [(0, []), (1, []), (2, []), (3, []), (4, []), (5, []), (6, []), (7, []), (8, [])]),
 ((108, 5), [(0, []), (1, []), (2, []), (3, []), (4, []), (5, []), (6, []), (7, []), (8, []), (9, [])]),
 ((108, 8), [(0, []), (1, []), (2, []), (3, []), (4, []), (5, []), (6, []), (7, []), (8, []), (9, []), (10, []), (11, [])]),
 ((111, 2), [(0, []), (1, []), (3, []), (5, []), (2, [3, 5]), (4, [5]), (6, [])]),
 ((111, 15), [(0, []), (1, [0]), (2, []), (3, []), (4, []), (5, []), (6, [])]),
 ((111, 27), [(1, []), (0, [1]), (2, []), (3, []), (4, []), (5, [])]),
 ((115, 4), [(0, []), (1, []), (2, []), (3, []), (4, []), (5, []), (6, []), (7, []), (8, [])])]
def stills : List (Nat × List Bool) := [(12, [true, false, false, false]), (31, [true, false]), (39, [true]), (41, [true]), (59, [true, false]), (60, [false, true]), (62, [true]), (63, [false, false, false, false, true, false]), (64, [true, false]), (76, [false, true]), (79, [true]), (91, [false, true]), (103, [true]), (107, [true, true]), (115, [true, true])]
def globs : List (Nat × List AVal) := [(0, [])]
def exts : List (Nat × Nat × Nat × Nat) := [(110, 8, 0, 0), (112, 1, 0, 0)]
def kms : KMs := []
noncomputable def cfg : Cfg := ⟨Go.Proofs.Try.prog, lookN kinds, lookPlan plans, extL Go.Proofs.Try.prog kms exts, lookG globs, rokOf Go.Proofs.Try.prog (lookPlan plans), lookB stills⟩
theorem exts_ok : ∀ p ∈ exts, ExtOk cfg.P cfg.glob p.1 (extC cfg.P kms p.2) := by
 intro p hp
 simp only [exts, List.mem_cons, List.not_mem_nil, or_false] at hp
 rcases hp with rfl | rfl
 ·exact cut_ok Go.Proofs.Try.str110 (by kernel_rfl)
 ·exact idx_ok _ (by kernel_rfl) (fun fn h => by
   obtain rfl := Option.some.inj (Go.Proofs.Try.func112.symm.trans h)
   exact ⟨by kernel_rfl, by kernel_rfl⟩)
theorem cfg_ok : CfgOk cfg := cfgOk_lib (ks := kinds) (l := exts) rfl (by kernel_rfl) (by kernel_rfl) rfl rfl (by kernel_rfl) exts_ok
structure A4_uint64 where
 w0 : Int
 w1 : Int
 w2 : Int
 w3 : Int
def e_A4_uint64 (x : A4_uint64) : List AVal := [.int .u64 x.w0, .int .u64 x.w1, .int .u64 x.w2, .int .u64 x.w3]
structure S_tree_Node where
 Kind : Int
 A : Int
 B : Int
 Min : Int
 Max : Int
 Group : Int
 Set : A4_uint64
def e_S_tree_Node (x : S_tree_Node) : List AVal := [.int .i64 x.Kind, .int .i64 x.A, .int .i64 x.B, .int .i64 x.Min, .int .i64 x.Max, .int .i64 x.Group, .int .u64 x.Set.w0, .int .u64 x.Set.w1, .int .u64 x.Set.w2, .int .u64 x.Set.w3]
theorem enc_S_tree_Node : Enc e_S_tree_Node 10 := ⟨fun _ => rfl, fun _ => rfl, fun _ => rfl⟩
structure S_tree_Tree where
 Nodes : List S_tree_Node
 Root : Int
def e_S_tree_Tree (x : S_tree_Tree) : List AVal := [vs e_S_tree_Node x.Nodes, .int .i64 x.Root]
structure S_rex_walk where
 s_ : List UInt8
 at_ : Int
 extended_ : Bool
 t_ : S_tree_Tree
 groups_ : Int
 depth_ : Int
 wrong_ : Int
 full_ : Bool
structure S_bracket_scan where
 s_ : List UInt8
 at_ : Int
 glob_ : Bool
 set_ : A4_uint64
def e_S_bracket_scan (x : S_bracket_scan) : List AVal := [.str x.s_, .int .i64 x.at_, .bool x.glob_, .int .u64 x.set_.w0, .int .u64 x.set_.w1, .int .u64 x.set_.w2, .int .u64 x.set_.w3]
structure S_groups_spot where
 node_ : Int
 turns_ : Int
 at_ : Int
def e_S_groups_spot (x : S_groups_spot) : List AVal := [.int .i64 x.node_, .int .i64 x.turns_, .int .i64 x.at_]
structure S_groups_ender where
 t_ : S_tree_Tree
 s_ : List UInt8
 told_ : List (S_groups_spot × (List Bool))
structure S_groups_Span where
 From : Int
 To : Int
 Is : Bool
def e_S_groups_Span (x : S_groups_Span) : List AVal := [.int .i64 x.From, .int .i64 x.To, .bool x.Is]
theorem enc_S_groups_Span : Enc e_S_groups_Span 3 := ⟨fun _ => rfl, fun _ => rfl, fun _ => rfl⟩
structure S_groups_job where
 node_ : Int
 turns_ : Int
 from_ : Int
 to_ : Int
def e_S_groups_job (x : S_groups_job) : List AVal := [.int .i64 x.node_, .int .i64 x.turns_, .int .i64 x.from_, .int .i64 x.to_]
theorem enc_S_groups_job : Enc e_S_groups_job 4 := ⟨fun _ => rfl, fun _ => rfl, fun _ => rfl⟩
instance : DecidableEq S_groups_spot := fun x y => decidable_of_iff (x.node_ = y.node_ ∧ x.turns_ = y.turns_ ∧ x.at_ = y.at_) (by cases x; cases y; simp)
theorem key_S_groups_spot : KeyE cfg.P 131 (fun k : S_groups_spot => .agg [.int .i64 k.node_, .int .i64 k.turns_, .int .i64 k.at_]) := by
 refine ⟨fun x => by kernel_rfl, fun x y => ?_, fun x => by simp [sameA, same1, e_S_groups_spot]⟩
 have e : eqA cfg.P 10000 131 (.agg [.int .i64 x.node_, .int .i64 x.turns_, .int .i64 x.at_]) (.agg [.int .i64 y.node_, .int .i64 y.turns_, .int .i64 y.at_]) = iteB (x.node_ == y.node_) (iteB (x.turns_ == y.turns_) (iteB (x.at_ == y.at_) (some true) (some false)) (some false)) (some false) := by kernel_rfl
 rw [e]
 simp only [iteB_an, Option.some.injEq]
 rw [Bool.eq_iff_iff]
 simp only [Bool.and_eq_true, beq_iff_eq, decide_eq_true_eq]
 cases x; cases y; simp
abbrev w_bracket_scan_1 (x : S_bracket_scan) (c1 : AVal) : List AVal := [.str x.s_, c1, .bool x.glob_, .int .u64 x.set_.w0, .int .u64 x.set_.w1, .int .u64 x.set_.w2, .int .u64 x.set_.w3]
abbrev w_rex_walk_1_3 (x : S_rex_walk) (c1 c3 : AVal) : List AVal := [.str x.s_, c1, .bool x.extended_, c3, .int .i64 x.t_.Root, .int .i64 x.groups_, .int .i64 x.depth_, .int .i64 x.wrong_, .bool x.full_]
abbrev w_rex_walk_3 (x : S_rex_walk) (c3 : AVal) : List AVal := [.str x.s_, .int .i64 x.at_, .bool x.extended_, c3, .int .i64 x.t_.Root, .int .i64 x.groups_, .int .i64 x.depth_, .int .i64 x.wrong_, .bool x.full_]
abbrev w_rex_walk_3_4 (x : S_rex_walk) (c3 c4 : AVal) : List AVal := [.str x.s_, .int .i64 x.at_, .bool x.extended_, c3, c4, .int .i64 x.groups_, .int .i64 x.depth_, .int .i64 x.wrong_, .bool x.full_]
abbrev w_rex_walk_3_8 (x : S_rex_walk) (c3 c8 : AVal) : List AVal := [.str x.s_, .int .i64 x.at_, .bool x.extended_, c3, .int .i64 x.t_.Root, .int .i64 x.groups_, .int .i64 x.depth_, .int .i64 x.wrong_, c8]
end Go.Av.L
