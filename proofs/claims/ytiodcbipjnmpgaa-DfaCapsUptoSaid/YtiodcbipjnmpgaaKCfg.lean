/-
 The run: which functions are run how, and in which order regions that draw are run. Written by lift2.py.
-/
import Derived.Test.YtiodcbipjnmpgaaAvLib
import Derived.Test.YtiodcbipjnmpgaaAvMap
import Derived.Test.YtiodcbipjnmpgaaAvChan
import Derived.Test.YtiodcbipjnmpgaaAvTail
import Derived.Test.YtiodcbipjnmpgaaAvBig
import Derived.Test.YtiodcbipjnmpgaaAvCo
import Derived.Test.YtiodcbipjnmpgaaAvHq
import Derived.Test.YtiodcbipjnmpgaaAvFast
import Derived.Test.YtiodcbipjnmpgaaLay
import Derived.Test.YtiodcbipjnmpgaaProg
namespace Go.Av.L
open Go.Av Go.Lib
set_option linter.unusedSimpArgs false
set_option linter.unusedVariables false
def kinds : List Nat := [0, 0, 0, 0, 0, 0, 0, 0, 0, 1, 0, 7, 0, 1, 7, 1, 0, 0, 0, 0, 0, 9, 1, 0, 1, 0, 1, 1, 0, 1, 1, 1, 1, 9, 1, 1, 1, 1, 1, 1, 0, 0, 0, 0, 1, 1, 0, 0, 1, 1, 1, 0, 7, 1, 1, 1, 1, 1, 1, 1, 0, 0, 0, 0, 0, 0, 1, 1, 0, 3, 1, 1, 1, 1, 1, 1, 1, 1, 1, 1, 1, 0, 1, 1, 1, 0, 0, 0, 1, 0, 1, 1, 0, 1, 1, 0, 0, 0, 1, 0, 1, 0, 0, 1, 0, 0, 0, 0, 0, 0, 0, 0, 0, 0, 0, 0, 0, 0, 0, 0, 0, 0, 0, 0, 0, 0, 0, 0, 0, 0, 0, 0, 0, 0, 0, 0, 0, 0]
def plans : List ((Nat × Nat) × List (Nat × List Nat)) := [((11, 8), [(0, []), (1, []), (2, []), (3, []), (4, []), (5, [4]), (6, []), (7, [])]),
 ((14, 5), [(0, []), (1, []), (2, []), (3, []), (4, []), (5, []), (6, []), (7, []), (8, []), (9, []), (10, []), (11, []), (12, []), (13, []), (14, []), (15, []), (16, [1, 3, 5, 7, 9, 11, 13]), (17, []), (18, []), (19, []), (20, []), (21, [])]),
 ((21, 7), [(0, []), (1, []), (2, []), (3, []), (4, []), (5, []), (6, []), (7, []), (8, [10003]), (9, []), (10, []), (11, [])]),
 ((22, 8), [(0, []), (1, []), (2, []), (3, []), (4, []), (5, []), (6, []), (7, []), (8, []), (9, []), (10, []), (11, [])]),
 ((22, 12), [(0, []), (1, []), (2, []), (3, []), (4, []), (5, []), (6, []), (7, []), (8, []), (9, []), (10, [])]),
 ((22, 14), [(0, []), (1, []), (2, []), (3, []), (4, []), (5, []), (6, []), (7, []), (8, []), (9, []), (10, [])]),
 ((30, 4), [(0, []), (1, []), (2, []), (3, []), (4, []), (5, []), (6, []), (8, []), (9, []), (7, [9]), (10, []), (11, []), (12, []), (13, [])]),
 ((33, 9), [(0, []), (1, []), (2, []), (3, []), (4, []), (5, []), (6, [3]), (7, [10003]), (8, []), (9, []), (10, []), (11, []), (12, []), (13, []), (14, [])]),
 ((33, 10), [(0, []), (1, []), (2, []), (3, []), (4, []), (5, []), (6, [3]), (7, [10003]), (8, []), (9, []), (10, []), (11, []), (12, []), (13, []), (14, [])]),
 ((33, 22), [(0, []), (1, []), (2, []), (3, []), (4, []), (5, []), (6, []), (7, []), (8, []), (9, []), (10, []), (11, []), (12, []), (13, [3]), (14, []), (15, []), (16, [])]),
 ((48, 1), [(0, []), (1, []), (2, []), (3, []), (4, []), (5, []), (6, []), (7, []), (8, []), (9, []), (10, []), (11, []), (12, []), (13, []), (14, []), (15, []), (16, []), (17, []), (18, []), (19, []), (20, []), (21, []), (22, [])]),
 ((48, 4), [(0, []), (1, []), (2, []), (3, []), (4, []), (5, []), (6, []), (7, []), (8, []), (9, []), (10, []), (11, []), (12, []), (13, [3]), (14, []), (15, []), (16, [])]),
 ((49, 12), [(0, []), (1, []), (2, []), (3, []), (4, []), (5, []), (6, []), (7, [2]), (8, []), (9, [])]),
 ((49, 14), [(0, []), (1, []), (2, []), (3, []), (5, []), (6, []), (7, []), (4, [7]), (8, []), (9, []), (10, []), (11, [])]),
 ((53, 7), [(0, []), (1, []), (2, []), (3, []), (4, []), (5, []), (6, []), (7, []), (8, [0]), (9, []), (10, []), (11, [])]),
 ((53, 8), [(0, []), (1, []), (2, []), (3, []), (4, []), (5, []), (6, []), (7, []), (8, []), (9, []), (10, [])]),
 ((53, 10), [(0, []), (1, []), (2, []), (3, []), (4, []), (5, []), (6, []), (7, []), (8, []), (9, []), (10, []), (11, [])]),
 ((54, 7), [(0, []), (1, []), (2, []), (3, []), (4, []), (5, []), (6, []), (7, []), (8, []), (9, [])]),
 ((54, 12), [(0, []), (1, []), (2, []), (3, []), (4, []), (5, []), (6, []), (7, []), (8, []), (9, []), (10, []), (11, []), (12, []), (13, []), (14, []), (15, []), (16, [3, 7, 10]), (17, []), (18, [3]), (19, []), (20, []), (21, [])]),
 ((54, 13), [(0, []), (1, []), (2, []), (3, []), (4, []), (5, []), (6, []), (7, []), (8, []), (9, []), (10, []), (11, []), (12, []), (13, []), (14, []), (15, []), (16, [3, 7, 10]), (17, []), (18, [3]), (19, []), (20, []), (21, [])]),
 ((55, 4), [(0, []), (1, []), (2, []), (3, []), (4, []), (5, [])]),
 ((55, 17), [(0, []), (1, []), (2, []), (3, []), (4, []), (5, []), (6, []), (7, []), (8, []), (9, []), (10, []), (11, []), (12, []), (13, []), (14, []), (15, []), (16, []), (17, []), (18, []), (19, []), (20, []), (21, []), (22, []), (23, [])]),
 ((56, 6), [(0, []), (1, []), (2, []), (3, []), (4, []), (5, []), (6, []), (7, []), (8, []), (9, []), (10, []), (11, []), (12, []), (13, []), (14, []), (15, []), (16, []), (17, []), (18, []), (19, []), (20, []), (21, []), (22, [])]),
 ((56, 10), [(0, []), (1, []), (2, []), (3, []), (4, []), (5, []), (6, []), (7, []), (8, []), (9, []), (10, []), (11, []), (12, []), (13, []), (14, []), (15, []), (16, []), (17, []), (18, []), (19, [])]),
 ((71, 1), [(0, []), (1, []), (2, []), (3, []), (4, []), (5, []), (6, []), (7, []), (8, []), (9, [])]),
 ((73, 1), [(0, []), (1, []), (2, []), (3, []), (4, []), (5, []), (6, []), (7, []), (8, []), (9, []), (10, []), (11, []), (12, []), (13, []), (14, []), (15, []), (16, []), (17, []), (18, [])]),
 ((74, 5), [(0, []), (1, []), (2, []), (3, []), (4, []), (5, []), (6, []), (7, []), (8, []), (9, []), (10, [])]),
 ((76, 3), [(0, []), (1, []), (2, []), (3, []), (4, []), (5, []), (6, []), (7, []), (8, []), (9, [])]),
 ((77, 1), [(0, []), (1, []), (2, []), (3, []), (4, []), (5, []), (6, []), (7, []), (8, []), (9, [])]),
 ((77, 3), [(0, []), (1, []), (2, []), (3, []), (4, []), (5, []), (6, []), (7, []), (13, []), (8, [13]), (9, []), (10, []), (11, []), (12, []), (14, []), (15, []), (16, [])]),
 ((78, 3), [(0, []), (1, []), (2, []), (3, []), (4, []), (5, []), (6, []), (7, []), (8, []), (9, []), (10, []), (11, [])]),
 ((91, 3), [(0, []), (1, []), (2, []), (3, []), (4, []), (5, []), (6, []), (7, []), (8, [])]),
 ((91, 5), [(0, []), (1, []), (2, []), (3, []), (4, []), (5, []), (6, []), (7, []), (8, []), (9, []), (10, [])]),
 ((100, 0), [(0, []), (1, []), (2, []), (3, []), (4, []), (5, []), (6, []), (7, []), (8, []), (9, []), (10, []), (11, []), (12, [])])]
def stills : List (Nat × List Bool) := [(9, [true, false]), (13, [true]), (14, [true]), (15, [true]), (21, [true, false]), (22, [true, false]), (27, [false, true, false]), (29, [false, true, false]), (31, [true, false]), (33, [true, false]), (39, [true]), (44, [true, false]), (45, [true]), (48, [false, true]), (50, [false, true, false, false]), (54, [false, true]), (59, [true, false]), (66, [false, true, false]), (67, [true, false]), (72, [true]), (76, [false, true]), (79, [true]), (84, [true, false]), (91, [false, true]), (103, [true])]
def globs : List (Nat × List AVal) := []
def exts : List (Nat × Nat × Nat × Nat) := [(69, 4, 0, 3)]
def kms : KMs := []
noncomputable def cfg : Cfg := ⟨Go.Proofs.Try.prog, lookN kinds, lookPlan plans, extL Go.Proofs.Try.prog kms exts, lookG globs, rokOf Go.Proofs.Try.prog (lookPlan plans), lookB stills⟩
theorem exts_ok : ∀ p ∈ exts, ExtOk cfg.P cfg.glob p.1 (extC cfg.P kms p.2) := by
 intro p hp
 simp only [exts, List.mem_cons, List.not_mem_nil, or_false] at hp
 subst hp
 exact clone_ok Go.Proofs.Try.clone69 _
theorem cfg_ok : CfgOk cfg := cfgOk_lib (ks := kinds) (l := exts) rfl (by kernel_rfl) (by kernel_rfl) rfl rfl (by kernel_rfl) exts_ok
structure A4_uint64 where
 w0 : Int
 w1 : Int
 w2 : Int
 w3 : Int
def e_A4_uint64 (x : A4_uint64) : List AVal := [.int .u64 x.w0, .int .u64 x.w1, .int .u64 x.w2, .int .u64 x.w3]
structure S_tree_Node where
 Kind : Int
 A : Int
 B : Int
 Min : Int
 Max : Int
 Group : Int
 Set : A4_uint64
def e_S_tree_Node (x : S_tree_Node) : List AVal := [.int .i64 x.Kind, .int .i64 x.A, .int .i64 x.B, .int .i64 x.Min, .int .i64 x.Max, .int .i64 x.Group, .int .u64 x.Set.w0, .int .u64 x.Set.w1, .int .u64 x.Set.w2, .int .u64 x.Set.w3]
theorem enc_S_tree_Node : Enc e_S_tree_Node 10 := ⟨fun _ => rfl, fun _ => rfl, fun _ => rfl⟩
structure S_tree_Tree where
 Nodes : List S_tree_Node
 Root : Int
def e_S_tree_Tree (x : S_tree_Tree) : List AVal := [vs e_S_tree_Node x.Nodes, .int .i64 x.Root]
structure S_boulterref18_Node where
 Kind : Int
 A : Int
 B : Int
 Min : Int
 Max : Int
 Group : Int
 S : List UInt8
def e_S_boulterref18_Node (x : S_boulterref18_Node) : List AVal := [.int .i64 x.Kind, .int .i64 x.A, .int .i64 x.B, .int .i64 x.Min, .int .i64 x.Max, .int .i64 x.Group, .str x.S]
theorem enc_S_boulterref18_Node : Enc e_S_boulterref18_Node 7 := ⟨fun _ => rfl, fun _ => rfl, fun _ => rfl⟩
structure S_boulterref18_Tree where
 L : List S_boulterref18_Node
 Root : Int
structure S_rex_walk where
 s_ : List UInt8
 at_ : Int
 extended_ : Bool
 t_ : S_tree_Tree
 groups_ : Int
 depth_ : Int
 wrong_ : Int
 full_ : Bool
structure S_auto_state where
 kind_ : Int
 a_ : Int
 b_ : Int
 set_ : A4_uint64
def e_S_auto_state (x : S_auto_state) : List AVal := [.int .i64 x.kind_, .int .i64 x.a_, .int .i64 x.b_, .int .u64 x.set_.w0, .int .u64 x.set_.w1, .int .u64 x.set_.w2, .int .u64 x.set_.w3]
theorem enc_S_auto_state : Enc e_S_auto_state 7 := ⟨fun _ => rfl, fun _ => rfl, fun _ => rfl⟩
structure S_auto_Auto where
 l_ : List S_auto_state
 first_ : Int
def e_S_auto_Auto (x : S_auto_Auto) : List AVal := [vs e_S_auto_state x.l_, .int .i64 x.first_]
structure S_auto_maker where
 t_ : S_tree_Tree
 a_ : S_auto_Auto
 most_ : Int
 full_ : Bool
structure S_dfa_Dfa where
 column_ : (Nat → Int)
 columns_ : Int
 next_ : List Int
 ends_ : List Bool
 last_ : List Bool
 first_ : Int
 later_ : Int
 empty_ : Bool
structure S_dfa_maker where
 a_ : S_auto_Auto
 d_ : S_dfa_Dfa
 most_ : Int
 byte_ : List UInt8
 seen_ : List ((List UInt8) × Int)
 todo_ : List (List Int)
end Go.Av.L
