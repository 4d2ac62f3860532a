/-
  The run: which functions are run how, and in which order regions that draw are run. Written by lift2.py.
-/
import Derived.Test.YtiodcbipjnmpgaaAvLib
import Derived.Test.YtiodcbipjnmpgaaAvYld
import Derived.Test.YtiodcbipjnmpgaaAvMap
import Derived.Test.YtiodcbipjnmpgaaAvArr
import Derived.Test.YtiodcbipjnmpgaaAvChan
import Derived.Test.YtiodcbipjnmpgaaAvTail
import Derived.Test.YtiodcbipjnmpgaaLay
import Derived.Test.YtiodcbipjnmpgaaProg
namespace Go.Av.L
open Go.Av Go.Lib
set_option linter.unusedSimpArgs false
set_option linter.unusedVariables false
def kinds : List Nat := [0, 0, 0, 0, 0, 0, 1, 0, 0, 0, 0, 1, 0, 0, 7, 1, 0, 0, 0, 0, 4, 9, 0, 1, 1, 0, 1, 1, 1, 1, 0, 1, 0, 0, 0, 0, 1, 1, 1, 1, 0, 0, 0, 0, 0, 1, 0, 0, 1, 1, 1, 0, 1, 0, 0, 0, 1, 1, 1, 1, 0, 0, 0, 0, 0, 0, 1, 1, 0, 3, 0, 0, 0, 1, 1, 1, 1, 1, 1, 1, 1, 0, 1, 1, 1, 0, 0, 0, 1, 1, 1, 1, 1, 1, 1, 1, 1, 0, 1, 1, 1, 1, 1, 1, 1, 1, 1, 1, 1, 1, 1, 1, 0, 1, 1, 1, 1, 0, 1, 1, 1, 0, 0, 0, 0, 0, 0, 0, 0, 0, 0, 0, 0, 0, 0, 0, 0, 0]
def plans : List ((Nat × Nat) × List (Nat × List Nat)) := [((11, 8), [(0, []), (1, []), (2, []), (3, []), (4, []), (5, [4]), (6, []), (7, [])]),
  ((14, 5), [(0, []), (1, []), (2, []), (3, []), (4, []), (5, []), (6, []), (7, []), (8, []), (9, []), (10, []), (11, []), (12, []), (13, []), (14, []), (15, []), (16, [1, 3, 5, 7, 9, 11, 13]), (17, []), (18, []), (19, []), (20, []), (21, [])]),
  ((21, 7), [(0, []), (1, []), (2, []), (3, []), (4, []), (5, []), (6, []), (7, []), (8, [10003]), (9, []), (10, []), (11, [])]),
  ((23, 6), [(0, []), (1, []), (2, []), (3, []), (4, []), (5, []), (6, []), (7, []), (8, [])]),
  ((48, 1), [(0, []), (1, []), (2, []), (3, []), (4, []), (5, []), (6, []), (7, []), (8, []), (9, []), (10, []), (11, []), (12, []), (13, []), (14, []), (15, []), (16, []), (17, []), (18, []), (19, []), (20, []), (21, []), (22, [])]),
  ((48, 4), [(0, []), (1, []), (2, []), (3, []), (4, []), (5, []), (6, []), (7, []), (8, []), (9, []), (10, []), (11, []), (12, []), (13, [3]), (14, []), (15, []), (16, [])]),
  ((49, 12), [(0, []), (1, []), (2, []), (3, []), (4, []), (5, []), (6, []), (7, [2]), (8, []), (9, [])]),
  ((49, 14), [(0, []), (1, []), (2, []), (3, []), (5, []), (6, []), (7, []), (4, [7]), (8, []), (9, []), (10, []), (11, [])]),
  ((56, 6), [(0, []), (1, []), (2, []), (3, []), (4, []), (5, []), (6, []), (7, []), (8, []), (9, []), (10, []), (11, []), (12, []), (13, []), (14, []), (15, []), (16, []), (17, []), (18, []), (19, []), (20, []), (21, []), (22, [])]),
  ((56, 10), [(0, []), (1, []), (2, []), (3, []), (4, []), (5, []), (6, []), (7, []), (8, []), (9, []), (10, []), (11, []), (12, []), (13, []), (14, []), (15, []), (16, []), (17, []), (18, []), (19, [])]),
  ((73, 1), [(0, []), (1, []), (2, []), (3, []), (4, []), (5, []), (6, []), (7, []), (8, []), (9, []), (10, []), (11, []), (12, []), (13, []), (14, []), (15, []), (16, []), (17, []), (18, [])]),
  ((74, 5), [(0, []), (1, []), (2, []), (3, []), (4, []), (5, []), (6, []), (7, []), (8, []), (9, []), (10, [])]),
  ((76, 3), [(0, []), (1, []), (2, []), (3, []), (4, []), (5, []), (6, []), (7, []), (8, []), (9, [])]),
  ((77, 1), [(0, []), (1, []), (2, []), (3, []), (4, []), (5, []), (6, []), (7, []), (8, []), (9, [])]),
  ((77, 3), [(0, []), (1, []), (2, []), (3, []), (4, []), (5, []), (6, []), (7, []), (13, []), (8, [13]), (9, []), (10, []), (11, []), (12, []), (14, []), (15, []), (16, [])]),
  ((78, 3), [(0, []), (1, []), (2, []), (3, []), (4, []), (5, []), (6, []), (7, []), (8, []), (9, []), (10, []), (11, [])]),
  ((89, 5), [(0, []), (1, []), (2, []), (3, []), (4, []), (5, []), (6, []), (7, []), (8, []), (9, [])]),
  ((91, 3), [(0, []), (1, []), (2, []), (3, []), (4, []), (5, []), (6, []), (7, []), (8, [])]),
  ((91, 5), [(0, []), (1, []), (2, []), (3, []), (4, []), (5, []), (6, []), (7, []), (8, []), (9, []), (10, [])]),
  ((92, 14), [(0, []), (1, []), (2, []), (3, []), (4, []), (5, []), (6, []), (7, []), (8, []), (9, [7]), (10, []), (11, [])]),
  ((96, 4), [(0, []), (1, []), (2, []), (3, []), (4, []), (5, []), (6, []), (7, []), (8, []), (9, []), (10, []), (11, []), (12, []), (13, []), (14, []), (15, []), (16, []), (17, []), (18, []), (19, []), (20, []), (21, []), (22, []), (23, []), (24, []), (25, [])]),
  ((96, 8), [(0, []), (1, []), (2, []), (3, []), (4, []), (5, []), (6, []), (7, []), (8, []), (9, []), (10, []), (11, []), (12, [])]),
  ((99, 2), [(0, []), (1, []), (2, []), (3, []), (4, []), (5, []), (6, []), (7, []), (8, []), (9, []), (10, []), (11, []), (12, []), (13, []), (14, []), (15, []), (16, []), (17, []), (18, []), (19, []), (20, []), (21, []), (22, []), (23, []), (24, []), (25, []), (26, []), (27, []), (28, []), (29, []), (30, []), (31, []), (32, []), (33, []), (34, []), (35, []), (36, []), (37, [])]),
  ((99, 3), [(0, []), (1, []), (2, []), (3, []), (4, []), (5, []), (6, []), (7, []), (8, []), (9, []), (10, []), (11, []), (12, []), (13, []), (14, [])]),
  ((100, 0), [(0, []), (1, []), (2, []), (3, []), (4, []), (5, []), (6, []), (7, []), (8, []), (9, []), (10, []), (11, []), (12, [])]),
  ((101, 1), [(0, []), (1, []), (2, []), (3, []), (4, []), (5, []), (6, []), (7, []), (8, []), (9, []), (10, []), (11, [])]),
  ((102, 5), [(0, []), (1, []), (2, []), (3, []), (4, []), (5, []), (6, []), (7, [4]), (8, []), (9, []), (10, []), (11, [])]),
  ((102, 11), [(0, []), (1, []), (2, []), (3, []), (4, []), (5, []), (6, []), (7, []), (8, []), (9, [])]),
  ((102, 20), [(0, []), (1, []), (2, []), (3, []), (4, []), (5, []), (6, []), (7, [4]), (8, []), (9, []), (10, []), (11, [])]),
  ((105, 1), [(0, []), (1, []), (2, []), (3, []), (4, []), (5, []), (6, []), (7, []), (8, []), (9, []), (10, []), (11, []), (12, []), (13, []), (14, []), (15, []), (16, [])]),
  ((105, 5), [(0, []), (1, []), (2, []), (3, []), (4, []), (5, []), (6, []), (7, []), (8, []), (9, [])]),
  ((106, 1), [(0, []), (1, []), (2, []), (3, []), (4, []), (5, []), (6, []), (7, []), (8, []), (9, []), (10, []), (11, []), (12, []), (13, []), (14, []), (15, []), (16, []), (17, []), (18, []), (19, []), (20, []), (21, []), (22, []), (23, []), (24, []), (25, []), (26, []), (27, []), (28, []), (29, [])]),
  ((106, 3), [(0, []), (1, []), (2, []), (3, []), (4, []), (5, []), (6, []), (7, []), (8, []), (9, [])]),
  ((107, 4), [(0, []), (1, []), (2, []), (3, []), (4, []), (5, []), (6, []), (7, []), (8, [])]),
  ((108, 5), [(0, []), (1, []), (2, []), (3, []), (4, []), (5, []), (6, []), (7, []), (8, []), (9, [])]),
  ((108, 8), [(0, []), (1, []), (2, []), (3, []), (4, []), (5, []), (6, []), (7, []), (8, []), (9, []), (10, []), (11, [])]),
  ((111, 2), [(0, []), (1, []), (3, []), (5, []), (2, [3, 5]), (4, [5]), (6, [])]),
  ((111, 15), [(0, []), (1, [0]), (2, []), (3, []), (4, []), (5, []), (6, [])]),
  ((111, 27), [(1, []), (0, [1]), (2, []), (3, []), (4, []), (5, [])]),
  ((113, 3), [(0, []), (1, []), (2, []), (3, []), (4, []), (5, []), (6, []), (7, []), (8, []), (9, []), (10, []), (11, [])]),
  ((115, 4), [(0, []), (1, []), (2, []), (3, []), (4, []), (5, []), (6, []), (7, []), (8, [])])]
def stills : List (Nat × List Bool) := [(6, [true, false]), (14, [true]), (15, [true]), (21, [true, false]), (31, [true, false]), (39, [true]), (45, [true]), (48, [false, true]), (59, [true, false]), (66, [false, true, false]), (79, [true])]
def globs : List (Nat × List AVal) := []
def exts : List (Nat × Nat × Nat × Nat) := [(69, 4, 0, 3)]
noncomputable def cfg : Cfg := ⟨Go.Proofs.Try.prog, lookN kinds, lookPlan plans, extL Go.Proofs.Try.prog exts, lookG globs, rokOf Go.Proofs.Try.prog (lookPlan plans), lookB stills⟩
theorem exts_ok : ∀ p ∈ exts, ExtOk cfg.P cfg.glob p.1 (extC cfg.P p.2) := by
  intro p hp
  simp only [exts, List.mem_cons, List.not_mem_nil, or_false] at hp
  subst hp
  exact clone_ok Go.Proofs.Try.clone69 _
theorem cfg_ok : CfgOk cfg := cfgOk_lib (ks := kinds) (l := exts) rfl (by kernel_rfl) (by kernel_rfl) rfl rfl (by kernel_rfl) exts_ok
structure A4_uint64 where
  w0 : Int
  w1 : Int
  w2 : Int
  w3 : Int
def e_A4_uint64 (x : A4_uint64) : List AVal := [.int .u64 x.w0, .int .u64 x.w1, .int .u64 x.w2, .int .u64 x.w3]
theorem enc_A4_uint64 : Enc e_A4_uint64 4 := ⟨fun _ => rfl, fun _ => rfl, fun _ => rfl⟩
structure S_tree_Node where
  Kind : Int
  A : Int
  B : Int
  Min : Int
  Max : Int
  Group : Int
  Set : A4_uint64
def e_S_tree_Node (x : S_tree_Node) : List AVal := [.int .i64 x.Kind, .int .i64 x.A, .int .i64 x.B, .int .i64 x.Min, .int .i64 x.Max, .int .i64 x.Group, .int .u64 x.Set.w0, .int .u64 x.Set.w1, .int .u64 x.Set.w2, .int .u64 x.Set.w3]
theorem enc_S_tree_Node : Enc e_S_tree_Node 10 := ⟨fun _ => rfl, fun _ => rfl, fun _ => rfl⟩
structure S_tree_Tree where
  Nodes : List S_tree_Node
  Root : Int
def e_S_tree_Tree (x : S_tree_Tree) : List AVal := [vs e_S_tree_Node x.Nodes, .int .i64 x.Root]
theorem enc_S_tree_Tree : Enc e_S_tree_Tree 2 := ⟨fun _ => rfl, fun _ => rfl, fun _ => rfl⟩
structure S_boulterref18_Node where
  Kind : Int
  A : Int
  B : Int
  Min : Int
  Max : Int
  Group : Int
  S : List UInt8
def e_S_boulterref18_Node (x : S_boulterref18_Node) : List AVal := [.int .i64 x.Kind, .int .i64 x.A, .int .i64 x.B, .int .i64 x.Min, .int .i64 x.Max, .int .i64 x.Group, .str x.S]
theorem enc_S_boulterref18_Node : Enc e_S_boulterref18_Node 7 := ⟨fun _ => rfl, fun _ => rfl, fun _ => rfl⟩
structure S_boulterref18_Tree where
  L : List S_boulterref18_Node
  Root : Int
def e_S_boulterref18_Tree (x : S_boulterref18_Tree) : List AVal := [vs e_S_boulterref18_Node x.L, .int .i64 x.Root]
theorem enc_S_boulterref18_Tree : Enc e_S_boulterref18_Tree 2 := ⟨fun _ => rfl, fun _ => rfl, fun _ => rfl⟩
structure S_auto_state where
  kind_ : Int
  a_ : Int
  b_ : Int
  set_ : A4_uint64
def e_S_auto_state (x : S_auto_state) : List AVal := [.int .i64 x.kind_, .int .i64 x.a_, .int .i64 x.b_, .int .u64 x.set_.w0, .int .u64 x.set_.w1, .int .u64 x.set_.w2, .int .u64 x.set_.w3]
theorem enc_S_auto_state : Enc e_S_auto_state 7 := ⟨fun _ => rfl, fun _ => rfl, fun _ => rfl⟩
structure S_auto_Auto where
  l_ : List S_auto_state
  first_ : Int
def e_S_auto_Auto (x : S_auto_Auto) : List AVal := [vs e_S_auto_state x.l_, .int .i64 x.first_]
theorem enc_S_auto_Auto : Enc e_S_auto_Auto 2 := ⟨fun _ => rfl, fun _ => rfl, fun _ => rfl⟩
structure S_auto_maker where
  t_ : S_tree_Tree
  a_ : S_auto_Auto
  most_ : Int
  full_ : Bool
def e_S_auto_maker (x : S_auto_maker) : List AVal := [vs e_S_tree_Node x.t_.Nodes, .int .i64 x.t_.Root, .vptr [vs e_S_auto_state x.a_.l_, .int .i64 x.a_.first_], .int .i64 x.most_, .bool x.full_]
theorem enc_S_auto_maker : Enc e_S_auto_maker 5 := ⟨fun _ => rfl, fun _ => rfl, fun _ => rfl⟩
end Go.Av.L
