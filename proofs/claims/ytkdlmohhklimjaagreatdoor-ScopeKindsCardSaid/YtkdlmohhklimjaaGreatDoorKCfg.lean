/-
 The run: which functions are run how, and in which order regions that draw are run. Written by lift2.py.
-/
import Derived.Test.YtkdlmohhklimjaaGreatDoorAvLib
import Derived.Test.YtkdlmohhklimjaaGreatDoorAvMap
import Derived.Test.YtkdlmohhklimjaaGreatDoorAvArr
import Derived.Test.YtkdlmohhklimjaaGreatDoorAvChan
import Derived.Test.YtkdlmohhklimjaaGreatDoorAvTail
import Derived.Test.YtkdlmohhklimjaaGreatDoorAvBig
import Derived.Test.YtkdlmohhklimjaaGreatDoorAvCo
import Derived.Test.YtkdlmohhklimjaaGreatDoorAvHq
import Derived.Test.YtkdlmohhklimjaaGreatDoorAvKm
import Derived.Test.YtkdlmohhklimjaaGreatDoorAvFast
import Derived.Test.YtkdlmohhklimjaaGreatDoorLay
import Derived.Test.YtkdlmohhklimjaaGreatDoorProg
namespace Go.Av.L
open Go.Av Go.Lib
set_option linter.unusedSimpArgs false
set_option linter.unusedVariables false
def kinds : List Nat := [0, 0, 0, 0, 0, 1, 0, 0, 0, 1, 0, 1, 1, 7, 1, 0, 0, 0, 0, 0, 9, 1, 1, 1, 1, 0, 1, 1, 1, 1, 1, 1, 3, 1, 1, 0, 0, 0, 0, 0, 0, 7, 1, 1, 1, 0, 9, 1, 1, 1, 0, 1, 1, 1, 0, 0, 0, 0, 0, 0, 0, 0, 0, 0, 0, 0, 0, 0, 0, 0, 0, 0, 0, 0, 0, 0, 0, 0, 0, 0, 0, 0, 1, 1, 1, 1, 1, 1, 1, 0, 0, 9, 1, 1, 1, 1, 1, 1, 0, 1, 0, 0, 3, 0, 0, 0, 0, 0, 0, 0, 0, 0, 0, 0, 0, 0, 0, 0, 0, 1, 1, 1, 1, 1, 1, 1, 1, 1, 1, 1, 1, 7, 1, 0, 0, 0, 1, 1, 0, 0, 0, 0, 0, 0, 0, 1, 0, 0, 0, 0, 0, 0, 0, 0, 0, 0, 1, 1, 1, 1, 1, 1, 1, 1, 0, 1, 3, 0, 0, 0, 0, 1, 0, 0, 0, 0, 0, 0, 1, 1, 0, 0, 0, 0, 1, 1, 1, 1, 0, 0, 0, 0, 1, 1, 0, 0, 0, 0, 0, 0, 0, 0, 1, 0, 0, 0, 0, 0, 0, 0, 0, 0, 0, 0, 0, 0, 0, 0, 0, 0, 0, 0, 0, 0, 0, 0, 0, 0, 0, 0, 0, 0, 0, 0, 0, 0, 0, 0, 0, 0, 0, 0, 0, 0, 0, 0, 0, 0, 0]
def plans : List ((Nat × Nat) × List (Nat × List Nat)) := [((20, 7), [(0, []), (2, []), (1, [2]), (3, []), (4, []), (5, [])]),
 ((41, 8), [(0, []), (1, []), (2, []), (3, []), (4, []), (5, [4]), (6, []), (7, [])]),
 ((46, 9), [(0, []), (1, []), (2, []), (3, []), (4, []), (5, []), (6, [3]), (7, [10003]), (8, []), (9, []), (10, []), (11, []), (12, []), (13, []), (14, [])]),
 ((46, 10), [(0, []), (1, []), (2, []), (3, []), (4, []), (5, []), (6, [3]), (7, [10003]), (8, []), (9, []), (10, []), (11, []), (12, []), (13, []), (14, [])]),
 ((46, 22), [(0, []), (1, []), (2, []), (3, []), (4, []), (5, []), (6, []), (7, []), (8, []), (9, []), (10, []), (11, []), (12, []), (13, [3]), (14, []), (15, []), (16, [])]),
 ((85, 3), [(0, []), (1, []), (2, []), (3, []), (4, []), (5, []), (6, []), (7, []), (8, []), (9, []), (10, []), (11, []), (12, [])]),
 ((88, 11), [(0, []), (1, []), (2, []), (3, []), (4, []), (5, []), (6, []), (7, [5]), (8, []), (9, [])]),
 ((91, 7), [(0, []), (1, []), (2, []), (3, []), (4, []), (5, []), (6, []), (7, []), (8, [10003]), (9, []), (10, []), (11, [])]),
 ((93, 7), [(0, []), (1, []), (2, []), (3, []), (4, []), (5, []), (6, []), (7, []), (8, [0]), (9, []), (10, []), (11, [])]),
 ((93, 8), [(0, []), (1, []), (2, []), (3, []), (4, []), (5, []), (6, []), (7, []), (8, []), (9, []), (10, [])]),
 ((93, 10), [(0, []), (1, []), (2, []), (3, []), (4, []), (5, []), (6, []), (7, []), (8, []), (9, []), (10, []), (11, [])]),
 ((94, 7), [(0, []), (1, []), (2, []), (3, []), (4, []), (5, []), (6, []), (7, []), (8, []), (9, [])]),
 ((94, 12), [(0, []), (1, []), (2, []), (3, []), (4, []), (5, []), (6, []), (7, []), (8, []), (9, []), (10, []), (11, []), (12, []), (13, []), (14, []), (15, []), (16, [3, 7, 10]), (17, []), (18, [3]), (19, []), (20, []), (21, [])]),
 ((94, 13), [(0, []), (1, []), (2, []), (3, []), (4, []), (5, []), (6, []), (7, []), (8, []), (9, []), (10, []), (11, []), (12, []), (13, []), (14, []), (15, []), (16, [3, 7, 10]), (17, []), (18, [3]), (19, []), (20, []), (21, [])]),
 ((97, 4), [(0, []), (1, []), (2, []), (3, []), (4, []), (5, [])]),
 ((97, 17), [(0, []), (1, []), (2, []), (3, []), (4, []), (5, []), (6, []), (7, []), (8, []), (9, []), (10, []), (11, []), (12, []), (13, []), (14, []), (15, []), (16, []), (17, []), (18, []), (19, []), (20, []), (21, []), (22, []), (23, [])]),
 ((119, 6), [(0, []), (1, []), (2, []), (3, []), (4, []), (5, []), (6, []), (7, []), (8, []), (9, []), (10, []), (11, []), (12, []), (13, []), (14, []), (15, []), (16, []), (17, []), (18, []), (19, []), (20, []), (21, []), (22, [])]),
 ((119, 10), [(0, []), (1, []), (2, []), (3, []), (4, []), (5, []), (6, []), (7, []), (8, []), (9, []), (10, []), (11, []), (12, []), (13, []), (14, []), (15, []), (16, []), (17, []), (18, []), (19, [])]),
 ((123, 1), [(0, []), (1, []), (2, []), (3, []), (4, []), (5, []), (6, []), (7, []), (8, []), (9, []), (10, []), (11, []), (12, []), (13, []), (14, []), (15, []), (16, []), (17, []), (18, []), (19, []), (20, []), (21, []), (22, [])]),
 ((123, 4), [(0, []), (1, []), (2, []), (3, []), (4, []), (5, []), (6, []), (7, []), (8, []), (9, []), (10, []), (11, []), (12, []), (13, [3]), (14, []), (15, []), (16, [])]),
 ((124, 12), [(0, []), (1, []), (2, []), (3, []), (4, []), (5, []), (6, []), (7, [2]), (8, []), (9, [])]),
 ((124, 14), [(0, []), (1, []), (2, []), (3, []), (5, []), (6, []), (7, []), (4, [7]), (8, []), (9, []), (10, []), (11, [])]),
 ((127, 1), [(0, []), (1, []), (2, []), (3, []), (4, []), (5, []), (6, []), (7, []), (8, []), (9, [])]),
 ((128, 4), [(0, []), (1, []), (2, []), (3, []), (4, []), (5, []), (6, []), (8, []), (9, []), (7, [9]), (10, []), (11, []), (12, []), (13, [])]),
 ((136, 6), [(0, []), (1, []), (2, []), (3, []), (4, []), (5, []), (6, []), (7, []), (8, []), (9, [4]), (10, []), (11, []), (12, []), (13, []), (14, [])]),
 ((156, 1), [(0, []), (1, []), (2, []), (3, []), (4, []), (5, []), (6, []), (7, []), (8, []), (9, []), (10, []), (11, []), (12, []), (13, []), (14, []), (15, []), (16, []), (17, []), (18, [])]),
 ((157, 5), [(0, []), (1, []), (2, []), (3, []), (4, []), (5, []), (6, []), (7, []), (8, []), (9, []), (10, [])]),
 ((159, 3), [(0, []), (1, []), (2, []), (3, []), (4, []), (5, []), (6, []), (7, []), (8, []), (9, [])]),
 ((160, 1), [(0, []), (1, []), (2, []), (3, []), (4, []), (5, []), (6, []), (7, []), (8, []), (9, [])]),
 ((160, 3), [(0, []), (1, []), (2, []), (3, []), (4, []), (5, []), (6, []), (7, []), (13, []), (8, [13]), (9, []), (10, []), (11, []), (12, []), (14, []), (15, []), (16, [])]),
 ((161, 3), [(0, []), (1, []), (2, []), (3, []), (4, []), (5, []), (6, []), (7, []), (8, []), (9, []), (10, []), (11, [])]),
 ((185, 3), [(0, []), (1, []), (2, []), (3, []), (4, []), (5, []), (6, []), (7, []), (8, [])]),
 ((185, 5), [(0, []), (1, []), (2, []), (3, []), (4, []), (5, []), (6, []), (7, []), (8, []), (9, []), (10, [])]),
 ((202, 0), [(0, []), (1, []), (2, []), (3, []), (4, []), (5, []), (6, []), (7, []), (8, []), (9, []), (10, []), (11, []), (12, [])])]
def stills : List (Nat × List Bool) := [(13, [false, true]), (20, [true, false]), (28, [true]), (29, [true]), (44, [true]), (46, [true, false]), (52, [true]), (87, [true]), (88, [true]), (91, [true, false]), (94, [false, true]), (96, [false, true, false]), (99, [true, false, false]), (122, [true, false]), (123, [false, true]), (125, [false, true, false, false]), (129, [true]), (130, [false, true, false]), (132, [true, false]), (137, [false, true]), (159, [false, true]), (162, [true]), (165, [true, false]), (178, [true]), (185, [false, true]), (192, [true, false])]
def globs : List (Nat × List AVal) := [(0, []),
 (3, [.int .u64 1, .int .u64 10, .int .u64 100, .int .u64 1000, .int .u64 10000, .int .u64 100000, .int .u64 1000000, .int .u64 10000000, .int .u64 100000000, .int .u64 1000000000, .int .u64 10000000000, .int .u64 100000000000, .int .u64 1000000000000, .int .u64 10000000000000, .int .u64 100000000000000, .int .u64 1000000000000000, .int .u64 10000000000000000, .int .u64 100000000000000000, .int .u64 1000000000000000000, .int .u64 10000000000000000000]),
 (4, [.int .u8 0, .int .u8 1, .int .u8 28, .int .u8 2, .int .u8 29, .int .u8 14, .int .u8 24, .int .u8 3, .int .u8 30, .int .u8 22, .int .u8 20, .int .u8 15, .int .u8 25, .int .u8 17, .int .u8 4, .int .u8 8, .int .u8 31, .int .u8 27, .int .u8 13, .int .u8 23, .int .u8 21, .int .u8 19, .int .u8 16, .int .u8 7, .int .u8 26, .int .u8 12, .int .u8 18, .int .u8 6, .int .u8 11, .int .u8 5, .int .u8 10, .int .u8 9]),
 (5, [.int .u8 0, .int .u8 1, .int .u8 56, .int .u8 2, .int .u8 57, .int .u8 49, .int .u8 28, .int .u8 3, .int .u8 61, .int .u8 58, .int .u8 42, .int .u8 50, .int .u8 38, .int .u8 29, .int .u8 17, .int .u8 4, .int .u8 62, .int .u8 47, .int .u8 59, .int .u8 36, .int .u8 45, .int .u8 43, .int .u8 51, .int .u8 22, .int .u8 53, .int .u8 39, .int .u8 33, .int .u8 30, .int .u8 24, .int .u8 18, .int .u8 12, .int .u8 5, .int .u8 63, .int .u8 55, .int .u8 48, .int .u8 27, .int .u8 60, .int .u8 41, .int .u8 37, .int .u8 16, .int .u8 46, .int .u8 35, .int .u8 44, .int .u8 21, .int .u8 52, .int .u8 32, .int .u8 23, .int .u8 11, .int .u8 54, .int .u8 26, .int .u8 40, .int .u8 15, .int .u8 34, .int .u8 20, .int .u8 31, .int .u8 10, .int .u8 25, .int .u8 14, .int .u8 19, .int .u8 9, .int .u8 13, .int .u8 8, .int .u8 7, .int .u8 6])]
def exts : List (Nat × Nat × Nat × Nat) := [(32, 4, 0, 82), (102, 1, 0, 0), (166, 4, 0, 3)]
def kms : KMs := []
noncomputable def cfg : Cfg := ⟨Go.Proofs.Tryz.prog, lookN kinds, lookPlan plans, extL Go.Proofs.Tryz.prog kms exts, lookG globs, rokOf Go.Proofs.Tryz.prog (lookPlan plans), lookB stills⟩
theorem exts_ok : ∀ p ∈ exts, ExtOk cfg.P cfg.glob p.1 (extC cfg.P kms p.2) := by
 intro p hp
 simp only [exts, List.mem_cons, List.not_mem_nil, or_false] at hp
 rcases hp with rfl | rfl | rfl
 ·exact clone_ok Go.Proofs.Tryz.clone32 _
 ·exact idx_ok _ (by kernel_rfl) (fun fn h => by
   obtain rfl := Option.some.inj (Go.Proofs.Tryz.func102.symm.trans h)
   exact ⟨by kernel_rfl, by kernel_rfl⟩)
 ·exact clone_ok Go.Proofs.Tryz.clone166 _
theorem cfg_ok : CfgOk cfg := cfgOk_lib (ks := kinds) (l := exts) rfl (by kernel_rfl) (by kernel_rfl) rfl rfl (by kernel_rfl) exts_ok
structure S_rewrite_Expr where
 Re : List UInt8
 Template : List UInt8
 Global : Bool
 Fold : Bool
 Extended : Bool
 Number : Int
 Names : Bool
 Soft : Bool
 Hard : Bool
def e_S_rewrite_Expr (x : S_rewrite_Expr) : List AVal := [.str x.Re, .str x.Template, .bool x.Global, .bool x.Fold, .bool x.Extended, .int .i64 x.Number, .bool x.Names, .bool x.Soft, .bool x.Hard]
theorem enc_S_rewrite_Expr : Enc e_S_rewrite_Expr 9 := ⟨fun _ => rfl, fun _ => rfl, fun _ => rfl⟩
structure A4_uint64 where
 w0 : Int
 w1 : Int
 w2 : Int
 w3 : Int
structure S_tree_Node where
 Kind : Int
 A : Int
 B : Int
 Min : Int
 Max : Int
 Group : Int
 Set : A4_uint64
def e_S_tree_Node (x : S_tree_Node) : List AVal := [.int .i64 x.Kind, .int .i64 x.A, .int .i64 x.B, .int .i64 x.Min, .int .i64 x.Max, .int .i64 x.Group, .int .u64 x.Set.w0, .int .u64 x.Set.w1, .int .u64 x.Set.w2, .int .u64 x.Set.w3]
theorem enc_S_tree_Node : Enc e_S_tree_Node 10 := ⟨fun _ => rfl, fun _ => rfl, fun _ => rfl⟩
structure S_tree_Tree where
 Nodes : List S_tree_Node
 Root : Int
structure S_rex_walk where
 s_ : List UInt8
 at_ : Int
 extended_ : Bool
 t_ : S_tree_Tree
 groups_ : Int
 depth_ : Int
 wrong_ : Int
 full_ : Bool
structure S_subst_Part where
 Kind : Int
 Group : Int
 Bytes : List UInt8
def e_S_subst_Part (x : S_subst_Part) : List AVal := [.int .i64 x.Kind, .int .i64 x.Group, .str x.Bytes]
theorem enc_S_subst_Part : Enc e_S_subst_Part 3 := ⟨fun _ => rfl, fun _ => rfl, fun _ => rfl⟩
structure S_auto_state where
 kind_ : Int
 a_ : Int
 b_ : Int
 set_ : A4_uint64
def e_S_auto_state (x : S_auto_state) : List AVal := [.int .i64 x.kind_, .int .i64 x.a_, .int .i64 x.b_, .int .u64 x.set_.w0, .int .u64 x.set_.w1, .int .u64 x.set_.w2, .int .u64 x.set_.w3]
theorem enc_S_auto_state : Enc e_S_auto_state 7 := ⟨fun _ => rfl, fun _ => rfl, fun _ => rfl⟩
structure S_auto_Auto where
 l_ : List S_auto_state
 first_ : Int
def e_S_auto_Auto (x : S_auto_Auto) : List AVal := [vs e_S_auto_state x.l_, .int .i64 x.first_]
structure S_auto_maker where
 t_ : S_tree_Tree
 a_ : S_auto_Auto
 most_ : Int
 full_ : Bool
structure S_dfa_Dfa where
 column_ : (Nat → Int)
 columns_ : Int
 next_ : List Int
 ends_ : List Bool
 last_ : List Bool
 first_ : Int
 later_ : Int
 empty_ : Bool
structure S_dfa_maker where
 a_ : S_auto_Auto
 d_ : S_dfa_Dfa
 most_ : Int
 byte_ : List UInt8
 seen_ : List ((List UInt8) × Int)
 todo_ : List (List Int)
structure S_rewrite_Rule where
 x_ : S_rewrite_Expr
 t_ : S_tree_Tree
 d_ : S_dfa_Dfa
 parts_ : List S_subst_Part
def e_S_rewrite_Rule (x : S_rewrite_Rule) : List AVal := [.str x.x_.Re, .str x.x_.Template, .bool x.x_.Global, .bool x.x_.Fold, .bool x.x_.Extended, .int .i64 x.x_.Number, .bool x.x_.Names, .bool x.x_.Soft, .bool x.x_.Hard, vs e_S_tree_Node x.t_.Nodes, .int .i64 x.t_.Root, .vptr (big 256 (AVal.int .u8) x.d_.column_ ++ [.int .i64 x.d_.columns_, vs (eI .i32) x.d_.next_, vs eB x.d_.ends_, vs eB x.d_.last_, .int .i32 x.d_.first_, .int .i32 x.d_.later_, .bool x.d_.empty_]), vs e_S_subst_Part x.parts_]
structure S_scope_Rules where
 l_ : List S_rewrite_Rule
 name_ : Int
structure S_api_Stamp where
 Sec : Int
 Nsec : Int
structure S_api_Pair where
 Key : List UInt8
 Value : List UInt8
def e_S_api_Pair (x : S_api_Pair) : List AVal := [.str x.Key, .str x.Value]
theorem enc_S_api_Pair : Enc e_S_api_Pair 2 := ⟨fun _ => rfl, fun _ => rfl, fun _ => rfl⟩
structure S_api_Member where
 Name : List UInt8
 Link : List UInt8
 Kind : Int
 Mode : Int
 Uid : Int
 Gid : Int
 Uname : List UInt8
 Gname : List UInt8
 Major : Int
 Minor : Int
 Time : S_api_Stamp
 Extra : List S_api_Pair
 Data : List UInt8
def e_S_api_Member (x : S_api_Member) : List AVal := [.str x.Name, .str x.Link, .int .u8 x.Kind, .int .i64 x.Mode, .int .i64 x.Uid, .int .i64 x.Gid, .str x.Uname, .str x.Gname, .int .i64 x.Major, .int .i64 x.Minor, .int .i64 x.Time.Sec, .int .i64 x.Time.Nsec, vs e_S_api_Pair x.Extra, .str x.Data]
structure S_groups_Span where
 From : Int
 To : Int
 Is : Bool
def e_S_groups_Span (x : S_groups_Span) : List AVal := [.int .i64 x.From, .int .i64 x.To, .bool x.Is]
theorem enc_S_groups_Span : Enc e_S_groups_Span 3 := ⟨fun _ => rfl, fun _ => rfl, fun _ => rfl⟩
structure S_subst_turner where
 out_ : List UInt8
 all_ : Int
 next_ : Int
end Go.Av.L
