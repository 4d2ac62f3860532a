/-
  The run: which functions are run how, and in which order regions that draw are run. Written by lift2.py.
-/
import Derived.Test.YteeaeioplbameaaAvLib
import Derived.Test.YteeaeioplbameaaAvYld
import Derived.Test.YteeaeioplbameaaAvMap
import Derived.Test.YteeaeioplbameaaAvArr
import Derived.Test.YteeaeioplbameaaAvChan
import Derived.Test.YteeaeioplbameaaProg
namespace Go.Av.L
open Go.Av Go.Lib
set_option linter.unusedSimpArgs false
set_option linter.unusedVariables false
def kinds : List Nat := [0, 0, 0, 1, 1, 1, 1, 4, 8, 1, 1, 1, 1, 1, 1, 1, 8, 7, 7, 1, 0, 0, 0, 0, 0, 0, 0, 0, 0, 0, 0, 0, 0, 0, 0, 0]
def plans : List ((Nat × Nat) × List (Nat × List Nat)) := [((3, 19), [(0, []), (1, []), (2, []), (3, []), (4, []), (5, []), (6, []), (7, []), (8, []), (9, []), (10, []), (11, []), (12, []), (13, []), (14, []), (15, []), (16, []), (17, []), (18, []), (19, []), (20, []), (21, []), (22, [])]),
  ((5, 10), [(0, []), (1, []), (2, []), (3, []), (4, []), (5, []), (10, []), (6, [10]), (7, []), (8, []), (9, []), (11, []), (12, [])]),
  ((5, 12), [(0, []), (1, []), (2, []), (3, []), (5, []), (4, [5]), (6, []), (7, []), (8, []), (9, []), (10, []), (11, []), (13, []), (14, []), (12, [14]), (15, []), (16, []), (17, []), (18, []), (19, []), (21, []), (22, []), (20, [22]), (23, []), (24, [])]),
  ((12, 4), [(0, []), (1, []), (2, []), (3, []), (4, []), (5, [0]), (6, []), (7, []), (8, []), (9, [])]),
  ((12, 10), [(0, []), (1, []), (2, []), (3, []), (4, []), (5, []), (6, []), (7, []), (8, []), (9, []), (10, []), (11, []), (12, []), (13, [9]), (14, [])]),
  ((12, 14), [(0, []), (1, []), (3, []), (4, []), (5, []), (2, [5]), (6, []), (7, []), (8, []), (9, []), (10, []), (11, []), (12, [])])]
def stills : List (Nat × List Bool) := [(3, [false, true, true]), (5, [true]), (12, [false, true, true]), (13, [true]), (17, [true, false]), (18, [true, false])]
def globs : List (Nat × List AVal) := []
def exts : List (Nat × Nat × Nat × Nat) := []
noncomputable def cfg : Cfg := ⟨Go.Proofs.Try.prog, lookN kinds, lookPlan plans, extL Go.Proofs.Try.prog exts, lookG globs, rokOf Go.Proofs.Try.prog (lookPlan plans), lookB stills⟩
theorem exts_ok : ∀ p ∈ exts, ExtOk cfg.P cfg.glob p.1 (extC cfg.P p.2) := by
  intro p hp
  simp only [exts, List.mem_cons, List.not_mem_nil, or_false] at hp
theorem cfg_ok : CfgOk cfg := cfgOk_lib (ks := kinds) (l := exts) rfl (by kernel_rfl) (by kernel_rfl) rfl rfl (by kernel_rfl) exts_ok
structure S_feed_Feed where
  wait_ : List (List UInt8)
  now_ : List UInt8
  size_ : Int
  closed_ : Bool
structure S_boulterlaw08_Op where
  Kind : Int
  N : Int
  S : List UInt8
def e_S_boulterlaw08_Op (x : S_boulterlaw08_Op) : List AVal := [.int .i64 x.Kind, .int .i64 x.N, .str x.S]
theorem enc_S_boulterlaw08_Op : Enc e_S_boulterlaw08_Op 3 := ⟨fun _ => rfl, fun _ => rfl, fun _ => rfl⟩
structure S_boulterref08_State where
  L : List (List UInt8)
  Closed : Bool
def e_S_boulterref08_State (x : S_boulterref08_State) : List AVal := [vs eS x.L, .bool x.Closed]
theorem enc_S_boulterref08_State : Enc e_S_boulterref08_State 2 := ⟨fun _ => rfl, fun _ => rfl, fun _ => rfl⟩
end Go.Av.L
