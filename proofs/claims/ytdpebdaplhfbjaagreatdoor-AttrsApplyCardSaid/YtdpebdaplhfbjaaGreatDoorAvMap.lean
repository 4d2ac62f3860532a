/-
  AV: maps of one's own, as plain lists of keys and values.
-/
import Derived.Test.YtdpebdaplhfbjaaGreatDoorAvTy
namespace Go.Av
set_option linter.unusedVariables false
set_option linter.unusedSimpArgs false
section
variable {K V : Type} [DecidableEq K]
def mfind : List (K × V) → K → Option V
 | [], _ => none
 | (k', v) :: r, k => if k = k' then some v else mfind r k
def mput : List (K × V) → K → V → List (K × V)
 | [], k, v => [(k, v)]
 | (k', v') :: r, k, v => if k = k' then (k, v) :: r else (k', v') :: mput r k v
variable {P : Program} {t kt et : TypeId} {ek : K → AVal} {ev : V → AVal} {g : Gd} {h : AHeap} {L F : List Ck}
end
end Go.Av
