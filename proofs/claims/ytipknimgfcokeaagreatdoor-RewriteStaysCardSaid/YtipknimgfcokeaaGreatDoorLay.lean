/-
  Several texts in one.
-/
import Derived.Test.YtipknimgfcokeaaGreatDoorAvWalk
import Derived.Shelf.SlGeneric
import Derived.Shelf.SlIter.Nil
import Derived.Shelf.SortM.Plain
import Derived.Shelf.SortM.SortNone
import Derived.Shelf.SlicesE.Clone
import Derived.Shelf.Spec.SlicesGrow
import Derived.Ground.GgzProg
import Derived.Ground.SlgmProg
import Derived.Ground.SlgnProg
import Derived.Ground.Names8Prog
import Derived.Shelf.Lays
import Derived.Ground.NamesProg
import Derived.Test.YtipknimgfcokeaaGreatDoorProg
/-
  AV: a run that the kernel reckons fast: slots in a trie, values put into their plain forms. What it tells, the abstract run tells.
-/
section
namespace Go.Av
set_option linter.unusedVariables false
set_option linter.unusedSimpArgs false
noncomputable section
abbrev OV := Option (AB × AH)
inductive FV where
 | i (k : IntKind) (n : Int)
 | b (x : Bool)
 | p (id o : Nat)
 | o (v : AB)
def YE (t : Tr CR) (k : Tr CR → OV) : OV := Tr.rec (k .leaf) (fun l v r _ _ => k (.node l v r)) t
def YA (t : Tr CR) (i : Nat) : Option CR := Tr.rec (motive := fun _ => Nat → Option CR) (fun _ => none) (fun _ v _ l r i => Bool.rec (Bool.rec (r (i / 2 - 1)) (l (i / 2)) (Nat.beq (i % 2) 1)) v (Nat.beq i 0)) t i
def Pu (h : AH) (i : Nat) : Option CR := AH.rec (fun n t => Bool.rec none (YA t i) (Nat.blt i n)) h
structure BW where f : Int → Int
def YJ (k : IntKind) (lim m : Nat) : Int := Bool.rec (k.wrap (.ofNat m)) (.ofNat m) (Nat.blt m lim)
def XD (k : IntKind) : BW := ⟨fun n => Int.rec (fun m => YJ k (2 ^ (k.bits - 1)) m) (fun m => k.wrap (.negSucc m)) n⟩
inductive CJ where
 | mk (a0 a1 a2 a3 a4 a5 a6 a7 a8 a9 a10 a11 a12 a13 a14 a15 : FV)
def CJ.s0 (q : CJ) : FV := CJ.rec (fun a0 a1 a2 a3 a4 a5 a6 a7 a8 a9 a10 a11 a12 a13 a14 a15 => a0) q
def CJ.u0 (q : CJ) (x : FV) : CJ := CJ.rec (fun a0 a1 a2 a3 a4 a5 a6 a7 a8 a9 a10 a11 a12 a13 a14 a15 => .mk x a1 a2 a3 a4 a5 a6 a7 a8 a9 a10 a11 a12 a13 a14 a15) q
def CJ.s1 (q : CJ) : FV := CJ.rec (fun a0 a1 a2 a3 a4 a5 a6 a7 a8 a9 a10 a11 a12 a13 a14 a15 => a1) q
def CJ.u1 (q : CJ) (x : FV) : CJ := CJ.rec (fun a0 a1 a2 a3 a4 a5 a6 a7 a8 a9 a10 a11 a12 a13 a14 a15 => .mk a0 x a2 a3 a4 a5 a6 a7 a8 a9 a10 a11 a12 a13 a14 a15) q
def CJ.s2 (q : CJ) : FV := CJ.rec (fun a0 a1 a2 a3 a4 a5 a6 a7 a8 a9 a10 a11 a12 a13 a14 a15 => a2) q
def CJ.u2 (q : CJ) (x : FV) : CJ := CJ.rec (fun a0 a1 a2 a3 a4 a5 a6 a7 a8 a9 a10 a11 a12 a13 a14 a15 => .mk a0 a1 x a3 a4 a5 a6 a7 a8 a9 a10 a11 a12 a13 a14 a15) q
def CJ.s3 (q : CJ) : FV := CJ.rec (fun a0 a1 a2 a3 a4 a5 a6 a7 a8 a9 a10 a11 a12 a13 a14 a15 => a3) q
def CJ.u3 (q : CJ) (x : FV) : CJ := CJ.rec (fun a0 a1 a2 a3 a4 a5 a6 a7 a8 a9 a10 a11 a12 a13 a14 a15 => .mk a0 a1 a2 x a4 a5 a6 a7 a8 a9 a10 a11 a12 a13 a14 a15) q
def CJ.s4 (q : CJ) : FV := CJ.rec (fun a0 a1 a2 a3 a4 a5 a6 a7 a8 a9 a10 a11 a12 a13 a14 a15 => a4) q
def CJ.u4 (q : CJ) (x : FV) : CJ := CJ.rec (fun a0 a1 a2 a3 a4 a5 a6 a7 a8 a9 a10 a11 a12 a13 a14 a15 => .mk a0 a1 a2 a3 x a5 a6 a7 a8 a9 a10 a11 a12 a13 a14 a15) q
def CJ.s5 (q : CJ) : FV := CJ.rec (fun a0 a1 a2 a3 a4 a5 a6 a7 a8 a9 a10 a11 a12 a13 a14 a15 => a5) q
def CJ.u5 (q : CJ) (x : FV) : CJ := CJ.rec (fun a0 a1 a2 a3 a4 a5 a6 a7 a8 a9 a10 a11 a12 a13 a14 a15 => .mk a0 a1 a2 a3 a4 x a6 a7 a8 a9 a10 a11 a12 a13 a14 a15) q
def CJ.s6 (q : CJ) : FV := CJ.rec (fun a0 a1 a2 a3 a4 a5 a6 a7 a8 a9 a10 a11 a12 a13 a14 a15 => a6) q
def CJ.u6 (q : CJ) (x : FV) : CJ := CJ.rec (fun a0 a1 a2 a3 a4 a5 a6 a7 a8 a9 a10 a11 a12 a13 a14 a15 => .mk a0 a1 a2 a3 a4 a5 x a7 a8 a9 a10 a11 a12 a13 a14 a15) q
def CJ.s7 (q : CJ) : FV := CJ.rec (fun a0 a1 a2 a3 a4 a5 a6 a7 a8 a9 a10 a11 a12 a13 a14 a15 => a7) q
def CJ.u7 (q : CJ) (x : FV) : CJ := CJ.rec (fun a0 a1 a2 a3 a4 a5 a6 a7 a8 a9 a10 a11 a12 a13 a14 a15 => .mk a0 a1 a2 a3 a4 a5 a6 x a8 a9 a10 a11 a12 a13 a14 a15) q
def CJ.s8 (q : CJ) : FV := CJ.rec (fun a0 a1 a2 a3 a4 a5 a6 a7 a8 a9 a10 a11 a12 a13 a14 a15 => a8) q
def CJ.u8 (q : CJ) (x : FV) : CJ := CJ.rec (fun a0 a1 a2 a3 a4 a5 a6 a7 a8 a9 a10 a11 a12 a13 a14 a15 => .mk a0 a1 a2 a3 a4 a5 a6 a7 x a9 a10 a11 a12 a13 a14 a15) q
def CJ.s9 (q : CJ) : FV := CJ.rec (fun a0 a1 a2 a3 a4 a5 a6 a7 a8 a9 a10 a11 a12 a13 a14 a15 => a9) q
def CJ.u9 (q : CJ) (x : FV) : CJ := CJ.rec (fun a0 a1 a2 a3 a4 a5 a6 a7 a8 a9 a10 a11 a12 a13 a14 a15 => .mk a0 a1 a2 a3 a4 a5 a6 a7 a8 x a10 a11 a12 a13 a14 a15) q
def CJ.XU (q : CJ) : FV := CJ.rec (fun a0 a1 a2 a3 a4 a5 a6 a7 a8 a9 a10 a11 a12 a13 a14 a15 => a10) q
def CJ.XL (q : CJ) (x : FV) : CJ := CJ.rec (fun a0 a1 a2 a3 a4 a5 a6 a7 a8 a9 a10 a11 a12 a13 a14 a15 => .mk a0 a1 a2 a3 a4 a5 a6 a7 a8 a9 x a11 a12 a13 a14 a15) q
def CJ.XY (q : CJ) : FV := CJ.rec (fun a0 a1 a2 a3 a4 a5 a6 a7 a8 a9 a10 a11 a12 a13 a14 a15 => a11) q
def CJ.Xx (q : CJ) (x : FV) : CJ := CJ.rec (fun a0 a1 a2 a3 a4 a5 a6 a7 a8 a9 a10 a11 a12 a13 a14 a15 => .mk a0 a1 a2 a3 a4 a5 a6 a7 a8 a9 a10 x a12 a13 a14 a15) q
def CJ.Xt (q : CJ) : FV := CJ.rec (fun a0 a1 a2 a3 a4 a5 a6 a7 a8 a9 a10 a11 a12 a13 a14 a15 => a12) q
def CJ.Xv (q : CJ) (x : FV) : CJ := CJ.rec (fun a0 a1 a2 a3 a4 a5 a6 a7 a8 a9 a10 a11 a12 a13 a14 a15 => .mk a0 a1 a2 a3 a4 a5 a6 a7 a8 a9 a10 a11 x a13 a14 a15) q
def CJ.XW (q : CJ) : FV := CJ.rec (fun a0 a1 a2 a3 a4 a5 a6 a7 a8 a9 a10 a11 a12 a13 a14 a15 => a13) q
def CJ.Xs (q : CJ) (x : FV) : CJ := CJ.rec (fun a0 a1 a2 a3 a4 a5 a6 a7 a8 a9 a10 a11 a12 a13 a14 a15 => .mk a0 a1 a2 a3 a4 a5 a6 a7 a8 a9 a10 a11 a12 x a14 a15) q
def CJ.XZ (q : CJ) : FV := CJ.rec (fun a0 a1 a2 a3 a4 a5 a6 a7 a8 a9 a10 a11 a12 a13 a14 a15 => a14) q
def CJ.Xe (q : CJ) (x : FV) : CJ := CJ.rec (fun a0 a1 a2 a3 a4 a5 a6 a7 a8 a9 a10 a11 a12 a13 a14 a15 => .mk a0 a1 a2 a3 a4 a5 a6 a7 a8 a9 a10 a11 a12 a13 x a15) q
def CJ.Xm (q : CJ) : FV := CJ.rec (fun a0 a1 a2 a3 a4 a5 a6 a7 a8 a9 a10 a11 a12 a13 a14 a15 => a15) q
def CJ.Xq (q : CJ) (x : FV) : CJ := CJ.rec (fun a0 a1 a2 a3 a4 a5 a6 a7 a8 a9 a10 a11 a12 a13 a14 a15 => .mk a0 a1 a2 a3 a4 a5 a6 a7 a8 a9 a10 a11 a12 a13 a14 x) q
structure WW where
 s : CJ → FV
 u : CJ → FV → CJ
def qb (i : Nat) : WW :=
 match i with
 | 0 => ⟨CJ.s0, CJ.u0⟩
 | 1 => ⟨CJ.s1, CJ.u1⟩
 | 2 => ⟨CJ.s2, CJ.u2⟩
 | 3 => ⟨CJ.s3, CJ.u3⟩
 | 4 => ⟨CJ.s4, CJ.u4⟩
 | 5 => ⟨CJ.s5, CJ.u5⟩
 | 6 => ⟨CJ.s6, CJ.u6⟩
 | 7 => ⟨CJ.s7, CJ.u7⟩
 | 8 => ⟨CJ.s8, CJ.u8⟩
 | 9 => ⟨CJ.s9, CJ.u9⟩
 | 10 => ⟨CJ.XU, CJ.XL⟩
 | 11 => ⟨CJ.XY, CJ.Xx⟩
 | 12 => ⟨CJ.Xt, CJ.Xv⟩
 | 13 => ⟨CJ.XW, CJ.Xs⟩
 | 14 => ⟨CJ.XZ, CJ.Xe⟩
 | _ => ⟨CJ.Xm, CJ.Xq⟩
inductive FT where
 | mk (a0 a1 a2 a3 a4 a5 a6 a7 a8 a9 a10 a11 a12 a13 a14 a15 : CJ)
def FT.s0 (q : FT) : CJ := FT.rec (fun a0 a1 a2 a3 a4 a5 a6 a7 a8 a9 a10 a11 a12 a13 a14 a15 => a0) q
def FT.u0 (q : FT) (x : CJ) : FT := FT.rec (fun a0 a1 a2 a3 a4 a5 a6 a7 a8 a9 a10 a11 a12 a13 a14 a15 => .mk x a1 a2 a3 a4 a5 a6 a7 a8 a9 a10 a11 a12 a13 a14 a15) q
def FT.s1 (q : FT) : CJ := FT.rec (fun a0 a1 a2 a3 a4 a5 a6 a7 a8 a9 a10 a11 a12 a13 a14 a15 => a1) q
def FT.u1 (q : FT) (x : CJ) : FT := FT.rec (fun a0 a1 a2 a3 a4 a5 a6 a7 a8 a9 a10 a11 a12 a13 a14 a15 => .mk a0 x a2 a3 a4 a5 a6 a7 a8 a9 a10 a11 a12 a13 a14 a15) q
def FT.s2 (q : FT) : CJ := FT.rec (fun a0 a1 a2 a3 a4 a5 a6 a7 a8 a9 a10 a11 a12 a13 a14 a15 => a2) q
def FT.u2 (q : FT) (x : CJ) : FT := FT.rec (fun a0 a1 a2 a3 a4 a5 a6 a7 a8 a9 a10 a11 a12 a13 a14 a15 => .mk a0 a1 x a3 a4 a5 a6 a7 a8 a9 a10 a11 a12 a13 a14 a15) q
def FT.s3 (q : FT) : CJ := FT.rec (fun a0 a1 a2 a3 a4 a5 a6 a7 a8 a9 a10 a11 a12 a13 a14 a15 => a3) q
def FT.u3 (q : FT) (x : CJ) : FT := FT.rec (fun a0 a1 a2 a3 a4 a5 a6 a7 a8 a9 a10 a11 a12 a13 a14 a15 => .mk a0 a1 a2 x a4 a5 a6 a7 a8 a9 a10 a11 a12 a13 a14 a15) q
def FT.s4 (q : FT) : CJ := FT.rec (fun a0 a1 a2 a3 a4 a5 a6 a7 a8 a9 a10 a11 a12 a13 a14 a15 => a4) q
def FT.u4 (q : FT) (x : CJ) : FT := FT.rec (fun a0 a1 a2 a3 a4 a5 a6 a7 a8 a9 a10 a11 a12 a13 a14 a15 => .mk a0 a1 a2 a3 x a5 a6 a7 a8 a9 a10 a11 a12 a13 a14 a15) q
def FT.s5 (q : FT) : CJ := FT.rec (fun a0 a1 a2 a3 a4 a5 a6 a7 a8 a9 a10 a11 a12 a13 a14 a15 => a5) q
def FT.u5 (q : FT) (x : CJ) : FT := FT.rec (fun a0 a1 a2 a3 a4 a5 a6 a7 a8 a9 a10 a11 a12 a13 a14 a15 => .mk a0 a1 a2 a3 a4 x a6 a7 a8 a9 a10 a11 a12 a13 a14 a15) q
def FT.s6 (q : FT) : CJ := FT.rec (fun a0 a1 a2 a3 a4 a5 a6 a7 a8 a9 a10 a11 a12 a13 a14 a15 => a6) q
def FT.u6 (q : FT) (x : CJ) : FT := FT.rec (fun a0 a1 a2 a3 a4 a5 a6 a7 a8 a9 a10 a11 a12 a13 a14 a15 => .mk a0 a1 a2 a3 a4 a5 x a7 a8 a9 a10 a11 a12 a13 a14 a15) q
def FT.s7 (q : FT) : CJ := FT.rec (fun a0 a1 a2 a3 a4 a5 a6 a7 a8 a9 a10 a11 a12 a13 a14 a15 => a7) q
def FT.u7 (q : FT) (x : CJ) : FT := FT.rec (fun a0 a1 a2 a3 a4 a5 a6 a7 a8 a9 a10 a11 a12 a13 a14 a15 => .mk a0 a1 a2 a3 a4 a5 a6 x a8 a9 a10 a11 a12 a13 a14 a15) q
def FT.s8 (q : FT) : CJ := FT.rec (fun a0 a1 a2 a3 a4 a5 a6 a7 a8 a9 a10 a11 a12 a13 a14 a15 => a8) q
def FT.u8 (q : FT) (x : CJ) : FT := FT.rec (fun a0 a1 a2 a3 a4 a5 a6 a7 a8 a9 a10 a11 a12 a13 a14 a15 => .mk a0 a1 a2 a3 a4 a5 a6 a7 x a9 a10 a11 a12 a13 a14 a15) q
def FT.s9 (q : FT) : CJ := FT.rec (fun a0 a1 a2 a3 a4 a5 a6 a7 a8 a9 a10 a11 a12 a13 a14 a15 => a9) q
def FT.u9 (q : FT) (x : CJ) : FT := FT.rec (fun a0 a1 a2 a3 a4 a5 a6 a7 a8 a9 a10 a11 a12 a13 a14 a15 => .mk a0 a1 a2 a3 a4 a5 a6 a7 a8 x a10 a11 a12 a13 a14 a15) q
def FT.XU (q : FT) : CJ := FT.rec (fun a0 a1 a2 a3 a4 a5 a6 a7 a8 a9 a10 a11 a12 a13 a14 a15 => a10) q
def FT.XL (q : FT) (x : CJ) : FT := FT.rec (fun a0 a1 a2 a3 a4 a5 a6 a7 a8 a9 a10 a11 a12 a13 a14 a15 => .mk a0 a1 a2 a3 a4 a5 a6 a7 a8 a9 x a11 a12 a13 a14 a15) q
def FT.XY (q : FT) : CJ := FT.rec (fun a0 a1 a2 a3 a4 a5 a6 a7 a8 a9 a10 a11 a12 a13 a14 a15 => a11) q
def FT.Xx (q : FT) (x : CJ) : FT := FT.rec (fun a0 a1 a2 a3 a4 a5 a6 a7 a8 a9 a10 a11 a12 a13 a14 a15 => .mk a0 a1 a2 a3 a4 a5 a6 a7 a8 a9 a10 x a12 a13 a14 a15) q
def FT.Xt (q : FT) : CJ := FT.rec (fun a0 a1 a2 a3 a4 a5 a6 a7 a8 a9 a10 a11 a12 a13 a14 a15 => a12) q
def FT.Xv (q : FT) (x : CJ) : FT := FT.rec (fun a0 a1 a2 a3 a4 a5 a6 a7 a8 a9 a10 a11 a12 a13 a14 a15 => .mk a0 a1 a2 a3 a4 a5 a6 a7 a8 a9 a10 a11 x a13 a14 a15) q
def FT.XW (q : FT) : CJ := FT.rec (fun a0 a1 a2 a3 a4 a5 a6 a7 a8 a9 a10 a11 a12 a13 a14 a15 => a13) q
def FT.Xs (q : FT) (x : CJ) : FT := FT.rec (fun a0 a1 a2 a3 a4 a5 a6 a7 a8 a9 a10 a11 a12 a13 a14 a15 => .mk a0 a1 a2 a3 a4 a5 a6 a7 a8 a9 a10 a11 a12 x a14 a15) q
def FT.XZ (q : FT) : CJ := FT.rec (fun a0 a1 a2 a3 a4 a5 a6 a7 a8 a9 a10 a11 a12 a13 a14 a15 => a14) q
def FT.Xe (q : FT) (x : CJ) : FT := FT.rec (fun a0 a1 a2 a3 a4 a5 a6 a7 a8 a9 a10 a11 a12 a13 a14 a15 => .mk a0 a1 a2 a3 a4 a5 a6 a7 a8 a9 a10 a11 a12 a13 x a15) q
def FT.Xm (q : FT) : CJ := FT.rec (fun a0 a1 a2 a3 a4 a5 a6 a7 a8 a9 a10 a11 a12 a13 a14 a15 => a15) q
def FT.Xq (q : FT) (x : CJ) : FT := FT.rec (fun a0 a1 a2 a3 a4 a5 a6 a7 a8 a9 a10 a11 a12 a13 a14 a15 => .mk a0 a1 a2 a3 a4 a5 a6 a7 a8 a9 a10 a11 a12 a13 a14 x) q
structure X4 where
 s : FT → CJ
 u : FT → CJ → FT
def fb (i : Nat) : X4 :=
 match i with
 | 0 => ⟨FT.s0, FT.u0⟩
 | 1 => ⟨FT.s1, FT.u1⟩
 | 2 => ⟨FT.s2, FT.u2⟩
 | 3 => ⟨FT.s3, FT.u3⟩
 | 4 => ⟨FT.s4, FT.u4⟩
 | 5 => ⟨FT.s5, FT.u5⟩
 | 6 => ⟨FT.s6, FT.u6⟩
 | 7 => ⟨FT.s7, FT.u7⟩
 | 8 => ⟨FT.s8, FT.u8⟩
 | 9 => ⟨FT.s9, FT.u9⟩
 | 10 => ⟨FT.XU, FT.XL⟩
 | 11 => ⟨FT.XY, FT.Xx⟩
 | 12 => ⟨FT.Xt, FT.Xv⟩
 | 13 => ⟨FT.XW, FT.Xs⟩
 | 14 => ⟨FT.XZ, FT.Xe⟩
 | _ => ⟨FT.Xm, FT.Xq⟩
structure Slot where
 s : FT → FV
 u : FT → FV → FT
def YL (q : CJ) (k : CJ → FT) : FT := CJ.rec (fun a0 a1 a2 a3 a4 a5 a6 a7 a8 a9 a10 a11 a12 a13 a14 a15 => k (.mk a0 a1 a2 a3 a4 a5 a6 a7 a8 a9 a10 a11 a12 a13 a14 a15)) q
def WI (a : WW) (b : X4) : Slot := ⟨fun t => a.s (b.s t), fun t v => YL (a.u (b.s t) v) fun q => b.u t q⟩
def slot (i : Nat) : Slot := WI (qb (i % 16)) (fb (i / 16))
def YB (t : Tr CR) (i : Nat) (x : CR) : Tr CR :=
 Tr.rec (motive := fun _ => Nat → Tr CR) (fun i => Tr.set (i + 1) .leaf i x) (fun l v r ihl ihr i => Bool.rec (Bool.rec (.node l v (ihr (i / 2 - 1))) (.node (ihl (i / 2)) v r) (Nat.beq (i % 2) 1)) (.node l (some x) r) (Nat.beq i 0)) t i
def W2 (h : AH) (i : Nat) (o : CR) (k : AH → OV) : OV := AH.rec (fun n t => YE (YB t i o) fun t => k ⟨n, t⟩) h
end
end Go.Av
end
/-
  Functions of Go's library at this program: what the kit's contracts ask of them. Written by a program.
-/
section
namespace Go.Proofs
open Go.Shelf
def Tryz.Rr : Go.Shelf.Ren := ⟨fun | 145 => 114 | 220 => 118 | 219 => 125 | 217 => 110 | 225 => 131 | 224 => 132 | 267 => 133 | 266 => 116 | 314 => 136 | n => n, fun | 9 => 9 | 4 => 4 | 59 => 200 | 3 => 3 | 5 => 5 | 46 => 131 | 146 => 218 | 51 => 214 | n => n, fun | 1 => 2 | n => n⟩
theorem Tryz.Vw : Go.Proofs.Lays.n145 Tryz.prog Tryz.Rr := {
 mixed := by kernel_rfl
 f145 := Tryz.func114.trans (congrArg some (by kernel_rfl))
 f217 := Tryz.func110.trans (congrArg some (by kernel_rfl))
 f219 := Tryz.func125.trans (congrArg some (by kernel_rfl))
 f220 := Tryz.func118.trans (congrArg some (by kernel_rfl))
 f224 := Tryz.func132.trans (congrArg some (by kernel_rfl))
 f225 := Tryz.func131.trans (congrArg some (by kernel_rfl))
 f266 := Tryz.func116.trans (congrArg some (by kernel_rfl))
 f267 := Tryz.func133.trans (congrArg some (by kernel_rfl))
 f314 := Tryz.func136.trans (congrArg some (by kernel_rfl))
 t3 := Tryz.underlying3
 a3 := Tryz.isAgg3
 z3 := Tryz.sizeOf3
 v3 := Tryz.zeroValue3
 t4 := Tryz.underlying4
 a4 := Tryz.isAgg4
 z4 := Tryz.sizeOf4
 v4 := Tryz.zeroValue4
 t5 := Tryz.underlying5
 a5 := Tryz.isAgg5
 z5 := Tryz.sizeOf5
 v5 := Tryz.zeroValue5
 t9 := Tryz.underlying9
 a9 := Tryz.isAgg9
 z9 := Tryz.sizeOf9
 v9 := Tryz.zeroValue9
 t46 := Tryz.underlying131
 a46 := Tryz.isAgg131
 z46 := Tryz.sizeOf131
 v46 := Tryz.zeroValue131
 t51 := Tryz.underlying214
 a51 := Tryz.isAgg214
 z51 := Tryz.sizeOf214
 v51 := Tryz.zeroValue214
 t59 := Tryz.underlying200
 a59 := Tryz.isAgg200
 z59 := Tryz.sizeOf200
 v59 := Tryz.zeroValue200
 t146 := Tryz.underlying218
 a146 := Tryz.isAgg218
 z146 := Tryz.sizeOf218
 v146 := Tryz.zeroValue218
 g1 := by kernel_rfl }
def Tryz.QC : Go.Shelf.Ren := ⟨fun | 41 => 67 | n => n, fun | 22 => 63 | 23 => 3 | 4 => 4 | n => n, fun | n => n⟩
theorem Tryz.Uc : Go.Proofs.SlLaysE0.n41 Tryz.prog Tryz.QC := {
 mixed := by kernel_rfl
 f41 := ⟨Tryz.f67.name, by decide, Tryz.func67.trans (congrArg some (by kernel_rfl))⟩
 t4 := Tryz.underlying4
 a4 := Tryz.isAgg4
 z4 := Tryz.sizeOf4
 v4 := Tryz.zeroValue4
 t22 := Tryz.underlying63
 a22 := Tryz.isAgg63
 z22 := Tryz.sizeOf63
 v22 := Tryz.zeroValue63 }
end Go.Proofs
end
