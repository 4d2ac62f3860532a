/-
  AV: a run that the kernel reckons fast: slots in a trie, values put into their plain forms. What it tells, the abstract run tells.
-/
import Derived.Test.YthnnciphldbmeaaGreatDoorAvWalk
namespace Go.Av
set_option linter.unusedVariables false
set_option linter.unusedSimpArgs false
noncomputable section
abbrev OV := Option (AA × AH)
inductive FV where
 | i (k : IntKind) (n : Int)
 | b (x : Bool)
 | p (id o : Nat)
 | o (v : AA)
def X2 (t : Tr B4) (k : Tr B4 → OV) : OV := Tr.rec (k .leaf) (fun l v r _ _ => k (.node l v r)) t
def YH (t : Tr B4) (i : Nat) : Option B4 := Tr.rec (motive := fun _ => Nat → Option B4) (fun _ => none) (fun _ v _ l r i => Bool.rec (Bool.rec (r (i / 2 - 1)) (l (i / 2)) (Nat.beq (i % 2) 1)) v (Nat.beq i 0)) t i
def Nu (h : AH) (i : Nat) : Option B4 := AH.rec (fun n t => Bool.rec none (YH t i) (Nat.blt i n)) h
def kn : IntKind → Nat
 | .i8 => 0 | .i16 => 1 | .i32 => 2 | .i64 => 3 | .u8 => 4 | .u16 => 5 | .u32 => 6 | .u64 => 7
structure BW where f : Int → Int
def X8 (k : IntKind) (lim m : Nat) : Int := Bool.rec (k.wrap (.ofNat m)) (.ofNat m) (Nat.blt m lim)
def XE (k : IntKind) : BW := ⟨fun n => Int.rec (fun m => X8 k (2 ^ (k.bits - 1)) m) (fun m => k.wrap (.negSucc m)) n⟩
inductive B2 where
 | mk (a0 a1 a2 a3 a4 a5 a6 a7 a8 a9 a10 a11 a12 a13 a14 a15 : FV)
def B2.s0 (q : B2) : FV := B2.rec (fun a0 a1 a2 a3 a4 a5 a6 a7 a8 a9 a10 a11 a12 a13 a14 a15 => a0) q
def B2.u0 (q : B2) (x : FV) : B2 := B2.rec (fun a0 a1 a2 a3 a4 a5 a6 a7 a8 a9 a10 a11 a12 a13 a14 a15 => .mk x a1 a2 a3 a4 a5 a6 a7 a8 a9 a10 a11 a12 a13 a14 a15) q
def B2.s1 (q : B2) : FV := B2.rec (fun a0 a1 a2 a3 a4 a5 a6 a7 a8 a9 a10 a11 a12 a13 a14 a15 => a1) q
def B2.u1 (q : B2) (x : FV) : B2 := B2.rec (fun a0 a1 a2 a3 a4 a5 a6 a7 a8 a9 a10 a11 a12 a13 a14 a15 => .mk a0 x a2 a3 a4 a5 a6 a7 a8 a9 a10 a11 a12 a13 a14 a15) q
def B2.s2 (q : B2) : FV := B2.rec (fun a0 a1 a2 a3 a4 a5 a6 a7 a8 a9 a10 a11 a12 a13 a14 a15 => a2) q
def B2.u2 (q : B2) (x : FV) : B2 := B2.rec (fun a0 a1 a2 a3 a4 a5 a6 a7 a8 a9 a10 a11 a12 a13 a14 a15 => .mk a0 a1 x a3 a4 a5 a6 a7 a8 a9 a10 a11 a12 a13 a14 a15) q
def B2.s3 (q : B2) : FV := B2.rec (fun a0 a1 a2 a3 a4 a5 a6 a7 a8 a9 a10 a11 a12 a13 a14 a15 => a3) q
def B2.u3 (q : B2) (x : FV) : B2 := B2.rec (fun a0 a1 a2 a3 a4 a5 a6 a7 a8 a9 a10 a11 a12 a13 a14 a15 => .mk a0 a1 a2 x a4 a5 a6 a7 a8 a9 a10 a11 a12 a13 a14 a15) q
def B2.s4 (q : B2) : FV := B2.rec (fun a0 a1 a2 a3 a4 a5 a6 a7 a8 a9 a10 a11 a12 a13 a14 a15 => a4) q
def B2.u4 (q : B2) (x : FV) : B2 := B2.rec (fun a0 a1 a2 a3 a4 a5 a6 a7 a8 a9 a10 a11 a12 a13 a14 a15 => .mk a0 a1 a2 a3 x a5 a6 a7 a8 a9 a10 a11 a12 a13 a14 a15) q
def B2.s5 (q : B2) : FV := B2.rec (fun a0 a1 a2 a3 a4 a5 a6 a7 a8 a9 a10 a11 a12 a13 a14 a15 => a5) q
def B2.u5 (q : B2) (x : FV) : B2 := B2.rec (fun a0 a1 a2 a3 a4 a5 a6 a7 a8 a9 a10 a11 a12 a13 a14 a15 => .mk a0 a1 a2 a3 a4 x a6 a7 a8 a9 a10 a11 a12 a13 a14 a15) q
def B2.s6 (q : B2) : FV := B2.rec (fun a0 a1 a2 a3 a4 a5 a6 a7 a8 a9 a10 a11 a12 a13 a14 a15 => a6) q
def B2.u6 (q : B2) (x : FV) : B2 := B2.rec (fun a0 a1 a2 a3 a4 a5 a6 a7 a8 a9 a10 a11 a12 a13 a14 a15 => .mk a0 a1 a2 a3 a4 a5 x a7 a8 a9 a10 a11 a12 a13 a14 a15) q
def B2.s7 (q : B2) : FV := B2.rec (fun a0 a1 a2 a3 a4 a5 a6 a7 a8 a9 a10 a11 a12 a13 a14 a15 => a7) q
def B2.u7 (q : B2) (x : FV) : B2 := B2.rec (fun a0 a1 a2 a3 a4 a5 a6 a7 a8 a9 a10 a11 a12 a13 a14 a15 => .mk a0 a1 a2 a3 a4 a5 a6 x a8 a9 a10 a11 a12 a13 a14 a15) q
def B2.s8 (q : B2) : FV := B2.rec (fun a0 a1 a2 a3 a4 a5 a6 a7 a8 a9 a10 a11 a12 a13 a14 a15 => a8) q
def B2.u8 (q : B2) (x : FV) : B2 := B2.rec (fun a0 a1 a2 a3 a4 a5 a6 a7 a8 a9 a10 a11 a12 a13 a14 a15 => .mk a0 a1 a2 a3 a4 a5 a6 a7 x a9 a10 a11 a12 a13 a14 a15) q
def B2.s9 (q : B2) : FV := B2.rec (fun a0 a1 a2 a3 a4 a5 a6 a7 a8 a9 a10 a11 a12 a13 a14 a15 => a9) q
def B2.u9 (q : B2) (x : FV) : B2 := B2.rec (fun a0 a1 a2 a3 a4 a5 a6 a7 a8 a9 a10 a11 a12 a13 a14 a15 => .mk a0 a1 a2 a3 a4 a5 a6 a7 a8 x a10 a11 a12 a13 a14 a15) q
def B2.Xe (q : B2) : FV := B2.rec (fun a0 a1 a2 a3 a4 a5 a6 a7 a8 a9 a10 a11 a12 a13 a14 a15 => a10) q
def B2.Xa (q : B2) (x : FV) : B2 := B2.rec (fun a0 a1 a2 a3 a4 a5 a6 a7 a8 a9 a10 a11 a12 a13 a14 a15 => .mk a0 a1 a2 a3 a4 a5 a6 a7 a8 a9 x a11 a12 a13 a14 a15) q
def B2.Xg (q : B2) : FV := B2.rec (fun a0 a1 a2 a3 a4 a5 a6 a7 a8 a9 a10 a11 a12 a13 a14 a15 => a11) q
def B2.Xb (q : B2) (x : FV) : B2 := B2.rec (fun a0 a1 a2 a3 a4 a5 a6 a7 a8 a9 a10 a11 a12 a13 a14 a15 => .mk a0 a1 a2 a3 a4 a5 a6 a7 a8 a9 a10 x a12 a13 a14 a15) q
def B2.Xn (q : B2) : FV := B2.rec (fun a0 a1 a2 a3 a4 a5 a6 a7 a8 a9 a10 a11 a12 a13 a14 a15 => a12) q
def B2.Xl (q : B2) (x : FV) : B2 := B2.rec (fun a0 a1 a2 a3 a4 a5 a6 a7 a8 a9 a10 a11 a12 a13 a14 a15 => .mk a0 a1 a2 a3 a4 a5 a6 a7 a8 a9 a10 a11 x a13 a14 a15) q
def B2.XO (q : B2) : FV := B2.rec (fun a0 a1 a2 a3 a4 a5 a6 a7 a8 a9 a10 a11 a12 a13 a14 a15 => a13) q
def B2.Xf (q : B2) (x : FV) : B2 := B2.rec (fun a0 a1 a2 a3 a4 a5 a6 a7 a8 a9 a10 a11 a12 a13 a14 a15 => .mk a0 a1 a2 a3 a4 a5 a6 a7 a8 a9 a10 a11 a12 x a14 a15) q
def B2.Xd (q : B2) : FV := B2.rec (fun a0 a1 a2 a3 a4 a5 a6 a7 a8 a9 a10 a11 a12 a13 a14 a15 => a14) q
def B2.XN (q : B2) (x : FV) : B2 := B2.rec (fun a0 a1 a2 a3 a4 a5 a6 a7 a8 a9 a10 a11 a12 a13 a14 a15 => .mk a0 a1 a2 a3 a4 a5 a6 a7 a8 a9 a10 a11 a12 a13 x a15) q
def B2.XV (q : B2) : FV := B2.rec (fun a0 a1 a2 a3 a4 a5 a6 a7 a8 a9 a10 a11 a12 a13 a14 a15 => a15) q
def B2.Xo (q : B2) (x : FV) : B2 := B2.rec (fun a0 a1 a2 a3 a4 a5 a6 a7 a8 a9 a10 a11 a12 a13 a14 a15 => .mk a0 a1 a2 a3 a4 a5 a6 a7 a8 a9 a10 a11 a12 a13 a14 x) q
structure Wx where
 s : B2 → FV
 u : B2 → FV → B2
def qb (i : Nat) : Wx :=
 match i with
 | 0 => ⟨B2.s0, B2.u0⟩
 | 1 => ⟨B2.s1, B2.u1⟩
 | 2 => ⟨B2.s2, B2.u2⟩
 | 3 => ⟨B2.s3, B2.u3⟩
 | 4 => ⟨B2.s4, B2.u4⟩
 | 5 => ⟨B2.s5, B2.u5⟩
 | 6 => ⟨B2.s6, B2.u6⟩
 | 7 => ⟨B2.s7, B2.u7⟩
 | 8 => ⟨B2.s8, B2.u8⟩
 | 9 => ⟨B2.s9, B2.u9⟩
 | 10 => ⟨B2.Xe, B2.Xa⟩
 | 11 => ⟨B2.Xg, B2.Xb⟩
 | 12 => ⟨B2.Xn, B2.Xl⟩
 | 13 => ⟨B2.XO, B2.Xf⟩
 | 14 => ⟨B2.Xd, B2.XN⟩
 | _ => ⟨B2.XV, B2.Xo⟩
inductive FT where
 | mk (a0 a1 a2 a3 a4 a5 a6 a7 a8 a9 a10 a11 a12 a13 a14 a15 : B2)
def FT.s0 (q : FT) : B2 := FT.rec (fun a0 a1 a2 a3 a4 a5 a6 a7 a8 a9 a10 a11 a12 a13 a14 a15 => a0) q
def FT.u0 (q : FT) (x : B2) : FT := FT.rec (fun a0 a1 a2 a3 a4 a5 a6 a7 a8 a9 a10 a11 a12 a13 a14 a15 => .mk x a1 a2 a3 a4 a5 a6 a7 a8 a9 a10 a11 a12 a13 a14 a15) q
def FT.s1 (q : FT) : B2 := FT.rec (fun a0 a1 a2 a3 a4 a5 a6 a7 a8 a9 a10 a11 a12 a13 a14 a15 => a1) q
def FT.u1 (q : FT) (x : B2) : FT := FT.rec (fun a0 a1 a2 a3 a4 a5 a6 a7 a8 a9 a10 a11 a12 a13 a14 a15 => .mk a0 x a2 a3 a4 a5 a6 a7 a8 a9 a10 a11 a12 a13 a14 a15) q
def FT.s2 (q : FT) : B2 := FT.rec (fun a0 a1 a2 a3 a4 a5 a6 a7 a8 a9 a10 a11 a12 a13 a14 a15 => a2) q
def FT.u2 (q : FT) (x : B2) : FT := FT.rec (fun a0 a1 a2 a3 a4 a5 a6 a7 a8 a9 a10 a11 a12 a13 a14 a15 => .mk a0 a1 x a3 a4 a5 a6 a7 a8 a9 a10 a11 a12 a13 a14 a15) q
def FT.s3 (q : FT) : B2 := FT.rec (fun a0 a1 a2 a3 a4 a5 a6 a7 a8 a9 a10 a11 a12 a13 a14 a15 => a3) q
def FT.u3 (q : FT) (x : B2) : FT := FT.rec (fun a0 a1 a2 a3 a4 a5 a6 a7 a8 a9 a10 a11 a12 a13 a14 a15 => .mk a0 a1 a2 x a4 a5 a6 a7 a8 a9 a10 a11 a12 a13 a14 a15) q
def FT.s4 (q : FT) : B2 := FT.rec (fun a0 a1 a2 a3 a4 a5 a6 a7 a8 a9 a10 a11 a12 a13 a14 a15 => a4) q
def FT.u4 (q : FT) (x : B2) : FT := FT.rec (fun a0 a1 a2 a3 a4 a5 a6 a7 a8 a9 a10 a11 a12 a13 a14 a15 => .mk a0 a1 a2 a3 x a5 a6 a7 a8 a9 a10 a11 a12 a13 a14 a15) q
def FT.s5 (q : FT) : B2 := FT.rec (fun a0 a1 a2 a3 a4 a5 a6 a7 a8 a9 a10 a11 a12 a13 a14 a15 => a5) q
def FT.u5 (q : FT) (x : B2) : FT := FT.rec (fun a0 a1 a2 a3 a4 a5 a6 a7 a8 a9 a10 a11 a12 a13 a14 a15 => .mk a0 a1 a2 a3 a4 x a6 a7 a8 a9 a10 a11 a12 a13 a14 a15) q
def FT.s6 (q : FT) : B2 := FT.rec (fun a0 a1 a2 a3 a4 a5 a6 a7 a8 a9 a10 a11 a12 a13 a14 a15 => a6) q
def FT.u6 (q : FT) (x : B2) : FT := FT.rec (fun a0 a1 a2 a3 a4 a5 a6 a7 a8 a9 a10 a11 a12 a13 a14 a15 => .mk a0 a1 a2 a3 a4 a5 x a7 a8 a9 a10 a11 a12 a13 a14 a15) q
def FT.s7 (q : FT) : B2 := FT.rec (fun a0 a1 a2 a3 a4 a5 a6 a7 a8 a9 a10 a11 a12 a13 a14 a15 => a7) q
def FT.u7 (q : FT) (x : B2) : FT := FT.rec (fun a0 a1 a2 a3 a4 a5 a6 a7 a8 a9 a10 a11 a12 a13 a14 a15 => .mk a0 a1 a2 a3 a4 a5 a6 x a8 a9 a10 a11 a12 a13 a14 a15) q
def FT.s8 (q : FT) : B2 := FT.rec (fun a0 a1 a2 a3 a4 a5 a6 a7 a8 a9 a10 a11 a12 a13 a14 a15 => a8) q
def FT.u8 (q : FT) (x : B2) : FT := FT.rec (fun a0 a1 a2 a3 a4 a5 a6 a7 a8 a9 a10 a11 a12 a13 a14 a15 => .mk a0 a1 a2 a3 a4 a5 a6 a7 x a9 a10 a11 a12 a13 a14 a15) q
def FT.s9 (q : FT) : B2 := FT.rec (fun a0 a1 a2 a3 a4 a5 a6 a7 a8 a9 a10 a11 a12 a13 a14 a15 => a9) q
def FT.u9 (q : FT) (x : B2) : FT := FT.rec (fun a0 a1 a2 a3 a4 a5 a6 a7 a8 a9 a10 a11 a12 a13 a14 a15 => .mk a0 a1 a2 a3 a4 a5 a6 a7 a8 x a10 a11 a12 a13 a14 a15) q
def FT.Xe (q : FT) : B2 := FT.rec (fun a0 a1 a2 a3 a4 a5 a6 a7 a8 a9 a10 a11 a12 a13 a14 a15 => a10) q
def FT.Xa (q : FT) (x : B2) : FT := FT.rec (fun a0 a1 a2 a3 a4 a5 a6 a7 a8 a9 a10 a11 a12 a13 a14 a15 => .mk a0 a1 a2 a3 a4 a5 a6 a7 a8 a9 x a11 a12 a13 a14 a15) q
def FT.Xg (q : FT) : B2 := FT.rec (fun a0 a1 a2 a3 a4 a5 a6 a7 a8 a9 a10 a11 a12 a13 a14 a15 => a11) q
def FT.Xb (q : FT) (x : B2) : FT := FT.rec (fun a0 a1 a2 a3 a4 a5 a6 a7 a8 a9 a10 a11 a12 a13 a14 a15 => .mk a0 a1 a2 a3 a4 a5 a6 a7 a8 a9 a10 x a12 a13 a14 a15) q
def FT.Xn (q : FT) : B2 := FT.rec (fun a0 a1 a2 a3 a4 a5 a6 a7 a8 a9 a10 a11 a12 a13 a14 a15 => a12) q
def FT.Xl (q : FT) (x : B2) : FT := FT.rec (fun a0 a1 a2 a3 a4 a5 a6 a7 a8 a9 a10 a11 a12 a13 a14 a15 => .mk a0 a1 a2 a3 a4 a5 a6 a7 a8 a9 a10 a11 x a13 a14 a15) q
def FT.XO (q : FT) : B2 := FT.rec (fun a0 a1 a2 a3 a4 a5 a6 a7 a8 a9 a10 a11 a12 a13 a14 a15 => a13) q
def FT.Xf (q : FT) (x : B2) : FT := FT.rec (fun a0 a1 a2 a3 a4 a5 a6 a7 a8 a9 a10 a11 a12 a13 a14 a15 => .mk a0 a1 a2 a3 a4 a5 a6 a7 a8 a9 a10 a11 a12 x a14 a15) q
def FT.Xd (q : FT) : B2 := FT.rec (fun a0 a1 a2 a3 a4 a5 a6 a7 a8 a9 a10 a11 a12 a13 a14 a15 => a14) q
def FT.XN (q : FT) (x : B2) : FT := FT.rec (fun a0 a1 a2 a3 a4 a5 a6 a7 a8 a9 a10 a11 a12 a13 a14 a15 => .mk a0 a1 a2 a3 a4 a5 a6 a7 a8 a9 a10 a11 a12 a13 x a15) q
def FT.XV (q : FT) : B2 := FT.rec (fun a0 a1 a2 a3 a4 a5 a6 a7 a8 a9 a10 a11 a12 a13 a14 a15 => a15) q
def FT.Xo (q : FT) (x : B2) : FT := FT.rec (fun a0 a1 a2 a3 a4 a5 a6 a7 a8 a9 a10 a11 a12 a13 a14 a15 => .mk a0 a1 a2 a3 a4 a5 a6 a7 a8 a9 a10 a11 a12 a13 a14 x) q
structure Xq where
 s : FT → B2
 u : FT → B2 → FT
def fb (i : Nat) : Xq :=
 match i with
 | 0 => ⟨FT.s0, FT.u0⟩
 | 1 => ⟨FT.s1, FT.u1⟩
 | 2 => ⟨FT.s2, FT.u2⟩
 | 3 => ⟨FT.s3, FT.u3⟩
 | 4 => ⟨FT.s4, FT.u4⟩
 | 5 => ⟨FT.s5, FT.u5⟩
 | 6 => ⟨FT.s6, FT.u6⟩
 | 7 => ⟨FT.s7, FT.u7⟩
 | 8 => ⟨FT.s8, FT.u8⟩
 | 9 => ⟨FT.s9, FT.u9⟩
 | 10 => ⟨FT.Xe, FT.Xa⟩
 | 11 => ⟨FT.Xg, FT.Xb⟩
 | 12 => ⟨FT.Xn, FT.Xl⟩
 | 13 => ⟨FT.XO, FT.Xf⟩
 | 14 => ⟨FT.Xd, FT.XN⟩
 | _ => ⟨FT.XV, FT.Xo⟩
structure Slot where
 s : FT → FV
 u : FT → FV → FT
def YA (q : B2) (k : B2 → FT) : FT := B2.rec (fun a0 a1 a2 a3 a4 a5 a6 a7 a8 a9 a10 a11 a12 a13 a14 a15 => k (.mk a0 a1 a2 a3 a4 a5 a6 a7 a8 a9 a10 a11 a12 a13 a14 a15)) q
def V8 (a : Wx) (b : Xq) : Slot := ⟨fun t => a.s (b.s t), fun t v => YA (a.u (b.s t) v) fun q => b.u t q⟩
def slot (i : Nat) : Slot := V8 (qb (i % 16)) (fb (i / 16))
def Xv (t : Tr B4) (i : Nat) (x : B4) : Tr B4 :=
 Tr.rec (motive := fun _ => Nat → Tr B4) (fun i => Tr.set (i + 1) .leaf i x) (fun l v r ihl ihr i => Bool.rec (Bool.rec (.node l v (ihr (i / 2 - 1))) (.node (ihl (i / 2)) v r) (Nat.beq (i % 2) 1)) (.node l (some x) r) (Nat.beq i 0)) t i
def Wg (h : AH) (i : Nat) (o : B4) (k : AH → OV) : OV := AH.rec (fun n t => X2 (Xv t i o) fun t => k ⟨n, t⟩) h
end
end Go.Av
