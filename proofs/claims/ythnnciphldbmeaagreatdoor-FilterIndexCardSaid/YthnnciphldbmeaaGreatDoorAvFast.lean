/-
  AV: a run that the kernel reckons fast: slots in a trie, values put into their plain forms. What it tells, the abstract run tells.
-/
import Derived.Test.YthnnciphldbmeaaGreatDoorAvWalk
namespace Go.Av
set_option linter.unusedVariables false
set_option linter.unusedSimpArgs false
noncomputable section
abbrev OV := Option (AA × AH)
inductive FV where
 | i (k : IntKind) (n : Int)
 | b (x : Bool)
 | p (id o : Nat)
 | o (v : AA)
def ZQ (t : Tr Bz) (k : Tr Bz → OV) : OV := Tr.rec (k .leaf) (fun l v r _ _ => k (.node l v r)) t
def ZA (t : Tr Bz) (i : Nat) : Option Bz := Tr.rec (motive := fun _ => Nat → Option Bz) (fun _ => none) (fun _ v _ l r i => Bool.rec (Bool.rec (r (i / 2 - 1)) (l (i / 2)) (Nat.beq (i % 2) 1)) v (Nat.beq i 0)) t i
def O7 (h : AH) (i : Nat) : Option Bz := AH.rec (fun n t => Bool.rec none (ZA t i) (Nat.blt i n)) h
def kn : IntKind → Nat
 | .i8 => 0 | .i16 => 1 | .i32 => 2 | .i64 => 3 | .u8 => 4 | .u16 => 5 | .u32 => 6 | .u64 => 7
structure BW where f : Int → Int
def Y9 (k : IntKind) (lim m : Nat) : Int := Bool.rec (k.wrap (.ofNat m)) (.ofNat m) (Nat.blt m lim)
def YU (k : IntKind) : BW := ⟨fun n => Int.rec (fun m => Y9 k (2 ^ (k.bits - 1)) m) (fun m => k.wrap (.negSucc m)) n⟩
inductive B0 where
 | mk (a0 a1 a2 a3 a4 a5 a6 a7 a8 a9 a10 a11 a12 a13 a14 a15 : FV)
def B0.s0 (q : B0) : FV := B0.rec (fun a0 a1 a2 a3 a4 a5 a6 a7 a8 a9 a10 a11 a12 a13 a14 a15 => a0) q
def B0.u0 (q : B0) (x : FV) : B0 := B0.rec (fun a0 a1 a2 a3 a4 a5 a6 a7 a8 a9 a10 a11 a12 a13 a14 a15 => .mk x a1 a2 a3 a4 a5 a6 a7 a8 a9 a10 a11 a12 a13 a14 a15) q
def B0.s1 (q : B0) : FV := B0.rec (fun a0 a1 a2 a3 a4 a5 a6 a7 a8 a9 a10 a11 a12 a13 a14 a15 => a1) q
def B0.u1 (q : B0) (x : FV) : B0 := B0.rec (fun a0 a1 a2 a3 a4 a5 a6 a7 a8 a9 a10 a11 a12 a13 a14 a15 => .mk a0 x a2 a3 a4 a5 a6 a7 a8 a9 a10 a11 a12 a13 a14 a15) q
def B0.s2 (q : B0) : FV := B0.rec (fun a0 a1 a2 a3 a4 a5 a6 a7 a8 a9 a10 a11 a12 a13 a14 a15 => a2) q
def B0.u2 (q : B0) (x : FV) : B0 := B0.rec (fun a0 a1 a2 a3 a4 a5 a6 a7 a8 a9 a10 a11 a12 a13 a14 a15 => .mk a0 a1 x a3 a4 a5 a6 a7 a8 a9 a10 a11 a12 a13 a14 a15) q
def B0.s3 (q : B0) : FV := B0.rec (fun a0 a1 a2 a3 a4 a5 a6 a7 a8 a9 a10 a11 a12 a13 a14 a15 => a3) q
def B0.u3 (q : B0) (x : FV) : B0 := B0.rec (fun a0 a1 a2 a3 a4 a5 a6 a7 a8 a9 a10 a11 a12 a13 a14 a15 => .mk a0 a1 a2 x a4 a5 a6 a7 a8 a9 a10 a11 a12 a13 a14 a15) q
def B0.s4 (q : B0) : FV := B0.rec (fun a0 a1 a2 a3 a4 a5 a6 a7 a8 a9 a10 a11 a12 a13 a14 a15 => a4) q
def B0.u4 (q : B0) (x : FV) : B0 := B0.rec (fun a0 a1 a2 a3 a4 a5 a6 a7 a8 a9 a10 a11 a12 a13 a14 a15 => .mk a0 a1 a2 a3 x a5 a6 a7 a8 a9 a10 a11 a12 a13 a14 a15) q
def B0.s5 (q : B0) : FV := B0.rec (fun a0 a1 a2 a3 a4 a5 a6 a7 a8 a9 a10 a11 a12 a13 a14 a15 => a5) q
def B0.u5 (q : B0) (x : FV) : B0 := B0.rec (fun a0 a1 a2 a3 a4 a5 a6 a7 a8 a9 a10 a11 a12 a13 a14 a15 => .mk a0 a1 a2 a3 a4 x a6 a7 a8 a9 a10 a11 a12 a13 a14 a15) q
def B0.s6 (q : B0) : FV := B0.rec (fun a0 a1 a2 a3 a4 a5 a6 a7 a8 a9 a10 a11 a12 a13 a14 a15 => a6) q
def B0.u6 (q : B0) (x : FV) : B0 := B0.rec (fun a0 a1 a2 a3 a4 a5 a6 a7 a8 a9 a10 a11 a12 a13 a14 a15 => .mk a0 a1 a2 a3 a4 a5 x a7 a8 a9 a10 a11 a12 a13 a14 a15) q
def B0.s7 (q : B0) : FV := B0.rec (fun a0 a1 a2 a3 a4 a5 a6 a7 a8 a9 a10 a11 a12 a13 a14 a15 => a7) q
def B0.u7 (q : B0) (x : FV) : B0 := B0.rec (fun a0 a1 a2 a3 a4 a5 a6 a7 a8 a9 a10 a11 a12 a13 a14 a15 => .mk a0 a1 a2 a3 a4 a5 a6 x a8 a9 a10 a11 a12 a13 a14 a15) q
def B0.s8 (q : B0) : FV := B0.rec (fun a0 a1 a2 a3 a4 a5 a6 a7 a8 a9 a10 a11 a12 a13 a14 a15 => a8) q
def B0.u8 (q : B0) (x : FV) : B0 := B0.rec (fun a0 a1 a2 a3 a4 a5 a6 a7 a8 a9 a10 a11 a12 a13 a14 a15 => .mk a0 a1 a2 a3 a4 a5 a6 a7 x a9 a10 a11 a12 a13 a14 a15) q
def B0.s9 (q : B0) : FV := B0.rec (fun a0 a1 a2 a3 a4 a5 a6 a7 a8 a9 a10 a11 a12 a13 a14 a15 => a9) q
def B0.u9 (q : B0) (x : FV) : B0 := B0.rec (fun a0 a1 a2 a3 a4 a5 a6 a7 a8 a9 a10 a11 a12 a13 a14 a15 => .mk a0 a1 a2 a3 a4 a5 a6 a7 a8 x a10 a11 a12 a13 a14 a15) q
def B0.Yh (q : B0) : FV := B0.rec (fun a0 a1 a2 a3 a4 a5 a6 a7 a8 a9 a10 a11 a12 a13 a14 a15 => a10) q
def B0.Yv (q : B0) (x : FV) : B0 := B0.rec (fun a0 a1 a2 a3 a4 a5 a6 a7 a8 a9 a10 a11 a12 a13 a14 a15 => .mk a0 a1 a2 a3 a4 a5 a6 a7 a8 a9 x a11 a12 a13 a14 a15) q
def B0.Yz (q : B0) : FV := B0.rec (fun a0 a1 a2 a3 a4 a5 a6 a7 a8 a9 a10 a11 a12 a13 a14 a15 => a11) q
def B0.Yn (q : B0) (x : FV) : B0 := B0.rec (fun a0 a1 a2 a3 a4 a5 a6 a7 a8 a9 a10 a11 a12 a13 a14 a15 => .mk a0 a1 a2 a3 a4 a5 a6 a7 a8 a9 a10 x a12 a13 a14 a15) q
def B0.Y0 (q : B0) : FV := B0.rec (fun a0 a1 a2 a3 a4 a5 a6 a7 a8 a9 a10 a11 a12 a13 a14 a15 => a12) q
def B0.Yu (q : B0) (x : FV) : B0 := B0.rec (fun a0 a1 a2 a3 a4 a5 a6 a7 a8 a9 a10 a11 a12 a13 a14 a15 => .mk a0 a1 a2 a3 a4 a5 a6 a7 a8 a9 a10 a11 x a13 a14 a15) q
def B0.Ym (q : B0) : FV := B0.rec (fun a0 a1 a2 a3 a4 a5 a6 a7 a8 a9 a10 a11 a12 a13 a14 a15 => a13) q
def B0.Yf (q : B0) (x : FV) : B0 := B0.rec (fun a0 a1 a2 a3 a4 a5 a6 a7 a8 a9 a10 a11 a12 a13 a14 a15 => .mk a0 a1 a2 a3 a4 a5 a6 a7 a8 a9 a10 a11 a12 x a14 a15) q
def B0.Yw (q : B0) : FV := B0.rec (fun a0 a1 a2 a3 a4 a5 a6 a7 a8 a9 a10 a11 a12 a13 a14 a15 => a14) q
def B0.Yp (q : B0) (x : FV) : B0 := B0.rec (fun a0 a1 a2 a3 a4 a5 a6 a7 a8 a9 a10 a11 a12 a13 a14 a15 => .mk a0 a1 a2 a3 a4 a5 a6 a7 a8 a9 a10 a11 a12 a13 x a15) q
def B0.Ye (q : B0) : FV := B0.rec (fun a0 a1 a2 a3 a4 a5 a6 a7 a8 a9 a10 a11 a12 a13 a14 a15 => a15) q
def B0.Yd (q : B0) (x : FV) : B0 := B0.rec (fun a0 a1 a2 a3 a4 a5 a6 a7 a8 a9 a10 a11 a12 a13 a14 a15 => .mk a0 a1 a2 a3 a4 a5 a6 a7 a8 a9 a10 a11 a12 a13 a14 x) q
structure Xn where
 s : B0 → FV
 u : B0 → FV → B0
def qb (i : Nat) : Xn :=
 match i with
 | 0 => ⟨B0.s0, B0.u0⟩
 | 1 => ⟨B0.s1, B0.u1⟩
 | 2 => ⟨B0.s2, B0.u2⟩
 | 3 => ⟨B0.s3, B0.u3⟩
 | 4 => ⟨B0.s4, B0.u4⟩
 | 5 => ⟨B0.s5, B0.u5⟩
 | 6 => ⟨B0.s6, B0.u6⟩
 | 7 => ⟨B0.s7, B0.u7⟩
 | 8 => ⟨B0.s8, B0.u8⟩
 | 9 => ⟨B0.s9, B0.u9⟩
 | 10 => ⟨B0.Yh, B0.Yv⟩
 | 11 => ⟨B0.Yz, B0.Yn⟩
 | 12 => ⟨B0.Y0, B0.Yu⟩
 | 13 => ⟨B0.Ym, B0.Yf⟩
 | 14 => ⟨B0.Yw, B0.Yp⟩
 | _ => ⟨B0.Ye, B0.Yd⟩
inductive FT where
 | mk (a0 a1 a2 a3 a4 a5 a6 a7 a8 a9 a10 a11 a12 a13 a14 a15 : B0)
def FT.s0 (q : FT) : B0 := FT.rec (fun a0 a1 a2 a3 a4 a5 a6 a7 a8 a9 a10 a11 a12 a13 a14 a15 => a0) q
def FT.u0 (q : FT) (x : B0) : FT := FT.rec (fun a0 a1 a2 a3 a4 a5 a6 a7 a8 a9 a10 a11 a12 a13 a14 a15 => .mk x a1 a2 a3 a4 a5 a6 a7 a8 a9 a10 a11 a12 a13 a14 a15) q
def FT.s1 (q : FT) : B0 := FT.rec (fun a0 a1 a2 a3 a4 a5 a6 a7 a8 a9 a10 a11 a12 a13 a14 a15 => a1) q
def FT.u1 (q : FT) (x : B0) : FT := FT.rec (fun a0 a1 a2 a3 a4 a5 a6 a7 a8 a9 a10 a11 a12 a13 a14 a15 => .mk a0 x a2 a3 a4 a5 a6 a7 a8 a9 a10 a11 a12 a13 a14 a15) q
def FT.s2 (q : FT) : B0 := FT.rec (fun a0 a1 a2 a3 a4 a5 a6 a7 a8 a9 a10 a11 a12 a13 a14 a15 => a2) q
def FT.u2 (q : FT) (x : B0) : FT := FT.rec (fun a0 a1 a2 a3 a4 a5 a6 a7 a8 a9 a10 a11 a12 a13 a14 a15 => .mk a0 a1 x a3 a4 a5 a6 a7 a8 a9 a10 a11 a12 a13 a14 a15) q
def FT.s3 (q : FT) : B0 := FT.rec (fun a0 a1 a2 a3 a4 a5 a6 a7 a8 a9 a10 a11 a12 a13 a14 a15 => a3) q
def FT.u3 (q : FT) (x : B0) : FT := FT.rec (fun a0 a1 a2 a3 a4 a5 a6 a7 a8 a9 a10 a11 a12 a13 a14 a15 => .mk a0 a1 a2 x a4 a5 a6 a7 a8 a9 a10 a11 a12 a13 a14 a15) q
def FT.s4 (q : FT) : B0 := FT.rec (fun a0 a1 a2 a3 a4 a5 a6 a7 a8 a9 a10 a11 a12 a13 a14 a15 => a4) q
def FT.u4 (q : FT) (x : B0) : FT := FT.rec (fun a0 a1 a2 a3 a4 a5 a6 a7 a8 a9 a10 a11 a12 a13 a14 a15 => .mk a0 a1 a2 a3 x a5 a6 a7 a8 a9 a10 a11 a12 a13 a14 a15) q
def FT.s5 (q : FT) : B0 := FT.rec (fun a0 a1 a2 a3 a4 a5 a6 a7 a8 a9 a10 a11 a12 a13 a14 a15 => a5) q
def FT.u5 (q : FT) (x : B0) : FT := FT.rec (fun a0 a1 a2 a3 a4 a5 a6 a7 a8 a9 a10 a11 a12 a13 a14 a15 => .mk a0 a1 a2 a3 a4 x a6 a7 a8 a9 a10 a11 a12 a13 a14 a15) q
def FT.s6 (q : FT) : B0 := FT.rec (fun a0 a1 a2 a3 a4 a5 a6 a7 a8 a9 a10 a11 a12 a13 a14 a15 => a6) q
def FT.u6 (q : FT) (x : B0) : FT := FT.rec (fun a0 a1 a2 a3 a4 a5 a6 a7 a8 a9 a10 a11 a12 a13 a14 a15 => .mk a0 a1 a2 a3 a4 a5 x a7 a8 a9 a10 a11 a12 a13 a14 a15) q
def FT.s7 (q : FT) : B0 := FT.rec (fun a0 a1 a2 a3 a4 a5 a6 a7 a8 a9 a10 a11 a12 a13 a14 a15 => a7) q
def FT.u7 (q : FT) (x : B0) : FT := FT.rec (fun a0 a1 a2 a3 a4 a5 a6 a7 a8 a9 a10 a11 a12 a13 a14 a15 => .mk a0 a1 a2 a3 a4 a5 a6 x a8 a9 a10 a11 a12 a13 a14 a15) q
def FT.s8 (q : FT) : B0 := FT.rec (fun a0 a1 a2 a3 a4 a5 a6 a7 a8 a9 a10 a11 a12 a13 a14 a15 => a8) q
def FT.u8 (q : FT) (x : B0) : FT := FT.rec (fun a0 a1 a2 a3 a4 a5 a6 a7 a8 a9 a10 a11 a12 a13 a14 a15 => .mk a0 a1 a2 a3 a4 a5 a6 a7 x a9 a10 a11 a12 a13 a14 a15) q
def FT.s9 (q : FT) : B0 := FT.rec (fun a0 a1 a2 a3 a4 a5 a6 a7 a8 a9 a10 a11 a12 a13 a14 a15 => a9) q
def FT.u9 (q : FT) (x : B0) : FT := FT.rec (fun a0 a1 a2 a3 a4 a5 a6 a7 a8 a9 a10 a11 a12 a13 a14 a15 => .mk a0 a1 a2 a3 a4 a5 a6 a7 a8 x a10 a11 a12 a13 a14 a15) q
def FT.Yh (q : FT) : B0 := FT.rec (fun a0 a1 a2 a3 a4 a5 a6 a7 a8 a9 a10 a11 a12 a13 a14 a15 => a10) q
def FT.Yv (q : FT) (x : B0) : FT := FT.rec (fun a0 a1 a2 a3 a4 a5 a6 a7 a8 a9 a10 a11 a12 a13 a14 a15 => .mk a0 a1 a2 a3 a4 a5 a6 a7 a8 a9 x a11 a12 a13 a14 a15) q
def FT.Yz (q : FT) : B0 := FT.rec (fun a0 a1 a2 a3 a4 a5 a6 a7 a8 a9 a10 a11 a12 a13 a14 a15 => a11) q
def FT.Yn (q : FT) (x : B0) : FT := FT.rec (fun a0 a1 a2 a3 a4 a5 a6 a7 a8 a9 a10 a11 a12 a13 a14 a15 => .mk a0 a1 a2 a3 a4 a5 a6 a7 a8 a9 a10 x a12 a13 a14 a15) q
def FT.Y0 (q : FT) : B0 := FT.rec (fun a0 a1 a2 a3 a4 a5 a6 a7 a8 a9 a10 a11 a12 a13 a14 a15 => a12) q
def FT.Yu (q : FT) (x : B0) : FT := FT.rec (fun a0 a1 a2 a3 a4 a5 a6 a7 a8 a9 a10 a11 a12 a13 a14 a15 => .mk a0 a1 a2 a3 a4 a5 a6 a7 a8 a9 a10 a11 x a13 a14 a15) q
def FT.Ym (q : FT) : B0 := FT.rec (fun a0 a1 a2 a3 a4 a5 a6 a7 a8 a9 a10 a11 a12 a13 a14 a15 => a13) q
def FT.Yf (q : FT) (x : B0) : FT := FT.rec (fun a0 a1 a2 a3 a4 a5 a6 a7 a8 a9 a10 a11 a12 a13 a14 a15 => .mk a0 a1 a2 a3 a4 a5 a6 a7 a8 a9 a10 a11 a12 x a14 a15) q
def FT.Yw (q : FT) : B0 := FT.rec (fun a0 a1 a2 a3 a4 a5 a6 a7 a8 a9 a10 a11 a12 a13 a14 a15 => a14) q
def FT.Yp (q : FT) (x : B0) : FT := FT.rec (fun a0 a1 a2 a3 a4 a5 a6 a7 a8 a9 a10 a11 a12 a13 a14 a15 => .mk a0 a1 a2 a3 a4 a5 a6 a7 a8 a9 a10 a11 a12 a13 x a15) q
def FT.Ye (q : FT) : B0 := FT.rec (fun a0 a1 a2 a3 a4 a5 a6 a7 a8 a9 a10 a11 a12 a13 a14 a15 => a15) q
def FT.Yd (q : FT) (x : B0) : FT := FT.rec (fun a0 a1 a2 a3 a4 a5 a6 a7 a8 a9 a10 a11 a12 a13 a14 a15 => .mk a0 a1 a2 a3 a4 a5 a6 a7 a8 a9 a10 a11 a12 a13 a14 x) q
structure Y8 where
 s : FT → B0
 u : FT → B0 → FT
def fb (i : Nat) : Y8 :=
 match i with
 | 0 => ⟨FT.s0, FT.u0⟩
 | 1 => ⟨FT.s1, FT.u1⟩
 | 2 => ⟨FT.s2, FT.u2⟩
 | 3 => ⟨FT.s3, FT.u3⟩
 | 4 => ⟨FT.s4, FT.u4⟩
 | 5 => ⟨FT.s5, FT.u5⟩
 | 6 => ⟨FT.s6, FT.u6⟩
 | 7 => ⟨FT.s7, FT.u7⟩
 | 8 => ⟨FT.s8, FT.u8⟩
 | 9 => ⟨FT.s9, FT.u9⟩
 | 10 => ⟨FT.Yh, FT.Yv⟩
 | 11 => ⟨FT.Yz, FT.Yn⟩
 | 12 => ⟨FT.Y0, FT.Yu⟩
 | 13 => ⟨FT.Ym, FT.Yf⟩
 | 14 => ⟨FT.Yw, FT.Yp⟩
 | _ => ⟨FT.Ye, FT.Yd⟩
structure Slot where
 s : FT → FV
 u : FT → FV → FT
def ZO (q : B0) (k : B0 → FT) : FT := B0.rec (fun a0 a1 a2 a3 a4 a5 a6 a7 a8 a9 a10 a11 a12 a13 a14 a15 => k (.mk a0 a1 a2 a3 a4 a5 a6 a7 a8 a9 a10 a11 a12 a13 a14 a15)) q
def Wz (a : Xn) (b : Y8) : Slot := ⟨fun t => a.s (b.s t), fun t v => ZO (a.u (b.s t) v) fun q => b.u t q⟩
def slot (i : Nat) : Slot := Wz (qb (i % 16)) (fb (i / 16))
def ZM (t : Tr Bz) (i : Nat) (x : Bz) : Tr Bz :=
 Tr.rec (motive := fun _ => Nat → Tr Bz) (fun i => Tr.set (i + 1) .leaf i x) (fun l v r ihl ihr i => Bool.rec (Bool.rec (.node l v (ihr (i / 2 - 1))) (.node (ihl (i / 2)) v r) (Nat.beq (i % 2) 1)) (.node l (some x) r) (Nat.beq i 0)) t i
def YC (h : AH) (i : Nat) (o : Bz) (k : AH → OV) : OV := AH.rec (fun n t => ZQ (ZM t i o) fun t => k ⟨n, t⟩) h
end
end Go.Av
