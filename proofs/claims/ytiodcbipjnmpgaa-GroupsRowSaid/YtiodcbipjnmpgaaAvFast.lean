/-
  AV: a run that the kernel reckons fast: slots in a trie, values put into their plain forms. What it tells, the abstract run tells.
-/
import Derived.Test.YtiodcbipjnmpgaaAvWalk
namespace Go.Av
set_option linter.unusedVariables false
set_option linter.unusedSimpArgs false
noncomputable section
abbrev OV := Option (AVal × AHeap)
inductive FV where
 | i (k : IntKind) (n : Int)
 | b (x : Bool)
 | p (id o : Nat)
 | o (v : AVal)
def fcT (t : Tr AObj) (k : Tr AObj → OV) : OV := Tr.rec (k .leaf) (fun l v r _ _ => k (.node l v r)) t
def trG (t : Tr AObj) (i : Nat) : Option AObj := Tr.rec (motive := fun _ => Nat → Option AObj) (fun _ => none) (fun _ v _ l r i => Bool.rec (Bool.rec (r (i / 2 - 1)) (l (i / 2)) (Nat.beq (i % 2) 1)) v (Nat.beq i 0)) t i
def hget (h : AHeap) (i : Nat) : Option AObj := AHeap.rec (fun n t => Bool.rec none (trG t i) (Nat.blt i n)) h
structure BW where f : Int → Int
def wrK (k : IntKind) (lim m : Nat) : Int := Bool.rec (k.wrap (.ofNat m)) (.ofNat m) (Nat.blt m lim)
def wrB (k : IntKind) : BW := ⟨fun n => Int.rec (fun m => wrK k (2 ^ (k.bits - 1)) m) (fun m => k.wrap (.negSucc m)) n⟩
inductive Q16 where
 | mk (a0 a1 a2 a3 a4 a5 a6 a7 a8 a9 a10 a11 a12 a13 a14 a15 : FV)
def Q16.s0 (q : Q16) : FV := Q16.rec (fun a0 a1 a2 a3 a4 a5 a6 a7 a8 a9 a10 a11 a12 a13 a14 a15 => a0) q
def Q16.u0 (q : Q16) (x : FV) : Q16 := Q16.rec (fun a0 a1 a2 a3 a4 a5 a6 a7 a8 a9 a10 a11 a12 a13 a14 a15 => .mk x a1 a2 a3 a4 a5 a6 a7 a8 a9 a10 a11 a12 a13 a14 a15) q
def Q16.s1 (q : Q16) : FV := Q16.rec (fun a0 a1 a2 a3 a4 a5 a6 a7 a8 a9 a10 a11 a12 a13 a14 a15 => a1) q
def Q16.u1 (q : Q16) (x : FV) : Q16 := Q16.rec (fun a0 a1 a2 a3 a4 a5 a6 a7 a8 a9 a10 a11 a12 a13 a14 a15 => .mk a0 x a2 a3 a4 a5 a6 a7 a8 a9 a10 a11 a12 a13 a14 a15) q
def Q16.s2 (q : Q16) : FV := Q16.rec (fun a0 a1 a2 a3 a4 a5 a6 a7 a8 a9 a10 a11 a12 a13 a14 a15 => a2) q
def Q16.u2 (q : Q16) (x : FV) : Q16 := Q16.rec (fun a0 a1 a2 a3 a4 a5 a6 a7 a8 a9 a10 a11 a12 a13 a14 a15 => .mk a0 a1 x a3 a4 a5 a6 a7 a8 a9 a10 a11 a12 a13 a14 a15) q
def Q16.s3 (q : Q16) : FV := Q16.rec (fun a0 a1 a2 a3 a4 a5 a6 a7 a8 a9 a10 a11 a12 a13 a14 a15 => a3) q
def Q16.u3 (q : Q16) (x : FV) : Q16 := Q16.rec (fun a0 a1 a2 a3 a4 a5 a6 a7 a8 a9 a10 a11 a12 a13 a14 a15 => .mk a0 a1 a2 x a4 a5 a6 a7 a8 a9 a10 a11 a12 a13 a14 a15) q
def Q16.s4 (q : Q16) : FV := Q16.rec (fun a0 a1 a2 a3 a4 a5 a6 a7 a8 a9 a10 a11 a12 a13 a14 a15 => a4) q
def Q16.u4 (q : Q16) (x : FV) : Q16 := Q16.rec (fun a0 a1 a2 a3 a4 a5 a6 a7 a8 a9 a10 a11 a12 a13 a14 a15 => .mk a0 a1 a2 a3 x a5 a6 a7 a8 a9 a10 a11 a12 a13 a14 a15) q
def Q16.s5 (q : Q16) : FV := Q16.rec (fun a0 a1 a2 a3 a4 a5 a6 a7 a8 a9 a10 a11 a12 a13 a14 a15 => a5) q
def Q16.u5 (q : Q16) (x : FV) : Q16 := Q16.rec (fun a0 a1 a2 a3 a4 a5 a6 a7 a8 a9 a10 a11 a12 a13 a14 a15 => .mk a0 a1 a2 a3 a4 x a6 a7 a8 a9 a10 a11 a12 a13 a14 a15) q
def Q16.s6 (q : Q16) : FV := Q16.rec (fun a0 a1 a2 a3 a4 a5 a6 a7 a8 a9 a10 a11 a12 a13 a14 a15 => a6) q
def Q16.u6 (q : Q16) (x : FV) : Q16 := Q16.rec (fun a0 a1 a2 a3 a4 a5 a6 a7 a8 a9 a10 a11 a12 a13 a14 a15 => .mk a0 a1 a2 a3 a4 a5 x a7 a8 a9 a10 a11 a12 a13 a14 a15) q
def Q16.s7 (q : Q16) : FV := Q16.rec (fun a0 a1 a2 a3 a4 a5 a6 a7 a8 a9 a10 a11 a12 a13 a14 a15 => a7) q
def Q16.u7 (q : Q16) (x : FV) : Q16 := Q16.rec (fun a0 a1 a2 a3 a4 a5 a6 a7 a8 a9 a10 a11 a12 a13 a14 a15 => .mk a0 a1 a2 a3 a4 a5 a6 x a8 a9 a10 a11 a12 a13 a14 a15) q
def Q16.s8 (q : Q16) : FV := Q16.rec (fun a0 a1 a2 a3 a4 a5 a6 a7 a8 a9 a10 a11 a12 a13 a14 a15 => a8) q
def Q16.u8 (q : Q16) (x : FV) : Q16 := Q16.rec (fun a0 a1 a2 a3 a4 a5 a6 a7 a8 a9 a10 a11 a12 a13 a14 a15 => .mk a0 a1 a2 a3 a4 a5 a6 a7 x a9 a10 a11 a12 a13 a14 a15) q
def Q16.s9 (q : Q16) : FV := Q16.rec (fun a0 a1 a2 a3 a4 a5 a6 a7 a8 a9 a10 a11 a12 a13 a14 a15 => a9) q
def Q16.u9 (q : Q16) (x : FV) : Q16 := Q16.rec (fun a0 a1 a2 a3 a4 a5 a6 a7 a8 a9 a10 a11 a12 a13 a14 a15 => .mk a0 a1 a2 a3 a4 a5 a6 a7 a8 x a10 a11 a12 a13 a14 a15) q
def Q16.s10 (q : Q16) : FV := Q16.rec (fun a0 a1 a2 a3 a4 a5 a6 a7 a8 a9 a10 a11 a12 a13 a14 a15 => a10) q
def Q16.u10 (q : Q16) (x : FV) : Q16 := Q16.rec (fun a0 a1 a2 a3 a4 a5 a6 a7 a8 a9 a10 a11 a12 a13 a14 a15 => .mk a0 a1 a2 a3 a4 a5 a6 a7 a8 a9 x a11 a12 a13 a14 a15) q
def Q16.s11 (q : Q16) : FV := Q16.rec (fun a0 a1 a2 a3 a4 a5 a6 a7 a8 a9 a10 a11 a12 a13 a14 a15 => a11) q
def Q16.u11 (q : Q16) (x : FV) : Q16 := Q16.rec (fun a0 a1 a2 a3 a4 a5 a6 a7 a8 a9 a10 a11 a12 a13 a14 a15 => .mk a0 a1 a2 a3 a4 a5 a6 a7 a8 a9 a10 x a12 a13 a14 a15) q
def Q16.s12 (q : Q16) : FV := Q16.rec (fun a0 a1 a2 a3 a4 a5 a6 a7 a8 a9 a10 a11 a12 a13 a14 a15 => a12) q
def Q16.u12 (q : Q16) (x : FV) : Q16 := Q16.rec (fun a0 a1 a2 a3 a4 a5 a6 a7 a8 a9 a10 a11 a12 a13 a14 a15 => .mk a0 a1 a2 a3 a4 a5 a6 a7 a8 a9 a10 a11 x a13 a14 a15) q
def Q16.s13 (q : Q16) : FV := Q16.rec (fun a0 a1 a2 a3 a4 a5 a6 a7 a8 a9 a10 a11 a12 a13 a14 a15 => a13) q
def Q16.u13 (q : Q16) (x : FV) : Q16 := Q16.rec (fun a0 a1 a2 a3 a4 a5 a6 a7 a8 a9 a10 a11 a12 a13 a14 a15 => .mk a0 a1 a2 a3 a4 a5 a6 a7 a8 a9 a10 a11 a12 x a14 a15) q
def Q16.s14 (q : Q16) : FV := Q16.rec (fun a0 a1 a2 a3 a4 a5 a6 a7 a8 a9 a10 a11 a12 a13 a14 a15 => a14) q
def Q16.u14 (q : Q16) (x : FV) : Q16 := Q16.rec (fun a0 a1 a2 a3 a4 a5 a6 a7 a8 a9 a10 a11 a12 a13 a14 a15 => .mk a0 a1 a2 a3 a4 a5 a6 a7 a8 a9 a10 a11 a12 a13 x a15) q
def Q16.s15 (q : Q16) : FV := Q16.rec (fun a0 a1 a2 a3 a4 a5 a6 a7 a8 a9 a10 a11 a12 a13 a14 a15 => a15) q
def Q16.u15 (q : Q16) (x : FV) : Q16 := Q16.rec (fun a0 a1 a2 a3 a4 a5 a6 a7 a8 a9 a10 a11 a12 a13 a14 a15 => .mk a0 a1 a2 a3 a4 a5 a6 a7 a8 a9 a10 a11 a12 a13 a14 x) q
structure Q16B where
 s : Q16 → FV
 u : Q16 → FV → Q16
def qb (i : Nat) : Q16B :=
 match i with
 | 0 => ⟨Q16.s0, Q16.u0⟩
 | 1 => ⟨Q16.s1, Q16.u1⟩
 | 2 => ⟨Q16.s2, Q16.u2⟩
 | 3 => ⟨Q16.s3, Q16.u3⟩
 | 4 => ⟨Q16.s4, Q16.u4⟩
 | 5 => ⟨Q16.s5, Q16.u5⟩
 | 6 => ⟨Q16.s6, Q16.u6⟩
 | 7 => ⟨Q16.s7, Q16.u7⟩
 | 8 => ⟨Q16.s8, Q16.u8⟩
 | 9 => ⟨Q16.s9, Q16.u9⟩
 | 10 => ⟨Q16.s10, Q16.u10⟩
 | 11 => ⟨Q16.s11, Q16.u11⟩
 | 12 => ⟨Q16.s12, Q16.u12⟩
 | 13 => ⟨Q16.s13, Q16.u13⟩
 | 14 => ⟨Q16.s14, Q16.u14⟩
 | _ => ⟨Q16.s15, Q16.u15⟩
inductive FT where
 | mk (a0 a1 a2 a3 a4 a5 a6 a7 a8 a9 a10 a11 a12 a13 a14 a15 : Q16)
def FT.s0 (q : FT) : Q16 := FT.rec (fun a0 a1 a2 a3 a4 a5 a6 a7 a8 a9 a10 a11 a12 a13 a14 a15 => a0) q
def FT.u0 (q : FT) (x : Q16) : FT := FT.rec (fun a0 a1 a2 a3 a4 a5 a6 a7 a8 a9 a10 a11 a12 a13 a14 a15 => .mk x a1 a2 a3 a4 a5 a6 a7 a8 a9 a10 a11 a12 a13 a14 a15) q
def FT.s1 (q : FT) : Q16 := FT.rec (fun a0 a1 a2 a3 a4 a5 a6 a7 a8 a9 a10 a11 a12 a13 a14 a15 => a1) q
def FT.u1 (q : FT) (x : Q16) : FT := FT.rec (fun a0 a1 a2 a3 a4 a5 a6 a7 a8 a9 a10 a11 a12 a13 a14 a15 => .mk a0 x a2 a3 a4 a5 a6 a7 a8 a9 a10 a11 a12 a13 a14 a15) q
def FT.s2 (q : FT) : Q16 := FT.rec (fun a0 a1 a2 a3 a4 a5 a6 a7 a8 a9 a10 a11 a12 a13 a14 a15 => a2) q
def FT.u2 (q : FT) (x : Q16) : FT := FT.rec (fun a0 a1 a2 a3 a4 a5 a6 a7 a8 a9 a10 a11 a12 a13 a14 a15 => .mk a0 a1 x a3 a4 a5 a6 a7 a8 a9 a10 a11 a12 a13 a14 a15) q
def FT.s3 (q : FT) : Q16 := FT.rec (fun a0 a1 a2 a3 a4 a5 a6 a7 a8 a9 a10 a11 a12 a13 a14 a15 => a3) q
def FT.u3 (q : FT) (x : Q16) : FT := FT.rec (fun a0 a1 a2 a3 a4 a5 a6 a7 a8 a9 a10 a11 a12 a13 a14 a15 => .mk a0 a1 a2 x a4 a5 a6 a7 a8 a9 a10 a11 a12 a13 a14 a15) q
def FT.s4 (q : FT) : Q16 := FT.rec (fun a0 a1 a2 a3 a4 a5 a6 a7 a8 a9 a10 a11 a12 a13 a14 a15 => a4) q
def FT.u4 (q : FT) (x : Q16) : FT := FT.rec (fun a0 a1 a2 a3 a4 a5 a6 a7 a8 a9 a10 a11 a12 a13 a14 a15 => .mk a0 a1 a2 a3 x a5 a6 a7 a8 a9 a10 a11 a12 a13 a14 a15) q
def FT.s5 (q : FT) : Q16 := FT.rec (fun a0 a1 a2 a3 a4 a5 a6 a7 a8 a9 a10 a11 a12 a13 a14 a15 => a5) q
def FT.u5 (q : FT) (x : Q16) : FT := FT.rec (fun a0 a1 a2 a3 a4 a5 a6 a7 a8 a9 a10 a11 a12 a13 a14 a15 => .mk a0 a1 a2 a3 a4 x a6 a7 a8 a9 a10 a11 a12 a13 a14 a15) q
def FT.s6 (q : FT) : Q16 := FT.rec (fun a0 a1 a2 a3 a4 a5 a6 a7 a8 a9 a10 a11 a12 a13 a14 a15 => a6) q
def FT.u6 (q : FT) (x : Q16) : FT := FT.rec (fun a0 a1 a2 a3 a4 a5 a6 a7 a8 a9 a10 a11 a12 a13 a14 a15 => .mk a0 a1 a2 a3 a4 a5 x a7 a8 a9 a10 a11 a12 a13 a14 a15) q
def FT.s7 (q : FT) : Q16 := FT.rec (fun a0 a1 a2 a3 a4 a5 a6 a7 a8 a9 a10 a11 a12 a13 a14 a15 => a7) q
def FT.u7 (q : FT) (x : Q16) : FT := FT.rec (fun a0 a1 a2 a3 a4 a5 a6 a7 a8 a9 a10 a11 a12 a13 a14 a15 => .mk a0 a1 a2 a3 a4 a5 a6 x a8 a9 a10 a11 a12 a13 a14 a15) q
def FT.s8 (q : FT) : Q16 := FT.rec (fun a0 a1 a2 a3 a4 a5 a6 a7 a8 a9 a10 a11 a12 a13 a14 a15 => a8) q
def FT.u8 (q : FT) (x : Q16) : FT := FT.rec (fun a0 a1 a2 a3 a4 a5 a6 a7 a8 a9 a10 a11 a12 a13 a14 a15 => .mk a0 a1 a2 a3 a4 a5 a6 a7 x a9 a10 a11 a12 a13 a14 a15) q
def FT.s9 (q : FT) : Q16 := FT.rec (fun a0 a1 a2 a3 a4 a5 a6 a7 a8 a9 a10 a11 a12 a13 a14 a15 => a9) q
def FT.u9 (q : FT) (x : Q16) : FT := FT.rec (fun a0 a1 a2 a3 a4 a5 a6 a7 a8 a9 a10 a11 a12 a13 a14 a15 => .mk a0 a1 a2 a3 a4 a5 a6 a7 a8 x a10 a11 a12 a13 a14 a15) q
def FT.s10 (q : FT) : Q16 := FT.rec (fun a0 a1 a2 a3 a4 a5 a6 a7 a8 a9 a10 a11 a12 a13 a14 a15 => a10) q
def FT.u10 (q : FT) (x : Q16) : FT := FT.rec (fun a0 a1 a2 a3 a4 a5 a6 a7 a8 a9 a10 a11 a12 a13 a14 a15 => .mk a0 a1 a2 a3 a4 a5 a6 a7 a8 a9 x a11 a12 a13 a14 a15) q
def FT.s11 (q : FT) : Q16 := FT.rec (fun a0 a1 a2 a3 a4 a5 a6 a7 a8 a9 a10 a11 a12 a13 a14 a15 => a11) q
def FT.u11 (q : FT) (x : Q16) : FT := FT.rec (fun a0 a1 a2 a3 a4 a5 a6 a7 a8 a9 a10 a11 a12 a13 a14 a15 => .mk a0 a1 a2 a3 a4 a5 a6 a7 a8 a9 a10 x a12 a13 a14 a15) q
def FT.s12 (q : FT) : Q16 := FT.rec (fun a0 a1 a2 a3 a4 a5 a6 a7 a8 a9 a10 a11 a12 a13 a14 a15 => a12) q
def FT.u12 (q : FT) (x : Q16) : FT := FT.rec (fun a0 a1 a2 a3 a4 a5 a6 a7 a8 a9 a10 a11 a12 a13 a14 a15 => .mk a0 a1 a2 a3 a4 a5 a6 a7 a8 a9 a10 a11 x a13 a14 a15) q
def FT.s13 (q : FT) : Q16 := FT.rec (fun a0 a1 a2 a3 a4 a5 a6 a7 a8 a9 a10 a11 a12 a13 a14 a15 => a13) q
def FT.u13 (q : FT) (x : Q16) : FT := FT.rec (fun a0 a1 a2 a3 a4 a5 a6 a7 a8 a9 a10 a11 a12 a13 a14 a15 => .mk a0 a1 a2 a3 a4 a5 a6 a7 a8 a9 a10 a11 a12 x a14 a15) q
def FT.s14 (q : FT) : Q16 := FT.rec (fun a0 a1 a2 a3 a4 a5 a6 a7 a8 a9 a10 a11 a12 a13 a14 a15 => a14) q
def FT.u14 (q : FT) (x : Q16) : FT := FT.rec (fun a0 a1 a2 a3 a4 a5 a6 a7 a8 a9 a10 a11 a12 a13 a14 a15 => .mk a0 a1 a2 a3 a4 a5 a6 a7 a8 a9 a10 a11 a12 a13 x a15) q
def FT.s15 (q : FT) : Q16 := FT.rec (fun a0 a1 a2 a3 a4 a5 a6 a7 a8 a9 a10 a11 a12 a13 a14 a15 => a15) q
def FT.u15 (q : FT) (x : Q16) : FT := FT.rec (fun a0 a1 a2 a3 a4 a5 a6 a7 a8 a9 a10 a11 a12 a13 a14 a15 => .mk a0 a1 a2 a3 a4 a5 a6 a7 a8 a9 a10 a11 a12 a13 a14 x) q
structure FTB where
 s : FT → Q16
 u : FT → Q16 → FT
def fb (i : Nat) : FTB :=
 match i with
 | 0 => ⟨FT.s0, FT.u0⟩
 | 1 => ⟨FT.s1, FT.u1⟩
 | 2 => ⟨FT.s2, FT.u2⟩
 | 3 => ⟨FT.s3, FT.u3⟩
 | 4 => ⟨FT.s4, FT.u4⟩
 | 5 => ⟨FT.s5, FT.u5⟩
 | 6 => ⟨FT.s6, FT.u6⟩
 | 7 => ⟨FT.s7, FT.u7⟩
 | 8 => ⟨FT.s8, FT.u8⟩
 | 9 => ⟨FT.s9, FT.u9⟩
 | 10 => ⟨FT.s10, FT.u10⟩
 | 11 => ⟨FT.s11, FT.u11⟩
 | 12 => ⟨FT.s12, FT.u12⟩
 | 13 => ⟨FT.s13, FT.u13⟩
 | 14 => ⟨FT.s14, FT.u14⟩
 | _ => ⟨FT.s15, FT.u15⟩
structure Slot where
 s : FT → FV
 u : FT → FV → FT
def fcQ (q : Q16) (k : Q16 → FT) : FT := Q16.rec (fun a0 a1 a2 a3 a4 a5 a6 a7 a8 a9 a10 a11 a12 a13 a14 a15 => k (.mk a0 a1 a2 a3 a4 a5 a6 a7 a8 a9 a10 a11 a12 a13 a14 a15)) q
def slotAt (a : Q16B) (b : FTB) : Slot := ⟨fun t => a.s (b.s t), fun t v => fcQ (a.u (b.s t) v) fun q => b.u t q⟩
def slot (i : Nat) : Slot := slotAt (qb (i % 16)) (fb (i / 16))
def trS (t : Tr AObj) (i : Nat) (x : AObj) : Tr AObj :=
 Tr.rec (motive := fun _ => Nat → Tr AObj) (fun i => Tr.set (i + 1) .leaf i x) (fun l v r ihl ihr i => Bool.rec (Bool.rec (.node l v (ihr (i / 2 - 1))) (.node (ihl (i / 2)) v r) (Nat.beq (i % 2) 1)) (.node l (some x) r) (Nat.beq i 0)) t i
def hset (h : AHeap) (i : Nat) (o : AObj) (k : AHeap → OV) : OV := AHeap.rec (fun n t => fcT (trS t i o) fun t => k ⟨n, t⟩) h
end
end Go.Av
