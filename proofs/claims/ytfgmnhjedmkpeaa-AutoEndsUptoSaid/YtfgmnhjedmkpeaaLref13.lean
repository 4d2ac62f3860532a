/-
  Several texts in one.
-/
import Derived.Test.YtfgmnhjedmkpeaaAeD
set_option linter.unusedSimpArgs false
/-
 A part.
-/
section
namespace Go.Av.L
open IntKind (i64 u64 u8)
open Go.Av Go.Lib
set_option linter.unusedVariables false
set_option linter.unusedSimpArgs false
theorem Hx(b k:Bool):A3 b (some k) (some false)=some (b&&k):=by cases b<;>rfl
open Classical in
theorem Iq(a b:AN):Va cfg.P 68 (AG a) (AG b)=some (decide (a=b)):=by
 have e:Va cfg.P 68 [.int .i64 a.Kind,.int .i64 a.A,.int .i64 a.B,.int .i64 a.Min,.int .i64 a.Max,.int .i64 a.Bl,.int .u64 a.Set.w0,.int .u64 a.Set.w1,.int .u64 a.Set.w2,.int .u64 a.Set.w3] [.int .i64 b.Kind,.int .i64 b.A,.int .i64 b.B,.int .i64 b.Min,.int .i64 b.Max,.int .i64 b.Bl,.int .u64 b.Set.w0,.int .u64 b.Set.w1,.int .u64 b.Set.w2,.int .u64 b.Set.w3]=A3 (a.Kind==b.Kind) (A3 (a.A==b.A) (A3 (a.B==b.B) (A3 (a.Min==b.Min) (A3 (a.Max==b.Max) (A3 (a.Bl==b.Bl) (match(A3 (a.Set.w0==b.Set.w0) (A3 (a.Set.w1==b.Set.w1) (A3 (a.Set.w2==b.Set.w2) (A3 (a.Set.w3==b.Set.w3) (some true) (some false)) (some false)) (some false)) (some false):Option Bool)with|some true=>some true|some false=>some false|none=>none) (some false)) (some false)) (some false)) (some false)) (some false)) (some false):=by kernel_rfl
 have m:∀k:Bool,(match(some k:Option Bool)with|some true=>some true|some false=>some false|none=>none)=some k:=λk=>by cases k<;>rfl
 refine Eq.trans e ?_;simp only[Hx,m];refine congrArg some ?_;rw[yM];obtain⟨k,x,y,mi,ma,gr,w0,w1,w2,w3⟩:=a;obtain⟨k',x',y',mi',ma',gr',w0',w1',w2',w3'⟩:=b;simp[and_assoc]
def P5(n:AN)(c:Int):Prop:=
 0<=n.Kind/\n.Kind<=7/\(2<=n.Kind/\n.Kind<=5->0<=n.A/\n.A<c)/\(¬(2<=n.Kind/\n.Kind<=5)->n.A=0)/\(n.Kind=2\/n.Kind=3->0<=n.B/\n.B<c)/\(¬(n.Kind=2\/n.Kind=3)->n.B=0)/\
 (n.Kind≠1->n.Set=⟨0,0,0,0⟩)/\(n.Kind=4->0<=n.Min/\n.Min<=255/\-1<=n.Max/\n.Max<=255/\(n.Max>=0->n.Min<=n.Max))/\(n.Kind≠4->n.Min=0/\n.Max=0)/\(n.Kind=5->1<=n.Bl/\n.Bl<=1024)/\(n.Kind≠5->n.Bl=0)
theorem T9{K A B mi ma gr:Int}{st:BB}{c:Int}:P5 ⟨K,A,B,mi,ma,gr,st⟩ c↔(0<=K/\K<=7/\(2<=K/\K<=5->0<=A/\A<c)/\(¬(2<=K/\K<=5)->A=0)/\(K=2\/K=3->0<=B/\B<c)/\(¬(K=2\/K=3)->B=0)/\
 (K≠1->st=⟨0,0,0,0⟩)/\(K=4->0<=mi/\mi<=255/\-1<=ma/\ma<=255/\(ma>=0->mi<=ma))/\(K≠4->mi=0/\ma=0)/\(K=5->1<=gr/\gr<=1024)/\(K≠5->gr=0)):=Iff.rfl
theorem VF(n:AN)(c:Int):W (C3 n c) λb=>b=true↔P5 n c:=by
 have m1:∀a,C7 a c=some (decide (0<=a)&&decide (a<c)):=λa=>rfl;obtain⟨K,A,B,mi,ma,gr,st⟩:=n;have C:K=0\/K=1\/K=2\/K=3\/K=4\/K=5\/K=6\/K=7\/(K<0\/7<K):=by omega
 rw[T9];rcases C with C|C|C|C|C|C|C|C|C
 ·have e:C8 ⟨K,A,B,mi,ma,gr,st⟩=some (⟨K,0,0,0,0,0,⟨0,0,0,0⟩⟩,true):=by subst C;rfl
  unfold C3;rw[e];simp only[zd,zZ,Aq,Iq];refine Bd (λh=>AH ?_) λh=>?_
  ·simp only[zF,false_iff];rintro⟨g1,g2,g3,g4,g5,g6,g7,g8,g9,g10,g11⟩;simp only[zx,zl]at h;exact h (by rw[g4 (by omega),g6 (by omega),(g9 (by omega)).1,(g9 (by omega)).2,g11 (by omega),g7 (by omega)])
  ·have h:(⟨K,0,0,0,0,0,⟨0,0,0,0⟩⟩:AN)=⟨K,A,B,mi,ma,gr,st⟩:=by simpa using h
   injection h with q1 q2 q3 q4 q5 q6 q7;simp only[show(K==2)=false from by rw[C];rfl,show(K==3)=false from by rw[C];rfl,show(K==4)=false from by rw[C];rfl,show(K==5)=false from by rw[C];rfl,BU,Aq,m1,zd,Hx];refine AH ?_;simp only[true_iff];exact⟨by omega,by omega,by omega,by omega,by omega,by omega,λ_=>q7.symm,by omega,by omega,by omega,by omega⟩
 ·have e:C8 ⟨K,A,B,mi,ma,gr,st⟩=some (⟨1,0,0,0,0,0,st⟩,true):=by subst C;rfl
  unfold C3;rw[e];simp only[zd,zZ,Aq,Iq];refine Bd (λh=>AH ?_) λh=>?_
  ·simp only[zF,false_iff];rintro⟨g1,g2,g3,g4,g5,g6,g7,g8,g9,g10,g11⟩;simp only[zx,zl]at h;exact h (by rw[C,g4 (by omega),g6 (by omega),(g9 (by omega)).1,(g9 (by omega)).2,g11 (by omega)])
  ·have h:(⟨1,0,0,0,0,0,st⟩:AN)=⟨K,A,B,mi,ma,gr,st⟩:=by simpa using h
   injection h with q1 q2 q3 q4 q5 q6 q7;simp only[show(K==2)=false from by rw[C];rfl,show(K==3)=false from by rw[C];rfl,show(K==4)=false from by rw[C];rfl,show(K==5)=false from by rw[C];rfl,BU,Aq,m1,zd,Hx];refine AH ?_;simp only[true_iff];exact⟨by omega,by omega,by omega,by omega,by omega,by omega,λh=>absurd C h,by omega,by omega,by omega,by omega⟩
 ·have e:C8 ⟨K,A,B,mi,ma,gr,st⟩=some (⟨K,A,B,0,0,0,⟨0,0,0,0⟩⟩,true):=by subst C;rfl
  unfold C3;rw[e];simp only[zd,zZ,Aq,Iq];refine Bd (λh=>AH ?_) λh=>?_
  ·simp only[zF,false_iff];rintro⟨g1,g2,g3,g4,g5,g6,g7,g8,g9,g10,g11⟩;simp only[zx,zl]at h;exact h (by rw[(g9 (by omega)).1,(g9 (by omega)).2,g11 (by omega),g7 (by omega)])
  ·have h:(⟨K,A,B,0,0,0,⟨0,0,0,0⟩⟩:AN)=⟨K,A,B,mi,ma,gr,st⟩:=by simpa using h
   injection h with q1 q2 q3 q4 q5 q6 q7;simp only[show(K==2)=true from by rw[C];rfl,BU,Aq,m1,zd,Hx];refine AH ?_;simp only[zf,zL,zq,z3];constructor
   ·intro h;exact⟨by omega,by omega,by omega,by omega,by omega,by omega,λ_=>q7.symm,by omega,by omega,by omega,by omega⟩
   ·rintro⟨g1,g2,g3,g4,g5,g6,g7,g8,g9,g10,g11⟩;omega
 ·have e:C8 ⟨K,A,B,mi,ma,gr,st⟩=some (⟨K,A,B,0,0,0,⟨0,0,0,0⟩⟩,true):=by subst C;rfl
  unfold C3;rw[e];simp only[zd,zZ,Aq,Iq];refine Bd (λh=>AH ?_) λh=>?_
  ·simp only[zF,false_iff];rintro⟨g1,g2,g3,g4,g5,g6,g7,g8,g9,g10,g11⟩;simp only[zx,zl]at h;exact h (by rw[(g9 (by omega)).1,(g9 (by omega)).2,g11 (by omega),g7 (by omega)])
  ·have h:(⟨K,A,B,0,0,0,⟨0,0,0,0⟩⟩:AN)=⟨K,A,B,mi,ma,gr,st⟩:=by simpa using h
   injection h with q1 q2 q3 q4 q5 q6 q7;simp only[show(K==2)=false from by rw[C];rfl,show(K==3)=true from by rw[C];rfl,BU,Aq,m1,zd,Hx];refine AH ?_;simp only[zf,zL,zq,z3];constructor
   ·intro h;exact⟨by omega,by omega,by omega,by omega,by omega,by omega,λ_=>q7.symm,by omega,by omega,by omega,by omega⟩
   ·rintro⟨g1,g2,g3,g4,g5,g6,g7,g8,g9,g10,g11⟩;omega
 ·have e:C8 ⟨K,A,B,mi,ma,gr,st⟩=some (⟨4,A,0,mi,ma,0,⟨0,0,0,0⟩⟩,true):=by subst C;rfl
  unfold C3;rw[e];simp only[zd,zZ,Aq,Iq];refine Bd (λh=>AH ?_) λh=>?_
  ·simp only[zF,false_iff];rintro⟨g1,g2,g3,g4,g5,g6,g7,g8,g9,g10,g11⟩;simp only[zx,zl]at h;exact h (by rw[C,g6 (by omega),g11 (by omega),g7 (by omega)])
  ·have h:(⟨4,A,0,mi,ma,0,⟨0,0,0,0⟩⟩:AN)=⟨K,A,B,mi,ma,gr,st⟩:=by simpa using h
   injection h with q1 q2 q3 q4 q5 q6 q7;simp only[show(K==2)=false from by rw[C];rfl,show(K==3)=false from by rw[C];rfl,show(K==4)=true from by rw[C];rfl,BU,Aq,m1,zd,Hx];refine AH ?_;simp only[zf,zL,zq,z3];constructor
   ·intro h;exact⟨by omega,by omega,by omega,by omega,by omega,by omega,λ_=>q7.symm,by omega,by omega,by omega,by omega⟩
   ·rintro⟨g1,g2,g3,g4,g5,g6,g7,g8,g9,g10,g11⟩;omega
 ·have e:C8 ⟨K,A,B,mi,ma,gr,st⟩=some (⟨5,A,0,0,0,gr,⟨0,0,0,0⟩⟩,true):=by subst C;rfl
  unfold C3;rw[e];simp only[zd,zZ,Aq,Iq];refine Bd (λh=>AH ?_) λh=>?_
  ·simp only[zF,false_iff];rintro⟨g1,g2,g3,g4,g5,g6,g7,g8,g9,g10,g11⟩;simp only[zx,zl]at h;exact h (by rw[C,g6 (by omega),(g9 (by omega)).1,(g9 (by omega)).2,g7 (by omega)])
  ·have h:(⟨5,A,0,0,0,gr,⟨0,0,0,0⟩⟩:AN)=⟨K,A,B,mi,ma,gr,st⟩:=by simpa using h
   injection h with q1 q2 q3 q4 q5 q6 q7;simp only[show(K==2)=false from by rw[C];rfl,show(K==3)=false from by rw[C];rfl,show(K==4)=false from by rw[C];rfl,show(K==5)=true from by rw[C];rfl,BU,Aq,m1,zd,Hx];refine AH ?_;simp only[zf,zL,zq,z3];constructor
   ·intro h;exact⟨by omega,by omega,by omega,by omega,by omega,by omega,λ_=>q7.symm,by omega,by omega,by omega,by omega⟩
   ·rintro⟨g1,g2,g3,g4,g5,g6,g7,g8,g9,g10,g11⟩;omega
 ·have e:C8 ⟨K,A,B,mi,ma,gr,st⟩=some (⟨K,0,0,0,0,0,⟨0,0,0,0⟩⟩,true):=by subst C;rfl
  unfold C3;rw[e];simp only[zd,zZ,Aq,Iq];refine Bd (λh=>AH ?_) λh=>?_
  ·simp only[zF,false_iff];rintro⟨g1,g2,g3,g4,g5,g6,g7,g8,g9,g10,g11⟩;simp only[zx,zl]at h;exact h (by rw[g4 (by omega),g6 (by omega),(g9 (by omega)).1,(g9 (by omega)).2,g11 (by omega),g7 (by omega)])
  ·have h:(⟨K,0,0,0,0,0,⟨0,0,0,0⟩⟩:AN)=⟨K,A,B,mi,ma,gr,st⟩:=by simpa using h
   injection h with q1 q2 q3 q4 q5 q6 q7;simp only[show(K==2)=false from by rw[C];rfl,show(K==3)=false from by rw[C];rfl,show(K==4)=false from by rw[C];rfl,show(K==5)=false from by rw[C];rfl,BU,Aq,m1,zd,Hx];refine AH ?_;simp only[true_iff];exact⟨by omega,by omega,by omega,by omega,by omega,by omega,λ_=>q7.symm,by omega,by omega,by omega,by omega⟩
 ·have e:C8 ⟨K,A,B,mi,ma,gr,st⟩=some (⟨K,0,0,0,0,0,⟨0,0,0,0⟩⟩,true):=by subst C;rfl
  unfold C3;rw[e];simp only[zd,zZ,Aq,Iq];refine Bd (λh=>AH ?_) λh=>?_
  ·simp only[zF,false_iff];rintro⟨g1,g2,g3,g4,g5,g6,g7,g8,g9,g10,g11⟩;simp only[zx,zl]at h;exact h (by rw[g4 (by omega),g6 (by omega),(g9 (by omega)).1,(g9 (by omega)).2,g11 (by omega),g7 (by omega)])
  ·have h:(⟨K,0,0,0,0,0,⟨0,0,0,0⟩⟩:AN)=⟨K,A,B,mi,ma,gr,st⟩:=by simpa using h
   injection h with q1 q2 q3 q4 q5 q6 q7;simp only[show(K==2)=false from by rw[C];rfl,show(K==3)=false from by rw[C];rfl,show(K==4)=false from by rw[C];rfl,show(K==5)=false from by rw[C];rfl,BU,Aq,m1,zd,Hx];refine AH ?_;simp only[true_iff];exact⟨by omega,by omega,by omega,by omega,by omega,by omega,λ_=>q7.symm,by omega,by omega,by omega,by omega⟩
 ·have ne:∀j:Int,0<=j->j<=7->(K==j)=false:=λj h1 E=>by rw[z8];omega
  unfold C3 C8;simp only[ne 0 (by omega) (by omega),ne 6 (by omega) (by omega),ne 7 (by omega) (by omega),ne 1 (by omega) (by omega),ne 2 (by omega) (by omega),ne 3 (by omega) (by omega),ne 4 (by omega) (by omega),ne 5 (by omega) (by omega),Aq,zd,yF,BU];refine AH ?_;simp only[zF,false_iff];rintro⟨h1,E,_⟩;omega
def Ly(w:BB)(j:Nat):Int:=([w.w0,w.w1,w.w2,w.w3]:List Int).getD j 0
def Yh(w:BB):Prop:=∀j,0<=Ly w j/\Ly w j<=18446744073709551615
theorem XF:∀b:Fin 256,Lr .u8 ((b.val:Nat):Int) 63=((b.val%64:Nat):Int):=by decide+kernel
theorem X4:∀b:Fin 256,LQ .u8 ((b.val:Nat):Int) 6=((b.val / 64:Nat):Int):=by decide+kernel
theorem Yi{v:Int}(h0:0<=v)(h1:v<=18446744073709551615):Lr .u64 v 1=v%2:=by
 unfold Lr;have e1:(BitVec.ofInt 64 v).toNat=v.toNat:=by rw[BitVec.toNat_ofInt];omega
 show u64.wrap ((BitVec.ofInt 64 v &&& BitVec.ofInt 64 1).toNat:Int)=_;rw[BitVec.toNat_and,e1,show(BitVec.ofInt 64 1).toNat=2^1 - 1 from rfl,Nat.and_two_pow_sub_one_eq_mod];rw[IntKind.wrap_u64];omega
theorem Xr{w:Int}{i:Nat}(hw:0<=w)(F:i<64):LQ .u64 w (i:Int)=((w.toNat / 2^i:Nat):Int):=by
 obtain⟨n,rfl⟩:=zB hw;unfold LQ;have e:min (i:Int).toNat u64.bits=i:=by
  rw[zu];exact qH (by show i<=64;omega)
 rw[e,qM _ (by have:(0:Int)<=((2^i:Nat):Int):=yw _;simpa using this)]
 norm_cast
theorem W8{b:Nat}(D:b<256):Lr .u8 ((b:Nat):Int) 63=((b%64:Nat):Int):=XF ⟨b,D⟩
theorem Yn{b:Nat}(D:b<256):LQ .u8 ((b:Nat):Int) 6=((b / 64:Nat):Int):=X4 ⟨b,D⟩
theorem Q8{w:BB}(ok:Yh w){b:Nat}(D:b<256):Kp w (b:Int)=((Ly w (b / 64)).toNat / 2^(b%64)%2==1):=by
 have hm:Cc w (b:Int)=some ((Ly w (b / 64)).toNat / 2^(b%64)%2==1):=by
  unfold Cc;rw[Yn D,W8 D];have X:([w.w0,w.w1,w.w2,w.w3]:List Int)[b / 64]?=some (Ly w (b / 64)):=by
   unfold Ly;rw[zo,List.getElem?_eq_getElem (by simp;omega)];rfl
  rw[Ij X,zd,show Gv (decide (0<=((b%64:Nat):Int)))=λx:Option Bool=>x from by rw[zW (by omega)];rfl];have o:=ok (b / 64);have hd:(Ly w (b / 64)).toNat / 2^(b%64)<=(Ly w (b / 64)).toNat:=Nat.div_le_self _ _;obtain⟨q,hq⟩:∃q:Nat,(Ly w (b / 64)).toNat / 2^(b%64)=q:=⟨_,rfl⟩;rw[Xr o.1 (by omega)];rw[hq]at hd⊢;rw[Yi (by omega) (by omega)];refine congrArg some ?_;rw[yM];simp only[z3];omega
 unfold Kp;rw[hm];rfl
theorem Re{w:Nat}(hw:w<2^64)(h:∀i,i<64->(w / 2^i%2==1)=false):w=0:=by
 apply Nat.eq_of_testBit_eq;intro i;rw[Nat.zero_testBit];by_cases F:i<64
 ·rw[Nat.testBit_eq_decide_div_mod_eq];have:=h i F;simpa using this
 ·exact Nat.testBit_lt_two_pow (zQ hw (Nat.pow_le_pow_right (by omega) (by omega)))
noncomputable def I2(w:BB)(k:Nat):List UInt8:=((List.range k).filter λb=>Kp w ((b:Nat):Int)).map UInt8.ofNat
noncomputable def K9(w:BB):List UInt8:=I2 w 256
theorem NF(w:BB)(k:Nat):(I2 w k).length<=k:=by
 unfold I2;rw[yh];exact zM (yx _ _) (by simp)
theorem MY(w:BB)(k:Nat):I2 w (k+1)=if Kp w (k:Int)=true then I2 w k++[UInt8.ofNat k]else I2 w k:=by
 unfold I2;rw[qe,y2];by_cases h:Kp w (k:Int)=true<;>simp[h]
theorem RS{w:BB}(ok:Yh w):K9 w=[]↔w=⟨0,0,0,0⟩:=by
 constructor
 ·intro h;have D:∀b,b<256->Kp w ((b:Nat):Int)=false:=by
   intro b D;have h':=qo.1 h;rw[yP]at h';simpa using h' b (by simpa using D)
  have one:∀j,j<4->Ly w j=0:=by
   intro j U;have okw:=ok j;have:=Re (w:=(Ly w j).toNat) (by omega) λi F=>by
    have:=D (64*j+i) (by omega);rw[Q8 ok (by omega),show(64*j+i) / 64=j from by omega,show(64*j+i)%64=i from by omega]at this;exact this
   omega
  obtain⟨a,b,c,d⟩:=w;have h0:a=0:=one 0 (by omega);have h1:b=0:=one 1 (by omega);have E:c=0:=one 2 (by omega);have N:d=0:=one 3 (by omega);rw[h0,h1,E,N]
 ·rintro rfl;unfold K9 I2;rw[qo,yP];intro b hm;have D:b<256:=by simpa using hm
  rw[Q8 ok D];have:b / 64=0\/b / 64=1\/b / 64=2\/b / 64=3:=by omega
  rcases this with h|h|h|h<;>rw[h]<;>simp[Ly]
theorem S3(s:BB):EW s=some (K9 s):=by
 refine W.eq ?_;unfold EW;refine AP (W.mono (W.loop (λt=>∃i:Nat,t.2=(i:Int)/\i<=256/\t.1=I2 s i) (λt=>(256 - t.2).toNat) ⟨0,rfl,by omega,rfl⟩ ?_ (Q:=λr=>r=K9 s)) λr Y=>AH Y);rintro⟨x1,x2⟩ ⟨i,F,h1,E⟩;simp only at F E;subst F;subst E;unfold Fs;have T:=NF s i;refine Bq (λD=>?_) λ_=>AH (by rw[show i=256 by omega];rfl);have e:u8.wrap (i:Int)=(i:Int):=aS (by omega) (by omega);rw[e,has_eq s (by omega) (by omega),G4 (by omega)];refine AP (AP (AH (Bd (λht=>?_) λhf=>AH ?_)))
 ·have et:Xm (i:Int)=some (UInt8.ofNat i):=by unfold Xm;rw[zk (by omega),zu]
  rw[et];refine AP (AH (Dc (GR (by simp;omega) (by simp;omega)) (AH (AH ?_))));exact⟨⟨i+1,rfl,by omega,by rw[MY,zk ht]⟩,by simp only;omega⟩
 ·refine AH ?_;exact⟨⟨i+1,rfl,by omega,by rw[MY,zh (by rw[hf];decide)]⟩,by simp only;omega⟩
noncomputable def Dr(n:AN):AS:=⟨n.Kind,n.A,n.B,n.Min,n.Max,n.Bl,K9 n.Set⟩
theorem Tw(t:AL)(I:t.Ad.length<=1048576):C6 t=some ⟨t.Ad.map Dr,t.A2⟩:=by
 refine W.eq ?_;unfold C6;refine AP (W.mono (W.loop (λs=>∃i:Nat,s.2=(i:Int)/\i<=t.Ad.length/\s.1=(t.Ad.take i).map Dr) (λs=>(t.Ad.length - s.2).toNat) ⟨0,rfl,by omega,rfl⟩ ?_ (Q:=λr=>r=t.Ad.map Dr)) λr Y=>AH (by rw[Y]));rintro⟨x1,x2⟩ ⟨i,F,h1,E⟩;simp only at F E;subst F;subst E;unfold E6;refine Bq (λD=>?_) λD=>AH (by rw[zV (by omega)]);have F:i<t.Ad.length:=by omega
 rw[FM F,G4 (by omega)];refine AP (AH (AP (Tq (S3 _) (Dc (GR (by simp;omega) (by simp;omega)) (AH ?_)))));refine⟨⟨i+1,rfl,by omega,?_⟩,by simp only;omega⟩;rw[List.take_add_one,List.getElem?_eq_getElem F,yy];rfl
open Classical in
theorem Xz(n:AN)(ok:Yh n.Set)(c:Int):W (EN (Dr n) c) λb=>b=true↔P5 n c:=by
 unfold EN Dr;dsimp only;have hS:(K9 n.Set==([]:List UInt8))=decide (n.Set=⟨0,0,0,0⟩):=by
  rw[yM,z3,zq];exact RS ok
 rw[hS];refine Bd (λh=>AH ?_) λh=>?_
 ·simp only[zL,zq]at h;simp only[zF,false_iff];rintro⟨h1,E,_⟩;omega
 simp only[zH,zl]at h;refine Bd (λE=>AH ?_) λE=>?_
 ·simp only[zL,zf,zq,zx,yS,zl,qa,z3,zH,z8]at E;simp only[zF,false_iff];rintro⟨_,_,g1,g2,g3,g4,_⟩;omega
 simp only[zH,yS,zf,zL,zq,zx,zl,bne_eq_false_iff_eq,z3,z8]at E;refine Bd (λN=>AH ?_) λN=>?_
 ·simp only[zf,qa,zx,zl]at N;simp only[zF,false_iff];rintro⟨_,_,_,_,_,_,g,_⟩;exact N.2 (g N.1)
 simp only[yS,qa,yB,zq]at N;have base:P5 n c↔(n.Kind=4->0<=n.Min/\n.Min<=255/\-1<=n.Max/\n.Max<=255/\(n.Max>=0->n.Min<=n.Max))/\(n.Kind≠4->n.Min=0/\n.Max=0)/\(n.Kind=5->1<=n.Bl/\n.Bl<=1024)/\(n.Kind≠5->n.Bl=0):=
  ⟨λ⟨_,_,_,_,_,_,_,g⟩=>g,λg=>⟨by omega,by omega,by omega,by omega,by omega,by omega,N,g⟩⟩
 rw[base];refine AP (W.mono (Q:=λo=>(o=.inl ()/\(n.Kind=4->0<=n.Min/\n.Min<=255/\-1<=n.Max/\n.Max<=255/\(n.Max>=0->n.Min<=n.Max))/\(n.Kind≠4->n.Min=0/\n.Max=0))\/(o=.inr false/\¬((n.Kind=4->0<=n.Min/\n.Min<=255/\-1<=n.Max/\n.Max<=255/\(n.Max>=0->n.Min<=n.Max))/\(n.Kind≠4->n.Min=0/\n.Max=0)))) ?_ λo M=>?_)
 ·refine Bd (λV=>Bd (λJ=>AH (.inr ⟨rfl,?_⟩)) λJ=>AH (.inl ⟨rfl,?_⟩)) λV=>Bd (λJ=>AH (.inr ⟨rfl,?_⟩)) λJ=>AH (.inl ⟨rfl,?_⟩)
  all_goals simp only[zL,zf,zH,yS,zq,zl,z3,z8,qa,bne_eq_false_iff_eq]at V J
  ·omega
  ·omega
  ·omega
  ·omega
 ·rcases M with⟨rfl,g1,g2⟩|⟨rfl,g⟩
  ·refine Bd (λJ=>AH ?_) λJ=>AH ?_
   ·have J:n.Kind=5:=by simpa using J
    simp only[zf,zq];exact⟨λg=>⟨g1,g2,λ_=>⟨by omega,by omega⟩,λh=>absurd J h⟩,λg=>by have:=g.2.2.1 J;omega⟩
   ·have J:n.Kind≠5:=by simpa using J
    simp only[z3];exact⟨λg=>⟨g1,g2,λh=>absurd h J,λ_=>g⟩,λg=>g.2.2.2 J⟩
  ·refine AH ?_;simp only[zF,false_iff];exact λg'=>g ⟨g'.1,g'.2.1⟩
def Hk(t:AL):Prop:=t.Ad.length<=1024/\0<=t.A2/\t.A2<t.Ad.length/\∀(i:Nat) n,t.Ad[i]?=some n->P5 n i
theorem P3(t:AL):W (Cm t) λb=>b=true↔Hk t:=by
 unfold Cm;refine Bd (λD=>AH ?_) λD=>?_
 ·simp only[zL,zq]at D;simp only[zF,false_iff];rintro⟨h1,E,N,_⟩;omega
 simp only[zH,zl]at D;refine AP (W.mono (W.loop (λs=>∃i:Nat,s=(i:Int)/\i<=t.Ad.length/\∀(j:Nat) n,j<i->t.Ad[j]?=some n->P5 n j) (λs=>(t.Ad.length - s).toNat) ⟨0,rfl,by omega,λj n U=>by omega⟩ ?_ (Q:=λo=>match o with| .inl _=>Hk t| .inr b=>b=false/\¬Hk t)) λo M=>?_)
 ·rintro _ ⟨i,rfl,h1,E⟩;unfold EZ;refine Bq (λT=>?_) λT=>AH ?_
  ·have F:i<t.Ad.length:=by omega
   rw[FM F];refine AP (AH (AP ((VF _ _).mono λb O=>Bd (λG=>AH ⟨rfl,λZ=>?_⟩) λG=>AH ?_)))
   ·have:=O.2 (Z.2.2.2 i _ (List.getElem?_eq_getElem F));rw[this]at G;cases G
   rw[show i64.wrap ((i:Int)+1)=((i+1:Nat):Int) from G4 (by omega)];refine⟨⟨i+1,rfl,by omega,λj n U I=>?_⟩,by omega⟩;by_cases R:j<i
   ·exact E j n R I
   ·obtain rfl:j=i:=by omega
    rw[List.getElem?_eq_getElem F]at I;cases I;exact O.1 (by simpa using G)
  ·exact⟨by omega,by omega,by omega,λj n I=>E j n (by have:=(List.getElem?_eq_some_iff.1 I).1;omega) I⟩
 ·cases o with
  |inl u=>exact AH ⟨λ_=>M,λ_=>rfl⟩
  |inr b=>exact AH ⟨λh=>(by rw[M.1]at h;cases h),λh=>absurd h M.2⟩
theorem Ue(t:AL)(ok:∀n∈t.Ad,Yh n.Set):W (C5 ⟨t.Ad.map Dr,t.A2⟩) λb=>b=true↔Hk t:=by
 unfold C5;simp only[yh];refine Bd (λD=>AH ?_) λD=>?_
 ·simp only[zL,zq]at D;simp only[zF,false_iff];rintro⟨h1,E,N,_⟩;omega
 simp only[zH,zl]at D;refine AP (W.mono (W.loop (λs=>∃i:Nat,s=(i:Int)/\i<=t.Ad.length/\∀(j:Nat) n,j<i->t.Ad[j]?=some n->P5 n j) (λs=>(t.Ad.length - s).toNat) ⟨0,rfl,by omega,λj n U=>by omega⟩ ?_ (Q:=λo=>match o with| .inl _=>Hk t| .inr b=>b=false/\¬Hk t)) λo M=>?_)
 ·rintro _ ⟨i,rfl,h1,E⟩;unfold E8;simp only[yh];refine Bq (λT=>?_) λT=>AH ?_
  ·have F:i<t.Ad.length:=by omega
   rw[Ij (x:=Dr t.Ad[i]) (by rw[List.getElem?_map,List.getElem?_eq_getElem F];rfl)];refine AP (AH (AP ((Xz _ (ok _ (zY F)) _).mono λb O=>Bd (λG=>AH ⟨rfl,λZ=>?_⟩) λG=>AH ?_)))
   ·have:=O.2 (Z.2.2.2 i _ (List.getElem?_eq_getElem F));rw[this]at G;cases G
   rw[show i64.wrap ((i:Int)+1)=((i+1:Nat):Int) from G4 (by omega)];refine⟨⟨i+1,rfl,by omega,λj n U I=>?_⟩,by omega⟩;by_cases R:j<i
   ·exact E j n R I
   ·obtain rfl:j=i:=by omega
    rw[List.getElem?_eq_getElem F]at I;cases I;exact O.1 (by simpa using G)
  ·exact⟨by omega,by omega,by omega,λj n I=>E j n (by have:=(List.getElem?_eq_some_iff.1 I).1;omega) I⟩
 ·cases o with
  |inl u=>exact AH ⟨λ_=>M,λ_=>rfl⟩
  |inr b=>exact AH ⟨λh=>(by rw[M.1]at h;cases h),λh=>absurd h M.2⟩
theorem Hk.r{t:AL}(h:Hk t):JU t:=by
 obtain⟨h1,E,N,V⟩:=h;refine⟨h1,⟨E,N⟩,λi n I=>?_⟩;obtain⟨g1,g2,g3,g4,g5,g6,g7,g8,g9,g10,g11⟩:=V i n I;refine⟨λS=>⟨(g3 (by omega)).1,(g3 (by omega)).2,(g5 S).1,(g5 S).2⟩,λS=>?_,λS=>g3 (by omega)⟩;have a:=g3 (by omega);have b:=g8 S;exact⟨a.1,a.2,b.1,b.2.1,by omega⟩
end Go.Av.L
end
/-
 A part.
-/
section
namespace Go.Abs.L
open IntKind (i64 u64 u8)
open Go.Abs
set_option linter.unusedVariables false
noncomputable def Fx(p0:Int)(p1:List UInt8)(s:Int):Option ((Int)⊕((Unit)⊕(Bool))):=
 match s with
 |x3=>A3 (decide (x3<(p1.length:Int))) ((Rc p1 x3).bind λx4=>A3 (x4==p0) (some (.inr (.inr true))) (some (.inl (i64.wrap (x3+(1:Int)))))) (some (.inr (.inl ())))
noncomputable def EV(h:AB)(p0:Int)(p1:List UInt8):Option (Bool):=
 (loop (Fx p0 p1) (0:Int)).bind λo1=>(match o1 with| .inl _=>some false| .inr x2=>some x2)
theorem LF{g:Gd}{h:AB}{p0:Int}{p1:List UInt8}{r0:Bool}(hm:EV h p0 p1=some r0):CW cfg g h 67 [.int .u8 p0,.str p1] (.bool r0) h:=by
 refine Wx (by kernel_rfl) (by kernel_rfl) (TK (n:=17) (rs:=[.tmp 4]) (by kernel_rfl) ?_);unfold EV at hm;refine start (n:=17) [(0,.int .u8 p0),(1,.str p1)] (by kernel_rfl) (by kernel_rfl) ?_;intro fr H;refine An (by kernel_rfl) ?_;refine As (id:=0) (n:=1) [(0,[])] (by kernel_rfl) (by kernel_rfl) ?_;refine AQ [(0,[])] [(0,.int .u8 p0),(1,.str p1)] H (AK rfl) (λfr=>by kernel_rfl) ?_;intro fr H;refine Ac ?_;show AW cfg 67 (⟨h.size,[]⟩:Gd) (right (A7 cfg.P 67)) fr h _;refine An (by kernel_rfl) ?_;refine An (by kernel_rfl) ?_;refine As (id:=1) (n:=1) [(0,[])] (by kernel_rfl) (by kernel_rfl) ?_;refine AQ [(0,[])] [(0,.int .u8 p0),(1,.str p1),(5,.int .i64 (0:Int))] H (AK rfl) (λfr=>by kernel_rfl) ?_;intro fr H;refine Ac ?_;show AW cfg 67 (⟨h.size,[]⟩:Gd) (right (left (right (A7 cfg.P 67)))) fr h _;refine A4 (id:=0) (by kernel_rfl) ?_;obtain⟨o1,M,hm⟩:=AJ hm;refine BZ (Q':=λe fr' h'=>(e=.exit 0/\.inl ()=o1/\h=h'/\Has fr' 17 [])\/(∃(x2:Bool),e=.ret/\.inr x2=o1/\h=h'/\Has fr' 17 [(4,.bool x2)])\/False) ?_ ?_
 ·refine DN (by kernel_rfl) (λ(s:Int) fr' h'=>∃(x3:Int),x3=s/\h=h'/\Has fr' 17 [(0,.int .u8 p0),(1,.str p1),(5,.int .i64 x3)]) M ⟨(0:Int),rfl,rfl,H.less _ (λfr=>by kernel_rfl)⟩ ?_;clear M hm H;intro s q fr hz hI hm;obtain⟨x3,rfl,rfl,H⟩:=hI;unfold Fx at hm;refine An (by kernel_rfl) ?_;refine An (by kernel_rfl) ?_;refine As (id:=2) (n:=4) [(0,[]),(1,[]),(2,[]),(3,[])] (by kernel_rfl) (by kernel_rfl) ?_;refine AQ [(0,[]),(1,[]),(2,[]),(3,[])] [(0,.int .u8 p0),(1,.str p1),(5,.int .i64 x3),(9,.bool (decide (x3<(p1.length:Int))))] H (AK rfl) (λfr=>by kernel_rfl) ?_;intro fr H;refine Ac ?_;show AW cfg 67 (⟨h.size,[]⟩:Gd) (right (left (left (left (right (left (right (A7 cfg.P 67)))))))) fr h _;rcases BH hm with⟨D,hm⟩|⟨D,hm⟩
  ·replace H:=H.DR 9 D (by kernel_rfl);refine DH (x:=.tmp 9) (by kernel_rfl) H (λfr=>by kernel_rfl) ?_;refine Dd (by kernel_rfl) ?_;show AW cfg 67 (⟨h.size,[]⟩:Gd) (right (left (left (right (left (right (A7 cfg.P 67))))))) fr h _;refine An (by kernel_rfl) ?_;refine A4 (id:=1) (by kernel_rfl) ?_;refine An (by kernel_rfl) ?_;refine As (id:=4) (n:=5) [(0,[]),(1,[]),(2,[]),(3,[]),(4,[])] (by kernel_rfl) (by kernel_rfl) ?_;refine AQ [(0,[]),(1,[])] [(0,.int .u8 p0),(1,.str p1),(5,.int .i64 x3),(12,.str p1),(13,.int .i64 x3)] H (AK rfl) (λfr=>by kernel_rfl) ?_;intro fr H;obtain⟨x4,X,hm⟩:=AJ hm;refine AO (v:=.int .u8 x4) (h1:=h) [(0,.int .u8 p0),(1,.str p1),(5,.int .i64 x3),(14,.int .u8 x4)] H (λfr=>by kernel_rfl) (λfr=>.of (Qx (by kernel_rfl) X)) ?_;intro fr t H;refine AQ [(3,[]),(4,[])] [(0,.int .u8 p0),(1,.str p1),(5,.int .i64 x3),(16,.bool (x4==p0))] H (AK rfl) (λfr=>by kernel_rfl) ?_;intro fr H;refine Ac ?_;show AW cfg 67 (⟨h.size,[]⟩:Gd) (right (left (left (right (left (left (right (left (right (A7 cfg.P 67)))))))))) fr h _;rcases BH hm with⟨D,hm⟩|⟨D,hm⟩
   ·replace H:=H.DR 16 D (by kernel_rfl);refine DH (x:=.tmp 16) (by kernel_rfl) H (λfr=>by kernel_rfl) ?_;refine An (by kernel_rfl) ?_;refine As (id:=5) (n:=1) [(0,[])] (by kernel_rfl) (by kernel_rfl) ?_;refine AQ [(0,[])] [(4,.bool true)] H (AK rfl) (λfr=>by kernel_rfl) ?_;intro fr H;refine Ac ?_;show AW cfg 67 (⟨h.size,[]⟩:Gd) (right (left (right (left (left (right (left (left (right (left (right (A7 cfg.P 67)))))))))))) fr h _;refine I1 (by kernel_rfl) ?_;exact Exists.intro _ (And.intro (qX hm).symm (λe=>Or.inr (Or.inl ⟨true,rfl,e,rfl,H.less _ (λfr=>by kernel_rfl)⟩)))
   ·replace H:=H.DR 16 D (by kernel_rfl);refine Ca (x:=.tmp 16) (by kernel_rfl) H (λfr=>by kernel_rfl) ?_;refine Dd (by kernel_rfl) ?_;show AW cfg 67 (⟨h.size,[]⟩:Gd) (right (right (left (left (right (left (right (A7 cfg.P 67)))))))) fr h _;refine As (id:=3) (n:=3) [(0,[]),(1,[]),(2,[])] (by kernel_rfl) (by kernel_rfl) ?_;refine AQ [(0,[]),(1,[]),(2,[])] [(0,.int .u8 p0),(1,.str p1),(5,.int .i64 (i64.wrap (x3+(1:Int))))] H (AK rfl) (λfr=>by kernel_rfl) ?_;intro fr H;refine Ac ?_;exact Exists.intro (i64.wrap (x3+(1:Int))) (And.intro (qX hm).symm ⟨i64.wrap (x3+(1:Int)),rfl,rfl,H.less _ (λfr=>by kernel_rfl)⟩)
  ·replace H:=H.DR 9 D (by kernel_rfl);refine Ca (x:=.tmp 9) (by kernel_rfl) H (λfr=>by kernel_rfl) ?_;refine Cz (i:=0) (by kernel_rfl) ?_;exact Exists.intro _ (And.intro (qX hm).symm (λe=>Or.inl ⟨rfl,e,rfl,H.less _ (λfr=>by kernel_rfl)⟩))
 ·clear M;intro e fr hz hQ;rcases hQ with⟨rfl,rfl,rfl,H⟩|⟨x2,rfl,rfl,rfl,H⟩|hF
  ·skip
   show AW cfg 67 (⟨h.size,[]⟩:Gd) (right (right (A7 cfg.P 67))) fr h _;refine An (by kernel_rfl) ?_;refine As (id:=6) (n:=1) [(0,[])] (by kernel_rfl) (by kernel_rfl) ?_;refine AQ [(0,[])] [(4,.bool false)] H (AK rfl) (λfr=>by kernel_rfl) ?_;intro fr H;refine Ac ?_;show AW cfg 67 (⟨h.size,[]⟩:Gd) (right (right (right (A7 cfg.P 67)))) fr h _;refine I1 (by kernel_rfl) ?_;have e1:=qX hm;subst e1;exact(O7 .ret H (λfr=>by kernel_rfl) (.inl rfl):Qk cfg.P _ _ _ fr _)
  ·skip
   have e1:=qX hm;subst e1;exact(O7 .ret H (λfr=>by kernel_rfl) (.inl rfl):Qk cfg.P _ _ _ fr _)
  ·exact hF.elim
end Go.Abs.L
end
