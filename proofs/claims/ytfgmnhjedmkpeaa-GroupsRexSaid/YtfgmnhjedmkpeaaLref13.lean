/-
  Several texts in one.
-/
import Derived.Test.YtfgmnhjedmkpeaaDfaS
import Derived.Test.YtfgmnhjedmkpeaaGrK
set_option linter.unusedSimpArgs false
/-
 A part.
-/
section
namespace Go.Av.L
open IntKind (i64 u64 u8)
open Go.Av Go.Lib
set_option linter.unusedVariables false
set_option linter.unusedSimpArgs false
theorem IZ(b k:Bool):Aj b (some k) (some false)=some (b&&k):=by cases b<;>rfl
open Classical in
theorem KN(a b:AF):RQ cfg.P 68 (AB a) (AB b)=some (decide (a=b)):=by
 have e:RQ cfg.P 68 [.int .i64 a.Kind,.int .i64 a.A,.int .i64 a.B,.int .i64 a.Min,.int .i64 a.Max,.int .i64 a.BO,.int .u64 a.Set.w0,.int .u64 a.Set.w1,.int .u64 a.Set.w2,.int .u64 a.Set.w3] [.int .i64 b.Kind,.int .i64 b.A,.int .i64 b.B,.int .i64 b.Min,.int .i64 b.Max,.int .i64 b.BO,.int .u64 b.Set.w0,.int .u64 b.Set.w1,.int .u64 b.Set.w2,.int .u64 b.Set.w3]=Aj (a.Kind==b.Kind) (Aj (a.A==b.A) (Aj (a.B==b.B) (Aj (a.Min==b.Min) (Aj (a.Max==b.Max) (Aj (a.BO==b.BO) (match(Aj (a.Set.w0==b.Set.w0) (Aj (a.Set.w1==b.Set.w1) (Aj (a.Set.w2==b.Set.w2) (Aj (a.Set.w3==b.Set.w3) (some true) (some false)) (some false)) (some false)) (some false):Option Bool)with|some true=>some true|some false=>some false|none=>none) (some false)) (some false)) (some false)) (some false)) (some false)) (some false):=by kernel_rfl
 have m:∀k:Bool,(match(some k:Option Bool)with|some true=>some true|some false=>some false|none=>none)=some k:=λk=>by cases k<;>rfl
 refine Eq.trans e ?_;simp only[IZ,m];refine congrArg some ?_;rw[qF];obtain⟨k,x,y,mi,ma,gr,w0,w1,w2,w3⟩:=a;obtain⟨k',x',y',mi',ma',gr',w0',w1',w2',w3'⟩:=b;simp[and_assoc]
def Qi(n:AF)(c:Int):Prop:=
 0<=n.Kind/\n.Kind<=7/\(2<=n.Kind/\n.Kind<=5->0<=n.A/\n.A<c)/\(¬(2<=n.Kind/\n.Kind<=5)->n.A=0)/\(n.Kind=2\/n.Kind=3->0<=n.B/\n.B<c)/\(¬(n.Kind=2\/n.Kind=3)->n.B=0)/\
 (n.Kind≠1->n.Set=⟨0,0,0,0⟩)/\(n.Kind=4->0<=n.Min/\n.Min<=255/\-1<=n.Max/\n.Max<=255/\(n.Max>=0->n.Min<=n.Max))/\(n.Kind≠4->n.Min=0/\n.Max=0)/\(n.Kind=5->1<=n.BO/\n.BO<=1024)/\(n.Kind≠5->n.BO=0)
theorem VT{K A B mi ma gr:Int}{st:Ar}{c:Int}:Qi ⟨K,A,B,mi,ma,gr,st⟩ c↔(0<=K/\K<=7/\(2<=K/\K<=5->0<=A/\A<c)/\(¬(2<=K/\K<=5)->A=0)/\(K=2\/K=3->0<=B/\B<c)/\(¬(K=2\/K=3)->B=0)/\
 (K≠1->st=⟨0,0,0,0⟩)/\(K=4->0<=mi/\mi<=255/\-1<=ma/\ma<=255/\(ma>=0->mi<=ma))/\(K≠4->mi=0/\ma=0)/\(K=5->1<=gr/\gr<=1024)/\(K≠5->gr=0)):=Iff.rfl
theorem U9(n:AF)(c:Int):W (DC n c) λb=>b=true↔Qi n c:=by
 have m1:∀a,Dy a c=some (decide (0<=a)&&decide (a<c)):=λa=>rfl;obtain⟨K,A,B,mi,ma,gr,st⟩:=n;have C:K=0\/K=1\/K=2\/K=3\/K=4\/K=5\/K=6\/K=7\/(K<0\/7<K):=by omega
 rw[VT];rcases C with C|C|C|C|C|C|C|C|C
 ·have e:Dr ⟨K,A,B,mi,ma,gr,st⟩=some (⟨K,0,0,0,0,0,⟨0,0,0,0⟩⟩,true):=by subst C;rfl
  unfold DC;rw[e];simp only[za,zI,Ak,KN];refine Ap (λh=>AG ?_) λh=>?_
  ·simp only[zB,false_iff];rintro⟨g1,g2,g3,g4,g5,g6,g7,g8,g9,g10,g11⟩;simp only[zu,zr]at h;exact h (by rw[g4 (by omega),g6 (by omega),(g9 (by omega)).1,(g9 (by omega)).2,g11 (by omega),g7 (by omega)])
  ·have h:(⟨K,0,0,0,0,0,⟨0,0,0,0⟩⟩:AF)=⟨K,A,B,mi,ma,gr,st⟩:=by simpa using h
   injection h with q1 q2 q3 q4 q5 q6 q7;simp only[show(K==2)=false from by rw[C];rfl,show(K==3)=false from by rw[C];rfl,show(K==4)=false from by rw[C];rfl,show(K==5)=false from by rw[C];rfl,BL,Ak,m1,za,IZ];refine AG ?_;simp only[true_iff];exact⟨by omega,by omega,by omega,by omega,by omega,by omega,λ_=>q7.symm,by omega,by omega,by omega,by omega⟩
 ·have e:Dr ⟨K,A,B,mi,ma,gr,st⟩=some (⟨1,0,0,0,0,0,st⟩,true):=by subst C;rfl
  unfold DC;rw[e];simp only[za,zI,Ak,KN];refine Ap (λh=>AG ?_) λh=>?_
  ·simp only[zB,false_iff];rintro⟨g1,g2,g3,g4,g5,g6,g7,g8,g9,g10,g11⟩;simp only[zu,zr]at h;exact h (by rw[C,g4 (by omega),g6 (by omega),(g9 (by omega)).1,(g9 (by omega)).2,g11 (by omega)])
  ·have h:(⟨1,0,0,0,0,0,st⟩:AF)=⟨K,A,B,mi,ma,gr,st⟩:=by simpa using h
   injection h with q1 q2 q3 q4 q5 q6 q7;simp only[show(K==2)=false from by rw[C];rfl,show(K==3)=false from by rw[C];rfl,show(K==4)=false from by rw[C];rfl,show(K==5)=false from by rw[C];rfl,BL,Ak,m1,za,IZ];refine AG ?_;simp only[true_iff];exact⟨by omega,by omega,by omega,by omega,by omega,by omega,λh=>absurd C h,by omega,by omega,by omega,by omega⟩
 ·have e:Dr ⟨K,A,B,mi,ma,gr,st⟩=some (⟨K,A,B,0,0,0,⟨0,0,0,0⟩⟩,true):=by subst C;rfl
  unfold DC;rw[e];simp only[za,zI,Ak,KN];refine Ap (λh=>AG ?_) λh=>?_
  ·simp only[zB,false_iff];rintro⟨g1,g2,g3,g4,g5,g6,g7,g8,g9,g10,g11⟩;simp only[zu,zr]at h;exact h (by rw[(g9 (by omega)).1,(g9 (by omega)).2,g11 (by omega),g7 (by omega)])
  ·have h:(⟨K,A,B,0,0,0,⟨0,0,0,0⟩⟩:AF)=⟨K,A,B,mi,ma,gr,st⟩:=by simpa using h
   injection h with q1 q2 q3 q4 q5 q6 q7;simp only[show(K==2)=true from by rw[C];rfl,BL,Ak,m1,za,IZ];refine AG ?_;simp only[zg,zG,zx,zT];constructor
   ·intro h;exact⟨by omega,by omega,by omega,by omega,by omega,by omega,λ_=>q7.symm,by omega,by omega,by omega,by omega⟩
   ·rintro⟨g1,g2,g3,g4,g5,g6,g7,g8,g9,g10,g11⟩;omega
 ·have e:Dr ⟨K,A,B,mi,ma,gr,st⟩=some (⟨K,A,B,0,0,0,⟨0,0,0,0⟩⟩,true):=by subst C;rfl
  unfold DC;rw[e];simp only[za,zI,Ak,KN];refine Ap (λh=>AG ?_) λh=>?_
  ·simp only[zB,false_iff];rintro⟨g1,g2,g3,g4,g5,g6,g7,g8,g9,g10,g11⟩;simp only[zu,zr]at h;exact h (by rw[(g9 (by omega)).1,(g9 (by omega)).2,g11 (by omega),g7 (by omega)])
  ·have h:(⟨K,A,B,0,0,0,⟨0,0,0,0⟩⟩:AF)=⟨K,A,B,mi,ma,gr,st⟩:=by simpa using h
   injection h with q1 q2 q3 q4 q5 q6 q7;simp only[show(K==2)=false from by rw[C];rfl,show(K==3)=true from by rw[C];rfl,BL,Ak,m1,za,IZ];refine AG ?_;simp only[zg,zG,zx,zT];constructor
   ·intro h;exact⟨by omega,by omega,by omega,by omega,by omega,by omega,λ_=>q7.symm,by omega,by omega,by omega,by omega⟩
   ·rintro⟨g1,g2,g3,g4,g5,g6,g7,g8,g9,g10,g11⟩;omega
 ·have e:Dr ⟨K,A,B,mi,ma,gr,st⟩=some (⟨4,A,0,mi,ma,0,⟨0,0,0,0⟩⟩,true):=by subst C;rfl
  unfold DC;rw[e];simp only[za,zI,Ak,KN];refine Ap (λh=>AG ?_) λh=>?_
  ·simp only[zB,false_iff];rintro⟨g1,g2,g3,g4,g5,g6,g7,g8,g9,g10,g11⟩;simp only[zu,zr]at h;exact h (by rw[C,g6 (by omega),g11 (by omega),g7 (by omega)])
  ·have h:(⟨4,A,0,mi,ma,0,⟨0,0,0,0⟩⟩:AF)=⟨K,A,B,mi,ma,gr,st⟩:=by simpa using h
   injection h with q1 q2 q3 q4 q5 q6 q7;simp only[show(K==2)=false from by rw[C];rfl,show(K==3)=false from by rw[C];rfl,show(K==4)=true from by rw[C];rfl,BL,Ak,m1,za,IZ];refine AG ?_;simp only[zg,zG,zx,zT];constructor
   ·intro h;exact⟨by omega,by omega,by omega,by omega,by omega,by omega,λ_=>q7.symm,by omega,by omega,by omega,by omega⟩
   ·rintro⟨g1,g2,g3,g4,g5,g6,g7,g8,g9,g10,g11⟩;omega
 ·have e:Dr ⟨K,A,B,mi,ma,gr,st⟩=some (⟨5,A,0,0,0,gr,⟨0,0,0,0⟩⟩,true):=by subst C;rfl
  unfold DC;rw[e];simp only[za,zI,Ak,KN];refine Ap (λh=>AG ?_) λh=>?_
  ·simp only[zB,false_iff];rintro⟨g1,g2,g3,g4,g5,g6,g7,g8,g9,g10,g11⟩;simp only[zu,zr]at h;exact h (by rw[C,g6 (by omega),(g9 (by omega)).1,(g9 (by omega)).2,g7 (by omega)])
  ·have h:(⟨5,A,0,0,0,gr,⟨0,0,0,0⟩⟩:AF)=⟨K,A,B,mi,ma,gr,st⟩:=by simpa using h
   injection h with q1 q2 q3 q4 q5 q6 q7;simp only[show(K==2)=false from by rw[C];rfl,show(K==3)=false from by rw[C];rfl,show(K==4)=false from by rw[C];rfl,show(K==5)=true from by rw[C];rfl,BL,Ak,m1,za,IZ];refine AG ?_;simp only[zg,zG,zx,zT];constructor
   ·intro h;exact⟨by omega,by omega,by omega,by omega,by omega,by omega,λ_=>q7.symm,by omega,by omega,by omega,by omega⟩
   ·rintro⟨g1,g2,g3,g4,g5,g6,g7,g8,g9,g10,g11⟩;omega
 ·have e:Dr ⟨K,A,B,mi,ma,gr,st⟩=some (⟨K,0,0,0,0,0,⟨0,0,0,0⟩⟩,true):=by subst C;rfl
  unfold DC;rw[e];simp only[za,zI,Ak,KN];refine Ap (λh=>AG ?_) λh=>?_
  ·simp only[zB,false_iff];rintro⟨g1,g2,g3,g4,g5,g6,g7,g8,g9,g10,g11⟩;simp only[zu,zr]at h;exact h (by rw[g4 (by omega),g6 (by omega),(g9 (by omega)).1,(g9 (by omega)).2,g11 (by omega),g7 (by omega)])
  ·have h:(⟨K,0,0,0,0,0,⟨0,0,0,0⟩⟩:AF)=⟨K,A,B,mi,ma,gr,st⟩:=by simpa using h
   injection h with q1 q2 q3 q4 q5 q6 q7;simp only[show(K==2)=false from by rw[C];rfl,show(K==3)=false from by rw[C];rfl,show(K==4)=false from by rw[C];rfl,show(K==5)=false from by rw[C];rfl,BL,Ak,m1,za,IZ];refine AG ?_;simp only[true_iff];exact⟨by omega,by omega,by omega,by omega,by omega,by omega,λ_=>q7.symm,by omega,by omega,by omega,by omega⟩
 ·have e:Dr ⟨K,A,B,mi,ma,gr,st⟩=some (⟨K,0,0,0,0,0,⟨0,0,0,0⟩⟩,true):=by subst C;rfl
  unfold DC;rw[e];simp only[za,zI,Ak,KN];refine Ap (λh=>AG ?_) λh=>?_
  ·simp only[zB,false_iff];rintro⟨g1,g2,g3,g4,g5,g6,g7,g8,g9,g10,g11⟩;simp only[zu,zr]at h;exact h (by rw[g4 (by omega),g6 (by omega),(g9 (by omega)).1,(g9 (by omega)).2,g11 (by omega),g7 (by omega)])
  ·have h:(⟨K,0,0,0,0,0,⟨0,0,0,0⟩⟩:AF)=⟨K,A,B,mi,ma,gr,st⟩:=by simpa using h
   injection h with q1 q2 q3 q4 q5 q6 q7;simp only[show(K==2)=false from by rw[C];rfl,show(K==3)=false from by rw[C];rfl,show(K==4)=false from by rw[C];rfl,show(K==5)=false from by rw[C];rfl,BL,Ak,m1,za,IZ];refine AG ?_;simp only[true_iff];exact⟨by omega,by omega,by omega,by omega,by omega,by omega,λ_=>q7.symm,by omega,by omega,by omega,by omega⟩
 ·have ne:∀j:Int,0<=j->j<=7->(K==j)=false:=λj h1 E=>by rw[zS];omega
  unfold DC Dr;simp only[ne 0 (by omega) (by omega),ne 6 (by omega) (by omega),ne 7 (by omega) (by omega),ne 1 (by omega) (by omega),ne 2 (by omega) (by omega),ne 3 (by omega) (by omega),ne 4 (by omega) (by omega),ne 5 (by omega) (by omega),Ak,za,yK,BL];refine AG ?_;simp only[zB,false_iff];rintro⟨h1,E,_⟩;omega
def OQ(w:Ar)(j:Nat):Int:=([w.w0,w.w1,w.w2,w.w3]:List Int).getD j 0
def Xq(w:Ar):Prop:=∀j,0<=OQ w j/\OQ w j<=18446744073709551615
theorem WH:∀b:Fin 256,Fl .u8 ((b.val:Nat):Int) 63=((b.val%64:Nat):Int):=by decide+kernel
theorem Xn:∀b:Fin 256,H3 .u8 ((b.val:Nat):Int) 6=((b.val / 64:Nat):Int):=by decide+kernel
theorem Xg{v:Int}(Z:0<=v)(h1:v<=18446744073709551615):Fl .u64 v 1=v%2:=by
 unfold Fl;have e1:(BitVec.ofInt 64 v).toNat=v.toNat:=by rw[BitVec.toNat_ofInt];omega
 show u64.wrap ((BitVec.ofInt 64 v &&& BitVec.ofInt 64 1).toNat:Int)=_;rw[BitVec.toNat_and,e1,show(BitVec.ofInt 64 1).toNat=2^1 - 1 from rfl,Nat.and_two_pow_sub_one_eq_mod];rw[IntKind.wrap_u64];omega
theorem Xt{w:Int}{i:Nat}(hw:0<=w)(hi:i<64):H3 .u64 w (i:Int)=((w.toNat / 2^i:Nat):Int):=by
 obtain⟨n,rfl⟩:=zi hw;unfold H3;have e:min (i:Int).toNat u64.bits=i:=by
  rw[zA];exact qE (by show i<=64;omega)
 rw[e,Int.fdiv_eq_ediv_of_nonneg _ (by have:(0:Int)<=((2^i:Nat):Int):=Int.natCast_nonneg _;simpa using this)]
 norm_cast
theorem We{b:Nat}(D:b<256):Fl .u8 ((b:Nat):Int) 63=((b%64:Nat):Int):=WH ⟨b,D⟩
theorem XY{b:Nat}(D:b<256):H3 .u8 ((b:Nat):Int) 6=((b / 64:Nat):Int):=Xn ⟨b,D⟩
theorem SQ{w:Ar}(ok:Xq w){b:Nat}(D:b<256):Ou w (b:Int)=((OQ w (b / 64)).toNat / 2^(b%64)%2==1):=by
 have hm:DJ w (b:Int)=some ((OQ w (b / 64)).toNat / 2^(b%64)%2==1):=by
  unfold DJ;rw[XY D,We D];have T:([w.w0,w.w1,w.w2,w.w3]:List Int)[b / 64]?=some (OQ w (b / 64)):=by
   unfold OQ;rw[zl,List.getElem?_eq_getElem (by simp;omega)];rfl
  rw[Dh T,za,show F6 (decide (0<=((b%64:Nat):Int)))=λx:Option Bool=>x from by rw[zK (by omega)];rfl];have o:=ok (b / 64);have hd:(OQ w (b / 64)).toNat / 2^(b%64)<=(OQ w (b / 64)).toNat:=Nat.div_le_self _ _;obtain⟨q,hq⟩:∃q:Nat,(OQ w (b / 64)).toNat / 2^(b%64)=q:=⟨_,rfl⟩;rw[Xt o.1 (by omega)];rw[hq]at hd⊢;rw[Xg (by omega) (by omega)];refine congrArg some ?_;rw[qF];simp only[zT];omega
 unfold Ou;rw[hm];rfl
theorem Sv{w:Nat}(hw:w<2^64)(h:∀i,i<64->(w / 2^i%2==1)=false):w=0:=by
 apply Nat.eq_of_testBit_eq;intro i;rw[Nat.zero_testBit];by_cases hi:i<64
 ·rw[Nat.testBit_eq_decide_div_mod_eq];have:=h i hi;simpa using this
 ·exact Nat.testBit_lt_two_pow (zL hw (Nat.pow_le_pow_right (by omega) (by omega)))
noncomputable def Kf(w:Ar)(k:Nat):List UInt8:=((List.range k).filter λb=>Ou w ((b:Nat):Int)).map UInt8.ofNat
noncomputable def Lb(w:Ar):List UInt8:=Kf w 256
theorem NM(w:Ar)(k:Nat):(Kf w k).length<=k:=by
 unfold Kf;rw[yn];exact yu (qe _ _) (by simp)
theorem Og(w:Ar)(k:Nat):Kf w (k+1)=if Ou w (k:Int)=true then Kf w k++[UInt8.ofNat k]else Kf w k:=by
 unfold Kf;rw[List.range_succ,List.filter_append];by_cases h:Ou w (k:Int)=true<;>simp[h]
theorem Pq{w:Ar}(ok:Xq w):Lb w=[]↔w=⟨0,0,0,0⟩:=by
 constructor
 ·intro h;have D:∀b,b<256->Ou w ((b:Nat):Int)=false:=by
   intro b D;have h':=List.map_eq_nil_iff.1 h;rw[qb]at h';simpa using h' b (by simpa using D)
  have one:∀j,j<4->OQ w j=0:=by
   intro j S;have okw:=ok j;have:=Sv (w:=(OQ w j).toNat) (by omega) λi hi=>by
    have:=D (64*j+i) (by omega);rw[SQ ok (by omega),show(64*j+i) / 64=j from by omega,show(64*j+i)%64=i from by omega]at this;exact this
   omega
  obtain⟨a,b,c,d⟩:=w;have Z:a=0:=one 0 (by omega);have h1:b=0:=one 1 (by omega);have E:c=0:=one 2 (by omega);have N:d=0:=one 3 (by omega);rw[Z,h1,E,N]
 ·rintro rfl;unfold Lb Kf;rw[List.map_eq_nil_iff,qb];intro b hm;have D:b<256:=by simpa using hm
  rw[SQ ok D];have:b / 64=0\/b / 64=1\/b / 64=2\/b / 64=3:=by omega
  rcases this with h|h|h|h<;>rw[h]<;>simp[OQ]
theorem Ud(s:Ar):Fv s=some (Lb s):=by
 refine W.eq ?_;unfold Fv;refine AP (W.mono (W.loop (λt=>∃i:Nat,t.2=(i:Int)/\i<=256/\t.1=Kf s i) (λt=>(256 - t.2).toNat) ⟨0,rfl,by omega,rfl⟩ ?_ (Q:=λr=>r=Lb s)) λr V=>AG V);rintro⟨x1,x2⟩ ⟨i,hi,h1,E⟩;simp only at hi E;subst hi;subst E;unfold HB;have R:=NM s i;refine Bi (λD=>?_) λ_=>AG (by rw[show i=256 by omega];rfl);have e:u8.wrap (i:Int)=(i:Int):=Yc (by omega) (by omega);rw[e,has_eq s (by omega) (by omega),F3 (by omega)];refine AP (AP (AG (Ap (λht=>?_) λhf=>AG ?_)))
 ·have et:Xe (i:Int)=some (UInt8.ofNat i):=by unfold Xe;rw[zj (by omega),zA]
  rw[et];refine AP (AG (ES (Hh (by simp;omega) (by simp;omega)) (AG (AG ?_))));exact⟨⟨i+1,rfl,by omega,by rw[Og,zj ht]⟩,by simp only;omega⟩
 ·refine AG ?_;exact⟨⟨i+1,rfl,by omega,by rw[Og,zk (by rw[hf];decide)]⟩,by simp only;omega⟩
noncomputable def CD(n:AF):AJ:=⟨n.Kind,n.A,n.B,n.Min,n.Max,n.BO,Lb n.Set⟩
theorem TW(t:AS)(G:t.AK.length<=1048576):Cn t=some ⟨t.AK.map CD,t.Ac⟩:=by
 refine W.eq ?_;unfold Cn;refine AP (W.mono (W.loop (λs=>∃i:Nat,s.2=(i:Int)/\i<=t.AK.length/\s.1=(t.AK.take i).map CD) (λs=>(t.AK.length - s.2).toNat) ⟨0,rfl,by omega,rfl⟩ ?_ (Q:=λr=>r=t.AK.map CD)) λr V=>AG (by rw[V]));rintro⟨x1,x2⟩ ⟨i,hi,h1,E⟩;simp only at hi E;subst hi;subst E;unfold GD;refine Bi (λD=>?_) λD=>AG (by rw[zM (by omega)]);have hi:i<t.AK.length:=by omega
 rw[E8 hi,F3 (by omega)];refine AP (AG (AP (Tw (Ud _) (ES (Hh (by simp;omega) (by simp;omega)) (AG ?_)))));refine⟨⟨i+1,rfl,by omega,?_⟩,by simp only;omega⟩;rw[List.take_add_one,List.getElem?_eq_getElem hi,yQ];rfl
theorem Xi(n:AF)(ok:n.Kind≠1->Xq n.Set)(c:Int):W (FM (CD n) c) λb=>b=true↔Qi n c:=by
 unfold FM CD;dsimp only;refine Ap (λh=>AG ?_) λh=>?_
 ·simp only[zG,zx]at h;simp only[zB,false_iff];rintro⟨h1,E,_⟩;omega
 simp only[zJ,zr]at h;refine Ap (λE=>AG ?_) λE=>?_
 ·simp only[zG,zg,zx,zu,yO,zr,yV,zT,zJ,zS]at E;simp only[zB,false_iff];rintro⟨_,_,g1,g2,g3,g4,_⟩;omega
 simp only[zJ,yO,zg,zG,zx,zu,zr,bne_eq_false_iff_eq,zT,zS]at E;refine Ap (λN=>AG ?_) λN=>?_
 ·simp only[zg,yV,zu,zS]at N;simp only[zB,false_iff];rintro⟨_,_,_,_,_,_,g,_⟩;exact N.2 ((Pq (ok N.1)).2 (g N.1))
 simp only[yO,yV,yy,zT]at N;have base:Qi n c↔(n.Kind=4->0<=n.Min/\n.Min<=255/\-1<=n.Max/\n.Max<=255/\(n.Max>=0->n.Min<=n.Max))/\(n.Kind≠4->n.Min=0/\n.Max=0)/\(n.Kind=5->1<=n.BO/\n.BO<=1024)/\(n.Kind≠5->n.BO=0):=
  ⟨λ⟨_,_,_,_,_,_,_,g⟩=>g,λg=>⟨by omega,by omega,by omega,by omega,by omega,by omega,λh=>(Pq (ok h)).1 (N h),g⟩⟩
 rw[base];refine AP (W.mono (Q:=λo=>(o=.inl ()/\(n.Kind=4->0<=n.Min/\n.Min<=255/\-1<=n.Max/\n.Max<=255/\(n.Max>=0->n.Min<=n.Max))/\(n.Kind≠4->n.Min=0/\n.Max=0))\/(o=.inr false/\¬((n.Kind=4->0<=n.Min/\n.Min<=255/\-1<=n.Max/\n.Max<=255/\(n.Max>=0->n.Min<=n.Max))/\(n.Kind≠4->n.Min=0/\n.Max=0)))) ?_ λo J=>?_)
 ·refine Ap (λY=>Ap (λI=>AG (.inr ⟨rfl,?_⟩)) λI=>AG (.inl ⟨rfl,?_⟩)) λY=>Ap (λI=>AG (.inr ⟨rfl,?_⟩)) λI=>AG (.inl ⟨rfl,?_⟩)
  all_goals simp only[zG,zg,zJ,yO,zx,zr,zT,zS,yV,bne_eq_false_iff_eq]at Y I
  ·omega
  ·omega
  ·omega
  ·omega
 ·rcases J with⟨rfl,g1,g2⟩|⟨rfl,g⟩
  ·refine Ap (λI=>AG ?_) λI=>AG ?_
   ·have I:n.Kind=5:=by simpa using I
    simp only[zg,zx];exact⟨λg=>⟨g1,g2,λ_=>⟨by omega,by omega⟩,λh=>absurd I h⟩,λg=>by have:=g.2.2.1 I;omega⟩
   ·have I:n.Kind≠5:=by simpa using I
    simp only[zT];exact⟨λg=>⟨g1,g2,λh=>absurd h I,λ_=>g⟩,λg=>g.2.2.2 I⟩
  ·refine AG ?_;simp only[zB,false_iff];exact λg'=>g ⟨g'.1,g'.2.1⟩
def GL(t:AS):Prop:=t.AK.length<=1024/\0<=t.Ac/\t.Ac<t.AK.length/\∀(i:Nat) n,t.AK[i]?=some n->Qi n i
theorem SC(t:AS):W (CI t) λb=>b=true↔GL t:=by
 unfold CI;refine Ap (λD=>AG ?_) λD=>?_
 ·simp only[zG,zx]at D;simp only[zB,false_iff];rintro⟨h1,E,N,_⟩;omega
 simp only[zJ,zr]at D;refine AP (W.mono (W.loop (λs=>∃i:Nat,s=(i:Int)/\i<=t.AK.length/\∀(j:Nat) n,j<i->t.AK[j]?=some n->Qi n j) (λs=>(t.AK.length - s).toNat) ⟨0,rfl,by omega,λj n S=>by omega⟩ ?_ (Q:=λo=>match o with| .inl _=>GL t| .inr b=>b=false/\¬GL t)) λo J=>?_)
 ·rintro _ ⟨i,rfl,h1,E⟩;unfold Dp;refine Bi (λR=>?_) λR=>AG ?_
  ·have hi:i<t.AK.length:=by omega
   rw[E8 hi];refine AP (AG (AP ((U9 _ _).mono λb M=>Ap (λF=>AG ⟨rfl,λX=>?_⟩) λF=>AG ?_)))
   ·have:=M.2 (X.2.2.2 i _ (List.getElem?_eq_getElem hi));rw[this]at F;cases F
   rw[show i64.wrap ((i:Int)+1)=((i+1:Nat):Int) from F3 (by omega)];refine⟨⟨i+1,rfl,by omega,λj n S G=>?_⟩,by omega⟩;by_cases O:j<i
   ·exact E j n O G
   ·obtain rfl:j=i:=by omega
    rw[List.getElem?_eq_getElem hi]at G;cases G;exact M.1 (by simpa using F)
  ·exact⟨by omega,by omega,by omega,λj n G=>E j n (by have:=(List.getElem?_eq_some_iff.1 G).1;omega) G⟩
 ·cases o with
  |inl u=>exact AG ⟨λ_=>J,λ_=>rfl⟩
  |inr b=>exact AG ⟨λh=>(by rw[J.1]at h;cases h),λh=>absurd h J.2⟩
theorem VO(t:AS)(ok:∀n∈t.AK,n.Kind≠1->Xq n.Set):W (Du ⟨t.AK.map CD,t.Ac⟩) λb=>b=true↔GL t:=by
 unfold Du;simp only[yn];refine Ap (λD=>AG ?_) λD=>?_
 ·simp only[zG,zx]at D;simp only[zB,false_iff];rintro⟨h1,E,N,_⟩;omega
 simp only[zJ,zr]at D;refine AP (W.mono (W.loop (λs=>∃i:Nat,s=(i:Int)/\i<=t.AK.length/\∀(j:Nat) n,j<i->t.AK[j]?=some n->Qi n j) (λs=>(t.AK.length - s).toNat) ⟨0,rfl,by omega,λj n S=>by omega⟩ ?_ (Q:=λo=>match o with| .inl _=>GL t| .inr b=>b=false/\¬GL t)) λo J=>?_)
 ·rintro _ ⟨i,rfl,h1,E⟩;unfold GC;simp only[yn];refine Bi (λR=>?_) λR=>AG ?_
  ·have hi:i<t.AK.length:=by omega
   rw[Dh (x:=CD t.AK[i]) (by rw[List.getElem?_map,List.getElem?_eq_getElem hi];rfl)];refine AP (AG (AP ((Xi _ (ok _ (yE hi)) _).mono λb M=>Ap (λF=>AG ⟨rfl,λX=>?_⟩) λF=>AG ?_)))
   ·have:=M.2 (X.2.2.2 i _ (List.getElem?_eq_getElem hi));rw[this]at F;cases F
   rw[show i64.wrap ((i:Int)+1)=((i+1:Nat):Int) from F3 (by omega)];refine⟨⟨i+1,rfl,by omega,λj n S G=>?_⟩,by omega⟩;by_cases O:j<i
   ·exact E j n O G
   ·obtain rfl:j=i:=by omega
    rw[List.getElem?_eq_getElem hi]at G;cases G;exact M.1 (by simpa using F)
  ·exact⟨by omega,by omega,by omega,λj n G=>E j n (by have:=(List.getElem?_eq_some_iff.1 G).1;omega) G⟩
 ·cases o with
  |inl u=>exact AG ⟨λ_=>J,λ_=>rfl⟩
  |inr b=>exact AG ⟨λh=>(by rw[J.1]at h;cases h),λh=>absurd h J.2⟩
theorem TY(p:Aq):W (DG p) λ_=>True:=by
 unfold DG;refine Bi (λ_=>AG trivial) λR=>?_;refine AP (W.mono (W.loop (λs=>∃i:Nat,s.2.2=(i:Int)/\i<=p.L.length/\s.1.length=i) (λs=>(p.L.length - s.2.2).toNat) ⟨0,rfl,by omega,rfl⟩ ?_ (Q:=λ_=>True)) λr _=>by cases r<;>exact AG trivial);rintro⟨x1,x2,x3⟩ ⟨i,hi,h1,E⟩;simp only at hi E;subst hi;unfold GK;refine Bi (λD=>?_) λ_=>AG trivial;have hi:i<p.L.length:=by omega
 rw[E8 hi];have e2:i64.wrap ((i:Int)+1)=((i+1:Nat):Int):=F3 (by omega);rw[e2];have get:∀{a:Int} {b:Bool},b=(decide (a>=0)&&decide (a<(i:Int)))->b=true->∃v,Fy x1 a=some v:=by
  intro a b D h;rw[D]at h;simp only[zg,zx]at h;obtain⟨k,rfl⟩:=zi h.1;exact⟨_,E8 (show k<x1.length by have:=h.2;omega)⟩
 refine AP (AG (AP (W.mono (Q:=λ_=>True) (Ap (λ_=>AG trivial) λ_=>AG trivial) λx6 _=>?_)));refine Bi (λ_=>AG trivial) λ_=>Ap (λ_=>AG trivial) λ_=>?_;refine AP (W.mono (Q:=λ_=>True) (Ap (λh=>?_) λ_=>AG trivial) λx7 _=>?_)
 ·obtain⟨v,U⟩:=get rfl h;rw[U];exact AP (AG (AG trivial))
 refine AP (W.mono (Q:=λ_=>True) (Ap (λh=>?_) λ_=>AG trivial) λx9 _=>?_)
 ·obtain⟨v,U⟩:=get rfl h;rw[U];exact AP (AG (AG trivial))
 refine Bi (λ_=>AG trivial) λ_=>ES (Hh (by simp;omega) (by simp;omega)) (AG ?_);exact⟨⟨i+1,rfl,by omega,by simp;omega⟩,by simp only;omega⟩
end Go.Av.L
end
/-
 A part.
-/
section
namespace Go.Abs.L
open IntKind (i64 u64 u8)
open Go.Abs
set_option linter.unusedVariables false
noncomputable def HO(p0:Int)(p1:List UInt8)(s:Int):Option ((Int)⊕((Unit)⊕(Bool))):=
 match s with
 |x3=>Aj (decide (x3<(p1.length:Int))) ((OF p1 x3).bind λx4=>Aj (x4==p0) (some (.inr (.inr true))) (some (.inl (i64.wrap (x3+(1:Int)))))) (some (.inr (.inl ())))
noncomputable def Fx(h:AE)(p0:Int)(p1:List UInt8):Option (Bool):=
 (loop (HO p0 p1) (0:Int)).bind λo1=>(match o1 with| .inl _=>some false| .inr x2=>some x2)
theorem NL{g:Gd}{h:AE}{p0:Int}{p1:List UInt8}{r0:Bool}(hm:Fx h p0 p1=some r0):Bw cfg g h 67 [.int .u8 p0,.str p1] (.bool r0) h:=by
 refine WT (by kernel_rfl) (by kernel_rfl) (TX (n:=17) (rs:=[.tmp 4]) (by kernel_rfl) ?_);unfold Fx at hm;refine start (n:=17) [(0,.int .u8 p0),(1,.str p1)] (by kernel_rfl) (by kernel_rfl) ?_;intro fr H;refine BM (by kernel_rfl) ?_;refine BS (id:=0) (n:=1) [(0,[])] (by kernel_rfl) (by kernel_rfl) ?_;refine J7 [(0,[])] [(0,.int .u8 p0),(1,.str p1)] H (F7 rfl) (λfr=>by kernel_rfl) ?_;intro fr H;refine AY ?_;show AW cfg 67 (⟨h.size,[]⟩:Gd) (right (Hp cfg.P 67)) fr h _;refine BM (by kernel_rfl) ?_;refine BM (by kernel_rfl) ?_;refine BS (id:=1) (n:=1) [(0,[])] (by kernel_rfl) (by kernel_rfl) ?_;refine J7 [(0,[])] [(0,.int .u8 p0),(1,.str p1),(5,.int .i64 (0:Int))] H (F7 rfl) (λfr=>by kernel_rfl) ?_;intro fr H;refine AY ?_;show AW cfg 67 (⟨h.size,[]⟩:Gd) (right (left (right (Hp cfg.P 67)))) fr h _;refine Am (id:=0) (by kernel_rfl) ?_;obtain⟨o1,J,hm⟩:=AI hm;refine BB (Q':=λe fr' h'=>(e=.exit 0/\.inl ()=o1/\h=h'/\Has fr' 17 [])\/(∃(x2:Bool),e=.ret/\.inr x2=o1/\h=h'/\Has fr' 17 [(4,.bool x2)])\/False) ?_ ?_
 ·refine CR (by kernel_rfl) (λ(s:Int) fr' h'=>∃(x3:Int),x3=s/\h=h'/\Has fr' 17 [(0,.int .u8 p0),(1,.str p1),(5,.int .i64 x3)]) J ⟨(0:Int),rfl,rfl,H.less _ (λfr=>by kernel_rfl)⟩ ?_;clear J hm H;intro s q fr hz hI hm;obtain⟨x3,rfl,rfl,H⟩:=hI;unfold HO at hm;refine BM (by kernel_rfl) ?_;refine BM (by kernel_rfl) ?_;refine BS (id:=2) (n:=4) [(0,[]),(1,[]),(2,[]),(3,[])] (by kernel_rfl) (by kernel_rfl) ?_;refine J7 [(0,[]),(1,[]),(2,[]),(3,[])] [(0,.int .u8 p0),(1,.str p1),(5,.int .i64 x3),(9,.bool (decide (x3<(p1.length:Int))))] H (F7 rfl) (λfr=>by kernel_rfl) ?_;intro fr H;refine AY ?_;show AW cfg 67 (⟨h.size,[]⟩:Gd) (right (left (left (left (right (left (right (Hp cfg.P 67)))))))) fr h _;rcases Ay hm with⟨D,hm⟩|⟨D,hm⟩
  ·replace H:=H.EL 9 D (by kernel_rfl);refine Dg (x:=.tmp 9) (by kernel_rfl) H (λfr=>by kernel_rfl) ?_;refine Eg (by kernel_rfl) ?_;show AW cfg 67 (⟨h.size,[]⟩:Gd) (right (left (left (right (left (right (Hp cfg.P 67))))))) fr h _;refine BM (by kernel_rfl) ?_;refine Am (id:=1) (by kernel_rfl) ?_;refine BM (by kernel_rfl) ?_;refine BS (id:=4) (n:=5) [(0,[]),(1,[]),(2,[]),(3,[]),(4,[])] (by kernel_rfl) (by kernel_rfl) ?_;refine J7 [(0,[]),(1,[])] [(0,.int .u8 p0),(1,.str p1),(5,.int .i64 x3),(12,.str p1),(13,.int .i64 x3)] H (F7 rfl) (λfr=>by kernel_rfl) ?_;intro fr H;obtain⟨x4,T,hm⟩:=AI hm;refine Si (v:=.int .u8 x4) (h1:=h) [(0,.int .u8 p0),(1,.str p1),(5,.int .i64 x3),(14,.int .u8 x4)] H (λfr=>by kernel_rfl) (λfr=>.of (JD (by kernel_rfl) T)) ?_;intro fr t H;refine J7 [(3,[]),(4,[])] [(0,.int .u8 p0),(1,.str p1),(5,.int .i64 x3),(16,.bool (x4==p0))] H (F7 rfl) (λfr=>by kernel_rfl) ?_;intro fr H;refine AY ?_;show AW cfg 67 (⟨h.size,[]⟩:Gd) (right (left (left (right (left (left (right (left (right (Hp cfg.P 67)))))))))) fr h _;rcases Ay hm with⟨D,hm⟩|⟨D,hm⟩
   ·replace H:=H.EL 16 D (by kernel_rfl);refine Dg (x:=.tmp 16) (by kernel_rfl) H (λfr=>by kernel_rfl) ?_;refine BM (by kernel_rfl) ?_;refine BS (id:=5) (n:=1) [(0,[])] (by kernel_rfl) (by kernel_rfl) ?_;refine J7 [(0,[])] [(4,.bool true)] H (F7 rfl) (λfr=>by kernel_rfl) ?_;intro fr H;refine AY ?_;show AW cfg 67 (⟨h.size,[]⟩:Gd) (right (left (right (left (left (right (left (left (right (left (right (Hp cfg.P 67)))))))))))) fr h _;refine Kh (by kernel_rfl) ?_;exact Exists.intro _ (And.intro (qV hm).symm (λe=>Or.inr (Or.inl ⟨true,rfl,e,rfl,H.less _ (λfr=>by kernel_rfl)⟩)))
   ·replace H:=H.EL 16 D (by kernel_rfl);refine Cv (x:=.tmp 16) (by kernel_rfl) H (λfr=>by kernel_rfl) ?_;refine Eg (by kernel_rfl) ?_;show AW cfg 67 (⟨h.size,[]⟩:Gd) (right (right (left (left (right (left (right (Hp cfg.P 67)))))))) fr h _;refine BS (id:=3) (n:=3) [(0,[]),(1,[]),(2,[])] (by kernel_rfl) (by kernel_rfl) ?_;refine J7 [(0,[]),(1,[]),(2,[])] [(0,.int .u8 p0),(1,.str p1),(5,.int .i64 (i64.wrap (x3+(1:Int))))] H (F7 rfl) (λfr=>by kernel_rfl) ?_;intro fr H;refine AY ?_;exact Exists.intro (i64.wrap (x3+(1:Int))) (And.intro (qV hm).symm ⟨i64.wrap (x3+(1:Int)),rfl,rfl,H.less _ (λfr=>by kernel_rfl)⟩)
  ·replace H:=H.EL 9 D (by kernel_rfl);refine Cv (x:=.tmp 9) (by kernel_rfl) H (λfr=>by kernel_rfl) ?_;refine Bx (i:=0) (by kernel_rfl) ?_;exact Exists.intro _ (And.intro (qV hm).symm (λe=>Or.inl ⟨rfl,e,rfl,H.less _ (λfr=>by kernel_rfl)⟩))
 ·clear J;intro e fr hz hQ;rcases hQ with⟨rfl,rfl,rfl,H⟩|⟨x2,rfl,rfl,rfl,H⟩|hF
  ·skip
   show AW cfg 67 (⟨h.size,[]⟩:Gd) (right (right (Hp cfg.P 67))) fr h _;refine BM (by kernel_rfl) ?_;refine BS (id:=6) (n:=1) [(0,[])] (by kernel_rfl) (by kernel_rfl) ?_;refine J7 [(0,[])] [(4,.bool false)] H (F7 rfl) (λfr=>by kernel_rfl) ?_;intro fr H;refine AY ?_;show AW cfg 67 (⟨h.size,[]⟩:Gd) (right (right (right (Hp cfg.P 67)))) fr h _;refine Kh (by kernel_rfl) ?_;have e1:=qV hm;subst e1;exact(Qm .ret H (λfr=>by kernel_rfl) (.inl rfl):Sk cfg.P _ _ _ fr _)
  ·skip
   have e1:=qV hm;subst e1;exact(Qm .ret H (λfr=>by kernel_rfl) (.inl rfl):Sk cfg.P _ _ _ fr _)
  ·exact hF.elim
end Go.Abs.L
end
