/-
 A part.
-/
import Derived.Test.YtgkbpgefomapgaaGreatDoorDfaA
namespace Go.Av.L
open Go.Av Go.Lib
set_option linter.unusedVariables false
set_option linter.unusedSimpArgs false
structure VD(t:AO)(n:Nat)(s:AX):Prop where
 a:0<=s.a_/\s.a_<n
 b:0<=s.b_/\s.b_<n
 cD:s.C7=1->∃k∈t.AN,k.Kind=1/\k.Set=s.Cq
theorem VD.up{t:AO}{n m:Nat}{s:AX}(h:VD t n s)(hm:n<=m):VD t m s:=⟨⟨h.a.1,by have:=h.a.2;omega⟩,⟨h.b.1,by have:=h.b.2;omega⟩,h.cD⟩
structure PT(t:AO)(l:List AX):Prop where
 pos:0<l.length
 le:l.length<=4096
 st:∀s∈l,VD t l.length s
structure Wh(t:AO)(m:Ar):Prop where
 tt:m.t_=t
 Ob:m.Cm=4096
 l:PT t m.a_.l_
structure Laid(t:AO)(n:Nat)(r:Int×Ar×List AX):Prop where
 tt:r.2.1.t_=t
 Ob:r.2.1.Cm=4096
 l:PT t r.2.2
 ge:n<=r.2.2.length
 i:0<=r.1/\r.1<r.2.2.length
theorem PT.snoc{t:AO}{l:List AX}{s:AX}(h:PT t l)(G:VD t (l.length+1) s)(O:l.length<4096):PT t (l++[s]):=by
 refine⟨by simp,by simp;omega,λx C=>?_⟩;rw[zq,zy];rcases zp.1 C with C|C
 ·exact(h.st x C).up (by omega)
 ·obtain rfl:=zH.1 C;exact G
theorem O3{t:AO}{m:Ar}{s:AX}(h:Wh t m)(G:VD t m.a_.l_.length s):W (Bu m s) (Laid t m.a_.l_.length):=by
 unfold Bu;refine Am (λ_=>AB ⟨h.tt,h.Ob,h.l,zo _,by simp only;have:=h.l.pos;omega⟩) λhf=>?_;simp only[zG,zB,h.Ob]at hf;have O:m.a_.l_.length<4096:=by have:=hf.2;omega
 refine Ce (DL (by simp;omega) (by simp;omega)) (AB ⟨h.tt,h.Ob,h.l.snoc (G.up (m:=m.a_.l_.length+1) (by omega)) O,by simp,?_⟩);simp only[zq,zy];rw[Ht (by omega) (by omega)];omega
theorem Oh{t:AO}{n:Nat}{k a b:Int}(D:k≠1)(Y:0<=a/\a<n)(V:0<=b/\b<n){z:BE}:VD t n ⟨k,a,b,z⟩:=⟨Y,V,λh=>absurd h D⟩
theorem VP{t:AO}{m:Ar}{a b:Int}(h:Wh t m)(Y:0<=a/\a<m.a_.l_.length)(V:0<=b/\b<m.a_.l_.length):W (Cl a b m) (Laid t m.a_.l_.length):=by
 unfold Cl;refine AJ ((O3 h (Oh (by decide) Y V)).mono ?_);rintro⟨x1,x2,x3⟩ C;exact AB ⟨C.tt,C.Ob,C.l,C.ge,C.i⟩
theorem Laid.m{t:AO}{n:Nat}{x1:Int}{x2:Ar}{x3:List AX}{f:Int}(h:Laid t n (x1,x2,x3)):Wh t ⟨x2.t_,⟨x3,f⟩,x2.Cm,x2.BO⟩:=⟨h.tt,h.Ob,h.l⟩
structure Nb(t:AO)(S:BG)(i:Nat):Prop where
 node:∀(m:Ar) (j:Nat) (nxt:Int),Wh t m->j<i->j<t.AN.length->0<=nxt/\nxt<m.a_.l_.length->W (S.Bg m j nxt) (Laid t m.a_.l_.length)
def W5(t:AO)(S:BG)(i:Nat):Prop:=
 ∀(m:Ar) (n:AM) (nxt:Int),Wh t m->0<=n.A/\n.A<i->i<=t.AN.length->0<=nxt/\nxt<m.a_.l_.length->W (S.B5 nxt m n) (Laid t m.a_.l_.length)
def ZK(t:AO)(S:BG)(i:Nat):Prop:=
 ∀(m:Ar) (n:AM) (nxt:Int),Wh t m->(0<=n.A/\n.A<i/\0<=n.Min/\n.Min<=255/\(n.Max= -1\/n.Min<=n.Max/\n.Max<=255))->i<=t.AN.length->0<=nxt/\nxt<m.a_.l_.length->W (S.C3 m n nxt) (Laid t m.a_.l_.length)
theorem YL{t:AO}{S:BG}{i:Nat}(R:Nb t S i)(m:Ar)(n:AM)(nxt:Int)(hm:Wh t m)(N:0<=n.A/\n.A<i)(hi:i<=t.AN.length)(C:0<=nxt/\nxt<m.a_.l_.length):W (C8 S nxt m n) (Laid t m.a_.l_.length):=by
 unfold C8;obtain⟨j,M⟩:=zn N.1;rw[M];refine AJ ((R.node m j nxt hm (by omega) (by omega) C).mono ?_);rintro⟨x1,x2,x3⟩ h;exact AB ⟨h.tt,h.Ob,h.l,h.ge,h.i⟩
theorem Ze{t:AO}{S:BG}{i:Nat}(R:W5 t S i)(m:Ar)(n:AM)(nxt:Int)(hm:Wh t m)(N:0<=n.A/\n.A<i/\0<=n.Min/\n.Min<=255/\(n.Max= -1\/n.Min<=n.Max/\n.Max<=255))(hi:i<=t.AN.length)(C:0<=nxt/\nxt<m.a_.l_.length):W (Db S m n nxt) (Laid t m.a_.l_.length):=by
 unfold Db
 let J:(List AM)×Int×Int×Bool×(List AX)×Int->Prop:=λs=>(⟨s.1,s.2.1⟩:AO)=t/\s.2.2.1=4096/\PT t s.2.2.2.2.1/\m.a_.l_.length<=s.2.2.2.2.1.length/\0<=s.2.2.2.2.2/\s.2.2.2.2.2<s.2.2.2.2.1.length
 have et:∀u:AO,(⟨u.AN,u.BI⟩:AO)=u:=λu=>rfl;refine AJ (W.mono (Q:=J) ?_ λs G=>?_)
 ·refine Be (λhneg=>?_) λhpos=>?_
  ·refine AJ ((VP hm C C).mono ?_);rintro⟨x7,x8,x9⟩ h1;refine AJ ((R _ n x7 h1.m ⟨N.1,N.2.1⟩ hi h1.i).mono ?_);rintro⟨x10,x11,x12⟩ F;have hge:x9.length<=x12.length:=F.ge;have hge1:m.a_.l_.length<=x9.length:=h1.ge;have h7:0<=x7/\x7<x9.length:=h1.i;have P:x11.t_=t:=F.tt;have U:x11.Cm=4096:=F.Ob;have H:PT t x12:=F.l;have h10:0<=x10/\x10<x12.length:=F.i;refine Am (λ_=>?_) λ_=>AB ⟨by rw[<-P],U,H,by simp only;omega,by simp only;omega,by simp only;omega⟩;obtain⟨k,D⟩:=zn h7.1;subst D;have D:k<x12.length:=by omega
   rw[CR D];refine AJ (AB (AB ⟨by rw[<-P],U,?_,by simp only[zr];omega,by simp only;omega,by simp only[zr];omega⟩));refine⟨by rw[zr];exact H.pos,by rw[zr];exact H.le,λx C=>?_⟩;rw[zr];rcases yZ C with C|rfl
   ·exact H.st x C
   ·have:=H.st _ (zX D);exact⟨h10,this.b,this.cD⟩
  ·refine AJ (W.mono (Q:=J) (W.loop (λs=>J (s.1,s.2.1,s.2.2.1,s.2.2.2.1,s.2.2.2.2.1,s.2.2.2.2.2.1)/\s.2.2.2.2.2.2<=255) (λs=>(s.2.2.2.2.2.2 - n.Min).toNat) ⟨⟨hm.tt,hm.Ob,hm.l,zo _,C.1,C.2⟩,by simp only;omega⟩ ?_) λs G=>AB G);rintro⟨x14,x15,x16,x17,x18,x19,x20⟩ ⟨⟨j1,j2,j3,j4,j5,j6⟩,D⟩;simp only at j1 j2 j3 j4 j5 j6 D;unfold Ez;refine Am (λhc=>?_) λ_=>AB ⟨j1,j2,j3,j4,j5,j6⟩;simp only[zj,zx]at hc;have Z:Wh t ⟨⟨x14,x15⟩,⟨x18,m.a_.AY⟩,x16,x17⟩:=⟨j1,j2,j3⟩;refine AJ ((R _ n x19 Z ⟨N.1,N.2.1⟩ hi ⟨j5,j6⟩).mono ?_);rintro⟨x27,x28,x29⟩ h1;have g1:x18.length<=x29.length:=h1.ge;refine AJ ((VP h1.m h1.i (show 0<=nxt/\nxt<x29.length by omega)).mono ?_);rintro⟨x30,x31,x32⟩ F;have g2:x29.length<=x32.length:=F.ge;have g3:0<=x30/\x30<x32.length:=F.i;refine AB ⟨⟨⟨?_,F.Ob,F.l,by simp only;omega,g3.1,g3.2⟩,?_⟩,?_⟩
   ·have:x31.t_=t:=F.tt;simp only[this]
   ·simp only;rw[Ht (by omega) (by omega)];omega
   ·simp only;rw[Ht (by omega) (by omega)];omega
 ·obtain⟨x1,x2,x3,x4,x5,x6⟩:=s;refine AJ (W.mono (Q:=J) (W.loop (λs=>J (s.1,s.2.1,s.2.2.1,s.2.2.2.1,s.2.2.2.2.1,s.2.2.2.2.2.1)/\0<=s.2.2.2.2.2.2/\s.2.2.2.2.2.2<=255) (λs=>(n.Min - s.2.2.2.2.2.2).toNat) ⟨G,by simp,by simp⟩ ?_) λs G=>AB ?_)
  ·rintro⟨x14,x15,x16,x17,x18,x19,x20⟩ ⟨⟨j1,j2,j3,j4,j5,j6⟩,hk0,D⟩;simp only at j1 j2 j3 j4 j5 j6 D hk0;unfold E3;refine Am (λhc=>?_) λ_=>AB ⟨j1,j2,j3,j4,j5,j6⟩;simp only[zj,zx]at hc;have Z:Wh t ⟨⟨x14,x15⟩,⟨x18,m.a_.AY⟩,x16,x17⟩:=⟨j1,j2,j3⟩;refine AJ ((R _ n x19 Z ⟨N.1,N.2.1⟩ hi ⟨j5,j6⟩).mono ?_);rintro⟨x27,x28,x29⟩ h1;have g1:x18.length<=x29.length:=h1.ge;have g3:0<=x27/\x27<x29.length:=h1.i;refine AB ⟨⟨⟨?_,h1.Ob,h1.l,by simp only;omega,g3.1,g3.2⟩,?_⟩,?_⟩
   ·have:x28.t_=t:=h1.tt;simp only[this]
   ·simp only;rw[Ht (by omega) (by omega)];omega
   ·simp only;rw[Ht (by omega) (by omega)];omega
  ·obtain⟨x1,x2,x3,x4,x5,x6⟩:=s;obtain⟨j1,j2,j3,j4,j5,j6⟩:=G;exact⟨j1,j2,j3,j4,j5,j6⟩
theorem Yj{t:AO}(T:Iu t){S:BG}{j:Nat}(R:Nb t S j)(R2:ZK t S j)(m:Ar)(nxt:Int)(hm:Wh t m)(M:j<t.AN.length)(C:0<=nxt/\nxt<m.a_.l_.length):W (EC S m j nxt) (Laid t m.a_.l_.length):=by
 unfold EC;refine Am (λ_=>AB ⟨hm.tt,hm.Ob,hm.l,zo _,by simp only;have:=hm.l.pos;omega⟩) λ_=>?_;have hpos:=hm.l.pos;have em:m.t_.AN=t.AN:=by rw[hm.tt]
 rw[em,CR M];have I:=T.nodes j _ (List.getElem?_eq_getElem M)
 let J:(Unit)⊕((List AM)×Int×Int×Bool×(List AX)×Int)->Prop:=λo=>match o with
  | .inl _=>True
  | .inr (x1,x2,x3,x4,x5,x6)=>(⟨x1,x2⟩:AO)=t/\x3=4096/\PT t x5/\m.a_.l_.length<=x5.length/\0<=x6/\x6<x5.length
 have back:∀{n:Nat} {x1:Int} {x2:Ar} {x3:List AX},m.a_.l_.length<=n->Laid t n (x1,x2,x3)->J (.inr (x2.t_.AN,x2.t_.BI,x2.Cm,x2.BO,x3,x1)):=by
  intro n x1 x2 x3 I h;have e:x2.t_=t:=h.tt;exact⟨by rw[e],h.Ob,h.l,zV I h.ge,h.i.1,h.i.2⟩
 refine AJ (W.mono (Q:=J) (AJ (AB ?_)) λo ho=>?_)
 ·simp only[CO,Gi];have K:=zX M;generalize t.AN[j]=x7 at I K⊢;have rn:∀(m':Ar) (a nx:Int),Wh t m'->0<=a/\a<j->0<=nx/\nx<m'.a_.l_.length->W (S.Bg m' a nx) (Laid t m'.a_.l_.length):=by
   intro m' a nx h1 F h3;obtain⟨k,rfl⟩:=zn F.1;exact R.node m' k nx h1 (by omega) (by omega) h3
  have z0:(0:Int)<=0/\(0:Int)<m.a_.l_.length:=⟨zN _,by omega⟩;split
  ·rename_i D;refine AJ ((O3 hm ⟨C,z0,λ_=>⟨x7,K,D,rfl⟩⟩).mono ?_);rintro⟨a1,a2,a3⟩ h;exact AB (back (zo _) h)
  split
  ·refine AJ ((O3 hm (Oh (by decide) C z0)).mono ?_);rintro⟨a1,a2,a3⟩ h;exact AB (back (zo _) h)
  split
  ·refine AJ ((O3 hm (Oh (by decide) C z0)).mono ?_);rintro⟨a1,a2,a3⟩ h;exact AB (back (zo _) h)
  split
  ·rename_i D;have E:=I.1 (.inl D);refine AJ ((rn m x7.B nxt hm ⟨E.2.2.1,E.2.2.2⟩ C).mono ?_);rintro⟨a1,a2,a3⟩ h;refine AJ ((rn _ x7.A a1 h.m ⟨E.1,E.2.1⟩ h.i).mono ?_);rintro⟨b1,b2,b3⟩ h';exact AB (back h.ge h')
  split
  ·rename_i D;have E:=I.1 (.inr D);refine AJ ((rn m x7.A nxt hm ⟨E.1,E.2.1⟩ C).mono ?_);rintro⟨a1,a2,a3⟩ h;have g1:m.a_.l_.length<=a3.length:=h.ge;have i1:0<=a1/\a1<a3.length:=h.i;refine AJ ((rn _ x7.B nxt h.m ⟨E.2.2.1,E.2.2.2⟩ (show 0<=nxt/\nxt<a3.length by omega)).mono ?_);rintro⟨b1,b2,b3⟩ h';have g2:a3.length<=b3.length:=h'.ge;have i2:0<=b1/\b1<b3.length:=h'.i;refine AJ ((O3 h'.m (Oh (n:=b3.length) (by decide) (show 0<=a1/\a1<b3.length by omega) i2)).mono ?_);rintro⟨c1,c2,c3⟩ h'';exact AB (back (show m.a_.l_.length<=b3.length by omega) h'')
  split
  ·rename_i D;refine AJ ((rn m x7.A nxt hm (I.2.2 D) C).mono ?_);rintro⟨a1,a2,a3⟩ h;exact AB (back (zo _) h)
  split
  ·rename_i D;split
   ·exact AB trivial
   ·refine AJ ((R2 m x7 nxt hm (I.2.1 D) (by omega) C).mono ?_);rintro⟨a1,a2,a3⟩ h;exact AB (back (zo _) h)
  ·exact AB trivial
 ·cases o with
  |inl u=>
   refine AJ ((O3 hm (Oh (by decide) C C)).mono ?_);rintro⟨x1,x2,x3⟩ h;exact AB ⟨h.tt,h.Ob,h.l,h.ge,h.i⟩
  |inr p=>
   obtain⟨x1,x2,x3,x4,x5,x6⟩:=p;obtain⟨j1,j2,j3,j4,j5,j6⟩:=ho;exact AB ⟨j1,j2,j3,j4,j5,j6⟩
theorem S1{t:AO}(T:Iu t):∀(i n:Nat),3*i<=n->Nb t (BW n) i
 |0,n,_=>⟨λm j nxt _ M=>absurd M (Nat.not_lt_zero _)⟩
 |i+1,n,I=>by
  refine⟨λm j nxt hm M O C=>?_⟩;obtain⟨k,rfl⟩:∃k,n=k+3:=⟨n - 3,by omega⟩;have up:∀{S:BG},Nb t S i->Nb t S j:=λh=>⟨λm j' nxt hm hj'=>h.node m j' nxt hm (by omega)⟩;have r0:Nb t (BW k) j:=up (S1 T i k (by omega));have r2:Nb t (BW (k+2)) j:=up (S1 T i (k+2) (by omega));have p1:W5 t (BW (k+1)) j:=λm n nxt a b c d=>YL r0 m n nxt a b c d;have p2:ZK t (BW (k+2)) j:=λm n nxt a b c d=>Ze p1 m n nxt a b c d;exact Yj T r2 p2 m nxt hm O C
structure bo(t:AO)(a:Ay):Prop where
 l:PT t a.l_
 first:0<=a.AY/\a.AY<a.l_.length
theorem T4(t:AO)(X:B7 t=some true):W (GR t 4096) λr=>match r with|(some a,e)=>e=0/\bo t a|(none,e)=>e=7:=by
 unfold GR;refine Am (λh=>absurd h (by decide)) λ_=>?_;have T:Iu t:=by
  obtain⟨b,e,q⟩:=MQ t;rw[X]at e;cases e;exact q rfl
 rw[X,za,z6,Az];have O:W (Bu (⟨t,(⟨([]:List AX),(0:Int)⟩:Ay),4096,false⟩:Ar) (⟨(0:Int),(0:Int),(0:Int),(⟨(0:Int),(0:Int),(0:Int),(0:Int)⟩:BE)⟩:AX)) (Laid t 1):=by
  unfold Bu;refine Am (λh=>absurd h (by simp)) λ_=>Ce (DL (by simp) (by simp)) (AB ⟨rfl,rfl,⟨by simp,by simp,λs G=>?_⟩,by simp,by simp[IntKind.wrap_i64]⟩);have:s=⟨0,0,0,⟨0,0,0,0⟩⟩:=by simpa using G
  subst this;exact⟨by simp,by simp,λh=>absurd h (by decide)⟩
 refine AJ (O.mono ?_);rintro⟨x2,x3,x4⟩ h1;obtain⟨r,X⟩:=zn T.root.1;have V:r<t.AN.length:=by have:=T.root.2;omega
 rw[X];have hR:=(S1 T (r+1) KK (by rw[S7];have:=T.len;omega)).node _ r x2 (h1.m (f:=0)) (by omega) V h1.i;unfold Bg;refine AJ (hR.mono ?_);rintro⟨x5,x6,x7⟩ F;exact Am (λ_=>AB rfl) λ_=>AB ⟨rfl,F.l,F.i⟩
end Go.Av.L
