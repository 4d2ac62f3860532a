/-
  Several texts in one.
-/
import Derived.Test.YtfgmnhjedmkpeaaAeB
set_option linter.unusedSimpArgs false
/-
 A part.
-/
section
namespace Go.Av.L
open Go.Av Go.Lib
set_option linter.unusedVariables false
set_option linter.unusedSimpArgs false
structure Ln(l0:List AE)(f0:Bool)(R:List UInt8->Nat->Nat->Prop)(w:Nat)(nx:Int)(c:Nat)(r:Int×AM×List AE):Prop where
 Ou:r.2.1.A0=true->f0=true\/4096<l0.length+w
 ok:r.2.1.A0=false->f0=false/\(∀q,q<l0.length->r.2.2[q]?=l0[q]?)/\DS c R l0.length r.2.2 r.1 nx/\r.2.2.length<=l0.length+w
structure RE(l0:List AE)(f0:Bool)(x:AE)(r:Int×AM×List AE):Prop where
 Ou:r.2.1.A0=true->f0=true\/4096<l0.length+1
 ok:r.2.1.A0=false->f0=false/\r.2.2=l0++[x]/\r.1=(l0.length:Int)
theorem OB{t:AL}{m:AM}{s:AE}(h:RN t m)(I:Pu t m.a_.l_.length s):W (Az m s) λr=>Laid t m.a_.l_.length r/\RE m.a_.l_ m.A0 s r:=by
 obtain⟨r,e,N⟩:=Wp h I;refine⟨r,e,N,?_⟩;unfold Az at e;have h96:=h.l.le;by_cases C:(m.A0||decide ((m.a_.l_.length:Int)>=m.DP))=true
 ·rw[C,BU]at e;cases e;refine⟨λ_=>?_,λh0=>by simp at h0⟩;rw[zL,zq,h.J1]at C;rcases C with C|C
  ·exact .inl C
  ·exact .inr (by omega)
 ·rw[qz]at C;rw[C,Aq]at e;simp only[zH,zl,h.J1]at C;rw[GR (by simp;omega) (by simp;omega),MK]at e;cases e;refine⟨λh0=>by simp at h0,λ_=>⟨C.1,rfl,?_⟩⟩;simp only[zA,zJ];rw[Qs (by omega) (by omega)];omega
theorem S8{t:AL}{m:AM}{a b:Int}(h:RN t m)(ha:0<=a/\a<m.a_.l_.length)(hb:0<=b/\b<m.a_.l_.length):W (Bs a b m) λr=>Laid t m.a_.l_.length r/\RE m.a_.l_ m.A0 ⟨2,a,b,⟨0,0,0,0⟩⟩ r:=by
 unfold Bs;refine AP ((OB h (Lj (by decide) ha hb)).mono ?_);rintro⟨x1,x2,x3⟩ ⟨E,ho⟩;exact AH ⟨⟨E.tt,E.J1,E.l,E.ge,E.i⟩,⟨ho.Ou,ho.ok⟩⟩
structure NN(t:AL)(S:AV)(i:Nat):Prop where
 node:∀(m:AM) (j:Nat) (nxt:Int),RN t m->j<i->j<t.Ad.length->0<=nxt/\nxt<m.a_.l_.length->W (S.Aw m j nxt) λr=>Laid t m.a_.l_.length r/\Ln m.a_.l_ m.A0 (λs=>Tm t s j) (wg t j) nxt 1 r
def VO(t:AL)(S:AV)(i:Nat):Prop:=
 ∀(m:AM) (n:AN) (nxt:Int),RN t m->0<=n.A/\n.A<i->i<=t.Ad.length->0<=nxt/\nxt<m.a_.l_.length->W (S.BY nxt m n) λr=>Laid t m.a_.l_.length r/\Ln m.a_.l_ m.A0 (λs=>Tm t s n.A.toNat) (wg t n.A.toNat) nxt 1 r
def SM(t:AL)(n:AN)(s:List UInt8)(i j:Nat):Prop:=∃c:Nat,n.Min<=(c:Int)/\(n.Max<0\/(c:Int)<=n.Max)/\PX (Tm t s n.A.toNat) c i j
def Lg(t:AL)(n:AN):Nat:=if n.Max<0 then(wg t n.A.toNat+1)*(n.Min.toNat+1)else(wg t n.A.toNat+1)*n.Max.toNat+1
def Yc(t:AL)(S:AV)(i:Nat):Prop:=
 ∀(m:AM) (n:AN) (nxt:Int),RN t m->(0<=n.A/\n.A<i/\0<=n.Min/\n.Min<=255/\(n.Max= -1\/n.Min<=n.Max/\n.Max<=255))->n.Max≠0->m.A0=false->i<=t.Ad.length->0<=nxt/\nxt<m.a_.l_.length->W (S.B8 m n nxt) λr=>Laid t m.a_.l_.length r/\Ln m.a_.l_ false (SM t n) (Lg t n) nxt 1 r
theorem V8{t:AL}{S:AV}{i:Nat}(R:NN t S i)(m:AM)(n:AN)(nxt:Int)(hm:RN t m)(hA:0<=n.A/\n.A<i)(hi:i<=t.Ad.length)(E:0<=nxt/\nxt<m.a_.l_.length):W (CG S nxt m n) λr=>Laid t m.a_.l_.length r/\Ln m.a_.l_ m.A0 (λs=>Tm t s n.A.toNat) (wg t n.A.toNat) nxt 1 r:=by
 unfold CG;obtain⟨j,hj⟩:=zB hA.1;rw[hj,zu];refine AP ((R.node m j nxt hm (by omega) (by omega) E).mono ?_);rintro⟨x1,x2,x3⟩ ⟨h,I⟩;exact AH ⟨⟨h.tt,h.J1,h.l,h.ge,h.i⟩,⟨I.Ou,I.ok⟩⟩
def XM(t:AL)(n:AN)(s:List UInt8)(i j:Nat):Prop:=∃c:Nat,(n.Max<0\/(c:Int)<=n.Max - n.Min)/\PX (Tm t s n.A.toNat) c i j
theorem Vu{t:AL}{n:AN}(h0:0<=n.Min)(s:List UInt8)(i k:Nat):(∃j,PX (Tm t s n.A.toNat) n.Min.toNat i j/\XM t n s j k)↔SM t n s i k:=by
 constructor
 ·rintro⟨j,h1,c,hc,H⟩;exact⟨n.Min.toNat+c,by omega,by omega,(Mi _ _ _ _).2 ⟨j,h1,H⟩⟩
 ·rintro⟨c,h1,H,h3⟩;obtain⟨d,rfl⟩:∃d,c=n.Min.toNat+d:=⟨c - n.Min.toNat,by omega⟩;obtain⟨j,h4,h5⟩:=(Mi _ _ _ _).1 h3;exact⟨j,h4,d,by omega,h5⟩
theorem YB{t:AL}(T:JU t){S:AV}{i:Nat}(R:VO t S i)(m:AM)(n:AN)(nxt:Int)(hm:RN t m)(hA:0<=n.A/\n.A<i/\0<=n.Min/\n.Min<=255/\(n.Max= -1\/n.Min<=n.Max/\n.Max<=255))(hM0:n.Max≠0)(G:m.A0=false)(hi:i<=t.Ad.length)(E:0<=nxt/\nxt<m.a_.l_.length):W (CZ S m n nxt) λr=>Laid t m.a_.l_.length r/\Ln m.a_.l_ false (SM t n) (Lg t n) nxt 1 r:=by
 unfold CZ;obtain⟨l0,U⟩:∃l0,l0=m.a_.l_:=⟨_,rfl⟩;have M:1<=l0.length:=by rw[U];exact hm.l.pos
 rw[<-U]at E⊢;obtain⟨z,hz⟩:∃z,z=wg t n.A.toNat+1:=⟨_,rfl⟩;have hle:∀(s:List UInt8) (i j:Nat),i<=s.length->Tm t s n.A.toNat i j->j<=s.length:=λs i j h1 H=>(N0 T s _ i j h1 H).2
 let J:(List AN)×Int×Int×Bool×(List AE)×Int->Prop:=λs=>(⟨s.1,s.2.1⟩:AL)=t/\s.2.2.1=4096/\Mj t s.2.2.2.2.1/\l0.length<=s.2.2.2.2.1.length/\0<=s.2.2.2.2.2/\s.2.2.2.2.2<s.2.2.2.2.1.length
 let K:(c:Nat)->(RR:List UInt8->Nat->Nat->Prop)->(w:Nat)->(List AN)×Int×Int×Bool×(List AE)×Int->Prop:=λc RR w s=>
  (s.2.2.2.1=true->4096<l0.length+Lg t n)/\(s.2.2.2.1=false->(∀q,q<l0.length->s.2.2.2.2.1[q]?=l0[q]?)/\DS c RR l0.length s.2.2.2.2.1 s.2.2.2.2.2 nxt/\s.2.2.2.2.1.length<=l0.length+w)
 obtain⟨c0,hc0⟩:∃c0:Nat,c0=if n.Max=n.Min then 0 else 1:=⟨_,rfl⟩
 obtain⟨w0,hw0⟩:∃w0:Nat,w0=if n.Max<0 then z else(n.Max - n.Min).toNat*z:=⟨_,rfl⟩
 have hwW:w0+n.Min.toNat*z<=Lg t n:=by
  rw[hw0];unfold Lg;rw[<-hz];split
  ·rw[Nat.mul_add,Nat.mul_one,qx z];omega
  ·rw[<-yl,qx z];have:(n.Max - n.Min).toNat+n.Min.toNat=n.Max.toNat:=by omega
   rw[this];omega
 refine AP (W.mono (Q:=λs=>J s/\K c0 (XM t n) w0 s) ?_ λs I=>?_)
 ·refine Bq (λhneg=>?_) λhpos2=>?_
  ·have hcc:c0=1:=by rw[hc0,zh (by omega)]
   have hww:w0=z:=by rw[hw0,zk hneg]
   have hW1:z<=Lg t n:=by omega
   refine AP ((S8 hm (by rw[<-U];exact E) (by rw[<-U];exact E)).mono ?_);rintro⟨x7,x8,x9⟩ ⟨h1,o1⟩;rw[<-U,G]at o1;rw[<-U]at h1;refine AP ((R _ n x7 h1.m ⟨hA.1,hA.2.1⟩ hi h1.i).mono ?_);rintro⟨x10,x11,x12⟩ ⟨H,s2⟩;have hge:x9.length<=x12.length:=H.ge;have hge1:l0.length<=x9.length:=h1.ge;have h7:0<=x7/\x7<x9.length:=h1.i;have ht2:x11.t_=t:=H.tt;have hm2:x11.DP=4096:=H.J1;have hl2:Mj t x12:=H.l;have h10:0<=x10/\x10<x12.length:=H.i;have o1f:x8.A0=true->4096<l0.length+1:=λh=>by rcases o1.Ou h with h|h;cases h;exact h
   have s2f:x11.A0=true->x8.A0=true\/4096<x9.length+wg t n.A.toNat:=s2.Ou;have s2k:x11.A0=false->x8.A0=false/\(∀q,q<x9.length->x12[q]?=x9[q]?)/\DS 1 (λs=>Tm t s n.A.toNat) x9.length x12 x10 x7/\x12.length<=x9.length+wg t n.A.toNat:=s2.ok;have o1k:x8.A0=false->x9=l0++[⟨2,nxt,nxt,⟨0,0,0,0⟩⟩]/\x7=(l0.length:Int):=λh=>(o1.ok h).2;have hful:x11.A0=true->4096<l0.length+Lg t n:=λh=>by
    cases h8:x8.A0 with
    |true=>have:=o1f h8;omega
    |false=>
     rcases s2f h with h|h
     ·rw[h8]at h;cases h
     ·rw[(o1k h8).1,zA,zJ]at h;omega
   refine Bd (λhnf=>?_) λC=>AH ⟨⟨by rw[<-ht2],hm2,hl2,by simp only;omega,by simp only;omega,by simp only;omega⟩,⟨λh=>hful h,λh=>by have h:x11.A0=false:=h;rw[h]at C;cases C⟩⟩;have hnf:x11.A0=false:=by simpa using hnf
   obtain⟨g1,g2,g3,g4⟩:=s2k hnf;obtain⟨rfl,rfl⟩:=o1k g1;have D:l0.length<x12.length:=by simp only[zA,zJ]at hge;omega
   rw[FM D];have e13:x12[l0.length]'(D)=⟨2,nxt,nxt,⟨0,0,0,0⟩⟩:=by
    have:=g2 l0.length (by simp);rw[List.getElem?_eq_getElem D]at this;simpa using this
   refine AP (AH (AH ⟨⟨by rw[<-ht2],hm2,?_,by simp only[yj];omega,by simp only;omega,by simp only[yj];omega⟩,⟨λh=>hful h,λ_=>?_⟩⟩))
   ·refine⟨by rw[yj];exact hl2.pos,by rw[yj];exact hl2.le,λx E=>?_⟩;rw[yj];rcases qO E with E|rfl
    ·exact hl2.st x E
    ·have:=hl2.st _ (zY D);exact⟨h10,this.b,this.Ug⟩
   ·simp only;rw[e13,zu,hcc,hww,yj];simp only[zA,zJ]at g2 g3 g4;refine⟨λq hq=>by rw[List.getElem?_set_ne (by omega),g2 q (by omega),List.getElem?_append_left hq],?_,by omega⟩;refine(RY M D g3 hle).congr λs i j=>?_;unfold XM;exact⟨λ⟨c,hc⟩=>⟨c,.inl hneg,hc⟩,λ⟨c,_,hc⟩=>⟨c,hc⟩⟩
  ·have hmx:n.Min<=n.Max/\n.Max<=255:=by omega
   have hww:w0=(n.Max - n.Min).toNat*z:=by rw[hw0,zh hpos2]
   refine AP (W.mono (Q:=λs=>J s/\K c0 (XM t n) w0 s) (W.loop (λs=>(J (s.1,s.2.1,s.2.2.1,s.2.2.2.1,s.2.2.2.2.1,s.2.2.2.2.2.1)/\K (if s.2.2.2.2.2.2=n.Max then 0 else 1) (λs' i j=>∃c:Nat,(c:Int)<=n.Max - s.2.2.2.2.2.2/\PX (Tm t s' n.A.toNat) c i j) ((n.Max - s.2.2.2.2.2.2).toNat*z) (s.1,s.2.1,s.2.2.1,s.2.2.2.1,s.2.2.2.2.1,s.2.2.2.2.2.1))/\n.Min<=s.2.2.2.2.2.2/\s.2.2.2.2.2.2<=n.Max) (λs=>(s.2.2.2.2.2.2 - n.Min).toNat) ⟨⟨⟨hm.tt,hm.J1,by rw[U];exact hm.l,zr _,E.1,E.2⟩,⟨λh=>(by rw[G]at h;cases h),λ_=>⟨λq _=>rfl,?_,by simp only[Int.sub_self,qN,qv];exact zr _⟩⟩⟩,hmx.1,Int.le_refl _⟩ ?_) λs I=>AH I)
   ·simp only[if_true];refine(DS.none l0.length l0 nxt).congr λs i j=>?_;constructor
    ·intro h;exact⟨0,by omega,h⟩
    ·rintro⟨c,hc,h⟩;obtain rfl:c=0:=by omega
     exact h
   rintro⟨x14,x15,x16,x17,x18,x19,x20⟩ ⟨⟨⟨j1,j2,j3,j4,j5,j6⟩,k1,k2⟩,O,V⟩;simp only at j1 j2 j3 j4 j5 j6 k1 k2 O V;unfold Dp;refine Bd (λhc=>?_) λhc=>AH ⟨⟨j1,j2,j3,j4,j5,j6⟩,⟨k1,λh=>?_⟩⟩
   ·simp only[zf,zq]at hc;have h17:x17=false:=by simpa using hc.2
    obtain⟨p1,p2,p3⟩:=k2 h17;have hM:RN t ⟨⟨x14,x15⟩,⟨x18,m.a_.AZ⟩,x16,x17⟩:=⟨j1,j2,j3⟩;obtain⟨d,hd⟩:∃d:Nat,d=(n.Max - x20).toNat:=⟨_,rfl⟩;have hdz:(d+1)*z<=Lg t n:=by
     unfold Lg;rw[<-hz,zh hpos2,qx z];have:=yr z (show d+1<=n.Max.toNat by omega);omega
    rw[qd]at hdz;rw[<-hd]at p3;refine AP ((R _ n x19 hM ⟨hA.1,hA.2.1⟩ hi ⟨j5,j6⟩).mono ?_);rintro⟨x27,x28,x29⟩ ⟨h1,s1⟩;have g1:x18.length<=x29.length:=h1.ge;have s1f:x28.A0=true->x17=true\/4096<x18.length+wg t n.A.toNat:=s1.Ou;have s1k:x28.A0=false->x17=false/\(∀q,q<x18.length->x29[q]?=x18[q]?)/\DS 1 (λs=>Tm t s n.A.toNat) x18.length x29 x27 x19/\x29.length<=x18.length+wg t n.A.toNat:=s1.ok;refine AP ((S8 h1.m h1.i (show 0<=nxt/\nxt<x29.length by omega)).mono ?_);rintro⟨x30,x31,x32⟩ ⟨H,s2⟩;have g2:x29.length<=x32.length:=H.ge;have g3:0<=x30/\x30<x32.length:=H.i;have s2f:x31.A0=true->x28.A0=true\/4096<x29.length+1:=s2.Ou;have s2k:x31.A0=false->x28.A0=false/\x32=x29++[⟨2,x27,nxt,⟨0,0,0,0⟩⟩]/\x30=(x29.length:Int):=s2.ok;have w20:IntKind.i64.wrap (x20 - 1)=x20 - 1:=Qs (by omega) (by omega);refine AH ⟨⟨⟨⟨?_,H.J1,H.l,by simp only;omega,g3.1,g3.2⟩,⟨?_,?_⟩⟩,?_⟩,?_⟩
    ·have:x31.t_=t:=H.tt;simp only[this]
    ·intro h;have h:x31.A0=true:=h;have f1:x28.A0=true->4096<l0.length+Lg t n:=λh28=>by
      rcases s1f h28 with h|h
      ·rw[h17]at h;cases h
      ·omega
     cases h28:x28.A0 with
     |true=>exact f1 h28
     | false=>
      rcases s2f h with h|h
      ·exact f1 h
      ·have:=(s1k h28).2.2.2;omega
    ·intro h;have h:x31.A0=false:=h;obtain⟨q1,rfl,rfl⟩:=s2k h;obtain⟨_,r2,r3,r4⟩:=s1k q1;simp only[w20];refine⟨λq hq=>by rw[List.getElem?_append_left (by omega),r2 q (by omega),p1 q hq],?_,?_⟩
     ·rw[zh (by omega)];refine(PM (c2:=0) (by omega) (r3.comp p2 (by omega) rfl r2 (λs i j a b=>hle s i j a b) g1) (DS.none l0.length x29 nxt) (by omega)).congr λs i k=>?_;constructor
      ·rintro(⟨j,a,c,hc,b⟩|rfl)
       ·exact⟨c+1,by omega,j,a,b⟩
       ·exact⟨0,by omega,rfl⟩
      ·rintro⟨c,hc,h⟩;cases c with
       |zero=>exact .inr h
       |succ c=>
        obtain⟨j,a,b⟩:=h;exact .inl ⟨j,a,c,by omega,b⟩
     ·rw[show(n.Max - (x20 - 1)).toNat=d+1 by omega,qd,zA,zJ];omega
    ·simp only[w20];omega
    ·simp only[w20];omega
   ·have h:x17=false:=h;have h20:x20=n.Min:=by
     rw[h]at hc;simp only[yF,Bool.and_true,zl]at hc;omega
    subst h20;obtain⟨p1,p2,p3⟩:=k2 h;refine⟨p1,?_,by rw[hww];exact p3⟩;refine(p2.Ul (by rw[hc0];split<;>split<;>omega)).congr λs i j=>?_;unfold XM;exact⟨λ⟨c,hc,h⟩=>⟨c,.inr hc,h⟩,λ⟨c,hc,h⟩=>⟨c,by omega,h⟩⟩
 ·obtain⟨x1,x2,x3,x4,x5,x6⟩:=s;obtain⟨I,ks⟩:=I;refine AP (W.mono (Q:=λs=>J s/\K (c0+n.Min.toNat) (SM t n) (Lg t n) s) (W.loop (λs=>(J (s.1,s.2.1,s.2.2.1,s.2.2.2.1,s.2.2.2.2.1,s.2.2.2.2.2.1)/\K (c0+s.2.2.2.2.2.2.toNat) (λs' i k=>∃j,PX (Tm t s' n.A.toNat) s.2.2.2.2.2.2.toNat i j/\XM t n s' j k) (w0+s.2.2.2.2.2.2.toNat*z) (s.1,s.2.1,s.2.2.1,s.2.2.2.1,s.2.2.2.2.1,s.2.2.2.2.2.1))/\0<=s.2.2.2.2.2.2/\s.2.2.2.2.2.2<=n.Min) (λs=>(n.Min - s.2.2.2.2.2.2).toNat) ⟨⟨I,⟨ks.1,λh=>?_⟩⟩,by simp,by simp only;omega⟩ ?_) λs I=>AH ?_)
  ·obtain⟨p1,p2,p3⟩:=ks.2 h;refine⟨p1,p2.congr λs i k=>?_,by simp only[qN,qv];exact p3⟩;simp only[qN];exact⟨λh=>⟨i,rfl,h⟩,λ⟨j,h1,H⟩=>by have h1:j=i:=h1;rw[<-h1];exact H⟩
  ·rintro⟨x14,x15,x16,x17,x18,x19,x20⟩ ⟨⟨⟨j1,j2,j3,j4,j5,j6⟩,k1,k2⟩,hk0,D⟩;simp only at j1 j2 j3 j4 j5 j6 k1 k2 D hk0;unfold Dl;refine Bd (λhc=>?_) λhc=>AH ⟨⟨j1,j2,j3,j4,j5,j6⟩,⟨k1,λh=>?_⟩⟩
   ·simp only[zf,zq]at hc;have h17:x17=false:=by simpa using hc.2
    obtain⟨p1,p2,p3⟩:=k2 h17;obtain⟨y,rfl⟩:=zB hk0;rw[zu]at p2 p3;have hyz:w0+(y+1)*z<=Lg t n:=by
     have:=yr z (show y+1<=n.Min.toNat by omega);omega
    rw[qd]at hyz;have hM:RN t ⟨⟨x14,x15⟩,⟨x18,m.a_.AZ⟩,x16,x17⟩:=⟨j1,j2,j3⟩;refine AP ((R _ n x19 hM ⟨hA.1,hA.2.1⟩ hi ⟨j5,j6⟩).mono ?_);rintro⟨x27,x28,x29⟩ ⟨h1,s1⟩;have g1:x18.length<=x29.length:=h1.ge;have g3:0<=x27/\x27<x29.length:=h1.i;have s1f:x28.A0=true->x17=true\/4096<x18.length+wg t n.A.toNat:=s1.Ou;have s1k:x28.A0=false->x17=false/\(∀q,q<x18.length->x29[q]?=x18[q]?)/\DS 1 (λs=>Tm t s n.A.toNat) x18.length x29 x27 x19/\x29.length<=x18.length+wg t n.A.toNat:=s1.ok;have wy:IntKind.i64.wrap ((y:Int)+1)=((y+1:Nat):Int):=G4 (by omega);refine AH ⟨⟨⟨⟨?_,h1.J1,h1.l,by simp only;omega,g3.1,g3.2⟩,⟨?_,?_⟩⟩,?_⟩,?_⟩
    ·have:x28.t_=t:=h1.tt;simp only[this]
    ·intro h;have h:x28.A0=true:=h;rcases s1f h with h|h
     ·rw[h17]at h;cases h
     ·omega
    ·intro h;have h:x28.A0=false:=h;obtain⟨_,r2,r3,r4⟩:=s1k h;simp only[wy,zu];refine⟨λq hq=>by rw[r2 q (by omega),p1 q hq],?_,by rw[qd];omega⟩;refine((r3.comp p2 (by omega) rfl r2 (λs i j a b=>hle s i j a b) g1).Ul (by omega)).congr λs i k=>?_;constructor
     ·rintro⟨j,a,j2,b,c⟩;exact⟨j2,⟨j,a,b⟩,c⟩
     ·rintro⟨j2,⟨j,a,b⟩,c⟩;exact⟨j,a,j2,b,c⟩
    ·simp only[wy];omega
    ·simp only[wy];omega
   ·have h:x17=false:=h;have h20:x20=n.Min:=by
     rw[h]at hc;simp only[yF,Bool.and_true,zl]at hc;omega
    subst h20;obtain⟨p1,p2,p3⟩:=k2 h;exact⟨p1,p2.congr λs i k=>Vu hk0 s i k,zM p3 (Nat.add_le_add_left hwW _)⟩
  ·obtain⟨x1,x2,x3,x4,x5,x6⟩:=s;obtain⟨⟨j1,j2,j3,j4,j5,j6⟩,k1,k2⟩:=I;simp only at j1 j2 j3 j4 j5 j6 k1 k2;refine⟨⟨j1,j2,j3,j4,j5,j6⟩,λh=>.inr (k1 h),λh=>?_⟩;obtain⟨p1,p2,p3⟩:=k2 h;exact⟨rfl,p1,p2.Ul (by rw[hc0];split<;>omega),p3⟩
end Go.Av.L
end
/-
 A part.
-/
section
namespace Go.Av.L
open Go.Av Go.Lib
set_option linter.unusedVariables false
set_option linter.unusedSimpArgs false
theorem DS.ext{c:Nat}{R:List UInt8->Nat->Nat->Prop}{n0:Nat}{l1 l2:List AE}{e nx:Int}(h:DS c R n0 l1 e nx)(hp:∀q,q<l1.length->l2[q]?=l1[q]?)(N:l1.length<=l2.length):DS c R n0 l2 e nx:=λl ha s=>
 h l (λq q1 q2=>(ha q q1 (by omega)).trans (hp q q2)) s
theorem DS.low{c:Nat}{R:List UInt8->Nat->Nat->Prop}{n0 n1:Nat}{l1:List AE}{e nx:Int}(h:DS c R n1 l1 e nx)(hn:n0<=n1):DS c R n0 l1 e nx:=λl ha s=>
 h l (λq q1 q2=>ha q (by omega) q2) s
theorem RE.s{l0:List AE}{x:AE}{r:Int×AM×List AE}(h:RE l0 false x r){R:List UInt8->Nat->Nat->Prop}{w:Nat}{nx:Int}(hw:1<=w)(hF:DS 1 R l0.length (l0++[x]) (l0.length:Int) nx):Ln l0 false R w nx 1 r:=by
 refine⟨λC=>?_,λC=>?_⟩
 ·rcases h.Ou C with h|h
  ·cases h
  ·exact .inr (by omega)
 ·obtain⟨_,e1,e2⟩:=h.ok C;rw[e1,e2];exact⟨rfl,λq hq=>List.getElem?_append_left hq,hF,by rw[zA,zJ];omega⟩
theorem KO{l:List AE}{fr bk:Bool}{q:Nat}{x:AE}(h:l[q]?=some x):Fm l fr bk (q:Int)=if x.C2=2 then[x.a_,x.b_]else if(x.C2=3/\fr=true)\/(x.C2=4/\bk=true)then[x.a_]else[]:=by
 unfold Fm;rw[zu,h]
theorem NJ{l:List AE}{c:Int}{q:Nat}{x:AE}(h:l[q]?=some x):IB l c (q:Int)=if x.C2=1/\Kp x.Jz c=true then[x.a_]else[]:=by
 unfold IB;rw[zu,h]
theorem WC{t:AL}(T:JU t){S:AV}{j:Nat}(R:NN t S j)(R2:Yc t S j)(m:AM)(nxt:Int)(hm:RN t m)(hj:j<t.Ad.length)(E:0<=nxt/\nxt<m.a_.l_.length):W (Cs S m j nxt) λr=>Laid t m.a_.l_.length r/\Ln m.a_.l_ m.A0 (λs=>Tm t s j) (wg t j) nxt 1 r:=by
 unfold Cs;refine Bd (λC=>AH ⟨⟨hm.tt,hm.J1,hm.l,zr _,by simp only;have:=hm.l.pos;omega⟩,⟨λ_=>.inl C,λh=>by rw[C]at h;cases h⟩⟩) λG=>?_;have M:=hm.l.pos;have em:m.t_.Ad=t.Ad:=by rw[hm.tt]
 rw[em,FM hj];have hg:t.Ad[j]?=some t.Ad[j]:=List.getElem?_eq_getElem hj;have hn:=T.nodes j _ hg;have hmem:=zY hj;generalize t.Ad[j]=x7 at hn hmem hg⊢;have Z:=λs=>TP T (s:=s) hg;have hW:=VT T hg;rw[G];obtain⟨l0,U⟩:∃l0,l0=m.a_.l_:=⟨_,rfl⟩
 let J:(Unit)⊕((List AN)×Int×Int×Bool×(List AE)×Int)->Prop:=λo=>match o with
  | .inl _=>(∀s i k,Tm t s j i k↔k=i)/\1<=wg t j
  | .inr (x1,x2,x3,x4,x5,x6)=>((⟨x1,x2⟩:AL)=t/\x3=4096/\Mj t x5/\m.a_.l_.length<=x5.length/\0<=x6/\x6<x5.length)/\
   (x4=true->4096<m.a_.l_.length+wg t j)/\(x4=false->(∀q,q<m.a_.l_.length->x5[q]?=m.a_.l_[q]?)/\DS 1 (λs=>Tm t s j) m.a_.l_.length x5 x6 nxt/\x5.length<=m.a_.l_.length+wg t j)
 have back:∀{x1:Int} {x2:AM} {x3:List AE},Laid t m.a_.l_.length (x1,x2,x3)->Ln m.a_.l_ false (λs=>Tm t s j) (wg t j) nxt 1 (x1,x2,x3)->J (.inr (x2.t_.Ad,x2.t_.A2,x2.DP,x2.A0,x3,x1)):=by
  intro x1 x2 x3 h I;have e:x2.t_=t:=h.tt;refine⟨⟨by rw[e],h.J1,h.l,h.ge,h.i.1,h.i.2⟩,λC=>?_,λC=>(I.ok C).2⟩;rcases I.Ou C with h|h
  ·cases h
  ·exact h
 have z0:(0:Int)<=0/\(0:Int)<m.a_.l_.length:=⟨Int.le_refl _,by omega⟩;have rn:∀(m':AM) (a nx:Int),RN t m'->0<=a/\a<j->0<=nx/\nx<m'.a_.l_.length->W (S.Aw m' a nx) λr=>Laid t m'.a_.l_.length r/\Ln m'.a_.l_ m'.A0 (λs=>Tm t s a.toNat) (wg t a.toNat) nx 1 r:=by
  intro m' a nx h1 H h3;obtain⟨k,rfl⟩:=zB H.1;rw[zu];exact R.node m' k nx h1 (by omega) (by omega) h3
 refine AP (W.mono (Q:=J) (AP (AH ?_)) λo ho=>?_)
 ·simp only[Gw,Nc];split
  ·rename_i D;have Y:1<=wg t j:=by rw[hW];simp[D]
   refine AP ((OB hm ⟨E,z0,λ_=>⟨x7,hmem,D,rfl⟩⟩).mono ?_);rintro⟨a1,a2,a3⟩ ⟨h,o⟩;rw[G]at o;refine AH (back h (o.s Y (LM M (λs i q' l N=>?_) (λs i b q' l N hb=>?_) λs i k X=>?_)))
   ·rw[KO N,Z];simp[D]
   ·rw[NJ N,Z];simp only[D,if_true,yZ];constructor
    ·intro h;split at h
     ·rename_i hh;exact⟨zw.1 h,b,hb,hh,trivial⟩
     ·cases h
    ·rintro⟨rfl,b',hb',hh,_⟩;rw[hb]at hb';cases hb';rw[zk hh];simp
   ·rw[Z]at X;simp only[D,if_true]at X;obtain⟨b,hb,_,rfl⟩:=X;exact .inr ⟨rfl,b,hb⟩
  split
  ·rename_i O D;have Y:1<=wg t j:=by rw[hW];simp[D]
   refine AP ((OB hm (Lj (by decide) E z0)).mono ?_);rintro⟨a1,a2,a3⟩ ⟨h,o⟩;rw[G]at o;refine AH (back h (o.s Y (LM M (λs i q' l N=>?_) (λs i b q' l N hb=>?_) λs i k X=>?_)))
   ·rw[KO N,Z];by_cases h0:i=0<;>simp[D,h0]
   ·rw[NJ N,Z];simp[D]
   ·rw[Z]at X;simp[D]at X;exact .inl X.2
  split
  ·rename_i O V D;have Y:1<=wg t j:=by rw[hW];simp[D]
   refine AP ((OB hm (Lj (by decide) E z0)).mono ?_);rintro⟨a1,a2,a3⟩ ⟨h,o⟩;rw[G]at o;refine AH (back h (o.s Y (LM M (λs i q' l N=>?_) (λs i b q' l N hb=>?_) λs i k X=>?_)))
   ·rw[KO N,Z];by_cases h0:i=s.length<;>simp[D,h0]
   ·rw[NJ N,Z];simp[D]
   ·rw[Z]at X;simp[D]at X;exact .inl X.2
  split
  ·rename_i O V hk3 D;have P:=hn.1 (.inl D);have hw:wg t j=wg t x7.A.toNat+wg t x7.B.toNat:=by rw[hW];simp[D]
   refine AP ((rn m x7.B nxt hm ⟨P.2.2.1,P.2.2.2⟩ E).mono ?_);rintro⟨a1,a2,a3⟩ ⟨h,s1⟩;refine AP ((rn _ x7.A a1 h.m ⟨P.1,P.2.1⟩ h.i).mono ?_);rintro⟨b1,b2,b3⟩ ⟨h',s2⟩;have f1:a2.A0=true->m.A0=true\/4096<m.a_.l_.length+wg t x7.B.toNat:=s1.Ou;have f2:b2.A0=true->a2.A0=true\/4096<a3.length+wg t x7.A.toNat:=s2.Ou;have k1:a2.A0=false->m.A0=false/\(∀q,q<m.a_.l_.length->a3[q]?=m.a_.l_[q]?)/\DS 1 (λs=>Tm t s x7.B.toNat) m.a_.l_.length a3 a1 nxt/\a3.length<=m.a_.l_.length+wg t x7.B.toNat:=s1.ok;have k2:b2.A0=false->a2.A0=false/\(∀q,q<a3.length->b3[q]?=a3[q]?)/\DS 1 (λs=>Tm t s x7.A.toNat) a3.length b3 b1 a1/\b3.length<=a3.length+wg t x7.A.toNat:=s2.ok;have g1:m.a_.l_.length<=a3.length:=h.ge;have g2:a3.length<=b3.length:=h'.ge;have e1:a2.A0=true->4096<m.a_.l_.length+wg t j:=λC=>by
    rcases f1 C with h|h
    ·rw[G]at h;cases h
    ·omega
   refine AH (back (h'.up g1) ⟨λC=>.inr ?_,λC=>?_⟩)
   ·have C:b2.A0=true:=C;cases ha:a2.A0 with
    |true=>exact e1 ha
    |false=>
     rcases f2 C with h|h
     ·exact e1 h
     ·have:=(k1 ha).2.2.2;omega
   ·obtain⟨q1,q2,q3,q4⟩:=k2 C;obtain⟨r1,r2,r3,r4⟩:=k1 q1;refine⟨rfl,λq hq=>by rw[<-r2 q hq];exact q2 q (by omega),((q3.comp r3 g1 rfl q2 (λs i k a b=>(N0 T s _ i k a b).2) g2).Ul (by omega)).congr λs i k=>?_,show b3.length<=_ by omega⟩;rw[Z];simp[D]
  split
  ·rename_i O V hk3 hk4 D;have P:=hn.1 (.inr D);have hw:wg t j=wg t x7.A.toNat+wg t x7.B.toNat+1:=by rw[hW];simp[D]
   refine AP ((rn m x7.A nxt hm ⟨P.1,P.2.1⟩ E).mono ?_);rintro⟨a1,a2,a3⟩ ⟨h,s1⟩;have g1:m.a_.l_.length<=a3.length:=h.ge;have i1:0<=a1/\a1<a3.length:=h.i;refine AP ((rn _ x7.B nxt h.m ⟨P.2.2.1,P.2.2.2⟩ (show 0<=nxt/\nxt<a3.length by omega)).mono ?_);rintro⟨b1,b2,b3⟩ ⟨h',s2⟩;have g2:a3.length<=b3.length:=h'.ge;have i2:0<=b1/\b1<b3.length:=h'.i;refine AP ((OB h'.m (Lj (n:=b3.length) (by decide) (show 0<=a1/\a1<b3.length by omega) i2)).mono ?_);rintro⟨c1,c2,c3⟩ ⟨h'',o⟩;have f1:a2.A0=true->m.A0=true\/4096<m.a_.l_.length+wg t x7.A.toNat:=s1.Ou;have f2:b2.A0=true->a2.A0=true\/4096<a3.length+wg t x7.B.toNat:=s2.Ou;have f3:c2.A0=true->b2.A0=true\/4096<b3.length+1:=o.Ou;have k1:a2.A0=false->m.A0=false/\(∀q,q<m.a_.l_.length->a3[q]?=m.a_.l_[q]?)/\DS 1 (λs=>Tm t s x7.A.toNat) m.a_.l_.length a3 a1 nxt/\a3.length<=m.a_.l_.length+wg t x7.A.toNat:=s1.ok;have k2:b2.A0=false->a2.A0=false/\(∀q,q<a3.length->b3[q]?=a3[q]?)/\DS 1 (λs=>Tm t s x7.B.toNat) a3.length b3 b1 nxt/\b3.length<=a3.length+wg t x7.B.toNat:=s2.ok;have k3:c2.A0=false->b2.A0=false/\c3=b3++[⟨2,a1,b1,⟨0,0,0,0⟩⟩]/\c1=(b3.length:Int):=o.ok;have e1:a2.A0=true->4096<m.a_.l_.length+wg t j:=λC=>by
    rcases f1 C with h|h
    ·rw[G]at h;cases h
    ·omega
   have e2:b2.A0=true->4096<m.a_.l_.length+wg t j:=λC=>by
    cases ha:a2.A0 with
    |true=>exact e1 ha
    |false=>
     rcases f2 C with h|h
     ·exact e1 h
     ·have:=(k1 ha).2.2.2;omega
   refine AH (back (h''.up (show m.a_.l_.length<=b3.length by omega)) ⟨λC=>.inr ?_,λC=>?_⟩)
   ·have C:c2.A0=true:=C;cases hb:b2.A0 with
    |true=>exact e2 hb
    | false=>
     rcases f3 C with h|h
     ·exact e2 h
     ·obtain⟨q1,q2,q3,q4⟩:=k2 hb;have:=(k1 q1).2.2.2;omega
   ·obtain⟨u1,rfl,rfl⟩:=k3 C;obtain⟨q1,q2,q3,q4⟩:=k2 u1;obtain⟨r1,r2,r3,r4⟩:=k1 q1;refine⟨rfl,λq hq=>?_,(PM (by omega) (r3.ext q2 g2) (q3.low g1) (by omega)).congr λs i k=>?_,?_⟩
    ·show(b3++_)[q]?=_;rw[List.getElem?_append_left (by omega),q2 q (by omega),r2 q hq]
    ·rw[Z];simp[D]
    ·show(b3++_).length<=_;rw[zA,zJ];omega
  split
  ·rename_i O V hk3 hk4 hk5 D;have hw:wg t j=wg t x7.A.toNat:=by rw[hW];simp[D]
   refine AP ((rn m x7.A nxt hm (hn.2.2 D) E).mono ?_);rintro⟨a1,a2,a3⟩ ⟨h,s1⟩;rw[G]at s1;refine AH (back h ⟨λC=>by rw[hw];exact s1.Ou C,λC=>?_⟩);obtain⟨r1,r2,r3,r4⟩:=s1.ok C;refine⟨rfl,r2,r3.congr λs i k=>?_,by rw[hw];exact r4⟩;rw[Z];simp[D]
  split
  ·rename_i O V hk3 hk4 hk5 hk6 D;have hq:=hn.2.1 D;split
   ·rename_i h0;refine AH ⟨λs i k=>?_,by rw[hW];simp[D,h0]⟩;rw[Z];simp only[D,show ¬((4:Int)=1) by decide,show ¬((4:Int)=6) by decide,show ¬((4:Int)=7) by decide,show ¬((4:Int)=2) by decide,show ¬((4:Int)=3) by decide,show ¬((4:Int)=5) by decide,if_false,if_true];constructor
    ·rintro⟨c,_,c2,c3⟩;obtain rfl:c=0:=by omega
     exact c3
    ·rintro rfl;exact⟨0,by omega,by omega,rfl⟩
   ·rename_i h0;refine AP ((R2 m x7 nxt hm hq h0 G (by omega) E).mono ?_);rintro⟨a1,a2,a3⟩ ⟨h,s1⟩;have hw:wg t j=Lg t x7:=by rw[hW];unfold Lg;simp[D]
    refine AH (back h ⟨λC=>by rw[hw];exact s1.Ou C,λC=>?_⟩);obtain⟨r1,r2,r3,r4⟩:=s1.ok C;refine⟨rfl,r2,r3.congr λs i k=>?_,by rw[hw];exact r4⟩;rw[Z];unfold SM;simp[D]
  ·rename_i O V hk3 hk4 hk5 hk6 D;refine AH ⟨λs i k=>?_,by rw[hW];simp[hk4,hk5,hk6,D]⟩;rw[Z];simp[O,V,hk3,hk4,hk5,hk6,D]
 ·cases o with
  |inl u=>
   obtain⟨hT0,Y⟩:=ho;refine AP ((OB hm (Lj (by decide) E E)).mono ?_);rintro⟨x1,x2,x3⟩ ⟨h,o⟩;rw[G]at o;have I:=o.s Y (R:=λs=>Tm t s j) (nx:=nxt) (LM M (λs i q' l N=>by rw[KO N,hT0];simp) (λs i b q' l N hb=>by rw[NJ N,hT0];simp) λs i k X=>.inl ((hT0 s i k).1 X));exact AH ⟨⟨h.tt,h.J1,h.l,h.ge,h.i⟩,⟨I.Ou,I.ok⟩⟩
  |inr p=>
   obtain⟨x1,x2,x3,x4,x5,x6⟩:=p;obtain⟨⟨j1,j2,j3,j4,j5,j6⟩,k1,k2⟩:=ho;exact AH ⟨⟨j1,j2,j3,j4,j5,j6⟩,⟨λh=>.inr (k1 h),λh=>⟨rfl,k2 h⟩⟩⟩
theorem QR{t:AL}(T:JU t):∀(i n:Nat),3*i<=n->NN t (Am n) i
 |0,n,_=>⟨λm j nxt _ hj=>absurd hj (Nat.not_lt_zero _)⟩
 |i+1,n,hn=>by
  refine⟨λm j nxt hm hj N E=>?_⟩;obtain⟨k,rfl⟩:∃k,n=k+3:=⟨n - 3,by omega⟩;have up:∀{S:AV},NN t S i->NN t S j:=λh=>⟨λm j' nxt hm hj'=>h.node m j' nxt hm (by omega)⟩;have r0:NN t (Am k) j:=up (QR T i k (by omega));have r2:NN t (Am (k+2)) j:=up (QR T i (k+2) (by omega));have p1:VO t (Am (k+1)) j:=λm n nxt a b c d=>V8 r0 m n nxt a b c d;have p2:Yc t (Am (k+2)) j:=λm n nxt a b c d e f=>YB T p1 m n nxt a b c d e f;exact WC T r2 p2 m nxt hm N E
theorem Sn{l:List AE}{s:List UInt8}{x:AE}(h:l[0]?=some x)(D:x.C2=0){n i k:Nat}(hp:MV l s n 0 i k):k=i:=by
 cases hp with
 |stop _=>rfl
 |free h1 _=>
  rw[show(0:Int)=((0:Nat):Int) from rfl,KO h]at h1;simp[D]at h1
 |Ug _ h1 _=>
  rw[show(0:Int)=((0:Nat):Int) from rfl,NJ h]at h1;simp[D]at h1
theorem Uw(t:AL)(X:Cm t=some true):W (FX t 4096) λr=>match r with
  |(some a,e)=>e=0/\XI t a/\∀(s:List UInt8) (i:Nat),i<=s.length->∀k:Nat,(∃n,MV a.l_ s n a.AZ i k)↔Tm t s t.A2.toNat i k
  |(none,e)=>e=7/\4096<=wg t t.A2.toNat:=by
 unfold FX;refine Bd (λh=>absurd h (by decide)) λ_=>?_;have T:JU t:=by
  obtain⟨b,e,q⟩:=Sd t;rw[X]at e;cases e;exact q rfl
 rw[X,zd,zZ,Aq];have hlay:Az (⟨t,(⟨([]:List AE),(0:Int)⟩:Ah),4096,false⟩:AM) (⟨(0:Int),(0:Int),(0:Int),(⟨(0:Int),(0:Int),(0:Int),(0:Int)⟩:BB)⟩:AE)=some (0,⟨t,⟨[⟨0,0,0,⟨0,0,0,0⟩⟩],0⟩,4096,false⟩,[⟨0,0,0,⟨0,0,0,0⟩⟩]):=by
  unfold Az;rfl
 rw[hlay,zd];dsimp only;have hM:RN t (⟨t,⟨[⟨0,0,0,⟨0,0,0,0⟩⟩],0⟩,4096,false⟩:AM):=by
  refine⟨rfl,rfl,by simp,by simp,λs I=>?_⟩;have:s=⟨0,0,0,⟨0,0,0,0⟩⟩:=by simpa using I
  subst this;exact⟨by simp,by simp,λh=>absurd h (by decide)⟩
 obtain⟨r,hrt⟩:=zB T.root.1;have hb:r<t.Ad.length:=by have:=T.root.2;omega
 rw[hrt,zu];have hR:=(QR T (r+1) Iv (by rw[OX];have:=T.len;omega)).node _ r 0 hM (by omega) hb (by simp);unfold Aw;refine AP (hR.mono ?_);rintro⟨x5,x6,x7⟩ ⟨H,s2⟩;have f2:x6.A0=true->false=true\/4096<1+wg t r:=s2.Ou;have k2:x6.A0=false->false=false/\(∀q,q<1->x7[q]?=[(⟨0,0,0,⟨0,0,0,0⟩⟩:AE)][q]?)/\DS 1 (λs=>Tm t s r) 1 x7 x5 0/\x7.length<=1+wg t r:=s2.ok;refine Bd (λC=>AH ⟨rfl,?_⟩) λC=>AH ⟨rfl,⟨H.l,H.i⟩,λs i hi k=>?_⟩
 ·rcases f2 C with h|h
  ·cases h
  ·omega
 ·obtain⟨_,q1,q2,_⟩:=k2 C;have hz:x7[0]?=some ⟨0,0,0,⟨0,0,0,0⟩⟩:=by rw[q1 0 (by omega)];rfl
  have F:=q2 x7 (λq _ _=>rfl) s;constructor
  ·rintro⟨n,hp⟩;obtain⟨j,m,a,b,_⟩:=F.1 n i k hp;rw[Sn hz rfl b];exact a
  ·intro h;exact F.2 i k k 0 hi h (.stop (N0 T s _ i k hi h).2)
end Go.Av.L
end
