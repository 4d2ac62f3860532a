/-
 A part.
-/
import Derived.Test.YtgkbpgefomapgaaGreatDoorDfaR
namespace Go.Av.L
open Go.Av Go.Lib
set_option linter.unusedVariables false
set_option linter.unusedSimpArgs false
theorem Po{s:List UInt8}(D:s.length<=8192){a:Int}(ha:0<=a){w:AL}(h:Wk s a w){g:Prop}(K:g->S8 w.BO w.t_.AN)(n:Int):W (DS w n) (R3 s w.at_ g):=by
 have h0:0<=w.at_:=by have:=h.lo;omega
 unfold DS
 let Q:(List UInt8)×Int×Bool×Int×Int×Int×Int×Bool×(List AM)×Int->Prop:=λ(x1,x2,x3,x4,x5,x6,x7,x8,x9,x10)=>Wk s w.at_ ⟨x1,x2,x3,⟨x9,x4⟩,x5,x6,x7,x8⟩/\(g->S8 x8 x9)
 refine AJ (W.mono (W.loop Q (λx=>(s.length - x.2.1).toNat) ⟨⟨h.s_,zN _,h.hi,h.nd⟩,K⟩ ?_ (Q:=λo=>match o with| .inl x=>Q x| .inr x=>Q x)) ?_)
 ·rintro⟨x1,x2,x3,x4,x5,x6,x7,x8,x9,x10⟩ ⟨k,kg⟩;have k1:=k.lo;have k2:=k.hi;simp only at k1 k2;unfold F0;refine AJ (AB (Am (λ_=>?_) λ_=>AB ⟨k,kg⟩))
  let w0:AL:=⟨x1,x2,x3,⟨x9,x4⟩,x5,x6,x7,x8⟩
  have k0:Wk s w.at_ w0:=k
  refine AJ (W.mono (Q:=λo=>match o with
   | .inl (x32,x33,x34,x35,x36,x37,x38,x39,x40,x41)=>x39=x8/\Wk s (x2+1) ⟨x32,x33,x34,⟨x9,x35⟩,x36,x37,x38,x39⟩
   | .inr (x42,x43,x44,x45,x46,x47,x48,x49,x50)=>x49=x8/\Wk s w.at_ ⟨x42,x43,x44,⟨x9,x45⟩,x46,x47,x48,x49⟩) ?_ ?_)
  ·rw [show x1=s from k.s_,L2 ⟨by omega,k2⟩,za];have k0':Wk s w.at_ ⟨s,x2,x3,⟨x9,x4⟩,x5,x6,x7,x8⟩:=⟨rfl,k1,k2,k.nd⟩;have go:∀{i:Int} {x40 x41:Int},x2+1<=i->i<=s.length->x8=x8/\Wk s (x2+1) ⟨s,i,x3,⟨x9,x4⟩,x5,x6,x7,x8⟩:=λh1 I=>⟨rfl,rfl,h1,I,k.nd⟩;refine AJ ((Me _ _).mono λx52 h52=>Am (λe=>AB ?_) λ_=>?_)
   ·have:=h52 e;rw[zL,show([42]:List UInt8).length=1 from rfl]at this;rw[Ht (by omega) (by omega)];exact⟨rfl,rfl,by(try simp only);omega,by(try simp only);omega,k.nd⟩
   refine AJ ((KQ D (by omega) k0' [43] (by simp)).mono ?_);rintro⟨b,y⟩ C;rcases C with⟨e1,e2⟩|⟨e1,i,e2,g1,g2⟩<;>simp only at e1 e2<;>subst e1<;>subst e2
   ·simp only[Az];refine AJ ((KQ D (by omega) k0' [63] (by simp)).mono ?_);rintro⟨b,y⟩ C;rcases C with⟨e1,e2⟩|⟨e1,i,e2,g1,g2⟩<;>simp only at e1 e2<;>subst e1<;>subst e2
    ·simp only[Az];refine AJ ((KQ D (by omega) k0' [123] (by simp)).mono ?_);rintro⟨b,y⟩ C;rcases C with⟨e1,e2⟩|⟨e1,i,e2,g1,g2⟩<;>simp only at e1 e2<;>subst e1<;>subst e2
     ·exact AB ⟨rfl,k0'⟩
     ·simp only[zD,zQ]at g1;simp only[Bd];refine AJ ((UP D (by omega) (k0'.go (i:=i) (by omega) g2)).mono ?_);rintro⟨x59,x60,x61,x62⟩ ⟨j,rfl,g3,g4⟩;simp only at g3⊢;refine Am (λ_=>AJ ((LQ _ _).mono ?_)) λ_=>AB ⟨rfl,rfl,by(try simp only);omega,g4,k.nd⟩;rintro _ ⟨q,rfl⟩;exact AB ⟨rfl,rfl,by(try simp only);omega,g4,k.nd⟩
    ·simp only[zD,zQ]at g1;exact AB ⟨rfl,rfl,by(try simp only);omega,g2,k.nd⟩
   ·simp only[zD,zQ]at g1;exact AB ⟨rfl,rfl,by(try simp only);omega,g2,k.nd⟩
  ·rintro o O;cases o with
   |inl o=>
    obtain⟨x32,x33,x34,x35,x36,x37,x38,x39,x40,x41⟩:=o;obtain⟨rfl,f⟩:=O;refine AJ ((Kc f _).mono ?_);rintro⟨x64,x65,x66⟩ C;have r1:=C.lo;have r2:=C.hi;have r3:=f.lo;simp only at r1 r2 r3;exact AB ⟨⟨⟨C.s_,by(try simp only);omega,C.hi,C.nd⟩,λ_=>C.got trivial⟩,by(try simp only);omega⟩
   |inr o=>
    obtain⟨x42,x43,x44,x45,x46,x47,x48,x49,x50⟩:=o;obtain⟨rfl,f⟩:=O;exact AB ⟨f,kg⟩
 ·rintro o O;cases o with
  |inl o=>
   obtain⟨x1,x2,x3,x4,x5,x6,x7,x8,x9,x10⟩:=o;obtain⟨f,fg⟩:=O;exact AB ⟨f.s_,f.lo,f.hi,f.nd,fg⟩
  |inr o=>
   obtain⟨x1,x2,x3,x4,x5,x6,x7,x8,x9,x10⟩:=o;obtain⟨f,fg⟩:=O;exact AB ⟨f.s_,f.lo,f.hi,f.nd,fg⟩
theorem Tm{s:List UInt8}{a:Int}{w:AL}(h:Wk s a w)(kind:Int)(l:List Int)(hll:l.length<=100000)(K:l≠[]->S8 w.BO w.t_.AN):W (D8 w kind l) (R3 s w.at_ True):=by
 unfold D8;rw[show((l.length:Int)==0)=decide (l.length=0) from Fw l.length 0];refine Be (λ_=>AJ ((Kc h _).mono ?_)) λh0=>?_
 ·rintro⟨x1,x2,x3⟩ C;exact AB ⟨C.s_,C.lo,C.hi,C.nd,C.got⟩
 have K:=K (λe=>h0 (by rw[e];rfl));rw[Ht (x:=(l.length:Int) - 1) (by omega) (by omega),Ht (x:=(l.length:Int) - 2) (by omega) (by omega),show(l.length:Int) - 1=((l.length - 1:Nat):Int) by omega,CR (show l.length - 1<l.length by omega),za]
 let Q:(List UInt8)×Int×Bool×Int×Int×Int×Int×Bool×(List AM)×Int->Prop:=λ(x1,x2,x3,x4,x5,x6,x7,x8,x9,x10)=>Wk s w.at_ ⟨x1,x2,x3,⟨x9,x4⟩,x5,x6,x7,x8⟩/\S8 x8 x9
 refine AJ (W.mono (W.loop (λ(x5,x6,x7,x8,x9,x10,x11,x12,x13,x14,x15)=>Q (x5,x6,x7,x8,x9,x10,x11,x12,x13,x14)/\-1<=x15/\x15<l.length) (λx=>(x.2.2.2.2.2.2.2.2.2.2+1).toNat) ⟨⟨⟨h.s_,zN _,h.hi,h.nd⟩,K⟩,by omega,by omega⟩ ?_ (Q:=Q)) ?_)
 ·rintro⟨x5,x6,x7,x8,x9,x10,x11,x12,x13,x14,x15⟩ ⟨⟨k,kg⟩,k1,k2⟩;unfold Ga;refine Be (λhge=>?_) λ_=>AB ⟨k,kg⟩;obtain⟨q,U⟩:=zn hge;subst U;rw[CR (show q<l.length by omega),za];refine AJ ((Kc k _).mono ?_);rintro⟨x27,x28,x29⟩ C;have r1:=C.lo;have r3:=k.lo;simp only at r1 r3;refine AB ⟨⟨⟨⟨C.s_,by(try simp only);omega,C.hi,C.nd⟩,C.got trivial⟩,?_,?_⟩,?_⟩<;>(try simp only)<;>rw[Ht (by omega) (by omega)]<;>omega
 ·rintro⟨x1,x2,x3,x4,x5,x6,x7,x8,x9,x10⟩ ⟨f,fg⟩;exact AB ⟨f.s_,f.lo,f.hi,f.nd,λ_=>fg⟩
theorem T6{s:List UInt8}(D:s.length<=8192){a:Int}(ha:0<=a){w:AL}(h:Wk s a w)(F:w.at_<s.length){g:Prop}(K:g->S8 w.BO w.t_.AN):W (ET w) λr=>R3 s w.at_ g r/\(r.2.1.at_=w.at_\/S8 r.2.1.BO r.2.2):=by
 have h1:=h.lo;unfold ET;refine W.any (Am (λ_=>Ce (by simp) (AB trivial)) λ_=>AB trivial) λx1=>?_;rw[h.s_,Ht (x:=w.at_+1) (by omega) (by omega),Ht (x:=w.at_+2) (by omega) (by omega),Ht (x:=w.at_+2 - 1) (by omega) (by omega),show w.at_+2 - 1=w.at_+1 by omega];refine AJ (W.mono (Q:=λb=>b=false->w.at_+1<s.length) ?_ λx2 I=>Am (λ_=>AJ ((LQ w w.at_).mono ?_)) λe=>?_)
 ·rw[CO];split
  ·exact AB λe=>by cases e
  ·obtain⟨v,N,C⟩:=KM (s:=s) (i:=w.at_+1) ⟨by omega,by omega⟩;rw[N,za];unfold DI FI Km;rw[zk C];exact AJ (AB (AB λ_=>by omega))
 ·rintro _ ⟨q,rfl⟩;exact AB ⟨⟨h.s_,zN _,h.hi,h.nd,K⟩,.inl rfl⟩
 ·have I:=I e;obtain⟨v,N,C⟩:=KM (s:=s) (i:=w.at_+1) ⟨by omega,by omega⟩;rw[N,za];have T:Wk s w.at_ ⟨s,w.at_+2,w.Al,w.t_,w.BC,w.BV,w.BU,w.BO⟩:=⟨rfl,by(try simp only);omega,by(try simp only);omega,h.nd⟩;refine AJ ((SJ T C).mono ?_);rintro⟨x7,x8,x9⟩ C;have r1:=C.lo;simp only at r1;exact AB ⟨⟨C.s_,by(try simp only);omega,C.hi,C.nd,λ_=>C.got trivial⟩,.inr (C.got trivial)⟩
def Xf(s:List UInt8)(S:BR)(k:Nat):Prop:=∀(w:AL) (g:Prop),Wk s 0 w->w.at_<s.length->s.length - w.at_.toNat<=k->(g->S8 w.BO w.t_.AN)->W (S.Eb w) λr=>R3 s w.at_ g r/\(r.2.1.at_=w.at_\/S8 r.2.1.BO r.2.2)
def TK(s:List UInt8)(S:BR)(k:Nat):Prop:=∀w:AL,Wk s 0 w->s.length - w.at_.toNat<=k->W (S.D7 w) (R3 s w.at_ True)
def UO(s:List UInt8)(S:BR)(k:Nat):Prop:=∀w:AL,Wk s 0 w->s.length - w.at_.toNat<=k->W (S.Cn w) (R3 s w.at_ True)
def Vr(s:List UInt8)(S:BR)(k:Nat):Prop:=∀w:AL,Wk s 0 w->s.length - w.at_.toNat<=k->W (S.EK w) (R3 s w.at_ True)
theorem Xj{s:List UInt8}(D:s.length<=8192){S:BR}{k:Nat}(G:∀q,q<k->Vr s S q)(w:AL)(g:Prop)(h:Wk s 0 w)(F:w.at_<s.length)(T:s.length - w.at_.toNat<=k)(K:g->S8 w.BO w.t_.AN):W (FY S w) λr=>R3 s w.at_ g r/\(r.2.1.at_=w.at_\/S8 r.2.1.BO r.2.2):=by
 have h0:=h.lo;have hs:=h.s_;subst hs;have same:∀{q x1:Int},R3 w.s_ w.at_ g (x1,(⟨w.s_,w.at_,w.Al,⟨w.t_.AN,w.t_.BI⟩,w.BC,w.BV,q,w.BO⟩:AL),w.t_.AN):=⟨h.s_,zN _,h.hi,h.nd,K⟩;have fin:∀{x1:Int} {x2:AL} {x3:List AM} {b:Int},w.at_<=b->R3 w.s_ b True (x1,x2,x3)->R3 w.s_ w.at_ g (x1,(⟨x2.s_,x2.at_,x2.Al,⟨x3,x2.t_.BI⟩,x2.BC,x2.BV,x2.BU,x2.BO⟩:AL),x3)/\(x2.at_=w.at_\/S8 x2.BO x3):=λM C=>⟨⟨C.s_,Int.le_trans M C.lo,C.hi,C.nd,λ_=>C.got trivial⟩,.inr (C.got trivial)⟩;have one:Wk w.s_ 0 (w.go (IntKind.i64.wrap (w.at_+1)))/\w.at_<=(w.go (IntKind.i64.wrap (w.at_+1))).at_:=by
  rw[Ht (x:=w.at_+1) (by(try simp only);omega) (by(try simp only);omega)];exact⟨h.go (by(try simp only);omega) (by(try simp only);omega),by(try simp only);omega⟩
 have add1:∀n,W ((Bx (w.go (IntKind.i64.wrap (w.at_+1))) n).bind λ(x10,x11,x12)=>some (x10,(⟨x11.s_,x11.at_,x11.Al,(⟨x12,x11.t_.BI⟩:AO),x11.BC,x11.BV,x11.BU,x11.BO⟩:AL),x12)) λr=>R3 w.s_ w.at_ g r/\(r.2.1.at_=w.at_\/S8 r.2.1.BO r.2.2):=by
  intro n;refine AJ ((Kc one.1 n).mono ?_);rintro⟨x10,x11,x12⟩ C;exact AB (fin one.2 C)
 unfold FY;obtain⟨v,N,C⟩:=KM (s:=w.s_) (i:=w.at_) ⟨h0,F⟩;rw[N,za];refine Am (λ_=>?_) λ_=>Am (λ_=>?_) λ_=>?_
 ·refine AJ ((Uq D ⟨h0,F⟩ false).mono ?_);rintro⟨x2,x3,x4⟩ M;simp only at M⊢;rw[Gi];split
  ·rename_i e;obtain⟨b1,b2⟩:=M e;have hk3:Wk w.s_ x3 ⟨w.s_,x3,w.Al,w.t_,w.BC,w.BV,w.BU,w.BO⟩:=⟨rfl,zN _,b2,h.nd⟩;refine AJ ((Kc hk3 _).mono ?_);rintro⟨x6,x7,x8⟩ C;exact AB (fin (b:=x3) (by(try simp only);omega) C)
  ·refine AJ ((LQ w w.at_).mono ?_);rintro _ ⟨q,rfl⟩;exact AB ⟨same,.inl rfl⟩
 ·exact W.any ZY λx9=>add1 _
 ·refine W.any (Am (λ_=>W.any (Am (λ_=>AB trivial) λ_=>W.any (Xh D (zN _) h F) λ_=>AB trivial) λ_=>AB trivial) λ_=>AB trivial) λx13=>?_;refine Am (λ_=>add1 _) λ_=>Am (λ_=>add1 _) λ_=>?_;refine AJ ((KQ D (zN _) h [40] (by simp)).mono ?_);rintro⟨b,y⟩ C;rcases C with⟨e1,e2⟩|⟨e1,i,e2,g1,g2⟩<;>simp only at e1 e2<;>subst e1<;>subst e2
  ·simp only[Az];have h':Wk y.s_ 0 ⟨y.s_,y.at_,y.Al,⟨y.t_.AN,y.t_.BI⟩,y.BC,y.BV,y.BU,y.BO⟩:=h;refine Am (λ_=>AJ ((T6 D (zN _) h' F K).mono ?_)) λ_=>?_
   ·rintro⟨x27,x28,x29⟩ ⟨r1,r2⟩;exact AB ⟨⟨r1.s_,r1.lo,r1.hi,r1.nd,r1.got⟩,r2⟩
   ·refine AJ (W.mono (Q:=λ_=>True) (Am (λ_=>AJ (W.mono (Q:=λ_=>True) ?_ ?_)) λ_=>AB trivial) ?_)
    ·refine W.any (Am (λ_=>AB trivial) λ_=>AB trivial) λ_=>Am (λ_=>AB trivial) λ_=>W.any (Am (λ_=>AB trivial) λ_=>AB trivial) λ_=>Am (λ_=>AB trivial) λ_=>W.any (Am (λ_=>AB trivial) λ_=>AB trivial) λ_=>Am (λ_=>AB trivial) λ_=>AB trivial
    ·rintro o _;cases o with
     |inl _=>exact AB trivial
     |inr _=>exact AB trivial
    ·rintro o _;cases o with
     |inl _=>
      simp only[];refine AJ ((SJ one.1 C).mono ?_);rintro⟨x34,x35,x36⟩ C;exact AB (fin one.2 C)
     |inr x=>exact AB ⟨same,.inl rfl⟩
  ·simp only[zD,zQ]at g1;simp only[Bd];refine AJ ((G (w.s_.length - i.toNat) (by(try simp only);omega) (w.go i) (h.go (by(try simp only);omega) g2) (by(try simp only);omega)).mono ?_);rintro⟨x24,x25,x26⟩ C;exact AB (fin (b:=i) (by(try simp only);omega) C)
theorem Uo{s:List UInt8}(D:s.length<=8192){S:BR}{k:Nat}(A:Xf s S k)(w:AL)(h:Wk s 0 w)(T:s.length - w.at_.toNat<=k):W (Ep S w) (R3 s w.at_ True):=by
 have h0:=h.lo;unfold Ep
 let Q:(List Int)×(List UInt8)×Int×Bool×Int×Int×Int×Int×Bool×(List AM)->Prop:=λ(l,x1,x2,x3,x4,x5,x6,x7,x8,x9)=>Wk s w.at_ ⟨x1,x2,x3,⟨x9,x4⟩,x5,x6,x7,x8⟩/\(l≠[]->S8 x8 x9)/\(l.length:Int)<=x2
 refine AJ (W.mono (W.loop (λ(l,x1,x2,x3,x4,x5,x6,x7,x8,x9,_)=>Q (l,x1,x2,x3,x4,x5,x6,x7,x8,x9)) (λx=>(s.length - x.2.2.1).toNat) ⟨⟨h.s_,zN _,h.hi,h.nd⟩,λe=>absurd rfl e,h0⟩ ?_ (Q:=Q)) ?_)
 ·rintro⟨l,x2,x3,x4,x5,x6,x7,x8,x9,x10,x11⟩ ⟨f,fg,fl⟩;have f1:=f.lo;have f2:=f.hi;have f0:x2=s:=f.s_;subst f0;simp only at f1 f2;have fw:Wk x2 0 ⟨x2,x3,x4,⟨x10,x5⟩,x6,x7,x8,x9⟩:=⟨rfl,by(try simp only);omega,f2,f.nd⟩;unfold GY;refine AJ (AB (AJ (W.mono (Q:=λb=>b=true->x3<x2.length) (Am (λ_=>AJ ((Qt D (zN _) fw).mono λb M=>AB λe=>M (by simpa using e))) λ_=>AB λe=>by cases e) λx23 h23=>Am (λe23=>?_) λ_=>AB ⟨f,fg,fl⟩)));have F:=h23 e23;obtain⟨v,N,C⟩:=KM (s:=x2) (i:=x3) ⟨by omega,F⟩;have w1:IntKind.i64.wrap (x3+1)=x3+1:=Ht (by(try simp only);omega) (by(try simp only);omega);rw[N,w1];have one:Wk x2 w.at_ ⟨x2,x3+1,x4,⟨x10,x5⟩,x6,x7,x8,x9⟩:=⟨rfl,by(try simp only);omega,by(try simp only);omega,f.nd⟩;have put:∀{x30:Int} {x31:AL} {x32:List AM} {b:Bool} {c:Int} {P:((List Int)×(List UInt8)×Int×Bool×Int×Int×Int×Int×Bool×(List AM)×Bool)⊕((List Int)×(List UInt8)×Int×Bool×Int×Int×Int×Int×Bool×(List AM))->Prop},x3<c->R3 x2 c True (x30,x31,x32)->(∀l' y2 y3 y4 y5 y6 y7 y8 y9 y10 b',Q (l',y2,y3,y4,y5,y6,y7,y8,y9,y10)->(x2.length - y3).toNat<(x2.length - x3).toNat->P (.inl (l',y2,y3,y4,y5,y6,y7,y8,y9,y10,b')))->W (Ds (J5 8 (l.length+([x30]:List Int).length))<|some (Sum.inl ((l++([x30]:List Int)),x31.s_,x31.at_,x31.Al,x31.t_.BI,x31.BC,x31.BV,x31.BU,x31.BO,x32,b))) P:=by
   intro x30 x31 x32 b c P hc C hP;have r1:=C.lo;have r2:=C.hi;simp only at r1 r2;refine Ce (DL (by simp;omega) (by simp;omega)) (AB (hP _ _ _ _ _ _ _ _ _ _ _ ⟨⟨C.s_,by(try simp only);omega,C.hi,C.nd⟩,λ_=>C.got trivial,?_⟩ ?_))
   ·simp only[zq,zy];omega
   ·omega
  refine W.any (Am (λ_=>AJ (AB (AB trivial))) λ_=>AB trivial) λx25=>Am (λ_=>?_) λ_=>?_
  ·refine AJ ((SJ one (by decide)).mono ?_);rintro⟨x27,x28,x29⟩ C;have r1:=C.lo;simp only at r1;refine AJ ((Po D (by(try simp only);omega) C.wk (g:=True) (λ_=>C.got trivial) x27).mono ?_);rintro⟨x30,x31,x32⟩ H;exact put (by(try simp only);omega) H λ_ _ _ _ _ _ _ _ _ _ _ p q=>⟨p,q⟩
  refine W.any (Am (λ_=>AJ (AB (AB trivial))) λ_=>AB trivial) λx33=>Am (λ_=>?_) λ_=>?_
  ·refine AJ ((Kc one _).mono ?_);rintro⟨x35,x36,x37⟩ C;exact put (by(try simp only);omega) C λ_ _ _ _ _ _ _ _ _ _ _ p q=>⟨p,q⟩
  refine AJ ((A _ (l≠[]) fw F (by(try simp only);omega) fg).mono ?_);rintro⟨x38,x39,x40⟩ ⟨r1,r2⟩;have q1:=r1.lo;have q2:=r1.hi;simp only at q1 q2 r2;refine AJ (AB (Am (λ_=>AB ⟨⟨r1.s_,by(try simp only);omega,r1.hi,r1.nd⟩,r1.got,by(try simp only);omega⟩) λ_=>?_));simp only[CO];split
  ·refine AJ ((LQ _ _).mono ?_);rintro _ ⟨q,rfl⟩;exact AB ⟨⟨r1.s_,by(try simp only);omega,r1.hi,r1.nd⟩,r1.got,by(try simp only);omega⟩
  ·rename_i hne;refine AJ ((Po D (by(try simp only);omega) r1.wk (g:=True) (λ_=>r2.resolve_left hne) x38).mono ?_);rintro⟨x43,x44,x45⟩ H;exact put (by(try simp only);omega) H λ_ _ _ _ _ _ _ _ _ _ _ p q=>⟨p,q⟩
 ·rintro⟨l,x2,x3,x4,x5,x6,x7,x8,x9,x10⟩ ⟨f,fg,fl⟩;have f1:=f.lo;have f2:=f.hi;simp only at f1 f2;refine AJ ((Tm f 2 l (by(try simp only);omega) fg).mono ?_);rintro⟨x46,x47,x48⟩ C;have r1:=C.lo;simp only at r1;exact AB ⟨C.s_,by(try simp only);omega,C.hi,C.nd,C.got⟩
theorem Xn{s:List UInt8}(D:s.length<=8192){S:BR}{k:Nat}(B:TK s S k)(w:AL)(h:Wk s 0 w)(T:s.length - w.at_.toNat<=k):W (Dr S w) (R3 s w.at_ True):=by
 have h0:=h.lo;unfold Dr;refine AJ (W.mono (W.loop (λ(l,x1,x2,x3,x4,x5,x6,x7,x8,x9)=>Wk s w.at_ ⟨x1,x2,x3,⟨x9,x4⟩,x5,x6,x7,x8⟩/\(l.length:Int)<=x2) (λx=>(s.length - x.2.2.1).toNat) ⟨⟨h.s_,zN _,h.hi,h.nd⟩,h0⟩ ?_ (Q:=λ(l,x1,x2,x3,x4,x5,x6,x7,x8,x9)=>Wk s w.at_ ⟨x1,x2,x3,⟨x9,x4⟩,x5,x6,x7,x8⟩/\l.length<=10000/\S8 x8 x9)) ?_)
 ·rintro⟨l,x2,x3,x4,x5,x6,x7,x8,x9,x10⟩ ⟨f,fl⟩;have f1:=f.lo;have f2:=f.hi;simp only at f1 f2;have fw:Wk s 0 ⟨x2,x3,x4,⟨x10,x5⟩,x6,x7,x8,x9⟩:=⟨f.s_,by(try simp only);omega,f2,f.nd⟩;unfold FN;refine AJ ((B _ fw (by(try simp only);omega)).mono ?_);rintro⟨x21,x22,x23⟩ C;have r1:=C.lo;have r2:=C.hi;simp only at r1 r2;have J:S8 x22.BO x23:=C.got trivial;refine Ce (DL (by simp;omega) (by simp;omega)) (AJ (AB (AJ (W.mono (Q:=λ(x25,x26,x27,x28,x29,x30,x31,x32,x33)=>Wk s w.at_ ⟨x25,x26,x27,⟨x23,x28⟩,x29,x30,x31,x32⟩/\S8 x32 x23/\(x33=false->x3<x26)) (Am (λ_=>AB ⟨⟨C.s_,by(try simp only);omega,C.hi,C.nd⟩,J,λe=>absurd e (by simp)⟩) λ_=>?_) ?_))))
  ·refine AJ ((KQ D (by(try simp only);omega) C.wk [124] (by simp)).mono ?_);rintro⟨b,y⟩ H;rcases H with⟨e1,e2⟩|⟨e1,i,e2,g1,g2⟩<;>simp only at e1 e2<;>subst e1<;>subst e2
   ·exact AB ⟨⟨C.s_,by(try simp only);omega,C.hi,C.nd⟩,J,λe=>absurd e (by simp)⟩
   ·simp only[zD,zQ]at g1;exact AB ⟨⟨C.s_,by(try simp only);omega,g2,C.nd⟩,J,λ_=>by(try simp only);omega⟩
  ·rintro⟨x25,x26,x27,x28,x29,x30,x31,x32,x33⟩ ⟨g1,g2,g3⟩;have c1:=g1.lo;have c2:=g1.hi;simp only at c1 c2;refine Am (λ_=>AB ⟨g1,by simp;omega,g2⟩) λe=>AB ⟨⟨g1,?_⟩,?_⟩
   ·have:=g3 e;simp only[zq,zy];omega
   ·have:=g3 e;simp only;omega
 ·rintro⟨l,x2,x3,x4,x5,x6,x7,x8,x9,x10⟩ ⟨f,fl,fg⟩;have f1:=f.lo;simp only at f1;refine AJ ((Tm f 3 l (by(try simp only);omega) (λ_=>fg)).mono ?_);rintro⟨x36,x37,x38⟩ C;have r1:=C.lo;simp only at r1;exact AB ⟨C.s_,by(try simp only);omega,C.hi,C.nd,C.got⟩
theorem WL{s:List UInt8}(D:s.length<=8192){S:BR}{k:Nat}(E:UO s S k)(w:AL)(h:Wk s 0 w)(T:s.length - w.at_.toNat<=k):W (E7 S w) (R3 s w.at_ True):=by
 have h0:=h.lo;unfold E7;refine W.any (Am (λ_=>AB trivial) λ_=>AB trivial) λx1=>?_;refine AJ ((E ⟨w.s_,w.at_,w.Al,w.t_,_,_,w.BU,x1⟩ ⟨h.s_,h.lo,h.hi,h.nd⟩ T).mono ?_);rintro⟨x2,x3,x4⟩ C;have r1:=C.lo;simp only at r1;have e3:Wk s w.at_ ⟨x3.s_,x3.at_,x3.Al,⟨x4,x3.t_.BI⟩,x3.BC,IntKind.i64.wrap (x3.BV - 1),x3.BU,x3.BO⟩:=⟨C.s_,C.lo,C.hi,C.nd⟩
 let Q:(List UInt8)×Int×Bool×Int×Int×Int×Int×Bool->Prop:=λ(x1,x2,x3,x5,x6,x7,x8,x9)=>Wk s w.at_ ⟨x1,x2,x3,⟨x4,x5⟩,x6,x7,x8,x9⟩
 refine AJ (W.mono (Q:=Q) (AJ (AB (AJ (W.mono (Q:=λ(x14,x15,x16,x17,x18,x19,x20,x21,x22)=>Q (x14,x15,x16,x17,x18,x19,x20,x21)) (Am (λ_=>?_) λ_=>AB e3) ?_)))) ?_)
 ·refine AJ ((KQ D h0 e3 [41] (by simp)).mono ?_);rintro⟨b,y⟩ H;rcases H with⟨e1,e2⟩|⟨e1,i,e2,g1,g2⟩<;>simp only at e1 e2<;>subst e1<;>subst e2
  ·exact AB e3
  ·simp only[zD,zQ]at g1;exact AB ⟨C.s_,by(try simp only);omega,g2,C.nd⟩
 ·rintro⟨x14,x15,x16,x17,x18,x19,x20,x21,x22⟩ f;refine Am (λ_=>AJ ((LQ _ _).mono ?_)) λ_=>AB f;rintro _ ⟨q,rfl⟩;exact AB ⟨f.s_,f.lo,f.hi,f.nd⟩
 ·rintro⟨x5,x6,x7,x8,x9,x10,x11,x12⟩ f;refine AJ ((Kc f _).mono ?_);rintro⟨x26,x27,x28⟩ C;have r1:=C.lo;have r2:=f.lo;simp only at r1 r2;exact AB ⟨C.s_,by(try simp only);omega,C.hi,C.nd,C.got⟩
theorem Xx{s:List UInt8}(D:s.length<=8192):∀(k n:Nat),4*k+4<=n->Vr s (Bo n) k/\UO s (Bo n) k:=by
 intro k
 induction k using Nat.strongRecOn with
 | ind k ih=>
  have atom:∀n,4*k+1<=n->Xf s (Bo n) k:=by
   intro n R;obtain⟨m,rfl⟩:∃m,n=m+1:=⟨n - 1,by omega⟩;exact λw g h1 I h3 h4=>Xj D (λq U=>(ih q U m (by(try simp only);omega)).1) w g h1 I h3 h4
  have branch:∀n,4*k+2<=n->TK s (Bo n) k:=by
   intro n R;obtain⟨m,rfl⟩:∃m,n=m+1:=⟨n - 1,by omega⟩;exact λw h1 I=>Uo D (atom m (by(try simp only);omega)) w h1 I
  have expr:∀n,4*k+3<=n->UO s (Bo n) k:=by
   intro n R;obtain⟨m,rfl⟩:∃m,n=m+1:=⟨n - 1,by omega⟩;exact λw h1 I=>Xn D (branch m (by(try simp only);omega)) w h1 I
  intro n R;refine⟨?_,expr n (by(try simp only);omega)⟩;obtain⟨m,rfl⟩:∃m,n=m+1:=⟨n - 1,by omega⟩;exact λw h1 I=>WL D (expr m (by(try simp only);omega)) w h1 I
theorem X1{nodes:List AM}{root:Int}(h:Sn nodes root)(h0:0<nodes.length):B7 ⟨nodes,root⟩=some true:=by
 have R:=h.len;have C:=h.root;refine W.eq ?_;unfold B7;refine Am (λM=>?_) λ_=>?_
 ·simp only[zW,zx]at M;omega
 refine AJ (W.mono (W.list (l:=nodes) (λ(_:Unit) (i:Nat)=>(i:Int)) (λ_ _=>True) ?_ ?_ () trivial (Q:=λo=>o=.inl ())) λo O=>by subst O;exact AB rfl)
 ·intro _ _;unfold EL;exact Be (λh=>by simp only at h;omega) λ_=>AB rfl
 ·intro _ i hi _;unfold EL;refine Be (λ_=>?_) λh=>by simp only at h;omega
  simp only[];rw[CR hi,za,h.ok i _ (List.getElem?_eq_getElem hi),za];exact AB ⟨(),Ee (by(try simp only);omega),trivial⟩
theorem Xa(s:List UInt8)(e:Bool):W (JP s e) λr=>r.2.2=0->B7 r.1=some true:=by
 unfold JP;refine Be (λ_=>AB λe=>absurd e (by simp)) λD=>?_;have D:s.length<=8192:=by omega
 have h0:Wk s 0 ⟨s,0,e,⟨[],0⟩,0,0,-1,false⟩:=⟨rfl,zN _,Int.natCast_nonneg _,λi n R=>by simp at R,by simp,by simp⟩;refine AJ (((Xx D s.length KK (by rw[S7];omega)).2 _ h0 (by simp)).mono ?_);rintro⟨x1,x2,x3⟩ C;refine AJ (W.mono (Q:=λx=>x.2.2.2.1=x2.t_.BI/\x.2.2.2.2.2.2.2=x2.BO) (AJ (AB (Am (λ_=>AJ ((LQ _ _).mono ?_)) λ_=>AB ⟨rfl,rfl⟩))) ?_)
 ·rintro _ ⟨q,rfl⟩;exact AB ⟨rfl,rfl⟩
 ·rintro⟨x4,x5,x6,x7,x8,x9,x10,x11⟩ ⟨e1,e2⟩;simp only at e1 e2;subst e1 e2;refine AJ (AB (Am (λ_=>AB λe=>absurd e (by simp)) λ_=>Am (λ_=>AB λe=>absurd e (by simp)) λhf=>AB λ_=>?_));exact X1 C.nd ((C.got trivial).resolve_left (by simp[hf]))
end Go.Av.L
