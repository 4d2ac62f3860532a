/-
 A part.
-/
import Derived.Test.YtfgmnhjedmkpeaaDfaR
set_option linter.unusedSimpArgs false
namespace Go.Av.L
open Go.Av Go.Lib
set_option linter.unusedVariables false
set_option linter.unusedSimpArgs false
theorem Od{s:List UInt8}(D:s.length<=8192){a:Int}(ha:0<=a){w:AL}(h:Wk s a w){g:Prop}(M:g->Qa w.BW w.t_.AK)(n:Int):W (C7 w n) (R3 s w.at_ g):=by
 have I:0<=w.at_:=by have:=h.lo;omega
 unfold C7
 let Q:(List UInt8)×Int×Bool×Int×Int×Int×Int×Bool×(List AF)×Int->Prop:=λ(x1,x2,x3,x4,x5,x6,x7,x8,x9,x10)=>Wk s w.at_ ⟨x1,x2,x3,⟨x9,x4⟩,x5,x6,x7,x8⟩/\(g->Qa x8 x9)
 refine AP (W.mono (W.loop Q (λx=>(s.length - x.2.1).toNat) ⟨⟨h.s_,zF _,h.hi,h.nd⟩,M⟩ ?_ (Q:=λo=>match o with| .inl x=>Q x| .inr x=>Q x)) ?_)
 ·rintro⟨x1,x2,x3,x4,x5,x6,x7,x8,x9,x10⟩ ⟨k,kg⟩;have k1:=k.lo;have k2:=k.hi;simp only at k1 k2;unfold FU;refine AP (AG (Ap (λ_=>?_) λ_=>AG ⟨k,kg⟩))
  let w0:AL:=⟨x1,x2,x3,⟨x9,x4⟩,x5,x6,x7,x8⟩
  have k0:Wk s w.at_ w0:=k
  refine AP (W.mono (Q:=λo=>match o with
   | .inl (x32,x33,x34,x35,x36,x37,x38,x39,x40,x41)=>x39=x8/\Wk s (x2+1) ⟨x32,x33,x34,⟨x9,x35⟩,x36,x37,x38,x39⟩
   | .inr (x42,x43,x44,x45,x46,x47,x48,x49,x50)=>x49=x8/\Wk s w.at_ ⟨x42,x43,x44,⟨x9,x45⟩,x46,x47,x48,x49⟩) ?_ ?_)
  ·rw [show x1=s from k.s_,LW ⟨by omega,k2⟩,za];have k0':Wk s w.at_ ⟨s,x2,x3,⟨x9,x4⟩,x5,x6,x7,x8⟩:=⟨rfl,k1,k2,k.nd⟩;have go:∀{i:Int} {x40 x41:Int},x2+1<=i->i<=s.length->x8=x8/\Wk s (x2+1) ⟨s,i,x3,⟨x9,x4⟩,x5,x6,x7,x8⟩:=λh1 J=>⟨rfl,rfl,h1,J,k.nd⟩;refine AP ((L2 _ _).mono λx52 h52=>Ap (λe=>AG ?_) λ_=>?_)
   ·have:=h52 e;rw[ya,show([42]:List UInt8).length=1 from rfl]at this;rw[Jr (by omega) (by omega)];exact⟨rfl,rfl,by(try simp only);omega,by(try simp only);omega,k.nd⟩
   refine AP ((KF D (by omega) k0' [43] (by simp)).mono ?_);rintro⟨b,y⟩ C;rcases C with⟨e1,e2⟩|⟨e1,i,e2,g1,g2⟩<;>simp only at e1 e2<;>subst e1<;>subst e2
   ·simp only[Ak];refine AP ((KF D (by omega) k0' [63] (by simp)).mono ?_);rintro⟨b,y⟩ C;rcases C with⟨e1,e2⟩|⟨e1,i,e2,g1,g2⟩<;>simp only at e1 e2<;>subst e1<;>subst e2
    ·simp only[Ak];refine AP ((KF D (by omega) k0' [123] (by simp)).mono ?_);rintro⟨b,y⟩ C;rcases C with⟨e1,e2⟩|⟨e1,i,e2,g1,g2⟩<;>simp only at e1 e2<;>subst e1<;>subst e2
     ·exact AG ⟨rfl,k0'⟩
     ·simp only[zP,yf]at g1;simp only[BL];refine AP ((RR D (by omega) (k0'.go (i:=i) (by omega) g2)).mono ?_);rintro⟨x59,x60,x61,x62⟩ ⟨j,rfl,g3,g4⟩;simp only at g3⊢;refine Ap (λ_=>AP ((Kj _ _).mono ?_)) λ_=>AG ⟨rfl,rfl,by(try simp only);omega,g4,k.nd⟩;rintro _ ⟨q,rfl⟩;exact AG ⟨rfl,rfl,by(try simp only);omega,g4,k.nd⟩
    ·simp only[zP,yf]at g1;exact AG ⟨rfl,rfl,by(try simp only);omega,g2,k.nd⟩
   ·simp only[zP,yf]at g1;exact AG ⟨rfl,rfl,by(try simp only);omega,g2,k.nd⟩
  ·rintro o R;cases o with
   |inl o=>
    obtain⟨x32,x33,x34,x35,x36,x37,x38,x39,x40,x41⟩:=o;obtain⟨rfl,f⟩:=R;refine AP ((KI f _).mono ?_);rintro⟨x64,x65,x66⟩ C;have r1:=C.lo;have r2:=C.hi;have r3:=f.lo;simp only at r1 r2 r3;exact AG ⟨⟨⟨C.s_,by(try simp only);omega,C.hi,C.nd⟩,λ_=>C.got trivial⟩,by(try simp only);omega⟩
   |inr o=>
    obtain⟨x42,x43,x44,x45,x46,x47,x48,x49,x50⟩:=o;obtain⟨rfl,f⟩:=R;exact AG ⟨f,kg⟩
 ·rintro o R;cases o with
  |inl o=>
   obtain⟨x1,x2,x3,x4,x5,x6,x7,x8,x9,x10⟩:=o;obtain⟨f,fg⟩:=R;exact AG ⟨f.s_,f.lo,f.hi,f.nd,fg⟩
  |inr o=>
   obtain⟨x1,x2,x3,x4,x5,x6,x7,x8,x9,x10⟩:=o;obtain⟨f,fg⟩:=R;exact AG ⟨f.s_,f.lo,f.hi,f.nd,fg⟩
theorem Qh{s:List UInt8}{a:Int}{w:AL}(h:Wk s a w)(kind:Int)(l:List Int)(hll:l.length<=100000)(M:l≠[]->Qa w.BW w.t_.AK):W (DW w kind l) (R3 s w.at_ True):=by
 unfold DW;rw[show((l.length:Int)==0)=decide (l.length=0) from YU l.length 0];refine Bi (λ_=>AP ((KI h _).mono ?_)) λI=>?_
 ·rintro⟨x1,x2,x3⟩ C;exact AG ⟨C.s_,C.lo,C.hi,C.nd,C.got⟩
 have M:=M (λe=>I (by rw[e];rfl));rw[Jr (x:=(l.length:Int) - 1) (by omega) (by omega),Jr (x:=(l.length:Int) - 2) (by omega) (by omega),show(l.length:Int) - 1=((l.length - 1:Nat):Int) by omega,E8 (show l.length - 1<l.length by omega),za]
 let Q:(List UInt8)×Int×Bool×Int×Int×Int×Int×Bool×(List AF)×Int->Prop:=λ(x1,x2,x3,x4,x5,x6,x7,x8,x9,x10)=>Wk s w.at_ ⟨x1,x2,x3,⟨x9,x4⟩,x5,x6,x7,x8⟩/\Qa x8 x9
 refine AP (W.mono (W.loop (λ(x5,x6,x7,x8,x9,x10,x11,x12,x13,x14,x15)=>Q (x5,x6,x7,x8,x9,x10,x11,x12,x13,x14)/\-1<=x15/\x15<l.length) (λx=>(x.2.2.2.2.2.2.2.2.2.2+1).toNat) ⟨⟨⟨h.s_,zF _,h.hi,h.nd⟩,M⟩,by omega,by omega⟩ ?_ (Q:=Q)) ?_)
 ·rintro⟨x5,x6,x7,x8,x9,x10,x11,x12,x13,x14,x15⟩ ⟨⟨k,kg⟩,k1,k2⟩;unfold Fz;refine Bi (λhge=>?_) λ_=>AG ⟨k,kg⟩;obtain⟨q,V⟩:=zi hge;subst V;rw[E8 (show q<l.length by omega),za];refine AP ((KI k _).mono ?_);rintro⟨x27,x28,x29⟩ C;have r1:=C.lo;have r3:=k.lo;simp only at r1 r3;refine AG ⟨⟨⟨⟨C.s_,by(try simp only);omega,C.hi,C.nd⟩,C.got trivial⟩,?_,?_⟩,?_⟩<;>(try simp only)<;>rw[Jr (by omega) (by omega)]<;>omega
 ·rintro⟨x1,x2,x3,x4,x5,x6,x7,x8,x9,x10⟩ ⟨f,fg⟩;exact AG ⟨f.s_,f.lo,f.hi,f.nd,λ_=>fg⟩
theorem RJ{s:List UInt8}(D:s.length<=8192){a:Int}(ha:0<=a){w:AL}(h:Wk s a w)(F:w.at_<s.length){g:Prop}(M:g->Qa w.BW w.t_.AK):W (D9 w) λr=>R3 s w.at_ g r/\(r.2.1.at_=w.at_\/Qa r.2.1.BW r.2.2):=by
 have h1:=h.lo;unfold D9;refine W.any (Ap (λ_=>ES (by simp) (AG trivial)) λ_=>AG trivial) λx1=>?_;rw[h.s_,Jr (x:=w.at_+1) (by omega) (by omega),Jr (x:=w.at_+2) (by omega) (by omega),Jr (x:=w.at_+2 - 1) (by omega) (by omega),show w.at_+2 - 1=w.at_+1 by omega];refine AP (W.mono (Q:=λb=>b=false->w.at_+1<s.length) ?_ λx2 J=>Ap (λ_=>AP ((Kj w w.at_).mono ?_)) λe=>?_)
 ·rw[B3];split
  ·exact AG λe=>by cases e
  ·obtain⟨v,O,C⟩:=Jt (s:=s) (i:=w.at_+1) ⟨by omega,by omega⟩;rw[O,za];unfold F9 Ew KM;rw[zj C];exact AP (AG (AG λ_=>by omega))
 ·rintro _ ⟨q,rfl⟩;exact AG ⟨⟨h.s_,zF _,h.hi,h.nd,M⟩,.inl rfl⟩
 ·have J:=J e;obtain⟨v,O,C⟩:=Jt (s:=s) (i:=w.at_+1) ⟨by omega,by omega⟩;rw[O,za];have U:Wk s w.at_ ⟨s,w.at_+2,w.AX,w.t_,w.Ao,w.BH,w.BG,w.BW⟩:=⟨rfl,by(try simp only);omega,by(try simp only);omega,h.nd⟩;refine AP ((P8 U C).mono ?_);rintro⟨x7,x8,x9⟩ C;have r1:=C.lo;simp only at r1;exact AG ⟨⟨C.s_,by(try simp only);omega,C.hi,C.nd,λ_=>C.got trivial⟩,.inr (C.got trivial)⟩
def UY(s:List UInt8)(S:BD)(k:Nat):Prop:=∀(w:AL) (g:Prop),Wk s 0 w->w.at_<s.length->s.length - w.at_.toNat<=k->(g->Qa w.BW w.t_.AK)->W (S.EK w) λr=>R3 s w.at_ g r/\(r.2.1.at_=w.at_\/Qa r.2.1.BW r.2.2)
def Qs(s:List UInt8)(S:BD)(k:Nat):Prop:=∀w:AL,Wk s 0 w->s.length - w.at_.toNat<=k->W (S.Da w) (R3 s w.at_ True)
def SF(s:List UInt8)(S:BD)(k:Nat):Prop:=∀w:AL,Wk s 0 w->s.length - w.at_.toNat<=k->W (S.CW w) (R3 s w.at_ True)
def Sm(s:List UInt8)(S:BD)(k:Nat):Prop:=∀w:AL,Wk s 0 w->s.length - w.at_.toNat<=k->W (S.Dw w) (R3 s w.at_ True)
theorem Ut{s:List UInt8}(D:s.length<=8192){S:BD}{k:Nat}(G:∀q,q<k->Sm s S q)(w:AL)(g:Prop)(h:Wk s 0 w)(F:w.at_<s.length)(U:s.length - w.at_.toNat<=k)(M:g->Qa w.BW w.t_.AK):W (E5 S w) λr=>R3 s w.at_ g r/\(r.2.1.at_=w.at_\/Qa r.2.1.BW r.2.2):=by
 have I:=h.lo;have hs:=h.s_;subst hs;have same:∀{q x1:Int},R3 w.s_ w.at_ g (x1,(⟨w.s_,w.at_,w.AX,⟨w.t_.AK,w.t_.Ac⟩,w.Ao,w.BH,q,w.BW⟩:AL),w.t_.AK):=⟨h.s_,zF _,h.hi,h.nd,M⟩;have fin:∀{x1:Int} {x2:AL} {x3:List AF} {b:Int},w.at_<=b->R3 w.s_ b True (x1,x2,x3)->R3 w.s_ w.at_ g (x1,(⟨x2.s_,x2.at_,x2.AX,⟨x3,x2.t_.Ac⟩,x2.Ao,x2.BH,x2.BG,x2.BW⟩:AL),x3)/\(x2.at_=w.at_\/Qa x2.BW x3):=λN C=>⟨⟨C.s_,qM N C.lo,C.hi,C.nd,λ_=>C.got trivial⟩,.inr (C.got trivial)⟩;have one:Wk w.s_ 0 (w.go (IntKind.i64.wrap (w.at_+1)))/\w.at_<=(w.go (IntKind.i64.wrap (w.at_+1))).at_:=by
  rw[Jr (x:=w.at_+1) (by(try simp only);omega) (by(try simp only);omega)];exact⟨h.go (by(try simp only);omega) (by(try simp only);omega),by(try simp only);omega⟩
 have add1:∀n,W ((Bj (w.go (IntKind.i64.wrap (w.at_+1))) n).bind λ(x10,x11,x12)=>some (x10,(⟨x11.s_,x11.at_,x11.AX,(⟨x12,x11.t_.Ac⟩:AS),x11.Ao,x11.BH,x11.BG,x11.BW⟩:AL),x12)) λr=>R3 w.s_ w.at_ g r/\(r.2.1.at_=w.at_\/Qa r.2.1.BW r.2.2):=by
  intro n;refine AP ((KI one.1 n).mono ?_);rintro⟨x10,x11,x12⟩ C;exact AG (fin one.2 C)
 unfold E5;obtain⟨v,O,C⟩:=Jt (s:=w.s_) (i:=w.at_) ⟨I,F⟩;rw[O,za];refine Ap (λ_=>?_) λ_=>Ap (λ_=>?_) λ_=>?_
 ·refine AP ((Rn D ⟨I,F⟩ false).mono ?_);rintro⟨x2,x3,x4⟩ N;simp only at N⊢;rw[PW];split
  ·rename_i e;obtain⟨b1,b2⟩:=N e;have hk3:Wk w.s_ x3 ⟨w.s_,x3,w.AX,w.t_,w.Ao,w.BH,w.BG,w.BW⟩:=⟨rfl,zF _,b2,h.nd⟩;refine AP ((KI hk3 _).mono ?_);rintro⟨x6,x7,x8⟩ C;exact AG (fin (b:=x3) (by(try simp only);omega) C)
  ·refine AP ((Kj w w.at_).mono ?_);rintro _ ⟨q,rfl⟩;exact AG ⟨same,.inl rfl⟩
 ·exact W.any W8 λx9=>add1 _
 ·refine W.any (Ap (λ_=>W.any (Ap (λ_=>AG trivial) λ_=>W.any (UW D (zF _) h F) λ_=>AG trivial) λ_=>AG trivial) λ_=>AG trivial) λx13=>?_;refine Ap (λ_=>add1 _) λ_=>Ap (λ_=>add1 _) λ_=>?_;refine AP ((KF D (zF _) h [40] (by simp)).mono ?_);rintro⟨b,y⟩ C;rcases C with⟨e1,e2⟩|⟨e1,i,e2,g1,g2⟩<;>simp only at e1 e2<;>subst e1<;>subst e2
  ·simp only[Ak];have h':Wk y.s_ 0 ⟨y.s_,y.at_,y.AX,⟨y.t_.AK,y.t_.Ac⟩,y.Ao,y.BH,y.BG,y.BW⟩:=h;refine Ap (λ_=>AP ((RJ D (zF _) h' F M).mono ?_)) λ_=>?_
   ·rintro⟨x27,x28,x29⟩ ⟨r1,r2⟩;exact AG ⟨⟨r1.s_,r1.lo,r1.hi,r1.nd,r1.got⟩,r2⟩
   ·refine AP (W.mono (Q:=λ_=>True) (Ap (λ_=>AP (W.mono (Q:=λ_=>True) ?_ ?_)) λ_=>AG trivial) ?_)
    ·refine W.any (Ap (λ_=>AG trivial) λ_=>AG trivial) λ_=>Ap (λ_=>AG trivial) λ_=>W.any (Ap (λ_=>AG trivial) λ_=>AG trivial) λ_=>Ap (λ_=>AG trivial) λ_=>W.any (Ap (λ_=>AG trivial) λ_=>AG trivial) λ_=>Ap (λ_=>AG trivial) λ_=>AG trivial
    ·rintro o _;cases o with
     |inl _=>exact AG trivial
     |inr _=>exact AG trivial
    ·rintro o _;cases o with
     |inl _=>
      simp only[];refine AP ((P8 one.1 C).mono ?_);rintro⟨x34,x35,x36⟩ C;exact AG (fin one.2 C)
     |inr x=>exact AG ⟨same,.inl rfl⟩
  ·simp only[zP,yf]at g1;simp only[BL];refine AP ((G (w.s_.length - i.toNat) (by(try simp only);omega) (w.go i) (h.go (by(try simp only);omega) g2) (by(try simp only);omega)).mono ?_);rintro⟨x24,x25,x26⟩ C;exact AG (fin (b:=i) (by(try simp only);omega) C)
theorem Rw{s:List UInt8}(D:s.length<=8192){S:BD}{k:Nat}(A:UY s S k)(w:AL)(h:Wk s 0 w)(U:s.length - w.at_.toNat<=k):W (EW S w) (R3 s w.at_ True):=by
 have I:=h.lo;unfold EW
 let Q:(List Int)×(List UInt8)×Int×Bool×Int×Int×Int×Int×Bool×(List AF)->Prop:=λ(l,x1,x2,x3,x4,x5,x6,x7,x8,x9)=>Wk s w.at_ ⟨x1,x2,x3,⟨x9,x4⟩,x5,x6,x7,x8⟩/\(l≠[]->Qa x8 x9)/\(l.length:Int)<=x2
 refine AP (W.mono (W.loop (λ(l,x1,x2,x3,x4,x5,x6,x7,x8,x9,_)=>Q (l,x1,x2,x3,x4,x5,x6,x7,x8,x9)) (λx=>(s.length - x.2.2.1).toNat) ⟨⟨h.s_,zF _,h.hi,h.nd⟩,λe=>absurd rfl e,I⟩ ?_ (Q:=Q)) ?_)
 ·rintro⟨l,x2,x3,x4,x5,x6,x7,x8,x9,x10,x11⟩ ⟨f,fg,fl⟩;have f1:=f.lo;have f2:=f.hi;have f0:x2=s:=f.s_;subst f0;simp only at f1 f2;have fw:Wk x2 0 ⟨x2,x3,x4,⟨x10,x5⟩,x6,x7,x8,x9⟩:=⟨rfl,by(try simp only);omega,f2,f.nd⟩;unfold F0;refine AP (AG (AP (W.mono (Q:=λb=>b=true->x3<x2.length) (Ap (λ_=>AP ((PU D (zF _) fw).mono λb N=>AG λe=>N (by simpa using e))) λ_=>AG λe=>by cases e) λx23 h23=>Ap (λe23=>?_) λ_=>AG ⟨f,fg,fl⟩)));have F:=h23 e23;obtain⟨v,O,C⟩:=Jt (s:=x2) (i:=x3) ⟨by omega,F⟩;have w1:IntKind.i64.wrap (x3+1)=x3+1:=Jr (by(try simp only);omega) (by(try simp only);omega);rw[O,w1];have one:Wk x2 w.at_ ⟨x2,x3+1,x4,⟨x10,x5⟩,x6,x7,x8,x9⟩:=⟨rfl,by(try simp only);omega,by(try simp only);omega,f.nd⟩;have put:∀{x30:Int} {x31:AL} {x32:List AF} {b:Bool} {c:Int} {P:((List Int)×(List UInt8)×Int×Bool×Int×Int×Int×Int×Bool×(List AF)×Bool)⊕((List Int)×(List UInt8)×Int×Bool×Int×Int×Int×Int×Bool×(List AF))->Prop},x3<c->R3 x2 c True (x30,x31,x32)->(∀l' y2 y3 y4 y5 y6 y7 y8 y9 y10 b',Q (l',y2,y3,y4,y5,y6,y7,y8,y9,y10)->(x2.length - y3).toNat<(x2.length - x3).toNat->P (.inl (l',y2,y3,y4,y5,y6,y7,y8,y9,y10,b')))->W (F6 (Pb 8 (l.length+([x30]:List Int).length))<|some (Sum.inl ((l++([x30]:List Int)),x31.s_,x31.at_,x31.AX,x31.t_.Ac,x31.Ao,x31.BH,x31.BG,x31.BW,x32,b))) P:=by
   intro x30 x31 x32 b c P hc C hP;have r1:=C.lo;have r2:=C.hi;simp only at r1 r2;refine ES (Hh (by simp;omega) (by simp;omega)) (AG (hP _ _ _ _ _ _ _ _ _ _ _ ⟨⟨C.s_,by(try simp only);omega,C.hi,C.nd⟩,λ_=>C.got trivial,?_⟩ ?_))
   ·simp only[zH,yg];omega
   ·omega
  refine W.any (Ap (λ_=>AP (AG (AG trivial))) λ_=>AG trivial) λx25=>Ap (λ_=>?_) λ_=>?_
  ·refine AP ((P8 one (by decide)).mono ?_);rintro⟨x27,x28,x29⟩ C;have r1:=C.lo;simp only at r1;refine AP ((Od D (by(try simp only);omega) C.wk (g:=True) (λ_=>C.got trivial) x27).mono ?_);rintro⟨x30,x31,x32⟩ H;exact put (by(try simp only);omega) H λ_ _ _ _ _ _ _ _ _ _ _ p q=>⟨p,q⟩
  refine W.any (Ap (λ_=>AP (AG (AG trivial))) λ_=>AG trivial) λx33=>Ap (λ_=>?_) λ_=>?_
  ·refine AP ((KI one _).mono ?_);rintro⟨x35,x36,x37⟩ C;exact put (by(try simp only);omega) C λ_ _ _ _ _ _ _ _ _ _ _ p q=>⟨p,q⟩
  refine AP ((A _ (l≠[]) fw F (by(try simp only);omega) fg).mono ?_);rintro⟨x38,x39,x40⟩ ⟨r1,r2⟩;have q1:=r1.lo;have q2:=r1.hi;simp only at q1 q2 r2;refine AP (AG (Ap (λ_=>AG ⟨⟨r1.s_,by(try simp only);omega,r1.hi,r1.nd⟩,r1.got,by(try simp only);omega⟩) λ_=>?_));simp only[B3];split
  ·refine AP ((Kj _ _).mono ?_);rintro _ ⟨q,rfl⟩;exact AG ⟨⟨r1.s_,by(try simp only);omega,r1.hi,r1.nd⟩,r1.got,by(try simp only);omega⟩
  ·rename_i hne;refine AP ((Od D (by(try simp only);omega) r1.wk (g:=True) (λ_=>r2.resolve_left hne) x38).mono ?_);rintro⟨x43,x44,x45⟩ H;exact put (by(try simp only);omega) H λ_ _ _ _ _ _ _ _ _ _ _ p q=>⟨p,q⟩
 ·rintro⟨l,x2,x3,x4,x5,x6,x7,x8,x9,x10⟩ ⟨f,fg,fl⟩;have f1:=f.lo;have f2:=f.hi;simp only at f1 f2;refine AP ((Qh f 2 l (by(try simp only);omega) fg).mono ?_);rintro⟨x46,x47,x48⟩ C;have r1:=C.lo;simp only at r1;exact AG ⟨C.s_,by(try simp only);omega,C.hi,C.nd,C.got⟩
theorem UK{s:List UInt8}(D:s.length<=8192){S:BD}{k:Nat}(B:Qs s S k)(w:AL)(h:Wk s 0 w)(U:s.length - w.at_.toNat<=k):W (DP S w) (R3 s w.at_ True):=by
 have I:=h.lo;unfold DP;refine AP (W.mono (W.loop (λ(l,x1,x2,x3,x4,x5,x6,x7,x8,x9)=>Wk s w.at_ ⟨x1,x2,x3,⟨x9,x4⟩,x5,x6,x7,x8⟩/\(l.length:Int)<=x2) (λx=>(s.length - x.2.2.1).toNat) ⟨⟨h.s_,zF _,h.hi,h.nd⟩,I⟩ ?_ (Q:=λ(l,x1,x2,x3,x4,x5,x6,x7,x8,x9)=>Wk s w.at_ ⟨x1,x2,x3,⟨x9,x4⟩,x5,x6,x7,x8⟩/\l.length<=10000/\Qa x8 x9)) ?_)
 ·rintro⟨l,x2,x3,x4,x5,x6,x7,x8,x9,x10⟩ ⟨f,fl⟩;have f1:=f.lo;have f2:=f.hi;simp only at f1 f2;have fw:Wk s 0 ⟨x2,x3,x4,⟨x10,x5⟩,x6,x7,x8,x9⟩:=⟨f.s_,by(try simp only);omega,f2,f.nd⟩;unfold Ey;refine AP ((B _ fw (by(try simp only);omega)).mono ?_);rintro⟨x21,x22,x23⟩ C;have r1:=C.lo;have r2:=C.hi;simp only at r1 r2;have K:Qa x22.BW x23:=C.got trivial;refine ES (Hh (by simp;omega) (by simp;omega)) (AP (AG (AP (W.mono (Q:=λ(x25,x26,x27,x28,x29,x30,x31,x32,x33)=>Wk s w.at_ ⟨x25,x26,x27,⟨x23,x28⟩,x29,x30,x31,x32⟩/\Qa x32 x23/\(x33=false->x3<x26)) (Ap (λ_=>AG ⟨⟨C.s_,by(try simp only);omega,C.hi,C.nd⟩,K,λe=>absurd e (by simp)⟩) λ_=>?_) ?_))))
  ·refine AP ((KF D (by(try simp only);omega) C.wk [124] (by simp)).mono ?_);rintro⟨b,y⟩ H;rcases H with⟨e1,e2⟩|⟨e1,i,e2,g1,g2⟩<;>simp only at e1 e2<;>subst e1<;>subst e2
   ·exact AG ⟨⟨C.s_,by(try simp only);omega,C.hi,C.nd⟩,K,λe=>absurd e (by simp)⟩
   ·simp only[zP,yf]at g1;exact AG ⟨⟨C.s_,by(try simp only);omega,g2,C.nd⟩,K,λ_=>by(try simp only);omega⟩
  ·rintro⟨x25,x26,x27,x28,x29,x30,x31,x32,x33⟩ ⟨g1,g2,g3⟩;have c1:=g1.lo;have c2:=g1.hi;simp only at c1 c2;refine Ap (λ_=>AG ⟨g1,by simp;omega,g2⟩) λe=>AG ⟨⟨g1,?_⟩,?_⟩
   ·have:=g3 e;simp only[zH,yg];omega
   ·have:=g3 e;simp only;omega
 ·rintro⟨l,x2,x3,x4,x5,x6,x7,x8,x9,x10⟩ ⟨f,fl,fg⟩;have f1:=f.lo;simp only at f1;refine AP ((Qh f 3 l (by(try simp only);omega) (λ_=>fg)).mono ?_);rintro⟨x36,x37,x38⟩ C;have r1:=C.lo;simp only at r1;exact AG ⟨C.s_,by(try simp only);omega,C.hi,C.nd,C.got⟩
theorem TI{s:List UInt8}(D:s.length<=8192){S:BD}{k:Nat}(E:SF s S k)(w:AL)(h:Wk s 0 w)(U:s.length - w.at_.toNat<=k):W (Ek S w) (R3 s w.at_ True):=by
 have I:=h.lo;unfold Ek;refine W.any (Ap (λ_=>AG trivial) λ_=>AG trivial) λx1=>?_;refine AP ((E ⟨w.s_,w.at_,w.AX,w.t_,_,_,w.BG,x1⟩ ⟨h.s_,h.lo,h.hi,h.nd⟩ U).mono ?_);rintro⟨x2,x3,x4⟩ C;have r1:=C.lo;simp only at r1;have e3:Wk s w.at_ ⟨x3.s_,x3.at_,x3.AX,⟨x4,x3.t_.Ac⟩,x3.Ao,IntKind.i64.wrap (x3.BH - 1),x3.BG,x3.BW⟩:=⟨C.s_,C.lo,C.hi,C.nd⟩
 let Q:(List UInt8)×Int×Bool×Int×Int×Int×Int×Bool->Prop:=λ(x1,x2,x3,x5,x6,x7,x8,x9)=>Wk s w.at_ ⟨x1,x2,x3,⟨x4,x5⟩,x6,x7,x8,x9⟩
 refine AP (W.mono (Q:=Q) (AP (AG (AP (W.mono (Q:=λ(x14,x15,x16,x17,x18,x19,x20,x21,x22)=>Q (x14,x15,x16,x17,x18,x19,x20,x21)) (Ap (λ_=>?_) λ_=>AG e3) ?_)))) ?_)
 ·refine AP ((KF D I e3 [41] (by simp)).mono ?_);rintro⟨b,y⟩ H;rcases H with⟨e1,e2⟩|⟨e1,i,e2,g1,g2⟩<;>simp only at e1 e2<;>subst e1<;>subst e2
  ·exact AG e3
  ·simp only[zP,yf]at g1;exact AG ⟨C.s_,by(try simp only);omega,g2,C.nd⟩
 ·rintro⟨x14,x15,x16,x17,x18,x19,x20,x21,x22⟩ f;refine Ap (λ_=>AP ((Kj _ _).mono ?_)) λ_=>AG f;rintro _ ⟨q,rfl⟩;exact AG ⟨f.s_,f.lo,f.hi,f.nd⟩
 ·rintro⟨x5,x6,x7,x8,x9,x10,x11,x12⟩ f;refine AP ((KI f _).mono ?_);rintro⟨x26,x27,x28⟩ C;have r1:=C.lo;have r2:=f.lo;simp only at r1 r2;exact AG ⟨C.s_,by(try simp only);omega,C.hi,C.nd,C.got⟩
theorem UQ{s:List UInt8}(D:s.length<=8192):∀(k n:Nat),4*k+4<=n->Sm s (Bd n) k/\SF s (Bd n) k:=by
 intro k
 induction k using Nat.strongRecOn with
 | ind k ih=>
  have atom:∀n,4*k+1<=n->UY s (Bd n) k:=by
   intro n T;obtain⟨m,rfl⟩:∃m,n=m+1:=⟨n - 1,by omega⟩;exact λw g h1 J h3 h4=>Ut D (λq V=>(ih q V m (by(try simp only);omega)).1) w g h1 J h3 h4
  have branch:∀n,4*k+2<=n->Qs s (Bd n) k:=by
   intro n T;obtain⟨m,rfl⟩:∃m,n=m+1:=⟨n - 1,by omega⟩;exact λw h1 J=>Rw D (atom m (by(try simp only);omega)) w h1 J
  have expr:∀n,4*k+3<=n->SF s (Bd n) k:=by
   intro n T;obtain⟨m,rfl⟩:∃m,n=m+1:=⟨n - 1,by omega⟩;exact λw h1 J=>UK D (branch m (by(try simp only);omega)) w h1 J
  intro n T;refine⟨?_,expr n (by(try simp only);omega)⟩;obtain⟨m,rfl⟩:∃m,n=m+1:=⟨n - 1,by omega⟩;exact λw h1 J=>TI D (expr m (by(try simp only);omega)) w h1 J
theorem Uw{nodes:List AF}{root:Int}(h:QW nodes root)(I:0<nodes.length):CI ⟨nodes,root⟩=some true:=by
 have T:=h.len;have C:=h.root;refine W.eq ?_;unfold CI;refine Ap (λN=>?_) λ_=>?_
 ·simp only[zG,zx]at N;omega
 refine AP (W.mono (W.list (l:=nodes) (λ(_:Unit) (i:Nat)=>(i:Int)) (λ_ _=>True) ?_ ?_ () trivial (Q:=λo=>o=.inl ())) λo R=>by subst R;exact AG rfl)
 ·intro _ _;unfold Dp;exact Bi (λh=>by simp only at h;omega) λ_=>AG rfl
 ·intro _ i hi _;unfold Dp;refine Bi (λ_=>?_) λh=>by simp only at h;omega
  simp only[];rw[E8 hi,za,h.ok i _ (List.getElem?_eq_getElem hi),za];exact AG ⟨(),F3 (by(try simp only);omega),trivial⟩
theorem Tb(s:List UInt8)(e:Bool):W (H7 s e) λr=>r.2.2=0->CI r.1=some true:=by
 unfold H7;refine Bi (λ_=>AG λe=>absurd e (by simp)) λD=>?_;have D:s.length<=8192:=by omega
 have I:Wk s 0 ⟨s,0,e,⟨[],0⟩,0,0,-1,false⟩:=⟨rfl,zF _,Int.natCast_nonneg _,λi n T=>by simp at T,by simp,by simp⟩;refine AP (((UQ D s.length Gp (by rw[N1];omega)).2 _ I (by simp)).mono ?_);rintro⟨x1,x2,x3⟩ C;refine AP (W.mono (Q:=λx=>x.2.2.2.1=x2.t_.Ac/\x.2.2.2.2.2.2.2=x2.BW) (AP (AG (Ap (λ_=>AP ((Kj _ _).mono ?_)) λ_=>AG ⟨rfl,rfl⟩))) ?_)
 ·rintro _ ⟨q,rfl⟩;exact AG ⟨rfl,rfl⟩
 ·rintro⟨x4,x5,x6,x7,x8,x9,x10,x11⟩ ⟨e1,e2⟩;simp only at e1 e2;subst e1 e2;refine AP (AG (Ap (λ_=>AG λe=>absurd e (by simp)) λ_=>Ap (λ_=>AG λe=>absurd e (by simp)) λhf=>AG λ_=>?_));exact Uw C.nd ((C.got trivial).resolve_left (by simp[hf]))
end Go.Av.L
