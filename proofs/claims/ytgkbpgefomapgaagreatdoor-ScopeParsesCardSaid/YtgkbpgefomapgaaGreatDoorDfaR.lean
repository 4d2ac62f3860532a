/-
  Several texts in one.
-/
import Derived.Test.YtgkbpgefomapgaaGreatDoorDfaA
/-
 A part.
-/
section
namespace Go.Av.L
open Go.Av Go.Lib
set_option linter.unusedVariables false
set_option linter.unusedSimpArgs false
theorem W.top{α:Type}{m:Option α}{Q:α->Prop}(w:W m Q):W m λ_=>True:=w.mono λ_ _=>trivial
theorem W.any{α β:Type}{m:Option α}{k:α->Option β}{Q:β->Prop}(w:W m λ_=>True)(h:∀x,W (k x) Q):W (m.bind k) Q:=AJ (w.mono λx _=>h x)
theorem Z8(a b c d:Int){k:Nat}(h:k<4):∃v,FT ([a,b,c,d]:List Int) (k:Int)=some v:=⟨_,CR (by simpa using h)⟩
theorem Ro(s:BE){b:Int}(h0:0<=b)(h1:b<=255):W (GF s b) λ_=>True:=by
 obtain⟨n,rfl⟩:=zn h0;obtain⟨e1,e2,e3⟩:=TS ⟨n,by omega⟩;simp only at e1 e2 e3;unfold GF;obtain⟨k,I⟩:=zn e1;rw[I]at e2⊢;obtain⟨v,E⟩:=Z8 s.w0 s.w1 s.w2 s.w3 (k:=k) (by omega);rw[E,za,zi e3,Gr];exact AB trivial
theorem Of{a b:Int}(D:0<=a/\a<=255)(H:0<=b/\b<=255):W (CX a b) λ_=>True:=by
 unfold CX;rw[Ht (x:=a) (by omega) (by omega)];refine AJ (W.mono (W.loop (λs=>0<=s.2.2.2.2/\s.2.2.2.2<=256) (λs=>(256 - s.2.2.2.2).toNat) ⟨by simp only;omega,by simp only;omega⟩ ?_ (Q:=λ_=>True)) λr _=>AB trivial);rintro⟨x1,x2,x3,x4,x5⟩ ⟨h1,C⟩;simp only at h1 C;unfold JB;rw[Ht (x:=b) (by omega) (by omega)];refine Be (λB=>?_) λ_=>AB trivial;rw[aQ (x:=x5) (by omega) (by omega)];refine W.any (Ro _ (by omega) (by omega)) λx=>AB ?_;simp only;rw[Ht (by omega) (by omega)];omega
theorem NM(a b:BE):W (Cr a b) λ_=>True:=by
 unfold Cr;refine AJ (W.mono (W.loop (λs=>∃k:Nat,s.2.2.2.2=(k:Int)/\k<=4) (λs=>(4 - s.2.2.2.2).toNat) ⟨0,rfl,by omega⟩ ?_ (Q:=λ_=>True)) λr _=>AB trivial);rintro⟨x1,x2,x3,x4,x5⟩ ⟨k,I,C⟩;simp only at I;subst I;unfold Ih;refine Be (λB=>?_) λ_=>AB trivial;obtain⟨v,E⟩:=Z8 x1 x2 x3 x4 (k:=k) (by omega);obtain⟨u,hu⟩:=Z8 b.w0 b.w1 b.w2 b.w3 (k:=k) (by omega);rw[E,za,hu,za];exact AB ⟨⟨k+1,Ee (by omega),by omega⟩,by simp only;rw[Ee (by omega)];omega⟩
theorem Z3(a b:BE):W (HD a b) λ_=>True:=by
 unfold HD;refine AJ (W.mono (W.loop (λs=>∃k:Nat,s.2.2.2.2=(k:Int)/\k<=4) (λs=>(4 - s.2.2.2.2).toNat) ⟨0,rfl,by omega⟩ ?_ (Q:=λ_=>True)) λr _=>AB trivial);rintro⟨x1,x2,x3,x4,x5⟩ ⟨k,I,C⟩;simp only at I;subst I;unfold IF;refine Be (λB=>?_) λ_=>AB trivial;obtain⟨v,E⟩:=Z8 x1 x2 x3 x4 (k:=k) (by omega);obtain⟨u,hu⟩:=Z8 b.w0 b.w1 b.w2 b.w3 (k:=k) (by omega);rw[E,za,hu,za];exact AB ⟨⟨k+1,Ee (by omega),by omega⟩,by simp only;rw[Ee (by omega)];omega⟩
theorem VA(a:BE):W (FP a) λ_=>True:=by
 unfold FP;refine AJ (W.mono (W.loop (λs=>∃k:Nat,s.2.2.2.2=(k:Int)/\k<=4) (λs=>(4 - s.2.2.2.2).toNat) ⟨0,rfl,by omega⟩ ?_ (Q:=λ_=>True)) λr _=>AB trivial);rintro⟨x1,x2,x3,x4,x5⟩ ⟨k,I,C⟩;simp only at I;subst I;unfold IG;refine Be (λB=>?_) λ_=>AB trivial;obtain⟨v,E⟩:=Z8 x1 x2 x3 x4 (k:=k) (by omega);rw[E,za];exact AB ⟨⟨k+1,Ee (by omega),by omega⟩,by simp only;rw[Ee (by omega)];omega⟩
theorem ZY:W JR λ_=>True:=by
 unfold JR;exact W.any (VA _) λ_=>AB trivial
theorem XQ(s:List UInt8)(hn:s.length<=1073741824):W (ID s) λ_=>True:=by
 unfold ID;refine AJ (W.mono (W.list (l:=s) (λ(x:Int×Int×Int×Int) (i:Nat)=>(x.1,x.2.1,x.2.2.1,x.2.2.2,(i:Int))) (λ_ _=>True) ?_ ?_ (0,0,0,0) trivial (Q:=λ_=>True)) λr _=>AB trivial)
 ·rintro⟨x1,x2,x3,x4⟩ _;unfold JG;exact Be (λh=>by omega) λ_=>AB trivial
 ·rintro⟨x1,x2,x3,x4⟩ i hi _;unfold JG;refine Be (λ_=>?_) λh=>by omega
  rw[Kj hi,za];have:=Kh s[i];refine W.any (Ro _ (by omega) (by omega)) λx=>AB ⟨(x.w0,x.w1,x.w2,x.w3),by rw[Ee (by omega)],trivial⟩
theorem XD(s:List UInt8):W (H0 s) λ_=>True:=by
 have r:∀a b:Int,(0<=a/\a<=255)/\(0<=b/\b<=255)->W (CX a b) λ_=>True:=λa b h=>Of h.1 h.2;unfold H0;refine W.any (r _ _ (by decide)) λ_=>W.any (r _ _ (by decide)) λ_=>W.any (r _ _ (by decide)) λ_=>W.any (NM _ _) λ_=>W.any (NM _ _) λ_=>?_;refine Am (λ_=>W.any (NM _ _) λ_=>AB trivial) λ_=>Am (λ_=>AB trivial) λ_=>Am (λ_=>AB trivial) λ_=>Am (λ_=>AB trivial) λ_=>Am (λ_=>AB trivial) λ_=>?_;refine Am (λ_=>W.any (r _ _ (by decide)) λ_=>W.any (NM _ _) λ_=>W.any (r _ _ (by decide)) λ_=>W.any (NM _ _) λ_=>AB trivial) λ_=>?_;refine Am (λ_=>W.any (XQ _ (by simp)) λ_=>AB trivial) λ_=>?_;refine Am (λ_=>W.any (r _ _ (by decide)) λ_=>W.any (XQ _ (by simp)) λ_=>W.any (NM _ _) λ_=>AB trivial) λ_=>?_;refine Am (λ_=>W.any (r _ _ (by decide)) λ_=>W.any (XQ _ (by simp)) λ_=>W.any (NM _ _) λ_=>AB trivial) λ_=>?_;refine Am (λ_=>W.any (r _ _ (by decide)) λ_=>AB trivial) λ_=>Am (λ_=>W.any (r _ _ (by decide)) λ_=>AB trivial) λ_=>?_;exact Am (λ_=>W.any (r _ _ (by decide)) λ_=>W.any (VA _) λ_=>W.any (Z3 _ _) λ_=>AB trivial) λ_=>AB trivial
theorem Me(a b:List UInt8):W (CK a b) λr=>r=true->b.length<=a.length:=by
 unfold CK FB;refine AJ (AJ (W.mono (Q:=λr=>r=true->b.length<=a.length) (Be (λh=>?_) λh=>AB λe=>by cases e) λr G=>AB (AB G)));rw[YT (by omega),za];exact AB λ_=>by omega
theorem L2{s:List UInt8}{i:Int}(h:0<=i/\i<=s.length):I0 s (some i) none=some (s.drop i.toNat):=by
 obtain⟨k,rfl⟩:=zn h.1;rw[Lm (by omega),zl]
theorem KM{s:List UInt8}{i:Int}(h:0<=i/\i<s.length):∃v:Int,IA s i=some v/\0<=v/\v<=255:=by
 obtain⟨k,rfl⟩:=zn h.1;exact⟨_,Kj (by omega),Kh _⟩
structure Sc(s:List UInt8)(a:Int)(x:BT):Prop where
 s_:x.s_=s
 lo:a<=x.at_
 hi:x.at_<=s.length
theorem V3{s:List UInt8}(B:s.length<=8192){a:Int}(D:0<=a){x:BT}(h:Sc s a x)(p:List UInt8):W (Cb x p) λr=>(r.1=true->Sc s (a+p.length) r.2)/\(r.1=false->r.2=x):=by
 have h1:=h.lo;have C:=h.hi;unfold Cb;rw[h.s_,L2 ⟨by omega,C⟩,za];refine AJ ((Me _ _).mono λb H=>Am (λe=>AB ⟨λh=>Bool.noConfusion h,λ_=>rfl⟩) λe=>AB ⟨λ_=>?_,λh=>by cases h⟩);have:=H (by simpa using e);rw[zL]at this;exact⟨rfl,by simp only;rw[Ht (by omega) (by omega)];omega,by simp only;rw[Ht (by omega) (by omega)];omega⟩
theorem JC{s:List UInt8}(B:s.length<=8192){a:Int}(D:0<=a){x:BT}(h:Sc s a x)(p:List UInt8):W (Cb x p) λr=>Sc s a r.2/\(r.1=true->Sc s (a+p.length) r.2):=by
 refine(V3 B D h p).mono λr G=>?_;obtain⟨b,y⟩:=r;cases b
 ·have:y=x:=G.2 rfl;subst this;exact⟨h,λe=>by cases e⟩
 ·have:=G.1 rfl;exact⟨⟨this.s_,by have:=this.lo;simp only at this⊢;omega,this.hi⟩,λ_=>this⟩
theorem PX{s:List UInt8}(B:s.length<=8192){a:Int}(D:0<=a){x:BT}(h:Sc s a x)(p:List UInt8):W (D5 x p) λr=>(0<=r.1/\r.1<=255)/\Sc s a r.2.2:=by
 have h1:=h.lo;have C:=h.hi;unfold D5;rw[h.s_,Ht (x:=x.at_+3) (by omega) (by omega),Ht (x:=x.at_+1) (by omega) (by omega)];refine AJ (W.mono (Q:=λb=>b=true\/x.at_+3<=s.length) (Be (λ_=>AB (.inl rfl)) λF=>?_) λb H=>?_)
 ·obtain⟨k,I⟩:=zn (show 0<=x.at_ by omega);rw[I]at F⊢;rw[show(k:Int)+1=((k+1:Nat):Int) by omega,show(k:Int)+3=((k+3:Nat):Int) by omega,HF (by omega) (by omega),za];exact AB (.inr (by omega))
 ·refine Am (λ_=>AB ⟨⟨by simp,by simp⟩,h⟩) λe=>?_;have H:=H.resolve_left (by rw[e];decide);obtain⟨v,E,G⟩:=KM (s:=s) (i:=x.at_) ⟨by omega,by omega⟩;rw[E,za];exact AB ⟨G,rfl,by simp only;omega,by simp only;omega⟩
theorem Rt{s:List UInt8}(B:s.length<=8192){a:Int}(D:0<=a){x:BT}(h:Sc s a x):W (Ed x) λr=>(0<=r.1/\r.1<=255)/\Sc s a r.2.2/\(r.2.1=true->Sc s (a+1) r.2.2):=by
 unfold Ed;refine AJ ((JC B D h _).mono ?_);rintro⟨x1,x2⟩ ⟨g1,g2⟩;refine Am (λe=>AJ ((PX B (by simp only[zD,zQ];omega) (g2 e) _).mono ?_)) λe=>?_
 ·rintro⟨x3,x4,x5⟩ ⟨f1,f2⟩;have:=f2.lo;simp only[zD,zQ]at this f1;exact AB ⟨f1,⟨f2.s_,by simp only;omega,f2.hi⟩,λ_=>⟨f2.s_,by simp only;omega,f2.hi⟩⟩
 ·refine AJ (W.mono (Q:=λy=>Sc s a ⟨y.1,y.2.1,y.2.2.1,⟨y.2.2.2.1,y.2.2.2.2.1,y.2.2.2.2.2.1,y.2.2.2.2.2.2⟩⟩) (Am (λ_=>AJ ((JC B D g1 _).mono ?_)) λ_=>AB g1) ?_)
  ·rintro⟨x13,x14⟩ ⟨f1,_⟩;exact AB f1
  ·rintro⟨x6,x7,x8,x9,x10,x11,x12⟩ g;have h1:=g.lo;have C:=g.hi;have J:=g.s_;simp only at h1 C J;subst J;refine Be (λ_=>AB ⟨⟨by simp,by simp⟩,g,λe=>by cases e⟩) λF=>?_;rw[Ht (x:=x7+1) (by omega) (by omega),Ht (by omega) (by omega),show x7+1 - 1=x7 by omega];obtain⟨v,E,G⟩:=KM (s:=x6) (i:=x7) ⟨by omega,by omega⟩;rw[E,za];exact AB ⟨G,⟨rfl,by simp only;omega,by simp only;omega⟩,λ_=>⟨rfl,by simp only;omega,by simp only;omega⟩⟩
theorem WO(s p:List UInt8)(h:(Lib.cut s p).2.2=true):(Lib.cut s p).1.length+p.length<=s.length:=by
 unfold Lib.cut at h⊢;split at h
 ·rename_i hi;rw[zk hi];have:=Lib.index_room s p hi;rw[zP];omega
 ·cases h
theorem Ud{s:List UInt8}(B:s.length<=8192){a:Int}(D:0<=a){x:BT}(h:Sc s a x):W (E6 x) λr=>Sc s a r.2:=by
 have h1:=h.lo;have C:=h.hi;unfold E6;rw[h.s_,L2 ⟨by omega,C⟩,za];refine Ce (zi (by rw[zL];omega)) (Am (λ_=>AB h) λN=>W.any (XD _) ?_);rintro⟨x2,x3⟩;refine W.any (NM _ _) λx4=>AB ?_;have hc:=WO _ _ (by simpa using N);rw[zL,show([58,93]:List UInt8).length=2 from rfl]at hc;refine⟨rfl,?_,?_⟩<;>simp only
 ·rw[Ht (x:=(((Lib.cut _ _).1).length:Int)+2) (by omega) (by omega),Ht (by omega) (by omega)];omega
 ·rw[Ht (x:=(((Lib.cut _ _).1).length:Int)+2) (by omega) (by omega),Ht (by omega) (by omega)];omega
theorem WG{s:List UInt8}(B:s.length<=8192){a:Int}(D:0<=a){x:BT}(h:Sc s a x):W (FX x) λr=>Sc s a r.2/\(r.1=true->Sc s (a+1) r.2):=by
 have both:∀{b:Bool} {y:BT},Sc s (a+1) y->Sc s a (b,y).2/\((b,y).1=true->Sc s (a+1) (b,y).2):=λg=>⟨⟨g.s_,by have:=g.lo;simp only;omega,g.hi⟩,λ_=>g⟩;have up:∀{y:BT},Sc s (a+2) y->Sc s (a+1) y:=λg=>⟨g.s_,by have:=g.lo;omega,g.hi⟩;unfold FX;refine AJ ((JC B D h _).mono ?_);rintro⟨x1,x2⟩ ⟨g1,g2⟩;refine Am (λe=>AJ ((Ud B (by omega) (up (g2 e))).mono ?_)) λe=>?_
 ·rintro⟨x3,x4⟩ f;exact AB (both f)
 refine AJ ((JC B D g1 _).mono ?_);rintro⟨x5,x6⟩ ⟨g3,g4⟩;refine Am (λe=>AJ ((PX B (by omega) (up (g4 e)) _).mono ?_)) λe=>?_
 ·rintro⟨x7,x8,x9⟩ ⟨f1,f2⟩;exact W.any (Of f1 f1) λx10=>W.any (NM _ _) λx11=>AB (both ⟨f2.s_,f2.lo,f2.hi⟩)
 refine AJ ((Rt B D g3).mono ?_);rintro⟨x12,x13,x14⟩ ⟨r12,g5,g6⟩;refine Am (λe=>AB ⟨g5,λe=>by cases e⟩) λe=>?_;have g7:=g6 (by simpa using e);have h1:=g7.lo;have C:=g7.hi;have J:=g7.s_;simp only at h1 C J
 refine AJ (W.mono (Q:=λo=>match o with
  | .inl (x15,x16,x17,x18,x19,x20,x21,x22)=>(0<=x22/\x22<=255)/\Sc s (a+1) ⟨x15,x16,x17,⟨x18,x19,x20,x21⟩⟩
  | .inr (x23,x24,x25,x26,x27,x28,x29,x30)=>Sc s (a+1) ⟨x23,x24,x25,⟨x26,x27,x28,x29⟩⟩) ?_ ?_)
 ·rw[J,L2 ⟨by omega,C⟩,za];refine AJ ((Me _ _).mono λx32 h32=>AJ (W.mono (Q:=λb=>b=true->x32=true) (Am (λe=>W.any (W.top (Me _ _)) λx34=>AB λ_=>e) λ_=>AB λe=>by cases e) λx33 h33=>?_));refine Am (λe=>?_) λ_=>AB ⟨r12,rfl,h1,C⟩;have hlen:=h32 (h33 e);rw[zL,show([45]:List UInt8).length=1 from rfl]at hlen;have hw:IntKind.i64.wrap (x14.at_+1)=x14.at_+1:=Ht (by omega) (by omega);have gn:∀z,Sc s (a+1) ⟨s,x14.at_+1,x14.IS,z⟩:=λz=>⟨rfl,by simp only;omega,by simp only;omega⟩;rw[L2 ⟨by omega,by rw[zL];omega⟩,za,hw];refine W.any (W.top (Me _ _)) λx36=>W.any (Am (λ_=>AB trivial) λ_=>W.any (W.top (Me _ _)) λ_=>AB trivial) λx37=>?_;refine Am (λ_=>AB (gn _)) λ_=>AJ ((Rt B (by omega) (gn x14.Cq)).mono ?_);rintro⟨x39,x40,x41⟩ ⟨f1,f2,_⟩;exact Am (λ_=>AB f2) λ_=>AB ⟨f1,f2⟩
 ·rintro o K;cases o with
  |inl o=>
   obtain⟨x15,x16,x17,x18,x19,x20,x21,x22⟩:=o;obtain⟨f1,f2⟩:=K;exact W.any (Of r12 f1) λx42=>W.any (NM _ _) λx43=>AB (both ⟨f2.s_,f2.lo,f2.hi⟩)
  |inr o=>
   obtain⟨x23,x24,x25,x26,x27,x28,x29,x30⟩:=o;exact AB (both K)
theorem Uq{s:List UInt8}(B:s.length<=8192){i:Int}(hi:0<=i/\i<s.length)(gl:Bool):W (G9 s i gl) λr=>r.2.2=0->i<r.2.1/\r.2.1<=s.length:=by
 unfold G9;obtain⟨v,E,G⟩:=KM hi;refine W.any (Am (λ_=>AB trivial) λ_=>by rw[E,za];exact AB trivial) λx1=>?_;refine Am (λ_=>AB λe=>absurd e (by decide)) λ_=>?_;have g0:Sc s (i+1) ⟨s,IntKind.i64.wrap (i+1),gl,⟨0,0,0,0⟩⟩:=by
  rw[Ht (by omega) (by omega)];exact⟨rfl,zN _,by simp only;omega⟩
 refine AJ ((JC B (by omega) g0 _).mono ?_);rintro⟨x3,x4⟩ ⟨g1,_⟩;refine AJ (W.mono (Q:=λy=>Sc s (i+1) ⟨y.1,y.2.1,y.2.2.1,⟨y.2.2.2.1,y.2.2.2.2.1,y.2.2.2.2.2.1,y.2.2.2.2.2.2.1⟩⟩) (Am (λ_=>AB g1) λ_=>AJ (W.mono (Q:=λy=>Sc s (i+1) ⟨y.1,y.2.1,y.2.2.1,⟨y.2.2.2.1,y.2.2.2.2.1,y.2.2.2.2.2.1,y.2.2.2.2.2.2.1⟩⟩) (Am (λ_=>AJ ((JC B (by omega) g1 _).mono ?_)) λ_=>AB g1) ?_)) ?_)
 ·rintro⟨x21,x22⟩ ⟨f,_⟩;exact AB f
 ·rintro⟨x13,x14,x15,x16,x17,x18,x19,x20⟩ f;exact AB f
 rintro⟨x5,x6,x7,x8,x9,x10,x11,x12⟩ g2
 refine AJ (W.mono (W.loop (λy=>Sc s (i+1) ⟨y.1,y.2.1,y.2.2.1,⟨y.2.2.2.1,y.2.2.2.2.1,y.2.2.2.2.2.1,y.2.2.2.2.2.2.1⟩⟩) (λy=>(s.length - y.2.1).toNat) g2 ?_ (Q:=λo=>match o with
  | .inl y=>i<y.2.1/\y.2.1<s.length
  | .inr y=>y.2.2.2.2.2.2.2.2=11)) ?_)
 ·rintro⟨x23,x24,x25,x26,x27,x28,x29,x30⟩ f;have h1:=f.lo;have C:=f.hi;simp only at h1 C;unfold IK;refine Be (λ_=>AB rfl) λF=>?_;obtain⟨v,E,G⟩:=KM (s:=s) (i:=x24) ⟨by omega,by omega⟩;rw[E,za];refine Am (λ_=>AB ⟨by simp only;omega,by simp only;omega⟩) λ_=>?_;have f':Sc s x24 ⟨x23,x24,x25,⟨x26,x27,x28,x29⟩⟩:=⟨f.s_,zN _,f.hi⟩;refine AJ ((WG B (by omega) f').mono ?_);rintro⟨x48,x49⟩ ⟨f1,f2⟩;refine Am (λ_=>AB rfl) λe=>AB ?_;have f3:=f2 (by simpa using e);have J:=f3.lo;have S:=f3.hi;simp only at J S;exact⟨⟨f3.s_,by simp only;omega,S⟩,by simp only;omega⟩
 ·rintro o K;cases o with
  |inl o=>
   obtain⟨x31,x32,x33,x34,x35,x36,x37⟩:=o;simp only at K;refine W.any (Am (λ_=>W.any (VA _) λ_=>AB trivial) λ_=>AB trivial) ?_;rintro⟨x50,x51,x52,x53⟩;refine AB λ_=>?_;simp only;rw[Ht (by omega) (by omega)];omega
  |inr o=>
   obtain⟨x38,x39,x40,x41,x42,x43,x44,x45,x46⟩:=o;simp only at K;subst K;exact AB λe=>absurd e (by simp)
end Go.Av.L
end
/-
 A part.
-/
section
namespace Go.Av.L
open Go.Av Go.Lib
set_option linter.unusedVariables false
set_option linter.unusedSimpArgs false
structure Sn(l:List AM)(root:Int):Prop where
 ok:∀(i:Nat) n,l[i]?=some n->G5 n i=some true
 len:l.length<=1024
 root:0<=root/\(0<l.length->root<l.length)
def S8(full:Bool)(l:List AM):Prop:=full=true\/0<l.length
structure Wk(s:List UInt8)(a:Int)(w:AL):Prop where
 s_:w.s_=s
 lo:a<=w.at_
 hi:w.at_<=s.length
 nd:Sn w.t_.AN w.t_.BI
structure R3(s:List UInt8)(a:Int)(g:Prop)(r:Int×AL×List AM):Prop where
 s_:r.2.1.s_=s
 lo:a<=r.2.1.at_
 hi:r.2.1.at_<=s.length
 nd:Sn r.2.2 r.2.1.t_.BI
 got:g->S8 r.2.1.BO r.2.2
def ME(w:AL):Int:=if w.Al then 0 else 1
theorem Ym(w:AL):0<=ME w/\ME w<=1:=by unfold ME;split<;>decide
theorem N5{s:List UInt8}(B:s.length<=8192){a:Int}(D:0<=a){w:AL}(h:Wk s a w)(p:List UInt8)(O:p.length<=100):W (C9 w p) λr=>r=true->w.at_+p.length+ME w<=s.length:=by
 have h1:=h.lo;have C:=h.hi;unfold C9;refine AJ (W.mono (Q:=λx=>(x.length:Int)=p.length+ME w) (Am (λe=>Ce (zi (by simp;omega)) (AB ?_)) λe=>AB ?_) λx1 M=>?_)
 ·simp only[zK]at e;unfold ME;rw[e];simp
 ·simp only[yg]at e;unfold ME;rw[e];simp
 rw[h.s_,L2 ⟨by omega,C⟩,za];refine AJ ((Me _ _).mono λb H=>AB λe=>?_);have:=H e;rw[zL]at this;omega
abbrev AL.go(w:AL)(i:Int):AL:=⟨w.s_,i,w.Al,w.t_,w.BC,w.BV,w.BU,w.BO⟩
theorem KQ{s:List UInt8}(B:s.length<=8192){a:Int}(D:0<=a){w:AL}(h:Wk s a w)(p:List UInt8)(O:p.length<=100):W (CP w p) λr=>(r.1=false/\r.2=w)\/(r.1=true/\∃i,r.2=w.go i/\w.at_+p.length<=i/\i<=s.length):=by
 have h1:=h.lo;have C:=h.hi;have J:=Ym w;unfold CP;refine AJ ((N5 B D h p O).mono λx1 M=>Am (λ_=>AB (.inl ⟨rfl,rfl⟩)) λe=>?_);have M:=M (by simpa using e);rw[Ht (x:=w.at_+p.length) (by omega) (by omega)];refine AJ (W.mono (Q:=λi=>i=w.at_+p.length+ME w) (Am (λe=>AB ?_) λe=>AB ?_) λi hi=>AB (.inr ⟨rfl,i,rfl,by omega,by omega⟩))
 ·simp only[zK]at e;have:ME w=1:=by unfold ME;rw[e];rfl
  rw[Ht (by omega) (by omega),this]
 ·simp only[yg]at e;have:ME w=0:=by unfold ME;rw[e];rfl
  rw[this,Int.add_zero]
theorem Qt{s:List UInt8}(B:s.length<=8192){a:Int}(D:0<=a){w:AL}(h:Wk s a w):W (D9 w) λb=>b=false->w.at_<s.length:=by
 have C:=h.hi;unfold D9;rw[h.s_];refine AJ (W.mono (Q:=λb=>b=false->w.at_<s.length) ?_ λx1 h1=>AJ (W.mono (Q:=λb=>b=false->x1=false) (Am (λ_=>AB λe=>by cases e) λe=>W.any (W.top (N5 B D h _ (by simp))) λx4=>AB λ_=>e) λx3 J=>AB λe=>h1 (J e)));rw[CO];split
 ·exact AB λe=>by cases e
 ·exact W.any (W.top (N5 B D h _ (by simp))) λx2=>AB λ_=>by omega
theorem Xh{s:List UInt8}(B:s.length<=8192){a:Int}(D:0<=a){w:AL}(h:Wk s a w)(F:w.at_<s.length):W (Fa w) λ_=>True:=by
 have h1:=h.lo;unfold Fa;rw[Ht (x:=w.at_+1) (by omega) (by omega)];exact W.any (W.top (Qt B D (w:=w.go (w.at_+1)) ⟨h.s_,by simp only;omega,by simp only;omega,h.nd⟩)) λ_=>AB trivial
theorem Kc{s:List UInt8}{a:Int}{w:AL}(h:Wk s a w)(n:AM):W (Bx w n) (R3 s w.at_ True):=by
 unfold Bx;refine Am (λe=>AB ⟨h.s_,zN _,h.hi,h.nd,λ_=>.inl e⟩) λ_=>?_;unfold F8;refine AJ (W.mono (Q:=λr=>(r.2.1=0->0<r.2.2.2.length)/\R3 s w.at_ False (0,r.2.2.1,r.2.2.2)) (Be (λ_=>AB ⟨λe=>absurd e (by simp),h.s_,zN _,h.hi,h.nd,λe=>False.elim e⟩) λF=>?_) ?_)
 ·obtain⟨b,e,_⟩:=X4 n w.t_.AN.length;rw[e,za];refine Am (λ_=>AB ⟨λe=>absurd e (by simp),h.s_,zN _,h.hi,h.nd,λe=>False.elim e⟩) λH=>?_;have H:b=true:=by simpa using H
  subst H;refine Ce (DL (by simp;omega) (by simp;omega)) (AB ⟨λ_=>by simp,h.s_,zN _,h.hi,⟨λi m hm=>?_,by simp;omega,?_⟩,λe=>False.elim e⟩)
  ·simp only at hm;by_cases hi:i<w.t_.AN.length
   ·rw[List.getElem?_append_left hi]at hm;exact h.nd.ok i m hm
   ·have B:=(List.getElem?_eq_some_iff.1 hm).1;rw[zq,zy]at B;obtain rfl:i=w.t_.AN.length:=by omega
    rw[List.getElem?_append_right (zo _),yy]at hm;cases hm;exact e
  ·simp only[zq,zy];rw[Ht (by omega) (by omega)];omega
 ·rintro⟨x1,x2,x3,x4⟩ ⟨h1,C⟩;simp only[Gi];refine AJ (W.mono (Q:=λf=>S8 f x4) ?_ λf N=>AB ⟨C.s_,C.lo,C.hi,C.nd,λ_=>N⟩);split
  ·rename_i e;exact AB (.inr (h1 e))
  ·exact AB (.inl rfl)
theorem R3.wk{s:List UInt8}{a:Int}{g:Prop}{x1:Int}{x2:AL}{x3:List AM}(h:R3 s a g (x1,x2,x3)):Wk s a ⟨x2.s_,x2.at_,x2.Al,⟨x3,x2.t_.BI⟩,x2.BC,x2.BV,x2.BU,x2.BO⟩:=⟨h.s_,h.lo,h.hi,h.nd⟩
theorem Wk.go{s:List UInt8}{a:Int}{w:AL}(h:Wk s a w){i:Int}(h1:a<=i)(C:i<=s.length):Wk s a (w.go i):=⟨h.s_,h1,C,h.nd⟩
theorem SJ{s:List UInt8}{a:Int}{w:AL}(h:Wk s a w){b:Int}(H:0<=b/\b<=255):W (Dv w b) (R3 s w.at_ True):=by
 unfold Dv;refine W.any (Of H H) λx1=>AJ ((Kc h _).mono ?_);rintro⟨x2,x3,x4⟩ G;exact AB ⟨G.s_,G.lo,G.hi,G.nd,G.got⟩
theorem Qv{s:List UInt8}(B:s.length<=8192){a:Int}(D:0<=a){w:AL}(h:Wk s a w):W (D4 w) λr=>∃i,r.2.2=w.go i/\w.at_<=i/\i<=s.length:=by
 have h1:=h.lo;have C:=h.hi;unfold D4;refine AJ (W.mono (W.loop (λ(x:Int×Int×Int)=>w.at_<=x.1/\x.1<=s.length) (λx=>(s.length - x.1).toNat) ⟨zN _,C⟩ ?_ (Q:=λ(x:Int×Int×Int)=>w.at_<=x.1/\x.1<=s.length)) ?_)
 ·rintro⟨x1,x2,x3⟩ ⟨g1,g2⟩;simp only at g1 g2;unfold GX;rw[h.s_];refine AJ (W.mono (Q:=λb=>b=true->x1<s.length) (Be (λF=>?_) λ_=>AB λe=>by cases e) λx7 R=>AJ (W.mono (Q:=λb=>b=true->x1<s.length) (Am (λe=>?_) λ_=>AB λe=>by cases e) λx9 h9=>Am (λe=>?_) λ_=>AB ⟨g1,g2⟩))
  ·obtain⟨v,E,_⟩:=KM (s:=s) (i:=x1) ⟨by omega,F⟩;rw[E];exact AJ (AB (AB λ_=>F))
  ·obtain⟨v,E,_⟩:=KM (s:=s) (i:=x1) ⟨by omega,R e⟩;rw[E];exact AJ (AB (AB λ_=>R e))
  ·have F:=h9 (Bool.and_eq_true_iff.1 e).1;obtain⟨v,E,_⟩:=KM (s:=s) (i:=x1) ⟨by omega,F⟩;rw[E];refine AJ (AB (AB ?_));rw[Ht (x:=x1+1) (by omega) (by omega)];exact⟨⟨by simp only;omega,by simp only;omega⟩,by simp only;omega⟩
 ·rintro⟨x4,x5,x6⟩ G;exact AB ⟨x4,rfl,G⟩
theorem UP{s:List UInt8}(B:s.length<=8192){a:Int}(D:0<=a){w:AL}(h:Wk s a w):W (Er w) λr=>∃i,r.2.2.2=w.go i/\w.at_<=i/\i<=s.length:=by
 have h1:=h.lo;unfold Er;refine AJ ((Qv B D h).mono ?_);rintro⟨x1,x2,x3⟩ ⟨i,rfl,g1,g2⟩;refine Am (λ_=>AB ⟨i,rfl,g1,g2⟩) λ_=>?_;simp only[]
 refine AJ (W.mono (Q:=λo=>match o with
  | .inl (x4,x5,x6,x7,x8,x9,x10,x11,x12,x13)=>∃j,(⟨x4,x5,x6,⟨w.t_.AN,x7⟩,x8,x9,x10,x11⟩:AL)=w.go j/\w.at_<=j/\j<=s.length
  | .inr (x14,x15,x16,x17,x18,x19,x20,x21,x22,x23,x24)=>∃j,(⟨x14,x15,x16,⟨w.t_.AN,x17⟩,x18,x19,x20,x21⟩:AL)=w.go j/\w.at_<=j/\j<=s.length) ?_ ?_)
 ·rw[h.s_,L2 ⟨by omega,g2⟩,za];refine AJ ((Me _ _).mono λx26 h26=>Am (λe=>?_) λ_=>AB ⟨i,by rw[<-h.s_],g1,g2⟩);have hlen:=h26 e;rw[zL,show([44]:List UInt8).length=1 from rfl]at hlen;rw[Ht (x:=i+1) (by omega) (by omega)];have P:Wk s a (w.go (i+1)):=h.go (by omega) (by omega);have es:(⟨s,i+1,w.Al,⟨w.t_.AN,w.t_.BI⟩,w.BC,w.BV,w.BU,w.BO⟩:AL)=w.go (i+1):=by rw[<-h.s_]
  rw[es];refine W.any (W.top (N5 B D P _ (by simp))) λx27=>Am (λ_=>AJ ((Qv B D P).mono ?_)) λ_=>AB ⟨i+1,es,by omega,by omega⟩;rintro⟨x28,x29,x30⟩ ⟨j,rfl,k1,k2⟩;simp only at k1;exact Am (λ_=>AB ⟨j,rfl,by omega,k2⟩) λ_=>AB ⟨j,rfl,by omega,k2⟩
 ·rintro o K;cases o with
  | inl o=>
   obtain⟨x4,x5,x6,x7,x8,x9,x10,x11,x12,x13⟩:=o;obtain⟨j,e,k1,k2⟩:=K;simp only[];rw[e];refine AJ ((KQ B D (h.go (by omega) k2) _ (by simp)).mono ?_);rintro⟨x31,x32⟩ G;rcases G with⟨_,e2⟩|⟨_,q,e2,k3,k4⟩
   ·simp only at e2;subst e2;exact AB ⟨j,rfl,k1,k2⟩
   ·simp only at e2 k3;subst e2;exact AB ⟨q,rfl,by omega,k4⟩
  |inr o=>
   obtain⟨x14,x15,x16,x17,x18,x19,x20,x21,x22,x23,x24⟩:=o;exact AB K
theorem LQ(w:AL)(i:Int):W (Ci w i) λr=>∃q,r=⟨w.s_,w.at_,w.Al,w.t_,w.BC,w.BV,q,w.BO⟩:=by
 unfold Ci;exact Be (λ_=>AB ⟨i,rfl⟩) λ_=>AB ⟨w.BU,rfl⟩
end Go.Av.L
end
