/-
  Several texts in one.
-/
import Derived.Test.YthhonebaoidfgaaGreatDoorRdC
set_option linter.unusedSimpArgs false
/-
 A part.
-/
section
namespace Go.Av.L
open IntKind (i64)
open Go.Av Go.Lib
set_option linter.unusedVariables false
set_option linter.unusedSimpArgs false
theorem Jr{s:List UInt8}(B:s.length=512){k:Int}{f n:Nat}(I:Kx ([⟨0,100⟩,⟨100,8⟩,⟨108,8⟩,⟨116,8⟩,⟨124,12⟩,⟨136,12⟩,⟨157,100⟩,⟨265,32⟩,⟨297,32⟩,⟨329,8⟩,⟨337,8⟩,⟨345,155⟩]:List BS) k=some ⟨(f:Int),(n:Int)⟩)(hf:f+n<=512):
  BD s k=some ((s.drop f).take n)/\((s.drop f).take n).length=n:=by
 refine⟨?_,by rw[zA,yc];omega⟩;unfold BD GC;simp only[za];rw[I];simp only[za];rw[show i64.wrap ((f:Int)+(n:Int))=((f+n:Nat):Int) by rw[Ek om om];omega,Lw om om,show f+n - f=n by omega];rfl
section
variable {s:List UInt8} (B:s.length=512)
include B
theorem mj:∃x,BD s 0=some x/\x.length=100:=⟨_,Jr B (f:=0) (n:=100) rfl om⟩
theorem ly:∃x,BD s 1=some x/\x.length=8:=⟨_,Jr B (f:=100) (n:=8) rfl om⟩
theorem mN:∃x,BD s 2=some x/\x.length=8:=⟨_,Jr B (f:=108) (n:=8) rfl om⟩
theorem l8:∃x,BD s 3=some x/\x.length=8:=⟨_,Jr B (f:=116) (n:=8) rfl om⟩
theorem mF:∃x,BD s 4=some x/\x.length=12:=⟨_,Jr B (f:=124) (n:=12) rfl om⟩
theorem mM:∃x,BD s 5=some x/\x.length=12:=⟨_,Jr B (f:=136) (n:=12) rfl om⟩
theorem mb:∃x,BD s 6=some x/\x.length=100:=⟨_,Jr B (f:=157) (n:=100) rfl om⟩
theorem mV:∃x,BD s 7=some x/\x.length=32:=⟨_,Jr B (f:=265) (n:=32) rfl om⟩
theorem mm:∃x,BD s 8=some x/\x.length=32:=⟨_,Jr B (f:=297) (n:=32) rfl om⟩
theorem mq:∃x,BD s 9=some x/\x.length=8:=⟨_,Jr B (f:=329) (n:=8) rfl om⟩
theorem ku:∃x,BD s 10=some x/\x.length=8:=⟨_,Jr B (f:=337) (n:=8) rfl om⟩
theorem lS:∃x,BD s 11=some x/\x.length=155:=⟨_,Jr B (f:=345) (n:=155) rfl om⟩
end
theorem Ju{s:List UInt8}{i:Int}(h:0<=i)(h2:i<s.length):∃v,KE s i=some v:=by
 obtain⟨n,rfl⟩:∃n:Nat,i=(n:Int):=⟨i.toNat,by omega⟩;exact⟨_,VW (List.getElem?_eq_getElem (show n<s.length by omega))⟩
theorem db{s:List UInt8}(B:2<=s.length/\s.length<=12):W (Iq s) λ_=>True:=by
 unfold Iq;obtain⟨v,F⟩:=Ju (s:=s) (i:=0) om om;have key:∀z:Int,W (loop (IF s) (z,(1:Int))) λ_=>True:=by
  intro z;refine W.loop (λt=>0<=t.2/\t.2<=s.length) (λt=>(s.length - t.2).toNat) ⟨by show(0:Int)<=1;omega,by show(1:Int)<=_;omega⟩ ?_;rintro⟨x3,x4⟩ ⟨h1,h2⟩;simp only at h1 h2;unfold IF;refine Ce (λh=>?_) λh=>Ae trivial;obtain⟨u,hu⟩:=Ju h1 h;refine Aq (CJ hu (Bc (λ_=>Ae trivial) λ_=>Ae ⟨?_,?_⟩))
  ·show 0<=i64.wrap (x4+1)/\i64.wrap (x4+1)<=_;rw[Ek om om];omega
  ·show(_ - i64.wrap (x4+1)).toNat<(_ - x4).toNat;rw[Ek om om];omega
 refine Aq (Aq (CJ F ?_));have C:∃z:Int,(Ag (v==255) (some (-1:Int)) (some (0:Int)))=some z:=by cases v==255<;>exact⟨_,rfl⟩
 obtain⟨z,C⟩:=C;refine CJ C (Aq ((key z).mono λr _=>?_));rcases r with x|⟨a,b⟩
 ·exact Bc (λ_=>Ae trivial) λ_=>Ae trivial
 ·exact Ae trivial
theorem XP{s:List UInt8}(B:s.length<=12):W (Hb s) λ_=>True:=by
 unfold Hb;have key:W (loop (HJ s) ((0:Int),(0:Int),false,(0:Int))) λ_=>True:=by
  refine W.loop (λt=>0<=t.2.2.2/\t.2.2.2<=s.length) (λt=>(s.length - t.2.2.2).toNat) ⟨by show(0:Int)<=0;omega,by show(0:Int)<=_;omega⟩ ?_;rintro⟨x1,x2,x3,x4⟩ ⟨h1,h2⟩;simp only at h1 h2;unfold HJ;refine Ce (λh=>?_) λh=>Ae trivial;obtain⟨u,hu⟩:=Ju h1 h;refine Aq (Aq (CJ hu ?_));have nx:(0<=i64.wrap (x4+1)/\i64.wrap (x4+1)<=(s.length:Int))/\((s.length:Int) - i64.wrap (x4+1)).toNat<((s.length:Int) - x4).toNat:=by
   rw[Ek om om];omega
  refine Bc (λ_=>Bc (λ_=>Ae (Ae nx)) λ_=>Ae (Ae nx)) λ_=>Bc (λ_=>Ae (Ae nx)) λ_=>Bc (λ_=>Ae (Ae nx)) λ_=>Ae (Ae trivial)
 refine Aq (key.mono λr _=>?_);rcases r with⟨a,b⟩|⟨a,b⟩
 ·exact Bc (λ_=>Ae trivial) λ_=>Ae trivial
 ·exact Ae trivial
theorem YZ{s:List UInt8}(B:s.length<=12):∃v e,CS s=some (v,e):=by
 have key:W (CS s) λ_=>True:=by
  unfold CS IY;simp only[za];refine Bc (λ_=>Ae trivial) λh=>?_;have h2:2<=s.length:=by
   simp only[yP,zf,zy]at h;omega
  obtain⟨u,hu⟩:=Ju (s:=s) (i:=0) om om;refine Aq (CJ hu (Aq ?_));have C:∃z,(Ag (u==128) (some true) ((KE s (0:Int)).bind λx4=>some (x4==255)))=some z:=by rw[hu];cases u==128<;>exact⟨_,rfl⟩
  obtain⟨z,C⟩:=C;refine CJ C (Bc (λ_=>Aq ((db ⟨h2,B⟩).mono λ_ _=>Ae trivial)) λ_=>Aq ((XP B).mono λ_ _=>Ae trivial))
 obtain⟨⟨v,e⟩,h,_⟩:=key;exact⟨v,e,h⟩
end Go.Av.L
end
/-
 A part.
-/
section
namespace Go.Av.L
open IntKind (i64)
open Go.Av Go.Lib
set_option linter.unusedVariables false
set_option linter.unusedSimpArgs false
theorem aC(s:List UInt8)(B:s.length<=1000000):∃b,Hl s=some b:=by
 have key:W (Hl s) λ_=>True:=by
  unfold Hl;refine Aq ((W.loop (Q:=λ_=>True) (λt:Int=>0<=t/\t<=s.length) (λt=>(s.length - t).toNat) ⟨by omega,by omega⟩ ?_).mono λr _=>?_)
  ·intro t ⟨h1,h2⟩;unfold Jv;refine Ce (λh=>?_) λh=>Ae trivial;obtain⟨u,hu⟩:=Ju h1 h;refine Aq (CJ hu (Bc (λ_=>Ae trivial) λ_=>Ae ?_));have nx:(0<=i64.wrap (t+1)/\i64.wrap (t+1)<=(s.length:Int))/\((s.length:Int) - i64.wrap (t+1)).toNat<((s.length:Int) - t).toNat:=by
    rw[Ek om om];omega
   exact nx
  ·rcases r with _|b
   ·exact Ae trivial
   ·exact Ae trivial
 obtain⟨b,h,_⟩:=key;exact⟨b,h⟩
theorem cH(s:List UInt8)(B:s.length<=1000000):∃b,IX s=some b:=by
 have key:W (IX s) λ_=>True:=by
  unfold IX;refine Aq ((W.loop (Q:=λ_=>True) (λt:Int×Int×Int=>0<=t.2.2/\t.2.2<=s.length) (λt=>(s.length - t.2.2).toNat) ⟨by show(0:Int)<=0;omega,by show(0:Int)<=_;omega⟩ ?_).mono λr _=>Ae trivial);rintro⟨x1,x2,t⟩ ⟨h1,h2⟩;simp only at h1 h2;unfold KP;refine Ce (λh=>?_) λh=>Ae trivial;obtain⟨u,hu⟩:=Ju h1 h;have nx:(0<=i64.wrap (t+1)/\i64.wrap (t+1)<=(s.length:Int))/\((s.length:Int) - i64.wrap (t+1)).toNat<((s.length:Int) - t).toNat:=by
   rw[Ek om om];omega
  refine Aq (CJ hu (Aq ?_));exact Bc (λ_=>Ae (Ae nx)) λ_=>Ae (Ae nx)
 obtain⟨b,h,_⟩:=key;exact⟨b,h⟩
theorem Zb{s:List UInt8}(B:s.length=512):∃b,He s=some b:=by
 have key:W (He s) λ_=>True:=by
  unfold He;obtain⟨u,hu⟩:=Ju (s:=s) (i:=148) om om;refine Aq ?_;have C:∃z,(Ag ((s.length:Int) !=512) (some true) ((KE s (148:Int)).bind λx2=>some (decide (x2>=128))))=some z:=by rw[hu];cases((s.length:Int) !=512)<;>exact⟨_,rfl⟩
  obtain⟨z,C⟩:=C;refine CJ C (Bc (λ_=>Ae trivial) λ_=>?_);have D:E4 s (some (148:Int)) (some (156:Int))=some ((s.drop 148).take (156 - 148)):=Lw (i:=148) (j:=156) om om;obtain⟨v,e,J⟩:=YZ (s:=(s.drop 148).take (156 - 148)) (by rw[zA,yc];omega);obtain⟨b,H⟩:=cH s om;refine Aq (CJ D (Aq (CJ J (Bc (λ_=>Ae trivial) λ_=>Aq (CJ H (Aq ?_))))));refine(W.loop (Q:=λ_=>True) (λt:Int=>0<=t/\t<=2) (λt=>(2 - t).toNat) ⟨by omega,by omega⟩ ?_).mono λr _=>?_
  ·intro t ⟨h1,h2⟩;unfold Jo;refine Ce (λh=>?_) λh=>Ae trivial;obtain⟨x,I⟩:∃x,Kx ([b.w0,b.w1]:List Int) t=some x:=by
    have:t=0\/t=1:=by omega
    rcases this with rfl|rfl<;>exact⟨_,rfl⟩
   have nx:(0<=i64.wrap (t+1)/\i64.wrap (t+1)<=(2:Int))/\((2:Int) - i64.wrap (t+1)).toNat<((2:Int) - t).toNat:=by
    rw[Ek om om];omega
   exact Aq (CJ I (Bc (λ_=>Ae trivial) λ_=>Ae nx))
  ·rcases r with _|b<;>exact Ae trivial
 obtain⟨b,h,_⟩:=key;exact⟨b,h⟩
theorem ZD(s t:List UInt8):(Lib.cut s t).1.length<=s.length:=by
 unfold Lib.cut;split
 ·show(s.take _).length<=_;rw[zA];omega
 ·exact zw _
theorem R2{s:List UInt8}(B:s.length<=1000000):∃t,Cd s=some t/\t.length<=s.length:=by
 refine⟨_,?_,ZD s [0]⟩;unfold Cd;rw[zg om,BR]
theorem Mf{α:Type}{s:List UInt8}{k:Int}(hc:∃x,BD s k=some x/\x.length<=12){f:Int×Int->Option α}{Q:α->Prop}(h:∀v e,W (f (v,e)) Q):W ((BD s k).bind λx=>(CS x).bind f) Q:=by
 obtain⟨x,h1,h2⟩:=hc;obtain⟨v,e,J⟩:=YZ h2;exact Aq (CJ h1 (Aq (CJ J (h v e))))
theorem Vq{α:Type}{s:List UInt8}{k:Int}(hc:∃x,BD s k=some x/\x.length<=155){f:List UInt8->Option α}{Q:α->Prop}(h:∀t:List UInt8,t.length<=155->W (f t) Q):W ((BD s k).bind λx=>(Cd x).bind f) Q:=by
 obtain⟨x,h1,h2⟩:=hc;obtain⟨t,G,K⟩:=R2 (s:=x) om;exact Aq (CJ h1 (Aq (CJ G (h t om))))
theorem V7{s:List UInt8}{k:Int}{n m:Nat}(h:∃x,BD s k=some x/\x.length=n)(hm:n<=m):∃x,BD s k=some x/\x.length<=m:=by
 obtain⟨x,h1,h2⟩:=h;exact⟨x,h1,by omega⟩
def aF(h:AO)(r:Int×AO):Prop:=(r.1=0->0<=r.2.B9)/\r.2.A6=h.A6/\r.2.A7=h.A7/\r.2.Form=h.Form
theorem Z2{s:List UInt8}(B:s.length=512)(h:AO):W (Dt s h) (aF h):=by
 unfold Dt;have bad:∀{e:Int} {x:AO},(e !=0)=true->x.A6=h.A6->x.A7=h.A7->x.Form=h.Form->W (some (e,x)) (aF h):=λhe a b c=>Ae ⟨λh0=>absurd h0 (bne_iff_ne.1 he),a,b,c⟩;have bad6:∀{x:AO},x.A6=h.A6->x.A7=h.A7->x.Form=h.Form->W (some (6,x)) (aF h):=λa b c=>Ae ⟨λh0=>absurd (show(6:Int)=0 from h0) (by decide),a,b,c⟩;refine Mf (V7 (ly B) om) λv e=>Bc (λhe=>bad he rfl rfl rfl) λ_=>Bc (λhe=>bad6 rfl rfl rfl) λ_=>?_;refine Mf (V7 (mN B) om) λv e=>Bc (λhe=>bad he rfl rfl rfl) λ_=>Bc (λhe=>bad6 rfl rfl rfl) λ_=>?_;refine Mf (V7 (l8 B) om) λv e=>Bc (λhe=>bad he rfl rfl rfl) λ_=>Bc (λhe=>bad6 rfl rfl rfl) λ_=>?_;refine Mf (V7 (mF B) om) λv e=>Bc (λhe=>bad he rfl rfl rfl) λ_=>Bc (λhe=>bad6 rfl rfl rfl) λC=>?_;have F:0<=v:=by simp only[yY,zD]at C;omega
 refine Mf (V7 (mM B) om) λv e=>Bc (λhe=>bad he rfl rfl rfl) λ_=>Bc (λhe=>bad6 rfl rfl rfl) λ_=>?_;refine Mf (V7 (mq B) om) λv e=>Bc (λhe=>bad he rfl rfl rfl) λ_=>Bc (λhe=>bad6 rfl rfl rfl) λ_=>?_;refine Mf (V7 (ku B) om) λv e=>Bc (λhe=>bad he rfl rfl rfl) λ_=>Bc (λhe=>bad6 rfl rfl rfl) λ_=>Ae ⟨λ_=>F,rfl,rfl,rfl⟩
theorem Zj{s:List UInt8}(B:s.length=512)(h:AO):W (Ds s h) (aF h):=by
 unfold Ds;have bad:∀{e:Int} {x:AO},(e !=0)=true->x.A6=h.A6->x.A7=h.A7->x.Form=h.Form->W (some (e,x)) (aF h):=λhe a b c=>Ae ⟨λh0=>absurd h0 (bne_iff_ne.1 he),a,b,c⟩;have bad6:∀{x:AO},x.A6=h.A6->x.A7=h.A7->x.Form=h.Form->W (some (6,x)) (aF h):=λa b c=>Ae ⟨λh0=>absurd (show(6:Int)=0 from h0) (by decide),a,b,c⟩;refine Mf (V7 (ly B) om) λv e=>Bc (λhe=>bad he rfl rfl rfl) λ_=>Bc (λhe=>bad6 rfl rfl rfl) λ_=>?_;refine Mf (V7 (mN B) om) λv e=>Bc (λhe=>bad he rfl rfl rfl) λ_=>Bc (λhe=>bad6 rfl rfl rfl) λ_=>?_;refine Mf (V7 (l8 B) om) λv e=>Bc (λhe=>bad he rfl rfl rfl) λ_=>Bc (λhe=>bad6 rfl rfl rfl) λ_=>?_;refine Mf (V7 (mF B) om) λv e=>Bc (λhe=>bad he rfl rfl rfl) λ_=>Bc (λhe=>bad6 rfl rfl rfl) λC=>?_;have F:0<=v:=by simp only[yY,zD]at C;omega
 refine Mf (V7 (mM B) om) λv e=>Bc (λhe=>bad he rfl rfl rfl) λ_=>Bc (λhe=>bad6 rfl rfl rfl) λ_=>Ae ⟨λ_=>F,rfl,rfl,rfl⟩
structure jU(h:AO):Prop where
 size:0<=h.B9
 name:h.Name.length<=400
 link:h.BG.length<=400
 uname:h.A6.length<=400
 ji:h.A7.length<=400
theorem bO{a b:List UInt8}(ha:a.length<=155)(H:b.length<=155):∃t,Gq a b=some t/\t.length<=400:=by
 unfold Gq;by_cases h:a=[]
 ·subst h;exact⟨b,rfl,by omega⟩
 ·rw[show(a==([]:List UInt8))=false from beq_eq_false_iff_ne.2 h,AV,zg (by simp;omega),BR,zg (by simp;omega),BR];exact⟨_,rfl,by simp;omega⟩
theorem ZG{s:List UInt8}(B:s.length=512):∃h e,Gj s=some (h,e)/\(e=0->jU h):=by
 have key:W (Gj s) λr=>r.2=0->jU r.1:=by
  unfold Gj;rw[show((s.length:Int) !=512)=false by rw[B];rfl,AV];obtain⟨b,H⟩:=Zb B;refine Aq (CJ H (Bc (λ_=>Ae λh=>absurd h (by decide)) λ_=>?_));have D:E4 s (some (257:Int)) (some (265:Int))=some ((s.drop 257).take (265 - 257)):=Lw (i:=257) (j:=265) om om;refine Aq (CJ D (Aq ?_));have hform:∀t,∃z,H8 t=some z:=λt=>by
   unfold H8;cases(t==([117,115,116,97,114,0,48,48]:List UInt8))<;>cases(t==([117,115,116,97,114,32,32,0]:List UInt8))<;>cases(t==([0,0,0,0,0,0,0,0]:List UInt8))<;>exact⟨_,rfl⟩
  obtain⟨z,C⟩:=hform ((s.drop 257).take (265 - 257));obtain⟨u,hu⟩:=Ju (s:=s) (i:=156) om om;have hkind:∃k,((KE s (156:Int)).bind λx19=>Ag (x19==0) (some (48:Int)) (some x19))=some k:=by rw[hu,za];cases u==0<;>exact⟨_,rfl⟩
  obtain⟨k,hk⟩:=hkind;have rest:∀(f:Bool) (x9:AO),0<=x9.B9->x9.A6.length<=400->x9.A7.length<=400->W ((BD s (0:Int)).bind λx10=>(Cd x10).bind λx11=>(BD s (6:Int)).bind λx12=>(Cd x12).bind λx13=>(Ag f ((BD s (11:Int)).bind λx15=>(Cd x15).bind λx16=>(Gq x16 x11).bind λx17=>some x17) (some x11):Option (((List UInt8)))).bind λx14=>((KE s (156:Int)).bind λx19=>Ag (x19==0) (some (48:Int)) (some x19):Option ((Int))).bind λx18=>some (({x9 with Name:=x14,BG:=x13,Kind:=x18}:AO),(0:Int))) λr=>r.2=0->jU r.1:=by
   intro f x9 g1 g2 g3;refine Vq (V7 (mj B) om) λt1 h1=>Vq (V7 (mb B) om) λt2 h2=>Aq ?_;have hn:W (Ag f ((BD s (11:Int)).bind λx15=>(Cd x15).bind λx16=>(Gq x16 t1).bind λx17=>some x17) (some t1):Option (List UInt8)) λt=>t.length<=400:=by
    refine Bc (λ_=>Vq (V7 (lS B) om) λt3 h3=>?_) λ_=>Ae om;obtain⟨t,G,K⟩:=bO h3 h1;exact Aq (CJ G (Ae K))
   refine hn.mono λt G=>Aq (CJ hk (Ae λ_=>⟨g1,G,by show t2.length<=400;omega,g2,g3⟩))
  refine CJ C (Bc (λ_=>Ae λh=>absurd h (by decide)) λ_=>Bc (λ_=>?_) λ_=>?_)
  ·refine Vq (V7 (mV B) om) λt1 h1=>Vq (V7 (mm B) om) λt2 h2=>Aq ((Z2 B _).mono ?_);rintro⟨e,x⟩ ⟨q1,q2,q3,q4⟩;refine Bc (λhe=>Ae λh=>absurd h (bne_iff_ne.1 he)) λhe=>?_;have E:e=0:=bne_eq_false_iff_eq.1 he;exact rest _ x (q1 E) (by rw[show x.A6=t1 from q2];omega) (by rw[show x.A7=t2 from q3];omega)
  ·refine Aq ((Zj B _).mono ?_);rintro⟨e,x⟩ ⟨q1,q2,q3,q4⟩;refine Bc (λhe=>Ae λh=>absurd h (bne_iff_ne.1 he)) λhe=>?_;have E:e=0:=bne_eq_false_iff_eq.1 he;exact rest _ x (q1 E) (by rw[show x.A6=[] from q2];simp) (by rw[show x.A7=[] from q3];simp)
 obtain⟨⟨h,e⟩,h1,h2⟩:=key;exact⟨h,e,h1,h2⟩
end Go.Av.L
end
