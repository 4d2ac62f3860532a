/-
  Several texts in one.
-/
import Derived.Test.YthhonebaoidfgaaGreatDoorK11
set_option linter.unusedSimpArgs false
/-
 A part.
-/
section
namespace Go.Av.L
open IntKind (i64)
open Go.Av Go.Lib
set_option linter.unusedVariables false
set_option linter.unusedSimpArgs false
abbrev Fd:=Aj
def SX(now:List UInt8)(wait:List (List UInt8)):List (List UInt8):=if now=[]then wait else now::wait
abbrev Aj.cs(f:Aj):List (List UInt8):=SX f.QM f.BC
structure dp(f:Fd):Prop where
 ne:∀x∈f.BC,x≠[]
 sz:f.EM=(f.cs.flatten.length:Int)
 len:f.cs.length<=64
 jR:∀x∈f.cs,x.length<=65536
theorem V5(now:List UInt8)(wait:List (List UInt8)):(SX now wait).flatten=now++wait.flatten:=by
 unfold SX;split
 ·rename_i h;rw[h];rfl
 ·rfl
theorem ey(l:List (List UInt8))(h:∀x∈l,x.length<=65536):l.flatten.length<=l.length*65536:=by
 induction l with
 |nil=>simp
 |cons x l ih=>
  have h1:=h x (by simp);have h2:=ih λy S=>h y (by simp[S]);simp only[yi,zi,zG];omega
theorem dp.fY{f:Fd}(h:dp f):f.cs.flatten.length<=4194304:=by
 have:=ey f.cs h.jR;have:=h.len;omega
theorem dp.j8{f:Fd}(h:dp f):∀x∈f.cs,x≠[]:=by
 intro x D;unfold Aj.cs SX at D;split at D
 ·exact h.ne x D
 ·rename_i G;rcases zF.1 D with rfl|D
  ·exact G
  ·exact h.ne x D
theorem fX(f:Fd)(h:dp f):D5 f=some (f.cs.length:Int):=by
 have P:=h.len;unfold D5;cases G:f.QM with
 |nil=>
  simp only[zQ,yg,AV,za,Aj.cs,SX,G,if_true]
 |cons b t=>
  have:((b::t)==([]:List UInt8))=false:=rfl;simp only[this,yE,Ah,za,Aj.cs,SX,G,zj (List.cons_ne_nil b t),zG];simp only[Aj.cs,SX,G,zj (List.cons_ne_nil b t),zG]at P;rw[Ek om om];simp
def lh(f:Fd)(p:List UInt8)(r:Int×Aj×List (List UInt8)):Prop:=
 r.2.2=r.2.1.BC/\
 if 65536<p.length then r.1=12/\r.2.1=f else if f.Gu=true then r.1=10/\r.2.1=f else if p=[]then r.1=0/\r.2.1=f else if 64<=f.cs.length then r.1=8/\r.2.1=f
 else r.1=0/\r.2.1.Gu=f.Gu/\r.2.1.cs=f.cs++[p]/\dp r.2.1
theorem kq(f:Fd)(p:List UInt8)(h:dp f):W (Dd f p) (lh f p):=by
 unfold Dd;refine Ce (λh1=>Ae ⟨rfl,?_⟩) λh1=>Bc (λh2=>Ae ⟨rfl,?_⟩) λh2=>Bc (λP=>Ae ⟨rfl,?_⟩) λP=>?_
 ·rw[zl om];exact⟨rfl,rfl⟩
 ·rw[zj om,zl h2];exact⟨rfl,rfl⟩
 ·have Q:p=[]:=by
   have:(p.length:Int)=0:=by simpa using P
   exact zx om
  rw[zj om,zj (by rw[h2];simp),zl Q];exact⟨rfl,rfl⟩
 ·have Q:p≠[]:=by
   intro e;subst e;simp at P
  rw[fX f h,za];refine Ce (λO=>Ae ⟨rfl,?_⟩) λO=>?_
  ·rw[zj om,zj (by rw[h2];simp),zj Q,zl om];exact⟨rfl,rfl⟩
  ·have hlen:f.cs.length<64:=by omega
   have hw:f.BC.length<=f.cs.length:=by unfold Aj.cs SX;split<;>simp
   have N:Nat.blt f.BC.length 64=true:=by rw[yH];omega
   rw[N,Ah];refine Ae ⟨rfl,?_⟩;have I:(SX f.QM (f.BC++[p]))=f.cs++[p]:=by
    unfold Aj.cs SX;split<;>simp
   have U:=h.fY;rw[zj om,zj (by rw[h2];simp),zj Q,zj om];refine⟨rfl,rfl,I,⟨λx D=>?_,?_,?_,λx D=>?_⟩⟩
   ·rcases zu.1 D with D|D
    ·exact h.ne x D
    ·rw[zU.1 D];exact Q
   ·show i64.wrap (f.EM+(p.length:Int))=((SX f.QM (f.BC++[p])).flatten.length:Int);rw[I,h.sz,Ek om om];simp
   ·show(SX f.QM (f.BC++[p])).length<=64;rw[I];simp;omega
   ·have D:x∈f.cs++[p]:=by rw[<-I];exact D
    rcases zu.1 D with D|D
    ·exact h.jR x D
    ·rw[zU.1 D];omega
def GH:List (List UInt8)->Nat->List (List UInt8)
 |[],_=>[]
 |x::l,n=>if n<x.length then x.drop n::l else GH l (n - x.length)
theorem Sa:∀(l:List (List UInt8)),(∀x∈l,x≠[])->GH l 0=l
 |[],_=>rfl
 |x::l,h=>by
  have:0<x.length:=yK.2 (h x (by simp));simp[GH,this]
theorem UK:∀(l:List (List UInt8)),(∀x∈l,x≠[])->∀a b,GH (GH l a) b=GH l (a+b)
 |[],_,a,b=>rfl
 | x::l,h,a,b=>by
  have ih:=UK l (λy S=>h y (by simp[S]));by_cases h1:a<x.length
  ·simp only[GH,zl h1];by_cases h2:a+b<x.length
   ·rw[zl (by simp;omega),zl h2,qr]
   ·rw[zj (by simp;omega),zj h2];congr 1;simp;omega
  ·simp only[GH,zj h1,zj (show ¬a+b<x.length by omega)];rw[ih];congr 1;omega
theorem QQ:∀(l:List (List UInt8)) (n:Nat),l.flatten.length<=n->(∀x∈l,x≠[])->GH l n=[]
 |[],_,_,_=>rfl
 |x::l,n,h,G=>by
  simp only[yi,zi]at h;have:0<x.length:=yK.2 (G x (by simp));simp only[GH,zj (show ¬n<x.length by omega)];exact QQ l _ om λy S=>G y (by simp[S])
theorem TG:∀(l:List (List UInt8)) (n:Nat),(GH l n).flatten=l.flatten.drop n
 |[],n=>by simp[GH]
 | x::l,n=>by
  unfold GH;split
  ·rename_i h;rw[yi,yi,y9 om]
  ·rename_i h;rw[TG l,yi,xp,qb (show x.length<=n by omega),ye]
theorem UO:∀(l:List (List UInt8)) (n:Nat),(GH l n).length<=l.length
 |[],n=>by simp[GH]
 |x::l,n=>by
  unfold GH;split
  ·simp
  ·have:=UO l (n - x.length);simp;omega
theorem UE:∀(l:List (List UInt8)) (n:Nat),(∀x∈l,x.length<=65536)->∀x∈GH l n,x.length<=65536
 |[],_,_=>λx D=>by simp[GH]at D
 | y::l,n,h=>by
  unfold GH;split
  ·intro x D;rcases zF.1 D with rfl|D
   ·have:=h y (by simp);simp;omega
   ·exact h x (by simp[D])
  ·exact UE l _ λz V=>h z (by simp[V])
def bE(f:Fd)(n:Int)(r:List UInt8×Aj×List (List UInt8)):Prop:=
 r.2.2=r.2.1.BC/\r.1=f.cs.flatten.take n.toNat/\r.2.1.Gu=f.Gu/\r.2.1.cs=GH f.cs n.toNat/\dp r.2.1
theorem jw(f:Fd)(n:Int)(h:dp f)(G:n<=9223372036854775807):W (BH f n) (bE f n):=by
 unfold BH;have U:=h.fY;have R:=h.j8;generalize hT:f.cs.flatten=T at U
 refine Aq (W.loop (λs=>s.1++(s.2.1++s.2.2.2.2.flatten)=T/\(s.1.length:Int)<=max n 0/\SX s.2.1 s.2.2.2.2=GH f.cs s.1.length/\s.2.2.1=f.EM/\s.2.2.2.1=f.Gu/\∀x∈s.2.2.2.2,x≠[]) (λs=>(n - s.1.length).toNat)
  ⟨by simp only[ye];rw[<-V5];exact hT,by simp;omega,(Sa _ R).symm,rfl,rfl,h.ne⟩ ?_)
 rintro⟨out,now,size,closed,wait⟩ ⟨i1,i2,i3,i4,i5,i6⟩;simp only at i1 i2 i3 i4 i5 i6;have hol:out.length<=T.length:=by rw[<-i1];simp
 have fin:∀(now':List UInt8) (wait':List (List UInt8)),out++(now'++wait'.flatten)=T->SX now' wait'=GH f.cs out.length->(∀x∈wait',x≠[])->(n<=out.length\/(now'=[]/\wait'=[]))->
   W (some (out,(⟨wait',now',i64.wrap (size - (out.length:Int)),closed⟩:Aj),wait')) (bE f n):=by
  intro now' wait' j1 j2 j3 j4;have I:SX now' wait'=GH f.cs n.toNat:=by
   rcases j4 with j4|⟨rfl,rfl⟩
   ·rw[j2];congr 1;omega
   ·have e:out=T:=by simpa using j1
    have e2:GH f.cs out.length=[]:=QQ _ _ (by rw[hT,e];omega) R;by_cases hh:(out.length:Int)<=n
    ·rw[j2,e2,QQ _ _ (by rw[hT];rw[e]at hh;omega) R]
    ·rw[j2];congr 1;omega
  refine Ae ⟨rfl,?_,i5,I,⟨j3,?_,?_,?_⟩⟩
  ·rw[hT,<-j1];rcases j4 with j4|⟨rfl,rfl⟩
   ·have:n.toNat=out.length:=by omega
    rw[this,xb]
   ·simp only[qR,zR];by_cases hh:(out.length:Int)<=n
    ·rw[zB om]
    ·have:n.toNat=out.length:=by omega
     rw[this,yr]
  ·show i64.wrap (size - (out.length:Int))=((SX now' wait').flatten.length:Int);have C:=h.sz;rw[hT]at C;rw[V5,i4,C,Ek om om];have:=congrArg List.length j1;simp only[zi]at this⊢;omega
  ·show(SX now' wait').length<=64;rw[I];exact z8 (UO _ _) h.len
  ·show ∀x∈SX now' wait',x.length<=65536;rw[I];exact UE _ _ h.jR
 unfold F9;refine Ce (λhlt=>?_) λhge=>Ae (fin now wait i1 i3 i6 (.inl om));have next:∀(now':List UInt8) (wait':List (List UInt8)),now'≠[]->out++(now'++wait'.flatten)=T->SX now' wait'=GH f.cs out.length->(∀x∈wait',x≠[])->
   W ((E4 now' none (some (mn (i64.wrap (n - (out.length:Int))) (now'.length:Int)))).bind λx19=>B4 (L1 1 (out.length+x19.length))<|(E4 now' (some (mn (i64.wrap (n - (out.length:Int))) (now'.length:Int))) none).bind λx20=>
    some (.inl ((out++x19),x20,size,closed,wait'):(List UInt8×List UInt8×Int×Bool×List (List UInt8))⊕(List UInt8×List UInt8×Int×Bool×List (List UInt8)))) (λr=>match r with
     | .inl s'=>(s'.1++(s'.2.1++s'.2.2.2.2.flatten)=T/\(s'.1.length:Int)<=max n 0/\SX s'.2.1 s'.2.2.2.2=GH f.cs s'.1.length/\s'.2.2.1=f.EM/\s'.2.2.2.1=f.Gu/\∀x∈s'.2.2.2.2,x≠[])/\(n - s'.1.length).toNat<(n - out.length).toNat
     | .inr r=>W (match r with|(x6,x7,x8,x9,x10)=>some (x6,(⟨x10,x7,i64.wrap (x8 - (x6.length:Int)),x9⟩:Aj),x10)) (bE f n)):=by
  intro now' wait' Z j1 j2 j3;have E:=congrArg List.length j1;simp only[zi]at E;have hnl:0<now'.length:=yK.2 Z;obtain⟨k,hk⟩:∃k:Nat,mn (i64.wrap (n - (out.length:Int))) (now'.length:Int)=(k:Int)/\k<=now'.length/\0<k/\(out.length+k:Int)<=n/\(k=now'.length\/(out.length+k:Int)=n):=by
   rw[Ek om om];unfold mn;split
   ·exact⟨now'.length,by omega⟩
   ·exact⟨(n - (out.length:Int)).toNat,by omega⟩
  obtain⟨hk,k1,k2,k3,k4⟩:=hk;rw[hk,Hp k1,LH k1];simp only[za];have I:SX (now'.drop k) wait'=GH f.cs (out.length+k):=by
   rw[<-UK _ R,<-j2];unfold SX;rw[zj Z];by_cases e:k=now'.length
   ·subst e;rw[xq,zl rfl];simp only[GH,zj (Nat.lt_irrefl _),Nat.sub_self];exact(Sa _ j3).symm
   ·rw[zj (λe2=>by have:=congrArg List.length e2;simp at this;omega)];simp only[GH,zl (show k<now'.length by omega)]
  have e1:(out++now'.take k).length=out.length+k:=by simp;omega
  refine E5 (JH (by rw[zA];omega) (by rw[zA];omega)) (Ae ⟨⟨?_,?_,?_,i4,i5,j3⟩,?_⟩)
  ·simp only[zC];rw[<-j1];congr 1;rw[<-zC,zI]
  ·simp only[e1];omega
  ·simp only[e1];exact I
  ·simp only[e1];omega
 by_cases K:now=[]
 ·subst K;rw[show(([]:List UInt8)==[])=true from rfl,Ah];unfold Fz;cases wait with
  |nil=>
   simp only[List.isEmpty_nil,Ah,za,yE];exact Ae (fin [] [] i1 i3 (by simp) (.inr ⟨rfl,rfl⟩))
  |cons y ys=>
   simp only[List.isEmpty_cons,AV,ke,za,yg];have S:=i6 y (by simp);refine(next y ys S (by simpa using i1) ?_ λx D=>i6 x (by simp[D])).mono λr h=>by cases r<;>exact h
   rw[<-i3];unfold SX;rw[zj S,zl rfl]
 ·have:(now==([]:List UInt8))=false:=by cases now;exact absurd rfl K;rfl
  rw[this,AV];simp only[za,AV];exact(next now wait K i1 i3 i6).mono λr h=>by cases r<;>exact h
structure Y4(f:Aj):Prop where
 ok:dp f
 op:f.Gu=false
theorem SF{f:Aj}(B:Y4 f){n:Nat}(G:n<=9000000000000000000):∃f',BH f (n:Int)=some (f.cs.flatten.take n,f',f'.BC)/\Y4 f'/\f'.cs.flatten=f.cs.flatten.drop n:=by
 obtain⟨⟨o,f',w⟩,e,h1,h2,P,O,h5⟩:=jw f n B.ok om;simp only[zS]at h1 h2 P O;refine⟨f',by rw[e,h2,<-h1],⟨h5,P.trans B.op⟩,?_⟩;rw[O,TG]
theorem jC{f:Aj}(B:Y4 f)(h:f.cs.flatten=[]):f.cs=[]:=by
 have G:=B.ok.j8;cases e:f.cs with
 |nil=>rfl
 |cons x t=>
  rw[e]at h G;exfalso;rw[yi]at h;exact G x (by simp) (List.append_eq_nil_iff.1 h).1
theorem lI{f:Aj}(B:Y4 f)(h:f.cs.flatten=[]){c:List UInt8}(hc:c≠[])(E:c.length<=65536):
  ∃f',Dd f c=some (0,f',f'.BC)/\Y4 f'/\f'.cs.flatten=c:=by
 obtain⟨⟨o,f',w⟩,e,h1,h2⟩:=kq f c B.ok;simp only at h1 h2;rw[zj om,zj (by rw[B.op];simp),zj hc,jC B h,zj (by simp)]at h2;obtain⟨rfl,P,O,h5⟩:=h2;exact⟨f',by rw[e,h1],⟨h5,P.trans B.op⟩,by rw[O];simp⟩
end Go.Av.L
end
/-
 A part.
-/
section
namespace Go.Av.L
open IntKind (i64)
open Go.Av
set_option linter.unusedVariables false
structure ZM(σ:Type) where
 over:σ->Bool
 B4:σ->Nat
 part:σ->List UInt8->σ
 fin:σ->List UInt8->σ->Prop
structure ZM.Ok{σ:Type}(M:ZM σ):Prop where
 Ts:∀s b,M.over (M.part s b)=M.over s
 QC:∀s b,M.over s=false->b.length<M.B4 s->M.B4 (M.part s b)=M.B4 s - b.length
 Ua:∀s a b,M.over s=false->(a++b).length<M.B4 s->M.part (M.part s a) b=M.part s (a++b)
 Wz:∀s a b t,M.over s=false->a.length<M.B4 s->(a++b).length=M.B4 s->M.fin (M.part s a) b t->M.fin s (a++b) t
 one:∀s b t t',M.fin s b t->M.fin s b t'->t=t'
inductive I3{σ:Type}(M:ZM σ):σ->List UInt8->σ->Prop
 |over {s w} (h:M.over s=true):I3 M s w s
 |part {s w} (h:M.over s=false) (E:w.length<M.B4 s):I3 M s w (M.part s w)
 |fin {s w t u} (h:M.over s=false) (E:M.B4 s<=w.length) (B:M.fin s (w.take (M.B4 s)) t) (Y:I3 M t (w.drop (M.B4 s)) u):I3 M s w u
theorem I3.mP{σ:Type}{M:ZM σ}(H:M.Ok){s:σ}{w:List UInt8}{t t':σ}(h:I3 M s w t)(h':I3 M s w t'):t=t':=by
 induction h generalizing t' with
 |over h=>cases h' with
  |over=>rfl
  |part h2=>rw[h]at h2;cases h2
  |fin h2=>rw[h]at h2;cases h2
 |part h E=>cases h' with
  |over h2=>rw[h]at h2;cases h2
  |part=>rfl
  |fin _ J=>omega
 | fin h E B Y ih=>cases h' with
  |over h2=>rw[h]at h2;cases h2
  |part _ J=>omega
  |fin _ _ hf2 hr2=>
   rw[H.one _ _ _ _ B hf2]at ih;exact ih hr2
theorem I3.app{σ:Type}{M:ZM σ}(H:M.Ok){s:σ}{a b:List UInt8}{t u:σ}(h:I3 M s a t)(h':I3 M t b u):I3 M s (a++b) u:=by
 induction h with
 |over h=>cases h' with
  |over=>exact .over h
  |part h2=>rw[h]at h2;cases h2
  |fin h2=>rw[h]at h2;cases h2
 | @part s a h E=>
  have ho:M.over (M.part s a)=false:=by rw[H.Ts];exact h
  cases h' with
  |over h2=>rw[ho]at h2;cases h2
  |part _ J=>
   rw[H.QC _ _ h E]at J;have hq:(a++b).length<M.B4 s:=by rw[zi];omega
   rw[H.Ua _ _ _ h hq];exact .part h hq
  | fin _ J B Y=>
   rw[H.QC _ _ h E]at J B Y;have e1:(a++b).take (M.B4 s)=a++b.take (M.B4 s - a.length):=by
    rw[List.take_append,zB om]
   have e2:(a++b).drop (M.B4 s)=b.drop (M.B4 s - a.length):=by
    rw[xp,yI om,ye]
   refine .fin h (by rw[zi];omega) (t:=_) ?_ (by rw[e2];exact Y);rw[e1];exact H.Wz _ _ _ _ h E (by rw[zi,zA];omega) B
 |@fin s a t u h E B Y ih=>
  have e1:(a++b).take (M.B4 s)=a.take (M.B4 s):=qA E;have e2:(a++b).drop (M.B4 s)=a.drop (M.B4 s)++b:=y9 E;exact .fin h (by rw[zi];omega) (by rw[e1];exact B) (by rw[e2];exact ih h')
end Go.Av.L
end
/-
 A part.
-/
section
namespace Go.Av.L
open IntKind (i64)
open Go.Av Go.Lib
set_option linter.unusedVariables false
set_option linter.unusedSimpArgs false
abbrev Rd:=AG
abbrev Ev:=AS
abbrev Td:=A8
def SP:Fd:=⟨[],[],0,false⟩
def ZW:AM:=⟨[],[],0,0,0,0,[],[],0,0,⟨0,0⟩,[],[]⟩
def Jn(b:List UInt8):Ev:=⟨2,ZW,0,b⟩
def QF:Ev:=⟨3,ZW,0,[]⟩
def US:Ev:=⟨4,ZW,0,[]⟩
def N9(m:AM)(n:Int):Ev:=⟨1,m,n,[]⟩
def Tm(x:Td)(e:Ev):Td:=
 if e.Kind=1 then {x with Cn:=true,Partial:=e.Cb}
 else if e.Kind=2 then {x with Partial:={x.Partial with Data:=x.Partial.Data++e.Bytes}}
 else if e.Kind=3 then {x with L:=x.L++[x.Partial],Cn:=false,Partial:=ZW}
 else {x with E8:=true}
def KK(x:Td)(l:List Ev):Td:=l.foldl Tm x
theorem H7(x:Td)(a b:List Ev):KK x (a++b)=KK (KK x a) b:=qM
def IC(x:Td)(b:List UInt8):Td:={x with Partial:={x.Partial with Data:=x.Partial.Data++b}}
def R5(x:Td):Td:={x with L:=x.L++[x.Partial],Cn:=false,Partial:=ZW}
theorem QR(x:Td):IC x []=x:=by unfold IC;simp
theorem Tv(x:Td)(a b:List UInt8):IC (IC x a) b=IC x (a++b):=by unfold IC;simp
def Qm(n:Int):Int:=(n+511) / 512
def TZ(n:Int):Int:=Qm n*512 - n
def Kw(r:Rd):Rd:={r with Af:=3,Ao:=TZ r.Bg.B9,at_:=i64.wrap (r.at_+Qm r.Bg.B9)}
def Z3(r:Rd)(s:List UInt8)(t:Rd)(KH:List Ev):Prop:=
 t.Al=SP/\∀(F:Fd) (p:List Ev),p.length<=1000000000->BL {r with Al:=F} p s=some ({t with Al:=F},F,F.BC,t.A9,p++KH)
def UZ(r:Rd)(t:Rd):Prop:=
 t.Al=SP/\∀F:Fd,Br {r with Al:=F}=some ({t with Al:=F},F,F.BC,t.A9)
theorem YU{t t':Rd}(h:t.Al=SP)(h':t'.Al=SP)(e:({t with Al:=SP}:Rd)={t' with Al:=SP}):t=t':=by
 have e1:({t with Al:=SP}:Rd)=t:=by rw[<-h]
 have e2:({t' with Al:=SP}:Rd)=t':=by rw[<-h']
 rw[<-e1,<-e2,e]
theorem Z3.one{r:Rd}{s:List UInt8}{t t':Rd}{l l':List Ev}(h:Z3 r s t l)(h':Z3 r s t' l'):t=t'/\l=l':=by
 have e:=(h.2 SP [] (by simp)).symm.trans (h'.2 SP [] (by simp));simp only[zb,ze,ye]at e;exact⟨YU h.1 h'.1 e.1,e.2.2.2.2⟩
theorem UZ.one{r:Rd}{t t':Rd}(h:UZ r t)(h':UZ r t'):t=t':=by
 have e:=(h.2 SP).symm.trans (h'.2 SP);simp only[zb,ze]at e;exact YU h.1 h'.1 e.1
abbrev St:=Rd×Td
def JR(s:St):Nat:=if s.1.Af=0 then 512 - s.1.A9.length else s.1.Ao.toNat
def En(s:St)(b:List UInt8):St:=
 if s.1.Af=0 then({s.1 with A9:=s.1.A9++b},s.2)
 else if s.1.Af=1 then({s.1 with Ao:=s.1.Ao - b.length},IC s.2 b)
 else if s.1.Af=2 then({s.1 with Ao:=s.1.Ao - b.length,A9:=s.1.A9++b},s.2)
 else({s.1 with Ao:=s.1.Ao - b.length},s.2)
def JF(s:St)(b:List UInt8)(t:St):Prop:=
 if s.1.Af=0 then ∃r l,Z3 {s.1 with A9:=[]} (s.1.A9++b) r l/\t=({r with at_:=i64.wrap (r.at_+1)},KK s.2 l)
 else if s.1.Af=1 then t=(Kw s.1,R5 (IC s.2 b))
 else if s.1.Af=2 then ∃r,UZ {s.1 with Ao:=s.1.Ao - b.length,A9:=s.1.A9++b} r/\t=(if r.Af=4 then r else Kw r,s.2)
 else t=({s.1 with Af:=0,Ao:=s.1.Ao - b.length},s.2)
def RN:ZM St:={over:=λs=>s.1.Af==4,B4:=JR,part:=En,fin:=JF}
theorem di:RN.Ok where
 Ts s b:=by
  show(((En s b).1.Af==4):Bool)=(s.1.Af==4);unfold En;split;· rfl
  split;· rfl
  split<;>rfl
 QC s b h E:=by
  change b.length<JR s at E;show JR (En s b)=JR s - b.length;unfold JR En at *;split<;>rename_i h0
  ·simp only[h0,if_true,zi];omega
  ·rw[zj h0]at E;split<;>rename_i h1
   ·simp only[h0,if_false];omega
   ·split<;>rename_i h2
    ·simp only[h0,if_false];omega
    ·simp only[h0,if_false];omega
 Ua s a b h E:=by
  show En (En s a) b=En s (a++b);unfold En;split<;>rename_i h0
  ·simp only[h0,if_true,zC]
  ·split<;>rename_i h1
   ·simp only[h0,h1,if_true,if_false,Tv,zi,qq,xd]
   ·split<;>rename_i h2
    ·simp only[h0,h1,h2,if_true,if_false,zC,zi,qq,xd]
    ·simp only[h0,h1,h2,if_true,if_false,zi,qq,xd]
 Wz s a b t h E J B:=by
  change JF (En s a) b t at B;show JF s (a++b) t;by_cases h0:s.1.Af=0
  ·have e:En s a=({s.1 with A9:=s.1.A9++a},s.2):=by unfold En;rw[zl h0]
   rw[e]at B;unfold JF at *;rw[zl (show s.1.Af=0 from h0)]at B;rw[zl h0,<-zC];exact B
  by_cases h1:s.1.Af=1
  ·have e:En s a=({s.1 with Ao:=s.1.Ao - a.length},IC s.2 a):=by unfold En;rw[zj h0,zl h1]
   rw[e]at B;unfold JF at *;rw[zj (show ¬s.1.Af=0 from h0),zl (show s.1.Af=1 from h1)]at B;rw[zj h0,zl h1,<-Tv];exact B
  by_cases h2:s.1.Af=2
  ·have e:En s a=({s.1 with Ao:=s.1.Ao - a.length,A9:=s.1.A9++a},s.2):=by unfold En;rw[zj h0,zj h1,zl h2]
   rw[e]at B;unfold JF at *;rw[zj (show ¬s.1.Af=0 from h0),zj (show ¬s.1.Af=1 from h1),zl (show s.1.Af=2 from h2)]at B;rw[zj h0,zj h1,zl h2,<-zC,zi,qq,<-xd];exact B
  ·have e:En s a=({s.1 with Ao:=s.1.Ao - a.length},s.2):=by unfold En;rw[zj h0,zj h1,zj h2]
   rw[e]at B;unfold JF at *;rw[zj (show ¬s.1.Af=0 from h0),zj (show ¬s.1.Af=1 from h1),zj (show ¬s.1.Af=2 from h2)]at B;rw[zj h0,zj h1,zj h2,zi,qq,<-xd];exact B
 one s b t t' h h':=by
  change JF s b t at h;change JF s b t' at h';unfold JF at *;split at h<;>rename_i h0
  ·rw[zl h0]at h';obtain⟨r,l,k,rfl⟩:=h;obtain⟨r',l',k',rfl⟩:=h';obtain⟨rfl,rfl⟩:=k.one k';rfl
  ·rw[zj h0]at h';split at h<;>rename_i h1
   ·rw[zl h1]at h';rw[h,h']
   ·rw[zj h1]at h';split at h<;>rename_i h2
    ·rw[zl h2]at h';obtain⟨r,k,rfl⟩:=h;obtain⟨r',k',rfl⟩:=h';rw[k.one k']
    ·rw[zj h2]at h';rw[h,h']
end Go.Av.L
end
/-
 A part.
-/
section
namespace Go.Av.L
open IntKind (i64)
open Go.Av Go.Lib
set_option linter.unusedVariables false
set_option linter.unusedSimpArgs false
theorem U7{a b:Int}(ha:0<=a):Int.tmod a b=a%b:=ql ha
theorem fI{a b:Int}(ha:0<=a):Int.tdiv a b=a / b:=qH ha
theorem ZA{n:Int}(h:0<=n)(h2:n<=1099511627776):Ih n=some (TZ n):=by
 unfold Ih TZ Qm;rw[U7 h,Ek om om,U7 om];congr 1;omega
theorem aK{n:Int}(h:0<=n)(h2:n<=1099511627776):Ei n=some (Qm n,0):=by
 unfold Ei Gv;have e:(decide (n>=0)&&decide (n<=1099511627776))=true:=by simp[h,h2]
 rw[e];simp only[za,yg,AV];rw[ZA h h2];simp only[za];have:TZ n=Qm n*512 - n:=rfl;have P:0<=Qm n:=by unfold Qm;omega
 have O:Qm n<=1099511627776:=by unfold Qm;omega
 rw[this,Ek (x:=n+(Qm n*512 - n)) om om,show n+(Qm n*512 - n)=Qm n*512 by omega,fI om,Int.mul_ediv_cancel _ om,Ek om om]
theorem X5{n:Int}(h:0<=n)(h2:n<=1099511627776):HX n=some (TZ n,0):=by
 unfold HX Gv;have e:(decide (n>=0)&&decide (n<=1099511627776))=true:=by simp[h,h2]
 rw[e];simp only[za,yg,AV];rw[ZA h h2];rfl
theorem az(r:Rd)(h:0<=r.Bg.B9)(h2:r.Bg.B9<=1099511627776):CZ r r.Bg.B9=some (Kw r):=by
 unfold CZ;rw[aK h h2,X5 h h2];rfl
theorem eH{n:Int}(h:0<=n):0<=TZ n/\TZ n<=511:=by unfold TZ Qm;omega
abbrev RS:=Rd×List Ev×List UInt8
def NT(r:Rd)(F:Fd)(p:List Ev):RS:=({r with Al:=F},p,r.A9)
theorem WH{n:Nat}(h:n<=1000000001):L1 200 (n+1)=true:=JH om om
theorem Uh{a b:List UInt8}(h:a.length<=70000)(h2:b.length<=70000):L1 1 (a.length+b.length)=true:=JH om om
section
variable {r:Rd} {F F':Fd} {p:List Ev} {n:Nat} {b:List UInt8}
theorem me(h:r.Af=0)(E:r.A9.length<512)(G:n=512 - r.A9.length)(C:BH F (n:Int)=some (b,F',F'.BC))(N:b.length<n):
  AZ (NT r F p)=some (.inr (NT {r with A9:=r.A9++b} F' p)):=by
 have e:i64.wrap ((512:Int) - (r.A9.length:Int))=(n:Int):=by rw[Ek om om];omega
 unfold AZ NT;simp only[h,zQ,Ah,e,C,za,Uh (a:=r.A9) (b:=b) om om,BR];have:(decide (((r.A9++b).length:Int)<512))=true:=by rw[zi];exact zg om
 rw[this];rfl
theorem nI(h:r.Af=0)(E:r.A9.length<512)(G:n=512 - r.A9.length)(C:BH F (n:Int)=some (b,F',F'.BC))(N:b.length=n){t:Rd}{l:List Ev}
  (ht:Z3 {r with A9:=[]} (r.A9++b) t l) (Q:p.length<=1000000000):
  AZ (NT r F p)=some (.inl (NT {t with at_:=i64.wrap (t.at_+1)} F' (p++l))):=by
 have e:i64.wrap ((512:Int) - (r.A9.length:Int))=(n:Int):=by rw[Ek om om];omega
 unfold AZ NT;simp only[h,zQ,Ah,e,C,za,Uh (a:=r.A9) (b:=b) om om,BR];have:(decide (((r.A9++b).length:Int)<512))=false:=by rw[zi];exact zm om
 rw[this,AV];have k:=ht.2 F' p Q;simp only[h]at k;rw[k];rfl
theorem mR(h:r.Af=1)(E:0<=r.Ao/\r.Ao<=1099511627776)(G:n=r.Ao.toNat)(C:BH F (n:Int)=some (b,F',F'.BC))(N:b.length<n)(h0:b≠[])(Q:p.length<=1000000000):
  AZ (NT r F p)=some (.inl (NT {r with Ao:=r.Ao - b.length} F' (p++[Jn b]))):=by
 have e:r.Ao=(n:Int):=by omega
 have e2:i64.wrap (r.Ao - (b.length:Int))=r.Ao - b.length:=Ek om om;have X:(b==([]:List UInt8))=false:=by cases b with|nil=>exact absurd rfl h0|cons=>rfl
 rw[<-e]at C;unfold AZ NT;simp only[h,show(((1:Int)==0)=false) from rfl,zQ,Ah,AV,C,za,X,qu,yE,e2];rw[show(L1 200 (p.length+[(⟨2,⟨[],[],0,0,0,0,[],[],0,0,⟨0,0⟩,[],[]⟩,0,b⟩:AS)].length)=true) from WH om,BR];have:(decide (r.Ao - (b.length:Int)>0))=true:=zg om;simp only[za,this,Ah];rw[<-h];rfl
theorem mL(h:r.Af=1)(E:0<r.Ao/\r.Ao<=1099511627776)(G:n=r.Ao.toNat)(C:BH F (n:Int)=some ([],F',F'.BC)):
  AZ (NT r F p)=some (.inr (NT r F' p)):=by
 have e:r.Ao=(n:Int):=by omega
 rw[<-e]at C;unfold AZ NT;have:(decide (r.Ao>0))=true:=zg om;simp only[h,show(((1:Int)==0)=false) from rfl,zQ,Ah,AV,C,za,this,yZ]
theorem mY(h:r.Af=1)(E:0<=r.Ao/\r.Ao<=1099511627776)(V:0<=r.Bg.B9/\r.Bg.B9<=1099511627776)(G:n=r.Ao.toNat)(C:BH F (n:Int)=some (b,F',F'.BC))(N:b.length=n)(Q:p.length<=1000000000):
  AZ (NT r F p)=some (.inl (NT (Kw r) F' (p++((if b=[]then[]else[Jn b])++[QF])))):=by
 have e:r.Ao=(n:Int):=by omega
 have e2:i64.wrap (r.Ao - (b.length:Int))=0:=by rw[Ek om om];omega
 rw[<-e]at C;unfold AZ NT;simp only[h,show(((1:Int)==0)=false) from rfl,zQ,Ah,AV,C,za,e2];have q1:((b==([]:List UInt8))&&decide (r.Ao>0))=false:=by
  cases b with
  |nil=>rw[zm (by simp at N;omega)];rfl
  |cons=>rfl
 rw[q1,AV];have q2:(Ag (!(b==([]:List UInt8))) (B4 (L1 200 (p.length+[(⟨2,⟨[],[],0,0,0,0,[],[],0,0,⟨0,0⟩,[],[]⟩,0,b⟩:AS)].length))<|some (p++[(⟨2,⟨[],[],0,0,0,0,[],[],0,0,⟨0,0⟩,[],[]⟩,0,b⟩:AS)])) (some p):Option (List Ev))=some (p++(if b=[]then[]else[Jn b])):=by
  cases b with
  |nil=>simp
  |cons c t=>
   rw[show((c::t)==([]:List UInt8))=false from rfl,yE,Ah,show(L1 200 (p.length+[(⟨2,⟨[],[],0,0,0,0,[],[],0,0,⟨0,0⟩,[],[]⟩,0,c::t⟩:AS)].length)=true) from WH om];rfl
 rw[q2];simp only[za];rw[show(decide ((0:Int)>0))=false from rfl,AV,show(L1 200 ((p++(if b=[]then[]else[Jn b])).length+[(⟨3,⟨[],[],0,0,0,0,[],[],0,0,⟨0,0⟩,[],[]⟩,0,[]⟩:AS)].length)=true) from WH (by rw[zi];split<;>simp<;>omega),BR];have k:=az {r with Al:=F',Af:=1,Ao:=0} V.1 V.2;rw[k];simp only[za,Kw,h,zC];rfl
theorem mQ(h:r.Af=2)(E:0<=r.Ao/\r.Ao<=1099511627776)(hg:r.A9.length+r.Ao.toNat<=70000)(G:n=r.Ao.toNat)(C:BH F (n:Int)=some (b,F',F'.BC))(N:b.length<n)(h0:b≠[]):
  AZ (NT r F p)=some (.inl (NT {r with Ao:=r.Ao - b.length,A9:=r.A9++b} F' p)):=by
 have e:r.Ao=(n:Int):=by omega
 have e2:i64.wrap (r.Ao - (b.length:Int))=r.Ao - b.length:=Ek om om;have X:(b==([]:List UInt8))=false:=by cases b with|nil=>exact absurd rfl h0|cons=>rfl
 rw[<-e]at C;unfold AZ NT;simp only[h,show(((2:Int)==0)=false) from rfl,show(((2:Int)==1)=false) from rfl,zQ,Ah,AV,C,za,X,qu,e2,Uh (a:=r.A9) (b:=b) om om,BR];have:(decide (r.Ao - (b.length:Int)>0))=true:=zg om;simp only[this,Ah]
theorem lz(h:r.Af=2)(E:0<r.Ao/\r.Ao<=1099511627776)(G:n=r.Ao.toNat)(C:BH F (n:Int)=some ([],F',F'.BC)):
  AZ (NT r F p)=some (.inr (NT r F' p)):=by
 have e:r.Ao=(n:Int):=by omega
 rw[<-e]at C;unfold AZ NT;have:(decide (r.Ao>0))=true:=zg om;simp only[h,show(((2:Int)==0)=false) from rfl,show(((2:Int)==1)=false) from rfl,zQ,Ah,AV,C,za,this,yZ]
theorem mg(h:r.Af=2)(E:0<=r.Ao/\r.Ao<=1099511627776)(hg:r.A9.length+r.Ao.toNat<=70000)(G:n=r.Ao.toNat)(C:BH F (n:Int)=some (b,F',F'.BC))(N:b.length=n){t:Rd}
  (ht:UZ {r with Ao:=r.Ao - b.length,A9:=r.A9++b} t) (V:0<=t.Bg.B9/\t.Bg.B9<=1099511627776):
  AZ (NT r F p)=some (.inl (NT (if t.Af=4 then t else Kw t) F' p)):=by
 have e:r.Ao=(n:Int):=by omega
 have e2:i64.wrap (r.Ao - (b.length:Int))=r.Ao - b.length:=Ek om om;rw[<-e]at C;unfold AZ NT;simp only[h,show(((2:Int)==0)=false) from rfl,show(((2:Int)==1)=false) from rfl,zQ,Ah,AV,C,za,e2,Uh (a:=r.A9) (b:=b) om om,BR];have q1:((b==([]:List UInt8))&&decide (r.Ao>0))=false:=by
  cases b with
  |nil=>rw[zm (by simp at N;omega)];rfl
  |cons=>rfl
 have:(decide (r.Ao - (b.length:Int)>0))=false:=zm om;have k:=ht.2 F';simp only[h]at k;simp only[q1,this,AV,k,za];by_cases O:t.Af=4
 ·simp only[O,if_true,show(((4:Int) !=4)=false) from rfl,AV]
 ·rw[show(t.Af !=4)=true from bne_iff_ne.2 O,Ah,zj O];have k:=az {t with Al:=F'} V.1 V.2;simp only at k;simp only[k,za,Kw]
theorem nH(h:r.Af=3)(E:0<=r.Ao/\r.Ao<=1099511627776)(G:n=r.Ao.toNat)(C:BH F (n:Int)=some (b,F',F'.BC))(N:b.length<n):
  AZ (NT r F p)=some (.inr (NT {r with Ao:=r.Ao - b.length} F' p)):=by
 have e:r.Ao=(n:Int):=by omega
 have e2:i64.wrap (r.Ao - (b.length:Int))=r.Ao - b.length:=Ek om om;rw[<-e]at C;unfold AZ NT;have:(decide (r.Ao - (b.length:Int)>0))=true:=zg om;simp only[h,show(((3:Int)==0)=false) from rfl,show(((3:Int)==1)=false) from rfl,show(((3:Int)==2)=false) from rfl,zQ,Ah,AV,C,za,e2,this]
theorem mz(h:r.Af=3)(E:0<=r.Ao/\r.Ao<=1099511627776)(G:n=r.Ao.toNat)(C:BH F (n:Int)=some (b,F',F'.BC))(N:b.length=n):
  AZ (NT r F p)=some (.inl (NT {r with Af:=0,Ao:=r.Ao - b.length} F' p)):=by
 have e:r.Ao=(n:Int):=by omega
 have e2:i64.wrap (r.Ao - (b.length:Int))=r.Ao - b.length:=Ek om om;rw[<-e]at C;unfold AZ NT;have:(decide (r.Ao - (b.length:Int)>0))=false:=zm om;simp only[h,show(((3:Int)==0)=false) from rfl,show(((3:Int)==1)=false) from rfl,show(((3:Int)==2)=false) from rfl,zQ,Ah,AV,C,za,e2,this]
theorem mK(h:r.Af=4):AZ (NT r F p)=some (.inr (NT r F p)):=by
 unfold AZ NT;simp only[h,show(((4:Int)==0)=false) from rfl,show(((4:Int)==1)=false) from rfl,show(((4:Int)==2)=false) from rfl,show(((4:Int)==3)=false) from rfl,zQ,Ah,AV]
end
end Go.Av.L
end
