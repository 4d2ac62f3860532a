/-
 A part.
-/
import Derived.Test.YtfgmnhjedmkpeaaAbsPlan
set_option linter.unusedSimpArgs false
namespace Go.Abs
open Go.RowKit
section
variable {C:Gf} {S:Self} {g:Gd} {ops:Array Oper} {pl:List (Nat×List Nat)} {F:Nat->Fr} {H:Nat->AE} {T:Nat->List (Nat×Nat)}
def Bg(pl:List (Nat×List Nat))(listed:Array Bool)(p:Nat):Bool:=listed.getD (A9 pl p) false
def kW(C:Gf)(ops:Array Oper)(pl:List (Nat×List Nat))(listed:Array Bool):Nat:=E3 (λp=>(As C.P (BJ ops pl p).op==3)&& !Bg pl listed p) 0 pl.length
def qS(ops:Array Oper)(pl:List (Nat×List Nat))(listed:Array Bool)(t:Nat):Nat:=E3 (λp=>((BJ ops pl p).dst==some t)&& !Bg pl listed p) 0 pl.length
theorem HK(C:Gf)(ops:Array Oper)(pl:List (Nat×List Nat))(listed:Array Bool):kW C ops pl listed<=pl.length:=by
 have:=(CS (λp=>(As C.P (BJ ops pl p).op==3)&& !Bg pl listed p) pl.length 0).2.1;unfold kW;omega
theorem Ds{p:Nat}{listed:Array Bool}(h:p<kW C ops pl listed)(hc:As C.P (BJ ops pl p).op=3):Bg pl listed p=true:=by
 have:=(CS (λp=>(As C.P (BJ ops pl p).op==3)&& !Bg pl listed p) pl.length 0).2.2.1 p (xl _) h;simpa[hc]using this
theorem J2{listed:Array Bool}(h:kW C ops pl listed<pl.length):As C.P (BJ ops pl (kW C ops pl listed)).op=3/\Bg pl listed (kW C ops pl listed)=false:=by
 have:=(CS (λp=>(As C.P (BJ ops pl p).op==3)&& !Bg pl listed p) pl.length 0).2.2.2 (by unfold kW at h;omega);simpa[kW]using this
theorem Ic(ops:Array Oper)(pl:List (Nat×List Nat))(listed:Array Bool)(t:Nat):qS ops pl listed t<=pl.length:=by
 have:=(CS (λp=>((BJ ops pl p).dst==some t)&& !Bg pl listed p) pl.length 0).2.1;unfold qS;omega
theorem Iz{p t:Nat}{listed:Array Bool}(h:p<qS ops pl listed t)(hc:(BJ ops pl p).dst=some t):Bg pl listed p=true:=by
 have:=(CS (λp=>((BJ ops pl p).dst==some t)&& !Bg pl listed p) pl.length 0).2.2.1 p (xl _) h;simpa[hc]using this
theorem NU{t:Nat}{listed:Array Bool}(h:qS ops pl listed t<pl.length):(BJ ops pl (qS ops pl listed t)).dst=some t/\Bg pl listed (qS ops pl listed t)=false:=by
 have:=(CS (λp=>((BJ ops pl p).dst==some t)&& !Bg pl listed p) pl.length 0).2.2.2 (by unfold qS at h;omega);simpa[qS]using this
def I4(ops:Array Oper)(listed:Array Bool)(i:Nat):Prop:=∀o,ops[i]?=some o->∀e∈o.after.toList,Region.binds .any e=true->listed.getD e.on false=true
def Closed(ops:Array Oper)(listed:Array Bool):Prop:=∀i,i<ops.size->listed.getD i false=true->I4 ops listed i
theorem Jw{listed:Array Bool}(hc:Closed ops listed){j:Nat}:∀(i:Nat),i<ops.size->I4 ops listed i->dep (closure ops.toList []) j i=true->listed.getD j false=true:=by
 intro i
 induction i using Nat.strongRecOn with
 | _ i ih=>
  intro hi G D;have ho:ops[i]?=some ops[i]:=Array.getElem?_eq_getElem hi;have hsp:=(GY ops.toList [] i ops[i] j (by simp[hi])).1 (by simpa[dep]using D);obtain⟨e,he,hb,h|⟨I,h⟩⟩:=hsp
  ·rw[h];exact G _ ho e he hb
  ·have N:=G _ ho e he hb;simp only[xY,xN]at I;exact ih e.on I (by omega) (hc e.on (by omega) N) (by simpa[dep]using h)
structure Inv(C:Gf)(ops:Array Oper)(pl:List (Nat×List Nat))(F:Nat->Fr)(H:Nat->AE)(w0:World)(m0:BU)(d0:List Deferred)(listed:Array Bool)(a:Act)(w:World):Prop where
 sz:listed.size=ops.size
 closed:Closed ops listed
 defers:a.defers=d0
 tmps:a.tmps.size=(F 0).length
 rel:∃m:BU,(∀id,id<(H 0).size->m id=m0 id)/\Rel C.P w0 m (H (kW C ops pl listed)) w/\(∀t,VR m (nth (F (qS ops pl listed t)) t) (a.tmps.getD t undef))/\
  (∀p,p<pl.length->As C.P (BJ ops pl p).op=2->Bg pl listed p=false->Bp ops (F p) (BJ ops pl p)=some true->m (H p).size=none)
theorem Inv.start(B:H5 C S g ops pl F H T)(G:IC C.P ops pl)(Z:GH C.P C.C4 S.call){w0:World}{m0:BU}{a:Act}{w:World}(r:Rel C.P w0 m0 (H 0) w)(hf:FR m0 (F 0) a):
  Inv C ops pl F H w0 m0 a.defers (Array.replicate ops.size false) a w:=by
 have N:∀i,(Array.replicate ops.size false).getD i false=false:=λi=>by
  simp only[qZ,Array.getElem?_replicate];split<;>rfl
 have hlst:∀p,Bg pl (Array.replicate ops.size false) p=false:=λp=>N _;refine⟨by simp,(λi _ h=>by rw[N]at h;cases h),rfl,hf.1.symm,m0,λ_ _=>rfl,?_,λt=>?_,λp J _ _ _=>?_⟩
 ·refine B.Ld G r _ (xl _) (HK _ _ _ _) λx _ hx hc=>?_;have:=Ds hx hc;rw[hlst]at this;cases this
 ·rw[B.slot G (p:=0) _ (xl _) (Ic _ _ _ _) λx _ hx hc=>?_]
  ·exact hf.2 t
  ·have:=Iz hx hc;rw[hlst]at this;cases this
 ·exact r.fresh (B.size G Z p (xl _) (by omega))
theorem HI(B:H5 C S g ops pl F H T)(G:IC C.P ops pl){listed:Array Bool}{p:Nat}(J:p<pl.length)
  (hb:∀q,q<p->(BJ ops pl q).dst=(BJ ops pl p).dst->(BJ ops pl q).dst≠none->Bg pl listed q=true)
  (ha:∀q,p<q->q<pl.length->(BJ ops pl q).dst=(BJ ops pl p).dst->(BJ ops pl q).dst≠none->Bg pl listed q=false)
  (U:∀q,q<pl.length->Bg pl (listed.setIfInBounds (A9 pl p) true) q=(Bg pl listed q||decide (q=p)))
  {m m':BU} (hm:m.le m') {a:Act} (htm:a.tmps.size=(F 0).length) (hv:∀t,VR m (nth (F (qS ops pl listed t)) t) (a.tmps.getD t undef)) {x:AD} {v:Value} (hx:VR m' x v) (hF:F (p+1)=put (F p) (BJ ops pl p).dst x) (t:Nat):
  VR m' (nth (F (qS ops pl (listed.setIfInBounds (A9 pl p) true) t)) t) ((a.put (BJ ops pl p).dst v).tmps.getD t undef):=by
 by_cases D:(BJ ops pl p).dst=some t
 ·-- the slot that the step writes
  have hq':p<qS ops pl (listed.setIfInBounds (A9 pl p) true) t:=by
   rcases xk p (qS ops pl (listed.setIfInBounds (A9 pl p) true) t)with h|h
   ·exact h
   ·exfalso;obtain⟨c1,c2⟩:=NU (ops:=ops) (pl:=pl) (listed:=listed.setIfInBounds (A9 pl p) true) (t:=t) (by omega);rw[U _ (by omega)]at c2;simp only[xD,xp]at c2;have:=hb _ (by omega) (c1.trans D.symm) (by rw[c1];simp);rw[c2.1]at this;cases this
  have e1:nth (F (qS ops pl (listed.setIfInBounds (A9 pl p) true) t)) t=nth (F (p+1)) t:=by
   refine B.slot G _ (by omega) (Ic _ _ _ _) λy h1 L hc=>?_;have h3:=Iz L hc;have O:y<pl.length:=xe L (Ic _ _ _ _);rw[U y O]at h3;have h4:=ha y (by omega) O (hc.trans D.symm) (by rw[hc];simp);rw[h4]at h3;simp at h3;omega
  rw[e1,hF,D];show VR m' (nth ((F p).set t x) t) ((a.tmps.setIfInBounds t v).getD t undef);rw[GR];by_cases ht:t<(F p).length
  ·rw[xf ⟨rfl,ht⟩];have:t<a.tmps.size:=by rw[htm,<-B.len G p (by omega)];exact ht
   simpa[qZ,this]using hx
  ·rw[xd (by rintro⟨_,h⟩;exact ht h)];have h1:nth (F p) t=.tuple []:=by rw[H0,qY,List.getElem?_eq_none (by omega)];rfl
   have L:¬t<a.tmps.size:=by rw[htm,<-B.len G p (by omega)];exact ht
   rw[h1];have:(a.tmps.setIfInBounds t v).getD t undef=undef:=by simp[qZ,L]
   rw[this];exact VR.Hf m'
 ·-- another slot
  have e1:qS ops pl (listed.setIfInBounds (A9 pl p) true) t=qS ops pl listed t:=by
   obtain⟨a1,a2,a3,a4⟩:=CS (λp=>((BJ ops pl p).dst==some t)&& !Bg pl listed p) pl.length 0;refine IK _ (Ic _ _ _ _) (λy X=>?_) (λI=>?_)
   ·have:=a3 y (xl _) X;have O:y<pl.length:=xe X (Ic _ _ _ _);simp only[U y O];rcases xA.1 this with h|h
    ·simp[h]
    ·simp only[xT]at h;simp[h]
   ·obtain⟨c1,c2⟩:=NU I;rw[U _ I];have R:qS ops pl listed t≠p:=λe=>D (by rw[<-e];exact c1);simp[c1,c2,R]
  rw[e1];have:(a.put (BJ ops pl p).dst v).tmps.getD t undef=a.tmps.getD t undef:=by
   cases hdd:(BJ ops pl p).dst with
   |none=>rfl
   |some d=>
    have R:d≠t:=λe=>D (by rw[hdd,e]);simp[Act.put,qZ,Array.getElem?_setIfInBounds_ne R]
  rw[this];exact(hv t).mono hm
theorem size_put(a:Act)(d:Option Tmp)(v:Value):(a.put d v).tmps.size=a.tmps.size:=by cases d<;>simp[Act.put]
theorem Inv.step(B:H5 C S g ops pl F H T)(G:IC C.P ops pl)(Z:GH C.P C.C4 S.call){w0:World}(hz:CL C.C4 w0){m0:BU}{d0:List Deferred}{listed:Array Bool}{a:Act}{w:World}
  (inv:Inv C ops pl F H w0 m0 d0 listed a w) {i:Nat} (hi:i∈Region.ready .any ops listed) {K:Act->World->Prop} {Q:Exit->Act->World->Prop}
  (hK:∀a' w',Inv C ops pl F H w0 m0 d0 (listed.setIfInBounds i true) a' w'->K a' w'):wpOp C.P ops Q i K a w:=by
 obtain⟨hin,hnl0,hpre⟩:i<ops.size/\listed.getD i true=false/\I4 ops listed i:=by
  simp only[Region.ready,xR,xG,xa,xj]at hi;refine⟨hi.1,hi.2.1,λo ho e he hb=>?_⟩;have:=hi.2.2;rw[ho]at this;simp only[q8,xm]at this;rw[<-Array.all_toList]at this;have:=xg.1 this e he;rw[hb]at this;simpa using this
 obtain⟨p,J,rfl⟩:=G.Wl i hin;have hsz:=inv.sz;have hnl:Bg pl listed p=false:=by
  unfold Bg;have h1:A9 pl p<listed.size:=by rw[hsz];exact hin
  simp only[qZ,Array.getElem?_eq_getElem h1,xm]at hnl0⊢;exact hnl0
 have before_:∀q,q<p->dep (closure ops.toList []) (A9 pl q) (A9 pl p)=true->Bg pl listed q=true:=λq _ D=>Jw inv.closed _ hin hpre D;have behind:∀q,p<q->q<pl.length->dep (closure ops.toList []) (A9 pl p) (A9 pl q)=true->Bg pl listed q=false:=λq _ M D=>by
  cases N:Bg pl listed q with
  |false=>rfl
  |true=>
   have hql:A9 pl q<ops.size:=(Array.getElem?_eq_some_iff.1 (G.lt q M)).1;have:=Jw inv.closed _ hql (inv.closed _ hql N) D;unfold Bg at hnl;rw[hnl]at this;cases this
 have ord:∀q,q<pl.length->q≠p->(q<p->dep (closure ops.toList []) (A9 pl q) (A9 pl p)=true)->(p<q->dep (closure ops.toList []) (A9 pl p) (A9 pl q)=true)->Bg pl listed q=decide (q<p):=by
  intro q M R h1 L;rcases xH R with h|h
  ·rw[before_ q h (h1 h)];simp[h]
  ·rw[behind q h M (L h)];simp;omega
 have looks:∀t∈(BJ ops pl p).looksAt ops,nth (F (qS ops pl listed t)) t=nth (F p) t:=by
  intro t ht;have wr:∀q,q<pl.length->q≠p->(BJ ops pl q).dst=some t->Bg pl listed q=decide (q<p):=by
   intro q M R D;refine ord q M R (λI=>?_) (λI=>?_)
   ·rcases G.pair q p I J with h|⟨h,_⟩
    ·exact h
    ·exact absurd ht ((Oper.apart_spec h).1 t D)
   ·rcases G.pair p q I M with h|⟨h,_⟩
    ·exact h
    ·exact absurd ht ((Oper.apart_spec h).2.2 t D)
  have hge:p<=qS ops pl listed t:=by
   rcases xk (qS ops pl listed t) p with h|h
   ·obtain⟨c1,c2⟩:=NU (ops:=ops) (pl:=pl) (listed:=listed) (t:=t) (by omega);rw[wr _ (by omega) (by omega) c1]at c2;simp at c2;omega
   ·exact h
  refine B.slot G _ hge (Ic _ _ _ _) λx h1 L D=>?_;have N:=Iz L D;have hxn:x<pl.length:=xe L (Ic _ _ _ _);by_cases hxp:x=p
  ·rw[hxp,hnl]at N;cases N
  ·rw[wr x hxn hxp D]at N;simp at N;omega
 have wrB:∀q,q<p->(BJ ops pl q).dst=(BJ ops pl p).dst->(BJ ops pl q).dst≠none->Bg pl listed q=true:=by
  intro q I D hn;rcases G.pair q p I J with h|⟨h,_⟩
  ·exact before_ q I h
  ·cases M:(BJ ops pl q).dst with
   |none=>exact absurd M hn
   |some d=>exact absurd (D.symm.trans M) ((Oper.apart_spec h).2.1 d M)
 have wrA:∀q,p<q->q<pl.length->(BJ ops pl q).dst=(BJ ops pl p).dst->(BJ ops pl q).dst≠none->Bg pl listed q=false:=by
  intro q I M D hn;rcases G.pair p q I M with h|⟨h,_⟩
  ·exact behind q I M h
  ·cases hq':(BJ ops pl p).dst with
   |none=>rw[hq']at D;exact absurd D hn
   |some d=>exact absurd (D.trans hq') ((Oper.apart_spec h).2.1 d hq')
 have U:∀q,q<pl.length->Bg pl (listed.setIfInBounds (A9 pl p) true) q=(Bg pl listed q||decide (q=p)):=by
  intro q M;unfold Bg;simp only[qZ];by_cases e:q=p
  ·subst e;have h1:A9 pl q<listed.size:=by rw[hsz];exact hin
   simp[h1]
  ·have R:A9 pl p≠A9 pl q:=by
    rcases xH e with h|h
    ·exact λhh=>G.ne q p h J hh.symm
    ·exact G.ne p q h M
   simp[Array.getElem?_setIfInBounds_ne R,e]
 have closed':Closed ops (listed.setIfInBounds (A9 pl p) true):=by
  have mono:∀j,listed.getD j false=true->(listed.setIfInBounds (A9 pl p) true).getD j false=true:=by
   intro j hj;by_cases e:A9 pl p=j
   ·subst e;have h1:A9 pl p<listed.size:=by rw[hsz];exact hin
    simp[qZ,h1]
   ·simpa[qZ,Array.getElem?_setIfInBounds_ne e]using hj
  intro j hj hlj o ho e he hb;by_cases ej:A9 pl p=j
  ·subst ej;exact mono _ (hpre o ho e he hb)
  ·have:listed.getD j false=true:=by simpa[qZ,Array.getElem?_setIfInBounds_ne ej]using hlj
   exact mono _ (inv.closed j hj this o ho e he hb)
 obtain⟨m,hm0,rel,hv,hgh⟩:=inv.rel;obtain⟨FD,hFD⟩:∃FD:Fr,FD=(List.range (F 0).length).map λt=>nth (F (qS ops pl listed t)) t:=⟨_,rfl⟩;have hFDn:∀t,nth FD t=nth (F (qS ops pl listed t)) t:=by
  intro t;rw[hFD,H0,qY,List.getElem?_map];by_cases ht:t<(F 0).length
  ·simp[List.getElem?_range ht]
  ·rw[List.getElem?_eq_none (by simp;omega)];rw[H0,qY,List.getElem?_eq_none (by rw[B.len G _ (Ic _ _ _ _)];omega)];rfl
 have hfr:FR m FD a:=⟨by rw[hFD];simp[inv.tmps],λt=>by rw[hFDn];exact hv t⟩;have hsame:∀t∈(BJ ops pl p).looksAt ops,nth FD t=nth (F p) t:=λt ht=>by rw[hFDn];exact looks t ht
 have hso:=Me hsame;unfold wpOp;rw[G.lt p J];simp only;have kcmp:As C.P (BJ ops pl p).op≠0->p<=kW C ops pl listed:=by
  intro hc;rcases xk (kW C ops pl listed) p with h|h
  ·obtain⟨c1,c2⟩:=J2 (C:=C) (ops:=ops) (pl:=pl) (listed:=listed) (by omega);rcases G.pair _ p h J with D|⟨_,D⟩
   ·have:=before_ _ h D;rw[c2]at this;cases this
   ·rcases D with D|D|⟨D,_⟩
    ·exact absurd D hc
    ·rw[c1]at D;cases D
    ·exact absurd c1 D
  ·exact h
 have Bs:As C.P (BJ ops pl p).op=1\/As C.P (BJ ops pl p).op=2->∀x,p<x->x<kW C ops pl listed->As C.P (BJ ops pl x).op=3->(IU pl x).any (Nat.beq (A9 pl p))=true:=by
  intro hc x h1 L hx;have hxn:x<pl.length:=xe L (HK _ _ _ _);have N:=Ds L hx;rcases G.pair p x h1 hxn with D|⟨_,D⟩
  ·rw[behind x h1 hxn D]at N;cases N
  ·rcases D with D|D|⟨_,D|D⟩
   ·rw[hx]at D;cases D
   ·rcases hc with h|h<;>rw[h]at D<;>cases D
   ·exact absurd hx D
   ·exact D
 have kSame:As C.P (BJ ops pl p).op≠3->kW C ops pl (listed.setIfInBounds (A9 pl p) true)=kW C ops pl listed:=by
  intro hc;obtain⟨a1,a2,a3,a4⟩:=CS (λp=>(As C.P (BJ ops pl p).op==3)&& !Bg pl listed p) pl.length 0;refine IK _ (HK _ _ _ _) (λy X=>?_) (λI=>?_)
  ·have:=a3 y (xl _) X;have O:y<pl.length:=xe X (HK _ _ _ _);simp only[U y O];rcases xA.1 this with h|h
   ·simp[h]
   ·simp only[xT]at h;simp[h]
  ·obtain⟨c1,c2⟩:=J2 I;rw[U _ I];have R:kW C ops pl listed≠p:=λe=>hc (by rw[<-e];exact c1);simp[c1,c2,R]
 have ghosts':∀{m':BU},(∀q,q<pl.length->q≠p->As C.P (BJ ops pl q).op=2->Bg pl listed q=false->Bp ops (F q) (BJ ops pl q)=some true->m' (H q).size=none)->
   ∀q,q<pl.length->As C.P (BJ ops pl q).op=2->Bg pl (listed.setIfInBounds (A9 pl p) true) q=false->Bp ops (F q) (BJ ops pl q)=some true->m' (H q).size=none:=by
  intro m' h q M hc N hw;rw[U q M]at N;simp only[xD,xp]at N;exact h q M N.2 hc N.1 hw
 rcases B.at_ G J with⟨hw,hF,hH,_⟩|⟨hw,x,Y,hF,hT⟩
 ·-- it is not wanted
  have hwant:=Ed hfr (by rw[HY hsame];exact hw);rw[xd (by rw[hwant];simp)];refine hK _ _ ⟨by simp[hsz],closed',by rw[FK];exact inv.defers,by rw[size_put];exact inv.tmps,m,hm0,?_,λt=>HI B G J wrB wrA U (BU.le_refl m) inv.tmps hv (VR.Hf m) hF t,ghosts' λq M _ hc N hw=>hgh q M hc N hw⟩;by_cases hc:As C.P (BJ ops pl p).op=3
  ·-- a writing operation that is passed WX
   have hkp:kW C ops pl listed=p:=by
    have h1:=kcmp (by rw[hc];simp);rcases xk p (kW C ops pl listed)with h|h
    ·have:=Ds h hc;rw[hnl]at this;cases this
    ·omega
   have hk':p+1<=kW C ops pl (listed.setIfInBounds (A9 pl p) true):=by
    rcases xk (kW C ops pl (listed.setIfInBounds (A9 pl p) true)) (p+1)with h|h
    ·exfalso;obtain⟨c1,c2⟩:=J2 (C:=C) (ops:=ops) (pl:=pl) (listed:=listed.setIfInBounds (A9 pl p) true) (by omega);rw[U _ (by omega)]at c2;simp only[xD,xp]at c2;have:=Ds (C:=C) (ops:=ops) (pl:=pl) (listed:=listed) (p:=kW C ops pl (listed.setIfInBounds (A9 pl p) true)) (by omega) c1;rw[c2.1]at this;cases this
    ·exact h
   rw[hkp,<-hH]at rel;refine B.Ld G rel _ hk' (HK _ _ _ _) λy h1 L X=>?_;have O:y<pl.length:=xe L (HK _ _ _ _);have h3:=Ds L X;rw[U y O]at h3;have h4:Bg pl listed y=false:=by
    rcases G.pair p y (by omega) O with D|⟨_,D⟩
    ·exact behind y (by omega) O D
    ·rcases D with D|D|⟨D,_⟩
     ·rw[X]at D;cases D
     ·rw[hc]at D;cases D
     ·exact absurd hc D
   rw[h4]at h3;simp at h3;omega
  ·rw[kSame hc];exact rel
 ·-- it is run
  have hwant:=Ed hfr (by rw[HY hsame];exact hw);rw[xf hwant];left;by_cases hc3:As C.P (BJ ops pl p).op=3
  ·-- a writing operation:the heap is the plan's own
   have hkp:kW C ops pl listed=p:=by
    have h1:=kcmp (by rw[hc3];simp);rcases xk p (kW C ops pl listed)with h|h
    ·have:=Ds h hc3;rw[hnl]at this;cases this
    ·omega
   rw[hkp]at rel;rw[<-NF hso]at Y;refine I9 Z hz rel hfr Y λm' v' w' e1 e2 e3=>hK _ _ ?_;have hle:=rel.Oi e1;have hk':p+1<=kW C ops pl (listed.setIfInBounds (A9 pl p) true):=by
    rcases xk (kW C ops pl (listed.setIfInBounds (A9 pl p) true)) (p+1)with h|h
    ·exfalso;obtain⟨c1,c2⟩:=J2 (C:=C) (ops:=ops) (pl:=pl) (listed:=listed.setIfInBounds (A9 pl p) true) (by omega);rw[U _ (by omega)]at c2;simp only[xD,xp]at c2;have:=Ds (C:=C) (ops:=ops) (pl:=pl) (listed:=listed) (p:=kW C ops pl (listed.setIfInBounds (A9 pl p) true)) (by omega) c1;rw[c2.1]at this;cases this
    ·exact h
   have notdone:∀y,p<y->y<pl.length->As C.P (BJ ops pl y).op≠0->Bg pl listed y=false:=by
    intro y h1 O X;rcases G.pair p y h1 O with D|⟨_,D⟩
    ·exact behind y h1 O D
    ·rcases D with D|D|⟨D,_⟩
     ·exact absurd D X
     ·rw[hc3]at D;cases D
     ·exact absurd hc3 D
   refine⟨by simp[hsz],closed',by rw[FK];exact inv.defers,by rw[size_put];exact inv.tmps,m',λid hid=>?_,?_,λt=>HI B G J wrB wrA U hle inv.tmps hv e3 hF t,ghosts' λq M R hc N hw=>?_⟩
   ·rw[e1 id (xe hid (B.size G Z p (xl _) (by omega)))];exact hm0 id hid
   ·refine B.Ld G e2 _ hk' (HK _ _ _ _) λy h1 L X=>?_;have O:y<pl.length:=xe L (HK _ _ _ _);have h3:=Ds L X;rw[U y O,notdone y (by omega) O (by rw[X];simp)]at h3;simp at h3;omega
   ·rcases xH R with h|h
    ·-- it makes an object at a place ahead of ours
     have I:(H q).size<(H p).size:=by
      have h1:(H (q+1)).size=(H q).size+1:=by
       rcases B.at_ G M with⟨hw2,_⟩|⟨_,u,V,_,_⟩
       ·rw[hw]at hw2;cases hw2
       ·rw[Er (by rw[hc];simp)]at V;unfold Gn at V;rw[hc]at V;simp only[qX,qW]at V;obtain⟨_,_,_,e⟩:=V;rw[<-e];simp
      have L:=B.size G Z (p:=q+1) p (by omega) (by omega);omega
     rw[e1 _ I];exact hgh q M hc N hw
    ·exact e2.fresh (B.size G Z (p:=p+1) q (by omega) (by omega))
  ·-- no writing operation:by its class
   have hkS:=kSame hc3;rw[Er hc3]at Y;have fin:∀{m':BU} {v':Value} {w':World},m.le m'->(∀id,id<(H 0).size->m' id=m0 id)->Rel C.P w0 m' (H (kW C ops pl listed)) w'->VR m' x v'->
     (∀q,q<pl.length->q≠p->As C.P (BJ ops pl q).op=2->Bg pl listed q=false->Bp ops (F q) (BJ ops pl q)=some true->m' (H q).size=none)->
     K (a.put (BJ ops pl p).dst v') w':=by
    intro m' v' w' h1 L h3 h4 h5;exact hK _ _ ⟨by simp[hsz],closed',by rw[FK];exact inv.defers,by rw[size_put];exact inv.tmps,m',L,by rw[hkS];exact h3,λt=>HI B G J wrB wrA U h1 inv.tmps hv h4 hF t,ghosts' h5⟩
   unfold Gn at Y;split at Y
   ·-- slots alone
    rename_i hc;simp only[qX,qW]at Y;obtain⟨x',hx',rfl,_⟩:=Y;rw[<-MJ hso]at hx';obtain⟨v',h1,L⟩:=Kn (P:=C.P) w hfr hx';unfold Oper.wp;rw[h1];exact fin (BU.le_refl m) hm0 rel L λq M _ hc N hw=>hgh q M hc N hw
   ·-- it reads one object
    rename_i hc;have hkp:=kcmp (by rw[hc];simp);have hkne:kW C ops pl listed≠p:=λe=>by
     have:=(J2 (C:=C) (ops:=ops) (pl:=pl) (listed:=listed) (by omega)).1;rw[e,hc]at this;cases this
    have go:∀ob,(Cm (F p) (BJ ops pl p).op).bind (H (kW C ops pl listed)).get=ob->(Iq C.P C.C4 (F p) ob (BJ ops pl p).op).map (·,H p)=some (x,H (p+1))->Oper.wp C.P (BJ ops pl p) a w K Q:=by
     intro ob hob Y;simp only[qX,qW]at Y;obtain⟨x',hx',rfl,_⟩:=Y;rw[<-JP hso,<-hob,<-H9 hso]at hx';obtain⟨v',h1,L⟩:=K5 hz rel hfr hx';unfold Oper.wp;rw[h1];exact fin (BU.le_refl m) hm0 rel L λq M _ hc N hw=>hgh q M hc N hw
    split at Y
    ·rename_i ht;exact go none (by rw[ht];rfl) Y
    ·rename_i id ht;split at Y
     ·rename_i ob hg;refine go (some ob) ?_ Y;rw[ht];show(H (kW C ops pl listed)).get id=some ob;rw[<-hg];have hid:=(H p).BZ hg;have hmem:(A9 pl p,id)∈T (p+1):=by
       rw[hT];unfold EE;rw[hc];simp only[ht];exact List.mem_cons_self
      have hHp:H (p+1)=H p:=by
       simp only[qX,qW]at Y;obtain⟨_,_,_,e⟩:=Y;exact e.symm
      rw[<-hHp];exact B.same G Z hmem (by rw[hHp];exact hid) _ (by omega) (HK _ _ _ _) λy h1 L X=>Bs (.inl hc) y (by omega) L X
     ·cases Y
   ·-- it makes one object
    rename_i hc;have hkp:=kcmp (by rw[hc];simp);have hkne:kW C ops pl listed≠p:=λe=>by
     have:=(J2 (C:=C) (ops:=ops) (pl:=pl) (listed:=listed) (by omega)).1;rw[e,hc]at this;cases this
    simp only[qX,qW]at Y;obtain⟨nw,hnw,rfl,hHp⟩:=Y;rw[<-MP hso]at hnw;obtain⟨v',w',E,h1,t1,t2,_,t4⟩:=K2 (P:=C.P) w hfr hnw;have hnone:=hgh p J hc hnl hw;have hle:=BU.LL (m:=m) E hnone;obtain⟨q1,q2⟩:=t4 (m.upd (H p).size E) hle (H p).size (BU.D8 m _ E);have hmem:(A9 pl p,(H p).size)∈T (p+1):=by
     rw[hT];unfold EE;rw[hc];exact List.mem_cons_self
    have hget1:(H (p+1)).get (H p).size=some nw.2:=by rw[<-hHp];exact AE.Bh _ _
    have hget:(H (kW C ops pl listed)).get (H p).size=some nw.2:=by
     rw[<-hget1];exact B.same G Z hmem (by rw[<-hHp];simp) _ (by omega) (HK _ _ _ _) λy h1 L X=>Bs (.inr hc) y (by omega) L X
    unfold Oper.wp;rw[h1];refine fin hle (λid hid=>?_) (rel.place t1 (by rw[t2];exact rel.size) (λid2 E2 o2 hm2 ho2 hl2=>?_) hnone hget q2) q1 λq M R hcq N hwq=>?_
    ·rw[BU.KY m E (by have:=B.size G Z (p:=0) p (xl _) (by omega);omega)];exact hm0 id hid
    ·have:=(rel.obj id2 E2 o2 hm2 ho2).lt hl2;omega
    ·have hszq:∀y,y<pl.length->As C.P (BJ ops pl y).op=2->Bp ops (F y) (BJ ops pl y)=some true->(H (y+1)).size=(H y).size+1:=by
      intro y X hcy hwy;rcases B.at_ G X with⟨hw2,_⟩|⟨_,u,V,_,_⟩
      ·rw[hwy]at hw2;cases hw2
      ·rw[Er (by rw[hcy];simp)]at V;unfold Gn at V;rw[hcy]at V;simp only[qX,qW]at V;obtain⟨_,_,_,e⟩:=V;rw[<-e];simp
     rw[BU.KY m E ?_]
     ·exact hgh q M hcq N hwq
     ·rcases xH R with h|h
      ·have h1:=hszq q M hcq hwq;have L:=B.size G Z (p:=q+1) p (by omega) (by omega);omega
      ·have h1:=hszq p J hc hw;have L:=B.size G Z (p:=p+1) q (by omega) (by omega);omega
   ·rename_i h0 h1 L;exfalso;have:∀op,As C.P op=0\/As C.P op=1\/As C.P op=2\/As C.P op=3:=by
     intro op;unfold As
     repeat' split
     all_goals simp
    rcases this (BJ ops pl p).op with h|h|h|h
    ·exact h0 h
    ·exact h1 h
    ·exact L h
    ·exact hc3 h
theorem JO:∀(l:List Nat) (f g:Nat->Bool),(∀j,g j=true->f j=true)->(∃i∈l,f i=true/\g i=false)->(l.filter g).length<(l.filter f).length
 |[],f,g,_,⟨i,hi,_⟩=>by simp at hi
 | x::l,f,g,hfg,⟨i,hi,h1,L⟩=>by
  have le:(l.filter g).length<=(l.filter f).length:=by
   clear hi
   induction l with
   |nil=>simp
   |cons y l ih=>
    simp only[List.filter_cons];cases hg:g y
    ·cases hf:f y<;>simp<;>omega
    ·rw[hfg y hg];simp;exact ih
  simp only[List.filter_cons];by_cases e:i=x
  ·subst e;rw[h1,L];simp;omega
  ·have hi':i∈l:=by cases hi with|head=>exact absurd rfl e|tail _ h=>exact h
   have ih:=JO l f g hfg ⟨i,hi',h1,L⟩;cases hg:g x
   ·cases hf:f x<;>simp<;>omega
   ·rw[hfg x hg];simp;exact ih
theorem Inv.done(B:H5 C S g ops pl F H T)(G:IC C.P ops pl){w0:World}{m0:BU}{d0:List Deferred}{listed:Array Bool}{a:Act}{w:World}(inv:Inv C ops pl F H w0 m0 d0 listed a w)
  (W:∀i,i<ops.size->listed.getD i false=true):
  ∃m,(∀id,id<(H 0).size->m id=m0 id)/\Rel C.P w0 m (H pl.length) w/\FR m (F pl.length) a/\a.defers=d0:=by
 obtain⟨m,h1,L,h3,_⟩:=inv.rel;have N:∀p,p<pl.length->Bg pl listed p=true:=λp J=>W _ (Array.getElem?_eq_some_iff.1 (G.lt p J)).1;have hk:kW C ops pl listed=pl.length:=by
  rcases xk (kW C ops pl listed) pl.length with h|h
  ·have:=(J2 h).2;rw[N _ h]at this;cases this
  ·have:=HK C ops pl listed;omega
 have M:∀t,qS ops pl listed t=pl.length:=λt=>by
  rcases xk (qS ops pl listed t) pl.length with h|h
  ·have:=(NU h).2;rw[N _ h]at this;cases this
  ·have:=Ic ops pl listed t;omega
 exact⟨m,h1,by rw[<-hk];exact L,⟨by rw[B.len G _ (xb _)];exact inv.tmps.symm,λt=>by have:=h3 t;rwa [M t]at this⟩,inv.defers⟩
theorem Inv.any(B:H5 C S g ops pl F H T)(G:IC C.P ops pl)(Z:GH C.P C.C4 S.call){w0:World}(hz:CL C.C4 w0){m0:BU}{d0:List Deferred}{Q:Exit->Act->World->Prop}
  (hQ:∀m a w,(∀id,id<(H 0).size->m id=m0 id)->Rel C.P w0 m (H pl.length) w->FR m (F pl.length) a->a.defers=d0->Q .normal a w):
  ∀(fuel:Nat) (listed:Array Bool) (a:Act) (w:World),Inv C ops pl F H w0 m0 d0 listed a w->((List.range ops.size).filter λi=> !listed.getD i false).length<=fuel->wpAny C.P .any ops Q fuel listed a w:=by
 have fin:∀{listed:Array Bool} {a:Act} {w:World},Inv C ops pl F H w0 m0 d0 listed a w->(∀i,i<ops.size->listed.getD i false=true)->Q .normal a w:=by
  intro listed a w inv W;obtain⟨m,h1,L,h3,h4⟩:=inv.done B G W;exact hQ m a w h1 L h3 h4
 intro fuel
 induction fuel with
 | zero=>
  intro listed a w inv hc;have W:∀i,i<ops.size->listed.getD i false=true:=by
   intro i hi;cases N:listed.getD i false with
   |true=>rfl
   |false=>
    have hm:i∈(List.range ops.size).filter λi=> !listed.getD i false:=xR.2 ⟨by simpa using hi,by rw[N];rfl⟩;have:((List.range ops.size).filter λi=> !listed.getD i false)=[]:=xi (by omega);rw[this]at hm;cases hm
  refine⟨?_,fin inv W⟩;apply List.filter_eq_nil_iff.2;intro i hi;have hi':i<ops.size:=by simpa using hi
  have:=W i hi';have h1:i<listed.size:=by rw[inv.sz];exact hi'
  simp only[qZ,Array.getElem?_eq_getElem h1,xm]at this⊢;simp[this]
 | succ fuel ih=>
  intro listed a w inv hc;refine⟨λhr=>fin inv ?_,λi hi=>?_⟩
  ·-- nothing is ready:all is done
   apply Classical.byContradiction;intro hno;obtain⟨a1,a2,a3,a4⟩:=CS (λp=> !Bg pl listed p) pl.length 0;have I:E3 (λp=> !Bg pl listed p) 0 pl.length<0+pl.length:=by
    rcases xk (E3 (λp=> !Bg pl listed p) 0 pl.length) (0+pl.length)with h|h
    ·exact h
    ·exfalso;apply hno;intro i hi;obtain⟨p,J,rfl⟩:=G.Wl i hi;have:=a3 p (xl _) (by omega);simpa[Bg]using this
   have hn:=a4 I;generalize E3 (λp=> !Bg pl listed p) 0 pl.length=p at a1 a2 a3 I hn;have J:p<pl.length:=by omega
   have hin:A9 pl p<ops.size:=(Array.getElem?_eq_some_iff.1 (G.lt p J)).1;have hready:A9 pl p∈Region.ready .any ops listed:=by
    simp only[Region.ready,xR,xG,xa,xj];refine⟨hin,?_,?_⟩
    ·have h1:A9 pl p<listed.size:=by rw[inv.sz];exact hin
     simp only[Bg,qZ,Array.getElem?_eq_getElem h1,xm,xj]at hn⊢;exact hn
    ·rw[G.lt p J];simp only[q8,xm];rw[<-Array.all_toList];refine xg.2 λe he=>?_;cases hb:Region.binds .any e with
     |false=>rfl
     | true=>
      simp only[Bool.not_true,Bool.false_or];have hdep:dep (closure ops.toList []) e.on (A9 pl p)=true:=by
       have hsp:=(GY ops.toList [] (A9 pl p) (BJ ops pl p) e.on (by simpa using G.lt p J)).2 ⟨e,he,hb,.inl rfl⟩;simpa[dep]using hsp
      have hon:=G.WS p J e he hb;obtain⟨q,M,hqe⟩:=G.Wl e.on (by omega);rw[<-hqe]at hdep⊢;rcases Nat.lt_trichotomy q p with h|h|h
      ·have:=a3 q (xl _) h;simpa[Bg]using this
      ·subst h;omega
      ·rw[G.SO p q h M]at hdep;cases hdep
   rw[hr]at hready;cases hready
  ·refine Inv.step B G Z hz inv hi λa' w' inv'=>ih _ a' w' inv' ?_;have hi2:i<ops.size/\listed.getD i true=false:=by
    simp only[Region.ready,xR,xG,xa,xj]at hi;exact⟨hi.1,hi.2.1⟩
   have h1:i<listed.size:=by rw[inv.sz];exact hi2.1
   have:=JO (List.range ops.size) (λj=> !listed.getD j false) (λj=> !(listed.setIfInBounds i true).getD j false) (λj hj=>by
    by_cases e:i=j
    ·subst e;simp[qZ,h1]at hj
    ·simpa[qZ,Array.getElem?_setIfInBounds_ne e]using hj)
    ⟨i,by simpa using hi2.1,by
     have:=hi2.2;simp only[qZ,Array.getElem?_eq_getElem h1,xm]at this⊢
     simp[this],by simp[qZ,h1]⟩
   omega
theorem KV(hmix:C.P.follows .mixedOrders=true)(hok:J4 C.P ops pl=true)(Z:GH C.P C.C4 S.call){w0:World}(hz:CL C.C4 w0){m:BU}{h h':AE}{w:World}{fr fr':Fr}{a:Act}{id:Nat}{Q:Exit->Act->World->Prop}
  (r:Rel C.P w0 m h w) (hf:FR m fr a) (hr:Bl C S g ops pl [] fr h=some (fr',h'))
  (hQ:∀m' a' w',(∀id,id<h.size->m' id=m id)->Rel C.P w0 m' h' w'->FR m' fr' a'->a'.defers=a.defers->Q .normal a' w'):(Code.region id ops true).wp C.P Q a w:=by
 have G:=N7 hok;obtain⟨F,H,T,B,rfl,rfl,_,rfl,rfl⟩:=G9 pl [] fr h fr' h' hr;refine wp_region_any hmix ?_;have r':Rel C.P w0 m (H 0) {w with drawn:=w.drawn+1}:=r.drew;refine Inv.any B G Z hz (m0:=m) (d0:=a.defers) hQ ops.size _ a _ (Inv.start B G Z r' hf) ?_;exact xn (List.length_filter_le _ _) (by simp)
theorem KZ(hok:J4 C.P ops pl=true)(Z:GH C.P C.C4 S.call){h h':AE}{fr fr':Fr}(hr:Bl C S g ops pl [] fr h=some (fr',h')):BT g h h'/\fr'.length=fr.length:=by
 have G:=N7 hok;obtain⟨F,H,T,B,rfl,rfl,_,rfl,rfl⟩:=G9 pl [] fr h fr' h' hr;refine⟨?_,B.len G _ (xb _)⟩;have all:∀p,p<=pl.length->BT g (H 0) (H p):=by
  intro p
  induction p with
  |zero=>intro _;exact BT.refl _ _
  |succ p ih=>
   intro J;exact(ih (by omega)).trans ((B.keeps G Z (p:=p) (by omega)).weaken λid hid=>M4 id hid)
 exact all _ (xb _)
end
end Go.Abs
