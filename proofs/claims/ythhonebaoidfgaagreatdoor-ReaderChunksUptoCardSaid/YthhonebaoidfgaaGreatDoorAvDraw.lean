/-
 A part.
-/
import Derived.Test.YthhonebaoidfgaaGreatDoorAvPlan
set_option linter.unusedSimpArgs false
namespace Go.Av
open Go.RowKit
section
variable {C:Hv} {S:Self} {g:Gd} {ops:Array Oper} {pl:List (Nat×List Nat)} {F:Nat->Fr} {H:Nat->AF} {T:Nat->List (Nat×Nat)}
def DL(pl:List (Nat×List Nat))(listed:Array Bool)(p:Nat):Bool:=listed.getD (B8 pl p) false
def kW(C:Hv)(ops:Array Oper)(pl:List (Nat×List Nat))(listed:Array Bool):Nat:=J4 (λp=>(Bd C.P (CK ops pl p).op==3)&& !DL pl listed p) 0 pl.length
def qS(ops:Array Oper)(pl:List (Nat×List Nat))(listed:Array Bool)(t:Nat):Nat:=J4 (λp=>((CK ops pl p).dst==some t)&& !DL pl listed p) 0 pl.length
theorem Nt(C:Hv)(ops:Array Oper)(pl:List (Nat×List Nat))(listed:Array Bool):kW C ops pl listed<=pl.length:=by
 have:=(Ft (λp=>(Bd C.P (CK ops pl p).op==3)&& !DL pl listed p) pl.length 0).2.1;unfold kW;omega
theorem Ia{p:Nat}{listed:Array Bool}(h:p<kW C ops pl listed)(hc:Bd C.P (CK ops pl p).op=3):DL pl listed p=true:=by
 have:=(Ft (λp=>(Bd C.P (CK ops pl p).op==3)&& !DL pl listed p) pl.length 0).2.2.1 p (yf _) h;simpa[hc]using this
theorem SD{listed:Array Bool}(h:kW C ops pl listed<pl.length):Bd C.P (CK ops pl (kW C ops pl listed)).op=3/\DL pl listed (kW C ops pl listed)=false:=by
 have:=(Ft (λp=>(Bd C.P (CK ops pl p).op==3)&& !DL pl listed p) pl.length 0).2.2.2 (by unfold kW at h;omega);simpa[kW]using this
theorem Pw(ops:Array Oper)(pl:List (Nat×List Nat))(listed:Array Bool)(t:Nat):qS ops pl listed t<=pl.length:=by
 have:=(Ft (λp=>((CK ops pl p).dst==some t)&& !DL pl listed p) pl.length 0).2.1;unfold qS;omega
theorem QY{p t:Nat}{listed:Array Bool}(h:p<qS ops pl listed t)(hc:(CK ops pl p).dst=some t):DL pl listed p=true:=by
 have:=(Ft (λp=>((CK ops pl p).dst==some t)&& !DL pl listed p) pl.length 0).2.2.1 p (yf _) h;simpa[hc]using this
theorem Y9{t:Nat}{listed:Array Bool}(h:qS ops pl listed t<pl.length):(CK ops pl (qS ops pl listed t)).dst=some t/\DL pl listed (qS ops pl listed t)=false:=by
 have:=(Ft (λp=>((CK ops pl p).dst==some t)&& !DL pl listed p) pl.length 0).2.2.2 (by unfold qS at h;omega);simpa[qS]using this
def Lt(ops:Array Oper)(listed:Array Bool)(i:Nat):Prop:=∀o,ops[i]?=some o->∀e∈o.after.toList,Region.binds .any e=true->listed.getD e.on false=true
def Closed(ops:Array Oper)(listed:Array Bool):Prop:=∀i,i<ops.size->listed.getD i false=true->Lt ops listed i
theorem MO{listed:Array Bool}(hc:Closed ops listed){j:Nat}:∀(i:Nat),i<ops.size->Lt ops listed i->dep (closure ops.toList []) j i=true->listed.getD j false=true:=by
 intro i
 induction i using Nat.strongRecOn with
 | _ i ih=>
  intro hi D hd;have ho:ops[i]?=some ops[i]:=Array.getElem?_eq_getElem hi;have hsp:=(MD ops.toList [] i ops[i] j (by simp[hi])).1 (by simpa[dep]using hd);obtain⟨e,he,hb,h|⟨I,h⟩⟩:=hsp
  ·rw[h];exact D _ ho e he hb
  ·have L:=D _ ho e he hb;simp only[zY,yz]at I;exact ih e.on I om (hc e.on om L) (by simpa[dep]using h)
structure Inv(C:Hv)(ops:Array Oper)(pl:List (Nat×List Nat))(F:Nat->Fr)(H:Nat->AF)(w0:World)(m0:Bk)(d0:List Deferred)(listed:Array Bool)(a:Act)(w:World):Prop where
 sz:listed.size=ops.size
 closed:Closed ops listed
 defers:a.defers=d0
 tmps:a.tmps.size=(F 0).length
 rel:∃m:Bk,(m0.ext (H 0).size m)/\Rel C.P w0 m (H (kW C ops pl listed)) w/\(∀t,VR m (nth (F (qS ops pl listed t)) t) (a.tmps.getD t undef))/\
  (∀p,p<pl.length->Bd C.P (CK ops pl p).op=2->DL pl listed p=false->DN ops (F p) (CK ops pl p)=some true->m (H p).size=none)
theorem Inv.start(B:I3 C S g ops pl F H T)(D:Oq C.P ops pl)(X:HW C.P C.DC S){w0:World}{m0:Bk}{a:Act}{w:World}(r:Rel C.P w0 m0 (H 0) w)(hf:FR m0 (F 0) a):
  Inv C ops pl F H w0 m0 a.defers (Array.replicate ops.size false) a w:=by
 have L:∀i,(Array.replicate ops.size false).getD i false=false:=λi=>by
  simp only[zn,Array.getElem?_replicate];split<;>rfl
 have hlst:∀p,DL pl (Array.replicate ops.size false) p=false:=λp=>L _;refine⟨by simp,(λi _ h=>by rw[L]at h;cases h),rfl,hf.1.symm,m0,Bk.ext.refl _ _,?_,λt=>?_,λp G _ _ _=>?_⟩
 ·refine B.VD D r _ (yf _) (Nt _ _ _ _) λx _ hx hc=>?_;have:=Ia hx hc;rw[hlst]at this;cases this
 ·rw[B.slot D (p:=0) _ (yf _) (Pw _ _ _ _) λx _ hx hc=>?_]
  ·exact hf.2 t
  ·have:=QY hx hc;rw[hlst]at this;cases this
 ·exact r.fresh (B.size D X p (yf _) om)
theorem M5(B:I3 C S g ops pl F H T)(D:Oq C.P ops pl){listed:Array Bool}{p:Nat}(G:p<pl.length)
  (hb:∀q,q<p->(CK ops pl q).dst=(CK ops pl p).dst->(CK ops pl q).dst≠none->DL pl listed q=true)
  (ha:∀q,p<q->q<pl.length->(CK ops pl q).dst=(CK ops pl p).dst->(CK ops pl q).dst≠none->DL pl listed q=false)
  (O:∀q,q<pl.length->DL pl (listed.setIfInBounds (B8 pl p) true) q=(DL pl listed q||decide (q=p)))
  {m m':Bk} (hm:m.le m') {a:Act} (htm:a.tmps.size=(F 0).length) (hv:∀t,VR m (nth (F (qS ops pl listed t)) t) (a.tmps.getD t undef)) {x:AD} {v:Value} (hx:VR m' x v) (hF:F (p+1)=put (F p) (CK ops pl p).dst x) (t:Nat):
  VR m' (nth (F (qS ops pl (listed.setIfInBounds (B8 pl p) true) t)) t) ((a.put (CK ops pl p).dst v).tmps.getD t undef):=by
 by_cases hd:(CK ops pl p).dst=some t
 ·-- the slot that the step writes
  have hq':p<qS ops pl (listed.setIfInBounds (B8 pl p) true) t:=by
   rcases yh p (qS ops pl (listed.setIfInBounds (B8 pl p) true) t)with h|h
   ·exact h
   ·exfalso;obtain⟨c1,c2⟩:=Y9 (ops:=ops) (pl:=pl) (listed:=listed.setIfInBounds (B8 pl p) true) (t:=t) om;rw[O _ om]at c2;simp only[zM,zD]at c2;have:=hb _ om (c1.trans hd.symm) (by rw[c1];simp);rw[c2.1]at this;cases this
  have e1:nth (F (qS ops pl (listed.setIfInBounds (B8 pl p) true) t)) t=nth (F (p+1)) t:=by
   refine B.slot D _ om (Pw _ _ _ _) λy h1 h2 hc=>?_;have h3:=QY h2 hc;have M:y<pl.length:=zX h2 (Pw _ _ _ _);rw[O y M]at h3;have h4:=ha y om M (hc.trans hd.symm) (by rw[hc];simp);rw[h4]at h3;simp at h3;omega
  rw[e1,hF,hd];show VR m' (nth ((F p).set t x) t) ((a.tmps.setIfInBounds t v).getD t undef);rw[G4];by_cases Y:t<(F p).length
  ·rw[zl ⟨rfl,Y⟩];have:t<a.tmps.size:=by rw[htm,<-B.len D p om];exact Y
   simpa[zn,this]using hx
  ·rw[zj (by rintro⟨_,h⟩;exact Y h)];have h1:nth (F p) t=.tuple []:=by rw[Ga,zo,List.getElem?_eq_none om];rfl
   have h2:¬t<a.tmps.size:=by rw[htm,<-B.len D p om];exact Y
   rw[h1];have:(a.tmps.setIfInBounds t v).getD t undef=undef:=by simp[zn,h2]
   rw[this];exact VR.HN m'
 ·-- another slot
  have e1:qS ops pl (listed.setIfInBounds (B8 pl p) true) t=qS ops pl listed t:=by
   obtain⟨a1,a2,a3,a4⟩:=Ft (λp=>((CK ops pl p).dst==some t)&& !DL pl listed p) pl.length 0;refine PU _ (Pw _ _ _ _) (λy V=>?_) (λI=>?_)
   ·have:=a3 y (yf _) V;have M:y<pl.length:=zX V (Pw _ _ _ _);simp only[O y M];rcases yv.1 this with h|h
    ·simp[h]
    ·simp only[yP]at h;simp[h]
   ·obtain⟨c1,c2⟩:=Y9 I;rw[O _ I];have N:qS ops pl listed t≠p:=λe=>hd (by rw[<-e];exact c1);simp[c1,c2,N]
  rw[e1];have:(a.put (CK ops pl p).dst v).tmps.getD t undef=a.tmps.getD t undef:=by
   cases hdd:(CK ops pl p).dst with
   |none=>rfl
   |some d=>
    have N:d≠t:=λe=>hd (by rw[hdd,e]);simp[Act.put,zn,Array.getElem?_setIfInBounds_ne N]
  rw[this];exact(hv t).mono hm
theorem size_put(a:Act)(d:Option Tmp)(v:Value):(a.put d v).tmps.size=a.tmps.size:=by cases d<;>simp[Act.put]
theorem Inv.step(B:I3 C S g ops pl F H T)(D:Oq C.P ops pl)(X:HW C.P C.DC S){w0:World}(hz:CH C.DC w0){m0:Bk}{d0:List Deferred}{listed:Array Bool}{a:Act}{w:World}
  (inv:Inv C ops pl F H w0 m0 d0 listed a w) {i:Nat} (hi:i∈Region.ready .any ops listed) {K:Act->World->Prop} {Q:Exit->Act->World->Prop}
  (hK:∀a' w',Inv C ops pl F H w0 m0 d0 (listed.setIfInBounds i true) a' w'->K a' w') (rd:Option Nat):wpOpIn (FW rd) 0 C.P ops Q i K a w:=by
 obtain⟨Z,hnl0,hpre⟩:i<ops.size/\listed.getD i true=false/\Lt ops listed i:=by
  simp only[Region.ready,yx,zO,zf,zH]at hi;refine⟨hi.1,hi.2.1,λo ho e he hb=>?_⟩;have:=hi.2.2;rw[ho]at this;simp only[zh,zV]at this;rw[<-qP]at this;have:=zr.1 this e he;rw[hb]at this;simpa using this
 obtain⟨p,G,rfl⟩:=D.lG i Z;have hsz:=inv.sz;have hnl:DL pl listed p=false:=by
  unfold DL;have h1:B8 pl p<listed.size:=by rw[hsz];exact Z
  simp only[zn,Array.getElem?_eq_getElem h1,zV]at hnl0⊢;exact hnl0
 have before_:∀q,q<p->dep (closure ops.toList []) (B8 pl q) (B8 pl p)=true->DL pl listed q=true:=λq _ hd=>MO inv.closed _ Z hpre hd;have behind:∀q,p<q->q<pl.length->dep (closure ops.toList []) (B8 pl p) (B8 pl q)=true->DL pl listed q=false:=λq _ J hd=>by
  cases L:DL pl listed q with
  |false=>rfl
  |true=>
   have hql:B8 pl q<ops.size:=(Array.getElem?_eq_some_iff.1 (D.lt q J)).1;have:=MO inv.closed _ hql (inv.closed _ hql L) hd;unfold DL at hnl;rw[hnl]at this;cases this
 have ord:∀q,q<pl.length->q≠p->(q<p->dep (closure ops.toList []) (B8 pl q) (B8 pl p)=true)->(p<q->dep (closure ops.toList []) (B8 pl p) (B8 pl q)=true)->DL pl listed q=decide (q<p):=by
  intro q J N h1 h2;rcases qG N with h|h
  ·rw[before_ q h (h1 h)];simp[h]
  ·rw[behind q h J (h2 h)];simp;omega
 have looks:∀t∈(CK ops pl p).looksAt ops,nth (F (qS ops pl listed t)) t=nth (F p) t:=by
  intro t Y;have wr:∀q,q<pl.length->q≠p->(CK ops pl q).dst=some t->DL pl listed q=decide (q<p):=by
   intro q J N hd;refine ord q J N (λI=>?_) (λI=>?_)
   ·rcases D.pair q p I G with h|⟨h,_⟩
    ·exact h
    ·exact absurd Y ((Oper.apart_spec h).1 t hd)
   ·rcases D.pair p q I J with h|⟨h,_⟩
    ·exact h
    ·exact absurd Y ((Oper.apart_spec h).2.2 t hd)
  have hge:p<=qS ops pl listed t:=by
   rcases yh (qS ops pl listed t) p with h|h
   ·obtain⟨c1,c2⟩:=Y9 (ops:=ops) (pl:=pl) (listed:=listed) (t:=t) om;rw[wr _ om om c1]at c2;simp at c2;omega
   ·exact h
  refine B.slot D _ hge (Pw _ _ _ _) λx h1 h2 hd=>?_;have L:=QY h2 hd;have hxn:x<pl.length:=zX h2 (Pw _ _ _ _);by_cases hxp:x=p
  ·rw[hxp,hnl]at L;cases L
  ·rw[wr x hxn hxp hd]at L;simp at L;omega
 have wrB:∀q,q<p->(CK ops pl q).dst=(CK ops pl p).dst->(CK ops pl q).dst≠none->DL pl listed q=true:=by
  intro q I hd hn;rcases D.pair q p I G with h|⟨h,_⟩
  ·exact before_ q I h
  ·cases J:(CK ops pl q).dst with
   |none=>exact absurd J hn
   |some d=>exact absurd (hd.symm.trans J) ((Oper.apart_spec h).2.1 d J)
 have wrA:∀q,p<q->q<pl.length->(CK ops pl q).dst=(CK ops pl p).dst->(CK ops pl q).dst≠none->DL pl listed q=false:=by
  intro q I J hd hn;rcases D.pair p q I J with h|⟨h,_⟩
  ·exact behind q I J h
  ·cases hq':(CK ops pl p).dst with
   |none=>rw[hq']at hd;exact absurd hd hn
   |some d=>exact absurd (hd.trans hq') ((Oper.apart_spec h).2.1 d hq')
 have O:∀q,q<pl.length->DL pl (listed.setIfInBounds (B8 pl p) true) q=(DL pl listed q||decide (q=p)):=by
  intro q J;unfold DL;simp only[zn];by_cases e:q=p
  ·subst e;have h1:B8 pl q<listed.size:=by rw[hsz];exact Z
   simp[h1]
  ·have N:B8 pl p≠B8 pl q:=by
    rcases qG e with h|h
    ·exact λhh=>D.ne q p h G hh.symm
    ·exact D.ne p q h J
   simp[Array.getElem?_setIfInBounds_ne N,e]
 have closed':Closed ops (listed.setIfInBounds (B8 pl p) true):=by
  have mono:∀j,listed.getD j false=true->(listed.setIfInBounds (B8 pl p) true).getD j false=true:=by
   intro j hj;by_cases e:B8 pl p=j
   ·subst e;have h1:B8 pl p<listed.size:=by rw[hsz];exact Z
    simp[zn,h1]
   ·simpa[zn,Array.getElem?_setIfInBounds_ne e]using hj
  intro j hj hlj o ho e he hb;by_cases ej:B8 pl p=j
  ·subst ej;exact mono _ (hpre o ho e he hb)
  ·have:listed.getD j false=true:=by simpa[zn,Array.getElem?_setIfInBounds_ne ej]using hlj
   exact mono _ (inv.closed j hj this o ho e he hb)
 obtain⟨m,hm0,rel,hv,hgh⟩:=inv.rel;obtain⟨FD,hFD⟩:∃FD:Fr,FD=(List.range (F 0).length).map λt=>nth (F (qS ops pl listed t)) t:=⟨_,rfl⟩;have hFDn:∀t,nth FD t=nth (F (qS ops pl listed t)) t:=by
  intro t;rw[hFD,Ga,zo,List.getElem?_map];by_cases Y:t<(F 0).length
  ·simp[List.getElem?_range Y]
  ·rw[List.getElem?_eq_none (by simp;omega)];rw[Ga,zo,List.getElem?_eq_none (by rw[B.len D _ (Pw _ _ _ _)];omega)];rfl
 have hfr:FR m FD a:=⟨by rw[hFD];simp[inv.tmps],λt=>by rw[hFDn];exact hv t⟩;have hsame:∀t∈(CK ops pl p).looksAt ops,nth FD t=nth (F p) t:=λt Y=>by rw[hFDn];exact looks t Y
 have hso:=Ql hsame;unfold wpOpIn;rw[D.lt p G];simp only;have kcmp:Bd C.P (CK ops pl p).op≠0->p<=kW C ops pl listed:=by
  intro hc;rcases yh (kW C ops pl listed) p with h|h
  ·obtain⟨c1,c2⟩:=SD (C:=C) (ops:=ops) (pl:=pl) (listed:=listed) om;rcases D.pair _ p h G with hd|⟨_,hd⟩
   ·have:=before_ _ h hd;rw[c2]at this;cases this
   ·rcases hd with hd|hd|⟨hd,_⟩
    ·exact absurd hd hc
    ·rw[c1]at hd;cases hd
    ·exact absurd c1 hd
  ·exact h
 have prot1:Bd C.P (CK ops pl p).op=1\/Bd C.P (CK ops pl p).op=2->∀x,p<x->x<kW C ops pl listed->Bd C.P (CK ops pl x).op=3->(No pl x).any (Nat.beq (B8 pl p))=true\/(Bd C.P (CK ops pl p).op=1/\(No pl x).any (Nat.beq (B8 pl p+10000))=true/\Ph ops (closure ops.toList []) (B8 pl p)=true):=by
  intro hc x h1 h2 hx;have hxn:x<pl.length:=zX h2 (Nt _ _ _ _);have L:=Ia h2 hx;rcases D.pair p x h1 hxn with hd|⟨_,hd⟩
  ·rw[behind x h1 hxn hd]at L;cases L
  ·rcases hd with hd|hd|⟨_,hd|hd⟩
   ·rw[hx]at hd;cases hd
   ·rcases hc with h|h<;>rw[h]at hd<;>cases hd
   ·exact absurd hx hd
   ·exact hd
 have BW:Bd C.P (CK ops pl p).op=2->∀x,p<x->x<kW C ops pl listed->Bd C.P (CK ops pl x).op=3->(No pl x).any (Nat.beq (B8 pl p))=true:=by
  intro hc x h1 h2 hx;rcases prot1 (.inr hc) x h1 h2 hx with h|⟨h,_⟩
  ·exact h
  ·rw[hc]at h;cases h
 have kSame:Bd C.P (CK ops pl p).op≠3->kW C ops pl (listed.setIfInBounds (B8 pl p) true)=kW C ops pl listed:=by
  intro hc;obtain⟨a1,a2,a3,a4⟩:=Ft (λp=>(Bd C.P (CK ops pl p).op==3)&& !DL pl listed p) pl.length 0;refine PU _ (Nt _ _ _ _) (λy V=>?_) (λI=>?_)
  ·have:=a3 y (yf _) V;have M:y<pl.length:=zX V (Nt _ _ _ _);simp only[O y M];rcases yv.1 this with h|h
   ·simp[h]
   ·simp only[yP]at h;simp[h]
  ·obtain⟨c1,c2⟩:=SD I;rw[O _ I];have N:kW C ops pl listed≠p:=λe=>hc (by rw[<-e];exact c1);simp[c1,c2,N]
 have ghosts':∀{m':Bk},(∀q,q<pl.length->q≠p->Bd C.P (CK ops pl q).op=2->DL pl listed q=false->DN ops (F q) (CK ops pl q)=some true->m' (H q).size=none)->
   ∀q,q<pl.length->Bd C.P (CK ops pl q).op=2->DL pl (listed.setIfInBounds (B8 pl p) true) q=false->DN ops (F q) (CK ops pl q)=some true->m' (H q).size=none:=by
  intro m' h q J hc L hw;rw[O q J]at L;simp only[zM,zD]at L;exact h q J L.2 hc L.1 hw
 rcases B.at_ D G with⟨hw,hF,hH,_⟩|⟨hw,x,hs,hF,hT,_⟩
 ·-- it is not wanted
  have hwant:=HD hfr (by rw[MJ hsame];exact hw);rw[zj (by rw[hwant];simp)];refine⟨λ_ _=>trivial,hK _ _ ⟨by simp[hsz],closed',by rw[D7];exact inv.defers,by rw[size_put];exact inv.tmps,m,hm0,?_,λt=>M5 B D G wrB wrA O (Bk.le_refl m) inv.tmps hv (VR.HN m) hF t,ghosts' λq J _ hc L hw=>hgh q J hc L hw⟩⟩;by_cases hc:Bd C.P (CK ops pl p).op=3
  ·-- a writing operation that is passed over
   have hkp:kW C ops pl listed=p:=by
    have h1:=kcmp (by rw[hc];simp);rcases yh p (kW C ops pl listed)with h|h
    ·have:=Ia h hc;rw[hnl]at this;cases this
    ·omega
   have hk':p+1<=kW C ops pl (listed.setIfInBounds (B8 pl p) true):=by
    rcases yh (kW C ops pl (listed.setIfInBounds (B8 pl p) true)) (p+1)with h|h
    ·exfalso;obtain⟨c1,c2⟩:=SD (C:=C) (ops:=ops) (pl:=pl) (listed:=listed.setIfInBounds (B8 pl p) true) om;rw[O _ om]at c2;simp only[zM,zD]at c2;have:=Ia (C:=C) (ops:=ops) (pl:=pl) (listed:=listed) (p:=kW C ops pl (listed.setIfInBounds (B8 pl p) true)) om c1;rw[c2.1]at this;cases this
    ·exact h
   rw[hkp,<-hH]at rel;refine B.VD D rel _ hk' (Nt _ _ _ _) λy h1 h2 V=>?_;have M:y<pl.length:=zX h2 (Nt _ _ _ _);have h3:=Ia h2 V;rw[O y M]at h3;have h4:DL pl listed y=false:=by
    rcases D.pair p y om M with hd|⟨_,hd⟩
    ·exact behind y om M hd
    ·rcases hd with hd|hd|⟨hd,_⟩
     ·rw[V]at hd;cases hd
     ·rw[hc]at hd;cases hd
     ·exact absurd hc hd
   rw[h4]at h3;simp at h3;omega
  ·rw[kSame hc];exact rel
 ·-- it is run
  have hwant:=HD hfr (by rw[MJ hsame];exact hw);rw[zl hwant];by_cases hc3:Bd C.P (CK ops pl p).op=3
  ·-- a writing operation:the heap is the plan's own
   have hkp:kW C ops pl listed=p:=by
    have h1:=kcmp (by rw[hc3];simp);rcases yh p (kW C ops pl listed)with h|h
    ·have:=Ia h hc3;rw[hnl]at this;cases this
    ·omega
   rw[hkp]at rel;rw[<-TE hso]at hs;refine LB X hz rel hfr hs (λm' v' w' e1 e2 e3=>hK _ _ ?_) rd;have hle:=rel.Oi e1;have hk':p+1<=kW C ops pl (listed.setIfInBounds (B8 pl p) true):=by
    rcases yh (kW C ops pl (listed.setIfInBounds (B8 pl p) true)) (p+1)with h|h
    ·exfalso;obtain⟨c1,c2⟩:=SD (C:=C) (ops:=ops) (pl:=pl) (listed:=listed.setIfInBounds (B8 pl p) true) om;rw[O _ om]at c2;simp only[zM,zD]at c2;have:=Ia (C:=C) (ops:=ops) (pl:=pl) (listed:=listed) (p:=kW C ops pl (listed.setIfInBounds (B8 pl p) true)) om c1;rw[c2.1]at this;cases this
    ·exact h
   have notdone:∀y,p<y->y<pl.length->Bd C.P (CK ops pl y).op≠0->DL pl listed y=false:=by
    intro y h1 M V;rcases D.pair p y h1 M with hd|⟨_,hd⟩
    ·exact behind y h1 M hd
    ·rcases hd with hd|hd|⟨hd,_⟩
     ·exact absurd hd V
     ·rw[hc3]at hd;cases hd
     ·exact absurd hc3 hd
   refine⟨by simp[hsz],closed',by rw[D7];exact inv.defers,by rw[size_put];exact inv.tmps,m',hm0.trans e1 (B.size D X p (yf _) om),?_,λt=>M5 B D G wrB wrA O hle inv.tmps hv e3 hF t,ghosts' λq J N hc L hw=>?_⟩
   ·refine B.VD D e2 _ hk' (Nt _ _ _ _) λy h1 h2 V=>?_;have M:y<pl.length:=zX h2 (Nt _ _ _ _);have h3:=Ia h2 V;rw[O y M,notdone y om M (by rw[V];simp)]at h3;simp at h3;omega
   ·rcases qG N with h|h
    ·-- it makes an object at a place ahead of ours
     have I:(H q).size<(H p).size:=by
      have h1:(H (q+1)).size=(H q).size+1:=by
       rcases B.at_ D J with⟨hw2,_⟩|⟨_,u,R,_,_⟩
       ·rw[hw]at hw2;cases hw2
       ·rw[JG (by rw[hc];simp)]at R;unfold Jl at R;rw[hc]at R;simp only[zk,ze]at R;obtain⟨_,_,_,e⟩:=R;rw[<-e];simp
      have h2:=B.size D X (p:=q+1) p om om;omega
     rw[e1.i _ I];exact hgh q J hc L hw
    ·exact e2.fresh (B.size D X (p:=p+1) q om om)
  ·-- no writing operation:by its class
   have hkS:=kSame hc3;rw[JG hc3]at hs;have hnd:∀c,(CK ops pl p).op≠.defer c:=λc e=>hc3 (by rw[e];rfl);have fin:∀{m':Bk} {v':Value} {w':World},m.le m'->(m0.ext (H 0).size m')->Rel C.P w0 m' (H (kW C ops pl listed)) w'->VR m' x v'->
     (∀q,q<pl.length->q≠p->Bd C.P (CK ops pl q).op=2->DL pl listed q=false->DN ops (F q) (CK ops pl q)=some true->m' (H q).size=none)->
     K (a.put (CK ops pl p).dst v') w':=by
    intro m' v' w' h1 h2 h3 h4 h5;exact hK _ _ ⟨by simp[hsz],closed',by rw[D7];exact inv.defers,by rw[size_put];exact inv.tmps,m',h2,by rw[hkS];exact h3,λt=>M5 B D G wrB wrA O h1 inv.tmps hv h4 hF t,ghosts' h5⟩
   unfold Jl at hs;split at hs
   ·-- slots alone
    rename_i hc;simp only[zk,ze]at hs;obtain⟨x',W,rfl,_⟩:=hs;rw[<-Wf hso]at W;obtain⟨v',h1,h2⟩:=T0 (P:=C.P) w hfr W;refine⟨λ_ _=>trivial,?_⟩;rw[Oper.semAt_eq _ _ _ hnd,h1];exact fin (Bk.le_refl m) hm0 rel h2 λq J _ hc L hw=>hgh q J hc L hw
   ·-- it reads one object
    rename_i hc;have hkp:=kcmp (by rw[hc];simp);have hkne:kW C ops pl listed≠p:=λe=>by
     have:=(SD (C:=C) (ops:=ops) (pl:=pl) (listed:=listed) om).1;rw[e,hc]at this;cases this
    have go:∀ob,(EN (F p) (CK ops pl p).op).bind (H (kW C ops pl listed)).get=ob->Mh C.P C.DC (F p) ob (CK ops pl p).op=some x->Oper.wpIn (FW rd) 0 C.P (CK ops pl p) a w K Q:=by
     intro ob hob W;rw[<-PQ hso,<-hob,<-M8 hso]at W;obtain⟨v',h1,h2⟩:=UR hz rel hfr W;refine⟨λ_ _=>trivial,?_⟩;rw[Oper.semAt_eq _ _ _ hnd,h1];exact fin (Bk.le_refl m) hm0 rel h2 λq J _ hc L hw=>hgh q J hc L hw
    split at hs
    ·rename_i Y;simp only[zk,ze]at hs;obtain⟨x',W,rfl,_⟩:=hs;exact go none (by rw[Y];rfl) W
    ·rename_i id Y;split at hs
     ·rename_i ob hg;have hmem:(B8 pl p,id)∈T (p+1):=by
       rw[hT];unfold ID;rw[hc];simp only[Y];exact List.mem_cons_self
      simp only[zk,ze]at hs;obtain⟨x',W,rfl,hHp⟩:=hs;obtain⟨ob2,g1,g2⟩:=B.reads D X G hw Y (by rw[<-hHp];exact hg) W hF hmem (kW C ops pl listed) om (Nt _ _ _ _) λy h1 h2 V=>by
       rcases prot1 (.inl hc) y h1 h2 V with h|⟨_,h⟩
       ·exact .inl h
       ·exact .inr h
      exact go (some ob2) (by rw[Y];exact g1) g2
     ·cases hs
   ·-- it makes one object
    rename_i hc;have hkp:=kcmp (by rw[hc];simp);have hkne:kW C ops pl listed≠p:=λe=>by
     have:=(SD (C:=C) (ops:=ops) (pl:=pl) (listed:=listed) om).1;rw[e,hc]at this;cases this
    simp only[zk,ze]at hs;obtain⟨nw,hnw,rfl,hHp⟩:=hs;rw[<-WG hso]at hnw;obtain⟨v',w',E,h1,t1,t2,_,t4⟩:=UI (P:=C.P) w hfr hnw;have hnone:=hgh p G hc hnl hw;have hle:=Bk.O2 (m:=m) E hnone;obtain⟨q1,q2⟩:=t4 (m.upd (H p).size E) hle (H p).size (Bk.Gp m _ E);have hmem:(B8 pl p,(H p).size)∈T (p+1):=by
     rw[hT];unfold ID;rw[hc];exact List.mem_cons_self
    have hget1:(H (p+1)).get (H p).size=some nw.2:=by rw[<-hHp];exact AF.C7 _ _
    have hget:(H (kW C ops pl listed)).get (H p).size=some nw.2:=by
     rw[<-hget1];exact B.same D X hmem (by rw[<-hHp];simp) _ om (Nt _ _ _ _) λy h1 h2 V=>BW hc y om h2 V
    refine⟨λ_ _=>trivial,?_⟩;rw[Oper.semAt_eq _ _ _ hnd,h1];refine fin hle (hm0.trans (Bk.MC m E (by have:=B.size D X (p:=0) p (yf _) om;omega)) (zw _)) (rel.place t1 (by rw[t2];exact rel.size) (λid2 E2 o2 hm2 ho2 hl2=>?_) (rel.YC om) (λx hd=>by have:=rel.RB hd;omega) hnone hget q2) q1 λq J N hcq L hwq=>?_
    ·have:=(rel.obj id2 E2 o2 hm2 ho2).lt hl2;omega
    ·have hszq:∀y,y<pl.length->Bd C.P (CK ops pl y).op=2->DN ops (F y) (CK ops pl y)=some true->(H (y+1)).size=(H y).size+1:=by
      intro y V hcy hwy;rcases B.at_ D V with⟨hw2,_⟩|⟨_,u,R,_,_⟩
      ·rw[hwy]at hw2;cases hw2
      ·rw[JG (by rw[hcy];simp)]at R;unfold Jl at R;rw[hcy]at R;simp only[zk,ze]at R;obtain⟨_,_,_,e⟩:=R;rw[<-e];simp
     rw[Bk.Ro m E ?_]
     ·exact hgh q J hcq L hwq
     ·rcases qG N with h|h
      ·have h1:=hszq q J hcq hwq;have h2:=B.size D X (p:=q+1) p om om;omega
      ·have h1:=hszq p G hc hw;have h2:=B.size D X (p:=p+1) q om om;omega
   ·rename_i h0 h1 h2;exfalso;have:∀op,Bd C.P op=0\/Bd C.P op=1\/Bd C.P op=2\/Bd C.P op=3:=by
     intro op;unfold Bd
     repeat' split
     all_goals simp
    rcases this (CK ops pl p).op with h|h|h|h
    ·exact h0 h
    ·exact h1 h
    ·exact h2 h
    ·exact hc3 h
theorem NM:∀(l:List Nat) (f g:Nat->Bool),(∀j,g j=true->f j=true)->(∃i∈l,f i=true/\g i=false)->(l.filter g).length<(l.filter f).length
 |[],f,g,_,⟨i,hi,_⟩=>by simp at hi
 | x::l,f,g,hfg,⟨i,hi,h1,h2⟩=>by
  have le:(l.filter g).length<=(l.filter f).length:=by
   clear hi
   induction l with
   |nil=>simp
   |cons y l ih=>
    simp only[List.filter_cons];cases hg:g y
    ·cases hf:f y<;>simp<;>omega
    ·rw[hfg y hg];simp;exact ih
  simp only[List.filter_cons];by_cases e:i=x
  ·subst e;rw[h1,h2];simp;omega
  ·have hi':i∈l:=by cases hi with|head=>exact absurd rfl e|tail _ h=>exact h
   have ih:=NM l f g hfg ⟨i,hi',h1,h2⟩;cases hg:g x
   ·cases hf:f x<;>simp<;>omega
   ·rw[hfg x hg];simp;exact ih
theorem Inv.done(B:I3 C S g ops pl F H T)(D:Oq C.P ops pl){w0:World}{m0:Bk}{d0:List Deferred}{listed:Array Bool}{a:Act}{w:World}(inv:Inv C ops pl F H w0 m0 d0 listed a w)
  (U:∀i,i<ops.size->listed.getD i false=true):
  ∃m,(m0.ext (H 0).size m)/\Rel C.P w0 m (H pl.length) w/\FR m (F pl.length) a/\a.defers=d0:=by
 obtain⟨m,h1,h2,h3,_⟩:=inv.rel;have L:∀p,p<pl.length->DL pl listed p=true:=λp G=>U _ (Array.getElem?_eq_some_iff.1 (D.lt p G)).1;have hk:kW C ops pl listed=pl.length:=by
  rcases yh (kW C ops pl listed) pl.length with h|h
  ·have:=(SD h).2;rw[L _ h]at this;cases this
  ·have:=Nt C ops pl listed;omega
 have J:∀t,qS ops pl listed t=pl.length:=λt=>by
  rcases yh (qS ops pl listed t) pl.length with h|h
  ·have:=(Y9 h).2;rw[L _ h]at this;cases this
  ·have:=Pw ops pl listed t;omega
 exact⟨m,h1,by rw[<-hk];exact h2,⟨by rw[B.len D _ (zw _)];exact inv.tmps.symm,λt=>by have:=h3 t;rwa [J t]at this⟩,inv.defers⟩
theorem Inv.any(B:I3 C S g ops pl F H T)(D:Oq C.P ops pl)(X:HW C.P C.DC S){w0:World}(hz:CH C.DC w0){m0:Bk}{d0:List Deferred}{Q:Exit->Act->World->Prop}
  (hQ:∀m a w,(m0.ext (H 0).size m)->Rel C.P w0 m (H pl.length) w->FR m (F pl.length) a->a.defers=d0->Q .normal a w):
  ∀(fuel:Nat) (listed:Array Bool) (a:Act) (w:World),Inv C ops pl F H w0 m0 d0 listed a w->((List.range ops.size).filter λi=> !listed.getD i false).length<=fuel->∀rd:Option Nat,wpAnyIn (FW rd) 0 C.P .any ops Q fuel listed a w:=by
 have fin:∀{listed:Array Bool} {a:Act} {w:World},Inv C ops pl F H w0 m0 d0 listed a w->(∀i,i<ops.size->listed.getD i false=true)->Q .normal a w:=by
  intro listed a w inv U;obtain⟨m,h1,h2,h3,h4⟩:=inv.done B D U;exact hQ m a w h1 h2 h3 h4
 intro fuel
 induction fuel with
 | zero=>
  intro listed a w inv hc rd;have U:∀i,i<ops.size->listed.getD i false=true:=by
   intro i hi;cases L:listed.getD i false with
   |true=>rfl
   |false=>
    have hm:i∈(List.range ops.size).filter λi=> !listed.getD i false:=yx.2 ⟨by simpa using hi,by rw[L];rfl⟩;have:((List.range ops.size).filter λi=> !listed.getD i false)=[]:=zx om;rw[this]at hm;cases hm
  refine⟨?_,fin inv U⟩;apply xJ.2;intro i hi;have hi':i<ops.size:=by simpa using hi
  have:=U i hi';have h1:i<listed.size:=by rw[inv.sz];exact hi'
  simp only[zn,Array.getElem?_eq_getElem h1,zV]at this⊢;simp[this]
 | succ fuel ih=>
  intro listed a w inv hc rd;refine⟨λhr=>fin inv ?_,λi hi=>?_⟩
  ·-- nothing is ready:all is done
   apply Classical.byContradiction;intro hno;obtain⟨a1,a2,a3,a4⟩:=Ft (λp=> !DL pl listed p) pl.length 0;have I:J4 (λp=> !DL pl listed p) 0 pl.length<0+pl.length:=by
    rcases yh (J4 (λp=> !DL pl listed p) 0 pl.length) (0+pl.length)with h|h
    ·exact h
    ·exfalso;apply hno;intro i hi;obtain⟨p,G,rfl⟩:=D.lG i hi;have:=a3 p (yf _) om;simpa[DL]using this
   have hn:=a4 I;generalize J4 (λp=> !DL pl listed p) 0 pl.length=p at a1 a2 a3 I hn;have G:p<pl.length:=by omega
   have Z:B8 pl p<ops.size:=(Array.getElem?_eq_some_iff.1 (D.lt p G)).1;have hready:B8 pl p∈Region.ready .any ops listed:=by
    simp only[Region.ready,yx,zO,zf,zH];refine⟨Z,?_,?_⟩
    ·have h1:B8 pl p<listed.size:=by rw[inv.sz];exact Z
     simp only[DL,zn,Array.getElem?_eq_getElem h1,zV,zH]at hn⊢;exact hn
    ·rw[D.lt p G];simp only[zh,zV];rw[<-qP];refine zr.2 λe he=>?_;cases hb:Region.binds .any e with
     |false=>rfl
     | true=>
      simp only[yg,yX];have hdep:dep (closure ops.toList []) e.on (B8 pl p)=true:=by
       have hsp:=(MD ops.toList [] (B8 pl p) (CK ops pl p) e.on (by simpa using D.lt p G)).2 ⟨e,he,hb,.inl rfl⟩;simpa[dep]using hsp
      have hon:=D.lV p G e he hb;obtain⟨q,J,hqe⟩:=D.lG e.on om;rw[<-hqe]at hdep⊢;rcases xj q p with h|h|h
      ·have:=a3 q (yf _) h;simpa[DL]using this
      ·subst h;omega
      ·rw[D.gV p q h J]at hdep;cases hdep
   rw[hr]at hready;cases hready
  ·refine Inv.step B D X hz inv hi (λa' w' inv'=>ih _ a' w' inv' ?_ rd) rd;have hi2:i<ops.size/\listed.getD i true=false:=by
    simp only[Region.ready,yx,zO,zf,zH]at hi;exact⟨hi.1,hi.2.1⟩
   have h1:i<listed.size:=by rw[inv.sz];exact hi2.1
   have:=NM (List.range ops.size) (λj=> !listed.getD j false) (λj=> !(listed.setIfInBounds i true).getD j false) (λj hj=>by
    by_cases e:i=j
    ·subst e;simp[zn,h1]at hj
    ·simpa[zn,Array.getElem?_setIfInBounds_ne e]using hj)
    ⟨i,by simpa using hi2.1,by
     have:=hi2.2;simp only[zn,Array.getElem?_eq_getElem h1,zV]at this⊢
     simp[this],by simp[zn,h1]⟩
   omega
theorem TJ(hmix:C.P.follows .mixedOrders=true)(hok:S7 C.P ops pl=true)(X:HW C.P C.DC S){w0:World}(hz:CH C.DC w0){m:Bk}{h h':AF}{w:World}{fr fr':Fr}{a:Act}{id:Nat}{Q:Exit->Act->World->Prop}
  (r:Rel C.P w0 m h w) (hf:FR m fr a) (hr:DH C S g ops pl [] fr h=some (fr',h'))
  (hQ:∀m' a' w',(m.ext h.size m')->Rel C.P w0 m' h' w'->FR m' fr' a'->a'.defers=a.defers->Q .normal a' w'):∀rd:Option Nat,(Code.region id ops true).wpIn (FW rd) 0 C.P Q a w:=by
 intro rd;have D:=Yh hok;obtain⟨F,H,T,B,rfl,rfl,_,rfl,rfl⟩:=Ns pl [] fr h fr' h' hr;refine wpIn_region_any hmix ?_;have r':Rel C.P w0 m (H 0) {w with drawn:=w.drawn+1}:=r.drew;refine Inv.any B D X hz (m0:=m) (d0:=a.defers) hQ ops.size _ a _ (Inv.start B D X r' hf) ?_ rd;exact z8 (xM _ _) (by simp)
theorem TP(hok:S7 C.P ops pl=true)(X:HW C.P C.DC S){h h':AF}{fr fr':Fr}(hr:DH C S g ops pl [] fr h=some (fr',h')):Bh g h h'/\fr'.length=fr.length:=by
 have D:=Yh hok;obtain⟨F,H,T,B,rfl,rfl,_,rfl,rfl⟩:=Ns pl [] fr h fr' h' hr;refine⟨?_,B.len D _ (zw _)⟩;have all:∀p,p<=pl.length->Bh g (H 0) (H p):=by
  intro p
  induction p with
  |zero=>intro _;exact Bh.refl _ _
  |succ p ih=>
   intro G;exact(ih om).trans ((B.keeps D X (p:=p) om).weaken λid hid=>Xb id hid)
 exact all _ (zw _)
end
end Go.Av
