/-
 A part.
-/
import Derived.Test.YtfgmnhjedmkpeaaAvPlan
set_option linter.unusedSimpArgs false
namespace Go.Av
open Go.RowKit
section
variable {C:Eu} {S:Self} {g:Gd} {ops:Array Oper} {pl:List (Nat×List Nat)} {F:Nat->Fr} {H:Nat->AB} {T:Nat->List (Nat×Nat)}
def BD(pl:List (Nat×List Nat))(listed:Array Bool)(p:Nat):Bool:=listed.getD (Ae pl p) false
def kW(C:Eu)(ops:Array Oper)(pl:List (Nat×List Nat))(listed:Array Bool):Nat:=D1 (λp=>(AX C.P (Al ops pl p).op==3)&& !BD pl listed p) 0 pl.length
def qS(ops:Array Oper)(pl:List (Nat×List Nat))(listed:Array Bool)(t:Nat):Nat:=D1 (λp=>((Al ops pl p).dst==some t)&& !BD pl listed p) 0 pl.length
theorem Fz(C:Eu)(ops:Array Oper)(pl:List (Nat×List Nat))(listed:Array Bool):kW C ops pl listed<=pl.length:=by
 have:=(Bn (λp=>(AX C.P (Al ops pl p).op==3)&& !BD pl listed p) pl.length 0).2.1;unfold kW;omega
theorem DC{p:Nat}{listed:Array Bool}(h:p<kW C ops pl listed)(hc:AX C.P (Al ops pl p).op=3):BD pl listed p=true:=by
 have:=(Bn (λp=>(AX C.P (Al ops pl p).op==3)&& !BD pl listed p) pl.length 0).2.2.1 p (ye _) h;simpa[hc]using this
theorem IP{listed:Array Bool}(h:kW C ops pl listed<pl.length):AX C.P (Al ops pl (kW C ops pl listed)).op=3/\BD pl listed (kW C ops pl listed)=false:=by
 have:=(Bn (λp=>(AX C.P (Al ops pl p).op==3)&& !BD pl listed p) pl.length 0).2.2.2 (by unfold kW at h;omega);simpa[kW]using this
theorem Gm(ops:Array Oper)(pl:List (Nat×List Nat))(listed:Array Bool)(t:Nat):qS ops pl listed t<=pl.length:=by
 have:=(Bn (λp=>((Al ops pl p).dst==some t)&& !BD pl listed p) pl.length 0).2.1;unfold qS;omega
theorem HR{p t:Nat}{listed:Array Bool}(h:p<qS ops pl listed t)(hc:(Al ops pl p).dst=some t):BD pl listed p=true:=by
 have:=(Bn (λp=>((Al ops pl p).dst==some t)&& !BD pl listed p) pl.length 0).2.2.1 p (ye _) h;simpa[hc]using this
theorem Li{t:Nat}{listed:Array Bool}(h:qS ops pl listed t<pl.length):(Al ops pl (qS ops pl listed t)).dst=some t/\BD pl listed (qS ops pl listed t)=false:=by
 have:=(Bn (λp=>((Al ops pl p).dst==some t)&& !BD pl listed p) pl.length 0).2.2.2 (by unfold qS at h;omega);simpa[qS]using this
def HO(ops:Array Oper)(listed:Array Bool)(i:Nat):Prop:=∀o,ops[i]?=some o->∀e∈o.after.toList,Region.binds .any e=true->listed.getD e.on false=true
def Closed(ops:Array Oper)(listed:Array Bool):Prop:=∀i,i<ops.size->listed.getD i false=true->HO ops listed i
theorem IV{listed:Array Bool}(hc:Closed ops listed){j:Nat}:∀(i:Nat),i<ops.size->HO ops listed i->dep (closure ops.toList []) j i=true->listed.getD j false=true:=by
 intro i
 induction i using Nat.strongRecOn with
 | _ i ih=>
  intro W G D;have ho:ops[i]?=some ops[i]:=Array.getElem?_eq_getElem W;have hsp:=(FZ ops.toList [] i ops[i] j (by simp[W])).1 (by simpa[dep]using D);obtain⟨e,he,hb,h|⟨J,h⟩⟩:=hsp
  ·rw[h];exact G _ ho e he hb
  ·have N:=G _ ho e he hb;simp only[yK,qt]at J;exact ih e.on J (by omega) (hc e.on (by omega) N) (by simpa[dep]using h)
structure Inv(C:Eu)(ops:Array Oper)(pl:List (Nat×List Nat))(F:Nat->Fr)(H:Nat->AB)(w0:World)(m0:Aj)(d0:List Deferred)(listed:Array Bool)(a:Act)(w:World):Prop where
 sz:listed.size=ops.size
 closed:Closed ops listed
 defers:a.defers=d0
 tmps:a.tmps.size=(F 0).length
 rel:∃m:Aj,(m0.ext (H 0).size m)/\Rel C.P w0 m (H (kW C ops pl listed)) w/\(∀t,VR m (nth (F (qS ops pl listed t)) t) (a.tmps.getD t undef))/\
  (∀p,p<pl.length->AX C.P (Al ops pl p).op=2->BD pl listed p=false->A6 ops (F p) (Al ops pl p)=some true->m (H p).size=none)
theorem Inv.start(B:Gc C S g ops pl F H T)(G:Gf C.P ops pl)(hS:Ir C.P C.B6 S){w0:World}{m0:Aj}{a:Act}{w:World}(r:Rel C.P w0 m0 (H 0) w)(hf:FR m0 (F 0) a):
  Inv C ops pl F H w0 m0 a.defers (Array.replicate ops.size false) a w:=by
 have N:∀i,(Array.replicate ops.size false).getD i false=false:=λi=>by
  simp only[zp,Array.getElem?_replicate];split<;>rfl
 have hlst:∀p,BD pl (Array.replicate ops.size false) p=false:=λp=>N _;refine⟨by simp,(λi _ h=>by rw[N]at h;cases h),rfl,hf.1.symm,m0,Aj.ext.refl _ _,?_,λt=>?_,λp I _ _ _=>?_⟩
 ·refine B.Jn G r _ (ye _) (Fz _ _ _ _) λx _ hx hc=>?_;have:=DC hx hc;rw[hlst]at this;cases this
 ·rw[B.slot G (p:=0) _ (ye _) (Gm _ _ _ _) λx _ hx hc=>?_]
  ·exact hf.2 t
  ·have:=HR hx hc;rw[hlst]at this;cases this
 ·exact r.fresh (B.size G hS p (ye _) (by omega))
theorem F4(B:Gc C S g ops pl F H T)(G:Gf C.P ops pl){listed:Array Bool}{p:Nat}(I:p<pl.length)
  (hb:∀q,q<p->(Al ops pl q).dst=(Al ops pl p).dst->(Al ops pl q).dst≠none->BD pl listed q=true)
  (ha:∀q,p<q->q<pl.length->(Al ops pl q).dst=(Al ops pl p).dst->(Al ops pl q).dst≠none->BD pl listed q=false)
  (U:∀q,q<pl.length->BD pl (listed.setIfInBounds (Ae pl p) true) q=(BD pl listed q||decide (q=p)))
  {m m':Aj} (hm:m.le m') {a:Act} (htm:a.tmps.size=(F 0).length) (hv:∀t,VR m (nth (F (qS ops pl listed t)) t) (a.tmps.getD t undef)) {x:AA} {v:Value} (hx:VR m' x v) (hF:F (p+1)=put (F p) (Al ops pl p).dst x) (t:Nat):
  VR m' (nth (F (qS ops pl (listed.setIfInBounds (Ae pl p) true) t)) t) ((a.put (Al ops pl p).dst v).tmps.getD t undef):=by
 by_cases D:(Al ops pl p).dst=some t
 ·-- the slot that the step writes
  have hq':p<qS ops pl (listed.setIfInBounds (Ae pl p) true) t:=by
   rcases yo p (qS ops pl (listed.setIfInBounds (Ae pl p) true) t)with h|h
   ·exact h
   ·exfalso;obtain⟨c1,c2⟩:=Li (ops:=ops) (pl:=pl) (listed:=listed.setIfInBounds (Ae pl p) true) (t:=t) (by omega);rw[U _ (by omega)]at c2;simp only[zH,zl]at c2;have:=hb _ (by omega) (c1.trans D.symm) (by rw[c1];simp);rw[c2.1]at this;cases this
  have e1:nth (F (qS ops pl (listed.setIfInBounds (Ae pl p) true) t)) t=nth (F (p+1)) t:=by
   refine B.slot G _ (by omega) (Gm _ _ _ _) λy h1 L hc=>?_;have h3:=HR L hc;have O:y<pl.length:=zQ L (Gm _ _ _ _);rw[U y O]at h3;have h4:=ha y (by omega) O (hc.trans D.symm) (by rw[hc];simp);rw[h4]at h3;simp at h3;omega
  rw[e1,hF,D];show VR m' (nth ((F p).set t x) t) ((a.tmps.setIfInBounds t v).getD t undef);rw[Ey];by_cases ht:t<(F p).length
  ·rw[zk ⟨rfl,ht⟩];have:t<a.tmps.size:=by rw[htm,<-B.len G p (by omega)];exact ht
   simpa[zp,this]using hx
  ·rw[zh (by rintro⟨_,h⟩;exact ht h)];have h1:nth (F p) t=.tuple []:=by rw[F5,zo,List.getElem?_eq_none (by omega)];rfl
   have L:¬t<a.tmps.size:=by rw[htm,<-B.len G p (by omega)];exact ht
   rw[h1];have:(a.tmps.setIfInBounds t v).getD t undef=undef:=by simp[zp,L]
   rw[this];exact VR.Em m'
 ·-- another slot
  have e1:qS ops pl (listed.setIfInBounds (Ae pl p) true) t=qS ops pl listed t:=by
   obtain⟨a1,a2,a3,a4⟩:=Bn (λp=>((Al ops pl p).dst==some t)&& !BD pl listed p) pl.length 0;refine G0 _ (Gm _ _ _ _) (λy Y=>?_) (λJ=>?_)
   ·have:=a3 y (ye _) Y;have O:y<pl.length:=zQ Y (Gm _ _ _ _);simp only[U y O];rcases yQ.1 this with h|h
    ·simp[h]
    ·simp only[yB]at h;simp[h]
   ·obtain⟨c1,c2⟩:=Li J;rw[U _ J];have R:qS ops pl listed t≠p:=λe=>D (by rw[<-e];exact c1);simp[c1,c2,R]
  rw[e1];have:(a.put (Al ops pl p).dst v).tmps.getD t undef=a.tmps.getD t undef:=by
   cases hdd:(Al ops pl p).dst with
   |none=>rfl
   |some d=>
    have R:d≠t:=λe=>D (by rw[hdd,e]);simp[Act.put,zp,Array.getElem?_setIfInBounds_ne R]
  rw[this];exact(hv t).mono hm
theorem size_put(a:Act)(d:Option Tmp)(v:Value):(a.put d v).tmps.size=a.tmps.size:=by cases d<;>simp[Act.put]
theorem Inv.step(B:Gc C S g ops pl F H T)(G:Gf C.P ops pl)(hS:Ir C.P C.B6 S){w0:World}(hz:Bk C.B6 w0){m0:Aj}{d0:List Deferred}{listed:Array Bool}{a:Act}{w:World}
  (inv:Inv C ops pl F H w0 m0 d0 listed a w) {i:Nat} (W:i∈Region.ready .any ops listed) {K:Act->World->Prop} {Q:Exit->Act->World->Prop}
  (hK:∀a' w',Inv C ops pl F H w0 m0 d0 (listed.setIfInBounds i true) a' w'->K a' w') (rd:Option Nat):wpOpIn (FW rd) 0 C.P ops Q i K a w:=by
 obtain⟨hin,hnl0,hpre⟩:i<ops.size/\listed.getD i true=false/\HO ops listed i:=by
  simp only[Region.ready,yi,yf,zf,zx]at W;refine⟨W.1,W.2.1,λo ho e he hb=>?_⟩;have:=W.2.2;rw[ho]at this;simp only[ze,ya]at this;rw[<-Array.all_toList]at this;have:=zC.1 this e he;rw[hb]at this;simpa using this
 obtain⟨p,I,rfl⟩:=G.WT i hin;have hsz:=inv.sz;have hnl:BD pl listed p=false:=by
  unfold BD;have h1:Ae pl p<listed.size:=by rw[hsz];exact hin
  simp only[zp,Array.getElem?_eq_getElem h1,ya]at hnl0⊢;exact hnl0
 have before_:∀q,q<p->dep (closure ops.toList []) (Ae pl q) (Ae pl p)=true->BD pl listed q=true:=λq _ D=>IV inv.closed _ hin hpre D;have behind:∀q,p<q->q<pl.length->dep (closure ops.toList []) (Ae pl p) (Ae pl q)=true->BD pl listed q=false:=λq _ M D=>by
  cases N:BD pl listed q with
  |false=>rfl
  |true=>
   have hql:Ae pl q<ops.size:=(Array.getElem?_eq_some_iff.1 (G.lt q M)).1;have:=IV inv.closed _ hql (inv.closed _ hql N) D;unfold BD at hnl;rw[hnl]at this;cases this
 have ord:∀q,q<pl.length->q≠p->(q<p->dep (closure ops.toList []) (Ae pl q) (Ae pl p)=true)->(p<q->dep (closure ops.toList []) (Ae pl p) (Ae pl q)=true)->BD pl listed q=decide (q<p):=by
  intro q M R h1 L;rcases y1 R with h|h
  ·rw[before_ q h (h1 h)];simp[h]
  ·rw[behind q h M (L h)];simp;omega
 have looks:∀t∈(Al ops pl p).looksAt ops,nth (F (qS ops pl listed t)) t=nth (F p) t:=by
  intro t ht;have wr:∀q,q<pl.length->q≠p->(Al ops pl q).dst=some t->BD pl listed q=decide (q<p):=by
   intro q M R D;refine ord q M R (λJ=>?_) (λJ=>?_)
   ·rcases G.pair q p J I with h|⟨h,_⟩
    ·exact h
    ·exact absurd ht ((Oper.apart_spec h).1 t D)
   ·rcases G.pair p q J M with h|⟨h,_⟩
    ·exact h
    ·exact absurd ht ((Oper.apart_spec h).2.2 t D)
  have hge:p<=qS ops pl listed t:=by
   rcases yo (qS ops pl listed t) p with h|h
   ·obtain⟨c1,c2⟩:=Li (ops:=ops) (pl:=pl) (listed:=listed) (t:=t) (by omega);rw[wr _ (by omega) (by omega) c1]at c2;simp at c2;omega
   ·exact h
  refine B.slot G _ hge (Gm _ _ _ _) λx h1 L D=>?_;have N:=HR L D;have hxn:x<pl.length:=zQ L (Gm _ _ _ _);by_cases hxp:x=p
  ·rw[hxp,hnl]at N;cases N
  ·rw[wr x hxn hxp D]at N;simp at N;omega
 have Px:∀q,q<p->(Al ops pl q).dst=(Al ops pl p).dst->(Al ops pl q).dst≠none->BD pl listed q=true:=by
  intro q J D hn;rcases G.pair q p J I with h|⟨h,_⟩
  ·exact before_ q J h
  ·cases M:(Al ops pl q).dst with
   |none=>exact absurd M hn
   |some d=>exact absurd (D.symm.trans M) ((Oper.apart_spec h).2.1 d M)
 have wrA:∀q,p<q->q<pl.length->(Al ops pl q).dst=(Al ops pl p).dst->(Al ops pl q).dst≠none->BD pl listed q=false:=by
  intro q J M D hn;rcases G.pair p q J M with h|⟨h,_⟩
  ·exact behind q J M h
  ·cases hq':(Al ops pl p).dst with
   |none=>rw[hq']at D;exact absurd D hn
   |some d=>exact absurd (D.trans hq') ((Oper.apart_spec h).2.1 d hq')
 have U:∀q,q<pl.length->BD pl (listed.setIfInBounds (Ae pl p) true) q=(BD pl listed q||decide (q=p)):=by
  intro q M;unfold BD;simp only[zp];by_cases e:q=p
  ·subst e;have h1:Ae pl q<listed.size:=by rw[hsz];exact hin
   simp[h1]
  ·have R:Ae pl p≠Ae pl q:=by
    rcases y1 e with h|h
    ·exact λhh=>G.ne q p h I hh.symm
    ·exact G.ne p q h M
   simp[Array.getElem?_setIfInBounds_ne R,e]
 have closed':Closed ops (listed.setIfInBounds (Ae pl p) true):=by
  have mono:∀j,listed.getD j false=true->(listed.setIfInBounds (Ae pl p) true).getD j false=true:=by
   intro j hj;by_cases e:Ae pl p=j
   ·subst e;have h1:Ae pl p<listed.size:=by rw[hsz];exact hin
    simp[zp,h1]
   ·simpa[zp,Array.getElem?_setIfInBounds_ne e]using hj
  intro j hj hlj o ho e he hb;by_cases ej:Ae pl p=j
  ·subst ej;exact mono _ (hpre o ho e he hb)
  ·have:listed.getD j false=true:=by simpa[zp,Array.getElem?_setIfInBounds_ne ej]using hlj
   exact mono _ (inv.closed j hj this o ho e he hb)
 obtain⟨m,hm0,rel,hv,hgh⟩:=inv.rel;obtain⟨FD,hFD⟩:∃FD:Fr,FD=(List.range (F 0).length).map λt=>nth (F (qS ops pl listed t)) t:=⟨_,rfl⟩;have hFDn:∀t,nth FD t=nth (F (qS ops pl listed t)) t:=by
  intro t;rw[hFD,F5,zo,List.getElem?_map];by_cases ht:t<(F 0).length
  ·simp[List.getElem?_range ht]
  ·rw[List.getElem?_eq_none (by simp;omega)];rw[F5,zo,List.getElem?_eq_none (by rw[B.len G _ (Gm _ _ _ _)];omega)];rfl
 have hfr:FR m FD a:=⟨by rw[hFD];simp[inv.tmps],λt=>by rw[hFDn];exact hv t⟩;have hsame:∀t∈(Al ops pl p).looksAt ops,nth FD t=nth (F p) t:=λt ht=>by rw[hFDn];exact looks t ht
 have hso:=KX hsame;unfold wpOpIn;rw[G.lt p I];simp only;have kcmp:AX C.P (Al ops pl p).op≠0->p<=kW C ops pl listed:=by
  intro hc;rcases yo (kW C ops pl listed) p with h|h
  ·obtain⟨c1,c2⟩:=IP (C:=C) (ops:=ops) (pl:=pl) (listed:=listed) (by omega);rcases G.pair _ p h I with D|⟨_,D⟩
   ·have:=before_ _ h D;rw[c2]at this;cases this
   ·rcases D with D|D|⟨D,_⟩
    ·exact absurd D hc
    ·rw[c1]at D;cases D
    ·exact absurd c1 D
  ·exact h
 have prot1:AX C.P (Al ops pl p).op=1\/AX C.P (Al ops pl p).op=2->∀x,p<x->x<kW C ops pl listed->AX C.P (Al ops pl x).op=3->(Gx pl x).any (Nat.beq (Ae pl p))=true\/(AX C.P (Al ops pl p).op=1/\(Gx pl x).any (Nat.beq (Ae pl p+10000))=true/\LN ops (closure ops.toList []) (Ae pl p)=true):=by
  intro hc x h1 L hx;have hxn:x<pl.length:=zQ L (Fz _ _ _ _);have N:=DC L hx;rcases G.pair p x h1 hxn with D|⟨_,D⟩
  ·rw[behind x h1 hxn D]at N;cases N
  ·rcases D with D|D|⟨_,D|D⟩
   ·rw[hx]at D;cases D
   ·rcases hc with h|h<;>rw[h]at D<;>cases D
   ·exact absurd hx D
   ·exact D
 have B4:AX C.P (Al ops pl p).op=2->∀x,p<x->x<kW C ops pl listed->AX C.P (Al ops pl x).op=3->(Gx pl x).any (Nat.beq (Ae pl p))=true:=by
  intro hc x h1 L hx;rcases prot1 (.inr hc) x h1 L hx with h|⟨h,_⟩
  ·exact h
  ·rw[hc]at h;cases h
 have kSame:AX C.P (Al ops pl p).op≠3->kW C ops pl (listed.setIfInBounds (Ae pl p) true)=kW C ops pl listed:=by
  intro hc;obtain⟨a1,a2,a3,a4⟩:=Bn (λp=>(AX C.P (Al ops pl p).op==3)&& !BD pl listed p) pl.length 0;refine G0 _ (Fz _ _ _ _) (λy Y=>?_) (λJ=>?_)
  ·have:=a3 y (ye _) Y;have O:y<pl.length:=zQ Y (Fz _ _ _ _);simp only[U y O];rcases yQ.1 this with h|h
   ·simp[h]
   ·simp only[yB]at h;simp[h]
  ·obtain⟨c1,c2⟩:=IP J;rw[U _ J];have R:kW C ops pl listed≠p:=λe=>hc (by rw[<-e];exact c1);simp[c1,c2,R]
 have ghosts':∀{m':Aj},(∀q,q<pl.length->q≠p->AX C.P (Al ops pl q).op=2->BD pl listed q=false->A6 ops (F q) (Al ops pl q)=some true->m' (H q).size=none)->
   ∀q,q<pl.length->AX C.P (Al ops pl q).op=2->BD pl (listed.setIfInBounds (Ae pl p) true) q=false->A6 ops (F q) (Al ops pl q)=some true->m' (H q).size=none:=by
  intro m' h q M hc N hw;rw[U q M]at N;simp only[zH,zl]at N;exact h q M N.2 hc N.1 hw
 rcases B.at_ G I with⟨hw,hF,hH,_⟩|⟨hw,x,hs,hF,hT,_⟩
 ·-- it is not wanted
  have hwant:=Di hfr (by rw[F8 hsame];exact hw);rw[zh (by rw[hwant];simp)];refine⟨λ_ _=>trivial,hK _ _ ⟨by simp[hsz],closed',by rw[ES];exact inv.defers,by rw[size_put];exact inv.tmps,m,hm0,?_,λt=>F4 B G I Px wrA U (Aj.le_refl m) inv.tmps hv (VR.Em m) hF t,ghosts' λq M _ hc N hw=>hgh q M hc N hw⟩⟩;by_cases hc:AX C.P (Al ops pl p).op=3
  ·-- a writing operation that is passed W5
   have hkp:kW C ops pl listed=p:=by
    have h1:=kcmp (by rw[hc];simp);rcases yo p (kW C ops pl listed)with h|h
    ·have:=DC h hc;rw[hnl]at this;cases this
    ·omega
   have hk':p+1<=kW C ops pl (listed.setIfInBounds (Ae pl p) true):=by
    rcases yo (kW C ops pl (listed.setIfInBounds (Ae pl p) true)) (p+1)with h|h
    ·exfalso;obtain⟨c1,c2⟩:=IP (C:=C) (ops:=ops) (pl:=pl) (listed:=listed.setIfInBounds (Ae pl p) true) (by omega);rw[U _ (by omega)]at c2;simp only[zH,zl]at c2;have:=DC (C:=C) (ops:=ops) (pl:=pl) (listed:=listed) (p:=kW C ops pl (listed.setIfInBounds (Ae pl p) true)) (by omega) c1;rw[c2.1]at this;cases this
    ·exact h
   rw[hkp,<-hH]at rel;refine B.Jn G rel _ hk' (Fz _ _ _ _) λy h1 L Y=>?_;have O:y<pl.length:=zQ L (Fz _ _ _ _);have h3:=DC L Y;rw[U y O]at h3;have h4:BD pl listed y=false:=by
    rcases G.pair p y (by omega) O with D|⟨_,D⟩
    ·exact behind y (by omega) O D
    ·rcases D with D|D|⟨D,_⟩
     ·rw[Y]at D;cases D
     ·rw[hc]at D;cases D
     ·exact absurd hc D
   rw[h4]at h3;simp at h3;omega
  ·rw[kSame hc];exact rel
 ·-- it is run
  have hwant:=Di hfr (by rw[F8 hsame];exact hw);rw[zk hwant];by_cases hc3:AX C.P (Al ops pl p).op=3
  ·-- a writing operation:the heap is the plan's own
   have hkp:kW C ops pl listed=p:=by
    have h1:=kcmp (by rw[hc3];simp);rcases yo p (kW C ops pl listed)with h|h
    ·have:=DC h hc3;rw[hnl]at this;cases this
    ·omega
   rw[hkp]at rel;rw[<-K3 hso]at hs;refine HY hS hz rel hfr hs (λm' v' w' e1 e2 e3=>hK _ _ ?_) rd;have hle:=rel.Kn e1;have hk':p+1<=kW C ops pl (listed.setIfInBounds (Ae pl p) true):=by
    rcases yo (kW C ops pl (listed.setIfInBounds (Ae pl p) true)) (p+1)with h|h
    ·exfalso;obtain⟨c1,c2⟩:=IP (C:=C) (ops:=ops) (pl:=pl) (listed:=listed.setIfInBounds (Ae pl p) true) (by omega);rw[U _ (by omega)]at c2;simp only[zH,zl]at c2;have:=DC (C:=C) (ops:=ops) (pl:=pl) (listed:=listed) (p:=kW C ops pl (listed.setIfInBounds (Ae pl p) true)) (by omega) c1;rw[c2.1]at this;cases this
    ·exact h
   have notdone:∀y,p<y->y<pl.length->AX C.P (Al ops pl y).op≠0->BD pl listed y=false:=by
    intro y h1 O Y;rcases G.pair p y h1 O with D|⟨_,D⟩
    ·exact behind y h1 O D
    ·rcases D with D|D|⟨D,_⟩
     ·exact absurd D Y
     ·rw[hc3]at D;cases D
     ·exact absurd hc3 D
   refine⟨by simp[hsz],closed',by rw[ES];exact inv.defers,by rw[size_put];exact inv.tmps,m',hm0.trans e1 (B.size G hS p (ye _) (by omega)),?_,λt=>F4 B G I Px wrA U hle inv.tmps hv e3 hF t,ghosts' λq M R hc N hw=>?_⟩
   ·refine B.Jn G e2 _ hk' (Fz _ _ _ _) λy h1 L Y=>?_;have O:y<pl.length:=zQ L (Fz _ _ _ _);have h3:=DC L Y;rw[U y O,notdone y (by omega) O (by rw[Y];simp)]at h3;simp at h3;omega
   ·rcases y1 R with h|h
    ·-- it makes an object at a place ahead of ours
     have J:(H q).size<(H p).size:=by
      have h1:(H (q+1)).size=(H q).size+1:=by
       rcases B.at_ G M with⟨hw2,_⟩|⟨_,u,V,_,_⟩
       ·rw[hw]at hw2;cases hw2
       ·rw[Dy (by rw[hc];simp)]at V;unfold Fp at V;rw[hc]at V;simp only[zg,zb]at V;obtain⟨_,_,_,e⟩:=V;rw[<-e];simp
      have L:=B.size G hS (p:=q+1) p (by omega) (by omega);omega
     rw[e1.i _ J];exact hgh q M hc N hw
    ·exact e2.fresh (B.size G hS (p:=p+1) q (by omega) (by omega))
  ·-- no writing operation:by its class
   have hkS:=kSame hc3;rw[Dy hc3]at hs;have hnd:∀c,(Al ops pl p).op≠.defer c:=λc e=>hc3 (by rw[e];rfl);have fin:∀{m':Aj} {v':Value} {w':World},m.le m'->(m0.ext (H 0).size m')->Rel C.P w0 m' (H (kW C ops pl listed)) w'->VR m' x v'->
     (∀q,q<pl.length->q≠p->AX C.P (Al ops pl q).op=2->BD pl listed q=false->A6 ops (F q) (Al ops pl q)=some true->m' (H q).size=none)->
     K (a.put (Al ops pl p).dst v') w':=by
    intro m' v' w' h1 L h3 h4 h5;exact hK _ _ ⟨by simp[hsz],closed',by rw[ES];exact inv.defers,by rw[size_put];exact inv.tmps,m',L,by rw[hkS];exact h3,λt=>F4 B G I Px wrA U h1 inv.tmps hv h4 hF t,ghosts' h5⟩
   unfold Fp at hs;split at hs
   ·-- slots alone
    rename_i hc;simp only[zg,zb]at hs;obtain⟨x',Z,rfl,_⟩:=hs;rw[<-KG hso]at Z;obtain⟨v',h1,L⟩:=JP (P:=C.P) w hfr Z;refine⟨λ_ _=>trivial,?_⟩;rw[Oper.semAt_eq _ _ _ hnd,h1];exact fin (Aj.le_refl m) hm0 rel L λq M _ hc N hw=>hgh q M hc N hw
   ·-- it reads one object
    rename_i hc;have hkp:=kcmp (by rw[hc];simp);have hkne:kW C ops pl listed≠p:=λe=>by
     have:=(IP (C:=C) (ops:=ops) (pl:=pl) (listed:=listed) (by omega)).1;rw[e,hc]at this;cases this
    have go:∀ob,(B1 (F p) (Al ops pl p).op).bind (H (kW C ops pl listed)).get=ob->Gh C.P C.B6 (F p) ob (Al ops pl p).op=some x->Oper.wpIn (FW rd) 0 C.P (Al ops pl p) a w K Q:=by
     intro ob hob Z;rw[<-He hso,<-hob,<-Gb hso]at Z;obtain⟨v',h1,L⟩:=JI hz rel hfr Z;refine⟨λ_ _=>trivial,?_⟩;rw[Oper.semAt_eq _ _ _ hnd,h1];exact fin (Aj.le_refl m) hm0 rel L λq M _ hc N hw=>hgh q M hc N hw
    split at hs
    ·rename_i ht;simp only[zg,zb]at hs;obtain⟨x',Z,rfl,_⟩:=hs;exact go none (by rw[ht];rfl) Z
    ·rename_i id ht;split at hs
     ·rename_i ob hg;have hmem:(Ae pl p,id)∈T (p+1):=by
       rw[hT];unfold C0;rw[hc];simp only[ht];exact List.mem_cons_self
      simp only[zg,zb]at hs;obtain⟨x',Z,rfl,hHp⟩:=hs;obtain⟨ob2,g1,g2⟩:=B.reads G hS I hw ht (by rw[<-hHp];exact hg) Z hF hmem (kW C ops pl listed) (by omega) (Fz _ _ _ _) λy h1 L Y=>by
       rcases prot1 (.inl hc) y h1 L Y with h|⟨_,h⟩
       ·exact .inl h
       ·exact .inr h
      exact go (some ob2) (by rw[ht];exact g1) g2
     ·cases hs
   ·-- it makes one object
    rename_i hc;have hkp:=kcmp (by rw[hc];simp);have hkne:kW C ops pl listed≠p:=λe=>by
     have:=(IP (C:=C) (ops:=ops) (pl:=pl) (listed:=listed) (by omega)).1;rw[e,hc]at this;cases this
    simp only[zg,zb]at hs;obtain⟨nw,hnw,rfl,hHp⟩:=hs;rw[<-KV hso]at hnw;obtain⟨v',w',E,h1,t1,t2,_,t4⟩:=JC (P:=C.P) w hfr hnw;have hnone:=hgh p I hc hnl hw;have hle:=Aj.Gl (m:=m) E hnone;obtain⟨q1,q2⟩:=t4 (m.upd (H p).size E) hle (H p).size (Aj.CR m _ E);have hmem:(Ae pl p,(H p).size)∈T (p+1):=by
     rw[hT];unfold C0;rw[hc];exact List.mem_cons_self
    have hget1:(H (p+1)).get (H p).size=some nw.2:=by rw[<-hHp];exact AB.A8 _ _
    have Ia:(H (kW C ops pl listed)).get (H p).size=some nw.2:=by
     rw[<-hget1];exact B.same G hS hmem (by rw[<-hHp];simp) _ (by omega) (Fz _ _ _ _) λy h1 L Y=>B4 hc y (by omega) L Y
    refine⟨λ_ _=>trivial,?_⟩;rw[Oper.semAt_eq _ _ _ hnd,h1];refine fin hle (hm0.trans (Aj.Lm m E (by have:=B.size G hS (p:=0) p (ye _) (by omega);omega)) (zr _)) (rel.place t1 (by rw[t2];exact rel.size) (λid2 E2 o2 hm2 ho2 hl2=>?_) (rel.OZ (by omega)) (λD=>by have:=rel.Le D;omega) hnone Ia q2) q1 λq M R hcq N hwq=>?_
    ·have:=(rel.obj id2 E2 o2 hm2 ho2).lt hl2;omega
    ·have hszq:∀y,y<pl.length->AX C.P (Al ops pl y).op=2->A6 ops (F y) (Al ops pl y)=some true->(H (y+1)).size=(H y).size+1:=by
      intro y Y hcy hwy;rcases B.at_ G Y with⟨hw2,_⟩|⟨_,u,V,_,_⟩
      ·rw[hwy]at hw2;cases hw2
      ·rw[Dy (by rw[hcy];simp)]at V;unfold Fp at V;rw[hcy]at V;simp only[zg,zb]at V;obtain⟨_,_,_,e⟩:=V;rw[<-e];simp
     rw[Aj.HG m E ?_]
     ·exact hgh q M hcq N hwq
     ·rcases y1 R with h|h
      ·have h1:=hszq q M hcq hwq;have L:=B.size G hS (p:=q+1) p (by omega) (by omega);omega
      ·have h1:=hszq p I hc hw;have L:=B.size G hS (p:=p+1) q (by omega) (by omega);omega
   ·rename_i h0 h1 L;exfalso;have:∀op,AX C.P op=0\/AX C.P op=1\/AX C.P op=2\/AX C.P op=3:=by
     intro op;unfold AX
     repeat' split
     all_goals simp
    rcases this (Al ops pl p).op with h|h|h|h
    ·exact h0 h
    ·exact h1 h
    ·exact L h
    ·exact hc3 h
theorem Hb:∀(l:List Nat) (f g:Nat->Bool),(∀j,g j=true->f j=true)->(∃i∈l,f i=true/\g i=false)->(l.filter g).length<(l.filter f).length
 |[],f,g,_,⟨i,W,_⟩=>by simp at W
 | x::l,f,g,hfg,⟨i,W,h1,L⟩=>by
  have le:(l.filter g).length<=(l.filter f).length:=by
   clear W
   induction l with
   |nil=>simp
   |cons y l ih=>
    simp only[y8];cases hg:g y
    ·cases hf:f y<;>simp<;>omega
    ·rw[hfg y hg];simp;exact ih
  simp only[y8];by_cases e:i=x
  ·subst e;rw[h1,L];simp;omega
  ·have hi':i∈l:=by cases W with|head=>exact absurd rfl e|tail _ h=>exact h
   have ih:=Hb l f g hfg ⟨i,hi',h1,L⟩;cases hg:g x
   ·cases hf:f x<;>simp<;>omega
   ·rw[hfg x hg];simp;exact ih
theorem Inv.done(B:Gc C S g ops pl F H T)(G:Gf C.P ops pl){w0:World}{m0:Aj}{d0:List Deferred}{listed:Array Bool}{a:Act}{w:World}(inv:Inv C ops pl F H w0 m0 d0 listed a w)
  (X:∀i,i<ops.size->listed.getD i false=true):
  ∃m,(m0.ext (H 0).size m)/\Rel C.P w0 m (H pl.length) w/\FR m (F pl.length) a/\a.defers=d0:=by
 obtain⟨m,h1,L,h3,_⟩:=inv.rel;have N:∀p,p<pl.length->BD pl listed p=true:=λp I=>X _ (Array.getElem?_eq_some_iff.1 (G.lt p I)).1;have hk:kW C ops pl listed=pl.length:=by
  rcases yo (kW C ops pl listed) pl.length with h|h
  ·have:=(IP h).2;rw[N _ h]at this;cases this
  ·have:=Fz C ops pl listed;omega
 have M:∀t,qS ops pl listed t=pl.length:=λt=>by
  rcases yo (qS ops pl listed t) pl.length with h|h
  ·have:=(Li h).2;rw[N _ h]at this;cases this
  ·have:=Gm ops pl listed t;omega
 exact⟨m,h1,by rw[<-hk];exact L,⟨by rw[B.len G _ (zr _)];exact inv.tmps.symm,λt=>by have:=h3 t;rwa [M t]at this⟩,inv.defers⟩
theorem Inv.any(B:Gc C S g ops pl F H T)(G:Gf C.P ops pl)(hS:Ir C.P C.B6 S){w0:World}(hz:Bk C.B6 w0){m0:Aj}{d0:List Deferred}{Q:Exit->Act->World->Prop}
  (hQ:∀m a w,(m0.ext (H 0).size m)->Rel C.P w0 m (H pl.length) w->FR m (F pl.length) a->a.defers=d0->Q .normal a w):
  ∀(fuel:Nat) (listed:Array Bool) (a:Act) (w:World),Inv C ops pl F H w0 m0 d0 listed a w->((List.range ops.size).filter λi=> !listed.getD i false).length<=fuel->∀rd:Option Nat,wpAnyIn (FW rd) 0 C.P .any ops Q fuel listed a w:=by
 have fin:∀{listed:Array Bool} {a:Act} {w:World},Inv C ops pl F H w0 m0 d0 listed a w->(∀i,i<ops.size->listed.getD i false=true)->Q .normal a w:=by
  intro listed a w inv X;obtain⟨m,h1,L,h3,h4⟩:=inv.done B G X;exact hQ m a w h1 L h3 h4
 intro fuel
 induction fuel with
 | zero=>
  intro listed a w inv hc rd;have X:∀i,i<ops.size->listed.getD i false=true:=by
   intro i W;cases N:listed.getD i false with
   |true=>rfl
   |false=>
    have hm:i∈(List.range ops.size).filter λi=> !listed.getD i false:=yi.2 ⟨by simpa using W,by rw[N];rfl⟩;have:((List.range ops.size).filter λi=> !listed.getD i false)=[]:=zi (by omega);rw[this]at hm;cases hm
  refine⟨?_,fin inv X⟩;apply yP.2;intro i W;have hi':i<ops.size:=by simpa using W
  have:=X i hi';have h1:i<listed.size:=by rw[inv.sz];exact hi'
  simp only[zp,Array.getElem?_eq_getElem h1,ya]at this⊢;simp[this]
 | succ fuel ih=>
  intro listed a w inv hc rd;refine⟨λhr=>fin inv ?_,λi W=>?_⟩
  ·-- nothing is ready:all is done
   apply Classical.byContradiction;intro hno;obtain⟨a1,a2,a3,a4⟩:=Bn (λp=> !BD pl listed p) pl.length 0;have J:D1 (λp=> !BD pl listed p) 0 pl.length<0+pl.length:=by
    rcases yo (D1 (λp=> !BD pl listed p) 0 pl.length) (0+pl.length)with h|h
    ·exact h
    ·exfalso;apply hno;intro i W;obtain⟨p,I,rfl⟩:=G.WT i W;have:=a3 p (ye _) (by omega);simpa[BD]using this
   have hn:=a4 J;generalize D1 (λp=> !BD pl listed p) 0 pl.length=p at a1 a2 a3 J hn;have I:p<pl.length:=by omega
   have hin:Ae pl p<ops.size:=(Array.getElem?_eq_some_iff.1 (G.lt p I)).1;have hready:Ae pl p∈Region.ready .any ops listed:=by
    simp only[Region.ready,yi,yf,zf,zx];refine⟨hin,?_,?_⟩
    ·have h1:Ae pl p<listed.size:=by rw[inv.sz];exact hin
     simp only[BD,zp,Array.getElem?_eq_getElem h1,ya,zx]at hn⊢;exact hn
    ·rw[G.lt p I];simp only[ze,ya];rw[<-Array.all_toList];refine zC.2 λe he=>?_;cases hb:Region.binds .any e with
     |false=>rfl
     | true=>
      simp only[zZ,qp];have hdep:dep (closure ops.toList []) e.on (Ae pl p)=true:=by
       have hsp:=(FZ ops.toList [] (Ae pl p) (Al ops pl p) e.on (by simpa using G.lt p I)).2 ⟨e,he,hb,.inl rfl⟩;simpa[dep]using hsp
      have hon:=G.W7 p I e he hb;obtain⟨q,M,hqe⟩:=G.WT e.on (by omega);rw[<-hqe]at hdep⊢;rcases Nat.lt_trichotomy q p with h|h|h
      ·have:=a3 q (ye _) h;simpa[BD]using this
      ·subst h;omega
      ·rw[G.Qp p q h M]at hdep;cases hdep
   rw[hr]at hready;cases hready
  ·refine Inv.step B G hS hz inv W (λa' w' inv'=>ih _ a' w' inv' ?_ rd) rd;have hi2:i<ops.size/\listed.getD i true=false:=by
    simp only[Region.ready,yi,yf,zf,zx]at W;exact⟨W.1,W.2.1⟩
   have h1:i<listed.size:=by rw[inv.sz];exact hi2.1
   have:=Hb (List.range ops.size) (λj=> !listed.getD j false) (λj=> !(listed.setIfInBounds i true).getD j false) (λj hj=>by
    by_cases e:i=j
    ·subst e;simp[zp,h1]at hj
    ·simpa[zp,Array.getElem?_setIfInBounds_ne e]using hj)
    ⟨i,by simpa using hi2.1,by
     have:=hi2.2;simp only[zp,Array.getElem?_eq_getElem h1,ya]at this⊢
     simp[this],by simp[zp,h1]⟩
   omega
theorem I3(hmix:C.P.follows .mixedOrders=true)(hok:IN C.P ops pl=true)(hS:Ir C.P C.B6 S){w0:World}(hz:Bk C.B6 w0){m:Aj}{h h':AB}{w:World}{fr fr':Fr}{a:Act}{id:Nat}{Q:Exit->Act->World->Prop}
  (r:Rel C.P w0 m h w) (hf:FR m fr a) (hr:BA C S g ops pl [] fr h=some (fr',h'))
  (hQ:∀m' a' w',(m.ext h.size m')->Rel C.P w0 m' h' w'->FR m' fr' a'->a'.defers=a.defers->Q .normal a' w'):∀rd:Option Nat,(Code.region id ops true).wpIn (FW rd) 0 C.P Q a w:=by
 intro rd;have G:=LV hok;obtain⟨F,H,T,B,rfl,rfl,_,rfl,rfl⟩:=F2 pl [] fr h fr' h' hr;refine wpIn_region_any hmix ?_;have r':Rel C.P w0 m (H 0) {w with drawn:=w.drawn+1}:=r.drew;refine Inv.any B G hS hz (m0:=m) (d0:=a.defers) hQ ops.size _ a _ (Inv.start B G hS r' hf) ?_ rd;exact zM (yx _ _) (by simp)
theorem Iu(hok:IN C.P ops pl=true)(hS:Ir C.P C.B6 S){h h':AB}{fr fr':Fr}(hr:BA C S g ops pl [] fr h=some (fr',h')):Af g h h'/\fr'.length=fr.length:=by
 have G:=LV hok;obtain⟨F,H,T,B,rfl,rfl,_,rfl,rfl⟩:=F2 pl [] fr h fr' h' hr;refine⟨?_,B.len G _ (zr _)⟩;have all:∀p,p<=pl.length->Af g (H 0) (H p):=by
  intro p
  induction p with
  |zero=>intro _;exact Af.refl _ _
  |succ p ih=>
   intro I;exact(ih (by omega)).trans ((B.keeps G hS (p:=p) (by omega)).weaken λid hid=>K1 id hid)
 exact all _ (zr _)
end
end Go.Av
