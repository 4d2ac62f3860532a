/-
 A part.
-/
import Derived.Test.YtgkbpgefomapgaaGreatDoorAvPlan
set_option linter.unusedSimpArgs false
namespace Go.Av
open Go.RowKit
section
variable {C:J8} {S:Self} {g:Gd} {ops:Array Oper} {pl:List (Nat×List Nat)} {F:Nat->Fr} {H:Nat->AS} {T:Nat->List (Nat×Nat)}
def Dk(pl:List (Nat×List Nat))(listed:Array Bool)(p:Nat):Bool:=listed.getD (B8 pl p) false
def kW(C:J8)(ops:Array Oper)(pl:List (Nat×List Nat))(listed:Array Bool):Nat:=Jn (λp=>(Br C.P (CS ops pl p).op==3)&& !Dk pl listed p) 0 pl.length
def qS(ops:Array Oper)(pl:List (Nat×List Nat))(listed:Array Bool)(t:Nat):Nat:=Jn (λp=>((CS ops pl p).dst==some t)&& !Dk pl listed p) 0 pl.length
theorem Ma(C:J8)(ops:Array Oper)(pl:List (Nat×List Nat))(listed:Array Bool):kW C ops pl listed<=pl.length:=by
 have:=(Fx (λp=>(Br C.P (CS ops pl p).op==3)&& !Dk pl listed p) pl.length 0).2.1;unfold kW;omega
theorem IT{p:Nat}{listed:Array Bool}(h:p<kW C ops pl listed)(hc:Br C.P (CS ops pl p).op=3):Dk pl listed p=true:=by
 have:=(Fx (λp=>(Br C.P (CS ops pl p).op==3)&& !Dk pl listed p) pl.length 0).2.2.1 p (zS _) h;simpa[hc]using this
theorem Q7{listed:Array Bool}(h:kW C ops pl listed<pl.length):Br C.P (CS ops pl (kW C ops pl listed)).op=3/\Dk pl listed (kW C ops pl listed)=false:=by
 have:=(Fx (λp=>(Br C.P (CS ops pl p).op==3)&& !Dk pl listed p) pl.length 0).2.2.2 (by unfold kW at h;omega);simpa[kW]using this
theorem Od(ops:Array Oper)(pl:List (Nat×List Nat))(listed:Array Bool)(t:Nat):qS ops pl listed t<=pl.length:=by
 have:=(Fx (λp=>((CS ops pl p).dst==some t)&& !Dk pl listed p) pl.length 0).2.1;unfold qS;omega
theorem O0{p t:Nat}{listed:Array Bool}(h:p<qS ops pl listed t)(hc:(CS ops pl p).dst=some t):Dk pl listed p=true:=by
 have:=(Fx (λp=>((CS ops pl p).dst==some t)&& !Dk pl listed p) pl.length 0).2.2.1 p (zS _) h;simpa[hc]using this
theorem VN{t:Nat}{listed:Array Bool}(h:qS ops pl listed t<pl.length):(CS ops pl (qS ops pl listed t)).dst=some t/\Dk pl listed (qS ops pl listed t)=false:=by
 have:=(Fx (λp=>((CS ops pl p).dst==some t)&& !Dk pl listed p) pl.length 0).2.2.2 (by unfold qS at h;omega);simpa[qS]using this
def PC(ops:Array Oper)(listed:Array Bool)(i:Nat):Prop:=∀o,ops[i]?=some o->∀e∈o.after.toList,Region.binds .any e=true->listed.getD e.on false=true
def Closed(ops:Array Oper)(listed:Array Bool):Prop:=∀i,i<ops.size->listed.getD i false=true->PC ops listed i
theorem Qc{listed:Array Bool}(hc:Closed ops listed){j:Nat}:∀(i:Nat),i<ops.size->PC ops listed i->dep (closure ops.toList []) j i=true->listed.getD j false=true:=by
 intro i
 induction i using Nat.strongRecOn with
 | _ i ih=>
  intro hi D hd;have ho:ops[i]?=some ops[i]:=Array.getElem?_eq_getElem hi;have hsp:=(Lo ops.toList [] i ops[i] j (by simp[hi])).1 (by simpa[dep]using hd);obtain⟨e,he,hb,h|⟨I,h⟩⟩:=hsp
  ·rw[h];exact D _ ho e he hb
  ·have M:=D _ ho e he hb;simp only[zQ,qx]at I;exact ih e.on I (by omega) (hc e.on (by omega) M) (by simpa[dep]using h)
structure Inv(C:J8)(ops:Array Oper)(pl:List (Nat×List Nat))(F:Nat->Fr)(H:Nat->AS)(w0:World)(m0:CU)(d0:List Deferred)(listed:Array Bool)(a:Act)(w:World):Prop where
 sz:listed.size=ops.size
 closed:Closed ops listed
 defers:a.defers=d0
 tmps:a.tmps.size=(F 0).length
 rel:∃m:CU,(m0.ext (H 0).size m)/\Rel C.P w0 m (H (kW C ops pl listed)) w/\(∀t,VR m (nth (F (qS ops pl listed t)) t) (a.tmps.getD t undef))/\
  (∀p,p<pl.length->Br C.P (CS ops pl p).op=2->Dk pl listed p=false->Dm ops (F p) (CS ops pl p)=some true->m (H p).size=none)
theorem Inv.start(B:NS C S g ops pl F H T)(D:NU C.P ops pl)(Y:Kv C.P C.GZ S){w0:World}{m0:CU}{a:Act}{w:World}(r:Rel C.P w0 m0 (H 0) w)(hf:FR m0 (F 0) a):
  Inv C ops pl F H w0 m0 a.defers (Array.replicate ops.size false) a w:=by
 have M:∀i,(Array.replicate ops.size false).getD i false=false:=λi=>by
  simp only[zu,Array.getElem?_replicate];split<;>rfl
 have hlst:∀p,Dk pl (Array.replicate ops.size false) p=false:=λp=>M _;refine⟨by simp,(λi _ h=>by rw[M]at h;cases h),rfl,hf.1.symm,m0,CU.ext.refl _ _,?_,λt=>?_,λp G _ _ _=>?_⟩
 ·refine B.SK D r _ (zS _) (Ma _ _ _ _) λx _ hx hc=>?_;have:=IT hx hc;rw[hlst]at this;cases this
 ·rw[B.slot D (p:=0) _ (zS _) (Od _ _ _ _) λx _ hx hc=>?_]
  ·exact hf.2 t
  ·have:=O0 hx hc;rw[hlst]at this;cases this
 ·exact r.fresh (B.size D Y p (zS _) (by omega))
theorem MO(B:NS C S g ops pl F H T)(D:NU C.P ops pl){listed:Array Bool}{p:Nat}(G:p<pl.length)
  (hb:∀q,q<p->(CS ops pl q).dst=(CS ops pl p).dst->(CS ops pl q).dst≠none->Dk pl listed q=true)
  (ha:∀q,p<q->q<pl.length->(CS ops pl q).dst=(CS ops pl p).dst->(CS ops pl q).dst≠none->Dk pl listed q=false)
  (R:∀q,q<pl.length->Dk pl (listed.setIfInBounds (B8 pl p) true) q=(Dk pl listed q||decide (q=p)))
  {m m':CU} (hm:m.le m') {a:Act} (htm:a.tmps.size=(F 0).length) (hv:∀t,VR m (nth (F (qS ops pl listed t)) t) (a.tmps.getD t undef)) {x:AE} {v:Value} (hx:VR m' x v) (hF:F (p+1)=put (F p) (CS ops pl p).dst x) (t:Nat):
  VR m' (nth (F (qS ops pl (listed.setIfInBounds (B8 pl p) true) t)) t) ((a.put (CS ops pl p).dst v).tmps.getD t undef):=by
 by_cases hd:(CS ops pl p).dst=some t
 ·-- the slot that the step writes
  have hq':p<qS ops pl (listed.setIfInBounds (B8 pl p) true) t:=by
   rcases yd p (qS ops pl (listed.setIfInBounds (B8 pl p) true) t)with h|h
   ·exact h
   ·exfalso;obtain⟨c1,c2⟩:=VN (ops:=ops) (pl:=pl) (listed:=listed.setIfInBounds (B8 pl p) true) (t:=t) (by omega);rw[R _ (by omega)]at c2;simp only[zG,zB]at c2;have:=hb _ (by omega) (c1.trans hd.symm) (by rw[c1];simp);rw[c2.1]at this;cases this
  have e1:nth (F (qS ops pl (listed.setIfInBounds (B8 pl p) true) t)) t=nth (F (p+1)) t:=by
   refine B.slot D _ (by omega) (Od _ _ _ _) λy h1 J hc=>?_;have h3:=O0 J hc;have N:y<pl.length:=zR J (Od _ _ _ _);rw[R y N]at h3;have h4:=ha y (by omega) N (hc.trans hd.symm) (by rw[hc];simp);rw[h4]at h3;simp at h3;omega
  rw[e1,hF,hd];show VR m' (nth ((F p).set t x) t) ((a.tmps.setIfInBounds t v).getD t undef);rw[Ip];by_cases Z:t<(F p).length
  ·rw[zk ⟨rfl,Z⟩];have:t<a.tmps.size:=by rw[htm,<-B.len D p (by omega)];exact Z
   simpa[zu,this]using hx
  ·rw[zm (by rintro⟨_,h⟩;exact Z h)];have h1:nth (F p) t=.tuple []:=by rw[Nj,zA,List.getElem?_eq_none (by omega)];rfl
   have J:¬t<a.tmps.size:=by rw[htm,<-B.len D p (by omega)];exact Z
   rw[h1];have:(a.tmps.setIfInBounds t v).getD t undef=undef:=by simp[zu,J]
   rw[this];exact VR.Lu m'
 ·-- another slot
  have e1:qS ops pl (listed.setIfInBounds (B8 pl p) true) t=qS ops pl listed t:=by
   obtain⟨a1,a2,a3,a4⟩:=Fx (λp=>((CS ops pl p).dst==some t)&& !Dk pl listed p) pl.length 0;refine OJ _ (Od _ _ _ _) (λy W=>?_) (λI=>?_)
   ·have:=a3 y (zS _) W;have N:y<pl.length:=zR W (Od _ _ _ _);simp only[R y N];rcases yz.1 this with h|h
    ·simp[h]
    ·simp only[yg]at h;simp[h]
   ·obtain⟨c1,c2⟩:=VN I;rw[R _ I];have O:qS ops pl listed t≠p:=λe=>hd (by rw[<-e];exact c1);simp[c1,c2,O]
  rw[e1];have:(a.put (CS ops pl p).dst v).tmps.getD t undef=a.tmps.getD t undef:=by
   cases hdd:(CS ops pl p).dst with
   |none=>rfl
   |some d=>
    have O:d≠t:=λe=>hd (by rw[hdd,e]);simp[Act.put,zu,Array.getElem?_setIfInBounds_ne O]
  rw[this];exact(hv t).mono hm
theorem size_put(a:Act)(d:Option Tmp)(v:Value):(a.put d v).tmps.size=a.tmps.size:=by cases d<;>simp[Act.put]
theorem Inv.step(B:NS C S g ops pl F H T)(D:NU C.P ops pl)(Y:Kv C.P C.GZ S){w0:World}(hz:EF C.GZ w0){m0:CU}{d0:List Deferred}{listed:Array Bool}{a:Act}{w:World}
  (inv:Inv C ops pl F H w0 m0 d0 listed a w) {i:Nat} (hi:i∈Region.ready .any ops listed) {K:Act->World->Prop} {Q:Exit->Act->World->Prop}
  (hK:∀a' w',Inv C ops pl F H w0 m0 d0 (listed.setIfInBounds i true) a' w'->K a' w') (rd:Option Nat):wpOpIn (FW rd) 0 C.P ops Q i K a w:=by
 obtain⟨hin,hnl0,hpre⟩:i<ops.size/\listed.getD i true=false/\PC ops listed i:=by
  simp only[Region.ready,yH,yw,zj,zK]at hi;refine⟨hi.1,hi.2.1,λo ho e he hb=>?_⟩;have:=hi.2.2;rw[ho]at this;simp only[zf,yb]at this;rw[<-Array.all_toList]at this;have:=zF.1 this e he;rw[hb]at this;simpa using this
 obtain⟨p,G,rfl⟩:=D.bR i hin;have hsz:=inv.sz;have hnl:Dk pl listed p=false:=by
  unfold Dk;have h1:B8 pl p<listed.size:=by rw[hsz];exact hin
  simp only[zu,Array.getElem?_eq_getElem h1,yb]at hnl0⊢;exact hnl0
 have before_:∀q,q<p->dep (closure ops.toList []) (B8 pl q) (B8 pl p)=true->Dk pl listed q=true:=λq _ hd=>Qc inv.closed _ hin hpre hd;have behind:∀q,p<q->q<pl.length->dep (closure ops.toList []) (B8 pl p) (B8 pl q)=true->Dk pl listed q=false:=λq _ L hd=>by
  cases M:Dk pl listed q with
  |false=>rfl
  |true=>
   have hql:B8 pl q<ops.size:=(Array.getElem?_eq_some_iff.1 (D.lt q L)).1;have:=Qc inv.closed _ hql (inv.closed _ hql M) hd;unfold Dk at hnl;rw[hnl]at this;cases this
 have ord:∀q,q<pl.length->q≠p->(q<p->dep (closure ops.toList []) (B8 pl q) (B8 pl p)=true)->(p<q->dep (closure ops.toList []) (B8 pl p) (B8 pl q)=true)->Dk pl listed q=decide (q<p):=by
  intro q L O h1 J;rcases yY O with h|h
  ·rw[before_ q h (h1 h)];simp[h]
  ·rw[behind q h L (J h)];simp;omega
 have looks:∀t∈(CS ops pl p).looksAt ops,nth (F (qS ops pl listed t)) t=nth (F p) t:=by
  intro t Z;have wr:∀q,q<pl.length->q≠p->(CS ops pl q).dst=some t->Dk pl listed q=decide (q<p):=by
   intro q L O hd;refine ord q L O (λI=>?_) (λI=>?_)
   ·rcases D.pair q p I G with h|⟨h,_⟩
    ·exact h
    ·exact absurd Z ((Oper.apart_spec h).1 t hd)
   ·rcases D.pair p q I L with h|⟨h,_⟩
    ·exact h
    ·exact absurd Z ((Oper.apart_spec h).2.2 t hd)
  have hge:p<=qS ops pl listed t:=by
   rcases yd (qS ops pl listed t) p with h|h
   ·obtain⟨c1,c2⟩:=VN (ops:=ops) (pl:=pl) (listed:=listed) (t:=t) (by omega);rw[wr _ (by omega) (by omega) c1]at c2;simp at c2;omega
   ·exact h
  refine B.slot D _ hge (Od _ _ _ _) λx h1 J hd=>?_;have M:=O0 J hd;have hxn:x<pl.length:=zR J (Od _ _ _ _);by_cases hxp:x=p
  ·rw[hxp,hnl]at M;cases M
  ·rw[wr x hxn hxp hd]at M;simp at M;omega
 have wrB:∀q,q<p->(CS ops pl q).dst=(CS ops pl p).dst->(CS ops pl q).dst≠none->Dk pl listed q=true:=by
  intro q I hd hn;rcases D.pair q p I G with h|⟨h,_⟩
  ·exact before_ q I h
  ·cases L:(CS ops pl q).dst with
   |none=>exact absurd L hn
   |some d=>exact absurd (hd.symm.trans L) ((Oper.apart_spec h).2.1 d L)
 have wrA:∀q,p<q->q<pl.length->(CS ops pl q).dst=(CS ops pl p).dst->(CS ops pl q).dst≠none->Dk pl listed q=false:=by
  intro q I L hd hn;rcases D.pair p q I L with h|⟨h,_⟩
  ·exact behind q I L h
  ·cases hq':(CS ops pl p).dst with
   |none=>rw[hq']at hd;exact absurd hd hn
   |some d=>exact absurd (hd.trans hq') ((Oper.apart_spec h).2.1 d hq')
 have R:∀q,q<pl.length->Dk pl (listed.setIfInBounds (B8 pl p) true) q=(Dk pl listed q||decide (q=p)):=by
  intro q L;unfold Dk;simp only[zu];by_cases e:q=p
  ·subst e;have h1:B8 pl q<listed.size:=by rw[hsz];exact hin
   simp[h1]
  ·have O:B8 pl p≠B8 pl q:=by
    rcases yY e with h|h
    ·exact λhh=>D.ne q p h G hh.symm
    ·exact D.ne p q h L
   simp[Array.getElem?_setIfInBounds_ne O,e]
 have closed':Closed ops (listed.setIfInBounds (B8 pl p) true):=by
  have mono:∀j,listed.getD j false=true->(listed.setIfInBounds (B8 pl p) true).getD j false=true:=by
   intro j hj;by_cases e:B8 pl p=j
   ·subst e;have h1:B8 pl p<listed.size:=by rw[hsz];exact hin
    simp[zu,h1]
   ·simpa[zu,Array.getElem?_setIfInBounds_ne e]using hj
  intro j hj hlj o ho e he hb;by_cases ej:B8 pl p=j
  ·subst ej;exact mono _ (hpre o ho e he hb)
  ·have:listed.getD j false=true:=by simpa[zu,Array.getElem?_setIfInBounds_ne ej]using hlj
   exact mono _ (inv.closed j hj this o ho e he hb)
 obtain⟨m,hm0,rel,hv,hgh⟩:=inv.rel;obtain⟨FD,hFD⟩:∃FD:Fr,FD=(List.range (F 0).length).map λt=>nth (F (qS ops pl listed t)) t:=⟨_,rfl⟩;have hFDn:∀t,nth FD t=nth (F (qS ops pl listed t)) t:=by
  intro t;rw[hFD,Nj,zA,List.getElem?_map];by_cases Z:t<(F 0).length
  ·simp[List.getElem?_range Z]
  ·rw[List.getElem?_eq_none (by simp;omega)];rw[Nj,zA,List.getElem?_eq_none (by rw[B.len D _ (Od _ _ _ _)];omega)];rfl
 have hfr:FR m FD a:=⟨by rw[hFD];simp[inv.tmps],λt=>by rw[hFDn];exact hv t⟩;have hsame:∀t∈(CS ops pl p).looksAt ops,nth FD t=nth (F p) t:=λt Z=>by rw[hFDn];exact looks t Z
 have hso:=SB hsame;unfold wpOpIn;rw[D.lt p G];simp only;have kcmp:Br C.P (CS ops pl p).op≠0->p<=kW C ops pl listed:=by
  intro hc;rcases yd (kW C ops pl listed) p with h|h
  ·obtain⟨c1,c2⟩:=Q7 (C:=C) (ops:=ops) (pl:=pl) (listed:=listed) (by omega);rcases D.pair _ p h G with hd|⟨_,hd⟩
   ·have:=before_ _ h hd;rw[c2]at this;cases this
   ·rcases hd with hd|hd|⟨hd,_⟩
    ·exact absurd hd hc
    ·rw[c1]at hd;cases hd
    ·exact absurd c1 hd
  ·exact h
 have prot1:Br C.P (CS ops pl p).op=1\/Br C.P (CS ops pl p).op=2->∀x,p<x->x<kW C ops pl listed->Br C.P (CS ops pl x).op=3->(Mu pl x).any (Nat.beq (B8 pl p))=true\/(Br C.P (CS ops pl p).op=1/\(Mu pl x).any (Nat.beq (B8 pl p+10000))=true/\ON ops (closure ops.toList []) (B8 pl p)=true):=by
  intro hc x h1 J hx;have hxn:x<pl.length:=zR J (Ma _ _ _ _);have M:=IT J hx;rcases D.pair p x h1 hxn with hd|⟨_,hd⟩
  ·rw[behind x h1 hxn hd]at M;cases M
  ·rcases hd with hd|hd|⟨_,hd|hd⟩
   ·rw[hx]at hd;cases hd
   ·rcases hc with h|h<;>rw[h]at hd<;>cases hd
   ·exact absurd hx hd
   ·exact hd
 have Bb:Br C.P (CS ops pl p).op=2->∀x,p<x->x<kW C ops pl listed->Br C.P (CS ops pl x).op=3->(Mu pl x).any (Nat.beq (B8 pl p))=true:=by
  intro hc x h1 J hx;rcases prot1 (.inr hc) x h1 J hx with h|⟨h,_⟩
  ·exact h
  ·rw[hc]at h;cases h
 have kSame:Br C.P (CS ops pl p).op≠3->kW C ops pl (listed.setIfInBounds (B8 pl p) true)=kW C ops pl listed:=by
  intro hc;obtain⟨a1,a2,a3,a4⟩:=Fx (λp=>(Br C.P (CS ops pl p).op==3)&& !Dk pl listed p) pl.length 0;refine OJ _ (Ma _ _ _ _) (λy W=>?_) (λI=>?_)
  ·have:=a3 y (zS _) W;have N:y<pl.length:=zR W (Ma _ _ _ _);simp only[R y N];rcases yz.1 this with h|h
   ·simp[h]
   ·simp only[yg]at h;simp[h]
  ·obtain⟨c1,c2⟩:=Q7 I;rw[R _ I];have O:kW C ops pl listed≠p:=λe=>hc (by rw[<-e];exact c1);simp[c1,c2,O]
 have ghosts':∀{m':CU},(∀q,q<pl.length->q≠p->Br C.P (CS ops pl q).op=2->Dk pl listed q=false->Dm ops (F q) (CS ops pl q)=some true->m' (H q).size=none)->
   ∀q,q<pl.length->Br C.P (CS ops pl q).op=2->Dk pl (listed.setIfInBounds (B8 pl p) true) q=false->Dm ops (F q) (CS ops pl q)=some true->m' (H q).size=none:=by
  intro m' h q L hc M hw;rw[R q L]at M;simp only[zG,zB]at M;exact h q L M.2 hc M.1 hw
 rcases B.at_ D G with⟨hw,hF,hH,_⟩|⟨hw,x,hs,hF,hT,_⟩
 ·-- it is not wanted
  have hwant:=JJ hfr (by rw[Lk hsame];exact hw);rw[zm (by rw[hwant];simp)];refine⟨λ_ _=>trivial,hK _ _ ⟨by simp[hsz],closed',by rw[KF];exact inv.defers,by rw[size_put];exact inv.tmps,m,hm0,?_,λt=>MO B D G wrB wrA R (CU.le_refl m) inv.tmps hv (VR.Lu m) hF t,ghosts' λq L _ hc M hw=>hgh q L hc M hw⟩⟩;by_cases hc:Br C.P (CS ops pl p).op=3
  ·-- a writing operation that is passed over
   have hkp:kW C ops pl listed=p:=by
    have h1:=kcmp (by rw[hc];simp);rcases yd p (kW C ops pl listed)with h|h
    ·have:=IT h hc;rw[hnl]at this;cases this
    ·omega
   have hk':p+1<=kW C ops pl (listed.setIfInBounds (B8 pl p) true):=by
    rcases yd (kW C ops pl (listed.setIfInBounds (B8 pl p) true)) (p+1)with h|h
    ·exfalso;obtain⟨c1,c2⟩:=Q7 (C:=C) (ops:=ops) (pl:=pl) (listed:=listed.setIfInBounds (B8 pl p) true) (by omega);rw[R _ (by omega)]at c2;simp only[zG,zB]at c2;have:=IT (C:=C) (ops:=ops) (pl:=pl) (listed:=listed) (p:=kW C ops pl (listed.setIfInBounds (B8 pl p) true)) (by omega) c1;rw[c2.1]at this;cases this
    ·exact h
   rw[hkp,<-hH]at rel;refine B.SK D rel _ hk' (Ma _ _ _ _) λy h1 J W=>?_;have N:y<pl.length:=zR J (Ma _ _ _ _);have h3:=IT J W;rw[R y N]at h3;have h4:Dk pl listed y=false:=by
    rcases D.pair p y (by omega) N with hd|⟨_,hd⟩
    ·exact behind y (by omega) N hd
    ·rcases hd with hd|hd|⟨hd,_⟩
     ·rw[W]at hd;cases hd
     ·rw[hc]at hd;cases hd
     ·exact absurd hc hd
   rw[h4]at h3;simp at h3;omega
  ·rw[kSame hc];exact rel
 ·-- it is run
  have hwant:=JJ hfr (by rw[Lk hsame];exact hw);rw[zk hwant];by_cases hc3:Br C.P (CS ops pl p).op=3
  ·-- a writing operation:the heap is the plan's own
   have hkp:kW C ops pl listed=p:=by
    have h1:=kcmp (by rw[hc3];simp);rcases yd p (kW C ops pl listed)with h|h
    ·have:=IT h hc3;rw[hnl]at this;cases this
    ·omega
   rw[hkp]at rel;rw[<-Uy hso]at hs;refine Ph Y hz rel hfr hs (λm' v' w' e1 e2 e3=>hK _ _ ?_) rd;have hle:=rel.VW e1;have hk':p+1<=kW C ops pl (listed.setIfInBounds (B8 pl p) true):=by
    rcases yd (kW C ops pl (listed.setIfInBounds (B8 pl p) true)) (p+1)with h|h
    ·exfalso;obtain⟨c1,c2⟩:=Q7 (C:=C) (ops:=ops) (pl:=pl) (listed:=listed.setIfInBounds (B8 pl p) true) (by omega);rw[R _ (by omega)]at c2;simp only[zG,zB]at c2;have:=IT (C:=C) (ops:=ops) (pl:=pl) (listed:=listed) (p:=kW C ops pl (listed.setIfInBounds (B8 pl p) true)) (by omega) c1;rw[c2.1]at this;cases this
    ·exact h
   have notdone:∀y,p<y->y<pl.length->Br C.P (CS ops pl y).op≠0->Dk pl listed y=false:=by
    intro y h1 N W;rcases D.pair p y h1 N with hd|⟨_,hd⟩
    ·exact behind y h1 N hd
    ·rcases hd with hd|hd|⟨hd,_⟩
     ·exact absurd hd W
     ·rw[hc3]at hd;cases hd
     ·exact absurd hc3 hd
   refine⟨by simp[hsz],closed',by rw[KF];exact inv.defers,by rw[size_put];exact inv.tmps,m',hm0.trans e1 (B.size D Y p (zS _) (by omega)),?_,λt=>MO B D G wrB wrA R hle inv.tmps hv e3 hF t,ghosts' λq L O hc M hw=>?_⟩
   ·refine B.SK D e2 _ hk' (Ma _ _ _ _) λy h1 J W=>?_;have N:y<pl.length:=zR J (Ma _ _ _ _);have h3:=IT J W;rw[R y N,notdone y (by omega) N (by rw[W];simp)]at h3;simp at h3;omega
   ·rcases yY O with h|h
    ·-- it makes an object at a place ahead of ours
     have I:(H q).size<(H p).size:=by
      have h1:(H (q+1)).size=(H q).size+1:=by
       rcases B.at_ D L with⟨hw2,_⟩|⟨_,u,U,_,_⟩
       ·rw[hw]at hw2;cases hw2
       ·rw[I9 (by rw[hc];simp)]at U;unfold J7 at U;rw[hc]at U;simp only[zg,ze]at U;obtain⟨_,_,_,e⟩:=U;rw[<-e];simp
      have J:=B.size D Y (p:=q+1) p (by omega) (by omega);omega
     rw[e1.i _ I];exact hgh q L hc M hw
    ·exact e2.fresh (B.size D Y (p:=p+1) q (by omega) (by omega))
  ·-- no writing operation:by its class
   have hkS:=kSame hc3;rw[I9 hc3]at hs;have hnd:∀c,(CS ops pl p).op≠.defer c:=λc e=>hc3 (by rw[e];rfl);have fin:∀{m':CU} {v':Value} {w':World},m.le m'->(m0.ext (H 0).size m')->Rel C.P w0 m' (H (kW C ops pl listed)) w'->VR m' x v'->
     (∀q,q<pl.length->q≠p->Br C.P (CS ops pl q).op=2->Dk pl listed q=false->Dm ops (F q) (CS ops pl q)=some true->m' (H q).size=none)->
     K (a.put (CS ops pl p).dst v') w':=by
    intro m' v' w' h1 J h3 h4 h5;exact hK _ _ ⟨by simp[hsz],closed',by rw[KF];exact inv.defers,by rw[size_put];exact inv.tmps,m',J,by rw[hkS];exact h3,λt=>MO B D G wrB wrA R h1 inv.tmps hv h4 hF t,ghosts' h5⟩
   unfold J7 at hs;split at hs
   ·-- slots alone
    rename_i hc;simp only[zg,ze]at hs;obtain⟨x',X,rfl,_⟩:=hs;rw[<-Ts hso]at X;obtain⟨v',h1,J⟩:=SF (P:=C.P) w hfr X;refine⟨λ_ _=>trivial,?_⟩;rw[Oper.semAt_eq _ _ _ hnd,h1];exact fin (CU.le_refl m) hm0 rel J λq L _ hc M hw=>hgh q L hc M hw
   ·-- it reads one object
    rename_i hc;have hkp:=kcmp (by rw[hc];simp);have hkne:kW C ops pl listed≠p:=λe=>by
     have:=(Q7 (C:=C) (ops:=ops) (pl:=pl) (listed:=listed) (by omega)).1;rw[e,hc]at this;cases this
    have go:∀ob,(Es (F p) (CS ops pl p).op).bind (H (kW C ops pl listed)).get=ob->MJ C.P C.GZ (F p) ob (CS ops pl p).op=some x->Oper.wpIn (FW rd) 0 C.P (CS ops pl p) a w K Q:=by
     intro ob hob X;rw[<-OI hso,<-hob,<-Mb hso]at X;obtain⟨v',h1,J⟩:=Rr hz rel hfr X;refine⟨λ_ _=>trivial,?_⟩;rw[Oper.semAt_eq _ _ _ hnd,h1];exact fin (CU.le_refl m) hm0 rel J λq L _ hc M hw=>hgh q L hc M hw
    split at hs
    ·rename_i Z;simp only[zg,ze]at hs;obtain⟨x',X,rfl,_⟩:=hs;exact go none (by rw[Z];rfl) X
    ·rename_i id Z;split at hs
     ·rename_i ob hg;have hmem:(B8 pl p,id)∈T (p+1):=by
       rw[hT];unfold H9;rw[hc];simp only[Z];exact yo
      simp only[zg,ze]at hs;obtain⟨x',X,rfl,hHp⟩:=hs;obtain⟨ob2,g1,g2⟩:=B.reads D Y G hw Z (by rw[<-hHp];exact hg) X hF hmem (kW C ops pl listed) (by omega) (Ma _ _ _ _) λy h1 J W=>by
       rcases prot1 (.inl hc) y h1 J W with h|⟨_,h⟩
       ·exact .inl h
       ·exact .inr h
      exact go (some ob2) (by rw[Z];exact g1) g2
     ·cases hs
   ·-- it makes one object
    rename_i hc;have hkp:=kcmp (by rw[hc];simp);have hkne:kW C ops pl listed≠p:=λe=>by
     have:=(Q7 (C:=C) (ops:=ops) (pl:=pl) (listed:=listed) (by omega)).1;rw[e,hc]at this;cases this
    simp only[zg,ze]at hs;obtain⟨nw,hnw,rfl,hHp⟩:=hs;rw[<-TN hso]at hnw;obtain⟨v',w',E,h1,t1,t2,_,t4⟩:=R1 (P:=C.P) w hfr hnw;have hnone:=hgh p G hc hnl hw;have hle:=CU.PG (m:=m) E hnone;obtain⟨q1,q2⟩:=t4 (m.upd (H p).size E) hle (H p).size (CU.HC m _ E);have hmem:(B8 pl p,(H p).size)∈T (p+1):=by
     rw[hT];unfold H9;rw[hc];exact yo
    have hget1:(H (p+1)).get (H p).size=some nw.2:=by rw[<-hHp];exact AS.ES _ _
    have hget:(H (kW C ops pl listed)).get (H p).size=some nw.2:=by
     rw[<-hget1];exact B.same D Y hmem (by rw[<-hHp];simp) _ (by omega) (Ma _ _ _ _) λy h1 J W=>Bb hc y (by omega) J W
    refine⟨λ_ _=>trivial,?_⟩;rw[Oper.semAt_eq _ _ _ hnd,h1];refine fin hle (hm0.trans (CU.OK m E (by have:=B.size D Y (p:=0) p (zS _) (by omega);omega)) (zo _)) (rel.place t1 (by rw[t2];exact rel.size) (λid2 E2 o2 hm2 ho2 hl2=>?_) (rel.Uu (by omega)) (λhd=>by have:=rel.R6 hd;omega) hnone hget q2) q1 λq L O hcq M hwq=>?_
    ·have:=(rel.obj id2 E2 o2 hm2 ho2).lt hl2;omega
    ·have hszq:∀y,y<pl.length->Br C.P (CS ops pl y).op=2->Dm ops (F y) (CS ops pl y)=some true->(H (y+1)).size=(H y).size+1:=by
      intro y W hcy hwy;rcases B.at_ D W with⟨hw2,_⟩|⟨_,u,U,_,_⟩
      ·rw[hwy]at hw2;cases hw2
      ·rw[I9 (by rw[hcy];simp)]at U;unfold J7 at U;rw[hcy]at U;simp only[zg,ze]at U;obtain⟨_,_,_,e⟩:=U;rw[<-e];simp
     rw[CU.Sk m E ?_]
     ·exact hgh q L hcq M hwq
     ·rcases yY O with h|h
      ·have h1:=hszq q L hcq hwq;have J:=B.size D Y (p:=q+1) p (by omega) (by omega);omega
      ·have h1:=hszq p G hc hw;have J:=B.size D Y (p:=p+1) q (by omega) (by omega);omega
   ·rename_i h0 h1 J;exfalso;have:∀op,Br C.P op=0\/Br C.P op=1\/Br C.P op=2\/Br C.P op=3:=by
     intro op;unfold Br
     repeat' split
     all_goals simp
    rcases this (CS ops pl p).op with h|h|h|h
    ·exact h0 h
    ·exact h1 h
    ·exact J h
    ·exact hc3 h
theorem Pp:∀(l:List Nat) (f g:Nat->Bool),(∀j,g j=true->f j=true)->(∃i∈l,f i=true/\g i=false)->(l.filter g).length<(l.filter f).length
 |[],f,g,_,⟨i,hi,_⟩=>by simp at hi
 | x::l,f,g,hfg,⟨i,hi,h1,J⟩=>by
  have le:(l.filter g).length<=(l.filter f).length:=by
   clear hi
   induction l with
   |nil=>simp
   |cons y l ih=>
    simp only[qz];cases hg:g y
    ·cases hf:f y<;>simp<;>omega
    ·rw[hfg y hg];simp;exact ih
  simp only[qz];by_cases e:i=x
  ·subst e;rw[h1,J];simp;omega
  ·have hi':i∈l:=by cases hi with|head=>exact absurd rfl e|tail _ h=>exact h
   have ih:=Pp l f g hfg ⟨i,hi',h1,J⟩;cases hg:g x
   ·cases hf:f x<;>simp<;>omega
   ·rw[hfg x hg];simp;exact ih
theorem Inv.done(B:NS C S g ops pl F H T)(D:NU C.P ops pl){w0:World}{m0:CU}{d0:List Deferred}{listed:Array Bool}{a:Act}{w:World}(inv:Inv C ops pl F H w0 m0 d0 listed a w)
  (V:∀i,i<ops.size->listed.getD i false=true):
  ∃m,(m0.ext (H 0).size m)/\Rel C.P w0 m (H pl.length) w/\FR m (F pl.length) a/\a.defers=d0:=by
 obtain⟨m,h1,J,h3,_⟩:=inv.rel;have M:∀p,p<pl.length->Dk pl listed p=true:=λp G=>V _ (Array.getElem?_eq_some_iff.1 (D.lt p G)).1;have hk:kW C ops pl listed=pl.length:=by
  rcases yd (kW C ops pl listed) pl.length with h|h
  ·have:=(Q7 h).2;rw[M _ h]at this;cases this
  ·have:=Ma C ops pl listed;omega
 have L:∀t,qS ops pl listed t=pl.length:=λt=>by
  rcases yd (qS ops pl listed t) pl.length with h|h
  ·have:=(VN h).2;rw[M _ h]at this;cases this
  ·have:=Od ops pl listed t;omega
 exact⟨m,h1,by rw[<-hk];exact J,⟨by rw[B.len D _ (zo _)];exact inv.tmps.symm,λt=>by have:=h3 t;rwa [L t]at this⟩,inv.defers⟩
theorem Inv.any(B:NS C S g ops pl F H T)(D:NU C.P ops pl)(Y:Kv C.P C.GZ S){w0:World}(hz:EF C.GZ w0){m0:CU}{d0:List Deferred}{Q:Exit->Act->World->Prop}
  (hQ:∀m a w,(m0.ext (H 0).size m)->Rel C.P w0 m (H pl.length) w->FR m (F pl.length) a->a.defers=d0->Q .normal a w):
  ∀(fuel:Nat) (listed:Array Bool) (a:Act) (w:World),Inv C ops pl F H w0 m0 d0 listed a w->((List.range ops.size).filter λi=> !listed.getD i false).length<=fuel->∀rd:Option Nat,wpAnyIn (FW rd) 0 C.P .any ops Q fuel listed a w:=by
 have fin:∀{listed:Array Bool} {a:Act} {w:World},Inv C ops pl F H w0 m0 d0 listed a w->(∀i,i<ops.size->listed.getD i false=true)->Q .normal a w:=by
  intro listed a w inv V;obtain⟨m,h1,J,h3,h4⟩:=inv.done B D V;exact hQ m a w h1 J h3 h4
 intro fuel
 induction fuel with
 | zero=>
  intro listed a w inv hc rd;have V:∀i,i<ops.size->listed.getD i false=true:=by
   intro i hi;cases M:listed.getD i false with
   |true=>rfl
   |false=>
    have hm:i∈(List.range ops.size).filter λi=> !listed.getD i false:=yH.2 ⟨by simpa using hi,by rw[M];rfl⟩;have:((List.range ops.size).filter λi=> !listed.getD i false)=[]:=zt (by omega);rw[this]at hm;cases hm
  refine⟨?_,fin inv V⟩;apply qN.2;intro i hi;have hi':i<ops.size:=by simpa using hi
  have:=V i hi';have h1:i<listed.size:=by rw[inv.sz];exact hi'
  simp only[zu,Array.getElem?_eq_getElem h1,yb]at this⊢;simp[this]
 | succ fuel ih=>
  intro listed a w inv hc rd;refine⟨λhr=>fin inv ?_,λi hi=>?_⟩
  ·-- nothing is ready:all is done
   apply Classical.byContradiction;intro hno;obtain⟨a1,a2,a3,a4⟩:=Fx (λp=> !Dk pl listed p) pl.length 0;have I:Jn (λp=> !Dk pl listed p) 0 pl.length<0+pl.length:=by
    rcases yd (Jn (λp=> !Dk pl listed p) 0 pl.length) (0+pl.length)with h|h
    ·exact h
    ·exfalso;apply hno;intro i hi;obtain⟨p,G,rfl⟩:=D.bR i hi;have:=a3 p (zS _) (by omega);simpa[Dk]using this
   have hn:=a4 I;generalize Jn (λp=> !Dk pl listed p) 0 pl.length=p at a1 a2 a3 I hn;have G:p<pl.length:=by omega
   have hin:B8 pl p<ops.size:=(Array.getElem?_eq_some_iff.1 (D.lt p G)).1;have hready:B8 pl p∈Region.ready .any ops listed:=by
    simp only[Region.ready,yH,yw,zj,zK];refine⟨hin,?_,?_⟩
    ·have h1:B8 pl p<listed.size:=by rw[inv.sz];exact hin
     simp only[Dk,zu,Array.getElem?_eq_getElem h1,yb,zK]at hn⊢;exact hn
    ·rw[D.lt p G];simp only[zf,yb];rw[<-Array.all_toList];refine zF.2 λe he=>?_;cases hb:Region.binds .any e with
     |false=>rfl
     | true=>
      simp only[z6,qp];have hdep:dep (closure ops.toList []) e.on (B8 pl p)=true:=by
       have hsp:=(Lo ops.toList [] (B8 pl p) (CS ops pl p) e.on (by simpa using D.lt p G)).2 ⟨e,he,hb,.inl rfl⟩;simpa[dep]using hsp
      have hon:=D.bW p G e he hb;obtain⟨q,L,hqe⟩:=D.bR e.on (by omega);rw[<-hqe]at hdep⊢;rcases qb q p with h|h|h
      ·have:=a3 q (zS _) h;simpa[Dk]using this
      ·subst h;omega
      ·rw[D.ZA p q h L]at hdep;cases hdep
   rw[hr]at hready;cases hready
  ·refine Inv.step B D Y hz inv hi (λa' w' inv'=>ih _ a' w' inv' ?_ rd) rd;have hi2:i<ops.size/\listed.getD i true=false:=by
    simp only[Region.ready,yH,yw,zj,zK]at hi;exact⟨hi.1,hi.2.1⟩
   have h1:i<listed.size:=by rw[inv.sz];exact hi2.1
   have:=Pp (List.range ops.size) (λj=> !listed.getD j false) (λj=> !(listed.setIfInBounds i true).getD j false) (λj hj=>by
    by_cases e:i=j
    ·subst e;simp[zu,h1]at hj
    ·simpa[zu,Array.getElem?_setIfInBounds_ne e]using hj)
    ⟨i,by simpa using hi2.1,by
     have:=hi2.2;simp only[zu,Array.getElem?_eq_getElem h1,yb]at this⊢
     simp[this],by simp[zu,h1]⟩
   omega
theorem RR(hmix:C.P.follows .mixedOrders=true)(hok:QN C.P ops pl=true)(Y:Kv C.P C.GZ S){w0:World}(hz:EF C.GZ w0){m:CU}{h h':AS}{w:World}{fr fr':Fr}{a:Act}{id:Nat}{Q:Exit->Act->World->Prop}
  (r:Rel C.P w0 m h w) (hf:FR m fr a) (hr:Dx C S g ops pl [] fr h=some (fr',h'))
  (hQ:∀m' a' w',(m.ext h.size m')->Rel C.P w0 m' h' w'->FR m' fr' a'->a'.defers=a.defers->Q .normal a' w'):∀rd:Option Nat,(Code.region id ops true).wpIn (FW rd) 0 C.P Q a w:=by
 intro rd;have D:=Vf hok;obtain⟨F,H,T,B,rfl,rfl,_,rfl,rfl⟩:=Mv pl [] fr h fr' h' hr;refine wpIn_region_any hmix ?_;have r':Rel C.P w0 m (H 0) {w with drawn:=w.drawn+1}:=r.drew;refine Inv.any B D Y hz (m0:=m) (d0:=a.defers) hQ ops.size _ a _ (Inv.start B D Y r' hf) ?_ rd;exact zV (yM _ _) (by simp)
theorem RU(hok:QN C.P ops pl=true)(Y:Kv C.P C.GZ S){h h':AS}{fr fr':Fr}(hr:Dx C S g ops pl [] fr h=some (fr',h')):CT g h h'/\fr'.length=fr.length:=by
 have D:=Vf hok;obtain⟨F,H,T,B,rfl,rfl,_,rfl,rfl⟩:=Mv pl [] fr h fr' h' hr;refine⟨?_,B.len D _ (zo _)⟩;have all:∀p,p<=pl.length->CT g (H 0) (H p):=by
  intro p
  induction p with
  |zero=>intro _;exact CT.refl _ _
  |succ p ih=>
   intro G;exact(ih (by omega)).trans ((B.keeps D Y (p:=p) (by omega)).weaken λid hid=>Ur id hid)
 exact all _ (zo _)
end
end Go.Av
