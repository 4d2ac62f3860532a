/-
 A part.
-/
import Derived.Test.YtlddjbgohnlihaaGreatDoorAvPlan
set_option linter.unusedSimpArgs false
namespace Go.Av
open Go.RowKit
section
variable {C:Gp} {S:Self} {g:Gd} {ops:Array Oper} {pl:List (Nat×List Nat)} {F:Nat→Fr} {H:Nat→AI} {T:Nat→List (Nat×Nat)}
def CO(pl:List (Nat×List Nat))(listed:Array Bool)(p:Nat):Bool:=listed.getD (BK pl p) false
def kW(C:Gp)(ops:Array Oper)(pl:List (Nat×List Nat))(listed:Array Bool):Nat:=IP (fun p=>(A4 C.P (BV ops pl p).op==3)&& !CO pl listed p) 0 pl.length
def qS(ops:Array Oper)(pl:List (Nat×List Nat))(listed:Array Bool)(t:Nat):Nat:=IP (fun p=>((BV ops pl p).dst==some t)&& !CO pl listed p) 0 pl.length
theorem Lr(C:Gp)(ops:Array Oper)(pl:List (Nat×List Nat))(listed:Array Bool):kW C ops pl listed≤pl.length:=by
 have:=(El (fun p=>(A4 C.P (BV ops pl p).op==3)&& !CO pl listed p) pl.length 0).2.1;unfold kW;omega
theorem G1{p:Nat}{listed:Array Bool}(h:p<kW C ops pl listed)(hc:A4 C.P (BV ops pl p).op=3):CO pl listed p=true:=by
 have:=(El (fun p=>(A4 C.P (BV ops pl p).op==3)&& !CO pl listed p) pl.length 0).2.2.1 p (yB _) h;simpa[hc]using this
theorem Pq{listed:Array Bool}(h:kW C ops pl listed<pl.length):A4 C.P (BV ops pl (kW C ops pl listed)).op=3∧CO pl listed (kW C ops pl listed)=false:=by
 have:=(El (fun p=>(A4 C.P (BV ops pl p).op==3)&& !CO pl listed p) pl.length 0).2.2.2 (by unfold kW at h;omega);simpa[kW]using this
theorem Ni(ops:Array Oper)(pl:List (Nat×List Nat))(listed:Array Bool)(t:Nat):qS ops pl listed t≤pl.length:=by
 have:=(El (fun p=>((BV ops pl p).dst==some t)&& !CO pl listed p) pl.length 0).2.1;unfold qS;omega
theorem Ny{p t:Nat}{listed:Array Bool}(h:p<qS ops pl listed t)(hc:(BV ops pl p).dst=some t):CO pl listed p=true:=by
 have:=(El (fun p=>((BV ops pl p).dst==some t)&& !CO pl listed p) pl.length 0).2.2.1 p (yB _) h;simpa[hc]using this
theorem Vc{t:Nat}{listed:Array Bool}(h:qS ops pl listed t<pl.length):(BV ops pl (qS ops pl listed t)).dst=some t∧CO pl listed (qS ops pl listed t)=false:=by
 have:=(El (fun p=>((BV ops pl p).dst==some t)&& !CO pl listed p) pl.length 0).2.2.2 (by unfold qS at h;omega);simpa[qS]using this
def KD(ops:Array Oper)(listed:Array Bool)(i:Nat):Prop:=∀o,ops[i]?=some o→∀e∈o.after.toList,Region.binds .any e=true→listed.getD e.on false=true
def Closed(ops:Array Oper)(listed:Array Bool):Prop:=∀i,i<ops.size→listed.getD i false=true→KD ops listed i
theorem KY{listed:Array Bool}(hc:Closed ops listed){j:Nat}:∀(i:Nat),i<ops.size→KD ops listed i→dep (closure ops.toList []) j i=true→listed.getD j false=true:=by
 intro i
 induction i using Nat.strongRecOn with
 | _ i ih=>
  intro hi D hd;have ho:ops[i]?=some ops[i]:=Array.getElem?_eq_getElem hi;have hsp:=(Kg ops.toList [] i ops[i] j (by simp[hi])).1 (by simpa[dep]using hd);obtain⟨e,he,hb,h|⟨I,h⟩⟩:=hsp
  ·rw[h];exact D _ ho e he hb
  ·have L:=D _ ho e he hb;simp only[zG,yq]at I;exact ih e.on I (by omega) (hc e.on (by omega) L) (by simpa[dep]using h)
structure Inv(C:Gp)(ops:Array Oper)(pl:List (Nat×List Nat))(F:Nat→Fr)(H:Nat→AI)(w0:World)(m0:BD)(d0:List Deferred)(listed:Array Bool)(a:Act)(w:World):Prop where
 sz:listed.size=ops.size
 closed:Closed ops listed
 defers:a.defers=d0
 tmps:a.tmps.size=(F 0).length
 rel:∃m:BD,(m0.ext (H 0).size m)∧Rel C.P w0 m (H (kW C ops pl listed)) w∧(∀t,VR m (nth (F (qS ops pl listed t)) t) (a.tmps.getD t undef))∧
  (∀p,p<pl.length→A4 C.P (BV ops pl p).op=2→CO pl listed p=false→CW ops (F p) (BV ops pl p)=some true→m (H p).size=none)
theorem Inv.start(B:Mf C S g ops pl F H T)(D:Mo C.P ops pl)(X:GK C.P C.Cx S){w0:World}{m0:BD}{a:Act}{w:World}(r:Rel C.P w0 m0 (H 0) w)(hf:FR m0 (F 0) a):
  Inv C ops pl F H w0 m0 a.defers (Array.replicate ops.size false) a w:=by
 have L:∀i,(Array.replicate ops.size false).getD i false=false:=fun i=>by
  simp only[zr,Array.getElem?_replicate];split<;>rfl
 have hlst:∀p,CO pl (Array.replicate ops.size false) p=false:=fun p=>L _;refine⟨by simp,(fun i _ h=>by rw[L]at h;cases h),rfl,hf.1.symm,m0,BD.ext.refl _ _,?_,fun t=>?_,fun p G _ _ _=>?_⟩
 ·refine B.Re D r _ (yB _) (Lr _ _ _ _) fun x _ hx hc=>?_;have:=G1 hx hc;rw[hlst]at this;cases this
 ·rw[B.slot D (p:=0) _ (yB _) (Ni _ _ _ _) fun x _ hx hc=>?_]
  ·exact hf.2 t
  ·have:=Ny hx hc;rw[hlst]at this;cases this
 ·exact r.fresh (B.size D X p (yB _) (by omega))
theorem Lb(B:Mf C S g ops pl F H T)(D:Mo C.P ops pl){listed:Array Bool}{p:Nat}(G:p<pl.length)
  (hb:∀q,q<p→(BV ops pl q).dst=(BV ops pl p).dst→(BV ops pl q).dst≠none→CO pl listed q=true)
  (ha:∀q,p<q→q<pl.length→(BV ops pl q).dst=(BV ops pl p).dst→(BV ops pl q).dst≠none→CO pl listed q=false)
  (O:∀q,q<pl.length→CO pl (listed.setIfInBounds (BK pl p) true) q=(CO pl listed q||decide (q=p)))
  {m m':BD} (hm:m.le m') {a:Act} (htm:a.tmps.size=(F 0).length) (hv:∀t,VR m (nth (F (qS ops pl listed t)) t) (a.tmps.getD t undef)) {x:AB} {v:Value} (hx:VR m' x v) (hF:F (p+1)=put (F p) (BV ops pl p).dst x) (t:Nat):
  VR m' (nth (F (qS ops pl (listed.setIfInBounds (BK pl p) true) t)) t) ((a.put (BV ops pl p).dst v).tmps.getD t undef):=by
 by_cases hd:(BV ops pl p).dst=some t
 ·-- the slot that the step writes
  have hq':p<qS ops pl (listed.setIfInBounds (BK pl p) true) t:=by
   rcases yg p (qS ops pl (listed.setIfInBounds (BK pl p) true) t)with h|h
   ·exact h
   ·exfalso;obtain⟨c1,c2⟩:=Vc (ops:=ops) (pl:=pl) (listed:=listed.setIfInBounds (BK pl p) true) (t:=t) (by omega);rw[O _ (by omega)]at c2;simp only[zH,zx]at c2;have:=hb _ (by omega) (c1.trans hd.symm) (by rw[c1];simp);rw[c2.1]at this;cases this
  have e1:nth (F (qS ops pl (listed.setIfInBounds (BK pl p) true) t)) t=nth (F (p+1)) t:=by
   refine B.slot D _ (by omega) (Ni _ _ _ _) fun y h1 h2 hc=>?_;have h3:=Ny h2 hc;have M:y<pl.length:=zX h2 (Ni _ _ _ _);rw[O y M]at h3;have h4:=ha y (by omega) M (hc.trans hd.symm) (by rw[hc];simp);rw[h4]at h3;simp at h3;omega
  rw[e1,hF,hd];show VR m' (nth ((F p).set t x) t) ((a.tmps.setIfInBounds t v).getD t undef);rw[FY];by_cases Y:t<(F p).length
  ·rw[zm ⟨rfl,Y⟩];have:t<a.tmps.size:=by rw[htm,←B.len D p (by omega)];exact Y
   simpa[zr,this]using hx
  ·rw[zk (by rintro⟨_,h⟩;exact Y h)];have h1:nth (F p) t=.tuple []:=by rw[FZ,zo,List.getElem?_eq_none (by omega)];rfl
   have h2:¬t<a.tmps.size:=by rw[htm,←B.len D p (by omega)];exact Y
   rw[h1];have:(a.tmps.setIfInBounds t v).getD t undef=undef:=by simp[zr,h2]
   rw[this];exact VR.Gs m'
 ·-- another slot
  have e1:qS ops pl (listed.setIfInBounds (BK pl p) true) t=qS ops pl listed t:=by
   obtain⟨a1,a2,a3,a4⟩:=El (fun p=>((BV ops pl p).dst==some t)&& !CO pl listed p) pl.length 0;refine NJ _ (Ni _ _ _ _) (fun y V=>?_) (fun I=>?_)
   ·have:=a3 y (yB _) V;have M:y<pl.length:=zX V (Ni _ _ _ _);simp only[O y M];rcases yb.1 this with h|h
    ·simp[h]
    ·simp only[qt]at h;simp[h]
   ·obtain⟨c1,c2⟩:=Vc I;rw[O _ I];have N:qS ops pl listed t≠p:=fun e=>hd (by rw[←e];exact c1);simp[c1,c2,N]
  rw[e1];have:(a.put (BV ops pl p).dst v).tmps.getD t undef=a.tmps.getD t undef:=by
   cases hdd:(BV ops pl p).dst with
   |none=>rfl
   |some d=>
    have N:d≠t:=fun e=>hd (by rw[hdd,e]);simp[Act.put,zr,Array.getElem?_setIfInBounds_ne N]
  rw[this];exact(hv t).mono hm
theorem size_put(a:Act)(d:Option Tmp)(v:Value):(a.put d v).tmps.size=a.tmps.size:=by cases d<;>simp[Act.put]
theorem Inv.step(B:Mf C S g ops pl F H T)(D:Mo C.P ops pl)(X:GK C.P C.Cx S){w0:World}(hz:Bh C.Cx w0){m0:BD}{d0:List Deferred}{listed:Array Bool}{a:Act}{w:World}
  (inv:Inv C ops pl F H w0 m0 d0 listed a w) {i:Nat} (hi:i∈Region.ready .any ops listed) {K:Act→World→Prop} {Q:Exit→Act→World→Prop}
  (hK:∀a' w',Inv C ops pl F H w0 m0 d0 (listed.setIfInBounds i true) a' w'→K a' w') (rd:Option Nat):wpOpIn (FW rd) 0 C.P ops Q i K a w:=by
 obtain⟨Z,hnl0,hpre⟩:i<ops.size∧listed.getD i true=false∧KD ops listed i:=by
  simp only[Region.ready,yf,zO,zh,zK]at hi;refine⟨hi.1,hi.2.1,fun o ho e he hb=>?_⟩;have:=hi.2.2;rw[ho]at this;simp only[zj,zV]at this;rw[←qQ]at this;have:=zn.1 this e he;rw[hb]at this;simpa using this
 obtain⟨p,G,rfl⟩:=D.eQ i Z;have hsz:=inv.sz;have hnl:CO pl listed p=false:=by
  unfold CO;have h1:BK pl p<listed.size:=by rw[hsz];exact Z
  simp only[zr,Array.getElem?_eq_getElem h1,zV]at hnl0⊢;exact hnl0
 have before_:∀q,q<p→dep (closure ops.toList []) (BK pl q) (BK pl p)=true→CO pl listed q=true:=fun q _ hd=>KY inv.closed _ Z hpre hd;have behind:∀q,p<q→q<pl.length→dep (closure ops.toList []) (BK pl p) (BK pl q)=true→CO pl listed q=false:=fun q _ J hd=>by
  cases L:CO pl listed q with
  |false=>rfl
  |true=>
   have hql:BK pl q<ops.size:=(Array.getElem?_eq_some_iff.1 (D.lt q J)).1;have:=KY inv.closed _ hql (inv.closed _ hql L) hd;unfold CO at hnl;rw[hnl]at this;cases this
 have ord:∀q,q<pl.length→q≠p→(q<p→dep (closure ops.toList []) (BK pl q) (BK pl p)=true)→(p<q→dep (closure ops.toList []) (BK pl p) (BK pl q)=true)→CO pl listed q=decide (q<p):=by
  intro q J N h1 h2;rcases qH N with h|h
  ·rw[before_ q h (h1 h)];simp[h]
  ·rw[behind q h J (h2 h)];simp;omega
 have looks:∀t∈(BV ops pl p).looksAt ops,nth (F (qS ops pl listed t)) t=nth (F p) t:=by
  intro t Y;have wr:∀q,q<pl.length→q≠p→(BV ops pl q).dst=some t→CO pl listed q=decide (q<p):=by
   intro q J N hd;refine ord q J N (fun I=>?_) (fun I=>?_)
   ·rcases D.pair q p I G with h|⟨h,_⟩
    ·exact h
    ·exact absurd Y ((Oper.apart_spec h).1 t hd)
   ·rcases D.pair p q I J with h|⟨h,_⟩
    ·exact h
    ·exact absurd Y ((Oper.apart_spec h).2.2 t hd)
  have hge:p≤qS ops pl listed t:=by
   rcases yg (qS ops pl listed t) p with h|h
   ·obtain⟨c1,c2⟩:=Vc (ops:=ops) (pl:=pl) (listed:=listed) (t:=t) (by omega);rw[wr _ (by omega) (by omega) c1]at c2;simp at c2;omega
   ·exact h
  refine B.slot D _ hge (Ni _ _ _ _) fun x h1 h2 hd=>?_;have L:=Ny h2 hd;have hxn:x<pl.length:=zX h2 (Ni _ _ _ _);by_cases hxp:x=p
  ·rw[hxp,hnl]at L;cases L
  ·rw[wr x hxn hxp hd]at L;simp at L;omega
 have wrB:∀q,q<p→(BV ops pl q).dst=(BV ops pl p).dst→(BV ops pl q).dst≠none→CO pl listed q=true:=by
  intro q I hd hn;rcases D.pair q p I G with h|⟨h,_⟩
  ·exact before_ q I h
  ·cases J:(BV ops pl q).dst with
   |none=>exact absurd J hn
   |some d=>exact absurd (hd.symm.trans J) ((Oper.apart_spec h).2.1 d J)
 have wrA:∀q,p<q→q<pl.length→(BV ops pl q).dst=(BV ops pl p).dst→(BV ops pl q).dst≠none→CO pl listed q=false:=by
  intro q I J hd hn;rcases D.pair p q I J with h|⟨h,_⟩
  ·exact behind q I J h
  ·cases hq':(BV ops pl p).dst with
   |none=>rw[hq']at hd;exact absurd hd hn
   |some d=>exact absurd (hd.trans hq') ((Oper.apart_spec h).2.1 d hq')
 have O:∀q,q<pl.length→CO pl (listed.setIfInBounds (BK pl p) true) q=(CO pl listed q||decide (q=p)):=by
  intro q J;unfold CO;simp only[zr];by_cases e:q=p
  ·subst e;have h1:BK pl q<listed.size:=by rw[hsz];exact Z
   simp[h1]
  ·have N:BK pl p≠BK pl q:=by
    rcases qH e with h|h
    ·exact fun hh=>D.ne q p h G hh.symm
    ·exact D.ne p q h J
   simp[Array.getElem?_setIfInBounds_ne N,e]
 have closed':Closed ops (listed.setIfInBounds (BK pl p) true):=by
  have mono:∀j,listed.getD j false=true→(listed.setIfInBounds (BK pl p) true).getD j false=true:=by
   intro j hj;by_cases e:BK pl p=j
   ·subst e;have h1:BK pl p<listed.size:=by rw[hsz];exact Z
    simp[zr,h1]
   ·simpa[zr,Array.getElem?_setIfInBounds_ne e]using hj
  intro j hj hlj o ho e he hb;by_cases ej:BK pl p=j
  ·subst ej;exact mono _ (hpre o ho e he hb)
  ·have:listed.getD j false=true:=by simpa[zr,Array.getElem?_setIfInBounds_ne ej]using hlj
   exact mono _ (inv.closed j hj this o ho e he hb)
 obtain⟨m,hm0,rel,hv,hgh⟩:=inv.rel;obtain⟨FD,hFD⟩:∃FD:Fr,FD=(List.range (F 0).length).map fun t=>nth (F (qS ops pl listed t)) t:=⟨_,rfl⟩;have hFDn:∀t,nth FD t=nth (F (qS ops pl listed t)) t:=by
  intro t;rw[hFD,FZ,zo,List.getElem?_map];by_cases Y:t<(F 0).length
  ·simp[List.getElem?_range Y]
  ·rw[List.getElem?_eq_none (by simp;omega)];rw[FZ,zo,List.getElem?_eq_none (by rw[B.len D _ (Ni _ _ _ _)];omega)];rfl
 have hfr:FR m FD a:=⟨by rw[hFD];simp[inv.tmps],fun t=>by rw[hFDn];exact hv t⟩;have hsame:∀t∈(BV ops pl p).looksAt ops,nth FD t=nth (F p) t:=fun t Y=>by rw[hFDn];exact looks t Y
 have hso:=OR hsame;unfold wpOpIn;rw[D.lt p G];simp only;have kcmp:A4 C.P (BV ops pl p).op≠0→p≤kW C ops pl listed:=by
  intro hc;rcases yg (kW C ops pl listed) p with h|h
  ·obtain⟨c1,c2⟩:=Pq (C:=C) (ops:=ops) (pl:=pl) (listed:=listed) (by omega);rcases D.pair _ p h G with hd|⟨_,hd⟩
   ·have:=before_ _ h hd;rw[c2]at this;cases this
   ·rcases hd with hd|hd|⟨hd,_⟩
    ·exact absurd hd hc
    ·rw[c1]at hd;cases hd
    ·exact absurd c1 hd
  ·exact h
 have prot1:A4 C.P (BV ops pl p).op=1∨A4 C.P (BV ops pl p).op=2→∀x,p<x→x<kW C ops pl listed→A4 C.P (BV ops pl x).op=3→(LQ pl x).any (Nat.beq (BK pl p))=true∨(A4 C.P (BV ops pl p).op=1∧(LQ pl x).any (Nat.beq (BK pl p+10000))=true∧Np ops (closure ops.toList []) (BK pl p)=true):=by
  intro hc x h1 h2 hx;have hxn:x<pl.length:=zX h2 (Lr _ _ _ _);have L:=G1 h2 hx;rcases D.pair p x h1 hxn with hd|⟨_,hd⟩
  ·rw[behind x h1 hxn hd]at L;cases L
  ·rcases hd with hd|hd|⟨_,hd|hd⟩
   ·rw[hx]at hd;cases hd
   ·rcases hc with h|h<;>rw[h]at hd<;>cases hd
   ·exact absurd hx hd
   ·exact hd
 have CF:A4 C.P (BV ops pl p).op=2→∀x,p<x→x<kW C ops pl listed→A4 C.P (BV ops pl x).op=3→(LQ pl x).any (Nat.beq (BK pl p))=true:=by
  intro hc x h1 h2 hx;rcases prot1 (.inr hc) x h1 h2 hx with h|⟨h,_⟩
  ·exact h
  ·rw[hc]at h;cases h
 have kSame:A4 C.P (BV ops pl p).op≠3→kW C ops pl (listed.setIfInBounds (BK pl p) true)=kW C ops pl listed:=by
  intro hc;obtain⟨a1,a2,a3,a4⟩:=El (fun p=>(A4 C.P (BV ops pl p).op==3)&& !CO pl listed p) pl.length 0;refine NJ _ (Lr _ _ _ _) (fun y V=>?_) (fun I=>?_)
  ·have:=a3 y (yB _) V;have M:y<pl.length:=zX V (Lr _ _ _ _);simp only[O y M];rcases yb.1 this with h|h
   ·simp[h]
   ·simp only[qt]at h;simp[h]
  ·obtain⟨c1,c2⟩:=Pq I;rw[O _ I];have N:kW C ops pl listed≠p:=fun e=>hc (by rw[←e];exact c1);simp[c1,c2,N]
 have ghosts':∀{m':BD},(∀q,q<pl.length→q≠p→A4 C.P (BV ops pl q).op=2→CO pl listed q=false→CW ops (F q) (BV ops pl q)=some true→m' (H q).size=none)→
   ∀q,q<pl.length→A4 C.P (BV ops pl q).op=2→CO pl (listed.setIfInBounds (BK pl p) true) q=false→CW ops (F q) (BV ops pl q)=some true→m' (H q).size=none:=by
  intro m' h q J hc L hw;rw[O q J]at L;simp only[zH,zx]at L;exact h q J L.2 hc L.1 hw
 rcases B.at_ D G with⟨hw,hF,hH,_⟩|⟨hw,x,hs,hF,hT,_⟩
 ·-- it is not wanted
  have hwant:=Fj hfr (by rw[Ko hsame];exact hw);rw[zk (by rw[hwant];simp)];refine⟨fun _ _=>trivial,hK _ _ ⟨by simp[hsz],closed',by rw[DQ];exact inv.defers,by rw[size_put];exact inv.tmps,m,hm0,?_,fun t=>Lb B D G wrB wrA O (BD.le_refl m) inv.tmps hv (VR.Gs m) hF t,ghosts' fun q J _ hc L hw=>hgh q J hc L hw⟩⟩;by_cases hc:A4 C.P (BV ops pl p).op=3
  ·-- a writing operation that is passed over
   have hkp:kW C ops pl listed=p:=by
    have h1:=kcmp (by rw[hc];simp);rcases yg p (kW C ops pl listed)with h|h
    ·have:=G1 h hc;rw[hnl]at this;cases this
    ·omega
   have hk':p+1≤kW C ops pl (listed.setIfInBounds (BK pl p) true):=by
    rcases yg (kW C ops pl (listed.setIfInBounds (BK pl p) true)) (p+1)with h|h
    ·exfalso;obtain⟨c1,c2⟩:=Pq (C:=C) (ops:=ops) (pl:=pl) (listed:=listed.setIfInBounds (BK pl p) true) (by omega);rw[O _ (by omega)]at c2;simp only[zH,zx]at c2;have:=G1 (C:=C) (ops:=ops) (pl:=pl) (listed:=listed) (p:=kW C ops pl (listed.setIfInBounds (BK pl p) true)) (by omega) c1;rw[c2.1]at this;cases this
    ·exact h
   rw[hkp,←hH]at rel;refine B.Re D rel _ hk' (Lr _ _ _ _) fun y h1 h2 V=>?_;have M:y<pl.length:=zX h2 (Lr _ _ _ _);have h3:=G1 h2 V;rw[O y M]at h3;have h4:CO pl listed y=false:=by
    rcases D.pair p y (by omega) M with hd|⟨_,hd⟩
    ·exact behind y (by omega) M hd
    ·rcases hd with hd|hd|⟨hd,_⟩
     ·rw[V]at hd;cases hd
     ·rw[hc]at hd;cases hd
     ·exact absurd hc hd
   rw[h4]at h3;simp at h3;omega
  ·rw[kSame hc];exact rel
 ·-- it is run
  have hwant:=Fj hfr (by rw[Ko hsame];exact hw);rw[zm hwant];by_cases hc3:A4 C.P (BV ops pl p).op=3
  ·-- a writing operation:the heap is the plan's own
   have hkp:kW C ops pl listed=p:=by
    have h1:=kcmp (by rw[hc3];simp);rcases yg p (kW C ops pl listed)with h|h
    ·have:=G1 h hc3;rw[hnl]at this;cases this
    ·omega
   rw[hkp]at rel;rw[←Pj hso]at hs;refine Jc X hz rel hfr hs (fun m' v' w' e1 e2 e3=>hK _ _ ?_) rd;have hle:=rel.Mi e1;have hk':p+1≤kW C ops pl (listed.setIfInBounds (BK pl p) true):=by
    rcases yg (kW C ops pl (listed.setIfInBounds (BK pl p) true)) (p+1)with h|h
    ·exfalso;obtain⟨c1,c2⟩:=Pq (C:=C) (ops:=ops) (pl:=pl) (listed:=listed.setIfInBounds (BK pl p) true) (by omega);rw[O _ (by omega)]at c2;simp only[zH,zx]at c2;have:=G1 (C:=C) (ops:=ops) (pl:=pl) (listed:=listed) (p:=kW C ops pl (listed.setIfInBounds (BK pl p) true)) (by omega) c1;rw[c2.1]at this;cases this
    ·exact h
   have notdone:∀y,p<y→y<pl.length→A4 C.P (BV ops pl y).op≠0→CO pl listed y=false:=by
    intro y h1 M V;rcases D.pair p y h1 M with hd|⟨_,hd⟩
    ·exact behind y h1 M hd
    ·rcases hd with hd|hd|⟨hd,_⟩
     ·exact absurd hd V
     ·rw[hc3]at hd;cases hd
     ·exact absurd hc3 hd
   refine⟨by simp[hsz],closed',by rw[DQ];exact inv.defers,by rw[size_put];exact inv.tmps,m',hm0.trans e1 (B.size D X p (yB _) (by omega)),?_,fun t=>Lb B D G wrB wrA O hle inv.tmps hv e3 hF t,ghosts' fun q J N hc L hw=>?_⟩
   ·refine B.Re D e2 _ hk' (Lr _ _ _ _) fun y h1 h2 V=>?_;have M:y<pl.length:=zX h2 (Lr _ _ _ _);have h3:=G1 h2 V;rw[O y M,notdone y (by omega) M (by rw[V];simp)]at h3;simp at h3;omega
   ·rcases qH N with h|h
    ·-- it makes an object at a place ahead of ours
     have I:(H q).size<(H p).size:=by
      have h1:(H (q+1)).size=(H q).size+1:=by
       rcases B.at_ D J with⟨hw2,_⟩|⟨_,u,R,_,_⟩
       ·rw[hw]at hw2;cases hw2
       ·rw[Hg (by rw[hc];simp)]at R;unfold IJ at R;rw[hc]at R;simp only[zl,zg]at R;obtain⟨_,_,_,e⟩:=R;rw[←e];simp
      have h2:=B.size D X (p:=q+1) p (by omega) (by omega);omega
     rw[e1.i _ I];exact hgh q J hc L hw
    ·exact e2.fresh (B.size D X (p:=p+1) q (by omega) (by omega))
  ·-- no writing operation:by its class
   have hkS:=kSame hc3;rw[Hg hc3]at hs;have hnd:∀c,(BV ops pl p).op≠.defer c:=fun c e=>hc3 (by rw[e];rfl);have fin:∀{m':BD} {v':Value} {w':World},m.le m'→(m0.ext (H 0).size m')→Rel C.P w0 m' (H (kW C ops pl listed)) w'→VR m' x v'→
     (∀q,q<pl.length→q≠p→A4 C.P (BV ops pl q).op=2→CO pl listed q=false→CW ops (F q) (BV ops pl q)=some true→m' (H q).size=none)→
     K (a.put (BV ops pl p).dst v') w':=by
    intro m' v' w' h1 h2 h3 h4 h5;exact hK _ _ ⟨by simp[hsz],closed',by rw[DQ];exact inv.defers,by rw[size_put];exact inv.tmps,m',h2,by rw[hkS];exact h3,fun t=>Lb B D G wrB wrA O h1 inv.tmps hv h4 hF t,ghosts' h5⟩
   unfold IJ at hs;split at hs
   ·-- slots alone
    rename_i hc;simp only[zl,zg]at hs;obtain⟨x',W,rfl,_⟩:=hs;rw[←Tj hso]at W;obtain⟨v',h1,h2⟩:=Qo (P:=C.P) w hfr W;refine⟨fun _ _=>trivial,?_⟩;rw[Oper.semAt_eq _ _ _ hnd,h1];exact fin (BD.le_refl m) hm0 rel h2 fun q J _ hc L hw=>hgh q J hc L hw
   ·-- it reads one object
    rename_i hc;have hkp:=kcmp (by rw[hc];simp);have hkne:kW C ops pl listed≠p:=fun e=>by
     have:=(Pq (C:=C) (ops:=ops) (pl:=pl) (listed:=listed) (by omega)).1;rw[e,hc]at this;cases this
    have go:∀ob,(Dg (F p) (BV ops pl p).op).bind (H (kW C ops pl listed)).get=ob→Kx C.P C.Cx (F p) ob (BV ops pl p).op=some x→Oper.wpIn (FW rd) 0 C.P (BV ops pl p) a w K Q:=by
     intro ob hob W;rw[←NQ hso,←hob,←Lu hso]at W;obtain⟨v',h1,h2⟩:=Qq hz rel hfr W;refine⟨fun _ _=>trivial,?_⟩;rw[Oper.semAt_eq _ _ _ hnd,h1];exact fin (BD.le_refl m) hm0 rel h2 fun q J _ hc L hw=>hgh q J hc L hw
    split at hs
    ·rename_i Y;simp only[zl,zg]at hs;obtain⟨x',W,rfl,_⟩:=hs;exact go none (by rw[Y];rfl) W
    ·rename_i id Y;split at hs
     ·rename_i ob hg;have hmem:(BK pl p,id)∈T (p+1):=by
       rw[hT];unfold Gn;rw[hc];simp only[Y];exact xd
      simp only[zl,zg]at hs;obtain⟨x',W,rfl,hHp⟩:=hs;obtain⟨ob2,g1,g2⟩:=B.reads D X G hw Y (by rw[←hHp];exact hg) W hF hmem (kW C ops pl listed) (by omega) (Lr _ _ _ _) fun y h1 h2 V=>by
       rcases prot1 (.inl hc) y h1 h2 V with h|⟨_,h⟩
       ·exact .inl h
       ·exact .inr h
      exact go (some ob2) (by rw[Y];exact g1) g2
     ·cases hs
   ·-- it makes one object
    rename_i hc;have hkp:=kcmp (by rw[hc];simp);have hkne:kW C ops pl listed≠p:=fun e=>by
     have:=(Pq (C:=C) (ops:=ops) (pl:=pl) (listed:=listed) (by omega)).1;rw[e,hc]at this;cases this
    simp only[zl,zg]at hs;obtain⟨nw,hnw,rfl,hHp⟩:=hs;rw[←Sx hso]at hnw;obtain⟨v',w',E,h1,t1,t2,_,t4⟩:=Qz (P:=C.P) w hfr hnw;have hnone:=hgh p G hc hnl hw;have hle:=BD.OD (m:=m) E hnone;obtain⟨q1,q2⟩:=t4 (m.upd (H p).size E) hle (H p).size (BD.Fg m _ E);have hmem:(BK pl p,(H p).size)∈T (p+1):=by
     rw[hT];unfold Gn;rw[hc];exact xd
    have hget1:(H (p+1)).get (H p).size=some nw.2:=by rw[←hHp];exact AI.Ct _ _
    have hget:(H (kW C ops pl listed)).get (H p).size=some nw.2:=by
     rw[←hget1];exact B.same D X hmem (by rw[←hHp];simp) _ (by omega) (Lr _ _ _ _) fun y h1 h2 V=>CF hc y (by omega) h2 V
    refine⟨fun _ _=>trivial,?_⟩;rw[Oper.semAt_eq _ _ _ hnd,h1];refine fin hle (hm0.trans (BD.L5 m E (by have:=B.size D X (p:=0) p (yB _) (by omega);omega)) (zC _)) (rel.place t1 (by rw[t2];exact rel.size) (fun id2 E2 o2 hm2 ho2 hl2=>?_) (rel.Yf (by omega)) (fun x hd=>by have:=rel.Pf hd;omega) hnone hget q2) q1 fun q J N hcq L hwq=>?_
    ·have:=(rel.obj id2 E2 o2 hm2 ho2).lt hl2;omega
    ·have hszq:∀y,y<pl.length→A4 C.P (BV ops pl y).op=2→CW ops (F y) (BV ops pl y)=some true→(H (y+1)).size=(H y).size+1:=by
      intro y V hcy hwy;rcases B.at_ D V with⟨hw2,_⟩|⟨_,u,R,_,_⟩
      ·rw[hwy]at hw2;cases hw2
      ·rw[Hg (by rw[hcy];simp)]at R;unfold IJ at R;rw[hcy]at R;simp only[zl,zg]at R;obtain⟨_,_,_,e⟩:=R;rw[←e];simp
     rw[BD.Py m E ?_]
     ·exact hgh q J hcq L hwq
     ·rcases qH N with h|h
      ·have h1:=hszq q J hcq hwq;have h2:=B.size D X (p:=q+1) p (by omega) (by omega);omega
      ·have h1:=hszq p G hc hw;have h2:=B.size D X (p:=p+1) q (by omega) (by omega);omega
   ·rename_i h0 h1 h2;exfalso;have:∀op,A4 C.P op=0∨A4 C.P op=1∨A4 C.P op=2∨A4 C.P op=3:=by
     intro op;unfold A4
     repeat' split
     all_goals simp
    rcases this (BV ops pl p).op with h|h|h|h
    ·exact h0 h
    ·exact h1 h
    ·exact h2 h
    ·exact hc3 h
theorem Lx:∀(l:List Nat) (f g:Nat→Bool),(∀j,g j=true→f j=true)→(∃i∈l,f i=true∧g i=false)→(l.filter g).length<(l.filter f).length
 |[],f,g,_,⟨i,hi,_⟩=>by simp at hi
 | x::l,f,g,hfg,⟨i,hi,h1,h2⟩=>by
  have le:(l.filter g).length≤(l.filter f).length:=by
   clear hi
   induction l with
   |nil=>simp
   |cons y l ih=>
    simp only[qA];cases hg:g y
    ·cases hf:f y<;>simp<;>omega
    ·rw[hfg y hg];simp;exact ih
  simp only[qA];by_cases e:i=x
  ·subst e;rw[h1,h2];simp;omega
  ·have hi':i∈l:=by cases hi with|head=>exact absurd rfl e|tail _ h=>exact h
   have ih:=Lx l f g hfg ⟨i,hi',h1,h2⟩;cases hg:g x
   ·cases hf:f x<;>simp<;>omega
   ·rw[hfg x hg];simp;exact ih
theorem Inv.done(B:Mf C S g ops pl F H T)(D:Mo C.P ops pl){w0:World}{m0:BD}{d0:List Deferred}{listed:Array Bool}{a:Act}{w:World}(inv:Inv C ops pl F H w0 m0 d0 listed a w)
  (U:∀i,i<ops.size→listed.getD i false=true):
  ∃m,(m0.ext (H 0).size m)∧Rel C.P w0 m (H pl.length) w∧FR m (F pl.length) a∧a.defers=d0:=by
 obtain⟨m,h1,h2,h3,_⟩:=inv.rel;have L:∀p,p<pl.length→CO pl listed p=true:=fun p G=>U _ (Array.getElem?_eq_some_iff.1 (D.lt p G)).1;have hk:kW C ops pl listed=pl.length:=by
  rcases yg (kW C ops pl listed) pl.length with h|h
  ·have:=(Pq h).2;rw[L _ h]at this;cases this
  ·have:=Lr C ops pl listed;omega
 have J:∀t,qS ops pl listed t=pl.length:=fun t=>by
  rcases yg (qS ops pl listed t) pl.length with h|h
  ·have:=(Vc h).2;rw[L _ h]at this;cases this
  ·have:=Ni ops pl listed t;omega
 exact⟨m,h1,by rw[←hk];exact h2,⟨by rw[B.len D _ (zC _)];exact inv.tmps.symm,fun t=>by have:=h3 t;rwa [J t]at this⟩,inv.defers⟩
theorem Inv.any(B:Mf C S g ops pl F H T)(D:Mo C.P ops pl)(X:GK C.P C.Cx S){w0:World}(hz:Bh C.Cx w0){m0:BD}{d0:List Deferred}{Q:Exit→Act→World→Prop}
  (hQ:∀m a w,(m0.ext (H 0).size m)→Rel C.P w0 m (H pl.length) w→FR m (F pl.length) a→a.defers=d0→Q .normal a w):
  ∀(fuel:Nat) (listed:Array Bool) (a:Act) (w:World),Inv C ops pl F H w0 m0 d0 listed a w→((List.range ops.size).filter fun i=> !listed.getD i false).length≤fuel→∀rd:Option Nat,wpAnyIn (FW rd) 0 C.P .any ops Q fuel listed a w:=by
 have fin:∀{listed:Array Bool} {a:Act} {w:World},Inv C ops pl F H w0 m0 d0 listed a w→(∀i,i<ops.size→listed.getD i false=true)→Q .normal a w:=by
  intro listed a w inv U;obtain⟨m,h1,h2,h3,h4⟩:=inv.done B D U;exact hQ m a w h1 h2 h3 h4
 intro fuel
 induction fuel with
 | zero=>
  intro listed a w inv hc rd;have U:∀i,i<ops.size→listed.getD i false=true:=by
   intro i hi;cases L:listed.getD i false with
   |true=>rfl
   |false=>
    have hm:i∈(List.range ops.size).filter fun i=> !listed.getD i false:=yf.2 ⟨by simpa using hi,by rw[L];rfl⟩;have:((List.range ops.size).filter fun i=> !listed.getD i false)=[]:=zy (by omega);rw[this]at hm;cases hm
  refine⟨?_,fin inv U⟩;apply xK.2;intro i hi;have hi':i<ops.size:=by simpa using hi
  have:=U i hi';have h1:i<listed.size:=by rw[inv.sz];exact hi'
  simp only[zr,Array.getElem?_eq_getElem h1,zV]at this⊢;simp[this]
 | succ fuel ih=>
  intro listed a w inv hc rd;refine⟨fun hr=>fin inv ?_,fun i hi=>?_⟩
  ·-- nothing is ready:all is done
   apply Classical.byContradiction;intro hno;obtain⟨a1,a2,a3,a4⟩:=El (fun p=> !CO pl listed p) pl.length 0;have I:IP (fun p=> !CO pl listed p) 0 pl.length<0+pl.length:=by
    rcases yg (IP (fun p=> !CO pl listed p) 0 pl.length) (0+pl.length)with h|h
    ·exact h
    ·exfalso;apply hno;intro i hi;obtain⟨p,G,rfl⟩:=D.eQ i hi;have:=a3 p (yB _) (by omega);simpa[CO]using this
   have hn:=a4 I;generalize IP (fun p=> !CO pl listed p) 0 pl.length=p at a1 a2 a3 I hn;have G:p<pl.length:=by omega
   have Z:BK pl p<ops.size:=(Array.getElem?_eq_some_iff.1 (D.lt p G)).1;have hready:BK pl p∈Region.ready .any ops listed:=by
    simp only[Region.ready,yf,zO,zh,zK];refine⟨Z,?_,?_⟩
    ·have h1:BK pl p<listed.size:=by rw[inv.sz];exact Z
     simp only[CO,zr,Array.getElem?_eq_getElem h1,zV,zK]at hn⊢;exact hn
    ·rw[D.lt p G];simp only[zj,zV];rw[←qQ];refine zn.2 fun e he=>?_;cases hb:Region.binds .any e with
     |false=>rfl
     | true=>
      simp only[zY,yJ];have hdep:dep (closure ops.toList []) e.on (BK pl p)=true:=by
       have hsp:=(Kg ops.toList [] (BK pl p) (BV ops pl p) e.on (by simpa using D.lt p G)).2 ⟨e,he,hb,.inl rfl⟩;simpa[dep]using hsp
      have hon:=D.dy p G e he hb;obtain⟨q,J,hqe⟩:=D.eQ e.on (by omega);rw[←hqe]at hdep⊢;rcases ql q p with h|h|h
      ·have:=a3 q (yB _) h;simpa[CO]using this
      ·subst h;omega
      ·rw[D.ah p q h J]at hdep;cases hdep
   rw[hr]at hready;cases hready
  ·refine Inv.step B D X hz inv hi (fun a' w' inv'=>ih _ a' w' inv' ?_ rd) rd;have hi2:i<ops.size∧listed.getD i true=false:=by
    simp only[Region.ready,yf,zO,zh,zK]at hi;exact⟨hi.1,hi.2.1⟩
   have h1:i<listed.size:=by rw[inv.sz];exact hi2.1
   have:=Lx (List.range ops.size) (fun j=> !listed.getD j false) (fun j=> !(listed.setIfInBounds i true).getD j false) (fun j hj=>by
    by_cases e:i=j
    ·subst e;simp[zr,h1]at hj
    ·simpa[zr,Array.getElem?_setIfInBounds_ne e]using hj)
    ⟨i,by simpa using hi2.1,by
     have:=hi2.2;simp only[zr,Array.getElem?_eq_getElem h1,zV]at this⊢
     simp[this],by simp[zr,h1]⟩
   omega
theorem Qb(hmix:C.P.follows .mixedOrders=true)(hok:P3 C.P ops pl=true)(X:GK C.P C.Cx S){w0:World}(hz:Bh C.Cx w0){m:BD}{h h':AI}{w:World}{fr fr':Fr}{a:Act}{id:Nat}{Q:Exit→Act→World→Prop}
  (r:Rel C.P w0 m h w) (hf:FR m fr a) (hr:CB C S g ops pl [] fr h=some (fr',h'))
  (hQ:∀m' a' w',(m.ext h.size m')→Rel C.P w0 m' h' w'→FR m' fr' a'→a'.defers=a.defers→Q .normal a' w'):∀rd:Option Nat,(Code.region id ops true).wpIn (FW rd) 0 C.P Q a w:=by
 intro rd;have D:=Ve hok;obtain⟨F,H,T,B,rfl,rfl,_,rfl,rfl⟩:=Lj pl [] fr h fr' h' hr;refine wpIn_region_any hmix ?_;have r':Rel C.P w0 m (H 0) {w with drawn:=w.drawn+1}:=r.drew;refine Inv.any B D X hz (m0:=m) (d0:=a.defers) hQ ops.size _ a _ (Inv.start B D X r' hf) ?_ rd;exact y8 (qw _ _) (by simp)
theorem Ql(hok:P3 C.P ops pl=true)(X:GK C.P C.Cx S){h h':AI}{fr fr':Fr}(hr:CB C S g ops pl [] fr h=some (fr',h')):BE g h h'∧fr'.length=fr.length:=by
 have D:=Ve hok;obtain⟨F,H,T,B,rfl,rfl,_,rfl,rfl⟩:=Lj pl [] fr h fr' h' hr;refine⟨?_,B.len D _ (zC _)⟩;have all:∀p,p≤pl.length→BE g (H 0) (H p):=by
  intro p
  induction p with
  |zero=>intro _;exact BE.refl _ _
  |succ p ih=>
   intro G;exact(ih (by omega)).trans ((B.keeps D X (p:=p) (by omega)).weaken fun id hid=>Un id hid)
 exact all _ (zC _)
end
end Go.Av
