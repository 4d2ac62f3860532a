/-
 A part.
-/
import Derived.Test.YthhonebaoidfgaaGreatDoorAvRel
set_option linter.unusedSimpArgs false
namespace Go.Av
open Go.RowKit
def Cs.live:Cs->Bool
 | .cells _ st _=>st !=0
 | .map st _=>st !=0
 | .iter _ _=>true
 | .loop .. =>true
 | .chan .. =>true
def Cs.own:Cs->Bool
 | .cells _ st _=>st==2
 | .map st _=>st==2
 | .iter _ _=>true
 | .loop .. =>true
 | .chan .. =>true
theorem Cs.Ha{o:Cs}(h:o.own=true):o.live=true:=by
 cases o<;>simp[Cs.own,Cs.live]at * <;>omega
def K2(P:Program):Option TypeId->Nat
 |some e=>P.cellsOf e
 |none=>0
def kx:Nat->LoopState
 |0=>.ready
 |1=>.busy
 |2=>.done
 |_=>.exhausted
def Nr(e:MapEntry):Option ByteArray:=
 match e.key with
 | .string s=>some s
 |_=>none
def Kp(ents:Array MapEntry)(clock:Nat):Prop:=(∀x∈ents.toList,x.born<clock)/\(ents.toList.map (·.born)).Nodup/\(ents.toList.filterMap Nr).Nodup
theorem Kp.nil:Kp #[] 0:=⟨by simp,by simp,by simp⟩
theorem Kp.push{ents:Array MapEntry}{clock:Nat}(h:Kp ents clock){k v:Value}(hk:∀s,k=.string s->s∉ents.toList.filterMap Nr):Kp (ents.push {key:=k,val:=v,born:=clock}) (clock+1):=by
 obtain⟨h1,h2,Z⟩:=h;refine⟨λx C=>?_,?_,?_⟩
 ·rw[qK,zu]at C;rcases C with C|C
  ·have:=h1 x C;omega
  ·simp at C;subst C;exact Nat.lt_succ_self _
 ·rw[qK,qc,yd];refine⟨h2,by simp,λa R b S=>?_⟩;obtain⟨x,C,rfl⟩:=zZ.1 R;simp at S;subst S;have:=h1 x C;omega
 ·rw[qK,List.filterMap_append,yd];refine⟨Z,?_,λa R b S=>?_⟩
  ·cases e:Nr {key:=k,val:=v,born:=clock}<;>simp[e]
  ·cases k<;>simp[Nr]at S;subst S;rintro rfl;exact hk _ rfl R
theorem Kp.erase{ents:Array MapEntry}{clock:Nat}(h:Kp ents clock)(i:Nat):Kp (ents.eraseIdxIfInBounds i) clock:=by
 have hs:(ents.eraseIdxIfInBounds i).toList.Sublist ents.toList:=by
  unfold Array.eraseIdxIfInBounds;split
  ·simp only[Array.toList_eraseIdx];exact List.eraseIdx_sublist _ _
  ·exact List.Sublist.refl _
 exact⟨λx C=>h.1 x (hs.subset C),List.Nodup.sublist (hs.map _) h.2.1,List.Nodup.sublist (hs.filterMap _) h.2.2⟩
theorem Kp.modify{ents:Array MapEntry}{clock:Nat}(h:Kp ents clock){i:Nat}(hi:i<ents.size){k v:Value}(hk:Nr {ents[i]with key:=k,val:=v}=Nr ents[i]):Kp (ents.modify i λe=>{e with key:=k,val:=v}) clock:=by
 have W:(ents.modify i λe=>{e with key:=k,val:=v}).toList=ents.toList.set i {ents[i]with key:=k,val:=v}:=by
  apply List.ext_getElem?;intro j;rw[Array.getElem?_toList,Array.getElem?_modify,List.getElem?_set];by_cases hj:i=j
  ·subst hj;simp[hi]
  ·simp[hj]
 have same:∀{β:Type} (f:MapEntry->β),f {ents[i]with key:=k,val:=v}=f ents[i]->(ents.toList.set i {ents[i]with key:=k,val:=v}).map f=ents.toList.map f:=λf Q=>by
  apply List.ext_getElem?;intro j;rw[List.getElem?_map,List.getElem?_map,List.getElem?_set];by_cases hj:i=j
  ·subst hj;simp[hi,Q]
  ·simp[hj]
 refine⟨λx C=>?_,?_,?_⟩
 ·rw[W]at C;rcases List.mem_or_eq_of_mem_set C with C|rfl
  ·exact h.1 x C
  ·exact h.1 ents[i] (by simp)
 ·rw[W,same _ rfl];exact h.2.1
 ·have e:∀l:List MapEntry,l.filterMap Nr=(l.map Nr).filterMap id:=λl=>by rw[List.filterMap_map];rfl
  rw[W,e,same _ hk,<-e];exact h.2.2
abbrev XX(n:Nat)(fz:Nat×Nat):Prop:=fz.1=fz.2\/n<=fz.1
theorem XX.no{n:Nat}{fz:Nat×Nat}(h:XX n fz):∀j,j<n->¬(fz.1<=j/\j<fz.2):=λj hj=>by rcases h with h|h<;>omega
def dq(m:Bk)(E:OR)(cs:List AD):Prop:=∀(j:Nat) (a:AD),cs[j]?=some a->∃c,m.fz E.g (E.base+j)=some c/\VR m a c
theorem dq.mono{m m':Bk}{E:OR}{cs:List AD}(hm:m.le m')(h:dq m E cs):dq m' E cs:=λj a R=>by
 obtain⟨c,h1,h2⟩:=h j a R;exact⟨c,hm.fz _ _ _ h1,h2.mono hm⟩
theorem dq.nil{m:Bk}{E:OR}:dq m E []:=λj a R=>by simp at R
def Kr:AD×AD->Bool
 |(.str _,_)=>true
 |_=>false
structure Nc(st:Nat)(es es':List (AD×AD)):Prop where
 same:st≠3->es'=es
 perm:st=3->es'.Perm es/\es.all Kr=true/\(es.map Prod.fst).Nodup
theorem Nc.refl{st:Nat}{es:List (AD×AD)}(h:st≠3):Nc st es es:=⟨λ_=>rfl,λe=>absurd e h⟩
theorem Nc.len{st:Nat}{es es':List (AD×AD)}(h:Nc st es es'):es'.length=es.length:=by
 by_cases e:st=3
 ·exact(h.perm e).1.length_eq
 ·rw[h.same e]
theorem UA:∀{es:List (AD×AD)},(es.map Prod.fst).Nodup->∀{k u v:AD},(k,u)∈es->(k,v)∈es->u=v
 |[],_,_,_,_,h1,_=>by cases h1
 |p::es,hn,k,u,v,h1,h2=>by
  rw[zK,yR]at hn;rcases zF.1 h1 with e1|h1<;>rcases zF.1 h2 with e2|h2
  ·rw[<-e1]at e2;cases e2;rfl
  ·exact absurd (zZ.2 ⟨_,h2,by rw[<-e1]⟩) hn.1
  ·exact absurd (zZ.2 ⟨_,h1,by rw[<-e2]⟩) hn.1
  ·exact UA hn.2 h1 h2
theorem Nc.mem{st:Nat}{es es':List (AD×AD)}(h:Nc st es es'){p:AD×AD}:p∈es'↔p∈es:=by
 by_cases e:st=3
 ·exact(h.perm e).1.mem_iff
 ·rw[h.same e]
def M4(m:Bk)(w:World)(E:OR)(es:List (AD×AD)):Prop:=∃ents clock,w.heap[E.g]?=some (.map ents clock)/\es.length=ents.size/\
 (∀(i:Nat) (k v:AD) (e:MapEntry),es[i]?=some (k,v)->ents[i]?=some e->VR m k e.key/\VR m v e.val)/\Kp ents clock
theorem M4.two{st:Nat}{m:Bk}{w:World}{E:OR}{es:List (AD×AD)}(h:∃es',Nc st es es'/\M4 m w E es')(hs:st≠3):M4 m w E es:=by
 obtain⟨es',h1,h2⟩:=h;rw[h1.same hs]at h2;exact h2
theorem M4.of{st:Nat}{m:Bk}{w:World}{E:OR}{es:List (AD×AD)}(h:M4 m w E es)(hs:st≠3):∃es',Nc st es es'/\M4 m w E es':=⟨es,.refl hs,h⟩
def MW(P:Program)(m:Bk)(w:World)(E:OR):Cs->Prop
 | .cells gr st cs=>((E.Y7=K2 P gr/\(st=0->dq m E cs))/\(gr=none->st=2->E.base=0))/\(st≠0->∃cur e fz,w.heap[E.g]?=some (.cells cur e fz)/\cur.size=E.total/\
   (∀(j:Nat) (a:AD),cs[j]?=some a->a.one=true/\∃c,cur[E.base+j]?=some c/\VR m a c)/\(st=2->XX E.total fz))
 | .map st es=>E.base=0/\(st≠0->∃es',Nc st es es'/\M4 m w E es')
 | .iter s pos=>E.base=0/\w.heap[E.g]?=some (.stringIter ⟨⟨s⟩⟩ pos)
 | .loop st pend _ fr ps a b=>∃(tmps:Array Value) (d fn:Nat),w.heap[E.g]?=some (.loop ⟨kx st,pend,fn,tmps,ps.toArray,a,b,d⟩)/\fr.length=tmps.size/\∀i,VR m (nth fr i) (tmps.getD i undef)
 | .chan cap buf=>∃(bs:Array Value) (sn rc:Nat),w.heap[E.g]?=some (.chan cap bs false sn rc false)/\DD m buf bs.toList
structure Rel(P:Program)(w0:World)(m:Bk)(h:AF)(w:World):Prop where
 below:Below w0.heap.size w0 w
 Q2:∀id E,m id=some E->id<h.size
 obj:∀id E o,m id=some E->h.get id=some o->MW P m w E o
 own:∀id E o,m id=some E->h.get id=some o->o.own=true->w0.heap.size<=E.g
 sep:∀id id' E E' o o',id≠id'->m id=some E->m id'=some E'->h.get id=some o->h.get id'=some o'->o.own=true->o'.live=true->E.g≠E'.g
 fz:∀g o v,m.fz g o=some v->∃cur e z,w.heap[g]?=some (.cells cur e z)/\cur[o]?=some v
 K1:∀id E o,m id=some E->h.get id=some o->o.own=true->∀j,m.fz E.g j=none
 df:∀g x,m.df g x->w0.heap.size<=g/\w.heap[g]?=some x
 Re:∀id E o,m id=some E->h.get id=some o->o.live=true->∀x,¬m.df E.g x
structure Fs(w w':World)(g:Nat):Prop where
 os:w'.os=w.os
 tape:w'.tape=w.tape
 output:w'.output=w.output
 size:w.heap.size<=w'.heap.size
 block:∀k,k<w.heap.size->k≠g->w'.heap[k]?=w.heap[k]?
theorem Fs.refl(w:World)(g:Nat):Fs w w g:=⟨rfl,rfl,rfl,zw _,λ_ _ _=>rfl⟩
theorem Fs.below{w0 w w':World}{B g:Nat}(h:Fs w w' g)(S:Below B w0 w)(hB:B<=w.heap.size)(O:B<=g):Below B w0 w':=
 ⟨h.os.trans S.os,h.tape.trans S.tape,h.output.trans S.output,z8 S.size h.size,λk hk=>(h.block k om om).trans (S.block k hk)⟩
theorem Fs.alloc(w:World)(o:Obj)(g:Nat):Fs w (w.alloc o) g:=⟨rfl,rfl,rfl,by simp,λk hk _=>Below.heap_alloc w o k hk⟩
theorem Fs.alloc_drew(w:World)(o:Obj)(g:Nat):Fs w (w.drew.alloc o) g:=⟨rfl,rfl,rfl,(Fs.alloc w.drew o g).size,λk hk _=>Below.heap_alloc w.drew o k hk⟩
theorem Fs.drew{w w':World}{g:Nat}(h:Fs w w' g):Fs w w'.drew g:=⟨h.os,h.tape,h.output,h.size,h.block⟩
theorem Fs.trans{a b c:World}{g:Nat}(h:Fs a b g)(k:Fs b c g):Fs a c g:=
 ⟨k.os.trans h.os,k.tape.trans h.tape,k.output.trans h.output,z8 h.size k.size,λi hi J=>(k.block i (zX hi h.size) J).trans (h.block i hi J)⟩
theorem MW.lt{P:Program}{m:Bk}{w:World}{E:OR}{o:Cs}(h:MW P m w E o)(W:o.live=true):E.g<w.heap.size:=by
 cases o with
 |cells gr st cs=>obtain⟨_,_,_,h1,_⟩:=h.2 (by simpa[Cs.live]using W);exact(Array.getElem?_eq_some_iff.1 h1).1
 |map st es=>obtain⟨_,_,_,_,h1,_⟩:=h.2 (by simpa[Cs.live]using W);exact(Array.getElem?_eq_some_iff.1 h1).1
 |iter s pos=>exact(Array.getElem?_eq_some_iff.1 h.2).1
 |loop st pend f fr ps a b=>obtain⟨_,_,_,h1,_⟩:=h;exact(Array.getElem?_eq_some_iff.1 h1).1
 |chan cap buf=>obtain⟨_,_,_,h1,_⟩:=h;exact(Array.getElem?_eq_some_iff.1 h1).1
theorem MW.mono{P:Program}{m m':Bk}{w w':World}{E:OR}{o:Cs}(hm:m.le m')(hw:o.live=true->w'.heap[E.g]?=w.heap[E.g]?)(h:MW P m w E o):MW P m' w' E o:=by
 cases o with
 |cells gr st cs=>
  refine⟨⟨⟨h.1.1.1,λhz=>(h.1.1.2 hz).mono hm⟩,h.1.2⟩,λhst=>?_⟩;obtain⟨cur,e,fz,h1,h2,Z,h4⟩:=h.2 hst;refine⟨cur,e,fz,by rw[hw (by simp[Cs.live,hst])];exact h1,h2,λj a R=>?_,h4⟩;obtain⟨g1,c,g2,g3⟩:=Z j a R;exact⟨g1,c,g2,g3.mono hm⟩
 |map st es=>
  refine⟨h.1,λhst=>?_⟩;obtain⟨es',h0,ents,clock,h1,h2,Z,h4⟩:=h.2 hst;exact⟨es',h0,ents,clock,by rw[hw (by simp[Cs.live,hst])];exact h1,h2,λi k v e hi he=>⟨(Z i k v e hi he).1.mono hm,(Z i k v e hi he).2.mono hm⟩,h4⟩
 |iter s pos=>exact⟨h.1,by rw[hw rfl];exact h.2⟩
 |loop st pend f fr ps a b=>obtain⟨tm,d,fn,h1,h2,Z⟩:=h;exact⟨tm,d,fn,by rw[hw rfl];exact h1,h2,λi=>(Z i).mono hm⟩
 |chan cap buf=>obtain⟨bs,sn,rc,h1,h2⟩:=h;exact⟨bs,sn,rc,by rw[hw rfl];exact h1,h2.mono hm⟩
section
variable {P:Program} {w0:World} {m:Bk} {h:AF} {w:World}
theorem Rel.size(r:Rel P w0 m h w):w0.heap.size<=w.heap.size:=r.below.size
theorem Rel.fresh(r:Rel P w0 m h w){id:Nat}(hi:h.size<=id):m id=none:=by
 cases e:m id with
 |none=>rfl
 |some E=>have:=r.Q2 id E e;omega
theorem Rel.drew(r:Rel P w0 m h w):Rel P w0 m h w.drew:=⟨r.below.drew,r.Q2,r.obj,r.own,r.sep,r.fz,r.K1,r.df,r.Re⟩
theorem Rel.WL(r:Rel P w0 m h w){g j:Nat}{v:Value}(Q:m.fz g j=some v):g<w.heap.size:=by
 obtain⟨_,_,_,h1,_⟩:=r.fz g j v Q;exact(Array.getElem?_eq_some_iff.1 h1).1
theorem Rel.YC(r:Rel P w0 m h w){g:Nat}(O:w.heap.size<=g)(j:Nat):m.fz g j=none:=by
 cases e:m.fz g j with
 |none=>rfl
 |some v=>have:=r.WL e;omega
theorem Rel.RB(r:Rel P w0 m h w){g:Nat}{x:Obj}(Q:m.df g x):g<w.heap.size:=(Array.getElem?_eq_some_iff.1 (r.df g x Q).2).1
theorem Rel.YF(r:Rel P w0 m h w){w':World}{g:Nat}(V:Fs w w' g)(O:∀x,¬m.df g x):∀k x,m.df k x->w0.heap.size<=k/\w'.heap[k]?=some x:=λk x hk=>
 ⟨(r.df k x hk).1,by rw[V.block k (r.RB hk) (λe=>O x (e ▸ hk))];exact(r.df k x hk).2⟩
theorem Rel.Yr(r:Rel P w0 m h w){w':World}{g:Nat}(V:Fs w w' g)(O:∀j,m.fz g j=none):∀g o v,m.fz g o=some v->∃cur e z,w'.heap[g]?=some (.cells cur e z)/\cur[o]?=some v:=by
 intro g' o v Q;obtain⟨cur,e,z,h1,h2⟩:=r.fz g' o v Q;exact⟨cur,e,z,by rw[V.block g' (r.WL Q) (λe=>by subst e;rw[O]at Q;cases Q)];exact h1,h2⟩
theorem Rel.ghost(r:Rel P w0 m h w)(o:Cs):Rel P w0 m (h.push o) w:=by
 have JY:∀id E o',m id=some E->(h.push o).get id=some o'->h.get id=some o':=λid E o' hm O=>by
  rw[h.Ci o (r.Q2 id E hm)]at O;exact O
 exact⟨r.below,λid E hm=>by have:=r.Q2 id E hm;simp;omega,λid E o' hm O=>r.obj id E o' hm (JY id E o' hm O),
  λid E o' hm O=>r.own id E o' hm (JY id E o' hm O),λid id' E E' o1 o2 J h1 h2 g1 g2=>r.sep id id' E E' o1 o2 J h1 h2 (JY _ _ _ h1 g1) (JY _ _ _ h2 g2),r.fz,λid E o' hm O=>r.K1 id E o' hm (JY id E o' hm O),r.df,λid E o' hm O=>r.Re id E o' hm (JY id E o' hm O)⟩
def Bk.upd(m:Bk)(id:Nat)(E:OR):Bk:=⟨λi=>if i=id then some E else m i,m.fz,m.df⟩
theorem Bk.Gp(m:Bk)(id:Nat)(E:OR):m.upd id E id=some E:=by simp[Bk.upd]
theorem Bk.Ro(m:Bk){id i:Nat}(E:OR)(h:i≠id):m.upd id E i=m i:=by simp[Bk.upd,h]
theorem Bk.O2{m:Bk}{id:Nat}(E:OR)(h:m id=none):m.le (m.upd id E):=⟨λi F D=>by
 by_cases e:i=id
 ·subst e;rw[h]at D;cases D
 ·rw[Bk.Ro _ _ e];exact D,λ_ _ _ h=>h⟩
theorem Bk.le_refl(m:Bk):m.le m:=⟨λ_ _ h=>h,λ_ _ _ h=>h⟩
theorem Bk.le_trans{a b c:Bk}(h:a.le b)(k:b.le c):a.le c:=⟨λi E L=>k.i i E (h.i i E L),λg o v K=>k.fz g o v (h.fz g o v K)⟩
structure Bk.ext(m:Bk)(n:Nat)(m':Bk):Prop where
 i:∀id,id<n->m' id=m id
 fz:∀g o v,m.fz g o=some v->m'.fz g o=some v
 df:∀g x,m.df g x->m'.df g x
theorem Bk.ext.refl(m:Bk)(n:Nat):m.ext n m:=⟨λ_ _=>rfl,λ_ _ _ h=>h,λ_ _ h=>h⟩
theorem Bk.ext.trans{a b c:Bk}{n n':Nat}(h:a.ext n b)(k:b.ext n' c)(hn:n<=n'):a.ext n c:=⟨λi hi=>(k.i i om).trans (h.i i hi),λg o v K=>k.fz g o v (h.fz g o v K),λg x O=>k.df g x (h.df g x O)⟩
theorem Bk.MC(m:Bk){n id:Nat}(E:OR)(h:n<=id):m.ext n (m.upd id E):=⟨λj hj=>Bk.Ro m _ om,λ_ _ _ h=>h,λ_ _ h=>h⟩
theorem Rel.place(r:Rel P w0 m h w){w':World}{id:Nat}{E:OR}{o:Cs}(V:Fs w w' E.g)(hg0:w0.heap.size<=E.g)
  (X:∀id2 E2 o2,m id2=some E2->h.get id2=some o2->o2.live=true->E2.g≠E.g) (hfz:∀j,m.fz E.g j=none) (hdf:∀x,¬m.df E.g x) (hid:m id=none) (I:h.get id=some o)
  (U:MW P (m.upd id E) w' E o):Rel P w0 (m.upd id E) h w':=by
 have hle:=Bk.O2 E hid;have other:∀{i F},m.upd id E i=some F->i≠id->m i=some F:=λh1 h2=>by rw[Bk.Ro _ _ h2]at h1;exact h1
 refine⟨V.below r.below r.size hg0,λi F D=>?_,λi F o' D N=>?_,λi F o' D N H=>?_,λi i' F F' o1 o2 J h1 h2 g1 g2 H hlive=>?_,r.Yr V hfz,λi F o' D N H=>?_,r.YF V hdf,λi F o' D N W=>?_⟩
 ·by_cases e:i=id
  ·subst e;rw[Bk.Gp]at D;injection D with D;subst D;exact h.CA I
  ·exact r.Q2 i F (other D e)
 ·by_cases e:i=id
  ·subst e;rw[Bk.Gp]at D;injection D with D;subst D;rw[I]at N;injection N with N;subst N;exact U
  ·have hF':=other D e;exact(r.obj i F o' hF' N).mono hle λW=>V.block _ ((r.obj i F o' hF' N).lt W) (X i F o' hF' N W)
 ·by_cases e:i=id
  ·subst e;rw[Bk.Gp]at D;injection D with D;subst D;exact hg0
  ·exact r.own i F o' (other D e) N H
 ·by_cases e:i=id
  ·subst e;rw[Bk.Gp]at h1;injection h1 with h1;subst h1;exact λhh=>X i' F' o2 (other h2 (λe=>J e.symm)) g2 hlive hh.symm
  ·by_cases e':i'=id
   ·subst e';rw[Bk.Gp]at h2;injection h2 with h2;subst h2;exact X i F o1 (other h1 e) g1 (Cs.Ha H)
   ·exact r.sep i i' F F' o1 o2 J (other h1 e) (other h2 e') g1 g2 H hlive
 ·by_cases e:i=id
  ·subst e;rw[Bk.Gp]at D;injection D with D;subst D;exact hfz
  ·exact r.K1 i F o' (other D e) N H
 ·by_cases e:i=id
  ·subst e;rw[Bk.Gp]at D;injection D with D;subst D;exact hdf
  ·exact r.Re i F o' (other D e) N W
theorem Rel.new(r:Rel P w0 m h w){w':World}{E:OR}{o:Cs}(V:Fs w w' E.g)(O:E.g=w.heap.size)
  (U:MW P (m.upd h.size E) w' E o):Rel P w0 (m.upd h.size E) (h.push o) w':=by
 refine(r.ghost o).place V (by rw[O];exact r.size) (λid2 E2 o2 h2 ho2 hl2=>?_) (r.YC om) (λx hd=>by have:=r.RB hd;omega) (r.fresh (zw _)) (h.C7 o) U;have:=((r.ghost o).obj id2 E2 o2 h2 ho2).lt hl2;omega
theorem Rel.write(r:Rel P w0 m h w){w':World}{id:Nat}{E:OR}{o o':Cs}(L:m id=some E)(I:h.get id=some o)(H:o.own=true)(hown':o'.own=true)
  (V:Fs w w' E.g) (U:MW P m w' E o'):Rel P w0 m (h.set id o') w':=by
 have hid:=h.CA I;have hB:=r.own id E o L I H;have get':∀i x,(h.set id o').get i=some x->(i=id/\x=o')\/(i≠id/\h.get i=some x):=λi x C=>by
  by_cases e:i=id
  ·subst e;rw[h.get_set_same o' hid]at C;injection C with C;exact .inl ⟨rfl,C.symm⟩
  ·rw[h.CN o' hid e]at C;exact .inr ⟨e,C⟩
 refine⟨V.below r.below r.size hB,r.Q2,λi F x D C=>?_,λi F x D C M=>?_,λi i' F F' x x' J h1 h2 g1 g2 a b=>?_,r.Yr V (r.K1 id E o L I H),λi F x D C M=>?_,r.YF V (r.Re id E o L I (Cs.Ha H)),λi F x D C hxl=>?_⟩
 ·rcases get' i x C with⟨rfl,rfl⟩|⟨hi,C⟩
  ·rw[L]at D;injection D with D;subst D;exact U
  ·refine(r.obj i F x D C).mono (Bk.le_refl m) λW=>V.block _ ((r.obj i F x D C).lt W) λe=>?_;exact r.sep id i E F o x (λe=>hi e.symm) L D I C H W e.symm
 ·rcases get' i x C with⟨rfl,rfl⟩|⟨hi,C⟩
  ·rw[L]at D;injection D with D;subst D;exact hB
  ·exact r.own i F x D C M
 ·rcases get' i x g1 with⟨rfl,rfl⟩|⟨hi,C⟩
  ·rcases get' i' x' g2 with⟨rfl,rfl⟩|⟨hi',T⟩
   ·exact absurd rfl J
   ·rw[L]at h1;injection h1 with h1;subst h1;exact r.sep i i' _ F' o x' J L h2 I T H b
  ·rcases get' i' x' g2 with⟨rfl,rfl⟩|⟨hi',T⟩
   ·rw[L]at h2;injection h2 with h2;subst h2;exact λe=>r.sep i' i _ F o x (λe=>hi e.symm) L h1 I C H (Cs.Ha a) e.symm
   ·exact r.sep i i' F F' x x' J h1 h2 C T a b
 ·rcases get' i x C with⟨rfl,rfl⟩|⟨hi,C⟩
  ·rw[L]at D;injection D with D;subst D;exact r.K1 _ _ o L I H
  ·exact r.K1 i F x D C M
 ·rcases get' i x C with⟨rfl,rfl⟩|⟨hi,C⟩
  ·rw[L]at D;injection D with D;subst D;exact r.Re _ _ o L I (Cs.Ha H)
  ·exact r.Re i F x D C hxl
theorem Rel.gR(r:Rel P w0 m h w){id:Nat}{gr:Option TypeId}{st:Nat}{cs cs':List AD}{h':AF}(I:h.get id=some (.cells gr st cs))(hs:h'.size=h.size)(h1:h'.get id=some (.cells gr 0 cs'))(h2:∀i,i≠id->h'.get i=h.get i)(hz:∀E,m id=some E->dq m E cs'):Rel P w0 m h' w:=by
 have get':∀i x,h'.get i=some x->(i=id/\x=.cells gr 0 cs')\/(i≠id/\h.get i=some x):=λi x C=>by
  by_cases e:i=id
  ·subst e;rw[h1]at C;injection C with C;exact .inl ⟨rfl,C.symm⟩
  ·rw[h2 _ e]at C;exact .inr ⟨e,C⟩
 refine⟨r.below,λi F D=>by rw[hs];exact r.Q2 i F D,λi F x D C=>?_,λi F x D C M=>?_,λi i' F F' x x' J h1 h2 g1 g2 a b=>?_,r.fz,λi F x D C M=>?_,r.df,λi F x D C hxl=>?_⟩
 ·rcases get' i x C with⟨rfl,rfl⟩|⟨hi,C⟩
  ·exact⟨⟨⟨(r.obj i F _ D I).1.1.1,λ_=>hz F D⟩,λ_ h=>by cases h⟩,λh=>absurd rfl h⟩
  ·exact r.obj i F x D C
 ·rcases get' i x C with⟨rfl,rfl⟩|⟨hi,C⟩
  ·simp[Cs.own]at M
  ·exact r.own i F x D C M
 ·rcases get' i x g1 with⟨rfl,rfl⟩|⟨hi,C⟩
  ·simp[Cs.own]at a
  ·rcases get' i' x' g2 with⟨rfl,rfl⟩|⟨hi',T⟩
   ·simp[Cs.live]at b
   ·exact r.sep i i' F F' x x' J h1 h2 C T a b
 ·rcases get' i x C with⟨rfl,rfl⟩|⟨hi,C⟩
  ·simp[Cs.own]at M
  ·exact r.K1 i F x D C M
 ·rcases get' i x C with⟨rfl,rfl⟩|⟨hi,C⟩
  ·simp[Cs.live]at hxl
  ·exact r.Re i F x D C hxl
theorem Rel.kill(r:Rel P w0 m h w){id:Nat}{gr:Option TypeId}{st:Nat}{cs:List AD}(I:h.get id=some (.cells gr st cs)):Rel P w0 m (h.set id (.cells gr 0 [])) w:=
 r.gR I (h.size_set _ _) (h.get_set_same _ (h.CA I)) (λ_ hi=>h.CN _ (h.CA I) hi) λ_ _=>dq.nil
def Bk.still(m:Bk)(g:Nat)(cur:Array Value):Bk:=⟨m.i,λg' j=>if g'=g then cur[j]? else m.fz g' j,m.df⟩
theorem Bk.aU{m:Bk}{g:Nat}{cur:Array Value}(Q:∀j,m.fz g j=none):m.le (m.still g cur):=⟨λ_ _ h=>h,λg' o v K=>by
 by_cases e:g'=g
 ·subst e;rw[Q]at K;cases K
 ·simp only[Bk.still,zj e];exact K⟩
theorem Rel.freeze(r:Rel P w0 m h w){id:Nat}{E:OR}{gr:Option TypeId}{cs:List AD}(L:m id=some E)(I:h.get id=some (.cells gr 2 cs)):
    ∃cur,Rel P w0 (m.still E.g cur) (h.set id (.cells gr 0 cs)) w/\m.le (m.still E.g cur)/\cur.size=E.total/\E.Y7=K2 P gr/\∀(j:Nat) (a:AD),cs[j]?=some a->∃c,cur[E.base+j]?=some c/\VR m a c:=by
  have Q:=r.K1 id E _ L I rfl;obtain⟨he,hc⟩:=r.obj id E _ L I;obtain⟨cur,e,fz,h1,h2,Z,h4⟩:=hc (by simp);have hle:=Bk.aU (m:=m) (g:=E.g) (cur:=cur) Q;refine⟨cur,?_,hle,h2,he.1.1,λj a R=>(Z j a R).2⟩;have k:=r.kill I;have hid:=h.CA I;have k1:Rel P w0 (m.still E.g cur) (h.set id (.cells gr 0 [])) w:=by
   refine⟨k.below,k.Q2,λi F x D C=>(k.obj i F x D C).mono hle λ_=>rfl,k.own,k.sep,λg' j v K=>?_,λi F x D C M=>?_,k.df,k.Re⟩
   · by_cases e':g'=E.g
     · subst e'
       simp only[Bk.still,if_true]at K;exact⟨cur,e,fz,h1,K⟩
     · simp only[Bk.still,zj e']at K
       exact k.fz g' j v K
   · have J:i≠id:=by
       intro e';subst e';rw[h.get_set_same _ hid]at C;injection C with C;subst C;simp[Cs.own]at M
     have T:h.get i=some x:=by rw[h.CN _ hid J]at C;exact C
     have O:F.g≠E.g:=λe'=>r.sep id i E F _ x (λe=>J e.symm) L D I T rfl (Cs.Ha M) e'.symm;intro j;simp only[Bk.still,zj O];exact r.K1 i F x D T M j
  refine k1.gR (cs':=cs) (h.get_set_same _ hid) (by rw[h.size_set,h.size_set]) (h.get_set_same _ hid) (λi hi=>by rw[h.CN _ hid hi,h.CN _ hid hi]) λE' hE'=>?_;obtain rfl:E=E':=zJ (L.symm.trans hE');intro j a R;obtain⟨c,g1,g2⟩:=(Z j a R).2;exact⟨c,by simp only[Bk.still,if_true];exact g1,g2.mono hle⟩
end
def FR(m:Bk)(fr:Fr)(a:Act):Prop:=fr.length=a.tmps.size/\∀i,VR m (nth fr i) (a.tmps.getD i undef)
theorem FR.mono{m m':Bk}(hm:m.le m'){fr:Fr}{a:Act}(h:FR m fr a):FR m' fr a:=⟨h.1,λi=>(h.2 i).mono hm⟩
theorem FR.ev{m:Bk}{fr:Fr}{a:Act}(h:FR m fr a)(x:Operand):VR m (ev fr x) (a.eval x):=by
 cases x with
 |tmp t=>exact h.2 t
 |const v=>exact VR.dm m v
 |global g=>exact .LV g 0
 |func f=>exact .func _ _ _ _ _ rfl (λi x y C=>by simp at C) rfl (λi x y C=>by simp at C)
theorem FR.put{m:Bk}{fr:Fr}{a:Act}(h:FR m fr a)(d:Option Tmp){x:AD}{v:Value}(K:VR m x v):FR m (put fr d x) (a.put d v):=by
 cases d with
 |none=>exact h
 | some d=>
  refine⟨by simp[Av.put,Act.put,h.1],λi=>?_⟩;show VR m (nth (fr.set d x) i) ((a.tmps.setIfInBounds d v).getD i undef);rw[G4];by_cases e:d=i/\d<fr.length
  ·rw[zl e];obtain⟨rfl,hd⟩:=e;rw[h.1]at hd;simpa[zn,Array.getElem?_setIfInBounds,hd]using K
  ·rw[zj e];have:(a.tmps.setIfInBounds d v).getD i undef=a.tmps.getD i undef:=by
    simp only[zn,Array.getElem?_setIfInBounds];by_cases e1:d=i
    ·subst e1;have:¬d<a.tmps.size:=λh'=>e ⟨rfl,by rw[h.1];exact h'⟩;simp[this]
    ·simp[e1]
   rw[this];exact h.2 i
theorem FR.KH{m:Bk}{fr:Fr}{a:Act}(h:FR m fr a)(l:List Operand):DD m (l.map (Av.ev fr)) (l.map a.eval):=DD.map _ _ l λx _=>h.ev x
theorem VR.HN(m:Bk):VR m (.tuple []) Go.undef:=.tuple [] #[] rfl λi x y h=>by simp at h
theorem VR.GV{m:Bk}{x:AD}{v:Value}(h:VR m x v):VR m (GV x) v:=by
 unfold Av.GV;split
 ·cases h<;>exact .L0 _ _
 ·exact h
theorem DD.GV{m:Bk}{a:List AD}{c:List Value}(h:DD m a c):DD m (a.map Av.GV) c:=by
 refine⟨by simpa using h.1,λi x y C hy=>?_⟩;rw[List.getElem?_map]at C;simp only[zk]at C;obtain⟨z,hz,rfl⟩:=C;exact(h.2 i z y hz hy).GV
theorem VR.VF{m:Bk}{x:AD}{v:Value}(h:VR m x v):VR m (VF x) v:=by
 unfold Av.VF;split
 ·obtain⟨c,rfl,K⟩:=h.Hf;exact DD.agg K.GV
 ·exact h.GV
theorem DD.CQ{m:Bk}:∀(bs:List Bool) {a:List AD} {c:List Value},DD m a c->DD m (CQ bs a) c
 |[],a,c,h=>by cases a<;>exact h
 |true::bs,[],c,h=>h
 |false::bs,[],c,h=>h
 |b::bs,x::a,[],h=>by simp[DD]at h
 |b::bs,x::a,y::c,h=>by
  have hc:=h.2 0 x y rfl rfl;have K:DD m a c:=⟨by simpa using h.1,λi u v C hy=>h.2 (i+1) u v (by simpa using C) (by simpa using hy)⟩;cases b
  ·exact .cons hc (DD.CQ bs K)
  ·exact .cons hc.VF (DD.CQ bs K)
theorem VR.G9{m m':Bk}{x:AD}{v:Value}(Q:G9 x=true)(h:VR m' x v):VR m x v:=by
 cases h<;>simp[Av.G9]at Q
 ·exact .bool _
 ·exact .int _ _
 ·exact .str _
 ·exact .nilPtr
 ·exact .Eu
 ·exact .GY _
 ·exact .NH
 ·exact .MH
 ·exact .nilFunc
 ·exact .nilIface
theorem VR.Ko{m m':Bk}{x:AD}{v:Value}(Q:Ko x=true)(h:VR m' x v):VR m x v:=by
 unfold Av.Ko at Q;split at Q
 ·rename_i cs;obtain⟨c,rfl,K⟩:=h.Hf;refine DD.agg ⟨K.1,λi a b R S=>?_⟩;exact(K.2 i a b R S).G9 (zr.1 Q a (zN R))
 ·exact h.G9 Q
theorem VR.Pd{m m':Bk}{x:AD}{v:Value}(Q:Pd x=true)(h:VR m' x v):VR m x v:=by
 unfold Av.Pd at Q;split at Q
 ·rename_i cs;obtain⟨c,rfl,K⟩:=h.L4;refine DD.tuple ⟨K.1,λi a b R S=>?_⟩;exact(K.2 i a b R S).Ko (zr.1 Q a (zN R))
 ·exact h.Ko Q
def CH(G:Nat->Option (List AD))(w0:World):Prop:=
 (∀g cs,G g=some cs->g<w0.heap.size/\∃cur e fz,w0.heap[g]?=some (.cells cur e fz)/\(cs≠[]->cur.size=cs.length)/\∀(j:Nat) (a:AD),cs[j]?=some a->a.one=true/\Av.G9 a=true/\∃c,cur[j]?=some c/\VR ⟨λ_=>none,λ_ _=>none,λ_ _=>False⟩ a c)/\
 ∀g,G g=some []->∃n:Int,w0.cell? ⟨g,0,none⟩=some (.int .i64 n)
theorem CH.none(w0:World):CH (λ_=>Option.none) w0:=⟨λg cs h=>(by cases h),λg h=>(by cases h)⟩
theorem CH.later{G:Nat->Option (List AD)}{w0 w:World}(hz:CH G w0)(S:Below w0.heap.size w0 w):CH G w:=⟨λg cs h=>by
 obtain⟨Y,cur,e,fz,hc,K⟩:=hz.1 g cs h;exact⟨zX Y S.size,cur,e,fz,by rw[S.block g Y];exact hc,K⟩,λg h=>by
 obtain⟨Y,-⟩:=hz.1 g [] h;obtain⟨n,hn⟩:=hz.2 g h;refine⟨n,?_⟩;unfold World.cell? at hn⊢;rw[show w.heap[(⟨g,0,Option.none⟩:Addr).block]?=w0.heap[(⟨g,0,Option.none⟩:Addr).block]? from S.block g Y]
 exact hn⟩
theorem CH.rel{P:Program}{G:Nat->Option (List AD)}{w0 w:World}(hz:CH G w0)(S:Below w0.heap.size w0 w){g:Nat}{cs:List AD}(O:G g=some cs):
  ∃fY,Rel P w0 ⟨λid=>if id=0 then some ⟨g,0,0,fY⟩else Option.none,λ_ _=>Option.none,λ_ _=>False⟩ ((⟨0,.leaf⟩:AF).push (.cells Option.none 1 cs)) w/\∀a∈cs,Av.G9 a=true:=by
 obtain⟨Y,cur,e,fz,hc,_,K⟩:=hz.1 g cs O;have key:∀id o,((⟨0,.leaf⟩:AF).push (.cells Option.none 1 cs)).get id=some o->id=0/\o=.cells Option.none 1 cs:=by
  intro id o I;rw[AF.Ka]at I;split at I
  ·rename_i h0;injection I with I;exact⟨h0,I.symm⟩
  ·have:((⟨0,.leaf⟩:AF).get id)=Option.none:=by
    unfold AF.get;cases Nat.blt id (⟨0,.leaf⟩:AF).size<;>rfl
   rw[this]at I;cases I
 refine⟨cur.size,⟨S,λid E L=>?_,λid E o L I=>?_,λid E o L I H=>?_,λid id' E E' o o' J h1 h2 g1 g2 H=>?_,λg o v K=>by(cases K),λid E o L I H j=>rfl,λg x O=>O.elim,λid E o L I W x hd=>hd⟩,λa R=>?_⟩
 ·dsimp only at L;split at L
  ·rename_i h0;subst h0;simp
  ·cases L
 ·obtain⟨rfl,rfl⟩:=key id o I;simp only[if_true,zb]at L;subst L;refine⟨⟨⟨rfl,λh=>by cases h⟩,λ_ h=>by cases h⟩,λ_=>⟨cur,e,fz,by rw[S.block g Y];exact hc,rfl,λj a R=>?_,λh=>by cases h⟩⟩;obtain⟨h1,h2,c,Z,h4⟩:=K j a R;exact⟨h1,c,by simpa using Z,h4.G9 h2⟩
 ·obtain⟨rfl,rfl⟩:=key id o I;simp[Cs.own]at H
 ·obtain⟨rfl,rfl⟩:=key id o g1;simp[Cs.own]at H
 ·obtain⟨j,hj,rfl⟩:=yS R;exact(K j _ (List.getElem?_eq_getElem hj)).2.1
end Go.Av
