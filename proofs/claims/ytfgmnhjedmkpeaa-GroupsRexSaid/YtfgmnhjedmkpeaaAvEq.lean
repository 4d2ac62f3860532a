/-
  Several texts in one.
-/
import Derived.Test.YtfgmnhjedmkpeaaAvRel
set_option linter.unusedSimpArgs false
/-
 A part.
-/
section
namespace Go.Av
open Go.RowKit
def Br.live:Br->Bool
 | .cells _ st _=>st !=0
 | .map st _=>st !=0
 | .iter _ _=>true
 | .loop .. =>true
 | .chan .. =>true
def Br.own:Br->Bool
 | .cells _ st _=>st==2
 | .map st _=>st==2
 | .iter _ _=>true
 | .loop .. =>true
 | .chan .. =>true
theorem Br.Ft{o:Br}(h:o.own=true):o.live=true:=by
 cases o<;>simp[Br.own,Br.live]at * <;>omega
def Kv(P:Program):Option TypeId->Nat
 |some e=>P.cellsOf e
 |none=>0
def YO:Nat->LoopState
 |0=>.ready
 |1=>.busy
 |2=>.done
 |_=>.exhausted
def OC(e:MapEntry):Option ByteArray:=
 match e.key with
 | .string s=>some s
 |_=>none
def K6(ents:Array MapEntry)(clock:Nat):Prop:=(∀x∈ents.toList,x.born<clock)/\(ents.toList.map (·.born)).Nodup/\(ents.toList.filterMap OC).Nodup
theorem K6.nil:K6 #[] 0:=⟨by simp,by simp,by simp⟩
theorem K6.push{ents:Array MapEntry}{clock:Nat}(h:K6 ents clock){k v:Value}(X:∀s,k=.string s->s∉ents.toList.filterMap OC):K6 (ents.push {key:=k,val:=v,born:=clock}) (clock+1):=by
 obtain⟨h1,I,h3⟩:=h;refine⟨λx C=>?_,?_,?_⟩
 ·rw[qp,zo]at C;rcases C with C|C
  ·have:=h1 x C;omega
  ·simp at C;subst C;exact Nat.lt_succ_self _
 ·rw[qp,yQ,zZ];refine⟨I,by simp,λa M b T=>?_⟩;obtain⟨x,C,rfl⟩:=zX.1 M;simp at T;subst T;have:=h1 x C;omega
 ·rw[qp,List.filterMap_append,zZ];refine⟨h3,?_,λa M b T=>?_⟩
  ·cases e:OC {key:=k,val:=v,born:=clock}<;>simp[e]
  ·cases k<;>simp[OC]at T;subst T;rintro rfl;exact X _ rfl M
theorem K6.erase{ents:Array MapEntry}{clock:Nat}(h:K6 ents clock)(i:Nat):K6 (ents.eraseIdxIfInBounds i) clock:=by
 have hs:(ents.eraseIdxIfInBounds i).toList.Sublist ents.toList:=by
  unfold Array.eraseIdxIfInBounds;split
  ·simp only[Array.toList_eraseIdx];exact List.eraseIdx_sublist _ _
  ·exact List.Sublist.refl _
 exact⟨λx C=>h.1 x (hs.subset C),List.Nodup.sublist (hs.map _) h.2.1,List.Nodup.sublist (hs.filterMap _) h.2.2⟩
theorem K6.modify{ents:Array MapEntry}{clock:Nat}(h:K6 ents clock){i:Nat}(hi:i<ents.size){k v:Value}(X:OC {ents[i]with key:=k,val:=v}=OC ents[i]):K6 (ents.modify i λe=>{e with key:=k,val:=v}) clock:=by
 have hl:(ents.modify i λe=>{e with key:=k,val:=v}).toList=ents.toList.set i {ents[i]with key:=k,val:=v}:=by
  apply qq;intro j;rw[Array.getElem?_toList,Array.getElem?_modify,List.getElem?_set];by_cases hj:i=j
  ·subst hj;simp[hi]
  ·simp[hj]
 have same:∀{β:Type} (f:MapEntry->β),f {ents[i]with key:=k,val:=v}=f ents[i]->(ents.toList.set i {ents[i]with key:=k,val:=v}).map f=ents.toList.map f:=λf S=>by
  apply qq;intro j;rw[List.getElem?_map,List.getElem?_map,List.getElem?_set];by_cases hj:i=j
  ·subst hj;simp[hi,S]
  ·simp[hj]
 refine⟨λx C=>?_,?_,?_⟩
 ·rw[hl]at C;rcases yX C with C|rfl
  ·exact h.1 x C
  ·exact h.1 ents[i] (by simp)
 ·rw[hl,same _ rfl];exact h.2.1
 ·have e:∀l:List MapEntry,l.filterMap OC=(l.map OC).filterMap id:=λl=>by rw[List.filterMap_map];rfl
  rw[hl,e,same _ X,<-e];exact h.2.2
abbrev Rk(n:Nat)(fz:Nat×Nat):Prop:=fz.1=fz.2\/n<=fz.1
theorem Rk.no{n:Nat}{fz:Nat×Nat}(h:Rk n fz):∀j,j<n->¬(fz.1<=j/\j<fz.2):=λj hj=>by rcases h with h|h<;>omega
def Vy(m:BU)(E:Ii)(cs:List AD):Prop:=∀(j:Nat) (a:AD),cs[j]?=some a->∃c,m.fz E.g (E.base+j)=some c/\VR m a c
theorem Vy.mono{m m':BU}{E:Ii}{cs:List AD}(hm:m.le m')(h:Vy m E cs):Vy m' E cs:=λj a M=>by
 obtain⟨c,h1,I⟩:=h j a M;exact⟨c,hm.fz _ _ _ h1,I.mono hm⟩
theorem Vy.nil{m:BU}{E:Ii}:Vy m E []:=λj a M=>by simp at M
def MS:AD×AD->Bool
 |(.str _,_)=>true
 |_=>false
structure NT(st:Nat)(es es':List (AD×AD)):Prop where
 same:st≠3->es'=es
 perm:st=3->es'.Perm es/\es.all MS=true/\(es.map Prod.fst).Nodup
theorem NT.refl{st:Nat}{es:List (AD×AD)}(h:st≠3):NT st es es:=⟨λ_=>rfl,λe=>absurd e h⟩
theorem NT.len{st:Nat}{es es':List (AD×AD)}(h:NT st es es'):es'.length=es.length:=by
 by_cases e:st=3
 ·exact(h.perm e).1.length_eq
 ·rw[h.same e]
theorem Px:∀{es:List (AD×AD)},(es.map Prod.fst).Nodup->∀{k u v:AD},(k,u)∈es->(k,v)∈es->u=v
 |[],_,_,_,_,h1,_=>by cases h1
 |p::es,W,k,u,v,h1,I=>by
  rw[ql,qd]at W;rcases ye.1 h1 with e1|h1<;>rcases ye.1 I with e2|I
  ·rw[<-e1]at e2;cases e2;rfl
  ·exact absurd (zX.2 ⟨_,I,by rw[<-e1]⟩) W.1
  ·exact absurd (zX.2 ⟨_,h1,by rw[<-e2]⟩) W.1
  ·exact Px W.2 h1 I
def N2(m:BU)(w:World)(E:Ii)(es:List (AD×AD)):Prop:=∃ents clock,w.heap[E.g]?=some (.map ents clock)/\es.length=ents.size/\
 (∀(i:Nat) (k v:AD) (e:MapEntry),es[i]?=some (k,v)->ents[i]?=some e->VR m k e.key/\VR m v e.val)/\K6 ents clock
theorem N2.two{st:Nat}{m:BU}{w:World}{E:Ii}{es:List (AD×AD)}(h:∃es',NT st es es'/\N2 m w E es')(hs:st≠3):N2 m w E es:=by
 obtain⟨es',h1,I⟩:=h;rw[h1.same hs]at I;exact I
theorem N2.of{st:Nat}{m:BU}{w:World}{E:Ii}{es:List (AD×AD)}(h:N2 m w E es)(hs:st≠3):∃es',NT st es es'/\N2 m w E es':=⟨es,.refl hs,h⟩
def IV(P:Program)(m:BU)(w:World)(E:Ii):Br->Prop
 | .cells gr st cs=>((E.QG=Kv P gr/\(st=0->Vy m E cs))/\(gr=none->st=2->E.base=0))/\(st≠0->∃cur e fz,w.heap[E.g]?=some (.cells cur e fz)/\cur.size=E.total/\
   (∀(j:Nat) (a:AD),cs[j]?=some a->a.one=true/\∃c,cur[E.base+j]?=some c/\VR m a c)/\(st=2->Rk E.total fz))
 | .map st es=>E.base=0/\(st≠0->∃es',NT st es es'/\N2 m w E es')
 | .iter s pos=>E.base=0/\w.heap[E.g]?=some (.stringIter ⟨⟨s⟩⟩ pos)
 | .loop st pend _ fr ps a b=>∃(tmps:Array Value) (d fn:Nat),w.heap[E.g]?=some (.loop ⟨YO st,pend,fn,tmps,ps.toArray,a,b,d⟩)/\fr.length=tmps.size/\∀i,VR m (nth fr i) (tmps.getD i undef)
 | .chan cap buf=>∃(bs:Array Value) (sn rc:Nat),w.heap[E.g]?=some (.chan cap bs false sn rc false)/\B5 m buf bs.toList
structure Rel(P:Program)(w0:World)(m:BU)(h:AE)(w:World):Prop where
 below:Below w0.heap.size w0 w
 On:∀id E,m id=some E->id<h.size
 obj:∀id E o,m id=some E->h.get id=some o->IV P m w E o
 own:∀id E o,m id=some E->h.get id=some o->o.own=true->w0.heap.size<=E.g
 sep:∀id id' E E' o o',id≠id'->m id=some E->m id'=some E'->h.get id=some o->h.get id'=some o'->o.own=true->o'.live=true->E.g≠E'.g
 fz:∀g o v,m.fz g o=some v->∃cur e z,w.heap[g]?=some (.cells cur e z)/\cur[o]?=some v
 Nc:∀id E o,m id=some E->h.get id=some o->o.own=true->∀j,m.fz E.g j=none
 df:∀g,m.df g->w0.heap.size<=g/\w.heap[g]?=some (.deferred (some []))
 St:∀id E o,m id=some E->h.get id=some o->o.live=true->¬m.df E.g
structure Dn(w w':World)(g:Nat):Prop where
 os:w'.os=w.os
 tape:w'.tape=w.tape
 output:w'.output=w.output
 size:w.heap.size<=w'.heap.size
 block:∀k,k<w.heap.size->k≠g->w'.heap[k]?=w.heap[k]?
theorem Dn.refl(w:World)(g:Nat):Dn w w g:=⟨rfl,rfl,rfl,zq _,λ_ _ _=>rfl⟩
theorem Dn.below{w0 w w':World}{B g:Nat}(h:Dn w w' g)(T:Below B w0 w)(hB:B<=w.heap.size)(Q:B<=g):Below B w0 w':=
 ⟨h.os.trans T.os,h.tape.trans T.tape,h.output.trans T.output,yu T.size h.size,λk X=>(h.block k (by omega) (by omega)).trans (T.block k X)⟩
theorem Dn.alloc(w:World)(o:Obj)(g:Nat):Dn w (w.alloc o) g:=⟨rfl,rfl,rfl,by simp,λk X _=>Below.heap_alloc w o k X⟩
theorem Dn.alloc_drew(w:World)(o:Obj)(g:Nat):Dn w (w.drew.alloc o) g:=⟨rfl,rfl,rfl,(Dn.alloc w.drew o g).size,λk X _=>Below.heap_alloc w.drew o k X⟩
theorem Dn.drew{w w':World}{g:Nat}(h:Dn w w' g):Dn w w'.drew g:=⟨h.os,h.tape,h.output,h.size,h.block⟩
theorem Dn.trans{a b c:World}{g:Nat}(h:Dn a b g)(k:Dn b c g):Dn a c g:=
 ⟨k.os.trans h.os,k.tape.trans h.tape,k.output.trans h.output,yu h.size k.size,λi hi K=>(k.block i (zL hi h.size) K).trans (h.block i hi K)⟩
theorem IV.lt{P:Program}{m:BU}{w:World}{E:Ii}{o:Br}(h:IV P m w E o)(hl:o.live=true):E.g<w.heap.size:=by
 cases o with
 |cells gr st cs=>obtain⟨_,_,_,h1,_⟩:=h.2 (by simpa[Br.live]using hl);exact(Array.getElem?_eq_some_iff.1 h1).1
 |map st es=>obtain⟨_,_,_,_,h1,_⟩:=h.2 (by simpa[Br.live]using hl);exact(Array.getElem?_eq_some_iff.1 h1).1
 |iter s pos=>exact(Array.getElem?_eq_some_iff.1 h.2).1
 |loop st pend f fr ps a b=>obtain⟨_,_,_,h1,_⟩:=h;exact(Array.getElem?_eq_some_iff.1 h1).1
 |chan cap buf=>obtain⟨_,_,_,h1,_⟩:=h;exact(Array.getElem?_eq_some_iff.1 h1).1
theorem IV.mono{P:Program}{m m':BU}{w w':World}{E:Ii}{o:Br}(hm:m.le m')(hw:o.live=true->w'.heap[E.g]?=w.heap[E.g]?)(h:IV P m w E o):IV P m' w' E o:=by
 cases o with
 |cells gr st cs=>
  refine⟨⟨⟨h.1.1.1,λY=>(h.1.1.2 Y).mono hm⟩,h.1.2⟩,λhst=>?_⟩;obtain⟨cur,e,fz,h1,I,h3,h4⟩:=h.2 hst;refine⟨cur,e,fz,by rw[hw (by simp[Br.live,hst])];exact h1,I,λj a M=>?_,h4⟩;obtain⟨g1,c,g2,g3⟩:=h3 j a M;exact⟨g1,c,g2,g3.mono hm⟩
 |map st es=>
  refine⟨h.1,λhst=>?_⟩;obtain⟨es',h0,ents,clock,h1,I,h3,h4⟩:=h.2 hst;exact⟨es',h0,ents,clock,by rw[hw (by simp[Br.live,hst])];exact h1,I,λi k v e hi he=>⟨(h3 i k v e hi he).1.mono hm,(h3 i k v e hi he).2.mono hm⟩,h4⟩
 |iter s pos=>exact⟨h.1,by rw[hw rfl];exact h.2⟩
 |loop st pend f fr ps a b=>obtain⟨tm,d,fn,h1,I,h3⟩:=h;exact⟨tm,d,fn,by rw[hw rfl];exact h1,I,λi=>(h3 i).mono hm⟩
 |chan cap buf=>obtain⟨bs,sn,rc,h1,I⟩:=h;exact⟨bs,sn,rc,by rw[hw rfl];exact h1,I.mono hm⟩
section
variable {P:Program} {w0:World} {m:BU} {h:AE} {w:World}
theorem Rel.size(r:Rel P w0 m h w):w0.heap.size<=w.heap.size:=r.below.size
theorem Rel.fresh(r:Rel P w0 m h w){id:Nat}(hi:h.size<=id):m id=none:=by
 cases e:m id with
 |none=>rfl
 |some E=>have:=r.On id E e;omega
theorem Rel.drew(r:Rel P w0 m h w):Rel P w0 m h w.drew:=⟨r.below.drew,r.On,r.obj,r.own,r.sep,r.fz,r.Nc,r.df,r.St⟩
theorem Rel.Sf(r:Rel P w0 m h w){g j:Nat}{v:Value}(S:m.fz g j=some v):g<w.heap.size:=by
 obtain⟨_,_,_,h1,_⟩:=r.fz g j v S;exact(Array.getElem?_eq_some_iff.1 h1).1
theorem Rel.RS(r:Rel P w0 m h w){g:Nat}(Q:w.heap.size<=g)(j:Nat):m.fz g j=none:=by
 cases e:m.fz g j with
 |none=>rfl
 |some v=>have:=r.Sf e;omega
theorem Rel.Qy(r:Rel P w0 m h w){g:Nat}(S:m.df g):g<w.heap.size:=(Array.getElem?_eq_some_iff.1 (r.df g S).2).1
theorem Rel.Sg(r:Rel P w0 m h w){w':World}{g:Nat}(Z:Dn w w' g)(Q:¬m.df g):∀k,m.df k->w0.heap.size<=k/\w'.heap[k]?=some (.deferred (some [])):=λk X=>
 ⟨(r.df k X).1,by rw[Z.block k (r.Qy X) (λe=>Q (e ▸ X))];exact(r.df k X).2⟩
theorem Rel.Sq(r:Rel P w0 m h w){w':World}{g:Nat}(Z:Dn w w' g)(Q:∀j,m.fz g j=none):∀g o v,m.fz g o=some v->∃cur e z,w'.heap[g]?=some (.cells cur e z)/\cur[o]?=some v:=by
 intro g' o v S;obtain⟨cur,e,z,h1,I⟩:=r.fz g' o v S;exact⟨cur,e,z,by rw[Z.block g' (r.Sf S) (λe=>by subst e;rw[Q]at S;cases S)];exact h1,I⟩
theorem Rel.ghost(r:Rel P w0 m h w)(o:Br):Rel P w0 m (h.push o) w:=by
 have old:∀id E o',m id=some E->(h.push o).get id=some o'->h.get id=some o':=λid E o' hm Q=>by
  rw[h.Cc o (r.On id E hm)]at Q;exact Q
 exact⟨r.below,λid E hm=>by have:=r.On id E hm;simp;omega,λid E o' hm Q=>r.obj id E o' hm (old id E o' hm Q),
  λid E o' hm Q=>r.own id E o' hm (old id E o' hm Q),λid id' E E' o1 o2 K h1 I g1 g2=>r.sep id id' E E' o1 o2 K h1 I (old _ _ _ h1 g1) (old _ _ _ I g2),r.fz,λid E o' hm Q=>r.Nc id E o' hm (old id E o' hm Q),r.df,λid E o' hm Q=>r.St id E o' hm (old id E o' hm Q)⟩
def BU.upd(m:BU)(id:Nat)(E:Ii):BU:=⟨λi=>if i=id then some E else m i,m.fz,m.df⟩
theorem BU.D8(m:BU)(id:Nat)(E:Ii):m.upd id E id=some E:=by simp[BU.upd]
theorem BU.KY(m:BU){id i:Nat}(E:Ii)(h:i≠id):m.upd id E i=m i:=by simp[BU.upd,h]
theorem BU.LL{m:BU}{id:Nat}(E:Ii)(h:m id=none):m.le (m.upd id E):=⟨λi F D=>by
 by_cases e:i=id
 ·subst e;rw[h]at D;cases D
 ·rw[BU.KY _ _ e];exact D,λ_ _ _ h=>h⟩
theorem BU.le_refl(m:BU):m.le m:=⟨λ_ _ h=>h,λ_ _ _ h=>h⟩
structure BU.ext(m:BU)(n:Nat)(m':BU):Prop where
 i:∀id,id<n->m' id=m id
 fz:∀g o v,m.fz g o=some v->m'.fz g o=some v
 df:∀g,m.df g->m'.df g
theorem BU.ext.refl(m:BU)(n:Nat):m.ext n m:=⟨λ_ _=>rfl,λ_ _ _ h=>h,λ_ h=>h⟩
theorem BU.ext.trans{a b c:BU}{n n':Nat}(h:a.ext n b)(k:b.ext n' c)(W:n<=n'):a.ext n c:=⟨λi hi=>(k.i i (by omega)).trans (h.i i hi),λg o v L=>k.fz g o v (h.fz g o v L),λg Q=>k.df g (h.df g Q)⟩
theorem BU.Oy(m:BU){n id:Nat}(E:Ii)(h:n<=id):m.ext n (m.upd id E):=⟨λj hj=>BU.KY m _ (by omega),λ_ _ _ h=>h,λ_ h=>h⟩
theorem Rel.place(r:Rel P w0 m h w){w':World}{id:Nat}{E:Ii}{o:Br}(Z:Dn w w' E.g)(hg0:w0.heap.size<=E.g)
  (hfree:∀id2 E2 o2,m id2=some E2->h.get id2=some o2->o2.live=true->E2.g≠E.g) (hfz:∀j,m.fz E.g j=none) (hdf:¬m.df E.g) (hid:m id=none) (J:h.get id=some o)
  (V:IV P (m.upd id E) w' E o):Rel P w0 (m.upd id E) h w':=by
 have hle:=BU.LL E hid;have other:∀{i F},m.upd id E i=some F->i≠id->m i=some F:=λh1 I=>by rw[BU.KY _ _ I]at h1;exact h1
 refine⟨Z.below r.below r.size hg0,λi F D=>?_,λi F o' D O=>?_,λi F o' D O H=>?_,λi i' F F' o1 o2 K h1 I g1 g2 H hlive=>?_,r.Sq Z hfz,λi F o' D O H=>?_,r.Sg Z hdf,λi F o' D O hl=>?_⟩
 ·by_cases e:i=id
  ·subst e;rw[BU.D8]at D;injection D with D;subst D;exact h.BZ J
  ·exact r.On i F (other D e)
 ·by_cases e:i=id
  ·subst e;rw[BU.D8]at D;injection D with D;subst D;rw[J]at O;injection O with O;subst O;exact V
  ·have hF':=other D e;exact(r.obj i F o' hF' O).mono hle λhl=>Z.block _ ((r.obj i F o' hF' O).lt hl) (hfree i F o' hF' O hl)
 ·by_cases e:i=id
  ·subst e;rw[BU.D8]at D;injection D with D;subst D;exact hg0
  ·exact r.own i F o' (other D e) O H
 ·by_cases e:i=id
  ·subst e;rw[BU.D8]at h1;injection h1 with h1;subst h1;exact λhh=>hfree i' F' o2 (other I (λe=>K e.symm)) g2 hlive hh.symm
  ·by_cases e':i'=id
   ·subst e';rw[BU.D8]at I;injection I with I;subst I;exact hfree i F o1 (other h1 e) g1 (Br.Ft H)
   ·exact r.sep i i' F F' o1 o2 K (other h1 e) (other I e') g1 g2 H hlive
 ·by_cases e:i=id
  ·subst e;rw[BU.D8]at D;injection D with D;subst D;exact hfz
  ·exact r.Nc i F o' (other D e) O H
 ·by_cases e:i=id
  ·subst e;rw[BU.D8]at D;injection D with D;subst D;exact hdf
  ·exact r.St i F o' (other D e) O hl
theorem Rel.new(r:Rel P w0 m h w){w':World}{E:Ii}{o:Br}(Z:Dn w w' E.g)(Q:E.g=w.heap.size)
  (V:IV P (m.upd h.size E) w' E o):Rel P w0 (m.upd h.size E) (h.push o) w':=by
 refine(r.ghost o).place Z (by rw[Q];exact r.size) (λid2 E2 o2 I ho2 hl2=>?_) (r.RS (by omega)) (λhd=>by have:=r.Qy hd;omega) (r.fresh (zq _)) (h.Bh o) V;have:=((r.ghost o).obj id2 E2 o2 I ho2).lt hl2;omega
theorem Rel.write(r:Rel P w0 m h w){w':World}{id:Nat}{E:Ii}{o o':Br}(hE:m id=some E)(J:h.get id=some o)(H:o.own=true)(hown':o'.own=true)
  (Z:Dn w w' E.g) (V:IV P m w' E o'):Rel P w0 m (h.set id o') w':=by
 have hid:=h.BZ J;have hB:=r.own id E o hE J H;have get':∀i x,(h.set id o').get i=some x->(i=id/\x=o')\/(i≠id/\h.get i=some x):=λi x C=>by
  by_cases e:i=id
  ·subst e;rw[h.Cf o' hid]at C;injection C with C;exact .inl ⟨rfl,C.symm⟩
  ·rw[h.Cj o' hid e]at C;exact .inr ⟨e,C⟩
 refine⟨Z.below r.below r.size hB,r.On,λi F x D C=>?_,λi F x D C N=>?_,λi i' F F' x x' K h1 I g1 g2 a b=>?_,r.Sq Z (r.Nc id E o hE J H),λi F x D C N=>?_,r.Sg Z (r.St id E o hE J (Br.Ft H)),λi F x D C hxl=>?_⟩
 ·rcases get' i x C with⟨rfl,rfl⟩|⟨hi,C⟩
  ·rw[hE]at D;injection D with D;subst D;exact V
  ·refine(r.obj i F x D C).mono (BU.le_refl m) λhl=>Z.block _ ((r.obj i F x D C).lt hl) λe=>?_;exact r.sep id i E F o x (λe=>hi e.symm) hE D J C H hl e.symm
 ·rcases get' i x C with⟨rfl,rfl⟩|⟨hi,C⟩
  ·rw[hE]at D;injection D with D;subst D;exact hB
  ·exact r.own i F x D C N
 ·rcases get' i x g1 with⟨rfl,rfl⟩|⟨hi,C⟩
  ·rcases get' i' x' g2 with⟨rfl,rfl⟩|⟨hi',U⟩
   ·exact absurd rfl K
   ·rw[hE]at h1;injection h1 with h1;subst h1;exact r.sep i i' _ F' o x' K hE I J U H b
  ·rcases get' i' x' g2 with⟨rfl,rfl⟩|⟨hi',U⟩
   ·rw[hE]at I;injection I with I;subst I;exact λe=>r.sep i' i _ F o x (λe=>hi e.symm) hE h1 J C H (Br.Ft a) e.symm
   ·exact r.sep i i' F F' x x' K h1 I C U a b
 ·rcases get' i x C with⟨rfl,rfl⟩|⟨hi,C⟩
  ·rw[hE]at D;injection D with D;subst D;exact r.Nc _ _ o hE J H
  ·exact r.Nc i F x D C N
 ·rcases get' i x C with⟨rfl,rfl⟩|⟨hi,C⟩
  ·rw[hE]at D;injection D with D;subst D;exact r.St _ _ o hE J (Br.Ft H)
  ·exact r.St i F x D C hxl
theorem Rel.Vv(r:Rel P w0 m h w){id:Nat}{gr:Option TypeId}{st:Nat}{cs cs':List AD}{h':AE}(J:h.get id=some (.cells gr st cs))(hs:h'.size=h.size)(h1:h'.get id=some (.cells gr 0 cs'))(I:∀i,i≠id->h'.get i=h.get i)(Y:∀E,m id=some E->Vy m E cs'):Rel P w0 m h' w:=by
 have get':∀i x,h'.get i=some x->(i=id/\x=.cells gr 0 cs')\/(i≠id/\h.get i=some x):=λi x C=>by
  by_cases e:i=id
  ·subst e;rw[h1]at C;injection C with C;exact .inl ⟨rfl,C.symm⟩
  ·rw[I _ e]at C;exact .inr ⟨e,C⟩
 refine⟨r.below,λi F D=>by rw[hs];exact r.On i F D,λi F x D C=>?_,λi F x D C N=>?_,λi i' F F' x x' K h1 I g1 g2 a b=>?_,r.fz,λi F x D C N=>?_,r.df,λi F x D C hxl=>?_⟩
 ·rcases get' i x C with⟨rfl,rfl⟩|⟨hi,C⟩
  ·exact⟨⟨⟨(r.obj i F _ D J).1.1.1,λ_=>Y F D⟩,λ_ h=>by cases h⟩,λh=>absurd rfl h⟩
  ·exact r.obj i F x D C
 ·rcases get' i x C with⟨rfl,rfl⟩|⟨hi,C⟩
  ·simp[Br.own]at N
  ·exact r.own i F x D C N
 ·rcases get' i x g1 with⟨rfl,rfl⟩|⟨hi,C⟩
  ·simp[Br.own]at a
  ·rcases get' i' x' g2 with⟨rfl,rfl⟩|⟨hi',U⟩
   ·simp[Br.live]at b
   ·exact r.sep i i' F F' x x' K h1 I C U a b
 ·rcases get' i x C with⟨rfl,rfl⟩|⟨hi,C⟩
  ·simp[Br.own]at N
  ·exact r.Nc i F x D C N
 ·rcases get' i x C with⟨rfl,rfl⟩|⟨hi,C⟩
  ·simp[Br.live]at hxl
  ·exact r.St i F x D C hxl
theorem Rel.kill(r:Rel P w0 m h w){id:Nat}{gr:Option TypeId}{st:Nat}{cs:List AD}(J:h.get id=some (.cells gr st cs)):Rel P w0 m (h.set id (.cells gr 0 [])) w:=
 r.Vv J (h.size_set _ _) (h.Cf _ (h.BZ J)) (λ_ hi=>h.Cj _ (h.BZ J) hi) λ_ _=>Vy.nil
def BU.still(m:BU)(g:Nat)(cur:Array Value):BU:=⟨m.i,λg' j=>if g'=g then cur[j]? else m.fz g' j,m.df⟩
theorem BU.Qt{m:BU}{g:Nat}{cur:Array Value}(S:∀j,m.fz g j=none):m.le (m.still g cur):=⟨λ_ _ h=>h,λg' o v L=>by
 by_cases e:g'=g
 ·subst e;rw[S]at L;cases L
 ·simp only[BU.still,zk e];exact L⟩
theorem Rel.freeze(r:Rel P w0 m h w){id:Nat}{E:Ii}{gr:Option TypeId}{cs:List AD}(hE:m id=some E)(J:h.get id=some (.cells gr 2 cs)):
    ∃cur,Rel P w0 (m.still E.g cur) (h.set id (.cells gr 0 cs)) w/\m.le (m.still E.g cur)/\cur.size=E.total/\E.QG=Kv P gr/\∀(j:Nat) (a:AD),cs[j]?=some a->∃c,cur[E.base+j]?=some c/\VR m a c:=by
  have S:=r.Nc id E _ hE J rfl;obtain⟨he,hc⟩:=r.obj id E _ hE J;obtain⟨cur,e,fz,h1,I,h3,h4⟩:=hc (by simp);have hle:=BU.Qt (m:=m) (g:=E.g) (cur:=cur) S;refine⟨cur,?_,hle,I,he.1.1,λj a M=>(h3 j a M).2⟩;have k:=r.kill J;have hid:=h.BZ J;have k1:Rel P w0 (m.still E.g cur) (h.set id (.cells gr 0 [])) w:=by
   refine⟨k.below,k.On,λi F x D C=>(k.obj i F x D C).mono hle λ_=>rfl,k.own,k.sep,λg' j v L=>?_,λi F x D C N=>?_,k.df,k.St⟩
   · by_cases e':g'=E.g
     · subst e'
       simp only[BU.still,if_true]at L;exact⟨cur,e,fz,h1,L⟩
     · simp only[BU.still,zk e']at L
       exact k.fz g' j v L
   · have K:i≠id:=by
       intro e';subst e';rw[h.Cf _ hid]at C;injection C with C;subst C;simp[Br.own]at N
     have U:h.get i=some x:=by rw[h.Cj _ hid K]at C;exact C
     have Q:F.g≠E.g:=λe'=>r.sep id i E F _ x (λe=>K e.symm) hE D J U rfl (Br.Ft N) e'.symm;intro j;simp only[BU.still,zk Q];exact r.Nc i F x D U N j
  refine k1.Vv (cs':=cs) (h.Cf _ hid) (by rw[h.size_set,h.size_set]) (h.Cf _ hid) (λi hi=>by rw[h.Cj _ hid hi,h.Cj _ hid hi]) λE' hE'=>?_;obtain rfl:E=E':=zW (hE.symm.trans hE');intro j a M;obtain⟨c,g1,g2⟩:=(h3 j a M).2;exact⟨c,by simp only[BU.still,if_true];exact g1,g2.mono hle⟩
end
def FR(m:BU)(fr:Fr)(a:Act):Prop:=fr.length=a.tmps.size/\∀i,VR m (nth fr i) (a.tmps.getD i undef)
theorem FR.mono{m m':BU}(hm:m.le m'){fr:Fr}{a:Act}(h:FR m fr a):FR m' fr a:=⟨h.1,λi=>(h.2 i).mono hm⟩
theorem FR.ev{m:BU}{fr:Fr}{a:Act}(h:FR m fr a)(x:Operand):VR m (ev fr x) (a.eval x):=by
 cases x with
 |tmp t=>exact h.2 t
 |const v=>exact VR.Pf m v
 |global g=>exact .GM g 0
 |func f=>exact .func _ _ _ _ _ rfl (λi x y C=>by simp at C) rfl (λi x y C=>by simp at C)
theorem FR.put{m:BU}{fr:Fr}{a:Act}(h:FR m fr a)(d:Option Tmp){x:AD}{v:Value}(L:VR m x v):FR m (put fr d x) (a.put d v):=by
 cases d with
 |none=>exact h
 | some d=>
  refine⟨by simp[Av.put,Act.put,h.1],λi=>?_⟩;show VR m (nth (fr.set d x) i) ((a.tmps.setIfInBounds d v).getD i undef);rw[GR];by_cases e:d=i/\d<fr.length
  ·rw[zj e];obtain⟨rfl,hd⟩:=e;rw[h.1]at hd;simpa[zm,Array.getElem?_setIfInBounds,hd]using L
  ·rw[zk e];have:(a.tmps.setIfInBounds d v).getD i undef=a.tmps.getD i undef:=by
    simp only[zm,Array.getElem?_setIfInBounds];by_cases e1:d=i
    ·subst e1;have:¬d<a.tmps.size:=λh'=>e ⟨rfl,by rw[h.1];exact h'⟩;simp[this]
    ·simp[e1]
   rw[this];exact h.2 i
theorem FR.U1{m:BU}{fr:Fr}{a:Act}(h:FR m fr a)(l:List Operand):B5 m (l.map (Av.ev fr)) (l.map a.eval):=B5.map _ _ l λx _=>h.ev x
theorem VR.Hf(m:BU):VR m (.tuple []) Go.undef:=.tuple [] #[] rfl λi x y h=>by simp at h
theorem VR.IG{m:BU}{x:AD}{v:Value}(h:VR m x v):VR m (IG x) v:=by
 unfold Av.IG;split
 ·cases h<;>exact .N0 _ _
 ·exact h
theorem B5.IG{m:BU}{a:List AD}{c:List Value}(h:B5 m a c):B5 m (a.map Av.IG) c:=by
 refine⟨by simpa using h.1,λi x y C R=>?_⟩;rw[List.getElem?_map]at C;simp only[zh]at C;obtain⟨z,Y,rfl⟩:=C;exact(h.2 i z y Y R).IG
theorem VR.UF{m:BU}{x:AD}{v:Value}(h:VR m x v):VR m (UF x) v:=by
 unfold Av.UF;split
 ·obtain⟨c,rfl,L⟩:=h.D1;exact B5.agg L.IG
 ·exact h.IG
theorem B5.CB{m:BU}:∀(bs:List Bool) {a:List AD} {c:List Value},B5 m a c->B5 m (CB bs a) c
 |[],a,c,h=>by cases a<;>exact h
 |true::bs,[],c,h=>h
 |false::bs,[],c,h=>h
 |b::bs,x::a,[],h=>by simp[B5]at h
 |b::bs,x::a,y::c,h=>by
  have hc:=h.2 0 x y rfl rfl;have L:B5 m a c:=⟨by simpa using h.1,λi u v C R=>h.2 (i+1) u v (by simpa using C) (by simpa using R)⟩;cases b
  ·exact .cons hc (B5.CB bs L)
  ·exact .cons hc.UF (B5.CB bs L)
theorem VR.Fq{m m':BU}{x:AD}{v:Value}(S:Fq x=true)(h:VR m' x v):VR m x v:=by
 cases h<;>simp[Av.Fq]at S
 ·exact .bool _
 ·exact .int _ _
 ·exact .str _
 ·exact .Il
 ·exact .Db
 ·exact .HL _
 ·exact .Iv
 ·exact .Hc
 ·exact .nilFunc
 ·exact .nilIface
theorem VR.HS{m m':BU}{x:AD}{v:Value}(S:HS x=true)(h:VR m' x v):VR m x v:=by
 unfold Av.HS at S;split at S
 ·rename_i cs;obtain⟨c,rfl,L⟩:=h.D1;refine B5.agg ⟨L.1,λi a b M T=>?_⟩;exact(L.2 i a b M T).Fq (zC.1 S a (zQ M))
 ·exact h.Fq S
def CL(G:Nat->Option (List AD))(w0:World):Prop:=
 (∀g cs,G g=some cs->g<w0.heap.size/\∃cur e fz,w0.heap[g]?=some (.cells cur e fz)/\∀(j:Nat) (a:AD),cs[j]?=some a->a.one=true/\Av.Fq a=true/\∃c,cur[j]?=some c/\VR ⟨λ_=>none,λ_ _=>none,λ_=>False⟩ a c)/\
 ∀g,G g=some []->∃n:Int,w0.cell? ⟨g,0,none⟩=some (.int .i64 n)
theorem CL.later{G:Nat->Option (List AD)}{w0 w:World}(Y:CL G w0)(T:Below w0.heap.size w0 w):CL G w:=⟨λg cs h=>by
 obtain⟨hlt,cur,e,fz,hc,L⟩:=Y.1 g cs h;exact⟨zL hlt T.size,cur,e,fz,by rw[T.block g hlt];exact hc,L⟩,λg h=>by
 obtain⟨hlt,-⟩:=Y.1 g [] h;obtain⟨n,W⟩:=Y.2 g h;refine⟨n,?_⟩;unfold World.cell? at W⊢;rw[show w.heap[(⟨g,0,Option.none⟩:Addr).block]?=w0.heap[(⟨g,0,Option.none⟩:Addr).block]? from T.block g hlt]
 exact W⟩
theorem CL.rel{P:Program}{G:Nat->Option (List AD)}{w0 w:World}(Y:CL G w0)(T:Below w0.heap.size w0 w){g:Nat}{cs:List AD}(Q:G g=some cs):
  ∃tot,Rel P w0 ⟨λid=>if id=0 then some ⟨g,0,0,tot⟩else Option.none,λ_ _=>Option.none,λ_=>False⟩ ((⟨0,.leaf⟩:AE).push (.cells Option.none 1 cs)) w/\∀a∈cs,Av.Fq a=true:=by
 obtain⟨hlt,cur,e,fz,hc,L⟩:=Y.1 g cs Q;have key:∀id o,((⟨0,.leaf⟩:AE).push (.cells Option.none 1 cs)).get id=some o->id=0/\o=.cells Option.none 1 cs:=by
  intro id o J;rw[AE.KA]at J;split at J
  ·rename_i h0;injection J with J;exact⟨h0,J.symm⟩
  ·have:((⟨0,.leaf⟩:AE).get id)=Option.none:=by
    unfold AE.get;cases Nat.blt id (⟨0,.leaf⟩:AE).size<;>rfl
   rw[this]at J;cases J
 refine⟨cur.size,⟨T,λid E hE=>?_,λid E o hE J=>?_,λid E o hE J H=>?_,λid id' E E' o o' K h1 I g1 g2 H=>?_,λg o v L=>by(cases L),λid E o hE J H j=>rfl,λg Q=>Q.elim,λid E o hE J hl hd=>hd⟩,λa M=>?_⟩
 ·dsimp only at hE;split at hE
  ·rename_i h0;subst h0;simp
  ·cases hE
 ·obtain⟨rfl,rfl⟩:=key id o J;simp only[if_true,zd]at hE;subst hE;refine⟨⟨⟨rfl,λh=>by cases h⟩,λ_ h=>by cases h⟩,λ_=>⟨cur,e,fz,by rw[T.block g hlt];exact hc,rfl,λj a M=>?_,λh=>by cases h⟩⟩;obtain⟨h1,I,c,h3,h4⟩:=L j a M;exact⟨h1,c,by simpa using h3,h4.Fq I⟩
 ·obtain⟨rfl,rfl⟩:=key id o J;simp[Br.own]at H
 ·obtain⟨rfl,rfl⟩:=key id o g1;simp[Br.own]at H
 ·obtain⟨j,hj,rfl⟩:=List.getElem_of_mem M;exact(L j _ (List.getElem?_eq_getElem hj)).2.1
end Go.Av
end
/-
 A part.
-/
section
namespace Go.Av
open Go.RowKit
section
variable {P:Program} (w:World)
theorem Ah{t:TypeId}{d:TypeDesc}(h:P.underlying t=some d):(underlying t).run P w=.ok d w:=run_underlying h w
theorem run_sizeOf{t:TypeId}{n:Nat}(h:B9 P t=some n):(sizeOf t).run P w=.ok n w:=by
 unfold B9 at h;cases hi:P.info? t with
 |none=>simp[hi]at h
 |some i=>simp[hi]at h;subst h;simp[sizeOf,typeInfo,hi]
theorem HZ{t:TypeId}{b:Bool}(h:Hi P t=some b):(isAgg t).run P w=.ok b w:=by
 unfold Hi at h;cases hu:P.underlying t with
 |none=>simp[hu]at h
 |some d=>
  simp only[isAgg,Sem.run_bind,Ah w hu,Result.andThen_ok];rw[hu]at h;cases d<;>simp at h<;>subst h<;>rfl
theorem FL{m:BU}{t:TypeId}{cs:List AD}{ds:Array Value}{off:Nat}{x:AD}(L:B5 m cs ds.toList)(h:EV P t cs off=some x):
  ∃y,(part t ds off).run P w=.ok y w/\VR m x y:=by
 unfold EV at h;cases M:Hi P t with
 |none=>simp[M]at h
 | some b=>
  cases b with
  | true=>
   simp only[M]at h;cases W:B9 P t with
   |none=>simp[W]at h
   | some n=>
    simp only[W,za]at h;split at h
    ·rename_i hle;injection h with h;subst h;refine⟨.agg (ds.extract off (off+n)),by simp[part,HZ w M,run_sizeOf w W],B5.agg ?_⟩;have:=(L.drop off).take n;simpa[Array.toList_extract]using this
    ·cases h
  |false=>
   simp only[M]at h;obtain⟨y,R,L⟩:=L.at_ h;have hy':ds[off]?=some y:=by simpa using R
   exact⟨y,by simp[part,HZ w M,hy'],L⟩
theorem IT{m:BU}(eq:TypeId->AD->AD->Option Bool)(d:Nat)
  (ih:∀t x y x' y' b,VR m x x'->VR m y y'->eq t x y=some b->(Op.equalIn d t x' y').run P w=.ok b w)
  (xs ys:List AD) (xs' ys':Array Value) (C:B5 m xs xs'.toList) (R:B5 m ys ys'.toList):
  ∀(fs:List Field) (b:Bool),eqFields P eq xs ys fs=some b->(Op.eqFields d xs' ys' fs).run P w=.ok b w
 |[],b,h=>by simp[eqFields]at h;subst h;simp[Op.eqFields]
 | f ::fs,b,h=>by
  have rec_:=IT eq d ih xs ys xs' ys' C R fs b;unfold eqFields at h;unfold Op.eqFields;by_cases W:f.name="_"
  ·rw[zj W]at h;rw[zk (by simpa using W)];exact rec_ h
  ·rw[zk W]at h;rw[zj W];split at h
   ·rename_i a c M hc;obtain⟨a',ra,va⟩:=FL w C M;obtain⟨c',rc,vc⟩:=FL w R hc;split at h
    ·rename_i he;have:=ih _ _ _ _ _ _ va vc he;simpa[ra,rc,this]using rec_ h
    ·rename_i he;injection h with h;subst h;have:=ih _ _ _ _ _ _ va vc he;simp[ra,rc,this]
    ·cases h
   ·cases h
theorem JG{m:BU}(eq:TypeId->AD->AD->Option Bool)(d:Nat)
  (ih:∀t x y x' y' b,VR m x x'->VR m y y'->eq t x y=some b->(Op.equalIn d t x' y').run P w=.ok b w)
  (e:TypeId) (z:Nat) (xs ys:List AD) (xs' ys':Array Value) (C:B5 m xs xs'.toList) (R:B5 m ys ys'.toList):
  ∀(n i:Nat) (b:Bool),GQ P eq e z xs ys n i=some b->(Op.eqItems d e z xs' ys' (List.range' i n)).run P w=.ok b w
 |0,i,b,h=>by simp[GQ]at h;subst h;simp[Op.eqItems]
 | n+1,i,b,h=>by
  have rec_:=JG eq d ih e z xs ys xs' ys' C R n (i+1) b;unfold GQ at h;rw[List.range'_succ];unfold Op.eqItems;split at h
  ·rename_i a c M hc;obtain⟨a',ra,va⟩:=FL w C M;obtain⟨c',rc,vc⟩:=FL w R hc;split at h
   ·rename_i he;have:=ih _ _ _ _ _ _ va vc he;simpa[ra,rc,this]using rec_ h
   ·rename_i he;injection h with h;subst h;have:=ih _ _ _ _ _ _ va vc he;simp[ra,rc,this]
   ·cases h
  ·cases h
theorem OH(a b:List UInt8):((⟨⟨a⟩⟩:ByteArray)==⟨⟨b⟩⟩)=(a==b):=by
 rw[beq_toListBytes,ByteArray.toList_eq,ByteArray.toList_eq]
theorem G2{m:BU}:∀(d:Nat) (t:TypeId) (x y:AD) (x' y':Value) (b:Bool),VR m x x'->VR m y y'->Hb P d t x y=some b->(Op.equalIn d t x' y').run P w=.ok b w
 |0,_,_,_,_,_,_,_,_,h=>by simp[Hb]at h
 | d +1,t,x,y,x',y',b,C,R,h=>by
  have ih:=G2 (m:=m) d;unfold Hb at h;cases hu:P.underlying t with
  |none=>simp[hu]at h
  | some u=>
   rw[hu]at h;split at h
   ·rename_i e;injection e with e;subst e;injection h with h;subst h;cases C;cases R;simp[Op.equalIn,Ah w hu]
   ·rename_i e;injection e with e;subst e;cases C;cases R;split at h
    ·rename_i X;injection h with h;subst h;subst X;simp[Op.equalIn,Ah w hu]
    ·cases h
   ·rename_i e;injection e with e;subst e;injection h with h;subst h;rw[C.C3,R.C3];simp[Op.equalIn,Ah w hu,OH]
   ·rename_i e;injection e with e;subst e;injection h with h;subst h;cases C;cases R<;>simp[Op.equalIn,Ah w hu]
   ·rename_i e;injection e with e;subst e;injection h with h;subst h;cases C;cases R<;>simp[Op.equalIn,Ah w hu]
   ·rename_i e;injection e with e;subst e;injection h with h;subst h;cases C;cases R<;>simp[Op.equalIn,Ah w hu]
   ·rename_i e;injection e with e;subst e;injection h with h;subst h;cases C;cases R<;>simp[Op.equalIn,Ah w hu]
   ·rename_i e;injection e with e;subst e;injection h with h;subst h;cases C;cases R<;>simp[Op.equalIn,Ah w hu]
   ·rename_i e;injection e with e;subst e;injection h with h;subst h;cases C;cases R<;>simp[Op.equalIn,Ah w hu]
   ·rename_i e;injection e with e;subst e;injection h with h;subst h;cases C;cases R<;>simp[Op.equalIn,Ah w hu]
   ·rename_i e;injection e with e;subst e;injection h with h;subst h;cases C;cases R<;>simp[Op.equalIn,Ah w hu]
   ·rename_i fs xs ys e;injection e with e;subst e;obtain⟨xs',rfl,vx⟩:=C.D1;obtain⟨ys',rfl,vy⟩:=R.D1;split at h
    ·cases h
    ·rename_i hs;have S:P.fieldsOf t=fs:=by simp[Program.fieldsOf,hu]
     rw[run_equalIn_struct w d t xs' ys' (by rw[S];exact hu) (by simpa using hs),S];exact IT w (Hb P d) d ih _ _ _ _ vx vy _ _ h
   ·rename_i n e xs ys eq;injection eq with eq;subst eq;obtain⟨xs',rfl,vx⟩:=C.D1;obtain⟨ys',rfl,vy⟩:=R.D1;cases Y:B9 P e with
    |none=>simp[Y]at h
    | some z=>
     rw[Y,za]at h;have hz':=Y;unfold B9 at hz';cases hi:P.info? e with
     |none=>simp[hi]at hz'
     |some i=>
      have hc:P.cellsOf e=z:=by simp[hi]at hz';simp[Program.cellsOf,hi,hz']
      rw[run_equalIn_array w d xs' ys' hu hi,hc,List.range_eq_range'];exact JG w (Hb P d) d ih e z _ _ _ _ vx vy _ _ _ h
   ·cases h
end
end Go.Av
end
