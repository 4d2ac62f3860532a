/-
 A part.
-/
import Derived.Test.YtgkbpgefomapgaaGreatDoorAvRel
set_option linter.unusedSimpArgs false
namespace Go.Av
open Go.RowKit
def Dc.live:Dc->Bool
 | .cells _ st _=>st !=0
 | .map st _=>st !=0
 | .iter _ _=>true
 | .loop .. =>true
 | .chan .. =>true
def Dc.own:Dc->Bool
 | .cells _ st _=>st==2
 | .map st _=>st==2
 | .iter _ _=>true
 | .loop .. =>true
 | .chan .. =>true
theorem Dc.JK{o:Dc}(h:o.own=true):o.live=true:=by
 cases o<;>simp[Dc.own,Dc.live]at * <;>omega
def MP(P:Program):Option TypeId->Nat
 |some e=>P.cellsOf e
 |none=>0
def bq:Nat->LoopState
 |0=>.ready
 |1=>.busy
 |2=>.done
 |_=>.exhausted
def O4(e:MapEntry):Option ByteArray:=
 match e.key with
 | .string s=>some s
 |_=>none
def LW(ents:Array MapEntry)(clock:Nat):Prop:=(∀x∈ents.toList,x.born<clock)/\(ents.toList.map (·.born)).Nodup/\(ents.toList.filterMap O4).Nodup
theorem LW.nil:LW #[] 0:=⟨by simp,by simp,by simp⟩
theorem LW.push{ents:Array MapEntry}{clock:Nat}(h:LW ents clock){k v:Value}(Z:∀s,k=.string s->s∉ents.toList.filterMap O4):LW (ents.push {key:=k,val:=v,born:=clock}) (clock+1):=by
 obtain⟨h1,I,h3⟩:=h;refine⟨λx C=>?_,?_,?_⟩
 ·rw[qv,zp]at C;rcases C with C|C
  ·have:=h1 x C;omega
  ·simp at C;subst C;exact Nat.lt_succ_self _
 ·rw[qv,yp,z8];refine⟨I,by simp,λa T b S=>?_⟩;obtain⟨x,C,rfl⟩:=z7.1 T;simp at S;subst S;have:=h1 x C;omega
 ·rw[qv,List.filterMap_append,z8];refine⟨h3,?_,λa T b S=>?_⟩
  ·cases e:O4 {key:=k,val:=v,born:=clock}<;>simp[e]
  ·cases k<;>simp[O4]at S;subst S;rintro rfl;exact Z _ rfl T
theorem LW.erase{ents:Array MapEntry}{clock:Nat}(h:LW ents clock)(i:Nat):LW (ents.eraseIdxIfInBounds i) clock:=by
 have hs:(ents.eraseIdxIfInBounds i).toList.Sublist ents.toList:=by
  unfold Array.eraseIdxIfInBounds;split
  ·simp only[Array.toList_eraseIdx];exact List.eraseIdx_sublist _ _
  ·exact List.Sublist.refl _
 exact⟨λx C=>h.1 x (hs.subset C),List.Nodup.sublist (hs.map _) h.2.1,List.Nodup.sublist (hs.filterMap _) h.2.2⟩
theorem LW.modify{ents:Array MapEntry}{clock:Nat}(h:LW ents clock){i:Nat}(hi:i<ents.size){k v:Value}(Z:O4 {ents[i]with key:=k,val:=v}=O4 ents[i]):LW (ents.modify i λe=>{e with key:=k,val:=v}) clock:=by
 have X:(ents.modify i λe=>{e with key:=k,val:=v}).toList=ents.toList.set i {ents[i]with key:=k,val:=v}:=by
  apply qa;intro j;rw[Array.getElem?_toList,Array.getElem?_modify,List.getElem?_set];by_cases hj:i=j
  ·subst hj;simp[hi]
  ·simp[hj]
 have same:∀{β:Type} (f:MapEntry->β),f {ents[i]with key:=k,val:=v}=f ents[i]->(ents.toList.set i {ents[i]with key:=k,val:=v}).map f=ents.toList.map f:=λf R=>by
  apply qa;intro j;rw[List.getElem?_map,List.getElem?_map,List.getElem?_set];by_cases hj:i=j
  ·subst hj;simp[hi,R]
  ·simp[hj]
 refine⟨λx C=>?_,?_,?_⟩
 ·rw[X]at C;rcases yZ C with C|rfl
  ·exact h.1 x C
  ·exact h.1 ents[i] (by simp)
 ·rw[X,same _ rfl];exact h.2.1
 ·have e:∀l:List MapEntry,l.filterMap O4=(l.map O4).filterMap id:=λl=>by rw[List.filterMap_map];rfl
  rw[X,e,same _ Z,<-e];exact h.2.2
abbrev Ua(n:Nat)(fz:Nat×Nat):Prop:=fz.1=fz.2\/n<=fz.1
theorem Ua.no{n:Nat}{fz:Nat×Nat}(h:Ua n fz):∀j,j<n->¬(fz.1<=j/\j<fz.2):=λj hj=>by rcases h with h|h<;>omega
def Y5(m:CU)(E:NQ)(cs:List AE):Prop:=∀(j:Nat) (a:AE),cs[j]?=some a->∃c,m.fz E.g (E.base+j)=some c/\VR m a c
theorem Y5.mono{m m':CU}{E:NQ}{cs:List AE}(hm:m.le m')(h:Y5 m E cs):Y5 m' E cs:=λj a T=>by
 obtain⟨c,h1,I⟩:=h j a T;exact⟨c,hm.fz _ _ _ h1,I.mono hm⟩
theorem Y5.nil{m:CU}{E:NQ}:Y5 m E []:=λj a T=>by simp at T
def Mc:AE×AE->Bool
 |(.str _,_)=>true
 |_=>false
structure OD(st:Nat)(es es':List (AE×AE)):Prop where
 same:st≠3->es'=es
 perm:st=3->es'.Perm es/\es.all Mc=true/\(es.map Prod.fst).Nodup
theorem OD.refl{st:Nat}{es:List (AE×AE)}(h:st≠3):OD st es es:=⟨λ_=>rfl,λe=>absurd e h⟩
theorem OD.len{st:Nat}{es es':List (AE×AE)}(h:OD st es es'):es'.length=es.length:=by
 by_cases e:st=3
 ·exact(h.perm e).1.length_eq
 ·rw[h.same e]
theorem SC:∀{es:List (AE×AE)},(es.map Prod.fst).Nodup->∀{k u v:AE},(k,u)∈es->(k,v)∈es->u=v
 |[],_,_,_,_,h1,_=>by cases h1
 |p::es,hn,k,u,v,h1,I=>by
  rw[yE,yG]at hn;rcases zT.1 h1 with e1|h1<;>rcases zT.1 I with e2|I
  ·rw[<-e1]at e2;cases e2;rfl
  ·exact absurd (z7.2 ⟨_,I,by rw[<-e1]⟩) hn.1
  ·exact absurd (z7.2 ⟨_,h1,by rw[<-e2]⟩) hn.1
  ·exact SC hn.2 h1 I
def OY(m:CU)(w:World)(E:NQ)(es:List (AE×AE)):Prop:=∃ents clock,w.heap[E.g]?=some (.map ents clock)/\es.length=ents.size/\
 (∀(i:Nat) (k v:AE) (e:MapEntry),es[i]?=some (k,v)->ents[i]?=some e->VR m k e.key/\VR m v e.val)/\LW ents clock
theorem OY.two{st:Nat}{m:CU}{w:World}{E:NQ}{es:List (AE×AE)}(h:∃es',OD st es es'/\OY m w E es')(hs:st≠3):OY m w E es:=by
 obtain⟨es',h1,I⟩:=h;rw[h1.same hs]at I;exact I
theorem OY.of{st:Nat}{m:CU}{w:World}{E:NQ}{es:List (AE×AE)}(h:OY m w E es)(hs:st≠3):∃es',OD st es es'/\OY m w E es':=⟨es,.refl hs,h⟩
def Oe(P:Program)(m:CU)(w:World)(E:NQ):Dc->Prop
 | .cells gr st cs=>((E.VX=MP P gr/\(st=0->Y5 m E cs))/\(gr=none->st=2->E.base=0))/\(st≠0->∃cur e fz,w.heap[E.g]?=some (.cells cur e fz)/\cur.size=E.total/\
   (∀(j:Nat) (a:AE),cs[j]?=some a->a.one=true/\∃c,cur[E.base+j]?=some c/\VR m a c)/\(st=2->Ua E.total fz))
 | .map st es=>E.base=0/\(st≠0->∃es',OD st es es'/\OY m w E es')
 | .iter s pos=>E.base=0/\w.heap[E.g]?=some (.stringIter ⟨⟨s⟩⟩ pos)
 | .loop st pend _ fr ps a b=>∃(tmps:Array Value) (d fn:Nat),w.heap[E.g]?=some (.loop ⟨bq st,pend,fn,tmps,ps.toArray,a,b,d⟩)/\fr.length=tmps.size/\∀i,VR m (nth fr i) (tmps.getD i undef)
 | .chan cap buf=>∃(bs:Array Value) (sn rc:Nat),w.heap[E.g]?=some (.chan cap bs false sn rc false)/\Dt m buf bs.toList
structure Rel(P:Program)(w0:World)(m:CU)(h:AS)(w:World):Prop where
 below:Below w0.heap.size w0 w
 Vt:∀id E,m id=some E->id<h.size
 obj:∀id E o,m id=some E->h.get id=some o->Oe P m w E o
 own:∀id E o,m id=some E->h.get id=some o->o.own=true->w0.heap.size<=E.g
 sep:∀id id' E E' o o',id≠id'->m id=some E->m id'=some E'->h.get id=some o->h.get id'=some o'->o.own=true->o'.live=true->E.g≠E'.g
 fz:∀g o v,m.fz g o=some v->∃cur e z,w.heap[g]?=some (.cells cur e z)/\cur[o]?=some v
 O7:∀id E o,m id=some E->h.get id=some o->o.own=true->∀j,m.fz E.g j=none
 df:∀g,m.df g->w0.heap.size<=g/\w.heap[g]?=some (.deferred (some []))
 WW:∀id E o,m id=some E->h.get id=some o->o.live=true->¬m.df E.g
structure GS(w w':World)(g:Nat):Prop where
 os:w'.os=w.os
 tape:w'.tape=w.tape
 output:w'.output=w.output
 size:w.heap.size<=w'.heap.size
 block:∀k,k<w.heap.size->k≠g->w'.heap[k]?=w.heap[k]?
theorem GS.refl(w:World)(g:Nat):GS w w g:=⟨rfl,rfl,rfl,zo _,λ_ _ _=>rfl⟩
theorem GS.below{w0 w w':World}{B g:Nat}(h:GS w w' g)(S:Below B w0 w)(hB:B<=w.heap.size)(Q:B<=g):Below B w0 w':=
 ⟨h.os.trans S.os,h.tape.trans S.tape,h.output.trans S.output,zV S.size h.size,λk Z=>(h.block k (by omega) (by omega)).trans (S.block k Z)⟩
theorem GS.alloc(w:World)(o:Obj)(g:Nat):GS w (w.alloc o) g:=⟨rfl,rfl,rfl,by simp,λk Z _=>Below.heap_alloc w o k Z⟩
theorem GS.alloc_drew(w:World)(o:Obj)(g:Nat):GS w (w.drew.alloc o) g:=⟨rfl,rfl,rfl,(GS.alloc w.drew o g).size,λk Z _=>Below.heap_alloc w.drew o k Z⟩
theorem GS.drew{w w':World}{g:Nat}(h:GS w w' g):GS w w'.drew g:=⟨h.os,h.tape,h.output,h.size,h.block⟩
theorem GS.trans{a b c:World}{g:Nat}(h:GS a b g)(k:GS b c g):GS a c g:=
 ⟨k.os.trans h.os,k.tape.trans h.tape,k.output.trans h.output,zV h.size k.size,λi hi K=>(k.block i (zR hi h.size) K).trans (h.block i hi K)⟩
theorem Oe.lt{P:Program}{m:CU}{w:World}{E:NQ}{o:Dc}(h:Oe P m w E o)(X:o.live=true):E.g<w.heap.size:=by
 cases o with
 |cells gr st cs=>obtain⟨_,_,_,h1,_⟩:=h.2 (by simpa[Dc.live]using X);exact(Array.getElem?_eq_some_iff.1 h1).1
 |map st es=>obtain⟨_,_,_,_,h1,_⟩:=h.2 (by simpa[Dc.live]using X);exact(Array.getElem?_eq_some_iff.1 h1).1
 |iter s pos=>exact(Array.getElem?_eq_some_iff.1 h.2).1
 |loop st pend f fr ps a b=>obtain⟨_,_,_,h1,_⟩:=h;exact(Array.getElem?_eq_some_iff.1 h1).1
 |chan cap buf=>obtain⟨_,_,_,h1,_⟩:=h;exact(Array.getElem?_eq_some_iff.1 h1).1
theorem Oe.mono{P:Program}{m m':CU}{w w':World}{E:NQ}{o:Dc}(hm:m.le m')(hw:o.live=true->w'.heap[E.g]?=w.heap[E.g]?)(h:Oe P m w E o):Oe P m' w' E o:=by
 cases o with
 |cells gr st cs=>
  refine⟨⟨⟨h.1.1.1,λhz=>(h.1.1.2 hz).mono hm⟩,h.1.2⟩,λhst=>?_⟩;obtain⟨cur,e,fz,h1,I,h3,h4⟩:=h.2 hst;refine⟨cur,e,fz,by rw[hw (by simp[Dc.live,hst])];exact h1,I,λj a T=>?_,h4⟩;obtain⟨g1,c,g2,g3⟩:=h3 j a T;exact⟨g1,c,g2,g3.mono hm⟩
 |map st es=>
  refine⟨h.1,λhst=>?_⟩;obtain⟨es',h0,ents,clock,h1,I,h3,h4⟩:=h.2 hst;exact⟨es',h0,ents,clock,by rw[hw (by simp[Dc.live,hst])];exact h1,I,λi k v e hi he=>⟨(h3 i k v e hi he).1.mono hm,(h3 i k v e hi he).2.mono hm⟩,h4⟩
 |iter s pos=>exact⟨h.1,by rw[hw rfl];exact h.2⟩
 |loop st pend f fr ps a b=>obtain⟨tm,d,fn,h1,I,h3⟩:=h;exact⟨tm,d,fn,by rw[hw rfl];exact h1,I,λi=>(h3 i).mono hm⟩
 |chan cap buf=>obtain⟨bs,sn,rc,h1,I⟩:=h;exact⟨bs,sn,rc,by rw[hw rfl];exact h1,I.mono hm⟩
section
variable {P:Program} {w0:World} {m:CU} {h:AS} {w:World}
theorem Rel.size(r:Rel P w0 m h w):w0.heap.size<=w.heap.size:=r.below.size
theorem Rel.fresh(r:Rel P w0 m h w){id:Nat}(hi:h.size<=id):m id=none:=by
 cases e:m id with
 |none=>rfl
 |some E=>have:=r.Vt id E e;omega
theorem Rel.drew(r:Rel P w0 m h w):Rel P w0 m h w.drew:=⟨r.below.drew,r.Vt,r.obj,r.own,r.sep,r.fz,r.O7,r.df,r.WW⟩
theorem Rel.Vq(r:Rel P w0 m h w){g j:Nat}{v:Value}(R:m.fz g j=some v):g<w.heap.size:=by
 obtain⟨_,_,_,h1,_⟩:=r.fz g j v R;exact(Array.getElem?_eq_some_iff.1 h1).1
theorem Rel.Uu(r:Rel P w0 m h w){g:Nat}(Q:w.heap.size<=g)(j:Nat):m.fz g j=none:=by
 cases e:m.fz g j with
 |none=>rfl
 |some v=>have:=r.Vq e;omega
theorem Rel.R6(r:Rel P w0 m h w){g:Nat}(R:m.df g):g<w.heap.size:=(Array.getElem?_eq_some_iff.1 (r.df g R).2).1
theorem Rel.VT(r:Rel P w0 m h w){w':World}{g:Nat}(W:GS w w' g)(Q:¬m.df g):∀k,m.df k->w0.heap.size<=k/\w'.heap[k]?=some (.deferred (some [])):=λk Z=>
 ⟨(r.df k Z).1,by rw[W.block k (r.R6 Z) (λe=>Q (e ▸ Z))];exact(r.df k Z).2⟩
theorem Rel.Vm(r:Rel P w0 m h w){w':World}{g:Nat}(W:GS w w' g)(Q:∀j,m.fz g j=none):∀g o v,m.fz g o=some v->∃cur e z,w'.heap[g]?=some (.cells cur e z)/\cur[o]?=some v:=by
 intro g' o v R;obtain⟨cur,e,z,h1,I⟩:=r.fz g' o v R;exact⟨cur,e,z,by rw[W.block g' (r.Vq R) (λe=>by subst e;rw[Q]at R;cases R)];exact h1,I⟩
theorem Rel.ghost(r:Rel P w0 m h w)(o:Dc):Rel P w0 m (h.push o) w:=by
 have old:∀id E o',m id=some E->(h.push o).get id=some o'->h.get id=some o':=λid E o' hm Q=>by
  rw[h.EZ o (r.Vt id E hm)]at Q;exact Q
 exact⟨r.below,λid E hm=>by have:=r.Vt id E hm;simp;omega,λid E o' hm Q=>r.obj id E o' hm (old id E o' hm Q),
  λid E o' hm Q=>r.own id E o' hm (old id E o' hm Q),λid id' E E' o1 o2 K h1 I g1 g2=>r.sep id id' E E' o1 o2 K h1 I (old _ _ _ h1 g1) (old _ _ _ I g2),r.fz,λid E o' hm Q=>r.O7 id E o' hm (old id E o' hm Q),r.df,λid E o' hm Q=>r.WW id E o' hm (old id E o' hm Q)⟩
def CU.upd(m:CU)(id:Nat)(E:NQ):CU:=⟨λi=>if i=id then some E else m i,m.fz,m.df⟩
theorem CU.HC(m:CU)(id:Nat)(E:NQ):m.upd id E id=some E:=by simp[CU.upd]
theorem CU.Sk(m:CU){id i:Nat}(E:NQ)(h:i≠id):m.upd id E i=m i:=by simp[CU.upd,h]
theorem CU.PG{m:CU}{id:Nat}(E:NQ)(h:m id=none):m.le (m.upd id E):=⟨λi F D=>by
 by_cases e:i=id
 ·subst e;rw[h]at D;cases D
 ·rw[CU.Sk _ _ e];exact D,λ_ _ _ h=>h⟩
theorem CU.le_refl(m:CU):m.le m:=⟨λ_ _ h=>h,λ_ _ _ h=>h⟩
structure CU.ext(m:CU)(n:Nat)(m':CU):Prop where
 i:∀id,id<n->m' id=m id
 fz:∀g o v,m.fz g o=some v->m'.fz g o=some v
 df:∀g,m.df g->m'.df g
theorem CU.ext.refl(m:CU)(n:Nat):m.ext n m:=⟨λ_ _=>rfl,λ_ _ _ h=>h,λ_ h=>h⟩
theorem CU.ext.trans{a b c:CU}{n n':Nat}(h:a.ext n b)(k:b.ext n' c)(hn:n<=n'):a.ext n c:=⟨λi hi=>(k.i i (by omega)).trans (h.i i hi),λg o v N=>k.fz g o v (h.fz g o v N),λg Q=>k.df g (h.df g Q)⟩
theorem CU.OK(m:CU){n id:Nat}(E:NQ)(h:n<=id):m.ext n (m.upd id E):=⟨λj hj=>CU.Sk m _ (by omega),λ_ _ _ h=>h,λ_ h=>h⟩
theorem Rel.place(r:Rel P w0 m h w){w':World}{id:Nat}{E:NQ}{o:Dc}(W:GS w w' E.g)(hg0:w0.heap.size<=E.g)
  (Y:∀id2 E2 o2,m id2=some E2->h.get id2=some o2->o2.live=true->E2.g≠E.g) (hfz:∀j,m.fz E.g j=none) (hdf:¬m.df E.g) (hid:m id=none) (J:h.get id=some o)
  (V:Oe P (m.upd id E) w' E o):Rel P w0 (m.upd id E) h w':=by
 have hle:=CU.PG E hid;have other:∀{i F},m.upd id E i=some F->i≠id->m i=some F:=λh1 I=>by rw[CU.Sk _ _ I]at h1;exact h1
 refine⟨W.below r.below r.size hg0,λi F D=>?_,λi F o' D O=>?_,λi F o' D O H=>?_,λi i' F F' o1 o2 K h1 I g1 g2 H hlive=>?_,r.Vm W hfz,λi F o' D O H=>?_,r.VT W hdf,λi F o' D O X=>?_⟩
 ·by_cases e:i=id
  ·subst e;rw[CU.HC]at D;injection D with D;subst D;exact h.D6 J
  ·exact r.Vt i F (other D e)
 ·by_cases e:i=id
  ·subst e;rw[CU.HC]at D;injection D with D;subst D;rw[J]at O;injection O with O;subst O;exact V
  ·have hF':=other D e;exact(r.obj i F o' hF' O).mono hle λX=>W.block _ ((r.obj i F o' hF' O).lt X) (Y i F o' hF' O X)
 ·by_cases e:i=id
  ·subst e;rw[CU.HC]at D;injection D with D;subst D;exact hg0
  ·exact r.own i F o' (other D e) O H
 ·by_cases e:i=id
  ·subst e;rw[CU.HC]at h1;injection h1 with h1;subst h1;exact λhh=>Y i' F' o2 (other I (λe=>K e.symm)) g2 hlive hh.symm
  ·by_cases e':i'=id
   ·subst e';rw[CU.HC]at I;injection I with I;subst I;exact Y i F o1 (other h1 e) g1 (Dc.JK H)
   ·exact r.sep i i' F F' o1 o2 K (other h1 e) (other I e') g1 g2 H hlive
 ·by_cases e:i=id
  ·subst e;rw[CU.HC]at D;injection D with D;subst D;exact hfz
  ·exact r.O7 i F o' (other D e) O H
 ·by_cases e:i=id
  ·subst e;rw[CU.HC]at D;injection D with D;subst D;exact hdf
  ·exact r.WW i F o' (other D e) O X
theorem Rel.new(r:Rel P w0 m h w){w':World}{E:NQ}{o:Dc}(W:GS w w' E.g)(Q:E.g=w.heap.size)
  (V:Oe P (m.upd h.size E) w' E o):Rel P w0 (m.upd h.size E) (h.push o) w':=by
 refine(r.ghost o).place W (by rw[Q];exact r.size) (λid2 E2 o2 I ho2 hl2=>?_) (r.Uu (by omega)) (λhd=>by have:=r.R6 hd;omega) (r.fresh (zo _)) (h.ES o) V;have:=((r.ghost o).obj id2 E2 o2 I ho2).lt hl2;omega
theorem Rel.write(r:Rel P w0 m h w){w':World}{id:Nat}{E:NQ}{o o':Dc}(L:m id=some E)(J:h.get id=some o)(H:o.own=true)(hown':o'.own=true)
  (W:GS w w' E.g) (V:Oe P m w' E o'):Rel P w0 m (h.set id o') w':=by
 have hid:=h.D6 J;have hB:=r.own id E o L J H;have get':∀i x,(h.set id o').get i=some x->(i=id/\x=o')\/(i≠id/\h.get i=some x):=λi x C=>by
  by_cases e:i=id
  ·subst e;rw[h.Fm o' hid]at C;injection C with C;exact .inl ⟨rfl,C.symm⟩
  ·rw[h.EW o' hid e]at C;exact .inr ⟨e,C⟩
 refine⟨W.below r.below r.size hB,r.Vt,λi F x D C=>?_,λi F x D C M=>?_,λi i' F F' x x' K h1 I g1 g2 a b=>?_,r.Vm W (r.O7 id E o L J H),λi F x D C M=>?_,r.VT W (r.WW id E o L J (Dc.JK H)),λi F x D C hxl=>?_⟩
 ·rcases get' i x C with⟨rfl,rfl⟩|⟨hi,C⟩
  ·rw[L]at D;injection D with D;subst D;exact V
  ·refine(r.obj i F x D C).mono (CU.le_refl m) λX=>W.block _ ((r.obj i F x D C).lt X) λe=>?_;exact r.sep id i E F o x (λe=>hi e.symm) L D J C H X e.symm
 ·rcases get' i x C with⟨rfl,rfl⟩|⟨hi,C⟩
  ·rw[L]at D;injection D with D;subst D;exact hB
  ·exact r.own i F x D C M
 ·rcases get' i x g1 with⟨rfl,rfl⟩|⟨hi,C⟩
  ·rcases get' i' x' g2 with⟨rfl,rfl⟩|⟨hi',U⟩
   ·exact absurd rfl K
   ·rw[L]at h1;injection h1 with h1;subst h1;exact r.sep i i' _ F' o x' K L I J U H b
  ·rcases get' i' x' g2 with⟨rfl,rfl⟩|⟨hi',U⟩
   ·rw[L]at I;injection I with I;subst I;exact λe=>r.sep i' i _ F o x (λe=>hi e.symm) L h1 J C H (Dc.JK a) e.symm
   ·exact r.sep i i' F F' x x' K h1 I C U a b
 ·rcases get' i x C with⟨rfl,rfl⟩|⟨hi,C⟩
  ·rw[L]at D;injection D with D;subst D;exact r.O7 _ _ o L J H
  ·exact r.O7 i F x D C M
 ·rcases get' i x C with⟨rfl,rfl⟩|⟨hi,C⟩
  ·rw[L]at D;injection D with D;subst D;exact r.WW _ _ o L J (Dc.JK H)
  ·exact r.WW i F x D C hxl
theorem Rel.Y4(r:Rel P w0 m h w){id:Nat}{gr:Option TypeId}{st:Nat}{cs cs':List AE}{h':AS}(J:h.get id=some (.cells gr st cs))(hs:h'.size=h.size)(h1:h'.get id=some (.cells gr 0 cs'))(I:∀i,i≠id->h'.get i=h.get i)(hz:∀E,m id=some E->Y5 m E cs'):Rel P w0 m h' w:=by
 have get':∀i x,h'.get i=some x->(i=id/\x=.cells gr 0 cs')\/(i≠id/\h.get i=some x):=λi x C=>by
  by_cases e:i=id
  ·subst e;rw[h1]at C;injection C with C;exact .inl ⟨rfl,C.symm⟩
  ·rw[I _ e]at C;exact .inr ⟨e,C⟩
 refine⟨r.below,λi F D=>by rw[hs];exact r.Vt i F D,λi F x D C=>?_,λi F x D C M=>?_,λi i' F F' x x' K h1 I g1 g2 a b=>?_,r.fz,λi F x D C M=>?_,r.df,λi F x D C hxl=>?_⟩
 ·rcases get' i x C with⟨rfl,rfl⟩|⟨hi,C⟩
  ·exact⟨⟨⟨(r.obj i F _ D J).1.1.1,λ_=>hz F D⟩,λ_ h=>by cases h⟩,λh=>absurd rfl h⟩
  ·exact r.obj i F x D C
 ·rcases get' i x C with⟨rfl,rfl⟩|⟨hi,C⟩
  ·simp[Dc.own]at M
  ·exact r.own i F x D C M
 ·rcases get' i x g1 with⟨rfl,rfl⟩|⟨hi,C⟩
  ·simp[Dc.own]at a
  ·rcases get' i' x' g2 with⟨rfl,rfl⟩|⟨hi',U⟩
   ·simp[Dc.live]at b
   ·exact r.sep i i' F F' x x' K h1 I C U a b
 ·rcases get' i x C with⟨rfl,rfl⟩|⟨hi,C⟩
  ·simp[Dc.own]at M
  ·exact r.O7 i F x D C M
 ·rcases get' i x C with⟨rfl,rfl⟩|⟨hi,C⟩
  ·simp[Dc.live]at hxl
  ·exact r.WW i F x D C hxl
theorem Rel.kill(r:Rel P w0 m h w){id:Nat}{gr:Option TypeId}{st:Nat}{cs:List AE}(J:h.get id=some (.cells gr st cs)):Rel P w0 m (h.set id (.cells gr 0 [])) w:=
 r.Y4 J (h.size_set _ _) (h.Fm _ (h.D6 J)) (λ_ hi=>h.EW _ (h.D6 J) hi) λ_ _=>Y5.nil
def CU.still(m:CU)(g:Nat)(cur:Array Value):CU:=⟨m.i,λg' j=>if g'=g then cur[j]? else m.fz g' j,m.df⟩
theorem CU.Wr{m:CU}{g:Nat}{cur:Array Value}(R:∀j,m.fz g j=none):m.le (m.still g cur):=⟨λ_ _ h=>h,λg' o v N=>by
 by_cases e:g'=g
 ·subst e;rw[R]at N;cases N
 ·simp only[CU.still,zm e];exact N⟩
theorem Rel.freeze(r:Rel P w0 m h w){id:Nat}{E:NQ}{gr:Option TypeId}{cs:List AE}(L:m id=some E)(J:h.get id=some (.cells gr 2 cs)):
    ∃cur,Rel P w0 (m.still E.g cur) (h.set id (.cells gr 0 cs)) w/\m.le (m.still E.g cur)/\cur.size=E.total/\E.VX=MP P gr/\∀(j:Nat) (a:AE),cs[j]?=some a->∃c,cur[E.base+j]?=some c/\VR m a c:=by
  have R:=r.O7 id E _ L J rfl;obtain⟨he,hc⟩:=r.obj id E _ L J;obtain⟨cur,e,fz,h1,I,h3,h4⟩:=hc (by simp);have hle:=CU.Wr (m:=m) (g:=E.g) (cur:=cur) R;refine⟨cur,?_,hle,I,he.1.1,λj a T=>(h3 j a T).2⟩;have k:=r.kill J;have hid:=h.D6 J;have k1:Rel P w0 (m.still E.g cur) (h.set id (.cells gr 0 [])) w:=by
   refine⟨k.below,k.Vt,λi F x D C=>(k.obj i F x D C).mono hle λ_=>rfl,k.own,k.sep,λg' j v N=>?_,λi F x D C M=>?_,k.df,k.WW⟩
   · by_cases e':g'=E.g
     · subst e'
       simp only[CU.still,if_true]at N;exact⟨cur,e,fz,h1,N⟩
     · simp only[CU.still,zm e']at N
       exact k.fz g' j v N
   · have K:i≠id:=by
       intro e';subst e';rw[h.Fm _ hid]at C;injection C with C;subst C;simp[Dc.own]at M
     have U:h.get i=some x:=by rw[h.EW _ hid K]at C;exact C
     have Q:F.g≠E.g:=λe'=>r.sep id i E F _ x (λe=>K e.symm) L D J U rfl (Dc.JK M) e'.symm;intro j;simp only[CU.still,zm Q];exact r.O7 i F x D U M j
  refine k1.Y4 (cs':=cs) (h.Fm _ hid) (by rw[h.size_set,h.size_set]) (h.Fm _ hid) (λi hi=>by rw[h.EW _ hid hi,h.EW _ hid hi]) λE' hE'=>?_;obtain rfl:E=E':=zw (L.symm.trans hE');intro j a T;obtain⟨c,g1,g2⟩:=(h3 j a T).2;exact⟨c,by simp only[CU.still,if_true];exact g1,g2.mono hle⟩
end
def FR(m:CU)(fr:Fr)(a:Act):Prop:=fr.length=a.tmps.size/\∀i,VR m (nth fr i) (a.tmps.getD i undef)
theorem FR.mono{m m':CU}(hm:m.le m'){fr:Fr}{a:Act}(h:FR m fr a):FR m' fr a:=⟨h.1,λi=>(h.2 i).mono hm⟩
theorem FR.ev{m:CU}{fr:Fr}{a:Act}(h:FR m fr a)(x:Operand):VR m (ev fr x) (a.eval x):=by
 cases x with
 |tmp t=>exact h.2 t
 |const v=>exact VR.YC m v
 |global g=>exact .L1 g 0
 |func f=>exact .func _ _ _ _ _ rfl (λi x y C=>by simp at C) rfl (λi x y C=>by simp at C)
theorem FR.put{m:CU}{fr:Fr}{a:Act}(h:FR m fr a)(d:Option Tmp){x:AE}{v:Value}(N:VR m x v):FR m (put fr d x) (a.put d v):=by
 cases d with
 |none=>exact h
 | some d=>
  refine⟨by simp[Av.put,Act.put,h.1],λi=>?_⟩;show VR m (nth (fr.set d x) i) ((a.tmps.setIfInBounds d v).getD i undef);rw[Ip];by_cases e:d=i/\d<fr.length
  ·rw[zk e];obtain⟨rfl,hd⟩:=e;rw[h.1]at hd;simpa[zu,Array.getElem?_setIfInBounds,hd]using N
  ·rw[zm e];have:(a.tmps.setIfInBounds d v).getD i undef=a.tmps.getD i undef:=by
    simp only[zu,Array.getElem?_setIfInBounds];by_cases e1:d=i
    ·subst e1;have:¬d<a.tmps.size:=λh'=>e ⟨rfl,by rw[h.1];exact h'⟩;simp[this]
    ·simp[e1]
   rw[this];exact h.2 i
theorem FR.aC{m:CU}{fr:Fr}{a:Act}(h:FR m fr a)(l:List Operand):Dt m (l.map (Av.ev fr)) (l.map a.eval):=Dt.map _ _ l λx _=>h.ev x
theorem VR.Lu(m:CU):VR m (.tuple []) Go.undef:=.tuple [] #[] rfl λi x y h=>by simp at h
theorem VR.II{m:CU}{x:AE}{v:Value}(h:VR m x v):VR m (II x) v:=by
 unfold Av.II;split
 ·cases h<;>exact .ND _ _
 ·exact h
theorem Dt.II{m:CU}{a:List AE}{c:List Value}(h:Dt m a c):Dt m (a.map Av.II) c:=by
 refine⟨by simpa using h.1,λi x y C hy=>?_⟩;rw[List.getElem?_map]at C;simp only[zg]at C;obtain⟨z,hz,rfl⟩:=C;exact(h.2 i z y hz hy).II
theorem VR.Xw{m:CU}{x:AE}{v:Value}(h:VR m x v):VR m (Xw x) v:=by
 unfold Av.Xw;split
 ·obtain⟨c,rfl,N⟩:=h.Hn;exact Dt.agg N.II
 ·exact h.II
theorem Dt.Bf{m:CU}:∀(bs:List Bool) {a:List AE} {c:List Value},Dt m a c->Dt m (Bf bs a) c
 |[],a,c,h=>by cases a<;>exact h
 |true::bs,[],c,h=>h
 |false::bs,[],c,h=>h
 |b::bs,x::a,[],h=>by simp[Dt]at h
 |b::bs,x::a,y::c,h=>by
  have hc:=h.2 0 x y rfl rfl;have N:Dt m a c:=⟨by simpa using h.1,λi u v C hy=>h.2 (i+1) u v (by simpa using C) (by simpa using hy)⟩;cases b
  ·exact .cons hc (Dt.Bf bs N)
  ·exact .cons hc.Xw (Dt.Bf bs N)
theorem VR.KT{m m':CU}{x:AE}{v:Value}(R:KT x=true)(h:VR m' x v):VR m x v:=by
 cases h<;>simp[Av.KT]at R
 ·exact .bool _
 ·exact .int _ _
 ·exact .str _
 ·exact .nilPtr
 ·exact .GI
 ·exact .G8 _
 ·exact .Qq
 ·exact .OT
 ·exact .nilFunc
 ·exact .nilIface
theorem VR.QP{m m':CU}{x:AE}{v:Value}(R:QP x=true)(h:VR m' x v):VR m x v:=by
 unfold Av.QP at R;split at R
 ·rename_i cs;obtain⟨c,rfl,N⟩:=h.Hn;refine Dt.agg ⟨N.1,λi a b T S=>?_⟩;exact(N.2 i a b T S).KT (zF.1 R a (zI T))
 ·exact h.KT R
def EF(G:Nat->Option (List AE))(w0:World):Prop:=
 (∀g cs,G g=some cs->g<w0.heap.size/\∃cur e fz,w0.heap[g]?=some (.cells cur e fz)/\∀(j:Nat) (a:AE),cs[j]?=some a->a.one=true/\Av.KT a=true/\∃c,cur[j]?=some c/\VR ⟨λ_=>none,λ_ _=>none,λ_=>False⟩ a c)/\
 ∀g,G g=some []->∃n:Int,w0.cell? ⟨g,0,none⟩=some (.int .i64 n)
theorem EF.later{G:Nat->Option (List AE)}{w0 w:World}(hz:EF G w0)(S:Below w0.heap.size w0 w):EF G w:=⟨λg cs h=>by
 obtain⟨hlt,cur,e,fz,hc,N⟩:=hz.1 g cs h;exact⟨zR hlt S.size,cur,e,fz,by rw[S.block g hlt];exact hc,N⟩,λg h=>by
 obtain⟨hlt,-⟩:=hz.1 g [] h;obtain⟨n,hn⟩:=hz.2 g h;refine⟨n,?_⟩;unfold World.cell? at hn⊢;rw[show w.heap[(⟨g,0,Option.none⟩:Addr).block]?=w0.heap[(⟨g,0,Option.none⟩:Addr).block]? from S.block g hlt]
 exact hn⟩
theorem EF.rel{P:Program}{G:Nat->Option (List AE)}{w0 w:World}(hz:EF G w0)(S:Below w0.heap.size w0 w){g:Nat}{cs:List AE}(Q:G g=some cs):
  ∃tot,Rel P w0 ⟨λid=>if id=0 then some ⟨g,0,0,tot⟩else Option.none,λ_ _=>Option.none,λ_=>False⟩ ((⟨0,.leaf⟩:AS).push (.cells Option.none 1 cs)) w/\∀a∈cs,Av.KT a=true:=by
 obtain⟨hlt,cur,e,fz,hc,N⟩:=hz.1 g cs Q;have key:∀id o,((⟨0,.leaf⟩:AS).push (.cells Option.none 1 cs)).get id=some o->id=0/\o=.cells Option.none 1 cs:=by
  intro id o J;rw[AS.QU]at J;split at J
  ·rename_i h0;injection J with J;exact⟨h0,J.symm⟩
  ·have:((⟨0,.leaf⟩:AS).get id)=Option.none:=by
    unfold AS.get;cases Nat.blt id (⟨0,.leaf⟩:AS).size<;>rfl
   rw[this]at J;cases J
 refine⟨cur.size,⟨S,λid E L=>?_,λid E o L J=>?_,λid E o L J H=>?_,λid id' E E' o o' K h1 I g1 g2 H=>?_,λg o v N=>by(cases N),λid E o L J H j=>rfl,λg Q=>Q.elim,λid E o L J X hd=>hd⟩,λa T=>?_⟩
 ·dsimp only at L;split at L
  ·rename_i h0;subst h0;simp
  ·cases L
 ·obtain⟨rfl,rfl⟩:=key id o J;simp only[if_true,zd]at L;subst L;refine⟨⟨⟨rfl,λh=>by cases h⟩,λ_ h=>by cases h⟩,λ_=>⟨cur,e,fz,by rw[S.block g hlt];exact hc,rfl,λj a T=>?_,λh=>by cases h⟩⟩;obtain⟨h1,I,c,h3,h4⟩:=N j a T;exact⟨h1,c,by simpa using h3,h4.KT I⟩
 ·obtain⟨rfl,rfl⟩:=key id o J;simp[Dc.own]at H
 ·obtain⟨rfl,rfl⟩:=key id o g1;simp[Dc.own]at H
 ·obtain⟨j,hj,rfl⟩:=yS T;exact(N j _ (List.getElem?_eq_getElem hj)).2.1
end Go.Av
