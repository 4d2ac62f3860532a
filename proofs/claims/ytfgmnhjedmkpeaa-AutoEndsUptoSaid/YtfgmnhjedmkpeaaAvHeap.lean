/-
 A part.
-/
import Derived.Test.YtfgmnhjedmkpeaaAvRel
set_option linter.unusedSimpArgs false
namespace Go.Av
open Go.RowKit
def Ay.live:Ay->Bool
 | .cells _ st _=>st !=0
 | .map st _=>st !=0
 | .iter _ _=>true
 | .loop .. =>true
 | .chan .. =>true
def Ay.own:Ay->Bool
 | .cells _ st _=>st==2
 | .map st _=>st==2
 | .iter _ _=>true
 | .loop .. =>true
 | .chan .. =>true
theorem Ay.Eg{o:Ay}(h:o.own=true):o.live=true:=by
 cases o<;>simp[Ay.own,Ay.live]at * <;>omega
def Ga(P:Program):Option TypeId->Nat
 |some e=>P.cellsOf e
 |none=>0
def Ui:Nat->LoopState
 |0=>.ready
 |1=>.busy
 |2=>.done
 |_=>.exhausted
def L7(e:MapEntry):Option ByteArray:=
 match e.key with
 | .string s=>some s
 |_=>none
def JR(ents:Array MapEntry)(clock:Nat):Prop:=(∀x∈ents.toList,x.born<clock)/\(ents.toList.map (·.born)).Nodup/\(ents.toList.filterMap L7).Nodup
theorem JR.nil:JR #[] 0:=⟨by simp,by simp,by simp⟩
theorem JR.push{ents:Array MapEntry}{clock:Nat}(h:JR ents clock){k v:Value}(Z:∀s,k=.string s->s∉ents.toList.filterMap L7):JR (ents.push {key:=k,val:=v,born:=clock}) (clock+1):=by
 obtain⟨h1,I,h3⟩:=h;refine⟨λx C=>?_,?_,?_⟩
 ·rw[y3,zm]at C;rcases C with C|C
  ·have:=h1 x C;omega
  ·simp at C;subst C;exact yH _
 ·rw[y3,yy,yd];refine⟨I,by simp,λa S b T=>?_⟩;obtain⟨x,C,rfl⟩:=zN.1 S;simp at T;subst T;have:=h1 x C;omega
 ·rw[y3,List.filterMap_append,yd];refine⟨h3,?_,λa S b T=>?_⟩
  ·cases e:L7 {key:=k,val:=v,born:=clock}<;>simp[e]
  ·cases k<;>simp[L7]at T;subst T;rintro rfl;exact Z _ rfl S
theorem JR.erase{ents:Array MapEntry}{clock:Nat}(h:JR ents clock)(i:Nat):JR (ents.eraseIdxIfInBounds i) clock:=by
 have hs:(ents.eraseIdxIfInBounds i).toList.Sublist ents.toList:=by
  unfold Array.eraseIdxIfInBounds;split
  ·simp only[Array.toList_eraseIdx];exact List.eraseIdx_sublist _ _
  ·exact List.Sublist.refl _
 exact⟨λx C=>h.1 x (hs.subset C),List.Nodup.sublist (hs.map _) h.2.1,List.Nodup.sublist (hs.filterMap _) h.2.2⟩
theorem JR.modify{ents:Array MapEntry}{clock:Nat}(h:JR ents clock){i:Nat}(M:i<ents.size){k v:Value}(Z:L7 {ents[i]with key:=k,val:=v}=L7 ents[i]):JR (ents.modify i λe=>{e with key:=k,val:=v}) clock:=by
 have X:(ents.modify i λe=>{e with key:=k,val:=v}).toList=ents.toList.set i {ents[i]with key:=k,val:=v}:=by
  apply List.ext_getElem?;intro j;rw[Array.getElem?_toList,Array.getElem?_modify,List.getElem?_set];by_cases hj:i=j
  ·subst hj;simp[M]
  ·simp[hj]
 have same:∀{β:Type} (f:MapEntry->β),f {ents[i]with key:=k,val:=v}=f ents[i]->(ents.toList.set i {ents[i]with key:=k,val:=v}).map f=ents.toList.map f:=λf R=>by
  apply List.ext_getElem?;intro j;rw[List.getElem?_map,List.getElem?_map,List.getElem?_set];by_cases hj:i=j
  ·subst hj;simp[M,R]
  ·simp[hj]
 refine⟨λx C=>?_,?_,?_⟩
 ·rw[X]at C;rcases qO C with C|rfl
  ·exact h.1 x C
  ·exact h.1 ents[i] (by simp)
 ·rw[X,same _ rfl];exact h.2.1
 ·have e:∀l:List MapEntry,l.filterMap L7=(l.map L7).filterMap id:=λl=>by rw[List.filterMap_map];rfl
  rw[X,e,same _ Z,<-e];exact h.2.2
abbrev QU(n:Nat)(fz:Nat×Nat):Prop:=fz.1=fz.2\/n<=fz.1
theorem QU.no{n:Nat}{fz:Nat×Nat}(h:QU n fz):∀j,j<n->¬(fz.1<=j/\j<fz.2):=λj hj=>by rcases h with h|h<;>omega
def U1(m:Aj)(E:Gg)(cs:List AA):Prop:=∀(j:Nat) (a:AA),cs[j]?=some a->∃c,m.fz E.g (E.base+j)=some c/\VR m a c
theorem U1.mono{m m':Aj}{E:Gg}{cs:List AA}(hm:m.le m')(h:U1 m E cs):U1 m' E cs:=λj a S=>by
 obtain⟨c,h1,I⟩:=h j a S;exact⟨c,hm.fz _ _ _ h1,I.mono hm⟩
theorem U1.nil{m:Aj}{E:Gg}:U1 m E []:=λj a S=>by simp at S
def KF:AA×AA->Bool
 |(.str _,_)=>true
 |_=>false
structure J7(st:Nat)(es es':List (AA×AA)):Prop where
 same:st≠3->es'=es
 perm:st=3->es'.Perm es/\es.all KF=true/\(es.map Prod.fst).Nodup
theorem J7.refl{st:Nat}{es:List (AA×AA)}(h:st≠3):J7 st es es:=⟨λ_=>rfl,λe=>absurd e h⟩
theorem J7.len{st:Nat}{es es':List (AA×AA)}(h:J7 st es es'):es'.length=es.length:=by
 by_cases e:st=3
 ·exact(h.perm e).1.length_eq
 ·rw[h.same e]
theorem Nz:∀{es:List (AA×AA)},(es.map Prod.fst).Nodup->∀{k u v:AA},(k,u)∈es->(k,v)∈es->u=v
 |[],_,_,_,_,h1,_=>by cases h1
 |p::es,hn,k,u,v,h1,I=>by
  rw[yu,yV]at hn;rcases zP.1 h1 with e1|h1<;>rcases zP.1 I with e2|I
  ·rw[<-e1]at e2;cases e2;rfl
  ·exact absurd (zN.2 ⟨_,I,by rw[<-e1]⟩) hn.1
  ·exact absurd (zN.2 ⟨_,h1,by rw[<-e2]⟩) hn.1
  ·exact Nz hn.2 h1 I
theorem J7.mem{st:Nat}{es es':List (AA×AA)}(h:J7 st es es'){p:AA×AA}:p∈es'↔p∈es:=by
 by_cases e:st=3
 ·exact(h.perm e).1.mem_iff
 ·rw[h.same e]
def LU(m:Aj)(w:World)(E:Gg)(es:List (AA×AA)):Prop:=∃ents clock,w.heap[E.g]?=some (.map ents clock)/\es.length=ents.size/\
 (∀(i:Nat) (k v:AA) (e:MapEntry),es[i]?=some (k,v)->ents[i]?=some e->VR m k e.key/\VR m v e.val)/\JR ents clock
theorem LU.two{st:Nat}{m:Aj}{w:World}{E:Gg}{es:List (AA×AA)}(h:∃es',J7 st es es'/\LU m w E es')(hs:st≠3):LU m w E es:=by
 obtain⟨es',h1,I⟩:=h;rw[h1.same hs]at I;exact I
theorem LU.of{st:Nat}{m:Aj}{w:World}{E:Gg}{es:List (AA×AA)}(h:LU m w E es)(hs:st≠3):∃es',J7 st es es'/\LU m w E es':=⟨es,.refl hs,h⟩
def F3(P:Program)(m:Aj)(w:World)(E:Gg):Ay->Prop
 | .cells gr st cs=>((E.Lw=Ga P gr/\(st=0->U1 m E cs))/\(gr=none->st=2->E.base=0))/\(st≠0->∃cur e fz,w.heap[E.g]?=some (.cells cur e fz)/\cur.size=E.total/\
   (∀(j:Nat) (a:AA),cs[j]?=some a->a.one=true/\∃c,cur[E.base+j]?=some c/\VR m a c)/\(st=2->QU E.total fz))
 | .map st es=>E.base=0/\(st≠0->∃es',J7 st es es'/\LU m w E es')
 | .iter s pos=>E.base=0/\w.heap[E.g]?=some (.stringIter ⟨⟨s⟩⟩ pos)
 | .loop st pend _ fr ps a b=>∃(tmps:Array Value) (d fn:Nat),w.heap[E.g]?=some (.loop ⟨Ui st,pend,fn,tmps,ps.toArray,a,b,d⟩)/\fr.length=tmps.size/\∀i,VR m (nth fr i) (tmps.getD i undef)
 | .chan cap buf=>∃(bs:Array Value) (sn rc:Nat),w.heap[E.g]?=some (.chan cap bs false sn rc false)/\BT m buf bs.toList
structure Rel(P:Program)(w0:World)(m:Aj)(h:AB)(w:World):Prop where
 below:Below w0.heap.size w0 w
 Kg:∀id E,m id=some E->id<h.size
 obj:∀id E o,m id=some E->h.get id=some o->F3 P m w E o
 own:∀id E o,m id=some E->h.get id=some o->o.own=true->w0.heap.size<=E.g
 sep:∀id id' E E' o o',id≠id'->m id=some E->m id'=some E'->h.get id=some o->h.get id'=some o'->o.own=true->o'.live=true->E.g≠E'.g
 fz:∀g o v,m.fz g o=some v->∃cur e z,w.heap[g]?=some (.cells cur e z)/\cur[o]?=some v
 Ke:∀id E o,m id=some E->h.get id=some o->o.own=true->∀j,m.fz E.g j=none
 df:∀g,m.df g->w0.heap.size<=g/\w.heap[g]?=some (.deferred (some []))
 Py:∀id E o,m id=some E->h.get id=some o->o.live=true->¬m.df E.g
structure B9(w w':World)(g:Nat):Prop where
 os:w'.os=w.os
 tape:w'.tape=w.tape
 output:w'.output=w.output
 size:w.heap.size<=w'.heap.size
 block:∀k,k<w.heap.size->k≠g->w'.heap[k]?=w.heap[k]?
theorem B9.refl(w:World)(g:Nat):B9 w w g:=⟨rfl,rfl,rfl,zr _,λ_ _ _=>rfl⟩
theorem B9.below{w0 w w':World}{B g:Nat}(h:B9 w w' g)(T:Below B w0 w)(hB:B<=w.heap.size)(Q:B<=g):Below B w0 w':=
 ⟨h.os.trans T.os,h.tape.trans T.tape,h.output.trans T.output,zM T.size h.size,λk Z=>(h.block k (by omega) (by omega)).trans (T.block k Z)⟩
theorem B9.alloc(w:World)(o:Obj)(g:Nat):B9 w (w.alloc o) g:=⟨rfl,rfl,rfl,by simp,λk Z _=>Below.heap_alloc w o k Z⟩
theorem B9.alloc_drew(w:World)(o:Obj)(g:Nat):B9 w (w.drew.alloc o) g:=⟨rfl,rfl,rfl,(B9.alloc w.drew o g).size,λk Z _=>Below.heap_alloc w.drew o k Z⟩
theorem B9.drew{w w':World}{g:Nat}(h:B9 w w' g):B9 w w'.drew g:=⟨h.os,h.tape,h.output,h.size,h.block⟩
theorem B9.trans{a b c:World}{g:Nat}(h:B9 a b g)(k:B9 b c g):B9 a c g:=
 ⟨k.os.trans h.os,k.tape.trans h.tape,k.output.trans h.output,zM h.size k.size,λi M K=>(k.block i (zQ M h.size) K).trans (h.block i M K)⟩
theorem F3.lt{P:Program}{m:Aj}{w:World}{E:Gg}{o:Ay}(h:F3 P m w E o)(X:o.live=true):E.g<w.heap.size:=by
 cases o with
 |cells gr st cs=>obtain⟨_,_,_,h1,_⟩:=h.2 (by simpa[Ay.live]using X);exact(Array.getElem?_eq_some_iff.1 h1).1
 |map st es=>obtain⟨_,_,_,_,h1,_⟩:=h.2 (by simpa[Ay.live]using X);exact(Array.getElem?_eq_some_iff.1 h1).1
 |iter s pos=>exact(Array.getElem?_eq_some_iff.1 h.2).1
 |loop st pend f fr ps a b=>obtain⟨_,_,_,h1,_⟩:=h;exact(Array.getElem?_eq_some_iff.1 h1).1
 |chan cap buf=>obtain⟨_,_,_,h1,_⟩:=h;exact(Array.getElem?_eq_some_iff.1 h1).1
theorem F3.mono{P:Program}{m m':Aj}{w w':World}{E:Gg}{o:Ay}(hm:m.le m')(hw:o.live=true->w'.heap[E.g]?=w.heap[E.g]?)(h:F3 P m w E o):F3 P m' w' E o:=by
 cases o with
 |cells gr st cs=>
  refine⟨⟨⟨h.1.1.1,λhz=>(h.1.1.2 hz).mono hm⟩,h.1.2⟩,λhst=>?_⟩;obtain⟨cur,e,fz,h1,I,h3,h4⟩:=h.2 hst;refine⟨cur,e,fz,by rw[hw (by simp[Ay.live,hst])];exact h1,I,λj a S=>?_,h4⟩;obtain⟨g1,c,g2,g3⟩:=h3 j a S;exact⟨g1,c,g2,g3.mono hm⟩
 |map st es=>
  refine⟨h.1,λhst=>?_⟩;obtain⟨es',h0,ents,clock,h1,I,h3,h4⟩:=h.2 hst;exact⟨es',h0,ents,clock,by rw[hw (by simp[Ay.live,hst])];exact h1,I,λi k v e M he=>⟨(h3 i k v e M he).1.mono hm,(h3 i k v e M he).2.mono hm⟩,h4⟩
 |iter s pos=>exact⟨h.1,by rw[hw rfl];exact h.2⟩
 |loop st pend f fr ps a b=>obtain⟨tm,d,fn,h1,I,h3⟩:=h;exact⟨tm,d,fn,by rw[hw rfl];exact h1,I,λi=>(h3 i).mono hm⟩
 |chan cap buf=>obtain⟨bs,sn,rc,h1,I⟩:=h;exact⟨bs,sn,rc,by rw[hw rfl];exact h1,I.mono hm⟩
section
variable {P:Program} {w0:World} {m:Aj} {h:AB} {w:World}
theorem Rel.size(r:Rel P w0 m h w):w0.heap.size<=w.heap.size:=r.below.size
theorem Rel.fresh(r:Rel P w0 m h w){id:Nat}(M:h.size<=id):m id=none:=by
 cases e:m id with
 |none=>rfl
 |some E=>have:=r.Kg id E e;omega
theorem Rel.drew(r:Rel P w0 m h w):Rel P w0 m h w.drew:=⟨r.below.drew,r.Kg,r.obj,r.own,r.sep,r.fz,r.Ke,r.df,r.Py⟩
theorem Rel.PI(r:Rel P w0 m h w){g j:Nat}{v:Value}(R:m.fz g j=some v):g<w.heap.size:=by
 obtain⟨_,_,_,h1,_⟩:=r.fz g j v R;exact(Array.getElem?_eq_some_iff.1 h1).1
theorem Rel.OZ(r:Rel P w0 m h w){g:Nat}(Q:w.heap.size<=g)(j:Nat):m.fz g j=none:=by
 cases e:m.fz g j with
 |none=>rfl
 |some v=>have:=r.PI e;omega
theorem Rel.Le(r:Rel P w0 m h w){g:Nat}(R:m.df g):g<w.heap.size:=(Array.getElem?_eq_some_iff.1 (r.df g R).2).1
theorem Rel.Q5(r:Rel P w0 m h w){w':World}{g:Nat}(W:B9 w w' g)(Q:¬m.df g):∀k,m.df k->w0.heap.size<=k/\w'.heap[k]?=some (.deferred (some [])):=λk Z=>
 ⟨(r.df k Z).1,by rw[W.block k (r.Le Z) (λe=>Q (e ▸ Z))];exact(r.df k Z).2⟩
theorem Rel.Qg(r:Rel P w0 m h w){w':World}{g:Nat}(W:B9 w w' g)(Q:∀j,m.fz g j=none):∀g o v,m.fz g o=some v->∃cur e z,w'.heap[g]?=some (.cells cur e z)/\cur[o]?=some v:=by
 intro g' o v R;obtain⟨cur,e,z,h1,I⟩:=r.fz g' o v R;exact⟨cur,e,z,by rw[W.block g' (r.PI R) (λe=>by subst e;rw[Q]at R;cases R)];exact h1,I⟩
theorem Rel.ghost(r:Rel P w0 m h w)(o:Ay):Rel P w0 m (h.push o) w:=by
 have old:∀id E o',m id=some E->(h.push o).get id=some o'->h.get id=some o':=λid E o' hm Q=>by
  rw[h.Bp o (r.Kg id E hm)]at Q;exact Q
 exact⟨r.below,λid E hm=>by have:=r.Kg id E hm;simp;omega,λid E o' hm Q=>r.obj id E o' hm (old id E o' hm Q),
  λid E o' hm Q=>r.own id E o' hm (old id E o' hm Q),λid id' E E' o1 o2 K h1 I g1 g2=>r.sep id id' E E' o1 o2 K h1 I (old _ _ _ h1 g1) (old _ _ _ I g2),r.fz,λid E o' hm Q=>r.Ke id E o' hm (old id E o' hm Q),r.df,λid E o' hm Q=>r.Py id E o' hm (old id E o' hm Q)⟩
def Aj.upd(m:Aj)(id:Nat)(E:Gg):Aj:=⟨λi=>if i=id then some E else m i,m.fz,m.df⟩
theorem Aj.CR(m:Aj)(id:Nat)(E:Gg):m.upd id E id=some E:=by simp[Aj.upd]
theorem Aj.HG(m:Aj){id i:Nat}(E:Gg)(h:i≠id):m.upd id E i=m i:=by simp[Aj.upd,h]
theorem Aj.Gl{m:Aj}{id:Nat}(E:Gg)(h:m id=none):m.le (m.upd id E):=⟨λi F D=>by
 by_cases e:i=id
 ·subst e;rw[h]at D;cases D
 ·rw[Aj.HG _ _ e];exact D,λ_ _ _ h=>h⟩
theorem Aj.le_refl(m:Aj):m.le m:=⟨λ_ _ h=>h,λ_ _ _ h=>h⟩
theorem Aj.le_trans{a b c:Aj}(h:a.le b)(k:b.le c):a.le c:=⟨λi E hE=>k.i i E (h.i i E hE),λg o v L=>k.fz g o v (h.fz g o v L)⟩
structure Aj.ext(m:Aj)(n:Nat)(m':Aj):Prop where
 i:∀id,id<n->m' id=m id
 fz:∀g o v,m.fz g o=some v->m'.fz g o=some v
 df:∀g,m.df g->m'.df g
theorem Aj.ext.refl(m:Aj)(n:Nat):m.ext n m:=⟨λ_ _=>rfl,λ_ _ _ h=>h,λ_ h=>h⟩
theorem Aj.ext.trans{a b c:Aj}{n n':Nat}(h:a.ext n b)(k:b.ext n' c)(hn:n<=n'):a.ext n c:=⟨λi M=>(k.i i (by omega)).trans (h.i i M),λg o v L=>k.fz g o v (h.fz g o v L),λg Q=>k.df g (h.df g Q)⟩
theorem Aj.Lm(m:Aj){n id:Nat}(E:Gg)(h:n<=id):m.ext n (m.upd id E):=⟨λj hj=>Aj.HG m _ (by omega),λ_ _ _ h=>h,λ_ h=>h⟩
theorem Rel.place(r:Rel P w0 m h w){w':World}{id:Nat}{E:Gg}{o:Ay}(W:B9 w w' E.g)(hg0:w0.heap.size<=E.g)
  (Y:∀id2 E2 o2,m id2=some E2->h.get id2=some o2->o2.live=true->E2.g≠E.g) (hfz:∀j,m.fz E.g j=none) (hdf:¬m.df E.g) (hid:m id=none) (J:h.get id=some o)
  (V:F3 P (m.upd id E) w' E o):Rel P w0 (m.upd id E) h w':=by
 have hle:=Aj.Gl E hid;have other:∀{i F},m.upd id E i=some F->i≠id->m i=some F:=λh1 I=>by rw[Aj.HG _ _ I]at h1;exact h1
 refine⟨W.below r.below r.size hg0,λi F D=>?_,λi F o' D O=>?_,λi F o' D O H=>?_,λi i' F F' o1 o2 K h1 I g1 g2 H hlive=>?_,r.Qg W hfz,λi F o' D O H=>?_,r.Q5 W hdf,λi F o' D O X=>?_⟩
 ·by_cases e:i=id
  ·subst e;rw[Aj.CR]at D;injection D with D;subst D;exact h.Ar J
  ·exact r.Kg i F (other D e)
 ·by_cases e:i=id
  ·subst e;rw[Aj.CR]at D;injection D with D;subst D;rw[J]at O;injection O with O;subst O;exact V
  ·have hF':=other D e;exact(r.obj i F o' hF' O).mono hle λX=>W.block _ ((r.obj i F o' hF' O).lt X) (Y i F o' hF' O X)
 ·by_cases e:i=id
  ·subst e;rw[Aj.CR]at D;injection D with D;subst D;exact hg0
  ·exact r.own i F o' (other D e) O H
 ·by_cases e:i=id
  ·subst e;rw[Aj.CR]at h1;injection h1 with h1;subst h1;exact λhh=>Y i' F' o2 (other I (λe=>K e.symm)) g2 hlive hh.symm
  ·by_cases e':i'=id
   ·subst e';rw[Aj.CR]at I;injection I with I;subst I;exact Y i F o1 (other h1 e) g1 (Ay.Eg H)
   ·exact r.sep i i' F F' o1 o2 K (other h1 e) (other I e') g1 g2 H hlive
 ·by_cases e:i=id
  ·subst e;rw[Aj.CR]at D;injection D with D;subst D;exact hfz
  ·exact r.Ke i F o' (other D e) O H
 ·by_cases e:i=id
  ·subst e;rw[Aj.CR]at D;injection D with D;subst D;exact hdf
  ·exact r.Py i F o' (other D e) O X
theorem Rel.new(r:Rel P w0 m h w){w':World}{E:Gg}{o:Ay}(W:B9 w w' E.g)(Q:E.g=w.heap.size)
  (V:F3 P (m.upd h.size E) w' E o):Rel P w0 (m.upd h.size E) (h.push o) w':=by
 refine(r.ghost o).place W (by rw[Q];exact r.size) (λid2 E2 o2 I ho2 hl2=>?_) (r.OZ (by omega)) (λhd=>by have:=r.Le hd;omega) (r.fresh (zr _)) (h.A8 o) V;have:=((r.ghost o).obj id2 E2 o2 I ho2).lt hl2;omega
theorem Rel.write(r:Rel P w0 m h w){w':World}{id:Nat}{E:Gg}{o o':Ay}(hE:m id=some E)(J:h.get id=some o)(H:o.own=true)(hown':o'.own=true)
  (W:B9 w w' E.g) (V:F3 P m w' E o'):Rel P w0 m (h.set id o') w':=by
 have hid:=h.Ar J;have hB:=r.own id E o hE J H;have get':∀i x,(h.set id o').get i=some x->(i=id/\x=o')\/(i≠id/\h.get i=some x):=λi x C=>by
  by_cases e:i=id
  ·subst e;rw[h.B0 o' hid]at C;injection C with C;exact .inl ⟨rfl,C.symm⟩
  ·rw[h.Bw o' hid e]at C;exact .inr ⟨e,C⟩
 refine⟨W.below r.below r.size hB,r.Kg,λi F x D C=>?_,λi F x D C N=>?_,λi i' F F' x x' K h1 I g1 g2 a b=>?_,r.Qg W (r.Ke id E o hE J H),λi F x D C N=>?_,r.Q5 W (r.Py id E o hE J (Ay.Eg H)),λi F x D C hxl=>?_⟩
 ·rcases get' i x C with⟨rfl,rfl⟩|⟨M,C⟩
  ·rw[hE]at D;injection D with D;subst D;exact V
  ·refine(r.obj i F x D C).mono (Aj.le_refl m) λX=>W.block _ ((r.obj i F x D C).lt X) λe=>?_;exact r.sep id i E F o x (λe=>M e.symm) hE D J C H X e.symm
 ·rcases get' i x C with⟨rfl,rfl⟩|⟨M,C⟩
  ·rw[hE]at D;injection D with D;subst D;exact hB
  ·exact r.own i F x D C N
 ·rcases get' i x g1 with⟨rfl,rfl⟩|⟨M,C⟩
  ·rcases get' i' x' g2 with⟨rfl,rfl⟩|⟨hi',U⟩
   ·exact absurd rfl K
   ·rw[hE]at h1;injection h1 with h1;subst h1;exact r.sep i i' _ F' o x' K hE I J U H b
  ·rcases get' i' x' g2 with⟨rfl,rfl⟩|⟨hi',U⟩
   ·rw[hE]at I;injection I with I;subst I;exact λe=>r.sep i' i _ F o x (λe=>M e.symm) hE h1 J C H (Ay.Eg a) e.symm
   ·exact r.sep i i' F F' x x' K h1 I C U a b
 ·rcases get' i x C with⟨rfl,rfl⟩|⟨M,C⟩
  ·rw[hE]at D;injection D with D;subst D;exact r.Ke _ _ o hE J H
  ·exact r.Ke i F x D C N
 ·rcases get' i x C with⟨rfl,rfl⟩|⟨M,C⟩
  ·rw[hE]at D;injection D with D;subst D;exact r.Py _ _ o hE J (Ay.Eg H)
  ·exact r.Py i F x D C hxl
theorem Rel.VH(r:Rel P w0 m h w){id:Nat}{gr:Option TypeId}{st:Nat}{cs cs':List AA}{h':AB}(J:h.get id=some (.cells gr st cs))(hs:h'.size=h.size)(h1:h'.get id=some (.cells gr 0 cs'))(I:∀i,i≠id->h'.get i=h.get i)(hz:∀E,m id=some E->U1 m E cs'):Rel P w0 m h' w:=by
 have get':∀i x,h'.get i=some x->(i=id/\x=.cells gr 0 cs')\/(i≠id/\h.get i=some x):=λi x C=>by
  by_cases e:i=id
  ·subst e;rw[h1]at C;injection C with C;exact .inl ⟨rfl,C.symm⟩
  ·rw[I _ e]at C;exact .inr ⟨e,C⟩
 refine⟨r.below,λi F D=>by rw[hs];exact r.Kg i F D,λi F x D C=>?_,λi F x D C N=>?_,λi i' F F' x x' K h1 I g1 g2 a b=>?_,r.fz,λi F x D C N=>?_,r.df,λi F x D C hxl=>?_⟩
 ·rcases get' i x C with⟨rfl,rfl⟩|⟨M,C⟩
  ·exact⟨⟨⟨(r.obj i F _ D J).1.1.1,λ_=>hz F D⟩,λ_ h=>by cases h⟩,λh=>absurd rfl h⟩
  ·exact r.obj i F x D C
 ·rcases get' i x C with⟨rfl,rfl⟩|⟨M,C⟩
  ·simp[Ay.own]at N
  ·exact r.own i F x D C N
 ·rcases get' i x g1 with⟨rfl,rfl⟩|⟨M,C⟩
  ·simp[Ay.own]at a
  ·rcases get' i' x' g2 with⟨rfl,rfl⟩|⟨hi',U⟩
   ·simp[Ay.live]at b
   ·exact r.sep i i' F F' x x' K h1 I C U a b
 ·rcases get' i x C with⟨rfl,rfl⟩|⟨M,C⟩
  ·simp[Ay.own]at N
  ·exact r.Ke i F x D C N
 ·rcases get' i x C with⟨rfl,rfl⟩|⟨M,C⟩
  ·simp[Ay.live]at hxl
  ·exact r.Py i F x D C hxl
theorem Rel.kill(r:Rel P w0 m h w){id:Nat}{gr:Option TypeId}{st:Nat}{cs:List AA}(J:h.get id=some (.cells gr st cs)):Rel P w0 m (h.set id (.cells gr 0 [])) w:=
 r.VH J (h.size_set _ _) (h.B0 _ (h.Ar J)) (λ_ M=>h.Bw _ (h.Ar J) M) λ_ _=>U1.nil
def Aj.still(m:Aj)(g:Nat)(cur:Array Value):Aj:=⟨m.i,λg' j=>if g'=g then cur[j]? else m.fz g' j,m.df⟩
theorem Aj.O1{m:Aj}{g:Nat}{cur:Array Value}(R:∀j,m.fz g j=none):m.le (m.still g cur):=⟨λ_ _ h=>h,λg' o v L=>by
 by_cases e:g'=g
 ·subst e;rw[R]at L;cases L
 ·simp only[Aj.still,zh e];exact L⟩
theorem Rel.freeze(r:Rel P w0 m h w){id:Nat}{E:Gg}{gr:Option TypeId}{cs:List AA}(hE:m id=some E)(J:h.get id=some (.cells gr 2 cs)):
    ∃cur,Rel P w0 (m.still E.g cur) (h.set id (.cells gr 0 cs)) w/\m.le (m.still E.g cur)/\cur.size=E.total/\E.Lw=Ga P gr/\∀(j:Nat) (a:AA),cs[j]?=some a->∃c,cur[E.base+j]?=some c/\VR m a c:=by
  have R:=r.Ke id E _ hE J rfl;obtain⟨he,hc⟩:=r.obj id E _ hE J;obtain⟨cur,e,fz,h1,I,h3,h4⟩:=hc (by simp);have hle:=Aj.O1 (m:=m) (g:=E.g) (cur:=cur) R;refine⟨cur,?_,hle,I,he.1.1,λj a S=>(h3 j a S).2⟩;have k:=r.kill J;have hid:=h.Ar J;have k1:Rel P w0 (m.still E.g cur) (h.set id (.cells gr 0 [])) w:=by
   refine⟨k.below,k.Kg,λi F x D C=>(k.obj i F x D C).mono hle λ_=>rfl,k.own,k.sep,λg' j v L=>?_,λi F x D C N=>?_,k.df,k.Py⟩
   · by_cases e':g'=E.g
     · subst e'
       simp only[Aj.still,if_true]at L;exact⟨cur,e,fz,h1,L⟩
     · simp only[Aj.still,zh e']at L
       exact k.fz g' j v L
   · have K:i≠id:=by
       intro e';subst e';rw[h.B0 _ hid]at C;injection C with C;subst C;simp[Ay.own]at N
     have U:h.get i=some x:=by rw[h.Bw _ hid K]at C;exact C
     have Q:F.g≠E.g:=λe'=>r.sep id i E F _ x (λe=>K e.symm) hE D J U rfl (Ay.Eg N) e'.symm;intro j;simp only[Aj.still,zh Q];exact r.Ke i F x D U N j
  refine k1.VH (cs':=cs) (h.B0 _ hid) (by rw[h.size_set,h.size_set]) (h.B0 _ hid) (λi M=>by rw[h.Bw _ hid M,h.Bw _ hid M]) λE' hE'=>?_;obtain rfl:E=E':=zK (hE.symm.trans hE');intro j a S;obtain⟨c,g1,g2⟩:=(h3 j a S).2;exact⟨c,by simp only[Aj.still,if_true];exact g1,g2.mono hle⟩
end
def FR(m:Aj)(fr:Fr)(a:Act):Prop:=fr.length=a.tmps.size/\∀i,VR m (nth fr i) (a.tmps.getD i undef)
theorem FR.mono{m m':Aj}(hm:m.le m'){fr:Fr}{a:Act}(h:FR m fr a):FR m' fr a:=⟨h.1,λi=>(h.2 i).mono hm⟩
theorem FR.ev{m:Aj}{fr:Fr}{a:Act}(h:FR m fr a)(x:Operand):VR m (ev fr x) (a.eval x):=by
 cases x with
 |tmp t=>exact h.2 t
 |const v=>exact VR.NC m v
 |global g=>exact .EJ g 0
 |func f=>exact .func _ _ _ _ _ rfl (λi x y C=>by simp at C) rfl (λi x y C=>by simp at C)
theorem FR.put{m:Aj}{fr:Fr}{a:Act}(h:FR m fr a)(d:Option Tmp){x:AA}{v:Value}(L:VR m x v):FR m (put fr d x) (a.put d v):=by
 cases d with
 |none=>exact h
 | some d=>
  refine⟨by simp[Av.put,Act.put,h.1],λi=>?_⟩;show VR m (nth (fr.set d x) i) ((a.tmps.setIfInBounds d v).getD i undef);rw[Ey];by_cases e:d=i/\d<fr.length
  ·rw[zk e];obtain⟨rfl,hd⟩:=e;rw[h.1]at hd;simpa[zp,Array.getElem?_setIfInBounds,hd]using L
  ·rw[zh e];have:(a.tmps.setIfInBounds d v).getD i undef=a.tmps.getD i undef:=by
    simp only[zp,Array.getElem?_setIfInBounds];by_cases e1:d=i
    ·subst e1;have:¬d<a.tmps.size:=λh'=>e ⟨rfl,by rw[h.1];exact h'⟩;simp[this]
    ·simp[e1]
   rw[this];exact h.2 i
theorem FR.SC{m:Aj}{fr:Fr}{a:Act}(h:FR m fr a)(l:List Operand):BT m (l.map (Av.ev fr)) (l.map a.eval):=BT.map _ _ l λx _=>h.ev x
theorem VR.Em(m:Aj):VR m (.tuple []) Go.undef:=.tuple [] #[] rfl λi x y h=>by simp at h
theorem VR.GU{m:Aj}{x:AA}{v:Value}(h:VR m x v):VR m (GU x) v:=by
 unfold Av.GU;split
 ·cases h<;>exact .Ic _ _
 ·exact h
theorem BT.GU{m:Aj}{a:List AA}{c:List Value}(h:BT m a c):BT m (a.map Av.GU) c:=by
 refine⟨by simpa using h.1,λi x y C hy=>?_⟩;rw[List.getElem?_map]at C;simp only[zg]at C;obtain⟨z,hz,rfl⟩:=C;exact(h.2 i z y hz hy).GU
theorem VR.QH{m:Aj}{x:AA}{v:Value}(h:VR m x v):VR m (QH x) v:=by
 unfold Av.QH;split
 ·obtain⟨c,rfl,L⟩:=h.Cn;exact BT.agg L.GU
 ·exact h.GU
theorem BT.C1{m:Aj}:∀(bs:List Bool) {a:List AA} {c:List Value},BT m a c->BT m (C1 bs a) c
 |[],a,c,h=>by cases a<;>exact h
 |true::bs,[],c,h=>h
 |false::bs,[],c,h=>h
 |b::bs,x::a,[],h=>by simp[BT]at h
 |b::bs,x::a,y::c,h=>by
  have hc:=h.2 0 x y rfl rfl;have L:BT m a c:=⟨by simpa using h.1,λi u v C hy=>h.2 (i+1) u v (by simpa using C) (by simpa using hy)⟩;cases b
  ·exact .cons hc (BT.C1 bs L)
  ·exact .cons hc.QH (BT.C1 bs L)
theorem VR.Ev{m m':Aj}{x:AA}{v:Value}(R:Ev x=true)(h:VR m' x v):VR m x v:=by
 cases h<;>simp[Av.Ev]at R
 ·exact .bool _
 ·exact .int _ _
 ·exact .str _
 ·exact .GW
 ·exact .By
 ·exact .D5 _
 ·exact .GQ
 ·exact .FF
 ·exact .nilFunc
 ·exact .nilIface
theorem VR.D2{m m':Aj}{x:AA}{v:Value}(R:D2 x=true)(h:VR m' x v):VR m x v:=by
 unfold Av.D2 at R;split at R
 ·rename_i cs;obtain⟨c,rfl,L⟩:=h.Cn;refine BT.agg ⟨L.1,λi a b S T=>?_⟩;exact(L.2 i a b S T).Ev (zC.1 R a (zI S))
 ·exact h.Ev R
theorem VR.Fo{m m':Aj}{x:AA}{v:Value}(R:Fo x=true)(h:VR m' x v):VR m x v:=by
 unfold Av.Fo at R;split at R
 ·rename_i cs;obtain⟨c,rfl,L⟩:=h.G8;refine BT.tuple ⟨L.1,λi a b S T=>?_⟩;exact(L.2 i a b S T).D2 (zC.1 R a (zI S))
 ·exact h.D2 R
def Bk(G:Nat->Option (List AA))(w0:World):Prop:=
 (∀g cs,G g=some cs->g<w0.heap.size/\∃cur e fz,w0.heap[g]?=some (.cells cur e fz)/\∀(j:Nat) (a:AA),cs[j]?=some a->a.one=true/\Av.Ev a=true/\∃c,cur[j]?=some c/\VR ⟨λ_=>none,λ_ _=>none,λ_=>False⟩ a c)/\
 ∀g,G g=some []->∃n:Int,w0.cell? ⟨g,0,none⟩=some (.int .i64 n)
theorem Bk.later{G:Nat->Option (List AA)}{w0 w:World}(hz:Bk G w0)(T:Below w0.heap.size w0 w):Bk G w:=⟨λg cs h=>by
 obtain⟨hlt,cur,e,fz,hc,L⟩:=hz.1 g cs h;exact⟨zQ hlt T.size,cur,e,fz,by rw[T.block g hlt];exact hc,L⟩,λg h=>by
 obtain⟨hlt,-⟩:=hz.1 g [] h;obtain⟨n,hn⟩:=hz.2 g h;refine⟨n,?_⟩;unfold World.cell? at hn⊢;rw[show w.heap[(⟨g,0,Option.none⟩:Addr).block]?=w0.heap[(⟨g,0,Option.none⟩:Addr).block]? from T.block g hlt]
 exact hn⟩
theorem Bk.rel{P:Program}{G:Nat->Option (List AA)}{w0 w:World}(hz:Bk G w0)(T:Below w0.heap.size w0 w){g:Nat}{cs:List AA}(Q:G g=some cs):
  ∃tot,Rel P w0 ⟨λid=>if id=0 then some ⟨g,0,0,tot⟩else Option.none,λ_ _=>Option.none,λ_=>False⟩ ((⟨0,.leaf⟩:AB).push (.cells Option.none 1 cs)) w/\∀a∈cs,Av.Ev a=true:=by
 obtain⟨hlt,cur,e,fz,hc,L⟩:=hz.1 g cs Q;have key:∀id o,((⟨0,.leaf⟩:AB).push (.cells Option.none 1 cs)).get id=some o->id=0/\o=.cells Option.none 1 cs:=by
  intro id o J;rw[AB.IQ]at J;split at J
  ·rename_i h0;injection J with J;exact⟨h0,J.symm⟩
  ·have:((⟨0,.leaf⟩:AB).get id)=Option.none:=by
    unfold AB.get;cases Nat.blt id (⟨0,.leaf⟩:AB).size<;>rfl
   rw[this]at J;cases J
 refine⟨cur.size,⟨T,λid E hE=>?_,λid E o hE J=>?_,λid E o hE J H=>?_,λid id' E E' o o' K h1 I g1 g2 H=>?_,λg o v L=>by(cases L),λid E o hE J H j=>rfl,λg Q=>Q.elim,λid E o hE J X hd=>hd⟩,λa S=>?_⟩
 ·dsimp only at hE;split at hE
  ·rename_i h0;subst h0;simp
  ·cases hE
 ·obtain⟨rfl,rfl⟩:=key id o J;simp only[if_true,za]at hE;subst hE;refine⟨⟨⟨rfl,λh=>by cases h⟩,λ_ h=>by cases h⟩,λ_=>⟨cur,e,fz,by rw[T.block g hlt];exact hc,rfl,λj a S=>?_,λh=>by cases h⟩⟩;obtain⟨h1,I,c,h3,h4⟩:=L j a S;exact⟨h1,c,by simpa using h3,h4.Ev I⟩
 ·obtain⟨rfl,rfl⟩:=key id o J;simp[Ay.own]at H
 ·obtain⟨rfl,rfl⟩:=key id o g1;simp[Ay.own]at H
 ·obtain⟨j,hj,rfl⟩:=yW S;exact(L j _ (List.getElem?_eq_getElem hj)).2.1
end Go.Av
