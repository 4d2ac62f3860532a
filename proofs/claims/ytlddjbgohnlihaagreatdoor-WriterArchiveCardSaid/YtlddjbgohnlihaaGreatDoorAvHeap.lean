/-
 A part.
-/
import Derived.Test.YtlddjbgohnlihaaGreatDoorAvRel
set_option linter.unusedSimpArgs false
namespace Go.Av
open Go.RowKit
def B0.live:B0→Bool
 | .cells _ st _=>st !=0
 | .map st _=>st !=0
 | .iter _ _=>true
 | .loop .. =>true
 | .chan .. =>true
def B0.own:B0→Bool
 | .cells _ st _=>st==2
 | .map st _=>st==2
 | .iter _ _=>true
 | .loop .. =>true
 | .chan .. =>true
theorem B0.GC{o:B0}(h:o.own=true):o.live=true:=by
 cases o<;>simp[B0.own,B0.live]at * <;>omega
def Ks(P:Program):Option TypeId→Nat
 |some e=>P.cellsOf e
 |none=>0
def eU:Nat→LoopState
 |0=>.ready
 |1=>.busy
 |2=>.done
 |_=>.exhausted
def OP(e:MapEntry):Option ByteArray:=
 match e.key with
 | .string s=>some s
 |_=>none
def KR(ents:Array MapEntry)(clock:Nat):Prop:=(∀x∈ents.toList,x.born<clock)∧(ents.toList.map (·.born)).Nodup∧(ents.toList.filterMap OP).Nodup
theorem KR.nil:KR #[] 0:=⟨by simp,by simp,by simp⟩
theorem KR.push{ents:Array MapEntry}{clock:Nat}(h:KR ents clock){k v:Value}(hk:∀s,k=.string s→s∉ents.toList.filterMap OP):KR (ents.push {key:=k,val:=v,born:=clock}) (clock+1):=by
 obtain⟨h1,h2,Z⟩:=h;refine⟨fun x C=>?_,?_,?_⟩
 ·rw[xe,zB]at C;rcases C with C|C
  ·have:=h1 x C;omega
  ·simp at C;subst C;exact Nat.lt_succ_self _
 ·rw[xe,yn,yh];refine⟨h2,by simp,fun a R b S=>?_⟩;obtain⟨x,C,rfl⟩:=zZ.1 R;simp at S;subst S;have:=h1 x C;omega
 ·rw[xe,List.filterMap_append,yh];refine⟨Z,?_,fun a R b S=>?_⟩
  ·cases e:OP {key:=k,val:=v,born:=clock}<;>simp[e]
  ·cases k<;>simp[OP]at S;subst S;rintro rfl;exact hk _ rfl R
theorem KR.erase{ents:Array MapEntry}{clock:Nat}(h:KR ents clock)(i:Nat):KR (ents.eraseIdxIfInBounds i) clock:=by
 have hs:(ents.eraseIdxIfInBounds i).toList.Sublist ents.toList:=by
  unfold Array.eraseIdxIfInBounds;split
  ·simp only[Array.toList_eraseIdx];exact List.eraseIdx_sublist _ _
  ·exact List.Sublist.refl _
 exact⟨fun x C=>h.1 x (hs.subset C),List.Nodup.sublist (hs.map _) h.2.1,List.Nodup.sublist (hs.filterMap _) h.2.2⟩
theorem KR.modify{ents:Array MapEntry}{clock:Nat}(h:KR ents clock){i:Nat}(hi:i<ents.size){k v:Value}(hk:OP {ents[i]with key:=k,val:=v}=OP ents[i]):KR (ents.modify i fun e=>{e with key:=k,val:=v}) clock:=by
 have W:(ents.modify i fun e=>{e with key:=k,val:=v}).toList=ents.toList.set i {ents[i]with key:=k,val:=v}:=by
  apply xf;intro j;rw[Array.getElem?_toList,Array.getElem?_modify,List.getElem?_set];by_cases hj:i=j
  ·subst hj;simp[hi]
  ·simp[hj]
 have same:∀{β:Type} (f:MapEntry→β),f {ents[i]with key:=k,val:=v}=f ents[i]→(ents.toList.set i {ents[i]with key:=k,val:=v}).map f=ents.toList.map f:=fun f Q=>by
  apply xf;intro j;rw[List.getElem?_map,List.getElem?_map,List.getElem?_set];by_cases hj:i=j
  ·subst hj;simp[hi,Q]
  ·simp[hj]
 refine⟨fun x C=>?_,?_,?_⟩
 ·rw[W]at C;rcases List.mem_or_eq_of_mem_set C with C|rfl
  ·exact h.1 x C
  ·exact h.1 ents[i] (by simp)
 ·rw[W,same _ rfl];exact h.2.1
 ·have e:∀l:List MapEntry,l.filterMap OP=(l.map OP).filterMap id:=fun l=>by rw[List.filterMap_map];rfl
  rw[W,e,same _ hk,←e];exact h.2.2
abbrev Us(n:Nat)(fz:Nat×Nat):Prop:=fz.1=fz.2∨n≤fz.1
theorem Us.no{n:Nat}{fz:Nat×Nat}(h:Us n fz):∀j,j<n→¬(fz.1≤j∧j<fz.2):=fun j hj=>by rcases h with h|h<;>omega
def ZM(m:BD)(E:Mb)(cs:List AB):Prop:=∀(j:Nat) (a:AB),cs[j]?=some a→∃c,m.fz E.g (E.base+j)=some c∧VR m a c
theorem ZM.mono{m m':BD}{E:Mb}{cs:List AB}(hm:m.le m')(h:ZM m E cs):ZM m' E cs:=fun j a R=>by
 obtain⟨c,h1,h2⟩:=h j a R;exact⟨c,hm.fz _ _ _ h1,h2.mono hm⟩
theorem ZM.nil{m:BD}{E:Mb}:ZM m E []:=fun j a R=>by simp at R
def JD:AB×AB→Bool
 |(.str _,_)=>true
 |_=>false
structure La(st:Nat)(es es':List (AB×AB)):Prop where
 same:st≠3→es'=es
 perm:st=3→es'.Perm es∧es.all JD=true∧(es.map Prod.fst).Nodup
theorem La.refl{st:Nat}{es:List (AB×AB)}(h:st≠3):La st es es:=⟨fun _=>rfl,fun e=>absurd e h⟩
theorem La.len{st:Nat}{es es':List (AB×AB)}(h:La st es es'):es'.length=es.length:=by
 by_cases e:st=3
 ·exact(h.perm e).1.length_eq
 ·rw[h.same e]
theorem RC:∀{es:List (AB×AB)},(es.map Prod.fst).Nodup→∀{k u v:AB},(k,u)∈es→(k,v)∈es→u=v
 |[],_,_,_,_,h1,_=>by cases h1
 |p::es,hn,k,u,v,h1,h2=>by
  rw[zU,yQ]at hn;rcases zF.1 h1 with e1|h1<;>rcases zF.1 h2 with e2|h2
  ·rw[←e1]at e2;cases e2;rfl
  ·exact absurd (zZ.2 ⟨_,h2,by rw[←e1]⟩) hn.1
  ·exact absurd (zZ.2 ⟨_,h1,by rw[←e2]⟩) hn.1
  ·exact RC hn.2 h1 h2
theorem La.mem{st:Nat}{es es':List (AB×AB)}(h:La st es es'){p:AB×AB}:p∈es'↔p∈es:=by
 by_cases e:st=3
 ·exact(h.perm e).1.mem_iff
 ·rw[h.same e]
def MQ(m:BD)(w:World)(E:Mb)(es:List (AB×AB)):Prop:=∃ents clock,w.heap[E.g]?=some (.map ents clock)∧es.length=ents.size∧
 (∀(i:Nat) (k v:AB) (e:MapEntry),es[i]?=some (k,v)→ents[i]?=some e→VR m k e.key∧VR m v e.val)∧KR ents clock
theorem MQ.two{st:Nat}{m:BD}{w:World}{E:Mb}{es:List (AB×AB)}(h:∃es',La st es es'∧MQ m w E es')(hs:st≠3):MQ m w E es:=by
 obtain⟨es',h1,h2⟩:=h;rw[h1.same hs]at h2;exact h2
theorem MQ.of{st:Nat}{m:BD}{w:World}{E:Mb}{es:List (AB×AB)}(h:MQ m w E es)(hs:st≠3):∃es',La st es es'∧MQ m w E es':=⟨es,.refl hs,h⟩
def K3(P:Program)(m:BD)(w:World)(E:Mb):B0→Prop
 | .cells gr st cs=>((E.V8=Ks P gr∧(st=0→ZM m E cs))∧(gr=none→st=2→E.base=0))∧(st≠0→∃cur e fz,w.heap[E.g]?=some (.cells cur e fz)∧cur.size=E.total∧
   (∀(j:Nat) (a:AB),cs[j]?=some a→a.one=true∧∃c,cur[E.base+j]?=some c∧VR m a c)∧(st=2→Us E.total fz))
 | .map st es=>E.base=0∧(st≠0→∃es',La st es es'∧MQ m w E es')
 | .iter s pos=>E.base=0∧w.heap[E.g]?=some (.stringIter ⟨⟨s⟩⟩ pos)
 | .loop st pend _ fr ps a b=>∃(tmps:Array Value) (d fn:Nat),w.heap[E.g]?=some (.loop ⟨eU st,pend,fn,tmps,ps.toArray,a,b,d⟩)∧fr.length=tmps.size∧∀i,VR m (nth fr i) (tmps.getD i undef)
 | .chan cap buf=>∃(bs:Array Value) (sn rc:Nat),w.heap[E.g]?=some (.chan cap bs false sn rc false)∧CM m buf bs.toList
structure Rel(P:Program)(w0:World)(m:BD)(h:AI)(w:World):Prop where
 below:Below w0.heap.size w0 w
 OX:∀id E,m id=some E→id<h.size
 obj:∀id E o,m id=some E→h.get id=some o→K3 P m w E o
 own:∀id E o,m id=some E→h.get id=some o→o.own=true→w0.heap.size≤E.g
 sep:∀id id' E E' o o',id≠id'→m id=some E→m id'=some E'→h.get id=some o→h.get id'=some o'→o.own=true→o'.live=true→E.g≠E'.g
 fz:∀g o v,m.fz g o=some v→∃cur e z,w.heap[g]?=some (.cells cur e z)∧cur[o]?=some v
 JZ:∀id E o,m id=some E→h.get id=some o→o.own=true→∀j,m.fz E.g j=none
 df:∀g x,m.df g x→w0.heap.size≤g∧w.heap[g]?=some x
 PA:∀id E o,m id=some E→h.get id=some o→o.live=true→∀x,¬m.df E.g x
structure Ex(w w':World)(g:Nat):Prop where
 os:w'.os=w.os
 tape:w'.tape=w.tape
 output:w'.output=w.output
 size:w.heap.size≤w'.heap.size
 block:∀k,k<w.heap.size→k≠g→w'.heap[k]?=w.heap[k]?
theorem Ex.refl(w:World)(g:Nat):Ex w w g:=⟨rfl,rfl,rfl,zC _,fun _ _ _=>rfl⟩
theorem Ex.below{w0 w w':World}{B g:Nat}(h:Ex w w' g)(S:Below B w0 w)(hB:B≤w.heap.size)(O:B≤g):Below B w0 w':=
 ⟨h.os.trans S.os,h.tape.trans S.tape,h.output.trans S.output,y8 S.size h.size,fun k hk=>(h.block k (by omega) (by omega)).trans (S.block k hk)⟩
theorem Ex.alloc(w:World)(o:Obj)(g:Nat):Ex w (w.alloc o) g:=⟨rfl,rfl,rfl,by simp,fun k hk _=>Below.heap_alloc w o k hk⟩
theorem Ex.alloc_drew(w:World)(o:Obj)(g:Nat):Ex w (w.drew.alloc o) g:=⟨rfl,rfl,rfl,(Ex.alloc w.drew o g).size,fun k hk _=>Below.heap_alloc w.drew o k hk⟩
theorem Ex.drew{w w':World}{g:Nat}(h:Ex w w' g):Ex w w'.drew g:=⟨h.os,h.tape,h.output,h.size,h.block⟩
theorem Ex.trans{a b c:World}{g:Nat}(h:Ex a b g)(k:Ex b c g):Ex a c g:=
 ⟨k.os.trans h.os,k.tape.trans h.tape,k.output.trans h.output,y8 h.size k.size,fun i hi J=>(k.block i (zX hi h.size) J).trans (h.block i hi J)⟩
theorem K3.lt{P:Program}{m:BD}{w:World}{E:Mb}{o:B0}(h:K3 P m w E o)(W:o.live=true):E.g<w.heap.size:=by
 cases o with
 |cells gr st cs=>obtain⟨_,_,_,h1,_⟩:=h.2 (by simpa[B0.live]using W);exact(Array.getElem?_eq_some_iff.1 h1).1
 |map st es=>obtain⟨_,_,_,_,h1,_⟩:=h.2 (by simpa[B0.live]using W);exact(Array.getElem?_eq_some_iff.1 h1).1
 |iter s pos=>exact(Array.getElem?_eq_some_iff.1 h.2).1
 |loop st pend f fr ps a b=>obtain⟨_,_,_,h1,_⟩:=h;exact(Array.getElem?_eq_some_iff.1 h1).1
 |chan cap buf=>obtain⟨_,_,_,h1,_⟩:=h;exact(Array.getElem?_eq_some_iff.1 h1).1
theorem K3.mono{P:Program}{m m':BD}{w w':World}{E:Mb}{o:B0}(hm:m.le m')(hw:o.live=true→w'.heap[E.g]?=w.heap[E.g]?)(h:K3 P m w E o):K3 P m' w' E o:=by
 cases o with
 |cells gr st cs=>
  refine⟨⟨⟨h.1.1.1,fun hz=>(h.1.1.2 hz).mono hm⟩,h.1.2⟩,fun hst=>?_⟩;obtain⟨cur,e,fz,h1,h2,Z,h4⟩:=h.2 hst;refine⟨cur,e,fz,by rw[hw (by simp[B0.live,hst])];exact h1,h2,fun j a R=>?_,h4⟩;obtain⟨g1,c,g2,g3⟩:=Z j a R;exact⟨g1,c,g2,g3.mono hm⟩
 |map st es=>
  refine⟨h.1,fun hst=>?_⟩;obtain⟨es',h0,ents,clock,h1,h2,Z,h4⟩:=h.2 hst;exact⟨es',h0,ents,clock,by rw[hw (by simp[B0.live,hst])];exact h1,h2,fun i k v e hi he=>⟨(Z i k v e hi he).1.mono hm,(Z i k v e hi he).2.mono hm⟩,h4⟩
 |iter s pos=>exact⟨h.1,by rw[hw rfl];exact h.2⟩
 |loop st pend f fr ps a b=>obtain⟨tm,d,fn,h1,h2,Z⟩:=h;exact⟨tm,d,fn,by rw[hw rfl];exact h1,h2,fun i=>(Z i).mono hm⟩
 |chan cap buf=>obtain⟨bs,sn,rc,h1,h2⟩:=h;exact⟨bs,sn,rc,by rw[hw rfl];exact h1,h2.mono hm⟩
section
variable {P:Program} {w0:World} {m:BD} {h:AI} {w:World}
theorem Rel.size(r:Rel P w0 m h w):w0.heap.size≤w.heap.size:=r.below.size
theorem Rel.fresh(r:Rel P w0 m h w){id:Nat}(hi:h.size≤id):m id=none:=by
 cases e:m id with
 |none=>rfl
 |some E=>have:=r.OX id E e;omega
theorem Rel.drew(r:Rel P w0 m h w):Rel P w0 m h w.drew:=⟨r.below.drew,r.OX,r.obj,r.own,r.sep,r.fz,r.JZ,r.df,r.PA⟩
theorem Rel.Sj(r:Rel P w0 m h w){g j:Nat}{v:Value}(Q:m.fz g j=some v):g<w.heap.size:=by
 obtain⟨_,_,_,h1,_⟩:=r.fz g j v Q;exact(Array.getElem?_eq_some_iff.1 h1).1
theorem Rel.Yf(r:Rel P w0 m h w){g:Nat}(O:w.heap.size≤g)(j:Nat):m.fz g j=none:=by
 cases e:m.fz g j with
 |none=>rfl
 |some v=>have:=r.Sj e;omega
theorem Rel.Pf(r:Rel P w0 m h w){g:Nat}{x:Obj}(Q:m.df g x):g<w.heap.size:=(Array.getElem?_eq_some_iff.1 (r.df g x Q).2).1
theorem Rel.VW(r:Rel P w0 m h w){w':World}{g:Nat}(V:Ex w w' g)(O:∀x,¬m.df g x):∀k x,m.df k x→w0.heap.size≤k∧w'.heap[k]?=some x:=fun k x hk=>
 ⟨(r.df k x hk).1,by rw[V.block k (r.Pf hk) (fun e=>O x (e ▸ hk))];exact(r.df k x hk).2⟩
theorem Rel.Vk(r:Rel P w0 m h w){w':World}{g:Nat}(V:Ex w w' g)(O:∀j,m.fz g j=none):∀g o v,m.fz g o=some v→∃cur e z,w'.heap[g]?=some (.cells cur e z)∧cur[o]?=some v:=by
 intro g' o v Q;obtain⟨cur,e,z,h1,h2⟩:=r.fz g' o v Q;exact⟨cur,e,z,by rw[V.block g' (r.Sj Q) (fun e=>by subst e;rw[O]at Q;cases Q)];exact h1,h2⟩
theorem Rel.ghost(r:Rel P w0 m h w)(o:B0):Rel P w0 m (h.push o) w:=by
 have Hr:∀id E o',m id=some E→(h.push o).get id=some o'→h.get id=some o':=fun id E o' hm O=>by
  rw[h.Bz o (r.OX id E hm)]at O;exact O
 exact⟨r.below,fun id E hm=>by have:=r.OX id E hm;simp;omega,fun id E o' hm O=>r.obj id E o' hm (Hr id E o' hm O),
  fun id E o' hm O=>r.own id E o' hm (Hr id E o' hm O),fun id id' E E' o1 o2 J h1 h2 g1 g2=>r.sep id id' E E' o1 o2 J h1 h2 (Hr _ _ _ h1 g1) (Hr _ _ _ h2 g2),r.fz,fun id E o' hm O=>r.JZ id E o' hm (Hr id E o' hm O),r.df,fun id E o' hm O=>r.PA id E o' hm (Hr id E o' hm O)⟩
def BD.upd(m:BD)(id:Nat)(E:Mb):BD:=⟨fun i=>if i=id then some E else m i,m.fz,m.df⟩
theorem BD.Fg(m:BD)(id:Nat)(E:Mb):m.upd id E id=some E:=by simp[BD.upd]
theorem BD.Py(m:BD){id i:Nat}(E:Mb)(h:i≠id):m.upd id E i=m i:=by simp[BD.upd,h]
theorem BD.OD{m:BD}{id:Nat}(E:Mb)(h:m id=none):m.le (m.upd id E):=⟨fun i F D=>by
 by_cases e:i=id
 ·subst e;rw[h]at D;cases D
 ·rw[BD.Py _ _ e];exact D,fun _ _ _ h=>h⟩
theorem BD.le_refl(m:BD):m.le m:=⟨fun _ _ h=>h,fun _ _ _ h=>h⟩
theorem BD.le_trans{a b c:BD}(h:a.le b)(k:b.le c):a.le c:=⟨fun i E L=>k.i i E (h.i i E L),fun g o v K=>k.fz g o v (h.fz g o v K)⟩
structure BD.ext(m:BD)(n:Nat)(m':BD):Prop where
 i:∀id,id<n→m' id=m id
 fz:∀g o v,m.fz g o=some v→m'.fz g o=some v
 df:∀g x,m.df g x→m'.df g x
theorem BD.ext.refl(m:BD)(n:Nat):m.ext n m:=⟨fun _ _=>rfl,fun _ _ _ h=>h,fun _ _ h=>h⟩
theorem BD.ext.trans{a b c:BD}{n n':Nat}(h:a.ext n b)(k:b.ext n' c)(hn:n≤n'):a.ext n c:=⟨fun i hi=>(k.i i (by omega)).trans (h.i i hi),fun g o v K=>k.fz g o v (h.fz g o v K),fun g x O=>k.df g x (h.df g x O)⟩
theorem BD.L5(m:BD){n id:Nat}(E:Mb)(h:n≤id):m.ext n (m.upd id E):=⟨fun j hj=>BD.Py m _ (by omega),fun _ _ _ h=>h,fun _ _ h=>h⟩
theorem Rel.place(r:Rel P w0 m h w){w':World}{id:Nat}{E:Mb}{o:B0}(V:Ex w w' E.g)(hg0:w0.heap.size≤E.g)
  (X:∀id2 E2 o2,m id2=some E2→h.get id2=some o2→o2.live=true→E2.g≠E.g) (hfz:∀j,m.fz E.g j=none) (hdf:∀x,¬m.df E.g x) (hid:m id=none) (I:h.get id=some o)
  (U:K3 P (m.upd id E) w' E o):Rel P w0 (m.upd id E) h w':=by
 have hle:=BD.OD E hid;have other:∀{i F},m.upd id E i=some F→i≠id→m i=some F:=fun h1 h2=>by rw[BD.Py _ _ h2]at h1;exact h1
 refine⟨V.below r.below r.size hg0,fun i F D=>?_,fun i F o' D N=>?_,fun i F o' D N H=>?_,fun i i' F F' o1 o2 J h1 h2 g1 g2 H hlive=>?_,r.Vk V hfz,fun i F o' D N H=>?_,r.VW V hdf,fun i F o' D N W=>?_⟩
 ·by_cases e:i=id
  ·subst e;rw[BD.Fg]at D;injection D with D;subst D;exact h.BN I
  ·exact r.OX i F (other D e)
 ·by_cases e:i=id
  ·subst e;rw[BD.Fg]at D;injection D with D;subst D;rw[I]at N;injection N with N;subst N;exact U
  ·have hF':=other D e;exact(r.obj i F o' hF' N).mono hle fun W=>V.block _ ((r.obj i F o' hF' N).lt W) (X i F o' hF' N W)
 ·by_cases e:i=id
  ·subst e;rw[BD.Fg]at D;injection D with D;subst D;exact hg0
  ·exact r.own i F o' (other D e) N H
 ·by_cases e:i=id
  ·subst e;rw[BD.Fg]at h1;injection h1 with h1;subst h1;exact fun hh=>X i' F' o2 (other h2 (fun e=>J e.symm)) g2 hlive hh.symm
  ·by_cases e':i'=id
   ·subst e';rw[BD.Fg]at h2;injection h2 with h2;subst h2;exact X i F o1 (other h1 e) g1 (B0.GC H)
   ·exact r.sep i i' F F' o1 o2 J (other h1 e) (other h2 e') g1 g2 H hlive
 ·by_cases e:i=id
  ·subst e;rw[BD.Fg]at D;injection D with D;subst D;exact hfz
  ·exact r.JZ i F o' (other D e) N H
 ·by_cases e:i=id
  ·subst e;rw[BD.Fg]at D;injection D with D;subst D;exact hdf
  ·exact r.PA i F o' (other D e) N W
theorem Rel.new(r:Rel P w0 m h w){w':World}{E:Mb}{o:B0}(V:Ex w w' E.g)(O:E.g=w.heap.size)
  (U:K3 P (m.upd h.size E) w' E o):Rel P w0 (m.upd h.size E) (h.push o) w':=by
 refine(r.ghost o).place V (by rw[O];exact r.size) (fun id2 E2 o2 h2 ho2 hl2=>?_) (r.Yf (by omega)) (fun x hd=>by have:=r.Pf hd;omega) (r.fresh (zC _)) (h.Ct o) U;have:=((r.ghost o).obj id2 E2 o2 h2 ho2).lt hl2;omega
theorem Rel.write(r:Rel P w0 m h w){w':World}{id:Nat}{E:Mb}{o o':B0}(L:m id=some E)(I:h.get id=some o)(H:o.own=true)(hown':o'.own=true)
  (V:Ex w w' E.g) (U:K3 P m w' E o'):Rel P w0 m (h.set id o') w':=by
 have hid:=h.BN I;have hB:=r.own id E o L I H;have get':∀i x,(h.set id o').get i=some x→(i=id∧x=o')∨(i≠id∧h.get i=some x):=fun i x C=>by
  by_cases e:i=id
  ·subst e;rw[h.get_set_same o' hid]at C;injection C with C;exact .inl ⟨rfl,C.symm⟩
  ·rw[h.BX o' hid e]at C;exact .inr ⟨e,C⟩
 refine⟨V.below r.below r.size hB,r.OX,fun i F x D C=>?_,fun i F x D C M=>?_,fun i i' F F' x x' J h1 h2 g1 g2 a b=>?_,r.Vk V (r.JZ id E o L I H),fun i F x D C M=>?_,r.VW V (r.PA id E o L I (B0.GC H)),fun i F x D C hxl=>?_⟩
 ·rcases get' i x C with⟨rfl,rfl⟩|⟨hi,C⟩
  ·rw[L]at D;injection D with D;subst D;exact U
  ·refine(r.obj i F x D C).mono (BD.le_refl m) fun W=>V.block _ ((r.obj i F x D C).lt W) fun e=>?_;exact r.sep id i E F o x (fun e=>hi e.symm) L D I C H W e.symm
 ·rcases get' i x C with⟨rfl,rfl⟩|⟨hi,C⟩
  ·rw[L]at D;injection D with D;subst D;exact hB
  ·exact r.own i F x D C M
 ·rcases get' i x g1 with⟨rfl,rfl⟩|⟨hi,C⟩
  ·rcases get' i' x' g2 with⟨rfl,rfl⟩|⟨hi',T⟩
   ·exact absurd rfl J
   ·rw[L]at h1;injection h1 with h1;subst h1;exact r.sep i i' _ F' o x' J L h2 I T H b
  ·rcases get' i' x' g2 with⟨rfl,rfl⟩|⟨hi',T⟩
   ·rw[L]at h2;injection h2 with h2;subst h2;exact fun e=>r.sep i' i _ F o x (fun e=>hi e.symm) L h1 I C H (B0.GC a) e.symm
   ·exact r.sep i i' F F' x x' J h1 h2 C T a b
 ·rcases get' i x C with⟨rfl,rfl⟩|⟨hi,C⟩
  ·rw[L]at D;injection D with D;subst D;exact r.JZ _ _ o L I H
  ·exact r.JZ i F x D C M
 ·rcases get' i x C with⟨rfl,rfl⟩|⟨hi,C⟩
  ·rw[L]at D;injection D with D;subst D;exact r.PA _ _ o L I (B0.GC H)
  ·exact r.PA i F x D C hxl
theorem Rel.aV(r:Rel P w0 m h w){id:Nat}{gr:Option TypeId}{st:Nat}{cs cs':List AB}{h':AI}(I:h.get id=some (.cells gr st cs))(hs:h'.size=h.size)(h1:h'.get id=some (.cells gr 0 cs'))(h2:∀i,i≠id→h'.get i=h.get i)(hz:∀E,m id=some E→ZM m E cs'):Rel P w0 m h' w:=by
 have get':∀i x,h'.get i=some x→(i=id∧x=.cells gr 0 cs')∨(i≠id∧h.get i=some x):=fun i x C=>by
  by_cases e:i=id
  ·subst e;rw[h1]at C;injection C with C;exact .inl ⟨rfl,C.symm⟩
  ·rw[h2 _ e]at C;exact .inr ⟨e,C⟩
 refine⟨r.below,fun i F D=>by rw[hs];exact r.OX i F D,fun i F x D C=>?_,fun i F x D C M=>?_,fun i i' F F' x x' J h1 h2 g1 g2 a b=>?_,r.fz,fun i F x D C M=>?_,r.df,fun i F x D C hxl=>?_⟩
 ·rcases get' i x C with⟨rfl,rfl⟩|⟨hi,C⟩
  ·exact⟨⟨⟨(r.obj i F _ D I).1.1.1,fun _=>hz F D⟩,fun _ h=>by cases h⟩,fun h=>absurd rfl h⟩
  ·exact r.obj i F x D C
 ·rcases get' i x C with⟨rfl,rfl⟩|⟨hi,C⟩
  ·simp[B0.own]at M
  ·exact r.own i F x D C M
 ·rcases get' i x g1 with⟨rfl,rfl⟩|⟨hi,C⟩
  ·simp[B0.own]at a
  ·rcases get' i' x' g2 with⟨rfl,rfl⟩|⟨hi',T⟩
   ·simp[B0.live]at b
   ·exact r.sep i i' F F' x x' J h1 h2 C T a b
 ·rcases get' i x C with⟨rfl,rfl⟩|⟨hi,C⟩
  ·simp[B0.own]at M
  ·exact r.JZ i F x D C M
 ·rcases get' i x C with⟨rfl,rfl⟩|⟨hi,C⟩
  ·simp[B0.live]at hxl
  ·exact r.PA i F x D C hxl
theorem Rel.kill(r:Rel P w0 m h w){id:Nat}{gr:Option TypeId}{st:Nat}{cs:List AB}(I:h.get id=some (.cells gr st cs)):Rel P w0 m (h.set id (.cells gr 0 [])) w:=
 r.aV I (h.size_set _ _) (h.get_set_same _ (h.BN I)) (fun _ hi=>h.BX _ (h.BN I) hi) fun _ _=>ZM.nil
def BD.still(m:BD)(g:Nat)(cur:Array Value):BD:=⟨m.i,fun g' j=>if g'=g then cur[j]? else m.fz g' j,m.df⟩
theorem BD.X2{m:BD}{g:Nat}{cur:Array Value}(Q:∀j,m.fz g j=none):m.le (m.still g cur):=⟨fun _ _ h=>h,fun g' o v K=>by
 by_cases e:g'=g
 ·subst e;rw[Q]at K;cases K
 ·simp only[BD.still,zk e];exact K⟩
theorem Rel.freeze(r:Rel P w0 m h w){id:Nat}{E:Mb}{gr:Option TypeId}{cs:List AB}(L:m id=some E)(I:h.get id=some (.cells gr 2 cs)):
    ∃cur,Rel P w0 (m.still E.g cur) (h.set id (.cells gr 0 cs)) w∧m.le (m.still E.g cur)∧cur.size=E.total∧E.V8=Ks P gr∧∀(j:Nat) (a:AB),cs[j]?=some a→∃c,cur[E.base+j]?=some c∧VR m a c:=by
  have Q:=r.JZ id E _ L I rfl;obtain⟨he,hc⟩:=r.obj id E _ L I;obtain⟨cur,e,fz,h1,h2,Z,h4⟩:=hc (by simp);have hle:=BD.X2 (m:=m) (g:=E.g) (cur:=cur) Q;refine⟨cur,?_,hle,h2,he.1.1,fun j a R=>(Z j a R).2⟩;have k:=r.kill I;have hid:=h.BN I;have k1:Rel P w0 (m.still E.g cur) (h.set id (.cells gr 0 [])) w:=by
   refine⟨k.below,k.OX,fun i F x D C=>(k.obj i F x D C).mono hle fun _=>rfl,k.own,k.sep,fun g' j v K=>?_,fun i F x D C M=>?_,k.df,k.PA⟩
   · by_cases e':g'=E.g
     · subst e'
       simp only[BD.still,if_true]at K;exact⟨cur,e,fz,h1,K⟩
     · simp only[BD.still,zk e']at K
       exact k.fz g' j v K
   · have J:i≠id:=by
       intro e';subst e';rw[h.get_set_same _ hid]at C;injection C with C;subst C;simp[B0.own]at M
     have T:h.get i=some x:=by rw[h.BX _ hid J]at C;exact C
     have O:F.g≠E.g:=fun e'=>r.sep id i E F _ x (fun e=>J e.symm) L D I T rfl (B0.GC M) e'.symm;intro j;simp only[BD.still,zk O];exact r.JZ i F x D T M j
  refine k1.aV (cs':=cs) (h.get_set_same _ hid) (by rw[h.size_set,h.size_set]) (h.get_set_same _ hid) (fun i hi=>by rw[h.BX _ hid hi,h.BX _ hid hi]) fun E' hE'=>?_;obtain rfl:E=E':=zJ (L.symm.trans hE');intro j a R;obtain⟨c,g1,g2⟩:=(Z j a R).2;exact⟨c,by simp only[BD.still,if_true];exact g1,g2.mono hle⟩
end
def FR(m:BD)(fr:Fr)(a:Act):Prop:=fr.length=a.tmps.size∧∀i,VR m (nth fr i) (a.tmps.getD i undef)
theorem FR.mono{m m':BD}(hm:m.le m'){fr:Fr}{a:Act}(h:FR m fr a):FR m' fr a:=⟨h.1,fun i=>(h.2 i).mono hm⟩
theorem FR.ev{m:BD}{fr:Fr}{a:Act}(h:FR m fr a)(x:Operand):VR m (ev fr x) (a.eval x):=by
 cases x with
 |tmp t=>exact h.2 t
 |const v=>exact VR.ZL m v
 |global g=>exact .Jw g 0
 |func f=>exact .func _ _ _ _ _ rfl (fun i x y C=>by simp at C) rfl (fun i x y C=>by simp at C)
theorem FR.put{m:BD}{fr:Fr}{a:Act}(h:FR m fr a)(d:Option Tmp){x:AB}{v:Value}(K:VR m x v):FR m (put fr d x) (a.put d v):=by
 cases d with
 |none=>exact h
 | some d=>
  refine⟨by simp[Av.put,Act.put,h.1],fun i=>?_⟩;show VR m (nth (fr.set d x) i) ((a.tmps.setIfInBounds d v).getD i undef);rw[FY];by_cases e:d=i∧d<fr.length
  ·rw[zm e];obtain⟨rfl,hd⟩:=e;rw[h.1]at hd;simpa[zr,Array.getElem?_setIfInBounds,hd]using K
  ·rw[zk e];have:(a.tmps.setIfInBounds d v).getD i undef=a.tmps.getD i undef:=by
    simp only[zr,Array.getElem?_setIfInBounds];by_cases e1:d=i
    ·subst e1;have:¬d<a.tmps.size:=fun h'=>e ⟨rfl,by rw[h.1];exact h'⟩;simp[this]
    ·simp[e1]
   rw[this];exact h.2 i
theorem FR.cO{m:BD}{fr:Fr}{a:Act}(h:FR m fr a)(l:List Operand):CM m (l.map (Av.ev fr)) (l.map a.eval):=CM.map _ _ l fun x _=>h.ev x
theorem VR.Gs(m:BD):VR m (.tuple []) Go.undef:=.tuple [] #[] rfl fun i x y h=>by simp at h
theorem VR.FM{m:BD}{x:AB}{v:Value}(h:VR m x v):VR m (FM x) v:=by
 unfold Av.FM;split
 ·cases h<;>exact .KQ _ _
 ·exact h
theorem CM.FM{m:BD}{a:List AB}{c:List Value}(h:CM m a c):CM m (a.map Av.FM) c:=by
 refine⟨by simpa using h.1,fun i x y C hy=>?_⟩;rw[List.getElem?_map]at C;simp only[zl]at C;obtain⟨z,hz,rfl⟩:=C;exact(h.2 i z y hz hy).FM
theorem VR.R5{m:BD}{x:AB}{v:Value}(h:VR m x v):VR m (R5 x) v:=by
 unfold Av.R5;split
 ·obtain⟨c,rfl,K⟩:=h.GS;exact CM.agg K.FM
 ·exact h.FM
theorem CM.BA{m:BD}:∀(bs:List Bool) {a:List AB} {c:List Value},CM m a c→CM m (BA bs a) c
 |[],a,c,h=>by cases a<;>exact h
 |true::bs,[],c,h=>h
 |false::bs,[],c,h=>h
 |b::bs,x::a,[],h=>by simp[CM]at h
 |b::bs,x::a,y::c,h=>by
  have hc:=h.2 0 x y rfl rfl;have K:CM m a c:=⟨by simpa using h.1,fun i u v C hy=>h.2 (i+1) u v (by simpa using C) (by simpa using hy)⟩;cases b
  ·exact .cons hc (CM.BA bs K)
  ·exact .cons hc.R5 (CM.BA bs K)
theorem VR.Ff{m m':BD}{x:AB}{v:Value}(Q:Ff x=true)(h:VR m' x v):VR m x v:=by
 cases h<;>simp[Av.Ff]at Q
 ·exact .bool _
 ·exact .int _ _
 ·exact .str _
 ·exact .nilPtr
 ·exact .Ep
 ·exact .FH _
 ·exact .LH
 ·exact .Km
 ·exact .nilFunc
 ·exact .nilIface
theorem VR.I5{m m':BD}{x:AB}{v:Value}(Q:I5 x=true)(h:VR m' x v):VR m x v:=by
 unfold Av.I5 at Q;split at Q
 ·rename_i cs;obtain⟨c,rfl,K⟩:=h.GS;refine CM.agg ⟨K.1,fun i a b R S=>?_⟩;exact(K.2 i a b R S).Ff (zn.1 Q a (zQ R))
 ·exact h.Ff Q
theorem VR.NG{m m':BD}{x:AB}{v:Value}(Q:NG x=true)(h:VR m' x v):VR m x v:=by
 unfold Av.NG at Q;split at Q
 ·rename_i cs;obtain⟨c,rfl,K⟩:=h.KO;refine CM.tuple ⟨K.1,fun i a b R S=>?_⟩;exact(K.2 i a b R S).I5 (zn.1 Q a (zQ R))
 ·exact h.I5 Q
def Bh(G:Nat→Option (List AB))(w0:World):Prop:=
 (∀g cs,G g=some cs→g<w0.heap.size∧∃cur e fz,w0.heap[g]?=some (.cells cur e fz)∧(cs≠[]→cur.size=cs.length)∧∀(j:Nat) (a:AB),cs[j]?=some a→a.one=true∧Av.Ff a=true∧∃c,cur[j]?=some c∧VR ⟨fun _=>none,fun _ _=>none,fun _ _=>False⟩ a c)∧
 ∀g,G g=some []→∃n:Int,w0.cell? ⟨g,0,none⟩=some (.int .i64 n)
theorem Bh.none(w0:World):Bh (fun _=>Option.none) w0:=⟨fun g cs h=>(by cases h),fun g h=>(by cases h)⟩
theorem Bh.later{G:Nat→Option (List AB)}{w0 w:World}(hz:Bh G w0)(S:Below w0.heap.size w0 w):Bh G w:=⟨fun g cs h=>by
 obtain⟨Y,cur,e,fz,hc,K⟩:=hz.1 g cs h;exact⟨zX Y S.size,cur,e,fz,by rw[S.block g Y];exact hc,K⟩,fun g h=>by
 obtain⟨Y,-⟩:=hz.1 g [] h;obtain⟨n,hn⟩:=hz.2 g h;refine⟨n,?_⟩;unfold World.cell? at hn⊢;rw[show w.heap[(⟨g,0,Option.none⟩:Addr).block]?=w0.heap[(⟨g,0,Option.none⟩:Addr).block]? from S.block g Y]
 exact hn⟩
theorem Bh.rel{P:Program}{G:Nat→Option (List AB)}{w0 w:World}(hz:Bh G w0)(S:Below w0.heap.size w0 w){g:Nat}{cs:List AB}(O:G g=some cs):
  ∃tot,Rel P w0 ⟨fun id=>if id=0 then some ⟨g,0,0,tot⟩else Option.none,fun _ _=>Option.none,fun _ _=>False⟩ ((⟨0,.leaf⟩:AI).push (.cells Option.none 1 cs)) w∧∀a∈cs,Av.Ff a=true:=by
 obtain⟨Y,cur,e,fz,hc,_,K⟩:=hz.1 g cs O;have key:∀id o,((⟨0,.leaf⟩:AI).push (.cells Option.none 1 cs)).get id=some o→id=0∧o=.cells Option.none 1 cs:=by
  intro id o I;rw[AI.I0]at I;split at I
  ·rename_i h0;injection I with I;exact⟨h0,I.symm⟩
  ·have:((⟨0,.leaf⟩:AI).get id)=Option.none:=by
    unfold AI.get;cases Nat.blt id (⟨0,.leaf⟩:AI).size<;>rfl
   rw[this]at I;cases I
 refine⟨cur.size,⟨S,fun id E L=>?_,fun id E o L I=>?_,fun id E o L I H=>?_,fun id id' E E' o o' J h1 h2 g1 g2 H=>?_,fun g o v K=>by(cases K),fun id E o L I H j=>rfl,fun g x O=>O.elim,fun id E o L I W x hd=>hd⟩,fun a R=>?_⟩
 ·dsimp only at L;split at L
  ·rename_i h0;subst h0;simp
  ·cases L
 ·obtain⟨rfl,rfl⟩:=key id o I;simp only[if_true,zd]at L;subst L;refine⟨⟨⟨rfl,fun h=>by cases h⟩,fun _ h=>by cases h⟩,fun _=>⟨cur,e,fz,by rw[S.block g Y];exact hc,rfl,fun j a R=>?_,fun h=>by cases h⟩⟩;obtain⟨h1,h2,c,Z,h4⟩:=K j a R;exact⟨h1,c,by simpa using Z,h4.Ff h2⟩
 ·obtain⟨rfl,rfl⟩:=key id o I;simp[B0.own]at H
 ·obtain⟨rfl,rfl⟩:=key id o g1;simp[B0.own]at H
 ·obtain⟨j,hj,rfl⟩:=yA R;exact(K j _ (List.getElem?_eq_getElem hj)).2.1
end Go.Av
