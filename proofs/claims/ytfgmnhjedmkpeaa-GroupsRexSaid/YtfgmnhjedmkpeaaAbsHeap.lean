/-
 A part.
-/
import Derived.Test.YtfgmnhjedmkpeaaAbsRel
set_option linter.unusedSimpArgs false
namespace Go.Abs
open Go.RowKit
def Br.live:Br->Bool
 | .cells _ st _=>st !=0
 | .map st _=>st !=0
 | .iter _ _=>true
def Br.own:Br->Bool
 | .cells _ st _=>st==2
 | .map st _=>st==2
 | .iter _ _=>true
theorem Br.Ft{o:Br}(h:o.own=true):o.live=true:=by
 cases o<;>simp[Br.own,Br.live]at * <;>omega
def Kv(P:Program):Option TypeId->Nat
 |some e=>P.cellsOf e
 |none=>0
def IV(P:Program)(m:BU)(w:World)(E:Ii):Br->Prop
 | .cells gr st cs=>E.QG=Kv P gr/\(st≠0->∃cur e fz,w.heap[E.g]?=some (.cells cur e fz)/\cur.size=E.total/\
   (∀(j:Nat) (a:AD),cs[j]?=some a->a.one=true/\∃c,cur[E.base+j]?=some c/\VR m a c)/\(st=2->∀j,j<E.total->¬(fz.1<=j/\j<fz.2)))
 | .map st es=>E.base=0/\(st≠0->∃ents clock,w.heap[E.g]?=some (.map ents clock)/\es.length=ents.size/\
   ∀(i:Nat) (k v:AD) (e:MapEntry),es[i]?=some (k,v)->ents[i]?=some e->VR m k e.key/\VR m v e.val)
 | .iter s pos=>E.base=0/\w.heap[E.g]?=some (.stringIter ⟨⟨s⟩⟩ pos)
structure Rel(P:Program)(w0:World)(m:BU)(h:AE)(w:World):Prop where
 below:Below w0.heap.size w0 w
 On:∀id E,m id=some E->id<h.size
 obj:∀id E o,m id=some E->h.get id=some o->IV P m w E o
 own:∀id E o,m id=some E->h.get id=some o->o.own=true->w0.heap.size<=E.g
 sep:∀id id' E E' o o',id≠id'->m id=some E->m id'=some E'->h.get id=some o->h.get id'=some o'->o.own=true->o'.live=true->E.g≠E'.g
structure Dn(w w':World)(g:Nat):Prop where
 os:w'.os=w.os
 tape:w'.tape=w.tape
 output:w'.output=w.output
 size:w.heap.size<=w'.heap.size
 block:∀k,k<w.heap.size->k≠g->w'.heap[k]?=w.heap[k]?
theorem Dn.refl(w:World)(g:Nat):Dn w w g:=⟨rfl,rfl,rfl,xb _,λ_ _ _=>rfl⟩
theorem Dn.below{w0 w w':World}{B g:Nat}(h:Dn w w' g)(O:Below B w0 w)(hB:B<=w.heap.size)(T:B<=g):Below B w0 w':=
 ⟨h.os.trans O.os,h.tape.trans O.tape,h.output.trans O.output,xn O.size h.size,λk hk=>(h.block k (by omega) (by omega)).trans (O.block k hk)⟩
theorem Dn.alloc(w:World)(o:Obj)(g:Nat):Dn w (w.alloc o) g:=⟨rfl,rfl,rfl,by simp,λk hk _=>Below.heap_alloc w o k hk⟩
theorem Dn.trans{a b c:World}{g:Nat}(h:Dn a b g)(k:Dn b c g):Dn a c g:=
 ⟨k.os.trans h.os,k.tape.trans h.tape,k.output.trans h.output,xn h.size k.size,λi hi I=>(k.block i (xe hi h.size) I).trans (h.block i hi I)⟩
theorem IV.lt{P:Program}{m:BU}{w:World}{E:Ii}{o:Br}(h:IV P m w E o)(X:o.live=true):E.g<w.heap.size:=by
 cases o with
 |cells gr st cs=>obtain⟨_,_,_,h1,_⟩:=h.2 (by simpa[Br.live]using X);exact(Array.getElem?_eq_some_iff.1 h1).1
 |map st es=>obtain⟨_,_,h1,_⟩:=h.2 (by simpa[Br.live]using X);exact(Array.getElem?_eq_some_iff.1 h1).1
 |iter s pos=>exact(Array.getElem?_eq_some_iff.1 h.2).1
theorem IV.mono{P:Program}{m m':BU}{w w':World}{E:Ii}{o:Br}(hm:m.le m')(hw:o.live=true->w'.heap[E.g]?=w.heap[E.g]?)(h:IV P m w E o):IV P m' w' E o:=by
 cases o with
 |cells gr st cs=>
  refine⟨h.1,λR=>?_⟩;obtain⟨cur,e,fz,h1,H,h3,h4⟩:=h.2 R;refine⟨cur,e,fz,by rw[hw (by simp[Br.live,R])];exact h1,H,λj a V=>?_,h4⟩;obtain⟨g1,c,g2,g3⟩:=h3 j a V;exact⟨g1,c,g2,g3.mono hm⟩
 |map st es=>
  refine⟨h.1,λR=>?_⟩;obtain⟨ents,clock,h1,H,h3⟩:=h.2 R;exact⟨ents,clock,by rw[hw (by simp[Br.live,R])];exact h1,H,λi k v e hi he=>⟨(h3 i k v e hi he).1.mono hm,(h3 i k v e hi he).2.mono hm⟩⟩
 |iter s pos=>exact⟨h.1,by rw[hw rfl];exact h.2⟩
section
variable {P:Program} {w0:World} {m:BU} {h:AE} {w:World}
theorem Rel.size(r:Rel P w0 m h w):w0.heap.size<=w.heap.size:=r.below.size
theorem Rel.fresh(r:Rel P w0 m h w){id:Nat}(hi:h.size<=id):m id=none:=by
 cases e:m id with
 |none=>rfl
 |some E=>have:=r.On id E e;omega
theorem Rel.drew(r:Rel P w0 m h w):Rel P w0 m h w.drew:=⟨r.below.drew,r.On,r.obj,r.own,r.sep⟩
theorem Rel.ghost(r:Rel P w0 m h w)(o:Br):Rel P w0 m (h.push o) w:=by
 have old:∀id E o',m id=some E->(h.push o).get id=some o'->h.get id=some o':=λid E o' hm T=>by
  rw[h.Cc o (r.On id E hm)]at T;exact T
 exact⟨r.below,λid E hm=>by have:=r.On id E hm;simp;omega,λid E o' hm T=>r.obj id E o' hm (old id E o' hm T),
  λid E o' hm T=>r.own id E o' hm (old id E o' hm T),λid id' E E' o1 o2 I h1 H g1 g2=>r.sep id id' E E' o1 o2 I h1 H (old _ _ _ h1 g1) (old _ _ _ H g2)⟩
def BU.upd(m:BU)(id:Nat)(E:Ii):BU:=λi=>if i=id then some E else m i
theorem BU.D8(m:BU)(id:Nat)(E:Ii):m.upd id E id=some E:=by simp[BU.upd]
theorem BU.KY(m:BU){id i:Nat}(E:Ii)(h:i≠id):m.upd id E i=m i:=by simp[BU.upd,h]
theorem BU.LL{m:BU}{id:Nat}(E:Ii)(h:m id=none):m.le (m.upd id E):=λi F D=>by
 by_cases e:i=id
 ·subst e;rw[h]at D;cases D
 ·rw[BU.KY _ _ e];exact D
theorem BU.le_refl(m:BU):m.le m:=λ_ _ h=>h
theorem Rel.place(r:Rel P w0 m h w){w':World}{id:Nat}{E:Ii}{o:Br}(Z:Dn w w' E.g)(hg0:w0.heap.size<=E.g)
  (N:∀id2 E2 o2,m id2=some E2->h.get id2=some o2->o2.live=true->E2.g≠E.g) (hid:m id=none) (K:h.get id=some o)
  (M:IV P (m.upd id E) w' E o):Rel P w0 (m.upd id E) h w':=by
 have hle:=BU.LL E hid;have other:∀{i F},m.upd id E i=some F->i≠id->m i=some F:=λh1 H=>by rw[BU.KY _ _ H]at h1;exact h1
 refine⟨Z.below r.below r.size hg0,λi F D=>?_,λi F o' D L=>?_,λi F o' D L C=>?_,λi i' F F' o1 o2 I h1 H g1 g2 C S=>?_⟩
 ·by_cases e:i=id
  ·subst e;rw[BU.D8]at D;injection D with D;subst D;exact h.BZ K
  ·exact r.On i F (other D e)
 ·by_cases e:i=id
  ·subst e;rw[BU.D8]at D;injection D with D;subst D;rw[K]at L;injection L with L;subst L;exact M
  ·have hF':=other D e;exact(r.obj i F o' hF' L).mono hle λX=>Z.block _ ((r.obj i F o' hF' L).lt X) (N i F o' hF' L X)
 ·by_cases e:i=id
  ·subst e;rw[BU.D8]at D;injection D with D;subst D;exact hg0
  ·exact r.own i F o' (other D e) L C
 ·by_cases e:i=id
  ·subst e;rw[BU.D8]at h1;injection h1 with h1;subst h1;exact λhh=>N i' F' o2 (other H (λe=>I e.symm)) g2 S hh.symm
  ·by_cases e':i'=id
   ·subst e';rw[BU.D8]at H;injection H with H;subst H;exact N i F o1 (other h1 e) g1 (Br.Ft C)
   ·exact r.sep i i' F F' o1 o2 I (other h1 e) (other H e') g1 g2 C S
theorem Rel.new(r:Rel P w0 m h w){w':World}{E:Ii}{o:Br}(Z:Dn w w' E.g)(T:E.g=w.heap.size)
  (M:IV P (m.upd h.size E) w' E o):Rel P w0 (m.upd h.size E) (h.push o) w':=by
 refine(r.ghost o).place Z (by rw[T];exact r.size) (λid2 E2 o2 H ho2 hl2=>?_) (r.fresh (xb _)) (h.Bh o) M;have:=((r.ghost o).obj id2 E2 o2 H ho2).lt hl2;omega
theorem Rel.write(r:Rel P w0 m h w){w':World}{id:Nat}{E:Ii}{o o':Br}(hE:m id=some E)(K:h.get id=some o)(C:o.own=true)(hown':o'.own=true)
  (Z:Dn w w' E.g) (M:IV P m w' E o'):Rel P w0 m (h.set id o') w':=by
 have hid:=h.BZ K;have hB:=r.own id E o hE K C;have get':∀i x,(h.set id o').get i=some x->(i=id/\x=o')\/(i≠id/\h.get i=some x):=λi x J=>by
  by_cases e:i=id
  ·subst e;rw[h.Cf o' hid]at J;injection J with J;exact .inl ⟨rfl,J.symm⟩
  ·rw[h.Cj o' hid e]at J;exact .inr ⟨e,J⟩
 refine⟨Z.below r.below r.size hB,r.On,λi F x D J=>?_,λi F x D J hxo=>?_,λi i' F F' x x' I h1 H g1 g2 a b=>?_⟩
 ·rcases get' i x J with⟨rfl,rfl⟩|⟨hi,J⟩
  ·rw[hE]at D;injection D with D;subst D;exact M
  ·refine(r.obj i F x D J).mono (BU.le_refl m) λX=>Z.block _ ((r.obj i F x D J).lt X) λe=>?_;exact r.sep id i E F o x (λe=>hi e.symm) hE D K J C X e.symm
 ·rcases get' i x J with⟨rfl,rfl⟩|⟨hi,J⟩
  ·rw[hE]at D;injection D with D;subst D;exact hB
  ·exact r.own i F x D J hxo
 ·rcases get' i x g1 with⟨rfl,rfl⟩|⟨hi,J⟩
  ·rcases get' i' x' g2 with⟨rfl,rfl⟩|⟨hi',Y⟩
   ·exact absurd rfl I
   ·rw[hE]at h1;injection h1 with h1;subst h1;exact r.sep i i' _ F' o x' I hE H K Y C b
  ·rcases get' i' x' g2 with⟨rfl,rfl⟩|⟨hi',Y⟩
   ·rw[hE]at H;injection H with H;subst H;exact λe=>r.sep i' i _ F o x (λe=>hi e.symm) hE h1 K J C (Br.Ft a) e.symm
   ·exact r.sep i i' F F' x x' I h1 H J Y a b
end
def FR(m:BU)(fr:Fr)(a:Act):Prop:=fr.length=a.tmps.size/\∀i,VR m (nth fr i) (a.tmps.getD i undef)
theorem FR.mono{m m':BU}(hm:m.le m'){fr:Fr}{a:Act}(h:FR m fr a):FR m' fr a:=⟨h.1,λi=>(h.2 i).mono hm⟩
theorem FR.ev{m:BU}{fr:Fr}{a:Act}(h:FR m fr a)(x:Operand):VR m (ev fr x) (a.eval x):=by
 cases x with
 |tmp t=>exact h.2 t
 |const v=>exact VR.Pf m v
 |global g=>exact .GM g 0
 |func f=>exact .func _ _ _ _ _ rfl (λi x y J=>by simp at J) rfl (λi x y J=>by simp at J)
theorem FR.put{m:BU}{fr:Fr}{a:Act}(h:FR m fr a)(d:Option Tmp){x:AD}{v:Value}(Q:VR m x v):FR m (put fr d x) (a.put d v):=by
 cases d with
 |none=>exact h
 | some d=>
  refine⟨by simp[Abs.put,Act.put,h.1],λi=>?_⟩;show VR m (nth (fr.set d x) i) ((a.tmps.setIfInBounds d v).getD i undef);rw[GR];by_cases e:d=i/\d<fr.length
  ·rw[xf e];obtain⟨rfl,hd⟩:=e;rw[h.1]at hd;simpa[qZ,Array.getElem?_setIfInBounds,hd]using Q
  ·rw[xd e];have:(a.tmps.setIfInBounds d v).getD i undef=a.tmps.getD i undef:=by
    simp only[qZ,Array.getElem?_setIfInBounds];by_cases e1:d=i
    ·subst e1;have:¬d<a.tmps.size:=λh'=>e ⟨rfl,by rw[h.1];exact h'⟩;simp[this]
    ·simp[e1]
   rw[this];exact h.2 i
theorem FR.U1{m:BU}{fr:Fr}{a:Act}(h:FR m fr a)(l:List Operand):B5 m (l.map (Abs.ev fr)) (l.map a.eval):=B5.map _ _ l λx _=>h.ev x
theorem VR.Hf(m:BU):VR m (.tuple []) Go.undef:=.tuple [] #[] rfl λi x y h=>by simp at h
theorem VR.Fq{m m':BU}{x:AD}{v:Value}(U:Fq x=true)(h:VR m' x v):VR m x v:=by
 cases h<;>simp[Abs.Fq]at U
 ·exact .bool _
 ·exact .int _ _
 ·exact .str _
 ·exact .Il
 ·exact .Db
 ·exact .Iv
 ·exact .Hc
 ·exact .nilFunc
 ·exact .nilIface
theorem VR.HS{m m':BU}{x:AD}{v:Value}(U:HS x=true)(h:VR m' x v):VR m x v:=by
 unfold Abs.HS at U;split at U
 ·rename_i cs;obtain⟨c,rfl,Q⟩:=h.D1;refine B5.agg ⟨Q.1,λi a b V O=>?_⟩;exact(Q.2 i a b V O).Fq (xg.1 U a (q9 V))
 ·exact h.Fq U
theorem VR.MX{m m':BU}{x:AD}{v:Value}(U:MX x=true)(h:VR m' x v):VR m x v:=by
 unfold Abs.MX at U;split at U
 ·rename_i cs;obtain⟨c,rfl,Q⟩:=h.Kl;refine B5.tuple ⟨Q.1,λi a b V O=>?_⟩;exact(Q.2 i a b V O).HS (xg.1 U a (q9 V))
 ·exact h.HS U
def CL(G:Nat->Option (List AD))(w0:World):Prop:=
 ∀g cs,G g=some cs->g<w0.heap.size/\∃cur e fz,w0.heap[g]?=some (.cells cur e fz)/\∀(j:Nat) (a:AD),cs[j]?=some a->a.one=true/\Abs.Fq a=true/\∃c,cur[j]?=some c/\VR (λ_=>none) a c
theorem CL.later{G:Nat->Option (List AD)}{w0 w:World}(hz:CL G w0)(O:Below w0.heap.size w0 w):CL G w:=λg cs h=>by
 obtain⟨W,cur,e,fz,hc,Q⟩:=hz g cs h;exact⟨xe W O.size,cur,e,fz,by rw[O.block g W];exact hc,Q⟩
theorem CL.rel{P:Program}{G:Nat->Option (List AD)}{w0 w:World}(hz:CL G w0)(O:Below w0.heap.size w0 w){g:Nat}{cs:List AD}(T:G g=some cs):
  ∃tot,Rel P w0 (λid=>if id=0 then some ⟨g,0,0,tot⟩else Option.none) ((⟨0,.leaf⟩:AE).push (.cells Option.none 1 cs)) w/\∀a∈cs,Abs.Fq a=true:=by
 obtain⟨W,cur,e,fz,hc,Q⟩:=hz g cs T;have key:∀id o,((⟨0,.leaf⟩:AE).push (.cells Option.none 1 cs)).get id=some o->id=0/\o=.cells Option.none 1 cs:=by
  intro id o K;rw[AE.KA]at K;split at K
  ·rename_i h0;injection K with K;exact⟨h0,K.symm⟩
  ·have:((⟨0,.leaf⟩:AE).get id)=Option.none:=by
    unfold AE.get;cases Nat.blt id (⟨0,.leaf⟩:AE).size<;>rfl
   rw[this]at K;cases K
 refine⟨cur.size,⟨O,λid E hE=>?_,λid E o hE K=>?_,λid E o hE K C=>?_,λid id' E E' o o' I h1 H g1 g2 C=>?_⟩,λa V=>?_⟩
 ·split at hE
  ·rename_i h0;subst h0;simp
  ·cases hE
 ·obtain⟨rfl,rfl⟩:=key id o K;simp only[if_true,qU]at hE;subst hE;refine⟨rfl,λ_=>⟨cur,e,fz,by rw[O.block g W];exact hc,rfl,λj a V=>?_,λh=>by cases h⟩⟩;obtain⟨h1,H,c,h3,h4⟩:=Q j a V;exact⟨h1,c,by simpa using h3,h4.Fq H⟩
 ·obtain⟨rfl,rfl⟩:=key id o K;simp[Br.own]at C
 ·obtain⟨rfl,rfl⟩:=key id o g1;simp[Br.own]at C
 ·obtain⟨j,hj,rfl⟩:=List.getElem_of_mem V;exact(Q j _ (List.getElem?_eq_getElem hj)).2.1
end Go.Abs
