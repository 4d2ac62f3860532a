/-
 A part.
-/
import Derived.Test.YtfgmnhjedmkpeaaAbsRel
set_option linter.unusedSimpArgs false
namespace Go.Abs
open Go.RowKit
def Ay.live:Ay->Bool
 | .cells _ st _=>st !=0
 | .map st _=>st !=0
 | .iter _ _=>true
def Ay.own:Ay->Bool
 | .cells _ st _=>st==2
 | .map st _=>st==2
 | .iter _ _=>true
theorem Ay.Eg{o:Ay}(h:o.own=true):o.live=true:=by
 cases o<;>simp[Ay.own,Ay.live]at * <;>omega
def Ga(P:Program):Option TypeId->Nat
 |some e=>P.cellsOf e
 |none=>0
def F3(P:Program)(m:Aj)(w:World)(E:Gg):Ay->Prop
 | .cells gr st cs=>E.Lw=Ga P gr/\(st≠0->∃cur e fz,w.heap[E.g]?=some (.cells cur e fz)/\cur.size=E.total/\
   (∀(j:Nat) (a:AA),cs[j]?=some a->a.one=true/\∃c,cur[E.base+j]?=some c/\VR m a c)/\(st=2->∀j,j<E.total->¬(fz.1<=j/\j<fz.2)))
 | .map st es=>E.base=0/\(st≠0->∃ents clock,w.heap[E.g]?=some (.map ents clock)/\es.length=ents.size/\
   ∀(i:Nat) (k v:AA) (e:MapEntry),es[i]?=some (k,v)->ents[i]?=some e->VR m k e.key/\VR m v e.val)
 | .iter s pos=>E.base=0/\w.heap[E.g]?=some (.stringIter ⟨⟨s⟩⟩ pos)
structure Rel(P:Program)(w0:World)(m:Aj)(h:AB)(w:World):Prop where
 below:Below w0.heap.size w0 w
 Kg:∀id E,m id=some E->id<h.size
 obj:∀id E o,m id=some E->h.get id=some o->F3 P m w E o
 own:∀id E o,m id=some E->h.get id=some o->o.own=true->w0.heap.size<=E.g
 sep:∀id id' E E' o o',id≠id'->m id=some E->m id'=some E'->h.get id=some o->h.get id'=some o'->o.own=true->o'.live=true->E.g≠E'.g
structure B9(w w':World)(g:Nat):Prop where
 os:w'.os=w.os
 tape:w'.tape=w.tape
 output:w'.output=w.output
 size:w.heap.size<=w'.heap.size
 block:∀k,k<w.heap.size->k≠g->w'.heap[k]?=w.heap[k]?
theorem B9.refl(w:World)(g:Nat):B9 w w g:=⟨rfl,rfl,rfl,xe _,λ_ _ _=>rfl⟩
theorem B9.below{w0 w w':World}{B g:Nat}(h:B9 w w' g)(O:Below B w0 w)(hB:B<=w.heap.size)(V:B<=g):Below B w0 w':=
 ⟨h.os.trans O.os,h.tape.trans O.tape,h.output.trans O.output,xq O.size h.size,λk hk=>(h.block k (by omega) (by omega)).trans (O.block k hk)⟩
theorem B9.alloc(w:World)(o:Obj)(g:Nat):B9 w (w.alloc o) g:=⟨rfl,rfl,rfl,by simp,λk hk _=>Below.heap_alloc w o k hk⟩
theorem B9.alloc_drew(w:World)(o:Obj)(g:Nat):B9 w (w.drew.alloc o) g:=⟨rfl,rfl,rfl,(B9.alloc w.drew o g).size,λk hk _=>Below.heap_alloc w.drew o k hk⟩
theorem B9.drew{w w':World}{g:Nat}(h:B9 w w' g):B9 w w'.drew g:=⟨h.os,h.tape,h.output,h.size,h.block⟩
theorem B9.trans{a b c:World}{g:Nat}(h:B9 a b g)(k:B9 b c g):B9 a c g:=
 ⟨k.os.trans h.os,k.tape.trans h.tape,k.output.trans h.output,xq h.size k.size,λi Q I=>(k.block i (xi Q h.size) I).trans (h.block i Q I)⟩
theorem F3.lt{P:Program}{m:Aj}{w:World}{E:Gg}{o:Ay}(h:F3 P m w E o)(hl:o.live=true):E.g<w.heap.size:=by
 cases o with
 |cells gr st cs=>obtain⟨_,_,_,h1,_⟩:=h.2 (by simpa[Ay.live]using hl);exact(Array.getElem?_eq_some_iff.1 h1).1
 |map st es=>obtain⟨_,_,h1,_⟩:=h.2 (by simpa[Ay.live]using hl);exact(Array.getElem?_eq_some_iff.1 h1).1
 |iter s pos=>exact(Array.getElem?_eq_some_iff.1 h.2).1
theorem F3.mono{P:Program}{m m':Aj}{w w':World}{E:Gg}{o:Ay}(hm:m.le m')(hw:o.live=true->w'.heap[E.g]?=w.heap[E.g]?)(h:F3 P m w E o):F3 P m' w' E o:=by
 cases o with
 |cells gr st cs=>
  refine⟨h.1,λT=>?_⟩;obtain⟨cur,e,fz,h1,J,h3,h4⟩:=h.2 T;refine⟨cur,e,fz,by rw[hw (by simp[Ay.live,T])];exact h1,J,λj a X=>?_,h4⟩;obtain⟨g1,c,g2,g3⟩:=h3 j a X;exact⟨g1,c,g2,g3.mono hm⟩
 |map st es=>
  refine⟨h.1,λT=>?_⟩;obtain⟨ents,clock,h1,J,h3⟩:=h.2 T;exact⟨ents,clock,by rw[hw (by simp[Ay.live,T])];exact h1,J,λi k v e Q he=>⟨(h3 i k v e Q he).1.mono hm,(h3 i k v e Q he).2.mono hm⟩⟩
 |iter s pos=>exact⟨h.1,by rw[hw rfl];exact h.2⟩
section
variable {P:Program} {w0:World} {m:Aj} {h:AB} {w:World}
theorem Rel.size(r:Rel P w0 m h w):w0.heap.size<=w.heap.size:=r.below.size
theorem Rel.fresh(r:Rel P w0 m h w){id:Nat}(Q:h.size<=id):m id=none:=by
 cases e:m id with
 |none=>rfl
 |some E=>have:=r.Kg id E e;omega
theorem Rel.drew(r:Rel P w0 m h w):Rel P w0 m h w.drew:=⟨r.below.drew,r.Kg,r.obj,r.own,r.sep⟩
theorem Rel.ghost(r:Rel P w0 m h w)(o:Ay):Rel P w0 m (h.push o) w:=by
 have old:∀id E o',m id=some E->(h.push o).get id=some o'->h.get id=some o':=λid E o' hm V=>by
  rw[h.Bp o (r.Kg id E hm)]at V;exact V
 exact⟨r.below,λid E hm=>by have:=r.Kg id E hm;simp;omega,λid E o' hm V=>r.obj id E o' hm (old id E o' hm V),
  λid E o' hm V=>r.own id E o' hm (old id E o' hm V),λid id' E E' o1 o2 I h1 J g1 g2=>r.sep id id' E E' o1 o2 I h1 J (old _ _ _ h1 g1) (old _ _ _ J g2)⟩
def Aj.upd(m:Aj)(id:Nat)(E:Gg):Aj:=λi=>if i=id then some E else m i
theorem Aj.CR(m:Aj)(id:Nat)(E:Gg):m.upd id E id=some E:=by simp[Aj.upd]
theorem Aj.HG(m:Aj){id i:Nat}(E:Gg)(h:i≠id):m.upd id E i=m i:=by simp[Aj.upd,h]
theorem Aj.Gl{m:Aj}{id:Nat}(E:Gg)(h:m id=none):m.le (m.upd id E):=λi F H=>by
 by_cases e:i=id
 ·subst e;rw[h]at H;cases H
 ·rw[Aj.HG _ _ e];exact H
theorem Aj.le_refl(m:Aj):m.le m:=λ_ _ h=>h
theorem Rel.place(r:Rel P w0 m h w){w':World}{id:Nat}{E:Gg}{o:Ay}(ht:B9 w w' E.g)(hg0:w0.heap.size<=E.g)
  (N:∀id2 E2 o2,m id2=some E2->h.get id2=some o2->o2.live=true->E2.g≠E.g) (hid:m id=none) (K:h.get id=some o)
  (M:F3 P (m.upd id E) w' E o):Rel P w0 (m.upd id E) h w':=by
 have hle:=Aj.Gl E hid;have other:∀{i F},m.upd id E i=some F->i≠id->m i=some F:=λh1 J=>by rw[Aj.HG _ _ J]at h1;exact h1
 refine⟨ht.below r.below r.size hg0,λi F H=>?_,λi F o' H L=>?_,λi F o' H L C=>?_,λi i' F F' o1 o2 I h1 J g1 g2 C U=>?_⟩
 ·by_cases e:i=id
  ·subst e;rw[Aj.CR]at H;injection H with H;subst H;exact h.Ar K
  ·exact r.Kg i F (other H e)
 ·by_cases e:i=id
  ·subst e;rw[Aj.CR]at H;injection H with H;subst H;rw[K]at L;injection L with L;subst L;exact M
  ·have hF':=other H e;exact(r.obj i F o' hF' L).mono hle λhl=>ht.block _ ((r.obj i F o' hF' L).lt hl) (N i F o' hF' L hl)
 ·by_cases e:i=id
  ·subst e;rw[Aj.CR]at H;injection H with H;subst H;exact hg0
  ·exact r.own i F o' (other H e) L C
 ·by_cases e:i=id
  ·subst e;rw[Aj.CR]at h1;injection h1 with h1;subst h1;exact λhh=>N i' F' o2 (other J (λe=>I e.symm)) g2 U hh.symm
  ·by_cases e':i'=id
   ·subst e';rw[Aj.CR]at J;injection J with J;subst J;exact N i F o1 (other h1 e) g1 (Ay.Eg C)
   ·exact r.sep i i' F F' o1 o2 I (other h1 e) (other J e') g1 g2 C U
theorem Rel.new(r:Rel P w0 m h w){w':World}{E:Gg}{o:Ay}(ht:B9 w w' E.g)(V:E.g=w.heap.size)
  (M:F3 P (m.upd h.size E) w' E o):Rel P w0 (m.upd h.size E) (h.push o) w':=by
 refine(r.ghost o).place ht (by rw[V];exact r.size) (λid2 E2 o2 J ho2 hl2=>?_) (r.fresh (xe _)) (h.A8 o) M;have:=((r.ghost o).obj id2 E2 o2 J ho2).lt hl2;omega
theorem Rel.write(r:Rel P w0 m h w){w':World}{id:Nat}{E:Gg}{o o':Ay}(hE:m id=some E)(K:h.get id=some o)(C:o.own=true)(hown':o'.own=true)
  (ht:B9 w w' E.g) (M:F3 P m w' E o'):Rel P w0 m (h.set id o') w':=by
 have hid:=h.Ar K;have hB:=r.own id E o hE K C;have get':∀i x,(h.set id o').get i=some x->(i=id/\x=o')\/(i≠id/\h.get i=some x):=λi x D=>by
  by_cases e:i=id
  ·subst e;rw[h.B0 o' hid]at D;injection D with D;exact .inl ⟨rfl,D.symm⟩
  ·rw[h.Bw o' hid e]at D;exact .inr ⟨e,D⟩
 refine⟨ht.below r.below r.size hB,r.Kg,λi F x H D=>?_,λi F x H D Y=>?_,λi i' F F' x x' I h1 J g1 g2 a b=>?_⟩
 ·rcases get' i x D with⟨rfl,rfl⟩|⟨Q,D⟩
  ·rw[hE]at H;injection H with H;subst H;exact M
  ·refine(r.obj i F x H D).mono (Aj.le_refl m) λhl=>ht.block _ ((r.obj i F x H D).lt hl) λe=>?_;exact r.sep id i E F o x (λe=>Q e.symm) hE H K D C hl e.symm
 ·rcases get' i x D with⟨rfl,rfl⟩|⟨Q,D⟩
  ·rw[hE]at H;injection H with H;subst H;exact hB
  ·exact r.own i F x H D Y
 ·rcases get' i x g1 with⟨rfl,rfl⟩|⟨Q,D⟩
  ·rcases get' i' x' g2 with⟨rfl,rfl⟩|⟨hi',S⟩
   ·exact absurd rfl I
   ·rw[hE]at h1;injection h1 with h1;subst h1;exact r.sep i i' _ F' o x' I hE J K S C b
  ·rcases get' i' x' g2 with⟨rfl,rfl⟩|⟨hi',S⟩
   ·rw[hE]at J;injection J with J;subst J;exact λe=>r.sep i' i _ F o x (λe=>Q e.symm) hE h1 K D C (Ay.Eg a) e.symm
   ·exact r.sep i i' F F' x x' I h1 J D S a b
theorem Rel.kill(r:Rel P w0 m h w){id:Nat}{gr:Option TypeId}{st:Nat}{cs:List AA}(K:h.get id=some (.cells gr st cs)):Rel P w0 m (h.set id (.cells gr 0 cs)) w:=by
 have hid:=h.Ar K;have get':∀i x,(h.set id (.cells gr 0 cs)).get i=some x->(i=id/\x=.cells gr 0 cs)\/(i≠id/\h.get i=some x):=λi x D=>by
  by_cases e:i=id
  ·subst e;rw[h.B0 _ hid]at D;injection D with D;exact .inl ⟨rfl,D.symm⟩
  ·rw[h.Bw _ hid e]at D;exact .inr ⟨e,D⟩
 refine⟨r.below,r.Kg,λi F x H D=>?_,λi F x H D Y=>?_,λi i' F F' x x' I h1 J g1 g2 a b=>?_⟩
 ·rcases get' i x D with⟨rfl,rfl⟩|⟨Q,D⟩
  ·exact⟨(r.obj i F _ H K).1,λh=>absurd rfl h⟩
  ·exact r.obj i F x H D
 ·rcases get' i x D with⟨rfl,rfl⟩|⟨Q,D⟩
  ·simp[Ay.own]at Y
  ·exact r.own i F x H D Y
 ·rcases get' i x g1 with⟨rfl,rfl⟩|⟨Q,D⟩
  ·simp[Ay.own]at a
  ·rcases get' i' x' g2 with⟨rfl,rfl⟩|⟨hi',S⟩
   ·simp[Ay.live]at b
   ·exact r.sep i i' F F' x x' I h1 J D S a b
end
def FR(m:Aj)(fr:Fr)(a:Act):Prop:=fr.length=a.tmps.size/\∀i,VR m (nth fr i) (a.tmps.getD i undef)
theorem FR.mono{m m':Aj}(hm:m.le m'){fr:Fr}{a:Act}(h:FR m fr a):FR m' fr a:=⟨h.1,λi=>(h.2 i).mono hm⟩
theorem FR.ev{m:Aj}{fr:Fr}{a:Act}(h:FR m fr a)(x:Operand):VR m (ev fr x) (a.eval x):=by
 cases x with
 |tmp t=>exact h.2 t
 |const v=>exact VR.NC m v
 |global g=>exact .EJ g 0
 |func f=>exact .func _ _ _ _ _ rfl (λi x y D=>by simp at D) rfl (λi x y D=>by simp at D)
theorem FR.put{m:Aj}{fr:Fr}{a:Act}(h:FR m fr a)(d:Option Tmp){x:AA}{v:Value}(R:VR m x v):FR m (put fr d x) (a.put d v):=by
 cases d with
 |none=>exact h
 | some d=>
  refine⟨by simp[Abs.put,Act.put,h.1],λi=>?_⟩;show VR m (nth (fr.set d x) i) ((a.tmps.setIfInBounds d v).getD i undef);rw[Ey];by_cases e:d=i/\d<fr.length
  ·rw[xj e];obtain⟨rfl,hd⟩:=e;rw[h.1]at hd;simpa[xc,Array.getElem?_setIfInBounds,hd]using R
  ·rw[xg e];have:(a.tmps.setIfInBounds d v).getD i undef=a.tmps.getD i undef:=by
    simp only[xc,Array.getElem?_setIfInBounds];by_cases e1:d=i
    ·subst e1;have:¬d<a.tmps.size:=λh'=>e ⟨rfl,by rw[h.1];exact h'⟩;simp[this]
    ·simp[e1]
   rw[this];exact h.2 i
theorem FR.SC{m:Aj}{fr:Fr}{a:Act}(h:FR m fr a)(l:List Operand):BT m (l.map (Abs.ev fr)) (l.map a.eval):=BT.map _ _ l λx _=>h.ev x
theorem VR.Em(m:Aj):VR m (.tuple []) Go.undef:=.tuple [] #[] rfl λi x y h=>by simp at h
theorem VR.Ev{m m':Aj}{x:AA}{v:Value}(W:Ev x=true)(h:VR m' x v):VR m x v:=by
 cases h<;>simp[Abs.Ev]at W
 ·exact .bool _
 ·exact .int _ _
 ·exact .str _
 ·exact .GW
 ·exact .By
 ·exact .GQ
 ·exact .FF
 ·exact .nilFunc
 ·exact .nilIface
theorem VR.D2{m m':Aj}{x:AA}{v:Value}(W:D2 x=true)(h:VR m' x v):VR m x v:=by
 unfold Abs.D2 at W;split at W
 ·rename_i cs;obtain⟨c,rfl,R⟩:=h.Cn;refine BT.agg ⟨R.1,λi a b X O=>?_⟩;exact(R.2 i a b X O).Ev (xk.1 W a (xd X))
 ·exact h.Ev W
theorem VR.Fo{m m':Aj}{x:AA}{v:Value}(W:Fo x=true)(h:VR m' x v):VR m x v:=by
 unfold Abs.Fo at W;split at W
 ·rename_i cs;obtain⟨c,rfl,R⟩:=h.G8;refine BT.tuple ⟨R.1,λi a b X O=>?_⟩;exact(R.2 i a b X O).D2 (xk.1 W a (xd X))
 ·exact h.D2 W
def Bk(G:Nat->Option (List AA))(w0:World):Prop:=
 ∀g cs,G g=some cs->g<w0.heap.size/\∃cur e fz,w0.heap[g]?=some (.cells cur e fz)/\∀(j:Nat) (a:AA),cs[j]?=some a->a.one=true/\Abs.Ev a=true/\∃c,cur[j]?=some c/\VR (λ_=>none) a c
theorem Bk.later{G:Nat->Option (List AA)}{w0 w:World}(hz:Bk G w0)(O:Below w0.heap.size w0 w):Bk G w:=λg cs h=>by
 obtain⟨Z,cur,e,fz,hc,R⟩:=hz g cs h;exact⟨xi Z O.size,cur,e,fz,by rw[O.block g Z];exact hc,R⟩
theorem Bk.rel{P:Program}{G:Nat->Option (List AA)}{w0 w:World}(hz:Bk G w0)(O:Below w0.heap.size w0 w){g:Nat}{cs:List AA}(V:G g=some cs):
  ∃tot,Rel P w0 (λid=>if id=0 then some ⟨g,0,0,tot⟩else Option.none) ((⟨0,.leaf⟩:AB).push (.cells Option.none 1 cs)) w/\∀a∈cs,Abs.Ev a=true:=by
 obtain⟨Z,cur,e,fz,hc,R⟩:=hz g cs V;have key:∀id o,((⟨0,.leaf⟩:AB).push (.cells Option.none 1 cs)).get id=some o->id=0/\o=.cells Option.none 1 cs:=by
  intro id o K;rw[AB.IQ]at K;split at K
  ·rename_i h0;injection K with K;exact⟨h0,K.symm⟩
  ·have:((⟨0,.leaf⟩:AB).get id)=Option.none:=by
    unfold AB.get;cases Nat.blt id (⟨0,.leaf⟩:AB).size<;>rfl
   rw[this]at K;cases K
 refine⟨cur.size,⟨O,λid E hE=>?_,λid E o hE K=>?_,λid E o hE K C=>?_,λid id' E E' o o' I h1 J g1 g2 C=>?_⟩,λa X=>?_⟩
 ·split at hE
  ·rename_i h0;subst h0;simp
  ·cases hE
 ·obtain⟨rfl,rfl⟩:=key id o K;simp only[if_true,qV]at hE;subst hE;refine⟨rfl,λ_=>⟨cur,e,fz,by rw[O.block g Z];exact hc,rfl,λj a X=>?_,λh=>by cases h⟩⟩;obtain⟨h1,J,c,h3,h4⟩:=R j a X;exact⟨h1,c,by simpa using h3,h4.Ev J⟩
 ·obtain⟨rfl,rfl⟩:=key id o K;simp[Ay.own]at C
 ·obtain⟨rfl,rfl⟩:=key id o g1;simp[Ay.own]at C
 ·obtain⟨j,hj,rfl⟩:=List.getElem_of_mem X;exact(R j _ (List.getElem?_eq_getElem hj)).2.1
end Go.Abs
