/-
 A part.
-/
import Derived.Test.YthhonebaoidfgaaGreatDoorAvDraw
import Derived.Maps.RangeRun
import Derived.Maps.Range
set_option linter.unusedSimpArgs false
namespace Go.Av
open Go.RowKit Go.ChangeMaps
set_option linter.unusedVariables false
set_option linter.unusedSimpArgs false
theorem Uj{c:Code}{q:WE}(h:Tk c=some q):q.b≠q.b2/\∃i8 i9 i10,c=.seq (.region i8 q.o8 false) (.block q.b (.loop (.seq (.region i9 q.o9 false) (.seq (.cond (.tmp q.tb) .skip (.exit q.b)) (.block q.b2 (.seq (.region i10 q.V6 false) q.body)))))):=by
 unfold Tk at h;split at h
 ·rename_i i8 o8 b i9 o9 tb b' b2 i10 V6 body;cases L:(Nat.beq b b'&& !Nat.beq b b2)with
  |false=>rw[L]at h;cases h
  |true=>
   rw[L]at h;cases h;simp only[zf,zH]at L;obtain⟨e1,e2⟩:=L;have e1':=zt e1;subst e1';refine⟨λe=>?_,i8,i9,i10,rfl⟩;have e':b=b2:=e;rw[e',yl]at e2;cases e2
 ·cases h
section
variable {C:Hv} {S:Self} {w0:World} {m:Bk} {h:AF} {w:World}
theorem NP(hS:HW C.P C.DC S)(hz:CH C.DC w0){g:Gd}{ops:Array Oper}{Q:Exit->Act->World->Prop}{l2:List Oper}:∀(l:List Oper) {m:Bk} {h:AF} {w:World} {fr fr':Fr} {h':AF} {a:Act},
  Rel C.P w0 m h w->FR m fr a->Eb C S g ops l fr h=some (fr',h')->
  ∀rd:Option Nat,(∀m' a' w',(m.ext h.size m')->Rel C.P w0 m' h' w'->FR m' fr' a'->a'.defers=a.defers->wpListIn (FW rd) 0 C.P ops Q l2 a' w')->wpListIn (FW rd) 0 C.P ops Q (l++l2) a w
 |[],m,h,w,fr,fr',h',a,r,J,W,rd,hQ=>by
  simp only[Eb,zb,ze]at W;obtain⟨rfl,rfl⟩:=W;exact hQ m a w (Bk.ext.refl _ _) r J rfl
 | o::rest,m,h,w,fr,fr',h',a,r,J,W,rd,hQ=>by
  unfold Eb at W;split at W
  ·rename_i hw;split at W
   ·rename_i v h1 hs;have hk:=LI hS hs;have R:=HD J hw;rw[yL];unfold wpListIn;rw[zl R];refine LB hS hz r J hs (λm1 v1 w1 e1 e2 e3=>?_) rd;refine NP hS hz rest e2 (FR.put (J.mono (r.Oi e1)) o.dst e3) W rd (λm' a' w' g1 g2 g3 g4=>hQ m' a' w' (e1.trans g1 hk.1) g2 g3 ?_);rw[g4,D7]
   ·cases W
  ·rename_i hw;have R:=HD J hw;rw[yL];unfold wpListIn;rw[zj (by rw[R];simp)];exact⟨λ_ _=>trivial,NP hS hz rest r (FR.put J o.dst (VR.HN m)) W rd (λm' a' w' g1 g2 g3 g4=>hQ m' a' w' g1 g2 g3 (by rw[g4,D7]))⟩
  ·cases W
theorem Qc{P:Program}{o:Oper}{a:Act}{w w':World}{v:Value}{K:Act->World->Prop}{Q:Exit->Act->World->Prop}(hop:∀c,o.op≠.defer c)(h1:(execOp a.eval o).run P w=.ok (.value v) w')(rd:Option Nat)(hK:K (a.put o.dst v) w'):o.wpIn (FW rd) 0 P a w K Q:=by
 refine⟨λ_ _=>trivial,?_⟩;rw[Oper.semAt_eq _ _ _ hop,h1];exact hK
theorem Rel.iter{P:Program}(r:Rel P w0 m h w){w2:World}{it:Nat}(Y:Fs w w2 it)(hit:w0.heap.size<=it)(O:∀id F o,m.i id=some F->h.get id=some o->o.live=true->F.g≠it)(J:∀g o v,m.fz g o=some v->g≠it)(hd:∀g x,m.df g x->g≠it):Rel P w0 m h w2:=by
 refine⟨Y.below r.below r.size hit,r.Q2,λid F o M H=>(r.obj id F o M H).mono (Bk.le_refl m) λhlv=>Y.block _ ((r.obj id F o M H).lt hlv) (O id F o M H hlv),r.own,r.sep,λg o v hv=>?_,r.K1,λg x T=>⟨(r.df g x T).1,?_⟩,r.Re⟩
 ·obtain⟨cur,e,z,h1,h2⟩:=r.fz g o v hv;exact⟨cur,e,z,by rw[Y.block g (r.WL hv) (J g o v hv)];exact h1,h2⟩
 ·rw[Y.block g (r.RB T) (hd g x T)];exact(r.df g x T).2
theorem fW{o9:Array Oper}{tI tb tn:Tmp}(D:af o9 tI tb=some tn):∃n x,o9.toList=[n,x]/\n.op=.next (.tmp tI) false/\n.dst=some tn/\n.guard=none/\x.op=.extract (.tmp tn) 0/\x.dst=some tb/\x.guard=none/\tn≠tI/\tb≠tI:=by
 unfold af at D;split at D
 ·rename_i n x O;split at D
  ·rename_i t tn1 tn2 tb2 e1 e2 e3 e4 e5 e6;cases L:(Nat.beq t tI&&Nat.beq tn1 tn2&&Nat.beq tb tb2&& !Nat.beq tn1 tI&& !Nat.beq tb tI)with
   |false=>rw[L]at D;cases D
   |true=>
    rw[L]at D;cases D;simp only[zf,zH]at L;obtain⟨⟨⟨⟨h1,h2⟩,h3⟩,h4⟩,h5⟩:=L;have h1:=zt h1;have h2:=zt h2;have h3:=zt h3;refine⟨n,x,O,by rw[e1,h1],e2,e3,by rw[e4,h2],by rw[e5,h3],e6,λe=>?_,λe=>?_⟩
    ·rw[e,yl]at h4;cases h4
    ·rw[e,yl]at h5;cases h5
  ·cases D
 ·cases D
theorem Yl{V6:Array Oper}{tI te:Tmp}{rest:List Oper}(D:ax V6 tI=some (te,rest)):∃n,V6.toList=n::rest/\n.op=.entry (.tmp tI)/\n.dst=some te/\n.guard=none:=by
 unfold ax at D;split at D
 ·rename_i n rest' O;split at D
  ·rename_i t te' e1 e2 e3;cases L:(Nat.beq t tI&& !Nat.beq te' tI)with
   |false=>rw[L]at D;cases D
   |true=>
    rw[L]at D;cases D;simp only[zf]at L;exact⟨n,O,by rw[e1,zt L.1],e2,e3⟩
  ·cases D
 ·cases D
theorem FR.Rj{fr:Fr}{a:Act}(J:FR m fr a){t:Tmp}(hu:nth fr t=.undef)(v:Value):FR m fr (a.put (some t) v):=by
 refine⟨by rw[J.1];exact(size_put a (some t) v).symm,λi=>?_⟩;by_cases e:i=t
 ·subst e;rw[hu];exact .undef _
 ·have:(a.put (some t) v).tmps.getD i undef=a.tmps.getD i undef:=by
   simp[Act.put,zn,Array.getElem?_setIfInBounds_ne (Ne.symm e)]
  rw[this];exact J.2 i
end
theorem SB{α:Type}:∀{l:List α} {x:α},l.getLast?=some x->l=l.dropLast++[x]
 |[],x,h=>by cases h
 |[a],x,h=>by cases h;rfl
 |a::b::l,x,h=>by
  have h':(b::l).getLast?=some x:=by rw[List.getLast?_cons_cons]at h;exact h
  have:=SB h';rw[xG,yL,<-this]
theorem VR.bp{m:Bk}{id o:Nat}{v:Value}(h:VR m (.ptr (some (id,o))) v):∃E,m.i id=some E/\v=.pointer (some ⟨E.g,E.base+o,none⟩):=by
 cases h with
 |ptr _ _ E I=>exact⟨E,I,rfl⟩
theorem JT{a:Act}{t:Tmp}{v:Value}(Y:t<a.tmps.size):(a.put (some t) v).eval (.tmp t)=v:=by
 show(a.tmps.setIfInBounds t v).getD t undef=v;simp[zn,Y]
theorem eo{ents:Array MapEntry}(Z:(ents.toList.map (·.born)).Nodup){i j:Nat}{x y:MapEntry}(B:ents[i]?=some x)(hy:ents[j]?=some y)(e:x.born=y.born):i=j:=by
 obtain⟨hi,ei⟩:=Array.getElem?_eq_some_iff.1 B;obtain⟨hj,ej⟩:=Array.getElem?_eq_some_iff.1 hy;rw[List.Nodup,xD]at Z;have key:∀i j (hi:i<ents.size) (hj:j<ents.size),i<j->ents[i].born≠ents[j].born:=λi j hi hj hlt=>by
  have:=Z i j (by simpa using hi) (by simpa using hj) hlt;simpa using this
 rcases xj i j with h|h|h
 ·exact absurd (by rw[ei,ej];exact e) (key i j hi hj h)
 ·exact h
 ·exact absurd (by rw[ei,ej];exact e.symm) (key j i hj hi h)
section
variable {P:Program} {w0:World} {m:Bk} {h:AF} {w:World}
theorem Rel.fy(r:Rel P w0 m h w)(d:Nat->Obj->Prop)(h1:∀g x,d g x->w0.heap.size<=g/\w.heap[g]?=some x)(h2:∀id E o,m.i id=some E->h.get id=some o->o.live=true->∀x,¬d E.g x):Rel P w0 ⟨m.i,m.fz,d⟩ h w:=
 ⟨r.below,r.Q2,λid E o I H=>(r.obj id E o I H).mono (m:=m) ⟨λ_ _ h=>h,λ_ _ _ h=>h⟩ λ_=>rfl,r.own,r.sep,r.fz,r.K1,h1,h2⟩
theorem FR.fy{fr:Fr}{a:Act}(J:FR m fr a)(d:Nat->Obj->Prop):FR ⟨m.i,m.fz,d⟩ fr a:=FR.mono (m:=m) (m':=⟨m.i,m.fz,d⟩) ⟨λ_ _ h=>h,λ_ _ _ h=>h⟩ J
theorem Rel.dead(r:Rel P w0 m h w){id:Nat}{o o':Cs}(H:h.get id=some o)(O:o'.live=false)(V:∀E,m.i id=some E->MW P m w E o'):Rel P w0 m (h.set id o') w:=by
 have hid:=h.CA H;have get':∀i x,(h.set id o').get i=some x->(i=id/\x=o')\/(i≠id/\h.get i=some x):=λi x B=>by
  by_cases e:i=id
  ·subst e;rw[h.get_set_same o' hid]at B;injection B with B;exact .inl ⟨rfl,B.symm⟩
  ·rw[h.CN o' hid e]at B;exact .inr ⟨e,B⟩
 have hno:∀{x:Cs},x=o'->x.own=true->False:=λe B=>by
  have:=Cs.Ha B;rw[e,O]at this;cases this
 refine⟨r.below,r.Q2,λi F x M B=>?_,λi F x M B U=>?_,λi i' F F' x x' N h1 h2 g1 g2 a b=>?_,r.fz,λi F x M B U=>?_,r.df,λi F x M B hxl=>?_⟩
 ·rcases get' i x B with⟨rfl,rfl⟩|⟨hi,B⟩
  ·exact V F M
  ·exact r.obj i F x M B
 ·rcases get' i x B with⟨rfl,e⟩|⟨hi,B⟩
  ·exact(hno e U).elim
  ·exact r.own i F x M B U
 ·rcases get' i x g1 with⟨rfl,e⟩|⟨hi,B⟩
  ·exact(hno e a).elim
  ·rcases get' i' x' g2 with⟨rfl,rfl⟩|⟨hi',hx'⟩
   ·rw[O]at b;cases b
   ·exact r.sep i i' F F' x x' N h1 h2 B hx' a b
 ·rcases get' i x B with⟨rfl,e⟩|⟨hi,B⟩
  ·exact(hno e U).elim
  ·exact r.K1 i F x M B U
 ·rcases get' i x B with⟨rfl,rfl⟩|⟨hi,B⟩
  ·rw[O]at hxl;cases hxl
  ·exact r.Re i F x M B hxl
theorem Rel.same{P:Program}{w0:World}{m:Bk}{h h':AF}{w:World}(r:Rel P w0 m h w)(hs:h'.size=h.size)(T:∀i,h'.get i=h.get i):Rel P w0 m h' w:=
 ⟨r.below,λid E I=>by rw[hs];exact r.Q2 id E I,λi F o M H=>r.obj i F o M (by rw[<-T];exact H),λi F o M H=>r.own i F o M (by rw[<-T];exact H),λi j F F' o o' N h1 h2 g1 g2=>r.sep i j F F' o o' N h1 h2 (by rw[<-T];exact g1) (by rw[<-T];exact g2),r.fz,λi F o M H=>r.K1 i F o M (by rw[<-T];exact H),r.df,λi F o M H=>r.Re i F o M (by rw[<-T];exact H)⟩
theorem dx{a:AD}(h:PL a=true):G9 a=true:=by
 unfold PL at h;split at h<;>first|rfl|cases h
theorem Rel.je(r:Rel P w0 m h w){id:Nat}{gr:Option TypeId}{cs cs':List AD}(H:h.get id=some (.cells gr 2 cs)){m':Bk}{h':AF}{w':World}(hm:m.ext h.size m')(D:∀k,k<h.size->k≠id->h'.get k=h.get k)
  (ho':h'.get id=some (.cells gr 2 cs')) (X:cs'.all PL=true) (r':Rel P w0 m' h' w'):Rel P w0 (m.with m') (h.set id (.cells gr 2 cs')) w':=by
 have hle:=r.Oi hm;have hid:=h.CA H;have up:∀{i E},m.i i=some E->m'.i i=some E:=λh=>hle.i _ _ h;have get':∀i x,m.i i≠none->(h.set id (.cells gr 2 cs')).get i=some x->h'.get i=some x:=λi x hi B=>by
  by_cases e:i=id
  ·subst e;rw[h.get_set_same _ hid]at B;rw[ho'];exact B
  ·rw[h.CN _ hid e]at B;cases I:m.i i with
   |none=>exact absurd I hi
   |some E=>rw[D i (r.Q2 i E I) e];exact B
 have G:∀{i E x},m.i i=some E->(h.set id (.cells gr 2 cs')).get i=some x->h'.get i=some x:=λI B=>get' _ _ (by rw[I];simp) B;refine⟨r'.below,λi E I=>by rw[h.size_set];exact r.Q2 i E I,λi E x I B=>?_,λi E x I B=>r'.own i E x (up I) (G I B),λi i' E E' x x' N h1 h2 g1 g2=>r'.sep i i' E E' x x' N (up h1) (up h2) (G h1 g1) (G h2 g2),r'.fz,λi E x I B=>r'.K1 i E x (up I) (G I B),r'.df,λi E x I B=>r'.Re i E x (up I) (G I B)⟩;by_cases e:i=id
 ·subst e;have hx':x=.cells gr 2 cs':=by rw[h.get_set_same _ hid]at B;injection B with B;exact B.symm
  subst hx';obtain⟨a1,a2⟩:=r'.obj i E _ (up I) ho';refine⟨⟨⟨a1.1.1,λe=>by cases e⟩,a1.2⟩,λhst=>?_⟩;obtain⟨cur,e,fz,b1,b2,b3,b4⟩:=a2 hst;refine⟨cur,e,fz,b1,b2,λj a ha=>?_,b4⟩;obtain⟨o1,c,hc,v1⟩:=b3 j a ha;exact⟨o1,c,hc,v1.G9 (dx (zr.1 X a (zN ha)))⟩
 ·have hx0:h.get i=some x:=by rw[h.CN _ hid e]at B;exact B
  exact(r.obj i E x I hx0).back hle (r'.obj i E x (up I) (G I B))
theorem VR.Uq{m':Bk}{n:Nat}(hm:∀i,i<n->m'.i i=m.i i){x:AD}{v:Value}(h:VR m' x v)(H:Uq n x=true):VR m x v:=by
 unfold Av.Uq at H;split at H
 ·exact .undef _
 ·exact h.G9 rfl
 ·exact h.G9 rfl
 ·exact h.G9 rfl
 ·exact h.G9 rfl
 ·exact h.G9 rfl
 ·exact h.G9 rfl
 ·exact h.G9 rfl
 ·exact h.G9 rfl
 ·rename_i i o;cases h with
  |ptr _ _ E I=>exact .ptr _ _ E (by rw[<-hm i (by simpa using H)];exact I)
 ·rename_i i o n';cases h with
  |slice _ _ _ cap E a I O hc=>exact .slice _ _ _ cap E a (by rw[<-hm i (by simpa using H)];exact I) O hc
 ·cases H
theorem VR.LP{m':Bk}{n:Nat}(hm:∀i,i<n->m'.i i=m.i i){x:AD}{v:Value}(h:VR m' x v)(H:LP n x=true):VR m x v:=by
 unfold Av.LP at H;split at H
 ·rename_i cs;cases h with
  |agg _ c O hk=>exact .agg _ _ O λi x y B hy=>(hk i x y B hy).Uq hm (zr.1 H x (zN B))
 ·exact h.Uq hm H
theorem Dn(ks:List Nat):∀(i:Nat) (fr:Fr),(Fp ks i fr).length=fr.length
 |_,[]=>rfl
 |i,a::l=>by simp only[Fp,zG,Dn ks (i+1) l]
theorem L6(ks:List Nat):∀(i:Nat) (fr:Fr) (t:Nat),t<fr.length->nth (Fp ks i fr) t=bif ks.any (Nat.beq (i+t))then nth fr t else .undef
 |i,[],t,h=>by simp at h
 |i,a::l,0,_=>by simp only[Fp,nth,yQ]
 |i,a::l,t+1,h=>by
  simp only[Fp,nth];rw[L6 ks (i+1) l t (by simpa using h),show i+1+t=i+(t+1) by omega]
theorem Sw{fr:Fr}{t:Nat}(h:fr.length<=t):nth fr t=.tuple []:=by
 rw[Ga,zo,List.getElem?_eq_none h];rfl
theorem FR.Fp{fr:Fr}{a:Act}(J:FR m fr a)(ks:List Nat):FR m (Fp ks 0 fr) a:=by
 refine⟨by rw[Dn];exact J.1,λt=>?_⟩;rcases yh t fr.length with h|h
 ·rw[L6 ks 0 fr t h];cases ks.any (Nat.beq (0+t))with
  |true=>exact J.2 t
  |false=>exact .undef _
 ·have:=J.2 t;rw[Sw h]at this;rw[Sw (by rw[Dn];exact h)];exact this
theorem FR.JY{fr:Fr}{a:Act}{m':Bk}{n:Nat}(J:FR m' fr a)(hm:∀i,i<n->m'.i i=m.i i)(H:fr.all (LP n)=true):FR m fr a:=by
 refine⟨J.1,λt=>?_⟩;rcases yh t fr.length with h|h
 ·refine(J.2 t).LP hm (zr.1 H _ ?_);rw[Ga,zo,List.getElem?_eq_getElem h];exact zP h
 ·have:=J.2 t;rw[Sw h]at this⊢;obtain⟨c,hc,hv⟩:=this.L4;have:c=#[]:=by
   have:=hv.1;simp only[zY]at this;exact yA (by simpa using this.symm)
  rw[hc,this];exact DD.tuple (DD.nil m)
theorem NC{α:Type}{b:Bool}{x:Option α}{y:α}(h:(bif b then x else none)=some y):b=true/\x=some y:=by cases b<;>first|exact⟨rfl,h⟩|cases h
theorem Oo{α β:Type}{rnd:α->β->Option (Bool×α)}:∀(l r:List β) {a b:α},EP rnd l a=some (false,b)->EP rnd (l++r) a=EP rnd r b
 |[],r,a,b,h=>by simp only[EP,zb,ze,qs]at h;rw[h];rfl
 | p::l,r,a,b,h=>by
  simp only[EP,yL]at h⊢;cases hp:rnd a p with
  |none=>rw[hp]at h;cases h
  |some x=>
   obtain⟨c,y⟩:=x;cases c with
   |true=>rw[hp]at h;cases h
   |false=>rw[hp]at h;exact Oo l r h
theorem Sf{n:Nat}{vis:List Nat}(Z:vis.Nodup)(hm:∀i,i∈vis↔i<n):vis.Perm (List.range n):=by
 rw[List.perm_ext_iff_of_nodup Z xo];intro i;rw[hm,zO]
theorem Z5{n i0:Nat}{vis:List Nat}(Z:vis.Nodup)(hm:∀i∈vis,i<n)(hi:i0<n)(h0:i0∉vis):∃os,(vis++i0::os).Perm (List.range n):=by
 refine⟨(List.range n).filter λi=>decide (i∉vis++[i0]),Sf ?_ λi=>?_⟩
 ·rw[yd];refine⟨Z,yR.2 ⟨λh=>?_,xo.filter _⟩,λa ha b L e=>?_⟩
  ·have:=(yx.1 h).2;simp at this
  ·subst e;rcases zF.1 L with rfl|L
   ·exact h0 ha
   ·have:=(yx.1 L).2;simp[ha]at this
 ·simp only[zu,zF,yx,zO,zy,not_or,yb,or_false];constructor
  ·rintro(h|rfl|h)
   ·exact hm i h
   ·exact hi
   ·exact h.1
  ·intro h;by_cases h1:i∈vis
   ·exact .inl h1
   ·by_cases h2:i=i0
    ·exact .inr (.inl h2)
    ·exact .inr (.inr ⟨h,h1,h2⟩)
def aO(es:List (AD×AD))(i:Nat):AD×AD:=(es[i]?).getD (.undef,.undef)
theorem Y8(es:List (AD×AD)):(List.range es.length).map (aO es)=es:=by
 refine List.ext_getElem (by simp) λi h1 h2=>?_;simp[aO,List.getElem?_eq_getElem h2]
theorem Np(D:AF)(ob:T5)(cs:List AD):(Fg D ob cs).size=D.size:=by
 unfold Fg;split<;>simp
theorem Vw{D:AF}{ob:T5}{cs cs':List AD}(V:∀id gr,ob=some (id,gr)->id<D.size){i:Nat}{o:Cs}(h:(Fg D ob cs').get i=some o)(O:o.live=true):∃o',(Fg D ob cs).get i=some o'/\o'.live=true:=by
 cases ob with
 |none=>exact⟨o,h,O⟩
 | some p=>
  obtain⟨id,gr⟩:=p;have hid:=V id gr rfl;by_cases e:i=id
  ·subst e;exact⟨_,AF.get_set_same _ _ hid,rfl⟩
  ·refine⟨o,?_,O⟩;show(D.set id _).get i=_;rw[AF.CN _ _ hid e];have h':(D.set id (.cells gr 2 cs')).get i=some o:=h;rw[AF.CN _ _ hid e]at h';exact h'
theorem Y3{n:Nat}{ob:T5}{i:Nat}(hi:i<n)(N:∀id gr,ob=some (id,gr)->i≠id):(TX n ob).may i=false:=by
 unfold TX;split
 ·have:Nat.ble n i=false:=by
   cases L:Nat.ble n i with
   |false=>rfl
   |true=>have:=zd L;omega
  simp[Gd.may,this]
 ·rename_i id gr;have Z:=N id gr rfl;have:((List.range n).filter λk=> !Nat.beq k id).any (Nat.beq i)=true:=by
   rw[qm];refine⟨i,yx.2 ⟨zO.2 hi,?_⟩,yl i⟩;cases L:Nat.beq i id with
   |false=>rfl
   |true=>exact absurd (zt L) Z
  simp[Gd.may,this]
theorem fB(D:AF){ob:T5}{cs cs':List AD}{m':Bk}{h':AF}{w':World}(V:∀id gr,ob=some (id,gr)->id<D.size)(r:Rel P w0 m (Fg D ob cs) w)(hm:m.ext D.size m')(hk:Bh (TX D.size ob) (Fg D ob cs) h')(H:Ue ob h'=some cs')(r':Rel P w0 m' h' w'):
  Rel P w0 (m.with m') (Fg D ob cs') w'/\(ob≠none->cs'.all PL=true):=by
 cases ob with
 |none=>exact⟨r.back hm (λid hid=>hk.2 id hid (Y3 hid λ_ _ e=>by cases e)) r',λh=>absurd rfl h⟩
 | some p=>
  obtain⟨id,gr⟩:=p;have hid:=V id gr rfl;unfold Ue at H;simp only at H;split at H
  ·rename_i gr' cs1 T;split at H
   ·rename_i hc;obtain⟨hgr,X⟩:=hc;cases hgr;cases H;have h0:(Fg D (some (id,gr)) cs).get id=some (.cells gr 2 cs):=AF.get_set_same _ _ hid;have hs:=Np D (some (id,gr)) cs;refine⟨(r.je h0 (by rw[hs];exact hm) (λk hk1 N=>hk.2 k hk1 (Y3 (by rw[hs]at hk1;exact hk1) λ_ _ e=>by cases e;exact N)) T X r').same (by simp[Fg]) λi=>?_,λ_=>X⟩;show(D.set id _).get i=((D.set id _).set id _).get i;by_cases e:i=id
    ·subst e;rw[AF.get_set_same _ _ hid,AF.get_set_same _ _ (by simpa using hid)]
    ·rw[AF.CN _ _ hid e,AF.CN _ _ (by simpa using hid) e,AF.CN _ _ hid e]
   ·cases H
  ·cases H
theorem LG{ks:List Nat}{n:Nat}{ob:T5}{fr:Fr}{h:AF}{r:Bool}{x:Bool×Fr×List AD}(B:TT ks n ob fr h r=some x):(Fp ks 0 fr).all (LP n)=true/\x.1=r/\x.2.1=Fp ks 0 fr/\Ue ob h=some x.2.2:=by
 unfold TT at B;cases ha:(Fp ks 0 fr).all (LP n)with
 |false=>rw[ha]at B;cases B
 |true=>
  rw[ha]at B;simp only[zL,zk]at B;obtain⟨cs,h1,rfl⟩:=B;exact⟨rfl,rfl,rfl,h1⟩
theorem VB{it:Nat}{v:AD}(h:Pk it v=true):v=.ptr (some (it,0)):=by
 unfold Pk at h;split at h
 ·simp only[zf]at h;rw[zt h.1,zt h.2]
 ·cases h
theorem NQ{ks:List Nat}{fr:Fr}{t:Nat}(Y:t<fr.length)(hk:ks.any (Nat.beq t)=false):nth (Fp ks 0 fr) t=.undef:=by
 rw[L6 ks 0 fr t Y,yz,hk];rfl
end
end Go.Av
