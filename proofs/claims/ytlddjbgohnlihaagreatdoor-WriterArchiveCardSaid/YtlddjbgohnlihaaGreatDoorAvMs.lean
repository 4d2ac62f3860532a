/-
 A part.
-/
import Derived.Test.YtlddjbgohnlihaaGreatDoorAvDraw
import Derived.Maps.RangeRun
import Derived.Maps.Range
namespace Go.Av
open Go.RowKit Go.ChangeMaps
set_option linter.unusedVariables false
set_option linter.unusedSimpArgs false
theorem SC{c:Code}{q:UH}(h:QW c=some q):q.b≠q.b2∧∃i8 i9 i10,c=.seq (.region i8 q.o8 false) (.block q.b (.loop (.seq (.region i9 q.o9 false) (.seq (.cond (.tmp q.tb) .skip (.exit q.b)) (.block q.b2 (.seq (.region i10 q.Sc false) q.body)))))):=by
 unfold QW at h;split at h
 ·rename_i i8 o8 b i9 o9 tb b' b2 i10 Sc body;cases L:(Nat.beq b b'&& !Nat.beq b b2)with
  |false=>rw[L]at h;cases h
  |true=>
   rw[L]at h;cases h;simp only[zh,zK]at L;obtain⟨e1,e2⟩:=L;have e1':=zu e1;subst e1';refine⟨fun e=>?_,i8,i9,i10,rfl⟩;have e':b=b2:=e;rw[e',ym]at e2;cases e2
 ·cases h
section
variable {C:Gp} {S:Self} {w0:World} {m:BD} {h:AI} {w:World}
theorem Lf(hS:GK C.P C.Cx S)(hz:Bh C.Cx w0){g:Gd}{ops:Array Oper}{Q:Exit→Act→World→Prop}{l2:List Oper}:∀(l:List Oper) {m:BD} {h:AI} {w:World} {fr fr':Fr} {h':AI} {a:Act},
  Rel C.P w0 m h w→FR m fr a→D3 C S g ops l fr h=some (fr',h')→
  ∀rd:Option Nat,(∀m' a' w',(m.ext h.size m')→Rel C.P w0 m' h' w'→FR m' fr' a'→a'.defers=a.defers→wpListIn (FW rd) 0 C.P ops Q l2 a' w')→wpListIn (FW rd) 0 C.P ops Q (l++l2) a w
 |[],m,h,w,fr,fr',h',a,r,J,W,rd,hQ=>by
  simp only[D3,zd,zg]at W;obtain⟨rfl,rfl⟩:=W;exact hQ m a w (BD.ext.refl _ _) r J rfl
 | o::rest,m,h,w,fr,fr',h',a,r,J,W,rd,hQ=>by
  unfold D3 at W;split at W
  ·rename_i hw;split at W
   ·rename_i v h1 hs;have hk:=Jb hS hs;have R:=Fj J hw;rw[y5];unfold wpListIn;rw[zm R];refine Jc hS hz r J hs (fun m1 v1 w1 e1 e2 e3=>?_) rd;refine Lf hS hz rest e2 (FR.put (J.mono (r.Mi e1)) o.dst e3) W rd (fun m' a' w' g1 g2 g3 g4=>hQ m' a' w' (e1.trans g1 hk.1) g2 g3 ?_);rw[g4,DQ]
   ·cases W
  ·rename_i hw;have R:=Fj J hw;rw[y5];unfold wpListIn;rw[zk (by rw[R];simp)];exact⟨fun _ _=>trivial,Lf hS hz rest r (FR.put J o.dst (VR.Gs m)) W rd (fun m' a' w' g1 g2 g3 g4=>hQ m' a' w' g1 g2 g3 (by rw[g4,DQ]))⟩
  ·cases W
theorem OI{P:Program}{o:Oper}{a:Act}{w w':World}{v:Value}{K:Act→World→Prop}{Q:Exit→Act→World→Prop}(hop:∀c,o.op≠.defer c)(h1:(execOp a.eval o).run P w=.ok (.value v) w')(rd:Option Nat)(hK:K (a.put o.dst v) w'):o.wpIn (FW rd) 0 P a w K Q:=by
 refine⟨fun _ _=>trivial,?_⟩;rw[Oper.semAt_eq _ _ _ hop,h1];exact hK
theorem Rel.iter{P:Program}(r:Rel P w0 m h w){w2:World}{it:Nat}(Y:Ex w w2 it)(hit:w0.heap.size≤it)(O:∀id F o,m.i id=some F→h.get id=some o→o.live=true→F.g≠it)(J:∀g o v,m.fz g o=some v→g≠it)(hd:∀g x,m.df g x→g≠it):Rel P w0 m h w2:=by
 refine⟨Y.below r.below r.size hit,r.OX,fun id F o M H=>(r.obj id F o M H).mono (BD.le_refl m) fun hlv=>Y.block _ ((r.obj id F o M H).lt hlv) (O id F o M H hlv),r.own,r.sep,fun g o v hv=>?_,r.JZ,fun g x T=>⟨(r.df g x T).1,?_⟩,r.PA⟩
 ·obtain⟨cur,e,z,h1,h2⟩:=r.fz g o v hv;exact⟨cur,e,z,by rw[Y.block g (r.Sj hv) (J g o v hv)];exact h1,h2⟩
 ·rw[Y.block g (r.Pf T) (hd g x T)];exact(r.df g x T).2
theorem Z7{o9:Array Oper}{tI tb tn:Tmp}(D:YE o9 tI tb=some tn):∃n x,o9.toList=[n,x]∧n.op=.next (.tmp tI) false∧n.dst=some tn∧n.guard=none∧x.op=.extract (.tmp tn) 0∧x.dst=some tb∧x.guard=none∧tn≠tI∧tb≠tI:=by
 unfold YE at D;split at D
 ·rename_i n x O;split at D
  ·rename_i t tn1 tn2 tb2 e1 e2 e3 e4 e5 e6;cases L:(Nat.beq t tI&&Nat.beq tn1 tn2&&Nat.beq tb tb2&& !Nat.beq tn1 tI&& !Nat.beq tb tI)with
   |false=>rw[L]at D;cases D
   |true=>
    rw[L]at D;cases D;simp only[zh,zK]at L;obtain⟨⟨⟨⟨h1,h2⟩,h3⟩,h4⟩,h5⟩:=L;have h1:=zu h1;have h2:=zu h2;have h3:=zu h3;refine⟨n,x,O,by rw[e1,h1],e2,e3,by rw[e4,h2],by rw[e5,h3],e6,fun e=>?_,fun e=>?_⟩
    ·rw[e,ym]at h4;cases h4
    ·rw[e,ym]at h5;cases h5
  ·cases D
 ·cases D
theorem Vz{Sc:Array Oper}{tI te:Tmp}{rest:List Oper}(D:ZI Sc tI=some (te,rest)):∃n,Sc.toList=n::rest∧n.op=.entry (.tmp tI)∧n.dst=some te∧n.guard=none:=by
 unfold ZI at D;split at D
 ·rename_i n rest' O;split at D
  ·rename_i t te' e1 e2 e3;cases L:(Nat.beq t tI&& !Nat.beq te' tI)with
   |false=>rw[L]at D;cases D
   |true=>
    rw[L]at D;cases D;simp only[zh]at L;exact⟨n,O,by rw[e1,zu L.1],e2,e3⟩
  ·cases D
 ·cases D
theorem FR.PE{fr:Fr}{a:Act}(J:FR m fr a){t:Tmp}(hu:nth fr t=.undef)(v:Value):FR m fr (a.put (some t) v):=by
 refine⟨by rw[J.1];exact(size_put a (some t) v).symm,fun i=>?_⟩;by_cases e:i=t
 ·subst e;rw[hu];exact .undef _
 ·have:(a.put (some t) v).tmps.getD i undef=a.tmps.getD i undef:=by
   simp[Act.put,zr,Array.getElem?_setIfInBounds_ne (Ne.symm e)]
  rw[this];exact J.2 i
end
theorem Ph{α:Type}:∀{l:List α} {x:α},l.getLast?=some x→l=l.dropLast++[x]
 |[],x,h=>by cases h
 |[a],x,h=>by cases h;rfl
 |a::b::l,x,h=>by
  have h':(b::l).getLast?=some x:=by rw[List.getLast?_cons_cons]at h;exact h
  have:=Ph h';rw[xH,y5,←this]
theorem VR.Xe{m:BD}{id o:Nat}{v:Value}(h:VR m (.ptr (some (id,o))) v):∃E,m.i id=some E∧v=.pointer (some ⟨E.g,E.base+o,none⟩):=by
 cases h with
 |ptr _ _ E I=>exact⟨E,I,rfl⟩
theorem Hp{a:Act}{t:Tmp}{v:Value}(Y:t<a.tmps.size):(a.put (some t) v).eval (.tmp t)=v:=by
 show(a.tmps.setIfInBounds t v).getD t undef=v;simp[zr,Y]
theorem aB{ents:Array MapEntry}(Z:(ents.toList.map (·.born)).Nodup){i j:Nat}{x y:MapEntry}(B:ents[i]?=some x)(hy:ents[j]?=some y)(e:x.born=y.born):i=j:=by
 obtain⟨hi,ei⟩:=Array.getElem?_eq_some_iff.1 B;obtain⟨hj,ej⟩:=Array.getElem?_eq_some_iff.1 hy;rw[List.Nodup,xB]at Z;have key:∀i j (hi:i<ents.size) (hj:j<ents.size),i<j→ents[i].born≠ents[j].born:=fun i j hi hj hlt=>by
  have:=Z i j (by simpa using hi) (by simpa using hj) hlt;simpa using this
 rcases ql i j with h|h|h
 ·exact absurd (by rw[ei,ej];exact e) (key i j hi hj h)
 ·exact h
 ·exact absurd (by rw[ei,ej];exact e.symm) (key j i hj hi h)
section
variable {P:Program} {w0:World} {m:BD} {h:AI} {w:World}
theorem Rel.Z5(r:Rel P w0 m h w)(d:Nat→Obj→Prop)(h1:∀g x,d g x→w0.heap.size≤g∧w.heap[g]?=some x)(h2:∀id E o,m.i id=some E→h.get id=some o→o.live=true→∀x,¬d E.g x):Rel P w0 ⟨m.i,m.fz,d⟩ h w:=
 ⟨r.below,r.OX,fun id E o I H=>(r.obj id E o I H).mono (m:=m) ⟨fun _ _ h=>h,fun _ _ _ h=>h⟩ fun _=>rfl,r.own,r.sep,r.fz,r.JZ,h1,h2⟩
theorem FR.Z5{fr:Fr}{a:Act}(J:FR m fr a)(d:Nat→Obj→Prop):FR ⟨m.i,m.fz,d⟩ fr a:=FR.mono (m:=m) (m':=⟨m.i,m.fz,d⟩) ⟨fun _ _ h=>h,fun _ _ _ h=>h⟩ J
theorem Rel.dead(r:Rel P w0 m h w){id:Nat}{o o':B0}(H:h.get id=some o)(O:o'.live=false)(V:∀E,m.i id=some E→K3 P m w E o'):Rel P w0 m (h.set id o') w:=by
 have hid:=h.BN H;have get':∀i x,(h.set id o').get i=some x→(i=id∧x=o')∨(i≠id∧h.get i=some x):=fun i x B=>by
  by_cases e:i=id
  ·subst e;rw[h.get_set_same o' hid]at B;injection B with B;exact .inl ⟨rfl,B.symm⟩
  ·rw[h.BX o' hid e]at B;exact .inr ⟨e,B⟩
 have hno:∀{x:B0},x=o'→x.own=true→False:=fun e B=>by
  have:=B0.GC B;rw[e,O]at this;cases this
 refine⟨r.below,r.OX,fun i F x M B=>?_,fun i F x M B U=>?_,fun i i' F F' x x' N h1 h2 g1 g2 a b=>?_,r.fz,fun i F x M B U=>?_,r.df,fun i F x M B hxl=>?_⟩
 ·rcases get' i x B with⟨rfl,rfl⟩|⟨hi,B⟩
  ·exact V F M
  ·exact r.obj i F x M B
 ·rcases get' i x B with⟨rfl,e⟩|⟨hi,B⟩
  ·exact(hno e U).elim
  ·exact r.own i F x M B U
 ·rcases get' i x g1 with⟨rfl,e⟩|⟨hi,B⟩
  ·exact(hno e a).elim
  ·rcases get' i' x' g2 with⟨rfl,rfl⟩|⟨hi',hx'⟩
   ·rw[O]at b;cases b
   ·exact r.sep i i' F F' x x' N h1 h2 B hx' a b
 ·rcases get' i x B with⟨rfl,e⟩|⟨hi,B⟩
  ·exact(hno e U).elim
  ·exact r.JZ i F x M B U
 ·rcases get' i x B with⟨rfl,rfl⟩|⟨hi,B⟩
  ·rw[O]at hxl;cases hxl
  ·exact r.PA i F x M B hxl
theorem Rel.same{P:Program}{w0:World}{m:BD}{h h':AI}{w:World}(r:Rel P w0 m h w)(hs:h'.size=h.size)(T:∀i,h'.get i=h.get i):Rel P w0 m h' w:=
 ⟨r.below,fun id E I=>by rw[hs];exact r.OX id E I,fun i F o M H=>r.obj i F o M (by rw[←T];exact H),fun i F o M H=>r.own i F o M (by rw[←T];exact H),fun i j F F' o o' N h1 h2 g1 g2=>r.sep i j F F' o o' N h1 h2 (by rw[←T];exact g1) (by rw[←T];exact g2),r.fz,fun i F o M H=>r.JZ i F o M (by rw[←T];exact H),r.df,fun i F o M H=>r.PA i F o M (by rw[←T];exact H)⟩
theorem Zn{a:AB}(h:Mg a=true):Ff a=true:=by
 unfold Mg at h;split at h<;>first|rfl|cases h
theorem Rel.cy(r:Rel P w0 m h w){id:Nat}{gr:Option TypeId}{cs cs':List AB}(H:h.get id=some (.cells gr 2 cs)){m':BD}{h':AI}{w':World}(hm:m.ext h.size m')(D:∀k,k<h.size→k≠id→h'.get k=h.get k)
  (ho':h'.get id=some (.cells gr 2 cs')) (X:cs'.all Mg=true) (r':Rel P w0 m' h' w'):Rel P w0 (m.with m') (h.set id (.cells gr 2 cs')) w':=by
 have hle:=r.Mi hm;have hid:=h.BN H;have up:∀{i E},m.i i=some E→m'.i i=some E:=fun h=>hle.i _ _ h;have get':∀i x,m.i i≠none→(h.set id (.cells gr 2 cs')).get i=some x→h'.get i=some x:=fun i x hi B=>by
  by_cases e:i=id
  ·subst e;rw[h.get_set_same _ hid]at B;rw[ho'];exact B
  ·rw[h.BX _ hid e]at B;cases I:m.i i with
   |none=>exact absurd I hi
   |some E=>rw[D i (r.OX i E I) e];exact B
 have G:∀{i E x},m.i i=some E→(h.set id (.cells gr 2 cs')).get i=some x→h'.get i=some x:=fun I B=>get' _ _ (by rw[I];simp) B;refine⟨r'.below,fun i E I=>by rw[h.size_set];exact r.OX i E I,fun i E x I B=>?_,fun i E x I B=>r'.own i E x (up I) (G I B),fun i i' E E' x x' N h1 h2 g1 g2=>r'.sep i i' E E' x x' N (up h1) (up h2) (G h1 g1) (G h2 g2),r'.fz,fun i E x I B=>r'.JZ i E x (up I) (G I B),r'.df,fun i E x I B=>r'.PA i E x (up I) (G I B)⟩;by_cases e:i=id
 ·subst e;have hx':x=.cells gr 2 cs':=by rw[h.get_set_same _ hid]at B;injection B with B;exact B.symm
  subst hx';obtain⟨a1,a2⟩:=r'.obj i E _ (up I) ho';refine⟨⟨⟨a1.1.1,fun e=>by cases e⟩,a1.2⟩,fun hst=>?_⟩;obtain⟨cur,e,fz,b1,b2,b3,b4⟩:=a2 hst;refine⟨cur,e,fz,b1,b2,fun j a ha=>?_,b4⟩;obtain⟨o1,c,hc,v1⟩:=b3 j a ha;exact⟨o1,c,hc,v1.Ff (Zn (zn.1 X a (zQ ha)))⟩
 ·have hx0:h.get i=some x:=by rw[h.BX _ hid e]at B;exact B
  exact(r.obj i E x I hx0).back hle (r'.obj i E x (up I) (G I B))
theorem VR.Sa{m':BD}{n:Nat}(hm:∀i,i<n→m'.i i=m.i i){x:AB}{v:Value}(h:VR m' x v)(H:Sa n x=true):VR m x v:=by
 unfold Av.Sa at H;split at H
 ·exact .undef _
 ·exact h.Ff rfl
 ·exact h.Ff rfl
 ·exact h.Ff rfl
 ·exact h.Ff rfl
 ·exact h.Ff rfl
 ·exact h.Ff rfl
 ·exact h.Ff rfl
 ·exact h.Ff rfl
 ·rename_i i o;cases h with
  |ptr _ _ E I=>exact .ptr _ _ E (by rw[←hm i (by simpa using H)];exact I)
 ·rename_i i o n';cases h with
  |slice _ _ _ cap E a I O hc=>exact .slice _ _ _ cap E a (by rw[←hm i (by simpa using H)];exact I) O hc
 ·cases H
theorem VR.JW{m':BD}{n:Nat}(hm:∀i,i<n→m'.i i=m.i i){x:AB}{v:Value}(h:VR m' x v)(H:JW n x=true):VR m x v:=by
 unfold Av.JW at H;split at H
 ·rename_i cs;cases h with
  |agg _ c O hk=>exact .agg _ _ O fun i x y B hy=>(hk i x y B hy).Sa hm (zn.1 H x (zQ B))
 ·exact h.Sa hm H
theorem Cv(ks:List Nat):∀(i:Nat) (fr:Fr),(Er ks i fr).length=fr.length
 |_,[]=>rfl
 |i,a::l=>by simp only[Er,zt,Cv ks (i+1) l]
theorem KP(ks:List Nat):∀(i:Nat) (fr:Fr) (t:Nat),t<fr.length→nth (Er ks i fr) t=bif ks.any (Nat.beq (i+t))then nth fr t else .undef
 |i,[],t,h=>by simp at h
 |i,a::l,0,_=>by simp only[Er,nth,yU]
 |i,a::l,t+1,h=>by
  simp only[Er,nth];rw[KP ks (i+1) l t (by simpa using h),show i+1+t=i+(t+1) by omega]
theorem Pl{fr:Fr}{t:Nat}(h:fr.length≤t):nth fr t=.tuple []:=by
 rw[FZ,zo,List.getElem?_eq_none h];rfl
theorem FR.Er{fr:Fr}{a:Act}(J:FR m fr a)(ks:List Nat):FR m (Er ks 0 fr) a:=by
 refine⟨by rw[Cv];exact J.1,fun t=>?_⟩;rcases yg t fr.length with h|h
 ·rw[KP ks 0 fr t h];cases ks.any (Nat.beq (0+t))with
  |true=>exact J.2 t
  |false=>exact .undef _
 ·have:=J.2 t;rw[Pl h]at this;rw[Pl (by rw[Cv];exact h)];exact this
theorem FR.Hr{fr:Fr}{a:Act}{m':BD}{n:Nat}(J:FR m' fr a)(hm:∀i,i<n→m'.i i=m.i i)(H:fr.all (JW n)=true):FR m fr a:=by
 refine⟨J.1,fun t=>?_⟩;rcases yg t fr.length with h|h
 ·refine(J.2 t).JW hm (zn.1 H _ ?_);rw[FZ,zo,List.getElem?_eq_getElem h];exact zS h
 ·have:=J.2 t;rw[Pl h]at this⊢;obtain⟨c,hc,hv⟩:=this.KO;have:c=#[]:=by
   have:=hv.1;simp only[zG]at this;exact qd (by simpa using this.symm)
  rw[hc,this];exact CM.tuple (CM.nil m)
theorem LM{α:Type}{b:Bool}{x:Option α}{y:α}(h:(bif b then x else none)=some y):b=true∧x=some y:=by cases b<;>first|exact⟨rfl,h⟩|cases h
theorem M0{α β:Type}{rnd:α→β→Option (Bool×α)}:∀(l r:List β) {a b:α},De rnd l a=some (false,b)→De rnd (l++r) a=De rnd r b
 |[],r,a,b,h=>by simp only[De,zd,zg,qP]at h;rw[h];rfl
 | p::l,r,a,b,h=>by
  simp only[De,y5]at h⊢;cases hp:rnd a p with
  |none=>rw[hp]at h;cases h
  |some x=>
   obtain⟨c,y⟩:=x;cases c with
   |true=>rw[hp]at h;cases h
   |false=>rw[hp]at h;exact M0 l r h
theorem Pt{n:Nat}{vis:List Nat}(Z:vis.Nodup)(hm:∀i,i∈vis↔i<n):vis.Perm (List.range n):=by
 rw[List.perm_ext_iff_of_nodup Z xk];intro i;rw[hm,zO]
theorem WR{n i0:Nat}{vis:List Nat}(Z:vis.Nodup)(hm:∀i∈vis,i<n)(hi:i0<n)(h0:i0∉vis):∃os,(vis++i0::os).Perm (List.range n):=by
 refine⟨(List.range n).filter fun i=>decide (i∉vis++[i0]),Pt ?_ fun i=>?_⟩
 ·rw[yh];refine⟨Z,yQ.2 ⟨fun h=>?_,xk.filter _⟩,fun a ha b L e=>?_⟩
  ·have:=(yf.1 h).2;simp at this
  ·subst e;rcases zF.1 L with rfl|L
   ·exact h0 ha
   ·have:=(yf.1 L).2;simp[ha]at this
 ·simp only[zB,zF,yf,zO,zD,not_or,yz,or_false];constructor
  ·rintro(h|rfl|h)
   ·exact hm i h
   ·exact hi
   ·exact h.1
  ·intro h;by_cases h1:i∈vis
   ·exact .inl h1
   ·by_cases h2:i=i0
    ·exact .inr (.inl h2)
    ·exact .inr (.inr ⟨h,h1,h2⟩)
def W2(es:List (AB×AB))(i:Nat):AB×AB:=(es[i]?).getD (.undef,.undef)
theorem WB(es:List (AB×AB)):(List.range es.length).map (W2 es)=es:=by
 refine List.ext_getElem (by simp) fun i h1 h2=>?_;simp[W2,List.getElem?_eq_getElem h2]
theorem IB(D:AI)(ob:RI)(cs:List AB):(Df D ob cs).size=D.size:=by
 unfold Df;split<;>simp
theorem UO{D:AI}{ob:RI}{cs cs':List AB}(V:∀id gr,ob=some (id,gr)→id<D.size){i:Nat}{o:B0}(h:(Df D ob cs').get i=some o)(O:o.live=true):∃o',(Df D ob cs).get i=some o'∧o'.live=true:=by
 cases ob with
 |none=>exact⟨o,h,O⟩
 | some p=>
  obtain⟨id,gr⟩:=p;have hid:=V id gr rfl;by_cases e:i=id
  ·subst e;exact⟨_,AI.get_set_same _ _ hid,rfl⟩
  ·refine⟨o,?_,O⟩;show(D.set id _).get i=_;rw[AI.BX _ _ hid e];have h':(D.set id (.cells gr 2 cs')).get i=some o:=h;rw[AI.BX _ _ hid e]at h';exact h'
theorem Vj{n:Nat}{ob:RI}{i:Nat}(hi:i<n)(N:∀id gr,ob=some (id,gr)→i≠id):(OO n ob).may i=false:=by
 unfold OO;split
 ·have:Nat.ble n i=false:=by
   cases L:Nat.ble n i with
   |false=>rfl
   |true=>have:=zb L;omega
  simp[Gd.may,this]
 ·rename_i id gr;have Z:=N id gr rfl;have:((List.range n).filter fun k=> !Nat.beq k id).any (Nat.beq i)=true:=by
   rw[y6];refine⟨i,yf.2 ⟨zO.2 hi,?_⟩,ym i⟩;cases L:Nat.beq i id with
   |false=>rfl
   |true=>exact absurd (zu L) Z
  simp[Gd.may,this]
theorem Zx(D:AI){ob:RI}{cs cs':List AB}{m':BD}{h':AI}{w':World}(V:∀id gr,ob=some (id,gr)→id<D.size)(r:Rel P w0 m (Df D ob cs) w)(hm:m.ext D.size m')(hk:BE (OO D.size ob) (Df D ob cs) h')(H:Pw ob h'=some cs')(r':Rel P w0 m' h' w'):
  Rel P w0 (m.with m') (Df D ob cs') w'∧(ob≠none→cs'.all Mg=true):=by
 cases ob with
 |none=>exact⟨r.back hm (fun id hid=>hk.2 id hid (Vj hid fun _ _ e=>by cases e)) r',fun h=>absurd rfl h⟩
 | some p=>
  obtain⟨id,gr⟩:=p;have hid:=V id gr rfl;unfold Pw at H;simp only at H;split at H
  ·rename_i gr' cs1 T;split at H
   ·rename_i hc;obtain⟨hgr,X⟩:=hc;cases hgr;cases H;have h0:(Df D (some (id,gr)) cs).get id=some (.cells gr 2 cs):=AI.get_set_same _ _ hid;have hs:=IB D (some (id,gr)) cs;refine⟨(r.cy h0 (by rw[hs];exact hm) (fun k hk1 N=>hk.2 k hk1 (Vj (by rw[hs]at hk1;exact hk1) fun _ _ e=>by cases e;exact N)) T X r').same (by simp[Df]) fun i=>?_,fun _=>X⟩;show(D.set id _).get i=((D.set id _).set id _).get i;by_cases e:i=id
    ·subst e;rw[AI.get_set_same _ _ hid,AI.get_set_same _ _ (by simpa using hid)]
    ·rw[AI.BX _ _ hid e,AI.BX _ _ (by simpa using hid) e,AI.BX _ _ hid e]
   ·cases H
  ·cases H
theorem Jl{ks:List Nat}{n:Nat}{ob:RI}{fr:Fr}{h:AI}{r:Bool}{x:Bool×Fr×List AB}(B:Qc ks n ob fr h r=some x):(Er ks 0 fr).all (JW n)=true∧x.1=r∧x.2.1=Er ks 0 fr∧Pw ob h=some x.2.2:=by
 unfold Qc at B;cases ha:(Er ks 0 fr).all (JW n)with
 |false=>rw[ha]at B;cases B
 |true=>
  rw[ha]at B;simp only[zW,zl]at B;obtain⟨cs,h1,rfl⟩:=B;exact⟨rfl,rfl,rfl,h1⟩
theorem R1{it:Nat}{v:AB}(h:NL it v=true):v=.ptr (some (it,0)):=by
 unfold NL at h;split at h
 ·simp only[zh]at h;rw[zu h.1,zu h.2]
 ·cases h
theorem LR{ks:List Nat}{fr:Fr}{t:Nat}(Y:t<fr.length)(hk:ks.any (Nat.beq t)=false):nth (Er ks 0 fr) t=.undef:=by
 rw[KP ks 0 fr t Y,yq,hk];rfl
end
end Go.Av
