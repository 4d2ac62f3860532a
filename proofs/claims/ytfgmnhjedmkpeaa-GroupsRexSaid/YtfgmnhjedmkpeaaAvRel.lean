/-
  Several texts in one.
-/
import Derived.Test.YtfgmnhjedmkpeaaAbsWalk
import Derived.Test.YtfgmnhjedmkpeaaProg
import Derived.Carry
import Derived.WideShapes
import Derived.ChangeShapes
import Derived.OpenShut
import Derived.IntWalk
import Derived.Test.YtfgmnhjedmkpeaaAvDef
set_option linter.unusedSimpArgs false
/-
 A part.
-/
section
namespace Go.Abs
set_option linter.unusedSimpArgs false
def K8(l:List (Nat×List AD))(g:Nat):Option (List AD):=
 match l with
 |[]=>none
 |(i,cs)::r=>bif Nat.beq i g then some cs else K8 r g
def MR(l:List (Nat×AD))(d:Nat):Option AD:=
 match l with
 |[]=>none
 |(i,v)::r=>bif Nat.beq i d then some v else MR r d
def Oq(l:List (Nat×AD))(d:Nat)(w:AD):List (Nat×AD):=
 match l with
 |[]=>[]
 |(i,v)::r=>bif Nat.beq i d then(i,w)::r else(i,v)::Oq r d w
theorem Js{v:AD}{d:Nat}:∀{l:List (Nat×AD)},MR l d=some v->(d,v)∈l
 |[],h=>by cases h
 |(i,u)::r,h=>by
  unfold MR at h;rw[GS]at h;by_cases e:i=d
  ·rw[xf e]at h;injection h with h;rw[h,e];simp
  ·rw[xd e]at h;exact xv _ (Js h)
theorem MB{w:AD}{d:Nat}:∀{l:List (Nat×AD)} {p:Nat×AD},p∈Oq l d w->p∈l\/p=(d,w)
 |[],p,h=>by cases h
 | (i,u)::r,p,h=>by
  unfold Oq at h;rw[GS]at h;by_cases e:i=d
  ·rw[xf e]at h;rcases xS.1 h with h|h
   ·right;rw[h,e]
   ·left;exact xv _ h
  ·rw[xd e]at h;rcases xS.1 h with h|h
   ·left;rw[h];simp
   ·rcases MB h with h|h
    ·left;exact xv _ h
    ·right;exact h
theorem Has.EL{fr:Fr}{N:Nat}{l:List (Nat×AD)}(H:Has fr N l)(d:Nat){b w:Bool}(X:b=w)(hd:MR l d=some (.bool b)):Has fr N (Oq l d (.bool w)):=by
 subst X;refine⟨H.1,λp hp=>?_⟩;rcases MB hp with h|h
 ·exact H.2 p h
 ·rw[h];exact H.2 _ (Js hd)
@[irreducible] def Gp:Nat:=4611686018427387904
theorem N1:Gp=4611686018427387904:=by unfold Gp;rfl
def cap{α β:Type}(asE9:AD->Option α)(rest:List AD->Option β):List AD->Option (α×β)
 |v::l=>(asE9 v).bind λx=>(rest l).map λy=>(x,y)
 |[]=>none
end Go.Abs
end
/-
 A part.
-/
section
namespace Go.Abs.L
open Go.Abs
def kinds:List Nat:=[0,0,0,0,0,0,0,0,0,0,0,0,0,0,0,0,0,0,0,0,0,0,0,0,0,0,0,0,0,0,0,0,0,0,0,0,0,0,1,0,0,0,0,0,0,0,0,0,0,0,0,0,0,1,0,0,0,0,0,0,0,0,0,0,0,0,0,2,1,1,0,0,0,0,0,0,0,0,0,1,0,0,0,0,0,0,0,0,0,0,0,0,0,0,0,0,0,0,0,0,0,0,0,0,0,0,0,0,0,0,0,0,0,0,0,0,0,0,0,0]
def Su:List ((Nat×Nat)×List (Nat×List Nat)):=[((53,2),[(0,[]),(1,[]),(2,[]),(3,[]),(4,[]),(5,[]),(6,[]),(7,[]),(8,[]),(9,[]),(10,[])]),
 ((53,11),[(0,[]),(1,[]),(2,[]),(3,[]),(4,[]),(5,[]),(6,[]),(7,[]),(8,[]),(9,[]),(10,[]),(11,[])])]
def T9:List (Nat×List AD):=[]
noncomputable def cfg:Gf:=⟨Go.Proofs.Try.prog,KQ kinds,LG Su,λ_ _ _ _=>none,K8 T9⟩
theorem Rp:Ie cfg:=T6 (ks:=kinds) rfl (by kernel_rfl) (by kernel_rfl) (by kernel_rfl)
end Go.Abs.L
end
/-
 A part.
-/
section
namespace Go.Abs
section
variable {h h':AE} {g:Gd} {gr:Option TypeId} {stt:Nat} {cs:List AD} {id o:Nat}
theorem M1(G:stt≠0){n:Nat}(F:o+n<=cs.length):B2 (some (.cells gr stt cs)) o n=some ((cs.drop o).take n):=by
 simp[B2,G,F]
theorem PC(K:h.get id=some (.cells gr stt cs))(G:stt≠0){v:AD}(C:cs[o]?=some v):Ma h (id,o)=some v:=by
 have T:=(List.getElem?_eq_some_iff.1 C).1;unfold Ma;simp only[K,M1 G (show o+1<=cs.length by omega)];rw[xI T];rw[List.getElem?_eq_getElem T]at C;injection C with C;simp[C]
theorem Kb(K:h.get id=some (.cells gr stt cs))(G:stt≠0){k:IntKind}{n:Int}(C:cs[o]?=some (.int k n)):Ot h (id,o) k=some n:=by
 simp[Ot,PC K G C,X0]
theorem Wz(K:h.get id=some (.cells gr stt cs))(G:stt≠0){n:Bool}(C:cs[o]?=some (.bool n)):S3 h (id,o)=some n:=by
 simp[S3,PC K G C,X7]
theorem WW(K:h.get id=some (.cells gr stt cs))(G:stt≠0){n:List UInt8}(C:cs[o]?=some (.str n)):Xd h (id,o)=some n:=by
 simp[Xd,PC K G C,Xz]
theorem Ja(K:h.get id=some (.cells gr stt cs))(G:stt≠0){r:Option (Nat×Nat)}{n:Nat}(C:cs[o]?=some (.slice r n)):Lz h (id,o)=some ⟨r,n⟩:=by
 simp[Lz,PC K G C,XN]
theorem LO(K:h.get id=some (.cells gr stt cs))(G:stt≠0){n:Nat}(F:o+n<=cs.length):Eb h (id,o) n=some ((cs.drop o).take n):=by
 simp only[Eb,K,M1 G F]
theorem SU(K:h.get id=some (.cells gr 2 cs))(hm:g.may id=true){new:List AD}(F:o+new.length<=cs.length)(h1:new.all AD.one=true):st g h (id,o) new=some (h.set id (.cells gr 2 (Cu cs o new))):=by
 simp only[st,By,K];rw[xf ⟨hm,F,h1⟩]
theorem Wf(K:h.get id=some (.cells gr 2 cs))(hm:g.may id=true){n:Nat}{new:List AD}(hn:new.length=n)(F:o+n<=cs.length)(h1:new.all AD.one=true):TS n g h (id,o) new=some (h.set id (.cells gr 2 (Cu cs o new))):=by
 simp only[TS,hn,if_true,By,K];rw[xf ⟨hm,by omega,h1⟩]
theorem NN{v:AD}(F:o<cs.length):Cu cs o [v]=cs.set o v:=by
 simp only[Cu,xo,xY];rw[xy,xf F];simp
theorem O9{new:List AD}(F:new.length=cs.length):Cu cs 0 new=new:=by simp[Cu,F]
end
structure EP(x:Option Nat)(h h':AE):Prop where
 size:h.size<=h'.size
 get:∀id,id<h.size->some id≠x->h'.get id=h.get id
theorem EP.refl(x:Option Nat)(h:AE):EP x h h:=⟨xb _,λ_ _ _=>rfl⟩
theorem EP.trans{x:Option Nat}{a b c:AE}(h:EP x a b)(k:EP x b c):EP x a c:=
 ⟨xn h.size k.size,λid hi B=>(k.get id (xe hi h.size) B).trans (h.get id hi B)⟩
theorem EP.push(x:Option Nat)(h:AE)(o:Br):EP x h (h.push o):=⟨by simp,λid hi _=>h.Cc o hi⟩
theorem EP.set{h:AE}{id:Nat}{o o':Br}(K:h.get id=some o'):EP (some id) h (h.set id o):=
 ⟨by simp,λi _ B=>h.Cj o (h.BZ K) (λe=>B (by rw[e]))⟩
theorem EP.Ep{x:Option Nat}{h h':AE}(k:EP x h h'){id:Nat}{o:Br}(K:h.get id=some o)(B:some id≠x):h'.get id=some o:=by rw[k.get id (h.BZ K) B];exact K
def YR(P:Program)(sz:Nat)(gr:Option TypeId):Prop:=∀e,gr=some e->B9 P e=some sz
def View(P:Program)(S:Nat->Prop)(h:AE)(sz:Nat)(s:Sl)(cs:List AD):Prop:=
 cs.length=s.n*sz/\((s.r=none/\s.n=0)\/∃id o gr stt all,s.r=some (id,o)/\S id/\h.get id=some (.cells gr stt all)/\YR P sz gr/\(s.n=0\/(stt≠0/\o+cs.length<=all.length/\(all.drop o).take cs.length=cs)))
section
variable {P:Program} {S S':Nat->Prop} {h h':AE} {sz:Nat} {s:Sl} {cs:List AD}
theorem View.ix(v:View P S h sz s cs){i:Nat}(hi:i<s.n):
  ∃id o gr stt all,Jp s sz i=some (id,o+i*sz)/\S id/\h.get id=some (.cells gr stt all)/\stt≠0/\(∀j,j<sz->all[o+i*sz+j]?=cs[i*sz+j]?)/\o+i*sz+sz<=all.length/\(all.drop (o+i*sz)).take sz=(cs.drop (i*sz)).take sz:=by
 rcases v.2 with⟨_,h0⟩|⟨id,o,gr,stt,all,h1,hS,J,V,R⟩
 ·omega
 ·rcases R with R|⟨R,h5,U⟩
  ·omega
  ·have X:i*sz+sz<=cs.length:=by
    rw[v.1];have:(i+1)*sz<=s.n*sz:=Nat.mul_le_mul_right _ hi;rw[xJ]at this;omega
   refine⟨id,o,gr,stt,all,?_,hS,J,R,λj D=>?_,by omega,?_⟩
   ·unfold Jp SR;rw[h1];simp only;rw[xf ⟨by omega,by omega⟩];simp
   ·have e:cs[i*sz+j]?=((all.drop o).take cs.length)[i*sz+j]?:=by rw[U]
    rw[e,List.getElem?_take,xf (by omega),List.getElem?_drop];congr 1;omega
   ·conv=>rhs;rw[<-U]
    rw[List.drop_take,List.take_take,we,Nat.min_eq_left (by omega)]
end
def Sl.id?(s:Sl):Option Nat:=s.r.map (·.1)
theorem U6{g:Gd}{n:Nat}(hfl:g.floor<=n)(hpr:∀i∈g.Bs,i<n):g.may n=true:=by
 unfold Gd.may;rw[xa,xj];refine⟨Nat.ble_eq_true_of_le hfl,?_⟩;rw[List.any_eq_false];intro i hi hbe;have:=xu hbe;have:=hpr i hi;omega
end Go.Abs
end
/-
 A part.
-/
section
namespace Go.Abs
set_option linter.unusedVariables false
theorem Jr{x:Int}(h1: -9223372036854775808<=x)(J:x<=9223372036854775807):IntKind.i64.wrap x=x:=by rw[IntKind.wrap_i64];omega
theorem U5{a:Nat×Nat}{n z r:Nat}(hr:r<n):SR a n z (r:Int)=some (a.1,a.2+r*z):=by
 unfold SR;rw[xf ⟨by omega,by omega⟩];simp
theorem B3{α β:Type}[DecidableEq β](a b:β)(x y:Option α):Aj (a==b) x y=if a=b then x else y:=by
 by_cases h:a=b<;>simp[h];have:(a==b)=false:=by simpa using h
 simp[this]
theorem Ss(b c:Bool):Aj b (some true) (some c)=some (b||c):=by cases b<;>rfl
theorem Ta(b c:Bool):Aj b (some c) (some false)=some (b&&c):=by cases b<;>rfl
theorem O1{s:List UInt8}{i:Nat}{b:UInt8}(h:s[i]?=some b):OF s (i:Int)=some (b.toNat:Int):=by
 unfold OF;rw[xf (by omega),xh,h];rfl
def W{α:Type}(m:Option α)(Q:α->Prop):Prop:=∃r,m=some r/\Q r
theorem W.mono{α:Type}{m:Option α}{Q Q':α->Prop}(w:W m Q)(h:∀r,Q r->Q' r):W m Q':=by obtain⟨r,e,q⟩:=w;exact⟨r,e,h r q⟩
theorem AG{α:Type}{x:α}{Q:α->Prop}(h:Q x):W (some x) Q:=⟨x,rfl,h⟩
theorem AP{α β:Type}{m:Option α}{k:α->Option β}{Q:β->Prop}(w:W m λx=>W (k x) Q):W (m.bind k) Q:=by obtain⟨r,e,q⟩:=w;rw[e];exact q
theorem Ap{α:Type}{b:Bool}{x y:Option α}{Q:α->Prop}(h1:b=true->W x Q)(J:b=false->W y Q):W (Aj b x y) Q:=by cases b;exact J rfl;exact h1 rfl
theorem Bi{α:Type}{p:Prop}[Decidable p]{x y:Option α}{Q:α->Prop}(h1:p->W x Q)(J:¬p->W y Q):W (Aj (decide p) x y) Q:=by by_cases h:p<;>simp[h,h1,J]
theorem ES{α:Type}{b:Bool}{x:Option α}{Q:α->Prop}(h1:b=true)(J:W x Q):W (F6 b x) Q:=by rw[h1];exact J
theorem W.loop{σ ρ:Type}{step:σ->Option (σ⊕ρ)}{s:σ}{Q:ρ->Prop}(inv:σ->Prop)(μ:σ->Nat)(hi:inv s)
  (hs:∀s,inv s->W (step s) (λr=>match r with| .inl s'=>inv s'/\μ s'<μ s| .inr r=>Q r)):W (Abs.loop step s) Q:=by
 refine OD inv μ Q (λs hi=>?_) s hi;obtain⟨r,e,q⟩:=hs s hi;cases r with
 |inl s'=>exact .inl ⟨s',e,q⟩
 |inr r=>exact .inr ⟨r,e,q⟩
theorem W.eq{α:Type}{m:Option α}{x:α}(w:W m λr=>r=x):m=some x:=by obtain⟨r,e,q⟩:=w;rw[e,q]
def arr(k:IntKind)(l:List Int):List AD:=l.map (.int k ·)
@[simp] theorem WU (k:IntKind) (l:List Int):(arr k l).length=l.length:=by simp[arr]
theorem JZ{a b:Nat}(h:a<=b):(⟨a,[]⟩:Gd).may b=true:=U6 h (by simp)
theorem F3{k:Nat}(h:k<4611686018427387904):IntKind.i64.wrap ((k:Int)+1)=((k+1:Nat):Int):=by rw[Jr (by omega) (by omega)];omega
theorem MM(z:AD):∀n,Cs [z] n=List.replicate n z
 |0=>rfl
 |n+1=>by rw[Cs,MM z n];rfl
def Yd(l:List UInt8):List AD:=l.map λb=>.int .u8 b.toNat
@[simp] theorem Wc (l:List UInt8):(Yd l).length=l.length:=by simp[Yd]
theorem P3{α β:Type}{f:α->List β}{sz:Nat}(M:∀x,(f x).length=sz):∀(l:List α) (i:Nat) (x:α),l[i]?=some x->∀j,j<sz->(l.flatMap f)[i*sz+j]?=(f x)[j]?
 |[],i,x,h,_,_=>by simp at h
 |y::l,0,x,h,j,D=>by
  simp only[List.getElem?_cons_zero,qU]at h;subst h;rw[xV,List.getElem?_append_left (by rw[M];omega)];simp
 |y::l,i+1,x,h,j,D=>by
  rw[xV,List.getElem?_append_right (by rw[M,xJ];omega),M];have e:(i+1)*sz+j - sz=i*sz+j:=by rw[xJ];omega
  rw[e];exact P3 M l i x (by simpa using h) j D
theorem Rt{α β:Type}{f:α->List β}{sz:Nat}(M:∀x,(f x).length=sz){l:List α}{i:Nat}{x:α}(h:l[i]?=some x):((l.flatMap f).drop (i*sz)).take sz=f x:=by
 apply List.ext_getElem?;intro j;rw[List.getElem?_take];split
 ·rename_i D;rw[List.getElem?_drop];exact P3 M l i x h j D
 ·rename_i D;rw[List.getElem?_eq_none (by rw[M];omega)]
theorem Jh{α β:Type}{f:α->List β}{sz:Nat}(M:∀x,(f x).length=sz):∀l:List α,(l.flatMap f).length=l.length*sz
 |[]=>by simp
 |y::l=>by rw[xV,List.length_append,M,Jh M l,xo,xJ];omega
theorem View.Yh{P:Program}{S:Nat->Prop}{h:AE}{sz:Nat}{s:Sl}{cs:List AD}(v:View P S h sz s cs){i:Nat}(hi:i<s.n):
  ∃a,Jp s sz (i:Int)=some a/\(∀j,j<sz->∀w,cs[i*sz+j]?=some w->Ma h (a.1,a.2+j)=some w)/\Eb h (a.1,a.2) sz=some ((cs.drop (i*sz)).take sz):=by
 obtain⟨id,o,gr,stt,all,h1,_,J,V,R,h5,U⟩:=v.ix hi;refine⟨_,h1,λj D w hw=>PC J V ?_,?_⟩
 ·rw[R j D];exact hw
 ·rw[LO J V (by omega)];rw[U]
theorem TU{h:AE}{g:Gd}{z cs:List AD}{n:Nat}(hm:g.may h.size=true)(hz:z.length=n)(hc:cs.length=n)(h1:cs.all AD.one=true):
  ∃h',TS n g (h.push (.cells none 2 z)) (h.size,0) cs=some h'/\h'.get h.size=some (.cells none 2 cs)/\EP none h h'/\h'.size=h.size+1:=by
 refine⟨_,Wf (AE.Bh _ _) hm hc (by omega) h1,?_,⟨by simp,λid hi _=>?_⟩,rfl⟩
 ·rw[AE.Cf _ _ (by simp),O9 (by omega)]
 ·rw[AE.Cj _ _ (by simp) (by omega),AE.Cc _ _ hi]
end Go.Abs
end
/-
 A part.
-/
section
namespace Go.Av
def Xc:AD->Option Abs.AD
 | .int k n=>some (.int k n)
 | .str s=>some (.str s)
 |_=>none
def Vc:List AD->Option (List Abs.AD)
 |[]=>some []
 |x::l=>(Xc x).bind λy=>(Vc l).map λys=>y::ys
def hE(cs:List Abs.AD):Abs.AE:=(⟨0,.leaf⟩:Abs.AE).push (.cells none 1 cs)
def R4(cs:List Abs.AD)(n:Nat)(r a:Int)(s:List UInt8)(i:Int)(bs:List Bool):Prop:=
 ∃h' id,Abs.Bw Abs.L.cfg ⟨1,[]⟩ (hE cs) 38 [.agg [.slice (some (0,0)) n,.int .i64 r],.int .i64 a,.str s,.int .i64 i] (.slice (some (id,0)) bs.length) h'/\
  h'.get id=some (.cells (some 4) 2 (bs.map Abs.AD.bool))/\bs≠[]
open Classical in
noncomputable def HP(cs:List AD)(n:Nat)(r a:Int)(s:List UInt8)(i:Int):Option (List Bool):=
 match Vc cs with
 |some cs'=>if h:cs'≠[]/\∃bs,R4 cs' n r a s i bs then some h.2.choose else none
 |none=>none
def Ra:AD->Option Nat
 | .slice _ n=>some n
 | .JV n _=>some n
 |_=>none
noncomputable def TP(h:AE):List AD->Option (AD×AE)
 | [.agg [x,.int .i64 r],.int .i64 a,.str s,.int .i64 i]=>
  match Ra x with
  |some n=>
   match Ch h 7 n x with
   |some cs=>(HP cs n r a s i).map λbs=>(.JV bs.length (bs.map AD.bool),h)
   |none=>none
  |none=>none
 |_=>none
end Go.Av
end
/-
 A part.
-/
section
namespace Go.Av
open Go.RowKit
theorem GS{α:Type}(i j:Nat)(a b:α):(bif Nat.beq i j then a else b)=if i=j then a else b:=by
 by_cases h:i=j
 ·subst h;simp[yS]
 ·have:Nat.beq i j=false:=by
   cases e:Nat.beq i j
   ·rfl
   ·exact absurd (zE e) h
  simp[this,h]
theorem Tr.HN{α:Type}(l r:Tr α)(v:Option α)(j:Nat):(Tr.node l v r).get j=if j=0 then v else if j%2=1 then l.get (j / 2)else r.get (j / 2 - 1):=by
 simp only[Tr.get,GS]
theorem Tr.PB{α:Type}(f:Nat)(l r:Tr α)(v:Option α)(i:Nat)(x:α):Tr.set (f+1) (.node l v r) i x=
  if i=0 then .node l (some x) r else if i%2=1 then .node (Tr.set f l (i / 2) x) v r else .node l v (Tr.set f r (i / 2 - 1) x):=by
 simp only[Tr.set,GS]
theorem Tr.PA{α:Type}(f:Nat)(i:Nat)(x:α):Tr.set (f+1) .leaf i x=Tr.set (f+1) (.node .leaf none .leaf) i x:=by
 simp only[Tr.set]
theorem Tr.G5{α:Type}:∀(f:Nat) (t:Tr α) (i j:Nat) (x:α),i<f->(Tr.set f t i x).get j=if j=i then some x else t.get j
 |0,_,_,_,_,h=>absurd h (by omega)
 | f + 1,t,i,j,x,h=>by
  have ih:=λt i j=>Tr.G5 f t i j x;have key:∀l v r,(Tr.set (f+1) (.node l v r) i x).get j=if j=i then some x else(Tr.node l v r).get j:=by
   intro l v r;rw[Tr.PB,Tr.HN];by_cases hi:i=0
   ·subst hi;rw[zj rfl,Tr.HN];by_cases D:j=0
    ·rw[zj D,zj D]
    ·simp only[zk D]
   ·rw [zk hi];by_cases h1:i%2=1
    ·rw[zj h1,Tr.HN];by_cases D:j=0
     ·rw[zj D,zj D,zk (by omega)]
     ·rw[zk D,zk D];by_cases J:j%2=1
      ·rw[zj J,zj J,ih _ _ _ (by omega)];by_cases O:j=i
       ·rw[zj O,zj (by omega)]
       ·rw[zk O,zk (by omega)]
      ·rw[zk J,zk J,zk (by omega)]
    ·rw[zk h1,Tr.HN];by_cases D:j=0
     ·rw[zj D,zj D,zk (by omega)]
     ·rw[zk D,zk D];by_cases J:j%2=1
      ·rw[zj J,zj J,zk (by omega)]
      ·rw[zk J,zk J,ih _ _ _ (by omega)];by_cases O:j=i
       ·rw[zj O,zj (by omega)]
       ·rw[zk O,zk (by omega)]
  cases t with
  |node l v r=>exact key l v r
  |leaf=>
   rw[Tr.PA,key];congr 1;rw[Tr.HN];simp[Tr.get]
section
variable (h:AE)
@[simp] theorem AE.size_set (i:Nat) (o:Br):(h.set i o).size=h.size:=rfl
@[simp] theorem AE.size_push (o:Br):(h.push o).size=h.size+1:=rfl
theorem AE.GF{i:Nat}(hi:h.size<=i):h.get i=none:=by
 have:Nat.blt i h.size=false:=by
  cases e:Nat.blt i h.size
  ·rfl
  ·rw[yI]at e;omega
 simp[AE.get,this]
theorem AE.BZ{i:Nat}{o:Br}(hi:h.get i=some o):i<h.size:=by
 rcases zV i h.size with F|F
 ·exact F
 ·rw[h.GF F]at hi;cases hi
theorem AE.get_eq{i:Nat}(hi:i<h.size):h.get i=h.tr.get i:=by
 have:Nat.blt i h.size=true:=by rw[yI];exact hi
 simp[AE.get,this]
theorem AE.G5(i j:Nat)(o:Br)(hi:i<h.size):(h.set i o).get j=if j=i then some o else h.get j:=by
 by_cases D:j<h.size
 ·rw[AE.get_eq _ (by simpa using D),AE.get_eq _ D];exact Tr.G5 _ _ _ _ _ (by omega)
 ·rw[AE.GF _ (by simpa using Nat.le_of_not_lt D),AE.GF _ (Nat.le_of_not_lt D),zk (by omega)]
theorem AE.Cf{i:Nat}(o:Br)(hi:i<h.size):(h.set i o).get i=some o:=by rw[h.G5 _ _ _ hi,zj rfl]
theorem AE.Cj{i j:Nat}(o:Br)(hi:i<h.size)(hne:j≠i):(h.set i o).get j=h.get j:=by rw[h.G5 _ _ _ hi,zk hne]
theorem AE.KA(o:Br)(j:Nat):(h.push o).get j=if j=h.size then some o else h.get j:=by
 by_cases D:j<h.size+1
 ·rw[AE.get_eq _ (by simpa using D)];show(Tr.set (h.size+1) h.tr h.size o).get j=_;rw[Tr.G5 _ _ _ _ _ (by omega)];by_cases e:j=h.size
  ·simp[e]
  ·rw[zk e,zk e,AE.get_eq _ (by omega)]
 ·rw[AE.GF _ (by simp;omega),zk (by omega),AE.GF _ (by omega)]
theorem AE.Bh(o:Br):(h.push o).get h.size=some o:=by rw[h.KA,zj rfl]
theorem AE.Cc(o:Br){j:Nat}(D:j<h.size):(h.push o).get j=h.get j:=by rw[h.KA,zk (by omega)]
end
theorem H0:∀(l:List AD) (i:Nat),nth l i=l.getD i (.tuple [])
 |[],i=>by simp[nth]
 |a::l,0=>by simp[nth]
 |a::l,i+1=>by simpa[nth]using H0 l i
theorem GR(l:List AD)(i j:Nat)(v:AD):nth (l.set i v) j=if i=j/\i<l.length then v else nth l j:=by
 simp only[H0,zl,List.getElem?_set];by_cases h:i=j
 ·subst h;by_cases F:i<l.length<;>simp[F]
 ·simp[h]
@[simp] theorem Rf (fr:Fr) (d:Option Tmp) (v:AD):(put fr d v).length=fr.length:=by cases d<;>simp[put]
structure Ii where
 g:Nat
 base:Nat
 QG:Nat
 total:Nat
structure BU where
 i:Nat->Option Ii
 fz:Nat->Nat->Option Value
 df:Nat->Prop:=λ_=>False
instance:CoeFun BU (λ_=>Nat->Option Ii):=⟨BU.i⟩
inductive VR(m:BU):AD->Value->Prop where
 |undef (v:Value):VR m .undef v
 |bool (b:Bool):VR m (.bool b) (.bool b)
 |int (k:IntKind) (n:Int):VR m (.int k n) (.int k n)
 |str (s:ByteArray):VR m (.str s.data.toList) (.string s)
 |Il:VR m (.ptr none) (.pointer none)
 |ptr (id o:Nat) (E:Ii):m id=some E->VR m (.ptr (some (id,o))) (.pointer (some ⟨E.g,E.base+o,none⟩))
 |GM (g o:Nat):VR m (.GM g o) (.pointer (some ⟨g,o,none⟩))
 |Db:VR m (.slice none 0) (.slice none 0 0)
 |HL (a:Addr):VR m (.slice none 0) (.slice (some a) 0 0)
 |slice (id o len cap:Nat) (E:Ii) (a:Addr):m id=some E->len<=cap->(cap≠0->a=⟨E.g,E.base+o,none⟩/\(E.QG≠0->E.base+o+cap*E.QG<=E.total))->VR m (.slice (some (id,o)) len) (.slice (some a) len cap)
 |Iv:VR m (.map none) (.map none)
 |map (id:Nat) (E:Ii):m id=some E->VR m (.map (some id)) (.map (some E.g))
 |Hc:VR m (.chan none) (.chan none)
 |chan (id:Nat) (E:Ii):m id=some E->VR m (.chan (some id)) (.chan (some E.g))
 |func (fn:Fn) (a b:List AD) (c d:Array Value):a.length=c.size->(∀(i:Nat) (x:AD) (y:Value),a[i]?=some x->c[i]?=some y->VR m x y)->b.length=d.size->(∀(i:Nat) (x:AD) (y:Value),b[i]?=some x->d[i]?=some y->VR m x y)->VR m (.func fn a b) (.func fn c d)
 |nilFunc:VR m .nilFunc .nilFunc
 |iface (t:TypeId) (x:AD) (y:Value):VR m x y->VR m (.iface t x) (.iface t y)
 |nilIface:VR m .nilIface .nilIface
 |agg (a:List AD) (c:Array Value):a.length=c.size->(∀(i:Nat) (x:AD) (y:Value),a[i]?=some x->c[i]?=some y->VR m x y)->VR m (.agg a) (.agg c)
 |tuple (a:List AD) (c:Array Value):a.length=c.size->(∀(i:Nat) (x:AD) (y:Value),a[i]?=some x->c[i]?=some y->VR m x y)->VR m (.tuple a) (.tuple c)
 |XA (l:Nat) (E:Ii):m l=some E->VR m (.XA l) (.func (.yield E.g) #[] #[])
 |N0 (a:Option Addr) (cap:Nat):VR m (.JV 0 []) (.slice a 0 cap)
 |JV (n cap g o:Nat) (a:List AD) (c:Nat->Value):n<=cap->(∀i,i<a.length->m.fz g (o+i)=some (c i))->(∀(i:Nat) (x:AD),a[i]?=some x->VR m x (c i))->VR m (.JV n a) (.slice (some ⟨g,o,none⟩) n cap)
 |Ee (g o:Nat) (a:List AD) (c:Nat->Value):(∀i,i<a.length->m.fz g (o+i)=some (c i))->(∀(i:Nat) (x:AD),a[i]?=some x->VR m x (c i))->VR m (.Ee a) (.pointer (some ⟨g,o,none⟩))
def B5(m:BU)(a:List AD)(c:List Value):Prop:=a.length=c.length/\∀(i:Nat) (x:AD) (y:Value),a[i]?=some x->c[i]?=some y->VR m x y
structure BU.le(m m':BU):Prop where
 i:∀id E,m id=some E->m' id=some E
 fz:∀g o v,m.fz g o=some v->m'.fz g o=some v
theorem VR.mono{m m':BU}(hm:m.le m'){x:AD}{y:Value}(h:VR m x y):VR m' x y:=by
 induction h with
 |undef v=>exact .undef v
 |bool b=>exact .bool b
 |int k n=>exact .int k n
 |str s=>exact .str s
 |Il=>exact .Il
 |ptr id o E h=>exact .ptr id o E (hm.i _ _ h)
 |GM g o=>exact .GM g o
 |Db=>exact .Db
 |HL a=>exact .HL a
 |slice id o len cap E a h F hc=>exact .slice id o len cap E a (hm.i _ _ h) F hc
 |Iv=>exact .Iv
 |map id E h=>exact .map id E (hm.i _ _ h)
 |Hc=>exact .Hc
 |chan id E h=>exact .chan id E (hm.i _ _ h)
 |func fn a b c d h1 _ J _ i1 i2=>exact .func fn a b c d h1 i1 J i2
 |nilFunc=>exact .nilFunc
 |iface t x y _ ih=>exact .iface t x y ih
 |nilIface=>exact .nilIface
 |agg a c h _ ih=>exact .agg a c h ih
 |tuple a c h _ ih=>exact .tuple a c h ih
 |XA l E h=>exact .XA l E (hm.i _ _ h)
 |N0 a cap=>exact .N0 a cap
 |JV n cap g o a c hc M _ ih=>exact .JV n cap g o a c hc (λi hi=>hm.fz _ _ _ (M i hi)) ih
 |Ee g o a c M _ ih=>exact .Ee g o a c (λi hi=>hm.fz _ _ _ (M i hi)) ih
theorem B5.mono{m m':BU}(hm:m.le m'){a:List AD}{c:List Value}(h:B5 m a c):B5 m' a c:=⟨h.1,λi x y B I=>(h.2 i x y B I).mono hm⟩
theorem B5.nil(m:BU):B5 m [] []:=⟨rfl,λi x y h=>by simp at h⟩
theorem B5.cons{m:BU}{x:AD}{y:Value}{a:List AD}{c:List Value}(h:VR m x y)(k:B5 m a c):B5 m (x::a) (y::c):=by
 refine⟨by simp[k.1],λi u v hu C=>?_⟩;cases i with
 |zero=>simp at hu C;subst hu;subst C;exact h
 |succ i=>exact k.2 i u v (by simpa using hu) (by simpa using C)
theorem B5.app{m:BU}{a b:List AD}{c d:List Value}(h:B5 m a c)(k:B5 m b d):B5 m (a++b) (c++d):=by
 refine⟨by simp[h.1,k.1],λi x y B I=>?_⟩;by_cases hi:i<a.length
 ·rw[List.getElem?_append_left hi]at B;rw[List.getElem?_append_left (by rw[<-h.1];exact hi)]at I;exact h.2 i x y B I
 ·rw[List.getElem?_append_right (by omega)]at B;rw[List.getElem?_append_right (by rw[<-h.1];omega),<-h.1]at I;exact k.2 _ x y B I
theorem B5.take{m:BU}{a:List AD}{c:List Value}(h:B5 m a c)(n:Nat):B5 m (a.take n) (c.take n):=by
 refine⟨by simp[h.1],λi x y B I=>?_⟩;rw[List.getElem?_take]at B I;split at B
 ·rename_i hi;rw[zj hi]at I;exact h.2 i x y B I
 ·cases B
theorem B5.drop{m:BU}{a:List AD}{c:List Value}(h:B5 m a c)(n:Nat):B5 m (a.drop n) (c.drop n):=by
 refine⟨by simp[h.1],λi x y B I=>?_⟩;rw[List.getElem?_drop]at B I;exact h.2 _ x y B I
theorem B5.map{m:BU}{α:Type}(f:α->AD)(g:α->Value):∀(l:List α),(∀x∈l,VR m (f x) (g x))->B5 m (l.map f) (l.map g)
 |[],_=>.nil m
 |x::l,h=>.cons (h x (by simp)) (B5.map f g l λy I=>h y (by simp[I]))
theorem B5.Cu{m:BU}{a b:List AD}{c d:List Value}(h:B5 m a c)(k:B5 m b d)(o:Nat):B5 m (Cu a o b) (c.take o++(d++c.drop (o+d.length))):=by
 unfold Av.Cu;rw[k.1];exact(h.take o).app (k.app (h.drop _))
theorem B5.at_{m:BU}{a:List AD}{c:List Value}(h:B5 m a c){i:Nat}{x:AD}(B:a[i]?=some x):∃y,c[i]?=some y/\VR m x y:=by
 have hi:i<c.length:=by rw[<-h.1];exact(List.getElem?_eq_some_iff.1 B).1
 exact⟨_,List.getElem?_eq_getElem hi,h.2 i x _ B (List.getElem?_eq_getElem hi)⟩
theorem B5.PZ{m:BU}{a:List AD}{c:Array Value}(h:VR m (.agg a) (.agg c)):B5 m a c.toList:=by
 cases h with
 |agg _ _ F C=>exact⟨by simpa using F,λi x y B I=>C i x y B (by simpa using I)⟩
theorem B5.agg{m:BU}{a:List AD}{c:Array Value}(h:B5 m a c.toList):VR m (.agg a) (.agg c):=
 .agg a c (by simpa using h.1) λi x y B I=>h.2 i x y B (by simpa using I)
theorem B5.tuple{m:BU}{a:List AD}{c:Array Value}(h:B5 m a c.toList):VR m (.tuple a) (.tuple c):=
 .tuple a c (by simpa using h.1) λi x y B I=>h.2 i x y B (by simpa using I)
theorem B5.PV{m:BU}{a:List AD}{c:Array Value}(h:VR m (.tuple a) (.tuple c)):B5 m a c.toList:=by
 cases h with
 |tuple _ _ F C=>exact⟨by simpa using F,λi x y B I=>C i x y B (by simpa using I)⟩
theorem VR.Kl{m:BU}{a:List AD}{v:Value}(h:VR m (.tuple a) v):∃c,v=.tuple c/\B5 m a c.toList:=by
 cases h with
 |tuple _ c F C=>exact⟨c,rfl,B5.PV (.tuple a c F C)⟩
theorem VR.D1{m:BU}{a:List AD}{v:Value}(h:VR m (.agg a) v):∃c,v=.agg c/\B5 m a c.toList:=by
 cases h with
 |agg _ c F C=>exact⟨c,rfl,B5.PZ (.agg a c F C)⟩
theorem VR.C3{m:BU}{s:List UInt8}{v:Value}(h:VR m (.str s) v):v=.string ⟨⟨s⟩⟩:=by
 generalize B:AD.str s=x at h;cases h with
 |str b=>injection B with B;subst B;rfl
 |_=>cases B
theorem VR.I3(m:BU)(v:Value):VR m (I3 v) v:=by
 unfold Av.I3;split
 ·exact .bool _
 ·exact .int _ _
 ·exact .str _
 ·exact .Il
 ·exact .Db
 ·exact .Iv
 ·exact .Hc
 ·exact .nilFunc
 ·exact .nilIface
 ·exact .undef _
theorem B5.I3(m:BU)(l:List Value):B5 m (l.map Av.I3) l:=by
 have:=B5.map (m:=m) Av.I3 id l (λx _=>VR.I3 m x);simpa using this
theorem VR.Pf(m:BU)(v:Value):VR m (Pf v) v:=by
 unfold Av.Pf;split
 ·exact B5.agg (B5.I3 m _)
 ·exact B5.tuple (B5.I3 m _)
 ·exact VR.I3 m _
theorem VR.MZ{m:BU}{g o:Nat}{a:List AD}{c:Nat->Value}(M:∀i,i<a.length->m.fz g (o+i)=some (c i))(C:∀(i:Nat) (x:AD),a[i]?=some x->VR m x (c i))(k:Nat):VR m (.Ee (a.drop k)) (.pointer (some ⟨g,o+k,none⟩)):=
 .Ee g (o+k) _ (λi=>c (k+i)) (λi hi=>by rw[ya]at hi;rw[yo];exact M _ (by omega)) (λi x B=>C _ x (by rw[List.getElem?_drop]at B;exact B))
theorem VR.Pu{m:BU}{a:List AD}{v:Value}(h:VR m (.Ee a) v)(k:Nat):VR m (.Ee (a.take k)) v:=by
 cases h with
 |Ee g o _ c M C=>exact .Ee g o _ c (λi hi=>M i (by rw[yp]at hi;omega)) (λi x B=>C i x (by rw[List.getElem?_take]at B;split at B;exact B;cases B))
theorem VR.cells{m:BU}{x:AD}{v:Value}(h:VR m x v){cs:List AD}(hc:x.cells?=some cs):B5 m cs v.cells.toList:=by
 cases h<;>simp[AD.cells?]at hc
 case agg a c F C=>subst hc;exact B5.PZ (.agg _ c F C)
 all_goals
  subst hc;refine .cons ?_ (.nil m)
  first
   |exact .bool _|exact .int _ _|exact .str _|exact .Il|exact .GM _ _|exact .Db|exact .Iv|exact .Hc|exact .nilFunc|exact .nilIface
   |(constructor<;>assumption)
theorem VR.one{m:BU}{x:AD}{v:Value}(h:VR m x v)(h1:x.one=true):v.oneCell'=true:=by
 cases h<;>first|rfl|simp[AD.one]at h1
end Go.Av
end
