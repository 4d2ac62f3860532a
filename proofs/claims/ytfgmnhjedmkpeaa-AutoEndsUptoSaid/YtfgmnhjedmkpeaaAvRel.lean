/-
  Several texts in one.
-/
import Derived.Test.YtfgmnhjedmkpeaaAbsMore
import Derived.Test.YtfgmnhjedmkpeaaProg
import Derived.Carry
import Derived.WideShapes
import Derived.ChangeShapes
import Derived.OpenShut
import Derived.IntWalk
import Derived.Test.YtfgmnhjedmkpeaaAvDef
set_option linter.unusedSimpArgs false
/-
 A part.
-/
section
namespace Go.Abs.L
open Go.Abs
def kinds:List Nat:=[0,0,0,0,0,0,0,0,0,0,0,0,0,0,0,0,0,0,0,0,0,0,0,0,0,0,0,0,0,0,0,0,0,0,0,0,0,0,1,0,0,0,0,0,0,0,0,0,0,0,0,0,0,1,0,0,0,0,0,0,0,0,0,0,0,0,0,2,1,1,0,0,0,0,0,0,0,0,0,1,0,0,0,0,0,0,0,0,0,0,0,0,0,0,0,0,0,0,0,0,0,0,0,0,0,0,0,0,0,0,0,0,0,0,0,0,0,0,0,0]
def Qf:List ((Nat×Nat)×List (Nat×List Nat)):=[((53,2),[(0,[]),(1,[]),(2,[]),(3,[]),(4,[]),(5,[]),(6,[]),(7,[]),(8,[]),(9,[]),(10,[])]),
 ((53,11),[(0,[]),(1,[]),(2,[]),(3,[]),(4,[]),(5,[]),(6,[]),(7,[]),(8,[]),(9,[]),(10,[]),(11,[])])]
def TM:List (Nat×List AA):=[]
noncomputable def cfg:Eu:=⟨Go.Proofs.Try.prog,Io kinds,JK Qf,λ_ _ _ _=>none,Mq TM⟩
theorem QM:Fq cfg:=T5 (ks:=kinds) rfl (by kernel_rfl) (by kernel_rfl) (by kernel_rfl)
end Go.Abs.L
end
/-
 A part.
-/
section
namespace Go.Abs
section
variable {h h':AB} {g:Gd} {gr:Option TypeId} {stt:Nat} {cs:List AA} {id o:Nat}
theorem Ky(J:stt≠0){n:Nat}(I:o+n<=cs.length):BQ (some (.cells gr stt cs)) o n=some ((cs.drop o).take n):=by
 simp[BQ,J,I]
theorem NZ(N:h.get id=some (.cells gr stt cs))(J:stt≠0){v:AA}(F:cs[o]?=some v):Jy h (id,o)=some v:=by
 have X:=(List.getElem?_eq_some_iff.1 F).1;unfold Jy;simp only[N,Ky J (show o+1<=cs.length by omega)];rw[xR X];rw[List.getElem?_eq_getElem X]at F;injection F with F;simp[F]
theorem I6(N:h.get id=some (.cells gr stt cs))(J:stt≠0){k:IntKind}{n:Int}(F:cs[o]?=some (.int k n)):Me h (id,o) k=some n:=by
 simp[Me,NZ N J F,Ys]
theorem W9(N:h.get id=some (.cells gr stt cs))(J:stt≠0){n:Bool}(F:cs[o]?=some (.bool n)):Ri h (id,o)=some n:=by
 simp[Ri,NZ N J F,Y5]
theorem Wq(N:h.get id=some (.cells gr stt cs))(J:stt≠0){n:List UInt8}(F:cs[o]?=some (.str n)):X2 h (id,o)=some n:=by
 simp[X2,NZ N J F,YD]
theorem Hm(N:h.get id=some (.cells gr stt cs))(J:stt≠0){r:Option (Nat×Nat)}{n:Nat}(F:cs[o]?=some (.slice r n)):Jw h (id,o)=some ⟨r,n⟩:=by
 simp[Jw,NZ N J F,XS]
theorem Jr(N:h.get id=some (.cells gr stt cs))(J:stt≠0){n:Nat}(I:o+n<=cs.length):Gp h (id,o) n=some ((cs.drop o).take n):=by
 simp only[Gp,N,Ky J I]
theorem Qm(N:h.get id=some (.cells gr 2 cs))(hm:g.may id=true){new:List AA}(I:o+new.length<=cs.length)(h1:new.all AA.one=true):st g h (id,o) new=some (h.set id (.cells gr 2 (CN cs o new))):=by
 simp only[st,BN,N];rw[xj ⟨hm,I,h1⟩]
theorem WD(N:h.get id=some (.cells gr 2 cs))(hm:g.may id=true){n:Nat}{new:List AA}(hn:new.length=n)(I:o+n<=cs.length)(h1:new.all AA.one=true):SA n g h (id,o) new=some (h.set id (.cells gr 2 (CN cs o new))):=by
 simp only[SA,hn,if_true,BN,N];rw[xj ⟨hm,by omega,h1⟩]
theorem K5{v:AA}(I:o<cs.length):CN cs o [v]=cs.set o v:=by
 simp only[CN,xx,wq];rw[xF,xj I];simp
theorem Nf{new:List AA}(I:new.length=cs.length):CN cs 0 new=new:=by simp[CN,I]
end
structure DV(x:Option Nat)(h h':AB):Prop where
 size:h.size<=h'.size
 get:∀id,id<h.size->some id≠x->h'.get id=h.get id
theorem DV.refl(x:Option Nat)(h:AB):DV x h h:=⟨xe _,λ_ _ _=>rfl⟩
theorem DV.trans{x:Option Nat}{a b c:AB}(h:DV x a b)(k:DV x b c):DV x a c:=
 ⟨xq h.size k.size,λid C B=>(k.get id (xi C h.size) B).trans (h.get id C B)⟩
theorem DV.push(x:Option Nat)(h:AB)(o:Ay):DV x h (h.push o):=⟨by simp,λid C _=>h.Bp o C⟩
theorem DV.set{h:AB}{id:Nat}{o o':Ay}(N:h.get id=some o'):DV (some id) h (h.set id o):=
 ⟨by simp,λi _ B=>h.Bw o (h.Ar N) (λe=>B (by rw[e]))⟩
theorem DV.De{x:Option Nat}{h h':AB}(k:DV x h h'){id:Nat}{o:Ay}(N:h.get id=some o)(B:some id≠x):h'.get id=some o:=by rw[k.get id (h.Ar N) B];exact N
def ZG(P:Program)(sz:Nat)(gr:Option TypeId):Prop:=∀e,gr=some e->BK P e=some sz
def View(P:Program)(S:Nat->Prop)(h:AB)(sz:Nat)(s:Sl)(cs:List AA):Prop:=
 cs.length=s.n*sz/\((s.r=none/\s.n=0)\/∃id o gr stt all,s.r=some (id,o)/\S id/\h.get id=some (.cells gr stt all)/\ZG P sz gr/\(s.n=0\/(stt≠0/\o+cs.length<=all.length/\(all.drop o).take cs.length=cs)))
section
variable {P:Program} {S S':Nat->Prop} {h h':AB} {sz:Nat} {s:Sl} {cs:List AA}
theorem View.ix(v:View P S h sz s cs){i:Nat}(C:i<s.n):
  ∃id o gr stt all,H0 s sz i=some (id,o+i*sz)/\S id/\h.get id=some (.cells gr stt all)/\stt≠0/\(∀j,j<sz->all[o+i*sz+j]?=cs[i*sz+j]?)/\o+i*sz+sz<=all.length/\(all.drop (o+i*sz)).take sz=(cs.drop (i*sz)).take sz:=by
 rcases v.2 with⟨_,h0⟩|⟨id,o,gr,stt,all,h1,hS,K,Z,V⟩
 ·omega
 ·rcases V with V|⟨V,h5,Y⟩
  ·omega
  ·have hb:i*sz+sz<=cs.length:=by
    rw[v.1];have:(i+1)*sz<=s.n*sz:=Nat.mul_le_mul_right _ C;rw[xr]at this;omega
   refine⟨id,o,gr,stt,all,?_,hS,K,V,λj H=>?_,by omega,?_⟩
   ·unfold H0 Qv;rw[h1];simp only;rw[xj ⟨by omega,by omega⟩];simp
   ·have e:cs[i*sz+j]?=((all.drop o).take cs.length)[i*sz+j]?:=by rw[Y]
    rw[e,List.getElem?_take,xj (by omega),List.getElem?_drop];congr 1;omega
   ·conv=>rhs;rw[<-Y]
    rw[List.drop_take,List.take_take,wx,Nat.min_eq_left (by omega)]
end
def Sl.id?(s:Sl):Option Nat:=s.r.map (·.1)
theorem VB{g:Gd}{n:Nat}(hfl:g.floor<=n)(hpr:∀i∈g.B4,i<n):g.may n=true:=by
 unfold Gd.may;rw[xf,xn];refine⟨Nat.ble_eq_true_of_le hfl,?_⟩;rw[List.any_eq_false];intro i C hbe;have:=xC hbe;have:=hpr i C;omega
end Go.Abs
end
/-
 A part.
-/
section
namespace Go.Abs
set_option linter.unusedVariables false
theorem Qs{x:Int}(h1: -9223372036854775808<=x)(K:x<=9223372036854775807):IntKind.i64.wrap x=x:=by rw[IntKind.wrap_i64];omega
theorem U3{a:Nat×Nat}{n z r:Nat}(hr:r<n):Qv a n z (r:Int)=some (a.1,a.2+r*z):=by
 unfold Qv;rw[xj ⟨by omega,by omega⟩];simp
theorem Gw{α β:Type}[DecidableEq β](a b:β)(x y:Option α):A3 (a==b) x y=if a=b then x else y:=by
 by_cases h:a=b<;>simp[h];have:(a==b)=false:=by simpa using h
 simp[this]
theorem Qy(b c:Bool):A3 b (some true) (some c)=some (b||c):=by cases b<;>rfl
theorem SJ(b c:Bool):A3 b (some c) (some false)=some (b&&c):=by cases b<;>rfl
theorem Mm{s:List UInt8}{i:Nat}{b:UInt8}(h:s[i]?=some b):Rc s (i:Int)=some (b.toNat:Int):=by
 unfold Rc;rw[xj (by omega),xm,h];rfl
def W{α:Type}(m:Option α)(Q:α->Prop):Prop:=∃r,m=some r/\Q r
theorem W.mono{α:Type}{m:Option α}{Q Q':α->Prop}(w:W m Q)(h:∀r,Q r->Q' r):W m Q':=by obtain⟨r,e,q⟩:=w;exact⟨r,e,h r q⟩
theorem AH{α:Type}{x:α}{Q:α->Prop}(h:Q x):W (some x) Q:=⟨x,rfl,h⟩
theorem AP{α β:Type}{m:Option α}{k:α->Option β}{Q:β->Prop}(w:W m λx=>W (k x) Q):W (m.bind k) Q:=by obtain⟨r,e,q⟩:=w;rw[e];exact q
theorem Bd{α:Type}{b:Bool}{x y:Option α}{Q:α->Prop}(h1:b=true->W x Q)(K:b=false->W y Q):W (A3 b x y) Q:=by cases b;exact K rfl;exact h1 rfl
theorem Bq{α:Type}{p:Prop}[Decidable p]{x y:Option α}{Q:α->Prop}(h1:p->W x Q)(K:¬p->W y Q):W (A3 (decide p) x y) Q:=by by_cases h:p<;>simp[h,h1,K]
theorem Dc{α:Type}{b:Bool}{x:Option α}{Q:α->Prop}(h1:b=true)(K:W x Q):W (Gv b x) Q:=by rw[h1];exact K
theorem W.loop{σ ρ:Type}{step:σ->Option (σ⊕ρ)}{s:σ}{Q:ρ->Prop}(inv:σ->Prop)(μ:σ->Nat)(C:inv s)
  (hs:∀s,inv s->W (step s) (λr=>match r with| .inl s'=>inv s'/\μ s'<μ s| .inr r=>Q r)):W (Abs.loop step s) Q:=by
 refine L1 inv μ Q (λs C=>?_) s C;obtain⟨r,e,q⟩:=hs s C;cases r with
 |inl s'=>exact .inl ⟨s',e,q⟩
 |inr r=>exact .inr ⟨r,e,q⟩
theorem W.eq{α:Type}{m:Option α}{x:α}(w:W m λr=>r=x):m=some x:=by obtain⟨r,e,q⟩:=w;rw[e,q]
def arr(k:IntKind)(l:List Int):List AA:=l.map (.int k ·)
@[simp] theorem Vl (k:IntKind) (l:List Int):(arr k l).length=l.length:=by simp[arr]
theorem Hq{a b:Nat}(h:a<=b):(⟨a,[]⟩:Gd).may b=true:=VB h (by simp)
theorem G4{k:Nat}(h:k<4611686018427387904):IntKind.i64.wrap ((k:Int)+1)=((k+1:Nat):Int):=by rw[Qs (by omega) (by omega)];omega
theorem KU(z:AA):∀n,CK [z] n=List.replicate n z
 |0=>rfl
 |n+1=>by rw[CK,KU z n];rfl
def Z6(l:List UInt8):List AA:=l.map λb=>.int .u8 b.toNat
@[simp] theorem WL (l:List UInt8):(Z6 l).length=l.length:=by simp[Z6]
theorem OG{α β:Type}{f:α->List β}{sz:Nat}(M:∀x,(f x).length=sz):∀(l:List α) (i:Nat) (x:α),l[i]?=some x->∀j,j<sz->(l.flatMap f)[i*sz+j]?=(f x)[j]?
 |[],i,x,h,_,_=>by simp at h
 |y::l,0,x,h,j,H=>by
  simp only[List.getElem?_cons_zero,qV]at h;subst h;rw[wj,List.getElem?_append_left (by rw[M];omega)];simp
 |y::l,i+1,x,h,j,H=>by
  rw[wj,List.getElem?_append_right (by rw[M,xr];omega),M];have e:(i+1)*sz+j - sz=i*sz+j:=by rw[xr];omega
  rw[e];exact OG M l i x (by simpa using h) j H
theorem P2{α β:Type}{f:α->List β}{sz:Nat}(M:∀x,(f x).length=sz){l:List α}{i:Nat}{x:α}(h:l[i]?=some x):((l.flatMap f).drop (i*sz)).take sz=f x:=by
 apply List.ext_getElem?;intro j;rw[List.getElem?_take];split
 ·rename_i H;rw[List.getElem?_drop];exact OG M l i x h j H
 ·rename_i H;rw[List.getElem?_eq_none (by rw[M];omega)]
theorem Hy{α β:Type}{f:α->List β}{sz:Nat}(M:∀x,(f x).length=sz):∀l:List α,(l.flatMap f).length=l.length*sz
 |[]=>by simp
 |y::l=>by rw[wj,wd,M,Hy M l,xx,xr];omega
theorem View.aT{P:Program}{S:Nat->Prop}{h:AB}{sz:Nat}{s:Sl}{cs:List AA}(v:View P S h sz s cs){i:Nat}(C:i<s.n):
  ∃a,H0 s sz (i:Int)=some a/\(∀j,j<sz->∀w,cs[i*sz+j]?=some w->Jy h (a.1,a.2+j)=some w)/\Gp h (a.1,a.2) sz=some ((cs.drop (i*sz)).take sz):=by
 obtain⟨id,o,gr,stt,all,h1,_,K,Z,V,h5,Y⟩:=v.ix C;refine⟨_,h1,λj H w hw=>NZ K Z ?_,?_⟩
 ·rw[V j H];exact hw
 ·rw[Jr K Z (by omega)];rw[Y]
theorem SQ{h:AB}{g:Gd}{z cs:List AA}{n:Nat}(hm:g.may h.size=true)(D:z.length=n)(hc:cs.length=n)(h1:cs.all AA.one=true):
  ∃h',SA n g (h.push (.cells none 2 z)) (h.size,0) cs=some h'/\h'.get h.size=some (.cells none 2 cs)/\DV none h h'/\h'.size=h.size+1:=by
 refine⟨_,WD (AB.A8 _ _) hm hc (by omega) h1,?_,⟨by simp,λid C _=>?_⟩,rfl⟩
 ·rw[AB.B0 _ _ (by simp),Nf (by omega)]
 ·rw[AB.Bw _ _ (by simp) (by omega),AB.Bp _ _ C]
end Go.Abs
end
/-
 A part.
-/
section
namespace Go.Av
def Xq:AA->Option Abs.AA
 | .int k n=>some (.int k n)
 | .str s=>some (.str s)
 |_=>none
def Ux:List AA->Option (List Abs.AA)
 |[]=>some []
 |x::l=>(Xq x).bind λy=>(Ux l).map λys=>y::ys
def hE(cs:List Abs.AA):Abs.AB:=(⟨0,.leaf⟩:Abs.AB).push (.cells none 1 cs)
def QA(cs:List Abs.AA)(n:Nat)(r a:Int)(s:List UInt8)(i:Int)(bs:List Bool):Prop:=
 ∃h' id,Abs.CW Abs.L.cfg ⟨1,[]⟩ (hE cs) 38 [.agg [.slice (some (0,0)) n,.int .i64 r],.int .i64 a,.str s,.int .i64 i] (.slice (some (id,0)) bs.length) h'/\
  h'.get id=some (.cells (some 4) 2 (bs.map Abs.AA.bool))/\bs≠[]
open Classical in
noncomputable def Je(cs:List AA)(n:Nat)(r a:Int)(s:List UInt8)(i:Int):Option (List Bool):=
 match Ux cs with
 |some cs'=>if h:cs'≠[]/\∃bs,QA cs' n r a s i bs then some h.2.choose else none
 |none=>none
def P7:AA->Option Nat
 | .slice _ n=>some n
 | .Gi n _=>some n
 |_=>none
noncomputable def Rz(h:AB):List AA->Option (AA×AB)
 | [.agg [x,.int .i64 r],.int .i64 a,.str s,.int .i64 i]=>
  match P7 x with
  |some n=>
   match Bv h 7 n x with
   |some cs=>(Je cs n r a s i).map λbs=>(.Gi bs.length (bs.map AA.bool),h)
   |none=>none
  |none=>none
 |_=>none
end Go.Av
end
/-
 A part.
-/
section
namespace Go.Av
open Go.RowKit
theorem F9{α:Type}(i j:Nat)(a b:α):(bif Nat.beq i j then a else b)=if i=j then a else b:=by
 by_cases h:i=j
 ·subst h;simp[yX]
 ·have:Nat.beq i j=false:=by
   cases e:Nat.beq i j
   ·rfl
   ·exact absurd (zD e) h
  simp[this,h]
theorem Tr.Fv{α:Type}(l r:Tr α)(v:Option α)(j:Nat):(Tr.node l v r).get j=if j=0 then v else if j%2=1 then l.get (j / 2)else r.get (j / 2 - 1):=by
 simp only[Tr.get,F9]
theorem Tr.Nb{α:Type}(f:Nat)(l r:Tr α)(v:Option α)(i:Nat)(x:α):Tr.set (f+1) (.node l v r) i x=
  if i=0 then .node l (some x) r else if i%2=1 then .node (Tr.set f l (i / 2) x) v r else .node l v (Tr.set f r (i / 2 - 1) x):=by
 simp only[Tr.set,F9]
theorem Tr.Ni{α:Type}(f:Nat)(i:Nat)(x:α):Tr.set (f+1) .leaf i x=Tr.set (f+1) (.node .leaf none .leaf) i x:=by
 simp only[Tr.set]
theorem Tr.FN{α:Type}:∀(f:Nat) (t:Tr α) (i j:Nat) (x:α),i<f->(Tr.set f t i x).get j=if j=i then some x else t.get j
 |0,_,_,_,_,h=>absurd h (by omega)
 | f + 1,t,i,j,x,h=>by
  have ih:=λt i j=>Tr.FN f t i j x;have key:∀l v r,(Tr.set (f+1) (.node l v r) i x).get j=if j=i then some x else(Tr.node l v r).get j:=by
   intro l v r;rw[Tr.Nb,Tr.Fv];by_cases C:i=0
   ·subst C;rw[zk rfl,Tr.Fv];by_cases H:j=0
    ·rw[zk H,zk H]
    ·simp only[zh H]
   ·rw [zh C];by_cases h1:i%2=1
    ·rw[zk h1,Tr.Fv];by_cases H:j=0
     ·rw[zk H,zk H,zh (by omega)]
     ·rw[zh H,zh H];by_cases K:j%2=1
      ·rw[zk K,zk K,ih _ _ _ (by omega)];by_cases O:j=i
       ·rw[zk O,zk (by omega)]
       ·rw[zh O,zh (by omega)]
      ·rw[zh K,zh K,zh (by omega)]
    ·rw[zh h1,Tr.Fv];by_cases H:j=0
     ·rw[zk H,zk H,zh (by omega)]
     ·rw[zh H,zh H];by_cases K:j%2=1
      ·rw[zk K,zk K,zh (by omega)]
      ·rw[zh K,zh K,ih _ _ _ (by omega)];by_cases O:j=i
       ·rw[zk O,zk (by omega)]
       ·rw[zh O,zh (by omega)]
  cases t with
  |node l v r=>exact key l v r
  |leaf=>
   rw[Tr.Ni,key];congr 1;rw[Tr.Fv];simp[Tr.get]
section
variable (h:AB)
@[simp] theorem AB.size_set (i:Nat) (o:Ay):(h.set i o).size=h.size:=rfl
@[simp] theorem AB.size_push (o:Ay):(h.push o).size=h.size+1:=rfl
theorem AB.FB{i:Nat}(C:h.size<=i):h.get i=none:=by
 have:Nat.blt i h.size=false:=by
  cases e:Nat.blt i h.size
  ·rfl
  ·rw[yc]at e;omega
 simp[AB.get,this]
theorem AB.Ar{i:Nat}{o:Ay}(C:h.get i=some o):i<h.size:=by
 rcases yo i h.size with I|I
 ·exact I
 ·rw[h.FB I]at C;cases C
theorem AB.get_eq{i:Nat}(C:i<h.size):h.get i=h.tr.get i:=by
 have:Nat.blt i h.size=true:=by rw[yc];exact C
 simp[AB.get,this]
theorem AB.FN(i j:Nat)(o:Ay)(C:i<h.size):(h.set i o).get j=if j=i then some o else h.get j:=by
 by_cases H:j<h.size
 ·rw[AB.get_eq _ (by simpa using H),AB.get_eq _ H];exact Tr.FN _ _ _ _ _ (by omega)
 ·rw[AB.FB _ (by simpa using Nat.le_of_not_lt H),AB.FB _ (Nat.le_of_not_lt H),zh (by omega)]
theorem AB.B0{i:Nat}(o:Ay)(C:i<h.size):(h.set i o).get i=some o:=by rw[h.FN _ _ _ C,zk rfl]
theorem AB.Bw{i j:Nat}(o:Ay)(C:i<h.size)(hne:j≠i):(h.set i o).get j=h.get j:=by rw[h.FN _ _ _ C,zh hne]
theorem AB.IQ(o:Ay)(j:Nat):(h.push o).get j=if j=h.size then some o else h.get j:=by
 by_cases H:j<h.size+1
 ·rw[AB.get_eq _ (by simpa using H)];show(Tr.set (h.size+1) h.tr h.size o).get j=_;rw[Tr.FN _ _ _ _ _ (by omega)];by_cases e:j=h.size
  ·simp[e]
  ·rw[zh e,zh e,AB.get_eq _ (by omega)]
 ·rw[AB.FB _ (by simp;omega),zh (by omega),AB.FB _ (by omega)]
theorem AB.A8(o:Ay):(h.push o).get h.size=some o:=by rw[h.IQ,zk rfl]
theorem AB.Bp(o:Ay){j:Nat}(H:j<h.size):(h.push o).get j=h.get j:=by rw[h.IQ,zh (by omega)]
end
theorem F5:∀(l:List AA) (i:Nat),nth l i=l.getD i (.tuple [])
 |[],i=>by simp[nth]
 |a::l,0=>by simp[nth]
 |a::l,i+1=>by simpa[nth]using F5 l i
theorem Ey(l:List AA)(i j:Nat)(v:AA):nth (l.set i v) j=if i=j/\i<l.length then v else nth l j:=by
 simp only[F5,zo,List.getElem?_set];by_cases h:i=j
 ·subst h;by_cases I:i<l.length<;>simp[I]
 ·simp[h]
@[simp] theorem M8 (fr:Fr) (d:Option Tmp) (v:AA):(put fr d v).length=fr.length:=by cases d<;>simp[put]
structure Gg where
 g:Nat
 base:Nat
 Lw:Nat
 total:Nat
structure Aj where
 i:Nat->Option Gg
 fz:Nat->Nat->Option Value
 df:Nat->Prop:=λ_=>False
instance:CoeFun Aj (λ_=>Nat->Option Gg):=⟨Aj.i⟩
inductive VR(m:Aj):AA->Value->Prop where
 |undef (v:Value):VR m .undef v
 |bool (b:Bool):VR m (.bool b) (.bool b)
 |int (k:IntKind) (n:Int):VR m (.int k n) (.int k n)
 |str (s:ByteArray):VR m (.str s.data.toList) (.string s)
 |GW:VR m (.ptr none) (.pointer none)
 |ptr (id o:Nat) (E:Gg):m id=some E->VR m (.ptr (some (id,o))) (.pointer (some ⟨E.g,E.base+o,none⟩))
 |EJ (g o:Nat):VR m (.EJ g o) (.pointer (some ⟨g,o,none⟩))
 |By:VR m (.slice none 0) (.slice none 0 0)
 |D5 (a:Addr):VR m (.slice none 0) (.slice (some a) 0 0)
 |slice (id o len cap:Nat) (E:Gg) (a:Addr):m id=some E->len<=cap->(cap≠0->a=⟨E.g,E.base+o,none⟩/\(E.Lw≠0->E.base+o+cap*E.Lw<=E.total))->VR m (.slice (some (id,o)) len) (.slice (some a) len cap)
 |GQ:VR m (.map none) (.map none)
 |map (id:Nat) (E:Gg):m id=some E->VR m (.map (some id)) (.map (some E.g))
 |FF:VR m (.chan none) (.chan none)
 |chan (id:Nat) (E:Gg):m id=some E->VR m (.chan (some id)) (.chan (some E.g))
 |func (fn:Fn) (a b:List AA) (c d:Array Value):a.length=c.size->(∀(i:Nat) (x:AA) (y:Value),a[i]?=some x->c[i]?=some y->VR m x y)->b.length=d.size->(∀(i:Nat) (x:AA) (y:Value),b[i]?=some x->d[i]?=some y->VR m x y)->VR m (.func fn a b) (.func fn c d)
 |nilFunc:VR m .nilFunc .nilFunc
 |iface (t:TypeId) (x:AA) (y:Value):VR m x y->VR m (.iface t x) (.iface t y)
 |nilIface:VR m .nilIface .nilIface
 |agg (a:List AA) (c:Array Value):a.length=c.size->(∀(i:Nat) (x:AA) (y:Value),a[i]?=some x->c[i]?=some y->VR m x y)->VR m (.agg a) (.agg c)
 |tuple (a:List AA) (c:Array Value):a.length=c.size->(∀(i:Nat) (x:AA) (y:Value),a[i]?=some x->c[i]?=some y->VR m x y)->VR m (.tuple a) (.tuple c)
 |SD (l:Nat) (E:Gg):m l=some E->VR m (.SD l) (.func (.yield E.g) #[] #[])
 |Ic (a:Option Addr) (cap:Nat):VR m (.Gi 0 []) (.slice a 0 cap)
 |Gi (n cap g o:Nat) (a:List AA) (c:Nat->Value):n<=cap->(∀i,i<a.length->m.fz g (o+i)=some (c i))->(∀(i:Nat) (x:AA),a[i]?=some x->VR m x (c i))->VR m (.Gi n a) (.slice (some ⟨g,o,none⟩) n cap)
 |Bu (g o:Nat) (a:List AA) (c:Nat->Value):(∀i,i<a.length->m.fz g (o+i)=some (c i))->(∀(i:Nat) (x:AA),a[i]?=some x->VR m x (c i))->VR m (.Bu a) (.pointer (some ⟨g,o,none⟩))
def BT(m:Aj)(a:List AA)(c:List Value):Prop:=a.length=c.length/\∀(i:Nat) (x:AA) (y:Value),a[i]?=some x->c[i]?=some y->VR m x y
structure Aj.le(m m':Aj):Prop where
 i:∀id E,m id=some E->m' id=some E
 fz:∀g o v,m.fz g o=some v->m'.fz g o=some v
theorem VR.mono{m m':Aj}(hm:m.le m'){x:AA}{y:Value}(h:VR m x y):VR m' x y:=by
 induction h with
 |undef v=>exact .undef v
 |bool b=>exact .bool b
 |int k n=>exact .int k n
 |str s=>exact .str s
 |GW=>exact .GW
 |ptr id o E h=>exact .ptr id o E (hm.i _ _ h)
 |EJ g o=>exact .EJ g o
 |By=>exact .By
 |D5 a=>exact .D5 a
 |slice id o len cap E a h I hc=>exact .slice id o len cap E a (hm.i _ _ h) I hc
 |GQ=>exact .GQ
 |map id E h=>exact .map id E (hm.i _ _ h)
 |FF=>exact .FF
 |chan id E h=>exact .chan id E (hm.i _ _ h)
 |func fn a b c d h1 _ K _ i1 i2=>exact .func fn a b c d h1 i1 K i2
 |nilFunc=>exact .nilFunc
 |iface t x y _ ih=>exact .iface t x y ih
 |nilIface=>exact .nilIface
 |agg a c h _ ih=>exact .agg a c h ih
 |tuple a c h _ ih=>exact .tuple a c h ih
 |SD l E h=>exact .SD l E (hm.i _ _ h)
 |Ic a cap=>exact .Ic a cap
 |Gi n cap g o a c hc M _ ih=>exact .Gi n cap g o a c hc (λi C=>hm.fz _ _ _ (M i C)) ih
 |Bu g o a c M _ ih=>exact .Bu g o a c (λi C=>hm.fz _ _ _ (M i C)) ih
def Aj.with(m m':Aj):Aj:=⟨m.i,m'.fz,m'.df⟩
theorem VR.back{m m':Aj}(hm:m.le m'){x:AA}{y:Value}(h:VR m x y):∀{z:Value},VR m' x z->VR (m.with m') x z:=by
 induction h with
 |undef v=>intro z _;exact .undef z
 |bool b=>intro z D;cases D;exact .bool b
 |int k n=>intro z D;cases D;exact .int k n
 |str s=>intro z D;generalize hs:s.data.toList=l at D;cases D;exact .str _
 |GW=>intro z D;cases D;exact .GW
 | ptr id o E h=>
  intro z D;cases D with
  |ptr _ _ E' h'=>
   have:=(hm.i _ _ h).symm.trans h';injection this with this;subst this;exact .ptr id o _ h
 |EJ g o=>intro z D;cases D;exact .EJ g o
 |By=>intro z D;cases D<;>first|exact .By|exact .D5 _
 |D5 a=>intro z D;cases D<;>first|exact .By|exact .D5 _
 | slice id o len cap E a h I hc=>
  intro z D;cases D with
  |slice _ _ _ cap' E' a' h' hl' U=>
   have:=(hm.i _ _ h).symm.trans h';injection this with this;subst this;exact .slice id o len cap' _ a' h hl' U
 |GQ=>intro z D;cases D;exact .GQ
 | map id E h=>
  intro z D;cases D with
  |map _ E' h'=>
   have:=(hm.i _ _ h).symm.trans h';injection this with this;subst this;exact .map id _ h
 |FF=>intro z D;cases D;exact .FF
 | chan id E h=>
  intro z D;cases D with
  |chan _ E' h'=>
   have:=(hm.i _ _ h).symm.trans h';injection this with this;subst this;exact .chan id _ h
 | func fn a b c d h1 k1 K k2 i1 i2=>
  intro z D;cases D with
  | func _ _ _ c' d' h1' k1' h2' k2'=>
   refine .func fn a b c' d' h1' (λi x y B G=>?_) h2' (λi x y B G=>?_)
   ·have C:i<c.size:=by have:=(List.getElem?_eq_some_iff.1 B).1;omega
    exact i1 i x _ B (Array.getElem?_eq_getElem C) (k1' i x y B G)
   ·have C:i<d.size:=by have:=(List.getElem?_eq_some_iff.1 B).1;omega
    exact i2 i x _ B (Array.getElem?_eq_getElem C) (k2' i x y B G)
 |nilFunc=>intro z D;cases D;exact .nilFunc
 |iface t x y _ ih=>intro z D;cases D with|iface _ _ y' h'=>exact .iface t x y' (ih h')
 |nilIface=>intro z D;cases D;exact .nilIface
 | agg a c h k ih=>
  intro z D;cases D with
  |agg _ c' h' k'=>
   refine .agg a c' h' (λi x y B G=>?_);have C:i<c.size:=by have:=(List.getElem?_eq_some_iff.1 B).1;omega
   exact ih i x _ B (Array.getElem?_eq_getElem C) (k' i x y B G)
 | tuple a c h k ih=>
  intro z D;cases D with
  |tuple _ c' h' k'=>
   refine .tuple a c' h' (λi x y B G=>?_);have C:i<c.size:=by have:=(List.getElem?_eq_some_iff.1 B).1;omega
   exact ih i x _ B (Array.getElem?_eq_getElem C) (k' i x y B G)
 | SD l E h=>
  intro z D;cases D with
  |SD _ E' h'=>
   have:=(hm.i _ _ h).symm.trans h';injection this with this;subst this;exact .SD l _ h
 |Ic a cap=>intro z D;cases D with
  |Ic a' cap'=>exact .Ic a' cap'
  |Gi _ cap' g o _ c hc M F=>exact .Gi 0 cap' g o [] c hc (λi C=>by simp at C) (λi x B=>by simp at B)
 |Gi n cap g o a c hc M F ih=>intro z D;cases D with
  |Ic a' cap'=>exact .Ic a' cap'
  |Gi _ cap' g' o' _ c' U T R=>exact .Gi n cap' g' o' a c' U T (λi x B=>ih i x B (R i x B))
 |Bu g o a c M F ih=>intro z D;cases D with
  |Bu g' o' _ c' T R=>exact .Bu g' o' a c' T (λi x B=>ih i x B (R i x B))
theorem BT.mono{m m':Aj}(hm:m.le m'){a:List AA}{c:List Value}(h:BT m a c):BT m' a c:=⟨h.1,λi x y B G=>(h.2 i x y B G).mono hm⟩
theorem BT.nil(m:Aj):BT m [] []:=⟨rfl,λi x y h=>by simp at h⟩
theorem BT.cons{m:Aj}{x:AA}{y:Value}{a:List AA}{c:List Value}(h:VR m x y)(k:BT m a c):BT m (x::a) (y::c):=by
 refine⟨by simp[k.1],λi u v hu F=>?_⟩;cases i with
 |zero=>simp at hu F;subst hu;subst F;exact h
 |succ i=>exact k.2 i u v (by simpa using hu) (by simpa using F)
theorem BT.app{m:Aj}{a b:List AA}{c d:List Value}(h:BT m a c)(k:BT m b d):BT m (a++b) (c++d):=by
 refine⟨by simp[h.1,k.1],λi x y B G=>?_⟩;by_cases C:i<a.length
 ·rw[List.getElem?_append_left C]at B;rw[List.getElem?_append_left (by rw[<-h.1];exact C)]at G;exact h.2 i x y B G
 ·rw[List.getElem?_append_right (by omega)]at B;rw[List.getElem?_append_right (by rw[<-h.1];omega),<-h.1]at G;exact k.2 _ x y B G
theorem BT.take{m:Aj}{a:List AA}{c:List Value}(h:BT m a c)(n:Nat):BT m (a.take n) (c.take n):=by
 refine⟨by simp[h.1],λi x y B G=>?_⟩;rw[List.getElem?_take]at B G;split at B
 ·rename_i C;rw[zk C]at G;exact h.2 i x y B G
 ·cases B
theorem BT.drop{m:Aj}{a:List AA}{c:List Value}(h:BT m a c)(n:Nat):BT m (a.drop n) (c.drop n):=by
 refine⟨by simp[h.1],λi x y B G=>?_⟩;rw[List.getElem?_drop]at B G;exact h.2 _ x y B G
theorem BT.map{m:Aj}{α:Type}(f:α->AA)(g:α->Value):∀(l:List α),(∀x∈l,VR m (f x) (g x))->BT m (l.map f) (l.map g)
 |[],_=>.nil m
 |x::l,h=>.cons (h x (by simp)) (BT.map f g l λy G=>h y (by simp[G]))
theorem BT.CN{m:Aj}{a b:List AA}{c d:List Value}(h:BT m a c)(k:BT m b d)(o:Nat):BT m (CN a o b) (c.take o++(d++c.drop (o+d.length))):=by
 unfold Av.CN;rw[k.1];exact(h.take o).app (k.app (h.drop _))
theorem BT.at_{m:Aj}{a:List AA}{c:List Value}(h:BT m a c){i:Nat}{x:AA}(B:a[i]?=some x):∃y,c[i]?=some y/\VR m x y:=by
 have C:i<c.length:=by rw[<-h.1];exact(List.getElem?_eq_some_iff.1 B).1
 exact⟨_,List.getElem?_eq_getElem C,h.2 i x _ B (List.getElem?_eq_getElem C)⟩
theorem BT.NK{m:Aj}{a:List AA}{c:Array Value}(h:VR m (.agg a) (.agg c)):BT m a c.toList:=by
 cases h with
 |agg _ _ I F=>exact⟨by simpa using I,λi x y B G=>F i x y B (by simpa using G)⟩
theorem BT.agg{m:Aj}{a:List AA}{c:Array Value}(h:BT m a c.toList):VR m (.agg a) (.agg c):=
 .agg a c (by simpa using h.1) λi x y B G=>h.2 i x y B (by simpa using G)
theorem BT.tuple{m:Aj}{a:List AA}{c:Array Value}(h:BT m a c.toList):VR m (.tuple a) (.tuple c):=
 .tuple a c (by simpa using h.1) λi x y B G=>h.2 i x y B (by simpa using G)
theorem BT.M4{m:Aj}{a:List AA}{c:Array Value}(h:VR m (.tuple a) (.tuple c)):BT m a c.toList:=by
 cases h with
 |tuple _ _ I F=>exact⟨by simpa using I,λi x y B G=>F i x y B (by simpa using G)⟩
theorem VR.G8{m:Aj}{a:List AA}{v:Value}(h:VR m (.tuple a) v):∃c,v=.tuple c/\BT m a c.toList:=by
 cases h with
 |tuple _ c I F=>exact⟨c,rfl,BT.M4 (.tuple a c I F)⟩
theorem VR.Cn{m:Aj}{a:List AA}{v:Value}(h:VR m (.agg a) v):∃c,v=.agg c/\BT m a c.toList:=by
 cases h with
 |agg _ c I F=>exact⟨c,rfl,BT.NK (.agg a c I F)⟩
theorem VR.CF{m:Aj}{s:List UInt8}{v:Value}(h:VR m (.str s) v):v=.string ⟨⟨s⟩⟩:=by
 generalize B:AA.str s=x at h;cases h with
 |str b=>injection B with B;subst B;rfl
 |_=>cases B
theorem VR.HI(m:Aj)(v:Value):VR m (HI v) v:=by
 unfold Av.HI;split
 ·exact .bool _
 ·exact .int _ _
 ·exact .str _
 ·exact .GW
 ·exact .By
 ·exact .GQ
 ·exact .FF
 ·exact .nilFunc
 ·exact .nilIface
 ·exact .undef _
theorem BT.HI(m:Aj)(l:List Value):BT m (l.map Av.HI) l:=by
 have:=BT.map (m:=m) Av.HI id l (λx _=>VR.HI m x);simpa using this
theorem VR.NC(m:Aj)(v:Value):VR m (NC v) v:=by
 unfold Av.NC;split
 ·exact BT.agg (BT.HI m _)
 ·exact BT.tuple (BT.HI m _)
 ·exact VR.HI m _
theorem VR.Kc{m:Aj}{g o:Nat}{a:List AA}{c:Nat->Value}(M:∀i,i<a.length->m.fz g (o+i)=some (c i))(F:∀(i:Nat) (x:AA),a[i]?=some x->VR m x (c i))(k:Nat):VR m (.Bu (a.drop k)) (.pointer (some ⟨g,o+k,none⟩)):=
 .Bu g (o+k) _ (λi=>c (k+i)) (λi C=>by rw[yT]at C;rw[yq];exact M _ (by omega)) (λi x B=>F _ x (by rw[List.getElem?_drop]at B;exact B))
theorem VR.ON{m:Aj}{a:List AA}{v:Value}(h:VR m (.Bu a) v)(k:Nat):VR m (.Bu (a.take k)) v:=by
 cases h with
 |Bu g o _ c M F=>exact .Bu g o _ c (λi C=>M i (by rw[yG]at C;omega)) (λi x B=>F i x (by rw[List.getElem?_take]at B;split at B;exact B;cases B))
theorem VR.cells{m:Aj}{x:AA}{v:Value}(h:VR m x v){cs:List AA}(hc:x.cells?=some cs):BT m cs v.cells.toList:=by
 cases h<;>simp[AA.cells?]at hc
 case agg a c I F=>subst hc;exact BT.NK (.agg _ c I F)
 all_goals
  subst hc;refine .cons ?_ (.nil m)
  first
   |exact .bool _|exact .int _ _|exact .str _|exact .GW|exact .EJ _ _|exact .By|exact .GQ|exact .FF|exact .nilFunc|exact .nilIface
   |(constructor<;>assumption)
theorem VR.one{m:Aj}{x:AA}{v:Value}(h:VR m x v)(h1:x.one=true):v.oneCell'=true:=by
 cases h<;>first|rfl|simp[AA.one]at h1
end Go.Av
end
