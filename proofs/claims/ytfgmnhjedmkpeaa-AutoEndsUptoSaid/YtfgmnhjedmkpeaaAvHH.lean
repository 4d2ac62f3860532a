/-
  Several texts in one.
-/
import Derived.Test.YtfgmnhjedmkpeaaAvWalk
set_option linter.unusedSimpArgs false
/-
 A part.
-/
section
namespace Go.Av
set_option linter.unusedSimpArgs false
def Mq(l:List (Nat×List AA))(g:Nat):Option (List AA):=
 match l with
 |[]=>none
 |(i,cs)::r=>bif Nat.beq i g then some cs else Mq r g
def KT(l:List (Nat×AA))(d:Nat):Option AA:=
 match l with
 |[]=>none
 |(i,v)::r=>bif Nat.beq i d then some v else KT r d
def Mf(l:List (Nat×AA))(d:Nat)(w:AA):List (Nat×AA):=
 match l with
 |[]=>[]
 |(i,v)::r=>bif Nat.beq i d then(i,w)::r else(i,v)::Mf r d w
theorem H3{v:AA}{d:Nat}:∀{l:List (Nat×AA)},KT l d=some v->(d,v)∈l
 |[],h=>by cases h
 |(i,u)::r,h=>by
  unfold KT at h;rw[F9]at h;by_cases e:i=d
  ·rw[zk e]at h;injection h with h;rw[h,e];simp
  ·rw[zh e]at h;exact ym _ (H3 h)
theorem J8{w:AA}{d:Nat}:∀{l:List (Nat×AA)} {p:Nat×AA},p∈Mf l d w->p∈l\/p=(d,w)
 |[],p,h=>by cases h
 | (i,u)::r,p,h=>by
  unfold Mf at h;rw[F9]at h;by_cases e:i=d
  ·rw[zk e]at h;rcases zP.1 h with h|h
   ·right;rw[h,e]
   ·left;exact ym _ h
  ·rw[zh e]at h;rcases zP.1 h with h|h
   ·left;rw[h];simp
   ·rcases J8 h with h|h
    ·left;exact ym _ h
    ·right;exact h
theorem Has.DR{fr:Fr}{N:Nat}{l:List (Nat×AA)}(H:Has fr N l)(d:Nat){b w:Bool}(V:b=w)(X:KT l d=some (.bool b)):Has fr N (Mf l d (.bool w)):=by
 subst V;refine⟨H.1,λp T=>?_⟩;rcases J8 T with h|h
 ·exact H.2 p h
 ·rw[h];exact H.2 _ (H3 X)
inductive Oj(P:Program)(fr:Fr)(h:AB):List ResultVar->List AA->Prop where
 |nil:Oj P fr h [] []
 |tmp {t:Tmp} {v:AA} {rs:List ResultVar} {vs:List AA} (e:nth fr t=v) (r:Oj P fr h rs vs):Oj P fr h (.tmp t::rs) (v::vs)
 |cell {a:Tmp} {t:TypeId} {p:Nat×Nat} {v:AA} {rs:List ResultVar} {vs:List AA} (e:nth fr a=.ptr (some p)) (K:DT P (h.get p.1) t p.2=some v) (r:Oj P fr h rs vs):Oj P fr h (.cell a t::rs) (v::vs)
theorem Oj.mapM{P:Program}{fr:Fr}{h:AB}{rs:List ResultVar}{vs:List AA}(r:Oj P fr h rs vs):rs.mapM (Dj P fr h)=some vs:=by
 induction r with
 |nil=>rfl
 |tmp e _ ih=>rw[qj,ih];simp[Dj,e]
 |cell e K _ ih=>rw[qj,ih];simp[Dj,e,K]
theorem Tg{P:Program}{fr:Fr}{h:AB}{rs:List ResultVar}{v:AA}(r:Oj P fr h rs [v]):IZ P rs fr h=some v:=by
 unfold IZ;rw[r.mapM]
theorem H4{P:Program}{fr:Fr}{h:AB}{rs:List ResultVar}{v w:AA}{vs:List AA}(r:Oj P fr h rs (v::w::vs)):IZ P rs fr h=some (.tuple (v::w::vs)):=by
 unfold IZ;rw[r.mapM]
theorem IS{P:Program}{h:AB}{t:TypeId}{a:Nat×Nat}{n:Nat}{cs:List AA}(ha:Er P t=some true)(I:BK P t=some n)(K:Gp h a n=some cs):DT P (h.get a.1) t a.2=some (.agg cs):=by
 unfold DT;rw[ha,I];unfold Gp at K;simp[K]
section
variable {C:Eu} {S:Self} {g:Gd} {h:AB} {fr:Fr} {op:Op}
def aM(P:Program)(fr:Fr):Op->Option (List AA×Nat×Nat×Int×Bool)
 | .index t x i=>
  match P.underlying t,ev fr x,ev fr i with
  |some (.array n e),.agg cs,.int _ i=>
   match Er P e,BK P e with
   |some b,some z=>some (cs,n,z,i,b)
   |_,_=>none
  |_,_,_=>none
 |_=>none
def Va(P:Program)(t:TypeId)(xs ys:List AA):Option Bool:=if P.eqGuardType P.depth t=true then none else GZ P 10000 t (.agg xs) (.agg ys)
def VU(fr:Fr):Op->Option (Bool×TypeId×List AA×List AA)
 | .binOp op t x y _=>
  match ev fr x,ev fr y,op with
  | .agg xs,.agg ys,.eql=>some (true,t,xs,ys)
  | .agg xs,.agg ys,.neq=>some (false,t,xs,ys)
  |_,_,_=>none
 |_=>none
theorem X8{t:TypeId}{xs ys:List AA}{b:Bool}(M:VU fr op=some (false,t,xs,ys))(K:Va C.P t xs ys=some b):Ap C S g h fr op=some (.bool !b,h):=by
 unfold VU at M;split at M
 ·split at M
  ·simp at M
  ·rename_i U hy;simp only[za,zb,yZ]at M;obtain⟨rfl,rfl,rfl⟩:=M;unfold Va at K;split at K
   ·cases K
   ·rename_i Q;simp[Ap,Fp,AX,FA,Nq,L6,U,hy,Q,K]
  ·cases M
 ·cases M
end
@[irreducible] def Iv:Nat:=4611686018427387904
theorem OX:Iv=4611686018427387904:=by unfold Iv;rfl
def cap{α β:Type}(asE9:AA->Option α)(rest:List AA->Option β):List AA->Option (α×β)
 |v::l=>(asE9 v).bind λx=>(rest l).map λy=>(x,y)
 |[]=>none
end Go.Av
end
/-
 A part.
-/
section
namespace Go.Av
set_option linter.unusedVariables false
inductive Ck where
 |obj (id:Nat) (o:Ay)
 |Ag (r:Option Nat) (e:TypeId) (cs:List AA)
def Ck.ids:Ck->List Nat
 | .obj id _=>[id]
 | .Ag r _ _=>r.toList
def Ck.ok(h:AB):Ck->Prop
 | .obj id o=>h.get id=some o
 | .Ag none _ cs=>cs=[]
 | .Ag (some id) e cs=>h.get id=some (.cells (some e) 2 cs)
def DZ(L:List Ck):List Nat:=L.flatMap Ck.ids
theorem Cv(A B:List Ck):DZ (A++B)=DZ A++DZ B:=by simp[DZ]
theorem Ck.N5(c:Ck):c.ids.Nodup:=by
 cases c with
 |obj id o=>simp[Ck.ids]
 |Ag r e cs=>cases r<;>simp[Ck.ids]
theorem Ck.Xk{h:AB}{c:Ck}(k:c.ok h){i:Nat}(E:i∈c.ids):i<h.size:=by
 cases c with
 |obj id o=>simp[Ck.ids]at E;subst E;exact h.Ar k
 |Ag r e cs=>
  cases r with
  |none=>simp[Ck.ids]at E
  |some id=>simp[Ck.ids]at E;subst E;exact h.Ar k
theorem Ck.UA{h h':AB}{c:Ck}(k:c.ok h)(M:∀i∈c.ids,h'.get i=h.get i):c.ok h':=by
 cases c with
 |obj id o=>show h'.get id=_;rw[M id (by simp[Ck.ids])];exact k
 |Ag r e cs=>
  cases r with
  |none=>exact k
  |some id=>show h'.get id=_;rw[M id (by simp[Ck.ids])];exact k
structure HH(g:Gd)(h:AB)(L F:List Ck):Prop where
 ok:∀c∈L++F,c.ok h
 nd:(DZ (L++F)).Nodup
 may:∀i∈DZ L,g.may i=true
 B4:∀i∈g.B4,i<h.size
 floor:g.floor<=h.size
section
variable {g:Gd} {h h':AB} {L F A B C D:List Ck}
theorem HH.lt(a:HH g h L F){i:Nat}(E:i∈DZ (L++F)):i<h.size:=by
 simp only[DZ,yb]at E;obtain⟨c,hc,E⟩:=E;exact Ck.Xk (a.ok c hc) E
theorem HH.new(a:HH g h L F):g.may h.size=true:=by
 have h1:Nat.ble g.floor h.size=true:=Nat.ble_eq_true_of_le a.floor;have h2:g.B4.any (Nat.beq h.size)=false:=by
  rw[List.any_eq_false];intro i E V;have:=a.B4 i E;have:=zD V;omega
 simp[Gd.may,h1,h2]
theorem HH.upd(a:HH g h (A++(C++B)) F)(M:h.size<=h'.size)(J:∀i∈DZ (A++B++F),h'.get i=h.get i)(O:∀c∈D,c.ok h')(I:(DZ D).Nodup)
  (Z:∀i∈DZ D,i∉DZ (A++B++F)) (hm:∀i∈DZ D,g.may i=true):HH g h' (A++(D++B)) F:=by
 have nd':(DZ A++(DZ C++DZ B)++DZ F).Nodup:=by have:=a.nd;simpa only[Cv]using this
 refine⟨λc hc=>?_,?_,λi E=>?_,λi E=>zQ (a.B4 i E) M,zM a.floor M⟩
 ·have old:c∈A\/c∈B\/c∈F->c.ok h':=λhc=>by
   have hc1:c∈A++(C++B)++F:=by simp only[zm];rcases hc with h|h|h<;>simp[h]
   refine Ck.UA (a.ok c hc1) λi E=>J i ?_;simp only[DZ,yb];exact⟨c,by simp only[zm];rcases hc with h|h|h<;>simp[h],E⟩
  simp only[zm]at hc;rcases hc with(hc|hc|hc)|hc
  ·exact old (.inl hc)
  ·exact O c hc
  ·exact old (.inr (.inl hc))
  ·exact old (.inr (.inr hc))
 ·have T:(DZ (A++(D++B)++F)).Perm (DZ D++DZ (A++B++F)):=by
   simp only[Cv,zU];refine(yY _ _ _)
  rw[T.nodup_iff,yd];refine⟨I,?_,λi E j hj e=>Z i E (e ▸ hj)⟩;have W:(DZ (A++(C++B)++F)).Perm (DZ C++DZ (A++B++F)):=by
   simp only[Cv,zU];exact(yY _ _ _)
  exact(yd.1 (W.nodup_iff.1 a.nd)).2.1
 ·simp only[Cv,zm]at E;rcases E with E|E|E
  ·exact a.may i (by simp only[Cv,zm];exact .inl E)
  ·exact hm i E
  ·exact a.may i (by simp only[Cv,zm];exact .inr (.inr E))
theorem HH.perm(a:HH g h L F)(T:A.Perm L):HH g h A F:=by
 have W:(A++F).Perm (L++F):=T.append_right F;refine⟨λc hc=>a.ok c (W.mem_iff.1 hc),?_,λi E=>a.may i ?_,a.B4,a.floor⟩
 ·exact((W.flatMap_right Ck.ids).nodup_iff).2 a.nd
 ·exact((T.flatMap_right Ck.ids).mem_iff).1 E
theorem Gn{k:Nat}{c:Ck}(G:L[k]?=some c):L=L.take k++([c]++L.drop (k+1)):=by
 obtain⟨K,e⟩:=List.getElem?_eq_some_iff.1 G;rw[yR,<-e,<-zS K,zG]
theorem JM{k:Nat}{c d:Ck}(G:L[k]?=some c):L.set k d=L.take k++([d]++L.drop (k+1)):=by
 have K:=(List.getElem?_eq_some_iff.1 G).1;rw[yn,zk K,yR]
theorem HH.mem(a:HH g h L F){k:Nat}{c:Ck}(G:L[k]?=some c):c.ok h:=a.ok c (zm.2 (.inl (zI G)))
theorem HH.get(a:HH g h L F)(k:Nat){id:Nat}{o:Ay}(G:L[k]?=some (.obj id o)):h.get id=some o:=a.mem G
theorem HH.PZ(a:HH g h L F){k:Nat}{c:Ck}(G:L[k]?=some c){i:Nat}(E:i∈c.ids):g.may i=true:=
 a.may i (by simp only[DZ,yb];exact⟨c,zI G,E⟩)
theorem HH.VL(a:HH g h L F){k:Nat}{c:Ck}(G:L[k]?=some c){i:Nat}(E:i∈c.ids):i∉DZ (L.take k++L.drop (k+1)++F):=by
 have W:(DZ (L++F)).Perm (c.ids++DZ (L.take k++L.drop (k+1)++F)):=by
  conv=>lhs;rw[Gn G]
  simp only[Cv,zU];have:DZ [c]=c.ids:=by simp[DZ]
  rw[this];exact(yY _ _ _)
 exact λhm=>(yd.1 (W.nodup_iff.1 a.nd)).2.2 i E i hm rfl
theorem HH.Pj(a:HH g h L F){k:Nat}{c d:Ck}(G:L[k]?=some c)(M:h.size<=h'.size)(J:∀i,i<h.size->i∉c.ids->h'.get i=h.get i)(O:d.ok h')
  (Z:∀i∈d.ids,i∈c.ids\/h.size<=i) (hm:∀i∈d.ids,g.may i=true):HH g h' (L.set k d) F:=by
 rw[JM G];have a':=a;rw[Gn G]at a';refine a'.upd M (λi E=>?_) (λx U=>by rw[zw.1 U];exact O) (by simpa[DZ]using d.N5) (λi E I=>?_) (λi E=>hm i (by simpa[DZ]using E))
 ·refine J i (a.lt ?_) (λhc=>a.VL G hc E);rw[Gn G];simp only[Cv,zm]at E⊢;rcases E with(E|E)|E
  ·exact .inl (.inl E)
  ·exact .inl (.inr (.inr E))
  ·exact .inr E
 ·rcases Z i (by simpa[DZ]using E)with h1|h1
  ·exact a.VL G h1 I
  ·have:i<h.size:=a.lt (by
    rw[Gn G];simp only[Cv,zm]at I⊢;rcases I with(I|I)|I
    ·exact .inl (.inl I)
    ·exact .inl (.inr (.inr I))
    ·exact .inr I)
   omega
theorem HH.set(a:HH g h L F)(k:Nat){id:Nat}{o:Ay}(o':Ay)(G:L[k]?=some (.obj id o)):HH g (h.set id o') (L.set k (.obj id o')) F:=by
 have Q:=a.get k G;have hid:=h.Ar Q;refine a.Pj G (by simp) (λi _ E=>h.Bw _ hid (by simpa[Ck.ids]using E)) (h.B0 _ hid) (λi E=>.inl E) (λi E=>a.PZ G E)
theorem HH.add(a:HH g h L F){c:Ck}(M:h.size<=h'.size)(J:∀i,i<h.size->h'.get i=h.get i)(O:c.ok h')(Z:∀i∈c.ids,h.size<=i)(hm:∀i∈c.ids,g.may i=true):HH g h' (c::L) F:=by
 have:=HH.upd (A:=[]) (C:=[]) (B:=L) (D:=[c]) (h':=h') (g:=g) (h:=h) (F:=F) (by simpa using a) M (λi E=>J i (a.lt (by simpa using E))) (λx U=>by rw[zw.1 U];exact O) (by simpa[DZ]using c.N5)
  (λi E I=>by have:=Z i (by simpa[DZ]using E);have:=a.lt (i:=i) (by simpa using I);omega) (λi E=>hm i (by simpa[DZ]using E))
 simpa using this
theorem HH.push(a:HH g h L F)(o:Ay):HH g (h.push o) (.obj h.size o::L) F:=
 a.add (by simp) (λi E=>h.Bp o E) (h.A8 o) (λi E=>by simp[Ck.ids]at E;omega) (λi E=>by simp[Ck.ids]at E;rw[E];exact a.new)
theorem HH.Vj(a:HH g h L F)(e:TypeId)(cs:List AA):HH g (h.push (.cells (some e) 2 cs)) (.Ag (some h.size) e cs::L) F:=
 a.add (by simp) (λi E=>h.Bp _ E) (h.A8 _) (λi E=>by simp[Ck.ids]at E;omega) (λi E=>by simp[Ck.ids]at E;rw[E];exact a.new)
theorem HH.Pr(a:HH g h L F)(e:TypeId):HH g h (.Ag none e []::L) F:=
 a.add (zr _) (λ_ _=>rfl) rfl (λi E=>by simp[Ck.ids]at E) (λi E=>by simp[Ck.ids]at E)
theorem HH.front(a:HH g h L F)(k:Nat){c:Ck}(G:L[k]?=some c):HH g h (c::L.eraseIdx k) F:=by
 refine a.perm ?_
 conv=>rhs;rw[Gn G]
 rw[List.eraseIdx_eq_take_drop_succ,yR];exact List.perm_middle.symm
theorem HH.tail{c:Ck}(a:HH g h (c::L) F):HH g h L F:=by
 have:=HH.upd (A:=[]) (C:=[c]) (B:=L) (D:=[]) (h':=h) (g:=g) (h:=h) (F:=F) (by simpa using a) (zr _) (λi E=>rfl) (λx U=>by cases U) (by simp[DZ]) (λi E=>by simp[DZ]at E) (λi E=>by simp[DZ]at E);simpa using this
theorem HH.cut(a:HH g h L F)(n:Nat):HH g h (L.take n) (L.drop n++F):=by
 have e:L.take n++(L.drop n++F)=L++F:=by rw[<-zU,zG]
 exact⟨by rw[e];exact a.ok,by rw[e];exact a.nd,λi E=>a.may i (by
  rw[<-zG n L,Cv];exact zm.2 (.inl E)),a.B4,a.floor⟩
theorem HH.X6(a:HH g h L F){pr:List Nat}(T:∀i∈DZ L,i∉pr)(K:∀i∈pr,i<h.size):HH ⟨g.floor,pr++g.B4⟩ h L F:=by
 refine⟨a.ok,a.nd,λi E=>?_,λi E=>?_,a.floor⟩
 ·have:=a.may i E;simp only[Gd.may,zf,zx]at this⊢;refine⟨this.1,?_⟩;rw[qG,this.2,Bool.or_false,List.any_eq_false];intro j hj V;exact T i E (zD V ▸ hj)
 ·rcases zm.1 E with E|E
  ·exact K i E
  ·exact a.B4 i E
theorem HH.glue{g':Gd}{n:Nat}{L':List Ck}(a:HH g h L F)(b:HH g' h' L' (L.drop n++F))(Q:∀i,g'.may i=true->g.may i=true)(T:∀i∈g.B4,i∈g'.B4)(hfl:g'.floor=g.floor):HH g h' (L'++L.drop n) F:=by
 have e:L'++L.drop n++F=L'++(L.drop n++F):=zU _ _ _;refine⟨by rw[e];exact b.ok,by rw[e];exact b.nd,λi E=>?_,λi E=>b.B4 i (T i E),by rw[<-hfl];exact b.floor⟩;rw[Cv,zm]at E;rcases E with E|E
 ·exact Q i (b.may i E)
 ·exact a.may i (by rw[<-zG n L,Cv];exact zm.2 (.inr E))
theorem HH.JN{n:Nat}{L':List Ck}(a:HH g h L F)(b:HH g h' L' (L.drop n++F)):HH g h' (L'++L.drop n) F:=a.glue b (λ_ h=>h) (λ_ h=>h) rfl
end
section
variable {g:Gd} {h:AB} {L F:List Ck}
theorem HH.Gp(a:HH g h L F)(k:Nat){id:Nat}{gr:Option TypeId}{cs:List AA}(G:L[k]?=some (.obj id (.cells gr 2 cs))){o n:Nat}{ds:List AA}(X:o+n<=cs.length/\(cs.drop o).take n=ds):Gp h (id,o) n=some ds:=by
 unfold Av.Gp BQ;simp only[a.get k G];rw[zk ⟨by simp,X.1⟩,X.2]
theorem HH.Jy(a:HH g h L F)(k:Nat){id:Nat}{gr:Option TypeId}{cs:List AA}(G:L[k]?=some (.obj id (.cells gr 2 cs))){o:Nat}{v:AA}(hv:cs[o]?=some v):Jy h (id,o)=some v:=by
 have K:=(List.getElem?_eq_some_iff.1 hv).1;unfold Av.Jy BQ;simp only[a.get k G];rw[zk ⟨by simp,by omega⟩];have e:=(List.getElem?_eq_some_iff.1 hv).2;rw[zS K,e];rfl
theorem HH.st(a:HH g h L F)(k:Nat){id:Nat}{gr:Option TypeId}{cs:List AA}(G:L[k]?=some (.obj id (.cells gr 2 cs))){o:Nat}{new ds:List AA}(K:o+new.length<=cs.length)(h1:new.all AA.one=true)(X:CN cs o new=ds):
  ∃h',st g h (id,o) new=some h'/\HH g h' (L.set k (.obj id (.cells gr 2 ds))) F:=by
 refine⟨_,?_,a.set k _ G⟩;unfold Av.st BN;simp only[a.get k G];rw[zk ⟨a.PZ G (by simp[Ck.ids]),K,h1⟩,X]
def AY(r:Option Nat)(n:Nat):AA:=.slice (r.map λi=>(i,0)) n
def Dt(r:Option Nat)(n:Nat):Sl:=⟨r.map λi=>(i,0),n⟩
theorem EI(a:HH g h L F)(k:Nat){r:Option Nat}{e:TypeId}{cs:List AA}(G:L[k]?=some (.Ag r e cs)){n z:Nat}(I:cs.length=n*z)(Y:z≠0):Bv h z n (AY r n)=some cs:=by
 have O:=a.mem G;unfold AY Bv;cases r with
 | none=>
  have:cs=[]:=O;subst this;have R:n=0:=by
   have:n*z=0:=by simpa using I.symm
   rcases yC.1 this with h|h
   ·exact h
   ·exact absurd h Y
  subst R;simp
 | some id=>
  have Q:h.get id=some (.cells (some e) 2 cs):=O;simp only[ze];by_cases R:n=0
  ·subst R;rw[zk rfl];have:cs=[]:=zi (by simpa using I);rw[this]
  ·rw[zh R];unfold BQ;simp only[Q];rw[zk ⟨by simp,by omega⟩,yv,<-I,List.take_length]
theorem HH.app(a:HH g h L F)(k:Nat){r:Option Nat}{e:TypeId}{cs new new':List AA}{z bytes n m:Nat}{x:AA}(G:L[k]?=some (.Ag r e cs))(I:cs.length=n*z)(Y:z≠0)(U:Bv h z m x=some new)(hc:new.map GU=new')(hm:new'.length=m*z)
  (V:n+m<=1099511627776/\(n+m)*bytes<=1099511627776) (h1:cs.all AA.one=true) (h2:new'.all AA.one=true):
  ∃r' h',Av.app e z bytes g h (Dt r n) m x=some (Dt r' (n+m),h')/\HH g h' (L.set k (.Ag r' e (cs++new'))) F:=by
 have hfo:Bv h z n (AY r n)=some cs:=EI a k G I Y;unfold Av.app;by_cases R:m=0
 ·subst R;refine⟨r,h,by simp[Dt],?_⟩;have:new'=[]:=zi (by simpa using hm);subst this;rw[z9];have:L.set k (.Ag r e cs)=L:=by rw[JM G,<-Gn G]
  rw[this];exact a
 ·rw[zh R,zk (show(Dt r n).n+m<=1099511627776/\((Dt r n).n+m)*bytes<=1099511627776 from V)];simp only[Dt,U,ze,hc];rw[show Bv h z n (.slice (r.map λi=>(i,0)) n)=some cs from hfo];simp only;rw[zk (by rw[qD,h1,h2];rfl)];cases r with
  |none=>
   refine⟨some h.size,_,rfl,?_⟩;exact a.Pj G (by simp) (λi E _=>h.Bp _ E) (h.A8 _) (λi E=>by simp[Ck.ids]at E;omega) (λi E=>by simp[Ck.ids]at E;rw[E];exact a.new)
  | some id=>
   have Q:h.get id=some (.cells (some e) 2 cs):=a.mem G;have hid:=h.Ar Q;simp only[ze,Q];rw[zk ⟨a.PZ G (by simp[Ck.ids]),trivial⟩];refine⟨some h.size,_,rfl,?_⟩;refine a.Pj G (by simp) (λi E I=>?_) ?_ (λi E=>by simp[Ck.ids]at E;omega) (λi E=>by simp[Ck.ids]at E;rw[E];exact a.new)
   ·rw[AB.Bp _ _ (by simpa using E)];exact h.Bw _ hid (by simpa[Ck.ids]using I)
   ·have:=AB.A8 (h.set id (.cells (some e) 0 [])) (.cells (some e) 2 (cs++new'));exact this
theorem HH.aK{r:Option Nat}{e:TypeId}{cs:List AA}{n z:Nat}(a:HH g h (.Ag r e cs::L) F)(I:cs.length=n*z)(Y:z≠0):∃h',HB g h (AY r n)=some (.Gi n cs,h')/\HH g h' L F:=by
 have G:(Ck.Ag r e cs::L)[0]?=some (.Ag r e cs):=rfl;unfold AY;by_cases R:n=0
 ·subst R;have:cs=[]:=zi (by simpa using I);subst this;cases r with
  |none=>exact⟨h,rfl,a.tail⟩
  |some id=>exact⟨h,rfl,a.tail⟩
 ·cases r with
  |none=>
   exfalso;have hc:cs=[]:=a.mem G;subst hc;have h1:n*z=0:=by simpa using I.symm
   rcases yC.1 h1 with h|h
   ·exact R h
   ·exact Y h
  |some id=>
   have Q:h.get id=some (.cells (some e) 2 cs):=a.mem G;have hid:=h.Ar Q;have V:Nat.beq n 0=false:=by cases n;exact absurd rfl R;rfl
   refine⟨h.set id (.cells (some e) 0 cs),by simp only[HB,ze,V,zR,Q,a.PZ G (i:=id) (by simp[Ck.ids]),zE],?_⟩;have b:=a.Pj (d:=.Ag none e []) (h':=h.set id (.cells (some e) 0 cs)) G (by simp) (λi _ E=>h.Bw _ hid (by simpa[Ck.ids]using E)) rfl (λi E=>by simp[Ck.ids]at E) (λi E=>by simp[Ck.ids]at E);exact HH.tail (c:=.Ag none e []) b
end
end Go.Av
end
