/-
  Several texts in one.
-/
import Derived.Test.YtfgmnhjedmkpeaaAvWalk
set_option linter.unusedSimpArgs false
/-
 A part.
-/
section
namespace Go.Av
set_option linter.unusedSimpArgs false
def K8(l:List (Nat×List AD))(g:Nat):Option (List AD):=
 match l with
 |[]=>none
 |(i,cs)::r=>bif Nat.beq i g then some cs else K8 r g
def MR(l:List (Nat×AD))(d:Nat):Option AD:=
 match l with
 |[]=>none
 |(i,v)::r=>bif Nat.beq i d then some v else MR r d
def Oq(l:List (Nat×AD))(d:Nat)(w:AD):List (Nat×AD):=
 match l with
 |[]=>[]
 |(i,v)::r=>bif Nat.beq i d then(i,w)::r else(i,v)::Oq r d w
theorem Js{v:AD}{d:Nat}:∀{l:List (Nat×AD)},MR l d=some v->(d,v)∈l
 |[],h=>by cases h
 |(i,u)::r,h=>by
  unfold MR at h;rw[GS]at h;by_cases e:i=d
  ·rw[zj e]at h;injection h with h;rw[h,e];simp
  ·rw[zk e]at h;exact yc _ (Js h)
theorem MB{w:AD}{d:Nat}:∀{l:List (Nat×AD)} {p:Nat×AD},p∈Oq l d w->p∈l\/p=(d,w)
 |[],p,h=>by cases h
 | (i,u)::r,p,h=>by
  unfold Oq at h;rw[GS]at h;by_cases e:i=d
  ·rw[zj e]at h;rcases ye.1 h with h|h
   ·right;rw[h,e]
   ·left;exact yc _ h
  ·rw[zk e]at h;rcases ye.1 h with h|h
   ·left;rw[h];simp
   ·rcases MB h with h|h
    ·left;exact yc _ h
    ·right;exact h
theorem Has.EL{fr:Fr}{N:Nat}{l:List (Nat×AD)}(H:Has fr N l)(d:Nat){b w:Bool}(W:b=w)(Z:MR l d=some (.bool b)):Has fr N (Oq l d (.bool w)):=by
 subst W;refine⟨H.1,λp U=>?_⟩;rcases MB U with h|h
 ·exact H.2 p h
 ·rw[h];exact H.2 _ (Js Z)
inductive QI(P:Program)(fr:Fr)(h:AE):List ResultVar->List AD->Prop where
 |nil:QI P fr h [] []
 |tmp {t:Tmp} {v:AD} {rs:List ResultVar} {vs:List AD} (e:nth fr t=v) (r:QI P fr h rs vs):QI P fr h (.tmp t::rs) (v::vs)
 |cell {a:Tmp} {t:TypeId} {p:Nat×Nat} {v:AD} {rs:List ResultVar} {vs:List AD} (e:nth fr a=.ptr (some p)) (E:Fi P (h.get p.1) t p.2=some v) (r:QI P fr h rs vs):QI P fr h (.cell a t::rs) (v::vs)
theorem QI.mapM{P:Program}{fr:Fr}{h:AE}{rs:List ResultVar}{vs:List AD}(r:QI P fr h rs vs):rs.mapM (Fb P fr h)=some vs:=by
 induction r with
 |nil=>rfl
 |tmp e _ ih=>rw[qi,ih];simp[Fb,e]
 |cell e E _ ih=>rw[qi,ih];simp[Fb,e,E]
theorem IE{P:Program}{fr:Fr}{h:AE}{rs:List ResultVar}{v:AD}(r:QI P fr h rs [v]):Kk P rs fr h=some v:=by
 unfold Kk;rw[r.mapM]
theorem CU{P:Program}{fr:Fr}{h:AE}{rs:List ResultVar}{v w:AD}{vs:List AD}(r:QI P fr h rs (v::w::vs)):Kk P rs fr h=some (.tuple (v::w::vs)):=by
 unfold Kk;rw[r.mapM]
theorem CE{P:Program}{h:AE}{t:TypeId}{a:Nat×Nat}{n:Nat}{cs:List AD}(ha:Hi P t=some true)(J:B9 P t=some n)(E:Eb h a n=some cs):Fi P (h.get a.1) t a.2=some (.agg cs):=by
 unfold Fi;rw[ha,J];unfold Eb at E;simp[E]
section
variable {C:Gf} {S:Self} {g:Gd} {h:AE} {fr:Fr} {op:Op}
def Yf(P:Program)(fr:Fr):Op->Option (List AD×Nat×Nat×Int×Bool)
 | .index t x i=>
  match P.underlying t,ev fr x,ev fr i with
  |some (.array n e),.agg cs,.int _ i=>
   match Hi P e,B9 P e with
   |some b,some z=>some (cs,n,z,i,b)
   |_,_=>none
  |_,_,_=>none
 |_=>none
def RQ(P:Program)(t:TypeId)(xs ys:List AD):Option Bool:=if P.eqGuardType P.depth t=true then none else Hb P 10000 t (.agg xs) (.agg ys)
def SX(fr:Fr):Op->Option (Bool×TypeId×List AD×List AD)
 | .binOp op t x y _=>
  match ev fr x,ev fr y,op with
  | .agg xs,.agg ys,.eql=>some (true,t,xs,ys)
  | .agg xs,.agg ys,.neq=>some (false,t,xs,ys)
  |_,_,_=>none
 |_=>none
theorem V6{t:TypeId}{xs ys:List AD}{b:Bool}(I:SX fr op=some (true,t,xs,ys))(E:RQ C.P t xs ys=some b):BI C S g h fr op=some (.bool b,h):=by
 unfold SX at I;split at I
 ·split at I
  ·rename_i M hy;simp only[zd,ze,qu]at I;obtain⟨rfl,rfl,rfl⟩:=I;unfold RQ at E;split at E
   ·cases E
   ·rename_i Q;simp[BI,Gn,As,Gj,RL,Nt,M,hy,Q,E]
  ·simp at I
  ·cases I
 ·cases I
theorem Vt{t:TypeId}{xs ys:List AD}{b:Bool}(I:SX fr op=some (false,t,xs,ys))(E:RQ C.P t xs ys=some b):BI C S g h fr op=some (.bool !b,h):=by
 unfold SX at I;split at I
 ·split at I
  ·simp at I
  ·rename_i M hy;simp only[zd,ze,qu]at I;obtain⟨rfl,rfl,rfl⟩:=I;unfold RQ at E;split at E
   ·cases E
   ·rename_i Q;simp[BI,Gn,As,Gj,RL,Nt,M,hy,Q,E]
  ·cases I
 ·cases I
def XZ(h:AE):Option Nat->Option (List (AD×AD))
 |none=>some []
 |some id=>
  match h.get id with
  |some (.map st es)=>if st≠0 then some es else none
  |_=>none
def Vo(P:Program)(h:AE)(t:TypeId)(m:Option Nat)(k:AD):Option (AD×Bool):=
 match P.underlying t with
 | some (.map kt et)=>
  if G8 P 20 kt k=true then
   match XZ h m with
   |some es=>
    match FN P kt k es 0 with
    |some (some (_,v))=>some (v,true)
    |some none=>(GN P et).map λz=>(z,false)
    |none=>none
   |none=>none
  else none
 |_=>none
def WQ(fr:Fr):Op->Option (TypeId×Option Nat×AD×Bool)
 | .lookup t x k ok=>
  match ev fr x with
  | .map m=>some (t,m,ev fr k,ok)
  |_=>none
 |_=>none
theorem RC{P:Program}{h:AE}{t:TypeId}{m:Option Nat}{k v:AD}{b ok:Bool}(E:Vo P h t m k=some (v,b)):
  ∃ob,(∀id,m=some id->h.get id=some ob)/\Lc P (m.map λ_=>ob) t (.map m) k ok=some (if ok then .tuple [v,.bool b]else v):=by
 unfold Vo at E;split at E
 ·rename_i kt et hu;split at E
  ·rename_i G;split at E
   ·rename_i es he;cases m with
    | none=>
     refine⟨default,by simp,?_⟩;simp only[XZ,zd]at he;subst he;simp only[FN]at E;unfold Lc;simp only[hu,G,if_true,FN];cases R:GN P et with
     |none=>rw[R]at E;simp at E
     |some z=>
      rw[R]at E;simp only[zf,zd,ze]at E;obtain⟨rfl,rfl⟩:=E;rfl
    | some id=>
     simp only[XZ]at he;split at he
     ·rename_i st es' Q;split at he
      ·rename_i hst;simp only[zd]at he;subst he;refine⟨.map st es',λi hi=>by simp only[zd]at hi;subst hi;exact Q,?_⟩;unfold Lc;simp only[hu,G,if_true,zf,hst,ne_eq,not_false_eq_true];split at E
       ·rename_i i w V;simp only[zd,ze]at E;obtain⟨rfl,rfl⟩:=E;rw[V]
       ·rename_i V;rw[V];cases R:GN P et with
        |none=>rw[R]at E;simp at E
        |some z=>
         rw[R]at E;simp only[zf,zd,ze]at E;obtain⟨rfl,rfl⟩:=E;rfl
       ·cases E
      ·cases he
     ·cases he
   ·cases E
  ·cases E
 ·cases E
theorem YW{t:TypeId}{m:Option Nat}{k v:AD}{b ok:Bool}(I:WQ fr op=some (t,m,k,ok))(E:Vo C.P h t m k=some (v,b)):BI C S g h fr op=some (if ok then .tuple [v,.bool b]else v,h):=by
 unfold WQ at I;split at I
 ·split at I
  ·rename_i ok' _ m' M;simp only[zd,ze]at I;obtain⟨rfl,rfl,rfl,rfl⟩:=I;obtain⟨ob,h1,X⟩:=RC (ok:=ok') E;cases hm:m' with
   |none=>
    subst hm;simp only[Option.map_none]at X;simp[BI,Gn,As,Cm,M,EN,Iq,X]
   |some id=>
    subst hm;simp only[zf]at X;simp[BI,Gn,As,Cm,M,EN,Iq,h1 id rfl,X]
  ·cases I
 ·cases I
theorem Vp{t:TypeId}{m:Option Nat}{k v:AD}{b:Bool}(I:WQ fr op=some (t,m,k,true))(E:Vo C.P h t m k=some (v,b)):BI C S g h fr op=some (.tuple [v,.bool b],h):=YW I E
def XE(P:Program)(g:Gd)(h:AE)(t:TypeId)(m:Option Nat)(k v:AD):Option AE:=Ht P g h t (.map m) k v
def Xj(fr:Fr):Op->Option (TypeId×Option Nat×AD×AD)
 | .mapUpdate t m k v| .insert t m k v=>
  match ev fr m with
  | .map m=>some (t,m,ev fr k,ev fr v)
  |_=>none
 |_=>none
theorem X8{t:TypeId}{m:Option Nat}{k v:AD}{h':AE}(I:Xj fr op=some (t,m,k,v))(E:XE C.P g h t m k v=some h'):BI C S g h fr op=some (.tuple [],h'):=by
 unfold XE at E;unfold Xj at I;split at I
 ·split at I
  ·rename_i M;simp only[zd,ze]at I;obtain⟨rfl,rfl,rfl,rfl⟩:=I;simp[BI,Gn,As,Ib,M,E]
  ·cases I
 ·split at I
  ·rename_i M;simp only[zd,ze]at I;obtain⟨rfl,rfl,rfl,rfl⟩:=I;simp[BI,Gn,As,Ib,M,E]
  ·cases I
 ·cases I
end
@[irreducible] def Gp:Nat:=4611686018427387904
theorem N1:Gp=4611686018427387904:=by unfold Gp;rfl
def cap{α β:Type}(asE9:AD->Option α)(rest:List AD->Option β):List AD->Option (α×β)
 |v::l=>(asE9 v).bind λx=>(rest l).map λy=>(x,y)
 |[]=>none
end Go.Av
end
/-
 A part.
-/
section
namespace Go.Av
set_option linter.unusedVariables false
inductive Ck where
 |obj (id:Nat) (o:Br)
 |Af (r:Option Nat) (e:TypeId) (cs:List AD)
def Ck.ids:Ck->List Nat
 | .obj id _=>[id]
 | .Af r _ _=>r.toList
def Ck.ok(h:AE):Ck->Prop
 | .obj id o=>h.get id=some o
 | .Af none _ cs=>cs=[]
 | .Af (some id) e cs=>h.get id=some (.cells (some e) 2 cs)
def EY(L:List Ck):List Nat:=L.flatMap Ck.ids
theorem Dc(A B:List Ck):EY (A++B)=EY A++EY B:=by simp[EY]
theorem Ck.P7(c:Ck):c.ids.Nodup:=by
 cases c with
 |obj id o=>simp[Ck.ids]
 |Af r e cs=>cases r<;>simp[Ck.ids]
theorem Ck.XR{h:AE}{c:Ck}(k:c.ok h){i:Nat}(hi:i∈c.ids):i<h.size:=by
 cases c with
 |obj id o=>simp[Ck.ids]at hi;subst hi;exact h.BZ k
 |Af r e cs=>
  cases r with
  |none=>simp[Ck.ids]at hi
  |some id=>simp[Ck.ids]at hi;subst hi;exact h.BZ k
theorem Ck.VC{h h':AE}{c:Ck}(k:c.ok h)(I:∀i∈c.ids,h'.get i=h.get i):c.ok h':=by
 cases c with
 |obj id o=>show h'.get id=_;rw[I id (by simp[Ck.ids])];exact k
 |Af r e cs=>
  cases r with
  |none=>exact k
  |some id=>show h'.get id=_;rw[I id (by simp[Ck.ids])];exact k
structure HH(g:Gd)(h:AE)(L F:List Ck):Prop where
 ok:∀c∈L++F,c.ok h
 nd:(EY (L++F)).Nodup
 may:∀i∈EY L,g.may i=true
 Bs:∀i∈g.Bs,i<h.size
 floor:g.floor<=h.size
section
variable {g:Gd} {h h':AE} {L F A B C D:List Ck}
theorem HH.lt(a:HH g h L F){i:Nat}(hi:i∈EY (L++F)):i<h.size:=by
 simp only[EY,yx]at hi;obtain⟨c,hc,hi⟩:=hi;exact Ck.XR (a.ok c hc) hi
theorem HH.new(a:HH g h L F):g.may h.size=true:=by
 have h1:Nat.ble g.floor h.size=true:=Nat.ble_eq_true_of_le a.floor;have X:g.Bs.any (Nat.beq h.size)=false:=by
  rw[List.any_eq_false];intro i hi W;have:=a.Bs i hi;have:=zE W;omega
 simp[Gd.may,h1,X]
theorem HH.upd(a:HH g h (A++(C++B)) F)(I:h.size<=h'.size)(K:∀i∈EY (A++B++F),h'.get i=h.get i)(O:∀c∈D,c.ok h')(J:(EY D).Nodup)
  (V:∀i∈EY D,i∉EY (A++B++F)) (hm:∀i∈EY D,g.may i=true):HH g h' (A++(D++B)) F:=by
 have nd':(EY A++(EY C++EY B)++EY F).Nodup:=by have:=a.nd;simpa only[Dc]using this
 refine⟨λc hc=>?_,?_,λi hi=>?_,λi hi=>zL (a.Bs i hi) I,yu a.floor I⟩
 ·have old:c∈A\/c∈B\/c∈F->c.ok h':=λhc=>by
   have hc1:c∈A++(C++B)++F:=by simp only[zo];rcases hc with h|h|h<;>simp[h]
   refine Ck.VC (a.ok c hc1) λi hi=>K i ?_;simp only[EY,yx];exact⟨c,by simp only[zo];rcases hc with h|h|h<;>simp[h],hi⟩
  simp only[zo]at hc;rcases hc with(hc|hc|hc)|hc
  ·exact old (.inl hc)
  ·exact O c hc
  ·exact old (.inr (.inl hc))
  ·exact old (.inr (.inr hc))
 ·have U:(EY (A++(D++B)++F)).Perm (EY D++EY (A++B++F)):=by
   simp only[Dc,zR];refine(yT _ _ _)
  rw[U.nodup_iff,zZ];refine⟨J,?_,λi hi j hj e=>V i hi (e ▸ hj)⟩;have Y:(EY (A++(C++B)++F)).Perm (EY C++EY (A++B++F)):=by
   simp only[Dc,zR];exact(yT _ _ _)
  exact(zZ.1 (Y.nodup_iff.1 a.nd)).2.1
 ·simp only[Dc,zo]at hi;rcases hi with hi|hi|hi
  ·exact a.may i (by simp only[Dc,zo];exact .inl hi)
  ·exact hm i hi
  ·exact a.may i (by simp only[Dc,zo];exact .inr (.inr hi))
theorem HH.perm(a:HH g h L F)(U:A.Perm L):HH g h A F:=by
 have Y:(A++F).Perm (L++F):=U.append_right F;refine⟨λc hc=>a.ok c (Y.mem_iff.1 hc),?_,λi hi=>a.may i ?_,a.Bs,a.floor⟩
 ·exact((Y.flatMap_right Ck.ids).nodup_iff).2 a.nd
 ·exact((U.flatMap_right Ck.ids).mem_iff).1 hi
theorem IP{k:Nat}{c:Ck}(G:L[k]?=some c):L=L.take k++([c]++L.drop (k+1)):=by
 obtain⟨E,e⟩:=List.getElem?_eq_some_iff.1 G;rw[yN,<-e,<-zY E,zD]
theorem LA{k:Nat}{c d:Ck}(G:L[k]?=some c):L.set k d=L.take k++([d]++L.drop (k+1)):=by
 have E:=(List.getElem?_eq_some_iff.1 G).1;rw[yd,zj E,yN]
theorem HH.mem(a:HH g h L F){k:Nat}{c:Ck}(G:L[k]?=some c):c.ok h:=a.ok c (zo.2 (.inl (zQ G)))
theorem HH.get(a:HH g h L F)(k:Nat){id:Nat}{o:Br}(G:L[k]?=some (.obj id o)):h.get id=some o:=a.mem G
theorem HH.Pc(a:HH g h L F){k:Nat}{c:Ck}(G:L[k]?=some c){i:Nat}(hi:i∈c.ids):g.may i=true:=
 a.may i (by simp only[EY,yx];exact⟨c,zQ G,hi⟩)
theorem HH.Vu(a:HH g h L F){k:Nat}{c:Ck}(G:L[k]?=some c){i:Nat}(hi:i∈c.ids):i∉EY (L.take k++L.drop (k+1)++F):=by
 have Y:(EY (L++F)).Perm (c.ids++EY (L.take k++L.drop (k+1)++F)):=by
  conv=>lhs;rw[IP G]
  simp only[Dc,zR];have:EY [c]=c.ids:=by simp[EY]
  rw[this];exact(yT _ _ _)
 exact λhm=>(zZ.1 (Y.nodup_iff.1 a.nd)).2.2 i hi i hm rfl
theorem HH.Q7(a:HH g h L F){k:Nat}{c d:Ck}(G:L[k]?=some c)(I:h.size<=h'.size)(K:∀i,i<h.size->i∉c.ids->h'.get i=h.get i)(O:d.ok h')
  (V:∀i∈d.ids,i∈c.ids\/h.size<=i) (hm:∀i∈d.ids,g.may i=true):HH g h' (L.set k d) F:=by
 rw[LA G];have a':=a;rw[IP G]at a';refine a'.upd I (λi hi=>?_) (λx M=>by rw[qn.1 M];exact O) (by simpa[EY]using d.P7) (λi hi J=>?_) (λi hi=>hm i (by simpa[EY]using hi))
 ·refine K i (a.lt ?_) (λhc=>a.Vu G hc hi);rw[IP G];simp only[Dc,zo]at hi⊢;rcases hi with(hi|hi)|hi
  ·exact .inl (.inl hi)
  ·exact .inl (.inr (.inr hi))
  ·exact .inr hi
 ·rcases V i (by simpa[EY]using hi)with h1|h1
  ·exact a.Vu G h1 J
  ·have:i<h.size:=a.lt (by
    rw[IP G];simp only[Dc,zo]at J⊢;rcases J with(J|J)|J
    ·exact .inl (.inl J)
    ·exact .inl (.inr (.inr J))
    ·exact .inr J)
   omega
theorem HH.set(a:HH g h L F)(k:Nat){id:Nat}{o:Br}(o':Br)(G:L[k]?=some (.obj id o)):HH g (h.set id o') (L.set k (.obj id o')) F:=by
 have Q:=a.get k G;have hid:=h.BZ Q;refine a.Q7 G (by simp) (λi _ hi=>h.Cj _ hid (by simpa[Ck.ids]using hi)) (h.Cf _ hid) (λi hi=>.inl hi) (λi hi=>a.Pc G hi)
theorem HH.add(a:HH g h L F){c:Ck}(I:h.size<=h'.size)(K:∀i,i<h.size->h'.get i=h.get i)(O:c.ok h')(V:∀i∈c.ids,h.size<=i)(hm:∀i∈c.ids,g.may i=true):HH g h' (c::L) F:=by
 have:=HH.upd (A:=[]) (C:=[]) (B:=L) (D:=[c]) (h':=h') (g:=g) (h:=h) (F:=F) (by simpa using a) I (λi hi=>K i (a.lt (by simpa using hi))) (λx M=>by rw[qn.1 M];exact O) (by simpa[EY]using c.P7)
  (λi hi J=>by have:=V i (by simpa[EY]using hi);have:=a.lt (i:=i) (by simpa using J);omega) (λi hi=>hm i (by simpa[EY]using hi))
 simpa using this
theorem HH.push(a:HH g h L F)(o:Br):HH g (h.push o) (.obj h.size o::L) F:=
 a.add (by simp) (λi hi=>h.Cc o hi) (h.Bh o) (λi hi=>by simp[Ck.ids]at hi;omega) (λi hi=>by simp[Ck.ids]at hi;rw[hi];exact a.new)
theorem HH.Xh(a:HH g h L F)(e:TypeId)(cs:List AD):HH g (h.push (.cells (some e) 2 cs)) (.Af (some h.size) e cs::L) F:=
 a.add (by simp) (λi hi=>h.Cc _ hi) (h.Bh _) (λi hi=>by simp[Ck.ids]at hi;omega) (λi hi=>by simp[Ck.ids]at hi;rw[hi];exact a.new)
theorem HH.RE(a:HH g h L F)(e:TypeId):HH g h (.Af none e []::L) F:=
 a.add (zq _) (λ_ _=>rfl) rfl (λi hi=>by simp[Ck.ids]at hi) (λi hi=>by simp[Ck.ids]at hi)
theorem HH.front(a:HH g h L F)(k:Nat){c:Ck}(G:L[k]?=some c):HH g h (c::L.eraseIdx k) F:=by
 refine a.perm ?_
 conv=>rhs;rw[IP G]
 rw[List.eraseIdx_eq_take_drop_succ,yN];exact List.perm_middle.symm
theorem HH.tail{c:Ck}(a:HH g h (c::L) F):HH g h L F:=by
 have:=HH.upd (A:=[]) (C:=[c]) (B:=L) (D:=[]) (h':=h) (g:=g) (h:=h) (F:=F) (by simpa using a) (zq _) (λi hi=>rfl) (λx M=>by cases M) (by simp[EY]) (λi hi=>by simp[EY]at hi) (λi hi=>by simp[EY]at hi);simpa using this
theorem HH.cut(a:HH g h L F)(n:Nat):HH g h (L.take n) (L.drop n++F):=by
 have e:L.take n++(L.drop n++F)=L++F:=by rw[<-zR,zD]
 exact⟨by rw[e];exact a.ok,by rw[e];exact a.nd,λi hi=>a.may i (by
  rw[<-zD n L,Dc];exact zo.2 (.inl hi)),a.Bs,a.floor⟩
theorem HH.Xb(a:HH g h L F){pr:List Nat}(U:∀i∈EY L,i∉pr)(E:∀i∈pr,i<h.size):HH ⟨g.floor,pr++g.Bs⟩ h L F:=by
 refine⟨a.ok,a.nd,λi hi=>?_,λi hi=>?_,a.floor⟩
 ·have:=a.may i hi;simp only[Gd.may,zg,zu]at this⊢;refine⟨this.1,?_⟩;rw[qD,this.2,Bool.or_false,List.any_eq_false];intro j hj W;exact U i hi (zE W ▸ hj)
 ·rcases zo.1 hi with hi|hi
  ·exact E i hi
  ·exact a.Bs i hi
theorem HH.glue{g':Gd}{n:Nat}{L':List Ck}(a:HH g h L F)(b:HH g' h' L' (L.drop n++F))(Q:∀i,g'.may i=true->g.may i=true)(U:∀i∈g.Bs,i∈g'.Bs)(hfl:g'.floor=g.floor):HH g h' (L'++L.drop n) F:=by
 have e:L'++L.drop n++F=L'++(L.drop n++F):=zR _ _ _;refine⟨by rw[e];exact b.ok,by rw[e];exact b.nd,λi hi=>?_,λi hi=>b.Bs i (U i hi),by rw[<-hfl];exact b.floor⟩;rw[Dc,zo]at hi;rcases hi with hi|hi
 ·exact Q i (b.may i hi)
 ·exact a.may i (by rw[<-zD n L,Dc];exact zo.2 (.inr hi))
theorem HH.Lq{n:Nat}{L':List Ck}(a:HH g h L F)(b:HH g h' L' (L.drop n++F)):HH g h' (L'++L.drop n) F:=a.glue b (λ_ h=>h) (λ_ h=>h) rfl
end
section
variable {g:Gd} {h:AE} {L F:List Ck}
theorem HH.Eb(a:HH g h L F)(k:Nat){id:Nat}{gr:Option TypeId}{cs:List AD}(G:L[k]?=some (.obj id (.cells gr 2 cs))){o n:Nat}{ds:List AD}(Z:o+n<=cs.length/\(cs.drop o).take n=ds):Eb h (id,o) n=some ds:=by
 unfold Av.Eb B2;simp only[a.get k G];rw[zj ⟨by simp,Z.1⟩,Z.2]
theorem HH.Ma(a:HH g h L F)(k:Nat){id:Nat}{gr:Option TypeId}{cs:List AD}(G:L[k]?=some (.obj id (.cells gr 2 cs))){o:Nat}{v:AD}(hv:cs[o]?=some v):Ma h (id,o)=some v:=by
 have E:=(List.getElem?_eq_some_iff.1 hv).1;unfold Av.Ma B2;simp only[a.get k G];rw[zj ⟨by simp,by omega⟩];have e:=(List.getElem?_eq_some_iff.1 hv).2;rw[zY E,e];rfl
theorem HH.st(a:HH g h L F)(k:Nat){id:Nat}{gr:Option TypeId}{cs:List AD}(G:L[k]?=some (.obj id (.cells gr 2 cs))){o:Nat}{new ds:List AD}(E:o+new.length<=cs.length)(h1:new.all AD.one=true)(Z:Cu cs o new=ds):
  ∃h',st g h (id,o) new=some h'/\HH g h' (L.set k (.obj id (.cells gr 2 ds))) F:=by
 refine⟨_,?_,a.set k _ G⟩;unfold Av.st By;simp only[a.get k G];rw[zj ⟨a.Pc G (by simp[Ck.ids]),E,h1⟩,Z]
def AR(r:Option Nat)(n:Nat):AD:=.slice (r.map λi=>(i,0)) n
def DM(r:Option Nat)(n:Nat):Sl:=⟨r.map λi=>(i,0),n⟩
theorem Dm(a:HH g h L F)(k:Nat){r:Option Nat}{e:TypeId}{cs:List AD}(G:L[k]?=some (.Af r e cs)){n z:Nat}(J:cs.length=n*z)(R:z≠0):Ch h z n (AR r n)=some cs:=by
 have O:=a.mem G;unfold AR Ch;cases r with
 | none=>
  have:cs=[]:=O;subst this;have T:n=0:=by
   have:n*z=0:=by simpa using J.symm
   rcases ym.1 this with h|h
   ·exact h
   ·exact absurd h R
  subst T;simp
 | some id=>
  have Q:h.get id=some (.cells (some e) 2 cs):=O;simp only[zf];by_cases T:n=0
  ·subst T;rw[zj rfl];have:cs=[]:=zw (by simpa using J);rw[this]
  ·rw[zk T];unfold B2;simp only[Q];rw[zj ⟨by simp,by omega⟩,yw,<-J,List.take_length]
theorem HH.app(a:HH g h L F)(k:Nat){r:Option Nat}{e:TypeId}{cs new new':List AD}{z bytes n m:Nat}{x:AD}(G:L[k]?=some (.Af r e cs))(J:cs.length=n*z)(R:z≠0)(M:Ch h z m x=some new)(hc:new.map IG=new')(hm:new'.length=m*z)
  (W:n+m<=1099511627776/\(n+m)*bytes<=1099511627776) (h1:cs.all AD.one=true) (X:new'.all AD.one=true):
  ∃r' h',Av.app e z bytes g h (DM r n) m x=some (DM r' (n+m),h')/\HH g h' (L.set k (.Af r' e (cs++new'))) F:=by
 have hfo:Ch h z n (AR r n)=some cs:=Dm a k G J R;unfold Av.app;by_cases T:m=0
 ·subst T;refine⟨r,h,by simp[DM],?_⟩;have:new'=[]:=zw (by simpa using hm);subst this;rw[yR];have:L.set k (.Af r e cs)=L:=by rw[LA G,<-IP G]
  rw[this];exact a
 ·rw[zk T,zj (show(DM r n).n+m<=1099511627776/\((DM r n).n+m)*bytes<=1099511627776 from W)];simp only[DM,M,zf,hc];rw[show Ch h z n (.slice (r.map λi=>(i,0)) n)=some cs from hfo];simp only;rw[zj (by rw[qC,h1,X];rfl)];cases r with
  |none=>
   refine⟨some h.size,_,rfl,?_⟩;exact a.Q7 G (by simp) (λi hi _=>h.Cc _ hi) (h.Bh _) (λi hi=>by simp[Ck.ids]at hi;omega) (λi hi=>by simp[Ck.ids]at hi;rw[hi];exact a.new)
  | some id=>
   have Q:h.get id=some (.cells (some e) 2 cs):=a.mem G;have hid:=h.BZ Q;simp only[zf,Q];rw[zj ⟨a.Pc G (by simp[Ck.ids]),trivial⟩];refine⟨some h.size,_,rfl,?_⟩;refine a.Q7 G (by simp) (λi hi J=>?_) ?_ (λi hi=>by simp[Ck.ids]at hi;omega) (λi hi=>by simp[Ck.ids]at hi;rw[hi];exact a.new)
   ·rw[AE.Cc _ _ (by simpa using hi)];exact h.Cj _ hid (by simpa[Ck.ids]using J)
   ·have:=AE.Bh (h.set id (.cells (some e) 0 [])) (.cells (some e) 2 (cs++new'));exact this
theorem HH.Yb{r:Option Nat}{e:TypeId}{cs:List AD}{n z:Nat}(a:HH g h (.Af r e cs::L) F)(J:cs.length=n*z)(R:z≠0):∃h',Ij g h (AR r n)=some (.JV n cs,h')/\HH g h' L F:=by
 have G:(Ck.Af r e cs::L)[0]?=some (.Af r e cs):=rfl;unfold AR;by_cases T:n=0
 ·subst T;have:cs=[]:=zw (by simpa using J);subst this;cases r with
  |none=>exact⟨h,rfl,a.tail⟩
  |some id=>exact⟨h,rfl,a.tail⟩
 ·cases r with
  |none=>
   exfalso;have hc:cs=[]:=a.mem G;subst hc;have h1:n*z=0:=by simpa using J.symm
   rcases ym.1 h1 with h|h
   ·exact T h
   ·exact R h
  |some id=>
   have Q:h.get id=some (.cells (some e) 2 cs):=a.mem G;have hid:=h.BZ Q;have W:Nat.beq n 0=false:=by cases n;exact absurd rfl T;rfl
   refine⟨h.set id (.cells (some e) 0 cs),by simp only[Ij,zf,W,yh,Q,a.Pc G (i:=id) (by simp[Ck.ids]),z0],?_⟩;have b:=a.Q7 (d:=.Af none e []) (h':=h.set id (.cells (some e) 0 cs)) G (by simp) (λi _ hi=>h.Cj _ hid (by simpa[Ck.ids]using hi)) rfl (λi hi=>by simp[Ck.ids]at hi) (λi hi=>by simp[Ck.ids]at hi);exact HH.tail (c:=.Af none e []) b
end
end Go.Av
end
