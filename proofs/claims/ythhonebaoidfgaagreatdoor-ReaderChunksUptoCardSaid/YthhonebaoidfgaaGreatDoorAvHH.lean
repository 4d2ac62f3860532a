/-
  Several texts in one.
-/
import Derived.Test.YthhonebaoidfgaaGreatDoorAvWalk
set_option linter.unusedSimpArgs false
/-
 A part.
-/
section
namespace Go.Av
set_option linter.unusedSimpArgs false
def NW(l:List (Nat×List AD))(g:Nat):Option (List AD):=
 match l with
 |[]=>none
 |(i,cs)::r=>bif Nat.beq i g then some cs else NW r g
def Sq(l:List (Nat×AD))(d:Nat):Option AD:=
 match l with
 |[]=>none
 |(i,v)::r=>bif Nat.beq i d then some v else Sq r d
def Ss(l:List (Nat×AD))(d:Nat)(w:AD):List (Nat×AD):=
 match l with
 |[]=>[]
 |(i,v)::r=>bif Nat.beq i d then(i,w)::r else(i,v)::Ss r d w
theorem QB{v:AD}{d:Nat}:∀{l:List (Nat×AD)},Sq l d=some v->(d,v)∈l
 |[],h=>by cases h
 |(i,u)::r,h=>by
  unfold Sq at h;rw[J9]at h;by_cases e:i=d
  ·rw[zl e]at h;injection h with h;rw[h,e];simp
  ·rw[zj e]at h;exact yj _ (QB h)
theorem WO{w:AD}{d:Nat}:∀{l:List (Nat×AD)} {p:Nat×AD},p∈Ss l d w->p∈l\/p=(d,w)
 |[],p,h=>by cases h
 | (i,u)::r,p,h=>by
  unfold Ss at h;rw[J9]at h;by_cases e:i=d
  ·rw[zl e]at h;rcases zF.1 h with h|h
   ·right;rw[h,e]
   ·left;exact yj _ h
  ·rw[zj e]at h;rcases zF.1 h with h|h
   ·left;rw[h];simp
   ·rcases WO h with h|h
    ·left;exact yj _ h
    ·right;exact h
theorem Has.fb{fr:Fr}{N:Nat}{l:List (Nat×AD)}(H:Has fr N l)(d:Nat){b w:Bool}(U:b=w)(hd:Sq l d=some (.bool b)):Has fr N (Ss l d (.bool w)):=by
 subst U;refine⟨H.1,λp R=>?_⟩;rcases WO R with h|h
 ·exact H.2 p h
 ·rw[h];exact H.2 _ (QB hd)
inductive U8(P:Program)(fr:Fr)(h:AF):List ResultVar->List AD->Prop where
 |nil:U8 P fr h [] []
 |tmp {t:Tmp} {v:AD} {rs:List ResultVar} {vs:List AD} (e:nth fr t=v) (r:U8 P fr h rs vs):U8 P fr h (.tmp t::rs) (v::vs)
 |cell {a:Tmp} {t:TypeId} {p:Nat×Nat} {v:AD} {rs:List ResultVar} {vs:List AD} (e:nth fr a=.ptr (some p)) (E:JD P (h.get p.1) t p.2=some v) (r:U8 P fr h rs vs):U8 P fr h (.cell a t::rs) (v::vs)
theorem U8.mapM{P:Program}{fr:Fr}{h:AF}{rs:List ResultVar}{vs:List AD}(r:U8 P fr h rs vs):rs.mapM (JS P fr h)=some vs:=by
 induction r with
 |nil=>rfl
 |tmp e _ ih=>rw[xc,ih];simp[JS,e]
 |cell e E _ ih=>rw[xc,ih];simp[JS,e,E]
theorem Pe{P:Program}{fr:Fr}{h:AF}{rs:List ResultVar}{v:AD}(r:U8 P fr h rs [v]):Mm P rs fr h=some v:=by
 unfold Mm;rw[r.mapM]
theorem Cc{P:Program}{fr:Fr}{h:AF}{rs:List ResultVar}{v w:AD}{vs:List AD}(r:U8 P fr h rs (v::w::vs)):Mm P rs fr h=some (.tuple (v::w::vs)):=by
 unfold Mm;rw[r.mapM]
theorem Cg{P:Program}{h:AF}{t:TypeId}{a:Nat×Nat}{n:Nat}{cs:List AD}(ha:La P t=some true)(I:DK P t=some n)(E:GL h a n=some cs):JD P (h.get a.1) t a.2=some (.agg cs):=by
 unfold JD;rw[ha,I];unfold GL at E;simp[E]
section
variable {C:Hv} {S:Self} {g:Gd} {h:AF} {fr:Fr} {op:Op}
def mJ(P:Program)(fr:Fr):Op->Option (List AD×Nat×Nat×Int×Bool)
 | .index t x i=>
  match P.underlying t,ev fr x,ev fr i with
  |some (.array n e),.agg cs,.int _ i=>
   match La P e,DK P e with
   |some b,some z=>some (cs,n,z,i,b)
   |_,_=>none
  |_,_,_=>none
 |_=>none
def gO(P:Program)(t:TypeId)(xs ys:List AD):Option Bool:=if P.eqGuardType P.depth t=true then none else Il P 10000 t (.agg xs) (.agg ys)
def Yi(fr:Fr):Op->Option (Bool×TypeId×List AD×List AD)
 | .binOp op t x y _=>
  match ev fr x,ev fr y,op with
  | .agg xs,.agg ys,.eql=>some (true,t,xs,ys)
  | .agg xs,.agg ys,.neq=>some (false,t,xs,ys)
  |_,_,_=>none
 |_=>none
theorem jj{t:TypeId}{xs ys:List AD}{b:Bool}(G:Yi fr op=some (true,t,xs,ys))(E:gO C.P t xs ys=some b):Bv C S g h fr op=some (.bool b,h):=by
 unfold Yi at G;split at G
 ·split at G
  ·rename_i K W;simp only[zb,ze,qs]at G;obtain⟨rfl,rfl,rfl⟩:=G;unfold gO at E;split at E
   ·cases E
   ·rename_i O;simp[Bv,Jl,Bd,Ku,Vu,W6,K,W,O,E]
  ·simp at G
  ·cases G
 ·cases G
theorem kM{t:TypeId}{xs ys:List AD}{b:Bool}(G:Yi fr op=some (false,t,xs,ys))(E:gO C.P t xs ys=some b):Bv C S g h fr op=some (.bool !b,h):=by
 unfold Yi at G;split at G
 ·split at G
  ·simp at G
  ·rename_i K W;simp only[zb,ze,qs]at G;obtain⟨rfl,rfl,rfl⟩:=G;unfold gO at E;split at E
   ·cases E
   ·rename_i O;simp[Bv,Jl,Bd,Ku,Vu,W6,K,W,O,E]
  ·cases G
 ·cases G
def jP(h:AF):Option Nat->Option (List (AD×AD))
 |none=>some []
 |some id=>
  match h.get id with
  |some (.map st es)=>if st≠0 then some es else none
  |_=>none
def dM(P:Program)(h:AF)(t:TypeId)(m:Option Nat)(k:AD):Option (AD×Bool):=
 match P.underlying t with
 | some (.map kt et)=>
  if Gy P 20 kt k=true then
   match jP h m with
   |some es=>
    match EL P kt k es 0 with
    |some (some (_,v))=>some (v,true)
    |some none=>(Is P et).map λz=>(z,false)
    |none=>none
   |none=>none
  else none
 |_=>none
def ef(fr:Fr):Op->Option (TypeId×Option Nat×AD×Bool)
 | .lookup t x k ok=>
  match ev fr x with
  | .map m=>some (t,m,ev fr k,ok)
  |_=>none
 |_=>none
theorem Ww{P:Program}{h:AF}{t:TypeId}{m:Option Nat}{k v:AD}{b ok:Bool}(E:dM P h t m k=some (v,b)):
  ∃ob,(∀id,m=some id->h.get id=some ob)/\N8 P (m.map λ_=>ob) t (.map m) k ok=some (if ok then .tuple [v,.bool b]else v):=by
 unfold dM at E;split at E
 ·rename_i kt et hu;split at E
  ·rename_i hk;split at E
   ·rename_i es he;cases m with
    | none=>
     refine⟨default,by simp,?_⟩;simp only[jP,zb]at he;subst he;simp only[EL]at E;unfold N8;simp only[hu,hk,if_true,EL];cases Q:Is P et with
     |none=>rw[Q]at E;simp at E
     |some z=>
      rw[Q]at E;simp only[zh,zb,ze]at E;obtain⟨rfl,rfl⟩:=E;rfl
    | some id=>
     simp only[jP]at he;split at he
     ·rename_i st es' O;split at he
      ·rename_i hst;simp only[zb]at he;subst he;refine⟨.map st es',λi hi=>by simp only[zb]at hi;subst hi;exact O,?_⟩;unfold N8;simp only[hu,hk,if_true,zh,hst,ne_eq,not_false_eq_true];split at E
       ·rename_i i w T;simp only[zb,ze]at E;obtain⟨rfl,rfl⟩:=E;rw[T]
       ·rename_i T;rw[T];cases Q:Is P et with
        |none=>rw[Q]at E;simp at E
        |some z=>
         rw[Q]at E;simp only[zh,zb,ze]at E;obtain⟨rfl,rfl⟩:=E;rfl
       ·cases E
      ·cases he
     ·cases he
   ·cases E
  ·cases E
 ·cases E
theorem kO{t:TypeId}{m:Option Nat}{k v:AD}{b ok:Bool}(G:ef fr op=some (t,m,k,ok))(E:dM C.P h t m k=some (v,b)):Bv C S g h fr op=some (if ok then .tuple [v,.bool b]else v,h):=by
 unfold ef at G;split at G
 ·split at G
  ·rename_i ok' _ m' K;simp only[zb,ze]at G;obtain⟨rfl,rfl,rfl,rfl⟩:=G;obtain⟨ob,h1,h2⟩:=Ww (ok:=ok') E;cases hm:m' with
   |none=>
    subst hm;simp only[Option.map_none]at h2;simp[Bv,Jl,Bd,EN,K,GG,Mh,h2]
   |some id=>
    subst hm;simp only[zh]at h2;simp[Bv,Jl,Bd,EN,K,GG,Mh,h1 id rfl,h2]
  ·cases G
 ·cases G
theorem I8{t:TypeId}{m:Option Nat}{k v:AD}{b:Bool}(G:ef fr op=some (t,m,k,true))(E:dM C.P h t m k=some (v,b)):Bv C S g h fr op=some (.tuple [v,.bool b],h):=kO G E
theorem gB{t:TypeId}{m:Option Nat}{k v:AD}{b:Bool}(G:ef fr op=some (t,m,k,false))(E:dM C.P h t m k=some (v,b)):Bv C S g h fr op=some (v,h):=kO G E
def kg(P:Program)(g:Gd)(h:AF)(t:TypeId)(m:Option Nat)(k v:AD):Option AF:=Ho P g h t (.map m) k v
def kT(fr:Fr):Op->Option (TypeId×Option Nat×AD×AD)
 | .mapUpdate t m k v| .insert t m k v=>
  match ev fr m with
  | .map m=>some (t,m,ev fr k,ev fr v)
  |_=>none
 |_=>none
theorem Qe{t:TypeId}{m:Option Nat}{k v:AD}{h':AF}(G:kT fr op=some (t,m,k,v))(E:kg C.P g h t m k v=some h'):Bv C S g h fr op=some (.tuple [],h'):=by
 unfold kg at E;unfold kT at G;split at G
 ·split at G
  ·rename_i K;simp only[zb,ze]at G;obtain⟨rfl,rfl,rfl,rfl⟩:=G;simp[Bv,Jl,Bd,M0,K,E]
  ·cases G
 ·split at G
  ·rename_i K;simp only[zb,ze]at G;obtain⟨rfl,rfl,rfl,rfl⟩:=G;simp[Bv,Jl,Bd,M0,K,E]
  ·cases G
 ·cases G
end
@[irreducible] def dY:Nat:=4611686018427387904
theorem fD:dY=4611686018427387904:=by unfold dY;rfl
def cap{α β:Type}(asE9:AD->Option α)(rest:List AD->Option β):List AD->Option (α×β)
 |v::l=>(asE9 v).bind λx=>(rest l).map λy=>(x,y)
 |[]=>none
end Go.Av
end
/-
 A part.
-/
section
namespace Go.Av
set_option linter.unusedVariables false
inductive Ck where
 |obj (id:Nat) (o:Cs)
 |Am (r:Option Nat) (e:TypeId) (cs:List AD)
def Ck.ids:Ck->List Nat
 | .obj id _=>[id]
 | .Am r _ _=>r.toList
def Ck.ok(h:AF):Ck->Prop
 | .obj id o=>h.get id=some o
 | .Am none _ cs=>cs=[]
 | .Am (some id) e cs=>h.get id=some (.cells (some e) 2 cs)
def EO(L:List Ck):List Nat:=L.flatMap Ck.ids
theorem Dk(A B:List Ck):EO (A++B)=EO A++EO B:=by simp[EO]
theorem Ck.Tp(c:Ck):c.ids.Nodup:=by
 cases c with
 |obj id o=>simp[Ck.ids]
 |Am r e cs=>cases r<;>simp[Ck.ids]
theorem Ck.jY{h:AF}{c:Ck}(k:c.ok h){i:Nat}(hi:i∈c.ids):i<h.size:=by
 cases c with
 |obj id o=>simp[Ck.ids]at hi;subst hi;exact h.CA k
 |Am r e cs=>
  cases r with
  |none=>simp[Ck.ids]at hi
  |some id=>simp[Ck.ids]at hi;subst hi;exact h.CA k
theorem Ck.fx{h h':AF}{c:Ck}(k:c.ok h)(G:∀i∈c.ids,h'.get i=h.get i):c.ok h':=by
 cases c with
 |obj id o=>show h'.get id=_;rw[G id (by simp[Ck.ids])];exact k
 |Am r e cs=>
  cases r with
  |none=>exact k
  |some id=>show h'.get id=_;rw[G id (by simp[Ck.ids])];exact k
structure HH(g:Gd)(h:AF)(L F:List Ck):Prop where
 ok:∀c∈L++F,c.ok h
 nd:(EO (L++F)).Nodup
 may:∀i∈EO L,g.may i=true
 BW:∀i∈g.BW,i<h.size
 floor:g.floor<=h.size
section
variable {g:Gd} {h h':AF} {L F A B C D:List Ck}
theorem HH.lt(a:HH g h L F){i:Nat}(hi:i∈EO (L++F)):i<h.size:=by
 simp only[EO,yU]at hi;obtain⟨c,hc,hi⟩:=hi;exact Ck.jY (a.ok c hc) hi
theorem HH.new(a:HH g h L F):g.may h.size=true:=by
 have h1:Nat.ble g.floor h.size=true:=Nat.ble_eq_true_of_le a.floor;have h2:g.BW.any (Nat.beq h.size)=false:=by
  rw[List.any_eq_false];intro i hi U;have:=a.BW i hi;have:=zt U;omega
 simp[Gd.may,h1,h2]
theorem HH.upd(a:HH g h (A++(C++B)) F)(G:h.size<=h'.size)(J:∀i∈EO (A++B++F),h'.get i=h.get i)(M:∀c∈D,c.ok h')(I:(EO D).Nodup)
  (T:∀i∈EO D,i∉EO (A++B++F)) (hm:∀i∈EO D,g.may i=true):HH g h' (A++(D++B)) F:=by
 have nd':(EO A++(EO C++EO B)++EO F).Nodup:=by have:=a.nd;simpa only[Dk]using this
 refine⟨λc hc=>?_,?_,λi hi=>?_,λi hi=>zX (a.BW i hi) G,z8 a.floor G⟩
 ·have JY:c∈A\/c∈B\/c∈F->c.ok h':=λhc=>by
   have hc1:c∈A++(C++B)++F:=by simp only[zu];rcases hc with h|h|h<;>simp[h]
   refine Ck.fx (a.ok c hc1) λi hi=>J i ?_;simp only[EO,yU];exact⟨c,by simp only[zu];rcases hc with h|h|h<;>simp[h],hi⟩
  simp only[zu]at hc;rcases hc with(hc|hc|hc)|hc
  ·exact JY (.inl hc)
  ·exact M c hc
  ·exact JY (.inr (.inl hc))
  ·exact JY (.inr (.inr hc))
 ·have R:(EO (A++(D++B)++F)).Perm (EO D++EO (A++B++F)):=by
   simp only[Dk,zC];refine(qD _ _ _)
  rw[R.nodup_iff,yd];refine⟨I,?_,λi hi j X e=>T i hi (e ▸ X)⟩;have V:(EO (A++(C++B)++F)).Perm (EO C++EO (A++B++F)):=by
   simp only[Dk,zC];exact(qD _ _ _)
  exact(yd.1 (V.nodup_iff.1 a.nd)).2.1
 ·simp only[Dk,zu]at hi;rcases hi with hi|hi|hi
  ·exact a.may i (by simp only[Dk,zu];exact .inl hi)
  ·exact hm i hi
  ·exact a.may i (by simp only[Dk,zu];exact .inr (.inr hi))
theorem HH.perm(a:HH g h L F)(R:A.Perm L):HH g h A F:=by
 have V:(A++F).Perm (L++F):=R.append_right F;refine⟨λc hc=>a.ok c (V.mem_iff.1 hc),?_,λi hi=>a.may i ?_,a.BW,a.floor⟩
 ·exact((V.flatMap_right Ck.ids).nodup_iff).2 a.nd
 ·exact((R.flatMap_right Ck.ids).mem_iff).1 hi
theorem KR{k:Nat}{c:Ck}(hk:L[k]?=some c):L=L.take k++([c]++L.drop (k+1)):=by
 obtain⟨E,e⟩:=List.getElem?_eq_some_iff.1 hk;rw[qw,<-e,<-zT E,zI]
theorem Qb{k:Nat}{c d:Ck}(hk:L[k]?=some c):L.set k d=L.take k++([d]++L.drop (k+1)):=by
 have E:=(List.getElem?_eq_some_iff.1 hk).1;rw[yV,zl E,qw]
theorem HH.mem(a:HH g h L F){k:Nat}{c:Ck}(hk:L[k]?=some c):c.ok h:=a.ok c (zu.2 (.inl (zN hk)))
theorem HH.get(a:HH g h L F)(k:Nat){id:Nat}{o:Cs}(hk:L[k]?=some (.obj id o)):h.get id=some o:=a.mem hk
theorem HH.OP(a:HH g h L F){k:Nat}{c:Ck}(hk:L[k]?=some c){i:Nat}(hi:i∈c.ids):g.may i=true:=
 a.may i (by simp only[EO,yU];exact⟨c,zN hk,hi⟩)
theorem HH.gS(a:HH g h L F){k:Nat}{c:Ck}(hk:L[k]?=some c){i:Nat}(hi:i∈c.ids):i∉EO (L.take k++L.drop (k+1)++F):=by
 have V:(EO (L++F)).Perm (c.ids++EO (L.take k++L.drop (k+1)++F)):=by
  conv=>lhs;rw[KR hk]
  simp only[Dk,zC];have:EO [c]=c.ids:=by simp[EO]
  rw[this];exact(qD _ _ _)
 exact λhm=>(yd.1 (V.nodup_iff.1 a.nd)).2.2 i hi i hm rfl
theorem HH.VQ(a:HH g h L F){k:Nat}{c d:Ck}(hk:L[k]?=some c)(G:h.size<=h'.size)(J:∀i,i<h.size->i∉c.ids->h'.get i=h.get i)(M:d.ok h')
  (T:∀i∈d.ids,i∈c.ids\/h.size<=i) (hm:∀i∈d.ids,g.may i=true):HH g h' (L.set k d) F:=by
 rw[Qb hk];have a':=a;rw[KR hk]at a';refine a'.upd G (λi hi=>?_) (λx K=>by rw[zU.1 K];exact M) (by simpa[EO]using d.Tp) (λi hi I=>?_) (λi hi=>hm i (by simpa[EO]using hi))
 ·refine J i (a.lt ?_) (λhc=>a.gS hk hc hi);rw[KR hk];simp only[Dk,zu]at hi⊢;rcases hi with(hi|hi)|hi
  ·exact .inl (.inl hi)
  ·exact .inl (.inr (.inr hi))
  ·exact .inr hi
 ·rcases T i (by simpa[EO]using hi)with h1|h1
  ·exact a.gS hk h1 I
  ·have:i<h.size:=a.lt (by
    rw[KR hk];simp only[Dk,zu]at I⊢;rcases I with(I|I)|I
    ·exact .inl (.inl I)
    ·exact .inl (.inr (.inr I))
    ·exact .inr I)
   omega
theorem HH.set(a:HH g h L F)(k:Nat){id:Nat}{o:Cs}(o':Cs)(hk:L[k]?=some (.obj id o)):HH g (h.set id o') (L.set k (.obj id o')) F:=by
 have O:=a.get k hk;have hid:=h.CA O;refine a.VQ hk (by simp) (λi _ hi=>h.CN _ hid (by simpa[Ck.ids]using hi)) (h.get_set_same _ hid) (λi hi=>.inl hi) (λi hi=>a.OP hk hi)
theorem HH.add(a:HH g h L F){c:Ck}(G:h.size<=h'.size)(J:∀i,i<h.size->h'.get i=h.get i)(M:c.ok h')(T:∀i∈c.ids,h.size<=i)(hm:∀i∈c.ids,g.may i=true):HH g h' (c::L) F:=by
 have:=HH.upd (A:=[]) (C:=[]) (B:=L) (D:=[c]) (h':=h') (g:=g) (h:=h) (F:=F) (by simpa using a) G (λi hi=>J i (a.lt (by simpa using hi))) (λx K=>by rw[zU.1 K];exact M) (by simpa[EO]using c.Tp)
  (λi hi I=>by have:=T i (by simpa[EO]using hi);have:=a.lt (i:=i) (by simpa using I);omega) (λi hi=>hm i (by simpa[EO]using hi))
 simpa using this
theorem HH.push(a:HH g h L F)(o:Cs):HH g (h.push o) (.obj h.size o::L) F:=
 a.add (by simp) (λi hi=>h.Ci o hi) (h.C7 o) (λi hi=>by simp[Ck.ids]at hi;omega) (λi hi=>by simp[Ck.ids]at hi;rw[hi];exact a.new)
theorem HH.YO(a:HH g h L F)(e:TypeId)(cs:List AD):HH g (h.push (.cells (some e) 2 cs)) (.Am (some h.size) e cs::L) F:=
 a.add (by simp) (λi hi=>h.Ci _ hi) (h.C7 _) (λi hi=>by simp[Ck.ids]at hi;omega) (λi hi=>by simp[Ck.ids]at hi;rw[hi];exact a.new)
theorem HH.Kz(a:HH g h L F)(e:TypeId):HH g h (.Am none e []::L) F:=
 a.add (zw _) (λ_ _=>rfl) rfl (λi hi=>by simp[Ck.ids]at hi) (λi hi=>by simp[Ck.ids]at hi)
theorem HH.front(a:HH g h L F)(k:Nat){c:Ck}(hk:L[k]?=some c):HH g h (c::L.eraseIdx k) F:=by
 refine a.perm ?_
 conv=>rhs;rw[KR hk]
 rw[List.eraseIdx_eq_take_drop_succ,qw];exact List.perm_middle.symm
theorem HH.tail{c:Ck}(a:HH g h (c::L) F):HH g h L F:=by
 have:=HH.upd (A:=[]) (C:=[c]) (B:=L) (D:=[]) (h':=h) (g:=g) (h:=h) (F:=F) (by simpa using a) (zw _) (λi hi=>rfl) (λx K=>by cases K) (by simp[EO]) (λi hi=>by simp[EO]at hi) (λi hi=>by simp[EO]at hi);simpa using this
theorem HH.cut(a:HH g h L F)(n:Nat):HH g h (L.take n) (L.drop n++F):=by
 have e:L.take n++(L.drop n++F)=L++F:=by rw[<-zC,zI]
 exact⟨by rw[e];exact a.ok,by rw[e];exact a.nd,λi hi=>a.may i (by
  rw[<-zI n L,Dk];exact zu.2 (.inl hi)),a.BW,a.floor⟩
theorem HH.kS(a:HH g h L F){pr:List Nat}(R:∀i∈EO L,i∉pr)(E:∀i∈pr,i<h.size):HH ⟨g.floor,pr++g.BW⟩ h L F:=by
 refine⟨a.ok,a.nd,λi hi=>?_,λi hi=>?_,a.floor⟩
 ·have:=a.may i hi;simp only[Gd.may,zf,zH]at this⊢;refine⟨this.1,?_⟩;rw[xv,this.2,yY,List.any_eq_false];intro j X U;exact R i hi (zt U ▸ X)
 ·rcases zu.1 hi with hi|hi
  ·exact E i hi
  ·exact a.BW i hi
theorem HH.glue{g':Gd}{n:Nat}{L':List Ck}(a:HH g h L F)(b:HH g' h' L' (L.drop n++F))(O:∀i,g'.may i=true->g.may i=true)(R:∀i∈g.BW,i∈g'.BW)(hfl:g'.floor=g.floor):HH g h' (L'++L.drop n) F:=by
 have e:L'++L.drop n++F=L'++(L.drop n++F):=zC _ _ _;refine⟨by rw[e];exact b.ok,by rw[e];exact b.nd,λi hi=>?_,λi hi=>b.BW i (R i hi),by rw[<-hfl];exact b.floor⟩;rw[Dk,zu]at hi;rcases hi with hi|hi
 ·exact O i (b.may i hi)
 ·exact a.may i (by rw[<-zI n L,Dk];exact zu.2 (.inr hi))
theorem HH.Gr{n:Nat}{L':List Ck}(a:HH g h L F)(b:HH g h' L' (L.drop n++F)):HH g h' (L'++L.drop n) F:=a.glue b (λ_ h=>h) (λ_ h=>h) rfl
end
section
variable {g:Gd} {h:AF} {L F:List Ck}
theorem HH.GL(a:HH g h L F)(k:Nat){id:Nat}{gr:Option TypeId}{cs:List AD}(hk:L[k]?=some (.obj id (.cells gr 2 cs))){o n:Nat}{ds:List AD}(hd:o+n<=cs.length/\(cs.drop o).take n=ds):GL h (id,o) n=some ds:=by
 unfold Av.GL DG;simp only[a.get k hk];rw[zl ⟨by simp,hd.1⟩,hd.2]
theorem HH.ld1(a:HH g h L F)(k:Nat){id:Nat}{gr:Option TypeId}{cs:List AD}(hk:L[k]?=some (.obj id (.cells gr 2 cs))){o:Nat}{v:AD}(Y:cs[o]?=some v):ld1 h (id,o)=some v:=by
 have E:=(List.getElem?_eq_some_iff.1 Y).1;unfold Av.ld1 DG;simp only[a.get k hk];rw[zl ⟨by simp,by omega⟩];have e:=(List.getElem?_eq_some_iff.1 Y).2;rw[zT E,e];rfl
theorem HH.st(a:HH g h L F)(k:Nat){id:Nat}{gr:Option TypeId}{cs:List AD}(hk:L[k]?=some (.obj id (.cells gr 2 cs))){o:Nat}{new ds:List AD}(E:o+new.length<=cs.length)(h1:new.all AD.one=true)(hd:FY cs o (OU gr new)=ds):
  ∃h',st g h (id,o) new=some h'/\HH g h' (L.set k (.obj id (.cells gr 2 ds))) F:=by
 refine⟨_,?_,a.set k _ hk⟩;unfold Av.st EK;simp only[a.get k hk];rw[zl ⟨a.OP hk (by simp[Ck.ids]),E,h1⟩,hd]
def Ad(r:Option Nat)(n:Nat):AD:=.slice (r.map λi=>(i,0)) n
def GA(r:Option Nat)(n:Nat):Sl:=⟨r.map λi=>(i,0),n⟩
theorem DO(a:HH g h L F)(k:Nat){r:Option Nat}{e:TypeId}{cs:List AD}(hk:L[k]?=some (.Am r e cs)){n z:Nat}(I:cs.length=n*z)(Q:z≠0):EG h z n (Ad r n)=some cs:=by
 have M:=a.mem hk;unfold Ad EG;cases r with
 | none=>
  have:cs=[]:=M;subst this;have h0:n=0:=by
   have:n*z=0:=by simpa using I.symm
   rcases qX.1 this with h|h
   ·exact h
   ·exact absurd h Q
  subst h0;simp
 | some id=>
  have O:h.get id=some (.cells (some e) 2 cs):=M;simp only[zh];by_cases h0:n=0
  ·subst h0;rw[zl rfl];have:cs=[]:=zx (by simpa using I);rw[this]
  ·rw[zj h0];unfold DG;simp only[O];rw[zl ⟨by simp,by omega⟩,yn,<-I,yr]
theorem HH.app(a:HH g h L F)(k:Nat){r:Option Nat}{e:TypeId}{cs new new':List AD}{z bytes n m:Nat}{x:AD}(hk:L[k]?=some (.Am r e cs))(I:cs.length=n*z)(Q:z≠0)(K:EG h z m x=some new)(hc:new.map GV=new')(hm:new'.length=m*z)
  (U:n+m<=1099511627776/\(n+m)*bytes<=1099511627776) (h1:cs.all AD.one=true) (h2:new'.all AD.one=true):
  ∃r' h',Av.app e z bytes g h (GA r n) m x=some (GA r' (n+m),h')/\HH g h' (L.set k (.Am r' e (cs++new'))) F:=by
 have hfo:EG h z n (Ad r n)=some cs:=DO a k hk I Q;unfold Av.app;by_cases h0:m=0
 ·subst h0;refine⟨r,h,by simp[GA],?_⟩;have:new'=[]:=zx (by simpa using hm);subst this;rw[zR];have:L.set k (.Am r e cs)=L:=by rw[Qb hk,<-KR hk]
  rw[this];exact a
 ·rw[zj h0,zl (show(GA r n).n+m<=1099511627776/\((GA r n).n+m)*bytes<=1099511627776 from U)];simp only[GA,K,zh,hc];rw[show EG h z n (.slice (r.map λi=>(i,0)) n)=some cs from hfo];simp only;rw[zl (by rw[qe,h1,h2];rfl)];cases r with
  |none=>
   refine⟨some h.size,_,rfl,?_⟩;exact a.VQ hk (by simp) (λi hi _=>h.Ci _ hi) (h.C7 _) (λi hi=>by simp[Ck.ids]at hi;omega) (λi hi=>by simp[Ck.ids]at hi;rw[hi];exact a.new)
  | some id=>
   have O:h.get id=some (.cells (some e) 2 cs):=a.mem hk;have hid:=h.CA O;simp only[zh,O];rw[zl ⟨a.OP hk (by simp[Ck.ids]),trivial⟩];refine⟨some h.size,_,rfl,?_⟩;refine a.VQ hk (by simp) (λi hi I=>?_) ?_ (λi hi=>by simp[Ck.ids]at hi;omega) (λi hi=>by simp[Ck.ids]at hi;rw[hi];exact a.new)
   ·rw[AF.Ci _ _ (by simpa using hi)];exact h.CN _ hid (by simpa[Ck.ids]using I)
   ·have:=AF.C7 (h.set id (.cells (some e) 0 [])) (.cells (some e) 2 (cs++new'));exact this
theorem HH.eF{r:Option Nat}{e:TypeId}{cs:List AD}{n z:Nat}(a:HH g h (.Am r e cs::L) F)(I:cs.length=n*z)(Q:z≠0):∃h',KG g h (Ad r n)=some (.Im n cs,h')/\HH g h' L F:=by
 have hk:(Ck.Am r e cs::L)[0]?=some (.Am r e cs):=rfl;unfold Ad;by_cases h0:n=0
 ·subst h0;have:cs=[]:=zx (by simpa using I);subst this;cases r with
  |none=>exact⟨h,rfl,a.tail⟩
  |some id=>exact⟨h,rfl,a.tail⟩
 ·cases r with
  |none=>
   exfalso;have hc:cs=[]:=a.mem hk;subst hc;have h1:n*z=0:=by simpa using I.symm
   rcases qX.1 h1 with h|h
   ·exact h0 h
   ·exact Q h
  |some id=>
   have O:h.get id=some (.cells (some e) 2 cs):=a.mem hk;have hid:=h.CA O;have U:Nat.beq n 0=false:=by cases n;exact absurd rfl h0;rfl
   refine⟨h.set id (.cells (some e) 0 cs),by simp only[KG,zh,U,yO,O,a.OP hk (i:=id) (by simp[Ck.ids]),zL],?_⟩;have b:=a.VQ (d:=.Am none e []) (h':=h.set id (.cells (some e) 0 cs)) hk (by simp) (λi _ hi=>h.CN _ hid (by simpa[Ck.ids]using hi)) rfl (λi hi=>by simp[Ck.ids]at hi) (λi hi=>by simp[Ck.ids]at hi);exact HH.tail (c:=.Am none e []) b
end
abbrev oB(n:Nat)(cs:List AD):Ck:=.obj n (.cells none 2 cs)
end Go.Av
end
