/-
  Several texts in one.
-/
import Derived.Test.YtlddjbgohnlihaaGreatDoorAvWalk
/-
 A part.
-/
section
namespace Go.Av
set_option linter.unusedSimpArgs false
def LP(l:List (Nat×List AB))(g:Nat):Option (List AB):=
 match l with
 |[]=>none
 |(i,cs)::r=>bif Nat.beq i g then some cs else LP r g
def RT(l:List (Nat×AB))(d:Nat):Option AB:=
 match l with
 |[]=>none
 |(i,v)::r=>bif Nat.beq i d then some v else RT r d
def QL(l:List (Nat×AB))(d:Nat)(w:AB):List (Nat×AB):=
 match l with
 |[]=>[]
 |(i,v)::r=>bif Nat.beq i d then(i,w)::r else(i,v)::QL r d w
theorem N2{v:AB}{d:Nat}:∀{l:List (Nat×AB)},RT l d=some v→(d,v)∈l
 |[],h=>by cases h
 |(i,u)::r,h=>by
  unfold RT at h;rw[Ik]at h;by_cases e:i=d
  ·rw[zm e]at h;injection h with h;rw[h,e];simp
  ·rw[zk e]at h;exact yw _ (N2 h)
theorem TL{w:AB}{d:Nat}:∀{l:List (Nat×AB)} {p:Nat×AB},p∈QL l d w→p∈l∨p=(d,w)
 |[],p,h=>by cases h
 | (i,u)::r,p,h=>by
  unfold QL at h;rw[Ik]at h;by_cases e:i=d
  ·rw[zm e]at h;rcases zF.1 h with h|h
   ·right;rw[h,e]
   ·left;exact yw _ h
  ·rw[zk e]at h;rcases zF.1 h with h|h
   ·left;rw[h];simp
   ·rcases TL h with h|h
    ·left;exact yw _ h
    ·right;exact h
theorem Has.bT{fr:Fr}{N:Nat}{l:List (Nat×AB)}(H:Has fr N l)(d:Nat){b w:Bool}(V:b=w)(hd:RT l d=some (.bool b)):Has fr N (QL l d (.bool w)):=by
 subst V;refine⟨H.1,fun p T=>?_⟩;rcases TL T with h|h
 ·exact H.2 p h
 ·rw[h];exact H.2 _ (N2 hd)
inductive SY(P:Program)(fr:Fr)(h:AI):List ResultVar→List AB→Prop where
 |nil:SY P fr h [] []
 |tmp {t:Tmp} {v:AB} {rs:List ResultVar} {vs:List AB} (e:nth fr t=v) (r:SY P fr h rs vs):SY P fr h (.tmp t::rs) (v::vs)
 |cell {a:Tmp} {t:TypeId} {p:Nat×Nat} {v:AB} {rs:List ResultVar} {vs:List AB} (e:nth fr a=.ptr (some p)) (E:Ha P (h.get p.1) t p.2=some v) (r:SY P fr h rs vs):SY P fr h (.cell a t::rs) (v::vs)
theorem SY.mapM{P:Program}{fr:Fr}{h:AI}{rs:List ResultVar}{vs:List AB}(r:SY P fr h rs vs):rs.mapM (Ht P fr h)=some vs:=by
 induction r with
 |nil=>rfl
 |tmp e _ ih=>rw[qX,ih];simp[Ht,e]
 |cell e E _ ih=>rw[qX,ih];simp[Ht,e,E]
theorem L0{P:Program}{fr:Fr}{h:AI}{rs:List ResultVar}{v:AB}(r:SY P fr h rs [v]):Ml P rs fr h=some v:=by
 unfold Ml;rw[r.mapM]
theorem Bs{P:Program}{fr:Fr}{h:AI}{rs:List ResultVar}{v w:AB}{vs:List AB}(r:SY P fr h rs (v::w::vs)):Ml P rs fr h=some (.tuple (v::w::vs)):=by
 unfold Ml;rw[r.mapM]
theorem Bm{P:Program}{h:AI}{t:TypeId}{a:Nat×Nat}{n:Nat}{cs:List AB}(ha:Jx P t=some true)(I:CP P t=some n)(E:DY h a n=some cs):Ha P (h.get a.1) t a.2=some (.agg cs):=by
 unfold Ha;rw[ha,I];unfold DY at E;simp[E]
section
variable {C:Gp} {S:Self} {g:Gd} {h:AI} {fr:Fr} {op:Op}
def eh(P:Program)(fr:Fr):Op→Option (List AB×Nat×Nat×Int×Bool)
 | .index t x i=>
  match P.underlying t,ev fr x,ev fr i with
  |some (.array n e),.agg cs,.int _ i=>
   match Jx P e,CP P e with
   |some b,some z=>some (cs,n,z,i,b)
   |_,_=>none
  |_,_,_=>none
 |_=>none
def ZK(P:Program)(t:TypeId)(xs ys:List AB):Option Bool:=if P.eqGuardType P.depth t=true then none else HT P 10000 t (.agg xs) (.agg ys)
def Vm(fr:Fr):Op→Option (Bool×TypeId×List AB×List AB)
 | .binOp op t x y _=>
  match ev fr x,ev fr y,op with
  | .agg xs,.agg ys,.eql=>some (true,t,xs,ys)
  | .agg xs,.agg ys,.neq=>some (false,t,xs,ys)
  |_,_,_=>none
 |_=>none
theorem cY{t:TypeId}{xs ys:List AB}{b:Bool}(G:Vm fr op=some (true,t,xs,ys))(E:ZK C.P t xs ys=some b):BC C S g h fr op=some (.bool b,h):=by
 unfold Vm at G;split at G
 ·split at G
  ·rename_i K X;simp only[zd,zg,qP]at G;obtain⟨rfl,rfl,rfl⟩:=G;unfold ZK at E;split at E
   ·cases E
   ·rename_i O;simp[BC,IJ,A4,It,Rp,SG,K,X,O,E]
  ·simp at G
  ·cases G
 ·cases G
theorem cq{t:TypeId}{xs ys:List AB}{b:Bool}(G:Vm fr op=some (false,t,xs,ys))(E:ZK C.P t xs ys=some b):BC C S g h fr op=some (.bool !b,h):=by
 unfold Vm at G;split at G
 ·split at G
  ·simp at G
  ·rename_i K X;simp only[zd,zg,qP]at G;obtain⟨rfl,rfl,rfl⟩:=G;unfold ZK at E;split at E
   ·cases E
   ·rename_i O;simp[BC,IJ,A4,It,Rp,SG,K,X,O,E]
  ·cases G
 ·cases G
def ck(h:AI):Option Nat→Option (List (AB×AB))
 |none=>some []
 |some id=>
  match h.get id with
  |some (.map st es)=>if st≠0 then some es else none
  |_=>none
def ab(P:Program)(h:AI)(t:TypeId)(m:Option Nat)(k:AB):Option (AB×Bool):=
 match P.underlying t with
 | some (.map kt et)=>
  if Fp P 20 kt k=true then
   match ck h m with
   |some es=>
    match Dd P kt k es 0 with
    |some (some (_,v))=>some (v,true)
    |some none=>(JE P et).map fun z=>(z,false)
    |none=>none
   |none=>none
  else none
 |_=>none
def bm(fr:Fr):Op→Option (TypeId×Option Nat×AB×Bool)
 | .lookup t x k ok=>
  match ev fr x with
  | .map m=>some (t,m,ev fr k,ok)
  |_=>none
 |_=>none
theorem TB{P:Program}{h:AI}{t:TypeId}{m:Option Nat}{k v:AB}{b ok:Bool}(E:ab P h t m k=some (v,b)):
  ∃ob,(∀id,m=some id→h.get id=some ob)∧L1 P (m.map fun _=>ob) t (.map m) k ok=some (if ok then .tuple [v,.bool b]else v):=by
 unfold ab at E;split at E
 ·rename_i kt et hu;split at E
  ·rename_i hk;split at E
   ·rename_i es he;cases m with
    | none=>
     refine⟨default,by simp,?_⟩;simp only[ck,zd]at he;subst he;simp only[Dd]at E;unfold L1;simp only[hu,hk,if_true,Dd];cases Q:JE P et with
     |none=>rw[Q]at E;simp at E
     |some z=>
      rw[Q]at E;simp only[zj,zd,zg]at E;obtain⟨rfl,rfl⟩:=E;rfl
    | some id=>
     simp only[ck]at he;split at he
     ·rename_i st es' O;split at he
      ·rename_i hst;simp only[zd]at he;subst he;refine⟨.map st es',fun i hi=>by simp only[zd]at hi;subst hi;exact O,?_⟩;unfold L1;simp only[hu,hk,if_true,zj,hst,ne_eq,not_false_eq_true];split at E
       ·rename_i i w U;simp only[zd,zg]at E;obtain⟨rfl,rfl⟩:=E;rw[U]
       ·rename_i U;rw[U];cases Q:JE P et with
        |none=>rw[Q]at E;simp at E
        |some z=>
         rw[Q]at E;simp only[zj,zd,zg]at E;obtain⟨rfl,rfl⟩:=E;rfl
       ·cases E
      ·cases he
     ·cases he
   ·cases E
  ·cases E
 ·cases E
theorem eB{t:TypeId}{m:Option Nat}{k v:AB}{b ok:Bool}(G:bm fr op=some (t,m,k,ok))(E:ab C.P h t m k=some (v,b)):BC C S g h fr op=some (if ok then .tuple [v,.bool b]else v,h):=by
 unfold bm at G;split at G
 ·split at G
  ·rename_i ok' _ m' K;simp only[zd,zg]at G;obtain⟨rfl,rfl,rfl,rfl⟩:=G;obtain⟨ob,h1,h2⟩:=TB (ok:=ok') E;cases hm:m' with
   |none=>
    subst hm;simp only[Option.map_none]at h2;simp[BC,IJ,A4,Dg,K,E4,Kx,h2]
   |some id=>
    subst hm;simp only[zj]at h2;simp[BC,IJ,A4,Dg,K,E4,Kx,h1 id rfl,h2]
  ·cases G
 ·cases G
theorem Nq{t:TypeId}{m:Option Nat}{k v:AB}{b:Bool}(G:bm fr op=some (t,m,k,true))(E:ab C.P h t m k=some (v,b)):BC C S g h fr op=some (.tuple [v,.bool b],h):=eB G E
def dh(P:Program)(g:Gd)(h:AI)(t:TypeId)(m:Option Nat)(k v:AB):Option AI:=GO P g h t (.map m) k v
def cw(fr:Fr):Op→Option (TypeId×Option Nat×AB×AB)
 | .mapUpdate t m k v| .insert t m k v=>
  match ev fr m with
  | .map m=>some (t,m,ev fr k,ev fr v)
  |_=>none
 |_=>none
theorem O1{t:TypeId}{m:Option Nat}{k v:AB}{h':AI}(G:cw fr op=some (t,m,k,v))(E:dh C.P g h t m k v=some h'):BC C S g h fr op=some (.tuple [],h'):=by
 unfold dh at E;unfold cw at G;split at G
 ·split at G
  ·rename_i K;simp only[zd,zg]at G;obtain⟨rfl,rfl,rfl,rfl⟩:=G;simp[BC,IJ,A4,K0,K,E]
  ·cases G
 ·split at G
  ·rename_i K;simp only[zd,zg]at G;obtain⟨rfl,rfl,rfl,rfl⟩:=G;simp[BC,IJ,A4,K0,K,E]
  ·cases G
 ·cases G
end
@[irreducible] def YY:Nat:=4611686018427387904
theorem Zk:YY=4611686018427387904:=by unfold YY;rfl
def cap{α β:Type}(as:AB→Option α)(rest:List AB→Option β):List AB→Option (α×β)
 |v::l=>(as v).bind fun x=>(rest l).map fun y=>(x,y)
 |[]=>none
end Go.Av
end
/-
 A part.
-/
section
namespace Go.Av
set_option linter.unusedVariables false
inductive Ck where
 |obj (id:Nat) (o:B0)
 |Af (r:Option Nat) (e:TypeId) (cs:List AB)
def Ck.ids:Ck→List Nat
 | .obj id _=>[id]
 | .Af r _ _=>r.toList
def Ck.ok(h:AI):Ck→Prop
 | .obj id o=>h.get id=some o
 | .Af none _ cs=>cs=[]
 | .Af (some id) e cs=>h.get id=some (.cells (some e) 2 cs)
def DU(L:List Ck):List Nat:=L.flatMap Ck.ids
theorem Cq(A B:List Ck):DU (A++B)=DU A++DU B:=by simp[DU]
theorem Ck.Q2(c:Ck):c.ids.Nodup:=by
 cases c with
 |obj id o=>simp[Ck.ids]
 |Af r e cs=>cases r<;>simp[Ck.ids]
theorem Ck.dS{h:AI}{c:Ck}(k:c.ok h){i:Nat}(hi:i∈c.ids):i<h.size:=by
 cases c with
 |obj id o=>simp[Ck.ids]at hi;subst hi;exact h.BN k
 |Af r e cs=>
  cases r with
  |none=>simp[Ck.ids]at hi
  |some id=>simp[Ck.ids]at hi;subst hi;exact h.BN k
theorem Ck.aN{h h':AI}{c:Ck}(k:c.ok h)(G:∀i∈c.ids,h'.get i=h.get i):c.ok h':=by
 cases c with
 |obj id o=>show h'.get id=_;rw[G id (by simp[Ck.ids])];exact k
 |Af r e cs=>
  cases r with
  |none=>exact k
  |some id=>show h'.get id=_;rw[G id (by simp[Ck.ids])];exact k
structure HH(g:Gd)(h:AI)(L F:List Ck):Prop where
 ok:∀c∈L++F,c.ok h
 nd:(DU (L++F)).Nodup
 may:∀i∈DU L,g.may i=true
 CF:∀i∈g.CF,i<h.size
 floor:g.floor≤h.size
section
variable {g:Gd} {h h':AI} {L F A B C D:List Ck}
theorem HH.lt(a:HH g h L F){i:Nat}(hi:i∈DU (L++F)):i<h.size:=by
 simp only[DU,qg]at hi;obtain⟨c,hc,hi⟩:=hi;exact Ck.dS (a.ok c hc) hi
theorem HH.new(a:HH g h L F):g.may h.size=true:=by
 have h1:Nat.ble g.floor h.size=true:=Nat.ble_eq_true_of_le a.floor;have h2:g.CF.any (Nat.beq h.size)=false:=by
  rw[List.any_eq_false];intro i hi V;have:=a.CF i hi;have:=zu V;omega
 simp[Gd.may,h1,h2]
theorem HH.upd(a:HH g h (A++(C++B)) F)(G:h.size≤h'.size)(J:∀i∈DU (A++B++F),h'.get i=h.get i)(M:∀c∈D,c.ok h')(I:(DU D).Nodup)
  (U:∀i∈DU D,i∉DU (A++B++F)) (hm:∀i∈DU D,g.may i=true):HH g h' (A++(D++B)) F:=by
 have nd':(DU A++(DU C++DU B)++DU F).Nodup:=by have:=a.nd;simpa only[Cq]using this
 refine⟨fun c hc=>?_,?_,fun i hi=>?_,fun i hi=>zX (a.CF i hi) G,y8 a.floor G⟩
 ·have Hr:c∈A∨c∈B∨c∈F→c.ok h':=fun hc=>by
   have hc1:c∈A++(C++B)++F:=by simp only[zB];rcases hc with h|h|h<;>simp[h]
   refine Ck.aN (a.ok c hc1) fun i hi=>J i ?_;simp only[DU,qg];exact⟨c,by simp only[zB];rcases hc with h|h|h<;>simp[h],hi⟩
  simp only[zB]at hc;rcases hc with(hc|hc|hc)|hc
  ·exact Hr (.inl hc)
  ·exact M c hc
  ·exact Hr (.inr (.inl hc))
  ·exact Hr (.inr (.inr hc))
 ·have T:(DU (A++(D++B)++F)).Perm (DU D++DU (A++B++F)):=by
   simp only[Cq,zw];refine(qF _ _ _)
  rw[T.nodup_iff,yh];refine⟨I,?_,fun i hi j Y e=>U i hi (e ▸ Y)⟩;have W:(DU (A++(C++B)++F)).Perm (DU C++DU (A++B++F)):=by
   simp only[Cq,zw];exact(qF _ _ _)
  exact(yh.1 (W.nodup_iff.1 a.nd)).2.1
 ·simp only[Cq,zB]at hi;rcases hi with hi|hi|hi
  ·exact a.may i (by simp only[Cq,zB];exact .inl hi)
  ·exact hm i hi
  ·exact a.may i (by simp only[Cq,zB];exact .inr (.inr hi))
theorem HH.perm(a:HH g h L F)(T:A.Perm L):HH g h A F:=by
 have W:(A++F).Perm (L++F):=T.append_right F;refine⟨fun c hc=>a.ok c (W.mem_iff.1 hc),?_,fun i hi=>a.may i ?_,a.CF,a.floor⟩
 ·exact((W.flatMap_right Ck.ids).nodup_iff).2 a.nd
 ·exact((T.flatMap_right Ck.ids).mem_iff).1 hi
theorem Iy{k:Nat}{c:Ck}(hk:L[k]?=some c):L=L.take k++([c]++L.drop (k+1)):=by
 obtain⟨E,e⟩:=List.getElem?_eq_some_iff.1 hk;rw[qx,←e,←zP E,zM]
theorem OF{k:Nat}{c d:Ck}(hk:L[k]?=some c):L.set k d=L.take k++([d]++L.drop (k+1)):=by
 have E:=(List.getElem?_eq_some_iff.1 hk).1;rw[yH,zm E,qx]
theorem HH.mem(a:HH g h L F){k:Nat}{c:Ck}(hk:L[k]?=some c):c.ok h:=a.ok c (zB.2 (.inl (zQ hk)))
theorem HH.get(a:HH g h L F)(k:Nat){id:Nat}{o:B0}(hk:L[k]?=some (.obj id o)):h.get id=some o:=a.mem hk
theorem HH.Mv(a:HH g h L F){k:Nat}{c:Ck}(hk:L[k]?=some c){i:Nat}(hi:i∈c.ids):g.may i=true:=
 a.may i (by simp only[DU,qg];exact⟨c,zQ hk,hi⟩)
theorem HH.aS(a:HH g h L F){k:Nat}{c:Ck}(hk:L[k]?=some c){i:Nat}(hi:i∈c.ids):i∉DU (L.take k++L.drop (k+1)++F):=by
 have W:(DU (L++F)).Perm (c.ids++DU (L.take k++L.drop (k+1)++F)):=by
  conv=>lhs;rw[Iy hk]
  simp only[Cq,zw];have:DU [c]=c.ids:=by simp[DU]
  rw[this];exact(qF _ _ _)
 exact fun hm=>(yh.1 (W.nodup_iff.1 a.nd)).2.2 i hi i hm rfl
theorem HH.Rg(a:HH g h L F){k:Nat}{c d:Ck}(hk:L[k]?=some c)(G:h.size≤h'.size)(J:∀i,i<h.size→i∉c.ids→h'.get i=h.get i)(M:d.ok h')
  (U:∀i∈d.ids,i∈c.ids∨h.size≤i) (hm:∀i∈d.ids,g.may i=true):HH g h' (L.set k d) F:=by
 rw[OF hk];have a':=a;rw[Iy hk]at a';refine a'.upd G (fun i hi=>?_) (fun x K=>by rw[yT.1 K];exact M) (by simpa[DU]using d.Q2) (fun i hi I=>?_) (fun i hi=>hm i (by simpa[DU]using hi))
 ·refine J i (a.lt ?_) (fun hc=>a.aS hk hc hi);rw[Iy hk];simp only[Cq,zB]at hi⊢;rcases hi with(hi|hi)|hi
  ·exact .inl (.inl hi)
  ·exact .inl (.inr (.inr hi))
  ·exact .inr hi
 ·rcases U i (by simpa[DU]using hi)with h1|h1
  ·exact a.aS hk h1 I
  ·have:i<h.size:=a.lt (by
    rw[Iy hk];simp only[Cq,zB]at I⊢;rcases I with(I|I)|I
    ·exact .inl (.inl I)
    ·exact .inl (.inr (.inr I))
    ·exact .inr I)
   omega
theorem HH.set(a:HH g h L F)(k:Nat){id:Nat}{o:B0}(o':B0)(hk:L[k]?=some (.obj id o)):HH g (h.set id o') (L.set k (.obj id o')) F:=by
 have O:=a.get k hk;have hid:=h.BN O;refine a.Rg hk (by simp) (fun i _ hi=>h.BX _ hid (by simpa[Ck.ids]using hi)) (h.get_set_same _ hid) (fun i hi=>.inl hi) (fun i hi=>a.Mv hk hi)
theorem HH.add(a:HH g h L F){c:Ck}(G:h.size≤h'.size)(J:∀i,i<h.size→h'.get i=h.get i)(M:c.ok h')(U:∀i∈c.ids,h.size≤i)(hm:∀i∈c.ids,g.may i=true):HH g h' (c::L) F:=by
 have:=HH.upd (A:=[]) (C:=[]) (B:=L) (D:=[c]) (h':=h') (g:=g) (h:=h) (F:=F) (by simpa using a) G (fun i hi=>J i (a.lt (by simpa using hi))) (fun x K=>by rw[yT.1 K];exact M) (by simpa[DU]using c.Q2)
  (fun i hi I=>by have:=U i (by simpa[DU]using hi);have:=a.lt (i:=i) (by simpa using I);omega) (fun i hi=>hm i (by simpa[DU]using hi))
 simpa using this
theorem HH.push(a:HH g h L F)(o:B0):HH g (h.push o) (.obj h.size o::L) F:=
 a.add (by simp) (fun i hi=>h.Bz o hi) (h.Ct o) (fun i hi=>by simp[Ck.ids]at hi;omega) (fun i hi=>by simp[Ck.ids]at hi;rw[hi];exact a.new)
theorem HH.cg(a:HH g h L F)(e:TypeId)(cs:List AB):HH g (h.push (.cells (some e) 2 cs)) (.Af (some h.size) e cs::L) F:=
 a.add (by simp) (fun i hi=>h.Bz _ hi) (h.Ct _) (fun i hi=>by simp[Ck.ids]at hi;omega) (fun i hi=>by simp[Ck.ids]at hi;rw[hi];exact a.new)
theorem HH.R2(a:HH g h L F)(e:TypeId):HH g h (.Af none e []::L) F:=
 a.add (zC _) (fun _ _=>rfl) rfl (fun i hi=>by simp[Ck.ids]at hi) (fun i hi=>by simp[Ck.ids]at hi)
theorem HH.front(a:HH g h L F)(k:Nat){c:Ck}(hk:L[k]?=some c):HH g h (c::L.eraseIdx k) F:=by
 refine a.perm ?_
 conv=>rhs;rw[Iy hk]
 rw[List.eraseIdx_eq_take_drop_succ,qx];exact List.perm_middle.symm
theorem HH.tail{c:Ck}(a:HH g h (c::L) F):HH g h L F:=by
 have:=HH.upd (A:=[]) (C:=[c]) (B:=L) (D:=[]) (h':=h) (g:=g) (h:=h) (F:=F) (by simpa using a) (zC _) (fun i hi=>rfl) (fun x K=>by cases K) (by simp[DU]) (fun i hi=>by simp[DU]at hi) (fun i hi=>by simp[DU]at hi);simpa using this
theorem HH.cut(a:HH g h L F)(n:Nat):HH g h (L.take n) (L.drop n++F):=by
 have e:L.take n++(L.drop n++F)=L++F:=by rw[←zw,zM]
 exact⟨by rw[e];exact a.ok,by rw[e];exact a.nd,fun i hi=>a.may i (by
  rw[←zM n L,Cq];exact zB.2 (.inl hi)),a.CF,a.floor⟩
theorem HH.dF(a:HH g h L F){pr:List Nat}(T:∀i∈DU L,i∉pr)(E:∀i∈pr,i<h.size):HH ⟨g.floor,pr++g.CF⟩ h L F:=by
 refine⟨a.ok,a.nd,fun i hi=>?_,fun i hi=>?_,a.floor⟩
 ·have:=a.may i hi;simp only[Gd.may,zh,zK]at this⊢;refine⟨this.1,?_⟩;rw[xu,this.2,yK,List.any_eq_false];intro j Y V;exact T i hi (zu V ▸ Y)
 ·rcases zB.1 hi with hi|hi
  ·exact E i hi
  ·exact a.CF i hi
theorem HH.glue{g':Gd}{n:Nat}{L':List Ck}(a:HH g h L F)(b:HH g' h' L' (L.drop n++F))(O:∀i,g'.may i=true→g.may i=true)(T:∀i∈g.CF,i∈g'.CF)(hfl:g'.floor=g.floor):HH g h' (L'++L.drop n) F:=by
 have e:L'++L.drop n++F=L'++(L.drop n++F):=zw _ _ _;refine⟨by rw[e];exact b.ok,by rw[e];exact b.nd,fun i hi=>?_,fun i hi=>b.CF i (T i hi),by rw[←hfl];exact b.floor⟩;rw[Cq,zB]at hi;rcases hi with hi|hi
 ·exact O i (b.may i hi)
 ·exact a.may i (by rw[←zM n L,Cq];exact zB.2 (.inr hi))
theorem HH.HN{n:Nat}{L':List Ck}(a:HH g h L F)(b:HH g h' L' (L.drop n++F)):HH g h' (L'++L.drop n) F:=a.glue b (fun _ h=>h) (fun _ h=>h) rfl
end
section
variable {g:Gd} {h:AI} {L F:List Ck}
theorem HH.DY(a:HH g h L F)(k:Nat){id:Nat}{gr:Option TypeId}{cs:List AB}(hk:L[k]?=some (.obj id (.cells gr 2 cs))){o n:Nat}{ds:List AB}(hd:o+n≤cs.length∧(cs.drop o).take n=ds):DY h (id,o) n=some ds:=by
 unfold Av.DY Cf;simp only[a.get k hk];rw[zm ⟨by simp,hd.1⟩,hd.2]
theorem HH.ld1(a:HH g h L F)(k:Nat){id:Nat}{gr:Option TypeId}{cs:List AB}(hk:L[k]?=some (.obj id (.cells gr 2 cs))){o:Nat}{v:AB}(Z:cs[o]?=some v):ld1 h (id,o)=some v:=by
 have E:=(List.getElem?_eq_some_iff.1 Z).1;unfold Av.ld1 Cf;simp only[a.get k hk];rw[zm ⟨by simp,by omega⟩];have e:=(List.getElem?_eq_some_iff.1 Z).2;rw[zP E,e];rfl
theorem HH.st(a:HH g h L F)(k:Nat){id:Nat}{gr:Option TypeId}{cs:List AB}(hk:L[k]?=some (.obj id (.cells gr 2 cs))){o:Nat}{new ds:List AB}(E:o+new.length≤cs.length)(h1:new.all AB.one=true)(hd:Ev cs o (Nl gr new)=ds):
  ∃h',st g h (id,o) new=some h'∧HH g h' (L.set k (.obj id (.cells gr 2 ds))) F:=by
 refine⟨_,?_,a.set k _ hk⟩;unfold Av.st Cg;simp only[a.get k hk];rw[zm ⟨a.Mv hk (by simp[Ck.ids]),E,h1⟩,hd]
def AP(r:Option Nat)(n:Nat):AB:=.slice (r.map fun i=>(i,0)) n
def Cr(r:Option Nat)(n:Nat):Sl:=⟨r.map fun i=>(i,0),n⟩
theorem CU(a:HH g h L F)(k:Nat){r:Option Nat}{e:TypeId}{cs:List AB}(hk:L[k]?=some (.Af r e cs)){n z:Nat}(I:cs.length=n*z)(Q:z≠0):EI h z n (AP r n)=some cs:=by
 have M:=a.mem hk;unfold AP EI;cases r with
 | none=>
  have:cs=[]:=M;subst this;have R:n=0:=by
   have:n*z=0:=by simpa using I.symm
   rcases qV.1 this with h|h
   ·exact h
   ·exact absurd h Q
  subst R;simp
 | some id=>
  have O:h.get id=some (.cells (some e) 2 cs):=M;simp only[zj];by_cases R:n=0
  ·subst R;rw[zm rfl];have:cs=[]:=zy (by simpa using I);rw[this]
  ·rw[zk R];unfold Cf;simp only[O];rw[zm ⟨by simp,by omega⟩,yl,←I,z8]
theorem HH.app(a:HH g h L F)(k:Nat){r:Option Nat}{e:TypeId}{cs new new':List AB}{z bytes n m:Nat}{x:AB}(hk:L[k]?=some (.Af r e cs))(I:cs.length=n*z)(Q:z≠0)(K:EI h z m x=some new)(hc:new.map FM=new')(hm:new'.length=m*z)
  (V:n+m≤1099511627776∧(n+m)*bytes≤1099511627776) (h1:cs.all AB.one=true) (h2:new'.all AB.one=true):
  ∃r' h',Av.app e z bytes g h (Cr r n) m x=some (Cr r' (n+m),h')∧HH g h' (L.set k (.Af r' e (cs++new'))) F:=by
 have hfo:EI h z n (AP r n)=some cs:=CU a k hk I Q;unfold Av.app;by_cases R:m=0
 ·subst R;refine⟨r,h,by simp[Cr],?_⟩;have:new'=[]:=zy (by simpa using hm);subst this;rw[yj];have:L.set k (.Af r e cs)=L:=by rw[OF hk,←Iy hk]
  rw[this];exact a
 ·rw[zk R,zm (show(Cr r n).n+m≤1099511627776∧((Cr r n).n+m)*bytes≤1099511627776 from V)];simp only[Cr,K,zj,hc];rw[show EI h z n (.slice (r.map fun i=>(i,0)) n)=some cs from hfo];simp only;rw[zm (by rw[qi,h1,h2];rfl)];cases r with
  |none=>
   refine⟨some h.size,_,rfl,?_⟩;exact a.Rg hk (by simp) (fun i hi _=>h.Bz _ hi) (h.Ct _) (fun i hi=>by simp[Ck.ids]at hi;omega) (fun i hi=>by simp[Ck.ids]at hi;rw[hi];exact a.new)
  | some id=>
   have O:h.get id=some (.cells (some e) 2 cs):=a.mem hk;have hid:=h.BN O;simp only[zj,O];rw[zm ⟨a.Mv hk (by simp[Ck.ids]),trivial⟩];refine⟨some h.size,_,rfl,?_⟩;refine a.Rg hk (by simp) (fun i hi I=>?_) ?_ (fun i hi=>by simp[Ck.ids]at hi;omega) (fun i hi=>by simp[Ck.ids]at hi;rw[hi];exact a.new)
   ·rw[AI.Bz _ _ (by simpa using hi)];exact h.BX _ hid (by simpa[Ck.ids]using I)
   ·have:=AI.Ct (h.set id (.cells (some e) 0 [])) (.cells (some e) 2 (cs++new'));exact this
theorem HH.eZ{r:Option Nat}{e:TypeId}{cs:List AB}{n z:Nat}(a:HH g h (.Af r e cs::L) F)(I:cs.length=n*z)(Q:z≠0):∃h',Ig g h (AP r n)=some (.HU n cs,h')∧HH g h' L F:=by
 have hk:(Ck.Af r e cs::L)[0]?=some (.Af r e cs):=rfl;unfold AP;by_cases R:n=0
 ·subst R;have:cs=[]:=zy (by simpa using I);subst this;cases r with
  |none=>exact⟨h,rfl,a.tail⟩
  |some id=>exact⟨h,rfl,a.tail⟩
 ·cases r with
  |none=>
   exfalso;have hc:cs=[]:=a.mem hk;subst hc;have h1:n*z=0:=by simpa using I.symm
   rcases qV.1 h1 with h|h
   ·exact R h
   ·exact Q h
  |some id=>
   have O:h.get id=some (.cells (some e) 2 cs):=a.mem hk;have hid:=h.BN O;have V:Nat.beq n 0=false:=by cases n;exact absurd rfl R;rfl
   refine⟨h.set id (.cells (some e) 0 cs),by simp only[Ig,zj,V,y9,O,a.Mv hk (i:=id) (by simp[Ck.ids]),zW],?_⟩;have b:=a.Rg (d:=.Af none e []) (h':=h.set id (.cells (some e) 0 cs)) hk (by simp) (fun i _ hi=>h.BX _ hid (by simpa[Ck.ids]using hi)) rfl (fun i hi=>by simp[Ck.ids]at hi) (fun i hi=>by simp[Ck.ids]at hi);exact HH.tail (c:=.Af none e []) b
end
end Go.Av
end
