/-
  Several texts in one.
-/
import Derived.Test.YtgkbpgefomapgaaGreatDoorAvWalk
/-
 A part.
-/
section
namespace Go.Av
set_option linter.unusedSimpArgs false
def Mi(l:List (Nat×List AE))(g:Nat):Option (List AE):=
 match l with
 |[]=>none
 |(i,cs)::r=>bif Nat.beq i g then some cs else Mi r g
def RZ(l:List (Nat×AE))(d:Nat):Option AE:=
 match l with
 |[]=>none
 |(i,v)::r=>bif Nat.beq i d then some v else RZ r d
def Uw(l:List (Nat×AE))(d:Nat)(w:AE):List (Nat×AE):=
 match l with
 |[]=>[]
 |(i,v)::r=>bif Nat.beq i d then(i,w)::r else(i,v)::Uw r d w
theorem Oz{v:AE}{d:Nat}:∀{l:List (Nat×AE)},RZ l d=some v->(d,v)∈l
 |[],h=>by cases h
 |(i,u)::r,h=>by
  unfold RZ at h;rw[Jy]at h;by_cases e:i=d
  ·rw[zk e]at h;injection h with h;rw[h,e];simp
  ·rw[zm e]at h;exact zM _ (Oz h)
theorem UE{w:AE}{d:Nat}:∀{l:List (Nat×AE)} {p:Nat×AE},p∈Uw l d w->p∈l\/p=(d,w)
 |[],p,h=>by cases h
 | (i,u)::r,p,h=>by
  unfold Uw at h;rw[Jy]at h;by_cases e:i=d
  ·rw[zk e]at h;rcases zT.1 h with h|h
   ·right;rw[h,e]
   ·left;exact zM _ h
  ·rw[zm e]at h;rcases zT.1 h with h|h
   ·left;rw[h];simp
   ·rcases UE h with h|h
    ·left;exact zM _ h
    ·right;exact h
theorem Has.Zo{fr:Fr}{N:Nat}{l:List (Nat×AE)}(H:Has fr N l)(d:Nat){b w:Bool}(V:b=w)(hd:RZ l d=some (.bool b)):Has fr N (Uw l d (.bool w)):=by
 subst V;refine⟨H.1,λp T=>?_⟩;rcases UE T with h|h
 ·exact H.2 p h
 ·rw[h];exact H.2 _ (Oz hd)
inductive Se(P:Program)(fr:Fr)(h:AS):List ResultVar->List AE->Prop where
 |nil:Se P fr h [] []
 |tmp {t:Tmp} {v:AE} {rs:List ResultVar} {vs:List AE} (e:nth fr t=v) (r:Se P fr h rs vs):Se P fr h (.tmp t::rs) (v::vs)
 |cell {a:Tmp} {t:TypeId} {p:Nat×Nat} {v:AE} {rs:List ResultVar} {vs:List AE} (e:nth fr a=.ptr (some p)) (E:Im P (h.get p.1) t p.2=some v) (r:Se P fr h rs vs):Se P fr h (.cell a t::rs) (v::vs)
theorem Se.mapM{P:Program}{fr:Fr}{h:AS}{rs:List ResultVar}{vs:List AE}(r:Se P fr h rs vs):rs.mapM (JF P fr h)=some vs:=by
 induction r with
 |nil=>rfl
 |tmp e _ ih=>rw[ql,ih];simp[JF,e]
 |cell e E _ ih=>rw[ql,ih];simp[JF,e,E]
theorem Ik{P:Program}{fr:Fr}{h:AS}{rs:List ResultVar}{v:AE}(r:Se P fr h rs [v]):NF P rs fr h=some v:=by
 unfold NF;rw[r.mapM]
theorem Bl{P:Program}{fr:Fr}{h:AS}{rs:List ResultVar}{v w:AE}{vs:List AE}(r:Se P fr h rs (v::w::vs)):NF P rs fr h=some (.tuple (v::w::vs)):=by
 unfold NF;rw[r.mapM]
theorem Bk{P:Program}{h:AS}{t:TypeId}{a:Nat×Nat}{n:Nat}{cs:List AE}(ha:Ly P t=some true)(J:Dn P t=some n)(E:G7 h a n=some cs):Im P (h.get a.1) t a.2=some (.agg cs):=by
 unfold Im;rw[ha,J];unfold G7 at E;simp[E]
section
variable {C:J8} {S:Self} {g:Gd} {h:AS} {fr:Fr} {op:Op}
def cC(P:Program)(fr:Fr):Op->Option (List AE×Nat×Nat×Int×Bool)
 | .index t x i=>
  match P.underlying t,ev fr x,ev fr i with
  |some (.array n e),.agg cs,.int _ i=>
   match Ly P e,Dn P e with
   |some b,some z=>some (cs,n,z,i,b)
   |_,_=>none
  |_,_,_=>none
 |_=>none
def ZJ(P:Program)(t:TypeId)(xs ys:List AE):Option Bool:=if P.eqGuardType P.depth t=true then none else Jc P 10000 t (.agg xs) (.agg ys)
def Y1(fr:Fr):Op->Option (Bool×TypeId×List AE×List AE)
 | .binOp op t x y _=>
  match ev fr x,ev fr y,op with
  | .agg xs,.agg ys,.eql=>some (true,t,xs,ys)
  | .agg xs,.agg ys,.neq=>some (false,t,xs,ys)
  |_,_,_=>none
 |_=>none
theorem a8{t:TypeId}{xs ys:List AE}{b:Bool}(I:Y1 fr op=some (false,t,xs,ys))(E:ZJ C.P t xs ys=some b):CC C S g h fr op=some (.bool !b,h):=by
 unfold Y1 at I;split at I
 ·split at I
  ·simp at I
  ·rename_i O hy;simp only[zd,ze,qM]at I;obtain⟨rfl,rfl,rfl⟩:=I;unfold ZJ at E;split at E
   ·cases E
   ·rename_i Q;simp[CC,J7,Br,KZ,VF,Ug,O,hy,Q,E]
  ·cases I
 ·cases I
def ZE(h:AS):Option Nat->Option (List (AE×AE))
 |none=>some []
 |some id=>
  match h.get id with
  |some (.map st es)=>if st≠0 then some es else none
  |_=>none
def Ul(P:Program)(h:AS)(t:TypeId)(m:Option Nat)(k:AE):Option (AE×Bool):=
 match P.underlying t with
 | some (.map kt et)=>
  if HM P 20 kt k=true then
   match ZE h m with
   |some es=>
    match Eo P kt k es 0 with
    |some (some (_,v))=>some (v,true)
    |some none=>(I2 P et).map λz=>(z,false)
    |none=>none
   |none=>none
  else none
 |_=>none
def YR(fr:Fr):Op->Option (TypeId×Option Nat×AE×Bool)
 | .lookup t x k ok=>
  match ev fr x with
  | .map m=>some (t,m,ev fr k,ok)
  |_=>none
 |_=>none
theorem T5{P:Program}{h:AS}{t:TypeId}{m:Option Nat}{k v:AE}{b ok:Bool}(E:Ul P h t m k=some (v,b)):
  ∃ob,(∀id,m=some id->h.get id=some ob)/\M3 P (m.map λ_=>ob) t (.map m) k ok=some (if ok then .tuple [v,.bool b]else v):=by
 unfold Ul at E;split at E
 ·rename_i kt et hu;split at E
  ·rename_i G;split at E
   ·rename_i es he;cases m with
    | none=>
     refine⟨default,by simp,?_⟩;simp only[ZE,zd]at he;subst he;simp only[Eo]at E;unfold M3;simp only[hu,G,if_true,Eo];cases R:I2 P et with
     |none=>rw[R]at E;simp at E
     |some z=>
      rw[R]at E;simp only[zf,zd,ze]at E;obtain⟨rfl,rfl⟩:=E;rfl
    | some id=>
     simp only[ZE]at he;split at he
     ·rename_i st es' Q;split at he
      ·rename_i hst;simp only[zd]at he;subst he;refine⟨.map st es',λi hi=>by simp only[zd]at hi;subst hi;exact Q,?_⟩;unfold M3;simp only[hu,G,if_true,zf,hst,ne_eq,not_false_eq_true];split at E
       ·rename_i i w U;simp only[zd,ze]at E;obtain⟨rfl,rfl⟩:=E;rw[U]
       ·rename_i U;rw[U];cases R:I2 P et with
        |none=>rw[R]at E;simp at E
        |some z=>
         rw[R]at E;simp only[zf,zd,ze]at E;obtain⟨rfl,rfl⟩:=E;rfl
       ·cases E
      ·cases he
     ·cases he
   ·cases E
  ·cases E
 ·cases E
theorem aU{t:TypeId}{m:Option Nat}{k v:AE}{b ok:Bool}(I:YR fr op=some (t,m,k,ok))(E:Ul C.P h t m k=some (v,b)):CC C S g h fr op=some (if ok then .tuple [v,.bool b]else v,h):=by
 unfold YR at I;split at I
 ·split at I
  ·rename_i ok' _ m' O;simp only[zd,ze]at I;obtain⟨rfl,rfl,rfl,rfl⟩:=I;obtain⟨ob,h1,W⟩:=T5 (ok:=ok') E;cases hm:m' with
   |none=>
    subst hm;simp only[Option.map_none]at W;simp[CC,J7,Br,Es,O,Gb,MJ,W]
   |some id=>
    subst hm;simp only[zf]at W;simp[CC,J7,Br,Es,O,Gb,MJ,h1 id rfl,W]
  ·cases I
 ·cases I
theorem VV{t:TypeId}{m:Option Nat}{k v:AE}{b:Bool}(I:YR fr op=some (t,m,k,true))(E:Ul C.P h t m k=some (v,b)):CC C S g h fr op=some (.tuple [v,.bool b],h):=aU I E
theorem Vj{t:TypeId}{m:Option Nat}{k v:AE}{b:Bool}(I:YR fr op=some (t,m,k,false))(E:Ul C.P h t m k=some (v,b)):CC C S g h fr op=some (v,h):=aU I E
def ZM(P:Program)(g:Gd)(h:AS)(t:TypeId)(m:Option Nat)(k v:AE):Option AS:=Ho P g h t (.map m) k v
def ak(fr:Fr):Op->Option (TypeId×Option Nat×AE×AE)
 | .mapUpdate t m k v| .insert t m k v=>
  match ev fr m with
  | .map m=>some (t,m,ev fr k,ev fr v)
  |_=>none
 |_=>none
theorem RX{t:TypeId}{m:Option Nat}{k v:AE}{h':AS}(I:ak fr op=some (t,m,k,v))(E:ZM C.P g h t m k v=some h'):CC C S g h fr op=some (.tuple [],h'):=by
 unfold ZM at E;unfold ak at I;split at I
 ·split at I
  ·rename_i O;simp only[zd,ze]at I;obtain⟨rfl,rfl,rfl,rfl⟩:=I;simp[CC,J7,Br,ML,O,E]
  ·cases I
 ·split at I
  ·rename_i O;simp only[zd,ze]at I;obtain⟨rfl,rfl,rfl,rfl⟩:=I;simp[CC,J7,Br,ML,O,E]
  ·cases I
 ·cases I
end
@[irreducible] def KK:Nat:=4611686018427387904
theorem S7:KK=4611686018427387904:=by unfold KK;rfl
def cap{α β:Type}(as:AE->Option α)(rest:List AE->Option β):List AE->Option (α×β)
 |v::l=>(as v).bind λx=>(rest l).map λy=>(x,y)
 |[]=>none
end Go.Av
end
/-
 A part.
-/
section
namespace Go.Av
set_option linter.unusedVariables false
inductive Ck where
 |obj (id:Nat) (o:Dc)
 |AP (r:Option Nat) (e:TypeId) (cs:List AE)
def Ck.ids:Ck->List Nat
 | .obj id _=>[id]
 | .AP r _ _=>r.toList
def Ck.ok(h:AS):Ck->Prop
 | .obj id o=>h.get id=some o
 | .AP none _ cs=>cs=[]
 | .AP (some id) e cs=>h.get id=some (.cells (some e) 2 cs)
def Et(L:List Ck):List Nat:=L.flatMap Ck.ids
theorem EA(A B:List Ck):Et (A++B)=Et A++Et B:=by simp[Et]
theorem Ck.Rb(c:Ck):c.ids.Nodup:=by
 cases c with
 |obj id o=>simp[Ck.ids]
 |AP r e cs=>cases r<;>simp[Ck.ids]
theorem Ck.ao{h:AS}{c:Ck}(k:c.ok h){i:Nat}(hi:i∈c.ids):i<h.size:=by
 cases c with
 |obj id o=>simp[Ck.ids]at hi;subst hi;exact h.D6 k
 |AP r e cs=>
  cases r with
  |none=>simp[Ck.ids]at hi
  |some id=>simp[Ck.ids]at hi;subst hi;exact h.D6 k
theorem Ck.Yt{h h':AS}{c:Ck}(k:c.ok h)(I:∀i∈c.ids,h'.get i=h.get i):c.ok h':=by
 cases c with
 |obj id o=>show h'.get id=_;rw[I id (by simp[Ck.ids])];exact k
 |AP r e cs=>
  cases r with
  |none=>exact k
  |some id=>show h'.get id=_;rw[I id (by simp[Ck.ids])];exact k
structure HH(g:Gd)(h:AS)(L F:List Ck):Prop where
 ok:∀c∈L++F,c.ok h
 nd:(Et (L++F)).Nodup
 may:∀i∈Et L,g.may i=true
 Bb:∀i∈g.Bb,i<h.size
 floor:g.floor<=h.size
section
variable {g:Gd} {h h':AS} {L F A B C D:List Ck}
theorem HH.lt(a:HH g h L F){i:Nat}(hi:i∈Et (L++F)):i<h.size:=by
 simp only[Et,ym]at hi;obtain⟨c,hc,hi⟩:=hi;exact Ck.ao (a.ok c hc) hi
theorem HH.new(a:HH g h L F):g.may h.size=true:=by
 have h1:Nat.ble g.floor h.size=true:=Nat.ble_eq_true_of_le a.floor;have W:g.Bb.any (Nat.beq h.size)=false:=by
  rw[List.any_eq_false];intro i hi V;have:=a.Bb i hi;have:=zJ V;omega
 simp[Gd.may,h1,W]
theorem HH.upd(a:HH g h (A++(C++B)) F)(I:h.size<=h'.size)(K:∀i∈Et (A++B++F),h'.get i=h.get i)(M:∀c∈D,c.ok h')(J:(Et D).Nodup)
  (U:∀i∈Et D,i∉Et (A++B++F)) (hm:∀i∈Et D,g.may i=true):HH g h' (A++(D++B)) F:=by
 have nd':(Et A++(Et C++Et B)++Et F).Nodup:=by have:=a.nd;simpa only[EA]using this
 refine⟨λc hc=>?_,?_,λi hi=>?_,λi hi=>zR (a.Bb i hi) I,zV a.floor I⟩
 ·have old:c∈A\/c∈B\/c∈F->c.ok h':=λhc=>by
   have hc1:c∈A++(C++B)++F:=by simp only[zp];rcases hc with h|h|h<;>simp[h]
   refine Ck.Yt (a.ok c hc1) λi hi=>K i ?_;simp only[Et,ym];exact⟨c,by simp only[zp];rcases hc with h|h|h<;>simp[h],hi⟩
  simp only[zp]at hc;rcases hc with(hc|hc|hc)|hc
  ·exact old (.inl hc)
  ·exact M c hc
  ·exact old (.inr (.inl hc))
  ·exact old (.inr (.inr hc))
 ·have T:(Et (A++(D++B)++F)).Perm (Et D++Et (A++B++F)):=by
   simp only[EA,zO];refine(yW _ _ _)
  rw[T.nodup_iff,z8];refine⟨J,?_,λi hi j Y e=>U i hi (e ▸ Y)⟩;have X:(Et (A++(C++B)++F)).Perm (Et C++Et (A++B++F)):=by
   simp only[EA,zO];exact(yW _ _ _)
  exact(z8.1 (X.nodup_iff.1 a.nd)).2.1
 ·simp only[EA,zp]at hi;rcases hi with hi|hi|hi
  ·exact a.may i (by simp only[EA,zp];exact .inl hi)
  ·exact hm i hi
  ·exact a.may i (by simp only[EA,zp];exact .inr (.inr hi))
theorem HH.perm(a:HH g h L F)(T:A.Perm L):HH g h A F:=by
 have X:(A++F).Perm (L++F):=T.append_right F;refine⟨λc hc=>a.ok c (X.mem_iff.1 hc),?_,λi hi=>a.may i ?_,a.Bb,a.floor⟩
 ·exact((X.flatMap_right Ck.ids).nodup_iff).2 a.nd
 ·exact((T.flatMap_right Ck.ids).mem_iff).1 hi
theorem Ig{k:Nat}{c:Ck}(G:L[k]?=some c):L=L.take k++([c]++L.drop (k+1)):=by
 obtain⟨E,e⟩:=List.getElem?_eq_some_iff.1 G;rw[yN,<-e,<-zE E,zC]
theorem K2{k:Nat}{c d:Ck}(G:L[k]?=some c):L.set k d=L.take k++([d]++L.drop (k+1)):=by
 have E:=(List.getElem?_eq_some_iff.1 G).1;rw[yc,zk E,yN]
theorem HH.mem(a:HH g h L F){k:Nat}{c:Ck}(G:L[k]?=some c):c.ok h:=a.ok c (zp.2 (.inl (zI G)))
theorem HH.get(a:HH g h L F)(k:Nat){id:Nat}{o:Dc}(G:L[k]?=some (.obj id o)):h.get id=some o:=a.mem G
theorem HH.Px(a:HH g h L F){k:Nat}{c:Ck}(G:L[k]?=some c){i:Nat}(hi:i∈c.ids):g.may i=true:=
 a.may i (by simp only[Et,ym];exact⟨c,zI G,hi⟩)
theorem HH.Yz(a:HH g h L F){k:Nat}{c:Ck}(G:L[k]?=some c){i:Nat}(hi:i∈c.ids):i∉Et (L.take k++L.drop (k+1)++F):=by
 have X:(Et (L++F)).Perm (c.ids++Et (L.take k++L.drop (k+1)++F)):=by
  conv=>lhs;rw[Ig G]
  simp only[EA,zO];have:Et [c]=c.ids:=by simp[Et]
  rw[this];exact(yW _ _ _)
 exact λhm=>(z8.1 (X.nodup_iff.1 a.nd)).2.2 i hi i hm rfl
theorem HH.SV(a:HH g h L F){k:Nat}{c d:Ck}(G:L[k]?=some c)(I:h.size<=h'.size)(K:∀i,i<h.size->i∉c.ids->h'.get i=h.get i)(M:d.ok h')
  (U:∀i∈d.ids,i∈c.ids\/h.size<=i) (hm:∀i∈d.ids,g.may i=true):HH g h' (L.set k d) F:=by
 rw[K2 G];have a':=a;rw[Ig G]at a';refine a'.upd I (λi hi=>?_) (λx O=>by rw[zH.1 O];exact M) (by simpa[Et]using d.Rb) (λi hi J=>?_) (λi hi=>hm i (by simpa[Et]using hi))
 ·refine K i (a.lt ?_) (λhc=>a.Yz G hc hi);rw[Ig G];simp only[EA,zp]at hi⊢;rcases hi with(hi|hi)|hi
  ·exact .inl (.inl hi)
  ·exact .inl (.inr (.inr hi))
  ·exact .inr hi
 ·rcases U i (by simpa[Et]using hi)with h1|h1
  ·exact a.Yz G h1 J
  ·have:i<h.size:=a.lt (by
    rw[Ig G];simp only[EA,zp]at J⊢;rcases J with(J|J)|J
    ·exact .inl (.inl J)
    ·exact .inl (.inr (.inr J))
    ·exact .inr J)
   omega
theorem HH.set(a:HH g h L F)(k:Nat){id:Nat}{o:Dc}(o':Dc)(G:L[k]?=some (.obj id o)):HH g (h.set id o') (L.set k (.obj id o')) F:=by
 have Q:=a.get k G;have hid:=h.D6 Q;refine a.SV G (by simp) (λi _ hi=>h.EW _ hid (by simpa[Ck.ids]using hi)) (h.Fm _ hid) (λi hi=>.inl hi) (λi hi=>a.Px G hi)
theorem HH.add(a:HH g h L F){c:Ck}(I:h.size<=h'.size)(K:∀i,i<h.size->h'.get i=h.get i)(M:c.ok h')(U:∀i∈c.ids,h.size<=i)(hm:∀i∈c.ids,g.may i=true):HH g h' (c::L) F:=by
 have:=HH.upd (A:=[]) (C:=[]) (B:=L) (D:=[c]) (h':=h') (g:=g) (h:=h) (F:=F) (by simpa using a) I (λi hi=>K i (a.lt (by simpa using hi))) (λx O=>by rw[zH.1 O];exact M) (by simpa[Et]using c.Rb)
  (λi hi J=>by have:=U i (by simpa[Et]using hi);have:=a.lt (i:=i) (by simpa using J);omega) (λi hi=>hm i (by simpa[Et]using hi))
 simpa using this
theorem HH.push(a:HH g h L F)(o:Dc):HH g (h.push o) (.obj h.size o::L) F:=
 a.add (by simp) (λi hi=>h.EZ o hi) (h.ES o) (λi hi=>by simp[Ck.ids]at hi;omega) (λi hi=>by simp[Ck.ids]at hi;rw[hi];exact a.new)
theorem HH.Wz(a:HH g h L F)(e:TypeId)(cs:List AE):HH g (h.push (.cells (some e) 2 cs)) (.AP (some h.size) e cs::L) F:=
 a.add (by simp) (λi hi=>h.EZ _ hi) (h.ES _) (λi hi=>by simp[Ck.ids]at hi;omega) (λi hi=>by simp[Ck.ids]at hi;rw[hi];exact a.new)
theorem HH.It(a:HH g h L F)(e:TypeId):HH g h (.AP none e []::L) F:=
 a.add (zo _) (λ_ _=>rfl) rfl (λi hi=>by simp[Ck.ids]at hi) (λi hi=>by simp[Ck.ids]at hi)
theorem HH.front(a:HH g h L F)(k:Nat){c:Ck}(G:L[k]?=some c):HH g h (c::L.eraseIdx k) F:=by
 refine a.perm ?_
 conv=>rhs;rw[Ig G]
 rw[List.eraseIdx_eq_take_drop_succ,yN];exact List.perm_middle.symm
theorem HH.tail{c:Ck}(a:HH g h (c::L) F):HH g h L F:=by
 have:=HH.upd (A:=[]) (C:=[c]) (B:=L) (D:=[]) (h':=h) (g:=g) (h:=h) (F:=F) (by simpa using a) (zo _) (λi hi=>rfl) (λx O=>by cases O) (by simp[Et]) (λi hi=>by simp[Et]at hi) (λi hi=>by simp[Et]at hi);simpa using this
theorem HH.cut(a:HH g h L F)(n:Nat):HH g h (L.take n) (L.drop n++F):=by
 have e:L.take n++(L.drop n++F)=L++F:=by rw[<-zO,zC]
 exact⟨by rw[e];exact a.ok,by rw[e];exact a.nd,λi hi=>a.may i (by
  rw[<-zC n L,EA];exact zp.2 (.inl hi)),a.Bb,a.floor⟩
theorem HH.a7(a:HH g h L F){pr:List Nat}(T:∀i∈Et L,i∉pr)(E:∀i∈pr,i<h.size):HH ⟨g.floor,pr++g.Bb⟩ h L F:=by
 refine⟨a.ok,a.nd,λi hi=>?_,λi hi=>?_,a.floor⟩
 ·have:=a.may i hi;simp only[Gd.may,zj,zK]at this⊢;refine⟨this.1,?_⟩;rw[qH,this.2,Bool.or_false,List.any_eq_false];intro j Y V;exact T i hi (zJ V ▸ Y)
 ·rcases zp.1 hi with hi|hi
  ·exact E i hi
  ·exact a.Bb i hi
theorem HH.glue{g':Gd}{n:Nat}{L':List Ck}(a:HH g h L F)(b:HH g' h' L' (L.drop n++F))(Q:∀i,g'.may i=true->g.may i=true)(T:∀i∈g.Bb,i∈g'.Bb)(hfl:g'.floor=g.floor):HH g h' (L'++L.drop n) F:=by
 have e:L'++L.drop n++F=L'++(L.drop n++F):=zO _ _ _;refine⟨by rw[e];exact b.ok,by rw[e];exact b.nd,λi hi=>?_,λi hi=>b.Bb i (T i hi),by rw[<-hfl];exact b.floor⟩;rw[EA,zp]at hi;rcases hi with hi|hi
 ·exact Q i (b.may i hi)
 ·exact a.may i (by rw[<-zC n L,EA];exact zp.2 (.inr hi))
theorem HH.Fq{n:Nat}{L':List Ck}(a:HH g h L F)(b:HH g h' L' (L.drop n++F)):HH g h' (L'++L.drop n) F:=a.glue b (λ_ h=>h) (λ_ h=>h) rfl
end
section
variable {g:Gd} {h:AS} {L F:List Ck}
theorem HH.G7(a:HH g h L F)(k:Nat){id:Nat}{gr:Option TypeId}{cs:List AE}(G:L[k]?=some (.obj id (.cells gr 2 cs))){o n:Nat}{ds:List AE}(hd:o+n<=cs.length/\(cs.drop o).take n=ds):G7 h (id,o) n=some ds:=by
 unfold Av.G7 Dy;simp only[a.get k G];rw[zk ⟨by simp,hd.1⟩,hd.2]
theorem HH.SW(a:HH g h L F)(k:Nat){id:Nat}{gr:Option TypeId}{cs:List AE}(G:L[k]?=some (.obj id (.cells gr 2 cs))){o:Nat}{v:AE}(Z:cs[o]?=some v):SW h (id,o)=some v:=by
 have E:=(List.getElem?_eq_some_iff.1 Z).1;unfold Av.SW Dy;simp only[a.get k G];rw[zk ⟨by simp,by omega⟩];have e:=(List.getElem?_eq_some_iff.1 Z).2;rw[zE E,e];rfl
theorem HH.st(a:HH g h L F)(k:Nat){id:Nat}{gr:Option TypeId}{cs:List AE}(G:L[k]?=some (.obj id (.cells gr 2 cs))){o:Nat}{new ds:List AE}(E:o+new.length<=cs.length)(h1:new.all AE.one=true)(hd:Fz cs o new=ds):
  ∃h',st g h (id,o) new=some h'/\HH g h' (L.set k (.obj id (.cells gr 2 ds))) F:=by
 refine⟨_,?_,a.set k _ G⟩;unfold Av.st Ef;simp only[a.get k G];rw[zk ⟨a.Px G (by simp[Ck.ids]),E,h1⟩,hd]
def AH(r:Option Nat)(n:Nat):AE:=.slice (r.map λi=>(i,0)) n
def Ca(r:Option Nat)(n:Nat):Sl:=⟨r.map λi=>(i,0),n⟩
theorem Bz(a:HH g h L F)(k:Nat){r:Option Nat}{e:TypeId}{cs:List AE}(G:L[k]?=some (.AP r e cs)){n z:Nat}(J:cs.length=n*z)(R:z≠0):Du h z n (AH r n)=some cs:=by
 have M:=a.mem G;unfold AH Du;cases r with
 | none=>
  have:cs=[]:=M;subst this;have h0:n=0:=by
   have:n*z=0:=by simpa using J.symm
   rcases yj.1 this with h|h
   ·exact h
   ·exact absurd h R
  subst h0;simp
 | some id=>
  have Q:h.get id=some (.cells (some e) 2 cs):=M;simp only[zf];by_cases h0:n=0
  ·subst h0;rw[zk rfl];have:cs=[]:=zt (by simpa using J);rw[this]
  ·rw[zm h0];unfold Dy;simp only[Q];rw[zk ⟨by simp,by omega⟩,yn,<-J,qe]
theorem HH.app(a:HH g h L F)(k:Nat){r:Option Nat}{e:TypeId}{cs new new':List AE}{z bytes n m:Nat}{x:AE}(G:L[k]?=some (.AP r e cs))(J:cs.length=n*z)(R:z≠0)(O:Du h z m x=some new)(hc:new.map II=new')(hm:new'.length=m*z)
  (V:n+m<=1099511627776/\(n+m)*bytes<=1099511627776) (h1:cs.all AE.one=true) (W:new'.all AE.one=true):
  ∃r' h',Av.app e z bytes g h (Ca r n) m x=some (Ca r' (n+m),h')/\HH g h' (L.set k (.AP r' e (cs++new'))) F:=by
 have hfo:Du h z n (AH r n)=some cs:=Bz a k G J R;unfold Av.app;by_cases h0:m=0
 ·subst h0;refine⟨r,h,by simp[Ca],?_⟩;have:new'=[]:=zt (by simpa using hm);subst this;rw[yr];have:L.set k (.AP r e cs)=L:=by rw[K2 G,<-Ig G]
  rw[this];exact a
 ·rw[zm h0,zk (show(Ca r n).n+m<=1099511627776/\((Ca r n).n+m)*bytes<=1099511627776 from V)];simp only[Ca,O,zf,hc];rw[show Du h z n (.slice (r.map λi=>(i,0)) n)=some cs from hfo];simp only;rw[zk (by rw[qG,h1,W];rfl)];cases r with
  |none=>
   refine⟨some h.size,_,rfl,?_⟩;exact a.SV G (by simp) (λi hi _=>h.EZ _ hi) (h.ES _) (λi hi=>by simp[Ck.ids]at hi;omega) (λi hi=>by simp[Ck.ids]at hi;rw[hi];exact a.new)
  | some id=>
   have Q:h.get id=some (.cells (some e) 2 cs):=a.mem G;have hid:=h.D6 Q;simp only[zf,Q];rw[zk ⟨a.Px G (by simp[Ck.ids]),trivial⟩];refine⟨some h.size,_,rfl,?_⟩;refine a.SV G (by simp) (λi hi J=>?_) ?_ (λi hi=>by simp[Ck.ids]at hi;omega) (λi hi=>by simp[Ck.ids]at hi;rw[hi];exact a.new)
   ·rw[AS.EZ _ _ (by simpa using hi)];exact h.EW _ hid (by simpa[Ck.ids]using J)
   ·have:=AS.ES (h.set id (.cells (some e) 0 [])) (.cells (some e) 2 (cs++new'));exact this
theorem HH.XX{r:Option Nat}{e:TypeId}{cs:List AE}{n z:Nat}(a:HH g h (.AP r e cs::L) F)(J:cs.length=n*z)(R:z≠0):∃h',Gy g h (AH r n)=some (.Jd n cs,h')/\HH g h' L F:=by
 have G:(Ck.AP r e cs::L)[0]?=some (.AP r e cs):=rfl;unfold AH;by_cases h0:n=0
 ·subst h0;have:cs=[]:=zt (by simpa using J);subst this;cases r with
  |none=>exact⟨h,rfl,a.tail⟩
  |some id=>exact⟨h,rfl,a.tail⟩
 ·cases r with
  |none=>
   exfalso;have hc:cs=[]:=a.mem G;subst hc;have h1:n*z=0:=by simpa using J.symm
   rcases yj.1 h1 with h|h
   ·exact h0 h
   ·exact R h
  |some id=>
   have Q:h.get id=some (.cells (some e) 2 cs):=a.mem G;have hid:=h.D6 Q;have V:Nat.beq n 0=false:=by cases n;exact absurd rfl h0;rfl
   refine⟨h.set id (.cells (some e) 0 cs),by simp only[Gy,zf,V,yf,Q,a.Px G (i:=id) (by simp[Ck.ids]),zY],?_⟩;have b:=a.SV (d:=.AP none e []) (h':=h.set id (.cells (some e) 0 cs)) G (by simp) (λi _ hi=>h.EW _ hid (by simpa[Ck.ids]using hi)) rfl (λi hi=>by simp[Ck.ids]at hi) (λi hi=>by simp[Ck.ids]at hi);exact HH.tail (c:=.AP none e []) b
end
end Go.Av
end
