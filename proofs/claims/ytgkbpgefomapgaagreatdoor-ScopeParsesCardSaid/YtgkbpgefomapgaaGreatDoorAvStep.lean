/-
 A part.
-/
import Derived.Test.YtgkbpgefomapgaaGreatDoorAvKeep
import Derived.Tactics
import Derived.OrdersIn
import Derived.TacticsIn
import Derived.LoopNIn
import Derived.RangeFuncLeaves
set_option linter.unusedSimpArgs false
namespace Go.Av
open Go.RowKit
def GO(P:Program)(f:FuncId)(args:Array Value)(w:World)(Q:Value->World->Prop):Prop:=
 match(callFunc f args).run P w with
 | .ok (.value v) w'=>Q v w'
 | .ok (.enter f' args') w'=>Calls P f' args' w' λe w''=>∃v,e=.returned v/\Q v w''
 |_=>False
def Sg(P:Program)(G:Nat->Option (List AE))(call:Gd->AS->FuncId->List AE->Option (AE×AS)):Prop:=
 ∀g h f args v h',call g h f args=some (v,h')->CT g h h'/\∀w0 m w (cargs:Array Value),EF G w0->Rel P w0 m h w->Dt m args cargs.toList->
  GO P f cargs w λv' w'=>∃m':CU,(m.ext h.size m')/\Rel P w0 m' h' w'/\VR m' v v'
def FW(r:Option Nat):Fence:={Fence.wide with round:=r}
theorem VK{rd:Option Nat}{n:Nat}{P:Program}{f:FuncId}{args:Array Value}{w:World}{R:Ending->World->Prop}(h:Calls P f args w R):CallsIn (FW rd) n P f args w R:=(callsIn_wide (n:=n)).2 h
def VU(P:Program)(G:Nat->Option (List AE))(round:Gd->AS->Nat->List AE->Option (AE×AS)):Prop:=
 ∀g h l args v h',round g h l args=some (v,h')->CT g h h'/\∀w0 m w (cargs:Array Value) E,EF G w0->Rel P w0 m h w->Dt m args cargs.toList->m.i l=some E->
  ∃f tmps a b,(Instr.yield E.g cargs).run P w=.ok (.round E.g f tmps a b) w/\RoundIn Fence.wide 0 P E.g f tmps a b w λe w'=>∃v',e=.returned v'/\∃m':CU,(m.ext h.size m')/\Rel P w0 m' h' w'/\VR m' v v'
structure Kv(P:Program)(G:Nat->Option (List AE))(S:Self):Prop where
 call:Sg P G S.call
 round:VU P G S.round
section
variable {C:J8} {S:Self} {w0:World} {m:CU} {h:AS} {w:World}
theorem Mp(M:Kv C.P C.GZ S){g:Gd}{fr:Fr}{op:Op}{v:AE}{h':AS}(I:CC C S g h fr op=some (v,h')):CT g h h':=by
 unfold CC at I;split at I
 ·split at I
  ·exact(M.call _ _ _ _ _ _ I).1
  ·exact(M.round _ _ _ _ _ _ I).1
  ·cases I
 ·exact V6 I
theorem TQ{P:Program}{G:Nat->Option (List AE)}{g:Gd}{fr:Fr}{op:Op}{x:AE×AS}(ho:J7 P G g h fr op=some x):∀c,op≠.defer c:=by
 rintro c rfl;simp[J7,Br,ML]at ho
theorem Ph(M:Kv C.P C.GZ S)(O:EF C.GZ w0)(r:Rel C.P w0 m h w){g:Gd}{fr:Fr}{a:Act}(L:FR m fr a){o:Oper}{v:AE}{h':AS}(I:CC C S g h fr o.op=some (v,h'))
  {K:Act->World->Prop} {Q:Exit->Act->World->Prop} (V:∀m' v' w',(m.ext h.size m')->Rel C.P w0 m' h' w'->VR m' v v'->K (a.put o.dst v') w') (rd:Option Nat):o.wpIn (FW rd) 0 C.P a w K Q:=by
 unfold CC at I;split at I
 ·rename_i x as ts heq;split at I
  ·rename_i f first cap B
   obtain⟨_,hc⟩:=M.call _ _ _ _ _ _ I;have H:=L.ev x;rw[B]at H;generalize hq:a.eval x=q at H;cases H with
   | func _ _ _ fi ca h1 h2 Z Y=>
    have hargs:Dt m (first++(as.toList.map (ev fr)++cap)) ((fi++as.map a.eval)++ca).toList:=by
     simp only[Array.toList_append,zO,qd];refine Dt.app ⟨by simpa using h1,λi x y B T=>h2 i x y B (by simpa using T)⟩ (Dt.app (L.aC as.toList) ⟨by simpa using Z,λi x y B T=>Y i x y B (by simpa using T)⟩)
    have hi:=hc w0 m w _ O r hargs;have N:(execOp a.eval o).run C.P w=(callFunc f ((fi++as.map a.eval)++ca)).run C.P w:=by
     simp only[execOp,heq,resolve,hq,Deferred.ofValue,Sem.run_bind,Sem.run_pure,Result.andThen_ok,invoke]
    refine⟨λ_ _=>trivial,?_⟩;rw[Oper.semAt_eq _ _ _ (by rw[heq];intro c hc;cases hc),N];unfold GO at hi;split at hi
    ·rename_i v' w' he;obtain⟨m',a1,a2,a3⟩:=hi;rw[he];exact V m' v' w' a1 a2 a3
    ·rename_i f' args' w' he;rw[he];refine⟨λh=>(by cases h),VK (hi.mono λe w'' hh=>?_)⟩;obtain⟨v',rfl,m',a1,a2,a3⟩:=hh;exact V m' v' w'' a1 a2 a3
    ·exact hi.elim
  ·rename_i l B;obtain⟨_,hc⟩:=M.round _ _ _ _ _ _ I;have H:=L.ev x;rw[B]at H;generalize hq:a.eval x=q at H;cases H with
   | Z9 _ E hE=>
    obtain⟨f,tmps,ca,cb,T,D⟩:=hc w0 m w (as.map a.eval) E O r (by simpa using L.aC as.toList) hE;have N:(execOp a.eval o).run C.P w=(Instr.yield E.g (as.map a.eval)).run C.P w:=by
     simp only[execOp,heq,resolve,hq,Deferred.ofValue,Sem.run_bind,Sem.run_pure,Result.andThen_ok,invoke,Array.empty_append]
    refine⟨λ_ _=>trivial,?_⟩;rw[Oper.semAt_eq _ _ _ (by rw[heq];intro c hc;cases hc),N,T];refine⟨λh=>(by cases h),RoundIn.mono (F:=FW rd) D λe w'' hh=>?_⟩;obtain⟨v',rfl,m',a1,a2,a3⟩:=hh;exact V m' v' w'' a1 a2 a3
  ·cases I
 ·obtain⟨m',n,v',w',h1,h2,Z,Y,h5⟩:=WH O r L I;refine⟨λ_ _=>trivial,?_⟩;rw[Oper.semAt_eq _ _ _ (TQ I),h1];rcases h2 with rfl|⟨rfl,rfl⟩
  ·exact V m' v' w' Z Y h5
  ·exact V m' _ w' Z Y h5
theorem JJ{ops:Array Oper}{fr:Fr}{a:Act}(L:FR m fr a){o:Oper}{b:Bool}(hw:Dm ops fr o=some b):Region.wanted o (yielded ops a.tmps)=b:=by
 unfold Dm at hw;unfold Region.wanted;split at hw
 ·rename_i U;injection hw with hw;subst hw;rw[U]
 ·rename_i j want U;rw[U];simp only;unfold yielded;split at hw
  ·rename_i hd;injection hw with hw;subst hw;rw[hd];rfl
  ·rename_i d hd;rw[hd,za];have H:=L.2 d;have hget:a.tmps.getD d undef=(a.tmps[d]?).getD undef:=by simp[zu]
   rw[hget]at H;split at hw
   ·rename_i bb hb;injection hw with hw;subst hw;rw[hb]at H;have H:=H.K6;cases W:a.tmps[d]? with
    |none=>rw[W]at H;cases H
    |some u=>rw[W]at H;simp only[yb]at H;subst H;simp
   ·cases hw
   ·rename_i nb nu;injection hw with hw;subst hw;cases W:a.tmps[d]? with
    |none=>rfl
    | some u=>
     rw[W]at H;simp only[yb]at H;cases u with
     |bool b=>
      cases hn:nth fr d<;>rw[hn]at H<;>cases H
      ·exact absurd hn nu
      ·exact absurd hn (nb _)
     |_=>rfl
theorem Ln(M:Kv C.P C.GZ S){g:Gd}{ops:Array Oper}:∀(l:List Oper) {h h':AS} {fr fr':Fr},Ia C S g ops l fr h=some (fr',h')->CT g h h'/\fr'.length=fr.length
 |[],h,h',fr,fr',D=>by
  simp only[Ia,zd,ze]at D;obtain⟨rfl,rfl⟩:=D;exact⟨CT.refl _ _,rfl⟩
 | o::rest,h,h',fr,fr',D=>by
  unfold Ia at D;split at D
  ·split at D
   ·rename_i v h1 I;obtain⟨k1,k2⟩:=Ln M rest D;exact⟨(Mp M I).trans k1,by rw[k2];simp⟩
   ·cases D
  ·obtain⟨k1,k2⟩:=Ln M rest D;exact⟨k1,by rw[k2];simp⟩
  ·cases D
theorem KF(a:Act)(d:Option Tmp)(v:Value):(a.put d v).defers=a.defers:=by cases d<;>rfl
theorem Lq(M:Kv C.P C.GZ S)(O:EF C.GZ w0){g:Gd}{ops:Array Oper}{Q:Exit->Act->World->Prop}:∀(l:List Oper) {m:CU} {h:AS} {w:World} {fr fr':Fr} {h':AS} {a:Act},
  Rel C.P w0 m h w->FR m fr a->Ia C S g ops l fr h=some (fr',h')->
  (∀m' a' w',(m.ext h.size m')->Rel C.P w0 m' h' w'->FR m' fr' a'->a'.defers=a.defers->Q .normal a' w')->∀rd:Option Nat,wpListIn (FW rd) 0 C.P ops Q l a w
 |[],m,h,w,fr,fr',h',a,r,L,D,X,rd=>by
  simp only[Ia,zd,ze]at D;obtain⟨rfl,rfl⟩:=D;exact X m a w (CU.ext.refl _ _) r L rfl
 | o::rest,m,h,w,fr,fr',h',a,r,L,D,X,rd=>by
  unfold Ia at D;split at D
  ·rename_i hw;split at D
   ·rename_i v h1 I;have hk:=Mp M I;have J:=JJ L hw;unfold wpListIn;rw[zk J];refine Ph M O r L I (λm1 v1 w1 e1 e2 e3=>?_) rd;refine Lq M O rest e2 (FR.put (L.mono (r.VW e1)) o.dst e3) D (λm' a' w' g1 g2 g3 g4=>X m' a' w' (e1.trans g1 hk.1) g2 g3 ?_) rd;rw[g4,KF]
   ·cases D
  ·rename_i hw;have J:=JJ L hw;unfold wpListIn;rw[zm (by rw[J];simp)];exact⟨λ_ _=>trivial,Lq M O rest r (FR.put L o.dst (VR.Lu m)) D (λm' a' w' g1 g2 g3 g4=>X m' a' w' g1 g2 g3 (by rw[g4,KF])) rd⟩
  ·cases D
def Iq(op:Op)(fr fr':Fr):Prop:=∀x∈op.operands.toList,ev fr x=ev fr' x
theorem Mh{l:List Operand}{fr fr':Fr}(h:∀x∈l,ev fr x=ev fr' x):l.map (ev fr)=l.map (ev fr'):=List.map_congr_left h
theorem Qf{l:List (Nat×Operand)}{fr fr':Fr}(h:∀x∈l.map (·.2),ev fr x=ev fr' x):(l.map λ(i,x)=>(i,ev fr x))=l.map λ(i,x)=>(i,ev fr' x):=by
 apply List.map_congr_left;rintro⟨i,x⟩ B;simp only[ze,qM];exact h x (z7.2 ⟨_,B,rfl⟩)
theorem OL{o:Option Operand}{fr fr':Fr}(h:∀x,o=some x->ev fr x=ev fr' x):o.map (ev fr)=o.map (ev fr'):=by
 cases o with
 |none=>rfl
 |some x=>simp[h x rfl]
theorem Ts{P:Program}{op:Op}{fr fr':Fr}(h:Iq op fr fr'):KZ P fr op=KZ P fr' op:=by
 unfold Iq at h;cases op<;>simp[Op.operands,Call.operands]at h<;>try (simp[KZ,h];done)
 case build t ps=>
  simp only[KZ]
  rw[Qf (l:=ps.toList) (fr:=fr) (fr':=fr') (λx B=>by
   obtain⟨p,hp,rfl⟩:=z7.1 B
   exact h p.2 p.1 (by simpa using hp))]
 case makeFunc fn first cap=>
  simp only[KZ];rw[Mh (l:=first.toList) λx B=>h x (.inl (by simpa using B)),Mh (l:=cap.toList) λx B=>h x (.inr (by simpa using B))]
 case slice t x lo hi mx=>
  cases mx with
  |some y=>simp[KZ]
  |none=>
   simp only[KZ];rw[h.1,OL (λx B=>h.2 x (.inl B)),OL (λx B=>h.2 x (.inr (.inl B)))]
 case call c=>
  obtain⟨callee,as,ts⟩:=c;cases callee with
  |value f=>simp[KZ]
  |invoke r mth=>simp[KZ]
  |builtin b=>simp only[KZ];rw[Mh (l:=as.toList) λx B=>h x (by simpa using B)]
theorem Mb{op:Op}{fr fr':Fr}(h:Iq op fr fr'):Es fr op=Es fr' op:=by
 unfold Iq at h;cases op<;>simp[Op.operands,Call.operands]at h<;>try (simp[Es,h];done)
 case call c=>
  obtain⟨callee,as,ts⟩:=c;simp only[Es];split
  ·rename_i x B;rw[h x (.inr (by rw[<-Array.mem_toList_iff,B];simp))]
  ·rfl
theorem OI{P:Program}{G:Nat->Option (List AE)}{op:Op}{fr fr':Fr}(h:Iq op fr fr')(ob:Option Dc):MJ P G fr ob op=MJ P G fr' ob op:=by
 unfold Iq at h;cases op<;>simp[Op.operands,Call.operands]at h<;>try (simp[MJ,h];done)
 case slice t x lo hi mx=>
  cases mx with
  |some y=>simp[MJ]
  |none=>
   simp only[MJ];rw[h.1,OL (λx B=>h.2 x (.inl B)),OL (λx B=>h.2 x (.inr (.inl B)))]
 case call c=>
  obtain⟨callee,as,ts⟩:=c;cases callee with
  |value f=>simp[MJ]
  |invoke r mth=>simp[MJ]
  | builtin b=>
   cases b<;>simp only[MJ];split
   ·rename_i x B;rw[h x (by simp[<-Array.mem_toList_iff,B])]
   ·rfl
theorem TN{P:Program}{op:Op}{fr fr':Fr}(h:Iq op fr fr'):RC P fr op=RC P fr' op:=by
 unfold Iq at h;cases op<;>simp[Op.operands,Call.operands]at h<;>try (simp[RC,h];done)
 case buildSlice t len ps=>
  simp only[RC]
  rw[Qf (l:=ps.toList) (fr:=fr) (fr':=fr') (λx B=>by
   obtain⟨p,hp,rfl⟩:=z7.1 B
   exact h p.2 p.1 (by simpa using hp))]
 case makeMap t r=>cases r<;>simp[RC]
theorem Wp{P:Program}{g:Gd}{h0:AS}{op:Op}{fr fr':Fr}(h:Iq op fr fr'):ML P g h0 fr op=ML P g h0 fr' op:=by
 unfold Iq at h;cases op<;>simp[Op.operands,Call.operands]at h<;>try (simp[ML,h];done)
 case next it s=>cases s<;>simp[ML,h]
 case call c=>
  obtain⟨callee,as,ts⟩:=c;cases callee with
  |value f=>simp[ML]
  |invoke r mth=>simp[ML]
  |builtin b=>simp only[ML];rw[Mh (l:=as.toList) λx B=>h x (by simpa using B)]
theorem XF{P:Program}{G:Nat->Option (List AE)}{g:Gd}{h0:AS}{op:Op}{fr fr':Fr}(h:Iq op fr fr'):J7 P G g h0 fr op=J7 P G g h0 fr' op:=by
 unfold J7;rw[Ts h,Mb h,TN h,Wp h];split
 ·rfl
 ·split
  ·rw[OI h]
  ·split
   ·rw[OI h]
   ·rfl
 ·rfl
 ·rfl
theorem Uy{g:Gd}{h0:AS}{op:Op}{fr fr':Fr}(h:Iq op fr fr'):CC C S g h0 fr op=CC C S g h0 fr' op:=by
 unfold CC;split
 ·rename_i x as ts;unfold Iq at h;simp[Op.operands,Call.operands]at h;rw[h.1,Mh (l:=as.toList) λy T=>h.2 y (by simpa using T)]
 ·exact XF h
theorem I9{g:Gd}{h0:AS}{op:Op}{fr:Fr}(h:Br C.P op≠3):CC C S g h0 fr op=J7 C.P C.GZ g h0 fr op:=by
 unfold CC;split
 ·simp[Br]at h
 ·rfl
theorem Lk{ops:Array Oper}{fr fr':Fr}{o:Oper}(h:∀t∈o.looksAt ops,nth fr t=nth fr' t):Dm ops fr o=Dm ops fr' o:=by
 unfold Dm;cases U:o.guard with
 |none=>rfl
 | some p=>
  obtain⟨j,want⟩:=p;simp only;cases hd:(ops[j]?).bind (·.dst)with
  |none=>rfl
  |some d=>
   simp only;rw[h d (by simp[Oper.looksAt,U,hd])]
theorem SB{ops:Array Oper}{fr fr':Fr}{o:Oper}(h:∀t∈o.looksAt ops,nth fr t=nth fr' t):Iq o.op fr fr':=by
 intro x B;cases x with
 |tmp t=>exact h t (by unfold Oper.looksAt;exact zp.2 (.inl (qt.2 ⟨_,B,rfl⟩)))
 |_=>rfl
end
end Go.Av
