/-
 A part.
-/
import Derived.Test.YthhonebaoidfgaaGreatDoorAvKeep
import Derived.Tactics
import Derived.OrdersIn
import Derived.TacticsIn
import Derived.LoopNIn
import Derived.RangeFuncLeaves
set_option linter.unusedSimpArgs false
namespace Go.Av
open Go.RowKit
def DP(P:Program)(f:FuncId)(args:Array Value)(w:World)(Q:Value->World->Prop):Prop:=
 match(callFunc f args).run P w with
 | .ok (.value v) w'=>Q v w'
 | .ok (.enter f' args') w'=>Calls P f' args' w' λe w''=>∃v,e=.returned v/\Q v w''
 |_=>False
def VC(P:Program)(G:Nat->Option (List AD))(call:Gd->AF->FuncId->List AD->Option (AD×AF)):Prop:=
 ∀g h f args v h',call g h f args=some (v,h')->Bh g h h'/\∀w0 m w (cargs:Array Value),CH G w0->Rel P w0 m h w->DD m args cargs.toList->
  DP P f cargs w λv' w'=>∃m':Bk,(m.ext h.size m')/\Rel P w0 m' h' w'/\VR m' v v'
def FW(r:Option Nat):Fence:={Fence.wide with round:=r}
theorem XL{rd:Option Nat}{n:Nat}{P:Program}{f:FuncId}{args:Array Value}{w:World}{R:Ending->World->Prop}(h:Calls P f args w R):CallsIn (FW rd) n P f args w R:=(callsIn_wide (n:=n)).2 h
def Yq(P:Program)(G:Nat->Option (List AD))(round:Gd->AF->Nat->List AD->Option (AD×AF)):Prop:=
 ∀g h l args v h',round g h l args=some (v,h')->Bh g h h'/\∀w0 m w (cargs:Array Value) E,CH G w0->Rel P w0 m h w->DD m args cargs.toList->m.i l=some E->
  ∃f tmps a b,(Instr.yield E.g cargs).run P w=.ok (.round E.g f tmps a b) w/\RoundIn Fence.wide 0 P E.g f tmps a b w λe w'=>∃v',e=.returned v'/\∃m':Bk,(m.ext h.size m')/\Rel P w0 m' h' w'/\VR m' v v'
structure HW(P:Program)(G:Nat->Option (List AD))(S:Self):Prop where
 call:VC P G S.call
 round:Yq P G S.round
section
variable {C:Hv} {S:Self} {w0:World} {m:Bk} {h:AF} {w:World}
theorem LI(M:HW C.P C.DC S){g:Gd}{fr:Fr}{op:Op}{v:AD}{h':AF}(I:Bv C S g h fr op=some (v,h')):Bh g h h':=by
 unfold Bv at I;split at I
 ·split at I
  ·exact(M.call _ _ _ _ _ _ I).1
  ·exact(M.round _ _ _ _ _ _ I).1
  ·cases I
 ·exact aI I
theorem Wo{P:Program}{G:Nat->Option (List AD)}{g:Gd}{fr:Fr}{op:Op}{x:AD×AF}(ho:Jl P G g h fr op=some x):∀c,op≠.defer c:=by
 rintro c rfl;simp[Jl,Bd,M0]at ho
theorem LB(M:HW C.P C.DC S)(O:CH C.DC w0)(r:Rel C.P w0 m h w){g:Gd}{fr:Fr}{a:Act}(L:FR m fr a){o:Oper}{v:AD}{h':AF}(I:Bv C S g h fr o.op=some (v,h'))
  {K:Act->World->Prop} {Q:Exit->Act->World->Prop} (V:∀m' v' w',(m.ext h.size m')->Rel C.P w0 m' h' w'->VR m' v v'->K (a.put o.dst v') w') (rd:Option Nat):o.wpIn (FW rd) 0 C.P a w K Q:=by
 unfold Bv at I;split at I
 ·rename_i x asE9 ts heq;split at I
  ·rename_i f first cap B
   obtain⟨_,hc⟩:=M.call _ _ _ _ _ _ I;have H:=L.ev x;rw[B]at H;generalize hq:a.eval x=q at H;cases H with
   | func _ _ _ fi ca h1 h2 Z Y=>
    have hargs:DD m (first++(asE9.toList.map (ev fr)++cap)) ((fi++asE9.map a.eval)++ca).toList:=by
     simp only[Array.toList_append,zC,qO];refine DD.app ⟨by simpa using h1,λi x y B T=>h2 i x y B (by simpa using T)⟩ (DD.app (L.KH asE9.toList) ⟨by simpa using Z,λi x y B T=>Y i x y B (by simpa using T)⟩)
    have hi:=hc w0 m w _ O r hargs;have N:(execOp a.eval o).run C.P w=(callFunc f ((fi++asE9.map a.eval)++ca)).run C.P w:=by
     simp only[execOp,heq,resolve,hq,Deferred.ofValue,Sem.run_bind,Sem.run_pure,Result.andThen_ok,invoke]
    refine⟨λ_ _=>trivial,?_⟩;rw[Oper.semAt_eq _ _ _ (by rw[heq];intro c hc;cases hc),N];unfold DP at hi;split at hi
    ·rename_i v' w' he;obtain⟨m',a1,a2,a3⟩:=hi;rw[he];exact V m' v' w' a1 a2 a3
    ·rename_i f' args' w' he;rw[he];refine⟨λh=>(by cases h),XL (hi.mono λe w'' hh=>?_)⟩;obtain⟨v',rfl,m',a1,a2,a3⟩:=hh;exact V m' v' w'' a1 a2 a3
    ·exact hi.elim
  ·rename_i l B;obtain⟨_,hc⟩:=M.round _ _ _ _ _ _ I;have H:=L.ev x;rw[B]at H;generalize hq:a.eval x=q at H;cases H with
   | eP _ E hE=>
    obtain⟨f,tmps,ca,cb,T,D⟩:=hc w0 m w (asE9.map a.eval) E O r (by simpa using L.KH asE9.toList) hE;have N:(execOp a.eval o).run C.P w=(Instr.yield E.g (asE9.map a.eval)).run C.P w:=by
     simp only[execOp,heq,resolve,hq,Deferred.ofValue,Sem.run_bind,Sem.run_pure,Result.andThen_ok,invoke,Array.empty_append]
    refine⟨λ_ _=>trivial,?_⟩;rw[Oper.semAt_eq _ _ _ (by rw[heq];intro c hc;cases hc),N,T];refine⟨λh=>(by cases h),RoundIn.mono (F:=FW rd) D λe w'' hh=>?_⟩;obtain⟨v',rfl,m',a1,a2,a3⟩:=hh;exact V m' v' w'' a1 a2 a3
  ·cases I
 ·obtain⟨m',n,v',w',h1,h2,Z,Y,h5⟩:=Zy O r L I;refine⟨λ_ _=>trivial,?_⟩;rw[Oper.semAt_eq _ _ _ (Wo I),h1];rcases h2 with rfl|⟨rfl,rfl⟩
  ·exact V m' v' w' Z Y h5
  ·exact V m' _ w' Z Y h5
theorem HD{ops:Array Oper}{fr:Fr}{a:Act}(L:FR m fr a){o:Oper}{b:Bool}(hw:DN ops fr o=some b):Region.wanted o (yielded ops a.tmps)=b:=by
 unfold DN at hw;unfold Region.wanted;split at hw
 ·rename_i U;injection hw with hw;subst hw;rw[U]
 ·rename_i j want U;rw[U];simp only;unfold yielded;split at hw
  ·rename_i hd;injection hw with hw;subst hw;rw[hd];rfl
  ·rename_i d hd;rw[hd,za];have H:=L.2 d;have hget:a.tmps.getD d undef=(a.tmps[d]?).getD undef:=by simp[zn]
   rw[hget]at H;split at hw
   ·rename_i bb hb;injection hw with hw;subst hw;rw[hb]at H;have H:=H.Ll;cases W:a.tmps[d]? with
    |none=>rw[W]at H;cases H
    |some u=>rw[W]at H;simp only[zV]at H;subst H;simp
   ·cases hw
   ·rename_i nb nu;injection hw with hw;subst hw;cases W:a.tmps[d]? with
    |none=>rfl
    | some u=>
     rw[W]at H;simp only[zV]at H;cases u with
     |bool b=>
      cases hn:nth fr d<;>rw[hn]at H<;>cases H
      ·exact absurd hn nu
      ·exact absurd hn (nb _)
     |_=>rfl
theorem El(M:HW C.P C.DC S){g:Gd}{ops:Array Oper}:∀(l:List Oper) {h h':AF} {fr fr':Fr},Eb C S g ops l fr h=some (fr',h')->Bh g h h'/\fr'.length=fr.length
 |[],h,h',fr,fr',D=>by
  simp only[Eb,zb,ze]at D;obtain⟨rfl,rfl⟩:=D;exact⟨Bh.refl _ _,rfl⟩
 | o::rest,h,h',fr,fr',D=>by
  unfold Eb at D;split at D
  ·split at D
   ·rename_i v h1 I;obtain⟨k1,k2⟩:=El M rest D;exact⟨(LI M I).trans k1,by rw[k2];simp⟩
   ·cases D
  ·obtain⟨k1,k2⟩:=El M rest D;exact⟨k1,by rw[k2];simp⟩
  ·cases D
theorem D7(a:Act)(d:Option Tmp)(v:Value):(a.put d v).defers=a.defers:=by cases d<;>rfl
theorem G3(M:HW C.P C.DC S)(O:CH C.DC w0){g:Gd}{ops:Array Oper}{Q:Exit->Act->World->Prop}:∀(l:List Oper) {m:Bk} {h:AF} {w:World} {fr fr':Fr} {h':AF} {a:Act},
  Rel C.P w0 m h w->FR m fr a->Eb C S g ops l fr h=some (fr',h')->
  (∀m' a' w',(m.ext h.size m')->Rel C.P w0 m' h' w'->FR m' fr' a'->a'.defers=a.defers->Q .normal a' w')->∀rd:Option Nat,wpListIn (FW rd) 0 C.P ops Q l a w
 |[],m,h,w,fr,fr',h',a,r,L,D,X,rd=>by
  simp only[Eb,zb,ze]at D;obtain⟨rfl,rfl⟩:=D;exact X m a w (Bk.ext.refl _ _) r L rfl
 | o::rest,m,h,w,fr,fr',h',a,r,L,D,X,rd=>by
  unfold Eb at D;split at D
  ·rename_i hw;split at D
   ·rename_i v h1 I;have hk:=LI M I;have J:=HD L hw;unfold wpListIn;rw[zl J];refine LB M O r L I (λm1 v1 w1 e1 e2 e3=>?_) rd;refine G3 M O rest e2 (FR.put (L.mono (r.Oi e1)) o.dst e3) D (λm' a' w' g1 g2 g3 g4=>X m' a' w' (e1.trans g1 hk.1) g2 g3 ?_) rd;rw[g4,D7]
   ·cases D
  ·rename_i hw;have J:=HD L hw;unfold wpListIn;rw[zj (by rw[J];simp)];exact⟨λ_ _=>trivial,G3 M O rest r (FR.put L o.dst (VR.HN m)) D (λm' a' w' g1 g2 g3 g4=>X m' a' w' g1 g2 g3 (by rw[g4,D7])) rd⟩
  ·cases D
def Ip(op:Op)(fr fr':Fr):Prop:=∀x∈op.operands.toList,ev fr x=ev fr' x
theorem NO{l:List Operand}{fr fr':Fr}(h:∀x∈l,ev fr x=ev fr' x):l.map (ev fr)=l.map (ev fr'):=List.map_congr_left h
theorem Ry{l:List (Nat×Operand)}{fr fr':Fr}(h:∀x∈l.map (·.2),ev fr x=ev fr' x):(l.map λ(i,x)=>(i,ev fr x))=l.map λ(i,x)=>(i,ev fr' x):=by
 apply List.map_congr_left;rintro⟨i,x⟩ B;simp only[ze,qs];exact h x (zZ.2 ⟨_,B,rfl⟩)
theorem Py{o:Option Operand}{fr fr':Fr}(h:∀x,o=some x->ev fr x=ev fr' x):o.map (ev fr)=o.map (ev fr'):=by
 cases o with
 |none=>rfl
 |some x=>simp[h x rfl]
theorem Wf{P:Program}{op:Op}{fr fr':Fr}(h:Ip op fr fr'):Ku P fr op=Ku P fr' op:=by
 unfold Ip at h;cases op<;>simp[Op.operands,Call.operands]at h<;>try (simp[Ku,h];done)
 case build t ps=>
  simp only[Ku]
  rw[Ry (l:=ps.toList) (fr:=fr) (fr':=fr') (λx B=>by
   obtain⟨p,hp,rfl⟩:=zZ.1 B
   exact h p.2 p.1 (by simpa using hp))]
 case makeFunc fn first cap=>
  simp only[Ku];rw[NO (l:=first.toList) λx B=>h x (.inl (by simpa using B)),NO (l:=cap.toList) λx B=>h x (.inr (by simpa using B))]
 case slice t x lo hi mx=>
  cases mx with
  |some y=>simp[Ku]
  |none=>
   simp only[Ku];rw[h.1,Py (λx B=>h.2 x (.inl B)),Py (λx B=>h.2 x (.inr (.inl B)))]
 case call c=>
  obtain⟨callee,asE9,ts⟩:=c;cases callee with
  |value f=>simp[Ku]
  |invoke r mth=>simp[Ku]
  |builtin b=>simp only[Ku];rw[NO (l:=asE9.toList) λx B=>h x (by simpa using B)]
theorem M8{op:Op}{fr fr':Fr}(h:Ip op fr fr'):EN fr op=EN fr' op:=by
 unfold Ip at h;cases op<;>simp[Op.operands,Call.operands]at h<;>try (simp[EN,h];done)
 case call c=>
  obtain⟨callee,asE9,ts⟩:=c;simp only[EN];split
  ·rename_i x B;rw[h x (.inr (by rw[<-Array.mem_toList_iff,B];simp))]
  ·rfl
theorem PQ{P:Program}{G:Nat->Option (List AD)}{op:Op}{fr fr':Fr}(h:Ip op fr fr')(ob:Option Cs):Mh P G fr ob op=Mh P G fr' ob op:=by
 unfold Ip at h;cases op<;>simp[Op.operands,Call.operands]at h<;>try (simp[Mh,h];done)
 case slice t x lo hi mx=>
  cases mx with
  |some y=>simp[Mh]
  |none=>
   simp only[Mh];rw[h.1,Py (λx B=>h.2 x (.inl B)),Py (λx B=>h.2 x (.inr (.inl B)))]
 case call c=>
  obtain⟨callee,asE9,ts⟩:=c;cases callee with
  |value f=>simp[Mh]
  |invoke r mth=>simp[Mh]
  | builtin b=>
   cases b<;>simp only[Mh];split
   ·rename_i x B;rw[h x (by simp[<-Array.mem_toList_iff,B])]
   ·rfl
theorem WG{P:Program}{op:Op}{fr fr':Fr}(h:Ip op fr fr'):TH P fr op=TH P fr' op:=by
 unfold Ip at h;cases op<;>simp[Op.operands,Call.operands]at h<;>try (simp[TH,h];done)
 case buildSlice t len ps=>
  simp only[TH]
  rw[Ry (l:=ps.toList) (fr:=fr) (fr':=fr') (λx B=>by
   obtain⟨p,hp,rfl⟩:=zZ.1 B
   exact h p.2 p.1 (by simpa using hp))]
 case makeMap t r=>cases r<;>simp[TH]
theorem bK{P:Program}{g:Gd}{h0:AF}{op:Op}{fr fr':Fr}(h:Ip op fr fr'):M0 P g h0 fr op=M0 P g h0 fr' op:=by
 unfold Ip at h;cases op<;>simp[Op.operands,Call.operands]at h<;>try (simp[M0,h];done)
 case next it s=>cases s<;>simp[M0,h]
 case call c=>
  obtain⟨callee,asE9,ts⟩:=c;cases callee with
  |value f=>simp[M0]
  |invoke r mth=>simp[M0]
  |builtin b=>simp only[M0];rw[NO (l:=asE9.toList) λx B=>h x (by simpa using B)]
theorem bB{P:Program}{G:Nat->Option (List AD)}{g:Gd}{h0:AF}{op:Op}{fr fr':Fr}(h:Ip op fr fr'):Jl P G g h0 fr op=Jl P G g h0 fr' op:=by
 unfold Jl;rw[Wf h,M8 h,WG h,bK h];split
 ·rfl
 ·split
  ·rw[PQ h]
  ·split
   ·rw[PQ h]
   ·rfl
 ·rfl
 ·rfl
theorem TE{g:Gd}{h0:AF}{op:Op}{fr fr':Fr}(h:Ip op fr fr'):Bv C S g h0 fr op=Bv C S g h0 fr' op:=by
 unfold Bv;split
 ·rename_i x asE9 ts;unfold Ip at h;simp[Op.operands,Call.operands]at h;rw[h.1,NO (l:=asE9.toList) λy T=>h.2 y (by simpa using T)]
 ·exact bB h
theorem JG{g:Gd}{h0:AF}{op:Op}{fr:Fr}(h:Bd C.P op≠3):Bv C S g h0 fr op=Jl C.P C.DC g h0 fr op:=by
 unfold Bv;split
 ·simp[Bd]at h
 ·rfl
theorem MJ{ops:Array Oper}{fr fr':Fr}{o:Oper}(h:∀t∈o.looksAt ops,nth fr t=nth fr' t):DN ops fr o=DN ops fr' o:=by
 unfold DN;cases U:o.guard with
 |none=>rfl
 | some p=>
  obtain⟨j,want⟩:=p;simp only;cases hd:(ops[j]?).bind (·.dst)with
  |none=>rfl
  |some d=>
   simp only;rw[h d (by simp[Oper.looksAt,U,hd])]
theorem Ql{ops:Array Oper}{fr fr':Fr}{o:Oper}(h:∀t∈o.looksAt ops,nth fr t=nth fr' t):Ip o.op fr fr':=by
 intro x B;cases x with
 |tmp t=>exact h t (by unfold Oper.looksAt;exact zu.2 (.inl (qF.2 ⟨_,B,rfl⟩)))
 |_=>rfl
end
end Go.Av
