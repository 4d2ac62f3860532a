/-
 A part.
-/
import Derived.Test.YtfgmnhjedmkpeaaAbsKeep
import Derived.Tactics
import Derived.Orders
set_option linter.unusedSimpArgs false
namespace Go.Abs
open Go.RowKit
def Cl(P:Program)(f:FuncId)(args:Array Value)(w:World)(Q:Value->World->Prop):Prop:=
 match(callFunc f args).run P w with
 | .ok (.value v) w'=>Q v w'
 | .ok (.enter f' args') w'=>Calls P f' args' w' λe w''=>∃v,e=.returned v/\Q v w''
 |_=>False
def GH(P:Program)(G:Nat->Option (List AD))(call:Gd->AE->FuncId->List AD->Option (AD×AE)):Prop:=
 ∀g h f args v h',call g h f args=some (v,h')->BT g h h'/\∀w0 m w (cargs:Array Value),CL G w0->Rel P w0 m h w->B5 m args cargs.toList->
  Cl P f cargs w λv' w'=>∃m':BU,(∀id,id<h.size->m' id=m id)/\Rel P w0 m' h' w'/\VR m' v v'
section
variable {C:Gf} {S:Self} {w0:World} {m:BU} {h:AE} {w:World}
theorem HG(J:GH C.P C.C4 S.call){g:Gd}{fr:Fr}{op:Op}{v:AD}{h':AE}(E:BI C S g h fr op=some (v,h')):BT g h h':=by
 unfold BI at E;split at E
 ·split at E
  ·exact(J _ _ _ _ _ _ E).1
  ·cases E
 ·exact OV E
theorem I9(J:GH C.P C.C4 S.call)(M:CL C.C4 w0)(r:Rel C.P w0 m h w){g:Gd}{fr:Fr}{a:Act}(I:FR m fr a){o:Oper}{v:AD}{h':AE}(E:BI C S g h fr o.op=some (v,h'))
  {K:Act->World->Prop} {Q:Exit->Act->World->Prop} (V:∀m' v' w',(∀id,id<h.size->m' id=m id)->Rel C.P w0 m' h' w'->VR m' v v'->K (a.put o.dst v') w'):o.wp C.P a w K Q:=by
 unfold BI at E;split at E
 ·rename_i x asE9 ts heq;split at E
  ·rename_i f first cap D
   obtain⟨_,hc⟩:=J _ _ _ _ _ _ E;have F:=I.ev x;rw[D]at F;generalize hq:a.eval x=q at F;cases F with
   | func _ _ _ fi ca h1 Z X W=>
    have hargs:B5 m (first++(asE9.toList.map (ev fr)++cap)) ((fi++asE9.map a.eval)++ca).toList:=by
     simp only[Array.toList_append,xU,xW];refine B5.app ⟨by simpa using h1,λi x y D N=>Z i x y D (by simpa using N)⟩ (B5.app (I.U1 asE9.toList) ⟨by simpa using X,λi x y D N=>W i x y D (by simpa using N)⟩)
    have hi:=hc w0 m w _ M r hargs;have hrun:(execOp a.eval o).run C.P w=(callFunc f ((fi++asE9.map a.eval)++ca)).run C.P w:=by
     simp only[execOp,heq,resolve,hq,Deferred.ofValue,Sem.run_bind,Sem.run_pure,Result.andThen_ok,invoke]
    unfold Oper.wp;rw[hrun];unfold Cl at hi;split at hi
    ·rename_i v' w' he;obtain⟨m',a1,a2,a3⟩:=hi;rw[he];exact V m' v' w' a1 a2 a3
    ·rename_i f' args' w' he;rw[he];refine hi.mono λe w'' hh=>?_;obtain⟨v',rfl,m',a1,a2,a3⟩:=hh;exact V m' v' w'' a1 a2 a3
    ·exact hi.elim
  ·cases E
 ·obtain⟨m',n,v',w',h1,Z,X,W,h5⟩:=OL M r I E;unfold Oper.wp;rw[h1];rcases Z with rfl|⟨rfl,rfl⟩
  ·exact V m' v' w' X W h5
  ·exact V m' _ w' X W h5
theorem Ed{ops:Array Oper}{fr:Fr}{a:Act}(I:FR m fr a){o:Oper}{b:Bool}(hw:Bp ops fr o=some b):Region.wanted o (yielded ops a.tmps)=b:=by
 unfold Bp at hw;unfold Region.wanted;split at hw
 ·rename_i O;injection hw with hw;subst hw;rw[O]
 ·rename_i j want O;rw[O];simp only;unfold yielded;split at hw
  ·rename_i R;injection hw with hw;subst hw;rw[R];rfl
  ·rename_i d R;rw[R,qQ];have F:=I.2 d;have hget:a.tmps.getD d undef=(a.tmps[d]?).getD undef:=by simp[qZ]
   rw[hget]at F;split at hw
   ·rename_i bb hb;injection hw with hw;subst hw;rw[hb]at F;have F:=F.Gl;cases T:a.tmps[d]? with
    |none=>rw[T]at F;cases F
    |some u=>rw[T]at F;simp only[xm]at F;subst F;simp
   ·cases hw
   ·rename_i nb nu;injection hw with hw;subst hw;cases T:a.tmps[d]? with
    |none=>rfl
    | some u=>
     rw[T]at F;simp only[xm]at F;cases u with
     |bool b=>
      cases Y:nth fr d<;>rw[Y]at F<;>cases F
      ·exact absurd Y nu
      ·exact absurd Y (nb _)
     |_=>rfl
theorem Gg(J:GH C.P C.C4 S.call){g:Gd}{ops:Array Oper}:∀(l:List Oper) {h h':AE} {fr fr':Fr},EF C S g ops l fr h=some (fr',h')->BT g h h'/\fr'.length=fr.length
 |[],h,h',fr,fr',B=>by
  simp only[EF,qU,qW]at B;obtain⟨rfl,rfl⟩:=B;exact⟨BT.refl _ _,rfl⟩
 | o::rest,h,h',fr,fr',B=>by
  unfold EF at B;split at B
  ·split at B
   ·rename_i v h1 E;obtain⟨k1,k2⟩:=Gg J rest B;exact⟨(HG J E).trans k1,by rw[k2];simp⟩
   ·cases B
  ·obtain⟨k1,k2⟩:=Gg J rest B;exact⟨k1,by rw[k2];simp⟩
  ·cases B
theorem FK(a:Act)(d:Option Tmp)(v:Value):(a.put d v).defers=a.defers:=by cases d<;>rfl
theorem Ge(J:GH C.P C.C4 S.call)(M:CL C.C4 w0){g:Gd}{ops:Array Oper}{Q:Exit->Act->World->Prop}:∀(l:List Oper) {m:BU} {h:AE} {w:World} {fr fr':Fr} {h':AE} {a:Act},
  Rel C.P w0 m h w->FR m fr a->EF C S g ops l fr h=some (fr',h')->
  (∀m' a' w',(∀id,id<h.size->m' id=m id)->Rel C.P w0 m' h' w'->FR m' fr' a'->a'.defers=a.defers->Q .normal a' w')->wpList C.P ops Q l a w
 |[],m,h,w,fr,fr',h',a,r,I,B,U=>by
  simp only[EF,qU,qW]at B;obtain⟨rfl,rfl⟩:=B;exact U m a w (λ_ _=>rfl) r I rfl
 | o::rest,m,h,w,fr,fr',h',a,r,I,B,U=>by
  unfold EF at B;split at B
  ·rename_i hw;split at B
   ·rename_i v h1 E;have hk:=HG J E;have H:=Ed I hw;unfold wpList;rw[xf H];left;refine I9 J M r I E λm1 v1 w1 e1 e2 e3=>?_;refine Ge J M rest e2 (FR.put (I.mono (r.Oi e1)) o.dst e3) B λm' a' w' g1 g2 g3 g4=>U m' a' w' (λid hid=>?_) g2 g3 ?_
    ·rw[g1 id (xe hid hk.1),e1 id hid]
    ·rw[g4,FK]
   ·cases B
  ·rename_i hw;have H:=Ed I hw;unfold wpList;rw[xd (by rw[H];simp)];exact Ge J M rest r (FR.put I o.dst (VR.Hf m)) B λm' a' w' g1 g2 g3 g4=>U m' a' w' g1 g2 g3 (by rw[g4,FK])
  ·cases B
def EA(op:Op)(fr fr':Fr):Prop:=∀x∈op.operands.toList,ev fr x=ev fr' x
theorem IW{l:List Operand}{fr fr':Fr}(h:∀x∈l,ev fr x=ev fr' x):l.map (ev fr)=l.map (ev fr'):=xF h
theorem LX{l:List (Nat×Operand)}{fr fr':Fr}(h:∀x∈l.map (·.2),ev fr x=ev fr' x):(l.map λ(i,x)=>(i,ev fr x))=l.map λ(i,x)=>(i,ev fr' x):=by
 apply xF;rintro⟨i,x⟩ D;simp only[qW,true_and];exact h x (wh.2 ⟨_,D,rfl⟩)
theorem MJ{P:Program}{op:Op}{fr fr':Fr}(h:EA op fr fr'):Gj P fr op=Gj P fr' op:=by
 unfold EA at h;cases op<;>simp[Op.operands,Call.operands]at h<;>try (simp[Gj,h];done)
 case build t ps=>
  simp only[Gj]
  rw[LX (l:=ps.toList) (fr:=fr) (fr':=fr') (λx D=>by
   obtain⟨p,hp,rfl⟩:=wh.1 D
   exact h p.2 p.1 (by simpa using hp))]
 case call c=>
  obtain⟨callee,asE9,ts⟩:=c;cases callee with
  |value f=>simp[Gj]
  |invoke r mth=>simp[Gj]
  |builtin b=>simp only[Gj];rw[IW (l:=asE9.toList) λx D=>h x (by simpa using D)]
theorem H9{op:Op}{fr fr':Fr}(h:EA op fr fr'):Cm fr op=Cm fr' op:=by
 unfold EA at h;cases op<;>simp[Op.operands,Call.operands]at h<;>try (simp[Cm,h];done)
 case call c=>
  obtain⟨callee,asE9,ts⟩:=c;simp only[Cm];split
  ·rename_i x D;rw[h x (.inr (by rw[<-Array.mem_toList_iff,D];simp))]
  ·rfl
theorem JP{P:Program}{G:Nat->Option (List AD)}{op:Op}{fr fr':Fr}(h:EA op fr fr')(ob:Option Br):Iq P G fr ob op=Iq P G fr' ob op:=by
 unfold EA at h;cases op<;>simp[Op.operands,Call.operands]at h<;>try (simp[Iq,h];done)
 case call c=>
  obtain⟨callee,asE9,ts⟩:=c;cases callee with
  |value f=>simp[Iq]
  |invoke r mth=>simp[Iq]
  | builtin b=>
   cases b<;>simp only[Iq];split
   ·rename_i x D;rw[h x (by simp[<-Array.mem_toList_iff,D])]
   ·rfl
theorem MP{P:Program}{op:Op}{fr fr':Fr}(h:EA op fr fr'):L1 P fr op=L1 P fr' op:=by
 unfold EA at h;cases op<;>simp[Op.operands,Call.operands]at h<;>try (simp[L1,h];done)
theorem O8{P:Program}{g:Gd}{L:AE}{op:Op}{fr fr':Fr}(h:EA op fr fr'):Ib P g L fr op=Ib P g L fr' op:=by
 unfold EA at h;cases op<;>simp[Op.operands,Call.operands]at h<;>try (simp[Ib,h];done)
 case call c=>
  obtain⟨callee,asE9,ts⟩:=c;cases callee with
  |value f=>simp[Ib]
  |invoke r mth=>simp[Ib]
  |builtin b=>simp only[Ib];rw[IW (l:=asE9.toList) λx D=>h x (by simpa using D)]
theorem PE{P:Program}{G:Nat->Option (List AD)}{g:Gd}{L:AE}{op:Op}{fr fr':Fr}(h:EA op fr fr'):Gn P G g L fr op=Gn P G g L fr' op:=by
 unfold Gn;rw[MJ h,H9 h,MP h,O8 h];split
 ·rfl
 ·split
  ·rw[JP h]
  ·split
   ·rw[JP h]
   ·rfl
 ·rfl
 ·rfl
theorem NF{g:Gd}{L:AE}{op:Op}{fr fr':Fr}(h:EA op fr fr'):BI C S g L fr op=BI C S g L fr' op:=by
 unfold BI;split
 ·rename_i x asE9 ts;unfold EA at h;simp[Op.operands,Call.operands]at h;rw[h.1,IW (l:=asE9.toList) λy N=>h.2 y (by simpa using N)]
 ·exact PE h
theorem Er{g:Gd}{L:AE}{op:Op}{fr:Fr}(h:As C.P op≠3):BI C S g L fr op=Gn C.P C.C4 g L fr op:=by
 unfold BI;split
 ·simp[As]at h
 ·rfl
theorem HY{ops:Array Oper}{fr fr':Fr}{o:Oper}(h:∀t∈o.looksAt ops,nth fr t=nth fr' t):Bp ops fr o=Bp ops fr' o:=by
 unfold Bp;cases O:o.guard with
 |none=>rfl
 | some p=>
  obtain⟨j,want⟩:=p;simp only;cases R:(ops[j]?).bind (·.dst)with
  |none=>rfl
  |some d=>
   simp only;rw[h d (by simp[Oper.looksAt,O,R])]
theorem Me{ops:Array Oper}{fr fr':Fr}{o:Oper}(h:∀t∈o.looksAt ops,nth fr t=nth fr' t):EA o.op fr fr':=by
 intro x D;cases x with
 |tmp t=>exact h t (by unfold Oper.looksAt;exact List.mem_append.2 (.inl (List.mem_filterMap.2 ⟨_,D,rfl⟩)))
 |_=>rfl
end
end Go.Abs
