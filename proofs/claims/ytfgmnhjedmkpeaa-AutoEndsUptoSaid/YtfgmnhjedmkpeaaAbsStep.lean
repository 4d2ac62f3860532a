/-
 A part.
-/
import Derived.Test.YtfgmnhjedmkpeaaAbsKeep
import Derived.Tactics
import Derived.Orders
set_option linter.unusedSimpArgs false
namespace Go.Abs
open Go.RowKit
def Bz(P:Program)(f:FuncId)(args:Array Value)(w:World)(Q:Value->World->Prop):Prop:=
 match(callFunc f args).run P w with
 | .ok (.value v) w'=>Q v w'
 | .ok (.enter f' args') w'=>Calls P f' args' w' λe w''=>∃v,e=.returned v/\Q v w''
 |_=>False
def E9(P:Program)(G:Nat->Option (List AA))(call:Gd->AB->FuncId->List AA->Option (AA×AB)):Prop:=
 ∀g h f args v h',call g h f args=some (v,h')->Af g h h'/\∀w0 m w (cargs:Array Value),Bk G w0->Rel P w0 m h w->BT m args cargs.toList->
  Bz P f cargs w λv' w'=>∃m':Aj,(∀id,id<h.size->m' id=m id)/\Rel P w0 m' h' w'/\VR m' v v'
section
variable {C:Eu} {S:Self} {w0:World} {m:Aj} {h:AB} {w:World}
theorem Fw(J:E9 C.P C.B6 S.call){g:Gd}{fr:Fr}{op:Op}{v:AA}{h':AB}(E:Ap C S g h fr op=some (v,h')):Af g h h':=by
 unfold Ap at E;split at E
 ·split at E
  ·exact(J _ _ _ _ _ _ E).1
  ·cases E
 ·exact MF E
theorem HY(J:E9 C.P C.B6 S.call)(N:Bk C.B6 w0)(r:Rel C.P w0 m h w){g:Gd}{fr:Fr}{a:Act}(I:FR m fr a){o:Oper}{v:AA}{h':AB}(E:Ap C S g h fr o.op=some (v,h'))
  {K:Act->World->Prop} {Q:Exit->Act->World->Prop} (W:∀m' v' w',(∀id,id<h.size->m' id=m id)->Rel C.P w0 m' h' w'->VR m' v v'->K (a.put o.dst v') w'):o.wp C.P a w K Q:=by
 unfold Ap at E;split at E
 ·rename_i x asE9 ts heq;split at E
  ·rename_i f first cap B
   obtain⟨_,hc⟩:=J _ _ _ _ _ _ E;have F:=I.ev x;rw[B]at F;generalize hq:a.eval x=q at F;cases F with
   | func _ _ _ fi ca h1 h2 Y X=>
    have hargs:BT m (first++(asE9.toList.map (ev fr)++cap)) ((fi++asE9.map a.eval)++ca).toList:=by
     simp only[Array.toList_append,wh,xT];refine BT.app ⟨by simpa using h1,λi x y B O=>h2 i x y B (by simpa using O)⟩ (BT.app (I.SC asE9.toList) ⟨by simpa using Y,λi x y B O=>X i x y B (by simpa using O)⟩)
    have M:=hc w0 m w _ N r hargs;have hrun:(execOp a.eval o).run C.P w=(callFunc f ((fi++asE9.map a.eval)++ca)).run C.P w:=by
     simp only[execOp,heq,resolve,hq,Deferred.ofValue,Sem.run_bind,Sem.run_pure,Result.andThen_ok,invoke]
    unfold Oper.wp;rw[hrun];unfold Bz at M;split at M
    ·rename_i v' w' he;obtain⟨m',a1,a2,a3⟩:=M;rw[he];exact W m' v' w' a1 a2 a3
    ·rename_i f' args' w' he;rw[he];refine M.mono λe w'' hh=>?_;obtain⟨v',rfl,m',a1,a2,a3⟩:=hh;exact W m' v' w'' a1 a2 a3
    ·exact M.elim
  ·cases E
 ·obtain⟨m',n,v',w',h1,h2,Y,X,h5⟩:=L4 N r I E;unfold Oper.wp;rw[h1];rcases h2 with rfl|⟨rfl,rfl⟩
  ·exact W m' v' w' Y X h5
  ·exact W m' _ w' Y X h5
theorem Di{ops:Array Oper}{fr:Fr}{a:Act}(I:FR m fr a){o:Oper}{b:Bool}(hw:A6 ops fr o=some b):Region.wanted o (yielded ops a.tmps)=b:=by
 unfold A6 at hw;unfold Region.wanted;split at hw
 ·rename_i R;injection hw with hw;subst hw;rw[R]
 ·rename_i j want R;rw[R];simp only;unfold yielded;split at hw
  ·rename_i T;injection hw with hw;subst hw;rw[T];rfl
  ·rename_i d T;rw[T,qW];have F:=I.2 d;have Ia:a.tmps.getD d undef=(a.tmps[d]?).getD undef:=by simp[xc]
   rw[Ia]at F;split at hw
   ·rename_i bb hb;injection hw with hw;subst hw;rw[hb]at F;have F:=F.E7;cases U:a.tmps[d]? with
    |none=>rw[U]at F;cases F
    |some u=>rw[U]at F;simp only[xv]at F;subst F;simp
   ·cases hw
   ·rename_i nb nu;injection hw with hw;subst hw;cases U:a.tmps[d]? with
    |none=>rfl
    | some u=>
     rw[U]at F;simp only[xv]at F;cases u with
     |bool b=>
      cases hn:nth fr d<;>rw[hn]at F<;>cases F
      ·exact absurd hn nu
      ·exact absurd hn (nb _)
     |_=>rfl
theorem EY(J:E9 C.P C.B6 S.call){g:Gd}{ops:Array Oper}:∀(l:List Oper) {h h':AB} {fr fr':Fr},Ce C S g ops l fr h=some (fr',h')->Af g h h'/\fr'.length=fr.length
 |[],h,h',fr,fr',D=>by
  simp only[Ce,qV,qY]at D;obtain⟨rfl,rfl⟩:=D;exact⟨Af.refl _ _,rfl⟩
 | o::rest,h,h',fr,fr',D=>by
  unfold Ce at D;split at D
  ·split at D
   ·rename_i v h1 E;obtain⟨k1,k2⟩:=EY J rest D;exact⟨(Fw J E).trans k1,by rw[k2];simp⟩
   ·cases D
  ·obtain⟨k1,k2⟩:=EY J rest D;exact⟨k1,by rw[k2];simp⟩
  ·cases D
theorem ES(a:Act)(d:Option Tmp)(v:Value):(a.put d v).defers=a.defers:=by cases d<;>rfl
theorem Ed(J:E9 C.P C.B6 S.call)(N:Bk C.B6 w0){g:Gd}{ops:Array Oper}{Q:Exit->Act->World->Prop}:∀(l:List Oper) {m:Aj} {h:AB} {w:World} {fr fr':Fr} {h':AB} {a:Act},
  Rel C.P w0 m h w->FR m fr a->Ce C S g ops l fr h=some (fr',h')->
  (∀m' a' w',(∀id,id<h.size->m' id=m id)->Rel C.P w0 m' h' w'->FR m' fr' a'->a'.defers=a.defers->Q .normal a' w')->wpList C.P ops Q l a w
 |[],m,h,w,fr,fr',h',a,r,I,D,V=>by
  simp only[Ce,qV,qY]at D;obtain⟨rfl,rfl⟩:=D;exact V m a w (λ_ _=>rfl) r I rfl
 | o::rest,m,h,w,fr,fr',h',a,r,I,D,V=>by
  unfold Ce at D;split at D
  ·rename_i hw;split at D
   ·rename_i v h1 E;have hk:=Fw J E;have H:=Di I hw;unfold wpList;rw[xj H];left;refine HY J N r I E λm1 v1 w1 e1 e2 e3=>?_;refine Ed J N rest e2 (FR.put (I.mono (r.Kn e1)) o.dst e3) D λm' a' w' g1 g2 g3 g4=>V m' a' w' (λid hid=>?_) g2 g3 ?_
    ·rw[g1 id (xi hid hk.1),e1 id hid]
    ·rw[g4,ES]
   ·cases D
  ·rename_i hw;have H:=Di I hw;unfold wpList;rw[xg (by rw[H];simp)];exact Ed J N rest r (FR.put I o.dst (VR.Em m)) D λm' a' w' g1 g2 g3 g4=>V m' a' w' g1 g2 g3 (by rw[g4,ES])
  ·cases D
def DK(op:Op)(fr fr':Fr):Prop:=∀x∈op.operands.toList,ev fr x=ev fr' x
theorem Ft{l:List Operand}{fr fr':Fr}(h:∀x∈l,ev fr x=ev fr' x):l.map (ev fr)=l.map (ev fr'):=xN h
theorem H6{l:List (Nat×Operand)}{fr fr':Fr}(h:∀x∈l.map (·.2),ev fr x=ev fr' x):(l.map λ(i,x)=>(i,ev fr x))=l.map λ(i,x)=>(i,ev fr' x):=by
 apply xN;rintro⟨i,x⟩ B;simp only[qY,true_and];exact h x (wi.2 ⟨_,B,rfl⟩)
theorem Gq{o:Option Operand}{fr fr':Fr}(h:∀x,o=some x->ev fr x=ev fr' x):o.map (ev fr)=o.map (ev fr'):=by
 cases o with
 |none=>rfl
 |some x=>simp[h x rfl]
theorem KG{P:Program}{op:Op}{fr fr':Fr}(h:DK op fr fr'):FA P fr op=FA P fr' op:=by
 unfold DK at h;cases op<;>simp[Op.operands,Call.operands]at h<;>try (simp[FA,h];done)
 case build t ps=>
  simp only[FA]
  rw[H6 (l:=ps.toList) (fr:=fr) (fr':=fr') (λx B=>by
   obtain⟨p,Z,rfl⟩:=wi.1 B
   exact h p.2 p.1 (by simpa using Z))]
 case makeFunc fn first cap=>
  simp only[FA];rw[Ft (l:=first.toList) λx B=>h x (.inl (by simpa using B)),Ft (l:=cap.toList) λx B=>h x (.inr (by simpa using B))]
 case slice t x lo M mx=>
  cases mx with
  |some y=>simp[FA]
  |none=>
   simp only[FA];rw[h.1,Gq (λx B=>h.2 x (.inl B)),Gq (λx B=>h.2 x (.inr (.inl B)))]
 case call c=>
  obtain⟨callee,asE9,ts⟩:=c;cases callee with
  |value f=>simp[FA]
  |invoke r mth=>simp[FA]
  |builtin b=>simp only[FA];rw[Ft (l:=asE9.toList) λx B=>h x (by simpa using B)]
theorem Gb{op:Op}{fr fr':Fr}(h:DK op fr fr'):B1 fr op=B1 fr' op:=by
 unfold DK at h;cases op<;>simp[Op.operands,Call.operands]at h<;>try (simp[B1,h];done)
 case call c=>
  obtain⟨callee,asE9,ts⟩:=c;simp only[B1];split
  ·rename_i x B;rw[h x (.inr (by rw[<-Array.mem_toList_iff,B];simp))]
  ·rfl
theorem He{P:Program}{G:Nat->Option (List AA)}{op:Op}{fr fr':Fr}(h:DK op fr fr')(ob:Option Ay):Gh P G fr ob op=Gh P G fr' ob op:=by
 unfold DK at h;cases op<;>simp[Op.operands,Call.operands]at h<;>try (simp[Gh,h];done)
 case slice t x lo M mx=>
  cases mx with
  |some y=>simp[Gh]
  |none=>
   simp only[Gh];rw[h.1,Gq (λx B=>h.2 x (.inl B)),Gq (λx B=>h.2 x (.inr (.inl B)))]
 case call c=>
  obtain⟨callee,asE9,ts⟩:=c;cases callee with
  |value f=>simp[Gh]
  |invoke r mth=>simp[Gh]
  | builtin b=>
   cases b<;>simp only[Gh];split
   ·rename_i x B;rw[h x (by simp[<-Array.mem_toList_iff,B])]
   ·rfl
theorem KV{P:Program}{op:Op}{fr fr':Fr}(h:DK op fr fr'):Ii P fr op=Ii P fr' op:=by
 unfold DK at h;cases op<;>simp[Op.operands,Call.operands]at h<;>try (simp[Ii,h];done)
 case buildSlice t len ps=>
  simp only[Ii]
  rw[H6 (l:=ps.toList) (fr:=fr) (fr':=fr') (λx B=>by
   obtain⟨p,Z,rfl⟩:=wi.1 B
   exact h p.2 p.1 (by simpa using Z))]
 case makeMap t r=>cases r<;>simp[Ii]
theorem Mr{P:Program}{g:Gd}{L:AB}{op:Op}{fr fr':Fr}(h:DK op fr fr'):GF P g L fr op=GF P g L fr' op:=by
 unfold DK at h;cases op<;>simp[Op.operands,Call.operands]at h<;>try (simp[GF,h];done)
 case next it s=>cases s<;>simp[GF,h]
 case call c=>
  obtain⟨callee,asE9,ts⟩:=c;cases callee with
  |value f=>simp[GF]
  |invoke r mth=>simp[GF]
  |builtin b=>simp only[GF];rw[Ft (l:=asE9.toList) λx B=>h x (by simpa using B)]
theorem NT{P:Program}{G:Nat->Option (List AA)}{g:Gd}{L:AB}{op:Op}{fr fr':Fr}(h:DK op fr fr'):Fp P G g L fr op=Fp P G g L fr' op:=by
 unfold Fp;rw[KG h,Gb h,KV h,Mr h];split
 ·rfl
 ·split
  ·rw[He h]
  ·split
   ·rw[He h]
   ·rfl
 ·rfl
 ·rfl
theorem K3{g:Gd}{L:AB}{op:Op}{fr fr':Fr}(h:DK op fr fr'):Ap C S g L fr op=Ap C S g L fr' op:=by
 unfold Ap;split
 ·rename_i x asE9 ts;unfold DK at h;simp[Op.operands,Call.operands]at h;rw[h.1,Ft (l:=asE9.toList) λy O=>h.2 y (by simpa using O)]
 ·exact NT h
theorem Dy{g:Gd}{L:AB}{op:Op}{fr:Fr}(h:AX C.P op≠3):Ap C S g L fr op=Fp C.P C.B6 g L fr op:=by
 unfold Ap;split
 ·simp[AX]at h
 ·rfl
theorem F8{ops:Array Oper}{fr fr':Fr}{o:Oper}(h:∀t∈o.looksAt ops,nth fr t=nth fr' t):A6 ops fr o=A6 ops fr' o:=by
 unfold A6;cases R:o.guard with
 |none=>rfl
 | some p=>
  obtain⟨j,want⟩:=p;simp only;cases T:(ops[j]?).bind (·.dst)with
  |none=>rfl
  |some d=>
   simp only;rw[h d (by simp[Oper.looksAt,R,T])]
theorem KX{ops:Array Oper}{fr fr':Fr}{o:Oper}(h:∀t∈o.looksAt ops,nth fr t=nth fr' t):DK o.op fr fr':=by
 intro x B;cases x with
 |tmp t=>exact h t (by unfold Oper.looksAt;exact wo.2 (.inl (List.mem_filterMap.2 ⟨_,B,rfl⟩)))
 |_=>rfl
end
end Go.Abs
