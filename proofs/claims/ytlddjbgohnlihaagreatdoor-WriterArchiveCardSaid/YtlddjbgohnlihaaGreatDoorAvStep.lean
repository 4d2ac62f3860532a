/-
 A part.
-/
import Derived.Test.YtlddjbgohnlihaaGreatDoorAvKeep
import Derived.Tactics
import Derived.OrdersIn
import Derived.TacticsIn
import Derived.LoopNIn
import Derived.RangeFuncLeaves
set_option linter.unusedSimpArgs false
namespace Go.Av
open Go.RowKit
def DX(P:Program)(f:FuncId)(args:Array Value)(w:World)(Q:Value→World→Prop):Prop:=
 match(callFunc f args).run P w with
 | .ok (.value v) w'=>Q v w'
 | .ok (.enter f' args') w'=>Calls P f' args' w' fun e w''=>∃v,e=.returned v∧Q v w''
 |_=>False
def SO(P:Program)(G:Nat→Option (List AB))(call:Gd→AI→FuncId→List AB→Option (AB×AI)):Prop:=
 ∀g h f args v h',call g h f args=some (v,h')→BE g h h'∧∀w0 m w (cargs:Array Value),Bh G w0→Rel P w0 m h w→CM m args cargs.toList→
  DX P f cargs w fun v' w'=>∃m':BD,(m.ext h.size m')∧Rel P w0 m' h' w'∧VR m' v v'
def FW(r:Option Nat):Fence:={Fence.wide with round:=r}
theorem VM{rd:Option Nat}{n:Nat}{P:Program}{f:FuncId}{args:Array Value}{w:World}{R:Ending→World→Prop}(h:Calls P f args w R):CallsIn (FW rd) n P f args w R:=(callsIn_wide (n:=n)).2 h
def Vb(P:Program)(G:Nat→Option (List AB))(round:Gd→AI→Nat→List AB→Option (AB×AI)):Prop:=
 ∀g h l args v h',round g h l args=some (v,h')→BE g h h'∧∀w0 m w (cargs:Array Value) E,Bh G w0→Rel P w0 m h w→CM m args cargs.toList→m.i l=some E→
  ∃f tmps a b,(Instr.yield E.g cargs).run P w=.ok (.round E.g f tmps a b) w∧RoundIn Fence.wide 0 P E.g f tmps a b w fun e w'=>∃v',e=.returned v'∧∃m':BD,(m.ext h.size m')∧Rel P w0 m' h' w'∧VR m' v v'
structure GK(P:Program)(G:Nat→Option (List AB))(S:Self):Prop where
 call:SO P G S.call
 round:Vb P G S.round
section
variable {C:Gp} {S:Self} {w0:World} {m:BD} {h:AI} {w:World}
theorem Jb(M:GK C.P C.Cx S){g:Gd}{fr:Fr}{op:Op}{v:AB}{h':AI}(I:BC C S g h fr op=some (v,h')):BE g h h':=by
 unfold BC at I;split at I
 ·split at I
  ·exact(M.call _ _ _ _ _ _ I).1
  ·exact(M.round _ _ _ _ _ _ I).1
  ·cases I
 ·exact Wy I
theorem T9{P:Program}{G:Nat→Option (List AB)}{g:Gd}{fr:Fr}{op:Op}{x:AB×AI}(ho:IJ P G g h fr op=some x):∀c,op≠.defer c:=by
 rintro c rfl;simp[IJ,A4,K0]at ho
theorem Jc(M:GK C.P C.Cx S)(T:Bh C.Cx w0)(r:Rel C.P w0 m h w){g:Gd}{fr:Fr}{a:Act}(L:FR m fr a){o:Oper}{v:AB}{h':AI}(I:BC C S g h fr o.op=some (v,h'))
  {K:Act→World→Prop} {Q:Exit→Act→World→Prop} (W:∀m' v' w',(m.ext h.size m')→Rel C.P w0 m' h' w'→VR m' v v'→K (a.put o.dst v') w') (rd:Option Nat):o.wpIn (FW rd) 0 C.P a w K Q:=by
 unfold BC at I;split at I
 ·rename_i x as ts heq;split at I
  ·rename_i f first cap B
   obtain⟨_,hc⟩:=M.call _ _ _ _ _ _ I;have H:=L.ev x;rw[B]at H;generalize hq:a.eval x=q at H;cases H with
   | func _ _ _ fi ca h1 h2 h3 Z=>
    have hargs:CM m (first++(as.toList.map (ev fr)++cap)) ((fi++as.map a.eval)++ca).toList:=by
     simp only[Array.toList_append,zw,qO];refine CM.app ⟨by simpa using h1,fun i x y B U=>h2 i x y B (by simpa using U)⟩ (CM.app (L.cO as.toList) ⟨by simpa using h3,fun i x y B U=>Z i x y B (by simpa using U)⟩)
    have hi:=hc w0 m w _ T r hargs;have N:(execOp a.eval o).run C.P w=(callFunc f ((fi++as.map a.eval)++ca)).run C.P w:=by
     simp only[execOp,heq,resolve,hq,Deferred.ofValue,Sem.run_bind,Sem.run_pure,Result.andThen_ok,invoke]
    refine⟨fun _ _=>trivial,?_⟩;rw[Oper.semAt_eq _ _ _ (by rw[heq];intro c hc;cases hc),N];unfold DX at hi;split at hi
    ·rename_i v' w' he;obtain⟨m',a1,a2,a3⟩:=hi;rw[he];exact W m' v' w' a1 a2 a3
    ·rename_i f' args' w' he;rw[he];refine⟨fun h=>(by cases h),VM (hi.mono fun e w'' hh=>?_)⟩;obtain⟨v',rfl,m',a1,a2,a3⟩:=hh;exact W m' v' w'' a1 a2 a3
    ·exact hi.elim
  ·rename_i l B;obtain⟨_,hc⟩:=M.round _ _ _ _ _ _ I;have H:=L.ev x;rw[B]at H;generalize hq:a.eval x=q at H;cases H with
   | Zf _ E hE=>
    obtain⟨f,tmps,ca,cb,U,D⟩:=hc w0 m w (as.map a.eval) E T r (by simpa using L.cO as.toList) hE;have N:(execOp a.eval o).run C.P w=(Instr.yield E.g (as.map a.eval)).run C.P w:=by
     simp only[execOp,heq,resolve,hq,Deferred.ofValue,Sem.run_bind,Sem.run_pure,Result.andThen_ok,invoke,Array.empty_append]
    refine⟨fun _ _=>trivial,?_⟩;rw[Oper.semAt_eq _ _ _ (by rw[heq];intro c hc;cases hc),N,U];refine⟨fun h=>(by cases h),RoundIn.mono (F:=FW rd) D fun e w'' hh=>?_⟩;obtain⟨v',rfl,m',a1,a2,a3⟩:=hh;exact W m' v' w'' a1 a2 a3
  ·cases I
 ·obtain⟨m',n,v',w',h1,h2,h3,Z,h5⟩:=W0 T r L I;refine⟨fun _ _=>trivial,?_⟩;rw[Oper.semAt_eq _ _ _ (T9 I),h1];rcases h2 with rfl|⟨rfl,rfl⟩
  ·exact W m' v' w' h3 Z h5
  ·exact W m' _ w' h3 Z h5
theorem Fj{ops:Array Oper}{fr:Fr}{a:Act}(L:FR m fr a){o:Oper}{b:Bool}(hw:CW ops fr o=some b):Region.wanted o (yielded ops a.tmps)=b:=by
 unfold CW at hw;unfold Region.wanted;split at hw
 ·rename_i V;injection hw with hw;subst hw;rw[V]
 ·rename_i j want V;rw[V];simp only;unfold yielded;split at hw
  ·rename_i hd;injection hw with hw;subst hw;rw[hd];rfl
  ·rename_i d hd;rw[hd,za];have H:=L.2 d;have hget:a.tmps.getD d undef=(a.tmps[d]?).getD undef:=by simp[zr]
   rw[hget]at H;split at hw
   ·rename_i bb hb;injection hw with hw;subst hw;rw[hb]at H;have H:=H.KT;cases X:a.tmps[d]? with
    |none=>rw[X]at H;cases H
    |some u=>rw[X]at H;simp only[zV]at H;subst H;simp
   ·cases hw
   ·rename_i nb nu;injection hw with hw;subst hw;cases X:a.tmps[d]? with
    |none=>rfl
    | some u=>
     rw[X]at H;simp only[zV]at H;cases u with
     |bool b=>
      cases hn:nth fr d<;>rw[hn]at H<;>cases H
      ·exact absurd hn nu
      ·exact absurd hn (nb _)
     |_=>rfl
theorem Ec(M:GK C.P C.Cx S){g:Gd}{ops:Array Oper}:∀(l:List Oper) {h h':AI} {fr fr':Fr},D3 C S g ops l fr h=some (fr',h')→BE g h h'∧fr'.length=fr.length
 |[],h,h',fr,fr',D=>by
  simp only[D3,zd,zg]at D;obtain⟨rfl,rfl⟩:=D;exact⟨BE.refl _ _,rfl⟩
 | o::rest,h,h',fr,fr',D=>by
  unfold D3 at D;split at D
  ·split at D
   ·rename_i v h1 I;obtain⟨k1,k2⟩:=Ec M rest D;exact⟨(Jb M I).trans k1,by rw[k2];simp⟩
   ·cases D
  ·obtain⟨k1,k2⟩:=Ec M rest D;exact⟨k1,by rw[k2];simp⟩
  ·cases D
theorem DQ(a:Act)(d:Option Tmp)(v:Value):(a.put d v).defers=a.defers:=by cases d<;>rfl
theorem GQ(M:GK C.P C.Cx S)(T:Bh C.Cx w0){g:Gd}{ops:Array Oper}{Q:Exit→Act→World→Prop}:∀(l:List Oper) {m:BD} {h:AI} {w:World} {fr fr':Fr} {h':AI} {a:Act},
  Rel C.P w0 m h w→FR m fr a→D3 C S g ops l fr h=some (fr',h')→
  (∀m' a' w',(m.ext h.size m')→Rel C.P w0 m' h' w'→FR m' fr' a'→a'.defers=a.defers→Q .normal a' w')→∀rd:Option Nat,wpListIn (FW rd) 0 C.P ops Q l a w
 |[],m,h,w,fr,fr',h',a,r,L,D,Y,rd=>by
  simp only[D3,zd,zg]at D;obtain⟨rfl,rfl⟩:=D;exact Y m a w (BD.ext.refl _ _) r L rfl
 | o::rest,m,h,w,fr,fr',h',a,r,L,D,Y,rd=>by
  unfold D3 at D;split at D
  ·rename_i hw;split at D
   ·rename_i v h1 I;have hk:=Jb M I;have J:=Fj L hw;unfold wpListIn;rw[zm J];refine Jc M T r L I (fun m1 v1 w1 e1 e2 e3=>?_) rd;refine GQ M T rest e2 (FR.put (L.mono (r.Mi e1)) o.dst e3) D (fun m' a' w' g1 g2 g3 g4=>Y m' a' w' (e1.trans g1 hk.1) g2 g3 ?_) rd;rw[g4,DQ]
   ·cases D
  ·rename_i hw;have J:=Fj L hw;unfold wpListIn;rw[zk (by rw[J];simp)];exact⟨fun _ _=>trivial,GQ M T rest r (FR.put L o.dst (VR.Gs m)) D (fun m' a' w' g1 g2 g3 g4=>Y m' a' w' g1 g2 g3 (by rw[g4,DQ])) rd⟩
  ·cases D
def HD(op:Op)(fr fr':Fr):Prop:=∀x∈op.operands.toList,ev fr x=ev fr' x
theorem Ln{l:List Operand}{fr fr':Fr}(h:∀x∈l,ev fr x=ev fr' x):l.map (ev fr)=l.map (ev fr'):=List.map_congr_left h
theorem P6{l:List (Nat×Operand)}{fr fr':Fr}(h:∀x∈l.map (·.2),ev fr x=ev fr' x):(l.map fun(i,x)=>(i,ev fr x))=l.map fun(i,x)=>(i,ev fr' x):=by
 apply List.map_congr_left;rintro⟨i,x⟩ B;simp only[zg,qP];exact h x (zZ.2 ⟨_,B,rfl⟩)
theorem NS{o:Option Operand}{fr fr':Fr}(h:∀x,o=some x→ev fr x=ev fr' x):o.map (ev fr)=o.map (ev fr'):=by
 cases o with
 |none=>rfl
 |some x=>simp[h x rfl]
theorem Tj{P:Program}{op:Op}{fr fr':Fr}(h:HD op fr fr'):It P fr op=It P fr' op:=by
 unfold HD at h;cases op<;>simp[Op.operands,Call.operands]at h<;>try (simp[It,h];done)
 case build t ps=>
  simp only[It]
  rw[P6 (l:=ps.toList) (fr:=fr) (fr':=fr') (fun x B=>by
   obtain⟨p,hp,rfl⟩:=zZ.1 B
   exact h p.2 p.1 (by simpa using hp))]
 case makeFunc fn first cap=>
  simp only[It];rw[Ln (l:=first.toList) fun x B=>h x (.inl (by simpa using B)),Ln (l:=cap.toList) fun x B=>h x (.inr (by simpa using B))]
 case slice t x lo hi mx=>
  cases mx with
  |some y=>simp[It]
  |none=>
   simp only[It];rw[h.1,NS (fun x B=>h.2 x (.inl B)),NS (fun x B=>h.2 x (.inr (.inl B)))]
 case call c=>
  obtain⟨callee,as,ts⟩:=c;cases callee with
  |value f=>simp[It]
  |invoke r mth=>simp[It]
  |builtin b=>simp only[It];rw[Ln (l:=as.toList) fun x B=>h x (by simpa using B)]
theorem Lu{op:Op}{fr fr':Fr}(h:HD op fr fr'):Dg fr op=Dg fr' op:=by
 unfold HD at h;cases op<;>simp[Op.operands,Call.operands]at h<;>try (simp[Dg,h];done)
 case call c=>
  obtain⟨callee,as,ts⟩:=c;simp only[Dg];split
  ·rename_i x B;rw[h x (.inr (by rw[←Array.mem_toList_iff,B];simp))]
  ·rfl
theorem NQ{P:Program}{G:Nat→Option (List AB)}{op:Op}{fr fr':Fr}(h:HD op fr fr')(ob:Option B0):Kx P G fr ob op=Kx P G fr' ob op:=by
 unfold HD at h;cases op<;>simp[Op.operands,Call.operands]at h<;>try (simp[Kx,h];done)
 case slice t x lo hi mx=>
  cases mx with
  |some y=>simp[Kx]
  |none=>
   simp only[Kx];rw[h.1,NS (fun x B=>h.2 x (.inl B)),NS (fun x B=>h.2 x (.inr (.inl B)))]
 case call c=>
  obtain⟨callee,as,ts⟩:=c;cases callee with
  |value f=>simp[Kx]
  |invoke r mth=>simp[Kx]
  | builtin b=>
   cases b<;>simp only[Kx];split
   ·rename_i x B;rw[h x (by simp[←Array.mem_toList_iff,B])]
   ·rfl
theorem Sx{P:Program}{op:Op}{fr fr':Fr}(h:HD op fr fr'):Qg P fr op=Qg P fr' op:=by
 unfold HD at h;cases op<;>simp[Op.operands,Call.operands]at h<;>try (simp[Qg,h];done)
 case buildSlice t len ps=>
  simp only[Qg]
  rw[P6 (l:=ps.toList) (fr:=fr) (fr':=fr') (fun x B=>by
   obtain⟨p,hp,rfl⟩:=zZ.1 B
   exact h p.2 p.1 (by simpa using hp))]
 case makeMap t r=>cases r<;>simp[Qg]
theorem Xd{P:Program}{g:Gd}{O:AI}{op:Op}{fr fr':Fr}(h:HD op fr fr'):K0 P g O fr op=K0 P g O fr' op:=by
 unfold HD at h;cases op<;>simp[Op.operands,Call.operands]at h<;>try (simp[K0,h];done)
 case next it s=>cases s<;>simp[K0,h]
 case call c=>
  obtain⟨callee,as,ts⟩:=c;cases callee with
  |value f=>simp[K0]
  |invoke r mth=>simp[K0]
  |builtin b=>simp only[K0];rw[Ln (l:=as.toList) fun x B=>h x (by simpa using B)]
theorem Xx{P:Program}{G:Nat→Option (List AB)}{g:Gd}{O:AI}{op:Op}{fr fr':Fr}(h:HD op fr fr'):IJ P G g O fr op=IJ P G g O fr' op:=by
 unfold IJ;rw[Tj h,Lu h,Sx h,Xd h];split
 ·rfl
 ·split
  ·rw[NQ h]
  ·split
   ·rw[NQ h]
   ·rfl
 ·rfl
 ·rfl
theorem Pj{g:Gd}{O:AI}{op:Op}{fr fr':Fr}(h:HD op fr fr'):BC C S g O fr op=BC C S g O fr' op:=by
 unfold BC;split
 ·rename_i x as ts;unfold HD at h;simp[Op.operands,Call.operands]at h;rw[h.1,Ln (l:=as.toList) fun y U=>h.2 y (by simpa using U)]
 ·exact Xx h
theorem Hg{g:Gd}{O:AI}{op:Op}{fr:Fr}(h:A4 C.P op≠3):BC C S g O fr op=IJ C.P C.Cx g O fr op:=by
 unfold BC;split
 ·simp[A4]at h
 ·rfl
theorem Ko{ops:Array Oper}{fr fr':Fr}{o:Oper}(h:∀t∈o.looksAt ops,nth fr t=nth fr' t):CW ops fr o=CW ops fr' o:=by
 unfold CW;cases V:o.guard with
 |none=>rfl
 | some p=>
  obtain⟨j,want⟩:=p;simp only;cases hd:(ops[j]?).bind (·.dst)with
  |none=>rfl
  |some d=>
   simp only;rw[h d (by simp[Oper.looksAt,V,hd])]
theorem OR{ops:Array Oper}{fr fr':Fr}{o:Oper}(h:∀t∈o.looksAt ops,nth fr t=nth fr' t):HD o.op fr fr':=by
 intro x B;cases x with
 |tmp t=>exact h t (by unfold Oper.looksAt;exact zB.2 (.inl (qG.2 ⟨_,B,rfl⟩)))
 |_=>rfl
end
end Go.Av
