/-
  Several texts in one.
-/
import Derived.Test.YtfgmnhjedmkpeaaAvApp
import Derived.OrdersIn
import Derived.TacticsIn
import Derived.LoopNIn
import Derived.RangeFuncLeaves
set_option linter.unusedSimpArgs false
/-
 A part.
-/
section
namespace Go.Av
open Go.RowKit
def Af(g:Gd)(h h':AB):Prop:=h.size<=h'.size/\∀id,id<h.size->g.may id=false->h'.get id=h.get id
theorem Af.refl(g:Gd)(h:AB):Af g h h:=⟨zr _,λ_ _ _=>rfl⟩
theorem Af.trans{g:Gd}{a b c:AB}(h:Af g a b)(k:Af g b c):Af g a c:=
 ⟨zM h.1 k.1,λid T hm=>(k.2 id (zQ T h.1) hm).trans (h.2 id T hm)⟩
theorem Af.weaken{g g':Gd}(J:∀id,g.may id=false->g'.may id=false){a b:AB}(h:Af g' a b):Af g a b:=⟨h.1,λid T hm=>h.2 id T (J id hm)⟩
theorem Af.push(g:Gd)(h:AB)(o:Ay):Af g h (h.push o):=⟨by simp,λid T _=>h.Bp o T⟩
theorem Af.set{g:Gd}{h:AB}{id:Nat}{o o':Ay}(B:h.get id=some o')(hm:g.may id=true):Af g h (h.set id o):=by
 refine⟨by simp,λi T hi'=>h.Bw o (h.Ar B) ?_⟩;rintro rfl;rw[hm]at hi';cases hi'
section
variable {P:Program} {g:Gd} {h h':AB}
theorem Ei{id o:Nat}{new:List AA}(D:BN g h id o new=some h'):Af g h h':=by
 unfold BN at D;split at D
 ·rename_i J;split at D
  ·rename_i O;injection D with D;subst D;exact Af.set J O.1
  ·cases D
 ·cases D
theorem Mw{g:Gd}{h:AB}{v v':AA}{h':AB}(H:HB g h v=some (v',h')):Af g h h':=by
 unfold HB at H;split at H
 ·injection H with H;injection H with e1 e2;subst e2;exact Af.refl _ _
 ·rename_i id n;by_cases hn:n=0
  ·subst hn;simp only[yX,zE,za,zb]at H;obtain⟨rfl,rfl⟩:=H;exact Af.refl _ _
  ·have:Nat.beq n 0=false:=by cases n;exact absurd rfl hn;rfl
   rw[this]at H;simp only[zR]at H;split at H
   ·rename_i gr cs J;cases hm:g.may id with
    |false=>rw[hm]at H;cases H
    |true=>
     rw[hm]at H;simp only[zE,za,zb]at H;obtain⟨rfl,rfl⟩:=H;exact Af.set J hm
   ·simp only[za,zb]at H;obtain⟨rfl,rfl⟩:=H;exact Af.refl _ _
   ·cases H
 ·injection H with H;injection H with e1 e2;subst e2;exact Af.refl _ _
theorem Lz{fr :Fr}{op:Op}{v:AA}(B:GF P g h fr op=some (v,h')):Af g h h':=by
 have mapk0:∀{h:AB} {t x k y},FJ P g h t x k y=some h'->Af g h h':=by
  intro h t x k y D;unfold FJ at D;split at D
  ·split at D
   ·rename_i O;split at D
    ·rename_i es J;split at D
     ·split at D
      ·split at D
       ·injection D with D;subst D;exact Af.set J O.2
       ·cases D
      ·cases D
     ·injection D with D;subst D;exact Af.set J O.2
     ·cases D
    ·cases D
   ·cases D
  ·cases D
 have mapk:∀{t x k y},HS P g h t x k y=some h'->Af g h h':=by
  intro t x k y D;unfold HS at D;cases W:HB g h y with
  |none=>rw[W]at D;cases D
  |some q=>
   rw[W]at D;exact(Mw W).trans (mapk0 D)
 cases op with
 | convert s d x=>
  simp only[GF]at B;unfold O5 at B;split at B
  ·rename_i e0 e id o n D hd hxx;split at B
   ·rename_i gr cs he J;cases O:(Nat.beq s d&&(g.may id&& !(Nat.beq n 0)))with
    |false=>rw[O]at B;cases B
    |true=>
     rw[O]at B;simp only[zE,za,zb]at B;obtain⟨_,rfl⟩:=B;simp only[zf]at O;exact Af.set J O.2.1
   ·cases B
  ·cases B
 | store t x y=>
  simp only[GF]at B;split at B
  ·rename_i id o I;cases D:FL P g h t id o (ev fr y)with
   |none=>simp[D]at B
   | some U=>
    simp only[D,ze,za,zb]at B;obtain⟨rfl,rfl⟩:=B;unfold FL at D;split at D
    ·split at D
     ·exact Ei D
     ·cases D
    ·cases D
  ·cases B
 | mapUpdate t x k y=>
  simp only[GF]at B;cases D:HS P g h t (ev fr x) (ev fr k) (ev fr y)with
  |none=>simp[D]at B
  |some U=>
   simp only[D,ze,za,zb]at B;obtain⟨rfl,rfl⟩:=B;exact mapk D
 | insert t x k y=>
  simp only[GF]at B;cases D:HS P g h t (ev fr x) (ev fr k) (ev fr y)with
  |none=>simp[D]at B
  |some U=>
   simp only[D,ze,za,zb]at B;obtain⟨rfl,rfl⟩:=B;exact mapk D
 | next it s=>
  cases s with
  |false=>simp[GF]at B
  | true=>
   simp only[GF]at B;split at B
   ·rename_i id I;split at B
    ·rename_i s pos J;split at B
     ·rename_i hm;split at B
      ·injection B with B;injection B with e1 e2;subst e2;exact Af.set J hm
      ·injection B with B;injection B with e1 e2;subst e2;exact Af.refl _ _
     ·cases B
    ·cases B
   ·cases B
 | call c =>
  obtain⟨callee,asE9,ts⟩:=c;cases callee with
  |value f=>simp[GF]at B
  |invoke r mth=>simp[GF]at B
  | builtin b =>
   simp only[GF]at B;split at B
   ·unfold GM at B;split at B
    ·split at B
     ·split at B
      ·split at B
       ·unfold appendCore at B;split at B
        ·injection B with B;injection B with e1 e2;subst e2;exact Af.refl _ _
        ·split at B
         ·split at B
          ·split at B
           ·split at B
            ·injection B with B;injection B with e1 e2;subst e2;exact Af.push _ _ _
            ·split at B
             ·rename_i J;split at B
              ·rename_i O;injection B with B;injection B with e1 e2;subst e2;exact(Af.set J O.1).trans (Af.push _ _ _)
              ·cases B
             ·cases B
           ·cases B
          ·cases B
         ·cases B
       ·cases B
      ·cases B
     ·cases B
    ·cases B
   ·unfold J3 at B;split at B
    ·split at B
     ·split at B
      ·split at B
       ·split at B
        ·injection B with B;injection B with e1 e2;subst e2;exact Af.refl _ _
        ·simp only[zg,zb]at B;obtain⟨U,hsc,_,rfl⟩:=B;exact Ei hsc
       ·split at B
        ·injection B with B;injection B with e1 e2;subst e2;exact Af.refl _ _
        ·cases B
       ·cases B
      ·cases B
     ·cases B
    ·cases B
   ·rename_i s x heq;cases D:Fj P g h ts s x with
    |none=>simp[D]at B
    | some U=>
     simp only[D,ze,za,zb]at B;obtain⟨rfl,rfl⟩:=B;unfold Fj at D;split at D
     ·cases D
     ·split at D
      ·split at D
       ·rename_i O;split at D
        ·rename_i J;split at D
         ·injection D with D;subst D;exact Af.set J O.2
         ·injection D with D;subst D;exact Af.refl _ _
         ·cases D
        ·cases D
       ·cases D
      ·cases D
   ·cases B
 |_=>simp[GF]at B
theorem MF{G:Nat->Option (List AA)}{fr:Fr}{op:Op}{v:AA}(B:Fp P G g h fr op=some (v,h')):Af g h h':=by
 unfold Fp at B;split at B
 ·cases N:FA P fr op with
  |none=>simp[N]at B
  |some x=>simp only[N,ze,za,zb]at B;obtain⟨_,rfl⟩:=B;exact Af.refl _ _
 ·split at B
  ·simp only[zg,zb]at B;obtain⟨_,_,_,rfl⟩:=B;exact Af.refl _ _
  ·split at B
   ·simp only[zg,zb]at B;obtain⟨_,_,_,rfl⟩:=B;exact Af.refl _ _
   ·cases B
 ·cases N:Ii P fr op with
  |none=>simp[N]at B
  |some x=>simp only[N,ze,za,zb]at B;obtain⟨_,rfl⟩:=B;exact Af.push _ _ _
 ·exact Lz B
end
section
variable {P:Program} {w0:World} {m:Aj} {h:AB} {w:World}
theorem L4{G:Nat->Option (List AA)}(W:Bk G w0)(r:Rel P w0 m h w){g:Gd}{fr:Fr}{a:Act}(H:FR m fr a){o:Oper}{v:AA}{h':AB}(B:Fp P G g h fr o.op=some (v,h')):
    ∃m' n v' w',(execOp a.eval o).run P w=.ok n w'/\Nh n v'/\(m.ext h.size m')/\Rel P w0 m' h' w'/\VR m' v v':=by
  unfold Fp at B;split at B
  · cases N:FA P fr o.op with
    |none=>simp[N]at B
    | some x=>
      simp only[N,ze,za,zb]at B;obtain⟨rfl,rfl⟩:=B;obtain⟨v',h1,U⟩:=JP (P:=P) w H N;exact⟨m,_,v',w,h1,.inl rfl,Aj.ext.refl _ _,r,U⟩
  · have key:∀ob,(B1 fr o.op).bind h.get=ob->(Gh P G fr ob o.op).map (·,h)=some (v,h')->
        ∃m' n v' w',(execOp a.eval o).run P w=.ok n w'/\Nh n v'/\(m.ext h.size m')/\Rel P w0 m' h' w'/\VR m' v v':=by
      intro ob hob hm;simp only[zg,zb]at hm;obtain⟨x,N,rfl,rfl⟩:=hm;rw[<-hob]at N;obtain⟨v',h1,U⟩:=JI W r H N;exact⟨m,_,v',w,h1,.inl rfl,Aj.ext.refl _ _,r,U⟩
    split at B
    · rename_i ht;exact key none (by rw[ht];rfl) B
    · rename_i id ht
      split at B
      · rename_i ob J;exact key (some ob) (by rw[ht];exact J) B
      · cases B
  · cases N:Ii P fr o.op with
    |none=>simp[N]at B
    | some x=>
      simp only[N,ze,za,zb]at B;obtain⟨rfl,rfl⟩:=B;obtain⟨v',w',E,h1,t1,t2,_,t4⟩:=JC (P:=P) w H N;have hle:=Aj.Gl (m:=m) E (r.fresh (zr h.size));obtain⟨q1,q2⟩:=t4 (m.upd h.size E) hle h.size (Aj.CR m _ E);exact⟨m.upd h.size E,_,v',w',h1,.inl rfl,Aj.Lm m _ (by omega),r.new t1 t2 q2,q1⟩
  · exact L8 r H B
theorem Rel.Kn(r:Rel P w0 m h w){m':Aj}(hm:m.ext h.size m'):m.le m':=⟨λid E hE=>by rw[hm.i id (r.Kg id E hE)];exact hE,hm.fz⟩
theorem F3.back{m m':Aj}{w w':World}{E:Gg}{o:Ay}(hm:m.le m')(V:F3 P m w E o)(h1:F3 P m' w' E o):F3 P (m.with m') w' E o:=by
 cases o with
 |cells gr st cs=>
  refine⟨⟨⟨h1.1.1.1,λW=>U1.mono (m:=m) (m':=m.with m') ⟨λ_ _ h=>h,hm.fz⟩ (V.1.1.2 W)⟩,h1.1.2⟩,λZ=>?_⟩;obtain⟨_,_,_,_,_,a3,_⟩:=V.2 Z;obtain⟨cur,e,fz,b1,b2,b3,b4⟩:=h1.2 Z;refine⟨cur,e,fz,b1,b2,λj a ha=>?_,b4⟩;obtain⟨_,c0,_,v0⟩:=a3 j a ha;obtain⟨o1,c,hc,v1⟩:=b3 j a ha;exact⟨o1,c,hc,v0.back hm v1⟩
 |map st es=>
  refine⟨h1.1,λZ=>?_⟩;obtain⟨es0,a0,en0,c0,a1,a2,a3,_⟩:=V.2 Z;obtain⟨es',b0,en,clock,b1,b2,b3,b4⟩:=h1.2 Z;refine⟨es',b0,en,clock,b1,b2,λi k v e T he=>?_,b4⟩;have hm0:(k,v)∈es0:=a0.mem.2 (b0.mem.1 (zI T));obtain⟨j,hj,hjv⟩:=List.mem_iff_getElem.1 hm0;obtain⟨k0,v0⟩:=a3 j k v _ ((List.getElem?_eq_getElem hj).trans (congrArg some hjv)) (Array.getElem?_eq_getElem (by omega));obtain⟨k1,v1⟩:=b3 i k v e T he;exact⟨k0.back hm k1,v0.back hm v1⟩
 |iter s pos=>exact h1
 |loop st pend f fr ps a b=>
  obtain⟨t0,d0,_,_,a2,a3⟩:=V;obtain⟨t1,d1,f1,b1,b2,b3⟩:=h1;exact⟨t1,d1,f1,b1,b2,λi=>(a3 i).back hm (b3 i)⟩
 | chan cap buf=>
  obtain⟨_,_,_,_,a2⟩:=V;obtain⟨bs,sn,rc,b1,b2⟩:=h1
  exact⟨bs,sn,rc,b1,b2.1,λi x y I hy=>by
   obtain⟨y0,_,k0⟩:=a2.at_ I
   exact k0.back hm (b2.2 i x y I hy)⟩
theorem Rel.back(r:Rel P w0 m h w){m':Aj}{h':AB}{w':World}(hm:m.ext h.size m')(hh:∀id,id<h.size->h'.get id=h.get id)(r':Rel P w0 m' h' w'):Rel P w0 (m.with m') h w':=by
 have hle:=r.Kn hm;have up:∀{id E},m id=some E->m' id=some E:=λh=>hle.i _ _ h;have get:∀{id E o},m id=some E->h.get id=some o->h'.get id=some o:=λhE B=>by rw[hh _ (r.Kg _ _ hE)];exact B
 exact⟨r'.below,r.Kg,λid E o hE B=>(r.obj id E o hE B).back hle (r'.obj id E o (up hE) (get hE B)),
  λid E o hE B=>r'.own id E o (up hE) (get hE B),λid id' E E' o o' hne h1 U g1 g2=>r'.sep id id' E E' o o' hne (up h1) (up U) (get h1 g1) (get U g2),r'.fz,λid E o hE B=>r'.Ke id E o (up hE) (get hE B),r'.df,λid E o hE B=>r'.Py id E o (up hE) (get hE B)⟩
theorem Aj.Si{m m':Aj}{n:Nat}(h:m.ext n m')(k:Nat):m.ext k (m.with m'):=⟨λ_ _=>rfl,h.fz,h.df⟩
theorem Rel.later(r:Rel P w0 m h w){w':World}(O:Below w.heap.size w w'):Rel P w0 m h w':=
 ⟨r.below.trans (O.mono r.size),r.Kg,λid E o hE B=>(r.obj id E o hE B).mono (Aj.le_refl m) λhl=>O.block _ ((r.obj id E o hE B).lt hl),r.own,r.sep,λg o v L=>by
  obtain⟨cur,e,z,h1,U⟩:=r.fz g o v L
  exact⟨cur,e,z,by rw[O.block g (r.PI L)];exact h1,U⟩,r.Ke,λg J=>⟨(r.df g J).1,by rw[O.block g (r.Le J)];exact(r.df g J).2⟩,r.Py⟩
end
end Go.Av
end
/-
 A part.
-/
section
namespace Go.Av
open Go.RowKit
def Bz(P:Program)(f:FuncId)(args:Array Value)(w:World)(Q:Value->World->Prop):Prop:=
 match(callFunc f args).run P w with
 | .ok (.value v) w'=>Q v w'
 | .ok (.enter f' args') w'=>Calls P f' args' w' λe w''=>∃v,e=.returned v/\Q v w''
 |_=>False
def E9(P:Program)(G:Nat->Option (List AA))(call:Gd->AB->FuncId->List AA->Option (AA×AB)):Prop:=
 ∀g h f args v h',call g h f args=some (v,h')->Af g h h'/\∀w0 m w (cargs:Array Value),Bk G w0->Rel P w0 m h w->BT m args cargs.toList->
  Bz P f cargs w λv' w'=>∃m':Aj,(m.ext h.size m')/\Rel P w0 m' h' w'/\VR m' v v'
def FW(r:Option Nat):Fence:={Fence.wide with round:=r}
theorem M0{rd:Option Nat}{n:Nat}{P:Program}{f:FuncId}{args:Array Value}{w:World}{R:Ending->World->Prop}(h:Calls P f args w R):CallsIn (FW rd) n P f args w R:=(callsIn_wide (n:=n)).2 h
def Qj(P:Program)(G:Nat->Option (List AA))(round:Gd->AB->Nat->List AA->Option (AA×AB)):Prop:=
 ∀g h l args v h',round g h l args=some (v,h')->Af g h h'/\∀w0 m w (cargs:Array Value) E,Bk G w0->Rel P w0 m h w->BT m args cargs.toList->m.i l=some E->
  ∃f tmps a b,(Instr.yield E.g cargs).run P w=.ok (.round E.g f tmps a b) w/\RoundIn Fence.wide 0 P E.g f tmps a b w λe w'=>∃v',e=.returned v'/\∃m':Aj,(m.ext h.size m')/\Rel P w0 m' h' w'/\VR m' v v'
structure Ir(P:Program)(G:Nat->Option (List AA))(S:Self):Prop where
 call:E9 P G S.call
 round:Qj P G S.round
section
variable {C:Eu} {S:Self} {w0:World} {m:Aj} {h:AB} {w:World}
theorem Fw(Y:Ir C.P C.B6 S){g:Gd}{fr:Fr}{op:Op}{v:AA}{h':AB}(D:Ap C S g h fr op=some (v,h')):Af g h h':=by
 unfold Ap at D;split at D
 ·split at D
  ·exact(Y.call _ _ _ _ _ _ D).1
  ·exact(Y.round _ _ _ _ _ _ D).1
  ·cases D
 ·exact MF D
theorem PN{P:Program}{G:Nat->Option (List AA)}{g:Gd}{fr:Fr}{op:Op}{x:AA×AB}(B:Fp P G g h fr op=some x):∀c,op≠.defer c:=by
 rintro c rfl;simp[Fp,AX,GF]at B
theorem HY(Y:Ir C.P C.B6 S)(W:Bk C.B6 w0)(r:Rel C.P w0 m h w){g:Gd}{fr:Fr}{a:Act}(H:FR m fr a){o:Oper}{v:AA}{h':AB}(D:Ap C S g h fr o.op=some (v,h'))
  {K:Act->World->Prop} {Q:Exit->Act->World->Prop} (hK:∀m' v' w',(m.ext h.size m')->Rel C.P w0 m' h' w'->VR m' v v'->K (a.put o.dst v') w') (rd:Option Nat):o.wpIn (FW rd) 0 C.P a w K Q:=by
 unfold Ap at D;split at D
 ·rename_i x asE9 ts heq;split at D
  ·rename_i f first cap I
   obtain⟨_,hc⟩:=Y.call _ _ _ _ _ _ D;have L:=H.ev x;rw[I]at L;generalize hq:a.eval x=q at L;cases L with
   | func _ _ _ fi ca h1 U h3 h4=>
    have hargs:BT m (first++(asE9.toList.map (ev fr)++cap)) ((fi++asE9.map a.eval)++ca).toList:=by
     simp only[qm,zU,y5];refine BT.app ⟨by simpa using h1,λi x y I hy=>U i x y I (by simpa using hy)⟩ (BT.app (H.SC asE9.toList) ⟨by simpa using h3,λi x y I hy=>h4 i x y I (by simpa using hy)⟩)
    have T:=hc w0 m w _ W r hargs;have hrun:(execOp a.eval o).run C.P w=(callFunc f ((fi++asE9.map a.eval)++ca)).run C.P w:=by
     simp only[execOp,heq,resolve,hq,Deferred.ofValue,Sem.run_bind,Sem.run_pure,Result.andThen_ok,invoke]
    refine⟨λ_ _=>trivial,?_⟩;rw[Oper.semAt_eq _ _ _ (by rw[heq];intro c hc;cases hc),hrun];unfold Bz at T;split at T
    ·rename_i v' w' he;obtain⟨m',a1,a2,a3⟩:=T;rw[he];exact hK m' v' w' a1 a2 a3
    ·rename_i f' args' w' he;rw[he];refine⟨λh=>(by cases h),M0 (T.mono λe w'' hh=>?_)⟩;obtain⟨v',rfl,m',a1,a2,a3⟩:=hh;exact hK m' v' w'' a1 a2 a3
    ·exact T.elim
  ·rename_i l I;obtain⟨_,hc⟩:=Y.round _ _ _ _ _ _ D;have L:=H.ev x;rw[I]at L;generalize hq:a.eval x=q at L;cases L with
   | SD _ E hE=>
    obtain⟨f,tmps,ca,cb,hy,M⟩:=hc w0 m w (asE9.map a.eval) E W r (by simpa using H.SC asE9.toList) hE;have hrun:(execOp a.eval o).run C.P w=(Instr.yield E.g (asE9.map a.eval)).run C.P w:=by
     simp only[execOp,heq,resolve,hq,Deferred.ofValue,Sem.run_bind,Sem.run_pure,Result.andThen_ok,invoke,Array.empty_append]
    refine⟨λ_ _=>trivial,?_⟩;rw[Oper.semAt_eq _ _ _ (by rw[heq];intro c hc;cases hc),hrun,hy];refine⟨λh=>(by cases h),RoundIn.mono (F:=FW rd) M λe w'' hh=>?_⟩;obtain⟨v',rfl,m',a1,a2,a3⟩:=hh;exact hK m' v' w'' a1 a2 a3
  ·cases D
 ·obtain⟨m',n,v',w',h1,U,h3,h4,h5⟩:=L4 W r H D;refine⟨λ_ _=>trivial,?_⟩;rw[Oper.semAt_eq _ _ _ (PN D),h1];rcases U with rfl|⟨rfl,rfl⟩
  ·exact hK m' v' w' h3 h4 h5
  ·exact hK m' _ w' h3 h4 h5
theorem Di{ops:Array Oper}{fr:Fr}{a:Act}(H:FR m fr a){o:Oper}{b:Bool}(hw:A6 ops fr o=some b):Region.wanted o (yielded ops a.tmps)=b:=by
 unfold A6 at hw;unfold Region.wanted;split at hw
 ·rename_i J;injection hw with hw;subst hw;rw[J]
 ·rename_i j want J;rw[J];simp only;unfold yielded;split at hw
  ·rename_i hd;injection hw with hw;subst hw;rw[hd];rfl
  ·rename_i d hd;rw[hd,zd];have L:=H.2 d;have Ia:a.tmps.getD d undef=(a.tmps[d]?).getD undef:=by simp[zp]
   rw[Ia]at L;split at hw
   ·rename_i bb O;injection hw with hw;subst hw;rw[O]at L;have L:=L.E7;cases ht:a.tmps[d]? with
    |none=>rw[ht]at L;cases L
    |some u=>rw[ht]at L;simp only[ya]at L;subst L;simp
   ·cases hw
   ·rename_i nb nu;injection hw with hw;subst hw;cases ht:a.tmps[d]? with
    |none=>rfl
    | some u=>
     rw[ht]at L;simp only[ya]at L;cases u with
     |bool b=>
      cases hn:nth fr d<;>rw[hn]at L<;>cases L
      ·exact absurd hn nu
      ·exact absurd hn (nb _)
     |_=>rfl
theorem EY(Y:Ir C.P C.B6 S){g:Gd}{ops:Array Oper}:∀(l:List Oper) {h h':AB} {fr fr':Fr},Ce C S g ops l fr h=some (fr',h')->Af g h h'/\fr'.length=fr.length
 |[],h,h',fr,fr',M=>by
  simp only[Ce,za,zb]at M;obtain⟨rfl,rfl⟩:=M;exact⟨Af.refl _ _,rfl⟩
 | o::rest,h,h',fr,fr',M=>by
  unfold Ce at M;split at M
  ·split at M
   ·rename_i v h1 D;obtain⟨k1,k2⟩:=EY Y rest M;exact⟨(Fw Y D).trans k1,by rw[k2];simp⟩
   ·cases M
  ·obtain⟨k1,k2⟩:=EY Y rest M;exact⟨k1,by rw[k2];simp⟩
  ·cases M
theorem ES(a:Act)(d:Option Tmp)(v:Value):(a.put d v).defers=a.defers:=by cases d<;>rfl
theorem Ed(Y:Ir C.P C.B6 S)(W:Bk C.B6 w0){g:Gd}{ops:Array Oper}{Q:Exit->Act->World->Prop}:∀(l:List Oper) {m:Aj} {h:AB} {w:World} {fr fr':Fr} {h':AB} {a:Act},
  Rel C.P w0 m h w->FR m fr a->Ce C S g ops l fr h=some (fr',h')->
  (∀m' a' w',(m.ext h.size m')->Rel C.P w0 m' h' w'->FR m' fr' a'->a'.defers=a.defers->Q .normal a' w')->∀rd:Option Nat,wpListIn (FW rd) 0 C.P ops Q l a w
 |[],m,h,w,fr,fr',h',a,r,H,M,hQ,rd=>by
  simp only[Ce,za,zb]at M;obtain⟨rfl,rfl⟩:=M;exact hQ m a w (Aj.ext.refl _ _) r H rfl
 | o::rest,m,h,w,fr,fr',h',a,r,H,M,hQ,rd=>by
  unfold Ce at M;split at M
  ·rename_i hw;split at M
   ·rename_i v h1 D;have hk:=Fw Y D;have X:=Di H hw;unfold wpListIn;rw[zk X];refine HY Y W r H D (λm1 v1 w1 e1 e2 e3=>?_) rd;refine Ed Y W rest e2 (FR.put (H.mono (r.Kn e1)) o.dst e3) M (λm' a' w' g1 g2 g3 g4=>hQ m' a' w' (e1.trans g1 hk.1) g2 g3 ?_) rd;rw[g4,ES]
   ·cases M
  ·rename_i hw;have X:=Di H hw;unfold wpListIn;rw[zh (by rw[X];simp)];exact⟨λ_ _=>trivial,Ed Y W rest r (FR.put H o.dst (VR.Em m)) M (λm' a' w' g1 g2 g3 g4=>hQ m' a' w' g1 g2 g3 (by rw[g4,ES])) rd⟩
  ·cases M
def DK(op:Op)(fr fr':Fr):Prop:=∀x∈op.operands.toList,ev fr x=ev fr' x
theorem Ft{l:List Operand}{fr fr':Fr}(h:∀x∈l,ev fr x=ev fr' x):l.map (ev fr)=l.map (ev fr'):=qn h
theorem H6{l:List (Nat×Operand)}{fr fr':Fr}(h:∀x∈l.map (·.2),ev fr x=ev fr' x):(l.map λ(i,x)=>(i,ev fr x))=l.map λ(i,x)=>(i,ev fr' x):=by
 apply qn;rintro⟨i,x⟩ I;simp only[zb,yZ];exact h x (zN.2 ⟨_,I,rfl⟩)
theorem Gq{o:Option Operand}{fr fr':Fr}(h:∀x,o=some x->ev fr x=ev fr' x):o.map (ev fr)=o.map (ev fr'):=by
 cases o with
 |none=>rfl
 |some x=>simp[h x rfl]
theorem KG{P:Program}{op:Op}{fr fr':Fr}(h:DK op fr fr'):FA P fr op=FA P fr' op:=by
 unfold DK at h;cases op<;>simp[Op.operands,Call.operands]at h<;>try (simp[FA,h];done)
 case build t ps=>
  simp only[FA]
  rw[H6 (l:=ps.toList) (fr:=fr) (fr':=fr') (λx I=>by
   obtain⟨p,N,rfl⟩:=zN.1 I
   exact h p.2 p.1 (by simpa using N))]
 case makeFunc fn first cap=>
  simp only[FA];rw[Ft (l:=first.toList) λx I=>h x (.inl (by simpa using I)),Ft (l:=cap.toList) λx I=>h x (.inr (by simpa using I))]
 case slice t x lo T mx=>
  cases mx with
  |some y=>simp[FA]
  |none=>
   simp only[FA];rw[h.1,Gq (λx I=>h.2 x (.inl I)),Gq (λx I=>h.2 x (.inr (.inl I)))]
 case call c=>
  obtain⟨callee,asE9,ts⟩:=c;cases callee with
  |value f=>simp[FA]
  |invoke r mth=>simp[FA]
  |builtin b=>simp only[FA];rw[Ft (l:=asE9.toList) λx I=>h x (by simpa using I)]
theorem Gb{op:Op}{fr fr':Fr}(h:DK op fr fr'):B1 fr op=B1 fr' op:=by
 unfold DK at h;cases op<;>simp[Op.operands,Call.operands]at h<;>try (simp[B1,h];done)
 case call c=>
  obtain⟨callee,asE9,ts⟩:=c;simp only[B1];split
  ·rename_i x I;rw[h x (.inr (by rw[<-Array.mem_toList_iff,I];simp))]
  ·rfl
theorem He{P:Program}{G:Nat->Option (List AA)}{op:Op}{fr fr':Fr}(h:DK op fr fr')(ob:Option Ay):Gh P G fr ob op=Gh P G fr' ob op:=by
 unfold DK at h;cases op<;>simp[Op.operands,Call.operands]at h<;>try (simp[Gh,h];done)
 case slice t x lo T mx=>
  cases mx with
  |some y=>simp[Gh]
  |none=>
   simp only[Gh];rw[h.1,Gq (λx I=>h.2 x (.inl I)),Gq (λx I=>h.2 x (.inr (.inl I)))]
 case call c=>
  obtain⟨callee,asE9,ts⟩:=c;cases callee with
  |value f=>simp[Gh]
  |invoke r mth=>simp[Gh]
  | builtin b=>
   cases b<;>simp only[Gh];split
   ·rename_i x I;rw[h x (by simp[<-Array.mem_toList_iff,I])]
   ·rfl
theorem KV{P:Program}{op:Op}{fr fr':Fr}(h:DK op fr fr'):Ii P fr op=Ii P fr' op:=by
 unfold DK at h;cases op<;>simp[Op.operands,Call.operands]at h<;>try (simp[Ii,h];done)
 case buildSlice t len ps=>
  simp only[Ii]
  rw[H6 (l:=ps.toList) (fr:=fr) (fr':=fr') (λx I=>by
   obtain⟨p,N,rfl⟩:=zN.1 I
   exact h p.2 p.1 (by simpa using N))]
 case makeMap t r=>cases r<;>simp[Ii]
theorem Mr{P:Program}{g:Gd}{V:AB}{op:Op}{fr fr':Fr}(h:DK op fr fr'):GF P g V fr op=GF P g V fr' op:=by
 unfold DK at h;cases op<;>simp[Op.operands,Call.operands]at h<;>try (simp[GF,h];done)
 case next it s=>cases s<;>simp[GF,h]
 case call c=>
  obtain⟨callee,asE9,ts⟩:=c;cases callee with
  |value f=>simp[GF]
  |invoke r mth=>simp[GF]
  |builtin b=>simp only[GF];rw[Ft (l:=asE9.toList) λx I=>h x (by simpa using I)]
theorem NT{P:Program}{G:Nat->Option (List AA)}{g:Gd}{V:AB}{op:Op}{fr fr':Fr}(h:DK op fr fr'):Fp P G g V fr op=Fp P G g V fr' op:=by
 unfold Fp;rw[KG h,Gb h,KV h,Mr h];split
 ·rfl
 ·split
  ·rw[He h]
  ·split
   ·rw[He h]
   ·rfl
 ·rfl
 ·rfl
theorem K3{g:Gd}{V:AB}{op:Op}{fr fr':Fr}(h:DK op fr fr'):Ap C S g V fr op=Ap C S g V fr' op:=by
 unfold Ap;split
 ·rename_i x asE9 ts;unfold DK at h;simp[Op.operands,Call.operands]at h;rw[h.1,Ft (l:=asE9.toList) λy hy=>h.2 y (by simpa using hy)]
 ·exact NT h
theorem Dy{g:Gd}{V:AB}{op:Op}{fr:Fr}(h:AX C.P op≠3):Ap C S g V fr op=Fp C.P C.B6 g V fr op:=by
 unfold Ap;split
 ·simp[AX]at h
 ·rfl
theorem F8{ops:Array Oper}{fr fr':Fr}{o:Oper}(h:∀t∈o.looksAt ops,nth fr t=nth fr' t):A6 ops fr o=A6 ops fr' o:=by
 unfold A6;cases J:o.guard with
 |none=>rfl
 | some p=>
  obtain⟨j,want⟩:=p;simp only;cases hd:(ops[j]?).bind (·.dst)with
  |none=>rfl
  |some d=>
   simp only;rw[h d (by simp[Oper.looksAt,J,hd])]
theorem KX{ops:Array Oper}{fr fr':Fr}{o:Oper}(h:∀t∈o.looksAt ops,nth fr t=nth fr' t):DK o.op fr fr':=by
 intro x I;cases x with
 |tmp t=>exact h t (by unfold Oper.looksAt;exact zm.2 (.inl (qr.2 ⟨_,I,rfl⟩)))
 |_=>rfl
end
end Go.Av
end
