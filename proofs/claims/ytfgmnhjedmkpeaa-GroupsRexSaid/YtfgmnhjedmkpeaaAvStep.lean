/-
  Several texts in one.
-/
import Derived.Test.YtfgmnhjedmkpeaaAvApp
import Derived.OrdersIn
import Derived.TacticsIn
import Derived.LoopNIn
import Derived.RangeFuncLeaves
set_option linter.unusedSimpArgs false
/-
 A part.
-/
section
namespace Go.Av
open Go.RowKit
def BT(g:Gd)(h h':AE):Prop:=h.size<=h'.size/\∀id,id<h.size->g.may id=false->h'.get id=h.get id
theorem BT.refl(g:Gd)(h:AE):BT g h h:=⟨zq _,λ_ _ _=>rfl⟩
theorem BT.trans{g:Gd}{a b c:AE}(h:BT g a b)(k:BT g b c):BT g a c:=
 ⟨yu h.1 k.1,λid hi hm=>(k.2 id (zL hi h.1) hm).trans (h.2 id hi hm)⟩
theorem BT.weaken{g g':Gd}(J:∀id,g.may id=false->g'.may id=false){a b:AE}(h:BT g' a b):BT g a b:=⟨h.1,λid hi hm=>h.2 id hi (J id hm)⟩
theorem BT.push(g:Gd)(h:AE)(o:Br):BT g h (h.push o):=⟨by simp,λid hi _=>h.Cc o hi⟩
theorem BT.set{g:Gd}{h:AE}{id:Nat}{o o':Br}(B:h.get id=some o')(hm:g.may id=true):BT g h (h.set id o):=by
 refine⟨by simp,λi hi hi'=>h.Cj o (h.BZ B) ?_⟩;rintro rfl;rw[hm]at hi';cases hi'
section
variable {P:Program} {g:Gd} {h h':AE}
theorem Fo{id o:Nat}{new:List AD}(D:By g h id o new=some h'):BT g h h':=by
 unfold By at D;split at D
 ·rename_i J;split at D
  ·rename_i O;injection D with D;subst D;exact BT.set J O.1
  ·cases D
 ·cases D
theorem PY{g:Gd}{h:AE}{v v':AD}{h':AE}(H:Ij g h v=some (v',h')):BT g h h':=by
 unfold Ij at H;split at H
 ·injection H with H;injection H with e1 e2;subst e2;exact BT.refl _ _
 ·rename_i id n;by_cases hn:n=0
  ·subst hn;simp only[yS,z0,zd,ze]at H;obtain⟨rfl,rfl⟩:=H;exact BT.refl _ _
  ·have:Nat.beq n 0=false:=by cases n;exact absurd rfl hn;rfl
   rw[this]at H;simp only[yh]at H;split at H
   ·rename_i gr cs J;cases hm:g.may id with
    |false=>rw[hm]at H;cases H
    |true=>
     rw[hm]at H;simp only[z0,zd,ze]at H;obtain⟨rfl,rfl⟩:=H;exact BT.set J hm
   ·simp only[zd,ze]at H;obtain⟨rfl,rfl⟩:=H;exact BT.refl _ _
   ·cases H
 ·injection H with H;injection H with e1 e2;subst e2;exact BT.refl _ _
theorem OO{fr :Fr}{op:Op}{v:AD}(B:Ib P g h fr op=some (v,h')):BT g h h':=by
 have mapk0:∀{h:AE} {t x k y},Le P g h t x k y=some h'->BT g h h':=by
  intro h t x k y D;unfold Le at D;split at D
  ·split at D
   ·rename_i O;split at D
    ·rename_i es J;split at D
     ·split at D
      ·split at D
       ·injection D with D;subst D;exact BT.set J O.2
       ·cases D
      ·cases D
     ·injection D with D;subst D;exact BT.set J O.2
     ·cases D
    ·cases D
   ·cases D
  ·cases D
 have mapk:∀{t x k y},Ht P g h t x k y=some h'->BT g h h':=by
  intro t x k y D;unfold Ht at D;cases W:Ij g h y with
  |none=>rw[W]at D;cases D
  |some q=>
   rw[W]at D;exact(PY W).trans (mapk0 D)
 cases op with
 | convert s d x=>
  simp only[Ib]at B;unfold SP at B;split at B
  ·rename_i e0 e id o n D hd hxx;split at B
   ·rename_i gr cs he J;cases O:(Nat.beq s d&&(g.may id&& !(Nat.beq n 0)))with
    |false=>rw[O]at B;cases B
    |true=>
     rw[O]at B;simp only[z0,zd,ze]at B;obtain⟨_,rfl⟩:=B;simp only[zg]at O;exact BT.set J O.2.1
   ·cases B
  ·cases B
 | store t x y=>
  simp only[Ib]at B;split at B
  ·rename_i id o I;cases D:HA P g h t id o (ev fr y)with
   |none=>simp[D]at B
   | some V=>
    simp only[D,zf,zd,ze]at B;obtain⟨rfl,rfl⟩:=B;unfold HA at D;split at D
    ·split at D
     ·exact Fo D
     ·cases D
    ·cases D
  ·cases B
 | mapUpdate t x k y=>
  simp only[Ib]at B;cases D:Ht P g h t (ev fr x) (ev fr k) (ev fr y)with
  |none=>simp[D]at B
  |some V=>
   simp only[D,zf,zd,ze]at B;obtain⟨rfl,rfl⟩:=B;exact mapk D
 | insert t x k y=>
  simp only[Ib]at B;cases D:Ht P g h t (ev fr x) (ev fr k) (ev fr y)with
  |none=>simp[D]at B
  |some V=>
   simp only[D,zf,zd,ze]at B;obtain⟨rfl,rfl⟩:=B;exact mapk D
 | next it s=>
  cases s with
  |false=>simp[Ib]at B
  | true=>
   simp only[Ib]at B;split at B
   ·rename_i id I;split at B
    ·rename_i s pos J;split at B
     ·rename_i hm;split at B
      ·injection B with B;injection B with e1 e2;subst e2;exact BT.set J hm
      ·injection B with B;injection B with e1 e2;subst e2;exact BT.refl _ _
     ·cases B
    ·cases B
   ·cases B
 | call c =>
  obtain⟨callee,asE9,ts⟩:=c;cases callee with
  |value f=>simp[Ib]at B
  |invoke r mth=>simp[Ib]at B
  | builtin b =>
   simp only[Ib]at B;split at B
   ·unfold Nn at B;split at B
    ·split at B
     ·split at B
      ·split at B
       ·unfold appendCore at B;split at B
        ·injection B with B;injection B with e1 e2;subst e2;exact BT.refl _ _
        ·split at B
         ·split at B
          ·split at B
           ·split at B
            ·injection B with B;injection B with e1 e2;subst e2;exact BT.push _ _ _
            ·split at B
             ·rename_i J;split at B
              ·rename_i O;injection B with B;injection B with e1 e2;subst e2;exact(BT.set J O.1).trans (BT.push _ _ _)
              ·cases B
             ·cases B
           ·cases B
          ·cases B
         ·cases B
       ·cases B
      ·cases B
     ·cases B
    ·cases B
   ·unfold Mo at B;split at B
    ·split at B
     ·split at B
      ·split at B
       ·split at B
        ·injection B with B;injection B with e1 e2;subst e2;exact BT.refl _ _
        ·simp only[zh,ze]at B;obtain⟨V,hsc,_,rfl⟩:=B;exact Fo hsc
       ·split at B
        ·injection B with B;injection B with e1 e2;subst e2;exact BT.refl _ _
        ·cases B
       ·cases B
      ·cases B
     ·cases B
    ·cases B
   ·rename_i s x heq;cases D:Md P g h ts s x with
    |none=>simp[D]at B
    | some V=>
     simp only[D,zf,zd,ze]at B;obtain⟨rfl,rfl⟩:=B;unfold Md at D;split at D
     ·cases D
     ·split at D
      ·split at D
       ·rename_i O;split at D
        ·rename_i J;split at D
         ·injection D with D;subst D;exact BT.set J O.2
         ·injection D with D;subst D;exact BT.refl _ _
         ·cases D
        ·cases D
       ·cases D
      ·cases D
   ·cases B
 |_=>simp[Ib]at B
theorem OV{G:Nat->Option (List AD)}{fr:Fr}{op:Op}{v:AD}(B:Gn P G g h fr op=some (v,h')):BT g h h':=by
 unfold Gn at B;split at B
 ·cases N:Gj P fr op with
  |none=>simp[N]at B
  |some x=>simp only[N,zf,zd,ze]at B;obtain⟨_,rfl⟩:=B;exact BT.refl _ _
 ·split at B
  ·simp only[zh,ze]at B;obtain⟨_,_,_,rfl⟩:=B;exact BT.refl _ _
  ·split at B
   ·simp only[zh,ze]at B;obtain⟨_,_,_,rfl⟩:=B;exact BT.refl _ _
   ·cases B
 ·cases N:L1 P fr op with
  |none=>simp[N]at B
  |some x=>simp only[N,zf,zd,ze]at B;obtain⟨_,rfl⟩:=B;exact BT.push _ _ _
 ·exact OO B
end
section
variable {P:Program} {w0:World} {m:BU} {h:AE} {w:World}
theorem OL{G:Nat->Option (List AD)}(W:CL G w0)(r:Rel P w0 m h w){g:Gd}{fr:Fr}{a:Act}(H:FR m fr a){o:Oper}{v:AD}{h':AE}(B:Gn P G g h fr o.op=some (v,h')):
    ∃m' n v' w',(execOp a.eval o).run P w=.ok n w'/\O5 n v'/\(m.ext h.size m')/\Rel P w0 m' h' w'/\VR m' v v':=by
  unfold Gn at B;split at B
  · cases N:Gj P fr o.op with
    |none=>simp[N]at B
    | some x=>
      simp only[N,zf,zd,ze]at B;obtain⟨rfl,rfl⟩:=B;obtain⟨v',h1,V⟩:=Kn (P:=P) w H N;exact⟨m,_,v',w,h1,.inl rfl,BU.ext.refl _ _,r,V⟩
  · have key:∀ob,(Cm fr o.op).bind h.get=ob->(Iq P G fr ob o.op).map (·,h)=some (v,h')->
        ∃m' n v' w',(execOp a.eval o).run P w=.ok n w'/\O5 n v'/\(m.ext h.size m')/\Rel P w0 m' h' w'/\VR m' v v':=by
      intro ob hob hm;simp only[zh,ze]at hm;obtain⟨x,N,rfl,rfl⟩:=hm;rw[<-hob]at N;obtain⟨v',h1,V⟩:=K5 W r H N;exact⟨m,_,v',w,h1,.inl rfl,BU.ext.refl _ _,r,V⟩
    split at B
    · rename_i Z;exact key none (by rw[Z];rfl) B
    · rename_i id Z
      split at B
      · rename_i ob J;exact key (some ob) (by rw[Z];exact J) B
      · cases B
  · cases N:L1 P fr o.op with
    |none=>simp[N]at B
    | some x=>
      simp only[N,zf,zd,ze]at B;obtain⟨rfl,rfl⟩:=B;obtain⟨v',w',E,h1,t1,t2,_,t4⟩:=K2 (P:=P) w H N;have hle:=BU.LL (m:=m) E (r.fresh (zq h.size));obtain⟨q1,q2⟩:=t4 (m.upd h.size E) hle h.size (BU.D8 m _ E);exact⟨m.upd h.size E,_,v',w',h1,.inl rfl,BU.Oy m _ (by omega),r.new t1 t2 q2,q1⟩
  · exact ON r H B
theorem Rel.Oi(r:Rel P w0 m h w){m':BU}(hm:m.ext h.size m'):m.le m':=⟨λid E hE=>by rw[hm.i id (r.On id E hE)];exact hE,hm.fz⟩
theorem Rel.later(r:Rel P w0 m h w){w':World}(O:Below w.heap.size w w'):Rel P w0 m h w':=
 ⟨r.below.trans (O.mono r.size),r.On,λid E o hE B=>(r.obj id E o hE B).mono (BU.le_refl m) λhl=>O.block _ ((r.obj id E o hE B).lt hl),r.own,r.sep,λg o v L=>by
  obtain⟨cur,e,z,h1,V⟩:=r.fz g o v L
  exact⟨cur,e,z,by rw[O.block g (r.Sf L)];exact h1,V⟩,r.Nc,λg J=>⟨(r.df g J).1,by rw[O.block g (r.Qy J)];exact(r.df g J).2⟩,r.St⟩
end
end Go.Av
end
/-
 A part.
-/
section
namespace Go.Av
open Go.RowKit
def Cl(P:Program)(f:FuncId)(args:Array Value)(w:World)(Q:Value->World->Prop):Prop:=
 match(callFunc f args).run P w with
 | .ok (.value v) w'=>Q v w'
 | .ok (.enter f' args') w'=>Calls P f' args' w' λe w''=>∃v,e=.returned v/\Q v w''
 |_=>False
def GH(P:Program)(G:Nat->Option (List AD))(call:Gd->AE->FuncId->List AD->Option (AD×AE)):Prop:=
 ∀g h f args v h',call g h f args=some (v,h')->BT g h h'/\∀w0 m w (cargs:Array Value),CL G w0->Rel P w0 m h w->B5 m args cargs.toList->
  Cl P f cargs w λv' w'=>∃m':BU,(m.ext h.size m')/\Rel P w0 m' h' w'/\VR m' v v'
def FW(r:Option Nat):Fence:={Fence.wide with round:=r}
theorem SG{rd:Option Nat}{n:Nat}{P:Program}{f:FuncId}{args:Array Value}{w:World}{R:Ending->World->Prop}(h:Calls P f args w R):CallsIn (FW rd) n P f args w R:=(callsIn_wide (n:=n)).2 h
def Sd(P:Program)(G:Nat->Option (List AD))(round:Gd->AE->Nat->List AD->Option (AD×AE)):Prop:=
 ∀g h l args v h',round g h l args=some (v,h')->BT g h h'/\∀w0 m w (cargs:Array Value) E,CL G w0->Rel P w0 m h w->B5 m args cargs.toList->m.i l=some E->
  ∃f tmps a b,(Instr.yield E.g cargs).run P w=.ok (.round E.g f tmps a b) w/\RoundIn Fence.wide 0 P E.g f tmps a b w λe w'=>∃v',e=.returned v'/\∃m':BU,(m.ext h.size m')/\Rel P w0 m' h' w'/\VR m' v v'
structure KS(P:Program)(G:Nat->Option (List AD))(S:Self):Prop where
 call:GH P G S.call
 round:Sd P G S.round
section
variable {C:Gf} {S:Self} {w0:World} {m:BU} {h:AE} {w:World}
theorem HG(U:KS C.P C.C4 S){g:Gd}{fr:Fr}{op:Op}{v:AD}{h':AE}(D:BI C S g h fr op=some (v,h')):BT g h h':=by
 unfold BI at D;split at D
 ·split at D
  ·exact(U.call _ _ _ _ _ _ D).1
  ·exact(U.round _ _ _ _ _ _ D).1
  ·cases D
 ·exact OV D
theorem Q5{P:Program}{G:Nat->Option (List AD)}{g:Gd}{fr:Fr}{op:Op}{x:AD×AE}(B:Gn P G g h fr op=some x):∀c,op≠.defer c:=by
 rintro c rfl;simp[Gn,As,Ib]at B
theorem I9(U:KS C.P C.C4 S)(W:CL C.C4 w0)(r:Rel C.P w0 m h w){g:Gd}{fr:Fr}{a:Act}(H:FR m fr a){o:Oper}{v:AD}{h':AE}(D:BI C S g h fr o.op=some (v,h'))
  {K:Act->World->Prop} {Q:Exit->Act->World->Prop} (hK:∀m' v' w',(m.ext h.size m')->Rel C.P w0 m' h' w'->VR m' v v'->K (a.put o.dst v') w') (rd:Option Nat):o.wpIn (FW rd) 0 C.P a w K Q:=by
 unfold BI at D;split at D
 ·rename_i x asE9 ts heq;split at D
  ·rename_i f first cap I
   obtain⟨_,hc⟩:=U.call _ _ _ _ _ _ D;have L:=H.ev x;rw[I]at L;generalize hq:a.eval x=q at L;cases L with
   | func _ _ _ fi ca h1 V h3 h4=>
    have hargs:B5 m (first++(asE9.toList.map (ev fr)++cap)) ((fi++asE9.map a.eval)++ca).toList:=by
     simp only[Array.toList_append,zR,yY];refine B5.app ⟨by simpa using h1,λi x y I hy=>V i x y I (by simpa using hy)⟩ (B5.app (H.U1 asE9.toList) ⟨by simpa using h3,λi x y I hy=>h4 i x y I (by simpa using hy)⟩)
    have hi:=hc w0 m w _ W r hargs;have X:(execOp a.eval o).run C.P w=(callFunc f ((fi++asE9.map a.eval)++ca)).run C.P w:=by
     simp only[execOp,heq,resolve,hq,Deferred.ofValue,Sem.run_bind,Sem.run_pure,Result.andThen_ok,invoke]
    refine⟨λ_ _=>trivial,?_⟩;rw[Oper.semAt_eq _ _ _ (by rw[heq];intro c hc;cases hc),X];unfold Cl at hi;split at hi
    ·rename_i v' w' he;obtain⟨m',a1,a2,a3⟩:=hi;rw[he];exact hK m' v' w' a1 a2 a3
    ·rename_i f' args' w' he;rw[he];refine⟨λh=>(by cases h),SG (hi.mono λe w'' hh=>?_)⟩;obtain⟨v',rfl,m',a1,a2,a3⟩:=hh;exact hK m' v' w'' a1 a2 a3
    ·exact hi.elim
  ·rename_i l I;obtain⟨_,hc⟩:=U.round _ _ _ _ _ _ D;have L:=H.ev x;rw[I]at L;generalize hq:a.eval x=q at L;cases L with
   | XA _ E hE=>
    obtain⟨f,tmps,ca,cb,hy,M⟩:=hc w0 m w (asE9.map a.eval) E W r (by simpa using H.U1 asE9.toList) hE;have X:(execOp a.eval o).run C.P w=(Instr.yield E.g (asE9.map a.eval)).run C.P w:=by
     simp only[execOp,heq,resolve,hq,Deferred.ofValue,Sem.run_bind,Sem.run_pure,Result.andThen_ok,invoke,Array.empty_append]
    refine⟨λ_ _=>trivial,?_⟩;rw[Oper.semAt_eq _ _ _ (by rw[heq];intro c hc;cases hc),X,hy];refine⟨λh=>(by cases h),RoundIn.mono (F:=FW rd) M λe w'' hh=>?_⟩;obtain⟨v',rfl,m',a1,a2,a3⟩:=hh;exact hK m' v' w'' a1 a2 a3
  ·cases D
 ·obtain⟨m',n,v',w',h1,V,h3,h4,h5⟩:=OL W r H D;refine⟨λ_ _=>trivial,?_⟩;rw[Oper.semAt_eq _ _ _ (Q5 D),h1];rcases V with rfl|⟨rfl,rfl⟩
  ·exact hK m' v' w' h3 h4 h5
  ·exact hK m' _ w' h3 h4 h5
theorem Ed{ops:Array Oper}{fr:Fr}{a:Act}(H:FR m fr a){o:Oper}{b:Bool}(hw:Bp ops fr o=some b):Region.wanted o (yielded ops a.tmps)=b:=by
 unfold Bp at hw;unfold Region.wanted;split at hw
 ·rename_i J;injection hw with hw;subst hw;rw[J]
 ·rename_i j want J;rw[J];simp only;unfold yielded;split at hw
  ·rename_i hd;injection hw with hw;subst hw;rw[hd];rfl
  ·rename_i d hd;rw[hd,za];have L:=H.2 d;have hget:a.tmps.getD d undef=(a.tmps[d]?).getD undef:=by simp[zm]
   rw[hget]at L;split at hw
   ·rename_i bb O;injection hw with hw;subst hw;rw[O]at L;have L:=L.Gl;cases Z:a.tmps[d]? with
    |none=>rw[Z]at L;cases L
    |some u=>rw[Z]at L;simp only[yi]at L;subst L;simp
   ·cases hw
   ·rename_i nb nu;injection hw with hw;subst hw;cases Z:a.tmps[d]? with
    |none=>rfl
    | some u=>
     rw[Z]at L;simp only[yi]at L;cases u with
     |bool b=>
      cases hn:nth fr d<;>rw[hn]at L<;>cases L
      ·exact absurd hn nu
      ·exact absurd hn (nb _)
     |_=>rfl
theorem Gg(U:KS C.P C.C4 S){g:Gd}{ops:Array Oper}:∀(l:List Oper) {h h':AE} {fr fr':Fr},EF C S g ops l fr h=some (fr',h')->BT g h h'/\fr'.length=fr.length
 |[],h,h',fr,fr',M=>by
  simp only[EF,zd,ze]at M;obtain⟨rfl,rfl⟩:=M;exact⟨BT.refl _ _,rfl⟩
 | o::rest,h,h',fr,fr',M=>by
  unfold EF at M;split at M
  ·split at M
   ·rename_i v h1 D;obtain⟨k1,k2⟩:=Gg U rest M;exact⟨(HG U D).trans k1,by rw[k2];simp⟩
   ·cases M
  ·obtain⟨k1,k2⟩:=Gg U rest M;exact⟨k1,by rw[k2];simp⟩
  ·cases M
theorem FK(a:Act)(d:Option Tmp)(v:Value):(a.put d v).defers=a.defers:=by cases d<;>rfl
theorem Ge(U:KS C.P C.C4 S)(W:CL C.C4 w0){g:Gd}{ops:Array Oper}{Q:Exit->Act->World->Prop}:∀(l:List Oper) {m:BU} {h:AE} {w:World} {fr fr':Fr} {h':AE} {a:Act},
  Rel C.P w0 m h w->FR m fr a->EF C S g ops l fr h=some (fr',h')->
  (∀m' a' w',(m.ext h.size m')->Rel C.P w0 m' h' w'->FR m' fr' a'->a'.defers=a.defers->Q .normal a' w')->∀rd:Option Nat,wpListIn (FW rd) 0 C.P ops Q l a w
 |[],m,h,w,fr,fr',h',a,r,H,M,hQ,rd=>by
  simp only[EF,zd,ze]at M;obtain⟨rfl,rfl⟩:=M;exact hQ m a w (BU.ext.refl _ _) r H rfl
 | o::rest,m,h,w,fr,fr',h',a,r,H,M,hQ,rd=>by
  unfold EF at M;split at M
  ·rename_i hw;split at M
   ·rename_i v h1 D;have hk:=HG U D;have T:=Ed H hw;unfold wpListIn;rw[zj T];refine I9 U W r H D (λm1 v1 w1 e1 e2 e3=>?_) rd;refine Ge U W rest e2 (FR.put (H.mono (r.Oi e1)) o.dst e3) M (λm' a' w' g1 g2 g3 g4=>hQ m' a' w' (e1.trans g1 hk.1) g2 g3 ?_) rd;rw[g4,FK]
   ·cases M
  ·rename_i hw;have T:=Ed H hw;unfold wpListIn;rw[zk (by rw[T];simp)];exact⟨λ_ _=>trivial,Ge U W rest r (FR.put H o.dst (VR.Hf m)) M (λm' a' w' g1 g2 g3 g4=>hQ m' a' w' g1 g2 g3 (by rw[g4,FK])) rd⟩
  ·cases M
def EA(op:Op)(fr fr':Fr):Prop:=∀x∈op.operands.toList,ev fr x=ev fr' x
theorem IW{l:List Operand}{fr fr':Fr}(h:∀x∈l,ev fr x=ev fr' x):l.map (ev fr)=l.map (ev fr'):=List.map_congr_left h
theorem LX{l:List (Nat×Operand)}{fr fr':Fr}(h:∀x∈l.map (·.2),ev fr x=ev fr' x):(l.map λ(i,x)=>(i,ev fr x))=l.map λ(i,x)=>(i,ev fr' x):=by
 apply List.map_congr_left;rintro⟨i,x⟩ I;simp only[ze,qu];exact h x (zX.2 ⟨_,I,rfl⟩)
theorem Nv{o:Option Operand}{fr fr':Fr}(h:∀x,o=some x->ev fr x=ev fr' x):o.map (ev fr)=o.map (ev fr'):=by
 cases o with
 |none=>rfl
 |some x=>simp[h x rfl]
theorem MJ{P:Program}{op:Op}{fr fr':Fr}(h:EA op fr fr'):Gj P fr op=Gj P fr' op:=by
 unfold EA at h;cases op<;>simp[Op.operands,Call.operands]at h<;>try (simp[Gj,h];done)
 case build t ps=>
  simp only[Gj]
  rw[LX (l:=ps.toList) (fr:=fr) (fr':=fr') (λx I=>by
   obtain⟨p,N,rfl⟩:=zX.1 I
   exact h p.2 p.1 (by simpa using N))]
 case makeFunc fn first cap=>
  simp only[Gj];rw[IW (l:=first.toList) λx I=>h x (.inl (by simpa using I)),IW (l:=cap.toList) λx I=>h x (.inr (by simpa using I))]
 case slice t x lo hi mx=>
  cases mx with
  |some y=>simp[Gj]
  |none=>
   simp only[Gj];rw[h.1,Nv (λx I=>h.2 x (.inl I)),Nv (λx I=>h.2 x (.inr (.inl I)))]
 case call c=>
  obtain⟨callee,asE9,ts⟩:=c;cases callee with
  |value f=>simp[Gj]
  |invoke r mth=>simp[Gj]
  |builtin b=>simp only[Gj];rw[IW (l:=asE9.toList) λx I=>h x (by simpa using I)]
theorem H9{op:Op}{fr fr':Fr}(h:EA op fr fr'):Cm fr op=Cm fr' op:=by
 unfold EA at h;cases op<;>simp[Op.operands,Call.operands]at h<;>try (simp[Cm,h];done)
 case call c=>
  obtain⟨callee,asE9,ts⟩:=c;simp only[Cm];split
  ·rename_i x I;rw[h x (.inr (by rw[<-Array.mem_toList_iff,I];simp))]
  ·rfl
theorem JP{P:Program}{G:Nat->Option (List AD)}{op:Op}{fr fr':Fr}(h:EA op fr fr')(ob:Option Br):Iq P G fr ob op=Iq P G fr' ob op:=by
 unfold EA at h;cases op<;>simp[Op.operands,Call.operands]at h<;>try (simp[Iq,h];done)
 case slice t x lo hi mx=>
  cases mx with
  |some y=>simp[Iq]
  |none=>
   simp only[Iq];rw[h.1,Nv (λx I=>h.2 x (.inl I)),Nv (λx I=>h.2 x (.inr (.inl I)))]
 case call c=>
  obtain⟨callee,asE9,ts⟩:=c;cases callee with
  |value f=>simp[Iq]
  |invoke r mth=>simp[Iq]
  | builtin b=>
   cases b<;>simp only[Iq];split
   ·rename_i x I;rw[h x (by simp[<-Array.mem_toList_iff,I])]
   ·rfl
theorem MP{P:Program}{op:Op}{fr fr':Fr}(h:EA op fr fr'):L1 P fr op=L1 P fr' op:=by
 unfold EA at h;cases op<;>simp[Op.operands,Call.operands]at h<;>try (simp[L1,h];done)
 case buildSlice t len ps=>
  simp only[L1]
  rw[LX (l:=ps.toList) (fr:=fr) (fr':=fr') (λx I=>by
   obtain⟨p,N,rfl⟩:=zX.1 I
   exact h p.2 p.1 (by simpa using N))]
 case makeMap t r=>cases r<;>simp[L1]
theorem O8{P:Program}{g:Gd}{Y:AE}{op:Op}{fr fr':Fr}(h:EA op fr fr'):Ib P g Y fr op=Ib P g Y fr' op:=by
 unfold EA at h;cases op<;>simp[Op.operands,Call.operands]at h<;>try (simp[Ib,h];done)
 case next it s=>cases s<;>simp[Ib,h]
 case call c=>
  obtain⟨callee,asE9,ts⟩:=c;cases callee with
  |value f=>simp[Ib]
  |invoke r mth=>simp[Ib]
  |builtin b=>simp only[Ib];rw[IW (l:=asE9.toList) λx I=>h x (by simpa using I)]
theorem PE{P:Program}{G:Nat->Option (List AD)}{g:Gd}{Y:AE}{op:Op}{fr fr':Fr}(h:EA op fr fr'):Gn P G g Y fr op=Gn P G g Y fr' op:=by
 unfold Gn;rw[MJ h,H9 h,MP h,O8 h];split
 ·rfl
 ·split
  ·rw[JP h]
  ·split
   ·rw[JP h]
   ·rfl
 ·rfl
 ·rfl
theorem NF{g:Gd}{Y:AE}{op:Op}{fr fr':Fr}(h:EA op fr fr'):BI C S g Y fr op=BI C S g Y fr' op:=by
 unfold BI;split
 ·rename_i x asE9 ts;unfold EA at h;simp[Op.operands,Call.operands]at h;rw[h.1,IW (l:=asE9.toList) λy hy=>h.2 y (by simpa using hy)]
 ·exact PE h
theorem Er{g:Gd}{Y:AE}{op:Op}{fr:Fr}(h:As C.P op≠3):BI C S g Y fr op=Gn C.P C.C4 g Y fr op:=by
 unfold BI;split
 ·simp[As]at h
 ·rfl
theorem HY{ops:Array Oper}{fr fr':Fr}{o:Oper}(h:∀t∈o.looksAt ops,nth fr t=nth fr' t):Bp ops fr o=Bp ops fr' o:=by
 unfold Bp;cases J:o.guard with
 |none=>rfl
 | some p=>
  obtain⟨j,want⟩:=p;simp only;cases hd:(ops[j]?).bind (·.dst)with
  |none=>rfl
  |some d=>
   simp only;rw[h d (by simp[Oper.looksAt,J,hd])]
theorem Me{ops:Array Oper}{fr fr':Fr}{o:Oper}(h:∀t∈o.looksAt ops,nth fr t=nth fr' t):EA o.op fr fr':=by
 intro x I;cases x with
 |tmp t=>exact h t (by unfold Oper.looksAt;exact zo.2 (.inl (qo.2 ⟨_,I,rfl⟩)))
 |_=>rfl
end
end Go.Av
end
