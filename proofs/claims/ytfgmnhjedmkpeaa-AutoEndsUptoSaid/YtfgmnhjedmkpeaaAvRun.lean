/-
 A part.
-/
import Derived.Test.YtfgmnhjedmkpeaaAvSel
import Derived.RangeFuncRecord
set_option linter.unusedSimpArgs false
namespace Go.Av
set_option linter.unusedVariables false
set_option linter.unusedSimpArgs false
open Go.RowKit
def codeOk(C:Eu)(f:FuncId):Code->Bool
 | .region id ops draw=> !draw||IN C.P ops (C.Iy f id)
 | .seq a b=>codeOk C f a&&codeOk C f b
 | .cond _ a b=>codeOk C f a&&codeOk C f b
 | .block _ c=>codeOk C f c
 | .loop c=>codeOk C f c
 | .scope c=>codeOk C f c
 | .rangeFunc _ _ a b=>codeOk C f a&&codeOk C f b
 |_=>true
def Hn:Code->Bool
 | .seq a b=>Hn a&&Hn b
 | .cond _ a b=>Hn a&&Hn b
 | .block _ c=>Hn c
 | .loop c=>Hn c
 | .scope c=>Hn c
 | .rangeFunc .. =>false
 |_=>true
structure Fq(C:Eu):Prop where
 mix:C.P.follows .mixedOrders=true
 code:∀f fn c,(C.kind f=1\/C.kind f=2\/C.kind f=4\/C.kind f=7\/C.kind f=8\/C.kind f=9)->C.P.funcs[f]?=some fn->fn.body=some c->(fn.name=="runtime.NumGoroutine")=false/\codeOk C f c=true
 Vf:∀f a b,C.Vf f a b=true->codeOk C f a=true/\codeOk C f b=true/\Hn a=true/\Hn b=true
 ext:∀f,C.kind f=3->E9 C.P C.B6 λg h f' args=>if f'=f then C.ext f g h args else none
def Br.to:Br->Exit
 | .normal=>.normal
 | .exit id=>.exit id
 | .ret=>.ret
def mark(r:Nat):Deferred:={target:=.collected r,args:=#[]}
def Mk(mS m:Aj)(ds:List Deferred):Prop:=(∀g,mS.df g->m.df g)/\∃rs:List Nat,ds=rs.map mark/\rs.Nodup/\∀r∈rs,m.df r/\¬mS.df r
theorem Mk.nil(m:Aj):Mk m m []:=⟨λ_ h=>h,[],rfl,List.nodup_nil,λr h=>by cases h⟩
theorem Mk.ext{mS m m':Aj}{n:Nat}{ds:List Deferred}(h:Mk mS m ds)(k:m.ext n m'):Mk mS m' ds:=by
 obtain⟨h1,rs,T,h3,h4⟩:=h;exact⟨λg O=>k.df g (h1 g O),rs,T,h3,λr hr=>⟨k.df r (h4 r hr).1,(h4 r hr).2⟩⟩
def Hg(P:Program)(w0:World)(mS m:Aj)(n:Nat)(e:Br)(fr':Fr)(h':AB)(Q:Exit->Act->World->Prop):Prop:=
 ∀m' a' w',(m.ext n m')->Rel P w0 m' h' w'->FR m' fr' a'->Mk mS m' a'.defers->Q e.to a' w'
structure FI(C:Eu)(n:Nat)(S:Self):Prop where
 sub:Ir C.P C.B6 S
 keeps:∀g f c fr h e fr' h',codeOk C f c=true->S.loop g f c fr h=some (e,fr',h')->Af g h h'/\fr'.length=fr.length
 loop:∀g f c fr h e fr' h',codeOk C f c=true->S.loop g f c fr h=some (e,fr',h')->∀w0 mS m w a Q,Bk C.B6 w0->Rel C.P w0 m h w->FR m fr a->Mk mS m a.defers->Hg C.P w0 mS m h.size e fr' h' Q->∀rd:Option Nat,rd=none\/Hn c=true->Code.roundsIn (FW rd) 0 C.P c Q n a w
section
variable {C:Eu} {S:Self} {n:Nat}
theorem Co(N:FI C n S){f:FuncId}{g:Gd}:∀(c:Code),codeOk C f c=true->∀{fr:Fr} {h:AB} {e:Br} {fr':Fr} {h':AB},Aa C S f g c fr h=some (e,fr',h')->Af g h h'/\fr'.length=fr.length:=by
 intro c
 induction c with
 |skip=>intro _ fr h e fr' h' B;simp only[Aa,za,zb]at B;obtain⟨_,rfl,rfl⟩:=B;exact⟨Af.refl _ _,rfl⟩
 |label l=>intro _ fr h e fr' h' B;simp only[Aa,za,zb]at B;obtain⟨_,rfl,rfl⟩:=B;exact⟨Af.refl _ _,rfl⟩
 |exit id=>intro _ fr h e fr' h' B;simp only[Aa,za,zb]at B;obtain⟨_,rfl,rfl⟩:=B;exact⟨Af.refl _ _,rfl⟩
 |ret=>intro _ fr h e fr' h' B;simp only[Aa,za,zb]at B;obtain⟨_,rfl,rfl⟩:=B;exact⟨Af.refl _ _,rfl⟩
 |goto l=>intro _ fr h e fr' h' B;simp[Aa]at B
 |refuse s=>intro _ fr h e fr' h' B;simp[Aa]at B
 | rangeFunc x ps a b iha ihb=>
  intro _ fr h e fr' h' B;simp only[Aa]at B;split at B
  ·rename_i f' first cap hev
   cases hbd:M9 C.P f' with
   |false=>rw[hbd]at B;cases B
   | true=>
    rw[hbd]at B;simp only[zZ,zR]at B;split at B
    ·rename_i v0 T hc;have k1:=(N.sub.call _ _ _ _ _ _ hc).1;split at B
     ·rename_i st pend f2 fr2 ps2 a2 b2 O;cases hst:(Nat.beq st 1|| !g.may h.size)with
      |true=>rw[hst]at B;cases B
      |false=>
       rw[hst]at B;simp only[zR]at B;simp only[zH,yB]at hst;have k:Af g h (T.set h.size (.loop 3 pend f2 fr2 ps2 a2 b2)):=((Af.push g h _).trans k1).trans (Af.set O hst.2);split at B
       ·injection B with B;injection B with e1 e2;injection e2 with e2 e3;subst e2;subst e3;exact⟨k,rfl⟩
       ·injection B with B;injection B with e1 e2;injection e2 with e2 e3;subst e2;subst e3;exact⟨k,rfl⟩
       ·injection B with B;injection B with e1 e2;injection e2 with e2 e3;subst e2;subst e3;exact⟨k,rfl⟩
       ·cases B
     ·cases B
    ·cases B
  ·cases B
 | region id ops draw=>
  intro D fr h e fr' h' B;simp only[Aa]at B;cases draw with
  | true=>
   simp only[zE]at B;split at B
   ·rename_i fr1 h1 hr;simp only[za,zb]at B;obtain⟨_,rfl,rfl⟩:=B;exact Iu (by simpa[codeOk]using D) N.sub hr
   ·cases B
  | false=>
   simp only[zR]at B;split at B
   ·rename_i fr1 h1 hr;simp only[za,zb]at B;obtain⟨_,rfl,rfl⟩:=B;exact EY N.sub _ hr
   ·cases B
 | seq a b iha ihb=>
  intro D fr h e fr' h' B;simp only[codeOk,zf]at D;simp only[Aa]at B;split at B
  ·rename_i fr1 h1 ha;obtain⟨k1,k2⟩:=iha D.1 ha;obtain⟨k3,k4⟩:=ihb D.2 B;exact⟨k1.trans k3,k4.trans k2⟩
  ·exact iha D.1 B
 |cond c a b iha ihb=>
  intro D fr h e fr' h' B;simp only[codeOk,zf]at D;simp only[Aa]at B;split at B
  ·exact iha D.1 B
  ·exact ihb D.2 B
  ·cases B
 | block id c ih=>
  intro D fr h e fr' h' B;simp only[codeOk]at D;simp only[Aa]at B;split at B
  ·rename_i i fr1 h1 ha;have W:=ih D ha;cases L:Nat.beq i id<;>rw[L]at B<;>simp only[zE,zR,za,zb]at B<;>obtain⟨_,rfl,rfl⟩:=B<;>exact W
  ·exact ih D B
 | loop c ih=>
  intro D fr h e fr' h' B;simp only[codeOk]at D;simp only[Aa]at B;split at B
  ·rename_i fr1 h1 ha;obtain⟨k1,k2⟩:=ih D ha;obtain⟨k3,k4⟩:=N.keeps g f c fr1 h1 e fr' h' D B;exact⟨k1.trans k3,k4.trans k2⟩
  ·exact ih D B
 |scope c ih=>
  intro D fr h e fr' h' B;simp only[codeOk]at D;simp only[Aa]at B;exact ih D B
theorem Hg.trans{P:Program}{w0:World}{mS m m1:Aj}{k k1:Nat}{e:Br}{fr':Fr}{h':AB}{Q:Exit->Act->World->Prop}(M:Hg P w0 mS m k e fr' h' Q)(W:k<=k1)(h1:m.ext k m1):Hg P w0 mS m1 k1 e fr' h' Q:=
 λm' a' w' g1 g2 g3 g4=>M m' a' w' (h1.trans g1 W) g2 g3 g4
theorem EP {P:Program} {f:FuncId} {fn:Func} {c:Code} (G:P.funcs[f]?=some fn) (hn:(fn.name=="runtime.NumGoroutine")=false) (L:fn.body=some c) (args:Array Value) (w:World):
  (callFunc f args).run P w=.ok (.enter f args) w:=by
 unfold callFunc;simp only[Sem.run_bind,program,Sem.run,Result.andThen_ok,G];simp[hn,L]
theorem MX(w:World)(g:Nat)(o:Obj):B9 w (w.putObj g o) g:=⟨rfl,rfl,rfl,by simp[World.putObj],λk W Y=>by simp[World.putObj,Ne.symm Y]⟩
theorem P8{w:World}{g:Nat}(o:Obj)(h:g<w.heap.size):(w.putObj g o).heap[g]?=some o:=by simp[World.putObj,h]
theorem Rel.loop{P:Program}{w0:World}{m:Aj}{h:AB}{w:World}(r:Rel P w0 m h w){l:Nat}{E:Gg}{st:Nat}{pend:Option Code}{f:FuncId}{fr:List AA}{ps:List Tmp}{a b:Code}(hE:m.i l=some E)(O:h.get l=some (.loop st pend f fr ps a b)):
  ∃rec:Loop,w.heap[E.g]?=some (.loop rec)/\rec.state=Ui st/\rec.pending=pend/\rec.params=ps.toArray/\rec.assign=a/\rec.body=b/\fr.length=rec.tmps.size/\(∀i,VR m (nth fr i) (rec.tmps.getD i undef))/\
   ∀st' pend' rec',rec'.state=Ui st'->rec'.pending=pend'->rec'.params=rec.params->rec'.assign=rec.assign->rec'.body=rec.body->rec'.tmps=rec.tmps->Rel P w0 m (h.set l (.loop st' pend' f fr ps a b)) (w.putObj E.g (.loop rec')):=by
 obtain⟨tm,d,fn,h1,T,h3⟩:=r.obj l E _ hE O;refine⟨_,h1,rfl,rfl,rfl,rfl,rfl,T,h3,λst' pend' rec' e1 e2 e3 e4 e5 e6=>?_⟩;have hlt:E.g<w.heap.size:=(Array.getElem?_eq_some_iff.1 h1).1;refine r.write hE O rfl rfl (MX w E.g _) ⟨tm,rec'.defers,rec'.fn,?_,T,h3⟩;rw[P8 _ hlt];obtain⟨s,p,f,t,pr,asE9,bo,de⟩:=rec';simp only at e1 e2 e3 e4 e5 e6;subst e1;subst e2;subst e3;subst e4;subst e5;subst e6;rfl
def Aj.OF(m:Aj)(g:Nat):Aj:=⟨m.i,m.fz,λk=>m.df k\/k=g⟩
theorem Aj.M3(m:Aj)(g:Nat):m.le (m.OF g):=⟨λ_ _ h=>h,λ_ _ _ h=>h⟩
theorem Rel.XN{P:Program}{w0:World}{m:Aj}{h:AB}{w:World}(r:Rel P w0 m h w):Rel P w0 (m.OF w.heap.size) h (w.alloc (.deferred (some []))):=by
 have ht:=B9.alloc w (.deferred (some [])) w.heap.size;have hnew:(w.alloc (.deferred (some []))).heap[w.heap.size]?=some (.deferred (some [])):=heap_alloc_new w _;have old:∀k,k<w.heap.size->(w.alloc (.deferred (some []))).heap[k]?=w.heap[k]?:=λk W=>ht.block k W (by omega);refine⟨ht.below r.below r.size r.size,r.Kg,λid E o hE ho=>(r.obj id E o hE ho).mono (Aj.M3 m _) λU=>old _ ((r.obj id E o hE ho).lt U),r.own,r.sep,λg o v H=>?_,r.Ke,λg O=>?_,λid E o hE ho U hd=>?_⟩
 ·obtain⟨cur,e,z,h1,T⟩:=r.fz g o v H;exact⟨cur,e,z,by rw[old g (r.PI H)];exact h1,T⟩
 ·rcases O with O|rfl
  ·exact⟨(r.df g O).1,by rw[old g (r.Le O)];exact(r.df g O).2⟩
  ·exact⟨r.size,hnew⟩
 ·rcases hd with hd|hd
  ·exact r.Py id E o hE ho U hd
  ·have:=(r.obj id E o hE ho).lt U;omega
theorem MW{m:Aj}:∀(ps:List Tmp) (vs:List AA) (us:List Value) (fr:Fr) (tmps:Array Value) (d:List Deferred),BT m vs us->FR m fr {tmps:=tmps,defers:=d}->
  FR m (Ng ps vs fr) {tmps:=(ps.zip us).foldl (λtmps (t,a)=>tmps.setIfInBounds t a) tmps,defers:=d}
 |[],vs,us,fr,tmps,d,_,G=>by simpa[Ng]using G
 |p::ps,[],us,fr,tmps,d,H,G=>by
  have:us=[]:=zi (by simpa using H.1.symm);subst this;simpa[Ng]using G
 |p::ps,v::vs,[],fr,tmps,d,H,G=>by simp[BT]at H
 |p::ps,v::vs,u::us,fr,tmps,d,H,G=>by
  have hc:=H.2 0 v u rfl rfl;have hv':BT m vs us:=⟨by simpa using H.1,λi x y B hy=>H.2 (i+1) x y (by simpa using B) (by simpa using hy)⟩;simp only[Ng,List.zip_cons_cons,qB];exact MW ps vs us _ _ d hv' (G.put (some p) hc)
theorem EH(V:Fq C)(N:FI C n S){f:FuncId}{g:Gd}:∀(c:Code),codeOk C f c=true->∀{fr:Fr} {h:AB} {e:Br} {fr':Fr} {h':AB},Aa C S f g c fr h=some (e,fr',h')->
  ∀{w0:World} {mS m:Aj} {w:World} {a:Act} {Q:Exit->Act->World->Prop},Bk C.B6 w0->Rel C.P w0 m h w->FR m fr a->Mk mS m a.defers->Hg C.P w0 mS m h.size e fr' h' Q->∀rd:Option Nat,rd=none\/Hn c=true->c.wpIn (FW rd) 0 C.P Q a w:=by
 intro c
 induction c with
 |skip=>intro _ fr h e fr' h' B w0 mS m w a Q J r G I M rd K;simp only[Aa,za,zb]at B;obtain⟨rfl,rfl,rfl⟩:=B;exact wpIn_skip (M m a w (Aj.ext.refl _ _) r G I)
 |label l=>intro _ fr h e fr' h' B w0 mS m w a Q J r G I M rd K;simp only[Aa,za,zb]at B;obtain⟨rfl,rfl,rfl⟩:=B;exact wpIn_label (M m a w (Aj.ext.refl _ _) r G I)
 |exit id=>intro _ fr h e fr' h' B w0 mS m w a Q J r G I M rd K;simp only[Aa,za,zb]at B;obtain⟨rfl,rfl,rfl⟩:=B;exact wpIn_exit (M m a w (Aj.ext.refl _ _) r G I)
 |ret=>intro _ fr h e fr' h' B w0 mS m w a Q J r G I M rd K;simp only[Aa,za,zb]at B;obtain⟨rfl,rfl,rfl⟩:=B;exact wpIn_ret (M m a w (Aj.ext.refl _ _) r G I)
 |goto l=>intro _ fr h e fr' h' B;simp[Aa]at B
 |refuse s=>intro _ fr h e fr' h' B;simp[Aa]at B
 | rangeFunc x ps ca cb iha ihb=>
  intro _ fr h e fr' h' B w0 mS m w a Q J r G I M rd K;have hrd0:rd=none:=K.resolve_right (by simp[Hn]);subst hrd0;simp only[Aa]at B;split at B
  ·rename_i f' first cap hev
   cases hbd:M9 C.P f' with
   |false=>rw[hbd]at B;cases B
   | true =>
    rw[hbd]at B;simp only[zZ,zR]at B;split at B
    ·rename_i v0 T hc;split at B
     ·rename_i st pend f2 fr2 ps2 a2 b2 O;cases hst:(Nat.beq st 1|| !g.may h.size)with
      |true=>rw[hst]at B;cases B
      | false=>
       rw[hst]at B;simp only[zR]at B;simp only[zH,yB]at hst;have H:=G.ev x;rw[hev]at H;generalize Z:a.eval x=q at H;cases H with
       | func _ _ _ fi ca' h1 h2' h3 h4=>
        obtain⟨ck,cs⟩:=N.sub.call _ _ _ _ _ _ hc;unfold M9 at hbd;split at hbd
        ·rename_i fn0 hfn0;simp only[zf,zx]at hbd;obtain⟨c0,hc0⟩:=qQ.1 hbd.1;refine wpIn_rangeFunc λfn _=>?_;obtain⟨w1,hw1⟩:∃w1,w1=(w.alloc (.deferred (some []))).alloc (.loop {state:=.ready,pending:=none,fn,tmps:=a.tmps,params:=ps,assign:=ca,body:=cb,defers:=w.heap.size}):=⟨_,rfl⟩;obtain⟨E,hE⟩:∃E:Gg,E=⟨w.heap.size+1,0,0,0⟩:=⟨_,rfl⟩;have r0:=r.XN;have hsz:(w.alloc (.deferred (some []))).heap.size=w.heap.size+1:=World.size_alloc _ _;have hEg:E.g=w.heap.size+1:=by rw[hE]
         have hfresh:(m.OF w.heap.size).i h.size=none:=r0.fresh (zr _);have r1:Rel C.P w0 ((m.OF w.heap.size).upd h.size E) (h.push (.loop 0 none f fr ps.toList ca cb)) w1:=by
          refine r0.new (by rw[hw1];exact B9.alloc _ _ _) (by rw[hEg,hsz]) ⟨a.tmps,w.heap.size,fn,?_,G.1,λi=>(G.2 i).mono (Aj.le_trans (Aj.M3 m _) (Aj.Gl E hfresh))⟩;rw[hw1,hEg,<-hsz];exact heap_alloc_new _ _
         have hargs:BT ((m.OF w.heap.size).upd h.size E) (first++([.SD h.size]++cap)) ((fi++#[Value.func (.yield (w.heap.size+1)) #[] #[]])++ca').toList:=by
          have hle:=Aj.le_trans (Aj.M3 m w.heap.size) (Aj.Gl E hfresh);simp only[qm,zU];refine BT.app ⟨by simpa using h1,λi x y B hy=>(h2' i x y B (by simpa using hy)).mono hle⟩ (BT.app (.cons ?_ (.nil _)) ⟨by simpa using h3,λi x y B hy=>(h4 i x y B (by simpa using hy)).mono hle⟩);have:=VR.SD (m:=(m.OF w.heap.size).upd h.size E) h.size E (Aj.CR _ _ E);rw[hEg]at this;exact this
         have hi:=cs w0 _ w1 _ J r1 hargs;unfold Bz at hi;rw[EP hfn0 hbd.2 hc0]at hi;simp only at hi;refine⟨w.heap.size+1,[mark w.heap.size],w1,{target:=.fn (.func f') ca',args:=fi++#[Value.func (.yield (w.heap.size+1)) #[] #[]]},w1,f',_,w1,?_,?_,λ_ _=>trivial,EP hfn0 hbd.2 hc0 _ _,λh=>(by cases h),M0 (hi.mono λen w2 hh=>?_)⟩
         ·rw[hw1];exact run_enterLoop_outer fn a.tmps ps ca cb
         ·simp only[resolve,Z,Deferred.ofValue,Sem.run_pure];simp[Act.eval]
         ·obtain⟨v',rfl,m2,g1,g2,g3⟩:=hh;have hE2:m2.i h.size=some E:=by rw[g1.i h.size (by simp)];exact Aj.CR _ _ E
          obtain⟨rec,q1,q2,q3,q4,q5,q6,q7,q8,q9⟩:=g2.loop hE2 O;have hbusy:rec.state≠.busy:=by
           rw[q2];have:st≠1:=λe=>by rw[e]at hst;simp at hst
           unfold Ui;split<;>simp_all
          have X:=run_endLoop (P:=C.P) q1 hbusy;rw[hEg]at X;have r3:=q9 3 pend {rec with state:=.exhausted} rfl q3 rfl rfl rfl rfl;rw[hEg]at r3;refine⟨pend,w2.putObj (w.heap.size+1) (.loop {rec with state:=.exhausted}),X.trans (congrArg (λj=>Result.ok j _) q3),?_⟩;have fin:Hg C.P w0 mS m h.size e fr' h' Q->∀en:Br,(en,fr,T.set h.size (.loop 3 pend f2 fr2 ps2 a2 b2))=(e,fr',h')->Q en.to {a with defers:=[mark w.heap.size]++a.defers} (w2.putObj (w.heap.size+1) (.loop {rec with state:=.exhausted})):=by
           intro M en he;injection he with e1 e2;injection e2 with e2 e3;subst e1;subst e2;subst e3;have hx0:m.ext h.size m2:=⟨λi hi=>by rw[g1.i i (by simp;omega),Aj.HG _ _ (by omega)];rfl,λg o v H=>g1.fz g o v H,λg O=>g1.df g (.inl O)⟩;refine M m2 _ _ hx0 r3 ⟨G.1,λi=>(G.2 i).mono (r.Kn hx0)⟩ ?_;obtain⟨k1,rs,k2,k3,k4⟩:=I;refine⟨λg O=>hx0.df g (k1 g O),w.heap.size::rs,by simp[k2],yV.2 ⟨λhm=>?_,k3⟩,λr' hr'=>?_⟩
           ·have:=r.Le (k4 _ hm).1;omega
           ·rcases zP.1 hr' with rfl|hr'
            ·exact⟨g1.df _ (.inr rfl),λhd=>by have:=r.Le (k1 _ hd);omega⟩
            ·exact⟨hx0.df _ (k4 _ hr').1,(k4 _ hr').2⟩
          split at B
          ·injection B with B;exact fin M .normal B
          ·injection B with B;exact wpIn_ret (fin M .ret B)
          ·injection B with B;exact wpIn_exit (fin M (.exit _) B)
          ·cases B
        ·cases hbd
     ·cases B
    ·cases B
  ·cases B
 | region id ops draw=>
  intro D fr h e fr' h' B w0 mS m w a Q J r G I M rd K;simp only[Aa]at B;cases draw with
  | true=>
   simp only[zE]at B;split at B
   ·rename_i fr1 h1 hr;simp only[za,zb]at B;obtain⟨rfl,rfl,rfl⟩:=B;exact I3 V.mix (by simpa[codeOk]using D) N.sub J r G hr (λm' a' w' g1 g2 g3 g4=>M m' a' w' g1 g2 g3 (by rw[g4];exact I.ext g1)) rd
   ·cases B
  | false=>
   simp only[zR]at B;split at B
   ·rename_i fr1 h1 hr;simp only[za,zb]at B;obtain⟨rfl,rfl,rfl⟩:=B;exact wpIn_region_list (Ed N.sub J _ r G hr (λm' a' w' g1 g2 g3 g4=>M m' a' w' g1 g2 g3 (by rw[g4];exact I.ext g1)) rd)
   ·cases B
 | seq x y iha ihb=>
  intro D fr h e fr' h' B w0 mS m w a Q J r G I M rd K;simp only[codeOk,zf]at D;simp only[Aa]at B;split at B
  ·rename_i fr1 h1 ha;have W:=(Co N x D.1 ha).1;refine wpIn_seq (iha D.1 ha J r G I (λm1 a1 w1 g1 g2 g3 g4=>?_) rd (K.imp (λh=>h) λh=>by simp only[Hn,zf]at h;exact h.1));exact ihb D.2 B J g2 g3 g4 (M.trans W.1 g1) rd (K.imp (λh=>h) λh=>by simp only[Hn,zf]at h;exact h.2)
  ·rename_i Y;refine wpIn_seq (iha D.1 B J r G I (λm1 a1 w1 g1 g2 g3 g4=>?_) rd (K.imp (λh=>h) λh=>by simp only[Hn,zf]at h;exact h.1));have Z:=M m1 a1 w1 g1 g2 g3 g4;cases e with
   |normal=>exact absurd B (Y _ _)
   |exit id=>exact Z
   |ret=>exact Z
 |cond c x y iha ihb=>
  intro D fr h e fr' h' B w0 mS m w a Q J r G I M rd K;simp only[codeOk,zf]at D;simp only[Aa]at B;have H:=G.ev c;split at B
  ·rename_i hc;rw[hc]at H;exact wpIn_cond_true H.E7 (iha D.1 B J r G I M rd (K.imp (λh=>h) λh=>by simp only[Hn,zf]at h;exact h.1))
  ·rename_i hc;rw[hc]at H;exact wpIn_cond_false H.E7 (ihb D.2 B J r G I M rd (K.imp (λh=>h) λh=>by simp only[Hn,zf]at h;exact h.2))
  ·cases B
 | block id c ih=>
  intro D fr h e fr' h' B w0 mS m w a Q J r G I M rd K;simp only[codeOk]at D;simp only[Aa]at B;split at B
  ·rename_i i fr1 h1 ha;refine wpIn_block (ih D ha J r G I (λm1 a1 w1 g1 g2 g3 g4=>?_) rd (K.imp (λh=>h) λh=>by simpa[Hn]using h));show(if i=id then Q .normal a1 w1 else Q (.exit i) a1 w1);cases L:Nat.beq i id with
   |true=>
    rw[L]at B;simp only[zE,za,zb]at B;obtain⟨rfl,rfl,rfl⟩:=B;rw[zk (zD L)];exact M m1 a1 w1 g1 g2 g3 g4
   |false=>
    rw[L]at B;simp only[zR,za,zb]at B;obtain⟨rfl,rfl,rfl⟩:=B;rw[zh (λe=>by rw[e,yX]at L;cases L)];exact M m1 a1 w1 g1 g2 g3 g4
  ·rename_i Y;refine wpIn_block (ih D B J r G I (λm1 a1 w1 g1 g2 g3 g4=>?_) rd (K.imp (λh=>h) λh=>by simpa[Hn]using h));have Z:=M m1 a1 w1 g1 g2 g3 g4;cases e with
   |normal=>exact Z
   |exit i=>exact absurd B (Y _ _ _)
   |ret=>exact Z
 | loop c ih=>
  intro D fr h e fr' h' B w0 mS m w a Q J r G I M rd K;simp only[codeOk]at D;simp only[Aa]at B;have hrd':rd=none\/Hn c=true:=K.imp (λh=>h) λh=>by simpa[Hn]using h
  refine wpIn_loop_rounds (n+1) ?_;rw[roundsIn_succ];split at B
  ·rename_i fr1 h1 ha;have W:=(Co N c D ha).1;refine ih D ha J r G I (λm1 a1 w1 g1 g2 g3 g4=>?_) rd hrd';exact N.loop g f c fr1 h1 e fr' h' D B w0 mS m1 w1 a1 Q J g2 g3 g4 (M.trans W.1 g1) rd hrd'
  ·rename_i Y;refine ih D B J r G I (λm1 a1 w1 g1 g2 g3 g4=>?_) rd hrd';have Z:=M m1 a1 w1 g1 g2 g3 g4;cases e with
   |normal=>exact absurd B (Y _ _)
   |exit id=>exact Z
   |ret=>exact Z
 |scope c ih=>
  intro D fr h e fr' h' B w0 mS m w a Q J r G I M rd K;simp only[codeOk]at D;simp only[Aa]at B;refine Pz (ih D B J r G I (λm1 a1 w1 g1 g2 g3 g4=>?_) rd (K.imp (λh=>h) λh=>by simpa[Hn]using h));have Z:=M m1 a1 w1 g1 g2 g3 g4;cases e with
  |normal=>exact Z
  |exit i=>exact Z
  |ret=>exact Z
theorem Jd(V:Fq C)(N:FI C n S){f:FuncId}{g:Gd}{c:Code}(D:codeOk C f c=true){fr:Fr}{h:AB}{e:Br}{fr':Fr}{h':AB}(B:Aa C S f g (.loop c) fr h=some (e,fr',h'))
  {w0:World} {mS m:Aj} {w:World} {a:Act} {Q:Exit->Act->World->Prop} (J:Bk C.B6 w0) (r:Rel C.P w0 m h w) (G:FR m fr a) (I:Mk mS m a.defers) (M:Hg C.P w0 mS m h.size e fr' h' Q) (rd:Option Nat) (K:rd=none\/Hn c=true):Code.roundsIn (FW rd) 0 C.P c Q (n+1) a w:=by
 simp only[Aa]at B;rw[roundsIn_succ];split at B
 ·rename_i fr1 h1 ha;have W:=(Co N c D ha).1;refine EH V N c D ha J r G I (λm1 a1 w1 g1 g2 g3 g4=>?_) rd K;exact N.loop g f c fr1 h1 e fr' h' D B w0 mS m1 w1 a1 Q J g2 g3 g4 (M.trans W.1 g1) rd K
 ·rename_i Y;refine EH V N c D B J r G I (λm1 a1 w1 g1 g2 g3 g4=>?_) rd K;have Z:=M m1 a1 w1 g1 g2 g3 g4;cases e with
  |normal=>exact absurd B (Y _ _)
  |exit id=>exact Z
  |ret=>exact Z
theorem Ol(V:Fq C)(N:FI C n S):Qj C.P C.B6 (L3 C S):=by
 intro g h l args v h' B;unfold L3 at B;split at B
 ·rename_i pend f fr ps ca cb O;cases L:(Nat.beq args.length ps.length&&(g.may l&&C.Vf f ca cb))with
  |false=>rw[L]at B;cases B
  | true=>
   rw[L]at B;simp only[zE]at B;simp only[zf]at L;obtain⟨hlen,hmay,hrok⟩:=L;have hlen:=zD hlen;obtain⟨ok1,ok2,nr1,nr2⟩:=V.Vf f ca cb hrok;split at B
   ·rename_i fr1 h1 hx1;have k1:=(Co N ca ok1 hx1).1;split at B
    ·rename_i pend1 f1 frr1 ps1 ca1 cb1 hg1;have k2:Af g h1 (h1.set l (.loop 1 pend1 f1 frr1 ps1 ca1 cb1)):=Af.set hg1 hmay;have main:∀(e:Br) (fr2:Fr) (h3:AB) (j:Option Code),Aa C S f g cb fr1 (h1.set l (.loop 1 pend1 f1 frr1 ps1 ca1 cb1))=some (e,fr2,h3)->JE g l j h3=some (v,h')->(e=.normal/\j=none\/e=.ret/\j=some .ret\/∃i,e=.exit i/\j=some (.exit i))->
       Af g h h'/\∀w0 m w (cargs:Array Value) E,Bk C.B6 w0->Rel C.P w0 m h w->BT m args cargs.toList->m.i l=some E->
        ∃f tmps a b,(Instr.yield E.g cargs).run C.P w=.ok (.round E.g f tmps a b) w/\RoundIn Fence.wide 0 C.P E.g f tmps a b w λe w'=>∃v',e=.returned v'/\∃m':Aj,(m.ext h.size m')/\Rel C.P w0 m' h' w'/\VR m' v v':=by
      intro e fr2 h3 j hx2 X hej;have k3:=(Co N cb ok2 hx2).1;unfold JE at X;split at X
      ·rename_i st3 pend3 f3 fr3 ps3 ca3 cb3 hg3;rw[hmay]at X;simp only[zE,za,zb]at X;obtain⟨rfl,rfl⟩:=X;have k4:Af g h3 (h3.set l (.loop (ZY j) j f3 fr3 ps3 ca3 cb3)):=Af.set hg3 hmay;refine⟨((k1.trans k2).trans k3).trans k4,λw0 m w cargs E J r H hE=>?_⟩;obtain⟨rec,q1,q2,q3,q4,q5,q6,q7,q8,q9⟩:=r.loop hE O;have hsz:cargs.size=rec.params.size:=by rw[q4];have:=H.1;simp at this;simp;omega
       refine⟨rec.fn,_,rec.assign,rec.body,run_yield q1 hsz,roundIn_of_wpIn (F:=Fence.wide) trivial ?_⟩;rw[q5];have hfr:FR m (Ng ps args fr) {tmps:=(rec.params.zip cargs).foldl (λtmps (t,a)=>tmps.setIfInBounds t a) rec.tmps,defers:=[]}:=by
        have:=MW ps args cargs.toList fr rec.tmps [] H ⟨q7,q8⟩;rw[q4,<-Array.foldl_toList,Array.toList_zip];exact this
       refine EH V N ca ok1 hx1 J r hfr (Mk.nil m) (λm1 a1 w1 g1 g2 g3 g4=>?_) (some E.g) (.inr nr1);have hE1:m1.i l=some E:=by rw[g1.i l (h.Ar O)];exact hE
       obtain⟨rec1,p1,p2,p3,p4,p5,p6,p7,p8,p9⟩:=g2.loop hE1 hg1;refine⟨_,run_beginRound p1 p2,?_⟩;have r2:=p9 1 pend1 {rec1 with state:=.busy} rfl p3 rfl rfl rfl rfl;rw[q6];refine EH V N cb ok2 hx2 J r2 g3 g4 (λm3 a3 w3 d1 d2 d3 d4=>?_) (some E.g) (.inr nr2);have hlt1:=h1.Ar hg1;have hE3:m3.i l=some E:=by rw[d1.i l (by simpa using hlt1)];exact hE1
       obtain⟨rec3,s1,s2,s3,s4,s5,s6,s7,s8,s9⟩:=d2.loop hE3 hg3;have hx0:m.ext h.size m3:=g1.trans d1 (by simpa using k1.1);have fin:∃v w',(Instr.endRound E.g j).run C.P w3=.ok v w'/\∃v',Ending.returned v=.returned v'/\∃m':Aj,(m.ext h.size m')/\Rel C.P w0 m' (h3.set l (.loop (ZY j) j f3 fr3 ps3 ca3 cb3)) w'/\VR m' (.bool j.isNone) v':=by
        refine⟨_,_,run_endRound j s1,_,rfl,m3,hx0,s9 _ j _ ?_ rfl rfl rfl rfl rfl,.bool _⟩;cases j<;>rfl
       rcases hej with⟨rfl,rfl⟩|⟨rfl,rfl⟩|⟨i,rfl,rfl⟩
       ·exact fin
       ·exact fin
       ·exact fin
      ·cases X
     split at B
     ·rename_i fr2 h3 hx2;exact main .normal fr2 h3 none hx2 B (.inl ⟨rfl,rfl⟩)
     ·rename_i fr2 h3 hx2;exact main .ret fr2 h3 (some .ret) hx2 B (.inr (.inl ⟨rfl,rfl⟩))
     ·rename_i i fr2 h3 hx2;exact main (.exit i) fr2 h3 (some (.exit i)) hx2 B (.inr (.inr ⟨i,rfl,rfl⟩))
     ·cases B
    ·cases B
   ·cases B
 ·cases B
theorem Iw{P:Program}{w0:World}{m:Aj}{h:AB}{w:World}(r:Rel P w0 m h w){fr:Fr}{a:Act}(G:FR m fr a){x:ResultVar}{v:AA}(B:Dj P fr h x=some v):
  ∃v',(match x with| .tmp t=>pure (a.tmps.getD t undef)| .cell c t=>do loadVar t (<-asAddr (a.tmps.getD c undef)):Sem Value).run P w=.ok v' w/\VR m v v':=by
 cases x with
 |tmp t=>simp only[Dj,za]at B;subst B;exact⟨_,rfl,G.2 t⟩
 | cell c t=>
  simp only[Dj]at B;split at B
  ·rename_i id o hc;have H:=G.2 c;rw[hc]at H;generalize Z:a.tmps.getD c undef=q at H;cases H with
   |ptr _ _ E hE=>
    obtain⟨v',h1,T⟩:=F6 r hE B;exact⟨v',by simp[Z,asAddr,h1],T⟩
  ·cases B
theorem Gj{P:Program}{w0:World}{m:Aj}{h:AB}{w:World}(r:Rel P w0 m h w){fr:Fr}{a:Act}(G:FR m fr a):∀(l:List ResultVar) (vs:List AA),l.mapM (Dj P fr h)=some vs->
  ∃vs',(l.mapM (fun| .tmp t=>pure (a.tmps.getD t undef)| .cell c t=>do loadVar t (<-asAddr (a.tmps.getD c undef)):ResultVar->Sem Value)).run P w=.ok vs' w/\BT m vs vs'
 |[],vs,U=>by simp at U;subst U;exact⟨[],by simp,.nil m⟩
 |x::l,vs,U=>by
  rw[qj]at U;simp only[bind,qR,pure,za]at U;obtain⟨v,H,us,hus,rfl⟩:=U;obtain⟨v',h1,T⟩:=Iw r G H;obtain⟨us',h3,h4⟩:=Gj r G l us hus;refine⟨v'::us',?_,.cons T h4⟩;rw[qj];simp only[Sem.run_bind];cases x<;>simp only at h1<;>rw[h1]<;>simp only[Result.andThen_ok,h3,Sem.run_pure]
theorem Gy{P:Program}{w0:World}{m:Aj}{h:AB}{w:World}(r:Rel P w0 m h w){fn:Func}{fr:Fr}{a:Act}(G:FR m fr a){v:AA}(B:Cy P fn fr h=some v):
  ∃v',(results fn a.tmps).run P w=.ok v' w/\VR m v v':=by
 unfold Cy at B;have key:∀vs,fn.results.toList.mapM (Dj P fr h)=some vs->∃vs',(results fn a.tmps).run P w=.ok (if hh:vs'.length=1 then vs'[0]else .tuple vs'.toArray) w/\BT m vs vs':=by
  intro vs hvs;obtain⟨vs',h1,T⟩:=Gj r G _ _ hvs;refine⟨vs',?_,T⟩;unfold results;rw[Array.mapM_eq_mapM_toList];simp only[Sem.run_bind,Sem.run_map]
  erw [h1]
  simp
 split at B
 ·rename_i u hu;injection B with B;subst B;obtain⟨vs',h1,T⟩:=key _ hu;have U:vs'.length=1:=by rw[<-T.1];rfl
  rw[dif_pos U]at h1;exact⟨_,h1,T.2 0 u _ rfl (by simp[U])⟩
 ·rename_i us Y hus;injection B with B;subst B;obtain⟨vs',h1,T⟩:=key _ hus;have U:¬vs'.length=1:=by
   rw[<-T.1];intro U
   match us,U with
   |[u],_=>exact Y u rfl
  rw[dif_neg U]at h1;exact⟨_,h1,BT.tuple (by simpa using T)⟩
 ·cases B
theorem Ji{P:Program}{w0:World}{h:AB}{fn:Func}{tmps:Array Value}{R:Ending->World->Prop}:∀(rs:List Nat),rs.Nodup->∀(m:Aj) (w:World),Rel P w0 m h w->(∀r∈rs,m.df r)->
  (∀(m':Aj) w',m'.i=m.i->m'.fz=m.fz->(∀g,m.df g->g∉rs->m'.df g)->Rel P w0 m' h w'->LeavesIn Fence.wide 0 P fn tmps R [] .returning w')->LeavesInM Fence.wide 0 P fn tmps R (rs.map mark) .returning w
 |[],_,m,w,r,_,W=>W m w rfl rfl (λ_ h _=>h) r
 | r0::rs,hn,m,w,r,hd,W=>by
  obtain⟨hn1,hn2⟩:=yV.1 hn;have L:=(r.df r0 (hd r0 (by simp))).2;refine⟨by simp,.inl ⟨r0,_,rfl,run_takeDeferred L,?_⟩⟩;have ht:=MX w r0 (.deferred none);have r':Rel P w0 ⟨m.i,m.fz,λk=>m.df k/\k≠r0⟩ h (w.putObj r0 (.deferred none)):=by
   refine⟨ht.below r.below r.size (r.df r0 (hd r0 (by simp))).1,r.Kg,λid E o hE ho=>F3.mono (m:=m) ⟨λ_ _ h=>h,λ_ _ _ h=>h⟩ (λU=>ht.block _ ((r.obj id E o hE ho).lt U) λe=>?_) (r.obj id E o hE ho),r.own,r.sep,λg o v H=>?_,r.Ke,λg O=>⟨(r.df g O.1).1,?_⟩,λid E o hE ho U O=>r.Py id E o hE ho U O.1⟩
   ·exact r.Py id E o hE ho U (e ▸ hd r0 (by simp))
   ·obtain⟨cur,e,z,h1,T⟩:=r.fz g o v H;refine⟨cur,e,z,?_,T⟩;rw[ht.block g (r.PI H) (λe'=>by subst e';rw[L]at h1;cases h1)];exact h1
   ·rw[ht.block g (r.Le O.1) O.2];exact(r.df g O.1).2
  refine Ji rs hn2 _ _ r' (λk hk'=>⟨hd k (by simp[hk']),λe=>hn1 (e ▸ hk')⟩) λm' w' e1 e2 e3 e4=>W m' w' e1 e2 (λg O hno=>e3 g ⟨O,λe=>hno (by simp[e])⟩ λhm=>hno (by simp[hm])) e4
theorem El(V:Fq C)(N:FI C n S){g:Gd}{h h':AB}{f:FuncId}{args:List AA}{v:AA}(W:C.kind f=1\/C.kind f=2\/C.kind f=4\/C.kind f=7\/C.kind f=8\/C.kind f=9)(L:Dn C S g h f args=some (v,h')):
  Af g h h'/\∀w0 m w (cargs:Array Value),Bk C.B6 w0->Rel C.P w0 m h w->BT m args cargs.toList->Bz C.P f cargs w λv' w'=>∃m':Aj,(m.ext h.size m')/\Rel C.P w0 m' h' w'/\VR m' v v':=by
 unfold Dn at L;split at L
 ·cases L
 ·rename_i fn hfn;split at L
  ·cases L
  ·rename_i c hc;obtain⟨hn,D⟩:=V.code f fn c W hfn hc;have main:∀e fr1 h1,e=Br.normal\/e=Br.ret->Aa C S f g c (args++List.replicate (fn.ntmps - args.length) (.tuple [])) h=some (e,fr1,h1)->(Cy C.P fn fr1 h1).map (·,h1)=some (v,h')->
     Af g h h'/\∀w0 m w (cargs:Array Value),Bk C.B6 w0->Rel C.P w0 m h w->BT m args cargs.toList->Bz C.P f cargs w λv' w'=>∃m':Aj,(m.ext h.size m')/\Rel C.P w0 m' h' w'/\VR m' v v':=by
    intro e fr1 h1 he B hres;simp only[zg,zb]at hres;obtain⟨u,hu,rfl,rfl⟩:=hres;refine⟨(Co N c D B).1,λw0 m w cargs J r H=>?_⟩;unfold Bz;rw[EP hfn hn hc];simp only;have hlen:args.length=cargs.size:=by rw[H.1];simp
    refine(callsIn_wide (n:=0)).1 (callsIn_of_wp_marks hfn hc trivial (EH V N c D B J r ⟨by simp[hlen],λi=>?_⟩ (Mk.nil m) (λm1 a1 w1 g1 g2 g3 g4=>?_) none (.inl rfl)))
    ·rw[F5,zo];simp only[zp];by_cases hi:i<args.length
     ·rw[List.getElem?_append_left hi,Array.getElem?_append_left (by omega)];rw[List.getElem?_eq_getElem hi,Array.getElem?_eq_getElem (by omega)];exact H.2 i _ _ (List.getElem?_eq_getElem hi) (by simp[<-hlen,hi])
     ·rw[List.getElem?_append_right (by omega),Array.getElem?_append_right (by omega)];rw[List.getElem?_replicate,Array.getElem?_replicate,hlen];split
      ·exact VR.Em m
      ·exact VR.Em m
    ·have fin:LeavesInM Fence.wide 0 C.P fn a1.tmps (λe w'=>∃v',e=.returned v'/\∃m':Aj,(m.ext h.size m')/\Rel C.P w0 m' h1 w'/\VR m' u v') a1.defers .returning w1:=by
      obtain⟨_,rs,e1,e2,e3⟩:=g4;rw[e1];refine Ji rs e2 m1 w1 g2 (λr hr=>(e3 r hr).1) λm2 w2 d1 d2 d3 d4=>?_;have hle:m1.le m2:=⟨λid E hE=>by rw[d1];exact hE,λg o v H=>by rw[d2];exact H⟩;obtain⟨v',q1,q2⟩:=Gy d4 (g3.mono hle) hu;exact⟨v',q1,v',rfl,m2,⟨λid hid=>by rw[d1];exact g1.i id hid,λg o v H=>by rw[d2];exact g1.fz g o v H,λg O=>d3 g (g1.df g O) λhm=>(e3 g hm).2 O⟩,d4,q2⟩
     rcases he with rfl|rfl
     ·exact fin
     ·exact fin
   split at L
   ·rename_i fr1 h1 B;exact main .normal fr1 h1 (.inl rfl) B L
   ·rename_i fr1 h1 B;exact main .ret fr1 h1 (.inr rfl) B L
   ·cases L
theorem On(N:FI C n S){g:Gd}{c:Code}{fr:Fr}{h:AB}{e:Br}{fr':Fr}{h':AB}(B:Hr C S g c fr h=some (e,fr',h')):Af g h h'/\fr'.length=fr.length:=by
 unfold Hr at B;split at B
 ·split at B
  ·split at B
   ·rename_i hs;split at B
    ·rename_i hr;simp only[za,zb]at B;obtain⟨_,rfl,rfl⟩:=B;obtain⟨k1,k2⟩:=EY N.sub _ hr;exact⟨(Mu hs).trans k1,by rw[k2,M8]⟩
    ·cases B
   ·cases B
  ·cases B
 ·cases B
theorem MR(N:FI C n S){f:FuncId}{g:Gd}:∀(c:Code),codeOk C f c=true->∀{fr:Fr} {h:AB} {e:Br} {fr':Fr} {h':AB},GY C S f g c fr h=some (e,fr',h')->Af g h h'/\fr'.length=fr.length:=by
 have base:∀(c:Code),codeOk C f c=true->∀{fr:Fr} {h:AB} {e:Br} {fr':Fr} {h':AB},(bif IC c then Hr C S g c fr h else Aa C S f g c fr h)=some (e,fr',h')->Af g h h'/\fr'.length=fr.length:=by
  intro c D fr h e fr' h' B;cases hs:IC c with
  |true=>rw[hs]at B;exact On N B
  |false=>rw[hs]at B;exact Co N c D B
 intro c
 induction c with
 | seq a b iha ihb=>
  intro D fr h e fr' h' B;simp only[codeOk,zf]at D;simp only[GY]at B;split at B
  ·rename_i fr1 h1 ha;obtain⟨k1,k2⟩:=iha D.1 ha;obtain⟨k3,k4⟩:=ihb D.2 B;exact⟨k1.trans k3,k4.trans k2⟩
  ·exact iha D.1 B
 |_=>intro D fr h e fr' h' B;simp only[GY]at B;exact base _ D B
theorem Oo(V:Fq C)(N:FI C n S){g:Gd}{c:Code}(hs:IC c=true){fr:Fr}{h:AB}{e:Br}{fr':Fr}{h':AB}(B:Hr C S g c fr h=some (e,fr',h'))
  {w0:World} {mS m:Aj} {w:World} {a:Act} {Q:Exit->Act->World->Prop} (J:Bk C.B6 w0) (r:Rel C.P w0 m h w) (G:FR m fr a) (I:Mk mS m a.defers) (M:Hg C.P w0 mS m h.size e fr' h' Q):UZ C.P c Q a w:=by
 cases c with
 | region id ops draw=>
  simp only[IC,zf,zx]at hs;obtain⟨rfl,hs⟩:=hs;split at hs
  ·rename_i o ho;split at hs
   ·rename_i cases0 bl hop;simp only[Hr]at B;have hol:∃rest,ops.toList=o::rest:=by
     cases U:ops.toList with
     |nil=>rw[<-Array.getElem?_toList,U]at ho;cases ho
     |cons o' rest=>
      rw[<-Array.getElem?_toList,U]at ho;simp only[List.getElem?_cons_zero,za]at ho;exact⟨rest,by rw[ho]⟩
    obtain⟨rest,hol⟩:=hol;rw[hol]at B;simp only at B;split at B
    ·rename_i v h1 hsel;split at B
     ·rename_i fr1 T hr;simp only[za,zb]at B;obtain⟨rfl,rfl,rfl⟩:=B;obtain⟨cases1,v',w',q1,q2,q3,q4⟩:=P1 r G hsel;have W:=Mu hsel;have hde:(a.put o.dst v').defers=a.defers:=by cases o.dst<;>rfl
      have hx0:∀m':Aj,m.ext h1.size m'->m.ext h.size m':=λm' g1=>(Aj.ext.refl m _).trans g1 W.1;have hr':=Ed N.sub J _ q3 (G.put o.dst q4) hr (Q:=Q) (ops:=ops) (λm' a' w' g1 g2 g3 g4=>M m' a' w' (hx0 m' g1) g2 g3 (by rw[g4,hde];exact I.ext (hx0 m' g1))) none;refine My ho ?_ q1 q2 ?_
      ·unfold Region.wanted;cases O:o.guard with
       |none=>rfl
       |some p=>rw[O]at hs;cases hs
      ·rw[hol,List.drop_one,List.tail_cons];exact hr'
     ·cases B
    ·cases B
   ·cases hs
  ·cases hs
 |_=>simp[IC]at hs
theorem Pk(V:Fq C)(N:FI C n S){f:FuncId}{g:Gd}:∀(c:Code),codeOk C f c=true->∀{fr:Fr} {h:AB} {e:Br} {fr':Fr} {h':AB},GY C S f g c fr h=some (e,fr',h')->
  ∀{w0:World} {mS m:Aj} {w:World} {a:Act} {Q:Exit->Act->World->Prop},Bk C.B6 w0->Rel C.P w0 m h w->FR m fr a->Mk mS m a.defers->Hg C.P w0 mS m h.size e fr' h' Q->UZ C.P c Q a w:=by
 have base:∀(c:Code),codeOk C f c=true->∀{fr:Fr} {h:AB} {e:Br} {fr':Fr} {h':AB},(bif IC c then Hr C S g c fr h else Aa C S f g c fr h)=some (e,fr',h')->
   ∀{w0:World} {mS m:Aj} {w:World} {a:Act} {Q:Exit->Act->World->Prop},Bk C.B6 w0->Rel C.P w0 m h w->FR m fr a->Mk mS m a.defers->Hg C.P w0 mS m h.size e fr' h' Q->UZ C.P c Q a w:=by
  intro c D fr h e fr' h' B w0 mS m w a Q J r G I M;cases hs:IC c with
  |true=>rw[hs]at B;exact Oo V N hs B J r G I M
  |false=>rw[hs]at B;exact Rj (wpIn_wide.1 (EH V N c D B J r G I M none (.inl rfl)))
 intro c
 induction c with
 | seq x y iha ihb=>
  intro D fr h e fr' h' B w0 mS m w a Q J r G I M;simp only[codeOk,zf]at D;simp only[GY]at B;split at B
  ·rename_i fr1 h1 ha;have W:=(MR N x D.1 ha).1;refine Qz (iha D.1 ha J r G I (λm1 a1 w1 g1 g2 g3 g4=>?_));exact ihb D.2 B J g2 g3 g4 (M.trans W.1 g1)
  ·rename_i Y;refine Qz (iha D.1 B J r G I (λm1 a1 w1 g1 g2 g3 g4=>?_));have Z:=M m1 a1 w1 g1 g2 g3 g4;cases e with
   |normal=>exact absurd B (Y _ _)
   |exit id=>exact Z
   |ret=>exact Z
 |_=>intro D fr h e fr' h' B;simp only[GY]at B;exact base _ D B
theorem PR(V:Fq C)(N:FI C n S){g:Gd}{h h':AB}{f:FuncId}{args:List AA}{v:AA}(W:C.kind f=8)(L:Ki C S g h f args=some (v,h')):
  Af g h h'/\∀w0 m w (cargs:Array Value),Bk C.B6 w0->Rel C.P w0 m h w->BT m args cargs.toList->Bz C.P f cargs w λv' w'=>∃m':Aj,(m.ext h.size m')/\Rel C.P w0 m' h' w'/\VR m' v v':=by
 unfold Ki at L;split at L
 ·cases L
 ·rename_i fn hfn;split at L
  ·cases L
  ·rename_i c hc;obtain⟨hn,D⟩:=V.code f fn c (by omega) hfn hc;have main:∀e fr1 h1,e=Br.normal\/e=Br.ret->GY C S f g c (args++List.replicate (fn.ntmps - args.length) (.tuple [])) h=some (e,fr1,h1)->(Cy C.P fn fr1 h1).map (·,h1)=some (v,h')->
     Af g h h'/\∀w0 m w (cargs:Array Value),Bk C.B6 w0->Rel C.P w0 m h w->BT m args cargs.toList->Bz C.P f cargs w λv' w'=>∃m':Aj,(m.ext h.size m')/\Rel C.P w0 m' h' w'/\VR m' v v':=by
    intro e fr1 h1 he B hres;simp only[zg,zb]at hres;obtain⟨u,hu,rfl,rfl⟩:=hres;refine⟨(MR N c D B).1,λw0 m w cargs J r H=>?_⟩;unfold Bz;rw[EP hfn hn hc];simp only;have hlen:args.length=cargs.size:=by rw[H.1];simp
    refine LC hfn hc (Pk V N c D B J r ⟨by simp[hlen],λi=>?_⟩ (Mk.nil m) (λm1 a1 w1 g1 g2 g3 g4=>?_))
    ·rw[F5,zo];simp only[zp];by_cases hi:i<args.length
     ·rw[List.getElem?_append_left hi,Array.getElem?_append_left (by omega)];rw[List.getElem?_eq_getElem hi,Array.getElem?_eq_getElem (by omega)];exact H.2 i _ _ (List.getElem?_eq_getElem hi) (by simp[<-hlen,hi])
     ·rw[List.getElem?_append_right (by omega),Array.getElem?_append_right (by omega)];rw[List.getElem?_replicate,Array.getElem?_replicate,hlen];split
      ·exact VR.Em m
      ·exact VR.Em m
    ·have fin:LeavesInM Fence.wide 0 C.P fn a1.tmps (λe w'=>∃v',e=.returned v'/\∃m':Aj,(m.ext h.size m')/\Rel C.P w0 m' h1 w'/\VR m' u v') a1.defers .returning w1:=by
      obtain⟨_,rs,e1,e2,e3⟩:=g4;rw[e1];refine Ji rs e2 m1 w1 g2 (λr hr=>(e3 r hr).1) λm2 w2 d1 d2 d3 d4=>?_;have hle:m1.le m2:=⟨λid E hE=>by rw[d1];exact hE,λg o v H=>by rw[d2];exact H⟩;obtain⟨v',q1,q2⟩:=Gy d4 (g3.mono hle) hu;exact⟨v',q1,v',rfl,m2,⟨λid hid=>by rw[d1];exact g1.i id hid,λg o v H=>by rw[d2];exact g1.fz g o v H,λg O=>d3 g (g1.df g O) λhm=>(e3 g hm).2 O⟩,d4,q2⟩
     rcases he with rfl|rfl
     ·exact fin
     ·exact fin
   split at L
   ·rename_i fr1 h1 B;exact main .normal fr1 h1 (.inl rfl) B L
   ·rename_i fr1 h1 B;exact main .ret fr1 h1 (.inr rfl) B L
   ·cases L
theorem Bz.mono{P:Program}{f:FuncId}{args:Array Value}{w:World}{Q Q':Value->World->Prop}(h:Bz P f args w Q)(Z:∀v w',Q v w'->Q' v w'):Bz P f args w Q':=by
 unfold Bz at *;split at h
 ·exact Z _ _ h
 ·exact h.mono λe w'' ⟨v,h1,T⟩=>⟨v,h1,Z _ _ T⟩
 ·exact h.elim
def N2(P:Program)(g:Gd)(f:AB->AA->Option (AA×AB)):Prop:=∀(h:AB) (v v':AA) (h':AB),f h v=some (v',h')->Af g h h'/\∀w0 (m:Aj) w u,Rel P w0 m h w->VR m v u->∃m':Aj,m.ext h.size m'/\Rel P w0 m' h' w/\VR m' v' u
theorem OP{P:Program}(g:Gd):N2 P g (HB g):=λh v v' h' G=>⟨Mw G,λw0 m w u r H=>Mx G w0 m w u r H⟩
theorem Lh{P:Program}{g:Gd}{f:AB->AA->Option (AA×AB)}(G:N2 P g f):∀(vs:List AA) (h:AB) (vs':List AA) (h':AB),KE f vs h=some (vs',h')->
  Af g h h'/\∀w0 (m:Aj) w us,Rel P w0 m h w->BT m vs us->∃m':Aj,m.ext h.size m'/\Rel P w0 m' h' w/\BT m' vs' us
 |[],h,vs',h',B=>by
  simp only[KE,za,zb]at B;obtain⟨rfl,rfl⟩:=B;exact⟨Af.refl _ _,λw0 m w us r H=>⟨m,Aj.ext.refl _ _,r,H⟩⟩
 | v::vs,h,vs',h',B=>by
  unfold KE at B;split at B
  ·rename_i v1 h1 h1e;simp only[zg,zb]at B;obtain⟨⟨l,T⟩,U,rfl,rfl⟩:=B;obtain⟨k1,q1⟩:=G h v v1 h1 h1e;obtain⟨k2,q2⟩:=Lh G vs h1 l T U;refine⟨k1.trans k2,λw0 m w us r H=>?_⟩;cases us with
   |nil=>simp[BT]at H
   |cons u us=>
    have hc:=H.2 0 v u rfl rfl;have hv':BT m vs us:=⟨by simpa using H.1,λi x y B hy=>H.2 (i+1) x y (by simpa using B) (by simpa using hy)⟩;obtain⟨m1,e1,e2,e3⟩:=q1 w0 m w u r hc;obtain⟨m2,g1,g2,g3⟩:=q2 w0 m1 w us e2 (hv'.mono (r.Kn e1));exact⟨m2,e1.trans g1 k1.1,g2,.cons (e3.mono (e2.Kn g1)) g3⟩
  ·cases B
theorem OS{P:Program}(g:Gd):N2 P g (MC g):=by
 intro h v v' h' G;unfold MC at G;split at G
 ·simp only[zg,zb]at G;obtain⟨⟨l,T⟩,U,rfl,rfl⟩:=G;obtain⟨k1,q1⟩:=Lh (OP g) _ h l T U;refine⟨k1,λw0 m w u r H=>?_⟩;obtain⟨c,rfl,vc⟩:=H.Cn;obtain⟨m1,e1,e2,e3⟩:=q1 w0 m w _ r vc;exact⟨m1,e1,e2,BT.agg e3⟩
 ·exact OP g h v v' h' G
theorem RG{P:Program}(g:Gd):N2 P g (ND g):=by
 intro h v v' h' G;unfold ND at G;split at G
 ·simp only[zg,zb]at G;obtain⟨⟨l,T⟩,U,rfl,rfl⟩:=G;obtain⟨k1,q1⟩:=Lh (OS g) _ h l T U;refine⟨k1,λw0 m w u r H=>?_⟩;obtain⟨c,rfl,vc⟩:=H.G8;obtain⟨m1,e1,e2,e3⟩:=q1 w0 m w _ r vc;exact⟨m1,e1,e2,BT.tuple e3⟩
 ·exact OS g h v v' h' G
theorem Qn{P:Program}(g:Gd):N2 P g (KJ g):=by
 intro h v v' h' G;unfold KJ at G;split at G
 ·rename_i id;split at G
  ·rename_i cs O;cases hm:g.may id with
   |false=>rw[hm]at G;cases G
   | true=>
    rw[hm]at G;simp only[zE,zg,zb]at G;obtain⟨⟨l,T⟩,U,rfl,rfl⟩:=G;obtain⟨k1,q1⟩:=Lh (OP g) _ _ l T U;refine⟨(Af.set O hm).trans k1,λw0 m w u r H=>?_⟩;cases H with
    | ptr _ _ E hE=>
     obtain⟨cur,r',hle',_,_,hcs⟩:=r.freeze hE O;have hus:BT (m.still E.g cur) cs ((List.range cs.length).map λi=>(cur[E.base+i]?).getD undef):=by
      refine⟨by simp,λi x y B hy=>?_⟩;have hi:i<cs.length:=(List.getElem?_eq_some_iff.1 B).1;obtain⟨c,h1,h3⟩:=hcs i x B;simp only[List.getElem?_map,List.getElem?_range hi,ze,za]at hy;rw[<-hy,h1];exact h3.mono hle'
     obtain⟨m2,e1,e2,e3⟩:=q1 w0 (m.still E.g cur) w _ r' hus;have hlen:l.length=cs.length:=by rw[e3.1];simp
     have e0:m.ext h.size (m.still E.g cur):=⟨λ_ _=>rfl,hle'.fz,λ_ h=>h⟩;refine⟨m2,e0.trans e1 (by simp),e2,.Bu _ _ l (λi=>(cur[E.base+i]?).getD undef) (λi hi=>e1.fz _ _ _ ?_) (λi x B=>?_)⟩
     ·obtain⟨c,h1,_⟩:=hcs i _ (List.getElem?_eq_getElem (by omega));simp[Aj.still,h1]
     ·have hi:i<cs.length:=by rw[<-hlen];exact(List.getElem?_eq_some_iff.1 B).1
      exact e3.2 i x _ B (by simp[hi])
  ·cases G
 ·exact OS g h v v' h' G
theorem Qt{P:Program}(g:Gd):N2 P g (Ox g):=by
 intro h v v' h' G;unfold Ox at G;split at G
 ·simp only[zg,zb]at G;obtain⟨⟨l,T⟩,U,rfl,rfl⟩:=G;obtain⟨k1,q1⟩:=Lh (Qn g) _ h l T U;refine⟨k1,λw0 m w u r H=>?_⟩;obtain⟨c,rfl,vc⟩:=H.G8;obtain⟨m1,e1,e2,e3⟩:=q1 w0 m w _ r vc;exact⟨m1,e1,e2,BT.tuple e3⟩
 ·exact Qn g h v v' h' G
theorem KK(V:Fq C)(N:FI C n S):E9 C.P C.B6 (Ej C S):=by
 intro g h f args v h' hc;unfold Ej at hc;split at hc
 ·rename_i W;obtain⟨k1,k2⟩:=El V N (.inl W) hc;exact⟨k1,λw0 m w cargs J r H=>k2 w0 m w cargs J r (H.C1 _)⟩
 ·rename_i W;split at hc
  ·rename_i u h1 L;obtain⟨k1,k2⟩:=El V N (.inr (.inl W)) L;cases hfl:Fo u with
   |false=>rw[hfl]at hc;cases hc
   | true=>
    rw[hfl]at hc;simp only[zE,za,zb]at hc;obtain⟨rfl,rfl⟩:=hc;refine⟨Af.refl _ _,λw0 m w cargs J r H=>(k2 w0 m w cargs J r H).mono λv' w' ⟨m',g1,g2,g3⟩=>?_⟩;refine⟨m.with m',Aj.Si g1 _,r.back g1 (λid hid=>k1.2 id hid ?_) g2,g3.Fo hfl⟩;have:Nat.ble h.size id=false:=by
     cases L:Nat.ble h.size id with
     |false=>rfl
     |true=>have:=zj L;omega
    simp[Gd.may,this]
  ·cases hc
 ·rename_i W;have:=V.ext f W g h f args v h' (by simpa using hc);exact this
 ·rename_i W;cases hfa:args.all D2 with
  |false=>rw[hfa]at hc;cases hc
  | true=>
   rw[hfa]at hc;simp only[zE]at hc;split at hc
   ·rename_i u h1 L;obtain⟨k1,k2⟩:=El V N (by omega) L;cases hfl:Fo u with
    |false=>rw[hfl]at hc;cases hc
    |true=>
     rw[hfl]at hc;simp only[zE,za,zb]at hc;obtain⟨rfl,rfl⟩:=hc;refine⟨Af.refl _ _,λw0 m w cargs J r H=>?_⟩;have hv0:BT ⟨λ_=>none,λ_ _=>none,λ_=>False⟩ args cargs.toList:=⟨H.1,λi x y B hy=>(H.2 i x y B hy).D2 (zC.1 hfa x (zI B))⟩;have r0:Rel C.P w ⟨λ_=>none,λ_ _=>none,λ_=>False⟩ ⟨0,.leaf⟩ w:=⟨Below.refl _ _,λid E hE=>by simp at hE,λid E o hE=>by simp at hE,λid E o hE=>by simp at hE,λid id' E E' o o' _ hE=>by simp at hE,λg o v H=>(by cases H),λid E o hE=>(by simp at hE),λg O=>O.elim,λid E o hE=>by simp at hE⟩;refine(k2 w _ w cargs (J.later r.below) r0 hv0).mono λv' w' ⟨m',g1,g2,g3⟩=>⟨m,Aj.ext.refl _ _,r.later g2.below,g3.Fo hfl⟩
   ·cases hc
  done
 ·rename_i W;split at hc
  ·rename_i u h1 L;obtain⟨k1,k2⟩:=El V N (by omega) L;refine⟨k1.trans (RG (P:=C.P) g h1 u v h' hc).1,λw0 m w cargs J r H=>(k2 w0 m w cargs J r (H.C1 _)).mono λv' w' ⟨m',g1,g2,g3⟩=>?_⟩;obtain⟨m2,e1,e2,e3⟩:=(RG (P:=C.P) g h1 u v h' hc).2 _ m' w' v' g2 g3;exact⟨m2,g1.trans e1 k1.1,e2,e3⟩
  ·cases hc
 ·rename_i W;obtain⟨k1,k2⟩:=PR V N W hc;exact⟨k1,λw0 m w cargs J r H=>k2 w0 m w cargs J r (H.C1 _)⟩
 ·rename_i W;split at hc
  ·rename_i u h1 L;obtain⟨k1,k2⟩:=El V N (by omega) L;refine⟨k1.trans (Qt (P:=C.P) g h1 u v h' hc).1,λw0 m w cargs J r H=>(k2 w0 m w cargs J r (H.C1 _)).mono λv' w' ⟨m',g1,g2,g3⟩=>?_⟩;obtain⟨m2,e1,e2,e3⟩:=(Qt (P:=C.P) g h1 u v h' hc).2 _ m' w' v' g2 g3;exact⟨m2,g1.trans e1 k1.1,e2,e3⟩
  ·cases hc
 ·cases hc
theorem KP(V:Fq C):∀n,FI C n (Bm C n)
 |0=>⟨⟨λg h f args v h' hc=>by simp[Bm]at hc,λg h l args v h' hc=>by simp[Bm]at hc⟩,λg f c fr h e fr' h' _ B=>by simp[Bm]at B,λg f c fr h e fr' h' _ B=>by simp[Bm]at B⟩
 |n+1=>by
  have ih:=KP V n;refine⟨⟨KK V ih,Ol V ih⟩,λg f c fr h e fr' h' D B=>?_,λg f c fr h e fr' h' D B w0 mS m w a Q J r G I M rd K=>?_⟩
  ·exact Co ih (.loop c) (by simpa[codeOk]using D) B
  ·exact Jd V ih D B J r G I M rd K
theorem LB(V:Fq C){n:Nat}{g:Gd}{h h':AB}{f:FuncId}{args:List AA}{v:AA}(hr:TZ C n g h f args=some (v,h')){w0:World}{m:Aj}{w:World}{cargs:Array Value}(J:Bk C.B6 w0)(r:Rel C.P w0 m h w)(H:BT m args cargs.toList):
  Bz C.P f cargs w λv' w'=>∃m':Aj,(m.ext h.size m')/\Rel C.P w0 m' h' w'/\VR m' v v':=
 ((KP V n).sub.call g h f args v h' hr).2 w0 m w cargs J r H
theorem QQ (V:Fq C) {n:Nat} {g:Gd} {h h':AB} {f:FuncId} {args:List AA} {v:AA} (hr:TZ C n g h f args=some (v,h')) {fn:Func} {c:Code} (hfn:C.P.funcs[f]?=some fn) (hn:(fn.name=="runtime.NumGoroutine")=false) (L:fn.body=some c)
  {w0:World} {m:Aj} {w:World} {cargs:Array Value} (J:Bk C.B6 w0) (r:Rel C.P w0 m h w) (H:BT m args cargs.toList):
  Calls C.P f cargs w λe w'=>∃v',e=.returned v'/\∃m':Aj,(m.ext h.size m')/\Rel C.P w0 m' h' w'/\VR m' v v':=by
 have:=LB V hr J r H;unfold Bz at this;rw[EP hfn hn L]at this;exact this
end
end Go.Av
