/-
 A part.
-/
import Derived.Test.YtfgmnhjedmkpeaaAbsDraw
import Derived.LoopN
import Derived.Scope
set_option linter.unusedSimpArgs false
namespace Go.Abs
open Go.RowKit
def codeOk(C:Gf)(f:FuncId):Code->Bool
 | .region id ops draw=> !draw||J4 C.P ops (C.Ky f id)
 | .seq a b=>codeOk C f a&&codeOk C f b
 | .cond _ a b=>codeOk C f a&&codeOk C f b
 | .block _ c=>codeOk C f c
 | .loop c=>codeOk C f c
 | .scope c=>codeOk C f c
 |_=>true
structure Ie(C:Gf):Prop where
 mix:C.P.follows .mixedOrders=true
 code:∀f fn c,(C.kind f=1\/C.kind f=2\/C.kind f=4)->C.P.funcs[f]?=some fn->fn.body=some c->(fn.name=="runtime.NumGoroutine")=false/\codeOk C f c=true
 ext:∀f,C.kind f=3->GH C.P C.C4 λg h f' args=>if f'=f then C.ext f g h args else none
def DF.to:DF->Exit
 | .normal=>.normal
 | .exit id=>.exit id
 | .ret=>.ret
def Ks(P:Program)(w0:World)(m:BU)(n:Nat)(d:List Deferred)(e:DF)(fr':Fr)(h':AE)(Q:Exit->Act->World->Prop):Prop:=
 ∀m' a' w',(∀id,id<n->m' id=m id)->Rel P w0 m' h' w'->FR m' fr' a'->a'.defers=d->Q e.to a' w'
structure Ik(C:Gf)(n:Nat)(S:Self):Prop where
 call:GH C.P C.C4 S.call
 keeps:∀g f c fr h e fr' h',codeOk C f c=true->S.loop g f c fr h=some (e,fr',h')->BT g h h'/\fr'.length=fr.length
 loop:∀g f c fr h e fr' h',codeOk C f c=true->S.loop g f c fr h=some (e,fr',h')->∀w0 m w a Q,CL C.C4 w0->Rel C.P w0 m h w->FR m fr a->Ks C.P w0 m h.size a.defers e fr' h' Q->Code.rounds C.P c Q n a w
section
variable {C:Gf} {S:Self} {n:Nat}
theorem En(J:Ik C n S){f:FuncId}{g:Gd}:∀(c:Code),codeOk C f c=true->∀{fr:Fr} {h:AE} {e:DF} {fr':Fr} {h':AE},BF C S f g c fr h=some (e,fr',h')->BT g h h'/\fr'.length=fr.length:=by
 intro c
 induction c with
 |skip=>intro _ fr h e fr' h' B;simp only[BF,qU,qW]at B;obtain⟨_,rfl,rfl⟩:=B;exact⟨BT.refl _ _,rfl⟩
 |label l=>intro _ fr h e fr' h' B;simp only[BF,qU,qW]at B;obtain⟨_,rfl,rfl⟩:=B;exact⟨BT.refl _ _,rfl⟩
 |exit id=>intro _ fr h e fr' h' B;simp only[BF,qU,qW]at B;obtain⟨_,rfl,rfl⟩:=B;exact⟨BT.refl _ _,rfl⟩
 |ret=>intro _ fr h e fr' h' B;simp only[BF,qU,qW]at B;obtain⟨_,rfl,rfl⟩:=B;exact⟨BT.refl _ _,rfl⟩
 |goto l=>intro _ fr h e fr' h' B;simp[BF]at B
 |refuse s=>intro _ fr h e fr' h' B;simp[BF]at B
 |rangeFunc f ps a b iha ihb=>intro _ fr h e fr' h' B;simp[BF]at B
 | region id ops draw=>
  intro D fr h e fr' h' B;simp only[BF]at B;cases draw with
  | true=>
   simp only[xr]at B;split at B
   ·rename_i fr1 h1 W;simp only[qU,qW]at B;obtain⟨_,rfl,rfl⟩:=B;exact KZ (by simpa[codeOk]using D) J.call W
   ·cases B
  | false=>
   simp only[xB]at B;split at B
   ·rename_i fr1 h1 W;simp only[qU,qW]at B;obtain⟨_,rfl,rfl⟩:=B;exact Gg J.call _ W
   ·cases B
 | seq a b iha ihb=>
  intro D fr h e fr' h' B;simp only[codeOk,xa]at D;simp only[BF]at B;split at B
  ·rename_i fr1 h1 R;obtain⟨k1,k2⟩:=iha D.1 R;obtain⟨k3,k4⟩:=ihb D.2 B;exact⟨k1.trans k3,k4.trans k2⟩
  ·exact iha D.1 B
 |cond c a b iha ihb=>
  intro D fr h e fr' h' B;simp only[codeOk,xa]at D;simp only[BF]at B;split at B
  ·exact iha D.1 B
  ·exact ihb D.2 B
  ·cases B
 | block id c ih=>
  intro D fr h e fr' h' B;simp only[codeOk]at D;simp only[BF]at B;split at B
  ·rename_i i fr1 h1 R;have M:=ih D R;cases I:Nat.beq i id<;>rw[I]at B<;>simp only[xr,xB,qU,qW]at B<;>obtain⟨_,rfl,rfl⟩:=B<;>exact M
  ·exact ih D B
 | loop c ih=>
  intro D fr h e fr' h' B;simp only[codeOk]at D;simp only[BF]at B;split at B
  ·rename_i fr1 h1 R;obtain⟨k1,k2⟩:=ih D R;obtain⟨k3,k4⟩:=J.keeps g f c fr1 h1 e fr' h' D B;exact⟨k1.trans k3,k4.trans k2⟩
  ·exact ih D B
 |scope c ih=>intro D fr h e fr' h' B;simp only[codeOk]at D;simp only[BF]at B;exact ih D B
theorem Ks.trans{P:Program}{w0:World}{m m1:BU}{k k1:Nat}{d d1:List Deferred}{e:DF}{fr':Fr}{h':AE}{Q:Exit->Act->World->Prop}(H:Ks P w0 m k d e fr' h' Q)(M:k<=k1)(h1:∀id,id<k->m1 id=m id)(hd:d1=d):Ks P w0 m1 k1 d1 e fr' h' Q:=
 λm' a' w' g1 g2 g3 g4=>H m' a' w' (λid hid=>(g1 id (xe hid M)).trans (h1 id hid)) g2 g3 (g4.trans hd)
theorem HF(O:Ie C)(J:Ik C n S){f:FuncId}{g:Gd}:∀(c:Code),codeOk C f c=true->∀{fr:Fr} {h:AE} {e:DF} {fr':Fr} {h':AE},BF C S f g c fr h=some (e,fr',h')->
  ∀{w0:World} {m:BU} {w:World} {a:Act} {Q:Exit->Act->World->Prop},CL C.C4 w0->Rel C.P w0 m h w->FR m fr a->Ks C.P w0 m h.size a.defers e fr' h' Q->c.wp C.P Q a w:=by
 intro c
 induction c with
 |skip=>intro _ fr h e fr' h' B w0 m w a Q G r F H;simp only[BF,qU,qW]at B;obtain⟨rfl,rfl,rfl⟩:=B;exact wp_skip (H m a w (λ_ _=>rfl) r F rfl)
 |label l=>intro _ fr h e fr' h' B w0 m w a Q G r F H;simp only[BF,qU,qW]at B;obtain⟨rfl,rfl,rfl⟩:=B;exact wp_label (H m a w (λ_ _=>rfl) r F rfl)
 |exit id=>intro _ fr h e fr' h' B w0 m w a Q G r F H;simp only[BF,qU,qW]at B;obtain⟨rfl,rfl,rfl⟩:=B;exact wp_exit (H m a w (λ_ _=>rfl) r F rfl)
 |ret=>intro _ fr h e fr' h' B w0 m w a Q G r F H;simp only[BF,qU,qW]at B;obtain⟨rfl,rfl,rfl⟩:=B;exact wp_ret (H m a w (λ_ _=>rfl) r F rfl)
 |goto l=>intro _ fr h e fr' h' B;simp[BF]at B
 |refuse s=>intro _ fr h e fr' h' B;simp[BF]at B
 |rangeFunc f ps a b iha ihb=>intro _ fr h e fr' h' B;simp[BF]at B
 | region id ops draw=>
  intro D fr h e fr' h' B w0 m w a Q G r F H;simp only[BF]at B;cases draw with
  | true=>
   simp only[xr]at B;split at B
   ·rename_i fr1 h1 W;simp only[qU,qW]at B;obtain⟨rfl,rfl,rfl⟩:=B;exact KV O.mix (by simpa[codeOk]using D) J.call G r F W H
   ·cases B
  | false=>
   simp only[xB]at B;split at B
   ·rename_i fr1 h1 W;simp only[qU,qW]at B;obtain⟨rfl,rfl,rfl⟩:=B;exact wp_region_list (Ge J.call G _ r F W H)
   ·cases B
 | seq x y iha ihb=>
  intro D fr h e fr' h' B w0 m w a Q G r F H;simp only[codeOk,xa]at D;simp only[BF]at B;split at B
  ·rename_i fr1 h1 R;have M:=(En J x D.1 R).1;refine wp_seq (iha D.1 R G r F λm1 a1 w1 g1 g2 g3 g4=>?_);exact ihb D.2 B G g2 g3 (H.trans M.1 g1 g4)
  ·rename_i L;refine wp_seq (iha D.1 B G r F λm1 a1 w1 g1 g2 g3 g4=>?_);have N:=H m1 a1 w1 g1 g2 g3 g4;cases e with
   |normal=>exact absurd B (L _ _)
   |exit id=>exact N
   |ret=>exact N
 |cond c x y iha ihb=>
  intro D fr h e fr' h' B w0 m w a Q G r F H;simp only[codeOk,xa]at D;simp only[BF]at B;have K:=F.ev c;split at B
  ·rename_i hc;rw[hc]at K;exact wp_cond_true K.Gl (iha D.1 B G r F H)
  ·rename_i hc;rw[hc]at K;exact wp_cond_false K.Gl (ihb D.2 B G r F H)
  ·cases B
 | block id c ih=>
  intro D fr h e fr' h' B w0 m w a Q G r F H;simp only[codeOk]at D;simp only[BF]at B;split at B
  ·rename_i i fr1 h1 R;refine wp_block (ih D R G r F λm1 a1 w1 g1 g2 g3 g4=>?_);show(if i=id then Q .normal a1 w1 else Q (.exit i) a1 w1);cases I:Nat.beq i id with
   |true=>
    rw[I]at B;simp only[xr,qU,qW]at B;obtain⟨rfl,rfl,rfl⟩:=B;rw[xf (xu I)];exact H m1 a1 w1 g1 g2 g3 g4
   |false=>
    rw[I]at B;simp only[xB,qU,qW]at B;obtain⟨rfl,rfl,rfl⟩:=B;rw[xd (λe=>by rw[e,wg]at I;cases I)];exact H m1 a1 w1 g1 g2 g3 g4
  ·rename_i L;refine wp_block (ih D B G r F λm1 a1 w1 g1 g2 g3 g4=>?_);have N:=H m1 a1 w1 g1 g2 g3 g4;cases e with
   |normal=>exact N
   |exit i=>exact absurd B (L _ _ _)
   |ret=>exact N
 | loop c ih=>
  intro D fr h e fr' h' B w0 m w a Q G r F H;simp only[codeOk]at D;simp only[BF]at B;refine wp_loop_rounds (n+1) ?_;rw[rounds_succ];split at B
  ·rename_i fr1 h1 R;have M:=(En J c D R).1;refine ih D R G r F λm1 a1 w1 g1 g2 g3 g4=>?_;exact J.loop g f c fr1 h1 e fr' h' D B w0 m1 w1 a1 Q G g2 g3 (H.trans M.1 g1 g4)
  ·rename_i L;refine ih D B G r F λm1 a1 w1 g1 g2 g3 g4=>?_;have N:=H m1 a1 w1 g1 g2 g3 g4;cases e with
   |normal=>exact absurd B (L _ _)
   |exit id=>exact N
   |ret=>exact N
 |scope c ih=>
  intro D fr h e fr' h' B w0 m w a Q G r F H;simp only[codeOk]at D;simp only[BF]at B;refine wp_scope_straight (ih D B G r F λm1 a1 w1 g1 g2 g3 g4=>?_);have N:=H m1 a1 w1 g1 g2 g3 g4;cases e<;>exact N
theorem Lk(O:Ie C)(J:Ik C n S){f:FuncId}{g:Gd}{c:Code}(D:codeOk C f c=true){fr:Fr}{h:AE}{e:DF}{fr':Fr}{h':AE}(B:BF C S f g (.loop c) fr h=some (e,fr',h'))
  {w0:World} {m:BU} {w:World} {a:Act} {Q:Exit->Act->World->Prop} (G:CL C.C4 w0) (r:Rel C.P w0 m h w) (F:FR m fr a) (H:Ks C.P w0 m h.size a.defers e fr' h' Q):Code.rounds C.P c Q (n+1) a w:=by
 simp only[BF]at B;rw[rounds_succ];split at B
 ·rename_i fr1 h1 R;have M:=(En J c D R).1;refine HF O J c D R G r F λm1 a1 w1 g1 g2 g3 g4=>?_;exact J.loop g f c fr1 h1 e fr' h' D B w0 m1 w1 a1 Q G g2 g3 (H.trans M.1 g1 g4)
 ·rename_i L;refine HF O J c D B G r F λm1 a1 w1 g1 g2 g3 g4=>?_;have N:=H m1 a1 w1 g1 g2 g3 g4;cases e with
  |normal=>exact absurd B (L _ _)
  |exit id=>exact N
  |ret=>exact N
theorem Ke{P:Program}{w0:World}{m:BU}{h:AE}{w:World}(r:Rel P w0 m h w){fr:Fr}{a:Act}(F:FR m fr a){x:ResultVar}{v:AD}(B:Fb P fr h x=some v):
  ∃v',(match x with| .tmp t=>pure (a.tmps.getD t undef)| .cell c t=>do loadVar t (<-asAddr (a.tmps.getD c undef)):Sem Value).run P w=.ok v' w/\VR m v v':=by
 cases x with
 |tmp t=>simp only[Fb,qU]at B;subst B;exact⟨_,rfl,F.2 t⟩
 | cell c t=>
  simp only[Fb]at B;split at B
  ·rename_i id o hc;have K:=F.2 c;rw[hc]at K;generalize N:a.tmps.getD c undef=q at K;cases K with
   |ptr _ _ E hE=>
    obtain⟨v',h1,T⟩:=HC r hE B;exact⟨v',by simp[N,asAddr,h1],T⟩
  ·cases B
theorem Ih{P:Program}{w0:World}{m:BU}{h:AE}{w:World}(r:Rel P w0 m h w){fr:Fr}{a:Act}(F:FR m fr a):∀(l:List ResultVar) (vs:List AD),l.mapM (Fb P fr h)=some vs->
  ∃vs',(l.mapM (fun| .tmp t=>pure (a.tmps.getD t undef)| .cell c t=>do loadVar t (<-asAddr (a.tmps.getD c undef)):ResultVar->Sem Value)).run P w=.ok vs' w/\B5 m vs vs'
 |[],vs,V=>by simp at V;subst V;exact⟨[],by simp,.nil m⟩
 |x::l,vs,V=>by
  rw[List.mapM_cons]at V;simp only[bind,Option.bind_eq_some_iff,pure,qU]at V;obtain⟨v,K,us,Y,rfl⟩:=V;obtain⟨v',h1,T⟩:=Ke r F K;obtain⟨us',h3,h4⟩:=Ih r F l us Y;refine⟨v'::us',?_,.cons T h4⟩;rw[List.mapM_cons];simp only[Sem.run_bind];cases x<;>simp only at h1<;>rw[h1]<;>simp only[Result.andThen_ok,h3,Sem.run_pure]
theorem J0{P:Program}{w0:World}{m:BU}{h:AE}{w:World}(r:Rel P w0 m h w){fn:Func}{fr:Fr}{a:Act}(F:FR m fr a){v:AD}(B:FY P fn fr h=some v):
  ∃v',(results fn a.tmps).run P w=.ok v' w/\VR m v v':=by
 unfold FY at B;have key:∀vs,fn.results.toList.mapM (Fb P fr h)=some vs->∃vs',(results fn a.tmps).run P w=.ok (if hh:vs'.length=1 then vs'[0]else .tuple vs'.toArray) w/\B5 m vs vs':=by
  intro vs hvs;obtain⟨vs',h1,T⟩:=Ih r F _ _ hvs;refine⟨vs',?_,T⟩;unfold results;rw[Array.mapM_eq_mapM_toList];simp only[Sem.run_bind,Sem.run_map]
  erw [h1]
  simp
 split at B
 ·rename_i u hu;injection B with B;subst B;obtain⟨vs',h1,T⟩:=key _ hu;have V:vs'.length=1:=by rw[<-T.1];rfl
  rw[dif_pos V]at h1;exact⟨_,h1,T.2 0 u _ rfl (by simp[V])⟩
 ·rename_i us L Y;injection B with B;subst B;obtain⟨vs',h1,T⟩:=key _ Y;have V:¬vs'.length=1:=by
   rw[<-T.1];intro V
   match us,V with
   |[u],_=>exact L u rfl
  rw[dif_neg V]at h1;exact⟨_,h1,B5.tuple (by simpa using T)⟩
 ·cases B
theorem IY {P:Program} {f:FuncId} {fn:Func} {c:Code} (F:P.funcs[f]?=some fn) (hn:(fn.name=="runtime.NumGoroutine")=false) (I:fn.body=some c) (args:Array Value) (w:World):
  (callFunc f args).run P w=.ok (.enter f args) w:=by
 unfold callFunc;simp only[Sem.run_bind,program,Sem.run,Result.andThen_ok,F];simp[hn,I]
theorem HD(O:Ie C)(J:Ik C n S){g:Gd}{h h':AE}{f:FuncId}{args:List AD}{v:AD}(M:C.kind f=1\/C.kind f=2\/C.kind f=4)(I:Gk C S g h f args=some (v,h')):
  BT g h h'/\∀w0 m w (cargs:Array Value),CL C.C4 w0->Rel C.P w0 m h w->B5 m args cargs.toList->Cl C.P f cargs w λv' w'=>∃m':BU,(∀id,id<h.size->m' id=m id)/\Rel C.P w0 m' h' w'/\VR m' v v':=by
 unfold Gk at I;split at I
 ·cases I
 ·rename_i fn Z;split at I
  ·cases I
  ·rename_i c hc;obtain⟨hn,D⟩:=O.code f fn c M Z hc;have main:∀e fr1 h1,e=DF.normal\/e=DF.ret->BF C S f g c (args++List.replicate (fn.ntmps - args.length) (.tuple [])) h=some (e,fr1,h1)->(FY C.P fn fr1 h1).map (·,h1)=some (v,h')->
     BT g h h'/\∀w0 m w (cargs:Array Value),CL C.C4 w0->Rel C.P w0 m h w->B5 m args cargs.toList->Cl C.P f cargs w λv' w'=>∃m':BU,(∀id,id<h.size->m' id=m id)/\Rel C.P w0 m' h' w'/\VR m' v v':=by
    intro e fr1 h1 he B X;simp only[qX,qW]at X;obtain⟨u,hu,rfl,rfl⟩:=X;refine⟨(En J c D B).1,λw0 m w cargs G r K=>?_⟩;unfold Cl;rw[IY Z hn hc];simp only;have hlen:args.length=cargs.size:=by rw[K.1];simp
    refine calls_of_wp Z hc (HF O J c D B G r ⟨by simp[hlen],λi=>?_⟩ λm1 a1 w1 g1 g2 g3 g4=>?_)
    ·rw[H0,qY];simp only[qZ];by_cases hi:i<args.length
     ·rw[List.getElem?_append_left hi,Array.getElem?_append_left (by omega)];rw[List.getElem?_eq_getElem hi,Array.getElem?_eq_getElem (by omega)];exact K.2 i _ _ (List.getElem?_eq_getElem hi) (by simp[<-hlen,hi])
     ·rw[List.getElem?_append_right (by omega),Array.getElem?_append_right (by omega)];rw[List.getElem?_replicate,Array.getElem?_replicate,hlen];split
      ·exact VR.Hf m
      ·exact VR.Hf m
    ·obtain⟨v',h1,T⟩:=J0 g2 g3 hu;rcases he with rfl|rfl
     ·exact⟨g4,v',h1,v',rfl,m1,g1,g2,T⟩
     ·exact⟨g4,v',h1,v',rfl,m1,g1,g2,T⟩
   split at I
   ·rename_i fr1 h1 B;exact main .normal fr1 h1 (.inl rfl) B I
   ·rename_i fr1 h1 B;exact main .ret fr1 h1 (.inr rfl) B I
   ·cases I
theorem Cl.mono{P:Program}{f:FuncId}{args:Array Value}{w:World}{Q Q':Value->World->Prop}(h:Cl P f args w Q)(N:∀v w',Q v w'->Q' v w'):Cl P f args w Q':=by
 unfold Cl at *;split at h
 ·exact N _ _ h
 ·exact h.mono λe w'' ⟨v,h1,T⟩=>⟨v,h1,N _ _ T⟩
 ·exact h.elim
theorem L5(O:Ie C)(J:Ik C n S):GH C.P C.C4 (HT C S):=by
 intro g h f args v h' hc;unfold HT at hc;split at hc
 ·rename_i M;exact HD O J (.inl M) hc
 ·rename_i M;split at hc
  ·rename_i u h1 I;obtain⟨k1,k2⟩:=HD O J (.inr (.inl M)) I;cases U:MX u with
   |false=>rw[U]at hc;cases hc
   | true=>
    rw[U]at hc;simp only[xr,qU,qW]at hc;obtain⟨rfl,rfl⟩:=hc;refine⟨BT.refl _ _,λw0 m w cargs G r K=>(k2 w0 m w cargs G r K).mono λv' w' ⟨m',g1,g2,g3⟩=>?_⟩;refine⟨m,λ_ _=>rfl,r.back g1 (λid hid=>k1.2 id hid ?_) g2,g3.MX U⟩;have:Nat.ble h.size id=false:=by
     cases I:Nat.ble h.size id with
     |false=>rfl
     |true=>have:=Nat.le_of_ble_eq_true I;omega
    simp[Gd.may,this]
  ·cases hc
 ·rename_i M;have:=O.ext f M g h f args v h' (by simpa using hc);exact this
 ·rename_i M;cases hfa:args.all HS with
  |false=>rw[hfa]at hc;cases hc
  | true=>
   rw[hfa]at hc;simp only[xr]at hc;split at hc
   ·rename_i u h1 I;obtain⟨k1,k2⟩:=HD O J (.inr (.inr M)) I;cases U:MX u with
    |false=>rw[U]at hc;cases hc
    |true=>
     rw[U]at hc;simp only[xr,qU,qW]at hc;obtain⟨rfl,rfl⟩:=hc;refine⟨BT.refl _ _,λw0 m w cargs G r K=>?_⟩;have hv0:B5 (λ_=>none) args cargs.toList:=⟨K.1,λi x y B hy=>(K.2 i x y B hy).HS (xg.1 hfa x (q9 B))⟩;have r0:Rel C.P w (λ_=>none) ⟨0,.leaf⟩ w:=⟨Below.refl _ _,λid E hE=>by simp at hE,λid E o hE=>by simp at hE,λid E o hE=>by simp at hE,λid id' E E' o o' _ hE=>by simp at hE⟩;refine(k2 w _ w cargs (G.later r.below) r0 hv0).mono λv' w' ⟨m',g1,g2,g3⟩=>⟨m,λ_ _=>rfl,r.later g2.below,g3.MX U⟩
   ·cases hc
  done
 ·cases hc
theorem L9(O:Ie C):∀n,Ik C n (CV C n)
 |0=>⟨λg h f args v h' hc=>by simp[CV]at hc,λg f c fr h e fr' h' _ B=>by simp[CV]at B,λg f c fr h e fr' h' _ B=>by simp[CV]at B⟩
 |n+1=>by
  have ih:=L9 O n;refine⟨L5 O ih,λg f c fr h e fr' h' D B=>?_,λg f c fr h e fr' h' D B w0 m w a Q G r F H=>?_⟩
  ·exact En ih (.loop c) (by simpa[codeOk]using D) B
  ·exact Lk O ih D B G r F H
theorem NJ(O:Ie C){n:Nat}{g:Gd}{h h':AE}{f:FuncId}{args:List AD}{v:AD}(W:Td C n g h f args=some (v,h')){w0:World}{m:BU}{w:World}{cargs:Array Value}(G:CL C.C4 w0)(r:Rel C.P w0 m h w)(K:B5 m args cargs.toList):
  Cl C.P f cargs w λv' w'=>∃m':BU,(∀id,id<h.size->m' id=m id)/\Rel C.P w0 m' h' w'/\VR m' v v':=
 ((L9 O n).call g h f args v h' W).2 w0 m w cargs G r K
end
end Go.Abs
