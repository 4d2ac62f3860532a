/-
 A part.
-/
import Derived.Test.YtgkbpgefomapgaaGreatDoorAvDraw
import Derived.Test.YtgkbpgefomapgaaGreatDoorAvSelW
import Derived.RangeFuncRecord
namespace Go.Av
set_option linter.unusedVariables false
set_option linter.unusedSimpArgs false
open Go.RowKit
def codeOk(C:J8)(f:FuncId):Code->Bool
 | .region id ops draw=> !draw||QN C.P ops (C.NC f id)
 | .seq a b=>codeOk C f a&&codeOk C f b
 | .cond _ a b=>codeOk C f a&&codeOk C f b
 | .block _ c=>codeOk C f c
 | .loop c=>codeOk C f c
 | .scope c=>codeOk C f c
 | .rangeFunc _ _ a b=>codeOk C f a&&codeOk C f b
 |_=>true
def Jw:Code->Bool
 | .seq a b=>Jw a&&Jw b
 | .cond _ a b=>Jw a&&Jw b
 | .block _ c=>Jw c
 | .loop c=>Jw c
 | .scope c=>Jw c
 | .rangeFunc .. =>false
 |_=>true
structure NN(C:J8):Prop where
 mix:C.P.follows .mixedOrders=true
 code:∀f fn c,(C.kind f=1\/C.kind f=2\/C.kind f=4\/C.kind f=7\/C.kind f=8\/C.kind f=9)->C.P.funcs[f]?=some fn->fn.body=some c->(fn.name=="runtime.NumGoroutine")=false/\codeOk C f c=true
 bM:∀f a b,C.bM f a b=true->codeOk C f a=true/\codeOk C f b=true/\Jw a=true/\Jw b=true
 ext:∀f,C.kind f=3->Sg C.P C.GZ λg h f' args=>if f'=f then C.ext f g h args else none
def HV.to:HV->Exit
 | .normal=>.normal
 | .exit id=>.exit id
 | .ret=>.ret
def mark(r:Nat):Deferred:={target:=.collected r,args:=#[]}
def Mk(mS m:CU)(ds:List Deferred):Prop:=(∀g,mS.df g->m.df g)/\∃rs:List Nat,ds=rs.map mark/\rs.Nodup/\∀r∈rs,m.df r/\¬mS.df r
theorem Mk.nil(m:CU):Mk m m []:=⟨λ_ h=>h,[],rfl,List.nodup_nil,λr h=>by cases h⟩
theorem Mk.ext{mS m m':CU}{n:Nat}{ds:List Deferred}(h:Mk mS m ds)(k:m.ext n m'):Mk mS m' ds:=by
 obtain⟨h1,rs,N,h3,h4⟩:=h;exact⟨λg Y=>k.df g (h1 g Y),rs,N,h3,λr X=>⟨k.df r (h4 r X).1,(h4 r X).2⟩⟩
def Ra(P:Program)(w0:World)(mS m:CU)(n:Nat)(e:HV)(fr':Fr)(h':AS)(Q:Exit->Act->World->Prop):Prop:=
 ∀m' a' w',(m.ext n m')->Rel P w0 m' h' w'->FR m' fr' a'->Mk mS m' a'.defers->Q e.to a' w'
structure PM(C:J8)(n:Nat)(S:Self):Prop where
 sub:Kv C.P C.GZ S
 keeps:∀g f c fr h e fr' h',codeOk C f c=true->S.loop g f c fr h=some (e,fr',h')->CT g h h'/\fr'.length=fr.length
 loop:∀g f c fr h e fr' h',codeOk C f c=true->S.loop g f c fr h=some (e,fr',h')->∀w0 mS m w a Q,EF C.GZ w0->Rel C.P w0 m h w->FR m fr a->Mk mS m a.defers->Ra C.P w0 mS m h.size e fr' h' Q->∀rd:Option Nat,rd=none\/Jw c=true->Code.roundsIn (FW rd) 0 C.P c Q n a w
section
variable {C:J8} {S:Self} {n:Nat}
theorem JM(U:PM C n S){f:FuncId}{g:Gd}:∀(c:Code),codeOk C f c=true->∀{fr:Fr} {h:AS} {e:HV} {fr':Fr} {h':AS},CV C S f g c fr h=some (e,fr',h')->CT g h h'/\fr'.length=fr.length:=by
 intro c
 induction c with
 |skip=>intro _ fr h e fr' h' B;simp only[CV,zd,ze]at B;obtain⟨_,rfl,rfl⟩:=B;exact⟨CT.refl _ _,rfl⟩
 |label l=>intro _ fr h e fr' h' B;simp only[CV,zd,ze]at B;obtain⟨_,rfl,rfl⟩:=B;exact⟨CT.refl _ _,rfl⟩
 |exit id=>intro _ fr h e fr' h' B;simp only[CV,zd,ze]at B;obtain⟨_,rfl,rfl⟩:=B;exact⟨CT.refl _ _,rfl⟩
 |ret=>intro _ fr h e fr' h' B;simp only[CV,zd,ze]at B;obtain⟨_,rfl,rfl⟩:=B;exact⟨CT.refl _ _,rfl⟩
 |goto l=>intro _ fr h e fr' h' B;simp[CV]at B
 |refuse s=>intro _ fr h e fr' h' B;simp[CV]at B
 |rangeFunc x ps a b iha ihb=>intro _ fr h e fr' h' B;simp[CV]at B
 | region id ops draw=>
  intro D fr h e fr' h' B;simp only[CV]at B;cases draw with
  | true=>
   simp only[zY]at B;split at B
   ·rename_i fr1 h1 X;simp only[zd,ze]at B;obtain⟨_,rfl,rfl⟩:=B;exact RU (by simpa[codeOk]using D) U.sub X
   ·cases B
  | false=>
   simp only[yf]at B;split at B
   ·rename_i fr1 h1 X;simp only[zd,ze]at B;obtain⟨_,rfl,rfl⟩:=B;exact Ln U.sub _ X
   ·cases B
 | seq a b iha ihb=>
  intro D fr h e fr' h' B;simp only[codeOk,zj]at D;simp only[CV]at B;split at B
  ·rename_i fr1 h1 Z;obtain⟨k1,k2⟩:=iha D.1 Z;obtain⟨k3,k4⟩:=ihb D.2 B;exact⟨k1.trans k3,k4.trans k2⟩
  ·exact iha D.1 B
 |cond c a b iha ihb=>
  intro D fr h e fr' h' B;simp only[codeOk,zj]at D;simp only[CV]at B;split at B
  ·exact iha D.1 B
  ·exact ihb D.2 B
  ·cases B
 | block id c ih=>
  intro D fr h e fr' h' B;simp only[codeOk]at D;simp only[CV]at B;split at B
  ·rename_i i fr1 h1 Z;have T:=ih D Z;cases M:Nat.beq i id<;>rw[M]at B<;>simp only[zY,yf,zd,ze]at B<;>obtain⟨_,rfl,rfl⟩:=B<;>exact T
  ·exact ih D B
 | loop c ih=>
  intro D fr h e fr' h' B;simp only[codeOk]at D;simp only[CV]at B;split at B
  ·rename_i fr1 h1 Z;obtain⟨k1,k2⟩:=ih D Z;obtain⟨k3,k4⟩:=U.keeps g f c fr1 h1 e fr' h' D B;exact⟨k1.trans k3,k4.trans k2⟩
  ·exact ih D B
 |scope c ih=>
  intro D fr h e fr' h' B;simp only[codeOk]at D;simp only[CV]at B;exact ih D B
theorem Ra.trans{P:Program}{w0:World}{mS m m1:CU}{k k1:Nat}{e:HV}{fr':Fr}{h':AS}{Q:Exit->Act->World->Prop}(K:Ra P w0 mS m k e fr' h' Q)(T:k<=k1)(h1:m.ext k m1):Ra P w0 mS m1 k1 e fr' h' Q:=
 λm' a' w' g1 g2 g3 g4=>K m' a' w' (h1.trans g1 T) g2 g3 g4
theorem MW {P:Program} {f:FuncId} {fn:Func} {c:Code} (F:P.funcs[f]?=some fn) (hn:(fn.name=="runtime.NumGoroutine")=false) (M:fn.body=some c) (args:Array Value) (w:World):
  (callFunc f args).run P w=.ok (.enter f args) w:=by
 unfold callFunc;simp only[Sem.run_bind,program,Sem.run,Result.andThen_ok,F];simp[hn,M]
theorem T3(w:World)(g:Nat)(o:Obj):GS w (w.putObj g o) g:=⟨rfl,rfl,rfl,by simp[World.putObj],λk T O=>by simp[World.putObj,Ne.symm O]⟩
theorem Mj(W:NN C)(U:PM C n S){f:FuncId}{g:Gd}:∀(c:Code),codeOk C f c=true->∀{fr:Fr} {h:AS} {e:HV} {fr':Fr} {h':AS},CV C S f g c fr h=some (e,fr',h')->
  ∀{w0:World} {mS m:CU} {w:World} {a:Act} {Q:Exit->Act->World->Prop},EF C.GZ w0->Rel C.P w0 m h w->FR m fr a->Mk mS m a.defers->Ra C.P w0 mS m h.size e fr' h' Q->∀rd:Option Nat,rd=none\/Jw c=true->c.wpIn (FW rd) 0 C.P Q a w:=by
 intro c
 induction c with
 |skip=>intro _ fr h e fr' h' B w0 mS m w a Q J r F G K rd H;simp only[CV,zd,ze]at B;obtain⟨rfl,rfl,rfl⟩:=B;exact wpIn_skip (K m a w (CU.ext.refl _ _) r F G)
 |label l=>intro _ fr h e fr' h' B w0 mS m w a Q J r F G K rd H;simp only[CV,zd,ze]at B;obtain⟨rfl,rfl,rfl⟩:=B;exact wpIn_label (K m a w (CU.ext.refl _ _) r F G)
 |exit id=>intro _ fr h e fr' h' B w0 mS m w a Q J r F G K rd H;simp only[CV,zd,ze]at B;obtain⟨rfl,rfl,rfl⟩:=B;exact wpIn_exit (K m a w (CU.ext.refl _ _) r F G)
 |ret=>intro _ fr h e fr' h' B w0 mS m w a Q J r F G K rd H;simp only[CV,zd,ze]at B;obtain⟨rfl,rfl,rfl⟩:=B;exact wpIn_ret (K m a w (CU.ext.refl _ _) r F G)
 |goto l=>intro _ fr h e fr' h' B;simp[CV]at B
 |refuse s=>intro _ fr h e fr' h' B;simp[CV]at B
 |rangeFunc x ps ca cb iha ihb=>intro _ fr h e fr' h' B;simp[CV]at B
 | region id ops draw=>
  intro D fr h e fr' h' B w0 mS m w a Q J r F G K rd H;simp only[CV]at B;cases draw with
  | true=>
   simp only[zY]at B;split at B
   ·rename_i fr1 h1 X;simp only[zd,ze]at B;obtain⟨rfl,rfl,rfl⟩:=B;exact RR W.mix (by simpa[codeOk]using D) U.sub J r F X (λm' a' w' g1 g2 g3 g4=>K m' a' w' g1 g2 g3 (by rw[g4];exact G.ext g1)) rd
   ·cases B
  | false=>
   simp only[yf]at B;split at B
   ·rename_i fr1 h1 X;simp only[zd,ze]at B;obtain⟨rfl,rfl,rfl⟩:=B;exact wpIn_region_list (Lq U.sub J _ r F X (λm' a' w' g1 g2 g3 g4=>K m' a' w' g1 g2 g3 (by rw[g4];exact G.ext g1)) rd)
   ·cases B
 | seq x y iha ihb=>
  intro D fr h e fr' h' B w0 mS m w a Q J r F G K rd H;simp only[codeOk,zj]at D;simp only[CV]at B;split at B
  ·rename_i fr1 h1 Z;have T:=(JM U x D.1 Z).1;refine wpIn_seq (iha D.1 Z J r F G (λm1 a1 w1 g1 g2 g3 g4=>?_) rd (H.imp (λh=>h) λh=>by simp only[Jw,zj]at h;exact h.1));exact ihb D.2 B J g2 g3 g4 (K.trans T.1 g1) rd (H.imp (λh=>h) λh=>by simp only[Jw,zj]at h;exact h.2)
  ·rename_i O;refine wpIn_seq (iha D.1 B J r F G (λm1 a1 w1 g1 g2 g3 g4=>?_) rd (H.imp (λh=>h) λh=>by simp only[Jw,zj]at h;exact h.1));have V:=K m1 a1 w1 g1 g2 g3 g4;cases e with
   |normal=>exact absurd B (O _ _)
   |exit id=>exact V
   |ret=>exact V
 |cond c x y iha ihb=>
  intro D fr h e fr' h' B w0 mS m w a Q J r F G K rd H;simp only[codeOk,zj]at D;simp only[CV]at B;have I:=F.ev c;split at B
  ·rename_i hc;rw[hc]at I;exact wpIn_cond_true I.K6 (iha D.1 B J r F G K rd (H.imp (λh=>h) λh=>by simp only[Jw,zj]at h;exact h.1))
  ·rename_i hc;rw[hc]at I;exact wpIn_cond_false I.K6 (ihb D.2 B J r F G K rd (H.imp (λh=>h) λh=>by simp only[Jw,zj]at h;exact h.2))
  ·cases B
 | block id c ih=>
  intro D fr h e fr' h' B w0 mS m w a Q J r F G K rd H;simp only[codeOk]at D;simp only[CV]at B;split at B
  ·rename_i i fr1 h1 Z;refine wpIn_block (ih D Z J r F G (λm1 a1 w1 g1 g2 g3 g4=>?_) rd (H.imp (λh=>h) λh=>by simpa[Jw]using h));show(if i=id then Q .normal a1 w1 else Q (.exit i) a1 w1);cases M:Nat.beq i id with
   |true=>
    rw[M]at B;simp only[zY,zd,ze]at B;obtain⟨rfl,rfl,rfl⟩:=B;rw[zk (zJ M)];exact K m1 a1 w1 g1 g2 g3 g4
   |false=>
    rw[M]at B;simp only[yf,zd,ze]at B;obtain⟨rfl,rfl,rfl⟩:=B;rw[zm (λe=>by rw[e,yL]at M;cases M)];exact K m1 a1 w1 g1 g2 g3 g4
  ·rename_i O;refine wpIn_block (ih D B J r F G (λm1 a1 w1 g1 g2 g3 g4=>?_) rd (H.imp (λh=>h) λh=>by simpa[Jw]using h));have V:=K m1 a1 w1 g1 g2 g3 g4;cases e with
   |normal=>exact V
   |exit i=>exact absurd B (O _ _ _)
   |ret=>exact V
 | loop c ih=>
  intro D fr h e fr' h' B w0 mS m w a Q J r F G K rd H;simp only[codeOk]at D;simp only[CV]at B;have hrd':rd=none\/Jw c=true:=H.imp (λh=>h) λh=>by simpa[Jw]using h
  refine wpIn_loop_rounds (n+1) ?_;rw[roundsIn_succ];split at B
  ·rename_i fr1 h1 Z;have T:=(JM U c D Z).1;refine ih D Z J r F G (λm1 a1 w1 g1 g2 g3 g4=>?_) rd hrd';exact U.loop g f c fr1 h1 e fr' h' D B w0 mS m1 w1 a1 Q J g2 g3 g4 (K.trans T.1 g1) rd hrd'
  ·rename_i O;refine ih D B J r F G (λm1 a1 w1 g1 g2 g3 g4=>?_) rd hrd';have V:=K m1 a1 w1 g1 g2 g3 g4;cases e with
   |normal=>exact absurd B (O _ _)
   |exit id=>exact V
   |ret=>exact V
 |scope c ih=>
  intro D fr h e fr' h' B w0 mS m w a Q J r F G K rd H;simp only[codeOk]at D;simp only[CV]at B;refine UM (ih D B J r F G (λm1 a1 w1 g1 g2 g3 g4=>?_) rd (H.imp (λh=>h) λh=>by simpa[Jw]using h));have V:=K m1 a1 w1 g1 g2 g3 g4;cases e with
  |normal=>exact V
  |exit i=>exact V
  |ret=>exact V
theorem Sy(W:NN C)(U:PM C n S){f:FuncId}{g:Gd}{c:Code}(D:codeOk C f c=true){fr:Fr}{h:AS}{e:HV}{fr':Fr}{h':AS}(B:CV C S f g (.loop c) fr h=some (e,fr',h'))
  {w0:World} {mS m:CU} {w:World} {a:Act} {Q:Exit->Act->World->Prop} (J:EF C.GZ w0) (r:Rel C.P w0 m h w) (F:FR m fr a) (G:Mk mS m a.defers) (K:Ra C.P w0 mS m h.size e fr' h' Q) (rd:Option Nat) (H:rd=none\/Jw c=true):Code.roundsIn (FW rd) 0 C.P c Q (n+1) a w:=by
 simp only[CV]at B;rw[roundsIn_succ];split at B
 ·rename_i fr1 h1 Z;have T:=(JM U c D Z).1;refine Mj W U c D Z J r F G (λm1 a1 w1 g1 g2 g3 g4=>?_) rd H;exact U.loop g f c fr1 h1 e fr' h' D B w0 mS m1 w1 a1 Q J g2 g3 g4 (K.trans T.1 g1) rd H
 ·rename_i O;refine Mj W U c D B J r F G (λm1 a1 w1 g1 g2 g3 g4=>?_) rd H;have V:=K m1 a1 w1 g1 g2 g3 g4;cases e with
  |normal=>exact absurd B (O _ _)
  |exit id=>exact V
  |ret=>exact V
theorem SN:VU C.P C.GZ (Xk C S):=λg h l args v h' X=>by cases X
theorem RD{P:Program}{w0:World}{m:CU}{h:AS}{w:World}(r:Rel P w0 m h w){fr:Fr}{a:Act}(F:FR m fr a){x:ResultVar}{v:AE}(B:JF P fr h x=some v):
  ∃v',(match x with| .tmp t=>pure (a.tmps.getD t undef)| .cell c t=>do loadVar t (<-asAddr (a.tmps.getD c undef)):Sem Value).run P w=.ok v' w/\VR m v v':=by
 cases x with
 |tmp t=>simp only[JF,zd]at B;subst B;exact⟨_,rfl,F.2 t⟩
 | cell c t=>
  simp only[JF]at B;split at B
  ·rename_i id o hc;have I:=F.2 c;rw[hc]at I;generalize V:a.tmps.getD c undef=q at I;cases I with
   |ptr _ _ E hE=>
    obtain⟨v',h1,N⟩:=Mx r hE B;exact⟨v',by simp[V,asAddr,h1],N⟩
  ·cases B
theorem OW{P:Program}{w0:World}{m:CU}{h:AS}{w:World}(r:Rel P w0 m h w){fr:Fr}{a:Act}(F:FR m fr a):∀(l:List ResultVar) (vs:List AE),l.mapM (JF P fr h)=some vs->
  ∃vs',(l.mapM (fun| .tmp t=>pure (a.tmps.getD t undef)| .cell c t=>do loadVar t (<-asAddr (a.tmps.getD c undef)):ResultVar->Sem Value)).run P w=.ok vs' w/\Dt m vs vs'
 |[],vs,L=>by simp at L;subst L;exact⟨[],by simp,.nil m⟩
 |x::l,vs,L=>by
  rw[ql]at L;simp only[bind,Option.bind_eq_some_iff,pure,zd]at L;obtain⟨v,I,us,hus,rfl⟩:=L;obtain⟨v',h1,N⟩:=RD r F I;obtain⟨us',h3,h4⟩:=OW r F l us hus;refine⟨v'::us',?_,.cons N h4⟩;rw[ql];simp only[Sem.run_bind];cases x<;>simp only at h1<;>rw[h1]<;>simp only[Result.andThen_ok,h3,Sem.run_pure]
theorem Qd{P:Program}{w0:World}{m:CU}{h:AS}{w:World}(r:Rel P w0 m h w){fn:Func}{fr:Fr}{a:Act}(F:FR m fr a){v:AE}(B:KJ P fn fr h=some v):
  ∃v',(results fn a.tmps).run P w=.ok v' w/\VR m v v':=by
 unfold KJ at B;have key:∀vs,fn.results.toList.mapM (JF P fr h)=some vs->∃vs',(results fn a.tmps).run P w=.ok (if hh:vs'.length=1 then vs'[0]else .tuple vs'.toArray) w/\Dt m vs vs':=by
  intro vs hvs;obtain⟨vs',h1,N⟩:=OW r F _ _ hvs;refine⟨vs',?_,N⟩;unfold results;rw[Array.mapM_eq_mapM_toList];simp only[Sem.run_bind,Sem.run_map]
  erw [h1]
  simp
 split at B
 ·rename_i u hu;injection B with B;subst B;obtain⟨vs',h1,N⟩:=key _ hu;have L:vs'.length=1:=by rw[<-N.1];rfl
  rw[dif_pos L]at h1;exact⟨_,h1,N.2 0 u _ rfl (by simp[L])⟩
 ·rename_i us O hus;injection B with B;subst B;obtain⟨vs',h1,N⟩:=key _ hus;have L:¬vs'.length=1:=by
   rw[<-N.1];intro L
   match us,L with
   |[u],_=>exact O u rfl
  rw[dif_neg L]at h1;exact⟨_,h1,Dt.tuple (by simpa using N)⟩
 ·cases B
theorem N0{P:Program}{w0:World}{h:AS}{fn:Func}{tmps:Array Value}{R:Ending->World->Prop}:∀(rs:List Nat),rs.Nodup->∀(m:CU) (w:World),Rel P w0 m h w->(∀r∈rs,m.df r)->
  (∀(m':CU) w',m'.i=m.i->m'.fz=m.fz->(∀g,m.df g->g∉rs->m'.df g)->Rel P w0 m' h w'->LeavesIn Fence.wide 0 P fn tmps R [] .returning w')->LeavesInM Fence.wide 0 P fn tmps R (rs.map mark) .returning w
 |[],_,m,w,r,_,T=>T m w rfl rfl (λ_ h _=>h) r
 | r0::rs,hn,m,w,r,hd,T=>by
  obtain⟨hn1,hn2⟩:=yG.1 hn;have M:=(r.df r0 (hd r0 (by simp))).2;refine⟨by simp,.inl ⟨r0,_,rfl,run_takeDeferred M,?_⟩⟩;have ht:=T3 w r0 (.deferred none);have r':Rel P w0 ⟨m.i,m.fz,λk=>m.df k/\k≠r0⟩ h (w.putObj r0 (.deferred none)):=by
   refine⟨ht.below r.below r.size (r.df r0 (hd r0 (by simp))).1,r.Vt,λid E o hE ho=>Oe.mono (m:=m) ⟨λ_ _ h=>h,λ_ _ _ h=>h⟩ (λL=>ht.block _ ((r.obj id E o hE ho).lt L) λe=>?_) (r.obj id E o hE ho),r.own,r.sep,λg o v I=>?_,r.O7,λg Y=>⟨(r.df g Y.1).1,?_⟩,λid E o hE ho L Y=>r.WW id E o hE ho L Y.1⟩
   ·exact r.WW id E o hE ho L (e ▸ hd r0 (by simp))
   ·obtain⟨cur,e,z,h1,N⟩:=r.fz g o v I;refine⟨cur,e,z,?_,N⟩;rw[ht.block g (r.Vq I) (λe'=>by subst e';rw[M]at h1;cases h1)];exact h1
   ·rw[ht.block g (r.R6 Y.1) Y.2];exact(r.df g Y.1).2
  refine N0 rs hn2 _ _ r' (λk hk'=>⟨hd k (by simp[hk']),λe=>hn1 (e ▸ hk')⟩) λm' w' e1 e2 e3 e4=>T m' w' e1 e2 (λg Y hno=>e3 g ⟨Y,λe=>hno (by simp[e])⟩ λhm=>hno (by simp[hm])) e4
theorem MR(W:NN C)(U:PM C n S){g:Gd}{h h':AS}{f:FuncId}{args:List AE}{v:AE}(T:C.kind f=1\/C.kind f=2\/C.kind f=4\/C.kind f=7\/C.kind f=8\/C.kind f=9)(M:L8 C S g h f args=some (v,h')):
  CT g h h'/\∀w0 m w (cargs:Array Value),EF C.GZ w0->Rel C.P w0 m h w->Dt m args cargs.toList->GO C.P f cargs w λv' w'=>∃m':CU,(m.ext h.size m')/\Rel C.P w0 m' h' w'/\VR m' v v':=by
 unfold L8 at M;split at M
 ·cases M
 ·rename_i fn hfn;split at M
  ·cases M
  ·rename_i c hc;obtain⟨hn,D⟩:=W.code f fn c T hfn hc;have main:∀e fr1 h1,e=HV.normal\/e=HV.ret->CV C S f g c (args++List.replicate (fn.ntmps - args.length) (.tuple [])) h=some (e,fr1,h1)->(KJ C.P fn fr1 h1).map (·,h1)=some (v,h')->
     CT g h h'/\∀w0 m w (cargs:Array Value),EF C.GZ w0->Rel C.P w0 m h w->Dt m args cargs.toList->GO C.P f cargs w λv' w'=>∃m':CU,(m.ext h.size m')/\Rel C.P w0 m' h' w'/\VR m' v v':=by
    intro e fr1 h1 he B hres;simp only[zg,ze]at hres;obtain⟨u,hu,rfl,rfl⟩:=hres;refine⟨(JM U c D B).1,λw0 m w cargs J r I=>?_⟩;unfold GO;rw[MW hfn hn hc];simp only;have hlen:args.length=cargs.size:=by rw[I.1];simp
    refine(callsIn_wide (n:=0)).1 (callsIn_of_wp_marks hfn hc trivial (Mj W U c D B J r ⟨by simp[hlen],λi=>?_⟩ (Mk.nil m) (λm1 a1 w1 g1 g2 g3 g4=>?_) none (.inl rfl)))
    ·rw[Nj,zA];simp only[zu];by_cases hi:i<args.length
     ·rw[List.getElem?_append_left hi,Array.getElem?_append_left (by omega)];rw[List.getElem?_eq_getElem hi,Array.getElem?_eq_getElem (by omega)];exact I.2 i _ _ (List.getElem?_eq_getElem hi) (by simp[<-hlen,hi])
     ·rw[List.getElem?_append_right (by omega),Array.getElem?_append_right (by omega)];rw[List.getElem?_replicate,Array.getElem?_replicate,hlen];split
      ·exact VR.Lu m
      ·exact VR.Lu m
    ·have fin:LeavesInM Fence.wide 0 C.P fn a1.tmps (λe w'=>∃v',e=.returned v'/\∃m':CU,(m.ext h.size m')/\Rel C.P w0 m' h1 w'/\VR m' u v') a1.defers .returning w1:=by
      obtain⟨_,rs,e1,e2,e3⟩:=g4;rw[e1];refine N0 rs e2 m1 w1 g2 (λr X=>(e3 r X).1) λm2 w2 d1 d2 d3 d4=>?_;have hle:m1.le m2:=⟨λid E hE=>by rw[d1];exact hE,λg o v I=>by rw[d2];exact I⟩;obtain⟨v',q1,q2⟩:=Qd d4 (g3.mono hle) hu;exact⟨v',q1,v',rfl,m2,⟨λid hid=>by rw[d1];exact g1.i id hid,λg o v I=>by rw[d2];exact g1.fz g o v I,λg Y=>d3 g (g1.df g Y) λhm=>(e3 g hm).2 Y⟩,d4,q2⟩
     rcases he with rfl|rfl
     ·exact fin
     ·exact fin
   split at M
   ·rename_i fr1 h1 B;exact main .normal fr1 h1 (.inl rfl) B M
   ·rename_i fr1 h1 B;exact main .ret fr1 h1 (.inr rfl) B M
   ·cases M
theorem GO.mono{P:Program}{f:FuncId}{args:Array Value}{w:World}{Q Q':Value->World->Prop}(h:GO P f args w Q)(V:∀v w',Q v w'->Q' v w'):GO P f args w Q':=by
 unfold GO at *;split at h
 ·exact V _ _ h
 ·exact h.mono λe w'' ⟨v,h1,N⟩=>⟨v,h1,V _ _ N⟩
 ·exact h.elim
def SA(P:Program)(g:Gd)(f:AS->AE->Option (AE×AS)):Prop:=∀(h:AS) (v v':AE) (h':AS),f h v=some (v',h')->CT g h h'/\∀w0 (m:CU) w u,Rel P w0 m h w->VR m v u->∃m':CU,m.ext h.size m'/\Rel P w0 m' h' w/\VR m' v' u
theorem SI{P:Program}(g:Gd):SA P g (Gy g):=λh v v' h' F=>⟨Qx F,λw0 m w u r I=>QY F w0 m w u r I⟩
theorem OV{P:Program}{g:Gd}{f:AS->AE->Option (AE×AS)}(F:SA P g f):∀(vs:List AE) (h:AS) (vs':List AE) (h':AS),KC f vs h=some (vs',h')->
  CT g h h'/\∀w0 (m:CU) w us,Rel P w0 m h w->Dt m vs us->∃m':CU,m.ext h.size m'/\Rel P w0 m' h' w/\Dt m' vs' us
 |[],h,vs',h',B=>by
  simp only[KC,zd,ze]at B;obtain⟨rfl,rfl⟩:=B;exact⟨CT.refl _ _,λw0 m w us r I=>⟨m,CU.ext.refl _ _,r,I⟩⟩
 | v::vs,h,vs',h',B=>by
  unfold KC at B;split at B
  ·rename_i v1 h1 h1e;simp only[zg,ze]at B;obtain⟨⟨l,N⟩,L,rfl,rfl⟩:=B;obtain⟨k1,q1⟩:=F h v v1 h1 h1e;obtain⟨k2,q2⟩:=OV F vs h1 l N L;refine⟨k1.trans k2,λw0 m w us r I=>?_⟩;cases us with
   |nil=>simp[Dt]at I
   |cons u us=>
    have hc:=I.2 0 v u rfl rfl;have hv':Dt m vs us:=⟨by simpa using I.1,λi x y B hy=>I.2 (i+1) x y (by simpa using B) (by simpa using hy)⟩;obtain⟨m1,e1,e2,e3⟩:=q1 w0 m w u r hc;obtain⟨m2,g1,g2,g3⟩:=q2 w0 m1 w us e2 (hv'.mono (r.VW e1));exact⟨m2,e1.trans g1 k1.1,g2,.cons (e3.mono (e2.VW g1)) g3⟩
  ·cases B
theorem SM{P:Program}(g:Gd):SA P g (O2 g):=by
 intro h v v' h' F;unfold O2 at F;split at F
 ·simp only[zg,ze]at F;obtain⟨⟨l,N⟩,L,rfl,rfl⟩:=F;obtain⟨k1,q1⟩:=OV (SI g) _ h l N L;refine⟨k1,λw0 m w u r I=>?_⟩;obtain⟨c,rfl,vc⟩:=I.Hn;obtain⟨m1,e1,e2,e3⟩:=q1 w0 m w _ r vc;exact⟨m1,e1,e2,Dt.agg e3⟩
 ·exact SI g h v v' h' F
theorem Vg{P:Program}(g:Gd):SA P g (RO g):=by
 intro h v v' h' F;unfold RO at F;split at F
 ·simp only[zg,ze]at F;obtain⟨⟨l,N⟩,L,rfl,rfl⟩:=F;obtain⟨k1,q1⟩:=OV (SM g) _ h l N L;refine⟨k1,λw0 m w u r I=>?_⟩;obtain⟨c,rfl,vc⟩:=I.PB;obtain⟨m1,e1,e2,e3⟩:=q1 w0 m w _ r vc;exact⟨m1,e1,e2,Dt.tuple e3⟩
 ·exact SM g h v v' h' F
theorem Vy{P:Program}(g:Gd):SA P g (Mt g):=by
 intro h v v' h' F;unfold Mt at F;split at F
 ·rename_i id;split at F
  ·rename_i cs Y;cases hm:g.may id with
   |false=>rw[hm]at F;cases F
   | true=>
    rw[hm]at F;simp only[zY,zg,ze]at F;obtain⟨⟨l,N⟩,L,rfl,rfl⟩:=F;obtain⟨k1,q1⟩:=OV (SI g) _ _ l N L;refine⟨(CT.set Y hm).trans k1,λw0 m w u r I=>?_⟩;cases I with
    | ptr _ _ E hE=>
     obtain⟨cur,r',hle',_,_,hcs⟩:=r.freeze hE Y;have hus:Dt (m.still E.g cur) cs ((List.range cs.length).map λi=>(cur[E.base+i]?).getD undef):=by
      refine⟨by simp,λi x y B hy=>?_⟩;have hi:i<cs.length:=(List.getElem?_eq_some_iff.1 B).1;obtain⟨c,h1,h3⟩:=hcs i x B;simp only[List.getElem?_map,List.getElem?_range hi,zf,zd]at hy;rw[<-hy,h1];exact h3.mono hle'
     obtain⟨m2,e1,e2,e3⟩:=q1 w0 (m.still E.g cur) w _ r' hus;have hlen:l.length=cs.length:=by rw[e3.1];simp
     have e0:m.ext h.size (m.still E.g cur):=⟨λ_ _=>rfl,hle'.fz,λ_ h=>h⟩;refine⟨m2,e0.trans e1 (by simp),e2,.BL _ _ l (λi=>(cur[E.base+i]?).getD undef) (λi hi=>e1.fz _ _ _ ?_) (λi x B=>?_)⟩
     ·obtain⟨c,h1,_⟩:=hcs i _ (List.getElem?_eq_getElem (by omega));simp[CU.still,h1]
     ·have hi:i<cs.length:=by rw[<-hlen];exact(List.getElem?_eq_some_iff.1 B).1
      exact e3.2 i x _ B (by simp[hi])
  ·cases F
 ·exact SM g h v v' h' F
theorem Ve{P:Program}(g:Gd):SA P g (Tj g):=by
 intro h v v' h' F;unfold Tj at F;split at F
 ·simp only[zg,ze]at F;obtain⟨⟨l,N⟩,L,rfl,rfl⟩:=F;obtain⟨k1,q1⟩:=OV (Vy g) _ h l N L;refine⟨k1,λw0 m w u r I=>?_⟩;obtain⟨c,rfl,vc⟩:=I.PB;obtain⟨m1,e1,e2,e3⟩:=q1 w0 m w _ r vc;exact⟨m1,e1,e2,Dt.tuple e3⟩
 ·exact Vy g h v v' h' F
theorem TZ(W:NN C)(U:PM C n S):Sg C.P C.GZ (Ki C S):=by
 intro g h f args v h' hc;unfold Ki at hc;split at hc
 ·rename_i T;obtain⟨k1,k2⟩:=MR W U (.inl T) hc;exact⟨k1,λw0 m w cargs J r I=>k2 w0 m w cargs J r (I.Bf _)⟩
 ·rename_i T;have:=W.ext f T g h f args v h' (by simpa using hc);exact this
 ·rename_i T;split at hc
  ·rename_i u h1 M;obtain⟨k1,k2⟩:=MR W U (by omega) M;refine⟨k1.trans (Vg (P:=C.P) g h1 u v h' hc).1,λw0 m w cargs J r I=>(k2 w0 m w cargs J r (I.Bf _)).mono λv' w' ⟨m',g1,g2,g3⟩=>?_⟩;obtain⟨m2,e1,e2,e3⟩:=(Vg (P:=C.P) g h1 u v h' hc).2 _ m' w' v' g2 g3;exact⟨m2,g1.trans e1 k1.1,e2,e3⟩
  ·cases hc
 ·rename_i T;split at hc
  ·rename_i u h1 M;obtain⟨k1,k2⟩:=MR W U (by omega) M;refine⟨k1.trans (Ve (P:=C.P) g h1 u v h' hc).1,λw0 m w cargs J r I=>(k2 w0 m w cargs J r (I.Bf _)).mono λv' w' ⟨m',g1,g2,g3⟩=>?_⟩;obtain⟨m2,e1,e2,e3⟩:=(Ve (P:=C.P) g h1 u v h' hc).2 _ m' w' v' g2 g3;exact⟨m2,g1.trans e1 k1.1,e2,e3⟩
  ·cases hc
 ·cases hc
theorem Tp(W:NN C):∀n,PM C n (FE C n)
 |0=>⟨⟨λg h f args v h' hc=>by simp[FE]at hc,λg h l args v h' hc=>by simp[FE]at hc⟩,λg f c fr h e fr' h' _ B=>by simp[FE]at B,λg f c fr h e fr' h' _ B=>by simp[FE]at B⟩
 |n+1=>by
  have ih:=Tp W n;refine⟨⟨TZ W ih,SN (S:=FE C n)⟩,λg f c fr h e fr' h' D B=>?_,λg f c fr h e fr' h' D B w0 mS m w a Q J r F G K rd H=>?_⟩
  ·exact JM ih (.loop c) (by simpa[codeOk]using D) B
  ·exact Sy W ih D B J r F G K rd H
theorem U3(W:NN C){n:Nat}{g:Gd}{h h':AS}{f:FuncId}{args:List AE}{v:AE}(X:bA C n g h f args=some (v,h')){w0:World}{m:CU}{w:World}{cargs:Array Value}(J:EF C.GZ w0)(r:Rel C.P w0 m h w)(I:Dt m args cargs.toList):
  GO C.P f cargs w λv' w'=>∃m':CU,(m.ext h.size m')/\Rel C.P w0 m' h' w'/\VR m' v v':=
 ((Tp W n).sub.call g h f args v h' X).2 w0 m w cargs J r I
theorem VJ (W:NN C) {n:Nat} {g:Gd} {h h':AS} {f:FuncId} {args:List AE} {v:AE} (X:bA C n g h f args=some (v,h')) {fn:Func} {c:Code} (hfn:C.P.funcs[f]?=some fn) (hn:(fn.name=="runtime.NumGoroutine")=false) (M:fn.body=some c)
  {w0:World} {m:CU} {w:World} {cargs:Array Value} (J:EF C.GZ w0) (r:Rel C.P w0 m h w) (I:Dt m args cargs.toList):
  Calls C.P f cargs w λe w'=>∃v',e=.returned v'/\∃m':CU,(m.ext h.size m')/\Rel C.P w0 m' h' w'/\VR m' v v':=by
 have:=U3 W X J r I;unfold GO at this;rw[MW hfn hn M]at this;exact this
end
end Go.Av
