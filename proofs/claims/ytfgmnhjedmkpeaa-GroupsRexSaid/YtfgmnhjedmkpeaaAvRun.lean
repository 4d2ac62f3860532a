/-
  Several texts in one.
-/
import Derived.Conc.LoneSelect
import Derived.Test.YtfgmnhjedmkpeaaAvDraw
import Derived.RangeFuncRecord
set_option linter.unusedSimpArgs false
/-
 A part.
-/
section
namespace Go.Av
open Go.RowKit Go.Conc
variable {P:Program} {Q:Exit->Act->World->Prop} {a:Act} {w:World}
section
variable {F:Fence} {n:Nat} {b:Frame} {k:List Item} {cs:List Frame}
theorem IB{c:Code}:step P (lone (b.atR a (.code (.scope c)::k)) cs w)=.next (lone (b.atR a (.code c::.inScope c::k)) cs w):=
 step_lone_go (by simp[stepG,stepG.exec,Frame.atR])
theorem Pj{c:Code}:step P (lone (b.atR a (.inScope c::k)) cs w)=.next (lone (b.atR a k) cs w):=
 step_lone_go (by simp[stepG,stepG.exec,Frame.atR])
theorem Rs{c:Code}(h:c.wpIn F n P (Exit.noGoto Q) a w):(Code.scope c).wpIn F n P Q a w:=by
 intro b k cs hro L W;have h0:(lone (b.atR a (.code (.scope c)::k)) cs w).fenced P F:=fenced_calm L W rfl;obtain⟨e,a₁,w₁,T,Y⟩:=h b (.inScope c::k) cs hro L W;cases e with
 |normal=>exact⟨.normal,a₁,w₁,T,.head h0 IB (StepsIn.trans Y (.one (fenced_calm L W rfl) Pj))⟩
 | exit id=>
  have B:exitTo id (.inScope c::k)=exitTo id k:=by simp[exitTo]
  exact⟨.exit id,a₁,w₁,T,λk' U=>.head h0 IB (Y.1 k' (by rw[B];exact U)),
   λhr' U=>let ⟨k₁,h1,N⟩:=Y.2 hr' (by rw[B];exact U);⟨k₁,h1,.head h0 IB N⟩⟩
 |goto l=>exact T.elim
 |ret=>exact⟨_,a₁,w₁,T,.of_steps (.one h0 IB) Y⟩
 |panic ch=>exact⟨_,a₁,w₁,T,.of_steps (.one h0 IB) Y⟩
 |outgrown=>exact⟨_,a₁,w₁,T,.of_steps (.one h0 IB) Y⟩
end
end Go.Av
end
/-
 A part.
-/
section
namespace Go.Av
set_option linter.unusedVariables false
set_option linter.unusedSimpArgs false
open Go.RowKit
def codeOk(C:Gf)(f:FuncId):Code->Bool
 | .region id ops draw=> !draw||J4 C.P ops (C.Ky f id)
 | .seq a b=>codeOk C f a&&codeOk C f b
 | .cond _ a b=>codeOk C f a&&codeOk C f b
 | .block _ c=>codeOk C f c
 | .loop c=>codeOk C f c
 | .scope c=>codeOk C f c
 | .rangeFunc _ _ a b=>codeOk C f a&&codeOk C f b
 |_=>true
def Jl:Code->Bool
 | .seq a b=>Jl a&&Jl b
 | .cond _ a b=>Jl a&&Jl b
 | .block _ c=>Jl c
 | .loop c=>Jl c
 | .scope c=>Jl c
 | .rangeFunc .. =>false
 |_=>true
structure Ie(C:Gf):Prop where
 mix:C.P.follows .mixedOrders=true
 code:∀f fn c,(C.kind f=1\/C.kind f=2\/C.kind f=4\/C.kind f=7\/C.kind f=8\/C.kind f=9)->C.P.funcs[f]?=some fn->fn.body=some c->(fn.name=="runtime.NumGoroutine")=false/\codeOk C f c=true
 X6:∀f a b,C.X6 f a b=true->codeOk C f a=true/\codeOk C f b=true/\Jl a=true/\Jl b=true
 ext:∀f,C.kind f=3->GH C.P C.C4 λg h f' args=>if f'=f then C.ext f g h args else none
def DF.to:DF->Exit
 | .normal=>.normal
 | .exit id=>.exit id
 | .ret=>.ret
def mark(r:Nat):Deferred:={target:=.collected r,args:=#[]}
def Mk(mS m:BU)(ds:List Deferred):Prop:=(∀g,mS.df g->m.df g)/\∃rs:List Nat,ds=rs.map mark/\rs.Nodup/\∀r∈rs,m.df r/\¬mS.df r
theorem Mk.nil(m:BU):Mk m m []:=⟨λ_ h=>h,[],rfl,List.nodup_nil,λr h=>by cases h⟩
theorem Mk.ext{mS m m':BU}{n:Nat}{ds:List Deferred}(h:Mk mS m ds)(k:m.ext n m'):Mk mS m' ds:=by
 obtain⟨h1,rs,N,h3,h4⟩:=h;exact⟨λg hg=>k.df g (h1 g hg),rs,N,h3,λr W=>⟨k.df r (h4 r W).1,(h4 r W).2⟩⟩
def Ks(P:Program)(w0:World)(mS m:BU)(n:Nat)(e:DF)(fr':Fr)(h':AE)(Q:Exit->Act->World->Prop):Prop:=
 ∀m' a' w',(m.ext n m')->Rel P w0 m' h' w'->FR m' fr' a'->Mk mS m' a'.defers->Q e.to a' w'
structure Ik(C:Gf)(n:Nat)(S:Self):Prop where
 sub:KS C.P C.C4 S
 keeps:∀g f c fr h e fr' h',codeOk C f c=true->S.loop g f c fr h=some (e,fr',h')->BT g h h'/\fr'.length=fr.length
 loop:∀g f c fr h e fr' h',codeOk C f c=true->S.loop g f c fr h=some (e,fr',h')->∀w0 mS m w a Q,CL C.C4 w0->Rel C.P w0 m h w->FR m fr a->Mk mS m a.defers->Ks C.P w0 mS m h.size e fr' h' Q->∀rd:Option Nat,rd=none\/Jl c=true->Code.roundsIn (FW rd) 0 C.P c Q n a w
section
variable {C:Gf} {S:Self} {n:Nat}
theorem En(X:Ik C n S){f:FuncId}{g:Gd}:∀(c:Code),codeOk C f c=true->∀{fr:Fr} {h:AE} {e:DF} {fr':Fr} {h':AE},BF C S f g c fr h=some (e,fr',h')->BT g h h'/\fr'.length=fr.length:=by
 intro c
 induction c with
 |skip=>intro _ fr h e fr' h' B;simp only[BF,zd,ze]at B;obtain⟨_,rfl,rfl⟩:=B;exact⟨BT.refl _ _,rfl⟩
 |label l=>intro _ fr h e fr' h' B;simp only[BF,zd,ze]at B;obtain⟨_,rfl,rfl⟩:=B;exact⟨BT.refl _ _,rfl⟩
 |exit id=>intro _ fr h e fr' h' B;simp only[BF,zd,ze]at B;obtain⟨_,rfl,rfl⟩:=B;exact⟨BT.refl _ _,rfl⟩
 |ret=>intro _ fr h e fr' h' B;simp only[BF,zd,ze]at B;obtain⟨_,rfl,rfl⟩:=B;exact⟨BT.refl _ _,rfl⟩
 |goto l=>intro _ fr h e fr' h' B;simp[BF]at B
 |refuse s=>intro _ fr h e fr' h' B;simp[BF]at B
 |rangeFunc x ps a b iha ihb=>intro _ fr h e fr' h' B;simp[BF]at B
 | region id ops draw=>
  intro D fr h e fr' h' B;simp only[BF]at B;cases draw with
  | true=>
   simp only[z0]at B;split at B
   ·rename_i fr1 h1 W;simp only[zd,ze]at B;obtain⟨_,rfl,rfl⟩:=B;exact KZ (by simpa[codeOk]using D) X.sub W
   ·cases B
  | false=>
   simp only[yh]at B;split at B
   ·rename_i fr1 h1 W;simp only[zd,ze]at B;obtain⟨_,rfl,rfl⟩:=B;exact Gg X.sub _ W
   ·cases B
 | seq a b iha ihb=>
  intro D fr h e fr' h' B;simp only[codeOk,zg]at D;simp only[BF]at B;split at B
  ·rename_i fr1 h1 ha;obtain⟨k1,k2⟩:=iha D.1 ha;obtain⟨k3,k4⟩:=ihb D.2 B;exact⟨k1.trans k3,k4.trans k2⟩
  ·exact iha D.1 B
 |cond c a b iha ihb=>
  intro D fr h e fr' h' B;simp only[codeOk,zg]at D;simp only[BF]at B;split at B
  ·exact iha D.1 B
  ·exact ihb D.2 B
  ·cases B
 | block id c ih=>
  intro D fr h e fr' h' B;simp only[codeOk]at D;simp only[BF]at B;split at B
  ·rename_i i fr1 h1 ha;have U:=ih D ha;cases L:Nat.beq i id<;>rw[L]at B<;>simp only[z0,yh,zd,ze]at B<;>obtain⟨_,rfl,rfl⟩:=B<;>exact U
  ·exact ih D B
 | loop c ih=>
  intro D fr h e fr' h' B;simp only[codeOk]at D;simp only[BF]at B;split at B
  ·rename_i fr1 h1 ha;obtain⟨k1,k2⟩:=ih D ha;obtain⟨k3,k4⟩:=X.keeps g f c fr1 h1 e fr' h' D B;exact⟨k1.trans k3,k4.trans k2⟩
  ·exact ih D B
 |scope c ih=>
  intro D fr h e fr' h' B;simp only[codeOk]at D;simp only[BF]at B;exact ih D B
theorem Ks.trans{P:Program}{w0:World}{mS m m1:BU}{k k1:Nat}{e:DF}{fr':Fr}{h':AE}{Q:Exit->Act->World->Prop}(M:Ks P w0 mS m k e fr' h' Q)(U:k<=k1)(h1:m.ext k m1):Ks P w0 mS m1 k1 e fr' h' Q:=
 λm' a' w' g1 g2 g3 g4=>M m' a' w' (h1.trans g1 U) g2 g3 g4
theorem IY {P:Program} {f:FuncId} {fn:Func} {c:Code} (G:P.funcs[f]?=some fn) (hn:(fn.name=="runtime.NumGoroutine")=false) (L:fn.body=some c) (args:Array Value) (w:World):
  (callFunc f args).run P w=.ok (.enter f args) w:=by
 unfold callFunc;simp only[Sem.run_bind,program,Sem.run,Result.andThen_ok,G];simp[hn,L]
theorem Qf(w:World)(g:Nat)(o:Obj):Dn w (w.putObj g o) g:=⟨rfl,rfl,rfl,by simp[World.putObj],λk U V=>by simp[World.putObj,Ne.symm V]⟩
theorem HF(Z:Ie C)(X:Ik C n S){f:FuncId}{g:Gd}:∀(c:Code),codeOk C f c=true->∀{fr:Fr} {h:AE} {e:DF} {fr':Fr} {h':AE},BF C S f g c fr h=some (e,fr',h')->
  ∀{w0:World} {mS m:BU} {w:World} {a:Act} {Q:Exit->Act->World->Prop},CL C.C4 w0->Rel C.P w0 m h w->FR m fr a->Mk mS m a.defers->Ks C.P w0 mS m h.size e fr' h' Q->∀rd:Option Nat,rd=none\/Jl c=true->c.wpIn (FW rd) 0 C.P Q a w:=by
 intro c
 induction c with
 |skip=>intro _ fr h e fr' h' B w0 mS m w a Q K r G H M rd I;simp only[BF,zd,ze]at B;obtain⟨rfl,rfl,rfl⟩:=B;exact wpIn_skip (M m a w (BU.ext.refl _ _) r G H)
 |label l=>intro _ fr h e fr' h' B w0 mS m w a Q K r G H M rd I;simp only[BF,zd,ze]at B;obtain⟨rfl,rfl,rfl⟩:=B;exact wpIn_label (M m a w (BU.ext.refl _ _) r G H)
 |exit id=>intro _ fr h e fr' h' B w0 mS m w a Q K r G H M rd I;simp only[BF,zd,ze]at B;obtain⟨rfl,rfl,rfl⟩:=B;exact wpIn_exit (M m a w (BU.ext.refl _ _) r G H)
 |ret=>intro _ fr h e fr' h' B w0 mS m w a Q K r G H M rd I;simp only[BF,zd,ze]at B;obtain⟨rfl,rfl,rfl⟩:=B;exact wpIn_ret (M m a w (BU.ext.refl _ _) r G H)
 |goto l=>intro _ fr h e fr' h' B;simp[BF]at B
 |refuse s=>intro _ fr h e fr' h' B;simp[BF]at B
 |rangeFunc x ps ca cb iha ihb=>intro _ fr h e fr' h' B;simp[BF]at B
 | region id ops draw=>
  intro D fr h e fr' h' B w0 mS m w a Q K r G H M rd I;simp only[BF]at B;cases draw with
  | true=>
   simp only[z0]at B;split at B
   ·rename_i fr1 h1 W;simp only[zd,ze]at B;obtain⟨rfl,rfl,rfl⟩:=B;exact KV Z.mix (by simpa[codeOk]using D) X.sub K r G W (λm' a' w' g1 g2 g3 g4=>M m' a' w' g1 g2 g3 (by rw[g4];exact H.ext g1)) rd
   ·cases B
  | false=>
   simp only[yh]at B;split at B
   ·rename_i fr1 h1 W;simp only[zd,ze]at B;obtain⟨rfl,rfl,rfl⟩:=B;exact wpIn_region_list (Ge X.sub K _ r G W (λm' a' w' g1 g2 g3 g4=>M m' a' w' g1 g2 g3 (by rw[g4];exact H.ext g1)) rd)
   ·cases B
 | seq x y iha ihb=>
  intro D fr h e fr' h' B w0 mS m w a Q K r G H M rd I;simp only[codeOk,zg]at D;simp only[BF]at B;split at B
  ·rename_i fr1 h1 ha;have U:=(En X x D.1 ha).1;refine wpIn_seq (iha D.1 ha K r G H (λm1 a1 w1 g1 g2 g3 g4=>?_) rd (I.imp (λh=>h) λh=>by simp only[Jl,zg]at h;exact h.1));exact ihb D.2 B K g2 g3 g4 (M.trans U.1 g1) rd (I.imp (λh=>h) λh=>by simp only[Jl,zg]at h;exact h.2)
  ·rename_i V;refine wpIn_seq (iha D.1 B K r G H (λm1 a1 w1 g1 g2 g3 g4=>?_) rd (I.imp (λh=>h) λh=>by simp only[Jl,zg]at h;exact h.1));have T:=M m1 a1 w1 g1 g2 g3 g4;cases e with
   |normal=>exact absurd B (V _ _)
   |exit id=>exact T
   |ret=>exact T
 |cond c x y iha ihb=>
  intro D fr h e fr' h' B w0 mS m w a Q K r G H M rd I;simp only[codeOk,zg]at D;simp only[BF]at B;have J:=G.ev c;split at B
  ·rename_i hc;rw[hc]at J;exact wpIn_cond_true J.Gl (iha D.1 B K r G H M rd (I.imp (λh=>h) λh=>by simp only[Jl,zg]at h;exact h.1))
  ·rename_i hc;rw[hc]at J;exact wpIn_cond_false J.Gl (ihb D.2 B K r G H M rd (I.imp (λh=>h) λh=>by simp only[Jl,zg]at h;exact h.2))
  ·cases B
 | block id c ih=>
  intro D fr h e fr' h' B w0 mS m w a Q K r G H M rd I;simp only[codeOk]at D;simp only[BF]at B;split at B
  ·rename_i i fr1 h1 ha;refine wpIn_block (ih D ha K r G H (λm1 a1 w1 g1 g2 g3 g4=>?_) rd (I.imp (λh=>h) λh=>by simpa[Jl]using h));show(if i=id then Q .normal a1 w1 else Q (.exit i) a1 w1);cases L:Nat.beq i id with
   |true=>
    rw[L]at B;simp only[z0,zd,ze]at B;obtain⟨rfl,rfl,rfl⟩:=B;rw[zj (zE L)];exact M m1 a1 w1 g1 g2 g3 g4
   |false=>
    rw[L]at B;simp only[yh,zd,ze]at B;obtain⟨rfl,rfl,rfl⟩:=B;rw[zk (λe=>by rw[e,yS]at L;cases L)];exact M m1 a1 w1 g1 g2 g3 g4
  ·rename_i V;refine wpIn_block (ih D B K r G H (λm1 a1 w1 g1 g2 g3 g4=>?_) rd (I.imp (λh=>h) λh=>by simpa[Jl]using h));have T:=M m1 a1 w1 g1 g2 g3 g4;cases e with
   |normal=>exact T
   |exit i=>exact absurd B (V _ _ _)
   |ret=>exact T
 | loop c ih=>
  intro D fr h e fr' h' B w0 mS m w a Q K r G H M rd I;simp only[codeOk]at D;simp only[BF]at B;have hrd':rd=none\/Jl c=true:=I.imp (λh=>h) λh=>by simpa[Jl]using h
  refine wpIn_loop_rounds (n+1) ?_;rw[roundsIn_succ];split at B
  ·rename_i fr1 h1 ha;have U:=(En X c D ha).1;refine ih D ha K r G H (λm1 a1 w1 g1 g2 g3 g4=>?_) rd hrd';exact X.loop g f c fr1 h1 e fr' h' D B w0 mS m1 w1 a1 Q K g2 g3 g4 (M.trans U.1 g1) rd hrd'
  ·rename_i V;refine ih D B K r G H (λm1 a1 w1 g1 g2 g3 g4=>?_) rd hrd';have T:=M m1 a1 w1 g1 g2 g3 g4;cases e with
   |normal=>exact absurd B (V _ _)
   |exit id=>exact T
   |ret=>exact T
 |scope c ih=>
  intro D fr h e fr' h' B w0 mS m w a Q K r G H M rd I;simp only[codeOk]at D;simp only[BF]at B;refine Rs (ih D B K r G H (λm1 a1 w1 g1 g2 g3 g4=>?_) rd (I.imp (λh=>h) λh=>by simpa[Jl]using h));have T:=M m1 a1 w1 g1 g2 g3 g4;cases e with
  |normal=>exact T
  |exit i=>exact T
  |ret=>exact T
theorem Lk(Z:Ie C)(X:Ik C n S){f:FuncId}{g:Gd}{c:Code}(D:codeOk C f c=true){fr:Fr}{h:AE}{e:DF}{fr':Fr}{h':AE}(B:BF C S f g (.loop c) fr h=some (e,fr',h'))
  {w0:World} {mS m:BU} {w:World} {a:Act} {Q:Exit->Act->World->Prop} (K:CL C.C4 w0) (r:Rel C.P w0 m h w) (G:FR m fr a) (H:Mk mS m a.defers) (M:Ks C.P w0 mS m h.size e fr' h' Q) (rd:Option Nat) (I:rd=none\/Jl c=true):Code.roundsIn (FW rd) 0 C.P c Q (n+1) a w:=by
 simp only[BF]at B;rw[roundsIn_succ];split at B
 ·rename_i fr1 h1 ha;have U:=(En X c D ha).1;refine HF Z X c D ha K r G H (λm1 a1 w1 g1 g2 g3 g4=>?_) rd I;exact X.loop g f c fr1 h1 e fr' h' D B w0 mS m1 w1 a1 Q K g2 g3 g4 (M.trans U.1 g1) rd I
 ·rename_i V;refine HF Z X c D B K r G H (λm1 a1 w1 g1 g2 g3 g4=>?_) rd I;have T:=M m1 a1 w1 g1 g2 g3 g4;cases e with
  |normal=>exact absurd B (V _ _)
  |exit id=>exact T
  |ret=>exact T
theorem QC:Sd C.P C.C4 (T5 C S):=λg h l args v h' W=>by cases W
theorem Ke{P:Program}{w0:World}{m:BU}{h:AE}{w:World}(r:Rel P w0 m h w){fr:Fr}{a:Act}(G:FR m fr a){x:ResultVar}{v:AD}(B:Fb P fr h x=some v):
  ∃v',(match x with| .tmp t=>pure (a.tmps.getD t undef)| .cell c t=>do loadVar t (<-asAddr (a.tmps.getD c undef)):Sem Value).run P w=.ok v' w/\VR m v v':=by
 cases x with
 |tmp t=>simp only[Fb,zd]at B;subst B;exact⟨_,rfl,G.2 t⟩
 | cell c t=>
  simp only[Fb]at B;split at B
  ·rename_i id o hc;have J:=G.2 c;rw[hc]at J;generalize T:a.tmps.getD c undef=q at J;cases J with
   |ptr _ _ E hE=>
    obtain⟨v',h1,N⟩:=HC r hE B;exact⟨v',by simp[T,asAddr,h1],N⟩
  ·cases B
theorem Ih{P:Program}{w0:World}{m:BU}{h:AE}{w:World}(r:Rel P w0 m h w){fr:Fr}{a:Act}(G:FR m fr a):∀(l:List ResultVar) (vs:List AD),l.mapM (Fb P fr h)=some vs->
  ∃vs',(l.mapM (fun| .tmp t=>pure (a.tmps.getD t undef)| .cell c t=>do loadVar t (<-asAddr (a.tmps.getD c undef)):ResultVar->Sem Value)).run P w=.ok vs' w/\B5 m vs vs'
 |[],vs,O=>by simp at O;subst O;exact⟨[],by simp,.nil m⟩
 |x::l,vs,O=>by
  rw[qi]at O;simp only[bind,qK,pure,zd]at O;obtain⟨v,J,us,hus,rfl⟩:=O;obtain⟨v',h1,N⟩:=Ke r G J;obtain⟨us',h3,h4⟩:=Ih r G l us hus;refine⟨v'::us',?_,.cons N h4⟩;rw[qi];simp only[Sem.run_bind];cases x<;>simp only at h1<;>rw[h1]<;>simp only[Result.andThen_ok,h3,Sem.run_pure]
theorem J0{P:Program}{w0:World}{m:BU}{h:AE}{w:World}(r:Rel P w0 m h w){fn:Func}{fr:Fr}{a:Act}(G:FR m fr a){v:AD}(B:FY P fn fr h=some v):
  ∃v',(results fn a.tmps).run P w=.ok v' w/\VR m v v':=by
 unfold FY at B;have key:∀vs,fn.results.toList.mapM (Fb P fr h)=some vs->∃vs',(results fn a.tmps).run P w=.ok (if hh:vs'.length=1 then vs'[0]else .tuple vs'.toArray) w/\B5 m vs vs':=by
  intro vs hvs;obtain⟨vs',h1,N⟩:=Ih r G _ _ hvs;refine⟨vs',?_,N⟩;unfold results;rw[Array.mapM_eq_mapM_toList];simp only[Sem.run_bind,Sem.run_map]
  erw [h1]
  simp
 split at B
 ·rename_i u hu;injection B with B;subst B;obtain⟨vs',h1,N⟩:=key _ hu;have O:vs'.length=1:=by rw[<-N.1];rfl
  rw[dif_pos O]at h1;exact⟨_,h1,N.2 0 u _ rfl (by simp[O])⟩
 ·rename_i us V hus;injection B with B;subst B;obtain⟨vs',h1,N⟩:=key _ hus;have O:¬vs'.length=1:=by
   rw[<-N.1];intro O
   match us,O with
   |[u],_=>exact V u rfl
  rw[dif_neg O]at h1;exact⟨_,h1,B5.tuple (by simpa using N)⟩
 ·cases B
theorem Ng{P:Program}{w0:World}{h:AE}{fn:Func}{tmps:Array Value}{R:Ending->World->Prop}:∀(rs:List Nat),rs.Nodup->∀(m:BU) (w:World),Rel P w0 m h w->(∀r∈rs,m.df r)->
  (∀(m':BU) w',m'.i=m.i->m'.fz=m.fz->(∀g,m.df g->g∉rs->m'.df g)->Rel P w0 m' h w'->LeavesIn Fence.wide 0 P fn tmps R [] .returning w')->LeavesInM Fence.wide 0 P fn tmps R (rs.map mark) .returning w
 |[],_,m,w,r,_,U=>U m w rfl rfl (λ_ h _=>h) r
 | r0::rs,hn,m,w,r,hd,U=>by
  obtain⟨hn1,hn2⟩:=qd.1 hn;have L:=(r.df r0 (hd r0 (by simp))).2;refine⟨by simp,.inl ⟨r0,_,rfl,run_takeDeferred L,?_⟩⟩;have ht:=Qf w r0 (.deferred none);have r':Rel P w0 ⟨m.i,m.fz,λk=>m.df k/\k≠r0⟩ h (w.putObj r0 (.deferred none)):=by
   refine⟨ht.below r.below r.size (r.df r0 (hd r0 (by simp))).1,r.On,λid E o hE ho=>IV.mono (m:=m) ⟨λ_ _ h=>h,λ_ _ _ h=>h⟩ (λO=>ht.block _ ((r.obj id E o hE ho).lt O) λe=>?_) (r.obj id E o hE ho),r.own,r.sep,λg o v J=>?_,r.Nc,λg hg=>⟨(r.df g hg.1).1,?_⟩,λid E o hE ho O hg=>r.St id E o hE ho O hg.1⟩
   ·exact r.St id E o hE ho O (e ▸ hd r0 (by simp))
   ·obtain⟨cur,e,z,h1,N⟩:=r.fz g o v J;refine⟨cur,e,z,?_,N⟩;rw[ht.block g (r.Sf J) (λe'=>by subst e';rw[L]at h1;cases h1)];exact h1
   ·rw[ht.block g (r.Qy hg.1) hg.2];exact(r.df g hg.1).2
  refine Ng rs hn2 _ _ r' (λk hk'=>⟨hd k (by simp[hk']),λe=>hn1 (e ▸ hk')⟩) λm' w' e1 e2 e3 e4=>U m' w' e1 e2 (λg hg hno=>e3 g ⟨hg,λe=>hno (by simp[e])⟩ λhm=>hno (by simp[hm])) e4
theorem HD(Z:Ie C)(X:Ik C n S){g:Gd}{h h':AE}{f:FuncId}{args:List AD}{v:AD}(U:C.kind f=1\/C.kind f=2\/C.kind f=4\/C.kind f=7\/C.kind f=8\/C.kind f=9)(L:Gk C S g h f args=some (v,h')):
  BT g h h'/\∀w0 m w (cargs:Array Value),CL C.C4 w0->Rel C.P w0 m h w->B5 m args cargs.toList->Cl C.P f cargs w λv' w'=>∃m':BU,(m.ext h.size m')/\Rel C.P w0 m' h' w'/\VR m' v v':=by
 unfold Gk at L;split at L
 ·cases L
 ·rename_i fn hfn;split at L
  ·cases L
  ·rename_i c hc;obtain⟨hn,D⟩:=Z.code f fn c U hfn hc;have main:∀e fr1 h1,e=DF.normal\/e=DF.ret->BF C S f g c (args++List.replicate (fn.ntmps - args.length) (.tuple [])) h=some (e,fr1,h1)->(FY C.P fn fr1 h1).map (·,h1)=some (v,h')->
     BT g h h'/\∀w0 m w (cargs:Array Value),CL C.C4 w0->Rel C.P w0 m h w->B5 m args cargs.toList->Cl C.P f cargs w λv' w'=>∃m':BU,(m.ext h.size m')/\Rel C.P w0 m' h' w'/\VR m' v v':=by
    intro e fr1 h1 he B hres;simp only[zh,ze]at hres;obtain⟨u,hu,rfl,rfl⟩:=hres;refine⟨(En X c D B).1,λw0 m w cargs K r J=>?_⟩;unfold Cl;rw[IY hfn hn hc];simp only;have hlen:args.length=cargs.size:=by rw[J.1];simp
    refine(callsIn_wide (n:=0)).1 (callsIn_of_wp_marks hfn hc trivial (HF Z X c D B K r ⟨by simp[hlen],λi=>?_⟩ (Mk.nil m) (λm1 a1 w1 g1 g2 g3 g4=>?_) none (.inl rfl)))
    ·rw[H0,zl];simp only[zm];by_cases hi:i<args.length
     ·rw[List.getElem?_append_left hi,Array.getElem?_append_left (by omega)];rw[List.getElem?_eq_getElem hi,Array.getElem?_eq_getElem (by omega)];exact J.2 i _ _ (List.getElem?_eq_getElem hi) (by simp[<-hlen,hi])
     ·rw[List.getElem?_append_right (by omega),Array.getElem?_append_right (by omega)];rw[List.getElem?_replicate,Array.getElem?_replicate,hlen];split
      ·exact VR.Hf m
      ·exact VR.Hf m
    ·have fin:LeavesInM Fence.wide 0 C.P fn a1.tmps (λe w'=>∃v',e=.returned v'/\∃m':BU,(m.ext h.size m')/\Rel C.P w0 m' h1 w'/\VR m' u v') a1.defers .returning w1:=by
      obtain⟨_,rs,e1,e2,e3⟩:=g4;rw[e1];refine Ng rs e2 m1 w1 g2 (λr W=>(e3 r W).1) λm2 w2 d1 d2 d3 d4=>?_;have hle:m1.le m2:=⟨λid E hE=>by rw[d1];exact hE,λg o v J=>by rw[d2];exact J⟩;obtain⟨v',q1,q2⟩:=J0 d4 (g3.mono hle) hu;exact⟨v',q1,v',rfl,m2,⟨λid hid=>by rw[d1];exact g1.i id hid,λg o v J=>by rw[d2];exact g1.fz g o v J,λg hg=>d3 g (g1.df g hg) λhm=>(e3 g hm).2 hg⟩,d4,q2⟩
     rcases he with rfl|rfl
     ·exact fin
     ·exact fin
   split at L
   ·rename_i fr1 h1 B;exact main .normal fr1 h1 (.inl rfl) B L
   ·rename_i fr1 h1 B;exact main .ret fr1 h1 (.inr rfl) B L
   ·cases L
theorem Cl.mono{P:Program}{f:FuncId}{args:Array Value}{w:World}{Q Q':Value->World->Prop}(h:Cl P f args w Q)(T:∀v w',Q v w'->Q' v w'):Cl P f args w Q':=by
 unfold Cl at *;split at h
 ·exact T _ _ h
 ·exact h.mono λe w'' ⟨v,h1,N⟩=>⟨v,h1,T _ _ N⟩
 ·exact h.elim
def P6(P:Program)(g:Gd)(f:AE->AD->Option (AD×AE)):Prop:=∀(h:AE) (v v':AD) (h':AE),f h v=some (v',h')->BT g h h'/\∀w0 (m:BU) w u,Rel P w0 m h w->VR m v u->∃m':BU,m.ext h.size m'/\Rel P w0 m' h' w/\VR m' v' u
theorem QH{P:Program}(g:Gd):P6 P g (Ij g):=λh v v' h' G=>⟨PY G,λw0 m w u r J=>PR G w0 m w u r J⟩
theorem Ns{P:Program}{g:Gd}{f:AE->AD->Option (AD×AE)}(G:P6 P g f):∀(vs:List AD) (h:AE) (vs':List AD) (h':AE),Ny f vs h=some (vs',h')->
  BT g h h'/\∀w0 (m:BU) w us,Rel P w0 m h w->B5 m vs us->∃m':BU,m.ext h.size m'/\Rel P w0 m' h' w/\B5 m' vs' us
 |[],h,vs',h',B=>by
  simp only[Ny,zd,ze]at B;obtain⟨rfl,rfl⟩:=B;exact⟨BT.refl _ _,λw0 m w us r J=>⟨m,BU.ext.refl _ _,r,J⟩⟩
 | v::vs,h,vs',h',B=>by
  unfold Ny at B;split at B
  ·rename_i v1 h1 h1e;simp only[zh,ze]at B;obtain⟨⟨l,N⟩,O,rfl,rfl⟩:=B;obtain⟨k1,q1⟩:=G h v v1 h1 h1e;obtain⟨k2,q2⟩:=Ns G vs h1 l N O;refine⟨k1.trans k2,λw0 m w us r J=>?_⟩;cases us with
   |nil=>simp[B5]at J
   |cons u us=>
    have hc:=J.2 0 v u rfl rfl;have hv':B5 m vs us:=⟨by simpa using J.1,λi x y B hy=>J.2 (i+1) x y (by simpa using B) (by simpa using hy)⟩;obtain⟨m1,e1,e2,e3⟩:=q1 w0 m w u r hc;obtain⟨m2,g1,g2,g3⟩:=q2 w0 m1 w us e2 (hv'.mono (r.Oi e1));exact⟨m2,e1.trans g1 k1.1,g2,.cons (e3.mono (e2.Oi g1)) g3⟩
  ·cases B
theorem QB{P:Program}(g:Gd):P6 P g (N9 g):=by
 intro h v v' h' G;unfold N9 at G;split at G
 ·simp only[zh,ze]at G;obtain⟨⟨l,N⟩,O,rfl,rfl⟩:=G;obtain⟨k1,q1⟩:=Ns (QH g) _ h l N O;refine⟨k1,λw0 m w u r J=>?_⟩;obtain⟨c,rfl,vc⟩:=J.D1;obtain⟨m1,e1,e2,e3⟩:=q1 w0 m w _ r vc;exact⟨m1,e1,e2,B5.agg e3⟩
 ·exact QH g h v v' h' G
theorem SN{P:Program}(g:Gd):P6 P g (Pd g):=by
 intro h v v' h' G;unfold Pd at G;split at G
 ·simp only[zh,ze]at G;obtain⟨⟨l,N⟩,O,rfl,rfl⟩:=G;obtain⟨k1,q1⟩:=Ns (QB g) _ h l N O;refine⟨k1,λw0 m w u r J=>?_⟩;obtain⟨c,rfl,vc⟩:=J.Kl;obtain⟨m1,e1,e2,e3⟩:=q1 w0 m w _ r vc;exact⟨m1,e1,e2,B5.tuple e3⟩
 ·exact QB g h v v' h' G
theorem SW{P:Program}(g:Gd):P6 P g (VA g):=by
 intro h v v' h' G;unfold VA at G;split at G
 ·rename_i id;split at G
  ·rename_i cs hg;cases hm:g.may id with
   |false=>rw[hm]at G;cases G
   | true=>
    rw[hm]at G;simp only[z0,zh,ze]at G;obtain⟨⟨l,N⟩,O,rfl,rfl⟩:=G;obtain⟨k1,q1⟩:=Ns (QH g) _ _ l N O;refine⟨(BT.set hg hm).trans k1,λw0 m w u r J=>?_⟩;cases J with
    | ptr _ _ E hE=>
     obtain⟨cur,r',hle',_,_,hcs⟩:=r.freeze hE hg;have hus:B5 (m.still E.g cur) cs ((List.range cs.length).map λi=>(cur[E.base+i]?).getD undef):=by
      refine⟨by simp,λi x y B hy=>?_⟩;have hi:i<cs.length:=(List.getElem?_eq_some_iff.1 B).1;obtain⟨c,h1,h3⟩:=hcs i x B;simp only[List.getElem?_map,List.getElem?_range hi,zf,zd]at hy;rw[<-hy,h1];exact h3.mono hle'
     obtain⟨m2,e1,e2,e3⟩:=q1 w0 (m.still E.g cur) w _ r' hus;have hlen:l.length=cs.length:=by rw[e3.1];simp
     have e0:m.ext h.size (m.still E.g cur):=⟨λ_ _=>rfl,hle'.fz,λ_ h=>h⟩;refine⟨m2,e0.trans e1 (by simp),e2,.Ee _ _ l (λi=>(cur[E.base+i]?).getD undef) (λi hi=>e1.fz _ _ _ ?_) (λi x B=>?_)⟩
     ·obtain⟨c,h1,_⟩:=hcs i _ (List.getElem?_eq_getElem (by omega));simp[BU.still,h1]
     ·have hi:i<cs.length:=by rw[<-hlen];exact(List.getElem?_eq_some_iff.1 B).1
      exact e3.2 i x _ B (by simp[hi])
  ·cases G
 ·exact QB g h v v' h' G
theorem Sa{P:Program}(g:Gd):P6 P g (W9 g):=by
 intro h v v' h' G;unfold W9 at G;split at G
 ·simp only[zh,ze]at G;obtain⟨⟨l,N⟩,O,rfl,rfl⟩:=G;obtain⟨k1,q1⟩:=Ns (SW g) _ h l N O;refine⟨k1,λw0 m w u r J=>?_⟩;obtain⟨c,rfl,vc⟩:=J.Kl;obtain⟨m1,e1,e2,e3⟩:=q1 w0 m w _ r vc;exact⟨m1,e1,e2,B5.tuple e3⟩
 ·exact SW g h v v' h' G
theorem L5(Z:Ie C)(X:Ik C n S):GH C.P C.C4 (HT C S):=by
 intro g h f args v h' hc;unfold HT at hc;split at hc
 ·rename_i U;obtain⟨k1,k2⟩:=HD Z X (.inl U) hc;exact⟨k1,λw0 m w cargs K r J=>k2 w0 m w cargs K r (J.CB _)⟩
 ·rename_i U;have:=Z.ext f U g h f args v h' (by simpa using hc);exact this
 ·rename_i U;split at hc
  ·rename_i u h1 L;obtain⟨k1,k2⟩:=HD Z X (by omega) L;refine⟨k1.trans (SN (P:=C.P) g h1 u v h' hc).1,λw0 m w cargs K r J=>(k2 w0 m w cargs K r (J.CB _)).mono λv' w' ⟨m',g1,g2,g3⟩=>?_⟩;obtain⟨m2,e1,e2,e3⟩:=(SN (P:=C.P) g h1 u v h' hc).2 _ m' w' v' g2 g3;exact⟨m2,g1.trans e1 k1.1,e2,e3⟩
  ·cases hc
 ·rename_i U;split at hc
  ·rename_i u h1 L;obtain⟨k1,k2⟩:=HD Z X (by omega) L;refine⟨k1.trans (Sa (P:=C.P) g h1 u v h' hc).1,λw0 m w cargs K r J=>(k2 w0 m w cargs K r (J.CB _)).mono λv' w' ⟨m',g1,g2,g3⟩=>?_⟩;obtain⟨m2,e1,e2,e3⟩:=(Sa (P:=C.P) g h1 u v h' hc).2 _ m' w' v' g2 g3;exact⟨m2,g1.trans e1 k1.1,e2,e3⟩
  ·cases hc
 ·cases hc
theorem L9(Z:Ie C):∀n,Ik C n (CV C n)
 |0=>⟨⟨λg h f args v h' hc=>by simp[CV]at hc,λg h l args v h' hc=>by simp[CV]at hc⟩,λg f c fr h e fr' h' _ B=>by simp[CV]at B,λg f c fr h e fr' h' _ B=>by simp[CV]at B⟩
 |n+1=>by
  have ih:=L9 Z n;refine⟨⟨L5 Z ih,QC (S:=CV C n)⟩,λg f c fr h e fr' h' D B=>?_,λg f c fr h e fr' h' D B w0 mS m w a Q K r G H M rd I=>?_⟩
  ·exact En ih (.loop c) (by simpa[codeOk]using D) B
  ·exact Lk Z ih D B K r G H M rd I
theorem NJ(Z:Ie C){n:Nat}{g:Gd}{h h':AE}{f:FuncId}{args:List AD}{v:AD}(W:Td C n g h f args=some (v,h')){w0:World}{m:BU}{w:World}{cargs:Array Value}(K:CL C.C4 w0)(r:Rel C.P w0 m h w)(J:B5 m args cargs.toList):
  Cl C.P f cargs w λv' w'=>∃m':BU,(m.ext h.size m')/\Rel C.P w0 m' h' w'/\VR m' v v':=
 ((L9 Z n).sub.call g h f args v h' W).2 w0 m w cargs K r J
theorem SL (Z:Ie C) {n:Nat} {g:Gd} {h h':AE} {f:FuncId} {args:List AD} {v:AD} (W:Td C n g h f args=some (v,h')) {fn:Func} {c:Code} (hfn:C.P.funcs[f]?=some fn) (hn:(fn.name=="runtime.NumGoroutine")=false) (L:fn.body=some c)
  {w0:World} {m:BU} {w:World} {cargs:Array Value} (K:CL C.C4 w0) (r:Rel C.P w0 m h w) (J:B5 m args cargs.toList):
  Calls C.P f cargs w λe w'=>∃v',e=.returned v'/\∃m':BU,(m.ext h.size m')/\Rel C.P w0 m' h' w'/\VR m' v v':=by
 have:=NJ Z W K r J;unfold Cl at this;rw[IY hfn hn L]at this;exact this
end
end Go.Av
end
