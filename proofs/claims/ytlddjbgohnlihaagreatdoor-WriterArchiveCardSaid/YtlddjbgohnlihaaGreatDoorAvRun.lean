/-
 A part.
-/
import Derived.Test.YtlddjbgohnlihaaGreatDoorAvSelW
import Derived.Test.YtlddjbgohnlihaaGreatDoorAvMs
import Derived.RangeFuncRecord
namespace Go.Av
set_option linter.unusedVariables false
set_option linter.unusedSimpArgs false
open Go.RowKit
def codeOk(C:Gp)(f:FuncId):Code→Bool
 | .region id ops draw=> !draw||P3 C.P ops (C.MR f id)
 | .seq a b=>codeOk C f a&&codeOk C f b
 | .cond _ a b=>codeOk C f a&&codeOk C f b
 | .block _ c=>codeOk C f c
 | .loop c=>codeOk C f c
 | .scope c=>codeOk C f c
 | .rangeFunc _ _ a b=>codeOk C f a&&codeOk C f b
 |_=>true
def IZ:Code→Bool
 | .seq a b=>IZ a&&IZ b
 | .cond _ a b=>IZ a&&IZ b
 | .block _ c=>IZ c
 | .loop c=>IZ c
 | .scope c=>IZ c
 | .rangeFunc .. =>false
 |_=>true
structure KM(C:Gp):Prop where
 mix:C.P.follows .mixedOrders=true
 code:∀f fn c,(C.kind f=1∨C.kind f=2∨C.kind f=4∨C.kind f=7∨C.kind f=8∨C.kind f=9∨C.kind f=10∨C.kind f=11)→C.P.funcs[f]?=some fn→fn.body=some c→(fn.name=="runtime.NumGoroutine")=false∧codeOk C f c=true
 dm:∀f a b,C.dm f a b=true→codeOk C f a=true∧codeOk C f b=true∧IZ a=true∧IZ b=true
 ext:∀f,C.kind f=3→SO C.P C.Cx fun g h f' args=>if f'=f then C.ext f g h args else none
def CI.to:CI→Exit
 | .normal=>.normal
 | .exit id=>.exit id
 | .ret=>.ret
def mark(r:Nat):Deferred:={target:=.collected r,args:=#[]}
def Mk(mS m:BD)(ds:List Deferred):Prop:=(∀g x,mS.df g x→m.df g x)∧∃rs:List Nat,ds=rs.map mark∧rs.Nodup∧∀r∈rs,m.df r (.deferred (some []))∧∀x,¬mS.df r x
theorem Mk.nil(m:BD):Mk m m []:=⟨fun _ _ h=>h,[],rfl,xw,fun r h=>by cases h⟩
theorem Mk.ext{mS m m':BD}{n:Nat}{ds:List Deferred}(h:Mk mS m ds)(k:m.ext n m'):Mk mS m' ds:=by
 obtain⟨h1,rs,h2,h3,h4⟩:=h;exact⟨fun g x J=>k.df g x (h1 g x J),rs,h2,h3,fun r W=>⟨k.df r _ (h4 r W).1,(h4 r W).2⟩⟩
def OY(P:Program)(w0:World)(mS m:BD)(n:Nat)(e:CI)(fr':Fr)(h':AI)(Q:Exit→Act→World→Prop):Prop:=
 ∀m' a' w',(m.ext n m')→Rel P w0 m' h' w'→FR m' fr' a'→Mk mS m' a'.defers→Q e.to a' w'
structure IL(C:Gp)(n:Nat)(S:Self):Prop where
 sub:GK C.P C.Cx S
 keeps:∀g f c fr h e fr' h',codeOk C f c=true→S.loop g f c fr h=some (e,fr',h')→BE g h h'∧fr'.length=fr.length
 loop:∀g f c fr h e fr' h',codeOk C f c=true→S.loop g f c fr h=some (e,fr',h')→∀w0 mS m w a Q,Bh C.Cx w0→Rel C.P w0 m h w→FR m fr a→Mk mS m a.defers→OY C.P w0 mS m h.size e fr' h' Q→∀rd:Option Nat,rd=none∨IZ c=true→Code.roundsIn (FW rd) 0 C.P c Q n a w
section
variable {C:Gp} {S:Self} {n:Nat}
theorem Dy(M:IL C n S){f:FuncId}{g:Gd}:∀(c:Code),codeOk C f c=true→∀{fr:Fr} {h:AI} {e:CI} {fr':Fr} {h':AI},BU C S f g c fr h=some (e,fr',h')→BE g h h'∧fr'.length=fr.length:=by
 intro c
 induction c with
 |skip=>intro _ fr h e fr' h' B;simp only[BU,zd,zg]at B;obtain⟨_,rfl,rfl⟩:=B;exact⟨BE.refl _ _,rfl⟩
 |label l=>intro _ fr h e fr' h' B;simp only[BU,zd,zg]at B;obtain⟨_,rfl,rfl⟩:=B;exact⟨BE.refl _ _,rfl⟩
 |exit id=>intro _ fr h e fr' h' B;simp only[BU,zd,zg]at B;obtain⟨_,rfl,rfl⟩:=B;exact⟨BE.refl _ _,rfl⟩
 |ret=>intro _ fr h e fr' h' B;simp only[BU,zd,zg]at B;obtain⟨_,rfl,rfl⟩:=B;exact⟨BE.refl _ _,rfl⟩
 |goto l=>intro _ fr h e fr' h' B;simp[BU]at B
 |refuse s=>intro _ fr h e fr' h' B;simp[BU]at B
 |rangeFunc x ps a b iha ihb=>intro _ fr h e fr' h' B;simp[BU]at B
 | region id ops draw=>
  intro D fr h e fr' h' B;simp only[BU]at B;cases draw with
  | true=>
   simp only[zW]at B;split at B
   ·rename_i fr1 h1 W;simp only[zd,zg]at B;obtain⟨_,rfl,rfl⟩:=B;exact Ql (by simpa[codeOk]using D) M.sub W
   ·cases B
  | false=>
   simp only[y9]at B;split at B
   ·rename_i fr1 h1 W;simp only[zd,zg]at B;obtain⟨_,rfl,rfl⟩:=B;exact Ec M.sub _ W
   ·cases B
 | seq a b iha ihb=>
  intro D fr h e fr' h' B;simp only[codeOk,zh]at D;simp only[BU]at B;split at B
  ·rename_i fr1 h1 ha;obtain⟨k1,k2⟩:=iha D.1 ha;obtain⟨k3,k4⟩:=ihb D.2 B;exact⟨k1.trans k3,k4.trans k2⟩
  ·exact iha D.1 B
 |cond c a b iha ihb=>
  intro D fr h e fr' h' B;simp only[codeOk,zh]at D;simp only[BU]at B;split at B
  ·exact iha D.1 B
  ·exact ihb D.2 B
  ·cases B
 | block id c ih=>
  intro D fr h e fr' h' B;simp only[codeOk]at D;simp only[BU]at B;split at B
  ·rename_i i fr1 h1 ha;have hk:=ih D ha;cases O:Nat.beq i id<;>rw[O]at B<;>simp only[zW,y9,zd,zg]at B<;>obtain⟨_,rfl,rfl⟩:=B<;>exact hk
  ·exact ih D B
 | loop c ih=>
  intro D fr h e fr' h' B;simp only[codeOk]at D;simp only[BU]at B;split at B
  ·rename_i fr1 h1 ha;obtain⟨k1,k2⟩:=ih D ha;obtain⟨k3,k4⟩:=M.keeps g f c fr1 h1 e fr' h' D B;exact⟨k1.trans k3,k4.trans k2⟩
  ·exact ih D B
 |scope c ih=>
  intro D fr h e fr' h' B;simp only[codeOk]at D;simp only[BU]at B;exact ih D B
theorem OY.trans{P:Program}{w0:World}{mS m m1:BD}{k k1:Nat}{e:CI}{fr':Fr}{h':AI}{Q:Exit→Act→World→Prop}(V:OY P w0 mS m k e fr' h' Q)(hk:k≤k1)(h1:m.ext k m1):OY P w0 mS m1 k1 e fr' h' Q:=
 fun m' a' w' g1 g2 g3 g4=>V m' a' w' (h1.trans g1 hk) g2 g3 g4
theorem HG {P:Program} {f:FuncId} {fn:Func} {c:Code} (H:P.funcs[f]?=some fn) (hn:(fn.name=="runtime.NumGoroutine")=false) (O:fn.body=some c) (args:Array Value) (w:World):
  (callFunc f args).run P w=.ok (.enter f args) w:=by
 unfold callFunc;simp only[Sem.run_bind,program,Sem.run,Result.andThen_ok,H];simp[hn,O]
theorem TD(w:World)(g:Nat)(o:Obj):Ex w (w.putObj g o) g:=⟨rfl,rfl,rfl,by simp[World.putObj],fun k hk U=>by simp[World.putObj,Ne.symm U]⟩
theorem H5(Z:KM C)(M:IL C n S){f:FuncId}{g:Gd}:∀(c:Code),codeOk C f c=true→∀{fr:Fr} {h:AI} {e:CI} {fr':Fr} {h':AI},BU C S f g c fr h=some (e,fr',h')→
  ∀{w0:World} {mS m:BD} {w:World} {a:Act} {Q:Exit→Act→World→Prop},Bh C.Cx w0→Rel C.P w0 m h w→FR m fr a→Mk mS m a.defers→OY C.P w0 mS m h.size e fr' h' Q→∀rd:Option Nat,rd=none∨IZ c=true→c.wpIn (FW rd) 0 C.P Q a w:=by
 intro c
 induction c with
 |skip=>intro _ fr h e fr' h' B w0 mS m w a Q L r H G V rd N;simp only[BU,zd,zg]at B;obtain⟨rfl,rfl,rfl⟩:=B;exact wpIn_skip (V m a w (BD.ext.refl _ _) r H G)
 |label l=>intro _ fr h e fr' h' B w0 mS m w a Q L r H G V rd N;simp only[BU,zd,zg]at B;obtain⟨rfl,rfl,rfl⟩:=B;exact wpIn_label (V m a w (BD.ext.refl _ _) r H G)
 |exit id=>intro _ fr h e fr' h' B w0 mS m w a Q L r H G V rd N;simp only[BU,zd,zg]at B;obtain⟨rfl,rfl,rfl⟩:=B;exact wpIn_exit (V m a w (BD.ext.refl _ _) r H G)
 |ret=>intro _ fr h e fr' h' B w0 mS m w a Q L r H G V rd N;simp only[BU,zd,zg]at B;obtain⟨rfl,rfl,rfl⟩:=B;exact wpIn_ret (V m a w (BD.ext.refl _ _) r H G)
 |goto l=>intro _ fr h e fr' h' B;simp[BU]at B
 |refuse s=>intro _ fr h e fr' h' B;simp[BU]at B
 |rangeFunc x ps ca cb iha ihb=>intro _ fr h e fr' h' B;simp[BU]at B
 | region id ops draw=>
  intro D fr h e fr' h' B w0 mS m w a Q L r H G V rd N;simp only[BU]at B;cases draw with
  | true=>
   simp only[zW]at B;split at B
   ·rename_i fr1 h1 W;simp only[zd,zg]at B;obtain⟨rfl,rfl,rfl⟩:=B;exact Qb Z.mix (by simpa[codeOk]using D) M.sub L r H W (fun m' a' w' g1 g2 g3 g4=>V m' a' w' g1 g2 g3 (by rw[g4];exact G.ext g1)) rd
   ·cases B
  | false=>
   simp only[y9]at B;split at B
   ·rename_i fr1 h1 W;simp only[zd,zg]at B;obtain⟨rfl,rfl,rfl⟩:=B;exact wpIn_region_list (GQ M.sub L _ r H W (fun m' a' w' g1 g2 g3 g4=>V m' a' w' g1 g2 g3 (by rw[g4];exact G.ext g1)) rd)
   ·cases B
 | seq x y iha ihb=>
  intro D fr h e fr' h' B w0 mS m w a Q L r H G V rd N;simp only[codeOk,zh]at D;simp only[BU]at B;split at B
  ·rename_i fr1 h1 ha;have hk:=(Dy M x D.1 ha).1;refine wpIn_seq (iha D.1 ha L r H G (fun m1 a1 w1 g1 g2 g3 g4=>?_) rd (N.imp (fun h=>h) fun h=>by simp only[IZ,zh]at h;exact h.1));exact ihb D.2 B L g2 g3 g4 (V.trans hk.1 g1) rd (N.imp (fun h=>h) fun h=>by simp only[IZ,zh]at h;exact h.2)
  ·rename_i U;refine wpIn_seq (iha D.1 B L r H G (fun m1 a1 w1 g1 g2 g3 g4=>?_) rd (N.imp (fun h=>h) fun h=>by simp only[IZ,zh]at h;exact h.1));have hq:=V m1 a1 w1 g1 g2 g3 g4;cases e with
   |normal=>exact absurd B (U _ _)
   |exit id=>exact hq
   |ret=>exact hq
 |cond c x y iha ihb=>
  intro D fr h e fr' h' B w0 mS m w a Q L r H G V rd N;simp only[codeOk,zh]at D;simp only[BU]at B;have I:=H.ev c;split at B
  ·rename_i hc;rw[hc]at I;exact wpIn_cond_true I.KT (iha D.1 B L r H G V rd (N.imp (fun h=>h) fun h=>by simp only[IZ,zh]at h;exact h.1))
  ·rename_i hc;rw[hc]at I;exact wpIn_cond_false I.KT (ihb D.2 B L r H G V rd (N.imp (fun h=>h) fun h=>by simp only[IZ,zh]at h;exact h.2))
  ·cases B
 | block id c ih=>
  intro D fr h e fr' h' B w0 mS m w a Q L r H G V rd N;simp only[codeOk]at D;simp only[BU]at B;split at B
  ·rename_i i fr1 h1 ha;refine wpIn_block (ih D ha L r H G (fun m1 a1 w1 g1 g2 g3 g4=>?_) rd (N.imp (fun h=>h) fun h=>by simpa[IZ]using h));show(if i=id then Q .normal a1 w1 else Q (.exit i) a1 w1);cases O:Nat.beq i id with
   |true=>
    rw[O]at B;simp only[zW,zd,zg]at B;obtain⟨rfl,rfl,rfl⟩:=B;rw[zm (zu O)];exact V m1 a1 w1 g1 g2 g3 g4
   |false=>
    rw[O]at B;simp only[y9,zd,zg]at B;obtain⟨rfl,rfl,rfl⟩:=B;rw[zk (fun e=>by rw[e,ym]at O;cases O)];exact V m1 a1 w1 g1 g2 g3 g4
  ·rename_i U;refine wpIn_block (ih D B L r H G (fun m1 a1 w1 g1 g2 g3 g4=>?_) rd (N.imp (fun h=>h) fun h=>by simpa[IZ]using h));have hq:=V m1 a1 w1 g1 g2 g3 g4;cases e with
   |normal=>exact hq
   |exit i=>exact absurd B (U _ _ _)
   |ret=>exact hq
 | loop c ih=>
  intro D fr h e fr' h' B w0 mS m w a Q L r H G V rd N;simp only[codeOk]at D;simp only[BU]at B;have hrd':rd=none∨IZ c=true:=N.imp (fun h=>h) fun h=>by simpa[IZ]using h
  refine wpIn_loop_rounds (n+1) ?_;rw[roundsIn_succ];split at B
  ·rename_i fr1 h1 ha;have hk:=(Dy M c D ha).1;refine ih D ha L r H G (fun m1 a1 w1 g1 g2 g3 g4=>?_) rd hrd';exact M.loop g f c fr1 h1 e fr' h' D B w0 mS m1 w1 a1 Q L g2 g3 g4 (V.trans hk.1 g1) rd hrd'
  ·rename_i U;refine ih D B L r H G (fun m1 a1 w1 g1 g2 g3 g4=>?_) rd hrd';have hq:=V m1 a1 w1 g1 g2 g3 g4;cases e with
   |normal=>exact absurd B (U _ _)
   |exit id=>exact hq
   |ret=>exact hq
 |scope c ih=>
  intro D fr h e fr' h' B w0 mS m w a Q L r H G V rd N;simp only[codeOk]at D;simp only[BU]at B;refine Up (ih D B L r H G (fun m1 a1 w1 g1 g2 g3 g4=>?_) rd (N.imp (fun h=>h) fun h=>by simpa[IZ]using h));have hq:=V m1 a1 w1 g1 g2 g3 g4;cases e with
  |normal=>exact hq
  |exit i=>exact hq
  |ret=>exact hq
theorem Rr(Z:KM C)(M:IL C n S){f:FuncId}{g:Gd}{c:Code}(D:codeOk C f c=true){fr:Fr}{h:AI}{e:CI}{fr':Fr}{h':AI}(B:BU C S f g (.loop c) fr h=some (e,fr',h'))
  {w0:World} {mS m:BD} {w:World} {a:Act} {Q:Exit→Act→World→Prop} (L:Bh C.Cx w0) (r:Rel C.P w0 m h w) (H:FR m fr a) (G:Mk mS m a.defers) (V:OY C.P w0 mS m h.size e fr' h' Q) (rd:Option Nat) (N:rd=none∨IZ c=true):Code.roundsIn (FW rd) 0 C.P c Q (n+1) a w:=by
 simp only[BU]at B;rw[roundsIn_succ];split at B
 ·rename_i fr1 h1 ha;have hk:=(Dy M c D ha).1;refine H5 Z M c D ha L r H G (fun m1 a1 w1 g1 g2 g3 g4=>?_) rd N;exact M.loop g f c fr1 h1 e fr' h' D B w0 mS m1 w1 a1 Q L g2 g3 g4 (V.trans hk.1 g1) rd N
 ·rename_i U;refine H5 Z M c D B L r H G (fun m1 a1 w1 g1 g2 g3 g4=>?_) rd N;have hq:=V m1 a1 w1 g1 g2 g3 g4;cases e with
  |normal=>exact absurd B (U _ _)
  |exit id=>exact hq
  |ret=>exact hq
theorem SQ:Vb C.P C.Cx (Y5 C S):=fun g h l args v h' W=>by cases W
theorem QX{P:Program}{w0:World}{m:BD}{h:AI}{w:World}(r:Rel P w0 m h w){fr:Fr}{a:Act}(H:FR m fr a){x:ResultVar}{v:AB}(B:Ht P fr h x=some v):
  ∃v',(match x with| .tmp t=>pure (a.tmps.getD t undef)| .cell c t=>do loadVar t (←asAddr (a.tmps.getD c undef)):Sem Value).run P w=.ok v' w∧VR m v v':=by
 cases x with
 |tmp t=>simp only[Ht,zd]at B;subst B;exact⟨_,rfl,H.2 t⟩
 | cell c t=>
  simp only[Ht]at B;split at B
  ·rename_i id o hc;have I:=H.2 c;rw[hc]at I;generalize hq:a.tmps.getD c undef=q at I;cases I with
   |ptr _ _ E hE=>
    obtain⟨v',h1,h2⟩:=Lz r hE B;exact⟨v',by simp[hq,asAddr,h1],h2⟩
  ·cases B
theorem ND{P:Program}{w0:World}{m:BD}{h:AI}{w:World}(r:Rel P w0 m h w){fr:Fr}{a:Act}(H:FR m fr a):∀(l:List ResultVar) (vs:List AB),l.mapM (Ht P fr h)=some vs→
  ∃vs',(l.mapM (fun| .tmp t=>pure (a.tmps.getD t undef)| .cell c t=>do loadVar t (←asAddr (a.tmps.getD c undef)):ResultVar→Sem Value)).run P w=.ok vs' w∧CM m vs vs'
 |[],vs,T=>by simp at T;subst T;exact⟨[],by simp,.nil m⟩
 |x::l,vs,T=>by
  rw[qX]at T;simp only[bind,Option.bind_eq_some_iff,pure,zd]at T;obtain⟨v,I,us,hus,rfl⟩:=T;obtain⟨v',h1,h2⟩:=QX r H I;obtain⟨us',h3,h4⟩:=ND r H l us hus;refine⟨v'::us',?_,.cons h2 h4⟩;rw[qX];simp only[Sem.run_bind];cases x<;>simp only at h1<;>rw[h1]<;>simp only[Result.andThen_ok,h3,Sem.run_pure]
theorem JR{P:Program}{w0:World}{m:BD}{h:AI}{w:World}(r:Rel P w0 m h w){fn:Func}{fr:Fr}{a:Act}(H:FR m fr a){v:AB}(B:Ek P fn fr h=some v):
  ∃v',(results fn a.tmps).run P w=.ok v' w∧VR m v v':=by
 unfold Ek at B;have key:∀vs,fn.results.toList.mapM (Ht P fr h)=some vs→∃vs',(results fn a.tmps).run P w=.ok (if Y:vs'.length=1 then vs'[0]else .tuple vs'.toArray) w∧CM m vs vs':=by
  intro vs hvs;obtain⟨vs',h1,h2⟩:=ND r H _ _ hvs;refine⟨vs',?_,h2⟩;unfold results;rw[Array.mapM_eq_mapM_toList];simp only[Sem.run_bind,Sem.run_map]
  erw [h1]
  simp
 split at B
 ·rename_i u hu;injection B with B;subst B;obtain⟨vs',h1,h2⟩:=key _ hu;have T:vs'.length=1:=by rw[←h2.1];rfl
  rw[dif_pos T]at h1;exact⟨_,h1,h2.2 0 u _ rfl (by simp[T])⟩
 ·rename_i us U hus;injection B with B;subst B;obtain⟨vs',h1,h2⟩:=key _ hus;have T:¬vs'.length=1:=by
   rw[←h2.1];intro T
   match us,T with
   |[u],_=>exact U u rfl
  rw[dif_neg T]at h1;exact⟨_,h1,CM.tuple (by simpa using h2)⟩
 ·cases B
theorem Ip{P:Program}{w0:World}{h:AI}{fn:Func}{tmps:Array Value}{R:Ending→World→Prop}:∀(rs:List Nat),rs.Nodup→∀(m:BD) (w:World),Rel P w0 m h w→(∀r∈rs,m.df r (.deferred (some [])))→
  (∀(m':BD) w',m'.i=m.i→m'.fz=m.fz→(∀g x,m.df g x→g∉rs→m'.df g x)→Rel P w0 m' h w'→LeavesIn Fence.wide 0 P fn tmps R [] .returning w')→LeavesInM Fence.wide 0 P fn tmps R (rs.map mark) .returning w
 |[],_,m,w,r,_,hk=>hk m w rfl rfl (fun _ _ h _=>h) r
 | r0::rs,hn,m,w,r,hd,hk=>by
  obtain⟨hn1,hn2⟩:=yQ.1 hn;have O:=(r.df r0 _ (hd r0 (by simp))).2;refine⟨by simp,.inl ⟨r0,_,rfl,run_takeDeferred O,?_⟩⟩;have ht:=TD w r0 (.deferred none);have r':Rel P w0 ⟨m.i,m.fz,fun k x=>m.df k x∧k≠r0⟩ h (w.putObj r0 (.deferred none)):=by
   refine⟨ht.below r.below r.size (r.df r0 _ (hd r0 (by simp))).1,r.OX,fun id E o hE ho=>K3.mono (m:=m) ⟨fun _ _ h=>h,fun _ _ _ h=>h⟩ (fun T=>ht.block _ ((r.obj id E o hE ho).lt T) fun e=>?_) (r.obj id E o hE ho),r.own,r.sep,fun g o v I=>?_,r.JZ,fun g x J=>⟨(r.df g x J.1).1,?_⟩,fun id E o hE ho T x J=>r.PA id E o hE ho T x J.1⟩
   ·exact r.PA id E o hE ho T _ (e ▸ hd r0 (by simp))
   ·obtain⟨cur,e,z,h1,h2⟩:=r.fz g o v I;refine⟨cur,e,z,?_,h2⟩;rw[ht.block g (r.Sj I) (fun e'=>by subst e';rw[O]at h1;cases h1)];exact h1
   ·rw[ht.block g (r.Pf J.1) J.2];exact(r.df g x J.1).2
  refine Ip rs hn2 _ _ r' (fun k hk'=>⟨hd k (by simp[hk']),fun e=>hn1 (e ▸ hk')⟩) fun m' w' e1 e2 e3 e4=>hk m' w' e1 e2 (fun g x J hno=>e3 g x ⟨J,fun e=>hno (by simp[e])⟩ fun hm=>hno (by simp[hm])) e4
theorem IC(Z:KM C)(M:IL C n S){g:Gd}{h h':AI}{f:FuncId}{args:List AB}{v:AB}(hk:C.kind f=1∨C.kind f=2∨C.kind f=4∨C.kind f=7∨C.kind f=8∨C.kind f=9∨C.kind f=10∨C.kind f=11)(O:Ja C S g h f args=some (v,h')):
  BE g h h'∧∀w0 m w (cargs:Array Value),Bh C.Cx w0→Rel C.P w0 m h w→CM m args cargs.toList→DX C.P f cargs w fun v' w'=>∃m':BD,(m.ext h.size m')∧Rel C.P w0 m' h' w'∧VR m' v v':=by
 unfold Ja at O;split at O
 ·cases O
 ·rename_i fn hfn;split at O
  ·cases O
  ·rename_i c hc;obtain⟨hn,D⟩:=Z.code f fn c hk hfn hc;have main:∀e fr1 h1,e=CI.normal∨e=CI.ret→BU C S f g c (args++List.replicate (fn.ntmps - args.length) (.tuple [])) h=some (e,fr1,h1)→(Ek C.P fn fr1 h1).map (·,h1)=some (v,h')→
     BE g h h'∧∀w0 m w (cargs:Array Value),Bh C.Cx w0→Rel C.P w0 m h w→CM m args cargs.toList→DX C.P f cargs w fun v' w'=>∃m':BD,(m.ext h.size m')∧Rel C.P w0 m' h' w'∧VR m' v v':=by
    intro e fr1 h1 he B hres;simp only[zl,zg]at hres;obtain⟨u,hu,rfl,rfl⟩:=hres;refine⟨(Dy M c D B).1,fun w0 m w cargs L r I=>?_⟩;unfold DX;rw[HG hfn hn hc];simp only;have hlen:args.length=cargs.size:=by rw[I.1];simp
    refine(callsIn_wide (n:=0)).1 (callsIn_of_wp_marks hfn hc trivial (H5 Z M c D B L r ⟨by simp[hlen],fun i=>?_⟩ (Mk.nil m) (fun m1 a1 w1 g1 g2 g3 g4=>?_) none (.inl rfl)))
    ·rw[FZ,zo];simp only[zr];by_cases hi:i<args.length
     ·rw[List.getElem?_append_left hi,Array.getElem?_append_left (by omega)];rw[List.getElem?_eq_getElem hi,Array.getElem?_eq_getElem (by omega)];exact I.2 i _ _ (List.getElem?_eq_getElem hi) (by simp[←hlen,hi])
     ·rw[List.getElem?_append_right (by omega),Array.getElem?_append_right (by omega)];rw[List.getElem?_replicate,Array.getElem?_replicate,hlen];split
      ·exact VR.Gs m
      ·exact VR.Gs m
    ·have fin:LeavesInM Fence.wide 0 C.P fn a1.tmps (fun e w'=>∃v',e=.returned v'∧∃m':BD,(m.ext h.size m')∧Rel C.P w0 m' h1 w'∧VR m' u v') a1.defers .returning w1:=by
      obtain⟨_,rs,e1,e2,e3⟩:=g4;rw[e1];refine Ip rs e2 m1 w1 g2 (fun r W=>(e3 r W).1) fun m2 w2 d1 d2 d3 d4=>?_;have hle:m1.le m2:=⟨fun id E hE=>by rw[d1];exact hE,fun g o v I=>by rw[d2];exact I⟩;obtain⟨v',q1,q2⟩:=JR d4 (g3.mono hle) hu;exact⟨v',q1,v',rfl,m2,⟨fun id hid=>by rw[d1];exact g1.i id hid,fun g o v I=>by rw[d2];exact g1.fz g o v I,fun g x J=>d3 g x (g1.df g x J) fun hm=>(e3 g hm).2 x J⟩,d4,q2⟩
     rcases he with rfl|rfl
     ·exact fin
     ·exact fin
   split at O
   ·rename_i fr1 h1 B;exact main .normal fr1 h1 (.inl rfl) B O
   ·rename_i fr1 h1 B;exact main .ret fr1 h1 (.inr rfl) B O
   ·cases O
theorem Q8(M:IL C n S){f:FuncId}{q:UH}(D:codeOk C f q.body=true){ks rs:List Nat}{it:Nat}{tI te:Tmp}{rest:List Oper}{Y:AI}{ob:RI}{σ:Fr×List AB}{p:AB×AB}{x:Bool×Fr×List AB}(B:KJ C S f q ks rs it tI te rest Y ob σ p=some x):x.2.1.length=σ.1.length:=by
 unfold KJ at B;split at B
 ·rename_i fr2 h2 W;have k1:=(Ec M.sub _ W).2;rw[yp]at k1;split at B
  ·rename_i fr h3 he;have k2:=(Dy M _ D he).2;rw[(Jl (LM B).2).2.2.1,Cv,k2,k1]
  ·rename_i i fr h3 he;have k2:=(Dy M _ D he).2;rw[(Jl (LM B).2).2.2.1,Cv,k2,k1]
  ·rename_i fr h3 he;have k2:=(Dy M _ D he).2;rw[(Jl B).2.2.1,Cv,k2,k1]
  ·cases B
 ·cases B
theorem M6{rnd:Fr×List AB→AB×AB→Option (Bool×Fr×List AB)}(W:∀{σ p x},rnd σ p=some x→x.2.1.length=σ.1.length):∀(l:List (AB×AB)) {σ:Fr×List AB} {x:Bool×Fr×List AB},De rnd l σ=some x→x.2.1.length=σ.1.length
 |[],σ,x,h=>by simp only[De,zd]at h;rw[←h]
 | p::l,σ,x,h=>by
  simp only[De]at h;cases hp:rnd σ p with
  |none=>rw[hp]at h;cases h
  |some y=>
   obtain⟨b,z⟩:=y;have:=W hp;cases b with
   |true=>rw[hp]at h;cases h;exact this
   |false=>rw[hp]at h;exact(M6 W l h).trans this
structure dp(C:Gp)(S:Self)(f:FuncId)(q:UH)(g:Gd)(fr:Fr)(h:AI)(x:CI×Fr×AI)(ks rs:List Nat)(orng:Oper)(fr1:Fr)(h1:AI)(tM:TypeId)(y:Operand)(tI:Tmp)(id:Nat)(kt et:TypeId)(tn te:Tmp)(rest:List Oper)(es:List (AB×AB))(ob:RI)(cs0:List AB)(ret:Bool)(frE:Fr)(csE:List AB):Prop where
 last:q.o8.toList=q.o8.toList.dropLast++[orng]
 pre:D3 C S g q.o8 q.o8.toList.dropLast fr h=some (fr1,h1)
 op:orng.op=.range tM y
 dst:orng.dst=some tI
 gu:orng.guard=none
 ev:ev fr1 y=.map (some id)
 cZ:C.P.underlying tM=some (.map kt et)
 nx:YE q.o9 tI q.tb=some tn
 en:ZI q.Sc tI=some (te,rest)
 get:h1.get id=some (.map 2 es)
 may:g.may id=true
 eD:V9 g ob=true
 cN:∀id' gr,ob=some (id',gr)→h1.get id'=some (.cells gr 2 cs0)
 Hr:(Er ks 0 (fr1.set tI (.ptr (some (h1.size,0))))).all (JW (h1.size+1))=true
 W2:NL h1.size (nth (Er ks 0 (fr1.set tI (.ptr (some (h1.size,0))))) tI)=true
 free:QK ks fr1.length tn q.tb=true
 flat:cs0.all Mg=true
 fold:De (KJ C S f q ks rs h1.size tI te rest ((h1.set id (.map 0 [])).push (.cells none 0 [])) ob) es (Er ks 0 (fr1.set tI (.ptr (some (h1.size,0)))),cs0)=some (ret,frE,csE)
 perm:C.dec.1 (∀es',es'.Perm es→De (KJ C S f q ks rs h1.size tI te rest ((h1.set id (.map 0 [])).push (.cells none 0 [])) ob) es' (Er ks 0 (fr1.set tI (.ptr (some (h1.size,0)))),cs0)=some (ret,frE,csE))=true
 out:x=(bif ret then .ret else .normal,frE,Df ((h1.set id (.map 0 [])).push (.cells none 0 [])) ob csE)
theorem XH{h:AI}{fr:Fr}{ot:Option Tmp}{ob:RI}{cs:List AB}(B:TJ h fr ot=some (ob,cs)):∀id gr,ob=some (id,gr)→h.get id=some (.cells gr 2 cs):=by
 unfold TJ at B;split at B
 ·cases B;intro _ _ e;cases e
 ·split at B
  ·split at B
   ·rename_i J;cases B;intro _ _ e;cases e;exact J
   ·cases B
  ·cases B
theorem UF{f:FuncId}{q:UH}{g:Gd}{fr:Fr}{h:AI}{x:CI×Fr×AI}(B:NI C S f q g fr h=some x):∃ks rs orng fr1 h1 tM y tI id kt et tn te rest es ob cs0 ret frE csE,dp C S f q g fr h x ks rs orng fr1 h1 tM y tI id kt et tn te rest es ob cs0 ret frE csE:=by
 unfold NI at B;split at B
 rotate_left
 ·cases B
 rename_i ks rs ot orng fr1 h1 hmk hlast hpre;unfold Oa at B;split at B
 rotate_left
 ·cases B
 rename_i tM y tI hop hdst hgu;split at B
 rotate_left
 ·cases B
 rename_i id kt et tn te rest hev hund hnx hen;split at B
 rotate_left
 ·cases B
 rename_i es ob cs0 hget hobj;cases hc:(g.may id&&V9 g ob&&(Er ks 0 (fr1.set tI (.ptr (some (h1.size,0))))).all (JW (h1.size+1))&&NL h1.size (nth (Er ks 0 (fr1.set tI (.ptr (some (h1.size,0))))) tI)&&QK ks fr1.length tn q.tb&&cs0.all Mg)with
 |false=>rw[hc]at B;cases B
 | true=>
  rw[hc]at B;simp only[zW]at B;simp only[zh]at hc;obtain⟨⟨⟨⟨⟨c1,c2⟩,c3⟩,c4⟩,c5⟩,c6⟩:=hc;unfold RG at B;split at B
  ·rename_i ret frE csE hfold
   ·obtain⟨hd,B⟩:=LM B;cases B;exact⟨ks,rs,orng,fr1,h1,tM,y,tI,id,kt,et,tn,te,rest,es,ob,cs0,ret,frE,csE,⟨Ph hlast,hpre,hop,hdst,hgu,hev,hund,hnx,hen,hget,c1,c2,XH hobj,c3,c4,c5,c6,hfold,hd,rfl⟩⟩
  ·cases B
theorem Tk(M:IL C n S){f:FuncId}{q:UH}{g:Gd}(D:codeOk C f q.body=true){fr:Fr}{h:AI}{e:CI}{fr':Fr}{h':AI}(B:NI C S f q g fr h=some (e,fr',h')):BE g h h'∧fr'.length=fr.length:=by
 obtain⟨ks,rs,orng,fr1,h1,tM,y,tI,id,kt,et,tn,te,rest,es,ob,cs0,ret,frE,csE,k⟩:=UF B;have ho:=k.out;injection ho with e1 ho;injection ho with e2 e3;obtain⟨k1,k2⟩:=Ec M.sub _ k.pre;have T:=M6 (fun W=>Q8 M D W) _ k.fold;simp only[Cv,yp]at T;refine⟨?_,by rw[e2,T,k2]⟩;have k3:BE g h1 ((h1.set id (.map 0 [])).push (.cells none 0 [])):=(BE.set k.get k.may).trans (BE.push _ _ _);rw[e3];refine(k1.trans k3).trans ?_;cases ob with
 |none=>exact BE.refl _ _
 | some p=>
  obtain⟨cN,gr⟩:=p;have J:=k.cN cN gr rfl;refine BE.set (o':=.cells gr 2 cs0) ?_ k.eD;have U:cN≠id:=by
   intro e;subst e;have:=k.get.symm.trans J;cases this
  rw[AI.Bz _ _ (by simpa using h1.BN J),AI.BX _ _ (h1.BN k.get) U];exact J
open Go.ChangeMaps in
theorem TF(Z:KM C)(M:IL C n S){f:FuncId}{g:Gd}{c:Code}{q:UH}(hc:QW c=some q)(D:codeOk C f q.body=true){fr:Fr}{h:AI}{e:CI}{fr':Fr}{h':AI}(B:NI C S f q g fr h=some (e,fr',h'))
  {w0:World} {mS m:BD} {w:World} {a:Act} {Q:Exit→Act→World→Prop} (L:Bh C.Cx w0) (r:Rel C.P w0 m h w) (H:FR m fr a) (G:Mk mS m a.defers) (V:OY C.P w0 mS m h.size e fr' h' Q):c.wpIn (FW none) 0 C.P Q a w:=by
 obtain⟨hbb,i8,i9,i10,rfl⟩:=SC hc;obtain⟨ks,rs,orng,fr1,h1,tM,y,tI,id,kt,et,tn,te,rest,es,ob,cs0,ret,frE,csE,MK⟩:=UF B;have hout:=MK.out;injection hout with oe hout;injection hout with ofr oh;have hperm:=C.dec.2.1 _ MK.perm;have hksz:=(Ec M.sub _ MK.pre).1.1;have hlen1:=(Ec M.sub _ MK.pre).2;obtain⟨Y,hhe⟩:∃Y,Y=(h1.set id (.map 0 [])).push (.cells none 0 []):=⟨_,rfl⟩;have hhsz:Y.size=h1.size+1:=by rw[hhe];simp
 obtain⟨rnd,hrnd⟩:∃rnd,rnd=KJ C S f q ks rs h1.size tI te rest Y ob:=⟨_,rfl⟩;rw[←hhe,←hrnd]at hperm;rw[←hhe]at oh;have hobl:∀id' gr,ob=some (id',gr)→id'<Y.size:=fun id' gr e=>by have:=h1.BN (MK.cN id' gr e);omega
 obtain⟨nx,ex,hl9,nop,ndst,ngu,xop,xdst,xgu,hne1,hne2⟩:=Z7 MK.nx;obtain⟨en,hl10,eop,edst,egu⟩:=Vz MK.en;refine wpIn_seq (wpIn_region_list ?_);rw[MK.last];refine Lf M.sub L _ r H MK.pre none (fun m1 a1 w1 g1 g2 g3 g4=>?_);have hk1:Mk mS m1 a1.defers:=by rw[g4];exact G.ext g1
 have hvx:=g3.ev y;rw[MK.ev]at hvx;generalize hqx:a1.eval y=vx at hvx;cases hvx with
 | map _ E1 hE1=>
  obtain⟨hEb,hmo⟩:=g2.obj id E1 _ hE1 MK.get;obtain⟨ents,clock,p1,p2,p3,p4⟩:=MQ.two (hmo (by decide)) (by decide);have hEg0:=g2.own id E1 _ hE1 MK.get rfl;have hrng:=run_range_map (P:=C.P) w1 tM kt et E1.g ents clock MK.cZ p1
  refine wpListIn_plain MK.gu fun K' hK=>OI (v:=.pointer (some ⟨w1.heap.size,0,none⟩)) (w':=w1.alloc (.mapIter (some E1.g) clock #[] clock)) (by rw[MK.op];intro c hc;cases hc) (by
   unfold execOp;rw[MK.op]
   simp only[hqx,Sem.run_bind,hrng,Result.andThen_ok,Sem.run_pure]) none (hK _ _ ?_)
  obtain⟨it,hit⟩:∃it,it=w1.heap.size:=⟨_,rfl⟩;obtain⟨m2,hm2⟩:∃m2,m2=m1.upd h1.size ⟨it,0,Ks C.P none,0⟩:=⟨_,rfl⟩;have hEg:E1.g<it:=by rw[hit];exact(Array.getElem?_eq_some_iff.1 p1).1
  have hle12:m1.le m2:=by rw[hm2];exact BD.OD _ (g2.fresh (zC _))
  have hd1:Rel C.P w0 m1 (h1.set id (.map 0 [])) w1:=g2.dead MK.get rfl fun E hE=>⟨by
   have:E1=E:=zJ (hE1.symm.trans hE)
   rw[←this];exact hEb,fun U=>absurd rfl U⟩
  have r2:Rel C.P w0 m2 Y (w1.alloc (.mapIter (some E1.g) clock #[] clock)):=by
   rw[hm2,hhe];exact hd1.new (Ex.alloc _ _ _) hit ⟨⟨⟨rfl,fun _=>ZM.nil⟩,fun _ h=>by cases h⟩,fun h=>absurd rfl h⟩
  have m2i:m2.i h1.size=some ⟨it,0,Ks C.P none,0⟩:=by rw[hm2];exact BD.Fg _ _ _
  have m2df:∀g x,m2.df g x→m1.df g x:=fun g x J=>by rw[hm2]at J;exact J
  have dfit:∀g x,m2.df g x→g≠it∧g≠E1.g:=fun g x J=>⟨by have:=g2.Pf (m2df g x J);omega,fun e=>g2.PA id E1 _ hE1 MK.get rfl x (e ▸ m2df g x J)⟩;have hext2:m.ext h.size m2:=by rw[hm2];exact g1.trans (BD.L5 _ _ (zC _)) hksz
  have hhget:∀i o,Y.get i=some o→o.live=true→i<h1.size∧i≠id∧h1.get i=some o:=fun i o ho T=>by
   rw[hhe,AI.I0]at ho;split at ho
   ·cases ho;cases T
   ·rw[AI.Ii _ _ _ _ (h1.BN MK.get)]at ho;split at ho
    ·cases ho;cases T
    ·rename_i h2;exact⟨h1.BN ho,h2,ho⟩
  have hhob:∀id' gr,ob=some (id',gr)→Y.get id'=some (.cells gr 2 cs0):=fun id' gr e=>by
   have J:=MK.cN id' gr e;have U:id'≠id:=by
    intro e;subst e;have:=MK.get.symm.trans J;cases this
   rw[hhe,AI.Bz _ _ (by simpa using h1.BN J),AI.BX _ _ (h1.BN MK.get) U];exact J
  have hh0:∀i,(Df Y ob cs0).get i=Y.get i:=fun i=>by
   cases ob with
   |none=>rfl
   | some p=>
    obtain⟨id',gr⟩:=p;show(Y.set id' _).get i=_;by_cases e:i=id'
    ·subst e;rw[AI.get_set_same _ _ (hobl _ _ rfl),hhob _ _ rfl]
    ·rw[AI.BX _ _ (hobl _ _ rfl) e]
  have r2':Rel C.P w0 m2 (Df Y ob cs0) (w1.alloc (.mapIter (some E1.g) clock #[] clock)):=r2.same (IB _ _ _) hh0;have hitB:w0.heap.size≤it:=by rw[hit];exact g2.size
  obtain⟨σ0,hσ0⟩:∃σ0:Fr×List AB,σ0=(Er ks 0 (fr1.set tI (.ptr (some (h1.size,0)))),cs0):=⟨_,rfl⟩;rw[←hσ0]at hperm;have hfree:=MK.free;simp only[QK,zh,zK,yY]at hfree;obtain⟨⟨⟨fr1n,fr2n⟩,htn⟩,htb⟩:=hfree;have nl2:∀i F o,m2.i i=some F→Y.get i=some o→o.live=true→F.g≠it∧F.g≠E1.g:=fun i F o hF ho T=>by
   obtain⟨q1,q2,q3⟩:=hhget i o ho T;have hF':m1.i i=some F:=by rw[hm2,BD.Py _ _ (by omega)]at hF;exact hF
   exact⟨by have:=(g2.obj i F o hF' q3).lt T;omega,fun e=>g2.sep id i E1 F _ o (fun e=>q2 e.symm) hE1 hF' MK.get q3 rfl T e.symm⟩
  obtain⟨a2,ha2⟩:∃a2,a2=a1.put orng.dst (.pointer (some ⟨w1.heap.size,0,none⟩)):=⟨_,rfl⟩;have f2:FR m2 σ0.1 a2:=by
   have q1:FR m2 (fr1.set tI (.ptr (some (h1.size,0)))) a2:=by
    rw[ha2,MK.dst]
    have:=FR.put (g3.mono hle12) (some tI) (x:=.ptr (some (h1.size,0))) (v:=.pointer (some ⟨w1.heap.size,0,none⟩)) (by
     have:=VR.ptr (m:=m2) h1.size 0 _ m2i;rw[←hit]
     exact this)
    exact this
   rw[hσ0];exact q1.Er ks
  have hd2:a2.defers=a1.defers:=by rw[ha2,DQ]
  show((Code.block q.b _).wpIn (FW none) 0 C.P Q _ _);rw[←ha2];have hst1:=p4.1;have hst2:=p4.2.1;have lenσ:∀l σ,De rnd l σ0=some (false,σ)→σ.1.length=fr1.length:=fun l σ H=>by
   have:=M6 (fun W=>Q8 M D W) l (by rw[hrnd]at H;exact H);rw[hσ0]at this;simpa[Cv]using this
  refine wpIn_block (wpIn_loop (fun a w=>∃(m':BD) (vis:List Nat) (σ:Fr×List AB) (seen:Array Nat),m2.ext Y.size m'∧Rel C.P w0 m' (Df Y ob σ.2) w∧FR m' σ.1 a∧Mk mS m' a.defers∧(∀g x,m'.df g x→g≠it∧g≠E1.g)∧
    w.heap[E1.g]?=some (.map ents clock)∧w.heap[it]?=some (.mapIter (some E1.g) clock seen clock)∧vis.Nodup∧(∀i∈vis,i<ents.size)∧
    (∀(i:Nat) (en:MapEntry),ents[i]?=some en→(seen.contains en.born=true↔i∈vis))∧De rnd (vis.map (W2 es)) σ0=some (false,σ)∧
    nth σ.1 tI=.ptr (some (h1.size,0))∧nth σ.1 tn=.undef∧nth σ.1 q.tb=.undef)
   (fun _ w=>w.rangeLeft E1.g it) ⟨m2,[],σ0,#[],BD.ext.refl _ _,?_,f2,?_,dfit,?_,?_,xw,fun i hi=>(by cases hi),fun i en hen=>(by simp),rfl,?_,?_,?_⟩ ?_)
  ·rw[hσ0];exact r2'
  ·rw[hd2,hm2];exact hk1.ext (BD.L5 _ _ (zC _))
  ·rw[Below.heap_alloc w1 _ _ (by omega)];exact p1
  ·rw[hit];exact heap_alloc_new w1 _
  ·rw[hσ0];exact R1 MK.W2
  ·rw[hσ0];exact LR (by simpa using htn) fr1n
  ·rw[hσ0];exact LR (by simpa using htb) fr2n
  rintro aa ww ⟨m',vis,σ,seen,jx,rr,ff,jk,jd,hmp,hitr,vn,vl,vs,vf,sI,sn,sb⟩;have hσl:=lenσ _ _ vf;have hsza:aa.tmps.size=fr1.length:=by rw[←ff.1,hσl]
  have m'i:m'.i h1.size=some ⟨it,0,Ks C.P none,0⟩:=by rw[jx.i _ (by omega)];exact m2i
  have hslot:aa.tmps.getD tI undef=.pointer (some ⟨it,0,none⟩):=by
   have:=ff.2 tI;rw[sI]at this;obtain⟨E',hE',I⟩:=this.Xe;rw[m'i]at hE';cases hE';exact I
  have heI:aa.eval (.tmp tI)=.pointer (some ⟨it,0,none⟩):=hslot;have hmsz:=IB Y ob σ.2;have nl':∀i F o,m'.i i=some F→(Df Y ob σ.2).get i=some o→o.live=true→F.g≠it∧F.g≠E1.g:=fun i F o hF ho T=>by
   obtain⟨o',h1',h2'⟩:=UO (cs:=cs0) hobl ho T;rw[hh0]at h1';have hi:=rr.OX i F hF;rw[hmsz]at hi;exact nl2 i F o' (by rw[←jx.i i hi];exact hF) h1' h2'
  have hfzit:∀g o v,m'.fz g o=some v→g≠it:=fun g o v I e=>by
   obtain⟨cur,e',z,c1,_⟩:=rr.fz g o v I;rw[e,hitr]at c1;cases c1
  refine wpIn_seq (wpIn_region_list ?_);rw[hl9];rcases run_next_at (P:=C.P) ww nx.type it E1.g clock clock seen ents clock hitr hmp hst1 (zC _)with⟨h0,hrun⟩|⟨e0,he0,w3,hal,hrun⟩
  ·-- nothing is left
   refine wpListIn_plain ngu fun K hK=>OI (v:=.tuple #[.bool false]) (w':=ww) (by rw[nop];intro c hc;cases hc) (by
    unfold execOp;rw[nop]
    simp only[heI,Sem.run_bind,hrun,Result.andThen_ok,Sem.run_pure]) none (hK _ _ ?_)
   rw[ndst];have ff1:=ff.PE sn (.tuple #[.bool false]);have hsn:(aa.put (some tn) (.tuple #[.bool false])).eval (.tmp tn)=.tuple #[.bool false]:=Hp (by rw[hsza];exact htn)
   refine wpListIn_plain xgu fun K hK=>OI (v:=.bool false) (w':=ww) (by rw[xop];intro c hc;cases hc) (by
    unfold execOp;rw[xop];simp only[hsn,Sem.run_bind,Instr.extract]
    rfl) none (hK _ _ ?_)
   rw[xdst];have ff2:=ff1.PE sb (.bool false);refine wpIn_seq (wpIn_cond_false (Hp (by rw[size_put,hsza];exact htb)) (wpIn_exit ?_));show(if q.b=q.b then Q .normal _ ww else Q (.exit q.b) _ ww);rw[zm rfl]
   have hpv:vis.Perm (List.range es.length):=Pt vn fun i=>⟨fun hi=>by rw[p2];exact vl i hi,fun hi=>by
    have hi2:i<ents.size:=by rw[←p2];exact hi
    exact(vs i _ (Array.getElem?_eq_getElem hi2)).1 (all_seen ents seen h0 _ (by simp))⟩
   have hfin:=hperm _ ((hpv.map (W2 es)).trans (by rw[WB]));rw[vf]at hfin;simp only[zd,zg]at hfin;obtain⟨hret,hσe⟩:=hfin;have hσ1:σ.1=frE:=by rw[hσe]
   have hσ2:σ.2=csE:=by rw[hσe]
   rw[hσ2]at rr;have:=V m' _ ww (hext2.trans jx (by omega)) (oh ▸ rr) (by rw[ofr,←hσ1];exact ff2) (by rw[DQ,DQ];exact jk);rw[oe,←hret]at this;exact this
  ·-- one more
   obtain⟨hmem,hns⟩:=mem_left he0;obtain⟨i0,hi0,hei0⟩:=qD.1 hmem;have hi0':i0<ents.size:=by simpa using hi0
   have hent:ents[i0]?=some e0:=by rw[Array.getElem?_eq_getElem hi0'];exact congrArg some (by simpa using hei0)
   obtain⟨⟨k,v⟩,hkv⟩:∃p,es[i0]?=some p:=⟨_,List.getElem?_eq_getElem (by rw[p2];exact hi0')⟩;obtain⟨hvk,hvv⟩:=p3 i0 k v e0 hkv hent;have hatI:W2 es i0=(k,v):=by unfold Av.W2;rw[hkv];rfl
   have hi0v:i0∉vis:=fun hi=>by
    have:=(vs i0 e0 hent).2 hi;rw[hns]at this;cases this
   obtain⟨ww3,hww3⟩:∃x,x=setBlock w3 it (.mapIter (some E1.g) clock (seen.push e0.born) clock):=⟨_,rfl⟩;rw[←hww3]at hrun;have hitlt:it<ww.heap.size:=(Array.getElem?_eq_some_iff.1 hitr).1;have hheap:ww3.heap=ww.heap.setIfInBounds it (.mapIter (some E1.g) clock (seen.push e0.born) clock):=by
    rw[hww3];rcases hal with rfl|rfl<;>rfl
   have ht:Ex ww ww3 it:=⟨by rw[hww3];rcases hal with rfl|rfl<;>rfl,by rw[hww3];rcases hal with rfl|rfl<;>rfl,by rw[hww3];rcases hal with rfl|rfl<;>rfl,by rw[hheap];simp,fun k hk U=>by rw[hheap];simp[Array.getElem?_setIfInBounds_ne (Ne.symm U)]⟩;have hit3:ww3.heap[it]?=some (.mapIter (some E1.g) clock (seen.push e0.born) clock):=by
    rw[hheap];simp[hitlt]
   have hmp3:ww3.heap[E1.g]?=some (.map ents clock):=by
    rw[ht.block _ (Array.getElem?_eq_some_iff.1 hmp).1 (by omega)];exact hmp
   have rr3:Rel C.P w0 m' (Df Y ob σ.2) ww3:=rr.iter ht hitB (fun i F o hF ho T=>(nl' i F o hF ho T).1) hfzit (fun g x J=>(jd g x J).1)
   refine wpListIn_plain ngu fun K hK=>OI (v:=.tuple #[.bool true,e0.key,e0.val]) (w':=ww3) (by rw[nop];intro c hc;cases hc) (by
    unfold execOp;rw[nop]
    simp only[heI,Sem.run_bind,hrun,Result.andThen_ok,Sem.run_pure]) none (hK _ _ ?_)
   rw[ndst];have ff1:=ff.PE sn (.tuple #[.bool true,e0.key,e0.val]);have hsn:(aa.put (some tn) (.tuple #[.bool true,e0.key,e0.val])).eval (.tmp tn)=.tuple #[.bool true,e0.key,e0.val]:=Hp (by rw[hsza];exact htn)
   refine wpListIn_plain xgu fun K hK=>OI (v:=.bool true) (w':=ww3) (by rw[xop];intro c hc;cases hc) (by
    unfold execOp;rw[xop];simp only[hsn,Sem.run_bind,Instr.extract]
    rfl) none (hK _ _ ?_)
   rw[xdst];have ff2:=ff1.PE sb (.bool true);refine wpIn_seq (wpIn_cond_true (Hp (by rw[size_put,hsza];exact htb)) (wpIn_skip ?_));obtain⟨a4,ha4⟩:∃x,x=(aa.put (some tn) (.tuple #[.bool true,e0.key,e0.val])).put (some q.tb) (.bool true):=⟨_,rfl⟩;have hd4:a4.defers=aa.defers:=by rw[ha4,DQ,DQ]
   rw[←ha4]at ff2;rw[←ha4];show(Code.block q.b2 _).wpIn _ _ _ _ _ _;refine wpIn_block (wpIn_seq (wpIn_region_list ?_));rw[hl10];have heI4:a4.eval (.tmp tI)=.pointer (some ⟨it,0,none⟩):=by
    have:=ff2.2 tI;rw[sI]at this;obtain⟨E',hE',I⟩:=this.Xe;rw[m'i]at hE';cases hE';exact I
   have hent3:=run_entry_at (P:=C.P) ww3 it E1.g clock seen ents clock e0 hit3 hmp3 hmem hst2
   refine wpListIn_plain egu fun K hK=>OI (v:=.tuple #[e0.key,e0.val]) (w':=ww3) (by rw[eop];intro c hc;cases hc) (by
    unfold execOp;rw[eop]
    simp only[heI4,Sem.run_bind,hent3,Result.andThen_ok,Sem.run_pure]) none (hK _ _ ?_)
   rw[edst];obtain⟨mp,hmpd⟩:∃mp:BD,mp=⟨m'.i,m'.fz,fun k x=>m'.df k x∨(k=it∧x=.mapIter (some E1.g) clock (seen.push e0.born) clock)∨(k=E1.g∧x=.map ents clock)⟩:=⟨_,rfl⟩;have rp:Rel C.P w0 mp (Df Y ob σ.2) ww3:=by
    rw[hmpd];refine rr3.Z5 _ (fun g x J=>?_) (fun i F o hF ho T x J=>?_)
    ·rcases J with J|⟨rfl,rfl⟩|⟨rfl,rfl⟩
     ·exact rr3.df g x J
     ·exact⟨hitB,hit3⟩
     ·exact⟨hEg0,hmp3⟩
    ·rcases J with J|⟨e,_⟩|⟨e,_⟩
     ·exact rr3.PA i F o hF ho T x J
     ·exact(nl' i F o hF ho T).1 e
     ·exact(nl' i F o hF ho T).2 e
   have lep:m'.le mp:=by rw[hmpd];exact⟨fun _ _ h=>h,fun _ _ _ h=>h⟩
   have le2:m1.le mp:=BD.le_trans (BD.le_trans hle12 (r2.Mi jx)) lep;have ff5:FR mp (σ.1.set te (.tuple [k,v])) (a4.put (some te) (.tuple #[e0.key,e0.val])):=
    FR.put (ff2.mono lep) (some te) (CM.tuple (.cons (hvk.mono le2) (.cons (hvv.mono le2) (.nil _))))
   have mkp:Mk mS mp (a4.put (some te) (.tuple #[e0.key,e0.val])).defers:=by
    rw[DQ,hd4];obtain⟨b1,rs',b2,b3,b4⟩:=jk;exact⟨fun g x J=>by rw[hmpd];exact .inl (b1 g x J),rs',b2,b3,fun r W=>⟨by rw[hmpd];exact .inl (b4 r W).1,(b4 r W).2⟩⟩
   obtain⟨os,hos⟩:=WR vn vl hi0' hi0v;rw[←p2]at hos;have hall:=hperm _ ((hos.map (W2 es)).trans (by rw[WB]));rw[yn,M0 _ _ vf,zU,hatI]at hall;obtain⟨X,hX⟩:∃X,rnd σ (k,v)=some X:=by
    cases hX:rnd σ (k,v)with
    |none=>simp only[De,hX]at hall;cases hall
    |some X=>exact⟨X,rfl⟩
   have hX0:=hX;rw[hrnd]at hX;unfold KJ at hX;simp only at hX;split at hX
   rotate_left
   ·cases hX
   rename_i fr5 h5 hro;have hks5:=(Ec M.sub _ hro).1;refine GQ M.sub L _ rp ff5 hro (fun m5 a6 w6 k1 k2 k3 k4=>?_) none;cases hEx:BU C S f (OO Y.size ob) q.body fr5 h5 with
   |none=>rw[hEx]at hX;cases hX
   | some r6=>
    obtain⟨e3,fr3,h3⟩:=r6;have hks3:=(Dy M _ D hEx).1;show q.body.wpIn _ _ _ _ _ _;refine H5 Z M q.body D hEx L k2 k3 (by rw[k4];exact mkp.ext k1) (fun m7 a7 w7 l1 l2 l3 l4=>?_) none (.inl rfl);have hksA:=hks5.trans hks3;have hx7:mp.ext Y.size m7:=by rw[←hmsz];exact k1.trans l1 hks5.1
    have hit7:w7.heap[it]?=some (.mapIter (some E1.g) clock (seen.push e0.born) clock):=(l2.df it _ (hx7.df _ _ (by rw[hmpd];exact .inr (.inl ⟨rfl,rfl⟩)))).2;have hmp7:w7.heap[E1.g]?=some (.map ents clock):=(l2.df E1.g _ (hx7.df _ _ (by rw[hmpd];exact .inr (.inr ⟨rfl,rfl⟩)))).2;have key:∀ks' (x:Bool×Fr×List AB),Qc ks' Y.size ob fr3 h3 x.1=some x→∃m9:BD,m2.ext Y.size m9∧Rel C.P w0 m9 (Df Y ob x.2.2) w7∧FR m9 x.2.1 a7∧Mk mS m9 a7.defers∧(∀g x,m9.df g x→g≠it∧g≠E1.g):=by
     intro ks' x B;obtain⟨s1,s2,s3,s4⟩:=Jl B;obtain⟨r8,_⟩:=Zx Y hobl rp hx7 hksA s4 l2;refine⟨⟨(mp.with m7).i,(mp.with m7).fz,fun k x=>m7.df k x∧k≠it∧k≠E1.g⟩,⟨fun i hi=>?_,fun g o v I=>?_,fun g x J=>?_⟩,r8.Z5 _ (fun g x J=>r8.df g x J.1) (fun i F o hF ho T x J=>r8.PA i F o hF ho T x J.1),?_,?_,fun g x J=>J.2⟩
     ·show mp.i i=m2.i i;rw[hmpd];exact jx.i i hi
     ·exact hx7.fz g o v (by rw[hmpd];exact jx.fz g o v I)
     ·exact⟨hx7.df g x (by rw[hmpd];exact .inl (jx.df g x J)),dfit g x J⟩
     ·rw[s3];exact FR.Z5 (m:=mp.with m7) ((l3.Er ks').Hr (m:=mp.with m7) (n:=Y.size) (fun i hi=>hx7.i i hi) s1) _
     ·obtain⟨b1,rs',b2,b3,b4⟩:=l4;have fromS:∀g x,mS.df g x→m2.df g x:=fun g x J=>by rw[hm2];exact hk1.1 g x J
      refine⟨fun g x J=>⟨b1 g x J,dfit g x (fromS g x J)⟩,rs',b2,b3,fun r W=>⟨⟨(b4 r W).1,fun e=>?_,fun e=>?_⟩,(b4 r W).2⟩⟩
      ·have:=(l2.df r _ (b4 r W).1).2;rw[e,hit7]at this;cases this
      ·have:=(l2.df r _ (b4 r W).1).2;rw[e,hmp7]at this;cases this
    have next:∀x:Bool×Fr×List AB,x.1=false→Qc ks Y.size ob fr3 h3 x.1=some x→some X=some x→NL h1.size (nth fr3 tI)=true→
      (∃(m':BD) (vis:List Nat) (σ:Fr×List AB) (seen:Array Nat),m2.ext Y.size m'∧Rel C.P w0 m' (Df Y ob σ.2) w7∧FR m' σ.1 a7∧Mk mS m' a7.defers∧(∀g x,m'.df g x→g≠it∧g≠E1.g)∧
    w7.heap[E1.g]?=some (.map ents clock)∧w7.heap[it]?=some (.mapIter (some E1.g) clock seen clock)∧vis.Nodup∧(∀i∈vis,i<ents.size)∧
    (∀(i:Nat) (en:MapEntry),ents[i]?=some en→(seen.contains en.born=true↔i∈vis))∧De rnd (vis.map (Av.W2 es)) σ0=some (false,σ)∧
    nth σ.1 tI=.ptr (some (h1.size,0))∧nth σ.1 tn=.undef∧nth σ.1 q.tb=.undef)∧w7.rangeLeft E1.g it<ww.rangeLeft E1.g it:=by
     intro x hx1 B hXx hat;obtain⟨m9,n1,n2,n3,n4,n5⟩:=key ks x B;obtain⟨s1,s2,s3,s4⟩:=Jl B;have hl3:fr3.length=fr1.length:=by
      have e1:=(Dy M _ D hEx).2;have e2:=(Ec M.sub _ hro).2;rw[yp]at e2;omega
     have htI:tI<fr3.length:=by
      have:=MK.W2;rcases yg tI fr3.length with hlt|hge
      ·exact hlt
      ·have e:=Pl hge;rw[e]at hat;cases hat
     have hkI:ks.any (Nat.beq tI)=true:=by
      have h0:=R1 MK.W2;cases hk:ks.any (Nat.beq tI)with
      |true=>rfl
      |false=>
       rw[LR (by simpa[hl3]using htI) hk]at h0;cases h0
     refine⟨⟨m9,vis++[i0],x.2,seen.push e0.born,n1,n2,n3,n4,n5,hmp7,hit7,?_,fun i hi=>?_,fun i en' hen'=>?_,?_,?_,?_,?_⟩,?_⟩
     ·rw[yh];exact⟨vn,by simp,fun a ha b O e=>by simp at O;subst O;subst e;exact hi0v ha⟩
     ·rcases zB.1 hi with hi|hi
      ·exact vl i hi
      ·simp at hi;subst hi;exact hi0'
     ·rw[contains_push,yo,zB,yT];constructor
      ·rintro(hc|hc)
       ·exact .inl ((vs i en' hen').1 hc)
       ·exact .inr (aB hst2 hen' hent (eq_of_beq hc))
      ·rintro(hc|rfl)
       ·exact .inl ((vs i en' hen').2 hc)
       ·rw[hent]at hen';cases hen';exact .inr (by simp)
     ·rw[yn,M0 _ _ vf,zU,hatI,xg];have:rnd σ (k,v)=some x:=by rw[hX0];exact hXx
      obtain⟨x1,x2⟩:=x;simp only at hx1;subst hx1;simp only[De,this]
     ·rw[s3,KP ks 0 fr3 tI htI,yq,hkI];exact R1 hat
     ·rw[s3];exact LR (by omega) fr1n
     ·rw[s3];exact LR (by omega) fr2n
     ·have:=left_shrinks ents seen e0 he0;unfold World.rangeLeft;rw[hmp7,hit7,hmp,hitr];exact this
    rw[hEx]at hX;cases e3 with
    | normal=>
     simp only at hX;cases hat:NL h1.size (nth fr3 tI)with
     |false=>rw[hat]at hX;cases hX
     |true=>
      rw[hat]at hX;simp only[zW]at hX;have hX1:=(Jl hX).2.1;exact next X hX1 (by rw[hX1];exact hX) rfl hat
    | exit i=>
     simp only at hX;cases hat:(Nat.beq i q.b2&&NL h1.size (nth fr3 tI))with
     |false=>rw[hat]at hX;cases hX
     |true=>
      rw[hat]at hX;simp only[zW]at hX;simp only[zh]at hat;have hX1:=(Jl hX).2.1;have:=zu hat.1;subst this;show(if q.b2=q.b2 then _ else _);rw[zm rfl];exact next X hX1 (by rw[hX1];exact hX) rfl hat.2
    |ret=>
     simp only at hX;have hX1:=(Jl hX).2.1;obtain⟨m9,n1,n2,n3,n4,n5⟩:=key rs X (by rw[hX1];exact hX);have hXt:rnd σ (k,v)=some (true,X.2):=by rw[hX0,←hX1]
     simp only[De,hXt,zd,zg]at hall;obtain⟨b1,b2⟩:=hall;have e1:X.2.1=frE:=by rw[b2]
     have e2:X.2.2=csE:=by rw[b2]
     rw[e2]at n2;rw[e1]at n3;have:=V m9 a7 w7 (hext2.trans n1 (by omega)) (oh ▸ n2) (by rw[ofr];exact n3) n4;rw[oe,←b1]at this;exact this
theorem Ob(M:IL C n S){f:FuncId}{g:Gd}:∀(c:Code),codeOk C f c=true→∀{fr:Fr} {h:AI} {e:CI} {fr':Fr} {h':AI},GW C S f g c fr h=some (e,fr',h')→BE g h h'∧fr'.length=fr.length:=by
 intro c
 induction c with
 | seq a b iha ihb=>
  intro D fr h e fr' h' B;simp only[GW]at B;split at B
  ·rename_i q hq;obtain⟨_,i8,i9,i10,hc⟩:=SC hq;rw[hc]at D;simp only[codeOk,zh]at D;exact Tk M D.2.2.2.2 B
  ·simp only[codeOk,zh]at D;split at B
   ·rename_i fr1 h1 ha;obtain⟨k1,k2⟩:=iha D.1 ha;obtain⟨k3,k4⟩:=ihb D.2 B;exact⟨k1.trans k3,k4.trans k2⟩
   ·exact iha D.1 B
 |_=>intro D fr h e fr' h' B;simp only[GW]at B;exact Dy M _ D B
theorem UB(Z:KM C)(M:IL C n S){f:FuncId}{g:Gd}:∀(c:Code),codeOk C f c=true→∀{fr:Fr} {h:AI} {e:CI} {fr':Fr} {h':AI},GW C S f g c fr h=some (e,fr',h')→
  ∀{w0:World} {mS m:BD} {w:World} {a:Act} {Q:Exit→Act→World→Prop},Bh C.Cx w0→Rel C.P w0 m h w→FR m fr a→Mk mS m a.defers→OY C.P w0 mS m h.size e fr' h' Q→c.wpIn (FW none) 0 C.P Q a w:=by
 intro c
 induction c with
 | seq x y iha ihb=>
  intro D fr h e fr' h' B w0 mS m w a Q L r H G V;simp only[GW]at B;split at B
  ·rename_i q hq;have hok':=D;obtain⟨_,i8,i9,i10,hc⟩:=SC hq;rw[hc]at hok';simp only[codeOk,zh]at hok';exact TF Z M hq hok'.2.2.2.2 B L r H G V
  ·simp only[codeOk,zh]at D;split at B
   ·rename_i fr1 h1 ha;have hk:=(Ob M x D.1 ha).1;refine wpIn_seq (iha D.1 ha L r H G (fun m1 a1 w1 g1 g2 g3 g4=>?_));exact ihb D.2 B L g2 g3 g4 (V.trans hk.1 g1)
   ·rename_i U;refine wpIn_seq (iha D.1 B L r H G (fun m1 a1 w1 g1 g2 g3 g4=>?_));have hq:=V m1 a1 w1 g1 g2 g3 g4;cases e with
    |normal=>exact absurd B (U _ _)
    |exit id=>exact hq
    |ret=>exact hq
 |_=>intro D fr h e fr' h' B w0 mS m w a Q L r H G V;simp only[GW]at B;exact H5 Z M _ D B L r H G V none (.inl rfl)
theorem Tc(Z:KM C)(M:IL C n S){g:Gd}{h h':AI}{f:FuncId}{args:List AB}{v:AB}(hk:C.kind f=10)(O:QB C S g h f args=some (v,h')):
  BE g h h'∧∀w0 m w (cargs:Array Value),Bh C.Cx w0→Rel C.P w0 m h w→CM m args cargs.toList→DX C.P f cargs w fun v' w'=>∃m':BD,(m.ext h.size m')∧Rel C.P w0 m' h' w'∧VR m' v v':=by
 unfold QB at O;split at O
 ·cases O
 ·rename_i fn hfn;split at O
  ·cases O
  ·rename_i c hc;obtain⟨hn,D⟩:=Z.code f fn c (by omega) hfn hc;have main:∀e fr1 h1,e=CI.normal∨e=CI.ret→GW C S f g c (args++List.replicate (fn.ntmps - args.length) (.tuple [])) h=some (e,fr1,h1)→(Ek C.P fn fr1 h1).map (·,h1)=some (v,h')→
     BE g h h'∧∀w0 m w (cargs:Array Value),Bh C.Cx w0→Rel C.P w0 m h w→CM m args cargs.toList→DX C.P f cargs w fun v' w'=>∃m':BD,(m.ext h.size m')∧Rel C.P w0 m' h' w'∧VR m' v v':=by
    intro e fr1 h1 he B hres;simp only[zl,zg]at hres;obtain⟨u,hu,rfl,rfl⟩:=hres;refine⟨(Ob M c D B).1,fun w0 m w cargs L r I=>?_⟩;unfold DX;rw[HG hfn hn hc];simp only;have hlen:args.length=cargs.size:=by rw[I.1];simp
    refine(callsIn_wide (n:=0)).1 (callsIn_of_wp_marks hfn hc trivial (UB Z M c D B L r ⟨by simp[hlen],fun i=>?_⟩ (Mk.nil m) (fun m1 a1 w1 g1 g2 g3 g4=>?_)))
    ·rw[FZ,zo];simp only[zr];by_cases hi:i<args.length
     ·rw[List.getElem?_append_left hi,Array.getElem?_append_left (by omega)];rw[List.getElem?_eq_getElem hi,Array.getElem?_eq_getElem (by omega)];exact I.2 i _ _ (List.getElem?_eq_getElem hi) (by simp[←hlen,hi])
     ·rw[List.getElem?_append_right (by omega),Array.getElem?_append_right (by omega)];rw[List.getElem?_replicate,Array.getElem?_replicate,hlen];split
      ·exact VR.Gs m
      ·exact VR.Gs m
    ·have fin:LeavesInM Fence.wide 0 C.P fn a1.tmps (fun e w'=>∃v',e=.returned v'∧∃m':BD,(m.ext h.size m')∧Rel C.P w0 m' h1 w'∧VR m' u v') a1.defers .returning w1:=by
      obtain⟨_,rs,e1,e2,e3⟩:=g4;rw[e1];refine Ip rs e2 m1 w1 g2 (fun r W=>(e3 r W).1) fun m2 w2 d1 d2 d3 d4=>?_;have hle:m1.le m2:=⟨fun id E hE=>by rw[d1];exact hE,fun g o v I=>by rw[d2];exact I⟩;obtain⟨v',q1,q2⟩:=JR d4 (g3.mono hle) hu;exact⟨v',q1,v',rfl,m2,⟨fun id hid=>by rw[d1];exact g1.i id hid,fun g o v I=>by rw[d2];exact g1.fz g o v I,fun g x J=>d3 g x (g1.df g x J) fun hm=>(e3 g hm).2 x J⟩,d4,q2⟩
     rcases he with rfl|rfl
     ·exact fin
     ·exact fin
   split at O
   ·rename_i fr1 h1 B;exact main .normal fr1 h1 (.inl rfl) B O
   ·rename_i fr1 h1 B;exact main .ret fr1 h1 (.inr rfl) B O
   ·cases O
theorem DX.mono{P:Program}{f:FuncId}{args:Array Value}{w:World}{Q Q':Value→World→Prop}(h:DX P f args w Q)(hq:∀v w',Q v w'→Q' v w'):DX P f args w Q':=by
 unfold DX at *;split at h
 ·exact hq _ _ h
 ·exact h.mono fun e w'' ⟨v,h1,h2⟩=>⟨v,h1,hq _ _ h2⟩
 ·exact h.elim
def V6(P:Program)(g:Gd)(f:AI→AB→Option (AB×AI)):Prop:=∀(h:AI) (v v':AB) (h':AI),f h v=some (v',h')→BE g h h'∧∀w0 (m:BD) w u,Rel P w0 m h w→VR m v u→∃m':BD,m.ext h.size m'∧Rel P w0 m' h' w∧VR m' v' u
theorem V7{P:Program}(g:Gd):V6 P g (Ig g):=fun h v v' h' H=>⟨QA H,fun w0 m w u r I=>QF H w0 m w u r I⟩
theorem SZ{P:Program}{g:Gd}{f:AI→AB→Option (AB×AI)}(H:V6 P g f):∀(vs:List AB) (h:AI) (vs':List AB) (h':AI),Nt f vs h=some (vs',h')→
  BE g h h'∧∀w0 (m:BD) w us,Rel P w0 m h w→CM m vs us→∃m':BD,m.ext h.size m'∧Rel P w0 m' h' w∧CM m' vs' us
 |[],h,vs',h',B=>by
  simp only[Nt,zd,zg]at B;obtain⟨rfl,rfl⟩:=B;exact⟨BE.refl _ _,fun w0 m w us r I=>⟨m,BD.ext.refl _ _,r,I⟩⟩
 | v::vs,h,vs',h',B=>by
  unfold Nt at B;split at B
  ·rename_i v1 h1 h1e;simp only[zl,zg]at B;obtain⟨⟨l,h2⟩,T,rfl,rfl⟩:=B;obtain⟨k1,q1⟩:=H h v v1 h1 h1e;obtain⟨k2,q2⟩:=SZ H vs h1 l h2 T;refine⟨k1.trans k2,fun w0 m w us r I=>?_⟩;cases us with
   |nil=>simp[CM]at I
   |cons u us=>
    have hc:=I.2 0 v u rfl rfl;have hv':CM m vs us:=⟨by simpa using I.1,fun i x y B hy=>I.2 (i+1) x y (by simpa using B) (by simpa using hy)⟩;obtain⟨m1,e1,e2,e3⟩:=q1 w0 m w u r hc;obtain⟨m2,g1,g2,g3⟩:=q2 w0 m1 w us e2 (hv'.mono (r.Mi e1));exact⟨m2,e1.trans g1 k1.1,g2,.cons (e3.mono (e2.Mi g1)) g3⟩
  ·cases B
theorem V4{P:Program}(g:Gd):V6 P g (OM g):=by
 intro h v v' h' H;unfold OM at H;split at H
 ·simp only[zl,zg]at H;obtain⟨⟨l,h2⟩,T,rfl,rfl⟩:=H;obtain⟨k1,q1⟩:=SZ (V7 g) _ h l h2 T;refine⟨k1,fun w0 m w u r I=>?_⟩;obtain⟨c,rfl,vc⟩:=I.GS;obtain⟨m1,e1,e2,e3⟩:=q1 w0 m w _ r vc;exact⟨m1,e1,e2,CM.agg e3⟩
 ·exact V7 g h v v' h' H
theorem SA{P:Program}(g:Gd):V6 P g (Ov g):=by
 intro h v v' h' H;unfold Ov at H;split at H
 ·simp only[zl,zg]at H;obtain⟨⟨l,h2⟩,T,rfl,rfl⟩:=H;obtain⟨k1,q1⟩:=SZ (V4 g) _ h l h2 T;refine⟨k1,fun w0 m w u r I=>?_⟩;obtain⟨c,rfl,vc⟩:=I.KO;obtain⟨m1,e1,e2,e3⟩:=q1 w0 m w _ r vc;exact⟨m1,e1,e2,CM.tuple e3⟩
 ·exact V4 g h v v' h' H
theorem UA(Z:KM C)(M:IL C n S):SO C.P C.Cx (Jn C S):=by
 intro g h f args v h' hc;unfold Jn at hc;split at hc
 ·rename_i hk;obtain⟨k1,k2⟩:=IC Z M (.inl hk) hc;exact⟨k1,fun w0 m w cargs L r I=>k2 w0 m w cargs L r (I.BA _)⟩
 ·rename_i hk;split at hc
  ·rename_i u h1 O;obtain⟨k1,k2⟩:=IC Z M (.inr (.inl hk)) O;cases hfl:NG u with
   |false=>rw[hfl]at hc;cases hc
   | true=>
    rw[hfl]at hc;simp only[zW,zd,zg]at hc;obtain⟨rfl,rfl⟩:=hc;refine⟨BE.refl _ _,fun w0 m w cargs L r I=>(k2 w0 m w cargs L r I).mono fun v' w' ⟨m',g1,g2,g3⟩=>?_⟩;refine⟨m.with m',BD.Yp g1 _,r.back g1 (fun id hid=>k1.2 id hid ?_) g2,g3.NG hfl⟩;have:Nat.ble h.size id=false:=by
     cases O:Nat.ble h.size id with
     |false=>rfl
     |true=>have:=zb O;omega
    simp[Gd.may,this]
  ·cases hc
 ·rename_i hk;have:=Z.ext f hk g h f args v h' (by simpa using hc);exact this
 ·rename_i hk;cases hfa:args.all I5 with
  |false=>rw[hfa]at hc;cases hc
  | true=>
   rw[hfa]at hc;simp only[zW]at hc;split at hc
   ·rename_i u h1 O;obtain⟨k1,k2⟩:=IC Z M (by omega) O;cases hfl:NG u with
    |false=>rw[hfl]at hc;cases hc
    |true=>
     rw[hfl]at hc;simp only[zW,zd,zg]at hc;obtain⟨rfl,rfl⟩:=hc;refine⟨BE.refl _ _,fun w0 m w cargs L r I=>?_⟩;have hv0:CM ⟨fun _=>none,fun _ _=>none,fun _ _=>False⟩ args cargs.toList:=⟨I.1,fun i x y B hy=>(I.2 i x y B hy).I5 (zn.1 hfa x (zQ B))⟩;have r0:Rel C.P w ⟨fun _=>none,fun _ _=>none,fun _ _=>False⟩ ⟨0,.leaf⟩ w:=⟨Below.refl _ _,fun id E hE=>by simp at hE,fun id E o hE=>by simp at hE,fun id E o hE=>by simp at hE,fun id id' E E' o o' _ hE=>by simp at hE,fun g o v I=>(by cases I),fun id E o hE=>(by simp at hE),fun g x J=>J.elim,fun id E o hE=>by simp at hE⟩;refine(k2 w _ w cargs (L.later r.below) r0 hv0).mono fun v' w' ⟨m',g1,g2,g3⟩=>⟨m,BD.ext.refl _ _,r.later g2.below,g3.NG hfl⟩
   ·cases hc
  done
 ·rename_i hk;split at hc
  ·rename_i u h1 O;obtain⟨k1,k2⟩:=IC Z M (by omega) O;refine⟨k1.trans (SA (P:=C.P) g h1 u v h' hc).1,fun w0 m w cargs L r I=>(k2 w0 m w cargs L r (I.BA _)).mono fun v' w' ⟨m',g1,g2,g3⟩=>?_⟩;obtain⟨m2,e1,e2,e3⟩:=(SA (P:=C.P) g h1 u v h' hc).2 _ m' w' v' g2 g3;exact⟨m2,g1.trans e1 k1.1,e2,e3⟩
  ·cases hc
 ·rename_i hk;obtain⟨k1,k2⟩:=Tc Z M hk hc;exact⟨k1,fun w0 m w cargs L r I=>k2 w0 m w cargs L r (I.BA _)⟩
 ·rename_i hk;split at hc
  ·rename_i args' h1 H;obtain⟨k1,k2⟩:=IC Z M (by omega) hc;have hf3:Ov g h (.tuple args)=some (.tuple args',h1):=by unfold Ov;simp only[H,zj]
   obtain⟨q1,q2⟩:=SA (P:=C.P) g h _ _ h1 hf3;refine⟨q1.trans k1,fun w0 m w cargs L r I=>?_⟩;obtain⟨m2,e1,e2,e3⟩:=q2 _ m w (.tuple cargs) r (CM.tuple I);obtain⟨c,hc',hv'⟩:=e3.KO;cases hc';exact(k2 w0 m2 w cargs L e2 hv').mono fun v' w' ⟨m',g1,g2,g3⟩=>⟨m',e1.trans g1 q1.1,g2,g3⟩
  ·cases hc
 ·cases hc
theorem Su(Z:KM C):∀n,IL C n (DL C n)
 |0=>⟨⟨fun g h f args v h' hc=>by simp[DL]at hc,fun g h l args v h' hc=>by simp[DL]at hc⟩,fun g f c fr h e fr' h' _ B=>by simp[DL]at B,fun g f c fr h e fr' h' _ B=>by simp[DL]at B⟩
 |n+1=>by
  have ih:=Su Z n;refine⟨⟨UA Z ih,SQ (S:=DL C n)⟩,fun g f c fr h e fr' h' D B=>?_,fun g f c fr h e fr' h' D B w0 mS m w a Q L r H G V rd N=>?_⟩
  ·exact Dy ih (.loop c) (by simpa[codeOk]using D) B
  ·exact Rr Z ih D B L r H G V rd N
theorem Ut(Z:KM C){n:Nat}{g:Gd}{h h':AI}{f:FuncId}{args:List AB}{v:AB}(W:dH C n g h f args=some (v,h')){w0:World}{m:BD}{w:World}{cargs:Array Value}(L:Bh C.Cx w0)(r:Rel C.P w0 m h w)(I:CM m args cargs.toList):
  DX C.P f cargs w fun v' w'=>∃m':BD,(m.ext h.size m')∧Rel C.P w0 m' h' w'∧VR m' v v':=
 ((Su Z n).sub.call g h f args v h' W).2 w0 m w cargs L r I
theorem Ua (Z:KM C) {n:Nat} {g:Gd} {h h':AI} {f:FuncId} {args:List AB} {v:AB} (W:dH C n g h f args=some (v,h')) {fn:Func} {c:Code} (hfn:C.P.funcs[f]?=some fn) (hn:(fn.name=="runtime.NumGoroutine")=false) (O:fn.body=some c)
  {w0:World} {m:BD} {w:World} {cargs:Array Value} (L:Bh C.Cx w0) (r:Rel C.P w0 m h w) (I:CM m args cargs.toList):
  Calls C.P f cargs w fun e w'=>∃v',e=.returned v'∧∃m':BD,(m.ext h.size m')∧Rel C.P w0 m' h' w'∧VR m' v v':=by
 have:=Ut Z W L r I;unfold DX at this;rw[HG hfn hn O]at this;exact this
end
end Go.Av
