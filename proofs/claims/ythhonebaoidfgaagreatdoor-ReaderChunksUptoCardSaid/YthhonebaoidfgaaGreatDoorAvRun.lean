/-
 A part.
-/
import Derived.Test.YthhonebaoidfgaaGreatDoorAvSel
import Derived.Test.YthhonebaoidfgaaGreatDoorAvMs
import Derived.RangeFuncRecord
import Derived.ScopeJumps
set_option linter.unusedSimpArgs false
namespace Go.Av
set_option linter.unusedVariables false
set_option linter.unusedSimpArgs false
open Go.RowKit
def codeOk(C:Hv)(f:FuncId):Code->Bool
 | .region id ops draw=> !draw||S7 C.P ops (C.OZ f id)
 | .seq a b=>codeOk C f a&&codeOk C f b
 | .cond _ a b=>codeOk C f a&&codeOk C f b
 | .block _ c=>codeOk C f c
 | .loop c=>codeOk C f c
 | .scope c=>codeOk C f c
 | .rangeFunc _ _ a b=>codeOk C f a&&codeOk C f b
 |_=>true
def KD:Code->Bool
 | .seq a b=>KD a&&KD b
 | .cond _ a b=>KD a&&KD b
 | .block _ c=>KD c
 | .loop c=>KD c
 | .scope c=>KD c
 | .rangeFunc .. =>false
 |_=>true
structure IZ(C:Hv):Prop where
 mix:C.P.follows .mixedOrders=true
 code:∀f fn c,(C.kind f=1\/C.kind f=2\/C.kind f=4\/C.kind f=7\/C.kind f=8\/C.kind f=9\/C.kind f=10\/C.kind f=11)->C.P.funcs[f]?=some fn->fn.body=some c->(fn.name=="runtime.NumGoroutine")=false/\codeOk C f c=true
 ki:∀f a b,C.ki f a b=true->codeOk C f a=true/\codeOk C f b=true/\KD a=true/\KD b=true
 ext:∀f,C.kind f=3->VC C.P C.DC λg h f' args=>if f'=f then C.ext f g h args else none
def CT.to:CT->Exit
 | .normal=>.normal
 | .exit id=>.exit id
 | .ret=>.ret
def mark(r:Nat):Deferred:={target:=.collected r,args:=#[]}
def Mk(mS m:Bk)(ds:List Deferred):Prop:=(∀g x,mS.df g x->m.df g x)/\∃rs:List Nat,ds=rs.map mark/\rs.Nodup/\∀r∈rs,m.df r (.deferred (some []))/\∀x,¬mS.df r x
theorem Mk.nil(m:Bk):Mk m m []:=⟨λ_ _ h=>h,[],rfl,xz,λr h=>by cases h⟩
theorem Mk.ext{mS m m':Bk}{n:Nat}{ds:List Deferred}(h:Mk mS m ds)(k:m.ext n m'):Mk mS m' ds:=by
 obtain⟨h1,rs,h2,h3,h4⟩:=h;exact⟨λg x T=>k.df g x (h1 g x T),rs,h2,h3,λr hr=>⟨k.df r _ (h4 r hr).1,(h4 r hr).2⟩⟩
def KU(P:Program)(w0:World)(mS m:Bk)(n:Nat)(e:CT)(fr':Fr)(h':AF)(Q:Exit->Act->World->Prop):Prop:=
 ∀m' a' w',(m.ext n m')->Rel P w0 m' h' w'->FR m' fr' a'->Mk mS m' a'.defers->Q e.to a' w'
def LF(P:Program)(l:Nat)(rest:Code)(Q:Exit->Act->World->Prop):Nat->Act->World->Prop
 |0,_,_=>False
 |k+1,a,w=>rest.wpIn (FW none) 0 P (Exit.jump l (LF P l rest Q k) (Exit.noGoto Q)) a w
theorem QO{P:Program}{c rest:Code}{l k:Nat}{Q:Exit->Act->World->Prop}{a:Act}{w:World}(H:findLabel c l=some (.seq .skip rest))(first:c.wpIn (FW none) 0 P (Exit.jump l (LF P l rest Q k) (Exit.noGoto Q)) a w):(Code.scope c).wpIn (FW none) 0 P Q a w:=by
 intro b ks cs hro U hr;have T:gotoIn l (.inScope c::ks)=some (.code (.seq .skip rest)::.inScope c::ks):=by simp[gotoIn,H]
 have B:∀id,exitTo id (.inScope c::ks)=exitTo id ks:=λid=>by simp[exitTo]
 have key:∀k a w,LF P l rest Q k a w->∃e a' w',Q e a' w'/\ArrivesIn (Machine.fenced P (FW none)) P (lone (b.atR a (.code (.seq .skip rest)::.inScope c::ks)) cs w) b ks cs e a' w':=by
  intro k
  induction k with
  |zero=>intro a w h;exact h.elim
  | succ k ih=>
   intro a w h;obtain⟨e,a₁,w₁,W,harr⟩:=(wpIn_seq (F:=FW none) (n:=0) (Q:=Exit.jump l (LF P l rest Q k) (Exit.noGoto Q)) (x:=.skip) (y:=rest) (wpIn_skip h)) b (.inScope c::ks) cs hro U hr;cases e with
   |normal=>exact⟨.normal,a₁,w₁,W,StepsIn.trans harr (.one (fenced_calm U hr rfl) LO)⟩
   |exit id=>exact⟨.exit id,a₁,w₁,W,λk' hk=>harr.1 k' (by rw[B];exact hk),λhr' hk=>harr.2 hr' (by rw[B];exact hk)⟩
   |goto l'=>
    obtain⟨rfl,hJ⟩:=W;obtain⟨e₂,a₂,w₂,hq₂,harr₂⟩:=ih a₁ w₁ hJ;exact⟨e₂,a₂,w₂,hq₂,.of_steps (harr.1 _ T) harr₂⟩
   |ret=>exact⟨_,a₁,w₁,W,harr⟩
   |panic ch=>exact⟨_,a₁,w₁,W,harr⟩
   |outgrown=>exact⟨_,a₁,w₁,W,harr⟩
 have h0:(lone (b.atR a (.code (.scope c)::ks)) cs w).fenced P (FW none):=fenced_calm U hr rfl;obtain⟨e,a₁,w₁,W,harr⟩:=first b (.inScope c::ks) cs hro U hr
 cases e with
 |normal=>exact⟨.normal,a₁,w₁,W,.head h0 D1 (StepsIn.trans harr (.one (fenced_calm U hr rfl) LO))⟩
 | exit id=>
  exact⟨.exit id,a₁,w₁,W,λk' hk=>.head h0 D1 (harr.1 k' (by rw[B];exact hk)),
   λhr' hk=>let ⟨k₁,h1,h2⟩:=harr.2 hr' (by rw[B];exact hk);⟨k₁,h1,.head h0 D1 h2⟩⟩
 |goto l'=>
  obtain⟨rfl,hJ⟩:=W;obtain⟨e₂,a₂,w₂,hq₂,harr₂⟩:=key _ a₁ w₁ hJ;exact⟨e₂,a₂,w₂,hq₂,.of_steps (.head h0 D1 (harr.1 _ T)) harr₂⟩
 |ret=>exact⟨_,a₁,w₁,W,.of_steps (.one h0 D1) harr⟩
 |panic ch=>exact⟨_,a₁,w₁,W,.of_steps (.one h0 D1) harr⟩
 |outgrown=>exact⟨_,a₁,w₁,W,.of_steps (.one h0 D1) harr⟩
structure GO(C:Hv)(n:Nat)(S:Self):Prop where
 sub:HW C.P C.DC S
 keeps:∀g f c fr h e fr' h',codeOk C f c=true->S.loop g f c fr h=some (e,fr',h')->Bh g h h'/\fr'.length=fr.length
 loop:∀g f c fr h e fr' h',codeOk C f c=true->S.loop g f c fr h=some (e,fr',h')->∀w0 mS m w a Q,CH C.DC w0->Rel C.P w0 m h w->FR m fr a->Mk mS m a.defers->KU C.P w0 mS m h.size e fr' h' Q->∀rd:Option Nat,rd=none\/KD c=true->Code.roundsIn (FW rd) 0 C.P c Q n a w
 jump:∀g f l rest b fr h e fr' h',Nb l rest=some b->codeOk C f b=true->S.loop g f b fr h=some (e,fr',h')->∀w0 mS m w a Q,CH C.DC w0->Rel C.P w0 m h w->FR m fr a->Mk mS m a.defers->KU C.P w0 mS m h.size e fr' h' Q->LF C.P l rest Q n a w
section
variable {C:Hv} {S:Self} {n:Nat}
theorem C3(L:GO C n S){f:FuncId}{g:Gd}:∀(c:Code),codeOk C f c=true->∀{fr:Fr} {h:AF} {e:CT} {fr':Fr} {h':AF},Bl C S f g c fr h=some (e,fr',h')->Bh g h h'/\fr'.length=fr.length:=by
 intro c
 induction c with
 |skip=>intro _ fr h e fr' h' B;simp only[Bl,zb,ze]at B;obtain⟨_,rfl,rfl⟩:=B;exact⟨Bh.refl _ _,rfl⟩
 |label l=>intro _ fr h e fr' h' B;simp only[Bl,zb,ze]at B;obtain⟨_,rfl,rfl⟩:=B;exact⟨Bh.refl _ _,rfl⟩
 |exit id=>intro _ fr h e fr' h' B;simp only[Bl,zb,ze]at B;obtain⟨_,rfl,rfl⟩:=B;exact⟨Bh.refl _ _,rfl⟩
 |ret=>intro _ fr h e fr' h' B;simp only[Bl,zb,ze]at B;obtain⟨_,rfl,rfl⟩:=B;exact⟨Bh.refl _ _,rfl⟩
 |goto l=>intro _ fr h e fr' h' B;simp[Bl]at B
 |refuse s=>intro _ fr h e fr' h' B;simp[Bl]at B
 |rangeFunc x ps a b iha ihb=>intro _ fr h e fr' h' B;simp[Bl]at B
 | region id ops draw=>
  intro D fr h e fr' h' B;simp only[Bl]at B;cases draw with
  | true=>
   simp only[zL]at B;split at B
   ·rename_i fr1 h1 hr;simp only[zb,ze]at B;obtain⟨_,rfl,rfl⟩:=B;exact TP (by simpa[codeOk]using D) L.sub hr
   ·cases B
  | false=>
   simp only[yO]at B;split at B
   ·rename_i fr1 h1 hr;simp only[zb,ze]at B;obtain⟨_,rfl,rfl⟩:=B;exact El L.sub _ hr
   ·cases B
 | seq a b iha ihb=>
  intro D fr h e fr' h' B;simp only[codeOk,zf]at D;simp only[Bl]at B;split at B
  ·rename_i fr1 h1 ha;obtain⟨k1,k2⟩:=iha D.1 ha;obtain⟨k3,k4⟩:=ihb D.2 B;exact⟨k1.trans k3,k4.trans k2⟩
  ·exact iha D.1 B
 |cond c a b iha ihb=>
  intro D fr h e fr' h' B;simp only[codeOk,zf]at D;simp only[Bl]at B;split at B
  ·exact iha D.1 B
  ·exact ihb D.2 B
  ·cases B
 | block id c ih=>
  intro D fr h e fr' h' B;simp only[codeOk]at D;simp only[Bl]at B;split at B
  ·rename_i i fr1 h1 ha;have hk:=ih D ha;cases U:Nat.beq i id<;>rw[U]at B<;>simp only[zL,yO,zb,ze]at B<;>obtain⟨_,rfl,rfl⟩:=B<;>exact hk
  ·exact ih D B
 | loop c ih=>
  intro D fr h e fr' h' B;simp only[codeOk]at D;simp only[Bl]at B;split at B
  ·rename_i fr1 h1 ha;obtain⟨k1,k2⟩:=ih D ha;obtain⟨k3,k4⟩:=L.keeps g f c fr1 h1 e fr' h' D B;exact⟨k1.trans k3,k4.trans k2⟩
  ·exact ih D B
 |scope c ih=>
  intro D fr h e fr' h' B;simp only[codeOk]at D;simp only[Bl]at B;exact ih D B
theorem KU.trans{P:Program}{w0:World}{mS m m1:Bk}{k k1:Nat}{e:CT}{fr':Fr}{h':AF}{Q:Exit->Act->World->Prop}(M:KU P w0 mS m k e fr' h' Q)(hk:k<=k1)(h1:m.ext k m1):KU P w0 mS m1 k1 e fr' h' Q:=
 λm' a' w' g1 g2 g3 g4=>M m' a' w' (h1.trans g1 hk) g2 g3 g4
theorem HU {P:Program} {f:FuncId} {fn:Func} {c:Code} (H:P.funcs[f]?=some fn) (hn:(fn.name=="runtime.NumGoroutine")=false) (U:fn.body=some c) (args:Array Value) (w:World):
  (callFunc f args).run P w=.ok (.enter f args) w:=by
 unfold callFunc;simp only[Sem.run_bind,program,Sem.run,Result.andThen_ok,H];simp[hn,U]
theorem Vf(w:World)(g:Nat)(o:Obj):Fs w (w.putObj g o) g:=⟨rfl,rfl,rfl,by simp[World.putObj],λk hk V=>by simp[World.putObj,Ne.symm V]⟩
theorem CG(O:IZ C)(L:GO C n S){f:FuncId}{g:Gd}:∀(c:Code),codeOk C f c=true->∀{fr:Fr} {h:AF} {e:CT} {fr':Fr} {h':AF},Bl C S f g c fr h=some (e,fr',h')->
  ∀{w0:World} {mS m:Bk} {w:World} {a:Act} {Q:Exit->Act->World->Prop},CH C.DC w0->Rel C.P w0 m h w->FR m fr a->Mk mS m a.defers->KU C.P w0 mS m h.size e fr' h' Q->∀rd:Option Nat,rd=none\/KD c=true->c.wpIn (FW rd) 0 C.P Q a w:=by
 intro c
 induction c with
 |skip=>intro _ fr h e fr' h' B w0 mS m w a Q I r H G M rd Z;simp only[Bl,zb,ze]at B;obtain⟨rfl,rfl,rfl⟩:=B;exact wpIn_skip (M m a w (Bk.ext.refl _ _) r H G)
 |label l=>intro _ fr h e fr' h' B w0 mS m w a Q I r H G M rd Z;simp only[Bl,zb,ze]at B;obtain⟨rfl,rfl,rfl⟩:=B;exact wpIn_label (M m a w (Bk.ext.refl _ _) r H G)
 |exit id=>intro _ fr h e fr' h' B w0 mS m w a Q I r H G M rd Z;simp only[Bl,zb,ze]at B;obtain⟨rfl,rfl,rfl⟩:=B;exact wpIn_exit (M m a w (Bk.ext.refl _ _) r H G)
 |ret=>intro _ fr h e fr' h' B w0 mS m w a Q I r H G M rd Z;simp only[Bl,zb,ze]at B;obtain⟨rfl,rfl,rfl⟩:=B;exact wpIn_ret (M m a w (Bk.ext.refl _ _) r H G)
 |goto l=>intro _ fr h e fr' h' B;simp[Bl]at B
 |refuse s=>intro _ fr h e fr' h' B;simp[Bl]at B
 |rangeFunc x ps ca cb iha ihb=>intro _ fr h e fr' h' B;simp[Bl]at B
 | region id ops draw=>
  intro D fr h e fr' h' B w0 mS m w a Q I r H G M rd Z;simp only[Bl]at B;cases draw with
  | true=>
   simp only[zL]at B;split at B
   ·rename_i fr1 h1 hr;simp only[zb,ze]at B;obtain⟨rfl,rfl,rfl⟩:=B;exact TJ O.mix (by simpa[codeOk]using D) L.sub I r H hr (λm' a' w' g1 g2 g3 g4=>M m' a' w' g1 g2 g3 (by rw[g4];exact G.ext g1)) rd
   ·cases B
  | false=>
   simp only[yO]at B;split at B
   ·rename_i fr1 h1 hr;simp only[zb,ze]at B;obtain⟨rfl,rfl,rfl⟩:=B;exact wpIn_region_list (G3 L.sub I _ r H hr (λm' a' w' g1 g2 g3 g4=>M m' a' w' g1 g2 g3 (by rw[g4];exact G.ext g1)) rd)
   ·cases B
 | seq x y iha ihb=>
  intro D fr h e fr' h' B w0 mS m w a Q I r H G M rd Z;simp only[codeOk,zf]at D;simp only[Bl]at B;split at B
  ·rename_i fr1 h1 ha;have hk:=(C3 L x D.1 ha).1;refine wpIn_seq (iha D.1 ha I r H G (λm1 a1 w1 g1 g2 g3 g4=>?_) rd (Z.imp (λh=>h) λh=>by simp only[KD,zf]at h;exact h.1));exact ihb D.2 B I g2 g3 g4 (M.trans hk.1 g1) rd (Z.imp (λh=>h) λh=>by simp only[KD,zf]at h;exact h.2)
  ·rename_i V;refine wpIn_seq (iha D.1 B I r H G (λm1 a1 w1 g1 g2 g3 g4=>?_) rd (Z.imp (λh=>h) λh=>by simp only[KD,zf]at h;exact h.1));have W:=M m1 a1 w1 g1 g2 g3 g4;cases e with
   |normal=>exact absurd B (V _ _)
   |exit id=>exact W
   |ret=>exact W
 |cond c x y iha ihb=>
  intro D fr h e fr' h' B w0 mS m w a Q I r H G M rd Z;simp only[codeOk,zf]at D;simp only[Bl]at B;have N:=H.ev c;split at B
  ·rename_i hc;rw[hc]at N;exact wpIn_cond_true N.Ll (iha D.1 B I r H G M rd (Z.imp (λh=>h) λh=>by simp only[KD,zf]at h;exact h.1))
  ·rename_i hc;rw[hc]at N;exact wpIn_cond_false N.Ll (ihb D.2 B I r H G M rd (Z.imp (λh=>h) λh=>by simp only[KD,zf]at h;exact h.2))
  ·cases B
 | block id c ih=>
  intro D fr h e fr' h' B w0 mS m w a Q I r H G M rd Z;simp only[codeOk]at D;simp only[Bl]at B;split at B
  ·rename_i i fr1 h1 ha;refine wpIn_block (ih D ha I r H G (λm1 a1 w1 g1 g2 g3 g4=>?_) rd (Z.imp (λh=>h) λh=>by simpa[KD]using h));show(if i=id then Q .normal a1 w1 else Q (.exit i) a1 w1);cases U:Nat.beq i id with
   |true=>
    rw[U]at B;simp only[zL,zb,ze]at B;obtain⟨rfl,rfl,rfl⟩:=B;rw[zl (zt U)];exact M m1 a1 w1 g1 g2 g3 g4
   |false=>
    rw[U]at B;simp only[yO,zb,ze]at B;obtain⟨rfl,rfl,rfl⟩:=B;rw[zj (λe=>by rw[e,yl]at U;cases U)];exact M m1 a1 w1 g1 g2 g3 g4
  ·rename_i V;refine wpIn_block (ih D B I r H G (λm1 a1 w1 g1 g2 g3 g4=>?_) rd (Z.imp (λh=>h) λh=>by simpa[KD]using h));have W:=M m1 a1 w1 g1 g2 g3 g4;cases e with
   |normal=>exact W
   |exit i=>exact absurd B (V _ _ _)
   |ret=>exact W
 | loop c ih=>
  intro D fr h e fr' h' B w0 mS m w a Q I r H G M rd Z;simp only[codeOk]at D;simp only[Bl]at B;have hrd':rd=none\/KD c=true:=Z.imp (λh=>h) λh=>by simpa[KD]using h
  refine wpIn_loop_rounds (n+1) ?_;rw[roundsIn_succ];split at B
  ·rename_i fr1 h1 ha;have hk:=(C3 L c D ha).1;refine ih D ha I r H G (λm1 a1 w1 g1 g2 g3 g4=>?_) rd hrd';exact L.loop g f c fr1 h1 e fr' h' D B w0 mS m1 w1 a1 Q I g2 g3 g4 (M.trans hk.1 g1) rd hrd'
  ·rename_i V;refine ih D B I r H G (λm1 a1 w1 g1 g2 g3 g4=>?_) rd hrd';have W:=M m1 a1 w1 g1 g2 g3 g4;cases e with
   |normal=>exact absurd B (V _ _)
   |exit id=>exact W
   |ret=>exact W
 |scope c ih=>
  intro D fr h e fr' h' B w0 mS m w a Q I r H G M rd Z;simp only[codeOk]at D;simp only[Bl]at B;refine Xa (ih D B I r H G (λm1 a1 w1 g1 g2 g3 g4=>?_) rd (Z.imp (λh=>h) λh=>by simpa[KD]using h));have W:=M m1 a1 w1 g1 g2 g3 g4;cases e with
  |normal=>exact W
  |exit i=>exact W
  |ret=>exact W
theorem Um(O:IZ C)(L:GO C n S){f:FuncId}{g:Gd}{c:Code}(D:codeOk C f c=true){fr:Fr}{h:AF}{e:CT}{fr':Fr}{h':AF}(B:Bl C S f g (.loop c) fr h=some (e,fr',h'))
  {w0:World} {mS m:Bk} {w:World} {a:Act} {Q:Exit->Act->World->Prop} (I:CH C.DC w0) (r:Rel C.P w0 m h w) (H:FR m fr a) (G:Mk mS m a.defers) (M:KU C.P w0 mS m h.size e fr' h' Q) (rd:Option Nat) (Z:rd=none\/KD c=true):Code.roundsIn (FW rd) 0 C.P c Q (n+1) a w:=by
 simp only[Bl]at B;rw[roundsIn_succ];split at B
 ·rename_i fr1 h1 ha;have hk:=(C3 L c D ha).1;refine CG O L c D ha I r H G (λm1 a1 w1 g1 g2 g3 g4=>?_) rd Z;exact L.loop g f c fr1 h1 e fr' h' D B w0 mS m1 w1 a1 Q I g2 g3 g4 (M.trans hk.1 g1) rd Z
 ·rename_i V;refine CG O L c D B I r H G (λm1 a1 w1 g1 g2 g3 g4=>?_) rd Z;have W:=M m1 a1 w1 g1 g2 g3 g4;cases e with
  |normal=>exact absurd B (V _ _)
  |exit id=>exact W
  |ret=>exact W
theorem U9:Yq C.P C.DC (dU C S):=λg h l args v h' hr=>by cases hr
theorem TU{P:Program}{w0:World}{m:Bk}{h:AF}{w:World}(r:Rel P w0 m h w){fr:Fr}{a:Act}(H:FR m fr a){x:ResultVar}{v:AD}(B:JS P fr h x=some v):
  ∃v',(match x with| .tmp t=>pure (a.tmps.getD t undef)| .cell c t=>do loadVar t (<-asAddr (a.tmps.getD c undef)):Sem Value).run P w=.ok v' w/\VR m v v':=by
 cases x with
 |tmp t=>simp only[JS,zb]at B;subst B;exact⟨_,rfl,H.2 t⟩
 | cell c t=>
  simp only[JS]at B;split at B
  ·rename_i id o hc;have N:=H.2 c;rw[hc]at N;generalize W:a.tmps.getD c undef=q at N;cases N with
   |ptr _ _ E hE=>
    obtain⟨v',h1,h2⟩:=NA r hE B;exact⟨v',by simp[W,asAddr,h1],h2⟩
  ·cases B
theorem Pz{P:Program}{w0:World}{m:Bk}{h:AF}{w:World}(r:Rel P w0 m h w){fr:Fr}{a:Act}(H:FR m fr a):∀(l:List ResultVar) (vs:List AD),l.mapM (JS P fr h)=some vs->
  ∃vs',(l.mapM (fun| .tmp t=>pure (a.tmps.getD t undef)| .cell c t=>do loadVar t (<-asAddr (a.tmps.getD c undef)):ResultVar->Sem Value)).run P w=.ok vs' w/\DD m vs vs'
 |[],vs,Y=>by simp at Y;subst Y;exact⟨[],by simp,.nil m⟩
 |x::l,vs,Y=>by
  rw[xc]at Y;simp only[bind,xH,pure,zb]at Y;obtain⟨v,N,us,hus,rfl⟩:=Y;obtain⟨v',h1,h2⟩:=TU r H N;obtain⟨us',h3,h4⟩:=Pz r H l us hus;refine⟨v'::us',?_,.cons h2 h4⟩;rw[xc];simp only[Sem.run_bind];cases x<;>simp only at h1<;>rw[h1]<;>simp only[Result.andThen_ok,h3,Sem.run_pure]
theorem I1{P:Program}{w0:World}{m:Bk}{h:AF}{w:World}(r:Rel P w0 m h w){fn:Func}{fr:Fr}{a:Act}(H:FR m fr a){v:AD}(B:Dz P fn fr h=some v):
  ∃v',(results fn a.tmps).run P w=.ok v' w/\VR m v v':=by
 unfold Dz at B;have key:∀vs,fn.results.toList.mapM (JS P fr h)=some vs->∃vs',(results fn a.tmps).run P w=.ok (if hh:vs'.length=1 then vs'[0]else .tuple vs'.toArray) w/\DD m vs vs':=by
  intro vs hvs;obtain⟨vs',h1,h2⟩:=Pz r H _ _ hvs;refine⟨vs',?_,h2⟩;unfold results;rw[Array.mapM_eq_mapM_toList];simp only[Sem.run_bind,Sem.run_map]
  erw [h1]
  simp
 split at B
 ·rename_i u hu;injection B with B;subst B;obtain⟨vs',h1,h2⟩:=key _ hu;have Y:vs'.length=1:=by rw[<-h2.1];rfl
  rw[dif_pos Y]at h1;exact⟨_,h1,h2.2 0 u _ rfl (by simp[Y])⟩
 ·rename_i us V hus;injection B with B;subst B;obtain⟨vs',h1,h2⟩:=key _ hus;have Y:¬vs'.length=1:=by
   rw[<-h2.1];intro Y
   match us,Y with
   |[u],_=>exact V u rfl
  rw[dif_neg Y]at h1;exact⟨_,h1,DD.tuple (by simpa using h2)⟩
 ·cases B
theorem It{P:Program}{w0:World}{h:AF}{fn:Func}{tmps:Array Value}{R:Ending->World->Prop}:∀(rs:List Nat),rs.Nodup->∀(m:Bk) (w:World),Rel P w0 m h w->(∀r∈rs,m.df r (.deferred (some [])))->
  (∀(m':Bk) w',m'.i=m.i->m'.fz=m.fz->(∀g x,m.df g x->g∉rs->m'.df g x)->Rel P w0 m' h w'->LeavesIn Fence.wide 0 P fn tmps R [] .returning w')->LeavesInM Fence.wide 0 P fn tmps R (rs.map mark) .returning w
 |[],_,m,w,r,_,hk=>hk m w rfl rfl (λ_ _ h _=>h) r
 | r0::rs,hn,m,w,r,hd,hk=>by
  obtain⟨hn1,hn2⟩:=yR.1 hn;have U:=(r.df r0 _ (hd r0 (by simp))).2;refine⟨by simp,.inl ⟨r0,_,rfl,run_takeDeferred U,?_⟩⟩;have ht:=Vf w r0 (.deferred none);have r':Rel P w0 ⟨m.i,m.fz,λk x=>m.df k x/\k≠r0⟩ h (w.putObj r0 (.deferred none)):=by
   refine⟨ht.below r.below r.size (r.df r0 _ (hd r0 (by simp))).1,r.Q2,λid E o hE ho=>MW.mono (m:=m) ⟨λ_ _ h=>h,λ_ _ _ h=>h⟩ (λY=>ht.block _ ((r.obj id E o hE ho).lt Y) λe=>?_) (r.obj id E o hE ho),r.own,r.sep,λg o v N=>?_,r.K1,λg x T=>⟨(r.df g x T.1).1,?_⟩,λid E o hE ho Y x T=>r.Re id E o hE ho Y x T.1⟩
   ·exact r.Re id E o hE ho Y _ (e ▸ hd r0 (by simp))
   ·obtain⟨cur,e,z,h1,h2⟩:=r.fz g o v N;refine⟨cur,e,z,?_,h2⟩;rw[ht.block g (r.WL N) (λe'=>by subst e';rw[U]at h1;cases h1)];exact h1
   ·rw[ht.block g (r.RB T.1) T.2];exact(r.df g x T.1).2
  refine It rs hn2 _ _ r' (λk hk'=>⟨hd k (by simp[hk']),λe=>hn1 (e ▸ hk')⟩) λm' w' e1 e2 e3 e4=>hk m' w' e1 e2 (λg x T hno=>e3 g x ⟨T,λe=>hno (by simp[e])⟩ λhm=>hno (by simp[hm])) e4
theorem SU{f:FuncId}{l:Nat}:∀{c b:Code},Nb l c=some b->codeOk C f c=true->codeOk C f b=true
 | .goto l',b,h,_=>by
  unfold Nb at h;cases U:Nat.beq l l' with
  |true=>rw[U]at h;cases h;rfl
  |false=>rw[U]at h;cases h
 | .seq x y,b,h,D=>by
  simp only[Nb,zk]at h;obtain⟨y',h1,rfl⟩:=h;simp only[codeOk,zf]at D⊢;exact⟨D.1,SU h1 D.2⟩
 | .skip,_,h,_=>by cases h
 | .region ..,_,h,_=>by cases h
 | .cond ..,_,h,_=>by cases h
 | .block ..,_,h,_=>by cases h
 | .loop _,_,h,_=>by cases h
 | .exit _,_,h,_=>by cases h
 | .scope _,_,h,_=>by cases h
 | .label _,_,h,_=>by cases h
 | .ret,_,h,_=>by cases h
 | .rangeFunc ..,_,h,_=>by cases h
theorem YG{a b p r:Code}{l:Nat}(h:iP (.seq a b)=some (p,l,r)):(∃l',a=.label l'/\l'=l/\p=.skip/\Nb l b=some r)\/(∃p',findLabel a l=none/\p=.seq a p'/\iP b=some (p',l,r)):=by
 unfold iP at h;split at h
 ·rename_i l';simp only[zk,ze]at h;obtain⟨r',h1,rfl,rfl,rfl⟩:=h;exact .inl ⟨_,rfl,rfl,rfl,h1⟩
 ·simp only[xH]at h;obtain⟨⟨p',l',r'⟩,h1,h2⟩:=h;dsimp only at h2;split at h2
  ·rename_i H;simp only[zb,ze]at h2;obtain⟨rfl,rfl,rfl⟩:=h2;exact .inr ⟨p',H,rfl,h1⟩
  ·cases h2
theorem cy{f:FuncId}:∀{c p r:Code} {l:Nat},iP c=some (p,l,r)->codeOk C f c=true->codeOk C f p=true/\codeOk C f r=true
 | .seq a b,p,r,l,h,D=>by
  simp only[codeOk,zf]at D;rcases YG h with⟨_,rfl,rfl,rfl,h1⟩|⟨p',_,rfl,h1⟩
  ·exact⟨rfl,SU h1 D.2⟩
  ·have:=cy h1 D.2;exact⟨by simp only[codeOk,zf];exact⟨D.1,this.1⟩,this.2⟩
 | .skip,_,_,_,h,_=>by cases h
 | .region ..,_,_,_,h,_=>by cases h
 | .cond ..,_,_,_,h,_=>by cases h
 | .block ..,_,_,_,h,_=>by cases h
 | .loop _,_,_,_,h,_=>by cases h
 | .exit _,_,_,_,h,_=>by cases h
 | .scope _,_,_,_,h,_=>by cases h
 | .label _,_,_,_,h,_=>by cases h
 | .goto _,_,_,_,h,_=>by cases h
 | .ret,_,_,_,h,_=>by cases h
 | .rangeFunc ..,_,_,_,h,_=>by cases h
theorem bQ{f:FuncId}:∀{c:Code},codeOk C f c=true->codeOk C f (cJ c)=true
 | .scope c0,D=>by
  unfold cJ;split
  ·rename_i p l b hs;obtain⟨h1,h2⟩:=cy hs (by simpa[codeOk]using D);simp only[codeOk,zf];exact⟨h1,h2⟩
  ·exact D
 | .seq x y,D=>by
  simp only[codeOk,zf]at D;simp only[cJ,codeOk,zf];exact⟨D.1,bQ D.2⟩
 | .skip,h=>h
 | .region ..,h=>h
 | .cond ..,h=>h
 | .block ..,h=>h
 | .loop _,h=>h
 | .exit _,h=>h
 | .label _,h=>h
 | .goto _,h=>h
 | .ret,h=>h
 | .rangeFunc ..,h=>h
 | .refuse _,h=>h
theorem NS(O:IZ C)(L:GO C n S){f:FuncId}{g:Gd}{l:Nat}{J:Act->World->Prop}{Q:Exit->Act->World->Prop}{w0:World}{mS:Bk}(I:CH C.DC w0):∀{c b:Code},Nb l c=some b->codeOk C f b=true->∀{fr:Fr} {h:AF} {e:CT} {fr':Fr} {h':AF},Bl C S f g b fr h=some (e,fr',h')->
  ∀{m:Bk} {w:World} {a:Act},Rel C.P w0 m h w->FR m fr a->Mk mS m a.defers->(∀m' a' w',(m.ext h.size m')->Rel C.P w0 m' h' w'->FR m' fr' a'->Mk mS m' a'.defers->match e with| .normal=>J a' w'|e=>Q e.to a' w')->c.wpIn (FW none) 0 C.P (Exit.jump l J (Exit.noGoto Q)) a w
 | .goto l',b,ht,D,fr,h,e,fr',h',B,m,w,a,r,H,G,M=>by
  unfold Nb at ht;cases U:Nat.beq l l' with
  |false=>rw[U]at ht;cases ht
  |true=>
   rw[U]at ht;cases ht;simp only[Bl,zb,ze]at B;obtain⟨rfl,rfl,rfl⟩:=B;exact wpIn_goto ⟨(zt U).symm,M m a w (Bk.ext.refl _ _) r H G⟩
 | .seq x y,b,ht,D,fr,h,e,fr',h',B,m,w,a,r,H,G,M=>by
  simp only[Nb,zk]at ht;obtain⟨y',h1,rfl⟩:=ht;simp only[codeOk,zf]at D;simp only[Bl]at B;refine wpIn_seq ?_;split at B
  ·rename_i fr1 hh1 ha;have hk:=(C3 L x D.1 ha).1;refine CG O L x D.1 ha I r H G (λm1 a1 w1 g1 g2 g3 g4=>?_) none (.inl rfl);exact NS O L I h1 D.2 B g2 g3 g4 λm2 a2 w2 e1 e2 e3 e4=>M m2 a2 w2 (g1.trans e1 hk.1) e2 e3 e4
  ·rename_i V;refine CG O L x D.1 B I r H G (λm1 a1 w1 g1 g2 g3 g4=>?_) none (.inl rfl);have W:=M m1 a1 w1 g1 g2 g3 g4;cases e with
   |normal=>exact absurd B (V _ _)
   |exit id=>exact W
   |ret=>exact W
 | .skip,_,h,_,_,_,_,_,_,_,_,_,_,_,_,_,_=>by cases h
 | .region ..,_,h,_,_,_,_,_,_,_,_,_,_,_,_,_,_=>by cases h
 | .cond ..,_,h,_,_,_,_,_,_,_,_,_,_,_,_,_,_=>by cases h
 | .block ..,_,h,_,_,_,_,_,_,_,_,_,_,_,_,_,_=>by cases h
 | .loop _,_,h,_,_,_,_,_,_,_,_,_,_,_,_,_,_=>by cases h
 | .exit _,_,h,_,_,_,_,_,_,_,_,_,_,_,_,_,_=>by cases h
 | .scope _,_,h,_,_,_,_,_,_,_,_,_,_,_,_,_,_=>by cases h
 | .label _,_,h,_,_,_,_,_,_,_,_,_,_,_,_,_,_=>by cases h
 | .ret,_,h,_,_,_,_,_,_,_,_,_,_,_,_,_,_=>by cases h
 | .rangeFunc ..,_,h,_,_,_,_,_,_,_,_,_,_,_,_,_,_=>by cases h
theorem Qw(O:IZ C)(L:GO C n S){f:FuncId}{g:Gd}{l:Nat}{rest b:Code}(ht:Nb l rest=some b)(D:codeOk C f b=true){fr:Fr}{h:AF}{e:CT}{fr':Fr}{h':AF}(B:Bl C S f g (.loop b) fr h=some (e,fr',h'))
  {w0:World} {mS m:Bk} {w:World} {a:Act} {Q:Exit->Act->World->Prop} (I:CH C.DC w0) (r:Rel C.P w0 m h w) (H:FR m fr a) (G:Mk mS m a.defers) (M:KU C.P w0 mS m h.size e fr' h' Q):LF C.P l rest Q (n+1) a w:=by
 simp only[Bl]at B;show rest.wpIn (FW none) 0 C.P (Exit.jump l (LF C.P l rest Q n) (Exit.noGoto Q)) a w;split at B
 ·rename_i fr1 h1 ha;have hk:=(C3 L b D ha).1;exact NS O L I ht D ha r H G λm1 a1 w1 g1 g2 g3 g4=>L.jump g f l rest b fr1 h1 e fr' h' ht D B w0 mS m1 w1 a1 Q I g2 g3 g4 (M.trans hk.1 g1)
 ·rename_i V;refine NS O L I ht D B r H G λm1 a1 w1 g1 g2 g3 g4=>?_;have W:=M m1 a1 w1 g1 g2 g3 g4;cases e with
  |normal=>exact absurd B (V _ _)
  |exit id=>exact W
  |ret=>exact W
theorem UN(O:IZ C)(L:GO C n S){f:FuncId}{g:Gd}{w0:World}{mS:Bk}{Q:Exit->Act->World->Prop}(I:CH C.DC w0):∀{c p b:Code} {l:Nat},iP c=some (p,l,b)->codeOk C f c=true->∃rest,findLabel c l=some (.seq .skip rest)/\∀{fr:Fr} {h:AF} {e:CT} {fr':Fr} {h':AF},Bl C S f g (.seq p (.loop b)) fr h=some (e,fr',h')->
  ∀{m:Bk} {w:World} {a:Act},Rel C.P w0 m h w->FR m fr a->Mk mS m a.defers->KU C.P w0 mS m h.size e fr' h' Q->c.wpIn (FW none) 0 C.P (Exit.jump l (LF C.P l rest Q n) (Exit.noGoto Q)) a w
 | .seq x y,p,b,l,hs,D=>by
  simp only[codeOk,zf]at D;rcases YG hs with⟨_,rfl,rfl,rfl,ht⟩|⟨p',H,rfl,h1⟩
  ·refine⟨y,by simp[findLabel],λ{fr h e fr' h'} B {m w a} r H G M=>?_⟩;have hx':Bl C S f g (.loop b) fr h=some (e,fr',h'):=by
    rw[Bl]at B;simpa[Bl]using B
   exact wpIn_seq (wpIn_label (Qw O L ht (SU ht D.2) hx' I r H G M))
  ·obtain⟨rest,Y,hw⟩:=UN O L I h1 D.2;refine⟨rest,by simp[findLabel,H,Y],λ{fr h e fr' h'} B {m w a} r hfr G M=>?_⟩;refine wpIn_seq ?_;rw[Bl,Bl]at B;cases ha:Bl C S f g x fr h with
   |none=>rw[ha]at B;cases B
   | some q=>
    obtain⟨e1,fr1,hh1⟩:=q;rw[ha]at B;have hk:=(C3 L x D.1 ha).1;cases e1 with
    |normal=>
     have hx':Bl C S f g (.seq p' (.loop b)) fr1 hh1=some (e,fr',h'):=by rw[Bl];exact B
     exact CG O L x D.1 ha I r hfr G (λm1 a1 w1 g1 g2 g3 g4=>hw hx' g2 g3 g4 (M.trans hk.1 g1)) none (.inl rfl)
    |exit i=>
     simp only[zb,ze]at B;obtain⟨rfl,rfl,rfl⟩:=B;refine CG O L x D.1 ha I r hfr G (λm1 a1 w1 g1 g2 g3 g4=>?_) none (.inl rfl);exact M m1 a1 w1 g1 g2 g3 g4
    |ret=>
     simp only[zb,ze]at B;obtain⟨rfl,rfl,rfl⟩:=B;refine CG O L x D.1 ha I r hfr G (λm1 a1 w1 g1 g2 g3 g4=>?_) none (.inl rfl);exact M m1 a1 w1 g1 g2 g3 g4
 | .skip,_,_,_,h,_=>by cases h
 | .region ..,_,_,_,h,_=>by cases h
 | .cond ..,_,_,_,h,_=>by cases h
 | .block ..,_,_,_,h,_=>by cases h
 | .loop _,_,_,_,h,_=>by cases h
 | .exit _,_,_,_,h,_=>by cases h
 | .scope _,_,_,_,h,_=>by cases h
 | .label _,_,_,_,h,_=>by cases h
 | .goto _,_,_,_,h,_=>by cases h
 | .ret,_,_,_,h,_=>by cases h
 | .rangeFunc ..,_,_,_,h,_=>by cases h
theorem UB(O:IZ C)(L:GO C n S){f:FuncId}{g:Gd}{w0:World}{mS:Bk}{Q:Exit->Act->World->Prop}(I:CH C.DC w0):∀{c:Code},codeOk C f c=true->∀{fr:Fr} {h:AF} {e:CT} {fr':Fr} {h':AF},Bl C S f g (cJ c) fr h=some (e,fr',h')->
  ∀{m:Bk} {w:World} {a:Act},Rel C.P w0 m h w->FR m fr a->Mk mS m a.defers->KU C.P w0 mS m h.size e fr' h' Q->c.wpIn (FW none) 0 C.P Q a w
 | .scope c0,D,fr,h,e,fr',h',B,m,w,a,r,H,G,M=>by
  unfold cJ at B;split at B
  ·rename_i p l b hs;obtain⟨rest,Y,hw⟩:=UN O L I hs (by simpa[codeOk]using D) (Q:=Q) (mS:=mS) (g:=g);exact QO Y (hw B r H G M)
  ·exact CG O L _ D B I r H G M none (.inl rfl)
 | .seq x y,D,fr,h,e,fr',h',B,m,w,a,r,H,G,M=>by
  simp only[codeOk,zf]at D;simp only[cJ,Bl]at B;refine wpIn_seq ?_;split at B
  ·rename_i fr1 hh1 ha;have hk:=(C3 L x D.1 ha).1;refine CG O L x D.1 ha I r H G (λm1 a1 w1 g1 g2 g3 g4=>?_) none (.inl rfl);exact UB O L I D.2 B g2 g3 g4 (M.trans hk.1 g1)
  ·rename_i V;refine CG O L x D.1 B I r H G (λm1 a1 w1 g1 g2 g3 g4=>?_) none (.inl rfl);have W:=M m1 a1 w1 g1 g2 g3 g4;cases e with
   |normal=>exact absurd B (V _ _)
   |exit id=>exact W
   |ret=>exact W
 | .skip,D,_,_,_,_,_,B,_,_,_,r,H,G,M=>CG O L _ D B I r H G M none (.inl rfl)
 | .region ..,D,_,_,_,_,_,B,_,_,_,r,H,G,M=>CG O L _ D B I r H G M none (.inl rfl)
 | .cond ..,D,_,_,_,_,_,B,_,_,_,r,H,G,M=>CG O L _ D B I r H G M none (.inl rfl)
 | .block ..,D,_,_,_,_,_,B,_,_,_,r,H,G,M=>CG O L _ D B I r H G M none (.inl rfl)
 | .loop _,D,_,_,_,_,_,B,_,_,_,r,H,G,M=>CG O L _ D B I r H G M none (.inl rfl)
 | .exit _,D,_,_,_,_,_,B,_,_,_,r,H,G,M=>CG O L _ D B I r H G M none (.inl rfl)
 | .label _,D,_,_,_,_,_,B,_,_,_,r,H,G,M=>CG O L _ D B I r H G M none (.inl rfl)
 | .goto _,D,_,_,_,_,_,B,_,_,_,r,H,G,M=>CG O L _ D B I r H G M none (.inl rfl)
 | .ret,D,_,_,_,_,_,B,_,_,_,r,H,G,M=>CG O L _ D B I r H G M none (.inl rfl)
 | .rangeFunc ..,D,_,_,_,_,_,B,_,_,_,r,H,G,M=>CG O L _ D B I r H G M none (.inl rfl)
 | .refuse _,D,_,_,_,_,_,B,_,_,_,r,H,G,M=>CG O L _ D B I r H G M none (.inl rfl)
theorem Je(O:IZ C)(L:GO C n S){g:Gd}{h h':AF}{f:FuncId}{args:List AD}{v:AD}(hk:C.kind f=1\/C.kind f=2\/C.kind f=4\/C.kind f=7\/C.kind f=8\/C.kind f=9\/C.kind f=10\/C.kind f=11)(U:K5 C S g h f args=some (v,h')):
  Bh g h h'/\∀w0 m w (cargs:Array Value),CH C.DC w0->Rel C.P w0 m h w->DD m args cargs.toList->DP C.P f cargs w λv' w'=>∃m':Bk,(m.ext h.size m')/\Rel C.P w0 m' h' w'/\VR m' v v':=by
 unfold K5 at U;split at U
 ·cases U
 ·rename_i fn hfn;split at U
  ·cases U
  ·rename_i c hc;obtain⟨hn,D⟩:=O.code f fn c hk hfn hc;have main:∀e fr1 h1,e=CT.normal\/e=CT.ret->Bl C S f g (cJ c) (args++List.replicate (fn.ntmps - args.length) (.tuple [])) h=some (e,fr1,h1)->(Dz C.P fn fr1 h1).map (·,h1)=some (v,h')->
     Bh g h h'/\∀w0 m w (cargs:Array Value),CH C.DC w0->Rel C.P w0 m h w->DD m args cargs.toList->DP C.P f cargs w λv' w'=>∃m':Bk,(m.ext h.size m')/\Rel C.P w0 m' h' w'/\VR m' v v':=by
    intro e fr1 h1 he B hres;simp only[zk,ze]at hres;obtain⟨u,hu,rfl,rfl⟩:=hres;refine⟨(C3 L (cJ c) (bQ D) B).1,λw0 m w cargs I r N=>?_⟩;unfold DP;rw[HU hfn hn hc];simp only;have hlen:args.length=cargs.size:=by rw[N.1];simp
    refine(callsIn_wide (n:=0)).1 (callsIn_of_wp_marks hfn hc trivial (UB O L I D B r ⟨by simp[hlen],λi=>?_⟩ (Mk.nil m) (λm1 a1 w1 g1 g2 g3 g4=>?_)))
    ·rw[Ga,zo];simp only[zn];by_cases hi:i<args.length
     ·rw[List.getElem?_append_left hi,Array.getElem?_append_left om];rw[List.getElem?_eq_getElem hi,Array.getElem?_eq_getElem om];exact N.2 i _ _ (List.getElem?_eq_getElem hi) (by simp[<-hlen,hi])
     ·rw[List.getElem?_append_right om,Array.getElem?_append_right om];rw[List.getElem?_replicate,Array.getElem?_replicate,hlen];split
      ·exact VR.HN m
      ·exact VR.HN m
    ·have fin:LeavesInM Fence.wide 0 C.P fn a1.tmps (λe w'=>∃v',e=.returned v'/\∃m':Bk,(m.ext h.size m')/\Rel C.P w0 m' h1 w'/\VR m' u v') a1.defers .returning w1:=by
      obtain⟨_,rs,e1,e2,e3⟩:=g4;rw[e1];refine It rs e2 m1 w1 g2 (λr hr=>(e3 r hr).1) λm2 w2 d1 d2 d3 d4=>?_;have hle:m1.le m2:=⟨λid E hE=>by rw[d1];exact hE,λg o v N=>by rw[d2];exact N⟩;obtain⟨v',q1,q2⟩:=I1 d4 (g3.mono hle) hu;exact⟨v',q1,v',rfl,m2,⟨λid hid=>by rw[d1];exact g1.i id hid,λg o v N=>by rw[d2];exact g1.fz g o v N,λg x T=>d3 g x (g1.df g x T) λhm=>(e3 g hm).2 x T⟩,d4,q2⟩
     rcases he with rfl|rfl
     ·exact fin
     ·exact fin
   split at U
   ·rename_i fr1 h1 B;exact main .normal fr1 h1 (.inl rfl) B U
   ·rename_i fr1 h1 B;exact main .ret fr1 h1 (.inr rfl) B U
   ·cases U
theorem Tl(L:GO C n S){f:FuncId}{q:WE}(D:codeOk C f q.body=true){ks rs:List Nat}{it:Nat}{tI te:Tmp}{rest:List Oper}{hh:AF}{ob:T5}{σ:Fr×List AD}{p:AD×AD}{x:Bool×Fr×List AD}(B:Lr C S f q ks rs it tI te rest hh ob σ p=some x):x.2.1.length=σ.1.length:=by
 unfold Lr at B;split at B
 ·rename_i fr2 h2 hr;have k1:=(El L.sub _ hr).2;rw[yW]at k1;split at B
  ·rename_i fr h3 he;have k2:=(C3 L _ D he).2;rw[(LG (NC B).2).2.2.1,Dn,k2,k1]
  ·rename_i i fr h3 he;have k2:=(C3 L _ D he).2;rw[(LG (NC B).2).2.2.1,Dn,k2,k1]
  ·rename_i fr h3 he;have k2:=(C3 L _ D he).2;rw[(LG B).2.2.1,Dn,k2,k1]
  ·cases B
 ·cases B
theorem Ou{rnd:Fr×List AD->AD×AD->Option (Bool×Fr×List AD)}(hr:∀{σ p x},rnd σ p=some x->x.2.1.length=σ.1.length):∀(l:List (AD×AD)) {σ:Fr×List AD} {x:Bool×Fr×List AD},EP rnd l σ=some x->x.2.1.length=σ.1.length
 |[],σ,x,h=>by simp only[EP,zb]at h;rw[<-h]
 | p::l,σ,x,h=>by
  simp only[EP]at h;cases hp:rnd σ p with
  |none=>rw[hp]at h;cases h
  |some y=>
   obtain⟨b,z⟩:=y;have:=hr hp;cases b with
   |true=>rw[hp]at h;cases h;exact this
   |false=>rw[hp]at h;exact(Ou hr l h).trans this
structure lK(C:Hv)(S:Self)(f:FuncId)(q:WE)(g:Gd)(fr:Fr)(h:AF)(x:CT×Fr×AF)(ks rs:List Nat)(orng:Oper)(fr1:Fr)(h1:AF)(tM:TypeId)(y:Operand)(tI:Tmp)(id:Nat)(kt et:TypeId)(tn te:Tmp)(rest:List Oper)(es:List (AD×AD))(ob:T5)(cs0:List AD)(ret:Bool)(frE:Fr)(csE:List AD):Prop where
 last:q.o8.toList=q.o8.toList.dropLast++[orng]
 pre:Eb C S g q.o8 q.o8.toList.dropLast fr h=some (fr1,h1)
 op:orng.op=.range tM y
 dst:orng.dst=some tI
 gu:orng.guard=none
 ev:ev fr1 y=.map (some id)
 jz:C.P.underlying tM=some (.map kt et)
 nx:af q.o9 tI q.tb=some tn
 en:ax q.V6 tI=some (te,rest)
 get:h1.get id=some (.map 2 es)
 may:g.may id=true
 lT:YK g ob=true
 jT:∀id' gr,ob=some (id',gr)->h1.get id'=some (.cells gr 2 cs0)
 JY:(Fp ks 0 (fr1.set tI (.ptr (some (h1.size,0))))).all (LP (h1.size+1))=true
 aO:Pk h1.size (nth (Fp ks 0 (fr1.set tI (.ptr (some (h1.size,0))))) tI)=true
 free:Sv ks fr1.length tn q.tb=true
 flat:cs0.all PL=true
 fold:EP (Lr C S f q ks rs h1.size tI te rest ((h1.set id (.map 0 [])).push (.cells none 0 [])) ob) es (Fp ks 0 (fr1.set tI (.ptr (some (h1.size,0)))),cs0)=some (ret,frE,csE)
 perm:C.dec.1 (∀es',es'.Perm es->EP (Lr C S f q ks rs h1.size tI te rest ((h1.set id (.map 0 [])).push (.cells none 0 [])) ob) es' (Fp ks 0 (fr1.set tI (.ptr (some (h1.size,0)))),cs0)=some (ret,frE,csE))=true
 out:x=(bif ret then .ret else .normal,frE,Fg ((h1.set id (.map 0 [])).push (.cells none 0 [])) ob csE)
theorem cK{h:AF}{fr:Fr}{ot:Option Tmp}{ob:T5}{cs:List AD}(B:Yt h fr ot=some (ob,cs)):∀id gr,ob=some (id,gr)->h.get id=some (.cells gr 2 cs):=by
 unfold Yt at B;split at B
 ·cases B;intro _ _ e;cases e
 ·split at B
  ·split at B
   ·rename_i T;cases B;intro _ _ e;cases e;exact T
   ·cases B
  ·cases B
theorem Ve{f:FuncId}{q:WE}{g:Gd}{fr:Fr}{h:AF}{x:CT×Fr×AF}(B:Pa C S f q g fr h=some x):∃ks rs orng fr1 h1 tM y tI id kt et tn te rest es ob cs0 ret frE csE,lK C S f q g fr h x ks rs orng fr1 h1 tM y tI id kt et tn te rest es ob cs0 ret frE csE:=by
 unfold Pa at B;split at B
 rotate_left
 ·cases B
 rename_i ks rs ot orng fr1 h1 hmk hlast hpre;unfold Q5 at B;split at B
 rotate_left
 ·cases B
 rename_i tM y tI hop hdst hgu;split at B
 rotate_left
 ·cases B
 rename_i id kt et tn te rest hev hund hnx hen;split at B
 rotate_left
 ·cases B
 rename_i es ob cs0 hget hobj;cases hc:(g.may id&&YK g ob&&(Fp ks 0 (fr1.set tI (.ptr (some (h1.size,0))))).all (LP (h1.size+1))&&Pk h1.size (nth (Fp ks 0 (fr1.set tI (.ptr (some (h1.size,0))))) tI)&&Sv ks fr1.length tn q.tb&&cs0.all PL)with
 |false=>rw[hc]at B;cases B
 | true=>
  rw[hc]at B;simp only[zL]at B;simp only[zf]at hc;obtain⟨⟨⟨⟨⟨c1,c2⟩,c3⟩,c4⟩,c5⟩,c6⟩:=hc;unfold Uc at B;split at B
  ·rename_i ret frE csE hfold
   ·obtain⟨hd,B⟩:=NC B;cases B;exact⟨ks,rs,orng,fr1,h1,tM,y,tI,id,kt,et,tn,te,rest,es,ob,cs0,ret,frE,csE,⟨SB hlast,hpre,hop,hdst,hgu,hev,hund,hnx,hen,hget,c1,c2,cK hobj,c3,c4,c5,c6,hfold,hd,rfl⟩⟩
  ·cases B
theorem Vs(L:GO C n S){f:FuncId}{q:WE}{g:Gd}(D:codeOk C f q.body=true){fr:Fr}{h:AF}{e:CT}{fr':Fr}{h':AF}(B:Pa C S f q g fr h=some (e,fr',h')):Bh g h h'/\fr'.length=fr.length:=by
 obtain⟨ks,rs,orng,fr1,h1,tM,y,tI,id,kt,et,tn,te,rest,es,ob,cs0,ret,frE,csE,k⟩:=Ve B;have ho:=k.out;injection ho with e1 ho;injection ho with e2 e3;obtain⟨k1,k2⟩:=El L.sub _ k.pre;have Y:=Ou (λhr=>Tl L D hr) _ k.fold;simp only[Dn,yW]at Y;refine⟨?_,by rw[e2,Y,k2]⟩;have k3:Bh g h1 ((h1.set id (.map 0 [])).push (.cells none 0 [])):=(Bh.set k.get k.may).trans (Bh.push _ _ _);rw[e3];refine(k1.trans k3).trans ?_;cases ob with
 |none=>exact Bh.refl _ _
 | some p=>
  obtain⟨jT,gr⟩:=p;have T:=k.jT jT gr rfl;refine Bh.set (o':=.cells gr 2 cs0) ?_ k.lT;have V:jT≠id:=by
   intro e;subst e;have:=k.get.symm.trans T;cases this
  rw[AF.Ci _ _ (by simpa using h1.CA T),AF.CN _ _ (h1.CA k.get) V];exact T
open Go.ChangeMaps in
theorem Vl(O:IZ C)(L:GO C n S){f:FuncId}{g:Gd}{c:Code}{q:WE}(hc:Tk c=some q)(D:codeOk C f q.body=true){fr:Fr}{h:AF}{e:CT}{fr':Fr}{h':AF}(B:Pa C S f q g fr h=some (e,fr',h'))
  {w0:World} {mS m:Bk} {w:World} {a:Act} {Q:Exit->Act->World->Prop} (I:CH C.DC w0) (r:Rel C.P w0 m h w) (H:FR m fr a) (G:Mk mS m a.defers) (M:KU C.P w0 mS m h.size e fr' h' Q):c.wpIn (FW none) 0 C.P Q a w:=by
 obtain⟨hbb,i8,i9,i10,rfl⟩:=Uj hc;obtain⟨ks,rs,orng,fr1,h1,tM,y,tI,id,kt,et,tn,te,rest,es,ob,cs0,ret,frE,csE,MK⟩:=Ve B;have hout:=MK.out;injection hout with oe hout;injection hout with ofr oh;have hperm:=C.dec.2.1 _ MK.perm;have hksz:=(El L.sub _ MK.pre).1.1;have hlen1:=(El L.sub _ MK.pre).2;obtain⟨hh,hhe⟩:∃hh,hh=(h1.set id (.map 0 [])).push (.cells none 0 []):=⟨_,rfl⟩;have hhsz:hh.size=h1.size+1:=by rw[hhe];simp
 obtain⟨rnd,hrnd⟩:∃rnd,rnd=Lr C S f q ks rs h1.size tI te rest hh ob:=⟨_,rfl⟩;rw[<-hhe,<-hrnd]at hperm;rw[<-hhe]at oh;have hobl:∀id' gr,ob=some (id',gr)->id'<hh.size:=λid' gr e=>by have:=h1.CA (MK.jT id' gr e);omega
 obtain⟨nx,ex,hl9,nop,ndst,ngu,xop,xdst,xgu,hne1,hne2⟩:=fW MK.nx;obtain⟨en,hl10,eop,edst,egu⟩:=Yl MK.en;refine wpIn_seq (wpIn_region_list ?_);rw[MK.last];refine NP L.sub I _ r H MK.pre none (λm1 a1 w1 g1 g2 g3 g4=>?_);have hk1:Mk mS m1 a1.defers:=by rw[g4];exact G.ext g1
 have hvx:=g3.ev y;rw[MK.ev]at hvx;generalize hqx:a1.eval y=vx at hvx;cases hvx with
 | map _ E1 hE1=>
  obtain⟨hEb,hmo⟩:=g2.obj id E1 _ hE1 MK.get;obtain⟨ents,clock,p1,p2,p3,p4⟩:=M4.two (hmo (by decide)) (by decide);have hEg0:=g2.own id E1 _ hE1 MK.get rfl;have hrng:=run_range_map (P:=C.P) w1 tM kt et E1.g ents clock MK.jz p1
  refine wpListIn_plain MK.gu λK' hK=>Qc (v:=.pointer (some ⟨w1.heap.size,0,none⟩)) (w':=w1.alloc (.mapIter (some E1.g) clock #[] clock)) (by rw[MK.op];intro c hc;cases hc) (by
   unfold execOp;rw[MK.op]
   simp only[hqx,Sem.run_bind,hrng,Result.andThen_ok,Sem.run_pure]) none (hK _ _ ?_)
  obtain⟨it,hit⟩:∃it,it=w1.heap.size:=⟨_,rfl⟩;obtain⟨m2,hm2⟩:∃m2,m2=m1.upd h1.size ⟨it,0,K2 C.P none,0⟩:=⟨_,rfl⟩;have hEg:E1.g<it:=by rw[hit];exact(Array.getElem?_eq_some_iff.1 p1).1
  have hle12:m1.le m2:=by rw[hm2];exact Bk.O2 _ (g2.fresh (zw _))
  have hd1:Rel C.P w0 m1 (h1.set id (.map 0 [])) w1:=g2.dead MK.get rfl λE hE=>⟨by
   have:E1=E:=zJ (hE1.symm.trans hE)
   rw[<-this];exact hEb,λV=>absurd rfl V⟩
  have r2:Rel C.P w0 m2 hh (w1.alloc (.mapIter (some E1.g) clock #[] clock)):=by
   rw[hm2,hhe];exact hd1.new (Fs.alloc _ _ _) hit ⟨⟨⟨rfl,λ_=>dq.nil⟩,λ_ h=>by cases h⟩,λh=>absurd rfl h⟩
  have m2i:m2.i h1.size=some ⟨it,0,K2 C.P none,0⟩:=by rw[hm2];exact Bk.Gp _ _ _
  have m2df:∀g x,m2.df g x->m1.df g x:=λg x T=>by rw[hm2]at T;exact T
  have dfit:∀g x,m2.df g x->g≠it/\g≠E1.g:=λg x T=>⟨by have:=g2.RB (m2df g x T);omega,λe=>g2.Re id E1 _ hE1 MK.get rfl x (e ▸ m2df g x T)⟩;have hext2:m.ext h.size m2:=by rw[hm2];exact g1.trans (Bk.MC _ _ (zw _)) hksz
  have hhget:∀i o,hh.get i=some o->o.live=true->i<h1.size/\i≠id/\h1.get i=some o:=λi o ho Y=>by
   rw[hhe,AF.Ka]at ho;split at ho
   ·cases ho;cases Y
   ·rw[AF.J6 _ _ _ _ (h1.CA MK.get)]at ho;split at ho
    ·cases ho;cases Y
    ·rename_i h2;exact⟨h1.CA ho,h2,ho⟩
  have hhob:∀id' gr,ob=some (id',gr)->hh.get id'=some (.cells gr 2 cs0):=λid' gr e=>by
   have T:=MK.jT id' gr e;have V:id'≠id:=by
    intro e;subst e;have:=MK.get.symm.trans T;cases this
   rw[hhe,AF.Ci _ _ (by simpa using h1.CA T),AF.CN _ _ (h1.CA MK.get) V];exact T
  have hh0:∀i,(Fg hh ob cs0).get i=hh.get i:=λi=>by
   cases ob with
   |none=>rfl
   | some p=>
    obtain⟨id',gr⟩:=p;show(hh.set id' _).get i=_;by_cases e:i=id'
    ·subst e;rw[AF.get_set_same _ _ (hobl _ _ rfl),hhob _ _ rfl]
    ·rw[AF.CN _ _ (hobl _ _ rfl) e]
  have r2':Rel C.P w0 m2 (Fg hh ob cs0) (w1.alloc (.mapIter (some E1.g) clock #[] clock)):=r2.same (Np _ _ _) hh0;have hitB:w0.heap.size<=it:=by rw[hit];exact g2.size
  obtain⟨σ0,hσ0⟩:∃σ0:Fr×List AD,σ0=(Fp ks 0 (fr1.set tI (.ptr (some (h1.size,0)))),cs0):=⟨_,rfl⟩;rw[<-hσ0]at hperm;have hfree:=MK.free;simp only[Sv,zf,zH,yH]at hfree;obtain⟨⟨⟨fr1n,fr2n⟩,htn⟩,htb⟩:=hfree;have nl2:∀i F o,m2.i i=some F->hh.get i=some o->o.live=true->F.g≠it/\F.g≠E1.g:=λi F o hF ho Y=>by
   obtain⟨q1,q2,q3⟩:=hhget i o ho Y;have hF':m1.i i=some F:=by rw[hm2,Bk.Ro _ _ om]at hF;exact hF
   exact⟨by have:=(g2.obj i F o hF' q3).lt Y;omega,λe=>g2.sep id i E1 F _ o (λe=>q2 e.symm) hE1 hF' MK.get q3 rfl Y e.symm⟩
  obtain⟨a2,ha2⟩:∃a2,a2=a1.put orng.dst (.pointer (some ⟨w1.heap.size,0,none⟩)):=⟨_,rfl⟩;have f2:FR m2 σ0.1 a2:=by
   have q1:FR m2 (fr1.set tI (.ptr (some (h1.size,0)))) a2:=by
    rw[ha2,MK.dst]
    have:=FR.put (g3.mono hle12) (some tI) (x:=.ptr (some (h1.size,0))) (v:=.pointer (some ⟨w1.heap.size,0,none⟩)) (by
     have:=VR.ptr (m:=m2) h1.size 0 _ m2i;rw[<-hit]
     exact this)
    exact this
   rw[hσ0];exact q1.Fp ks
  have hd2:a2.defers=a1.defers:=by rw[ha2,D7]
  show((Code.block q.b _).wpIn (FW none) 0 C.P Q _ _);rw[<-ha2];have hst1:=p4.1;have hst2:=p4.2.1;have lenσ:∀l σ,EP rnd l σ0=some (false,σ)->σ.1.length=fr1.length:=λl σ H=>by
   have:=Ou (λhr=>Tl L D hr) l (by rw[hrnd]at H;exact H);rw[hσ0]at this;simpa[Dn]using this
  refine wpIn_block (wpIn_loop (λa w=>∃(m':Bk) (vis:List Nat) (σ:Fr×List AD) (seen:Array Nat),m2.ext hh.size m'/\Rel C.P w0 m' (Fg hh ob σ.2) w/\FR m' σ.1 a/\Mk mS m' a.defers/\(∀g x,m'.df g x->g≠it/\g≠E1.g)/\
    w.heap[E1.g]?=some (.map ents clock)/\w.heap[it]?=some (.mapIter (some E1.g) clock seen clock)/\vis.Nodup/\(∀i∈vis,i<ents.size)/\
    (∀(i:Nat) (en:MapEntry),ents[i]?=some en->(seen.contains en.born=true↔i∈vis))/\EP rnd (vis.map (aO es)) σ0=some (false,σ)/\
    nth σ.1 tI=.ptr (some (h1.size,0))/\nth σ.1 tn=.undef/\nth σ.1 q.tb=.undef)
   (λ_ w=>w.rangeLeft E1.g it) ⟨m2,[],σ0,#[],Bk.ext.refl _ _,?_,f2,?_,dfit,?_,?_,xz,λi hi=>(by cases hi),λi en hen=>(by simp),rfl,?_,?_,?_⟩ ?_)
  ·rw[hσ0];exact r2'
  ·rw[hd2,hm2];exact hk1.ext (Bk.MC _ _ (zw _))
  ·rw[Below.heap_alloc w1 _ _ om];exact p1
  ·rw[hit];exact heap_alloc_new w1 _
  ·rw[hσ0];exact VB MK.aO
  ·rw[hσ0];exact NQ (by simpa using htn) fr1n
  ·rw[hσ0];exact NQ (by simpa using htb) fr2n
  rintro aa ww ⟨m',vis,σ,seen,jx,rr,ff,jk,jd,hmp,hitr,vn,vl,vs,vf,sI,sn,sb⟩;have hσl:=lenσ _ _ vf;have hsza:aa.tmps.size=fr1.length:=by rw[<-ff.1,hσl]
  have m'i:m'.i h1.size=some ⟨it,0,K2 C.P none,0⟩:=by rw[jx.i _ om];exact m2i
  have hslot:aa.tmps.getD tI undef=.pointer (some ⟨it,0,none⟩):=by
   have:=ff.2 tI;rw[sI]at this;obtain⟨E',hE',N⟩:=this.bp;rw[m'i]at hE';cases hE';exact N
  have heI:aa.eval (.tmp tI)=.pointer (some ⟨it,0,none⟩):=hslot;have hmsz:=Np hh ob σ.2;have nl':∀i F o,m'.i i=some F->(Fg hh ob σ.2).get i=some o->o.live=true->F.g≠it/\F.g≠E1.g:=λi F o hF ho Y=>by
   obtain⟨o',h1',h2'⟩:=Vw (cs:=cs0) hobl ho Y;rw[hh0]at h1';have hi:=rr.Q2 i F hF;rw[hmsz]at hi;exact nl2 i F o' (by rw[<-jx.i i hi];exact hF) h1' h2'
  have hfzit:∀g o v,m'.fz g o=some v->g≠it:=λg o v N e=>by
   obtain⟨cur,e',z,c1,_⟩:=rr.fz g o v N;rw[e,hitr]at c1;cases c1
  refine wpIn_seq (wpIn_region_list ?_);rw[hl9];rcases run_next_at (P:=C.P) ww nx.type it E1.g clock clock seen ents clock hitr hmp hst1 (zw _)with⟨h0,hrun⟩|⟨e0,he0,w3,hal,hrun⟩
  ·-- nothing is left
   refine wpListIn_plain ngu λK hK=>Qc (v:=.tuple #[.bool false]) (w':=ww) (by rw[nop];intro c hc;cases hc) (by
    unfold execOp;rw[nop]
    simp only[heI,Sem.run_bind,hrun,Result.andThen_ok,Sem.run_pure]) none (hK _ _ ?_)
   rw[ndst];have ff1:=ff.Rj sn (.tuple #[.bool false]);have hsn:(aa.put (some tn) (.tuple #[.bool false])).eval (.tmp tn)=.tuple #[.bool false]:=JT (by rw[hsza];exact htn)
   refine wpListIn_plain xgu λK hK=>Qc (v:=.bool false) (w':=ww) (by rw[xop];intro c hc;cases hc) (by
    unfold execOp;rw[xop];simp only[hsn,Sem.run_bind,Instr.extract]
    rfl) none (hK _ _ ?_)
   rw[xdst];have ff2:=ff1.Rj sb (.bool false);refine wpIn_seq (wpIn_cond_false (JT (by rw[size_put,hsza];exact htb)) (wpIn_exit ?_));show(if q.b=q.b then Q .normal _ ww else Q (.exit q.b) _ ww);rw[zl rfl]
   have hpv:vis.Perm (List.range es.length):=Sf vn λi=>⟨λhi=>by rw[p2];exact vl i hi,λhi=>by
    have hi2:i<ents.size:=by rw[<-p2];exact hi
    exact(vs i _ (Array.getElem?_eq_getElem hi2)).1 (all_seen ents seen h0 _ (by simp))⟩
   have hfin:=hperm _ ((hpv.map (aO es)).trans (by rw[Y8]));rw[vf]at hfin;simp only[zb,ze]at hfin;obtain⟨hret,hσe⟩:=hfin;have hσ1:σ.1=frE:=by rw[hσe]
   have hσ2:σ.2=csE:=by rw[hσe]
   rw[hσ2]at rr;have:=M m' _ ww (hext2.trans jx om) (oh ▸ rr) (by rw[ofr,<-hσ1];exact ff2) (by rw[D7,D7];exact jk);rw[oe,<-hret]at this;exact this
  ·-- one more
   obtain⟨hmem,hns⟩:=mem_left he0;obtain⟨i0,hi0,hei0⟩:=qz.1 hmem;have hi0':i0<ents.size:=by simpa using hi0
   have hent:ents[i0]?=some e0:=by rw[Array.getElem?_eq_getElem hi0'];exact congrArg some (by simpa using hei0)
   obtain⟨⟨k,v⟩,hkv⟩:∃p,es[i0]?=some p:=⟨_,List.getElem?_eq_getElem (by rw[p2];exact hi0')⟩;obtain⟨hvk,hvv⟩:=p3 i0 k v e0 hkv hent;have hatI:aO es i0=(k,v):=by unfold Av.aO;rw[hkv];rfl
   have hi0v:i0∉vis:=λhi=>by
    have:=(vs i0 e0 hent).2 hi;rw[hns]at this;cases this
   obtain⟨ww3,hww3⟩:∃x,x=setBlock w3 it (.mapIter (some E1.g) clock (seen.push e0.born) clock):=⟨_,rfl⟩;rw[<-hww3]at hrun;have hitlt:it<ww.heap.size:=(Array.getElem?_eq_some_iff.1 hitr).1;have hheap:ww3.heap=ww.heap.setIfInBounds it (.mapIter (some E1.g) clock (seen.push e0.born) clock):=by
    rw[hww3];rcases hal with rfl|rfl<;>rfl
   have ht:Fs ww ww3 it:=⟨by rw[hww3];rcases hal with rfl|rfl<;>rfl,by rw[hww3];rcases hal with rfl|rfl<;>rfl,by rw[hww3];rcases hal with rfl|rfl<;>rfl,by rw[hheap];simp,λk hk V=>by rw[hheap];simp[Array.getElem?_setIfInBounds_ne (Ne.symm V)]⟩;have hit3:ww3.heap[it]?=some (.mapIter (some E1.g) clock (seen.push e0.born) clock):=by
    rw[hheap];simp[hitlt]
   have hmp3:ww3.heap[E1.g]?=some (.map ents clock):=by
    rw[ht.block _ (Array.getElem?_eq_some_iff.1 hmp).1 om];exact hmp
   have rr3:Rel C.P w0 m' (Fg hh ob σ.2) ww3:=rr.iter ht hitB (λi F o hF ho Y=>(nl' i F o hF ho Y).1) hfzit (λg x T=>(jd g x T).1)
   refine wpListIn_plain ngu λK hK=>Qc (v:=.tuple #[.bool true,e0.key,e0.val]) (w':=ww3) (by rw[nop];intro c hc;cases hc) (by
    unfold execOp;rw[nop]
    simp only[heI,Sem.run_bind,hrun,Result.andThen_ok,Sem.run_pure]) none (hK _ _ ?_)
   rw[ndst];have ff1:=ff.Rj sn (.tuple #[.bool true,e0.key,e0.val]);have hsn:(aa.put (some tn) (.tuple #[.bool true,e0.key,e0.val])).eval (.tmp tn)=.tuple #[.bool true,e0.key,e0.val]:=JT (by rw[hsza];exact htn)
   refine wpListIn_plain xgu λK hK=>Qc (v:=.bool true) (w':=ww3) (by rw[xop];intro c hc;cases hc) (by
    unfold execOp;rw[xop];simp only[hsn,Sem.run_bind,Instr.extract]
    rfl) none (hK _ _ ?_)
   rw[xdst];have ff2:=ff1.Rj sb (.bool true);refine wpIn_seq (wpIn_cond_true (JT (by rw[size_put,hsza];exact htb)) (wpIn_skip ?_));obtain⟨a4,ha4⟩:∃x,x=(aa.put (some tn) (.tuple #[.bool true,e0.key,e0.val])).put (some q.tb) (.bool true):=⟨_,rfl⟩;have hd4:a4.defers=aa.defers:=by rw[ha4,D7,D7]
   rw[<-ha4]at ff2;rw[<-ha4];show(Code.block q.b2 _).wpIn _ _ _ _ _ _;refine wpIn_block (wpIn_seq (wpIn_region_list ?_));rw[hl10];have heI4:a4.eval (.tmp tI)=.pointer (some ⟨it,0,none⟩):=by
    have:=ff2.2 tI;rw[sI]at this;obtain⟨E',hE',N⟩:=this.bp;rw[m'i]at hE';cases hE';exact N
   have hent3:=run_entry_at (P:=C.P) ww3 it E1.g clock seen ents clock e0 hit3 hmp3 hmem hst2
   refine wpListIn_plain egu λK hK=>Qc (v:=.tuple #[e0.key,e0.val]) (w':=ww3) (by rw[eop];intro c hc;cases hc) (by
    unfold execOp;rw[eop]
    simp only[heI4,Sem.run_bind,hent3,Result.andThen_ok,Sem.run_pure]) none (hK _ _ ?_)
   rw[edst];obtain⟨mp,hmpd⟩:∃mp:Bk,mp=⟨m'.i,m'.fz,λk x=>m'.df k x\/(k=it/\x=.mapIter (some E1.g) clock (seen.push e0.born) clock)\/(k=E1.g/\x=.map ents clock)⟩:=⟨_,rfl⟩;have rp:Rel C.P w0 mp (Fg hh ob σ.2) ww3:=by
    rw[hmpd];refine rr3.fy _ (λg x T=>?_) (λi F o hF ho Y x T=>?_)
    ·rcases T with T|⟨rfl,rfl⟩|⟨rfl,rfl⟩
     ·exact rr3.df g x T
     ·exact⟨hitB,hit3⟩
     ·exact⟨hEg0,hmp3⟩
    ·rcases T with T|⟨e,_⟩|⟨e,_⟩
     ·exact rr3.Re i F o hF ho Y x T
     ·exact(nl' i F o hF ho Y).1 e
     ·exact(nl' i F o hF ho Y).2 e
   have lep:m'.le mp:=by rw[hmpd];exact⟨λ_ _ h=>h,λ_ _ _ h=>h⟩
   have le2:m1.le mp:=Bk.le_trans (Bk.le_trans hle12 (r2.Oi jx)) lep;have ff5:FR mp (σ.1.set te (.tuple [k,v])) (a4.put (some te) (.tuple #[e0.key,e0.val])):=
    FR.put (ff2.mono lep) (some te) (DD.tuple (.cons (hvk.mono le2) (.cons (hvv.mono le2) (.nil _))))
   have mkp:Mk mS mp (a4.put (some te) (.tuple #[e0.key,e0.val])).defers:=by
    rw[D7,hd4];obtain⟨b1,rs',b2,b3,b4⟩:=jk;exact⟨λg x T=>by rw[hmpd];exact .inl (b1 g x T),rs',b2,b3,λr hr=>⟨by rw[hmpd];exact .inl (b4 r hr).1,(b4 r hr).2⟩⟩
   obtain⟨os,hos⟩:=Z5 vn vl hi0' hi0v;rw[<-p2]at hos;have hall:=hperm _ ((hos.map (aO es)).trans (by rw[Y8]));rw[qc,Oo _ _ vf,zK,hatI]at hall;obtain⟨X,hX⟩:∃X,rnd σ (k,v)=some X:=by
    cases hX:rnd σ (k,v)with
    |none=>simp only[EP,hX]at hall;cases hall
    |some X=>exact⟨X,rfl⟩
   have hX0:=hX;rw[hrnd]at hX;unfold Lr at hX;simp only at hX;split at hX
   rotate_left
   ·cases hX
   rename_i fr5 h5 hro;have hks5:=(El L.sub _ hro).1;refine G3 L.sub I _ rp ff5 hro (λm5 a6 w6 k1 k2 k3 k4=>?_) none;cases hEx:Bl C S f (TX hh.size ob) q.body fr5 h5 with
   |none=>rw[hEx]at hX;cases hX
   | some r6=>
    obtain⟨e3,fr3,h3⟩:=r6;have hks3:=(C3 L _ D hEx).1;show q.body.wpIn _ _ _ _ _ _;refine CG O L q.body D hEx I k2 k3 (by rw[k4];exact mkp.ext k1) (λm7 a7 w7 l1 l2 l3 l4=>?_) none (.inl rfl);have hksA:=hks5.trans hks3;have hx7:mp.ext hh.size m7:=by rw[<-hmsz];exact k1.trans l1 hks5.1
    have hit7:w7.heap[it]?=some (.mapIter (some E1.g) clock (seen.push e0.born) clock):=(l2.df it _ (hx7.df _ _ (by rw[hmpd];exact .inr (.inl ⟨rfl,rfl⟩)))).2;have hmp7:w7.heap[E1.g]?=some (.map ents clock):=(l2.df E1.g _ (hx7.df _ _ (by rw[hmpd];exact .inr (.inr ⟨rfl,rfl⟩)))).2;have key:∀ks' (x:Bool×Fr×List AD),TT ks' hh.size ob fr3 h3 x.1=some x->∃m9:Bk,m2.ext hh.size m9/\Rel C.P w0 m9 (Fg hh ob x.2.2) w7/\FR m9 x.2.1 a7/\Mk mS m9 a7.defers/\(∀g x,m9.df g x->g≠it/\g≠E1.g):=by
     intro ks' x B;obtain⟨s1,s2,s3,s4⟩:=LG B;obtain⟨r8,_⟩:=fB hh hobl rp hx7 hksA s4 l2;refine⟨⟨(mp.with m7).i,(mp.with m7).fz,λk x=>m7.df k x/\k≠it/\k≠E1.g⟩,⟨λi hi=>?_,λg o v N=>?_,λg x T=>?_⟩,r8.fy _ (λg x T=>r8.df g x T.1) (λi F o hF ho Y x T=>r8.Re i F o hF ho Y x T.1),?_,?_,λg x T=>T.2⟩
     ·show mp.i i=m2.i i;rw[hmpd];exact jx.i i hi
     ·exact hx7.fz g o v (by rw[hmpd];exact jx.fz g o v N)
     ·exact⟨hx7.df g x (by rw[hmpd];exact .inl (jx.df g x T)),dfit g x T⟩
     ·rw[s3];exact FR.fy (m:=mp.with m7) ((l3.Fp ks').JY (m:=mp.with m7) (n:=hh.size) (λi hi=>hx7.i i hi) s1) _
     ·obtain⟨b1,rs',b2,b3,b4⟩:=l4;have fromS:∀g x,mS.df g x->m2.df g x:=λg x T=>by rw[hm2];exact hk1.1 g x T
      refine⟨λg x T=>⟨b1 g x T,dfit g x (fromS g x T)⟩,rs',b2,b3,λr hr=>⟨⟨(b4 r hr).1,λe=>?_,λe=>?_⟩,(b4 r hr).2⟩⟩
      ·have:=(l2.df r _ (b4 r hr).1).2;rw[e,hit7]at this;cases this
      ·have:=(l2.df r _ (b4 r hr).1).2;rw[e,hmp7]at this;cases this
    have next:∀x:Bool×Fr×List AD,x.1=false->TT ks hh.size ob fr3 h3 x.1=some x->some X=some x->Pk h1.size (nth fr3 tI)=true->
      (∃(m':Bk) (vis:List Nat) (σ:Fr×List AD) (seen:Array Nat),m2.ext hh.size m'/\Rel C.P w0 m' (Fg hh ob σ.2) w7/\FR m' σ.1 a7/\Mk mS m' a7.defers/\(∀g x,m'.df g x->g≠it/\g≠E1.g)/\
    w7.heap[E1.g]?=some (.map ents clock)/\w7.heap[it]?=some (.mapIter (some E1.g) clock seen clock)/\vis.Nodup/\(∀i∈vis,i<ents.size)/\
    (∀(i:Nat) (en:MapEntry),ents[i]?=some en->(seen.contains en.born=true↔i∈vis))/\EP rnd (vis.map (Av.aO es)) σ0=some (false,σ)/\
    nth σ.1 tI=.ptr (some (h1.size,0))/\nth σ.1 tn=.undef/\nth σ.1 q.tb=.undef)/\w7.rangeLeft E1.g it<ww.rangeLeft E1.g it:=by
     intro x hx1 B hXx hat;obtain⟨m9,n1,n2,n3,n4,n5⟩:=key ks x B;obtain⟨s1,s2,s3,s4⟩:=LG B;have hl3:fr3.length=fr1.length:=by
      have e1:=(C3 L _ D hEx).2;have e2:=(El L.sub _ hro).2;rw[yW]at e2;omega
     have htI:tI<fr3.length:=by
      have:=MK.aO;rcases yh tI fr3.length with hlt|hge
      ·exact hlt
      ·have e:=Sw hge;rw[e]at hat;cases hat
     have hkI:ks.any (Nat.beq tI)=true:=by
      have h0:=VB MK.aO;cases hk:ks.any (Nat.beq tI)with
      |true=>rfl
      |false=>
       rw[NQ (by simpa[hl3]using htI) hk]at h0;cases h0
     refine⟨⟨m9,vis++[i0],x.2,seen.push e0.born,n1,n2,n3,n4,n5,hmp7,hit7,?_,λi hi=>?_,λi en' hen'=>?_,?_,?_,?_,?_⟩,?_⟩
     ·rw[yd];exact⟨vn,by simp,λa ha b U e=>by simp at U;subst U;subst e;exact hi0v ha⟩
     ·rcases zu.1 hi with hi|hi
      ·exact vl i hi
      ·simp at hi;subst hi;exact hi0'
     ·rw[contains_push,yp,zu,zU];constructor
      ·rintro(hc|hc)
       ·exact .inl ((vs i en' hen').1 hc)
       ·exact .inr (eo hst2 hen' hent (eq_of_beq hc))
      ·rintro(hc|rfl)
       ·exact .inl ((vs i en' hen').2 hc)
       ·rw[hent]at hen';cases hen';exact .inr (by simp)
     ·rw[qc,Oo _ _ vf,zK,hatI,xK];have:rnd σ (k,v)=some x:=by rw[hX0];exact hXx
      obtain⟨x1,x2⟩:=x;simp only at hx1;subst hx1;simp only[EP,this]
     ·rw[s3,L6 ks 0 fr3 tI htI,yz,hkI];exact VB hat
     ·rw[s3];exact NQ om fr1n
     ·rw[s3];exact NQ om fr2n
     ·have:=left_shrinks ents seen e0 he0;unfold World.rangeLeft;rw[hmp7,hit7,hmp,hitr];exact this
    rw[hEx]at hX;cases e3 with
    | normal=>
     simp only at hX;cases hat:Pk h1.size (nth fr3 tI)with
     |false=>rw[hat]at hX;cases hX
     |true=>
      rw[hat]at hX;simp only[zL]at hX;have hX1:=(LG hX).2.1;exact next X hX1 (by rw[hX1];exact hX) rfl hat
    | exit i=>
     simp only at hX;cases hat:(Nat.beq i q.b2&&Pk h1.size (nth fr3 tI))with
     |false=>rw[hat]at hX;cases hX
     |true=>
      rw[hat]at hX;simp only[zL]at hX;simp only[zf]at hat;have hX1:=(LG hX).2.1;have:=zt hat.1;subst this;show(if q.b2=q.b2 then _ else _);rw[zl rfl];exact next X hX1 (by rw[hX1];exact hX) rfl hat.2
    |ret=>
     simp only at hX;have hX1:=(LG hX).2.1;obtain⟨m9,n1,n2,n3,n4,n5⟩:=key rs X (by rw[hX1];exact hX);have hXt:rnd σ (k,v)=some (true,X.2):=by rw[hX0,<-hX1]
     simp only[EP,hXt,zb,ze]at hall;obtain⟨b1,b2⟩:=hall;have e1:X.2.1=frE:=by rw[b2]
     have e2:X.2.2=csE:=by rw[b2]
     rw[e2]at n2;rw[e1]at n3;have:=M m9 a7 w7 (hext2.trans n1 om) (oh ▸ n2) (by rw[ofr];exact n3) n4;rw[oe,<-b1]at this;exact this
theorem Qx(L:GO C n S){f:FuncId}{g:Gd}:∀(c:Code),codeOk C f c=true->∀{fr:Fr} {h:AF} {e:CT} {fr':Fr} {h':AF},Hu C S f g c fr h=some (e,fr',h')->Bh g h h'/\fr'.length=fr.length:=by
 intro c
 induction c with
 | seq a b iha ihb=>
  intro D fr h e fr' h' B;simp only[Hu]at B;split at B
  ·rename_i q W;obtain⟨_,i8,i9,i10,hc⟩:=Uj W;rw[hc]at D;simp only[codeOk,zf]at D;exact Vs L D.2.2.2.2 B
  ·simp only[codeOk,zf]at D;split at B
   ·rename_i fr1 h1 ha;obtain⟨k1,k2⟩:=iha D.1 ha;obtain⟨k3,k4⟩:=ihb D.2 B;exact⟨k1.trans k3,k4.trans k2⟩
   ·exact iha D.1 B
 |_=>intro D fr h e fr' h' B;simp only[Hu]at B;exact C3 L _ D B
theorem W8(O:IZ C)(L:GO C n S){f:FuncId}{g:Gd}:∀(c:Code),codeOk C f c=true->∀{fr:Fr} {h:AF} {e:CT} {fr':Fr} {h':AF},Hu C S f g c fr h=some (e,fr',h')->
  ∀{w0:World} {mS m:Bk} {w:World} {a:Act} {Q:Exit->Act->World->Prop},CH C.DC w0->Rel C.P w0 m h w->FR m fr a->Mk mS m a.defers->KU C.P w0 mS m h.size e fr' h' Q->c.wpIn (FW none) 0 C.P Q a w:=by
 intro c
 induction c with
 | seq x y iha ihb=>
  intro D fr h e fr' h' B w0 mS m w a Q I r H G M;simp only[Hu]at B;split at B
  ·rename_i q W;have hok':=D;obtain⟨_,i8,i9,i10,hc⟩:=Uj W;rw[hc]at hok';simp only[codeOk,zf]at hok';exact Vl O L W hok'.2.2.2.2 B I r H G M
  ·simp only[codeOk,zf]at D;split at B
   ·rename_i fr1 h1 ha;have hk:=(Qx L x D.1 ha).1;refine wpIn_seq (iha D.1 ha I r H G (λm1 a1 w1 g1 g2 g3 g4=>?_));exact ihb D.2 B I g2 g3 g4 (M.trans hk.1 g1)
   ·rename_i V;refine wpIn_seq (iha D.1 B I r H G (λm1 a1 w1 g1 g2 g3 g4=>?_));have W:=M m1 a1 w1 g1 g2 g3 g4;cases e with
    |normal=>exact absurd B (V _ _)
    |exit id=>exact W
    |ret=>exact W
 |_=>intro D fr h e fr' h' B w0 mS m w a Q I r H G M;simp only[Hu]at B;exact CG O L _ D B I r H G M none (.inl rfl)
theorem Vo(O:IZ C)(L:GO C n S){g:Gd}{h h':AF}{f:FuncId}{args:List AD}{v:AD}(hk:C.kind f=10)(U:Rr C S g h f args=some (v,h')):
  Bh g h h'/\∀w0 m w (cargs:Array Value),CH C.DC w0->Rel C.P w0 m h w->DD m args cargs.toList->DP C.P f cargs w λv' w'=>∃m':Bk,(m.ext h.size m')/\Rel C.P w0 m' h' w'/\VR m' v v':=by
 unfold Rr at U;split at U
 ·cases U
 ·rename_i fn hfn;split at U
  ·cases U
  ·rename_i c hc;obtain⟨hn,D⟩:=O.code f fn c om hfn hc;have main:∀e fr1 h1,e=CT.normal\/e=CT.ret->Hu C S f g c (args++List.replicate (fn.ntmps - args.length) (.tuple [])) h=some (e,fr1,h1)->(Dz C.P fn fr1 h1).map (·,h1)=some (v,h')->
     Bh g h h'/\∀w0 m w (cargs:Array Value),CH C.DC w0->Rel C.P w0 m h w->DD m args cargs.toList->DP C.P f cargs w λv' w'=>∃m':Bk,(m.ext h.size m')/\Rel C.P w0 m' h' w'/\VR m' v v':=by
    intro e fr1 h1 he B hres;simp only[zk,ze]at hres;obtain⟨u,hu,rfl,rfl⟩:=hres;refine⟨(Qx L c D B).1,λw0 m w cargs I r N=>?_⟩;unfold DP;rw[HU hfn hn hc];simp only;have hlen:args.length=cargs.size:=by rw[N.1];simp
    refine(callsIn_wide (n:=0)).1 (callsIn_of_wp_marks hfn hc trivial (W8 O L c D B I r ⟨by simp[hlen],λi=>?_⟩ (Mk.nil m) (λm1 a1 w1 g1 g2 g3 g4=>?_)))
    ·rw[Ga,zo];simp only[zn];by_cases hi:i<args.length
     ·rw[List.getElem?_append_left hi,Array.getElem?_append_left om];rw[List.getElem?_eq_getElem hi,Array.getElem?_eq_getElem om];exact N.2 i _ _ (List.getElem?_eq_getElem hi) (by simp[<-hlen,hi])
     ·rw[List.getElem?_append_right om,Array.getElem?_append_right om];rw[List.getElem?_replicate,Array.getElem?_replicate,hlen];split
      ·exact VR.HN m
      ·exact VR.HN m
    ·have fin:LeavesInM Fence.wide 0 C.P fn a1.tmps (λe w'=>∃v',e=.returned v'/\∃m':Bk,(m.ext h.size m')/\Rel C.P w0 m' h1 w'/\VR m' u v') a1.defers .returning w1:=by
      obtain⟨_,rs,e1,e2,e3⟩:=g4;rw[e1];refine It rs e2 m1 w1 g2 (λr hr=>(e3 r hr).1) λm2 w2 d1 d2 d3 d4=>?_;have hle:m1.le m2:=⟨λid E hE=>by rw[d1];exact hE,λg o v N=>by rw[d2];exact N⟩;obtain⟨v',q1,q2⟩:=I1 d4 (g3.mono hle) hu;exact⟨v',q1,v',rfl,m2,⟨λid hid=>by rw[d1];exact g1.i id hid,λg o v N=>by rw[d2];exact g1.fz g o v N,λg x T=>d3 g x (g1.df g x T) λhm=>(e3 g hm).2 x T⟩,d4,q2⟩
     rcases he with rfl|rfl
     ·exact fin
     ·exact fin
   split at U
   ·rename_i fr1 h1 B;exact main .normal fr1 h1 (.inl rfl) B U
   ·rename_i fr1 h1 B;exact main .ret fr1 h1 (.inr rfl) B U
   ·cases U
theorem Uw(L:GO C n S){g:Gd}{c:Code}{fr:Fr}{h:AF}{e:CT}{fr':Fr}{h':AF}(B:KS C S g c fr h=some (e,fr',h')):Bh g h h'/\fr'.length=fr.length:=by
 unfold KS at B;split at B
 ·split at B
  ·split at B
   ·rename_i hs;split at B
    ·rename_i hr;simp only[zb,ze]at B;obtain⟨_,rfl,rfl⟩:=B;obtain⟨k1,k2⟩:=El L.sub _ hr;exact⟨(S5 hs).trans k1,by rw[k2,X9]⟩
    ·cases B
   ·cases B
  ·cases B
 ·cases B
theorem Q7(L:GO C n S){f:FuncId}{g:Gd}:∀(c:Code),codeOk C f c=true->∀{fr:Fr} {h:AF} {e:CT} {fr':Fr} {h':AF},Ic C S f g c fr h=some (e,fr',h')->Bh g h h'/\fr'.length=fr.length:=by
 have base:∀(c:Code),codeOk C f c=true->∀{fr:Fr} {h:AF} {e:CT} {fr':Fr} {h':AF},(bif Ly c then KS C S g c fr h else Bl C S f g c fr h)=some (e,fr',h')->Bh g h h'/\fr'.length=fr.length:=by
  intro c D fr h e fr' h' B;cases hs:Ly c with
  |true=>rw[hs]at B;exact Uw L B
  |false=>rw[hs]at B;exact C3 L c D B
 intro c
 induction c with
 | seq a b iha ihb=>
  intro D fr h e fr' h' B;simp only[codeOk,zf]at D;simp only[Ic]at B;split at B
  ·rename_i fr1 h1 ha;obtain⟨k1,k2⟩:=iha D.1 ha;obtain⟨k3,k4⟩:=ihb D.2 B;exact⟨k1.trans k3,k4.trans k2⟩
  ·exact iha D.1 B
 |_=>intro D fr h e fr' h' B;simp only[Ic]at B;exact base _ D B
theorem VV(O:IZ C)(L:GO C n S){g:Gd}{c:Code}(hs:Ly c=true){fr:Fr}{h:AF}{e:CT}{fr':Fr}{h':AF}(B:KS C S g c fr h=some (e,fr',h'))
  {w0:World} {mS m:Bk} {w:World} {a:Act} {Q:Exit->Act->World->Prop} (I:CH C.DC w0) (r:Rel C.P w0 m h w) (H:FR m fr a) (G:Mk mS m a.defers) (M:KU C.P w0 mS m h.size e fr' h' Q):fA C.P c Q a w:=by
 cases c with
 | region id ops draw=>
  simp only[Ly,zf,zH]at hs;obtain⟨rfl,hs⟩:=hs;split at hs
  ·rename_i o ho;split at hs
   ·rename_i cases0 bl hop;simp only[KS]at B;have hol:∃rest,ops.toList=o::rest:=by
     cases Y:ops.toList with
     |nil=>rw[<-Array.getElem?_toList,Y]at ho;cases ho
     |cons o' rest=>
      rw[<-Array.getElem?_toList,Y]at ho;simp only[List.getElem?_cons_zero,zb]at ho;exact⟨rest,by rw[ho]⟩
    obtain⟨rest,hol⟩:=hol;rw[hol]at B;simp only at B;split at B
    ·rename_i v h1 hsel;split at B
     ·rename_i fr1 h2 hr;simp only[zb,ze]at B;obtain⟨rfl,rfl,rfl⟩:=B;obtain⟨cases1,v',w',q1,q2,q3,q4⟩:=YA r H hsel;have hk:=S5 hsel;have hde:(a.put o.dst v').defers=a.defers:=by cases o.dst<;>rfl
      have hx0:∀m':Bk,m.ext h1.size m'->m.ext h.size m':=λm' g1=>(Bk.ext.refl m _).trans g1 hk.1;have hr':=G3 L.sub I _ q3 (H.put o.dst q4) hr (Q:=Q) (ops:=ops) (λm' a' w' g1 g2 g3 g4=>M m' a' w' (hx0 m' g1) g2 g3 (by rw[g4,hde];exact G.ext (hx0 m' g1))) none;refine SO ho ?_ q1 q2 ?_
      ·unfold Region.wanted;cases T:o.guard with
       |none=>rfl
       |some p=>rw[T]at hs;cases hs
      ·rw[hol,List.drop_one,List.tail_cons];exact hr'
     ·cases B
    ·cases B
   ·cases hs
  ·cases hs
 |_=>simp[Ly]at hs
theorem W9(O:IZ C)(L:GO C n S){f:FuncId}{g:Gd}:∀(c:Code),codeOk C f c=true->∀{fr:Fr} {h:AF} {e:CT} {fr':Fr} {h':AF},Ic C S f g c fr h=some (e,fr',h')->
  ∀{w0:World} {mS m:Bk} {w:World} {a:Act} {Q:Exit->Act->World->Prop},CH C.DC w0->Rel C.P w0 m h w->FR m fr a->Mk mS m a.defers->KU C.P w0 mS m h.size e fr' h' Q->fA C.P c Q a w:=by
 have base:∀(c:Code),codeOk C f c=true->∀{fr:Fr} {h:AF} {e:CT} {fr':Fr} {h':AF},(bif Ly c then KS C S g c fr h else Bl C S f g c fr h)=some (e,fr',h')->
   ∀{w0:World} {mS m:Bk} {w:World} {a:Act} {Q:Exit->Act->World->Prop},CH C.DC w0->Rel C.P w0 m h w->FR m fr a->Mk mS m a.defers->KU C.P w0 mS m h.size e fr' h' Q->fA C.P c Q a w:=by
  intro c D fr h e fr' h' B w0 mS m w a Q I r H G M;cases hs:Ly c with
  |true=>rw[hs]at B;exact VV O L hs B I r H G M
  |false=>rw[hs]at B;exact Zp (wpIn_wide.1 (CG O L c D B I r H G M none (.inl rfl)))
 intro c
 induction c with
 | seq x y iha ihb=>
  intro D fr h e fr' h' B w0 mS m w a Q I r H G M;simp only[codeOk,zf]at D;simp only[Ic]at B;split at B
  ·rename_i fr1 h1 ha;have hk:=(Q7 L x D.1 ha).1;refine Yx (iha D.1 ha I r H G (λm1 a1 w1 g1 g2 g3 g4=>?_));exact ihb D.2 B I g2 g3 g4 (M.trans hk.1 g1)
  ·rename_i V;refine Yx (iha D.1 B I r H G (λm1 a1 w1 g1 g2 g3 g4=>?_));have W:=M m1 a1 w1 g1 g2 g3 g4;cases e with
   |normal=>exact absurd B (V _ _)
   |exit id=>exact W
   |ret=>exact W
 |_=>intro D fr h e fr' h' B;simp only[Ic]at B;exact base _ D B
theorem WR(O:IZ C)(L:GO C n S){g:Gd}{h h':AF}{f:FuncId}{args:List AD}{v:AD}(hk:C.kind f=8)(U:Sg C S g h f args=some (v,h')):
  Bh g h h'/\∀w0 m w (cargs:Array Value),CH C.DC w0->Rel C.P w0 m h w->DD m args cargs.toList->DP C.P f cargs w λv' w'=>∃m':Bk,(m.ext h.size m')/\Rel C.P w0 m' h' w'/\VR m' v v':=by
 unfold Sg at U;split at U
 ·cases U
 ·rename_i fn hfn;split at U
  ·cases U
  ·rename_i c hc;obtain⟨hn,D⟩:=O.code f fn c om hfn hc;have main:∀e fr1 h1,e=CT.normal\/e=CT.ret->Ic C S f g c (args++List.replicate (fn.ntmps - args.length) (.tuple [])) h=some (e,fr1,h1)->(Dz C.P fn fr1 h1).map (·,h1)=some (v,h')->
     Bh g h h'/\∀w0 m w (cargs:Array Value),CH C.DC w0->Rel C.P w0 m h w->DD m args cargs.toList->DP C.P f cargs w λv' w'=>∃m':Bk,(m.ext h.size m')/\Rel C.P w0 m' h' w'/\VR m' v v':=by
    intro e fr1 h1 he B hres;simp only[zk,ze]at hres;obtain⟨u,hu,rfl,rfl⟩:=hres;refine⟨(Q7 L c D B).1,λw0 m w cargs I r N=>?_⟩;unfold DP;rw[HU hfn hn hc];simp only;have hlen:args.length=cargs.size:=by rw[N.1];simp
    refine O6 hfn hc (W9 O L c D B I r ⟨by simp[hlen],λi=>?_⟩ (Mk.nil m) (λm1 a1 w1 g1 g2 g3 g4=>?_))
    ·rw[Ga,zo];simp only[zn];by_cases hi:i<args.length
     ·rw[List.getElem?_append_left hi,Array.getElem?_append_left om];rw[List.getElem?_eq_getElem hi,Array.getElem?_eq_getElem om];exact N.2 i _ _ (List.getElem?_eq_getElem hi) (by simp[<-hlen,hi])
     ·rw[List.getElem?_append_right om,Array.getElem?_append_right om];rw[List.getElem?_replicate,Array.getElem?_replicate,hlen];split
      ·exact VR.HN m
      ·exact VR.HN m
    ·have fin:LeavesInM Fence.wide 0 C.P fn a1.tmps (λe w'=>∃v',e=.returned v'/\∃m':Bk,(m.ext h.size m')/\Rel C.P w0 m' h1 w'/\VR m' u v') a1.defers .returning w1:=by
      obtain⟨_,rs,e1,e2,e3⟩:=g4;rw[e1];refine It rs e2 m1 w1 g2 (λr hr=>(e3 r hr).1) λm2 w2 d1 d2 d3 d4=>?_;have hle:m1.le m2:=⟨λid E hE=>by rw[d1];exact hE,λg o v N=>by rw[d2];exact N⟩;obtain⟨v',q1,q2⟩:=I1 d4 (g3.mono hle) hu;exact⟨v',q1,v',rfl,m2,⟨λid hid=>by rw[d1];exact g1.i id hid,λg o v N=>by rw[d2];exact g1.fz g o v N,λg x T=>d3 g x (g1.df g x T) λhm=>(e3 g hm).2 x T⟩,d4,q2⟩
     rcases he with rfl|rfl
     ·exact fin
     ·exact fin
   split at U
   ·rename_i fr1 h1 B;exact main .normal fr1 h1 (.inl rfl) B U
   ·rename_i fr1 h1 B;exact main .ret fr1 h1 (.inr rfl) B U
   ·cases U
theorem DP.mono{P:Program}{f:FuncId}{args:Array Value}{w:World}{Q Q':Value->World->Prop}(h:DP P f args w Q)(W:∀v w',Q v w'->Q' v w'):DP P f args w Q':=by
 unfold DP at *;split at h
 ·exact W _ _ h
 ·exact h.mono λe w'' ⟨v,h1,h2⟩=>⟨v,h1,W _ _ h2⟩
 ·exact h.elim
def YE(P:Program)(g:Gd)(f:AF->AD->Option (AD×AF)):Prop:=∀(h:AF) (v v':AD) (h':AF),f h v=some (v',h')->Bh g h h'/\∀w0 (m:Bk) w u,Rel P w0 m h w->VR m v u->∃m':Bk,m.ext h.size m'/\Rel P w0 m' h' w/\VR m' v' u
theorem YT{P:Program}(g:Gd):YE P g (KG g):=λh v v' h' H=>⟨TF H,λw0 m w u r N=>S3 H w0 m w u r N⟩
theorem Ui{P:Program}{g:Gd}{f:AF->AD->Option (AD×AF)}(H:YE P g f):∀(vs:List AD) (h:AF) (vs':List AD) (h':AF),Ox f vs h=some (vs',h')->
  Bh g h h'/\∀w0 (m:Bk) w us,Rel P w0 m h w->DD m vs us->∃m':Bk,m.ext h.size m'/\Rel P w0 m' h' w/\DD m' vs' us
 |[],h,vs',h',B=>by
  simp only[Ox,zb,ze]at B;obtain⟨rfl,rfl⟩:=B;exact⟨Bh.refl _ _,λw0 m w us r N=>⟨m,Bk.ext.refl _ _,r,N⟩⟩
 | v::vs,h,vs',h',B=>by
  unfold Ox at B;split at B
  ·rename_i v1 h1 h1e;simp only[zk,ze]at B;obtain⟨⟨l,h2⟩,Y,rfl,rfl⟩:=B;obtain⟨k1,q1⟩:=H h v v1 h1 h1e;obtain⟨k2,q2⟩:=Ui H vs h1 l h2 Y;refine⟨k1.trans k2,λw0 m w us r N=>?_⟩;cases us with
   |nil=>simp[DD]at N
   |cons u us=>
    have hc:=N.2 0 v u rfl rfl;have hv':DD m vs us:=⟨by simpa using N.1,λi x y B hy=>N.2 (i+1) x y (by simpa using B) (by simpa using hy)⟩;obtain⟨m1,e1,e2,e3⟩:=q1 w0 m w u r hc;obtain⟨m2,g1,g2,g3⟩:=q2 w0 m1 w us e2 (hv'.mono (r.Oi e1));exact⟨m2,e1.trans g1 k1.1,g2,.cons (e3.mono (e2.Oi g1)) g3⟩
  ·cases B
theorem Yp{P:Program}(g:Gd):YE P g (OT g):=by
 intro h v v' h' H;unfold OT at H;split at H
 ·simp only[zk,ze]at H;obtain⟨⟨l,h2⟩,Y,rfl,rfl⟩:=H;obtain⟨k1,q1⟩:=Ui (YT g) _ h l h2 Y;refine⟨k1,λw0 m w u r N=>?_⟩;obtain⟨c,rfl,vc⟩:=N.Hf;obtain⟨m1,e1,e2,e3⟩:=q1 w0 m w _ r vc;exact⟨m1,e1,e2,DD.agg e3⟩
 ·exact YT g h v v' h' H
theorem Ut{P:Program}(g:Gd):YE P g (RP g):=by
 intro h v v' h' H;unfold RP at H;split at H
 ·simp only[zk,ze]at H;obtain⟨⟨l,h2⟩,Y,rfl,rfl⟩:=H;obtain⟨k1,q1⟩:=Ui (Yp g) _ h l h2 Y;refine⟨k1,λw0 m w u r N=>?_⟩;obtain⟨c,rfl,vc⟩:=N.L4;obtain⟨m1,e1,e2,e3⟩:=q1 w0 m w _ r vc;exact⟨m1,e1,e2,DD.tuple e3⟩
 ·exact Yp g h v v' h' H
theorem WY(O:IZ C)(L:GO C n S):VC C.P C.DC (JE C S):=by
 intro g h f args v h' hc;unfold JE at hc;split at hc
 ·rename_i hk;obtain⟨k1,k2⟩:=Je O L (.inl hk) hc;exact⟨k1,λw0 m w cargs I r N=>k2 w0 m w cargs I r (N.CQ _)⟩
 ·rename_i hk;split at hc
  ·rename_i u h1 U;obtain⟨k1,k2⟩:=Je O L (.inr (.inl hk)) U;cases hfl:Pd u with
   |false=>rw[hfl]at hc;cases hc
   | true=>
    rw[hfl]at hc;simp only[zL,zb,ze]at hc;obtain⟨rfl,rfl⟩:=hc;refine⟨Bh.refl _ _,λw0 m w cargs I r N=>(k2 w0 m w cargs I r N).mono λv' w' ⟨m',g1,g2,g3⟩=>?_⟩;refine⟨m.with m',Bk.aW g1 _,r.back g1 (λid hid=>k1.2 id hid ?_) g2,g3.Pd hfl⟩;have:Nat.ble h.size id=false:=by
     cases U:Nat.ble h.size id with
     |false=>rfl
     |true=>have:=zd U;omega
    simp[Gd.may,this]
  ·cases hc
 ·rename_i hk;have:=O.ext f hk g h f args v h' (by simpa using hc);exact this
 ·rename_i hk;cases hfa:args.all Ko with
  |false=>rw[hfa]at hc;cases hc
  | true=>
   rw[hfa]at hc;simp only[zL]at hc;split at hc
   ·rename_i u h1 U;obtain⟨k1,k2⟩:=Je O L om U;cases hfl:Pd u with
    |false=>rw[hfl]at hc;cases hc
    |true=>
     rw[hfl]at hc;simp only[zL,zb,ze]at hc;obtain⟨rfl,rfl⟩:=hc;refine⟨Bh.refl _ _,λw0 m w cargs I r N=>?_⟩;have hv0:DD ⟨λ_=>none,λ_ _=>none,λ_ _=>False⟩ args cargs.toList:=⟨N.1,λi x y B hy=>(N.2 i x y B hy).Ko (zr.1 hfa x (zN B))⟩;have r0:Rel C.P w ⟨λ_=>none,λ_ _=>none,λ_ _=>False⟩ ⟨0,.leaf⟩ w:=⟨Below.refl _ _,λid E hE=>by simp at hE,λid E o hE=>by simp at hE,λid E o hE=>by simp at hE,λid id' E E' o o' _ hE=>by simp at hE,λg o v N=>(by cases N),λid E o hE=>(by simp at hE),λg x T=>T.elim,λid E o hE=>by simp at hE⟩;refine(k2 w _ w cargs (I.later r.below) r0 hv0).mono λv' w' ⟨m',g1,g2,g3⟩=>⟨m,Bk.ext.refl _ _,r.later g2.below,g3.Pd hfl⟩
   ·cases hc
  done
 ·rename_i hk;split at hc
  ·rename_i u h1 U;obtain⟨k1,k2⟩:=Je O L om U;refine⟨k1.trans (Ut (P:=C.P) g h1 u v h' hc).1,λw0 m w cargs I r N=>(k2 w0 m w cargs I r (N.CQ _)).mono λv' w' ⟨m',g1,g2,g3⟩=>?_⟩;obtain⟨m2,e1,e2,e3⟩:=(Ut (P:=C.P) g h1 u v h' hc).2 _ m' w' v' g2 g3;exact⟨m2,g1.trans e1 k1.1,e2,e3⟩
  ·cases hc
 ·rename_i hk;obtain⟨k1,k2⟩:=WR O L hk hc;exact⟨k1,λw0 m w cargs I r N=>k2 w0 m w cargs I r (N.CQ _)⟩
 ·rename_i hk;obtain⟨k1,k2⟩:=Vo O L hk hc;exact⟨k1,λw0 m w cargs I r N=>k2 w0 m w cargs I r (N.CQ _)⟩
 ·rename_i hk;split at hc
  ·rename_i args' h1 H;obtain⟨k1,k2⟩:=Je O L om hc;have hf3:RP g h (.tuple args)=some (.tuple args',h1):=by unfold RP;simp only[H,zh]
   obtain⟨q1,q2⟩:=Ut (P:=C.P) g h _ _ h1 hf3;refine⟨q1.trans k1,λw0 m w cargs I r N=>?_⟩;obtain⟨m2,e1,e2,e3⟩:=q2 _ m w (.tuple cargs) r (DD.tuple N);obtain⟨c,hc',hv'⟩:=e3.L4;cases hc';exact(k2 w0 m2 w cargs I e2 hv').mono λv' w' ⟨m',g1,g2,g3⟩=>⟨m',e1.trans g1 q1.1,g2,g3⟩
  ·cases hc
 ·cases hc
theorem WB(O:IZ C):∀n,GO C n (DY C n)
 |0=>⟨⟨λg h f args v h' hc=>by simp[DY]at hc,λg h l args v h' hc=>by simp[DY]at hc⟩,λg f c fr h e fr' h' _ B=>by simp[DY]at B,λg f c fr h e fr' h' _ B=>by simp[DY]at B,λg f l rest b fr h e fr' h' _ _ B=>by simp[DY]at B⟩
 |n+1=>by
  have ih:=WB O n;refine⟨⟨WY O ih,U9 (S:=DY C n)⟩,λg f c fr h e fr' h' D B=>?_,λg f c fr h e fr' h' D B w0 mS m w a Q I r H G M rd Z=>?_,λg f l rest b fr h e fr' h' ht D B w0 mS m w a Q I r H G M=>Qw O ih ht D B I r H G M⟩
  ·exact C3 ih (.loop c) (by simpa[codeOk]using D) B
  ·exact Um O ih D B I r H G M rd Z
theorem XQ(O:IZ C){n:Nat}{g:Gd}{h h':AF}{f:FuncId}{args:List AD}{v:AD}(hr:jo C n g h f args=some (v,h')){w0:World}{m:Bk}{w:World}{cargs:Array Value}(I:CH C.DC w0)(r:Rel C.P w0 m h w)(N:DD m args cargs.toList):
  DP C.P f cargs w λv' w'=>∃m':Bk,(m.ext h.size m')/\Rel C.P w0 m' h' w'/\VR m' v v':=
 ((WB O n).sub.call g h f args v h' hr).2 w0 m w cargs I r N
theorem XE (O:IZ C) {n:Nat} {g:Gd} {h h':AF} {f:FuncId} {args:List AD} {v:AD} (hr:jo C n g h f args=some (v,h')) {fn:Func} {c:Code} (hfn:C.P.funcs[f]?=some fn) (hn:(fn.name=="runtime.NumGoroutine")=false) (U:fn.body=some c)
  {w0:World} {m:Bk} {w:World} {cargs:Array Value} (I:CH C.DC w0) (r:Rel C.P w0 m h w) (N:DD m args cargs.toList):
  Calls C.P f cargs w λe w'=>∃v',e=.returned v'/\∃m':Bk,(m.ext h.size m')/\Rel C.P w0 m' h' w'/\VR m' v v':=by
 have:=XQ O hr I r N;unfold DP at this;rw[HU hfn hn U]at this;exact this
end
end Go.Av
