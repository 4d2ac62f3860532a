/-
 A part.
-/
import Derived.Test.YtfgmnhjedmkpeaaAvStep2
set_option linter.unusedSimpArgs false
namespace Go.Av
set_option linter.unusedSimpArgs false
set_option linter.unusedVariables false
def Gk:Nat->Nat->List (Nat×List Nat)
 |_,0=>[]
 |i,k+1=>(i,[])::Gk (i+1) k
@[simp] theorem FP (tch:List (Nat×Nat)):EA tch []=[]:=by
 unfold EA;rw[List.filterMap_eq_nil_iff];intro a _;rfl
section
variable {C:Eu} {S:Self} {g:Gd} {ops:Array Oper}
theorem Fy:∀(k i:Nat) (tch:List (Nat×Nat)) (fr:Fr) (h:AB),i+k=ops.size->BA C S g ops (Gk i k) tch fr h=Ce C S g ops (ops.toList.drop i) fr h
 |0,i,tch,fr,h,e=>by
  have:ops.toList.drop i=[]:=qc (by rw[yz];omega);rw[this];rfl
 | k+1,i,tch,fr,h,e=>by
  have hi:i<ops.size:=by omega
  have X:i<ops.toList.length:=by rw[yz];exact hi
  rw[zS X,Gk,BA,Ce,Array.getElem?_eq_getElem hi];simp only[Array.getElem_toList];cases A6 ops fr ops[i]with
  |none=>rfl
  | some b=>
   cases b with
   |false=>exact Fy k (i+1) _ _ _ (by omega)
   |true=>
    simp only[FP,yg];cases Ap C S g h fr ops[i].op with
    |none=>rfl
    |some x=>exact Fy k (i+1) _ _ _ (by omega)
end
def AT(C:Eu)(g:Gd)(ops:Array Oper)(pl:List (Nat×List Nat))(tch:List (Nat×Nat))(fr:Fr)(h:AB)(K:Fr->AB->Prop):Prop:=
 ∃n fr' h',BA C (Bm C n) g ops pl tch fr h=some (fr',h')/\K fr' h'
structure AW(C:Eu)(f:FuncId)(g:Gd)(c:Code)(fr:Fr)(h:AB)(Q:Br->Fr->AB->Prop):Prop where
 ex:∃n e fr' h',Aa C (Bm C n) f g c fr h=some (e,fr',h')/\Q e fr' h'
def GP(C:Eu)(g:Gd)(h:AB)(f:FuncId)(args:List AA)(v:AA)(h':AB):Prop:=∃n,Dn C (Bm C n) g h f args=some (v,h')
def CW(C:Eu)(g:Gd)(h:AB)(f:FuncId)(args:List AA)(v:AA)(h':AB):Prop:=∃n,(Bm C n).call g h f args=some (v,h')
section
variable {C:Eu} {f:FuncId} {g:Gd} {ops:Array Oper} {pl:List (Nat×List Nat)} {tch:List (Nat×Nat)} {fr:Fr} {h h1:AB} {K:Fr->AB->Prop} {N:Nat} {l:List (Nat×AA)} {i:Nat} {U:List Nat}
theorem Ac(h0:K fr h):AT C g ops [] tch fr h K:=⟨0,fr,h,rfl,h0⟩
theorem LL{S:Nat}{pl':List (Nat×List Nat)}{tch':List (Nat×Nat)}{fr1:Fr}{h1:AB}(R:AT C g ops pl tch fr1 h1 K)
  (D:∀n x,S<=n->BA C (Bm C n) g ops pl tch fr1 h1=some x->BA C (Bm C n) g ops pl' tch' fr h=some x):AT C g ops pl' tch' fr h K:=by
 obtain⟨n,fr',h',r1,r2⟩:=R;exact⟨max S n,fr',h',D _ _ (yL _ _) (DI (DM C (yI _ _)) r1),r2⟩
def Steps(C:Eu)(g:Gd)(h:AB)(fr:Fr)(op:Op)(v:AA)(h1:AB):Prop:=∃n,Ap C (Bm C n) g h fr op=some (v,h1)
theorem Steps.of{op:Op}{v:AA}(B:Ap C (Bm C 0) g h fr op=some (v,h1)):Steps C g h fr op v h1:=⟨0,B⟩
theorem Steps.call{op:Op}{v:AA}{f':FuncId}{args:List AA}(B:Jg fr op=some (f',args))(E:CW C g h f' args v h1):Steps C g h fr op v h1:=by
 obtain⟨n,M⟩:=E;exact⟨n,QT B M⟩
theorem GK{v:AA}{U:List Nat}(hw:runs ops fr i=true)(B:Steps C ⟨g.floor,EA tch U++g.B4⟩ h fr (LI ops i) v h1)(hre:JG C ops U (put fr (Fi ops i) v) h1=true)(M:AT C g ops pl (C0 C.P h fr i (LI ops i) tch) (put fr (Fi ops i) v) h1 K):
  AT C g ops ((i,U)::pl) tch fr h K:=by
 obtain⟨m,hm⟩:=B;refine LL (S:=m) M λn x hle D=>?_;have O:=FO (DM C hle) hm;unfold runs at hw;unfold LI at O D;unfold Fi at D hre;rw[BA];cases T:ops[i]? with
 |none=>rw[T]at hw;cases hw
 | some o=>
  rw[T]at hw O D hre;simp only at hw O D hre⊢;cases Y:A6 ops fr o with
  |none=>rw[Y]at hw;cases hw
  |some b=>
   rw[Y]at hw;simp only at hw;subst hw;simp only[O,hre,zE];exact D
theorem Lv(hw:MS ops fr i=true)(M:AT C g ops pl tch (put fr (Fi ops i) (.tuple [])) h K):AT C g ops ((i,U)::pl) tch fr h K:=by
 refine LL (S:=0) M λn x hle D=>?_;unfold MS at hw;unfold Fi at D;rw[BA];cases T:ops[i]? with
 |none=>rw[T]at hw;cases hw
 | some o=>
  rw[T]at hw D;simp only at hw D⊢;cases Y:A6 ops fr o with
  |none=>rw[Y]at hw;cases hw
  |some b=>
   rw[Y]at hw;simp only[zx]at hw;subst hw;exact D
def SL(ops:Array Oper)(i:Nat)(fr:Fr)(out:List (Nat×AA)):Bool×List AA:=(MS ops fr i,out.map λp=>nth (put fr (Fi ops i) (.tuple [])) p.1)
def YC(C:Eu)(ops:Array Oper)(fr:Fr)(i:Nat):Option (Nat×Nat×AA):=
 match ops[i]? with
 | some o=>
  match A6 ops fr o with
  | some true=>
   match o.op,o.dst with
   | .load t a,some d=>
    match ev fr a,Er C.P t with
    | .ptr (some (id,off)),some false=>bif Nat.blt d fr.length then some (id,off,nth fr d)else none
    |_,_=>none
   |_,_=>none
  |_=>none
 |none=>none
theorem Rx(a b:Nat):NA (.ptr (some (a,b))) (.ptr (some (a,b)))=true:=by simp[NA]
theorem YM{i id off:Nat}{x:AA}(B:YC C ops fr i=some (id,off,x))(X:Jy h1 (id,off)=some x)(D:NA x x=true):MP C ops fr h1 i=true:=by
 unfold YC at B;split at B
 ·rename_i o T;split at B
  ·rename_i hw;split at B
   ·rename_i t a d hop hd;split at B
    ·rename_i id' off' he hag;cases hlt:Nat.blt d fr.length with
     |false=>rw[hlt]at B;cases B
     | true=>
      rw[hlt]at B;simp only[zE,za,zb]at B;obtain⟨rfl,rfl,rfl⟩:=B;unfold Jy at X;split at X
      ·rename_i v hc;injection X with X;have hg:∃ob,h1.get id'=some ob:=by
        cases hg:h1.get id' with
        |none=>rw[hg]at hc;cases hc
        |some ob=>exact⟨ob,rfl⟩
       obtain⟨ob,hg⟩:=hg;rw[hg]at hc;unfold MP;simp only[T,hw,hd,hop,B1,he,CM,hlt,hg,Gh,DT,hag,hc,Bool.true_and];rw[X];exact D
      ·cases X
    ·cases B
   ·cases B
  ·cases B
 ·cases B
theorem R5{U:List Nat}{u:Nat}(h:(Nat.blt u 10000||MP C ops fr h1 (u - 10000))=true)(E:JG C ops U fr h1=true):JG C ops (u::U) fr h1=true:=by
 unfold JG at E⊢;rw[yJ,h,E];rfl
theorem Uh(out:List (Nat×AA))(H:Has fr N l)(hw:∀fr,SL ops i (Cr N l fr) out=(true,out.map (·.2)))(M:∀fr',Has fr' N out->AT C g ops pl tch fr' h K):AT C g ops ((i,U)::pl) tch fr h K:=by
 have e:=Dh H;have Z:=hw fr;rw[e]at Z;unfold SL at Z;simp only[zb]at Z;exact Lv Z.1 (M _ (Has.of_map (by simp[H.1]) Z.2))
def E1(P:Program)(ops:Array Oper):List Nat->Fr->Option Fr
 |[],fr=>some fr
 | i::r,fr=>
  match ops[i]? with
  |none=>none
  |some o=>
   match A6 ops fr o with
   |some true=>(match TW P fr o.op with|some v=>E1 P ops r (put fr o.dst v)|none=>none)
   |some false=>E1 P ops r (put fr o.dst (.tuple []))
   |none=>none
def Dz:List (Nat×List Nat)->List Nat
 |[]=>[]
 |(i,_)::r=>i::Dz r
theorem MA{P:Program}{fr:Fr}{op:Op}{v:AA}(h:TW P fr op=some v):AX P op=0:=by
 unfold TW at h;split at h
 ·assumption
 ·cases h
theorem Ih:∀(sg pl:List (Nat×List Nat)) (fr fr1:Fr),(∀x∈sg,x.2=[])->E1 C.P ops (Dz sg) fr=some fr1->AT C g ops pl tch fr1 h K->AT C g ops (sg++pl) tch fr h K
 |[],pl,fr,fr1,_,B,M=>by
  simp only[Dz,E1,za]at B;subst B;exact M
 | (i,U)::sg,pl,fr,fr1,hU,B,M=>by
  have hU0:U=[]:=hU (i,U) (by simp);subst hU0;have ih:=λfr2 D=>Ih sg pl fr2 fr1 (λx D=>hU x (by simp[D])) D M;simp only[Dz,E1]at B;split at B
  ·cases B
  ·rename_i o T;split at B
   ·rename_i hw;split at B
    ·rename_i v hv;have e1:LI ops i=o.op:=by simp[LI,T]
     have e2:Fi ops i=o.dst:=by simp[Fi,T]
     refine GK (v:=v) (h1:=h) (by simp[runs,T,hw]) (.of (by rw[e1];exact ZR hv)) rfl ?_;rw[e1,e2];have:C0 C.P h fr i o.op tch=tch:=by unfold C0;rw[MA hv];rfl
     rw[this];exact ih _ B
    ·cases B
   ·rename_i hw;have e2:Fi ops i=o.dst:=by simp[Fi,T]
    refine Lv (by simp[MS,T,hw]) ?_;rw[e2];exact ih _ B
   ·cases B
theorem EG{P:Program}:∀(l:List Nat) (fr fr':Fr),E1 P ops l fr=some fr'->fr'.length=fr.length
 |[],fr,fr',h=>by simp only[E1,za]at h;rw[h]
 | i::l,fr,fr',h=>by
  simp only[E1]at h;split at h
  ·cases h
  ·split at h
   ·split at h
    ·rw[EG l _ _ h];simp
    ·cases h
   ·rw[EG l _ _ h];simp
   ·cases h
theorem AQ(sg:List (Nat×List Nat))(out:List (Nat×AA))(H:Has fr N l)(hU:∀x∈sg,x.2=[])
  (F:∀fr,(E1 C.P ops (Dz sg) (Cr N l fr)).map (λx=>out.map (λp=>nth x p.1))=some (out.map (·.2)))
  (M:∀fr',Has fr' N out->AT C g ops pl tch fr' h K):AT C g ops (sg++pl) tch fr h K:=by
 have V:=F fr;rw[Dh H]at V;cases E:E1 C.P ops (Dz sg) fr with
 |none=>rw[E]at V;cases V
 |some fr1=>
  rw[E]at V;simp only[ze,za]at V;exact Ih sg pl fr fr1 hU E (M fr1 (Has.of_map ((EG _ _ _ E).trans H.1) V))
def Nx:List (Nat×List Nat)->Bool
 |[]=>true
 |(_,U)::r=>U.isEmpty&&Nx r
theorem AK:∀{sg:List (Nat×List Nat)},Nx sg=true->∀x∈sg,x.2=[]
 |[],_,x,D=>by cases D
 |(i,U)::r,h,x,D=>by
  simp only[Nx,zf,List.isEmpty_iff]at h;cases D with
  |head=>exact h.1
  |tail _ D=>exact AK h.2 x D
theorem EM{n:Nat}{b:List (Nat×List Nat)}:∀(a:List (Nat×List Nat)) (tch:List (Nat×Nat)) (fr fr1:Fr) (h h1:AB),BA C (Bm C n) g ops a tch fr h=some (fr1,h1)->
  ∃tch',∀m,n<=m->BA C (Bm C m) g ops (a++b) tch fr h=BA C (Bm C m) g ops b tch' fr1 h1
 |[],tch,fr,fr1,h,h1,E=>by
  simp only[BA,za,zb]at E;obtain⟨rfl,rfl⟩:=E;exact⟨tch,λ_ _=>rfl⟩
 | (i,U)::a,tch,fr,fr1,h,h1,E=>by
  rw[BA]at E;split at E
  ·cases E
  ·rename_i o T;split at E
   ·rename_i hw;split at E
    ·rename_i v h' B;have hre:JG C ops U (put fr o.dst v) h'=true:=by
      cases hre:JG C ops U (put fr o.dst v) h' with
      |false=>rw[hre]at E;cases E
      |true=>rfl
     rw[hre]at E;simp only[zE]at E;obtain⟨t,ht⟩:=EM a _ _ _ _ _ E;refine⟨t,λm hm=>?_⟩;rw[yU,BA,T];simp only[hw,FO (DM C hm) B,hre,zE];exact ht m hm
    ·cases E
   ·rename_i hw;obtain⟨t,ht⟩:=EM a _ _ _ _ _ E;refine⟨t,λm hm=>?_⟩;rw[yU,BA,T];simp only[hw];exact ht m hm
   ·cases E
theorem MN(sg:List (Nat×List Nat))(I:Fr->AB->Prop)(h1:AT C g ops sg tch fr h I)(L:∀t fr h,I fr h->AT C g ops pl t fr h K):AT C g ops (sg++pl) tch fr h K:=by
 obtain⟨n,fr1,h1',r1,r2⟩:=h1;obtain⟨t0,ht0⟩:=EM (b:=pl) sg tch fr fr1 h h1' r1;obtain⟨m,fr2,h2',r3,r4⟩:=L t0 _ _ r2;refine⟨max n m,fr2,h2',?_,r4⟩;rw[ht0 _ (yL _ _)];exact DI (DM C (yI _ _)) r3
def KC(next:Fr->AB->Prop)(Q:Br->Fr->AB->Prop):Br->Fr->AB->Prop
 | .normal,fr,h=>next fr h
 |e,fr,h=>Q e fr h
def TE(id:Nat)(Q:Br->Fr->AB->Prop):Br->Fr->AB->Prop
 | .exit i,fr,h=>bif Nat.beq i id then Q .normal fr h else Q (.exit i) fr h
 |e,fr,h=>Q e fr h
variable {Q:Br->Fr->AB->Prop} {a b c c':Code}
def left:Code->Code
 | .seq a _=>a
 | .cond _ a _=>a
 | .block _ c=>c
 | .loop c=>c
 | .scope c=>c
 | .rangeFunc _ _ a _=>a
 |c=>c
def right:Code->Code
 | .seq _ b=>b
 | .cond _ _ b=>b
 | .rangeFunc _ _ _ b=>b
 |c=>c
def opsOf:Code->Array Oper
 | .region _ ops _=>ops
 |_=>#[]
inductive Sh where
 |skip|region (id n:Nat) (draw:Bool)|seq|cond (x:Operand)|block (id:Nat)|loop|exit (id:Nat)|scope|label|ret|range (x:Operand) (ps:List Tmp)|other
def shape:Code->Sh
 | .skip=>.skip
 | .region id ops draw=>.region id ops.size draw
 | .seq _ _=>.seq
 | .cond x _ _=>.cond x
 | .block id _=>.block id
 | .loop _=>.loop
 | .exit id=>.exit id
 | .scope _=>.scope
 | .rangeFunc x ps _ _=>.range x ps.toList
 | .label _=>.label
 | .ret=>.ret
 |_=>.other
theorem BZ{Q':Br->Fr->AB->Prop}(R:AW C f g c fr h Q')(G:∀e fr h,Q' e fr h->Q e fr h):AW C f g c fr h Q:=by
 obtain⟨n,e,fr',h',h1,L⟩:=(R).ex;exact⟨⟨n,e,fr',h',h1,G _ _ _ L⟩⟩
theorem An(B:shape c=.seq)(R:AW C f g (left c) fr h (KC (λfr h=>AW C f g (right c) fr h Q) Q)):AW C f g c fr h Q:=by
 cases c<;>simp[shape]at B;simp only[left,right]at R;obtain⟨n,e,fr1,h1,D,G⟩:=(R).ex;cases e with
 |normal=>
  obtain⟨m,e2,fr2,L,hx2,hq2⟩:=G.ex;refine⟨⟨max n m,e2,fr2,L,?_,hq2⟩⟩;simp only[Aa,CC (DM C (yL n m)) D,CC (DM C (yI n m)) hx2]
 |exit id=>exact⟨⟨n,_,_,_,by simp only[Aa,D],G⟩⟩
 |ret=>exact⟨⟨n,_,_,_,by simp only[Aa,D],G⟩⟩
theorem As{id n:Nat}(pl:List (Nat×List Nat))(B:shape c=.region id n false)(hp:Gk 0 n=pl)(R:AT C g (opsOf c) pl [] fr h (λfr' h'=>Q .normal fr' h')):AW C f g c fr h Q:=by
 cases c<;>simp[shape]at B;obtain⟨rfl,rfl,rfl⟩:=B;obtain⟨n,fr',h',E,G⟩:=R;subst hp;simp only[opsOf]at E;rw[Fy _ _ _ _ _ (by omega),yv]at E;exact⟨⟨n,.normal,fr',h',by simp only[Aa,zR,E],G⟩⟩
theorem Lc{id n:Nat}(B:shape c=.region id n true)(pl:List (Nat×List Nat))(hp:C.Iy f id=pl)(R:AT C g (opsOf c) pl [] fr h (λfr' h'=>Q .normal fr' h')):AW C f g c fr h Q:=by
 cases c<;>simp[shape]at B;obtain⟨rfl,rfl,rfl⟩:=B;obtain⟨n,fr',h',E,G⟩:=R;simp only[opsOf]at E;exact⟨⟨n,.normal,fr',h',by simp only[Aa,zE,hp,E],G⟩⟩
theorem Dd(B:shape c=.skip)(G:Q .normal fr h):AW C f g c fr h Q:=by cases c<;>simp[shape]at B;exact⟨⟨0,_,_,_,rfl,G⟩⟩
theorem Cz{i:Nat}(B:shape c=.exit i)(G:Q (.exit i) fr h):AW C f g c fr h Q:=by cases c<;>simp[shape]at B;subst B;exact⟨⟨0,_,_,_,rfl,G⟩⟩
theorem I1(B:shape c=.ret)(G:Q .ret fr h):AW C f g c fr h Q:=by cases c<;>simp[shape]at B;exact⟨⟨0,_,_,_,rfl,G⟩⟩
theorem A4{id:Nat}(B:shape c=.block id)(R:AW C f g (left c) fr h (TE id Q)):AW C f g c fr h Q:=by
 cases c<;>simp[shape]at B;subst B;simp only[left]at R;obtain⟨n,e,fr',h',h1,L⟩:=(R).ex;cases e with
 |normal=>exact⟨⟨n,_,_,_,by simp only[Aa,h1],L⟩⟩
 |ret=>exact⟨⟨n,_,_,_,by simp only[Aa,h1],L⟩⟩
 |exit i=>
  rename_i id _;simp only[TE]at L;cases J:Nat.beq i id with
  |true=>rw[J]at L;exact⟨⟨n,.normal,fr',h',by simp only[Aa,h1,J,zE],L⟩⟩
  |false=>rw[J]at L;exact⟨⟨n,.exit i,fr',h',by simp only[Aa,h1,J,zR],L⟩⟩
theorem DN{σ ρ:Type}{step:σ->Option (σ⊕ρ)}{s:σ}{r:ρ}(B:shape c=.loop)(I:σ->Fr->AB->Prop)(X:loop step s=some r)(h0:I s fr h)
  (E:∀s o fr h,I s fr h->step s=some o->AW C f g (left c) fr h (KC (λfr' h'=>∃s',o=.inl s'/\I s' fr' h') (λe fr' h'=>∃r',o=.inr r'/\(r'=r->Q e fr' h')))):AW C f g c fr h Q:=by
 cases c<;>simp[shape]at B;rename_i c;simp only[left]at E;obtain⟨k,F⟩:=Kb X;have key:∀k s fr h,I s fr h->Ee step k s=some r->AW C f g (.loop c) fr h Q:=by
  intro k
  induction k with
  |zero=>intro s fr h _ F;cases F
  | succ k ih=>
   intro s fr h hi F;unfold Ee at F;cases O:step s with
   |none=>rw[O]at F;cases F
   | some o=>
    rw[O]at F;obtain⟨n,e,fr1,h1,D,G⟩:=(E s o fr h hi O).ex;cases e with
    |normal=>
     obtain⟨s',rfl,hI⟩:=G;obtain⟨m,e2,fr2,L,hx2,hq2⟩:=(ih s' fr1 h1 hI F).ex;refine⟨⟨max n m+1,e2,fr2,L,?_,hq2⟩⟩;have e1:=CC (DM C (zM (yL n m) (Nat.le_succ _))) D;have e2':=CC (DM C (yI n m)) hx2;rw[Aa,e1];exact e2'
    |exit i=>
     obtain⟨r',rfl,hQ⟩:=G;injection F with F;exact⟨⟨n,_,_,_,by simp only[Aa,D],hQ F⟩⟩
    |ret=>
     obtain⟨r',rfl,hQ⟩:=G;injection F with F;exact⟨⟨n,_,_,_,by simp only[Aa,D],hQ F⟩⟩
 exact key k s fr h h0 F
def A7(P:Program)(f:FuncId):Code:=
 match P.funcs[f]? with
 |some fn=>(match fn.body with|some c=>c|none=>.skip)
 |none=>.skip
def GC(P:Program)(f:FuncId):Option (Nat×List ResultVar):=
 match P.funcs[f]? with
 |some fn=>(match fn.body with|some _=>some (fn.ntmps,fn.results.toList)|none=>none)
 |none=>none
def IZ(P:Program)(rs:List ResultVar)(fr:Fr)(h:AB):Option AA:=
 match rs.mapM (Dj P fr h)with
 |some [v]=>some v
 |some vs=>some (.tuple vs)
 |none=>none
structure Jt(P:Program)(rs:List ResultVar)(v:AA)(h':AB)(e:Br)(fr:Fr)(h:AB):Prop where
 no:e=.ret\/e=.normal
 res:IZ P rs fr h=some v
 heap:h=h'
theorem Ik{args:List AA}{v:AA}{h':AB}{n:Nat}{rs:List ResultVar}(W:GC C.P f=some (n,rs))
  (R:AW C f g (A7 C.P f) (args++List.replicate (n - args.length) (.tuple [])) h (Jt C.P rs v h')):GP C g h f args v h':=by
 obtain⟨m,e,fr',L,D,G⟩:=(R).ex;unfold GC at W;unfold A7 at D;refine⟨m,?_⟩;unfold Dn;split at W
 ·rename_i fn hfn;split at W
  ·rename_i c hc;simp only[za,zb]at W;obtain⟨rfl,rfl⟩:=W;simp only[hfn,hc]at D⊢;cases e with
   |normal=>obtain⟨_,h3,rfl⟩:=G;rw[D];simp only;rw[show Cy C.P fn fr' L=some v from h3];rfl
   |ret=>obtain⟨_,h3,rfl⟩:=G;rw[D];simp only;rw[show Cy C.P fn fr' L=some v from h3];rfl
   |exit i=>rcases G.no with h|h<;>cases h
  ·cases W
 ·cases W
theorem start{args:List AA}{n:Nat}(ins:List (Nat×AA))(X:(args++List.replicate (n - args.length) (AA.tuple [])).length=n)(hi:ins.map (λp=>nth (args++List.replicate (n - args.length) (AA.tuple [])) p.1)=ins.map (·.2))
  (R:∀fr,Has fr n ins->AW C f g c fr h Q):AW C f g c (args++List.replicate (n - args.length) (.tuple [])) h Q:=R _ (Has.of_map X hi)
theorem Mz{args args':List AA}{v:AA}{h':AB}(F:C.kind f=1)(hc:C1 (C.still f) args=args')(J:GP C g h f args' v h'):CW C g h f args v h':=by
 obtain⟨n,M⟩:=J;refine⟨n+1,?_⟩;show Ej C (Bm C n) g h f args=_;unfold Ej;rw[F];simp only[hc];exact M
theorem Yd{args args':List AA}{u v:AA}{h1 h':AB}(F:C.kind f=7)(hc:C1 (C.still f) args=args')(J:GP C g h f args' u h1)(W:ND g h1 u=some (v,h')):CW C g h f args v h':=by
 obtain⟨n,M⟩:=J;refine⟨n+1,?_⟩;show Ej C (Bm C n) g h f args=_;unfold Ej;rw[F];simp only[hc,M];exact W
theorem Xl{args args':List AA}{u v:AA}{h1 h':AB}(F:C.kind f=9)(hc:C1 (C.still f) args=args')(J:GP C g h f args' u h1)(W:Ox g h1 u=some (v,h')):CW C g h f args v h':=by
 obtain⟨n,M⟩:=J;refine⟨n+1,?_⟩;show Ej C (Bm C n) g h f args=_;unfold Ej;rw[F];simp only[hc,M];exact W
theorem closed{args:List AA}{v:AA}(n:Nat)(J:(Dn C (Bm C n) g h f args).map (·.1)=some v):∃h',GP C g h f args v h':=by
 cases D:Dn C (Bm C n) g h f args with
 |none=>rw[D]at J;cases J
 |some x=>
  rw[D]at J;simp only[ze,za]at J;exact⟨x.2,n,by rw[D,<-J]⟩
theorem Wr{args:List AA}{v:AA}(F:C.kind f=4)(ha:args.all D2=true)(hv:Fo v=true)(J:∃h',GP C ⟨0,[]⟩ ⟨0,.leaf⟩ f args v h'):CW C g h f args v h:=by
 obtain⟨h',n,M⟩:=J;refine⟨n+1,?_⟩;show Ej C (Bm C n) g h f args=_;unfold Ej;rw[F];simp only[ha,zE,M,hv]
end
def Io:List Nat->Nat->Nat
 |[],_=>0
 |a::_,0=>a
 |_::l,i+1=>Io l i
def JK:List ((Nat×Nat)×List (Nat×List Nat))->Nat->Nat->List (Nat×List Nat)
 |[],_,_=>[]
 |((a,b),p)::l,f,id=>bif Nat.beq a f&&Nat.beq b id then p else JK l f id
def Lt(C:Eu):Nat->Bool
 |0=>true
 | n+1=>Lt C n&&(bif Nat.beq (C.kind n) 0||Nat.beq (C.kind n) 3 then true else
   match C.P.funcs[n]? with
   |some fn=> !(fn.name=="runtime.NumGoroutine")&&(match fn.body with|some c=>codeOk C n c|none=>true)
   |none=>true)
theorem JB:∀{l:List Nat} {i:Nat},l.length<=i->Io l i=0
 |[],_,_=>rfl
 |_::l,0,h=>by simp at h
 |_::l,i+1,h=>JB (l:=l) (by simpa using h)
theorem KB {C:Eu}:∀{n:Nat},Lt C n=true->∀{f:Nat},f<n->C.kind f≠0->C.kind f≠3->∀{fn:Func} {c:Code},C.P.funcs[f]?=some fn->fn.body=some c->(fn.name=="runtime.NumGoroutine")=false/\codeOk C f c=true
 |0,_,f,W,_,_,_,_,_,_=>by omega
 | n+1,h,f,W,F,hk3,fn,c,h1,L=>by
  simp only[Lt,zf]at h;by_cases e:f=n
  ·subst e;have h3:=h.2;have:Nat.beq (C.kind f) 0=false:=by
    cases J:Nat.beq (C.kind f) 0 with
    |false=>rfl
    |true=>exact absurd (zD J) F
   have this3:Nat.beq (C.kind f) 3=false:=by
    cases J:Nat.beq (C.kind f) 3 with
    |false=>rfl
    |true=>exact absurd (zD J) hk3
   rw[this,this3]at h3;simp only[Bool.or_false,zR,h1,L,zf,zx]at h3;exact h3
  ·exact KB h.1 (by omega) F hk3 h1 L
def UH(P:Program)(Iy:Nat->Nat->List (Nat×List Nat)):Eu:=⟨P,λ_=>0,Iy,λ_ _ _ _=>none,λ_=>none,λ_ _ _=>false,λ_=>[]⟩
def Sc(P:Program)(Iy:Nat->Nat->List (Nat×List Nat))(f:FuncId)(a b:Code):Bool:=codeOk (UH P Iy) f a&&codeOk (UH P Iy) f b&&(Hn a&&Hn b)
theorem MT{C C':Eu}(h1:C.P=C'.P)(L:C.Iy=C'.Iy)(f:FuncId):∀c,codeOk C f c=codeOk C' f c:=by
 intro c
 induction c<;>simp_all[codeOk]
end Go.Av
