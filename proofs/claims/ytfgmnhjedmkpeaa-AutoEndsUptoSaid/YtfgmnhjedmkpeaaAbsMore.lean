/-
  Several texts in one.
-/
import Derived.Test.YtfgmnhjedmkpeaaAbsStep2
set_option linter.unusedSimpArgs false
/-
 A part.
-/
section
namespace Go.Abs
def Gk:Nat->Nat->List (Nat×List Nat)
 |_,0=>[]
 |i,k+1=>(i,[])::Gk (i+1) k
@[simp] theorem FP (tch:List (Nat×Nat)):EA tch []=[]:=by
 unfold EA;rw[List.filterMap_eq_nil_iff];intro a _;rfl
section
variable {C:Eu} {S:Self} {g:Gd} {ops:Array Oper}
theorem Fy:∀(k i:Nat) (tch:List (Nat×Nat)) (fr:Fr) (h:AB),i+k=ops.size->BA C S g ops (Gk i k) tch fr h=Ce C S g ops (ops.toList.drop i) fr h
 |0,i,tch,fr,h,e=>by
  have:ops.toList.drop i=[]:=wC (by rw[xw];omega);rw[this];rfl
 | k+1,i,tch,fr,h,e=>by
  have hi:i<ops.size:=by omega
  have hl:i<ops.toList.length:=by rw[xw];exact hi
  rw[xR hl,Gk,BA,Ce,Array.getElem?_eq_getElem hi];simp only[Array.getElem_toList];cases A6 ops fr ops[i]with
  |none=>rfl
  | some b=>
   cases b with
   |false=>exact Fy k (i+1) _ _ _ (by omega)
   |true=>
    simp only[FP,xW];cases Ap C S g h fr ops[i].op with
    |none=>rfl
    |some x=>exact Fy k (i+1) _ _ _ (by omega)
end
def AT(C:Eu)(g:Gd)(ops:Array Oper)(pl:List (Nat×List Nat))(tch:List (Nat×Nat))(fr:Fr)(h:AB)(K:Fr->AB->Prop):Prop:=
 ∃n fr' h',BA C (Bm C n) g ops pl tch fr h=some (fr',h')/\K fr' h'
structure AW(C:Eu)(f:FuncId)(g:Gd)(c:Code)(fr:Fr)(h:AB)(Q:Br->Fr->AB->Prop):Prop where
 ex:∃n e fr' h',Aa C (Bm C n) f g c fr h=some (e,fr',h')/\Q e fr' h'
def GP(C:Eu)(g:Gd)(h:AB)(f:FuncId)(args:List AA)(v:AA)(h':AB):Prop:=∃n,Dn C (Bm C n) g h f args=some (v,h')
def CW(C:Eu)(g:Gd)(h:AB)(f:FuncId)(args:List AA)(v:AA)(h':AB):Prop:=∃n,(Bm C n).call g h f args=some (v,h')
section
variable {C:Eu} {f:FuncId} {g:Gd} {ops:Array Oper} {pl:List (Nat×List Nat)} {tch:List (Nat×Nat)} {fr:Fr} {h h1:AB} {K:Fr->AB->Prop} {N:Nat} {l:List (Nat×AA)} {i:Nat} {U:List Nat}
theorem Ac(h0:K fr h):AT C g ops [] tch fr h K:=⟨0,fr,h,rfl,h0⟩
theorem LL{S:Nat}{pl':List (Nat×List Nat)}{tch':List (Nat×Nat)}{fr1:Fr}{h1:AB}(L:AT C g ops pl tch fr1 h1 K)
  (D:∀n x,S<=n->BA C (Bm C n) g ops pl tch fr1 h1=some x->BA C (Bm C n) g ops pl' tch' fr h=some x):AT C g ops pl' tch' fr h K:=by
 obtain⟨n,fr',h',r1,r2⟩:=L;exact⟨max S n,fr',h',D _ _ (xM _ _) (DI (DM C (xK _ _)) r1),r2⟩
def Steps(C:Eu)(g:Gd)(h:AB)(fr:Fr)(op:Op)(v:AA)(h1:AB):Prop:=∃n,Ap C (Bm C n) g h fr op=some (v,h1)
theorem Steps.of{op:Op}{v:AA}(B:Ap C (Bm C 0) g h fr op=some (v,h1)):Steps C g h fr op v h1:=⟨0,B⟩
theorem Steps.call{op:Op}{v:AA}{f':FuncId}{args:List AA}(B:Jg fr op=some (f',args))(E:CW C g h f' args v h1):Steps C g h fr op v h1:=by
 obtain⟨n,R⟩:=E;exact⟨n,QT B R⟩
theorem GK{v:AA}{U:List Nat}(hw:runs ops fr i=true)(B:Steps C ⟨g.floor,EA tch U++g.B4⟩ h fr (LI ops i) v h1)(R:AT C g ops pl (C0 C.P h fr i (LI ops i) tch) (put fr (Fi ops i) v) h1 K):
  AT C g ops ((i,U)::pl) tch fr h K:=by
 obtain⟨m,hm⟩:=B;refine LL (S:=m) R λn x hle D=>?_;have O:=FO (DM C hle) hm;unfold runs at hw;unfold LI at O D;unfold Fi at D;rw[BA];cases T:ops[i]? with
 |none=>rw[T]at hw;cases hw
 | some o=>
  rw[T]at hw O D;simp only at hw O D⊢;cases X:A6 ops fr o with
  |none=>rw[X]at hw;cases hw
  |some b=>
   rw[X]at hw;simp only at hw;subst hw;simp only[O];exact D
theorem Lv(hw:MS ops fr i=true)(R:AT C g ops pl tch (put fr (Fi ops i) (.tuple [])) h K):AT C g ops ((i,U)::pl) tch fr h K:=by
 refine LL (S:=0) R λn x hle D=>?_;unfold MS at hw;unfold Fi at D;rw[BA];cases T:ops[i]? with
 |none=>rw[T]at hw;cases hw
 | some o=>
  rw[T]at hw D;simp only at hw D⊢;cases X:A6 ops fr o with
  |none=>rw[X]at hw;cases hw
  |some b=>
   rw[X]at hw;simp only[xn]at hw;subst hw;exact D
def Vd(ops:Array Oper)(i:Nat)(fr:Fr)(v:AA)(out:List (Nat×AA)):Bool×List AA:=(runs ops fr i,out.map λp=>nth (put fr (Fi ops i) v) p.1)
theorem AO{v:AA}(out:List (Nat×AA))(H:Has fr N l)(hw:∀fr,Vd ops i (Cr N l fr) v out=(true,out.map (·.2)))(B:∀fr,Steps C g h (Cr N l fr) (LI ops i) v h1)
  (R:∀fr' t,Has fr' N out->AT C g ops pl t fr' h1 K):AT C g ops ((i,[])::pl) tch fr h K:=by
 have e:=Dh H;have Y:=hw fr;have hs':=B fr;rw[e]at Y hs';unfold Vd at Y;simp only[qY]at Y;refine GK (v:=v) Y.1 (by rw[FP,xW];exact hs') (R _ _ (Has.of_map (by simp[H.1]) Y.2))
def E1(P:Program)(ops:Array Oper):List Nat->Fr->Option Fr
 |[],fr=>some fr
 | i::r,fr=>
  match ops[i]? with
  |none=>none
  |some o=>
   match A6 ops fr o with
   |some true=>(match TW P fr o.op with|some v=>E1 P ops r (put fr o.dst v)|none=>none)
   |some false=>E1 P ops r (put fr o.dst (.tuple []))
   |none=>none
def Dz:List (Nat×List Nat)->List Nat
 |[]=>[]
 |(i,_)::r=>i::Dz r
theorem MA{P:Program}{fr:Fr}{op:Op}{v:AA}(h:TW P fr op=some v):AX P op=0:=by
 unfold TW at h;split at h
 ·assumption
 ·cases h
theorem Ih:∀(sg pl:List (Nat×List Nat)) (fr fr1:Fr),(∀x∈sg,x.2=[])->E1 C.P ops (Dz sg) fr=some fr1->AT C g ops pl tch fr1 h K->AT C g ops (sg++pl) tch fr h K
 |[],pl,fr,fr1,_,B,R=>by
  simp only[Dz,E1,qV]at B;subst B;exact R
 | (i,U)::sg,pl,fr,fr1,hU,B,R=>by
  have hU0:U=[]:=hU (i,U) (by simp);subst hU0;have ih:=λfr2 D=>Ih sg pl fr2 fr1 (λx D=>hU x (by simp[D])) D R;simp only[Dz,E1]at B;split at B
  ·cases B
  ·rename_i o T;split at B
   ·rename_i hw;split at B
    ·rename_i v hv;have e1:LI ops i=o.op:=by simp[LI,T]
     have e2:Fi ops i=o.dst:=by simp[Fi,T]
     refine GK (v:=v) (h1:=h) (by simp[runs,T,hw]) (.of (by rw[e1];exact ZR hv)) ?_;rw[e1,e2];have:C0 C.P h fr i o.op tch=tch:=by unfold C0;rw[MA hv];rfl
     rw[this];exact ih _ B
    ·cases B
   ·rename_i hw;have e2:Fi ops i=o.dst:=by simp[Fi,T]
    refine Lv (by simp[MS,T,hw]) ?_;rw[e2];exact ih _ B
   ·cases B
theorem EG{P:Program}:∀(l:List Nat) (fr fr':Fr),E1 P ops l fr=some fr'->fr'.length=fr.length
 |[],fr,fr',h=>by simp only[E1,qV]at h;rw[h]
 | i::l,fr,fr',h=>by
  simp only[E1]at h;split at h
  ·cases h
  ·split at h
   ·split at h
    ·rw[EG l _ _ h];simp
    ·cases h
   ·rw[EG l _ _ h];simp
   ·cases h
theorem AQ(sg:List (Nat×List Nat))(out:List (Nat×AA))(H:Has fr N l)(hU:∀x∈sg,x.2=[])
  (G:∀fr,(E1 C.P ops (Dz sg) (Cr N l fr)).map (λx=>out.map (λp=>nth x p.1))=some (out.map (·.2)))
  (R:∀fr',Has fr' N out->AT C g ops pl tch fr' h K):AT C g ops (sg++pl) tch fr h K:=by
 have W:=G fr;rw[Dh H]at W;cases E:E1 C.P ops (Dz sg) fr with
 |none=>rw[E]at W;cases W
 |some fr1=>
  rw[E]at W;simp only[qZ,qV]at W;exact Ih sg pl fr fr1 hU E (R fr1 (Has.of_map ((EG _ _ _ E).trans H.1) W))
def Nx:List (Nat×List Nat)->Bool
 |[]=>true
 |(_,U)::r=>U.isEmpty&&Nx r
theorem AK:∀{sg:List (Nat×List Nat)},Nx sg=true->∀x∈sg,x.2=[]
 |[],_,x,D=>by cases D
 |(i,U)::r,h,x,D=>by
  simp only[Nx,xf,List.isEmpty_iff]at h;cases D with
  |head=>exact h.1
  |tail _ D=>exact AK h.2 x D
theorem EM{n:Nat}{b:List (Nat×List Nat)}:∀(a:List (Nat×List Nat)) (tch:List (Nat×Nat)) (fr fr1:Fr) (h h1:AB),BA C (Bm C n) g ops a tch fr h=some (fr1,h1)->
  ∃tch',∀m,n<=m->BA C (Bm C m) g ops (a++b) tch fr h=BA C (Bm C m) g ops b tch' fr1 h1
 |[],tch,fr,fr1,h,h1,E=>by
  simp only[BA,qV,qY]at E;obtain⟨rfl,rfl⟩:=E;exact⟨tch,λ_ _=>rfl⟩
 | (i,U)::a,tch,fr,fr1,h,h1,E=>by
  rw[BA]at E;split at E
  ·cases E
  ·rename_i o T;split at E
   ·rename_i hw;split at E
    ·rename_i v h' B;obtain⟨t,ht⟩:=EM a _ _ _ _ _ E;refine⟨t,λm hm=>?_⟩;rw[xS,BA,T];simp only[hw,FO (DM C hm) B];exact ht m hm
    ·cases E
   ·rename_i hw;obtain⟨t,ht⟩:=EM a _ _ _ _ _ E;refine⟨t,λm hm=>?_⟩;rw[xS,BA,T];simp only[hw];exact ht m hm
   ·cases E
theorem MN(sg:List (Nat×List Nat))(I:Fr->AB->Prop)(h1:AT C g ops sg tch fr h I)(F:∀t fr h,I fr h->AT C g ops pl t fr h K):AT C g ops (sg++pl) tch fr h K:=by
 obtain⟨n,fr1,h1',r1,r2⟩:=h1;obtain⟨t0,ht0⟩:=EM (b:=pl) sg tch fr fr1 h h1' r1;obtain⟨m,fr2,h2',r3,r4⟩:=F t0 _ _ r2;refine⟨max n m,fr2,h2',?_,r4⟩;rw[ht0 _ (xM _ _)];exact DI (DM C (xK _ _)) r3
def KC(next:Fr->AB->Prop)(Q:Br->Fr->AB->Prop):Br->Fr->AB->Prop
 | .normal,fr,h=>next fr h
 |e,fr,h=>Q e fr h
def TE(id:Nat)(Q:Br->Fr->AB->Prop):Br->Fr->AB->Prop
 | .exit i,fr,h=>bif Nat.beq i id then Q .normal fr h else Q (.exit i) fr h
 |e,fr,h=>Q e fr h
variable {Q:Br->Fr->AB->Prop} {a b c c':Code}
def left:Code->Code
 | .seq a _=>a
 | .cond _ a _=>a
 | .block _ c=>c
 | .loop c=>c
 | .scope c=>c
 |c=>c
def right:Code->Code
 | .seq _ b=>b
 | .cond _ _ b=>b
 |c=>c
def opsOf:Code->Array Oper
 | .region _ ops _=>ops
 |_=>#[]
inductive Sh where
 |skip|region (id n:Nat) (draw:Bool)|seq|cond (x:Operand)|block (id:Nat)|loop|exit (id:Nat)|scope|label|ret|other
def shape:Code->Sh
 | .skip=>.skip
 | .region id ops draw=>.region id ops.size draw
 | .seq _ _=>.seq
 | .cond x _ _=>.cond x
 | .block id _=>.block id
 | .loop _=>.loop
 | .exit id=>.exit id
 | .scope _=>.scope
 | .label _=>.label
 | .ret=>.ret
 |_=>.other
theorem BZ{Q':Br->Fr->AB->Prop}(L:AW C f g c fr h Q')(J:∀e fr h,Q' e fr h->Q e fr h):AW C f g c fr h Q:=by
 obtain⟨n,e,fr',h',h1,F⟩:=(L).ex;exact⟨⟨n,e,fr',h',h1,J _ _ _ F⟩⟩
theorem An(B:shape c=.seq)(L:AW C f g (left c) fr h (KC (λfr h=>AW C f g (right c) fr h Q) Q)):AW C f g c fr h Q:=by
 cases c<;>simp[shape]at B;simp only[left,right]at L;obtain⟨n,e,fr1,h1,D,J⟩:=(L).ex;cases e with
 |normal=>
  obtain⟨m,e2,fr2,F,hx2,hq2⟩:=J.ex;refine⟨⟨max n m,e2,fr2,F,?_,hq2⟩⟩;simp only[Aa,CC (DM C (xM n m)) D,CC (DM C (xK n m)) hx2]
 |exit id=>exact⟨⟨n,_,_,_,by simp only[Aa,D],J⟩⟩
 |ret=>exact⟨⟨n,_,_,_,by simp only[Aa,D],J⟩⟩
theorem As{id n:Nat}(pl:List (Nat×List Nat))(B:shape c=.region id n false)(hp:Gk 0 n=pl)(L:AT C g (opsOf c) pl [] fr h (λfr' h'=>Q .normal fr' h')):AW C f g c fr h Q:=by
 cases c<;>simp[shape]at B;obtain⟨rfl,rfl,rfl⟩:=B;obtain⟨n,fr',h',E,J⟩:=L;subst hp;simp only[opsOf]at E;rw[Fy _ _ _ _ _ (by omega),wz]at E;exact⟨⟨n,.normal,fr',h',by simp only[Aa,xJ,E],J⟩⟩
theorem Lc{id n:Nat}(B:shape c=.region id n true)(pl:List (Nat×List Nat))(hp:C.Iy f id=pl)(L:AT C g (opsOf c) pl [] fr h (λfr' h'=>Q .normal fr' h')):AW C f g c fr h Q:=by
 cases c<;>simp[shape]at B;obtain⟨rfl,rfl,rfl⟩:=B;obtain⟨n,fr',h',E,J⟩:=L;simp only[opsOf]at E;exact⟨⟨n,.normal,fr',h',by simp only[Aa,xB,hp,E],J⟩⟩
theorem Dd(B:shape c=.skip)(J:Q .normal fr h):AW C f g c fr h Q:=by cases c<;>simp[shape]at B;exact⟨⟨0,_,_,_,rfl,J⟩⟩
theorem Cz{i:Nat}(B:shape c=.exit i)(J:Q (.exit i) fr h):AW C f g c fr h Q:=by cases c<;>simp[shape]at B;subst B;exact⟨⟨0,_,_,_,rfl,J⟩⟩
theorem I1(B:shape c=.ret)(J:Q .ret fr h):AW C f g c fr h Q:=by cases c<;>simp[shape]at B;exact⟨⟨0,_,_,_,rfl,J⟩⟩
theorem DH{x:Operand}(B:shape c=.cond x)(H:Has fr N l)(D:∀fr,ev (Cr N l fr) x=.bool true)(L:AW C f g (left c) fr h Q):AW C f g c fr h Q:=by
 cases c<;>simp[shape]at B;subst B;have:=D fr;rw[Dh H]at this;obtain⟨n,e,fr',h',h1,F⟩:=(L).ex;exact⟨⟨n,e,fr',h',by simp only[Aa,this];exact h1,F⟩⟩
theorem Ca{x:Operand}(B:shape c=.cond x)(H:Has fr N l)(D:∀fr,ev (Cr N l fr) x=.bool false)(L:AW C f g (right c) fr h Q):AW C f g c fr h Q:=by
 cases c<;>simp[shape]at B;subst B;have:=D fr;rw[Dh H]at this;obtain⟨n,e,fr',h',h1,F⟩:=(L).ex;exact⟨⟨n,e,fr',h',by simp only[Aa,this];exact h1,F⟩⟩
theorem A4{id:Nat}(B:shape c=.block id)(L:AW C f g (left c) fr h (TE id Q)):AW C f g c fr h Q:=by
 cases c<;>simp[shape]at B;subst B;simp only[left]at L;obtain⟨n,e,fr',h',h1,F⟩:=(L).ex;cases e with
 |normal=>exact⟨⟨n,_,_,_,by simp only[Aa,h1],F⟩⟩
 |ret=>exact⟨⟨n,_,_,_,by simp only[Aa,h1],F⟩⟩
 |exit i=>
  rename_i id _;simp only[TE]at F;cases M:Nat.beq i id with
  |true=>rw[M]at F;exact⟨⟨n,.normal,fr',h',by simp only[Aa,h1,M,xB],F⟩⟩
  |false=>rw[M]at F;exact⟨⟨n,.exit i,fr',h',by simp only[Aa,h1,M,xJ],F⟩⟩
theorem DN{σ ρ:Type}{step:σ->Option (σ⊕ρ)}{s:σ}{r:ρ}(B:shape c=.loop)(I:σ->Fr->AB->Prop)(hl:loop step s=some r)(h0:I s fr h)
  (E:∀s o fr h,I s fr h->step s=some o->AW C f g (left c) fr h (KC (λfr' h'=>∃s',o=.inl s'/\I s' fr' h') (λe fr' h'=>∃r',o=.inr r'/\(r'=r->Q e fr' h')))):AW C f g c fr h Q:=by
 cases c<;>simp[shape]at B;rename_i c;simp only[left]at E;obtain⟨k,G⟩:=Kb hl;have key:∀k s fr h,I s fr h->Ee step k s=some r->AW C f g (.loop c) fr h Q:=by
  intro k
  induction k with
  |zero=>intro s fr h _ G;cases G
  | succ k ih=>
   intro s fr h hi G;unfold Ee at G;cases O:step s with
   |none=>rw[O]at G;cases G
   | some o=>
    rw[O]at G;obtain⟨n,e,fr1,h1,D,J⟩:=(E s o fr h hi O).ex;cases e with
    |normal=>
     obtain⟨s',rfl,hI⟩:=J;obtain⟨m,e2,fr2,F,hx2,hq2⟩:=(ih s' fr1 h1 hI G).ex;refine⟨⟨max n m+1,e2,fr2,F,?_,hq2⟩⟩;have e1:=CC (DM C (xq (xM n m) (Nat.le_succ _))) D;have e2':=CC (DM C (xK n m)) hx2;rw[Aa,e1];exact e2'
    |exit i=>
     obtain⟨r',rfl,hQ⟩:=J;injection G with G;exact⟨⟨n,_,_,_,by simp only[Aa,D],hQ G⟩⟩
    |ret=>
     obtain⟨r',rfl,hQ⟩:=J;injection G with G;exact⟨⟨n,_,_,_,by simp only[Aa,D],hQ G⟩⟩
 exact key k s fr h h0 G
def A7(P:Program)(f:FuncId):Code:=
 match P.funcs[f]? with
 |some fn=>(match fn.body with|some c=>c|none=>.skip)
 |none=>.skip
def GC(P:Program)(f:FuncId):Option (Nat×List ResultVar):=
 match P.funcs[f]? with
 |some fn=>(match fn.body with|some _=>some (fn.ntmps,fn.results.toList)|none=>none)
 |none=>none
def IZ(P:Program)(rs:List ResultVar)(fr:Fr)(h:AB):Option AA:=
 match rs.mapM (Dj P fr h)with
 |some [v]=>some v
 |some vs=>some (.tuple vs)
 |none=>none
structure Jt(P:Program)(rs:List ResultVar)(v:AA)(h':AB)(e:Br)(fr:Fr)(h:AB):Prop where
 no:e=.ret\/e=.normal
 res:IZ P rs fr h=some v
 heap:h=h'
structure Qk(P:Program)(rs:List ResultVar)(v:AA)(e:Br)(fr:Fr)(h:AB):Prop where
 no:e=.ret\/e=.normal
 res:IZ P rs fr h=some v
theorem Ik{args:List AA}{v:AA}{h':AB}{n:Nat}{rs:List ResultVar}(V:GC C.P f=some (n,rs))
  (L:AW C f g (A7 C.P f) (args++List.replicate (n - args.length) (.tuple [])) h (Jt C.P rs v h')):GP C g h f args v h':=by
 obtain⟨m,e,fr',F,D,J⟩:=(L).ex;unfold GC at V;unfold A7 at D;refine⟨m,?_⟩;unfold Dn;split at V
 ·rename_i fn hfn;split at V
  ·rename_i c hc;simp only[qV,qY]at V;obtain⟨rfl,rfl⟩:=V;simp only[hfn,hc]at D⊢;cases e with
   |normal=>obtain⟨_,Z,rfl⟩:=J;rw[D];simp only;rw[show Cy C.P fn fr' F=some v from Z];rfl
   |ret=>obtain⟨_,Z,rfl⟩:=J;rw[D];simp only;rw[show Cy C.P fn fr' F=some v from Z];rfl
   |exit i=>rcases J.no with h|h<;>cases h
  ·cases V
 ·cases V
theorem TK{args:List AA}{v:AA}{n:Nat}{rs:List ResultVar}(V:GC C.P f=some (n,rs))
  (L:AW C f g (A7 C.P f) (args++List.replicate (n - args.length) (.tuple [])) h (Qk C.P rs v)):∃h',GP C g h f args v h':=by
 obtain⟨m,e,fr',F,D,J⟩:=L.ex;exact⟨F,Ik V ⟨⟨m,e,fr',F,D,⟨J.no,J.res,rfl⟩⟩⟩⟩
theorem start{args:List AA}{n:Nat}(ins:List (Nat×AA))(hl:(args++List.replicate (n - args.length) (AA.tuple [])).length=n)(hi:ins.map (λp=>nth (args++List.replicate (n - args.length) (AA.tuple [])) p.1)=ins.map (·.2))
  (L:∀fr,Has fr n ins->AW C f g c fr h Q):AW C f g c (args++List.replicate (n - args.length) (.tuple [])) h Q:=L _ (Has.of_map hl hi)
theorem O7{rs:List ResultVar}{v:AA}(e:Br)(H:Has fr N l)(E:∀fr,IZ C.P rs (Cr N l fr) h=some v)(he:e=.ret\/e=.normal):Qk C.P rs v e fr h:=by
 have:=E fr;rw[Dh H]at this;exact⟨he,this⟩
theorem JL{rs:List ResultVar}{v:AA}{h':AB}(H:Has fr N l)(E:∀fr,IZ C.P rs (Cr N l fr) h=some v)(he:h=h'):Jt C.P rs v h' .ret fr h:=by
 have:=E fr;rw[Dh H]at this;exact⟨.inl rfl,this,he⟩
theorem Po{rs:List ResultVar}{v:AA}{h':AB}(H:Has fr N l)(E:∀fr,IZ C.P rs (Cr N l fr) h=some v)(he:h=h'):Jt C.P rs v h' .normal fr h:=by
 have:=E fr;rw[Dh H]at this;exact⟨.inr rfl,this,he⟩
theorem Mz{args:List AA}{v:AA}{h':AB}(G:C.kind f=1)(M:GP C g h f args v h'):CW C g h f args v h':=by
 obtain⟨n,R⟩:=M;refine⟨n+1,?_⟩;show Ej C (Bm C n) g h f args=_;unfold Ej;rw[G];exact R
theorem XQ{args:List AA}{v:AA}{h':AB}(G:C.kind f=2)(hv:Fo v=true)(M:GP C ⟨h.size,[]⟩ h f args v h'):CW C g h f args v h:=by
 obtain⟨n,R⟩:=M;refine⟨n+1,?_⟩;show Ej C (Bm C n) g h f args=_;unfold Ej;rw[G];simp only[R,hv,xB]
theorem closed{args:List AA}{v:AA}(n:Nat)(M:(Dn C (Bm C n) g h f args).map (·.1)=some v):∃h',GP C g h f args v h':=by
 cases D:Dn C (Bm C n) g h f args with
 |none=>rw[D]at M;cases M
 |some x=>
  rw[D]at M;simp only[qZ,qV]at M;exact⟨x.2,n,by rw[D,<-M]⟩
theorem Wx{args:List AA}{v:AA}(G:C.kind f=2)(hv:Fo v=true)(M:∃h',GP C ⟨h.size,[]⟩ h f args v h'):CW C g h f args v h:=by
 obtain⟨h',M⟩:=M;exact XQ G hv M
end
theorem Qe{α β:Type}{a c:α}{b d:β}(h:some (a,b)=some (c,d)):a=c/\b=d:=by injection h with h;injection h with h1 F;exact⟨h1,F⟩
def Io:List Nat->Nat->Nat
 |[],_=>0
 |a::_,0=>a
 |_::l,i+1=>Io l i
def JK:List ((Nat×Nat)×List (Nat×List Nat))->Nat->Nat->List (Nat×List Nat)
 |[],_,_=>[]
 |((a,b),p)::l,f,id=>bif Nat.beq a f&&Nat.beq b id then p else JK l f id
def Lt(C:Eu):Nat->Bool
 |0=>true
 | n+1=>Lt C n&&(bif Nat.beq (C.kind n) 0 then true else
   match C.P.funcs[n]? with
   |some fn=> !(fn.name=="runtime.NumGoroutine")&&(match fn.body with|some c=>codeOk C n c|none=>true)
   |none=>true)
theorem JB:∀{l:List Nat} {i:Nat},l.length<=i->Io l i=0
 |[],_,_=>rfl
 |_::l,0,h=>by simp at h
 |_::l,i+1,h=>JB (l:=l) (by simpa using h)
theorem KB {C:Eu}:∀{n:Nat},Lt C n=true->∀{f:Nat},f<n->C.kind f≠0->∀{fn:Func} {c:Code},C.P.funcs[f]?=some fn->fn.body=some c->(fn.name=="runtime.NumGoroutine")=false/\codeOk C f c=true
 |0,_,f,V,_,_,_,_,_=>by omega
 | n+1,h,f,V,G,fn,c,h1,F=>by
  simp only[Lt,xf]at h;by_cases e:f=n
  ·subst e;have Z:=h.2;have:Nat.beq (C.kind f) 0=false:=by
    cases M:Nat.beq (C.kind f) 0 with
    |false=>rfl
    |true=>exact absurd (xC M) G
   rw[this]at Z;simp only[xJ,h1,F,xf,xn]at Z;exact Z
  ·exact KB h.1 (by omega) G h1 F
theorem T5{C:Eu}{ks:List Nat}(G:C.kind=Io ks)(hmix:C.P.follows .mixedOrders=true)(hall:Lt C ks.length=true)(Z:ks.all (λk=> !Nat.beq k 3)=true):Fq C:=by
 refine⟨hmix,λf fn c hkf h1 F=>?_,λf V=>?_⟩
 ·have hne:C.kind f≠0:=by omega
  refine KB hall ?_ hne h1 F;rcases xp f ks.length with h|h
  ·exact h
  ·rw[G,JB h]at hne;exact absurd rfl hne
 ·exfalso;rw[G]at V;have key:∀(l:List Nat) (i:Nat),l.all (λk=> !Nat.beq k 3)=true->Io l i≠3:=by
   intro l
   induction l with
   |nil=>intro i _ h;simp[Io]at h
   |cons a l ih=>
    intro i h;simp only[wa,xf,xn]at h;cases i with
    |zero=>intro e;simp only[Io]at e;rw[e]at h;simp at h
    |succ i=>exact ih i h.2
  exact key ks f Z V
end Go.Abs
end
/-
 A part.
-/
section
namespace Go.Abs
set_option linter.unusedSimpArgs false
def Mq(l:List (Nat×List AA))(g:Nat):Option (List AA):=
 match l with
 |[]=>none
 |(i,cs)::r=>bif Nat.beq i g then some cs else Mq r g
def KT(l:List (Nat×AA))(d:Nat):Option AA:=
 match l with
 |[]=>none
 |(i,v)::r=>bif Nat.beq i d then some v else KT r d
def Mf(l:List (Nat×AA))(d:Nat)(w:AA):List (Nat×AA):=
 match l with
 |[]=>[]
 |(i,v)::r=>bif Nat.beq i d then(i,w)::r else(i,v)::Mf r d w
theorem H3{v:AA}{d:Nat}:∀{l:List (Nat×AA)},KT l d=some v->(d,v)∈l
 |[],h=>by cases h
 |(i,u)::r,h=>by
  unfold KT at h;rw[F9]at h;by_cases e:i=d
  ·rw[xj e]at h;injection h with h;rw[h,e];simp
  ·rw[xg e]at h;exact xD _ (H3 h)
theorem J8{w:AA}{d:Nat}:∀{l:List (Nat×AA)} {p:Nat×AA},p∈Mf l d w->p∈l\/p=(d,w)
 |[],p,h=>by cases h
 | (i,u)::r,p,h=>by
  unfold Mf at h;rw[F9]at h;by_cases e:i=d
  ·rw[xj e]at h;rcases wb.1 h with h|h
   ·right;rw[h,e]
   ·left;exact xD _ h
  ·rw[xg e]at h;rcases wb.1 h with h|h
   ·left;rw[h];simp
   ·rcases J8 h with h|h
    ·left;exact xD _ h
    ·right;exact h
theorem Has.DR{fr:Fr}{N:Nat}{l:List (Nat×AA)}(H:Has fr N l)(d:Nat){b w:Bool}(M:b=w)(hd:KT l d=some (.bool b)):Has fr N (Mf l d (.bool w)):=by
 subst M;refine⟨H.1,λp hp=>?_⟩;rcases J8 hp with h|h
 ·exact H.2 p h
 ·rw[h];exact H.2 _ (H3 hd)
@[irreducible] def Iv:Nat:=4611686018427387904
theorem OX:Iv=4611686018427387904:=by unfold Iv;rfl
def cap{α β:Type}(asE9:AA->Option α)(rest:List AA->Option β):List AA->Option (α×β)
 |v::l=>(asE9 v).bind λx=>(rest l).map λy=>(x,y)
 |[]=>none
end Go.Abs
end
