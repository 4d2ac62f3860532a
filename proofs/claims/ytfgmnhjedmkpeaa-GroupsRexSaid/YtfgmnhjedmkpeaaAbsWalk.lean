/-
 A part.
-/
import Derived.Test.YtfgmnhjedmkpeaaAbsStep2
set_option linter.unusedSimpArgs false
namespace Go.Abs
def Hm:Nat->Nat->List (Nat×List Nat)
 |_,0=>[]
 |i,k+1=>(i,[])::Hm (i+1) k
@[simp] theorem HQ (tch:List (Nat×Nat)):FQ tch []=[]:=by
 unfold FQ;rw[List.filterMap_eq_nil_iff];intro a _;rfl
section
variable {C:Gf} {S:Self} {g:Gd} {ops:Array Oper}
theorem HU:∀(k i:Nat) (tch:List (Nat×Nat)) (fr:Fr) (h:AE),i+k=ops.size->Bl C S g ops (Hm i k) tch fr h=EF C S g ops (ops.toList.drop i) fr h
 |0,i,tch,fr,h,e=>by
  have:ops.toList.drop i=[]:=wi (by rw[Array.length_toList];omega);rw[this];rfl
 | k+1,i,tch,fr,h,e=>by
  have hi:i<ops.size:=by omega
  have hl:i<ops.toList.length:=by rw[Array.length_toList];exact hi
  rw[xI hl,Hm,Bl,EF,Array.getElem?_eq_getElem hi];simp only[Array.getElem_toList];cases Bp ops fr ops[i]with
  |none=>rfl
  | some b=>
   cases b with
   |false=>exact HU k (i+1) _ _ _ (by omega)
   |true=>
    simp only[HQ,xP];cases BI C S g h fr ops[i].op with
    |none=>rfl
    |some x=>exact HU k (i+1) _ _ _ (by omega)
end
def AT(C:Gf)(g:Gd)(ops:Array Oper)(pl:List (Nat×List Nat))(tch:List (Nat×Nat))(fr:Fr)(h:AE)(K:Fr->AE->Prop):Prop:=
 ∃n fr' h',Bl C (CV C n) g ops pl tch fr h=some (fr',h')/\K fr' h'
structure AW(C:Gf)(f:FuncId)(g:Gd)(c:Code)(fr:Fr)(h:AE)(Q:DF->Fr->AE->Prop):Prop where
 ex:∃n e fr' h',BF C (CV C n) f g c fr h=some (e,fr',h')/\Q e fr' h'
def JX(C:Gf)(g:Gd)(h:AE)(f:FuncId)(args:List AD)(v:AD)(h':AE):Prop:=∃n,Gk C (CV C n) g h f args=some (v,h')
def Bw(C:Gf)(g:Gd)(h:AE)(f:FuncId)(args:List AD)(v:AD)(h':AE):Prop:=∃n,(CV C n).call g h f args=some (v,h')
section
variable {C:Gf} {f:FuncId} {g:Gd} {ops:Array Oper} {pl:List (Nat×List Nat)} {tch:List (Nat×Nat)} {fr:Fr} {h h1:AE} {K:Fr->AE->Prop} {N:Nat} {l:List (Nat×AD)} {i:Nat} {U:List Nat}
theorem AY(h0:K fr h):AT C g ops [] tch fr h K:=⟨0,fr,h,rfl,h0⟩
theorem Nj{S:Nat}{pl':List (Nat×List Nat)}{tch':List (Nat×Nat)}{fr1:Fr}{h1:AE}(L:AT C g ops pl tch fr1 h1 K)
  (D:∀n x,S<=n->Bl C (CV C n) g ops pl tch fr1 h1=some x->Bl C (CV C n) g ops pl' tch' fr h=some x):AT C g ops pl' tch' fr h K:=by
 obtain⟨n,fr',h',r1,r2⟩:=L;exact⟨max S n,fr',h',D _ _ (xE _ _) (EG (ED C (xC _ _)) r1),r2⟩
def Steps(C:Gf)(g:Gd)(h:AE)(fr:Fr)(op:Op)(v:AD)(h1:AE):Prop:=∃n,BI C (CV C n) g h fr op=some (v,h1)
theorem Steps.of{op:Op}{v:AD}(B:BI C (CV C 0) g h fr op=some (v,h1)):Steps C g h fr op v h1:=⟨0,B⟩
theorem Steps.call{op:Op}{v:AD}{f':FuncId}{args:List AD}(B:J1 fr op=some (f',args))(E:Bw C g h f' args v h1):Steps C g h fr op v h1:=by
 obtain⟨n,R⟩:=E;exact⟨n,R7 B R⟩
theorem Hk{v:AD}{U:List Nat}(hw:runs ops fr i=true)(B:Steps C ⟨g.floor,FQ tch U++g.Bs⟩ h fr (Mi ops i) v h1)(R:AT C g ops pl (EE C.P h fr i (Mi ops i) tch) (put fr (Gw ops i) v) h1 K):
  AT C g ops ((i,U)::pl) tch fr h K:=by
 obtain⟨m,hm⟩:=B;refine Nj (S:=m) R λn x hle D=>?_;have O:=GX (ED C hle) hm;unfold runs at hw;unfold Mi at O D;unfold Gw at D;rw[Bl];cases T:ops[i]? with
 |none=>rw[T]at hw;cases hw
 | some o=>
  rw[T]at hw O D;simp only at hw O D⊢;cases X:Bp ops fr o with
  |none=>rw[X]at hw;cases hw
  |some b=>
   rw[X]at hw;simp only at hw;subst hw;simp only[O];exact D
theorem Nx(hw:Ol ops fr i=true)(R:AT C g ops pl tch (put fr (Gw ops i) (.tuple [])) h K):AT C g ops ((i,U)::pl) tch fr h K:=by
 refine Nj (S:=0) R λn x hle D=>?_;unfold Ol at hw;unfold Gw at D;rw[Bl];cases T:ops[i]? with
 |none=>rw[T]at hw;cases hw
 | some o=>
  rw[T]at hw D;simp only at hw D⊢;cases X:Bp ops fr o with
  |none=>rw[X]at hw;cases hw
  |some b=>
   rw[X]at hw;simp only[xj]at hw;subst hw;exact D
def UD(ops:Array Oper)(i:Nat)(fr:Fr)(v:AD)(out:List (Nat×AD)):Bool×List AD:=(runs ops fr i,out.map λp=>nth (put fr (Gw ops i) v) p.1)
theorem Si{v:AD}(out:List (Nat×AD))(H:Has fr N l)(hw:∀fr,UD ops i (Cy N l fr) v out=(true,out.map (·.2)))(B:∀fr,Steps C g h (Cy N l fr) (Mi ops i) v h1)
  (R:∀fr' t,Has fr' N out->AT C g ops pl t fr' h1 K):AT C g ops ((i,[])::pl) tch fr h K:=by
 have e:=EB H;have Y:=hw fr;have hs':=B fr;rw[e]at Y hs';unfold UD at Y;simp only[qW]at Y;refine Hk (v:=v) Y.1 (by rw[HQ,xP];exact hs') (R _ _ (Has.of_map (by simp[H.1]) Y.2))
def Fk(P:Program)(ops:Array Oper):List Nat->Fr->Option Fr
 |[],fr=>some fr
 | i::r,fr=>
  match ops[i]? with
  |none=>none
  |some o=>
   match Bp ops fr o with
   |some true=>(match Uc P fr o.op with|some v=>Fk P ops r (put fr o.dst v)|none=>none)
   |some false=>Fk P ops r (put fr o.dst (.tuple []))
   |none=>none
def EM:List (Nat×List Nat)->List Nat
 |[]=>[]
 |(i,_)::r=>i::EM r
theorem OZ{P:Program}{fr:Fr}{op:Op}{v:AD}(h:Uc P fr op=some v):As P op=0:=by
 unfold Uc at h;split at h
 ·assumption
 ·cases h
theorem KJ:∀(sg pl:List (Nat×List Nat)) (fr fr1:Fr),(∀x∈sg,x.2=[])->Fk C.P ops (EM sg) fr=some fr1->AT C g ops pl tch fr1 h K->AT C g ops (sg++pl) tch fr h K
 |[],pl,fr,fr1,_,B,R=>by
  simp only[EM,Fk,qU]at B;subst B;exact R
 | (i,U)::sg,pl,fr,fr1,hU,B,R=>by
  have hU0:U=[]:=hU (i,U) (by simp);subst hU0;have ih:=λfr2 D=>KJ sg pl fr2 fr1 (λx D=>hU x (by simp[D])) D R;simp only[EM,Fk]at B;split at B
  ·cases B
  ·rename_i o T;split at B
   ·rename_i hw;split at B
    ·rename_i v hv;have e1:Mi ops i=o.op:=by simp[Mi,T]
     have e2:Gw ops i=o.dst:=by simp[Gw,T]
     refine Hk (v:=v) (h1:=h) (by simp[runs,T,hw]) (.of (by rw[e1];exact YD hv)) ?_;rw[e1,e2];have:EE C.P h fr i o.op tch=tch:=by unfold EE;rw[OZ hv];rfl
     rw[this];exact ih _ B
    ·cases B
   ·rename_i hw;have e2:Gw ops i=o.dst:=by simp[Gw,T]
    refine Nx (by simp[Ol,T,hw]) ?_;rw[e2];exact ih _ B
   ·cases B
theorem FI{P:Program}:∀(l:List Nat) (fr fr':Fr),Fk P ops l fr=some fr'->fr'.length=fr.length
 |[],fr,fr',h=>by simp only[Fk,qU]at h;rw[h]
 | i::l,fr,fr',h=>by
  simp only[Fk]at h;split at h
  ·cases h
  ·split at h
   ·split at h
    ·rw[FI l _ _ h];simp
    ·cases h
   ·rw[FI l _ _ h];simp
   ·cases h
theorem J7(sg:List (Nat×List Nat))(out:List (Nat×AD))(H:Has fr N l)(hU:∀x∈sg,x.2=[])
  (G:∀fr,(Fk C.P ops (EM sg) (Cy N l fr)).map (λx=>out.map (λp=>nth x p.1))=some (out.map (·.2)))
  (R:∀fr',Has fr' N out->AT C g ops pl tch fr' h K):AT C g ops (sg++pl) tch fr h K:=by
 have W:=G fr;rw[EB H]at W;cases E:Fk C.P ops (EM sg) fr with
 |none=>rw[E]at W;cases W
 |some fr1=>
  rw[E]at W;simp only[q8,qU]at W;exact KJ sg pl fr fr1 hU E (R fr1 (Has.of_map ((FI _ _ _ E).trans H.1) W))
def PO:List (Nat×List Nat)->Bool
 |[]=>true
 |(_,U)::r=>U.isEmpty&&PO r
theorem F7:∀{sg:List (Nat×List Nat)},PO sg=true->∀x∈sg,x.2=[]
 |[],_,x,D=>by cases D
 |(i,U)::r,h,x,D=>by
  simp only[PO,xa,List.isEmpty_iff]at h;cases D with
  |head=>exact h.1
  |tail _ D=>exact F7 h.2 x D
theorem FZ{n:Nat}{b:List (Nat×List Nat)}:∀(a:List (Nat×List Nat)) (tch:List (Nat×Nat)) (fr fr1:Fr) (h h1:AE),Bl C (CV C n) g ops a tch fr h=some (fr1,h1)->
  ∃tch',∀m,n<=m->Bl C (CV C m) g ops (a++b) tch fr h=Bl C (CV C m) g ops b tch' fr1 h1
 |[],tch,fr,fr1,h,h1,E=>by
  simp only[Bl,qU,qW]at E;obtain⟨rfl,rfl⟩:=E;exact⟨tch,λ_ _=>rfl⟩
 | (i,U)::a,tch,fr,fr1,h,h1,E=>by
  rw[Bl]at E;split at E
  ·cases E
  ·rename_i o T;split at E
   ·rename_i hw;split at E
    ·rename_i v h' B;obtain⟨t,ht⟩:=FZ a _ _ _ _ _ E;refine⟨t,λm hm=>?_⟩;rw[xL,Bl,T];simp only[hw,GX (ED C hm) B];exact ht m hm
    ·cases E
   ·rename_i hw;obtain⟨t,ht⟩:=FZ a _ _ _ _ _ E;refine⟨t,λm hm=>?_⟩;rw[xL,Bl,T];simp only[hw];exact ht m hm
   ·cases E
theorem OR(sg:List (Nat×List Nat))(I:Fr->AE->Prop)(h1:AT C g ops sg tch fr h I)(F:∀t fr h,I fr h->AT C g ops pl t fr h K):AT C g ops (sg++pl) tch fr h K:=by
 obtain⟨n,fr1,h1',r1,r2⟩:=h1;obtain⟨t0,ht0⟩:=FZ (b:=pl) sg tch fr fr1 h h1' r1;obtain⟨m,fr2,h2',r3,r4⟩:=F t0 _ _ r2;refine⟨max n m,fr2,h2',?_,r4⟩;rw[ht0 _ (xE _ _)];exact EG (ED C (xC _ _)) r3
def MA(next:Fr->AE->Prop)(Q:DF->Fr->AE->Prop):DF->Fr->AE->Prop
 | .normal,fr,h=>next fr h
 |e,fr,h=>Q e fr h
def Tp(id:Nat)(Q:DF->Fr->AE->Prop):DF->Fr->AE->Prop
 | .exit i,fr,h=>bif Nat.beq i id then Q .normal fr h else Q (.exit i) fr h
 |e,fr,h=>Q e fr h
variable {Q:DF->Fr->AE->Prop} {a b c c':Code}
def left:Code->Code
 | .seq a _=>a
 | .cond _ a _=>a
 | .block _ c=>c
 | .loop c=>c
 | .scope c=>c
 |c=>c
def right:Code->Code
 | .seq _ b=>b
 | .cond _ _ b=>b
 |c=>c
def opsOf:Code->Array Oper
 | .region _ ops _=>ops
 |_=>#[]
inductive Sh where
 |skip|region (id n:Nat) (draw:Bool)|seq|cond (x:Operand)|block (id:Nat)|loop|exit (id:Nat)|scope|label|ret|other
def shape:Code->Sh
 | .skip=>.skip
 | .region id ops draw=>.region id ops.size draw
 | .seq _ _=>.seq
 | .cond x _ _=>.cond x
 | .block id _=>.block id
 | .loop _=>.loop
 | .exit id=>.exit id
 | .scope _=>.scope
 | .label _=>.label
 | .ret=>.ret
 |_=>.other
theorem BB{Q':DF->Fr->AE->Prop}(L:AW C f g c fr h Q')(J:∀e fr h,Q' e fr h->Q e fr h):AW C f g c fr h Q:=by
 obtain⟨n,e,fr',h',h1,F⟩:=(L).ex;exact⟨⟨n,e,fr',h',h1,J _ _ _ F⟩⟩
theorem BM(B:shape c=.seq)(L:AW C f g (left c) fr h (MA (λfr h=>AW C f g (right c) fr h Q) Q)):AW C f g c fr h Q:=by
 cases c<;>simp[shape]at B;simp only[left,right]at L;obtain⟨n,e,fr1,h1,D,J⟩:=(L).ex;cases e with
 |normal=>
  obtain⟨m,e2,fr2,F,hx2,hq2⟩:=J.ex;refine⟨⟨max n m,e2,fr2,F,?_,hq2⟩⟩;simp only[BF,Dl (ED C (xE n m)) D,Dl (ED C (xC n m)) hx2]
 |exit id=>exact⟨⟨n,_,_,_,by simp only[BF,D],J⟩⟩
 |ret=>exact⟨⟨n,_,_,_,by simp only[BF,D],J⟩⟩
theorem BS{id n:Nat}(pl:List (Nat×List Nat))(B:shape c=.region id n false)(hp:Hm 0 n=pl)(L:AT C g (opsOf c) pl [] fr h (λfr' h'=>Q .normal fr' h')):AW C f g c fr h Q:=by
 cases c<;>simp[shape]at B;obtain⟨rfl,rfl,rfl⟩:=B;obtain⟨n,fr',h',E,J⟩:=L;subst hp;simp only[opsOf]at E;rw[HU _ _ _ _ _ (by omega),wf]at E;exact⟨⟨n,.normal,fr',h',by simp only[BF,xB,E],J⟩⟩
theorem NP{id n:Nat}(B:shape c=.region id n true)(pl:List (Nat×List Nat))(hp:C.Ky f id=pl)(L:AT C g (opsOf c) pl [] fr h (λfr' h'=>Q .normal fr' h')):AW C f g c fr h Q:=by
 cases c<;>simp[shape]at B;obtain⟨rfl,rfl,rfl⟩:=B;obtain⟨n,fr',h',E,J⟩:=L;simp only[opsOf]at E;exact⟨⟨n,.normal,fr',h',by simp only[BF,xr,hp,E],J⟩⟩
theorem Eg(B:shape c=.skip)(J:Q .normal fr h):AW C f g c fr h Q:=by cases c<;>simp[shape]at B;exact⟨⟨0,_,_,_,rfl,J⟩⟩
theorem Bx{i:Nat}(B:shape c=.exit i)(J:Q (.exit i) fr h):AW C f g c fr h Q:=by cases c<;>simp[shape]at B;subst B;exact⟨⟨0,_,_,_,rfl,J⟩⟩
theorem Kh(B:shape c=.ret)(J:Q .ret fr h):AW C f g c fr h Q:=by cases c<;>simp[shape]at B;exact⟨⟨0,_,_,_,rfl,J⟩⟩
theorem Dg{x:Operand}(B:shape c=.cond x)(H:Has fr N l)(D:∀fr,ev (Cy N l fr) x=.bool true)(L:AW C f g (left c) fr h Q):AW C f g c fr h Q:=by
 cases c<;>simp[shape]at B;subst B;have:=D fr;rw[EB H]at this;obtain⟨n,e,fr',h',h1,F⟩:=(L).ex;exact⟨⟨n,e,fr',h',by simp only[BF,this];exact h1,F⟩⟩
theorem Cv{x:Operand}(B:shape c=.cond x)(H:Has fr N l)(D:∀fr,ev (Cy N l fr) x=.bool false)(L:AW C f g (right c) fr h Q):AW C f g c fr h Q:=by
 cases c<;>simp[shape]at B;subst B;have:=D fr;rw[EB H]at this;obtain⟨n,e,fr',h',h1,F⟩:=(L).ex;exact⟨⟨n,e,fr',h',by simp only[BF,this];exact h1,F⟩⟩
theorem Am{id:Nat}(B:shape c=.block id)(L:AW C f g (left c) fr h (Tp id Q)):AW C f g c fr h Q:=by
 cases c<;>simp[shape]at B;subst B;simp only[left]at L;obtain⟨n,e,fr',h',h1,F⟩:=(L).ex;cases e with
 |normal=>exact⟨⟨n,_,_,_,by simp only[BF,h1],F⟩⟩
 |ret=>exact⟨⟨n,_,_,_,by simp only[BF,h1],F⟩⟩
 |exit i=>
  rename_i id _;simp only[Tp]at F;cases M:Nat.beq i id with
  |true=>rw[M]at F;exact⟨⟨n,.normal,fr',h',by simp only[BF,h1,M,xr],F⟩⟩
  |false=>rw[M]at F;exact⟨⟨n,.exit i,fr',h',by simp only[BF,h1,M,xB],F⟩⟩
theorem CR{σ ρ:Type}{step:σ->Option (σ⊕ρ)}{s:σ}{r:ρ}(B:shape c=.loop)(I:σ->Fr->AE->Prop)(hl:loop step s=some r)(h0:I s fr h)
  (E:∀s o fr h,I s fr h->step s=some o->AW C f g (left c) fr h (MA (λfr' h'=>∃s',o=.inl s'/\I s' fr' h') (λe fr' h'=>∃r',o=.inr r'/\(r'=r->Q e fr' h')))):AW C f g c fr h Q:=by
 cases c<;>simp[shape]at B;rename_i c;simp only[left]at E;obtain⟨k,G⟩:=Mb hl;have key:∀k s fr h,I s fr h->Fu step k s=some r->AW C f g (.loop c) fr h Q:=by
  intro k
  induction k with
  |zero=>intro s fr h _ G;cases G
  | succ k ih=>
   intro s fr h hi G;unfold Fu at G;cases O:step s with
   |none=>rw[O]at G;cases G
   | some o=>
    rw[O]at G;obtain⟨n,e,fr1,h1,D,J⟩:=(E s o fr h hi O).ex;cases e with
    |normal=>
     obtain⟨s',rfl,hI⟩:=J;obtain⟨m,e2,fr2,F,hx2,hq2⟩:=(ih s' fr1 h1 hI G).ex;refine⟨⟨max n m+1,e2,fr2,F,?_,hq2⟩⟩;have e1:=Dl (ED C (xn (xE n m) (Nat.le_succ _))) D;have e2':=Dl (ED C (xC n m)) hx2;rw[BF,e1];exact e2'
    |exit i=>
     obtain⟨r',rfl,hQ⟩:=J;injection G with G;exact⟨⟨n,_,_,_,by simp only[BF,D],hQ G⟩⟩
    |ret=>
     obtain⟨r',rfl,hQ⟩:=J;injection G with G;exact⟨⟨n,_,_,_,by simp only[BF,D],hQ G⟩⟩
 exact key k s fr h h0 G
def Hp(P:Program)(f:FuncId):Code:=
 match P.funcs[f]? with
 |some fn=>(match fn.body with|some c=>c|none=>.skip)
 |none=>.skip
def IF(P:Program)(f:FuncId):Option (Nat×List ResultVar):=
 match P.funcs[f]? with
 |some fn=>(match fn.body with|some _=>some (fn.ntmps,fn.results.toList)|none=>none)
 |none=>none
def Kk(P:Program)(rs:List ResultVar)(fr:Fr)(h:AE):Option AD:=
 match rs.mapM (Fb P fr h)with
 |some [v]=>some v
 |some vs=>some (.tuple vs)
 |none=>none
structure Lr(P:Program)(rs:List ResultVar)(v:AD)(h':AE)(e:DF)(fr:Fr)(h:AE):Prop where
 no:e=.ret\/e=.normal
 res:Kk P rs fr h=some v
 heap:h=h'
structure Sk(P:Program)(rs:List ResultVar)(v:AD)(e:DF)(fr:Fr)(h:AE):Prop where
 no:e=.ret\/e=.normal
 res:Kk P rs fr h=some v
theorem KU{args:List AD}{v:AD}{h':AE}{n:Nat}{rs:List ResultVar}(V:IF C.P f=some (n,rs))
  (L:AW C f g (Hp C.P f) (args++List.replicate (n - args.length) (.tuple [])) h (Lr C.P rs v h')):JX C g h f args v h':=by
 obtain⟨m,e,fr',F,D,J⟩:=(L).ex;unfold IF at V;unfold Hp at D;refine⟨m,?_⟩;unfold Gk;split at V
 ·rename_i fn hfn;split at V
  ·rename_i c hc;simp only[qU,qW]at V;obtain⟨rfl,rfl⟩:=V;simp only[hfn,hc]at D⊢;cases e with
   |normal=>obtain⟨_,Z,rfl⟩:=J;rw[D];simp only;rw[show FY C.P fn fr' F=some v from Z];rfl
   |ret=>obtain⟨_,Z,rfl⟩:=J;rw[D];simp only;rw[show FY C.P fn fr' F=some v from Z];rfl
   |exit i=>rcases J.no with h|h<;>cases h
  ·cases V
 ·cases V
theorem TX{args:List AD}{v:AD}{n:Nat}{rs:List ResultVar}(V:IF C.P f=some (n,rs))
  (L:AW C f g (Hp C.P f) (args++List.replicate (n - args.length) (.tuple [])) h (Sk C.P rs v)):∃h',JX C g h f args v h':=by
 obtain⟨m,e,fr',F,D,J⟩:=L.ex;exact⟨F,KU V ⟨⟨m,e,fr',F,D,⟨J.no,J.res,rfl⟩⟩⟩⟩
theorem start{args:List AD}{n:Nat}(ins:List (Nat×AD))(hl:(args++List.replicate (n - args.length) (AD.tuple [])).length=n)(hi:ins.map (λp=>nth (args++List.replicate (n - args.length) (AD.tuple [])) p.1)=ins.map (·.2))
  (L:∀fr,Has fr n ins->AW C f g c fr h Q):AW C f g c (args++List.replicate (n - args.length) (.tuple [])) h Q:=L _ (Has.of_map hl hi)
theorem Qm{rs:List ResultVar}{v:AD}(e:DF)(H:Has fr N l)(E:∀fr,Kk C.P rs (Cy N l fr) h=some v)(he:e=.ret\/e=.normal):Sk C.P rs v e fr h:=by
 have:=E fr;rw[EB H]at this;exact⟨he,this⟩
theorem K7{rs:List ResultVar}{v:AD}{h':AE}(H:Has fr N l)(E:∀fr,Kk C.P rs (Cy N l fr) h=some v)(he:h=h'):Lr C.P rs v h' .ret fr h:=by
 have:=E fr;rw[EB H]at this;exact⟨.inl rfl,this,he⟩
theorem Qu{rs:List ResultVar}{v:AD}{h':AE}(H:Has fr N l)(E:∀fr,Kk C.P rs (Cy N l fr) h=some v)(he:h=h'):Lr C.P rs v h' .normal fr h:=by
 have:=E fr;rw[EB H]at this;exact⟨.inr rfl,this,he⟩
theorem PK{args:List AD}{v:AD}{h':AE}(G:C.kind f=1)(M:JX C g h f args v h'):Bw C g h f args v h':=by
 obtain⟨n,R⟩:=M;refine⟨n+1,?_⟩;show HT C (CV C n) g h f args=_;unfold HT;rw[G];exact R
theorem XU{args:List AD}{v:AD}{h':AE}(G:C.kind f=2)(hv:MX v=true)(M:JX C ⟨h.size,[]⟩ h f args v h'):Bw C g h f args v h:=by
 obtain⟨n,R⟩:=M;refine⟨n+1,?_⟩;show HT C (CV C n) g h f args=_;unfold HT;rw[G];simp only[R,hv,xr]
theorem closed{args:List AD}{v:AD}(n:Nat)(M:(Gk C (CV C n) g h f args).map (·.1)=some v):∃h',JX C g h f args v h':=by
 cases D:Gk C (CV C n) g h f args with
 |none=>rw[D]at M;cases M
 |some x=>
  rw[D]at M;simp only[q8,qU]at M;exact⟨x.2,n,by rw[D,<-M]⟩
theorem WT{args:List AD}{v:AD}(G:C.kind f=2)(hv:MX v=true)(M:∃h',JX C ⟨h.size,[]⟩ h f args v h'):Bw C g h f args v h:=by
 obtain⟨h',M⟩:=M;exact XU G hv M
end
theorem SD{α β:Type}{a c:α}{b d:β}(h:some (a,b)=some (c,d)):a=c/\b=d:=by injection h with h;injection h with h1 F;exact⟨h1,F⟩
def KQ:List Nat->Nat->Nat
 |[],_=>0
 |a::_,0=>a
 |_::l,i+1=>KQ l i
def LG:List ((Nat×Nat)×List (Nat×List Nat))->Nat->Nat->List (Nat×List Nat)
 |[],_,_=>[]
 |((a,b),p)::l,f,id=>bif Nat.beq a f&&Nat.beq b id then p else LG l f id
def N3(C:Gf):Nat->Bool
 |0=>true
 | n+1=>N3 C n&&(bif Nat.beq (C.kind n) 0 then true else
   match C.P.funcs[n]? with
   |some fn=> !(fn.name=="runtime.NumGoroutine")&&(match fn.body with|some c=>codeOk C n c|none=>true)
   |none=>true)
theorem LD:∀{l:List Nat} {i:Nat},l.length<=i->KQ l i=0
 |[],_,_=>rfl
 |_::l,0,h=>by simp at h
 |_::l,i+1,h=>LD (l:=l) (by simpa using h)
theorem MG {C:Gf}:∀{n:Nat},N3 C n=true->∀{f:Nat},f<n->C.kind f≠0->∀{fn:Func} {c:Code},C.P.funcs[f]?=some fn->fn.body=some c->(fn.name=="runtime.NumGoroutine")=false/\codeOk C f c=true
 |0,_,f,V,_,_,_,_,_=>by omega
 | n+1,h,f,V,G,fn,c,h1,F=>by
  simp only[N3,xa]at h;by_cases e:f=n
  ·subst e;have Z:=h.2;have:Nat.beq (C.kind f) 0=false:=by
    cases M:Nat.beq (C.kind f) 0 with
    |false=>rfl
    |true=>exact absurd (xu M) G
   rw[this]at Z;simp only[xB,h1,F,xa,xj]at Z;exact Z
  ·exact MG h.1 (by omega) G h1 F
theorem T6{C:Gf}{ks:List Nat}(G:C.kind=KQ ks)(hmix:C.P.follows .mixedOrders=true)(hall:N3 C ks.length=true)(Z:ks.all (λk=> !Nat.beq k 3)=true):Ie C:=by
 refine⟨hmix,λf fn c hkf h1 F=>?_,λf V=>?_⟩
 ·have hne:C.kind f≠0:=by omega
  refine MG hall ?_ hne h1 F;rcases xk f ks.length with h|h
  ·exact h
  ·rw[G,LD h]at hne;exact absurd rfl hne
 ·exfalso;rw[G]at V;have key:∀(l:List Nat) (i:Nat),l.all (λk=> !Nat.beq k 3)=true->KQ l i≠3:=by
   intro l
   induction l with
   |nil=>intro i _ h;simp[KQ]at h
   |cons a l ih=>
    intro i h;simp only[List.all_cons,xa,xj]at h;cases i with
    |zero=>intro e;simp only[KQ]at e;rw[e]at h;simp at h
    |succ i=>exact ih i h.2
  exact key ks f Z V
end Go.Abs
