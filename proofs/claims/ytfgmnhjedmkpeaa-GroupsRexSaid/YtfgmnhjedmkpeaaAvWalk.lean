/-
 A part.
-/
import Derived.Test.YtfgmnhjedmkpeaaAvStep2
set_option linter.unusedSimpArgs false
namespace Go.Av
set_option linter.unusedSimpArgs false
set_option linter.unusedVariables false
def Hm:Nat->Nat->List (Nat×List Nat)
 |_,0=>[]
 |i,k+1=>(i,[])::Hm (i+1) k
@[simp] theorem HQ (tch:List (Nat×Nat)):FQ tch []=[]:=by
 unfold FQ;rw[List.filterMap_eq_nil_iff];intro a _;rfl
section
variable {C:Gf} {S:Self} {g:Gd} {ops:Array Oper}
theorem HU:∀(k i:Nat) (tch:List (Nat×Nat)) (fr:Fr) (h:AE),i+k=ops.size->Bl C S g ops (Hm i k) tch fr h=EF C S g ops (ops.toList.drop i) fr h
 |0,i,tch,fr,h,e=>by
  have:ops.toList.drop i=[]:=qc (by rw[yv];omega);rw[this];rfl
 | k+1,i,tch,fr,h,e=>by
  have hi:i<ops.size:=by omega
  have hl:i<ops.toList.length:=by rw[yv];exact hi
  rw[zY hl,Hm,Bl,EF,Array.getElem?_eq_getElem hi];simp only[Array.getElem_toList];cases Bp ops fr ops[i]with
  |none=>rfl
  | some b=>
   cases b with
   |false=>exact HU k (i+1) _ _ _ (by omega)
   |true=>
    simp only[HQ,z8];cases BI C S g h fr ops[i].op with
    |none=>rfl
    |some x=>exact HU k (i+1) _ _ _ (by omega)
end
def AT(C:Gf)(g:Gd)(ops:Array Oper)(pl:List (Nat×List Nat))(tch:List (Nat×Nat))(fr:Fr)(h:AE)(K:Fr->AE->Prop):Prop:=
 ∃n fr' h',Bl C (CV C n) g ops pl tch fr h=some (fr',h')/\K fr' h'
structure AW(C:Gf)(f:FuncId)(g:Gd)(c:Code)(fr:Fr)(h:AE)(Q:DF->Fr->AE->Prop):Prop where
 ex:∃n e fr' h',BF C (CV C n) f g c fr h=some (e,fr',h')/\Q e fr' h'
def JX(C:Gf)(g:Gd)(h:AE)(f:FuncId)(args:List AD)(v:AD)(h':AE):Prop:=∃n,Gk C (CV C n) g h f args=some (v,h')
def Bw(C:Gf)(g:Gd)(h:AE)(f:FuncId)(args:List AD)(v:AD)(h':AE):Prop:=∃n,(CV C n).call g h f args=some (v,h')
section
variable {C:Gf} {f:FuncId} {g:Gd} {ops:Array Oper} {pl:List (Nat×List Nat)} {tch:List (Nat×Nat)} {fr:Fr} {h h1:AE} {K:Fr->AE->Prop} {N:Nat} {l:List (Nat×AD)} {i:Nat} {U:List Nat}
theorem AY(h0:K fr h):AT C g ops [] tch fr h K:=⟨0,fr,h,rfl,h0⟩
theorem Nj{S:Nat}{pl':List (Nat×List Nat)}{tch':List (Nat×Nat)}{fr1:Fr}{h1:AE}(L:AT C g ops pl tch fr1 h1 K)
  (D:∀n x,S<=n->Bl C (CV C n) g ops pl tch fr1 h1=some x->Bl C (CV C n) g ops pl' tch' fr h=some x):AT C g ops pl' tch' fr h K:=by
 obtain⟨n,fr',h',r1,r2⟩:=L;exact⟨max S n,fr',h',D _ _ (yH _ _) (EG (ED C (yF _ _)) r1),r2⟩
def Steps(C:Gf)(g:Gd)(h:AE)(fr:Fr)(op:Op)(v:AD)(h1:AE):Prop:=∃n,BI C (CV C n) g h fr op=some (v,h1)
theorem Steps.of{op:Op}{v:AD}(B:BI C (CV C 0) g h fr op=some (v,h1)):Steps C g h fr op v h1:=⟨0,B⟩
theorem Steps.call{op:Op}{v:AD}{f':FuncId}{args:List AD}(B:J1 fr op=some (f',args))(E:Bw C g h f' args v h1):Steps C g h fr op v h1:=by
 obtain⟨n,T⟩:=E;exact⟨n,R7 B T⟩
theorem Hk{v:AD}{U:List Nat}(hw:runs ops fr i=true)(B:Steps C ⟨g.floor,FQ tch U++g.Bs⟩ h fr (Mi ops i) v h1)(M:Ow C ops U (put fr (Gw ops i) v) h1=true)(T:AT C g ops pl (EE C.P h fr i (Mi ops i) tch) (put fr (Gw ops i) v) h1 K):
  AT C g ops ((i,U)::pl) tch fr h K:=by
 obtain⟨m,hm⟩:=B;refine Nj (S:=m) T λn x hle D=>?_;have R:=GX (ED C hle) hm;unfold runs at hw;unfold Mi at R D;unfold Gw at D M;rw[Bl];cases V:ops[i]? with
 |none=>rw[V]at hw;cases hw
 | some o=>
  rw[V]at hw R D M;simp only at hw R D M⊢;cases X:Bp ops fr o with
  |none=>rw[X]at hw;cases hw
  |some b=>
   rw[X]at hw;simp only at hw;subst hw;simp only[R,M,z0];exact D
theorem Nx(hw:Ol ops fr i=true)(T:AT C g ops pl tch (put fr (Gw ops i) (.tuple [])) h K):AT C g ops ((i,U)::pl) tch fr h K:=by
 refine Nj (S:=0) T λn x hle D=>?_;unfold Ol at hw;unfold Gw at D;rw[Bl];cases V:ops[i]? with
 |none=>rw[V]at hw;cases hw
 | some o=>
  rw[V]at hw D;simp only at hw D⊢;cases X:Bp ops fr o with
  |none=>rw[X]at hw;cases hw
  |some b=>
   rw[X]at hw;simp only[zu]at hw;subst hw;exact D
def Te(ops:Array Oper)(i:Nat)(fr:Fr)(out:List (Nat×AD)):Bool×List AD:=(Ol ops fr i,out.map λp=>nth (put fr (Gw ops i) (.tuple [])) p.1)
theorem Nf(out:List (Nat×AD))(H:Has fr N l)(hw:∀fr,Te ops i (Cy N l fr) out=(true,out.map (·.2)))(T:∀fr',Has fr' N out->AT C g ops pl tch fr' h K):AT C g ops ((i,U)::pl) tch fr h K:=by
 have e:=EB H;have Y:=hw fr;rw[e]at Y;unfold Te at Y;simp only[ze]at Y;exact Nx Y.1 (T _ (Has.of_map (by simp[H.1]) Y.2))
def Fk(P:Program)(ops:Array Oper):List Nat->Fr->Option Fr
 |[],fr=>some fr
 | i::r,fr=>
  match ops[i]? with
  |none=>none
  |some o=>
   match Bp ops fr o with
   |some true=>(match Uc P fr o.op with|some v=>Fk P ops r (put fr o.dst v)|none=>none)
   |some false=>Fk P ops r (put fr o.dst (.tuple []))
   |none=>none
def EM:List (Nat×List Nat)->List Nat
 |[]=>[]
 |(i,_)::r=>i::EM r
theorem OZ{P:Program}{fr:Fr}{op:Op}{v:AD}(h:Uc P fr op=some v):As P op=0:=by
 unfold Uc at h;split at h
 ·assumption
 ·cases h
theorem KJ:∀(sg pl:List (Nat×List Nat)) (fr fr1:Fr),(∀x∈sg,x.2=[])->Fk C.P ops (EM sg) fr=some fr1->AT C g ops pl tch fr1 h K->AT C g ops (sg++pl) tch fr h K
 |[],pl,fr,fr1,_,B,T=>by
  simp only[EM,Fk,zd]at B;subst B;exact T
 | (i,U)::sg,pl,fr,fr1,hU,B,T=>by
  have hU0:U=[]:=hU (i,U) (by simp);subst hU0;have ih:=λfr2 D=>KJ sg pl fr2 fr1 (λx D=>hU x (by simp[D])) D T;simp only[EM,Fk]at B;split at B
  ·cases B
  ·rename_i o V;split at B
   ·rename_i hw;split at B
    ·rename_i v hv;have e1:Mi ops i=o.op:=by simp[Mi,V]
     have e2:Gw ops i=o.dst:=by simp[Gw,V]
     refine Hk (v:=v) (h1:=h) (by simp[runs,V,hw]) (.of (by rw[e1];exact YD hv)) rfl ?_;rw[e1,e2];have:EE C.P h fr i o.op tch=tch:=by unfold EE;rw[OZ hv];rfl
     rw[this];exact ih _ B
    ·cases B
   ·rename_i hw;have e2:Gw ops i=o.dst:=by simp[Gw,V]
    refine Nx (by simp[Ol,V,hw]) ?_;rw[e2];exact ih _ B
   ·cases B
theorem FI{P:Program}:∀(l:List Nat) (fr fr':Fr),Fk P ops l fr=some fr'->fr'.length=fr.length
 |[],fr,fr',h=>by simp only[Fk,zd]at h;rw[h]
 | i::l,fr,fr',h=>by
  simp only[Fk]at h;split at h
  ·cases h
  ·split at h
   ·split at h
    ·rw[FI l _ _ h];simp
    ·cases h
   ·rw[FI l _ _ h];simp
   ·cases h
theorem J7(sg:List (Nat×List Nat))(out:List (Nat×AD))(H:Has fr N l)(hU:∀x∈sg,x.2=[])
  (J:∀fr,(Fk C.P ops (EM sg) (Cy N l fr)).map (λx=>out.map (λp=>nth x p.1))=some (out.map (·.2)))
  (T:∀fr',Has fr' N out->AT C g ops pl tch fr' h K):AT C g ops (sg++pl) tch fr h K:=by
 have W:=J fr;rw[EB H]at W;cases E:Fk C.P ops (EM sg) fr with
 |none=>rw[E]at W;cases W
 |some fr1=>
  rw[E]at W;simp only[zf,zd]at W;exact KJ sg pl fr fr1 hU E (T fr1 (Has.of_map ((FI _ _ _ E).trans H.1) W))
def PO:List (Nat×List Nat)->Bool
 |[]=>true
 |(_,U)::r=>U.isEmpty&&PO r
theorem F7:∀{sg:List (Nat×List Nat)},PO sg=true->∀x∈sg,x.2=[]
 |[],_,x,D=>by cases D
 |(i,U)::r,h,x,D=>by
  simp only[PO,zg,List.isEmpty_iff]at h;cases D with
  |head=>exact h.1
  |tail _ D=>exact F7 h.2 x D
theorem FZ{n:Nat}{b:List (Nat×List Nat)}:∀(a:List (Nat×List Nat)) (tch:List (Nat×Nat)) (fr fr1:Fr) (h h1:AE),Bl C (CV C n) g ops a tch fr h=some (fr1,h1)->
  ∃tch',∀m,n<=m->Bl C (CV C m) g ops (a++b) tch fr h=Bl C (CV C m) g ops b tch' fr1 h1
 |[],tch,fr,fr1,h,h1,E=>by
  simp only[Bl,zd,ze]at E;obtain⟨rfl,rfl⟩:=E;exact⟨tch,λ_ _=>rfl⟩
 | (i,U)::a,tch,fr,fr1,h,h1,E=>by
  rw[Bl]at E;split at E
  ·cases E
  ·rename_i o V;split at E
   ·rename_i hw;split at E
    ·rename_i v h' B;have M:Ow C ops U (put fr o.dst v) h'=true:=by
      cases M:Ow C ops U (put fr o.dst v) h' with
      |false=>rw[M]at E;cases E
      |true=>rfl
     rw[M]at E;simp only[z0]at E;obtain⟨t,ht⟩:=FZ a _ _ _ _ _ E;refine⟨t,λm hm=>?_⟩;rw[yP,Bl,V];simp only[hw,GX (ED C hm) B,M,z0];exact ht m hm
    ·cases E
   ·rename_i hw;obtain⟨t,ht⟩:=FZ a _ _ _ _ _ E;refine⟨t,λm hm=>?_⟩;rw[yP,Bl,V];simp only[hw];exact ht m hm
   ·cases E
theorem OR(sg:List (Nat×List Nat))(I:Fr->AE->Prop)(h1:AT C g ops sg tch fr h I)(F:∀t fr h,I fr h->AT C g ops pl t fr h K):AT C g ops (sg++pl) tch fr h K:=by
 obtain⟨n,fr1,h1',r1,r2⟩:=h1;obtain⟨t0,ht0⟩:=FZ (b:=pl) sg tch fr fr1 h h1' r1;obtain⟨m,fr2,h2',r3,r4⟩:=F t0 _ _ r2;refine⟨max n m,fr2,h2',?_,r4⟩;rw[ht0 _ (yH _ _)];exact EG (ED C (yF _ _)) r3
def MA(next:Fr->AE->Prop)(Q:DF->Fr->AE->Prop):DF->Fr->AE->Prop
 | .normal,fr,h=>next fr h
 |e,fr,h=>Q e fr h
def Tp(id:Nat)(Q:DF->Fr->AE->Prop):DF->Fr->AE->Prop
 | .exit i,fr,h=>bif Nat.beq i id then Q .normal fr h else Q (.exit i) fr h
 |e,fr,h=>Q e fr h
variable {Q:DF->Fr->AE->Prop} {a b c c':Code}
def left:Code->Code
 | .seq a _=>a
 | .cond _ a _=>a
 | .block _ c=>c
 | .loop c=>c
 | .scope c=>c
 | .rangeFunc _ _ a _=>a
 |c=>c
def right:Code->Code
 | .seq _ b=>b
 | .cond _ _ b=>b
 | .rangeFunc _ _ _ b=>b
 |c=>c
def opsOf:Code->Array Oper
 | .region _ ops _=>ops
 |_=>#[]
inductive Sh where
 |skip|region (id n:Nat) (draw:Bool)|seq|cond (x:Operand)|block (id:Nat)|loop|exit (id:Nat)|scope|label|ret|range (x:Operand) (ps:List Tmp)|other
def shape:Code->Sh
 | .skip=>.skip
 | .region id ops draw=>.region id ops.size draw
 | .seq _ _=>.seq
 | .cond x _ _=>.cond x
 | .block id _=>.block id
 | .loop _=>.loop
 | .exit id=>.exit id
 | .scope _=>.scope
 | .rangeFunc x ps _ _=>.range x ps.toList
 | .label _=>.label
 | .ret=>.ret
 |_=>.other
theorem BB{Q':DF->Fr->AE->Prop}(L:AW C f g c fr h Q')(G:∀e fr h,Q' e fr h->Q e fr h):AW C f g c fr h Q:=by
 obtain⟨n,e,fr',h',h1,F⟩:=(L).ex;exact⟨⟨n,e,fr',h',h1,G _ _ _ F⟩⟩
theorem BM(B:shape c=.seq)(L:AW C f g (left c) fr h (MA (λfr h=>AW C f g (right c) fr h Q) Q)):AW C f g c fr h Q:=by
 cases c<;>simp[shape]at B;simp only[left,right]at L;obtain⟨n,e,fr1,h1,D,G⟩:=(L).ex;cases e with
 |normal=>
  obtain⟨m,e2,fr2,F,hx2,hq2⟩:=G.ex;refine⟨⟨max n m,e2,fr2,F,?_,hq2⟩⟩;simp only[BF,Dl (ED C (yH n m)) D,Dl (ED C (yF n m)) hx2]
 |exit id=>exact⟨⟨n,_,_,_,by simp only[BF,D],G⟩⟩
 |ret=>exact⟨⟨n,_,_,_,by simp only[BF,D],G⟩⟩
theorem BS{id n:Nat}(pl:List (Nat×List Nat))(B:shape c=.region id n false)(hp:Hm 0 n=pl)(L:AT C g (opsOf c) pl [] fr h (λfr' h'=>Q .normal fr' h')):AW C f g c fr h Q:=by
 cases c<;>simp[shape]at B;obtain⟨rfl,rfl,rfl⟩:=B;obtain⟨n,fr',h',E,G⟩:=L;subst hp;simp only[opsOf]at E;rw[HU _ _ _ _ _ (by omega),yw]at E;exact⟨⟨n,.normal,fr',h',by simp only[BF,yh,E],G⟩⟩
theorem NP{id n:Nat}(B:shape c=.region id n true)(pl:List (Nat×List Nat))(hp:C.Ky f id=pl)(L:AT C g (opsOf c) pl [] fr h (λfr' h'=>Q .normal fr' h')):AW C f g c fr h Q:=by
 cases c<;>simp[shape]at B;obtain⟨rfl,rfl,rfl⟩:=B;obtain⟨n,fr',h',E,G⟩:=L;simp only[opsOf]at E;exact⟨⟨n,.normal,fr',h',by simp only[BF,z0,hp,E],G⟩⟩
theorem Eg(B:shape c=.skip)(G:Q .normal fr h):AW C f g c fr h Q:=by cases c<;>simp[shape]at B;exact⟨⟨0,_,_,_,rfl,G⟩⟩
theorem T3(B:shape c=.label)(G:Q .normal fr h):AW C f g c fr h Q:=by cases c<;>simp[shape]at B;exact⟨⟨0,_,_,_,rfl,G⟩⟩
theorem Bx{i:Nat}(B:shape c=.exit i)(G:Q (.exit i) fr h):AW C f g c fr h Q:=by cases c<;>simp[shape]at B;subst B;exact⟨⟨0,_,_,_,rfl,G⟩⟩
theorem Kh(B:shape c=.ret)(G:Q .ret fr h):AW C f g c fr h Q:=by cases c<;>simp[shape]at B;exact⟨⟨0,_,_,_,rfl,G⟩⟩
theorem Dg{x:Operand}(B:shape c=.cond x)(H:Has fr N l)(D:∀fr,ev (Cy N l fr) x=.bool true)(L:AW C f g (left c) fr h Q):AW C f g c fr h Q:=by
 cases c<;>simp[shape]at B;subst B;have:=D fr;rw[EB H]at this;obtain⟨n,e,fr',h',h1,F⟩:=(L).ex;exact⟨⟨n,e,fr',h',by simp only[BF,this];exact h1,F⟩⟩
theorem Cv{x:Operand}(B:shape c=.cond x)(H:Has fr N l)(D:∀fr,ev (Cy N l fr) x=.bool false)(L:AW C f g (right c) fr h Q):AW C f g c fr h Q:=by
 cases c<;>simp[shape]at B;subst B;have:=D fr;rw[EB H]at this;obtain⟨n,e,fr',h',h1,F⟩:=(L).ex;exact⟨⟨n,e,fr',h',by simp only[BF,this];exact h1,F⟩⟩
theorem Am{id:Nat}(B:shape c=.block id)(L:AW C f g (left c) fr h (Tp id Q)):AW C f g c fr h Q:=by
 cases c<;>simp[shape]at B;subst B;simp only[left]at L;obtain⟨n,e,fr',h',h1,F⟩:=(L).ex;cases e with
 |normal=>exact⟨⟨n,_,_,_,by simp only[BF,h1],F⟩⟩
 |ret=>exact⟨⟨n,_,_,_,by simp only[BF,h1],F⟩⟩
 |exit i=>
  rename_i id _;simp only[Tp]at F;cases O:Nat.beq i id with
  |true=>rw[O]at F;exact⟨⟨n,.normal,fr',h',by simp only[BF,h1,O,z0],F⟩⟩
  |false=>rw[O]at F;exact⟨⟨n,.exit i,fr',h',by simp only[BF,h1,O,yh],F⟩⟩
theorem Tl(B:shape c=.scope)(L:AW C f g (left c) fr h Q):AW C f g c fr h Q:=by
 cases c<;>simp[shape]at B;simp only[left]at L;obtain⟨n,e,fr',h',h1,F⟩:=(L).ex;exact⟨⟨n,e,fr',h',by simp only[BF];exact h1,F⟩⟩
theorem CR{σ ρ:Type}{step:σ->Option (σ⊕ρ)}{s:σ}{r:ρ}(B:shape c=.loop)(I:σ->Fr->AE->Prop)(hl:loop step s=some r)(h0:I s fr h)
  (E:∀s o fr h,I s fr h->step s=some o->AW C f g (left c) fr h (MA (λfr' h'=>∃s',o=.inl s'/\I s' fr' h') (λe fr' h'=>∃r',o=.inr r'/\(r'=r->Q e fr' h')))):AW C f g c fr h Q:=by
 cases c<;>simp[shape]at B;rename_i c;simp only[left]at E;obtain⟨k,J⟩:=Mb hl;have key:∀k s fr h,I s fr h->Fu step k s=some r->AW C f g (.loop c) fr h Q:=by
  intro k
  induction k with
  |zero=>intro s fr h _ J;cases J
  | succ k ih=>
   intro s fr h hi J;unfold Fu at J;cases R:step s with
   |none=>rw[R]at J;cases J
   | some o=>
    rw[R]at J;obtain⟨n,e,fr1,h1,D,G⟩:=(E s o fr h hi R).ex;cases e with
    |normal=>
     obtain⟨s',rfl,hI⟩:=G;obtain⟨m,e2,fr2,F,hx2,hq2⟩:=(ih s' fr1 h1 hI J).ex;refine⟨⟨max n m+1,e2,fr2,F,?_,hq2⟩⟩;have e1:=Dl (ED C (yu (yH n m) (Nat.le_succ _))) D;have e2':=Dl (ED C (yF n m)) hx2;rw[BF,e1];exact e2'
    |exit i=>
     obtain⟨r',rfl,hQ⟩:=G;injection J with J;exact⟨⟨n,_,_,_,by simp only[BF,D],hQ J⟩⟩
    |ret=>
     obtain⟨r',rfl,hQ⟩:=G;injection J with J;exact⟨⟨n,_,_,_,by simp only[BF,D],hQ J⟩⟩
 exact key k s fr h h0 J
def Hp(P:Program)(f:FuncId):Code:=
 match P.funcs[f]? with
 |some fn=>(match fn.body with|some c=>c|none=>.skip)
 |none=>.skip
def IF(P:Program)(f:FuncId):Option (Nat×List ResultVar):=
 match P.funcs[f]? with
 |some fn=>(match fn.body with|some _=>some (fn.ntmps,fn.results.toList)|none=>none)
 |none=>none
def Kk(P:Program)(rs:List ResultVar)(fr:Fr)(h:AE):Option AD:=
 match rs.mapM (Fb P fr h)with
 |some [v]=>some v
 |some vs=>some (.tuple vs)
 |none=>none
structure Lr(P:Program)(rs:List ResultVar)(v:AD)(h':AE)(e:DF)(fr:Fr)(h:AE):Prop where
 no:e=.ret\/e=.normal
 res:Kk P rs fr h=some v
 heap:h=h'
theorem KU{args:List AD}{v:AD}{h':AE}{n:Nat}{rs:List ResultVar}(Z:IF C.P f=some (n,rs))
  (L:AW C f g (Hp C.P f) (args++List.replicate (n - args.length) (.tuple [])) h (Lr C.P rs v h')):JX C g h f args v h':=by
 obtain⟨m,e,fr',F,D,G⟩:=(L).ex;unfold IF at Z;unfold Hp at D;refine⟨m,?_⟩;unfold Gk;split at Z
 ·rename_i fn hfn;split at Z
  ·rename_i c hc;simp only[zd,ze]at Z;obtain⟨rfl,rfl⟩:=Z;simp only[hfn,hc]at D⊢;cases e with
   |normal=>obtain⟨_,h3,rfl⟩:=G;rw[D];simp only;rw[show FY C.P fn fr' F=some v from h3];rfl
   |ret=>obtain⟨_,h3,rfl⟩:=G;rw[D];simp only;rw[show FY C.P fn fr' F=some v from h3];rfl
   |exit i=>rcases G.no with h|h<;>cases h
  ·cases Z
 ·cases Z
theorem start{args:List AD}{n:Nat}(ins:List (Nat×AD))(hl:(args++List.replicate (n - args.length) (AD.tuple [])).length=n)(hi:ins.map (λp=>nth (args++List.replicate (n - args.length) (AD.tuple [])) p.1)=ins.map (·.2))
  (L:∀fr,Has fr n ins->AW C f g c fr h Q):AW C f g c (args++List.replicate (n - args.length) (.tuple [])) h Q:=L _ (Has.of_map hl hi)
theorem PK{args args':List AD}{v:AD}{h':AE}(J:C.kind f=1)(hc:CB (C.still f) args=args')(O:JX C g h f args' v h'):Bw C g h f args v h':=by
 obtain⟨n,T⟩:=O;refine⟨n+1,?_⟩;show HT C (CV C n) g h f args=_;unfold HT;rw[J];simp only[hc];exact T
theorem XO{args args':List AD}{u v:AD}{h1 h':AE}(J:C.kind f=7)(hc:CB (C.still f) args=args')(O:JX C g h f args' u h1)(Z:Pd g h1 u=some (v,h')):Bw C g h f args v h':=by
 obtain⟨n,T⟩:=O;refine⟨n+1,?_⟩;show HT C (CV C n) g h f args=_;unfold HT;rw[J];simp only[hc,T];exact Z
theorem closed{args:List AD}{v:AD}(n:Nat)(O:(Gk C (CV C n) g h f args).map (·.1)=some v):∃h',JX C g h f args v h':=by
 cases D:Gk C (CV C n) g h f args with
 |none=>rw[D]at O;cases O
 |some x=>
  rw[D]at O;simp only[zf,zd]at O;exact⟨x.2,n,by rw[D,<-O]⟩
end
def KQ:List Nat->Nat->Nat
 |[],_=>0
 |a::_,0=>a
 |_::l,i+1=>KQ l i
def LG:List ((Nat×Nat)×List (Nat×List Nat))->Nat->Nat->List (Nat×List Nat)
 |[],_,_=>[]
 |((a,b),p)::l,f,id=>bif Nat.beq a f&&Nat.beq b id then p else LG l f id
def N3(C:Gf):Nat->Bool
 |0=>true
 | n+1=>N3 C n&&(bif Nat.beq (C.kind n) 0||Nat.beq (C.kind n) 3 then true else
   match C.P.funcs[n]? with
   |some fn=> !(fn.name=="runtime.NumGoroutine")&&(match fn.body with|some c=>codeOk C n c|none=>true)
   |none=>true)
theorem LD:∀{l:List Nat} {i:Nat},l.length<=i->KQ l i=0
 |[],_,_=>rfl
 |_::l,0,h=>by simp at h
 |_::l,i+1,h=>LD (l:=l) (by simpa using h)
theorem MG {C:Gf}:∀{n:Nat},N3 C n=true->∀{f:Nat},f<n->C.kind f≠0->C.kind f≠3->∀{fn:Func} {c:Code},C.P.funcs[f]?=some fn->fn.body=some c->(fn.name=="runtime.NumGoroutine")=false/\codeOk C f c=true
 |0,_,f,Z,_,_,_,_,_,_=>by omega
 | n+1,h,f,Z,J,hk3,fn,c,h1,F=>by
  simp only[N3,zg]at h;by_cases e:f=n
  ·subst e;have h3:=h.2;have:Nat.beq (C.kind f) 0=false:=by
    cases O:Nat.beq (C.kind f) 0 with
    |false=>rfl
    |true=>exact absurd (zE O) J
   have this3:Nat.beq (C.kind f) 3=false:=by
    cases O:Nat.beq (C.kind f) 3 with
    |false=>rfl
    |true=>exact absurd (zE O) hk3
   rw[this,this3]at h3;simp only[Bool.or_false,yh,h1,F,zg,zu]at h3;exact h3
  ·exact MG h.1 (by omega) J hk3 h1 F
def Ve(P:Program)(Ky:Nat->Nat->List (Nat×List Nat)):Gf:=⟨P,λ_=>0,Ky,λ_ _ _ _=>none,λ_=>none,λ_ _ _=>false,λ_=>[]⟩
def Uu(P:Program)(Ky:Nat->Nat->List (Nat×List Nat))(f:FuncId)(a b:Code):Bool:=codeOk (Ve P Ky) f a&&codeOk (Ve P Ky) f b&&(Jl a&&Jl b)
theorem Oc{C C':Gf}(h1:C.P=C'.P)(F:C.Ky=C'.Ky)(f:FuncId):∀c,codeOk C f c=codeOk C' f c:=by
 intro c
 induction c<;>simp_all[codeOk]
end Go.Av
