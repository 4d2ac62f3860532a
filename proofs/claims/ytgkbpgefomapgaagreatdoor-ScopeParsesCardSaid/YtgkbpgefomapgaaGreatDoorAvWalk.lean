/-
 A part.
-/
import Derived.Test.YtgkbpgefomapgaaGreatDoorAvStep2
namespace Go.Av
set_option linter.unusedSimpArgs false
set_option linter.unusedVariables false
def Jq:Nat->Nat->List (Nat×List Nat)
 |_,0=>[]
 |i,k+1=>(i,[])::Jq (i+1) k
@[simp] theorem KX (tch:List (Nat×Nat)):Je tch []=[]:=by
 unfold Je;rw[List.filterMap_eq_nil_iff];intro a _;rfl
section
variable {C:J8} {S:Self} {g:Gd} {ops:Array Oper}
theorem MM:∀(k i:Nat) (tch:List (Nat×Nat)) (fr:Fr) (h:AS),i+k=ops.size->Dx C S g ops (Jq i k) tch fr h=Ia C S g ops (ops.toList.drop i) fr h
 |0,i,tch,fr,h,e=>by
  have:ops.toList.drop i=[]:=qg (by rw[yv];omega);rw[this];rfl
 | k+1,i,tch,fr,h,e=>by
  have hi:i<ops.size:=by omega
  have X:i<ops.toList.length:=by rw[yv];exact hi
  rw[zE X,Jq,Dx,Ia,Array.getElem?_eq_getElem hi];simp only[Array.getElem_toList];cases Dm ops fr ops[i]with
  |none=>rfl
  | some b=>
   cases b with
   |false=>exact MM k (i+1) _ _ _ (by omega)
   |true=>
    simp only[KX,ye];cases CC C S g h fr ops[i].op with
    |none=>rfl
    |some x=>exact MM k (i+1) _ _ _ (by omega)
end
def AT(C:J8)(g:Gd)(ops:Array Oper)(pl:List (Nat×List Nat))(tch:List (Nat×Nat))(fr:Fr)(h:AS)(K:Fr->AS->Prop):Prop:=
 ∃n fr' h',Dx C (FE C n) g ops pl tch fr h=some (fr',h')/\K fr' h'
structure AW(C:J8)(f:FuncId)(g:Gd)(c:Code)(fr:Fr)(h:AS)(Q:HV->Fr->AS->Prop):Prop where
 ex:∃n e fr' h',CV C (FE C n) f g c fr h=some (e,fr',h')/\Q e fr' h'
def O6(C:J8)(g:Gd)(h:AS)(f:FuncId)(args:List AE)(v:AE)(h':AS):Prop:=∃n,L8 C (FE C n) g h f args=some (v,h')
def Bm(C:J8)(g:Gd)(h:AS)(f:FuncId)(args:List AE)(v:AE)(h':AS):Prop:=∃n,(FE C n).call g h f args=some (v,h')
section
variable {C:J8} {f:FuncId} {g:Gd} {ops:Array Oper} {pl:List (Nat×List Nat)} {tch:List (Nat×Nat)} {fr:Fr} {h h1:AS} {K:Fr->AS->Prop} {N:Nat} {l:List (Nat×AE)} {i:Nat} {U:List Nat}
theorem Aj(h0:K fr h):AT C g ops [] tch fr h K:=⟨0,fr,h,rfl,h0⟩
theorem Vw{S:Nat}{pl':List (Nat×List Nat)}{tch':List (Nat×Nat)}{fr1:Fr}{h1:AS}(J:AT C g ops pl tch fr1 h1 K)
  (D:∀n x,S<=n->Dx C (FE C n) g ops pl tch fr1 h1=some x->Dx C (FE C n) g ops pl' tch' fr h=some x):AT C g ops pl' tch' fr h K:=by
 obtain⟨n,fr',h',r1,r2⟩:=J;exact⟨max S n,fr',h',D _ _ (yI _ _) (Iw (H3 C (yC _ _)) r1),r2⟩
def Steps(C:J8)(g:Gd)(h:AS)(fr:Fr)(op:Op)(v:AE)(h1:AS):Prop:=∃n,CC C (FE C n) g h fr op=some (v,h1)
theorem Steps.of{op:Op}{v:AE}(B:CC C (FE C 0) g h fr op=some (v,h1)):Steps C g h fr op v h1:=⟨0,B⟩
theorem Steps.call{op:Op}{v:AE}{f':FuncId}{args:List AE}(B:Ni fr op=some (f',args))(E:Bm C g h f' args v h1):Steps C g h fr op v h1:=by
 obtain⟨n,O⟩:=E;exact⟨n,Zp B O⟩
theorem KN{v:AE}{U:List Nat}(hw:runs ops fr i=true)(B:Steps C ⟨g.floor,Je tch U++g.Bb⟩ h fr (Pr ops i) v h1)(hre:Mr C ops U (put fr (I8 ops i) v) h1=true)(O:AT C g ops pl (H9 C.P h fr i (Pr ops i) tch) (put fr (I8 ops i) v) h1 K):
  AT C g ops ((i,U)::pl) tch fr h K:=by
 obtain⟨m,hm⟩:=B;refine Vw (S:=m) O λn x hle D=>?_;have R:=L3 (H3 C hle) hm;unfold runs at hw;unfold Pr at R D;unfold I8 at D hre;rw[Dx];cases T:ops[i]? with
 |none=>rw[T]at hw;cases hw
 | some o=>
  rw[T]at hw R D hre;simp only at hw R D hre⊢;cases Z:Dm ops fr o with
  |none=>rw[Z]at hw;cases hw
  |some b=>
   rw[Z]at hw;simp only at hw;subst hw;simp only[R,hre,zY];exact D
theorem TU(hw:Vs ops fr i=true)(O:AT C g ops pl tch (put fr (I8 ops i) (.tuple [])) h K):AT C g ops ((i,U)::pl) tch fr h K:=by
 refine Vw (S:=0) O λn x hle D=>?_;unfold Vs at hw;unfold I8 at D;rw[Dx];cases T:ops[i]? with
 |none=>rw[T]at hw;cases hw
 | some o=>
  rw[T]at hw D;simp only at hw D⊢;cases Z:Dm ops fr o with
  |none=>rw[Z]at hw;cases hw
  |some b=>
   rw[Z]at hw;simp only[zK]at hw;subst hw;exact D
def XB(ops:Array Oper)(i:Nat)(fr:Fr)(out:List (Nat×AE)):Bool×List AE:=(Vs ops fr i,out.map λp=>nth (put fr (I8 ops i) (.tuple [])) p.1)
def ab(C:J8)(ops:Array Oper)(fr:Fr)(i:Nat):Option (Nat×Nat×AE):=
 match ops[i]? with
 | some o=>
  match Dm ops fr o with
  | some true=>
   match o.op,o.dst with
   | .load t a,some d=>
    match ev fr a,Ly C.P t with
    | .ptr (some (id,off)),some false=>bif Nat.blt d fr.length then some (id,off,nth fr d)else none
    |_,_=>none
   |_,_=>none
  |_=>none
 |none=>none
theorem Oo(a b:Nat):R0 (.ptr (some (a,b))) (.ptr (some (a,b)))=true:=by simp[R0]
theorem Xg{i id off:Nat}{x:AE}(B:ab C ops fr i=some (id,off,x))(X:SW h1 (id,off)=some x)(D:R0 x x=true):Rn C ops fr h1 i=true:=by
 unfold ab at B;split at B
 ·rename_i o T;split at B
  ·rename_i hw;split at B
   ·rename_i t a d hop hd;split at B
    ·rename_i id' off' he hag;cases hlt:Nat.blt d fr.length with
     |false=>rw[hlt]at B;cases B
     | true=>
      rw[hlt]at B;simp only[zY,zd,ze]at B;obtain⟨rfl,rfl,rfl⟩:=B;unfold SW at X;split at X
      ·rename_i v hc;injection X with X;have hg:∃ob,h1.get id'=some ob:=by
        cases hg:h1.get id' with
        |none=>rw[hg]at hc;cases hc
        |some ob=>exact⟨ob,rfl⟩
       obtain⟨ob,hg⟩:=hg;rw[hg]at hc;unfold Rn;simp only[T,hw,hd,hop,Es,he,Gb,hlt,hg,MJ,Im,hag,hc,qr];rw[X];exact D
      ·cases X
    ·cases B
   ·cases B
  ·cases B
 ·cases B
theorem WD{U:List Nat}{u:Nat}(h:(Nat.blt u 10000||Rn C ops fr h1 (u - 10000))=true)(E:Mr C ops U fr h1=true):Mr C ops (u::U) fr h1=true:=by
 unfold Mr at E⊢;rw[yF,h,E];rfl
theorem Vc(out:List (Nat×AE))(H:Has fr N l)(hw:∀fr,XB ops i (EO N l fr) out=(true,out.map (·.2)))(O:∀fr',Has fr' N out->AT C g ops pl tch fr' h K):AT C g ops ((i,U)::pl) tch fr h K:=by
 have e:=HU H;have hw':=hw fr;rw[e]at hw';unfold XB at hw';simp only[ze]at hw';exact TU hw'.1 (O _ (Has.of_map (by simp[H.1]) hw'.2))
def Hu(P:Program)(ops:Array Oper):List Nat->Fr->Option Fr
 |[],fr=>some fr
 | i::r,fr=>
  match ops[i]? with
  |none=>none
  |some o=>
   match Dm ops fr o with
   |some true=>(match af P fr o.op with|some v=>Hu P ops r (put fr o.dst v)|none=>none)
   |some false=>Hu P ops r (put fr o.dst (.tuple []))
   |none=>none
def Fb:List (Nat×List Nat)->List Nat
 |[]=>[]
 |(i,_)::r=>i::Fb r
theorem WR{P:Program}{fr:Fr}{op:Op}{v:AE}(h:af P fr op=some v):Br P op=0:=by
 unfold af at h;split at h
 ·assumption
 ·cases h
theorem OX:∀(sg pl:List (Nat×List Nat)) (fr fr1:Fr),(∀x∈sg,x.2=[])->Hu C.P ops (Fb sg) fr=some fr1->AT C g ops pl tch fr1 h K->AT C g ops (sg++pl) tch fr h K
 |[],pl,fr,fr1,_,B,O=>by
  simp only[Fb,Hu,zd]at B;subst B;exact O
 | (i,U)::sg,pl,fr,fr1,hU,B,O=>by
  have hU0:U=[]:=hU (i,U) (by simp);subst hU0;have ih:=λfr2 D=>OX sg pl fr2 fr1 (λx D=>hU x (by simp[D])) D O;simp only[Fb,Hu]at B;split at B
  ·cases B
  ·rename_i o T;split at B
   ·rename_i hw;split at B
    ·rename_i v hv;have e1:Pr ops i=o.op:=by simp[Pr,T]
     have e2:I8 ops i=o.dst:=by simp[I8,T]
     refine KN (v:=v) (h1:=h) (by simp[runs,T,hw]) (.of (by rw[e1];exact cP hv)) rfl ?_;rw[e1,e2];have:H9 C.P h fr i o.op tch=tch:=by unfold H9;rw[WR hv];rfl
     rw[this];exact ih _ B
    ·cases B
   ·rename_i hw;have e2:I8 ops i=o.dst:=by simp[I8,T]
    refine TU (by simp[Vs,T,hw]) ?_;rw[e2];exact ih _ B
   ·cases B
theorem IP{P:Program}:∀(l:List Nat) (fr fr':Fr),Hu P ops l fr=some fr'->fr'.length=fr.length
 |[],fr,fr',h=>by simp only[Hu,zd]at h;rw[h]
 | i::l,fr,fr',h=>by
  simp only[Hu]at h;split at h
  ·cases h
  ·split at h
   ·split at h
    ·rw[IP l _ _ h];simp
    ·cases h
   ·rw[IP l _ _ h];simp
   ·cases h
theorem Zh(sg:List (Nat×List Nat))(out:List (Nat×AE))(H:Has fr N l)(hU:∀x∈sg,x.2=[])
  (L:∀fr,(Hu C.P ops (Fb sg) (EO N l fr)).map (λx=>out.map (λp=>nth x p.1))=some (out.map (·.2)))
  (O:∀fr',Has fr' N out->AT C g ops pl tch fr' h K):AT C g ops (sg++pl) tch fr h K:=by
 have V:=L fr;rw[HU H]at V;cases E:Hu C.P ops (Fb sg) fr with
 |none=>rw[E]at V;cases V
 |some fr1=>
  rw[E]at V;simp only[zf,zd]at V;exact OX sg pl fr fr1 hU E (O fr1 (Has.of_map ((IP _ _ _ E).trans H.1) V))
def Sj:List (Nat×List Nat)->Bool
 |[]=>true
 |(_,U)::r=>U.isEmpty&&Sj r
theorem OF:∀{sg:List (Nat×List Nat)},Sj sg=true->∀x∈sg,x.2=[]
 |[],_,x,D=>by cases D
 |(i,U)::r,h,x,D=>by
  simp only[Sj,zj,List.isEmpty_iff]at h;cases D with
  |head=>exact h.1
  |tail _ D=>exact OF h.2 x D
theorem KY{n:Nat}{b:List (Nat×List Nat)}:∀(a:List (Nat×List Nat)) (tch:List (Nat×Nat)) (fr fr1:Fr) (h h1:AS),Dx C (FE C n) g ops a tch fr h=some (fr1,h1)->
  ∃tch',∀m,n<=m->Dx C (FE C m) g ops (a++b) tch fr h=Dx C (FE C m) g ops b tch' fr1 h1
 |[],tch,fr,fr1,h,h1,E=>by
  simp only[Dx,zd,ze]at E;obtain⟨rfl,rfl⟩:=E;exact⟨tch,λ_ _=>rfl⟩
 | (i,U)::a,tch,fr,fr1,h,h1,E=>by
  rw[Dx]at E;split at E
  ·cases E
  ·rename_i o T;split at E
   ·rename_i hw;split at E
    ·rename_i v h' B;have hre:Mr C ops U (put fr o.dst v) h'=true:=by
      cases hre:Mr C ops U (put fr o.dst v) h' with
      |false=>rw[hre]at E;cases E
      |true=>rfl
     rw[hre]at E;simp only[zY]at E;obtain⟨t,ht⟩:=KY a _ _ _ _ _ E;refine⟨t,λm hm=>?_⟩;rw[yl,Dx,T];simp only[hw,L3 (H3 C hm) B,hre,zY];exact ht m hm
    ·cases E
   ·rename_i hw;obtain⟨t,ht⟩:=KY a _ _ _ _ _ E;refine⟨t,λm hm=>?_⟩;rw[yl,Dx,T];simp only[hw];exact ht m hm
   ·cases E
theorem Za(sg:List (Nat×List Nat))(I:Fr->AS->Prop)(h1:AT C g ops sg tch fr h I)(F:∀t fr h,I fr h->AT C g ops pl t fr h K):AT C g ops (sg++pl) tch fr h K:=by
 obtain⟨n,fr1,h1',r1,r2⟩:=h1;obtain⟨t0,ht0⟩:=KY (b:=pl) sg tch fr fr1 h h1' r1;obtain⟨m,fr2,h2',r3,r4⟩:=F t0 _ _ r2;refine⟨max n m,fr2,h2',?_,r4⟩;rw[ht0 _ (yI _ _)];exact Iw (H3 C (yC _ _)) r3
def N9(next:Fr->AS->Prop)(Q:HV->Fr->AS->Prop):HV->Fr->AS->Prop
 | .normal,fr,h=>next fr h
 |e,fr,h=>Q e fr h
def aT(id:Nat)(Q:HV->Fr->AS->Prop):HV->Fr->AS->Prop
 | .exit i,fr,h=>bif Nat.beq i id then Q .normal fr h else Q (.exit i) fr h
 |e,fr,h=>Q e fr h
variable {Q:HV->Fr->AS->Prop} {a b c c':Code}
def left:Code->Code
 | .seq a _=>a
 | .cond _ a _=>a
 | .block _ c=>c
 | .loop c=>c
 | .scope c=>c
 | .rangeFunc _ _ a _=>a
 |c=>c
def right:Code->Code
 | .seq _ b=>b
 | .cond _ _ b=>b
 | .rangeFunc _ _ _ b=>b
 |c=>c
def opsOf:Code->Array Oper
 | .region _ ops _=>ops
 |_=>#[]
inductive Sh where
 |skip|region (id n:Nat) (draw:Bool)|seq|cond (x:Operand)|block (id:Nat)|loop|exit (id:Nat)|scope|label|ret|range (x:Operand) (ps:List Tmp)|other
def shape:Code->Sh
 | .skip=>.skip
 | .region id ops draw=>.region id ops.size draw
 | .seq _ _=>.seq
 | .cond x _ _=>.cond x
 | .block id _=>.block id
 | .loop _=>.loop
 | .exit id=>.exit id
 | .scope _=>.scope
 | .rangeFunc x ps _ _=>.range x ps.toList
 | .label _=>.label
 | .ret=>.ret
 |_=>.other
theorem Ap{Q':HV->Fr->AS->Prop}(J:AW C f g c fr h Q')(G:∀e fr h,Q' e fr h->Q e fr h):AW C f g c fr h Q:=by
 obtain⟨n,e,fr',h',h1,F⟩:=(J).ex;exact⟨⟨n,e,fr',h',h1,G _ _ _ F⟩⟩
theorem VC(B:shape c=.seq)(J:AW C f g (left c) fr h (N9 (λfr h=>AW C f g (right c) fr h Q) Q)):AW C f g c fr h Q:=by
 cases c<;>simp[shape]at B;simp only[left,right]at J;obtain⟨n,e,fr1,h1,D,G⟩:=(J).ex;cases e with
 |normal=>
  obtain⟨m,e2,fr2,F,Y,hq2⟩:=G.ex;refine⟨⟨max n m,e2,fr2,F,?_,hq2⟩⟩;simp only[CV,G3 (H3 C (yI n m)) D,G3 (H3 C (yC n m)) Y]
 |exit id=>exact⟨⟨n,_,_,_,by simp only[CV,D],G⟩⟩
 |ret=>exact⟨⟨n,_,_,_,by simp only[CV,D],G⟩⟩
theorem Zx{id n:Nat}(pl:List (Nat×List Nat))(B:shape c=.region id n false)(hp:Jq 0 n=pl)(J:AT C g (opsOf c) pl [] fr h (λfr' h'=>Q .normal fr' h')):AW C f g c fr h Q:=by
 cases c<;>simp[shape]at B;obtain⟨rfl,rfl,rfl⟩:=B;obtain⟨n,fr',h',E,G⟩:=J;subst hp;simp only[opsOf]at E;rw[MM _ _ _ _ _ (by omega),yn]at E;exact⟨⟨n,.normal,fr',h',by simp only[CV,yf,E],G⟩⟩
theorem VZ{id n:Nat}(B:shape c=.region id n true)(pl:List (Nat×List Nat))(hp:C.NC f id=pl)(J:AT C g (opsOf c) pl [] fr h (λfr' h'=>Q .normal fr' h')):AW C f g c fr h Q:=by
 cases c<;>simp[shape]at B;obtain⟨rfl,rfl,rfl⟩:=B;obtain⟨n,fr',h',E,G⟩:=J;simp only[opsOf]at E;exact⟨⟨n,.normal,fr',h',by simp only[CV,zY,hp,E],G⟩⟩
theorem P6(B:shape c=.skip)(G:Q .normal fr h):AW C f g c fr h Q:=by cases c<;>simp[shape]at B;exact⟨⟨0,_,_,_,rfl,G⟩⟩
theorem Q2(B:shape c=.label)(G:Q .normal fr h):AW C f g c fr h Q:=by cases c<;>simp[shape]at B;exact⟨⟨0,_,_,_,rfl,G⟩⟩
theorem BM{i:Nat}(B:shape c=.exit i)(G:Q (.exit i) fr h):AW C f g c fr h Q:=by cases c<;>simp[shape]at B;subst B;exact⟨⟨0,_,_,_,rfl,G⟩⟩
theorem Z2(B:shape c=.ret)(G:Q .ret fr h):AW C f g c fr h Q:=by cases c<;>simp[shape]at B;exact⟨⟨0,_,_,_,rfl,G⟩⟩
theorem OZ{x:Operand}(B:shape c=.cond x)(H:Has fr N l)(D:∀fr,ev (EO N l fr) x=.bool true)(J:AW C f g (left c) fr h Q):AW C f g c fr h Q:=by
 cases c<;>simp[shape]at B;subst B;have:=D fr;rw[HU H]at this;obtain⟨n,e,fr',h',h1,F⟩:=(J).ex;exact⟨⟨n,e,fr',h',by simp only[CV,this];exact h1,F⟩⟩
theorem OQ{x:Operand}(B:shape c=.cond x)(H:Has fr N l)(D:∀fr,ev (EO N l fr) x=.bool false)(J:AW C f g (right c) fr h Q):AW C f g c fr h Q:=by
 cases c<;>simp[shape]at B;subst B;have:=D fr;rw[HU H]at this;obtain⟨n,e,fr',h',h1,F⟩:=(J).ex;exact⟨⟨n,e,fr',h',by simp only[CV,this];exact h1,F⟩⟩
theorem Ad{id:Nat}(B:shape c=.block id)(J:AW C f g (left c) fr h (aT id Q)):AW C f g c fr h Q:=by
 cases c<;>simp[shape]at B;subst B;simp only[left]at J;obtain⟨n,e,fr',h',h1,F⟩:=(J).ex;cases e with
 |normal=>exact⟨⟨n,_,_,_,by simp only[CV,h1],F⟩⟩
 |ret=>exact⟨⟨n,_,_,_,by simp only[CV,h1],F⟩⟩
 |exit i=>
  rename_i id _;simp only[aT]at F;cases M:Nat.beq i id with
  |true=>rw[M]at F;exact⟨⟨n,.normal,fr',h',by simp only[CV,h1,M,zY],F⟩⟩
  |false=>rw[M]at F;exact⟨⟨n,.exit i,fr',h',by simp only[CV,h1,M,yf],F⟩⟩
theorem QK(B:shape c=.scope)(J:AW C f g (left c) fr h Q):AW C f g c fr h Q:=by
 cases c<;>simp[shape]at B;simp only[left]at J;obtain⟨n,e,fr',h',h1,F⟩:=(J).ex;exact⟨⟨n,e,fr',h',by simp only[CV];exact h1,F⟩⟩
theorem PO(B:shape c=.loop)(J:AW C f g (left c) fr h (N9 (λfr h=>AW C f g c fr h Q) Q)):AW C f g c fr h Q:=by
 cases c<;>simp[shape]at B;rename_i c;simp only[left]at J;obtain⟨n,e,fr1,h1,D,G⟩:=(J).ex;cases e with
 |normal=>
  obtain⟨m,e2,fr2,F,Y,hq2⟩:=G.ex;refine⟨⟨max n m+1,e2,fr2,F,?_,hq2⟩⟩;have e1:=G3 (H3 C (zV (yI n m) (Nat.le_succ _))) D;have e2':=G3 (H3 C (yC n m)) Y;rw[CV,e1];exact e2'
 |exit id=>exact⟨⟨n,_,_,_,by simp only[CV,D],G⟩⟩
 |ret=>exact⟨⟨n,_,_,_,by simp only[CV,D],G⟩⟩
theorem Bp{σ ρ:Type}{step:σ->Option (σ⊕ρ)}{s:σ}{r:ρ}(B:shape c=.loop)(I:σ->Fr->AS->Prop)(X:loop step s=some r)(h0:I s fr h)
  (E:∀s o fr h,I s fr h->step s=some o->AW C f g (left c) fr h (N9 (λfr' h'=>∃s',o=.inl s'/\I s' fr' h') (λe fr' h'=>∃r',o=.inr r'/\(r'=r->Q e fr' h')))):AW C f g c fr h Q:=by
 cases c<;>simp[shape]at B;rename_i c;simp only[left]at E;obtain⟨k,L⟩:=SQ X;have key:∀k s fr h,I s fr h->Jm step k s=some r->AW C f g (.loop c) fr h Q:=by
  intro k
  induction k with
  |zero=>intro s fr h _ L;cases L
  | succ k ih=>
   intro s fr h hi L;unfold Jm at L;cases R:step s with
   |none=>rw[R]at L;cases L
   | some o=>
    rw[R]at L;obtain⟨n,e,fr1,h1,D,G⟩:=(E s o fr h hi R).ex;cases e with
    |normal=>
     obtain⟨s',rfl,hI⟩:=G;obtain⟨m,e2,fr2,F,Y,hq2⟩:=(ih s' fr1 h1 hI L).ex;refine⟨⟨max n m+1,e2,fr2,F,?_,hq2⟩⟩;have e1:=G3 (H3 C (zV (yI n m) (Nat.le_succ _))) D;have e2':=G3 (H3 C (yC n m)) Y;rw[CV,e1];exact e2'
    |exit i=>
     obtain⟨r',rfl,hQ⟩:=G;injection L with L;exact⟨⟨n,_,_,_,by simp only[CV,D],hQ L⟩⟩
    |ret=>
     obtain⟨r',rfl,hQ⟩:=G;injection L with L;exact⟨⟨n,_,_,_,by simp only[CV,D],hQ L⟩⟩
 exact key k s fr h h0 L
def NT(P:Program)(f:FuncId):Code:=
 match P.funcs[f]? with
 |some fn=>(match fn.body with|some c=>c|none=>.skip)
 |none=>.skip
def Jx(P:Program)(f:FuncId):Option (Nat×List ResultVar):=
 match P.funcs[f]? with
 |some fn=>(match fn.body with|some _=>some (fn.ntmps,fn.results.toList)|none=>none)
 |none=>none
def NF(P:Program)(rs:List ResultVar)(fr:Fr)(h:AS):Option AE:=
 match rs.mapM (JF P fr h)with
 |some [v]=>some v
 |some vs=>some (.tuple vs)
 |none=>none
structure aV(P:Program)(rs:List ResultVar)(v:AE)(h':AS)(e:HV)(fr:Fr)(h:AS):Prop where
 no:e=.ret\/e=.normal
 res:NF P rs fr h=some v
 heap:h=h'
theorem YV{args:List AE}{v:AE}{h':AS}{n:Nat}{rs:List ResultVar}(W:Jx C.P f=some (n,rs))
  (J:AW C f g (NT C.P f) (args++List.replicate (n - args.length) (.tuple [])) h (aV C.P rs v h')):O6 C g h f args v h':=by
 obtain⟨m,e,fr',F,D,G⟩:=(J).ex;unfold Jx at W;unfold NT at D;refine⟨m,?_⟩;unfold L8;split at W
 ·rename_i fn hfn;split at W
  ·rename_i c hc;simp only[zd,ze]at W;obtain⟨rfl,rfl⟩:=W;simp only[hfn,hc]at D⊢;cases e with
   |normal=>obtain⟨_,h3,rfl⟩:=G;rw[D];simp only;rw[show KJ C.P fn fr' F=some v from h3];rfl
   |ret=>obtain⟨_,h3,rfl⟩:=G;rw[D];simp only;rw[show KJ C.P fn fr' F=some v from h3];rfl
   |exit i=>rcases G.no with h|h<;>cases h
  ·cases W
 ·cases W
theorem start{args:List AE}{n:Nat}(ins:List (Nat×AE))(X:(args++List.replicate (n - args.length) (AE.tuple [])).length=n)(hi:ins.map (λp=>nth (args++List.replicate (n - args.length) (AE.tuple [])) p.1)=ins.map (·.2))
  (J:∀fr,Has fr n ins->AW C f g c fr h Q):AW C f g c (args++List.replicate (n - args.length) (.tuple [])) h Q:=J _ (Has.of_map X hi)
theorem ae{args args':List AE}{v:AE}{h':AS}(L:C.kind f=1)(hc:Bf (C.still f) args=args')(M:O6 C g h f args' v h'):Bm C g h f args v h':=by
 obtain⟨n,O⟩:=M;refine⟨n+1,?_⟩;show Ki C (FE C n) g h f args=_;unfold Ki;rw[L];simp only[hc];exact O
theorem ax{args args':List AE}{u v:AE}{h1 h':AS}(L:C.kind f=7)(hc:Bf (C.still f) args=args')(M:O6 C g h f args' u h1)(W:RO g h1 u=some (v,h')):Bm C g h f args v h':=by
 obtain⟨n,O⟩:=M;refine⟨n+1,?_⟩;show Ki C (FE C n) g h f args=_;unfold Ki;rw[L];simp only[hc,O];exact W
theorem aG{args args':List AE}{u v:AE}{h1 h':AS}(L:C.kind f=9)(hc:Bf (C.still f) args=args')(M:O6 C g h f args' u h1)(W:Tj g h1 u=some (v,h')):Bm C g h f args v h':=by
 obtain⟨n,O⟩:=M;refine⟨n+1,?_⟩;show Ki C (FE C n) g h f args=_;unfold Ki;rw[L];simp only[hc,O];exact W
theorem closed{args:List AE}{v:AE}(n:Nat)(M:(L8 C (FE C n) g h f args).map (·.1)=some v):∃h',O6 C g h f args v h':=by
 cases D:L8 C (FE C n) g h f args with
 |none=>rw[D]at M;cases M
 |some x=>
  rw[D]at M;simp only[zf,zd]at M;exact⟨x.2,n,by rw[D,<-M]⟩
end
def SD:List Nat->Nat->Nat
 |[],_=>0
 |a::_,0=>a
 |_::l,i+1=>SD l i
def Qa:List ((Nat×Nat)×List (Nat×List Nat))->Nat->Nat->List (Nat×List Nat)
 |[],_,_=>[]
 |((a,b),p)::l,f,id=>bif Nat.beq a f&&Nat.beq b id then p else Qa l f id
def Vp(C:J8):Nat->Bool
 |0=>true
 | n+1=>Vp C n&&(bif Nat.beq (C.kind n) 0||Nat.beq (C.kind n) 3 then true else
   match C.P.funcs[n]? with
   |some fn=> !(fn.name=="runtime.NumGoroutine")&&(match fn.body with|some c=>codeOk C n c|none=>true)
   |none=>true)
theorem Q4:∀{l:List Nat} {i:Nat},l.length<=i->SD l i=0
 |[],_,_=>rfl
 |_::l,0,h=>by simp at h
 |_::l,i+1,h=>Q4 (l:=l) (by simpa using h)
theorem T9 {C:J8}:∀{n:Nat},Vp C n=true->∀{f:Nat},f<n->C.kind f≠0->C.kind f≠3->∀{fn:Func} {c:Code},C.P.funcs[f]?=some fn->fn.body=some c->(fn.name=="runtime.NumGoroutine")=false/\codeOk C f c=true
 |0,_,f,W,_,_,_,_,_,_=>by omega
 | n+1,h,f,W,L,hk3,fn,c,h1,F=>by
  simp only[Vp,zj]at h;by_cases e:f=n
  ·subst e;have h3:=h.2;have:Nat.beq (C.kind f) 0=false:=by
    cases M:Nat.beq (C.kind f) 0 with
    |false=>rfl
    |true=>exact absurd (zJ M) L
   have this3:Nat.beq (C.kind f) 3=false:=by
    cases M:Nat.beq (C.kind f) 3 with
    |false=>rfl
    |true=>exact absurd (zJ M) hk3
   rw[this,this3]at h3;simp only[Bool.or_false,yf,h1,F,zj,zK]at h3;exact h3
  ·exact T9 h.1 (by omega) L hk3 h1 F
def Yl(P:Program)(NC:Nat->Nat->List (Nat×List Nat)):J8:=⟨P,λ_=>0,NC,λ_ _ _ _=>none,λ_=>none,λ_ _ _=>false,λ_=>[]⟩
def XG(P:Program)(NC:Nat->Nat->List (Nat×List Nat))(f:FuncId)(a b:Code):Bool:=codeOk (Yl P NC) f a&&codeOk (Yl P NC) f b&&(Jw a&&Jw b)
theorem Pl{C C':J8}(h1:C.P=C'.P)(F:C.NC=C'.NC)(f:FuncId):∀c,codeOk C f c=codeOk C' f c:=by
 intro c
 induction c<;>simp_all[codeOk]
end Go.Av
