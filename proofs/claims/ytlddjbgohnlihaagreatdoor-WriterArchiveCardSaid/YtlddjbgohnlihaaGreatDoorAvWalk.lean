/-
 A part.
-/
import Derived.Test.YtlddjbgohnlihaaGreatDoorAvStep2
namespace Go.Av
set_option linter.unusedSimpArgs false
set_option linter.unusedVariables false
def GF:Nat→Nat→List (Nat×List Nat)
 |_,0=>[]
 |i,k+1=>(i,[])::GF (i+1) k
@[simp] theorem Hh (tch:List (Nat×Nat)):IK tch []=[]:=by
 unfold IK;rw[qJ];intro a _;rfl
section
variable {C:Gp} {S:Self} {g:Gd} {ops:Array Oper}
theorem Jg:∀(k i:Nat) (tch:List (Nat×Nat)) (fr:Fr) (h:AI),i+k=ops.size→CB C S g ops (GF i k) tch fr h=D3 C S g ops (ops.toList.drop i) fr h
 |0,i,tch,fr,h,e=>by
  have:ops.toList.drop i=[]:=yc (by rw[yO];omega);rw[this];rfl
 | k+1,i,tch,fr,h,e=>by
  have hi:i<ops.size:=by omega
  have hl:i<ops.toList.length:=by rw[yO];exact hi
  rw[zP hl,GF,CB,D3,Array.getElem?_eq_getElem hi];simp only[Array.getElem_toList];cases CW ops fr ops[i]with
  |none=>rfl
  | some b=>
   cases b with
   |false=>exact Jg k (i+1) _ _ _ (by omega)
   |true=>
    simp only[Hh,ye];cases BC C S g h fr ops[i].op with
    |none=>rfl
    |some x=>exact Jg k (i+1) _ _ _ (by omega)
end
def AT(C:Gp)(g:Gd)(ops:Array Oper)(pl:List (Nat×List Nat))(tch:List (Nat×Nat))(fr:Fr)(h:AI)(K:Fr→AI→Prop):Prop:=
 ∃n fr' h',CB C (DL C n) g ops pl tch fr h=some (fr',h')∧K fr' h'
structure AW(C:Gp)(f:FuncId)(g:Gd)(c:Code)(fr:Fr)(h:AI)(Q:CI→Fr→AI→Prop):Prop where
 ex:∃n e fr' h',BU C (DL C n) f g c fr h=some (e,fr',h')∧Q e fr' h'
def QG(C:Gp)(g:Gd)(h:AI)(f:FuncId)(args:List AB)(v:AB)(h':AI):Prop:=∃n,Ja C (DL C n) g h f args=some (v,h')
def BI(C:Gp)(g:Gd)(h:AI)(f:FuncId)(args:List AB)(v:AB)(h':AI):Prop:=∃n,(DL C n).call g h f args=some (v,h')
section
variable {C:Gp} {f:FuncId} {g:Gd} {ops:Array Oper} {pl:List (Nat×List Nat)} {tch:List (Nat×Nat)} {fr:Fr} {h h1:AI} {K:Fr→AI→Prop} {N:Nat} {l:List (Nat×AB)} {i:Nat} {U:List Nat}
theorem at_nil(h0:K fr h):AT C g ops [] tch fr h K:=⟨0,fr,h,rfl,h0⟩
theorem WC{S:Nat}{pl':List (Nat×List Nat)}{tch':List (Nat×Nat)}{fr1:Fr}{h1:AI}(G:AT C g ops pl tch fr1 h1 K)
  (D:∀n x,S≤n→CB C (DL C n) g ops pl tch fr1 h1=some x→CB C (DL C n) g ops pl' tch' fr h=some x):AT C g ops pl' tch' fr h K:=by
 obtain⟨n,fr',h',r1,r2⟩:=G;exact⟨max S n,fr',h',D _ _ (yS _ _) (HS (Ej C (yF _ _)) r1),r2⟩
def Steps(C:Gp)(g:Gd)(h:AI)(fr:Fr)(op:Op)(v:AB)(h1:AI):Prop:=∃n,BC C (DL C n) g h fr op=some (v,h1)
theorem Steps.of{op:Op}{v:AB}(B:BC C (DL C 0) g h fr op=some (v,h1)):Steps C g h fr op v h1:=⟨0,B⟩
theorem Steps.call{op:Op}{v:AB}{f':FuncId}{args:List AB}(B:Nz fr op=some (f',args))(E:BI C g h f' args v h1):Steps C g h fr op v h1:=by
 obtain⟨n,O⟩:=E;exact⟨n,bx B O⟩
theorem I8{v:AB}{U:List Nat}(hw:runs ops fr i=true)(B:Steps C ⟨g.floor,IK tch U++g.CF⟩ h fr (PC ops i) v h1)(J:Oy C ops U (put fr (Hj ops i) v) h1=true)(O:AT C g ops pl (Gn C.P h fr i (PC ops i) tch) (put fr (Hj ops i) v) h1 K):
  AT C g ops ((i,U)::pl) tch fr h K:=by
 obtain⟨m,hm⟩:=B;refine WC (S:=m) O fun n x hle D=>?_;have M:=Kh (Ej C hle) hm;unfold runs at hw;unfold PC at M D;unfold Hj at D J;rw[CB];cases R:ops[i]? with
 |none=>rw[R]at hw;cases hw
 | some o=>
  rw[R]at hw M D J;simp only at hw M D J⊢;cases V:CW ops fr o with
  |none=>rw[V]at hw;cases hw
  |some b=>
   rw[V]at hw;simp only at hw;subst hw;simp only[M,J,zW];exact D
theorem TQ(hw:Vq ops fr i=true)(O:AT C g ops pl tch (put fr (Hj ops i) (.tuple [])) h K):AT C g ops ((i,U)::pl) tch fr h K:=by
 refine WC (S:=0) O fun n x hle D=>?_;unfold Vq at hw;unfold Hj at D;rw[CB];cases R:ops[i]? with
 |none=>rw[R]at hw;cases hw
 | some o=>
  rw[R]at hw D;simp only at hw D⊢;cases V:CW ops fr o with
  |none=>rw[V]at hw;cases hw
  |some b=>
   rw[V]at hw;simp only[zK]at hw;subst hw;exact D
def YG(ops:Array Oper)(i:Nat)(fr:Fr)(out:List (Nat×AB)):Bool×List AB:=(Vq ops fr i,out.map fun p=>nth (put fr (Hj ops i) (.tuple [])) p.1)
theorem L6(out:List (Nat×AB))(H:Has fr N l)(hw:∀fr,YG ops i (C1 N l fr) out=(true,out.map (·.2)))(O:∀fr',Has fr' N out→AT C g ops pl tch fr' h K):AT C g ops ((i,U)::pl) tch fr h K:=by
 have e:=Eu H;have W:=hw fr;rw[e]at W;unfold YG at W;simp only[zg]at W;exact TQ W.1 (O _ (Has.of_map (by simp[H.1]) W.2))
def Ga(P:Program)(ops:Array Oper):List Nat→Fr→Option Fr
 |[],fr=>some fr
 | i::r,fr=>
  match ops[i]? with
  |none=>none
  |some o=>
   match CW ops fr o with
   |some true=>(match cc P fr o.op with|some v=>Ga P ops r (put fr o.dst v)|none=>none)
   |some false=>Ga P ops r (put fr o.dst (.tuple []))
   |none=>none
def EX:List (Nat×List Nat)→List Nat
 |[]=>[]
 |(i,_)::r=>i::EX r
theorem Wb{P:Program}{fr:Fr}{op:Op}{v:AB}(h:cc P fr op=some v):A4 P op=0:=by
 unfold cc at h;split at h
 ·assumption
 ·cases h
theorem NK:∀(sg pl:List (Nat×List Nat)) (fr fr1:Fr),(∀x∈sg,x.2=[])→Ga C.P ops (EX sg) fr=some fr1→AT C g ops pl tch fr1 h K→AT C g ops (sg++pl) tch fr h K
 |[],pl,fr,fr1,_,B,O=>by
  simp only[EX,Ga,zd]at B;subst B;exact O
 | (i,U)::sg,pl,fr,fr1,hU,B,O=>by
  have hU0:U=[]:=hU (i,U) (by simp);subst hU0;have ih:=fun fr2 D=>NK sg pl fr2 fr1 (fun x D=>hU x (by simp[D])) D O;simp only[EX,Ga]at B;split at B
  ·cases B
  ·rename_i o R;split at B
   ·rename_i hw;split at B
    ·rename_i v hv;have e1:PC ops i=o.op:=by simp[PC,R]
     have e2:Hj ops i=o.dst:=by simp[Hj,R]
     refine I8 (v:=v) (h1:=h) (by simp[runs,R,hw]) (.of (by rw[e1];exact fE hv)) rfl ?_;rw[e1,e2];have:Gn C.P h fr i o.op tch=tch:=by unfold Gn;rw[Wb hv];rfl
     rw[this];exact ih _ B
    ·cases B
   ·rename_i hw;have e2:Hj ops i=o.dst:=by simp[Hj,R]
    refine TQ (by simp[Vq,R,hw]) ?_;rw[e2];exact ih _ B
   ·cases B
theorem G4{P:Program}:∀(l:List Nat) (fr fr':Fr),Ga P ops l fr=some fr'→fr'.length=fr.length
 |[],fr,fr',h=>by simp only[Ga,zd]at h;rw[h]
 | i::l,fr,fr',h=>by
  simp only[Ga]at h;split at h
  ·cases h
  ·split at h
   ·split at h
    ·rw[G4 l _ _ h];simp
    ·cases h
   ·rw[G4 l _ _ h];simp
   ·cases h
theorem bo(sg:List (Nat×List Nat))(out:List (Nat×AB))(H:Has fr N l)(hU:∀x∈sg,x.2=[])
  (hk:∀fr,(Ga C.P ops (EX sg) (C1 N l fr)).map (fun x=>out.map (fun p=>nth x p.1))=some (out.map (·.2)))
  (O:∀fr',Has fr' N out→AT C g ops pl tch fr' h K):AT C g ops (sg++pl) tch fr h K:=by
 have T:=hk fr;rw[Eu H]at T;cases E:Ga C.P ops (EX sg) fr with
 |none=>rw[E]at T;cases T
 |some fr1=>
  rw[E]at T;simp only[zj,zd]at T;exact NK sg pl fr fr1 hU E (O fr1 (Has.of_map ((G4 _ _ _ E).trans H.1) T))
def Ro:List (Nat×List Nat)→Bool
 |[]=>true
 |(_,U)::r=>U.isEmpty&&Ro r
theorem NU:∀{sg:List (Nat×List Nat)},Ro sg=true→∀x∈sg,x.2=[]
 |[],_,x,D=>by cases D
 |(i,U)::r,h,x,D=>by
  simp only[Ro,zh,List.isEmpty_iff]at h;cases D with
  |head=>exact h.1
  |tail _ D=>exact NU h.2 x D
theorem Iz{n:Nat}{b:List (Nat×List Nat)}:∀(a:List (Nat×List Nat)) (tch:List (Nat×Nat)) (fr fr1:Fr) (h h1:AI),CB C (DL C n) g ops a tch fr h=some (fr1,h1)→
  ∃tch',∀m,n≤m→CB C (DL C m) g ops (a++b) tch fr h=CB C (DL C m) g ops b tch' fr1 h1
 |[],tch,fr,fr1,h,h1,E=>by
  simp only[CB,zd,zg]at E;obtain⟨rfl,rfl⟩:=E;exact⟨tch,fun _ _=>rfl⟩
 | (i,U)::a,tch,fr,fr1,h,h1,E=>by
  rw[CB]at E;split at E
  ·cases E
  ·rename_i o R;split at E
   ·rename_i hw;split at E
    ·rename_i v h' B;have J:Oy C ops U (put fr o.dst v) h'=true:=by
      cases J:Oy C ops U (put fr o.dst v) h' with
      |false=>rw[J]at E;cases E
      |true=>rfl
     rw[J]at E;simp only[zW]at E;obtain⟨t,ht⟩:=Iz a _ _ _ _ _ E;refine⟨t,fun m hm=>?_⟩;rw[y5,CB,R];simp only[hw,Kh (Ej C hm) B,J,zW];exact ht m hm
    ·cases E
   ·rename_i hw;obtain⟨t,ht⟩:=Iz a _ _ _ _ _ E;refine⟨t,fun m hm=>?_⟩;rw[y5,CB,R];simp only[hw];exact ht m hm
   ·cases E
theorem bH(sg:List (Nat×List Nat))(I:Fr→AI→Prop)(h1:AT C g ops sg tch fr h I)(h2:∀t fr h,I fr h→AT C g ops pl t fr h K):AT C g ops (sg++pl) tch fr h K:=by
 obtain⟨n,fr1,h1',r1,r2⟩:=h1;obtain⟨t0,ht0⟩:=Iz (b:=pl) sg tch fr fr1 h h1' r1;obtain⟨m,fr2,h2',r3,r4⟩:=h2 t0 _ _ r2;refine⟨max n m,fr2,h2',?_,r4⟩;rw[ht0 _ (yS _ _)];exact HS (Ej C (yF _ _)) r3
def Nd(next:Fr→AI→Prop)(Q:CI→Fr→AI→Prop):CI→Fr→AI→Prop
 | .normal,fr,h=>next fr h
 |e,fr,h=>Q e fr h
def dG(id:Nat)(Q:CI→Fr→AI→Prop):CI→Fr→AI→Prop
 | .exit i,fr,h=>bif Nat.beq i id then Q .normal fr h else Q (.exit i) fr h
 |e,fr,h=>Q e fr h
variable {Q:CI→Fr→AI→Prop} {a b c c':Code}
def left:Code→Code
 | .seq a _=>a
 | .cond _ a _=>a
 | .block _ c=>c
 | .loop c=>c
 | .scope c=>c
 | .rangeFunc _ _ a _=>a
 |c=>c
def right:Code→Code
 | .seq _ b=>b
 | .cond _ _ b=>b
 | .rangeFunc _ _ _ b=>b
 |c=>c
def opsOf:Code→Array Oper
 | .region _ ops _=>ops
 |_=>#[]
inductive Sh where
 |skip|region (id n:Nat) (draw:Bool)|seq|cond (x:Operand)|block (id:Nat)|loop|exit (id:Nat)|scope|label|ret|range (x:Operand) (ps:List Tmp)|other
def shape:Code→Sh
 | .skip=>.skip
 | .region id ops draw=>.region id ops.size draw
 | .seq _ _=>.seq
 | .cond x _ _=>.cond x
 | .block id _=>.block id
 | .loop _=>.loop
 | .exit id=>.exit id
 | .scope _=>.scope
 | .rangeFunc x ps _ _=>.range x ps.toList
 | .label _=>.label
 | .ret=>.ret
 |_=>.other
theorem An{Q':CI→Fr→AI→Prop}(G:AW C f g c fr h Q')(F:∀e fr h,Q' e fr h→Q e fr h):AW C f g c fr h Q:=by
 obtain⟨n,e,fr',h',h1,h2⟩:=(G).ex;exact⟨⟨n,e,fr',h',h1,F _ _ _ h2⟩⟩
theorem Ur(B:shape c=.seq)(G:AW C f g (left c) fr h (Nd (fun fr h=>AW C f g (right c) fr h Q) Q)):AW C f g c fr h Q:=by
 cases c<;>simp[shape]at B;simp only[left,right]at G;obtain⟨n,e,fr1,h1,D,F⟩:=(G).ex;cases e with
 |normal=>
  obtain⟨m,e2,fr2,h2,Y,Z⟩:=F.ex;refine⟨⟨max n m,e2,fr2,h2,?_,Z⟩⟩;simp only[BU,EJ (Ej C (yS n m)) D,EJ (Ej C (yF n m)) Y]
 |exit id=>exact⟨⟨n,_,_,_,by simp only[BU,D],F⟩⟩
 |ret=>exact⟨⟨n,_,_,_,by simp only[BU,D],F⟩⟩
theorem cH{id n:Nat}(pl:List (Nat×List Nat))(B:shape c=.region id n false)(hp:GF 0 n=pl)(G:AT C g (opsOf c) pl [] fr h (fun fr' h'=>Q .normal fr' h')):AW C f g c fr h Q:=by
 cases c<;>simp[shape]at B;obtain⟨rfl,rfl,rfl⟩:=B;obtain⟨n,fr',h',E,F⟩:=G;subst hp;simp only[opsOf]at E;rw[Jg _ _ _ _ _ (by omega),yl]at E;exact⟨⟨n,.normal,fr',h',by simp only[BU,y9,E],F⟩⟩
theorem VX{id n:Nat}(B:shape c=.region id n true)(pl:List (Nat×List Nat))(hp:C.MR f id=pl)(G:AT C g (opsOf c) pl [] fr h (fun fr' h'=>Q .normal fr' h')):AW C f g c fr h Q:=by
 cases c<;>simp[shape]at B;obtain⟨rfl,rfl,rfl⟩:=B;obtain⟨n,fr',h',E,F⟩:=G;simp only[opsOf]at E;exact⟨⟨n,.normal,fr',h',by simp only[BU,zW,hp,E],F⟩⟩
theorem PK(B:shape c=.skip)(F:Q .normal fr h):AW C f g c fr h Q:=by cases c<;>simp[shape]at B;exact⟨⟨0,_,_,_,rfl,F⟩⟩
theorem BL{i:Nat}(B:shape c=.exit i)(F:Q (.exit i) fr h):AW C f g c fr h Q:=by cases c<;>simp[shape]at B;subst B;exact⟨⟨0,_,_,_,rfl,F⟩⟩
theorem bh(B:shape c=.ret)(F:Q .ret fr h):AW C f g c fr h Q:=by cases c<;>simp[shape]at B;exact⟨⟨0,_,_,_,rfl,F⟩⟩
theorem HP{x:Operand}(B:shape c=.cond x)(H:Has fr N l)(D:∀fr,ev (C1 N l fr) x=.bool true)(G:AW C f g (left c) fr h Q):AW C f g c fr h Q:=by
 cases c<;>simp[shape]at B;subst B;have:=D fr;rw[Eu H]at this;obtain⟨n,e,fr',h',h1,h2⟩:=(G).ex;exact⟨⟨n,e,fr',h',by simp only[BU,this];exact h1,h2⟩⟩
theorem Yy{x:Operand}(B:shape c=.cond x)(H:Has fr N l)(D:∀fr,ev (C1 N l fr) x=.bool false)(G:AW C f g (right c) fr h Q):AW C f g c fr h Q:=by
 cases c<;>simp[shape]at B;subst B;have:=D fr;rw[Eu H]at this;obtain⟨n,e,fr',h',h1,h2⟩:=(G).ex;exact⟨⟨n,e,fr',h',by simp only[BU,this];exact h1,h2⟩⟩
theorem Ae{id:Nat}(B:shape c=.block id)(G:AW C f g (left c) fr h (dG id Q)):AW C f g c fr h Q:=by
 cases c<;>simp[shape]at B;subst B;simp only[left]at G;obtain⟨n,e,fr',h',h1,h2⟩:=(G).ex;cases e with
 |normal=>exact⟨⟨n,_,_,_,by simp only[BU,h1],h2⟩⟩
 |ret=>exact⟨⟨n,_,_,_,by simp only[BU,h1],h2⟩⟩
 |exit i=>
  rename_i id _;simp only[dG]at h2;cases L:Nat.beq i id with
  |true=>rw[L]at h2;exact⟨⟨n,.normal,fr',h',by simp only[BU,h1,L,zW],h2⟩⟩
  |false=>rw[L]at h2;exact⟨⟨n,.exit i,fr',h',by simp only[BU,h1,L,y9],h2⟩⟩
theorem BQ{σ ρ:Type}{step:σ→Option (σ⊕ρ)}{s:σ}{r:ρ}(B:shape c=.loop)(I:σ→Fr→AI→Prop)(hl:loop step s=some r)(h0:I s fr h)
  (E:∀s o fr h,I s fr h→step s=some o→AW C f g (left c) fr h (Nd (fun fr' h'=>∃s',o=.inl s'∧I s' fr' h') (fun e fr' h'=>∃r',o=.inr r'∧(r'=r→Q e fr' h')))):AW C f g c fr h Q:=by
 cases c<;>simp[shape]at B;rename_i c;simp only[left]at E;obtain⟨k,hk⟩:=R6 hl;have key:∀k s fr h,I s fr h→IN step k s=some r→AW C f g (.loop c) fr h Q:=by
  intro k
  induction k with
  |zero=>intro s fr h _ hk;cases hk
  | succ k ih=>
   intro s fr h hi hk;unfold IN at hk;cases M:step s with
   |none=>rw[M]at hk;cases hk
   | some o=>
    rw[M]at hk;obtain⟨n,e,fr1,h1,D,F⟩:=(E s o fr h hi M).ex;cases e with
    |normal=>
     obtain⟨s',rfl,hI⟩:=F;obtain⟨m,e2,fr2,h2,Y,Z⟩:=(ih s' fr1 h1 hI hk).ex;refine⟨⟨max n m+1,e2,fr2,h2,?_,Z⟩⟩;have e1:=EJ (Ej C (y8 (yS n m) (Nat.le_succ _))) D;have e2':=EJ (Ej C (yF n m)) Y;rw[BU,e1];exact e2'
    |exit i=>
     obtain⟨r',rfl,hQ⟩:=F;injection hk with hk;exact⟨⟨n,_,_,_,by simp only[BU,D],hQ hk⟩⟩
    |ret=>
     obtain⟨r',rfl,hQ⟩:=F;injection hk with hk;exact⟨⟨n,_,_,_,by simp only[BU,D],hQ hk⟩⟩
 exact key k s fr h h0 hk
def GX(P:Program)(f:FuncId):Code:=
 match P.funcs[f]? with
 |some fn=>(match fn.body with|some c=>c|none=>.skip)
 |none=>.skip
def Ih(P:Program)(f:FuncId):Option (Nat×List ResultVar):=
 match P.funcs[f]? with
 |some fn=>(match fn.body with|some _=>some (fn.ntmps,fn.results.toList)|none=>none)
 |none=>none
def Ml(P:Program)(rs:List ResultVar)(fr:Fr)(h:AI):Option AB:=
 match rs.mapM (Ht P fr h)with
 |some [v]=>some v
 |some vs=>some (.tuple vs)
 |none=>none
structure dE(P:Program)(rs:List ResultVar)(v:AB)(h':AI)(e:CI)(fr:Fr)(h:AI):Prop where
 no:e=.ret∨e=.normal
 res:Ml P rs fr h=some v
 heap:h=h'
theorem ZU{args:List AB}{v:AB}{h':AI}{n:Nat}{rs:List ResultVar}(X:Ih C.P f=some (n,rs))
  (G:AW C f g (GX C.P f) (args++List.replicate (n - args.length) (.tuple [])) h (dE C.P rs v h')):QG C g h f args v h':=by
 obtain⟨m,e,fr',h2,D,F⟩:=(G).ex;unfold Ih at X;unfold GX at D;refine⟨m,?_⟩;unfold Ja;split at X
 ·rename_i fn hfn;split at X
  ·rename_i c hc;simp only[zd,zg]at X;obtain⟨rfl,rfl⟩:=X;simp only[hfn,hc]at D⊢;cases e with
   |normal=>obtain⟨_,h3,rfl⟩:=F;rw[D];simp only;rw[show Ek C.P fn fr' h2=some v from h3];rfl
   |ret=>obtain⟨_,h3,rfl⟩:=F;rw[D];simp only;rw[show Ek C.P fn fr' h2=some v from h3];rfl
   |exit i=>rcases F.no with h|h<;>cases h
  ·cases X
 ·cases X
theorem start{args:List AB}{n:Nat}(ins:List (Nat×AB))(hl:(args++List.replicate (n - args.length) (AB.tuple [])).length=n)(hi:ins.map (fun p=>nth (args++List.replicate (n - args.length) (AB.tuple [])) p.1)=ins.map (·.2))
  (G:∀fr,Has fr n ins→AW C f g c fr h Q):AW C f g c (args++List.replicate (n - args.length) (.tuple [])) h Q:=G _ (Has.of_map hl hi)
theorem dR{args args':List AB}{v:AB}{h':AI}(hk:C.kind f=1)(hc:BA (C.still f) args=args')(L:QG C g h f args' v h'):BI C g h f args v h':=by
 obtain⟨n,O⟩:=L;refine⟨n+1,?_⟩;show Jn C (DL C n) g h f args=_;unfold Jn;rw[hk];simp only[hc];exact O
theorem dC{args args':List AB}{u v:AB}{h1 h':AI}(hk:C.kind f=7)(hc:BA (C.still f) args=args')(L:QG C g h f args' u h1)(X:Ov g h1 u=some (v,h')):BI C g h f args v h':=by
 obtain⟨n,O⟩:=L;refine⟨n+1,?_⟩;show Jn C (DL C n) g h f args=_;unfold Jn;rw[hk];simp only[hc,O];exact X
theorem closed{args:List AB}{v:AB}(n:Nat)(L:(Ja C (DL C n) g h f args).map (·.1)=some v):∃h',QG C g h f args v h':=by
 cases D:Ja C (DL C n) g h f args with
 |none=>rw[D]at L;cases L
 |some x=>
  rw[D]at L;simp only[zj,zd]at L;exact⟨x.2,n,by rw[D,←L]⟩
end
def Q4:List Nat→Nat→Nat
 |[],_=>0
 |a::_,0=>a
 |_::l,i+1=>Q4 l i
def Pe:List ((Nat×Nat)×List (Nat×List Nat))→Nat→Nat→List (Nat×List Nat)
 |[],_,_=>[]
 |((a,b),p)::l,f,id=>bif Nat.beq a f&&Nat.beq b id then p else Pe l f id
def Vr(C:Gp):Nat→Bool
 |0=>true
 | n+1=>Vr C n&&(bif Nat.beq (C.kind n) 0||Nat.beq (C.kind n) 3 then true else
   match C.P.funcs[n]? with
   |some fn=> !(fn.name=="runtime.NumGoroutine")&&(match fn.body with|some c=>codeOk C n c|none=>true)
   |none=>true)
theorem P8:∀{l:List Nat} {i:Nat},l.length≤i→Q4 l i=0
 |[],_,_=>rfl
 |_::l,0,h=>by simp at h
 |_::l,i+1,h=>P8 (l:=l) (by simpa using h)
theorem TT {C:Gp}:∀{n:Nat},Vr C n=true→∀{f:Nat},f<n→C.kind f≠0→C.kind f≠3→∀{fn:Func} {c:Code},C.P.funcs[f]?=some fn→fn.body=some c→(fn.name=="runtime.NumGoroutine")=false∧codeOk C f c=true
 |0,_,f,X,_,_,_,_,_,_=>by omega
 | n+1,h,f,X,hk,hk3,fn,c,h1,h2=>by
  simp only[Vr,zh]at h;by_cases e:f=n
  ·subst e;have h3:=h.2;have:Nat.beq (C.kind f) 0=false:=by
    cases L:Nat.beq (C.kind f) 0 with
    |false=>rfl
    |true=>exact absurd (zu L) hk
   have this3:Nat.beq (C.kind f) 3=false:=by
    cases L:Nat.beq (C.kind f) 3 with
    |false=>rfl
    |true=>exact absurd (zu L) hk3
   rw[this,this3]at h3;simp only[yK,y9,h1,h2,zh,zK]at h3;exact h3
  ·exact TT h.1 (by omega) hk hk3 h1 h2
def Yc(P:Program)(MR:Nat→Nat→List (Nat×List Nat)):Gp:=⟨P,fun _=>0,MR,fun _ _ _ _=>none,fun _=>none,fun _ _ _=>false,fun _=>[],fun _ _=>none,aR⟩
def X5(P:Program)(MR:Nat→Nat→List (Nat×List Nat))(f:FuncId)(a b:Code):Bool:=codeOk (Yc P MR) f a&&codeOk (Yc P MR) f b&&(IZ a&&IZ b)
theorem OW{C C':Gp}(h1:C.P=C'.P)(h2:C.MR=C'.MR)(f:FuncId):∀c,codeOk C f c=codeOk C' f c:=by
 intro c
 induction c<;>simp_all[codeOk]
end Go.Av
