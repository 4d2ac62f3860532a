/-
  Several texts in one.
-/
import Derived.Test.YthhonebaoidfgaaGreatDoorAvLift
set_option linter.unusedSimpArgs false
/-
 A part.
-/
section
namespace Go.Av
section
variable {C:Hv} {S:Self} {g:Gd} {h h1:AF} {fr:Fr} {op:Op}
theorem Hk(hc:Bd C.P op≠3):Bv C S g h fr op=Jl C.P C.DC g h fr op:=JG hc
theorem mr{v:AD}(B:kN C.P fr op=some v):Bv C S g h fr op=some (v,h):=by
 unfold kN at B;split at B
 ·rename_i hc;rw[Hk (by rw[hc];simp)];simp[Jl,hc,B]
 ·cases B
theorem mO{v:AD}{ob:Cs}(B:iD C.P fr op h.size=some (v,ob)):Bv C S g h fr op=some (v,h.push ob):=by
 unfold iD at B;split at B
 ·rename_i hc;rw[Hk (by rw[hc];simp)];simp only[zk,ze]at B;obtain⟨x,h1,rfl,rfl⟩:=B;simp[Jl,hc,h1]
 ·cases B
theorem dz{a:Nat×Nat}{v:AD}(D:ld1 h a=some v):DG (h.get a.1) a.2 1=some [v]/\∃ob,h.get a.1=some ob:=by
 unfold ld1 at D;split at D
 ·rename_i u hu;injection D with D;subst D;refine⟨hu,?_⟩;cases Z:h.get a.1 with
  |none=>rw[Z]at hu;simp[DG]at hu
  |some ob=>exact⟨ob,rfl⟩
 ·cases D
theorem Fb{a:Nat×Nat}{v:AD}(B:Qa C.P fr op=some (a,none))(D:ld1 h a=some v):Bv C S g h fr op=some (v,h):=by
 unfold Qa at B;split at B
 ·rename_i t x;obtain⟨h1,ob,h2⟩:=dz D;rw[h2]at h1;split at B
  ·simp only[zk,ze]at B;obtain⟨_,_,_,hc⟩:=B;cases hc
  ·rename_i he ha;simp only[zb,ze,xy]at B;subst B;simp[Bv,Jl,Bd,EN,he,GG,h2,Mh,JD,ha,h1]
  ·cases B
 ·cases B
theorem Bt{a:Nat×Nat}{n:Nat}{cs:List AD}(B:Qa C.P fr op=some (a,some n))(D:GL h a n=some cs):Bv C S g h fr op=some (.agg cs,h):=by
 unfold Qa at B;split at B
 ·rename_i t x;unfold GL at D;cases Z:h.get a.1 with
  |none=>rw[Z]at D;simp[DG]at D
  | some ob=>
   rw[Z]at D;split at B
   ·rename_i he ha;simp only[zk,ze,zb]at B;obtain⟨m,h1,rfl,rfl⟩:=B;simp[Bv,Jl,Bd,EN,he,GG,Z,Mh,JD,ha,h1,D]
   ·simp at B
   ·cases B
 ·cases B
theorem XU{a:Nat×Nat}{v:AD}(B:LN C.P fr op=some (a,1,v))(hc:v.cells?=some [v])(D:st g h a [v]=some h1):Bv C S g h fr op=some (.tuple [],h1):=by
 unfold LN at B;split at B
 ·split at B
  ·rename_i he;simp only[zk,ze]at B;obtain⟨n,h2,rfl,rfl,hv⟩:=B;unfold st at D;simp[Bv,Jl,Bd,M0,he,N1,hv,hc,h2,D]
  ·cases B
 ·cases B
theorem Pg{a:Nat×Nat}{n:Nat}{cs:List AD}(B:LN C.P fr op=some (a,n,.agg cs))(D:kZ n g h a cs=some h1):Bv C S g h fr op=some (.tuple [],h1):=by
 unfold LN at B;split at B
 ·split at B
  ·rename_i he;simp only[zk,ze]at B;obtain⟨m,h2,rfl,rfl,hv⟩:=B;unfold kZ at D;split at D
   ·rename_i M;simp[Bv,Jl,Bd,M0,he,N1,hv,AD.cells?,h2,M,D]
   ·cases D
  ·cases B
 ·cases B
theorem Sc{s:Sl}{b:Nat×Nat}{z:Nat}{i:Int}(B:gh C.P fr op=some (s.r,s.n,z,i))(D:kb s z i=some b):Bv C S g h fr op=some (.ptr (some b),h):=by
 unfold gh at B;split at B
 ·split at B
  ·rename_i hu E hi;simp only[zk,ze]at B;obtain⟨m,h2,e1,e2,rfl,rfl⟩:=B;unfold kb lC at D;rw[<-e1,<-e2]at D;split at D
   ·split at D
    ·rename_i L;injection D with D;subst D;simp[Bv,Jl,Bd,Ku,Kq,hu,E,hi,L,h2]
    ·cases D
   ·cases D
  ·cases B
 ·cases B
theorem Eg{s:List UInt8}{i n:Int}(B:gb C.P fr op=some (s,i))(D:KE s i=some n):Bv C S g h fr op=some (.int .u8 n,h):=by
 unfold gb at B;split at B
 ·split at B
  ·rename_i hu E hi;simp only[zb,ze]at B;obtain⟨rfl,rfl⟩:=B;unfold KE at D;split at D
   ·rename_i L;simp only[zk]at D;obtain⟨b,O,rfl⟩:=D;simp[Bv,Jl,Bd,Ku,QE,hu,E,hi,L,O]
   ·cases D
  ·cases B
 ·cases B
theorem Df{s t:List UInt8}{k k':IntKind}{lo hi:Option Int}(B:cv C.P fr op=some (s,lo.map (.int k ·),hi.map (.int k' ·)))(D:E4 s lo hi=some t):Bv C S g h fr op=some (.str t,h):=by
 unfold cv at B;split at B
 ·split at B
  ·rename_i hu E;simp only[zb,ze]at B;obtain⟨rfl,h1,h2⟩:=B;unfold E4 at D;simp only[zk]at D;obtain⟨p,O,rfl⟩:=D;simp[Bv,Jl,Bd,Ku,U4,hu,E,h1,h2,O0,O]
  ·cases B
 ·cases B
theorem bP{a:Nat×Nat}{n z:Nat}{t:Sl}{k k':IntKind}{lo hi:Option Int}(B:cx C.P fr op=some (a,n,z,lo.map (.int k ·),hi.map (.int k' ·)))(D:fP h a n z lo hi=some t):Bv C S g h fr op=some (.slice t.r t.n,h):=by
 unfold cx at B;split at B
 ·split at B
  ·rename_i hu E;simp only[zk,ze]at B;obtain⟨m,hm,rfl,rfl,rfl,h1,h2⟩:=B;unfold fP at D;split at D
   ·rename_i Z;simp only[zk]at D;obtain⟨p,O,rfl⟩:=D;simp[Bv,Jl,Bd,EN,GG,Mh,TA,hu,E,h1,h2,O0,O,Z,hm]
   ·cases D
  ·cases B
 ·cases B
theorem kQ{s:Sl}{t:List UInt8}(B:cq C.P fr op=some (s.r,s.n))(D:lR h s=some t):Bv C S g h fr op=some (.str t,h):=by
 unfold cq at B;split at B
 ·split at B
  ·rename_i hu hd E;split at B
   ·rename_i he;simp only[zb,ze]at B;obtain⟨e1,e2⟩:=B;unfold lR at D;rw[<-e1,<-e2]at D;split at D
    ·injection D with D;subst D;simp[Bv,Jl,Bd,EN,GG,Mh,SG,hu,hd,E,he]
    ·rename_i a;cases Z:h.get a.1 with
     |none=>
      rw[Z]at D;split at D
      ·simp at D
      ·simp[DG]at D
     | some ob=>
      split at D
      ·rename_i M;rw[Z]at D;injection D with D;subst D;simp[Bv,Jl,Bd,EN,GG,Mh,SG,hu,hd,E,he,Z,M]
      ·rename_i M;obtain⟨cs,O,h4⟩:=AJ D;rw[Z]at O;simp[Bv,Jl,Bd,EN,GG,Mh,SG,hu,hd,E,he,Z,M,O,h4]
   ·cases B
  ·cases B
 ·cases B
theorem lQ{e:TypeId}{bytes:Nat}{z cs:List AD}{l c:Int}(B:fe C.P fr op=some (e,bytes,z,l,c))(D:kf bytes z l c=some cs):Bv C S g h fr op=some (.slice (some (h.size,0)) l.toNat,h.push (.cells (some e) 2 cs)):=by
 unfold fe at B;split at B
 ·split at B
  ·rename_i hu E hy;split at B
   ·rename_i i hi;split at B
    ·rename_i z' hz;split at B
     ·rename_i zc hzc;split at B
      ·rename_i L;simp only[zb,ze]at B;obtain⟨rfl,rfl,rfl,rfl,rfl⟩:=B;unfold kf at D;split at D
       ·rename_i J;injection D with D;subst D;obtain⟨q1,q2,q3,q4⟩:=J;simp only[Bv,Jl,Bd,TH,Md,hu,E,hy,hi,hz,hzc];rw[zl ⟨q1,q2,q3,q4,L.1,L.2⟩];rfl
       ·cases D
      ·cases B
     ·cases B
    ·cases B
   ·cases B
  ·cases B
 ·cases B
theorem gx{f:FuncId}{args:List AD}{v:AD}(B:Oz fr op=some (f,args))(D:S.call g h f args=some (v,h1)):Bv C S g h fr op=some (v,h1):=by
 unfold Oz at B;split at B
 ·split at B
  ·rename_i he;simp only[zb,ze]at B;obtain⟨rfl,rfl⟩:=B;simp only[Bv,he];exact D
  ·cases B
 ·cases B
theorem GX{e:TypeId}{sz bytes n:Nat}{s t:Sl}{x:AD}(B:gW C.P fr op=some (e,sz,bytes,s.r,s.n,n,x))(D:app e sz bytes g h s n x=some (t,h1)):Bv C S g h fr op=some (.slice t.r t.n,h1):=by
 unfold gW at B;split at B
 ·split at B
  ·rename_i E ht0 ht1;split at B
   ·rename_i hu hd M;split at B
    ·rename_i i hi;split at B
     ·rename_i L;simp only[zb,ze]at B;obtain⟨rfl,rfl,rfl,e1,e2,rfl,rfl⟩:=B;unfold app at D;simp only[Bv,Jl,Bd,M0,E,Pn,ht0,ht1,hu,hd,M,hi,L.1,if_true,appendCore];rw[e1,e2];split at D
      ·rename_i h0;simp only[zb,ze]at D;obtain⟨rfl,rfl⟩:=D;rw[zl h0]
      ·rename_i h0;rw[zj h0];split at D
       ·rename_i J;rw[zl ⟨L.2.1,J.1,J.2,L.2.2⟩];split at D
        ·rename_i new JY O h4;simp only[zk]at O;obtain⟨new0,O,rfl⟩:=O;simp only[O,h4,zh];split at D
         ·rename_i V;rw[zl V];split at D
          ·rename_i G;simp only[zb,ze]at D;obtain⟨rfl,rfl⟩:=D;simp[G]
          ·rename_i a G;split at D
           ·rename_i Z;split at D
            ·rename_i hm;simp only[zb,ze]at D;obtain⟨rfl,rfl⟩:=D;simp[G,Z,hm]
            ·cases D
           ·cases D
         ·cases D
        ·cases D
       ·cases D
     ·cases B
    ·cases B
   ·cases B
  ·cases B
 ·cases B
theorem Za{v:AD}{ob:Cs}(B:iD C.P fr op h.size=some (v,ob))(F:some (h.push ob)=some h1):Bv C S g h fr op=some (v,h1):=by
 injection F with F;rw[<-F];exact mO B
theorem jy{e:TypeId}{bytes:Nat}{z cs:List AD}{l c:Int}(B:fe C.P fr op=some (e,bytes,z,l,c))(D:kf bytes z l c=some cs)(F:some (h.push (.cells (some e) 2 cs))=some h1):Bv C S g h fr op=some (.slice (some (h.size,0)) l.toNat,h1):=by
 injection F with F;rw[<-F];exact lQ B D
theorem gH{k:IntKind}{a b:Int}(B:gL fr op=some (false,k,a,b))(L:(b !=0)=true):Bv C S g h fr op=some (.int k (a.tmod b),h):=by
 unfold gL at B;split at B
 ·split at B
  ·split at B
   ·simp at B
   ·cases B
  ·rename_i E hy;split at B
   ·rename_i hk;simp only[zb,ze,qs]at B;obtain⟨rfl,rfl,rfl⟩:=B;subst hk;have hb':=bne_iff_ne.1 L;simp[Bv,Jl,Bd,Ku,Vu,W6,E,hy,QH,hb']
   ·cases B
  ·cases B
 ·cases B
theorem j6{k:IntKind}{a b:Int}(B:YI fr op=some (true,k,a,b))(L:decide (0<=b)=true):Bv C S g h fr op=some (.int k (My k a b),h):=by
 unfold YI at B;split at B
 ·split at B
  ·rename_i E hy;simp only[zb,ze,qs]at B;obtain⟨rfl,rfl,rfl⟩:=B;have hb':=of_decide_eq_true L;simp[Bv,Jl,Bd,Ku,Vu,W6,E,hy,Un,qT.2 hb',My]
  ·simp at B
  ·cases B
 ·cases B
theorem Dh{a b:List UInt8}(B:gj fr op=some (a,b))(L:decide (a.length+b.length<=9223372036854775807)=true):Bv C S g h fr op=some (.str (a++b),h):=by
 unfold gj at B;split at B
 ·split at B
  ·rename_i E hy;simp only[zb,ze]at B;obtain⟨rfl,rfl⟩:=B;have hb':=of_decide_eq_true L;simp[Bv,Jl,Bd,Ku,Vu,W6,E,hy,Uu,hb']
  ·cases B
 ·cases B
theorem gT{e:TypeId}{t:List UInt8}(B:gX C.P fr op=some (e,t))(L:decide (t.length<=1099511627776)=true)(F:some (h.push (.cells (some e) 2 (t.map λb=>.int .u8 b.toNat)))=some h1):Bv C S g h fr op=some (.slice (some (h.size,0)) t.length,h1):=by
 unfold gX at B;split at B
 ·split at B
  ·rename_i hu hd E;split at B
   ·rename_i he hz;simp only[zb,ze]at B;obtain⟨rfl,rfl⟩:=B;have hb':=of_decide_eq_true L;injection F with F;rw[<-F];simp[Bv,Jl,Bd,TH,YP,hu,hd,E,he,hz,hb']
   ·cases B
  ·cases B
 ·cases B
end
end Go.Av
end
/-
 A part.
-/
section
namespace Go.Av
set_option linter.unusedSimpArgs false
set_option linter.unusedVariables false
def Hd:Nat->Nat->List (Nat×List Nat)
 |_,0=>[]
 |i,k+1=>(i,[])::Hd (i+1) k
@[simp] theorem JK (tch:List (Nat×Nat)):Jt tch []=[]:=by
 unfold Jt;rw[qI];intro a _;rfl
section
variable {C:Hv} {S:Self} {g:Gd} {ops:Array Oper}
theorem Jf:∀(k i:Nat) (tch:List (Nat×Nat)) (fr:Fr) (h:AF),i+k=ops.size->DH C S g ops (Hd i k) tch fr h=Eb C S g ops (ops.toList.drop i) fr h
 |0,i,tch,fr,h,e=>by
  have:ops.toList.drop i=[]:=qb (by rw[yB];omega);rw[this];rfl
 | k+1,i,tch,fr,h,e=>by
  have hi:i<ops.size:=by omega
  have D:i<ops.toList.length:=by rw[yB];exact hi
  rw[zT D,Hd,DH,Eb,Array.getElem?_eq_getElem hi];simp only[Array.getElem_toList];cases DN ops fr ops[i]with
  |none=>rfl
  | some b=>
   cases b with
   |false=>exact Jf k (i+1) _ _ _ om
   |true=>
    simp only[JK,ye];cases Bv C S g h fr ops[i].op with
    |none=>rfl
    |some x=>exact Jf k (i+1) _ _ _ om
end
def AT(C:Hv)(g:Gd)(ops:Array Oper)(pl:List (Nat×List Nat))(tch:List (Nat×Nat))(fr:Fr)(h:AF)(K:Fr->AF->Prop):Prop:=
 ∃n fr' h',DH C (DY C n) g ops pl tch fr h=some (fr',h')/\K fr' h'
structure AW(C:Hv)(f:FuncId)(g:Gd)(c:Code)(fr:Fr)(h:AF)(Q:CT->Fr->AF->Prop):Prop where
 ex:∃n e fr' h',Bl C (DY C n) f g c fr h=some (e,fr',h')/\Q e fr' h'
def SZ(C:Hv)(g:Gd)(h:AF)(f:FuncId)(args:List AD)(v:AD)(h':AF):Prop:=∃n,K5 C (DY C n) g h f args=some (v,h')
def Cf(C:Hv)(g:Gd)(h:AF)(f:FuncId)(args:List AD)(v:AD)(h':AF):Prop:=∃n,(DY C n).call g h f args=some (v,h')
section
variable {C:Hv} {f:FuncId} {g:Gd} {ops:Array Oper} {pl:List (Nat×List Nat)} {tch:List (Nat×Nat)} {fr:Fr} {h h1:AF} {K:Fr->AF->Prop} {N:Nat} {l:List (Nat×AD)} {i:Nat} {U:List Nat}
theorem An(h0:K fr h):AT C g ops [] tch fr h K:=⟨0,fr,h,rfl,h0⟩
theorem YY{S:Nat}{pl':List (Nat×List Nat)}{tch':List (Nat×Nat)}{fr1:Fr}{h1:AF}(F:AT C g ops pl tch fr1 h1 K)
  (E:∀n x,S<=n->DH C (DY C n) g ops pl tch fr1 h1=some x->DH C (DY C n) g ops pl' tch' fr h=some x):AT C g ops pl' tch' fr h K:=by
 obtain⟨n,fr',h',r1,r2⟩:=F;exact⟨max S n,fr',h',E _ _ (yy _ _) (Iy (EE C (yq _ _)) r1),r2⟩
def Steps(C:Hv)(g:Gd)(h:AF)(fr:Fr)(op:Op)(v:AD)(h1:AF):Prop:=∃n,Bv C (DY C n) g h fr op=some (v,h1)
theorem Steps.of{op:Op}{v:AD}(B:Bv C (DY C 0) g h fr op=some (v,h1)):Steps C g h fr op v h1:=⟨0,B⟩
theorem Steps.call{op:Op}{v:AD}{f':FuncId}{args:List AD}(B:Oz fr op=some (f',args))(G:Cf C g h f' args v h1):Steps C g h fr op v h1:=by
 obtain⟨n,M⟩:=G;exact⟨n,gx B M⟩
theorem Kl{v:AD}{U:List Nat}(hw:runs ops fr i=true)(B:Steps C ⟨g.floor,Jt tch U++g.BW⟩ h fr (P7 ops i) v h1)(T:RE C ops U (put fr (Ij ops i) v) h1=true)(M:AT C g ops pl (ID C.P h fr i (P7 ops i) tch) (put fr (Ij ops i) v) h1 K):
  AT C g ops ((i,U)::pl) tch fr h K:=by
 obtain⟨m,hm⟩:=B;refine YY (S:=m) M λn x hle E=>?_;have W:=MU (EE C hle) hm;unfold runs at hw;unfold P7 at W E;unfold Ij at E T;rw[DH];cases V:ops[i]? with
 |none=>rw[V]at hw;cases hw
 | some o=>
  rw[V]at hw W E T;simp only at hw W E T⊢;cases hwa:DN ops fr o with
  |none=>rw[hwa]at hw;cases hw
  |some b=>
   rw[hwa]at hw;simp only at hw;subst hw;simp only[W,T,zL];exact E
theorem We(hw:Y2 ops fr i=true)(M:AT C g ops pl tch (put fr (Ij ops i) (.tuple [])) h K):AT C g ops ((i,U)::pl) tch fr h K:=by
 refine YY (S:=0) M λn x hle E=>?_;unfold Y2 at hw;unfold Ij at E;rw[DH];cases V:ops[i]? with
 |none=>rw[V]at hw;cases hw
 | some o=>
  rw[V]at hw E;simp only at hw E⊢;cases hwa:DN ops fr o with
  |none=>rw[hwa]at hw;cases hw
  |some b=>
   rw[hwa]at hw;simp only[zH]at hw;subst hw;exact E
def cT(ops:Array Oper)(i:Nat)(fr:Fr)(out:List (Nat×AD)):Bool×List AD:=(Y2 ops fr i,out.map λp=>nth (put fr (Ij ops i) (.tuple [])) p.1)
theorem JW(out:List (Nat×AD))(H:Has fr N l)(hw:∀fr,cT ops i (Da N l fr) out=(true,out.map (·.2)))(M:∀fr',Has fr' N out->AT C g ops pl tch fr' h K):AT C g ops ((i,U)::pl) tch fr h K:=by
 have e:=Fx H;have hw':=hw fr;rw[e]at hw';unfold cT at hw';simp only[ze]at hw';exact We hw'.1 (M _ (Has.of_map (by simp[H.1]) hw'.2))
def HS(P:Program)(ops:Array Oper):List Nat->Fr->Option Fr
 |[],fr=>some fr
 | i::r,fr=>
  match ops[i]? with
  |none=>none
  |some o=>
   match DN ops fr o with
   |some true=>(match kN P fr o.op with|some v=>HS P ops r (put fr o.dst v)|none=>none)
   |some false=>HS P ops r (put fr o.dst (.tuple []))
   |none=>none
def Eo:List (Nat×List Nat)->List Nat
 |[]=>[]
 |(i,_)::r=>i::Eo r
theorem Zh{P:Program}{fr:Fr}{op:Op}{v:AD}(h:kN P fr op=some v):Bd P op=0:=by
 unfold kN at h;split at h
 ·assumption
 ·cases h
theorem OA:∀(sg pl:List (Nat×List Nat)) (fr fr1:Fr),(∀x∈sg,x.2=[])->HS C.P ops (Eo sg) fr=some fr1->AT C g ops pl tch fr1 h K->AT C g ops (sg++pl) tch fr h K
 |[],pl,fr,fr1,_,B,M=>by
  simp only[Eo,HS,zb]at B;subst B;exact M
 | (i,U)::sg,pl,fr,fr1,hU,B,M=>by
  have hU0:U=[]:=hU (i,U) (by simp);subst hU0;have ih:=λfr2 E=>OA sg pl fr2 fr1 (λx E=>hU x (by simp[E])) E M;simp only[Eo,HS]at B;split at B
  ·cases B
  ·rename_i o V;split at B
   ·rename_i hw;split at B
    ·rename_i v hv;have e1:P7 ops i=o.op:=by simp[P7,V]
     have e2:Ij ops i=o.dst:=by simp[Ij,V]
     refine Kl (v:=v) (h1:=h) (by simp[runs,V,hw]) (.of (by rw[e1];exact mr hv)) rfl ?_;rw[e1,e2];have:ID C.P h fr i o.op tch=tch:=by unfold ID;rw[Zh hv];rfl
     rw[this];exact ih _ B
    ·cases B
   ·rename_i hw;have e2:Ij ops i=o.dst:=by simp[Ij,V]
    refine We (by simp[Y2,V,hw]) ?_;rw[e2];exact ih _ B
   ·cases B
theorem HM{P:Program}:∀(l:List Nat) (fr fr':Fr),HS P ops l fr=some fr'->fr'.length=fr.length
 |[],fr,fr',h=>by simp only[HS,zb]at h;rw[h]
 | i::l,fr,fr',h=>by
  simp only[HS]at h;split at h
  ·cases h
  ·split at h
   ·split at h
    ·rw[HM l _ _ h];simp
    ·cases h
   ·rw[HM l _ _ h];simp
   ·cases h
theorem iy(sg:List (Nat×List Nat))(out:List (Nat×AD))(H:Has fr N l)(hU:∀x∈sg,x.2=[])
  (hk:∀fr,(HS C.P ops (Eo sg) (Da N l fr)).map (λx=>out.map (λp=>nth x p.1))=some (out.map (·.2)))
  (M:∀fr',Has fr' N out->AT C g ops pl tch fr' h K):AT C g ops (sg++pl) tch fr h K:=by
 have hk':=hk fr;rw[Fx H]at hk';cases G:HS C.P ops (Eo sg) fr with
 |none=>rw[G]at hk';cases hk'
 |some fr1=>
  rw[G]at hk';simp only[zh,zb]at hk';exact OA sg pl fr fr1 hU G (M fr1 (Has.of_map ((HM _ _ _ G).trans H.1) hk'))
def T8:List (Nat×List Nat)->Bool
 |[]=>true
 |(_,U)::r=>U.isEmpty&&T8 r
theorem OD:∀{sg:List (Nat×List Nat)},T8 sg=true->∀x∈sg,x.2=[]
 |[],_,x,E=>by cases E
 |(i,U)::r,h,x,E=>by
  simp only[T8,zf,List.isEmpty_iff]at h;cases E with
  |head=>exact h.1
  |tail _ E=>exact OD h.2 x E
theorem Ki{n:Nat}{b:List (Nat×List Nat)}:∀(a:List (Nat×List Nat)) (tch:List (Nat×Nat)) (fr fr1:Fr) (h h1:AF),DH C (DY C n) g ops a tch fr h=some (fr1,h1)->
  ∃tch',∀m,n<=m->DH C (DY C m) g ops (a++b) tch fr h=DH C (DY C m) g ops b tch' fr1 h1
 |[],tch,fr,fr1,h,h1,G=>by
  simp only[DH,zb,ze]at G;obtain⟨rfl,rfl⟩:=G;exact⟨tch,λ_ _=>rfl⟩
 | (i,U)::a,tch,fr,fr1,h,h1,G=>by
  rw[DH]at G;split at G
  ·cases G
  ·rename_i o V;split at G
   ·rename_i hw;split at G
    ·rename_i v h' B;have T:RE C ops U (put fr o.dst v) h'=true:=by
      cases T:RE C ops U (put fr o.dst v) h' with
      |false=>rw[T]at G;cases G
      |true=>rfl
     rw[T]at G;simp only[zL]at G;obtain⟨t,ht⟩:=Ki a _ _ _ _ _ G;refine⟨t,λm hm=>?_⟩;rw[yL,DH,V];simp only[hw,MU (EE C hm) B,T,zL];exact ht m hm
    ·cases G
   ·rename_i hw;obtain⟨t,ht⟩:=Ki a _ _ _ _ _ G;refine⟨t,λm hm=>?_⟩;rw[yL,DH,V];simp only[hw];exact ht m hm
   ·cases G
theorem iL(sg:List (Nat×List Nat))(I:Fr->AF->Prop)(h1:AT C g ops sg tch fr h I)(h2:∀t fr h,I fr h->AT C g ops pl t fr h K):AT C g ops (sg++pl) tch fr h K:=by
 obtain⟨n,fr1,h1',r1,r2⟩:=h1;obtain⟨t0,ht0⟩:=Ki (b:=pl) sg tch fr fr1 h h1' r1;obtain⟨m,fr2,h2',r3,r4⟩:=h2 t0 _ _ r2;refine⟨max n m,fr2,h2',?_,r4⟩;rw[ht0 _ (yy _ _)];exact Iy (EE C (yq _ _)) r3
def Nh(next:Fr->AF->Prop)(Q:CT->Fr->AF->Prop):CT->Fr->AF->Prop
 | .normal,fr,h=>next fr h
 |e,fr,h=>Q e fr h
def jf(id:Nat)(Q:CT->Fr->AF->Prop):CT->Fr->AF->Prop
 | .exit i,fr,h=>bif Nat.beq i id then Q .normal fr h else Q (.exit i) fr h
 |e,fr,h=>Q e fr h
variable {Q:CT->Fr->AF->Prop} {a b c c':Code}
def left:Code->Code
 | .seq a _=>a
 | .cond _ a _=>a
 | .block _ c=>c
 | .loop c=>c
 | .scope c=>c
 | .rangeFunc _ _ a _=>a
 |c=>c
def right:Code->Code
 | .seq _ b=>b
 | .cond _ _ b=>b
 | .rangeFunc _ _ _ b=>b
 |c=>c
def opsOf:Code->Array Oper
 | .region _ ops _=>ops
 |_=>#[]
inductive Sh where
 |skip|region (id n:Nat) (draw:Bool)|seq|cond (x:Operand)|block (id:Nat)|loop|exit (id:Nat)|scope|label|ret|range (x:Operand) (ps:List Tmp)|other
def shape:Code->Sh
 | .skip=>.skip
 | .region id ops draw=>.region id ops.size draw
 | .seq _ _=>.seq
 | .cond x _ _=>.cond x
 | .block id _=>.block id
 | .loop _=>.loop
 | .exit id=>.exit id
 | .scope _=>.scope
 | .rangeFunc x ps _ _=>.range x ps.toList
 | .label _=>.label
 | .ret=>.ret
 |_=>.other
theorem BJ{Q':CT->Fr->AF->Prop}(F:AW C f g c fr h Q')(J:∀e fr h,Q' e fr h->Q e fr h):AW C f g c fr h Q:=by
 obtain⟨n,e,fr',h',h1,h2⟩:=(F).ex;exact⟨⟨n,e,fr',h',h1,J _ _ _ h2⟩⟩
theorem Xi(B:shape c=.seq)(F:AW C f g (left c) fr h (Nh (λfr h=>AW C f g (right c) fr h Q) Q)):AW C f g c fr h Q:=by
 cases c<;>simp[shape]at B;simp only[left,right]at F;obtain⟨n,e,fr1,h1,E,J⟩:=(F).ex;cases e with
 |normal=>
  obtain⟨m,e2,fr2,h2,X,Y⟩:=J.ex;refine⟨⟨max n m,e2,fr2,h2,?_,Y⟩⟩;simp only[Bl,Dr (EE C (yy n m)) E,Dr (EE C (yq n m)) X]
 |exit id=>exact⟨⟨n,_,_,_,by simp only[Bl,E],J⟩⟩
 |ret=>exact⟨⟨n,_,_,_,by simp only[Bl,E],J⟩⟩
theorem jB{id n:Nat}(pl:List (Nat×List Nat))(B:shape c=.region id n false)(hp:Hd 0 n=pl)(F:AT C g (opsOf c) pl [] fr h (λfr' h'=>Q .normal fr' h')):AW C f g c fr h Q:=by
 cases c<;>simp[shape]at B;obtain⟨rfl,rfl,rfl⟩:=B;obtain⟨n,fr',h',G,J⟩:=F;subst hp;simp only[opsOf]at G;rw[Jf _ _ _ _ _ om,yn]at G;exact⟨⟨n,.normal,fr',h',by simp only[Bl,yO,G],J⟩⟩
theorem Yo{id n:Nat}(B:shape c=.region id n true)(pl:List (Nat×List Nat))(hp:C.OZ f id=pl)(F:AT C g (opsOf c) pl [] fr h (λfr' h'=>Q .normal fr' h')):AW C f g c fr h Q:=by
 cases c<;>simp[shape]at B;obtain⟨rfl,rfl,rfl⟩:=B;obtain⟨n,fr',h',G,J⟩:=F;simp only[opsOf]at G;exact⟨⟨n,.normal,fr',h',by simp only[Bl,zL,hp,G],J⟩⟩
theorem Rc(B:shape c=.skip)(J:Q .normal fr h):AW C f g c fr h Q:=by cases c<;>simp[shape]at B;exact⟨⟨0,_,_,_,rfl,J⟩⟩
theorem SL(B:shape c=.label)(J:Q .normal fr h):AW C f g c fr h Q:=by cases c<;>simp[shape]at B;exact⟨⟨0,_,_,_,rfl,J⟩⟩
theorem Be{i:Nat}(B:shape c=.exit i)(J:Q (.exit i) fr h):AW C f g c fr h Q:=by cases c<;>simp[shape]at B;subst B;exact⟨⟨0,_,_,_,rfl,J⟩⟩
theorem hM(B:shape c=.ret)(J:Q .ret fr h):AW C f g c fr h Q:=by cases c<;>simp[shape]at B;exact⟨⟨0,_,_,_,rfl,J⟩⟩
theorem DM{x:Operand}(B:shape c=.cond x)(H:Has fr N l)(E:∀fr,ev (Da N l fr) x=.bool true)(F:AW C f g (left c) fr h Q):AW C f g c fr h Q:=by
 cases c<;>simp[shape]at B;subst B;have:=E fr;rw[Fx H]at this;obtain⟨n,e,fr',h',h1,h2⟩:=(F).ex;exact⟨⟨n,e,fr',h',by simp only[Bl,this];exact h1,h2⟩⟩
theorem G8{x:Operand}(B:shape c=.cond x)(H:Has fr N l)(E:∀fr,ev (Da N l fr) x=.bool false)(F:AW C f g (right c) fr h Q):AW C f g c fr h Q:=by
 cases c<;>simp[shape]at B;subst B;have:=E fr;rw[Fx H]at this;obtain⟨n,e,fr',h',h1,h2⟩:=(F).ex;exact⟨⟨n,e,fr',h',by simp only[Bl,this];exact h1,h2⟩⟩
theorem Aa{id:Nat}(B:shape c=.block id)(F:AW C f g (left c) fr h (jf id Q)):AW C f g c fr h Q:=by
 cases c<;>simp[shape]at B;subst B;simp only[left]at F;obtain⟨n,e,fr',h',h1,h2⟩:=(F).ex;cases e with
 |normal=>exact⟨⟨n,_,_,_,by simp only[Bl,h1],h2⟩⟩
 |ret=>exact⟨⟨n,_,_,_,by simp only[Bl,h1],h2⟩⟩
 |exit i=>
  rename_i id _;simp only[jf]at h2;cases L:Nat.beq i id with
  |true=>rw[L]at h2;exact⟨⟨n,.normal,fr',h',by simp only[Bl,h1,L,zL],h2⟩⟩
  |false=>rw[L]at h2;exact⟨⟨n,.exit i,fr',h',by simp only[Bl,h1,L,yO],h2⟩⟩
theorem S8(B:shape c=.scope)(F:AW C f g (left c) fr h Q):AW C f g c fr h Q:=by
 cases c<;>simp[shape]at B;simp only[left]at F;obtain⟨n,e,fr',h',h1,h2⟩:=(F).ex;exact⟨⟨n,e,fr',h',by simp only[Bl];exact h1,h2⟩⟩
structure TR(C:Hv)(f:FuncId)(g:Gd)(c:Code)(fr:Fr)(h:AF)(Q:CT->Fr->AF->Prop):Prop where
 ex:∃n e fr' h',Ic C (DY C n) f g c fr h=some (e,fr',h')/\Q e fr' h'
def Wb(c:Code):Bool:= !Ly c&&(match c with| .seq _ _=>false|_=>true)
theorem LZ(B:Wb c=true)(F:AW C f g c fr h Q):TR C f g c fr h Q:=by
 obtain⟨n,e,fr',h',h1,h2⟩:=F.ex;simp only[Wb,zf,zH]at B;refine⟨⟨n,e,fr',h',?_,h2⟩⟩;cases c<;>first|(simp at B;done)|(simp only[Ic,B.1,yO];exact h1)
theorem LK(B:shape c=.seq)(F:TR C f g (left c) fr h (Nh (λfr h=>TR C f g (right c) fr h Q) Q)):TR C f g c fr h Q:=by
 cases c<;>simp[shape]at B;simp only[left,right]at F;obtain⟨n,e,fr1,h1,E,J⟩:=(F).ex;cases e with
 |normal=>
  obtain⟨m,e2,fr2,h2,X,Y⟩:=J.ex;refine⟨⟨max n m,e2,fr2,h2,?_,Y⟩⟩;simp only[Ic,MV (EE C (yy n m)) E,MV (EE C (yq n m)) X]
 |exit id=>exact⟨⟨n,_,_,_,by simp only[Ic,E],J⟩⟩
 |ret=>exact⟨⟨n,_,_,_,by simp only[Ic,E],J⟩⟩
theorem RY{id n:Nat}{v:AD}(pl:List (Nat×List Nat))(out:List (Nat×AD))(B:Ly c=true)(hs2:shape c=.region id (n+1) false)(hp:Hd 1 n=pl)(H:Has fr N l)
  (hsel:∀fr,Tc C.P g h (Da N l fr) (P7 (opsOf c) 0)=some (v,h1)) (V:∀fr,out.map (λp=>nth (put (Da N l fr) (Ij (opsOf c) 0) v) p.1)=out.map (·.2))
  (F:∀fr',Has fr' N out->AT C g (opsOf c) pl [] fr' h1 (λfr' h'=>Q .normal fr' h')):TR C f g c fr h Q:=by
 have R:=hsel fr;have ho':=V fr;rw[Fx H]at R ho';cases c<;>simp[shape]at hs2;rename_i id0 ops draw;obtain⟨rfl,M,rfl⟩:=hs2;obtain⟨k,fr',h',G,J⟩:=F _ (Has.of_map (by simp[H.1]) ho');subst hp;simp only[opsOf]at G R;rw[Jf _ _ _ _ _ om]at G;refine⟨⟨k,.normal,fr',h',?_,J⟩⟩;simp only[Ic,B,zL,KS];have D:0<ops.toList.length:=by rw[yB];omega
 have e0:ops.toList=ops[0]::ops.toList.drop 1:=by
  have:=zT D;simpa using this
 have e1:P7 ops 0=ops[0].op:=by simp[P7,Array.getElem?_eq_getElem (show 0<ops.size by omega)]
 have e2:Ij ops 0=ops[0].dst:=by simp[Ij,Array.getElem?_eq_getElem (show 0<ops.size by omega)]
 rw[e1]at R;rw[e2]at G;rw[e0];simp only[R,G]
theorem FG(B:shape c=.loop)(F:AW C f g (left c) fr h (Nh (λfr h=>AW C f g c fr h Q) Q)):AW C f g c fr h Q:=by
 cases c<;>simp[shape]at B;rename_i c;simp only[left]at F;obtain⟨n,e,fr1,h1,E,J⟩:=(F).ex;cases e with
 |normal=>
  obtain⟨m,e2,fr2,h2,X,Y⟩:=J.ex;refine⟨⟨max n m+1,e2,fr2,h2,?_,Y⟩⟩;have e1:=Dr (EE C (z8 (yy n m) (Nat.le_succ _))) E;have e2':=Dr (EE C (yq n m)) X;rw[Bl,e1];exact e2'
 |exit id=>exact⟨⟨n,_,_,_,by simp only[Bl,E],J⟩⟩
 |ret=>exact⟨⟨n,_,_,_,by simp only[Bl,E],J⟩⟩
theorem B7{σ ρ:Type}{step:σ->Option (σ⊕ρ)}{s:σ}{r:ρ}(B:shape c=.loop)(I:σ->Fr->AF->Prop)(D:loop step s=some r)(h0:I s fr h)
  (G:∀s o fr h,I s fr h->step s=some o->AW C f g (left c) fr h (Nh (λfr' h'=>∃s',o=.inl s'/\I s' fr' h') (λe fr' h'=>∃r',o=.inr r'/\(r'=r->Q e fr' h')))):AW C f g c fr h Q:=by
 cases c<;>simp[shape]at B;rename_i c;simp only[left]at G;obtain⟨k,hk⟩:=Ug D;have key:∀k s fr h,I s fr h->Jx step k s=some r->AW C f g (.loop c) fr h Q:=by
  intro k
  induction k with
  |zero=>intro s fr h _ hk;cases hk
  | succ k ih=>
   intro s fr h hi hk;unfold Jx at hk;cases W:step s with
   |none=>rw[W]at hk;cases hk
   | some o=>
    rw[W]at hk;obtain⟨n,e,fr1,h1,E,J⟩:=(G s o fr h hi W).ex;cases e with
    |normal=>
     obtain⟨s',rfl,hI⟩:=J;obtain⟨m,e2,fr2,h2,X,Y⟩:=(ih s' fr1 h1 hI hk).ex;refine⟨⟨max n m+1,e2,fr2,h2,?_,Y⟩⟩;have e1:=Dr (EE C (z8 (yy n m) (Nat.le_succ _))) E;have e2':=Dr (EE C (yq n m)) X;rw[Bl,e1];exact e2'
    |exit i=>
     obtain⟨r',rfl,hQ⟩:=J;injection hk with hk;exact⟨⟨n,_,_,_,by simp only[Bl,E],hQ hk⟩⟩
    |ret=>
     obtain⟨r',rfl,hQ⟩:=J;injection hk with hk;exact⟨⟨n,_,_,_,by simp only[Bl,E],hQ hk⟩⟩
 exact key k s fr h h0 hk
def Ps(P:Program)(f:FuncId):Code:=
 match P.funcs[f]? with
 |some fn=>(match fn.body with|some c=>cJ c|none=>.skip)
 |none=>.skip
def H6(P:Program)(f:FuncId):Code:=
 match P.funcs[f]? with
 |some fn=>(match fn.body with|some c=>c|none=>.skip)
 |none=>.skip
def Hj(P:Program)(f:FuncId):Option (Nat×List ResultVar):=
 match P.funcs[f]? with
 |some fn=>(match fn.body with|some _=>some (fn.ntmps,fn.results.toList)|none=>none)
 |none=>none
def Mm(P:Program)(rs:List ResultVar)(fr:Fr)(h:AF):Option AD:=
 match rs.mapM (JS P fr h)with
 |some [v]=>some v
 |some vs=>some (.tuple vs)
 |none=>none
structure kI(P:Program)(rs:List ResultVar)(v:AD)(h':AF)(e:CT)(fr:Fr)(h:AF):Prop where
 no:e=.ret\/e=.normal
 res:Mm P rs fr h=some v
 heap:h=h'
theorem dv{args:List AD}{v:AD}{h':AF}{n:Nat}{rs:List ResultVar}(hf:Hj C.P f=some (n,rs))
  (F:AW C f g (Ps C.P f) (args++List.replicate (n - args.length) (.tuple [])) h (kI C.P rs v h')):SZ C g h f args v h':=by
 obtain⟨m,e,fr',h2,E,J⟩:=(F).ex;unfold Hj at hf;unfold Ps at E;refine⟨m,?_⟩;unfold K5;split at hf
 ·rename_i fn hfn;split at hf
  ·rename_i c hc;simp only[zb,ze]at hf;obtain⟨rfl,rfl⟩:=hf;simp only[hfn,hc]at E⊢;cases e with
   |normal=>obtain⟨_,O,rfl⟩:=J;rw[E];simp only;rw[show Dz C.P fn fr' h2=some v from O];rfl
   |ret=>obtain⟨_,O,rfl⟩:=J;rw[E];simp only;rw[show Dz C.P fn fr' h2=some v from O];rfl
   |exit i=>rcases J.no with h|h<;>cases h
  ·cases hf
 ·cases hf
theorem start{args:List AD}{n:Nat}(ins:List (Nat×AD))(D:(args++List.replicate (n - args.length) (AD.tuple [])).length=n)(hi:ins.map (λp=>nth (args++List.replicate (n - args.length) (AD.tuple [])) p.1)=ins.map (·.2))
  (F:∀fr,Has fr n ins->AW C f g c fr h Q):AW C f g c (args++List.replicate (n - args.length) (.tuple [])) h Q:=F _ (Has.of_map D hi)
theorem jv{args args':List AD}{v:AD}{h':AF}(hk:C.kind f=1)(hc:CQ (C.still f) args=args')(L:SZ C g h f args' v h'):Cf C g h f args v h':=by
 obtain⟨n,M⟩:=L;refine⟨n+1,?_⟩;show JE C (DY C n) g h f args=_;unfold JE;rw[hk];simp only[hc];exact M
theorem kG{args args':List AD}{u v:AD}{h1 h':AF}(hk:C.kind f=7)(hc:CQ (C.still f) args=args')(L:SZ C g h f args' u h1)(hf:RP g h1 u=some (v,h')):Cf C g h f args v h':=by
 obtain⟨n,M⟩:=L;refine⟨n+1,?_⟩;show JE C (DY C n) g h f args=_;unfold JE;rw[hk];simp only[hc,M];exact hf
theorem closed{args:List AD}{v:AD}(n:Nat)(L:(K5 C (DY C n) g h f args).map (·.1)=some v):∃h',SZ C g h f args v h':=by
 cases E:K5 C (DY C n) g h f args with
 |none=>rw[E]at L;cases L
 |some x=>
  rw[E]at L;simp only[zh,zb]at L;exact⟨x.2,n,by rw[E,<-L]⟩
end
def UC:List Nat->Nat->Nat
 |[],_=>0
 |a::_,0=>a
 |_::l,i+1=>UC l i
def SE:List ((Nat×Nat)×List (Nat×List Nat))->Nat->Nat->List (Nat×List Nat)
 |[],_,_=>[]
 |((a,b),p)::l,f,id=>bif Nat.beq a f&&Nat.beq b id then p else SE l f id
def YW(C:Hv):Nat->Bool
 |0=>true
 | n+1=>YW C n&&(bif Nat.beq (C.kind n) 0||Nat.beq (C.kind n) 3 then true else
   match C.P.funcs[n]? with
   |some fn=> !(fn.name=="runtime.NumGoroutine")&&(match fn.body with|some c=>codeOk C n c|none=>true)
   |none=>true)
theorem Sj:∀{l:List Nat} {i:Nat},l.length<=i->UC l i=0
 |[],_,_=>rfl
 |_::l,0,h=>by simp at h
 |_::l,i+1,h=>Sj (l:=l) (by simpa using h)
theorem WM {C:Hv}:∀{n:Nat},YW C n=true->∀{f:Nat},f<n->C.kind f≠0->C.kind f≠3->∀{fn:Func} {c:Code},C.P.funcs[f]?=some fn->fn.body=some c->(fn.name=="runtime.NumGoroutine")=false/\codeOk C f c=true
 |0,_,f,hf,_,_,_,_,_,_=>by omega
 | n+1,h,f,hf,hk,hk3,fn,c,h1,h2=>by
  simp only[YW,zf]at h;by_cases e:f=n
  ·subst e;have O:=h.2;have:Nat.beq (C.kind f) 0=false:=by
    cases L:Nat.beq (C.kind f) 0 with
    |false=>rfl
    |true=>exact absurd (zt L) hk
   have this3:Nat.beq (C.kind f) 3=false:=by
    cases L:Nat.beq (C.kind f) 3 with
    |false=>rfl
    |true=>exact absurd (zt L) hk3
   rw[this,this3]at O;simp only[yY,yO,h1,h2,zf,zH]at O;exact O
  ·exact WM h.1 om hk hk3 h1 h2
def bm(P:Program)(OZ:Nat->Nat->List (Nat×List Nat)):Hv:=⟨P,λ_=>0,OZ,λ_ _ _ _=>none,λ_=>none,λ_ _ _=>false,λ_=>[],λ_ _=>none,gF⟩
def bW(P:Program)(OZ:Nat->Nat->List (Nat×List Nat))(f:FuncId)(a b:Code):Bool:=codeOk (bm P OZ) f a&&codeOk (bm P OZ) f b&&(KD a&&KD b)
theorem Qp{C C':Hv}(h1:C.P=C'.P)(h2:C.OZ=C'.OZ)(f:FuncId):∀c,codeOk C f c=codeOk C' f c:=by
 intro c
 induction c<;>simp_all[codeOk]
end Go.Av
end
