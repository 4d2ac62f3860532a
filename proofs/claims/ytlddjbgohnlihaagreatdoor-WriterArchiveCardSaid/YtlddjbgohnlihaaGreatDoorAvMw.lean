/-
 A part.
-/
import Derived.Test.YtlddjbgohnlihaaGreatDoorAvMap
import Derived.Test.YtlddjbgohnlihaaGreatDoorAvCo
namespace Go.Av
set_option linter.unusedVariables false
set_option linter.unusedSimpArgs false
def Bv{κ σ ρ:Type}(step:κ→σ→Option (σ⊕ρ)):List κ→σ→Option (σ⊕ρ)
 |[],s=>some (.inl s)
 |k::l,s=>
  match step k s with
  |some (.inl s')=>Bv step l s'
  |r=>r
def VB{κ σ ρ:Type}(step:κ→σ→Option (σ⊕ρ))(a b:κ)(s:σ):Option (σ⊕ρ):=
 match step a s with
 |some (.inl s')=>step b s'
 |r=>r
theorem RE{κ σ ρ:Type}{step:κ→σ→Option (σ⊕ρ)}{a b:κ}{l:List κ}{s:σ}:Bv step (a::b::l) s=match VB step a b s with|some (.inl s')=>Bv step l s'|r=>r:=by
 unfold VB;simp only[Bv];cases step a s with
 |none=>rfl
 |some x=>
  cases x with
  |inl s'=>rfl
  |inr r=>rfl
theorem Mr{κ σ ρ:Type}{step:κ→σ→Option (σ⊕ρ)}{l:List κ}(P:σ→Prop)(hP:∀a∈l,∀s s',P s→step a s=some (.inl s')→P s')(hc:∀a∈l,∀b∈l,∀s,P s→VB step a b s=VB step b a s):
  ∀l',l'.Perm l→∀s,P s→Bv step l' s=Bv step l s:=by
 have key:∀{l1 l2:List κ},l1.Perm l2→(∀a∈l1,a∈l)→∀s,P s→Bv step l1 s=Bv step l2 s:=by
  intro l1 l2 h
  induction h with
  |nil=>intro _ s _;rfl
  | cons x _ ih=>
   intro hm s T;simp only[Bv];cases D:step x s with
   |none=>rfl
   |some y=>
    cases y with
    |inl s'=>exact ih (fun a ha=>hm a (by simp[ha])) s' (hP x (hm x (by simp)) s s' T D)
    |inr r=>rfl
  |swap x y r=>
   intro hm s T;rw[RE,RE,hc y (hm y (by simp)) x (hm x (by simp)) s T]
  |trans h1 h2 ih1 ih2=>
   intro hm s T;rw[ih1 hm s T];exact ih2 (fun a ha=>hm a (h1.mem_iff.2 ha)) s T
 exact fun l' h s T=>key h (fun a ha=>h.mem_iff.1 ha) s T
def ZC:List (Nat×Nat×List Nat×List Nat×Option Nat)→FuncId→Nat→Option (List Nat×List Nat×Option Tmp)
 |[],_,_=>none
 |(f',b',x)::r,f,b=>bif Nat.beq f' f&&Nat.beq b' b then some x else ZC r f b
def Kz(i:Nat):List (Nat×AB)→AB
 |[]=>.undef
 |(k,v)::r=>bif Nat.beq k i then v else Kz i r
def fK(N:Nat)(l:List (Nat×AB)):Fr:=(List.range N).map fun i=>Kz i l
theorem Ra{fr:Fr}{i:Nat}:∀{l:List (Nat×AB)},(∀p∈l,nth fr p.1=p.2)→Kz i l=bif (l.map (·.1)).any (Nat.beq i)then nth fr i else .undef
 |[],_=>rfl
 | (k,v)::r,h=>by
  have ih:=Ra (fr:=fr) (i:=i) (l:=r) fun p B=>h p (by simp[B]);have h0:nth fr k=v:=h (k,v) (by simp);simp only[Kz,zU,List.any_cons];cases hb:Nat.beq k i with
  |true=>
   have e:=zu hb;subst e;simp[ym,h0]
  | false=>
   have:Nat.beq i k=false:=by
    cases h2:Nat.beq i k with
    |false=>rfl
    |true=>rw[zu h2,ym]at hb;cases hb
   rw[this,yJ];exact ih
theorem WU{ks:List Nat}{fr:Fr}{G:Nat→AB}(h:∀i,i<fr.length→(bif ks.any (Nat.beq i)then nth fr i else .undef)=G i):Er ks 0 fr=(List.range fr.length).map G:=by
 refine List.ext_getElem (by rw[Cv];simp) fun i h1 h2=>?_;rw[Cv]at h1;have e:=KP ks 0 fr i h1;rw[yq]at e;have e2:nth (Er ks 0 fr) i=(Er ks 0 fr)[i]'(by rw[Cv];exact h1):=by
  rw[FZ,zo,List.getElem?_eq_getElem (by rw[Cv];exact h1)];rfl
 rw[←e2,e,h i h1];simp
theorem QN{fr:Fr}{N:Nat}{l:List (Nat×AB)}(H:Has fr N l){ks:List Nat}(hk:l.map (·.1)=ks):Er ks 0 fr=fK N l:=by
 subst hk;rw[WU (G:=fun i=>Kz i l) fun i hi=>(Ra H.2).symm,H.1];rfl
theorem X4{N i:Nat}{l:List (Nat×AB)}(hi:i<N):nth (fK N l) i=Kz i l:=by
 rw[FZ,zo,List.getElem?_eq_getElem (by simp[fK];exact hi)];simp[fK]
theorem Wd{i:Nat}{l:List (Nat×AB)}:Kz i l=.undef∨∃p∈l,Kz i l=p.2:=by
 induction l with
 |nil=>exact .inl rfl
 | cons p r ih=>
  obtain⟨k,v⟩:=p;simp only[Kz];cases Nat.beq k i with
  |true=>exact .inr ⟨(k,v),by simp,rfl⟩
  |false=>
   rcases ih with h|⟨p,B,h⟩
   ·exact .inl h
   ·exact .inr ⟨p,by simp[B],h⟩
theorem Has.QL{fr:Fr}{N:Nat}{l:List (Nat×AB)}(H:Has fr N l){t:Nat}{v:AB}(ht:t<N)(K:(l.map (·.1)).any (Nat.beq t)=false):Has (fr.set t v) N ((t,v)::l):=by
 refine⟨by rw[yp];exact H.1,fun p B=>?_⟩;rcases zF.1 B with rfl|B
 ·rw[FY,zm ⟨rfl,by rw[H.1];exact ht⟩]
 ·rw[FY,zk]
  ·exact H.2 p B
  ·rintro⟨e,_⟩;have:(l.map (·.1)).any (Nat.beq t)=true:=y6.2 ⟨p.1,zZ.2 ⟨p,B,rfl⟩,by rw[e];exact ym _⟩;rw[this]at K;cases K
theorem YU{N n:Nat}{l:List (Nat×AB)}(h:∀p∈l,JW n p.2=true):(fK N l).all (JW n)=true:=by
 rw[zn];intro v hv;obtain⟨i,_,rfl⟩:=zZ.1 hv;rcases Wd (i:=i) (l:=l)with e|⟨p,B,e⟩
 ·rw[e];rfl
 ·rw[e];exact h p B
theorem Oe{k:Nat}{v:AB}:∀{l:List (Nat×AB)},(l.map (·.1)).Nodup→(k,v)∈l→Kz k l=v
 | (k',v')::r,K,hm=>by
  rw[zU,yQ]at K;simp only[Kz];rcases zF.1 hm with e|hm
  ·cases e;rw[ym];rfl
  ·cases hb:Nat.beq k' k with
   |true=>
    have e:=zu hb;exact absurd (zZ.2 ⟨(k,v),hm,e.symm⟩) K.1
   |false=>exact Oe K.2 hm
theorem Rh{N:Nat}{l:List (Nat×AB)}(K:(l.map (·.1)).Nodup)(hk:∀k∈l.map (·.1),k<N):Has (fK N l) N l:=
 ⟨by simp[fK],fun p B=>by rw[X4 (hk p.1 (zZ.2 ⟨p,B,rfl⟩))];exact Oe K B⟩
theorem SX{κ β:Type}{f:κ→β}{l:List κ}:∀{es:List β},es.Perm (l.map f)→∃l':List κ,l'.Perm l∧es=l'.map f:=by
 have key:∀{a b:List β},a.Perm b→∀{l:List κ},b=l.map f→∃l':List κ,l'.Perm l∧a=l'.map f:=by
  intro a b h
  induction h with
  |nil=>intro l e;cases l with|nil=>exact⟨[],.nil,rfl⟩|cons x r=>cases e
  | cons x _ ih=>
   intro l e;cases l with
   |nil=>cases e
   |cons y r=>
    injection e with e1 e2;obtain⟨l',h1,h2⟩:=ih e2;exact⟨y::l',h1.cons y,by rw[e1,h2];rfl⟩
  | swap x y r=>
   intro l e
   match l,e with
   |a::b::r',e=>
    injection e with e1 e2;injection e2 with e2 e3;exact⟨b::a::r',List.Perm.swap a b r',by rw[e1,e2,e3];rfl⟩
  |trans _ _ ih1 ih2=>
   intro l e;obtain⟨l1,h1,h2⟩:=ih2 e;obtain⟨l2,h3,h4⟩:=ih1 h2;exact⟨l2,h3.trans h1,h4⟩
 intro es h;exact key h rfl
theorem RQ{α:Type}{P:Nat→α→Prop}(hm:∀{n m a},n≤m→P n a→P m a):∀(l:List α),(∀a∈l,∃n,P n a)→∃n,∀a∈l,P n a
 |[],_=>⟨0,fun a h=>by cases h⟩
 |a::l,h=>by
  obtain⟨n,K⟩:=h a (by simp);obtain⟨m,hm'⟩:=RQ (P:=P) hm l fun b hb=>h b (by simp[hb]);refine⟨max n m,fun b hb=>?_⟩;rcases zF.1 hb with rfl|hb
  ·exact hm (yS _ _) K
  ·exact hm (yF _ _) (hm' b hb)
section
variable {κ σ ρ:Type} {step:κ→σ→Option (σ⊕ρ)} {enc:κ→AB×AB} {rnd:Nat→Fr×List AB→AB×AB→Option (Bool×Fr×List AB)} {st:σ→Fr×List AB} {rt:ρ→Fr×List AB}
def Sb(st:σ→Fr×List AB)(rt:ρ→Fr×List AB):σ⊕ρ→Bool×Fr×List AB
 | .inl s=>(false,st s)
 | .inr r=>(true,rt r)
theorem PU(hm:∀{n m a b x},n≤m→rnd n a b=some x→rnd m a b=some x):∀(k:Nat) (l:List κ) (s:σ),l.length=k→
  (∀p∈l,∀s q,step p s=some q→∃n,rnd n (st s) (enc p)=some (Sb st rt q))→(∀l',l'.Perm l→∃x,Bv step l' s=some x)→∃n,∀l',l'.Perm l→∀x,Bv step l' s=some x→De (rnd n) (l'.map enc) (st s)=some (Sb st rt x)
 |0,l,s,hl,hr,T=>by
  have:l=[]:=zy hl;subst this;refine⟨0,fun l' B x D=>?_⟩;have:l'=[]:=B.eq_nil;subst this;simp only[Bv,zd]at D;subst D;rfl
 | k +1,l,s,hl,hr,T=>by
  have key:∃n,∀p∈l,∀l2,(p::l2).Perm l→∀x,Bv step (p::l2) s=some x→De (rnd n) ((p::l2).map enc) (st s)=some (Sb st rt x):=by
   refine RQ (P:=fun n p=>∀l2,(p::l2).Perm l→∀x,Bv step (p::l2) s=some x→De (rnd n) ((p::l2).map enc) (st s)=some (Sb st rt x)) (fun hle h l2 B x D=>Hx (fun hr=>hm hle hr) _ (h l2 B x D)) l fun p B=>?_;obtain⟨l0,hl0⟩:∃l0,(p::l0).Perm l:=by
    obtain⟨a,b,rfl⟩:=List.append_of_mem B;exact⟨a++b,List.perm_middle.symm⟩
   cases hst:step p s with
   |none=>
    obtain⟨x,D⟩:=T _ hl0;simp only[Bv,hst]at D;cases D
   | some q=>
    obtain⟨n1,hn1⟩:=hr p B s q hst;cases q with
    |inr r=>
     refine⟨n1,fun l2 _ x D=>?_⟩;simp only[Bv,hst,zd]at D;subst D;simp only[zU,De,hn1,Sb]
    | inl s'=>
     have hlen:l0.length=k:=by have:=hl0.length_eq;simp only[zt]at this;omega
     obtain⟨n2,hn2⟩:=PU hm k l0 s' hlen (fun p' hp'=>hr p' (hl0.mem_iff.1 (by simp[hp']))) (fun l' O=>by
      obtain⟨x,D⟩:=T (p::l') ((O.cons p).trans hl0);simp only[Bv,hst]at D
      exact⟨x,D⟩)
     refine⟨max n1 n2,fun l2 h2 x D=>?_⟩;simp only[Bv,hst]at D;have:=hn2 l2 ((h2.trans hl0.symm).cons_inv) x D;simp only[zU,De,hm (yS n1 n2) hn1,Sb];exact Hx (fun hr=>hm (yF n1 n2) hr) _ this
  obtain⟨n,K⟩:=key;refine⟨n,fun l' B x D=>?_⟩;cases l' with
  |nil=>have:=B.length_eq;simp[hl]at this
  |cons p l2=>exact K p (B.mem_iff.1 (by simp)) l2 B x D
end
structure Q9(C:Gp)(f:FuncId)(g:Gd)(c:Code)(fr:Fr)(h:AI)(Q:CI→Fr→AI→Prop):Prop where
 ex:∃n e fr' h',GW C (DL C n) f g c fr h=some (e,fr',h')∧Q e fr' h'
def Yz(c:Code):Bool:=(QW c).isSome
def XE:Code→Bool
 | .seq a b=> !Yz (.seq a b)&&(XE a&&XE b)
 |_=>true
def RX(c:Code):UH:=(QW c).getD ⟨#[],0,#[],0,0,#[],.skip⟩
section
variable {C:Gp} {f:FuncId} {g:Gd} {c:Code} {fr:Fr} {h:AI} {Q:CI→Fr→AI→Prop} {N:Nat}
theorem VI{S:Self}:∀(c:Code),XE c=true→∀(fr:Fr) (h:AI),GW C S f g c fr h=BU C S f g c fr h:=by
 intro c
 induction c with
 | seq a b iha ihb=>
  intro K fr h;simp only[XE,zh,zK]at K;have:QW (.seq a b)=none:=by
   have:=K.1;unfold Yz at this;cases hq:QW (.seq a b)with
   |none=>rfl
   |some q=>rw[hq]at this;cases this
  simp only[GW,this,BU,iha K.2.1];cases BU C S f g a fr h with
  |none=>rfl
  |some x=>
   obtain⟨e,fr1,h1⟩:=x;cases e with
   |normal=>exact ihb K.2.2 _ _
   |exit i=>rfl
   |ret=>rfl
 |_=>intro _ fr h;simp only[GW]
theorem J0(hh:AW C f g c fr h Q)(T:XE c=true:=by kernel_rfl):Q9 C f g c fr h Q:=by
 obtain⟨n,e,fr',h',h1,h2⟩:=hh.ex;exact⟨⟨n,e,fr',h',by rw[VI c T];exact h1,h2⟩⟩
theorem Gm(hh:Q9 C f g (left c) fr h (Nd (fun fr h=>Q9 C f g (right c) fr h Q) Q))(T:shape c=.seq:=by kernel_rfl)(hm:Yz c=false:=by kernel_rfl):Q9 C f g c fr h Q:=by
 cases c<;>simp[shape]at T;simp only[left,right]at hh;rename_i a b;have hno:QW (.seq a b)=none:=by
  unfold Yz at hm;cases hq:QW (.seq a b)with
  |none=>rfl
  |some q=>rw[hq]at hm;cases hm
 obtain⟨n,e,fr1,h1,D,hq⟩:=(hh).ex;cases e with
 |normal=>
  obtain⟨m,e2,fr2,h2,hx2,hq2⟩:=hq.ex;refine⟨⟨max n m,e2,fr2,h2,?_,hq2⟩⟩;simp only[GW,hno,Kq (Ej C (yS n m)) D,Kq (Ej C (yF n m)) hx2]
 |exit id=>exact⟨⟨n,_,_,_,by simp only[GW,hno,D],hq⟩⟩
 |ret=>exact⟨⟨n,_,_,_,by simp only[GW,hno,D],hq⟩⟩
def eJ(C:Gp)(f:FuncId)(g:Gd)(q:UH)(ks rs:List Nat)(ot:Option Tmp)(fr:Fr)(h:AI)(Q:CI→Fr→AI→Prop):Prop:=
 ∃n o e fr' h',q.o8.toList.getLast?=some o∧Oa C (DL C n) f q g ks rs ot o fr h=some (e,fr',h')∧Q e fr' h'
theorem KX{S:Self}{ops:Array Oper}:∀(k i:Nat) (tch:List (Nat×Nat)) (fr:Fr) (h:AI),i+k≤ops.size→CB C S g ops (GF i k) tch fr h=D3 C S g ops ((ops.toList.drop i).take k) fr h
 |0,i,tch,fr,h,e=>by rw[y7];rfl
 | k+1,i,tch,fr,h,e=>by
  have hi:i<ops.size:=by omega
  have hl:i<ops.toList.length:=by rw[yO];exact hi
  rw[zP hl,qc,GF,CB,D3,Array.getElem?_eq_getElem hi];simp only[Array.getElem_toList];cases CW ops fr ops[i]with
  |none=>rfl
  | some b=>
   cases b with
   |false=>exact KX k (i+1) _ _ _ (by omega)
   |true=>
    simp only[Hh,ye];cases BC C S g h fr ops[i].op with
    |none=>rfl
    |some x=>exact KX k (i+1) _ _ _ (by omega)
theorem dropLast_take{α:Type}:∀(l:List α) (n:Nat),l.length=n+1→l.take n=l.dropLast
 |[a],0,_=>rfl
 |a::b::l,n+1,h=>by
  have:=dropLast_take (b::l) n (by simpa using h);simp only[qc,xH,this]
 |[],n,h=>by cases h
 |[a],n+1,h=>by simp at h
 |a::b::l,0,h=>by simp at h
def dD(C:Gp)(f:FuncId)(c:Code)(n8:Nat):Bool:=Yz c&&Nat.beq (RX c).o8.size (n8+1)
theorem PH(n8:Nat)(ks rs:List Nat)(ot:Option Tmp)(hh:AT C g (RX c).o8 (GF 0 n8) [] fr h (fun fr1 h1=>eJ C f g (RX c) ks rs ot fr1 h1 Q))(T:dD C f c n8=true:=by kernel_rfl)(hk:C.XS f (RX c).b=some (ks,rs,ot):=by kernel_rfl)(hq:shape c=.seq:=by kernel_rfl):Q9 C f g c fr h Q:=by
 simp only[dD,zh]at T;have hsz:=zu T.2;obtain⟨q,hm⟩:=xC.1 T.1;have B:RX c=q:=by simp only[RX,hm];rfl
 rw[B]at hh hk hsz;obtain⟨n1,fr1,h1,hr,n2,o,e,fr2,h2,hl,ht,hQ⟩:=hh;rw[KX _ _ _ _ _ (by omega),yl,dropLast_take _ _ (by rw[yO];exact hsz)]at hr;refine⟨⟨max n1 n2,e,fr2,h2,?_,hQ⟩⟩;cases c<;>simp[shape]at hq;simp only[GW,hm];unfold NI;rw[hk,hl,GA (Ej C (yS n1 n2)) hr];exact QC (Ej C (yF n1 n2)) ht
def Sf:Option Oper→Option (TypeId×Operand×Tmp)
 |some o=>
  match o.op,o.dst,o.guard with
  | .range tM x,some tI,none=>some (tM,x,tI)
  |_,_,_=>none
 |none=>none
theorem Yg{o:Oper}{tM:TypeId}{x:Operand}{tI:Tmp}(h:Sf (some o)=some (tM,x,tI)):o.op=.range tM x∧o.dst=some tI∧o.guard=none:=by
 unfold Sf at h;simp only at h;split at h
 ·cases h;exact⟨by assumption,by assumption,by assumption⟩
 ·cases h
def ef{σ ρ:Type}(b2 N:Nat)(ob:RI)(X:σ→List (Nat×AB))(Y:ρ→List (Nat×AB))(oc:σ→List AB)(rc:ρ→List AB)(x:σ⊕ρ):CI→Fr→AI→Prop:=fun e fr h=>
 ((e=.normal∨e=.exit b2)∧∃s,x=.inl s∧Has fr N (X s)∧Pw ob h=some (oc s))∨(e=.ret∧∃r,x=.inr r∧Has fr N (Y r)∧Pw ob h=some (rc r))
def MD(q:UH)(ks:List Nat)(N tI tn te n10:Nat):Bool:=
 decide (YE q.o9 tI q.tb=some tn)&&decide ((ZI q.Sc tI).map (·.1)=some te)&&Nat.beq q.Sc.size (n10+1)&&QK ks N tn q.tb&&(!ks.any (Nat.beq te)&&Nat.blt te N)&&(decide ks.Nodup&&ks.all fun k=>Nat.blt k N)
theorem OZ{κ σ ρ:Type}{step:κ→σ→Option (σ⊕ρ)}{l:List κ}{s0:σ}{x0:σ⊕ρ}{enc:κ→AB×AB}{V:σ→List (Nat×AB)}{Y:ρ→List (Nat×AB)}{oc:σ→List AB}{rc:ρ→List AB}
  {q:UH} {ks rs:List Nat} {ot:Option Tmp} {fr1:Fr} {h1:AI} {ob:RI} {id tI tn te n10:Nat} {tM kt et:TypeId} {y:Operand}
  (J:Sf q.o8.toList.getLast?=some (tM,y,tI)) (hU:C.P.underlying tM=some (.map kt et)) (hsl:MD q ks N tI tn te n10=true) (E:∀s,tI::(V s).map (·.1)=ks) (hrs:∀r,(Y r).map (·.1)=rs)
  (hev:ev fr1 y=.map (some id)) (I:h1.get id=some (.map 2 (l.map enc))) (U:g.may id=true) (hobj:TJ h1 fr1 ot=some (ob,oc s0)) (W:V9 g ob=true) (hflat:(oc s0).all Mg=true)
  (hH:Has (fr1.set tI (.ptr (some (h1.size,0)))) N ((tI,.ptr (some (h1.size,0)))::V s0))
  (hold:∀s,∀p∈V s,JW (h1.size+1) p.2=true) (holdY:∀r,∀p∈Y r,JW (h1.size+1) p.2=true) (hdec:C.dec=Rn)
  (M:∀l',l'.Perm l→Bv step l' s0=some x0)
  (hR:∀p∈l,∀s x,step p s=some x→∀fr,Has fr N ((te,.tuple [(enc p).1,(enc p).2])::(tI,.ptr (some (h1.size,0)))::V s)→
   AT C (OO (h1.size+1) ob) q.Sc (GF 1 n10) [] fr (Df ((h1.set id (.map 0 [])).push (.cells none 0 [])) ob (oc s)) (fun fr h=>AW C f (OO (h1.size+1) ob) q.body fr h (ef q.b2 N ob (fun s=>(tI,.ptr (some (h1.size,0)))::V s) Y oc rc x))):
  ∃n o,q.o8.toList.getLast?=some o∧Oa C (DL C n) f q g ks rs ot o fr1 h1=some (match x0 with
   | .inl s=>(.normal,fK N ((tI,.ptr (some (h1.size,0)))::V s),Df ((h1.set id (.map 0 [])).push (.cells none 0 [])) ob (oc s))
   | .inr r=>(.ret,fK N (Y r),Df ((h1.set id (.map 0 [])).push (.cells none 0 [])) ob (rc r))):=by
 obtain⟨o,ho⟩:∃o,q.o8.toList.getLast?=some o:=by
  cases e:q.o8.toList.getLast? with
  |none=>rw[e]at J;cases J
  |some o=>exact⟨o,rfl⟩
 rw[ho]at J;obtain⟨o1,o2,o3⟩:=Yg J;simp only[MD,zh,zD,zK,yY]at hsl;obtain⟨⟨⟨⟨⟨q1,q2⟩,q3⟩,q4⟩,q5,q6⟩,q7,q8⟩:=hsl;have q3:=zu q3;obtain⟨⟨te',rest⟩,hen,e'⟩:=zl.1 q2;have e'':te'=te:=e';subst e'';obtain⟨en,hl10,_,_,_⟩:=Vz hen;have hN:fr1.length=N:=by have:=hH.1;rwa [yp]at this
 have hk0:Er ks 0 (fr1.set tI (.ptr (some (h1.size,0))))=fK N ((tI,.ptr (some (h1.size,0)))::V s0):=QN hH (E s0);have hallX:∀s,(fK N ((tI,.ptr (some (h1.size,0)))::V s)).all (JW (h1.size+1))=true:=fun s=>YU fun p B=>by
  rcases zF.1 B with rfl|B
  ·simp[JW,Sa]
  ·exact hold s p B
 have htI:tI<N:=by
  have:=hH.2 (tI,.ptr (some (h1.size,0))) (by simp);rcases yg tI N with hlt|hge
  ·exact hlt
  ·rw[Pl (by rw[hH.1];exact hge)]at this;cases this
 have hat:∀s,NL h1.size (nth (fK N ((tI,.ptr (some (h1.size,0)))::V s)) tI)=true:=fun s=>by
  rw[X4 htI];simp[Kz,ym,NL]
 have hhsz:((h1.set id (.map 0 [])).push (.cells none 0 [])).size=h1.size+1:=by simp
 obtain⟨n,K⟩:=PU (rnd:=fun n=>KJ C (DL C n) f q ks rs h1.size tI te' rest ((h1.set id (.map 0 [])).push (.cells none 0 [])) ob) (enc:=enc) (st:=fun s=>(fK N ((tI,.ptr (some (h1.size,0)))::V s),oc s)) (rt:=fun r=>(fK N (Y r),rc r))
  (fun hle D=>Px (Ej C hle) D) l.length l s0 rfl (fun p B s x D=>by
   obtain⟨k1,fr2,h2,hr,k2,e,fr3,h3,hx3,hQ⟩:=(show AT C (OO (h1.size+1) ob) q.Sc (GF 1 n10) [] ((fK N ((tI,.ptr (some (h1.size,0)))::V s)).set te' (.tuple [(enc p).1,(enc p).2])) (Df ((h1.set id (.map 0 [])).push (.cells none 0 [])) ob (oc s)) (fun fr h=>∃n e fr' h',BU C (DL C n) f (OO (h1.size+1) ob) q.body fr h=some (e,fr',h')∧ef q.b2 N ob (fun s=>(tI,.ptr (some (h1.size,0)))::V s) Y oc rc x e fr' h') from by
    have hX:Has (fK N ((tI,.ptr (some (h1.size,0)))::V s)) N ((tI,.ptr (some (h1.size,0)))::V s):=by
     exact Rh (by rw[zU,E s];exact q7) fun k hk=>by
      rw[zU,E s]at hk;simpa using zn.1 q8 k hk
    have:=hR p B s x D _ (hX.QL q6 (by rw[zU,E s];exact q5));obtain⟨a,b,c,d,hAW⟩:=this
    exact⟨a,b,c,d,hAW.ex⟩)
   rw[Jg _ _ _ _ _ (by omega),hl10,List.drop_one,List.tail_cons]at hr;refine⟨max k1 k2,?_⟩;unfold KJ;simp only[hhsz];rw[GA (Ej C (yS k1 k2)) hr];simp only[EJ (Ej C (yF k1 k2)) hx3];rcases hQ with⟨he,s',rfl,hs',ho'⟩|⟨rfl,r,rfl,hr',ho'⟩
   ·have e1:=QN hs' (E s');have e2:NL h1.size (nth fr3 tI)=true:=by
     rw[hs'.2 (tI,.ptr (some (h1.size,0))) (by simp)];simp[NL]
    rcases he with rfl|rfl
    ·simp only[e2,zW,Qc,e1,hallX,ho',zj];rfl
    ·simp only[e2,ym,xa,zW,Qc,e1,hallX,ho',zj];rfl
   ·have e1:=QN hr' (hrs r)
    simp only[Qc,e1,YU (holdY r),zW,ho',zj];rfl)
  (fun l' O=>⟨x0,M l' O⟩)
 refine⟨n,o,ho,?_⟩;unfold Oa;simp only[o1,o2,o3,hev,hU,q1,hen,I,hobj];rw[hk0,hallX,hat,U,W,hflat,hN,q4];simp only[xa,zW];unfold RG;have hmain:=K l (List.Perm.refl l) x0 (M l (List.Perm.refl l));rw[hmain];have hd:C.dec.1 (∀es':List (AB×AB),es'.Perm (l.map enc)→De (KJ C (DL C n) f q ks rs h1.size tI te' rest ((h1.set id (.map 0 [])).push (.cells none 0 [])) ob) es' (fK N ((tI,.ptr (some (h1.size,0)))::V s0),oc s0)=some (Sb (fun s=>(fK N ((tI,.ptr (some (h1.size,0)))::V s),oc s)) (fun r=>(fK N (Y r),rc r)) x0))=true:=by
  rw[hdec];refine @zf _ (Classical.propDecidable _) fun es' B=>?_;obtain⟨l',O,rfl⟩:=SX B;exact K l' O x0 (M l' O)
 cases x0 with
 |inl s=>
  simp only[Sb]at hd⊢;rw[hd];rfl
 |inr r=>
  simp only[Sb]at hd⊢;rw[hd];rfl
inductive Kn(n:Nat):List (Nat×AB)→Prop where
 |nil:Kn n []
 |cons {k:Nat} {v:AB} {l:List (Nat×AB)}:JW n v=true→Kn n l→Kn n ((k,v)::l)
theorem Kn.all{n:Nat}{l:List (Nat×AB)}(h:Kn n l):∀p∈l,JW n p.2=true:=by
 induction h with
 |nil=>intro p B;cases B
 |cons h1 _ ih=>
  intro p B;rcases zF.1 B with rfl|B
  ·exact h1
  ·exact ih p B
theorem HH.cB{L F:List Ck}(a:HH g h L F)(k:Nat){id:Nat}{o:B0}(hk:L[k]?=some (.obj id o))(j:Nat):JW (h.size+1) (.ptr (some (id,j)))=true:=by
 have:=h.BN (a.get k hk);simp only[JW,Sa];rw[yY];omega
def eP{σ ρ:Type}(b2 N:Nat)(X:σ→List (Nat×AB))(Y:ρ→List (Nat×AB))(x:σ⊕ρ):CI→Fr→AI→Prop:=fun e fr h=>
 ((e=.normal∨e=.exit b2)∧∃s,x=.inl s∧Has fr N (X s))∨(e=.ret∧∃r,x=.inr r∧Has fr N (Y r))
theorem HH.none_{n:Nat}{h:AI}(K:h.size=n):HH ⟨n,[]⟩ h [] []:=⟨fun c hc=>(by cases hc),by simp[DU],fun i hi=>(by simp[DU]at hi),fun i hi=>(by cases hi),by rw[K];exact zC _⟩
theorem TI{κ σ ρ:Type}{step:κ→σ→Option (σ⊕ρ)}{l:List κ}{s0:σ}{x0:σ⊕ρ}{enc:κ→AB×AB}{V:σ→List (Nat×AB)}{Y:ρ→List (Nat×AB)}{L F:List Ck}{Af:List (Nat×AB)}
  {c:Code} {ks rs:List Nat} {fr1:Fr} {h1:AI} (k:Nat) {id:Nat} (tI tn te n10:Nat) (tM kt et:TypeId) (y:Operand)
  (A:HH g h1 L F) (H:Has fr1 N Af) (hm:Bv step l s0=some x0) (M:∀l',l'.Perm l→Bv step l' s0=Bv step l s0)
  (hk:L[k]?=some (.obj id (.map 2 (l.map enc)))) (hev:∀fr,ev (C1 N Af fr) y=.map (some id)) (hV0:∀fr,(V s0).map (fun p=>nth (C1 N Af fr) p.1)=(V s0).map (·.2))
  (E:∀s,tI::(V s).map (·.1)=ks) (hrs:∀r,(Y r).map (·.1)=rs) (hold:∀s,Kn (h1.size+1) (V s)) (holdY:∀r,Kn (h1.size+1) (Y r))
  (hR:∀p,p∈l→∀s x,step p s=some x→∀fr h (it:AB) g F,HH g h [] F→Has fr N ((te,.tuple [(enc p).1,(enc p).2])::(tI,it)::V s)→
   AT C g (RX c).Sc (GF 1 n10) [] fr h (fun fr h=>AW C f g (RX c).body fr h (eP (RX c).b2 N (fun s=>(tI,it)::V s) Y x)))
  (hQ:∀s,x0=.inl s→∀fr h,HH g h (L.eraseIdx k) F→Has fr N (V s)→Q .normal fr h) (hQr:∀r,x0=.inr r→∀fr h,HH g h (L.eraseIdx k) F→Has fr N (Y r)→Q .ret fr h)
  (J:Sf (RX c).o8.toList.getLast?=some (tM,y,tI):=by kernel_rfl) (hU:C.P.underlying tM=some (.map kt et):=by kernel_rfl) (hsl:MD (RX c) ks N tI tn te n10=true:=by kernel_rfl) (hrl:(decide rs.Nodup&&rs.all fun k=>Nat.blt k N)=true:=by kernel_rfl) (hdec:C.dec=Rn:=by rfl):
  eJ C f g (RX c) ks rs none fr1 h1 Q:=by
 have hev':ev fr1 y=.map (some id):=by have:=hev fr1;rw[Eu H]at this;exact this
 have hV0':=hV0 fr1;rw[Eu H]at hV0';have I:=A.get k hk;have U:=A.Mv hk (i:=id) (by simp[Ck.ids]);have Z:=hsl;simp only[MD,zh,zD]at Z;obtain⟨_,hnd,hlt⟩:=Z;have hHV:Has fr1 N (V s0):=Has.of_map H.1 hV0';have hkN:tI<N:=by
  have:=zn.1 hlt tI (by rw[←E s0];simp);simpa using this
 have hH:Has (fr1.set tI (.ptr (some (h1.size,0)))) N ((tI,.ptr (some (h1.size,0)))::V s0):=hHV.QL hkN (by
  have:=E s0;rw[←this,yQ]at hnd;rw[qL];intro ha;obtain⟨j,hj,e⟩:=y6.1 ha
  exact hnd.1 (by rw[zu e];exact hj))
 obtain⟨n,o,ho,hrun⟩:=OZ (C:=C) (f:=f) (g:=g) (N:=N) (step:=step) (l:=l) (s0:=s0) (x0:=x0) (enc:=enc) (V:=V) (Y:=Y) (oc:=fun _=>[]) (rc:=fun _=>[]) (q:=RX c) (ks:=ks) (rs:=rs) (ot:=none) (fr1:=fr1) (h1:=h1) (ob:=none) J hU hsl E hrs hev' I U rfl rfl rfl hH
  (fun s=>(hold s).all) (fun r=>(holdY r).all) hdec (fun l' O=>(M l' O).trans hm)
  (fun p B s x D fr hfr=>by
   obtain⟨a,b,d,hr,hAW⟩:=hR p B s x D fr ((h1.set id (.map 0 [])).push (.cells none 0 [])) _ ⟨h1.size+1,[]⟩ [] (HH.none_ (by simp)) hfr;refine⟨a,b,d,hr,⟨?_⟩⟩;obtain⟨n2,e,fr',h',he,hq⟩:=hAW.ex;refine⟨n2,e,fr',h',he,?_⟩;rcases hq with⟨q1,s',q2,q3⟩|⟨q1,r,q2,q3⟩
   ·exact .inl ⟨q1,s',q2,q3,rfl⟩
   ·exact .inr ⟨q1,r,q2,q3,rfl⟩)
 have hA':HH g ((h1.set id (.map 0 [])).push (.cells none 0 [])) (L.eraseIdx k) F:=by
  have a1:HH g ((h1.set id (.map 0 [])).push (.cells none 0 [])) (L.set k (.obj id (.map 0 []))) F:=A.Rg hk (by simp) (fun i hi K=>by
   rw[AI.Bz _ _ (by simpa using hi),AI.BX _ _ (h1.BN I) (by simpa[Ck.ids]using K)]) (by
   show AI.get _ id=_;rw[AI.Bz _ _ (by simpa using h1.BN I),AI.get_set_same _ _ (h1.BN I)]) (fun i hi=>.inl hi) (fun i hi=>by
   have:i=id:=by simpa[Ck.ids]using hi
   rw[this];exact U)
  have hkl:k<L.length:=(List.getElem?_eq_some_iff.1 hk).1;have a2:=(a1.front k (c:=.obj id (.map 0 [])) (by rw[List.getElem?_set_self hkl])).tail;rwa [List.eraseIdx_set_eq]at a2
 have hX:∀s,Has (fK N ((tI,.ptr (some (h1.size,0)))::V s)) N (V s):=fun s=>by
  have:=Rh (N:=N) (l:=(tI,.ptr (some (h1.size,0)))::V s) (by rw[zU,E s];exact hnd) fun k hk=>by
   rw[zU,E s]at hk;simpa using zn.1 hlt k hk
  exact⟨this.1,fun p B=>this.2 p (by simp[B])⟩
 refine⟨n,o,_,_,_,ho,hrun,?_⟩;cases x0 with
 |inl s=>exact hQ s rfl _ _ hA' (hX s)
 | inr r=>
  simp only[zh,zD]at hrl
  exact hQr r rfl _ _ hA' (Rh (by rw[hrs r];exact hrl.1) fun k hk=>by
   rw[hrs r]at hk
   simpa using zn.1 hrl.2 k hk)
theorem WE(xs:List UInt8):(Af eY xs).all Mg=true:=by
 induction xs with
 |nil=>rfl
 |cons x r ih=>
  have:Af eY (x::r)=(.int .u8 x.toNat)::Af eY r:=rfl;rw[this,zR,ih];rfl
theorem W6{n id:Nat}{gr:Option TypeId}:(OO n (some (id,gr))).may id=true:=by
 have:((List.range n).filter fun k=> !Nat.beq k id).any (Nat.beq id)=false:=by
  rw[qL];intro h;obtain⟨j,hj,e⟩:=y6.1 h;have e':=zu e;have:=(yf.1 hj).2;rw[←e',ym]at this;cases this
 simp[Gd.may,OO,this]
def eK{σ:Type}(b2 N:Nat)(g:Gd)(F:List Ck)(rid:Nat)(e:TypeId)(row:σ→List UInt8)(X:σ→List (Nat×AB))(x:σ⊕Empty):CI→Fr→AI→Prop:=fun ex fr h=>
 (ex=.normal∨ex=.exit b2)∧∃s,x=.inl s∧Has fr N (X s)∧HH g h [.Af (some rid) e (Af eY (row s))] F
theorem Ta{κ σ:Type}{step:κ→σ→Option (σ⊕Empty)}{l:List κ}{s0:σ}{x0:σ⊕Empty}{enc:κ→AB×AB}{V:σ→List (Nat×AB)}{row:σ→List UInt8}{L F:List Ck}{lst0:List (Nat×AB)}
  {c:Code} {ks:List Nat} {fr1:Fr} {h1:AI} (k j:Nat) {id:Nat} (rid:Nat) {e:TypeId} (tI tn te ot n10:Nat) (tM kt et:TypeId) (y:Operand)
  (A:HH g h1 L F) (H:Has fr1 N lst0) (hm:Bv step l s0=some x0) (M:∀l',l'.Perm l→Bv step l' s0=Bv step l s0)
  (hk:L[k]?=some (.obj id (.map 2 (l.map enc)))) (hj:L[j]?=some (.Af (some rid) e (Af eY (row s0)))) (hkj:k≠j) (hev:∀fr,ev (C1 N lst0 fr) y=.map (some id)) (hV0:∀fr,((ot,AP (some rid) (row s0).length)::V s0).map (fun p=>nth (C1 N lst0 fr) p.1)=((ot,AP (some rid) (row s0).length)::V s0).map (·.2))
  (E:∀s,tI::ot::(V s).map (·.1)=ks) (hold:∀s,Kn (h1.size+1) (V s))
  (hR:∀p,p∈l→∀s x,step p s=some x→∀fr h (it:AB) g F,HH g h [.Af (some rid) e (Af eY (row s))] F→Has fr N ((te,.tuple [(enc p).1,(enc p).2])::(tI,it)::(ot,AP (some rid) (row s).length)::V s)→
   AT C g (RX c).Sc (GF 1 n10) [] fr h (fun fr h=>AW C f g (RX c).body fr h (eK (RX c).b2 N g F rid e row (fun s=>(tI,it)::(ot,AP (some rid) (row s).length)::V s) x)))
  (hQ:∀s,x0=.inl s→∀fr h,HH g h ((L.set j (.Af (some rid) e (Af eY (row s)))).eraseIdx k) F→Has fr N ((ot,AP (some rid) (row s).length)::V s)→Q .normal fr h)
  (J:Sf (RX c).o8.toList.getLast?=some (tM,y,tI):=by kernel_rfl) (hU:C.P.underlying tM=some (.map kt et):=by kernel_rfl) (hsl:MD (RX c) ks N tI tn te n10=true:=by kernel_rfl) (hdec:C.dec=Rn:=by rfl):
  eJ C f g (RX c) ks [] (some ot) fr1 h1 Q:=by
 have hev':ev fr1 y=.map (some id):=by have:=hev fr1;rw[Eu H]at this;exact this
 have hV0':=hV0 fr1;rw[Eu H]at hV0';have I:=A.get k hk;have hgetO:h1.get rid=some (.cells (some e) 2 (Af eY (row s0))):=A.mem hj;have hridl:=h1.BN hgetO;have U:=A.Mv hk (i:=id) (by simp[Ck.ids]);have W:=A.Mv hj (i:=rid) (by simp[Ck.ids]);have Z:=hsl;simp only[MD,zh,zD]at Z;obtain⟨_,hnd,hlt⟩:=Z;have hHV:Has fr1 N ((ot,AP (some rid) (row s0).length)::V s0):=Has.of_map H.1 hV0';have hkN:tI<N:=by
  have:=zn.1 hlt tI (by rw[←E s0];simp);simpa using this
 have hH:Has (fr1.set tI (.ptr (some (h1.size,0)))) N ((tI,.ptr (some (h1.size,0)))::(ot,AP (some rid) (row s0).length)::V s0):=hHV.QL hkN (by
  have:=E s0;rw[←this,yQ]at hnd;rw[qL];intro ha;obtain⟨q,hq,e⟩:=y6.1 ha
  exact hnd.1 (by rw[zu e];exact hq))
 have hne:rid≠id:=by
  intro e;subst e;have:=I.symm.trans hgetO;cases this
 have hold':∀s,∀p∈(ot,AP (some rid) (row s).length)::V s,JW (h1.size+1) p.2=true:=fun s p B=>by
  rcases zF.1 B with rfl|B
  ·show Nat.blt rid (h1.size+1)=true;rw[yY];omega
  ·exact(hold s).all p B
 obtain⟨n,o,ho,hrun⟩:=OZ (C:=C) (f:=f) (g:=g) (N:=N) (step:=step) (l:=l) (s0:=s0) (x0:=x0) (enc:=enc) (V:=fun s=>(ot,AP (some rid) (row s).length)::V s) (Y:=fun _=>[]) (oc:=fun s=>Af eY (row s)) (rc:=fun _=>[]) (q:=RX c) (ks:=ks) (rs:=[]) (ot:=some ot) (fr1:=fr1) (h1:=h1) (ob:=some (rid,some e)) J hU hsl E (fun _=>rfl) hev' I U
  (by
   have:=hHV.2 (ot,AP (some rid) (row s0).length) (by simp)
   simp only[TJ,this,AP,zj,hgetO]) W (WE _) hH hold' (fun r=>r.elim) hdec (fun l' O=>(M l' O).trans hm)
  (fun p B s x D fr hfr=>by
   have hget':(Df ((h1.set id (.map 0 [])).push (.cells none 0 [])) (some (rid,some e)) (Af eY (row s))).get rid=some (.cells (some e) 2 (Af eY (row s))):=AI.get_set_same _ _ (by simp;omega);have hA0:HH (OO (h1.size+1) (some (rid,some e))) (Df ((h1.set id (.map 0 [])).push (.cells none 0 [])) (some (rid,some e)) (Af eY (row s))) [.Af (some rid) e (Af eY (row s))] []:=by
    refine⟨fun c hc=>?_,by simp[DU,Ck.ids],fun i hi=>?_,fun i hi=>?_,yB _⟩
    ·have:c=.Af (some rid) e (Af eY (row s)):=by simpa using hc
     subst this;exact hget'
    ·have:i=rid:=by simpa[DU,Ck.ids]using hi
     subst this;exact W6
    ·rw[IB];have:=(yf.1 hi).1;simpa using this
   obtain⟨a,b,d,hr,hAW⟩:=hR p B s x D fr _ _ _ [] hA0 hfr;refine⟨a,b,d,hr,⟨?_⟩⟩;obtain⟨n2,ex,fr',h',he,hq⟩:=hAW.ex;refine⟨n2,ex,fr',h',he,?_⟩;obtain⟨q1,s',q2,q3,q4⟩:=hq;refine .inl ⟨q1,s',q2,q3,?_⟩;have hg':h'.get rid=some (.cells (some e) 2 (Af eY (row s'))):=q4.mem (k:=0) rfl
   simp only[Pw,hg',WE,and_self,if_true])
 cases x0 with
 |inr r=>exact r.elim
 | inl s=>
  refine⟨n,o,_,_,_,ho,hrun,hQ s rfl _ _ ?_ ?_⟩
  ·have a0:HH g (Df ((h1.set id (.map 0 [])).push (.cells none 0 [])) (some (rid,some e)) (Af eY (row s))) ((L.set j (.Af (some rid) e (Af eY (row s)))).set k (.obj id (.map 0 []))) F:=by
    have b1:HH g (h1.set id (.map 0 [])) (L.set k (.obj id (.map 0 []))) F:=A.set k _ hk;have b2:HH g ((h1.set id (.map 0 [])).push (.cells none 0 [])) (L.set k (.obj id (.map 0 []))) F:=(b1.push _).tail
    have b3:=b2.Rg (k:=j) (c:=.Af (some rid) e (Af eY (row s0))) (d:=.Af (some rid) e (Af eY (row s))) (h':=Df ((h1.set id (.map 0 [])).push (.cells none 0 [])) (some (rid,some e)) (Af eY (row s))) (by rw[List.getElem?_set_ne hkj];exact hj) (by rw[IB];exact zC _) (fun i hi K=>AI.BX _ _ (by simp;omega) (by simpa[Ck.ids]using K)) (AI.get_set_same _ _ (by simp;omega)) (fun i hi=>.inl hi) (fun i hi=>by
     have:i=rid:=by simpa[Ck.ids]using hi
     rw[this];exact W)
    rw[List.set_comm _ _ hkj]at b3;exact b3
   have hkl:k<L.length:=(List.getElem?_eq_some_iff.1 hk).1;have a2:=(a0.front k (c:=.obj id (.map 0 [])) (by rw[List.getElem?_set_self (by simpa using hkl)])).tail;rwa [List.eraseIdx_set_eq]at a2
  ·have:=Rh (N:=N) (l:=(tI,.ptr (some (h1.size,0)))::(ot,AP (some rid) (row s).length)::V s) (by rw[zU,zU,E s];exact hnd) fun k hk=>by
    rw[zU,zU,E s]at hk;simpa using zn.1 hlt k hk
   exact⟨this.1,fun p B=>this.2 p (by simp only[zF]at B⊢;exact .inr B)⟩
theorem Vp{args args':List AB}{n:Nat}{rs:List ResultVar}{R:AB→AI→Prop}(hk:C.kind f=10)(hc:BA (C.still f) args=args')(hf:Ih C.P f=some (n,rs))
  (hh:Q9 C f g (GX C.P f) (args'++List.replicate (n - args'.length) (.tuple [])) h (fun e fr h'=>(e=.ret∨e=.normal)∧∃v,Ml C.P rs fr h'=some v∧R v h')):∃v h',BI C g h f args v h'∧R v h':=by
 obtain⟨m,e,fr',h2,D,hq,v,hv,hR⟩:=hh.ex;refine⟨v,h2,⟨m+1,?_⟩,hR⟩;show Jn C (DL C m) g h f args=_;unfold Jn;rw[hk];simp only[hc];unfold Ih at hf;unfold GX at D;unfold QB;split at hf
 ·rename_i fn hfn;split at hf
  ·rename_i c hcc;simp only[zd,zg]at hf;obtain⟨rfl,rfl⟩:=hf;simp only[hfn,hcc]at D⊢;rcases hq with rfl|rfl
   ·rw[D];simp only;rw[show Ek C.P fn fr' h2=some v from hv];rfl
   ·rw[D];simp only;rw[show Ek C.P fn fr' h2=some v from hv];rfl
  ·cases hf
 ·cases hf
theorem YX{c:Code}{Q:CI→Fr→AI→Prop}{args:List AB}{n:Nat}(ins:List (Nat×AB))(hl:(args++List.replicate (n - args.length) (AB.tuple [])).length=n)(hi:ins.map (fun p=>nth (args++List.replicate (n - args.length) (AB.tuple [])) p.1)=ins.map (·.2))
  (hh:∀fr,Has fr n ins→Q9 C f g c fr h Q):Q9 C f g c (args++List.replicate (n - args.length) (.tuple [])) h Q:=hh _ (Has.of_map hl hi)
end
end Go.Av
