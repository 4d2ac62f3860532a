/-
 A part.
-/
import Derived.Test.YthhonebaoidfgaaGreatDoorAvMap
import Derived.Test.YthhonebaoidfgaaGreatDoorAvCo
set_option linter.unusedSimpArgs false
namespace Go.Av
set_option linter.unusedVariables false
set_option linter.unusedSimpArgs false
def FU{κ σ ρ:Type}(step:κ->σ->Option (σ⊕ρ)):List κ->σ->Option (σ⊕ρ)
 |[],s=>some (.inl s)
 |k::l,s=>
  match step k s with
  |some (.inl s')=>FU step l s'
  |r=>r
def Zl{κ σ ρ:Type}(step:κ->σ->Option (σ⊕ρ))(a b:κ)(s:σ):Option (σ⊕ρ):=
 match step a s with
 |some (.inl s')=>step b s'
 |r=>r
theorem UT{κ σ ρ:Type}{step:κ->σ->Option (σ⊕ρ)}{a b:κ}{l:List κ}{s:σ}:FU step (a::b::l) s=match Zl step a b s with|some (.inl s')=>FU step l s'|r=>r:=by
 unfold Zl;simp only[FU];cases step a s with
 |none=>rfl
 |some x=>
  cases x with
  |inl s'=>rfl
  |inr r=>rfl
theorem Rx{κ σ ρ:Type}{step:κ->σ->Option (σ⊕ρ)}{l:List κ}(P:σ->Prop)(hP:∀a∈l,∀s s',P s->step a s=some (.inl s')->P s')(hc:∀a∈l,∀b∈l,∀s,P s->Zl step a b s=Zl step b a s):
  ∀l',l'.Perm l->∀s,P s->FU step l' s=FU step l s:=by
 have key:∀{l1 l2:List κ},l1.Perm l2->(∀a∈l1,a∈l)->∀s,P s->FU step l1 s=FU step l2 s:=by
  intro l1 l2 h
  induction h with
  |nil=>intro _ s _;rfl
  | cons x _ ih=>
   intro hm s J;simp only[FU];cases D:step x s with
   |none=>rfl
   |some y=>
    cases y with
    |inl s'=>exact ih (λa ha=>hm a (by simp[ha])) s' (hP x (hm x (by simp)) s s' J D)
    |inr r=>rfl
  |swap x y r=>
   intro hm s J;rw[UT,UT,hc y (hm y (by simp)) x (hm x (by simp)) s J]
  |trans h1 h2 ih1 ih2=>
   intro hm s J;rw[ih1 hm s J];exact ih2 (λa ha=>hm a (h1.mem_iff.2 ha)) s J
 exact λl' h s J=>key h (λa ha=>h.mem_iff.1 ha) s J
def bx:List (Nat×Nat×List Nat×List Nat×Option Nat)->FuncId->Nat->Option (List Nat×List Nat×Option Tmp)
 |[],_,_=>none
 |(f',b',x)::r,f,b=>bif Nat.beq f' f&&Nat.beq b' b then some x else bx r f b
def Mj(i:Nat):List (Nat×AD)->AD
 |[]=>.undef
 |(k,v)::r=>bif Nat.beq k i then v else Mj i r
def fK(N:Nat)(l:List (Nat×AD)):Fr:=(List.range N).map λi=>Mj i l
theorem UL{fr:Fr}{i:Nat}:∀{l:List (Nat×AD)},(∀p∈l,nth fr p.1=p.2)->Mj i l=bif (l.map (·.1)).any (Nat.beq i)then nth fr i else .undef
 |[],_=>rfl
 | (k,v)::r,h=>by
  have ih:=UL (fr:=fr) (i:=i) (l:=r) λp B=>h p (by simp[B]);have h0:nth fr k=v:=h (k,v) (by simp);simp only[Mj,zK,List.any_cons];cases hb:Nat.beq k i with
  |true=>
   have e:=zt hb;subst e;simp[yl,h0]
  | false=>
   have:Nat.beq i k=false:=by
    cases h2:Nat.beq i k with
    |false=>rfl
    |true=>rw[zt h2,yl]at hb;cases hb
   rw[this,yX];exact ih
theorem ZI{ks:List Nat}{fr:Fr}{G:Nat->AD}(h:∀i,i<fr.length->(bif ks.any (Nat.beq i)then nth fr i else .undef)=G i):Fp ks 0 fr=(List.range fr.length).map G:=by
 refine List.ext_getElem (by rw[Dn];simp) λi h1 h2=>?_;rw[Dn]at h1;have e:=L6 ks 0 fr i h1;rw[yz]at e;have e2:nth (Fp ks 0 fr) i=(Fp ks 0 fr)[i]'(by rw[Dn];exact h1):=by
  rw[Ga,zo,List.getElem?_eq_getElem (by rw[Dn];exact h1)];rfl
 rw[<-e2,e,h i h1];simp
theorem TD{fr:Fr}{N:Nat}{l:List (Nat×AD)}(H:Has fr N l){ks:List Nat}(hk:l.map (·.1)=ks):Fp ks 0 fr=fK N l:=by
 subst hk;rw[ZI (G:=λi=>Mj i l) λi hi=>(UL H.2).symm,H.1];rfl
theorem cM{N i:Nat}{l:List (Nat×AD)}(hi:i<N):nth (fK N l) i=Mj i l:=by
 rw[Ga,zo,List.getElem?_eq_getElem (by simp[fK];exact hi)];simp[fK]
theorem Zd{i:Nat}{l:List (Nat×AD)}:Mj i l=.undef\/∃p∈l,Mj i l=p.2:=by
 induction l with
 |nil=>exact .inl rfl
 | cons p r ih=>
  obtain⟨k,v⟩:=p;simp only[Mj];cases Nat.beq k i with
  |true=>exact .inr ⟨(k,v),by simp,rfl⟩
  |false=>
   rcases ih with h|⟨p,B,h⟩
   ·exact .inl h
   ·exact .inr ⟨p,by simp[B],h⟩
theorem Has.Ss{fr:Fr}{N:Nat}{l:List (Nat×AD)}(H:Has fr N l){t:Nat}{v:AD}(ht:t<N)(E:(l.map (·.1)).any (Nat.beq t)=false):Has (fr.set t v) N ((t,v)::l):=by
 refine⟨by rw[yW];exact H.1,λp B=>?_⟩;rcases zF.1 B with rfl|B
 ·rw[G4,zl ⟨rfl,by rw[H.1];exact ht⟩]
 ·rw[G4,zj]
  ·exact H.2 p B
  ·rintro⟨e,_⟩;have:(l.map (·.1)).any (Nat.beq t)=true:=qm.2 ⟨p.1,zZ.2 ⟨p,B,rfl⟩,by rw[e];exact yl _⟩;rw[this]at E;cases E
theorem bC{N n:Nat}{l:List (Nat×AD)}(h:∀p∈l,LP n p.2=true):(fK N l).all (LP n)=true:=by
 rw[zr];intro v hv;obtain⟨i,_,rfl⟩:=zZ.1 hv;rcases Zd (i:=i) (l:=l)with e|⟨p,B,e⟩
 ·rw[e];rfl
 ·rw[e];exact h p B
theorem Qz{k:Nat}{v:AD}:∀{l:List (Nat×AD)},(l.map (·.1)).Nodup->(k,v)∈l->Mj k l=v
 | (k',v')::r,E,hm=>by
  rw[zK,yR]at E;simp only[Mj];rcases zF.1 hm with e|hm
  ·cases e;rw[yl];rfl
  ·cases hb:Nat.beq k' k with
   |true=>
    have e:=zt hb;exact absurd (zZ.2 ⟨(k,v),hm,e.symm⟩) E.1
   |false=>exact Qz E.2 hm
theorem Xm{N:Nat}{l:List (Nat×AD)}(E:(l.map (·.1)).Nodup)(hk:∀k∈l.map (·.1),k<N):Has (fK N l) N l:=
 ⟨by simp[fK],λp B=>by rw[cM (hk p.1 (zZ.2 ⟨p,B,rfl⟩))];exact Qz E B⟩
theorem VX{κ β:Type}{f:κ->β}{l:List κ}:∀{es:List β},es.Perm (l.map f)->∃l':List κ,l'.Perm l/\es=l'.map f:=by
 have key:∀{a b:List β},a.Perm b->∀{l:List κ},b=l.map f->∃l':List κ,l'.Perm l/\a=l'.map f:=by
  intro a b h
  induction h with
  |nil=>intro l e;cases l with|nil=>exact⟨[],.nil,rfl⟩|cons x r=>cases e
  | cons x _ ih=>
   intro l e;cases l with
   |nil=>cases e
   |cons y r=>
    injection e with e1 e2;obtain⟨l',h1,h2⟩:=ih e2;exact⟨y::l',h1.cons y,by rw[e1,h2];rfl⟩
  | swap x y r=>
   intro l e
   match l,e with
   |a::b::r',e=>
    injection e with e1 e2;injection e2 with e2 e3;exact⟨b::a::r',List.Perm.swap a b r',by rw[e1,e2,e3];rfl⟩
  |trans _ _ ih1 ih2=>
   intro l e;obtain⟨l1,h1,h2⟩:=ih2 e;obtain⟨l2,h3,h4⟩:=ih1 h2;exact⟨l2,h3.trans h1,h4⟩
 intro es h;exact key h rfl
theorem T1{α:Type}{P:Nat->α->Prop}(hm:∀{n m a},n<=m->P n a->P m a):∀(l:List α),(∀a∈l,∃n,P n a)->∃n,∀a∈l,P n a
 |[],_=>⟨0,λa h=>by cases h⟩
 |a::l,h=>by
  obtain⟨n,E⟩:=h a (by simp);obtain⟨m,hm'⟩:=T1 (P:=P) hm l λb hb=>h b (by simp[hb]);refine⟨max n m,λb hb=>?_⟩;rcases zF.1 hb with rfl|hb
  ·exact hm (yy _ _) E
  ·exact hm (yq _ _) (hm' b hb)
section
variable {κ σ ρ:Type} {step:κ->σ->Option (σ⊕ρ)} {enc:κ->AD×AD} {rnd:Nat->Fr×List AD->AD×AD->Option (Bool×Fr×List AD)} {st:σ->Fr×List AD} {rt:ρ->Fr×List AD}
def Uz(st:σ->Fr×List AD)(rt:ρ->Fr×List AD):σ⊕ρ->Bool×Fr×List AD
 | .inl s=>(false,st s)
 | .inr r=>(true,rt r)
theorem Rn(hm:∀{n m a b x},n<=m->rnd n a b=some x->rnd m a b=some x):∀(k:Nat) (l:List κ) (s:σ),l.length=k->
  (∀p∈l,∀s q,step p s=some q->∃n,rnd n (st s) (enc p)=some (Uz st rt q))->(∀l',l'.Perm l->∃x,FU step l' s=some x)->∃n,∀l',l'.Perm l->∀x,FU step l' s=some x->EP (rnd n) (l'.map enc) (st s)=some (Uz st rt x)
 |0,l,s,hl,U,J=>by
  have:l=[]:=zx hl;subst this;refine⟨0,λl' B x D=>?_⟩;have:l'=[]:=B.eq_nil;subst this;simp only[FU,zb]at D;subst D;rfl
 | k +1,l,s,hl,U,J=>by
  have key:∃n,∀p∈l,∀l2,(p::l2).Perm l->∀x,FU step (p::l2) s=some x->EP (rnd n) ((p::l2).map enc) (st s)=some (Uz st rt x):=by
   refine T1 (P:=λn p=>∀l2,(p::l2).Perm l->∀x,FU step (p::l2) s=some x->EP (rnd n) ((p::l2).map enc) (st s)=some (Uz st rt x)) (λhle h l2 B x D=>Jd (λU=>hm hle U) _ (h l2 B x D)) l λp B=>?_;obtain⟨l0,hl0⟩:∃l0,(p::l0).Perm l:=by
    obtain⟨a,b,rfl⟩:=List.append_of_mem B;exact⟨a++b,List.perm_middle.symm⟩
   cases hst:step p s with
   |none=>
    obtain⟨x,D⟩:=J _ hl0;simp only[FU,hst]at D;cases D
   | some q=>
    obtain⟨n1,hn1⟩:=U p B s q hst;cases q with
    |inr r=>
     refine⟨n1,λl2 _ x D=>?_⟩;simp only[FU,hst,zb]at D;subst D;simp only[zK,EP,hn1,Uz]
    | inl s'=>
     have hlen:l0.length=k:=by have:=hl0.length_eq;simp only[zG]at this;omega
     obtain⟨n2,hn2⟩:=Rn hm k l0 s' hlen (λp' hp'=>U p' (hl0.mem_iff.1 (by simp[hp']))) (λl' O=>by
      obtain⟨x,D⟩:=J (p::l') ((O.cons p).trans hl0);simp only[FU,hst]at D
      exact⟨x,D⟩)
     refine⟨max n1 n2,λl2 h2 x D=>?_⟩;simp only[FU,hst]at D;have:=hn2 l2 ((h2.trans hl0.symm).cons_inv) x D;simp only[zK,EP,hm (yy n1 n2) hn1,Uz];exact Jd (λU=>hm (yq n1 n2) U) _ this
  obtain⟨n,E⟩:=key;refine⟨n,λl' B x D=>?_⟩;cases l' with
  |nil=>have:=B.length_eq;simp[hl]at this
  |cons p l2=>exact E p (B.mem_iff.1 (by simp)) l2 B x D
end
structure Y0(C:Hv)(f:FuncId)(g:Gd)(c:Code)(fr:Fr)(h:AF)(Q:CT->Fr->AF->Prop):Prop where
 ex:∃n e fr' h',Hu C (DY C n) f g c fr h=some (e,fr',h')/\Q e fr' h'
def aw(c:Code):Bool:=(Tk c).isSome
def cF:Code->Bool
 | .seq a b=> !aw (.seq a b)&&(cF a&&cF b)
 |_=>true
def Z8(c:Code):WE:=(Tk c).getD ⟨#[],0,#[],0,0,#[],.skip⟩
section
variable {C:Hv} {f:FuncId} {g:Gd} {c:Code} {fr:Fr} {h:AF} {Q:CT->Fr->AF->Prop} {N:Nat}
theorem XV{S:Self}:∀(c:Code),cF c=true->∀(fr:Fr) (h:AF),Hu C S f g c fr h=Bl C S f g c fr h:=by
 intro c
 induction c with
 | seq a b iha ihb=>
  intro E fr h;simp only[cF,zf,zH]at E;have:Tk (.seq a b)=none:=by
   have:=E.1;unfold aw at this;cases hq:Tk (.seq a b)with
   |none=>rfl
   |some q=>rw[hq]at this;cases this
  simp only[Hu,this,Bl,iha E.2.1];cases Bl C S f g a fr h with
  |none=>rfl
  |some x=>
   obtain⟨e,fr1,h1⟩:=x;cases e with
   |normal=>exact ihb E.2.2 _ _
   |exit i=>rfl
   |ret=>rfl
 |_=>intro _ fr h;simp only[Hu]
theorem SR(hh:AW C f g c fr h Q)(J:cF c=true:=by kernel_rfl):Y0 C f g c fr h Q:=by
 obtain⟨n,e,fr',h',h1,h2⟩:=hh.ex;exact⟨⟨n,e,fr',h',by rw[XV c J];exact h1,h2⟩⟩
theorem N6(hh:Y0 C f g (left c) fr h (Nh (λfr h=>Y0 C f g (right c) fr h Q) Q))(J:shape c=.seq:=by kernel_rfl)(hm:aw c=false:=by kernel_rfl):Y0 C f g c fr h Q:=by
 cases c<;>simp[shape]at J;simp only[left,right]at hh;rename_i a b;have hno:Tk (.seq a b)=none:=by
  unfold aw at hm;cases hq:Tk (.seq a b)with
  |none=>rfl
  |some q=>rw[hq]at hm;cases hm
 obtain⟨n,e,fr1,h1,D,hq⟩:=(hh).ex;cases e with
 |normal=>
  obtain⟨m,e2,fr2,h2,hx2,hq2⟩:=hq.ex;refine⟨⟨max n m,e2,fr2,h2,?_,hq2⟩⟩;simp only[Hu,hno,Mb (EE C (yy n m)) D,Mb (EE C (yq n m)) hx2]
 |exit id=>exact⟨⟨n,_,_,_,by simp only[Hu,hno,D],hq⟩⟩
 |ret=>exact⟨⟨n,_,_,_,by simp only[Hu,hno,D],hq⟩⟩
def mD(C:Hv)(f:FuncId)(g:Gd)(q:WE)(ks rs:List Nat)(ot:Option Tmp)(fr:Fr)(h:AF)(Q:CT->Fr->AF->Prop):Prop:=
 ∃n o e fr' h',q.o8.toList.getLast?=some o/\Q5 C (DY C n) f q g ks rs ot o fr h=some (e,fr',h')/\Q e fr' h'
theorem MF{S:Self}{ops:Array Oper}:∀(k i:Nat) (tch:List (Nat×Nat)) (fr:Fr) (h:AF),i+k<=ops.size->DH C S g ops (Hd i k) tch fr h=Eb C S g ops ((ops.toList.drop i).take k) fr h
 |0,i,tch,fr,h,e=>by rw[qE];rfl
 | k+1,i,tch,fr,h,e=>by
  have hi:i<ops.size:=by omega
  have hl:i<ops.toList.length:=by rw[yB];exact hi
  rw[zT hl,qo,Hd,DH,Eb,Array.getElem?_eq_getElem hi];simp only[Array.getElem_toList];cases DN ops fr ops[i]with
  |none=>rfl
  | some b=>
   cases b with
   |false=>exact MF k (i+1) _ _ _ om
   |true=>
    simp only[JK,ye];cases Bv C S g h fr ops[i].op with
    |none=>rfl
    |some x=>exact MF k (i+1) _ _ _ om
theorem dropLast_take{α:Type}:∀(l:List α) (n:Nat),l.length=n+1->l.take n=l.dropLast
 |[a],0,_=>rfl
 |a::b::l,n+1,h=>by
  have:=dropLast_take (b::l) n (by simpa using h);simp only[qo,xG,this]
 |[],n,h=>by cases h
 |[a],n+1,h=>by simp at h
 |a::b::l,0,h=>by simp at h
def kA(C:Hv)(f:FuncId)(c:Code)(n8:Nat):Bool:=aw c&&Nat.beq (Z8 c).o8.size (n8+1)
theorem YX(n8:Nat)(ks rs:List Nat)(ot:Option Tmp)(hh:AT C g (Z8 c).o8 (Hd 0 n8) [] fr h (λfr1 h1=>mD C f g (Z8 c) ks rs ot fr1 h1 Q))(J:kA C f c n8=true:=by kernel_rfl)(hk:C.ab f (Z8 c).b=some (ks,rs,ot):=by kernel_rfl)(hq:shape c=.seq:=by kernel_rfl):Y0 C f g c fr h Q:=by
 simp only[kA,zf]at J;have hsz:=zt J.2;obtain⟨q,hm⟩:=qN.1 J.1;have B:Z8 c=q:=by simp only[Z8,hm];rfl
 rw[B]at hh hk hsz;obtain⟨n1,fr1,h1,U,n2,o,e,fr2,h2,hl,ht,hQ⟩:=hh;rw[MF _ _ _ _ _ om,yn,dropLast_take _ _ (by rw[yB];exact hsz)]at U;refine⟨⟨max n1 n2,e,fr2,h2,?_,hQ⟩⟩;cases c<;>simp[shape]at hq;simp only[Hu,hm];unfold Pa;rw[hk,hl,Gt (EE C (yy n1 n2)) U];exact SS (EE C (yq n1 n2)) ht
def Y5:Option Oper->Option (TypeId×Operand×Tmp)
 |some o=>
  match o.op,o.dst,o.guard with
  | .range tM x,some tI,none=>some (tM,x,tI)
  |_,_,_=>none
 |none=>none
theorem b9{o:Oper}{tM:TypeId}{x:Operand}{tI:Tmp}(h:Y5 (some o)=some (tM,x,tI)):o.op=.range tM x/\o.dst=some tI/\o.guard=none:=by
 unfold Y5 at h;simp only at h;split at h
 ·cases h;exact⟨by assumption,by assumption,by assumption⟩
 ·cases h
def mB{σ ρ:Type}(b2 N:Nat)(ob:T5)(X:σ->List (Nat×AD))(Y:ρ->List (Nat×AD))(oc:σ->List AD)(rc:ρ->List AD)(x:σ⊕ρ):CT->Fr->AF->Prop:=λe fr h=>
 ((e=.normal\/e=.exit b2)/\∃s,x=.inl s/\Has fr N (X s)/\Ue ob h=some (oc s))\/(e=.ret/\∃r,x=.inr r/\Has fr N (Y r)/\Ue ob h=some (rc r))
def Rh(q:WE)(ks:List Nat)(N tI tn te n10:Nat):Bool:=
 decide (af q.o9 tI q.tb=some tn)&&decide ((ax q.V6 tI).map (·.1)=some te)&&Nat.beq q.V6.size (n10+1)&&Sv ks N tn q.tb&&(!ks.any (Nat.beq te)&&Nat.blt te N)&&(decide ks.Nodup&&ks.all λk=>Nat.blt k N)
theorem Ws{κ σ ρ:Type}{step:κ->σ->Option (σ⊕ρ)}{l:List κ}{s0:σ}{x0:σ⊕ρ}{enc:κ->AD×AD}{V:σ->List (Nat×AD)}{Y:ρ->List (Nat×AD)}{oc:σ->List AD}{rc:ρ->List AD}
  {q:WE} {ks rs:List Nat} {ot:Option Tmp} {fr1:Fr} {h1:AF} {ob:T5} {id tI tn te n10:Nat} {tM kt et:TypeId} {y:Operand}
  (K:Y5 q.o8.toList.getLast?=some (tM,y,tI)) (hU:C.P.underlying tM=some (.map kt et)) (hsl:Rh q ks N tI tn te n10=true) (I:∀s,tI::(V s).map (·.1)=ks) (hrs:∀r,(Y r).map (·.1)=rs)
  (hev:ev fr1 y=.map (some id)) (M:h1.get id=some (.map 2 (l.map enc))) (hmay:g.may id=true) (hobj:Yt h1 fr1 ot=some (ob,oc s0)) (hmayO:YK g ob=true) (hflat:(oc s0).all PL=true)
  (hH:Has (fr1.set tI (.ptr (some (h1.size,0)))) N ((tI,.ptr (some (h1.size,0)))::V s0))
  (hold:∀s,∀p∈V s,LP (h1.size+1) p.2=true) (W:∀r,∀p∈Y r,LP (h1.size+1) p.2=true) (hdec:C.dec=X0)
  (T:∀l',l'.Perm l->FU step l' s0=some x0)
  (hR:∀p∈l,∀s x,step p s=some x->∀fr,Has fr N ((te,.tuple [(enc p).1,(enc p).2])::(tI,.ptr (some (h1.size,0)))::V s)->
   AT C (TX (h1.size+1) ob) q.V6 (Hd 1 n10) [] fr (Fg ((h1.set id (.map 0 [])).push (.cells none 0 [])) ob (oc s)) (λfr h=>AW C f (TX (h1.size+1) ob) q.body fr h (mB q.b2 N ob (λs=>(tI,.ptr (some (h1.size,0)))::V s) Y oc rc x))):
  ∃n o,q.o8.toList.getLast?=some o/\Q5 C (DY C n) f q g ks rs ot o fr1 h1=some (match x0 with
   | .inl s=>(.normal,fK N ((tI,.ptr (some (h1.size,0)))::V s),Fg ((h1.set id (.map 0 [])).push (.cells none 0 [])) ob (oc s))
   | .inr r=>(.ret,fK N (Y r),Fg ((h1.set id (.map 0 [])).push (.cells none 0 [])) ob (rc r))):=by
 obtain⟨o,ho⟩:∃o,q.o8.toList.getLast?=some o:=by
  cases e:q.o8.toList.getLast? with
  |none=>rw[e]at K;cases K
  |some o=>exact⟨o,rfl⟩
 rw[ho]at K;obtain⟨o1,o2,o3⟩:=b9 K;simp only[Rh,zf,zy,zH,yH]at hsl;obtain⟨⟨⟨⟨⟨q1,q2⟩,q3⟩,q4⟩,q5,q6⟩,q7,q8⟩:=hsl;have q3:=zt q3;obtain⟨⟨te',rest⟩,hen,e'⟩:=zk.1 q2;have e'':te'=te:=e';subst e'';obtain⟨en,hl10,_,_,_⟩:=Yl hen;have hN:fr1.length=N:=by have:=hH.1;rwa [yW]at this
 have hk0:Fp ks 0 (fr1.set tI (.ptr (some (h1.size,0))))=fK N ((tI,.ptr (some (h1.size,0)))::V s0):=TD hH (I s0);have Z:∀s,(fK N ((tI,.ptr (some (h1.size,0)))::V s)).all (LP (h1.size+1))=true:=λs=>bC λp B=>by
  rcases zF.1 B with rfl|B
  ·simp[LP,Uq]
  ·exact hold s p B
 have htI:tI<N:=by
  have:=hH.2 (tI,.ptr (some (h1.size,0))) (by simp);rcases yh tI N with hlt|hge
  ·exact hlt
  ·rw[Sw (by rw[hH.1];exact hge)]at this;cases this
 have hat:∀s,Pk h1.size (nth (fK N ((tI,.ptr (some (h1.size,0)))::V s)) tI)=true:=λs=>by
  rw[cM htI];simp[Mj,yl,Pk]
 have hhsz:((h1.set id (.map 0 [])).push (.cells none 0 [])).size=h1.size+1:=by simp
 obtain⟨n,E⟩:=Rn (rnd:=λn=>Lr C (DY C n) f q ks rs h1.size tI te' rest ((h1.set id (.map 0 [])).push (.cells none 0 [])) ob) (enc:=enc) (st:=λs=>(fK N ((tI,.ptr (some (h1.size,0)))::V s),oc s)) (rt:=λr=>(fK N (Y r),rc r))
  (λhle D=>R1 (EE C hle) D) l.length l s0 rfl (λp B s x D=>by
   obtain⟨k1,fr2,h2,U,k2,e,fr3,h3,hx3,hQ⟩:=(show AT C (TX (h1.size+1) ob) q.V6 (Hd 1 n10) [] ((fK N ((tI,.ptr (some (h1.size,0)))::V s)).set te' (.tuple [(enc p).1,(enc p).2])) (Fg ((h1.set id (.map 0 [])).push (.cells none 0 [])) ob (oc s)) (λfr h=>∃n e fr' h',Bl C (DY C n) f (TX (h1.size+1) ob) q.body fr h=some (e,fr',h')/\mB q.b2 N ob (λs=>(tI,.ptr (some (h1.size,0)))::V s) Y oc rc x e fr' h') from by
    have hX:Has (fK N ((tI,.ptr (some (h1.size,0)))::V s)) N ((tI,.ptr (some (h1.size,0)))::V s):=by
     exact Xm (by rw[zK,I s];exact q7) λk hk=>by
      rw[zK,I s]at hk;simpa using zr.1 q8 k hk
    have:=hR p B s x D _ (hX.Ss q6 (by rw[zK,I s];exact q5));obtain⟨a,b,c,d,hAW⟩:=this
    exact⟨a,b,c,d,hAW.ex⟩)
   rw[Jf _ _ _ _ _ om,hl10,List.drop_one,List.tail_cons]at U;refine⟨max k1 k2,?_⟩;unfold Lr;simp only[hhsz];rw[Gt (EE C (yy k1 k2)) U];simp only[Dr (EE C (yq k1 k2)) hx3];rcases hQ with⟨he,s',rfl,hs',ho'⟩|⟨rfl,r,rfl,hr',ho'⟩
   ·have e1:=TD hs' (I s');have e2:Pk h1.size (nth fr3 tI)=true:=by
     rw[hs'.2 (tI,.ptr (some (h1.size,0))) (by simp)];simp[Pk]
    rcases he with rfl|rfl
    ·simp only[e2,zL,TT,e1,Z,ho',zh];rfl
    ·simp only[e2,yl,yZ,zL,TT,e1,Z,ho',zh];rfl
   ·have e1:=TD hr' (hrs r)
    simp only[TT,e1,bC (W r),zL,ho',zh];rfl)
  (λl' O=>⟨x0,T l' O⟩)
 refine⟨n,o,ho,?_⟩;unfold Q5;simp only[o1,o2,o3,hev,hU,q1,hen,M,hobj];rw[hk0,Z,hat,hmay,hmayO,hflat,hN,q4];simp only[yZ,zL];unfold Uc;have hmain:=E l (List.Perm.refl l) x0 (T l (List.Perm.refl l));rw[hmain];have hd:C.dec.1 (∀es':List (AD×AD),es'.Perm (l.map enc)->EP (Lr C (DY C n) f q ks rs h1.size tI te' rest ((h1.set id (.map 0 [])).push (.cells none 0 [])) ob) es' (fK N ((tI,.ptr (some (h1.size,0)))::V s0),oc s0)=some (Uz (λs=>(fK N ((tI,.ptr (some (h1.size,0)))::V s),oc s)) (λr=>(fK N (Y r),rc r)) x0))=true:=by
  rw[hdec];refine @zg _ (Classical.propDecidable _) λes' B=>?_;obtain⟨l',O,rfl⟩:=VX B;exact E l' O x0 (T l' O)
 cases x0 with
 |inl s=>
  simp only[Uz]at hd⊢;rw[hd];rfl
 |inr r=>
  simp only[Uz]at hd⊢;rw[hd];rfl
inductive Pv(n:Nat):List (Nat×AD)->Prop where
 |nil:Pv n []
 |cons {k:Nat} {v:AD} {l:List (Nat×AD)}:LP n v=true->Pv n l->Pv n ((k,v)::l)
theorem Pv.all{n:Nat}{l:List (Nat×AD)}(h:Pv n l):∀p∈l,LP n p.2=true:=by
 induction h with
 |nil=>intro p B;cases B
 |cons h1 _ ih=>
  intro p B;rcases zF.1 B with rfl|B
  ·exact h1
  ·exact ih p B
theorem HH.kv{L F:List Ck}(a:HH g h L F)(k:Nat){id:Nat}{o:Cs}(hk:L[k]?=some (.obj id o))(j:Nat):LP (h.size+1) (.ptr (some (id,j)))=true:=by
 have:=h.CA (a.get k hk);simp only[LP,Uq];rw[yH];omega
def ky{σ ρ:Type}(b2 N:Nat)(X:σ->List (Nat×AD))(Y:ρ->List (Nat×AD))(x:σ⊕ρ):CT->Fr->AF->Prop:=λe fr h=>
 ((e=.normal\/e=.exit b2)/\∃s,x=.inl s/\Has fr N (X s))\/(e=.ret/\∃r,x=.inr r/\Has fr N (Y r))
theorem HH.none_{n:Nat}{h:AF}(E:h.size=n):HH ⟨n,[]⟩ h [] []:=⟨λc hc=>(by cases hc),by simp[EO],λi hi=>(by simp[EO]at hi),λi hi=>(by cases hi),by rw[E];exact zw _⟩
theorem W2{κ σ ρ:Type}{step:κ->σ->Option (σ⊕ρ)}{l:List κ}{s0:σ}{x0:σ⊕ρ}{enc:κ->AD×AD}{V:σ->List (Nat×AD)}{Y:ρ->List (Nat×AD)}{L F:List Ck}{Am:List (Nat×AD)}
  {c:Code} {ks rs:List Nat} {fr1:Fr} {h1:AF} (k:Nat) {id:Nat} (tI tn te n10:Nat) (tM kt et:TypeId) (y:Operand)
  (A:HH g h1 L F) (H:Has fr1 N Am) (hm:FU step l s0=some x0) (T:∀l',l'.Perm l->FU step l' s0=FU step l s0)
  (hk:L[k]?=some (.obj id (.map 2 (l.map enc)))) (hev:∀fr,ev (Da N Am fr) y=.map (some id)) (hV0:∀fr,(V s0).map (λp=>nth (Da N Am fr) p.1)=(V s0).map (·.2))
  (I:∀s,tI::(V s).map (·.1)=ks) (hrs:∀r,(Y r).map (·.1)=rs) (hold:∀s,Pv (h1.size+1) (V s)) (W:∀r,Pv (h1.size+1) (Y r))
  (hR:∀p,p∈l->∀s x,step p s=some x->∀fr h (it:AD) g F,HH g h [] F->Has fr N ((te,.tuple [(enc p).1,(enc p).2])::(tI,it)::V s)->
   AT C g (Z8 c).V6 (Hd 1 n10) [] fr h (λfr h=>AW C f g (Z8 c).body fr h (ky (Z8 c).b2 N (λs=>(tI,it)::V s) Y x)))
  (hQ:∀s,x0=.inl s->∀fr h,HH g h (L.eraseIdx k) F->Has fr N (V s)->Q .normal fr h) (hQr:∀r,x0=.inr r->∀fr h,HH g h (L.eraseIdx k) F->Has fr N (Y r)->Q .ret fr h)
  (K:Y5 (Z8 c).o8.toList.getLast?=some (tM,y,tI):=by kernel_rfl) (hU:C.P.underlying tM=some (.map kt et):=by kernel_rfl) (hsl:Rh (Z8 c) ks N tI tn te n10=true:=by kernel_rfl) (hrl:(decide rs.Nodup&&rs.all λk=>Nat.blt k N)=true:=by kernel_rfl) (hdec:C.dec=X0:=by rfl):
  mD C f g (Z8 c) ks rs none fr1 h1 Q:=by
 have hev':ev fr1 y=.map (some id):=by have:=hev fr1;rw[Fx H]at this;exact this
 have hV0':=hV0 fr1;rw[Fx H]at hV0';have M:=A.get k hk;have hmay:=A.OP hk (i:=id) (by simp[Ck.ids]);have hsl':=hsl;simp only[Rh,zf,zy]at hsl';obtain⟨_,hnd,hlt⟩:=hsl';have hHV:Has fr1 N (V s0):=Has.of_map H.1 hV0';have hkN:tI<N:=by
  have:=zr.1 hlt tI (by rw[<-I s0];simp);simpa using this
 have hH:Has (fr1.set tI (.ptr (some (h1.size,0)))) N ((tI,.ptr (some (h1.size,0)))::V s0):=hHV.Ss hkN (by
  have:=I s0;rw[<-this,yR]at hnd;rw[Bool.eq_false_iff];intro ha;obtain⟨j,hj,e⟩:=qm.1 ha
  exact hnd.1 (by rw[zt e];exact hj))
 obtain⟨n,o,ho,hrun⟩:=Ws (C:=C) (f:=f) (g:=g) (N:=N) (step:=step) (l:=l) (s0:=s0) (x0:=x0) (enc:=enc) (V:=V) (Y:=Y) (oc:=λ_=>[]) (rc:=λ_=>[]) (q:=Z8 c) (ks:=ks) (rs:=rs) (ot:=none) (fr1:=fr1) (h1:=h1) (ob:=none) K hU hsl I hrs hev' M hmay rfl rfl rfl hH
  (λs=>(hold s).all) (λr=>(W r).all) hdec (λl' O=>(T l' O).trans hm)
  (λp B s x D fr hfr=>by
   obtain⟨a,b,d,U,hAW⟩:=hR p B s x D fr ((h1.set id (.map 0 [])).push (.cells none 0 [])) _ ⟨h1.size+1,[]⟩ [] (HH.none_ (by simp)) hfr;refine⟨a,b,d,U,⟨?_⟩⟩;obtain⟨n2,e,fr',h',he,hq⟩:=hAW.ex;refine⟨n2,e,fr',h',he,?_⟩;rcases hq with⟨q1,s',q2,q3⟩|⟨q1,r,q2,q3⟩
   ·exact .inl ⟨q1,s',q2,q3,rfl⟩
   ·exact .inr ⟨q1,r,q2,q3,rfl⟩)
 have hA':HH g ((h1.set id (.map 0 [])).push (.cells none 0 [])) (L.eraseIdx k) F:=by
  have a1:HH g ((h1.set id (.map 0 [])).push (.cells none 0 [])) (L.set k (.obj id (.map 0 []))) F:=A.VQ hk (by simp) (λi hi E=>by
   rw[AF.Ci _ _ (by simpa using hi),AF.CN _ _ (h1.CA M) (by simpa[Ck.ids]using E)]) (by
   show AF.get _ id=_;rw[AF.Ci _ _ (by simpa using h1.CA M),AF.get_set_same _ _ (h1.CA M)]) (λi hi=>.inl hi) (λi hi=>by
   have:i=id:=by simpa[Ck.ids]using hi
   rw[this];exact hmay)
  have hkl:k<L.length:=(List.getElem?_eq_some_iff.1 hk).1;have a2:=(a1.front k (c:=.obj id (.map 0 [])) (by rw[List.getElem?_set_self hkl])).tail;rwa [List.eraseIdx_set_eq]at a2
 have hX:∀s,Has (fK N ((tI,.ptr (some (h1.size,0)))::V s)) N (V s):=λs=>by
  have:=Xm (N:=N) (l:=(tI,.ptr (some (h1.size,0)))::V s) (by rw[zK,I s];exact hnd) λk hk=>by
   rw[zK,I s]at hk;simpa using zr.1 hlt k hk
  exact⟨this.1,λp B=>this.2 p (by simp[B])⟩
 refine⟨n,o,_,_,_,ho,hrun,?_⟩;cases x0 with
 |inl s=>exact hQ s rfl _ _ hA' (hX s)
 | inr r=>
  simp only[zf,zy]at hrl
  exact hQr r rfl _ _ hA' (Xm (by rw[hrs r];exact hrl.1) λk hk=>by
   rw[hrs r]at hk
   simpa using zr.1 hrl.2 k hk)
theorem eE{args args':List AD}{n:Nat}{rs:List ResultVar}{R:AD->AF->Prop}(hk:C.kind f=10)(hc:CQ (C.still f) args=args')(hf:Hj C.P f=some (n,rs))
  (hh:Y0 C f g (H6 C.P f) (args'++List.replicate (n - args'.length) (.tuple [])) h (λe fr h'=>(e=.ret\/e=.normal)/\∃v,Mm C.P rs fr h'=some v/\R v h')):∃v h',Cf C g h f args v h'/\R v h':=by
 obtain⟨m,e,fr',h2,D,hq,v,hv,hR⟩:=hh.ex;refine⟨v,h2,⟨m+1,?_⟩,hR⟩;show JE C (DY C m) g h f args=_;unfold JE;rw[hk];simp only[hc];unfold Hj at hf;unfold H6 at D;unfold Rr;split at hf
 ·rename_i fn hfn;split at hf
  ·rename_i c hcc;simp only[zb,ze]at hf;obtain⟨rfl,rfl⟩:=hf;simp only[hfn,hcc]at D⊢;rcases hq with rfl|rfl
   ·rw[D];simp only;rw[show Dz C.P fn fr' h2=some v from hv];rfl
   ·rw[D];simp only;rw[show Dz C.P fn fr' h2=some v from hv];rfl
  ·cases hf
 ·cases hf
theorem jA(x:Option (Nat×Nat)):OT g h (.ptr x)=some (.ptr x,h):=rfl
theorem fl{args args':List AD}{n:Nat}{rs:List ResultVar}{R:AD->AF->Prop}{h0:AF}(hk:C.kind f=11)(hz:Ox (OT g) args h0=some (args',h))(hf:Hj C.P f=some (n,rs))
  (hh:AW C f g (Ps C.P f) (args'++List.replicate (n - args'.length) (.tuple [])) h (λe fr h'=>(e=.ret\/e=.normal)/\∃v,Mm C.P rs fr h'=some v/\R v h')):∃v h',Cf C g h0 f args v h'/\R v h':=by
 obtain⟨v,h',hb,hR⟩:=R4 hf hh;obtain⟨m,hm⟩:=hb;refine⟨v,h',⟨m+1,?_⟩,hR⟩;show JE C (DY C m) g h0 f args=_;unfold JE;rw[hk];simp only[hz];exact hm
theorem iN{c:Code}{Q:CT->Fr->AF->Prop}{args:List AD}{n:Nat}(ins:List (Nat×AD))(hl:(args++List.replicate (n - args.length) (AD.tuple [])).length=n)(hi:ins.map (λp=>nth (args++List.replicate (n - args.length) (AD.tuple [])) p.1)=ins.map (·.2))
  (hh:∀fr,Has fr n ins->Y0 C f g c fr h Q):Y0 C f g c (args++List.replicate (n - args.length) (.tuple [])) h Q:=hh _ (Has.of_map hl hi)
end
end Go.Av
