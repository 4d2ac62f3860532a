/-
 A part.
-/
import Derived.Test.YthhonebaoidfgaaGreatDoorAvRun
set_option linter.unusedSimpArgs false
namespace Go.Av
set_option linter.unusedVariables false
set_option linter.unusedSimpArgs false
def Self.le(S S':Self):Prop:=(∀g h f args x,S.call g h f args=some x->S'.call g h f args=some x)/\(∀g f c fr h x,S.loop g f c fr h=some x->S'.loop g f c fr h=some x)/\∀g h l args x,S.round g h l args=some x->S'.round g h l args=some x
section
variable {C:Hv} {S S':Self}
theorem MU(E:S.le S'){g:Gd}{h:AF}{fr:Fr}{op:Op}{x:AD×AF}(G:Bv C S g h fr op=some x):Bv C S' g h fr op=some x:=by
 unfold Bv at G⊢;split at G
 ·split at G
  ·exact E.1 _ _ _ _ _ G
  ·exact E.2.2 _ _ _ _ _ G
  ·cases G
 ·exact G
theorem Gt(E:S.le S'){g:Gd}{ops:Array Oper}:∀{l:List Oper} {fr:Fr} {h:AF} {x:Fr×AF},Eb C S g ops l fr h=some x->Eb C S' g ops l fr h=some x
 |[],fr,h,x,B=>B
 | o::l,fr,h,x,B=>by
  unfold Eb at B⊢;split at B
  ·split at B
   ·rename_i v h' G;simp only[MU E G];exact Gt E B
   ·cases B
  ·exact Gt E B
  ·cases B
theorem Iy(E:S.le S'){g:Gd}{ops:Array Oper}:∀{l:List (Nat×List Nat)} {tch:List (Nat×Nat)} {fr:Fr} {h:AF} {x:Fr×AF},DH C S g ops l tch fr h=some x->DH C S' g ops l tch fr h=some x
 |[],tch,fr,h,x,B=>B
 | (i,U)::l,tch,fr,h,x,B=>by
  unfold DH at B⊢;split at B
  ·cases B
  ·split at B
   ·split at B
    ·rename_i v h' G;simp only[MU E G];cases J:RE C ops U (put fr _ v) h' with
     |false=>rw[J]at B;cases B
     |true=>rw[J]at B;exact Iy E B
    ·cases B
   ·exact Iy E B
   ·cases B
theorem Dr(E:S.le S'){f:FuncId}{g:Gd}:∀{c:Code} {fr:Fr} {h:AF} {x:CT×Fr×AF},Bl C S f g c fr h=some x->Bl C S' f g c fr h=some x:=by
 intro c
 induction c with
 |skip=>intro fr h x B;exact B
 |label l=>intro fr h x B;exact B
 |exit id=>intro fr h x B;exact B
 |ret=>intro fr h x B;exact B
 |goto l=>intro fr h x B;exact B
 |refuse s=>intro fr h x B;exact B
 |rangeFunc y ps a b iha ihb=>
  intro fr h x B;exact B
 | region id ops draw=>
  intro fr h x B;simp only[Bl]at B⊢;cases draw with
  |true=>
   simp only[zL]at B⊢;split at B
   ·rename_i fr' h' I;rw[Iy E I];exact B
   ·cases B
  |false=>
   simp only[yO]at B⊢;split at B
   ·rename_i fr' h' I;rw[Gt E I];exact B
   ·cases B
 | seq a b iha ihb=>
  intro fr h x B;simp only[Bl]at B⊢;split at B
  ·rename_i fr' h' H;rw[iha H];exact ihb B
  ·rename_i F;have:=iha B;rw[this];split
   ·rename_i fr' h' he;exact absurd (B.trans he) (F _ _)
   ·rfl
 |cond c a b iha ihb=>
  intro fr h x B;simp only[Bl]at B⊢;split at B
  ·exact iha B
  ·exact ihb B
  ·cases B
 | block id c ih=>
  intro fr h x B;simp only[Bl]at B⊢;split at B
  ·rename_i i fr' h' H;rw[ih H];exact B
  ·rename_i F;rw[ih B];split
   ·rename_i i fr' h' he;exact absurd (B.trans he) (F _ _ _)
   ·rfl
 | loop c ih=>
  intro fr h x B;simp only[Bl]at B⊢;split at B
  ·rename_i fr' h' H;rw[ih H];exact E.2.1 _ _ _ _ _ _ B
  ·rename_i F;rw[ih B];split
   ·rename_i fr' h' he;exact absurd (B.trans he) (F _ _)
   ·rfl
 |scope c ih=>
  intro fr h x B;simp only[Bl]at B⊢;exact ih B
theorem MV(E:S.le S'){f:FuncId}{g:Gd}:∀{c:Code} {fr:Fr} {h:AF} {x:CT×Fr×AF},Ic C S f g c fr h=some x->Ic C S' f g c fr h=some x:=by
 have base:∀{c:Code} {fr:Fr} {h:AF} {x:CT×Fr×AF},(bif Ly c then KS C S g c fr h else Bl C S f g c fr h)=some x->(bif Ly c then KS C S' g c fr h else Bl C S' f g c fr h)=some x:=by
  intro c fr h x B;cases G:Ly c with
  |false=>rw[G]at B;exact Dr E B
  | true=>
   rw[G]at B;simp only[zL]at B⊢;unfold KS at B⊢;split at B
   ·split at B
    ·split at B
     ·split at B
      ·rename_i fr' h' I;simp only[Gt E I];exact B
      ·cases B
     ·cases B
    ·cases B
   ·cases B
 intro c
 induction c with
 | seq a b iha ihb=>
  intro fr h x B;simp only[Ic]at B⊢;split at B
  ·rename_i fr' h' H;rw[iha H];exact ihb B
  ·rename_i F;have:=iha B;rw[this];split
   ·rename_i fr' h' he;exact absurd (B.trans he) (F _ _)
   ·rfl
 |_=>intro fr h x B;simp only[Ic]at B⊢;exact base B
theorem XS(E:S.le S'){g:Gd}{h:AF}{f:FuncId}{args:List AD}{x:AD×AF}(D:Sg C S g h f args=some x):Sg C S' g h f args=some x:=by
 unfold Sg at D⊢;split at D
 ·cases D
 ·split at D
  ·cases D
  ·split at D
   ·rename_i fr' h' he;rw[MV E he];exact D
   ·rename_i fr' h' he;rw[MV E he];exact D
   ·cases D
theorem R1(E:S.le S'){f:FuncId}{q:WE}{ks rs:List Nat}{it:Nat}{tI te:Tmp}{rest:List Oper}{L:AF}{ob:T5}{σ:Fr×List AD}{p:AD×AD}{x:Bool×Fr×List AD}(B:Lr C S f q ks rs it tI te rest L ob σ p=some x):Lr C S' f q ks rs it tI te rest L ob σ p=some x:=by
 unfold Lr at B⊢;split at B
 ·rename_i fr2 h2 I;rw[Gt E I];simp only;split at B
  ·rename_i he;rw[Dr E he];exact B
  ·rename_i he;rw[Dr E he];exact B
  ·rename_i he;rw[Dr E he];exact B
  ·cases B
 ·cases B
theorem Jd{α β:Type}{r r':α->β->Option (Bool×α)}(h:∀{a b x},r a b=some x->r' a b=some x):∀(l:List β) {a:α} {x:Bool×α},EP r l a=some x->EP r' l a=some x
 |[],a,x,B=>B
 | p::l,a,x,B=>by
  simp only[EP]at B⊢;cases K:r a p with
  |none=>rw[K]at B;cases B
  |some y=>
   rw[K]at B;rw[h K];obtain⟨b,z⟩:=y;cases b with
   |true=>exact B
   |false=>exact Jd h l B
theorem Xl{r r':Fr×List AD->AD×AD->Option (Bool×Fr×List AD)}(h:∀{a b x},r a b=some x->r' a b=some x){es:List (AD×AD)}{σ:Fr×List AD}{L:AF}{ob:T5}{x:CT×Fr×AF}(B:Uc C r es σ L ob=some x):Uc C r' es σ L ob=some x:=by
 unfold Uc at B⊢;split at B
 ·rename_i hf;rw[Jd h _ hf];simp only;obtain⟨hd,B⟩:=NC B;rw[C.dec.2.2 _ _ hd λk es' K=>Jd h _ (k es' K)];exact B
 ·cases B
theorem SS(E:S.le S'){f:FuncId}{q:WE}{g:Gd}{ks rs:List Nat}{ot:Option Tmp}{orng:Oper}{fr1:Fr}{h1:AF}{x:CT×Fr×AF}(B:Q5 C S f q g ks rs ot orng fr1 h1=some x):Q5 C S' f q g ks rs ot orng fr1 h1=some x:=by
 unfold Q5 at B⊢;split at B
 rotate_left
 ·cases B
 split at B
 rotate_left
 ·cases B
 split at B
 rotate_left
 ·cases B
 ·obtain⟨hc,B⟩:=NC B;rw[hc];simp only[zL];exact Xl (λI=>R1 E I) B
theorem XZ(E:S.le S'){f:FuncId}{q:WE}{g:Gd}{fr:Fr}{h:AF}{x:CT×Fr×AF}(B:Pa C S f q g fr h=some x):Pa C S' f q g fr h=some x:=by
 unfold Pa at B⊢;split at B
 rotate_left
 ·cases B
 rename_i ks rs ot orng fr1 h1 hmk hlast hpre;rw[hmk,hlast,Gt E hpre];exact SS E B
theorem Mb(E:S.le S'){f:FuncId}{g:Gd}:∀{c:Code} {fr:Fr} {h:AF} {x:CT×Fr×AF},Hu C S f g c fr h=some x->Hu C S' f g c fr h=some x:=by
 intro c
 induction c with
 | seq a b iha ihb=>
  intro fr h x B;simp only[Hu]at B⊢;split at B
  ·exact XZ E B
  ·split at B
   ·rename_i fr' h' H;rw[iha H];exact ihb B
   ·rename_i F;have:=iha B;rw[this];split
    ·rename_i fr' h' he;exact absurd (B.trans he) (F _ _)
    ·rfl
 |_=>intro fr h x B;simp only[Hu]at B⊢;exact Dr E B
theorem Xv(E:S.le S'){g:Gd}{h:AF}{f:FuncId}{args:List AD}{x:AD×AF}(D:Rr C S g h f args=some x):Rr C S' g h f args=some x:=by
 unfold Rr at D⊢;split at D
 ·cases D
 ·split at D
  ·cases D
  ·split at D
   ·rename_i fr' h' he;rw[Mb E he];exact D
   ·rename_i fr' h' he;rw[Mb E he];exact D
   ·cases D
theorem KZ(E:S.le S'){g:Gd}{h:AF}{f:FuncId}{args:List AD}{x:AD×AF}(D:K5 C S g h f args=some x):K5 C S' g h f args=some x:=by
 unfold K5 at D⊢;split at D
 ·cases D
 ·split at D
  ·cases D
  ·split at D
   ·rename_i fr' h' he;rw[Dr E he];exact D
   ·rename_i fr' h' he;rw[Dr E he];exact D
   ·cases D
theorem X3(E:S.le S'){g:Gd}{h:AF}{f:FuncId}{args:List AD}{x:AD×AF}(D:JE C S g h f args=some x):JE C S' g h f args=some x:=by
 unfold JE at D⊢;split at D
 ·exact KZ E D
 ·split at D
  ·rename_i v h' he;rw[KZ E he];exact D
  ·cases D
 ·exact D
 ·cases H:args.all Ko with
  |false=>rw[H]at D;cases D
  |true=>
   rw[H]at D;simp only[zL]at D⊢;split at D
   ·rename_i v h' he;rw[KZ E he];exact D
   ·cases D
 ·split at D
  ·rename_i v h' he;rw[KZ E he];exact D
  ·cases D
 ·exact XS E D
 ·exact Xv E D
 ·split at D
  ·exact KZ E D
  ·cases D
 ·cases D
theorem PD(C:Hv):∀n,(DY C n).le (DY C (n+1))
 |0=>⟨λ_ _ _ _ _ h=>by simp[DY]at h,λ_ _ _ _ _ _ h=>by simp[DY]at h,λ_ _ _ _ _ h=>by simp[DY]at h⟩
 |n+1=>⟨λ_ _ _ _ _ h=>X3 (PD C n) h,λ_ _ _ _ _ _ h=>Dr (PD C n) h,λ_ _ _ _ x h=>nomatch (show none=some x from h)⟩
theorem Self.le_refl(S:Self):S.le S:=⟨λ_ _ _ _ _ h=>h,λ_ _ _ _ _ _ h=>h,λ_ _ _ _ _ h=>h⟩
theorem Self.le.trans{S T U:Self}(h:S.le T)(k:T.le U):S.le U:=⟨λ_ _ _ _ _ x=>k.1 _ _ _ _ _ (h.1 _ _ _ _ _ x),λ_ _ _ _ _ _ x=>k.2.1 _ _ _ _ _ _ (h.2.1 _ _ _ _ _ _ x),λ_ _ _ _ _ x=>k.2.2 _ _ _ _ _ (h.2.2 _ _ _ _ _ x)⟩
theorem EE(C:Hv){n m:Nat}(h:n<=m):(DY C n).le (DY C m):=by
 induction h with
 |refl=>exact Self.le_refl _
 |step h ih=>exact ih.trans (PD C _)
end
end Go.Av
