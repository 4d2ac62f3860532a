/-
 A part.
-/
import Derived.Test.YtlddjbgohnlihaaGreatDoorAvRun
namespace Go.Av
set_option linter.unusedVariables false
set_option linter.unusedSimpArgs false
def Self.le(S S':Self):Prop:=(∀g h f args x,S.call g h f args=some x→S'.call g h f args=some x)∧(∀g f c fr h x,S.loop g f c fr h=some x→S'.loop g f c fr h=some x)∧∀g h l args x,S.round g h l args=some x→S'.round g h l args=some x
section
variable {C:Gp} {S S':Self}
theorem Kh(E:S.le S'){g:Gd}{h:AI}{fr:Fr}{op:Op}{x:AB×AI}(G:BC C S g h fr op=some x):BC C S' g h fr op=some x:=by
 unfold BC at G⊢;split at G
 ·split at G
  ·exact E.1 _ _ _ _ _ G
  ·exact E.2.2 _ _ _ _ _ G
  ·cases G
 ·exact G
theorem GA(E:S.le S'){g:Gd}{ops:Array Oper}:∀{l:List Oper} {fr:Fr} {h:AI} {x:Fr×AI},D3 C S g ops l fr h=some x→D3 C S' g ops l fr h=some x
 |[],fr,h,x,B=>B
 | o::l,fr,h,x,B=>by
  unfold D3 at B⊢;split at B
  ·split at B
   ·rename_i v h' G;simp only[Kh E G];exact GA E B
   ·cases B
  ·exact GA E B
  ·cases B
theorem HS(E:S.le S'){g:Gd}{ops:Array Oper}:∀{l:List (Nat×List Nat)} {tch:List (Nat×Nat)} {fr:Fr} {h:AI} {x:Fr×AI},CB C S g ops l tch fr h=some x→CB C S' g ops l tch fr h=some x
 |[],tch,fr,h,x,B=>B
 | (i,U)::l,tch,fr,h,x,B=>by
  unfold CB at B⊢;split at B
  ·cases B
  ·split at B
   ·split at B
    ·rename_i v h' G;simp only[Kh E G];cases J:Oy C ops U (put fr _ v) h' with
     |false=>rw[J]at B;cases B
     |true=>rw[J]at B;exact HS E B
    ·cases B
   ·exact HS E B
   ·cases B
theorem EJ(E:S.le S'){f:FuncId}{g:Gd}:∀{c:Code} {fr:Fr} {h:AI} {x:CI×Fr×AI},BU C S f g c fr h=some x→BU C S' f g c fr h=some x:=by
 intro c
 induction c with
 |skip=>intro fr h x B;exact B
 |label l=>intro fr h x B;exact B
 |exit id=>intro fr h x B;exact B
 |ret=>intro fr h x B;exact B
 |goto l=>intro fr h x B;exact B
 |refuse s=>intro fr h x B;exact B
 |rangeFunc y ps a b iha ihb=>
  intro fr h x B;exact B
 | region id ops draw=>
  intro fr h x B;simp only[BU]at B⊢;cases draw with
  |true=>
   simp only[zW]at B⊢;split at B
   ·rename_i fr' h' I;rw[HS E I];exact B
   ·cases B
  |false=>
   simp only[y9]at B⊢;split at B
   ·rename_i fr' h' I;rw[GA E I];exact B
   ·cases B
 | seq a b iha ihb=>
  intro fr h x B;simp only[BU]at B⊢;split at B
  ·rename_i fr' h' H;rw[iha H];exact ihb B
  ·rename_i F;have:=iha B;rw[this];split
   ·rename_i fr' h' he;exact absurd (B.trans he) (F _ _)
   ·rfl
 |cond c a b iha ihb=>
  intro fr h x B;simp only[BU]at B⊢;split at B
  ·exact iha B
  ·exact ihb B
  ·cases B
 | block id c ih=>
  intro fr h x B;simp only[BU]at B⊢;split at B
  ·rename_i i fr' h' H;rw[ih H];exact B
  ·rename_i F;rw[ih B];split
   ·rename_i i fr' h' he;exact absurd (B.trans he) (F _ _ _)
   ·rfl
 | loop c ih=>
  intro fr h x B;simp only[BU]at B⊢;split at B
  ·rename_i fr' h' H;rw[ih H];exact E.2.1 _ _ _ _ _ _ B
  ·rename_i F;rw[ih B];split
   ·rename_i fr' h' he;exact absurd (B.trans he) (F _ _)
   ·rfl
 |scope c ih=>
  intro fr h x B;simp only[BU]at B⊢;exact ih B
theorem Px(E:S.le S'){f:FuncId}{q:UH}{ks rs:List Nat}{it:Nat}{tI te:Tmp}{rest:List Oper}{L:AI}{ob:RI}{σ:Fr×List AB}{p:AB×AB}{x:Bool×Fr×List AB}(B:KJ C S f q ks rs it tI te rest L ob σ p=some x):KJ C S' f q ks rs it tI te rest L ob σ p=some x:=by
 unfold KJ at B⊢;split at B
 ·rename_i fr2 h2 I;rw[GA E I];simp only;split at B
  ·rename_i he;rw[EJ E he];exact B
  ·rename_i he;rw[EJ E he];exact B
  ·rename_i he;rw[EJ E he];exact B
  ·cases B
 ·cases B
theorem Hx{α β:Type}{r r':α→β→Option (Bool×α)}(h:∀{a b x},r a b=some x→r' a b=some x):∀(l:List β) {a:α} {x:Bool×α},De r l a=some x→De r' l a=some x
 |[],a,x,B=>B
 | p::l,a,x,B=>by
  simp only[De]at B⊢;cases K:r a p with
  |none=>rw[K]at B;cases B
  |some y=>
   rw[K]at B;rw[h K];obtain⟨b,z⟩:=y;cases b with
   |true=>exact B
   |false=>exact Hx h l B
theorem VC{r r':Fr×List AB→AB×AB→Option (Bool×Fr×List AB)}(h:∀{a b x},r a b=some x→r' a b=some x){es:List (AB×AB)}{σ:Fr×List AB}{L:AI}{ob:RI}{x:CI×Fr×AI}(B:RG C r es σ L ob=some x):RG C r' es σ L ob=some x:=by
 unfold RG at B⊢;split at B
 ·rename_i hf;rw[Hx h _ hf];simp only;obtain⟨hd,B⟩:=LM B;rw[C.dec.2.2 _ _ hd fun k es' K=>Hx h _ (k es' K)];exact B
 ·cases B
theorem QC(E:S.le S'){f:FuncId}{q:UH}{g:Gd}{ks rs:List Nat}{ot:Option Tmp}{orng:Oper}{fr1:Fr}{h1:AI}{x:CI×Fr×AI}(B:Oa C S f q g ks rs ot orng fr1 h1=some x):Oa C S' f q g ks rs ot orng fr1 h1=some x:=by
 unfold Oa at B⊢;split at B
 rotate_left
 ·cases B
 split at B
 rotate_left
 ·cases B
 split at B
 rotate_left
 ·cases B
 ·obtain⟨hc,B⟩:=LM B;rw[hc];simp only[zW];exact VC (fun I=>Px E I) B
theorem VE(E:S.le S'){f:FuncId}{q:UH}{g:Gd}{fr:Fr}{h:AI}{x:CI×Fr×AI}(B:NI C S f q g fr h=some x):NI C S' f q g fr h=some x:=by
 unfold NI at B⊢;split at B
 rotate_left
 ·cases B
 rename_i ks rs ot orng fr1 h1 hmk hlast hpre;rw[hmk,hlast,GA E hpre];exact QC E B
theorem Kq(E:S.le S'){f:FuncId}{g:Gd}:∀{c:Code} {fr:Fr} {h:AI} {x:CI×Fr×AI},GW C S f g c fr h=some x→GW C S' f g c fr h=some x:=by
 intro c
 induction c with
 | seq a b iha ihb=>
  intro fr h x B;simp only[GW]at B⊢;split at B
  ·exact VE E B
  ·split at B
   ·rename_i fr' h' H;rw[iha H];exact ihb B
   ·rename_i F;have:=iha B;rw[this];split
    ·rename_i fr' h' he;exact absurd (B.trans he) (F _ _)
    ·rfl
 |_=>intro fr h x B;simp only[GW]at B⊢;exact EJ E B
theorem Uq(E:S.le S'){g:Gd}{h:AI}{f:FuncId}{args:List AB}{x:AB×AI}(D:QB C S g h f args=some x):QB C S' g h f args=some x:=by
 unfold QB at D⊢;split at D
 ·cases D
 ·split at D
  ·cases D
  ·split at D
   ·rename_i fr' h' he;rw[Kq E he];exact D
   ·rename_i fr' h' he;rw[Kq E he];exact D
   ·cases D
theorem JA(E:S.le S'){g:Gd}{h:AI}{f:FuncId}{args:List AB}{x:AB×AI}(D:Ja C S g h f args=some x):Ja C S' g h f args=some x:=by
 unfold Ja at D⊢;split at D
 ·cases D
 ·split at D
  ·cases D
  ·split at D
   ·rename_i fr' h' he;rw[EJ E he];exact D
   ·rename_i fr' h' he;rw[EJ E he];exact D
   ·cases D
theorem Ug(E:S.le S'){g:Gd}{h:AI}{f:FuncId}{args:List AB}{x:AB×AI}(D:Jn C S g h f args=some x):Jn C S' g h f args=some x:=by
 unfold Jn at D⊢;split at D
 ·exact JA E D
 ·split at D
  ·rename_i v h' he;rw[JA E he];exact D
  ·cases D
 ·exact D
 ·cases H:args.all I5 with
  |false=>rw[H]at D;cases D
  |true=>
   rw[H]at D;simp only[zW]at D⊢;split at D
   ·rename_i v h' he;rw[JA E he];exact D
   ·cases D
 ·split at D
  ·rename_i v h' he;rw[JA E he];exact D
  ·cases D
 ·exact Uq E D
 ·split at D
  ·exact JA E D
  ·cases D
 ·cases D
theorem M4(C:Gp):∀n,(DL C n).le (DL C (n+1))
 |0=>⟨fun _ _ _ _ _ h=>by simp[DL]at h,fun _ _ _ _ _ _ h=>by simp[DL]at h,fun _ _ _ _ _ h=>by simp[DL]at h⟩
 |n+1=>⟨fun _ _ _ _ _ h=>Ug (M4 C n) h,fun _ _ _ _ _ _ h=>EJ (M4 C n) h,fun _ _ _ _ x h=>nomatch (show none=some x from h)⟩
theorem Self.le_refl(S:Self):S.le S:=⟨fun _ _ _ _ _ h=>h,fun _ _ _ _ _ _ h=>h,fun _ _ _ _ _ h=>h⟩
theorem Self.le.trans{S T U:Self}(h:S.le T)(k:T.le U):S.le U:=⟨fun _ _ _ _ _ x=>k.1 _ _ _ _ _ (h.1 _ _ _ _ _ x),fun _ _ _ _ _ _ x=>k.2.1 _ _ _ _ _ _ (h.2.1 _ _ _ _ _ _ x),fun _ _ _ _ _ x=>k.2.2 _ _ _ _ _ (h.2.2 _ _ _ _ _ x)⟩
theorem Ej(C:Gp){n m:Nat}(h:n≤m):(DL C n).le (DL C m):=by
 induction h with
 |refl=>exact Self.le_refl _
 |step h ih=>exact ih.trans (M4 C _)
end
end Go.Av
