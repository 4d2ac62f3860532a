/-
 A part.
-/
import Derived.Test.YtgkbpgefomapgaaGreatDoorAvRun
namespace Go.Av
set_option linter.unusedVariables false
set_option linter.unusedSimpArgs false
def Self.le(S S':Self):Prop:=(∀g h f args x,S.call g h f args=some x->S'.call g h f args=some x)/\(∀g f c fr h x,S.loop g f c fr h=some x->S'.loop g f c fr h=some x)/\∀g h l args x,S.round g h l args=some x->S'.round g h l args=some x
section
variable {C:J8} {S S':Self}
theorem L3(E:S.le S'){g:Gd}{h:AS}{fr:Fr}{op:Op}{x:AE×AS}(F:CC C S g h fr op=some x):CC C S' g h fr op=some x:=by
 unfold CC at F⊢;split at F
 ·split at F
  ·exact E.1 _ _ _ _ _ F
  ·exact E.2.2 _ _ _ _ _ F
  ·cases F
 ·exact F
theorem MX(E:S.le S'){g:Gd}{ops:Array Oper}:∀{l:List Oper} {fr:Fr} {h:AS} {x:Fr×AS},Ia C S g ops l fr h=some x->Ia C S' g ops l fr h=some x
 |[],fr,h,x,B=>B
 | o::l,fr,h,x,B=>by
  unfold Ia at B⊢;split at B
  ·split at B
   ·rename_i v h' F;simp only[L3 E F];exact MX E B
   ·cases B
  ·exact MX E B
  ·cases B
theorem Iw(E:S.le S'){g:Gd}{ops:Array Oper}:∀{l:List (Nat×List Nat)} {tch:List (Nat×Nat)} {fr:Fr} {h:AS} {x:Fr×AS},Dx C S g ops l tch fr h=some x->Dx C S' g ops l tch fr h=some x
 |[],tch,fr,h,x,B=>B
 | (i,U)::l,tch,fr,h,x,B=>by
  unfold Dx at B⊢;split at B
  ·cases B
  ·split at B
   ·split at B
    ·rename_i v h' F;simp only[L3 E F];cases hre:Mr C ops U (put fr _ v) h' with
     |false=>rw[hre]at B;cases B
     |true=>rw[hre]at B;exact Iw E B
    ·cases B
   ·exact Iw E B
   ·cases B
theorem G3(E:S.le S'){f:FuncId}{g:Gd}:∀{c:Code} {fr:Fr} {h:AS} {x:HV×Fr×AS},CV C S f g c fr h=some x->CV C S' f g c fr h=some x:=by
 intro c
 induction c with
 |skip=>intro fr h x B;exact B
 |label l=>intro fr h x B;exact B
 |exit id=>intro fr h x B;exact B
 |ret=>intro fr h x B;exact B
 |goto l=>intro fr h x B;exact B
 |refuse s=>intro fr h x B;exact B
 |rangeFunc y ps a b iha ihb=>
  intro fr h x B;exact B
 | region id ops draw=>
  intro fr h x B;simp only[CV]at B⊢;cases draw with
  |true=>
   simp only[zY]at B⊢;split at B
   ·rename_i fr' h' I;rw[Iw E I];exact B
   ·cases B
  |false=>
   simp only[yf]at B⊢;split at B
   ·rename_i fr' h' I;rw[MX E I];exact B
   ·cases B
 | seq a b iha ihb=>
  intro fr h x B;simp only[CV]at B⊢;split at B
  ·rename_i fr' h' H;rw[iha H];exact ihb B
  ·rename_i G;have:=iha B;rw[this];split
   ·rename_i fr' h' he;exact absurd (B.trans he) (G _ _)
   ·rfl
 |cond c a b iha ihb=>
  intro fr h x B;simp only[CV]at B⊢;split at B
  ·exact iha B
  ·exact ihb B
  ·cases B
 | block id c ih=>
  intro fr h x B;simp only[CV]at B⊢;split at B
  ·rename_i i fr' h' H;rw[ih H];exact B
  ·rename_i G;rw[ih B];split
   ·rename_i i fr' h' he;exact absurd (B.trans he) (G _ _ _)
   ·rfl
 | loop c ih=>
  intro fr h x B;simp only[CV]at B⊢;split at B
  ·rename_i fr' h' H;rw[ih H];exact E.2.1 _ _ _ _ _ _ B
  ·rename_i G;rw[ih B];split
   ·rename_i fr' h' he;exact absurd (B.trans he) (G _ _)
   ·rfl
 |scope c ih=>
  intro fr h x B;simp only[CV]at B⊢;exact ih B
theorem Nq(E:S.le S'){g:Gd}{h:AS}{f:FuncId}{args:List AE}{x:AE×AS}(D:L8 C S g h f args=some x):L8 C S' g h f args=some x:=by
 unfold L8 at D⊢;split at D
 ·cases D
 ·split at D
  ·cases D
  ·split at D
   ·rename_i fr' h' he;rw[G3 E he];exact D
   ·rename_i fr' h' he;rw[G3 E he];exact D
   ·cases D
theorem UJ(E:S.le S'){g:Gd}{h:AS}{f:FuncId}{args:List AE}{x:AE×AS}(D:Ki C S g h f args=some x):Ki C S' g h f args=some x:=by
 unfold Ki at D⊢;split at D
 ·exact Nq E D
 ·exact D
 ·split at D
  ·rename_i v h' he;rw[Nq E he];exact D
  ·cases D
 ·split at D
  ·rename_i v h' he;rw[Nq E he];exact D
  ·cases D
 ·cases D
theorem Nv(C:J8):∀n,(FE C n).le (FE C (n+1))
 |0=>⟨λ_ _ _ _ _ h=>by simp[FE]at h,λ_ _ _ _ _ _ h=>by simp[FE]at h,λ_ _ _ _ _ h=>by simp[FE]at h⟩
 |n+1=>⟨λ_ _ _ _ _ h=>UJ (Nv C n) h,λ_ _ _ _ _ _ h=>G3 (Nv C n) h,λ_ _ _ _ x h=>nomatch (show none=some x from h)⟩
theorem Self.le_refl(S:Self):S.le S:=⟨λ_ _ _ _ _ h=>h,λ_ _ _ _ _ _ h=>h,λ_ _ _ _ _ h=>h⟩
theorem Self.le.trans{S T U:Self}(h:S.le T)(k:T.le U):S.le U:=⟨λ_ _ _ _ _ x=>k.1 _ _ _ _ _ (h.1 _ _ _ _ _ x),λ_ _ _ _ _ _ x=>k.2.1 _ _ _ _ _ _ (h.2.1 _ _ _ _ _ _ x),λ_ _ _ _ _ x=>k.2.2 _ _ _ _ _ (h.2.2 _ _ _ _ _ x)⟩
theorem H3(C:J8){n m:Nat}(h:n<=m):(FE C n).le (FE C m):=by
 induction h with
 |refl=>exact Self.le_refl _
 |step h ih=>exact ih.trans (Nv C _)
end
end Go.Av
