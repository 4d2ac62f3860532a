/-
 A part.
-/
import Derived.Test.YtfgmnhjedmkpeaaAbsRun
set_option linter.unusedSimpArgs false
namespace Go.Abs
def Self.le(S S':Self):Prop:=(∀g h f args x,S.call g h f args=some x->S'.call g h f args=some x)/\∀g f c fr h x,S.loop g f c fr h=some x->S'.loop g f c fr h=some x
section
variable {C:Gf} {S S':Self}
theorem GX(E:S.le S'){g:Gd}{h:AE}{fr:Fr}{op:Op}{x:AD×AE}(G:BI C S g h fr op=some x):BI C S' g h fr op=some x:=by
 unfold BI at G⊢;split at G
 ·split at G
  ·exact E.1 _ _ _ _ _ G
  ·cases G
 ·exact G
theorem G7(E:S.le S'){g:Gd}{ops:Array Oper}:∀{l:List Oper} {fr:Fr} {h:AE} {x:Fr×AE},EF C S g ops l fr h=some x->EF C S' g ops l fr h=some x
 |[],fr,h,x,B=>B
 | o::l,fr,h,x,B=>by
  unfold EF at B⊢;split at B
  ·split at B
   ·rename_i v h' G;simp only[GX E G];exact G7 E B
   ·cases B
  ·exact G7 E B
  ·cases B
theorem EG(E:S.le S'){g:Gd}{ops:Array Oper}:∀{l:List (Nat×List Nat)} {tch:List (Nat×Nat)} {fr:Fr} {h:AE} {x:Fr×AE},Bl C S g ops l tch fr h=some x->Bl C S' g ops l tch fr h=some x
 |[],tch,fr,h,x,B=>B
 | (i,U)::l,tch,fr,h,x,B=>by
  unfold Bl at B⊢;split at B
  ·cases B
  ·split at B
   ·split at B
    ·rename_i v h' G;simp only[GX E G];exact EG E B
    ·cases B
   ·exact EG E B
   ·cases B
theorem Dl(E:S.le S'){f:FuncId}{g:Gd}:∀{c:Code} {fr:Fr} {h:AE} {x:DF×Fr×AE},BF C S f g c fr h=some x->BF C S' f g c fr h=some x:=by
 intro c
 induction c with
 |skip=>intro fr h x B;exact B
 |label l=>intro fr h x B;exact B
 |exit id=>intro fr h x B;exact B
 |ret=>intro fr h x B;exact B
 |goto l=>intro fr h x B;exact B
 |refuse s=>intro fr h x B;exact B
 |rangeFunc f ps a b iha ihb=>intro fr h x B;simp[BF]at B
 | region id ops draw=>
  intro fr h x B;simp only[BF]at B⊢;cases draw with
  |true=>
   simp only[xr]at B⊢;split at B
   ·rename_i fr' h' I;rw[EG E I];exact B
   ·cases B
  |false=>
   simp only[xB]at B⊢;split at B
   ·rename_i fr' h' I;rw[G7 E I];exact B
   ·cases B
 | seq a b iha ihb=>
  intro fr h x B;simp only[BF]at B⊢;split at B
  ·rename_i fr' h' H;rw[iha H];exact ihb B
  ·rename_i F;have:=iha B;rw[this];split
   ·rename_i fr' h' he;exact absurd (B.trans he) (F _ _)
   ·rfl
 |cond c a b iha ihb=>
  intro fr h x B;simp only[BF]at B⊢;split at B
  ·exact iha B
  ·exact ihb B
  ·cases B
 | block id c ih=>
  intro fr h x B;simp only[BF]at B⊢;split at B
  ·rename_i i fr' h' H;rw[ih H];exact B
  ·rename_i F;rw[ih B];split
   ·rename_i i fr' h' he;exact absurd (B.trans he) (F _ _ _)
   ·rfl
 | loop c ih=>
  intro fr h x B;simp only[BF]at B⊢;split at B
  ·rename_i fr' h' H;rw[ih H];exact E.2 _ _ _ _ _ _ B
  ·rename_i F;rw[ih B];split
   ·rename_i fr' h' he;exact absurd (B.trans he) (F _ _)
   ·rfl
 |scope c ih=>intro fr h x B;exact ih B
theorem Hz(E:S.le S'){g:Gd}{h:AE}{f:FuncId}{args:List AD}{x:AD×AE}(D:Gk C S g h f args=some x):Gk C S' g h f args=some x:=by
 unfold Gk at D⊢;split at D
 ·cases D
 ·split at D
  ·cases D
  ·split at D
   ·rename_i fr' h' he;rw[Dl E he];exact D
   ·rename_i fr' h' he;rw[Dl E he];exact D
   ·cases D
theorem NK(E:S.le S'){g:Gd}{h:AE}{f:FuncId}{args:List AD}{x:AD×AE}(D:HT C S g h f args=some x):HT C S' g h f args=some x:=by
 unfold HT at D⊢;split at D
 ·exact Hz E D
 ·split at D
  ·rename_i v h' he;rw[Hz E he];exact D
  ·cases D
 ·exact D
 ·cases H:args.all HS with
  |false=>rw[H]at D;cases D
  |true=>
   rw[H]at D;simp only[xr]at D⊢;split at D
   ·rename_i v h' he;rw[Hz E he];exact D
   ·cases D
 ·cases D
theorem H2(C:Gf):∀n,(CV C n).le (CV C (n+1))
 |0=>⟨λ_ _ _ _ _ h=>by simp[CV]at h,λ_ _ _ _ _ _ h=>by simp[CV]at h⟩
 |n+1=>⟨λ_ _ _ _ _ h=>NK (H2 C n) h,λ_ _ _ _ _ _ h=>Dl (H2 C n) h⟩
theorem Self.le_refl(S:Self):S.le S:=⟨λ_ _ _ _ _ h=>h,λ_ _ _ _ _ _ h=>h⟩
theorem Self.le.trans{S T U:Self}(h:S.le T)(k:T.le U):S.le U:=⟨λ_ _ _ _ _ x=>k.1 _ _ _ _ _ (h.1 _ _ _ _ _ x),λ_ _ _ _ _ _ x=>k.2 _ _ _ _ _ _ (h.2 _ _ _ _ _ _ x)⟩
theorem ED(C:Gf){n m:Nat}(h:n<=m):(CV C n).le (CV C m):=by
 induction h with
 |refl=>exact Self.le_refl _
 |step h ih=>exact ih.trans (H2 C _)
end
end Go.Abs
