/-
 A part.
-/
import Derived.Test.YtfgmnhjedmkpeaaAbsRun
set_option linter.unusedSimpArgs false
namespace Go.Abs
def Self.le(S S':Self):Prop:=(∀g h f args x,S.call g h f args=some x->S'.call g h f args=some x)/\∀g f c fr h x,S.loop g f c fr h=some x->S'.loop g f c fr h=some x
section
variable {C:Eu} {S S':Self}
theorem FO(E:S.le S'){g:Gd}{h:AB}{fr:Fr}{op:Op}{x:AA×AB}(G:Ap C S g h fr op=some x):Ap C S' g h fr op=some x:=by
 unfold Ap at G⊢;split at G
 ·split at G
  ·exact E.1 _ _ _ _ _ G
  ·cases G
 ·exact G
theorem FC(E:S.le S'){g:Gd}{ops:Array Oper}:∀{l:List Oper} {fr:Fr} {h:AB} {x:Fr×AB},Ce C S g ops l fr h=some x->Ce C S' g ops l fr h=some x
 |[],fr,h,x,B=>B
 | o::l,fr,h,x,B=>by
  unfold Ce at B⊢;split at B
  ·split at B
   ·rename_i v h' G;simp only[FO E G];exact FC E B
   ·cases B
  ·exact FC E B
  ·cases B
theorem DI(E:S.le S'){g:Gd}{ops:Array Oper}:∀{l:List (Nat×List Nat)} {tch:List (Nat×Nat)} {fr:Fr} {h:AB} {x:Fr×AB},BA C S g ops l tch fr h=some x->BA C S' g ops l tch fr h=some x
 |[],tch,fr,h,x,B=>B
 | (i,U)::l,tch,fr,h,x,B=>by
  unfold BA at B⊢;split at B
  ·cases B
  ·split at B
   ·split at B
    ·rename_i v h' G;simp only[FO E G];exact DI E B
    ·cases B
   ·exact DI E B
   ·cases B
theorem CC(E:S.le S'){f:FuncId}{g:Gd}:∀{c:Code} {fr:Fr} {h:AB} {x:Br×Fr×AB},Aa C S f g c fr h=some x->Aa C S' f g c fr h=some x:=by
 intro c
 induction c with
 |skip=>intro fr h x B;exact B
 |label l=>intro fr h x B;exact B
 |exit id=>intro fr h x B;exact B
 |ret=>intro fr h x B;exact B
 |goto l=>intro fr h x B;exact B
 |refuse s=>intro fr h x B;exact B
 |rangeFunc f ps a b iha ihb=>intro fr h x B;simp[Aa]at B
 | region id ops draw=>
  intro fr h x B;simp only[Aa]at B⊢;cases draw with
  |true=>
   simp only[xB]at B⊢;split at B
   ·rename_i fr' h' I;rw[DI E I];exact B
   ·cases B
  |false=>
   simp only[xJ]at B⊢;split at B
   ·rename_i fr' h' I;rw[FC E I];exact B
   ·cases B
 | seq a b iha ihb=>
  intro fr h x B;simp only[Aa]at B⊢;split at B
  ·rename_i fr' h' H;rw[iha H];exact ihb B
  ·rename_i F;have:=iha B;rw[this];split
   ·rename_i fr' h' he;exact absurd (B.trans he) (F _ _)
   ·rfl
 |cond c a b iha ihb=>
  intro fr h x B;simp only[Aa]at B⊢;split at B
  ·exact iha B
  ·exact ihb B
  ·cases B
 | block id c ih=>
  intro fr h x B;simp only[Aa]at B⊢;split at B
  ·rename_i i fr' h' H;rw[ih H];exact B
  ·rename_i F;rw[ih B];split
   ·rename_i i fr' h' he;exact absurd (B.trans he) (F _ _ _)
   ·rfl
 | loop c ih=>
  intro fr h x B;simp only[Aa]at B⊢;split at B
  ·rename_i fr' h' H;rw[ih H];exact E.2 _ _ _ _ _ _ B
  ·rename_i F;rw[ih B];split
   ·rename_i fr' h' he;exact absurd (B.trans he) (F _ _)
   ·rfl
 |scope c ih=>intro fr h x B;exact ih B
theorem FY(E:S.le S'){g:Gd}{h:AB}{f:FuncId}{args:List AA}{x:AA×AB}(D:Dn C S g h f args=some x):Dn C S' g h f args=some x:=by
 unfold Dn at D⊢;split at D
 ·cases D
 ·split at D
  ·cases D
  ·split at D
   ·rename_i fr' h' he;rw[CC E he];exact D
   ·rename_i fr' h' he;rw[CC E he];exact D
   ·cases D
theorem Kq(E:S.le S'){g:Gd}{h:AB}{f:FuncId}{args:List AA}{x:AA×AB}(D:Ej C S g h f args=some x):Ej C S' g h f args=some x:=by
 unfold Ej at D⊢;split at D
 ·exact FY E D
 ·split at D
  ·rename_i v h' he;rw[FY E he];exact D
  ·cases D
 ·exact D
 ·cases H:args.all D2 with
  |false=>rw[H]at D;cases D
  |true=>
   rw[H]at D;simp only[xB]at D⊢;split at D
   ·rename_i v h' he;rw[FY E he];exact D
   ·cases D
 ·cases D
theorem Fu(C:Eu):∀n,(Bm C n).le (Bm C (n+1))
 |0=>⟨λ_ _ _ _ _ h=>by simp[Bm]at h,λ_ _ _ _ _ _ h=>by simp[Bm]at h⟩
 |n+1=>⟨λ_ _ _ _ _ h=>Kq (Fu C n) h,λ_ _ _ _ _ _ h=>CC (Fu C n) h⟩
theorem Self.le_refl(S:Self):S.le S:=⟨λ_ _ _ _ _ h=>h,λ_ _ _ _ _ _ h=>h⟩
theorem Self.le.trans{S T U:Self}(h:S.le T)(k:T.le U):S.le U:=⟨λ_ _ _ _ _ x=>k.1 _ _ _ _ _ (h.1 _ _ _ _ _ x),λ_ _ _ _ _ _ x=>k.2 _ _ _ _ _ _ (h.2 _ _ _ _ _ _ x)⟩
theorem DM(C:Eu){n m:Nat}(h:n<=m):(Bm C n).le (Bm C m):=by
 induction h with
 |refl=>exact Self.le_refl _
 |step h ih=>exact ih.trans (Fu C _)
end
end Go.Abs
