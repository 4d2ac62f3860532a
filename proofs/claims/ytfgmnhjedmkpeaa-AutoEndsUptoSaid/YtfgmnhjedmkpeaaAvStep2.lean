/-
  Several texts in one.
-/
import Derived.Test.YtfgmnhjedmkpeaaAvRun
set_option linter.unusedSimpArgs false
/-
 A part.
-/
section
namespace Go.Av
set_option linter.unusedVariables false
set_option linter.unusedSimpArgs false
def Self.le(S S':Self):Prop:=(∀g h f args x,S.call g h f args=some x->S'.call g h f args=some x)/\(∀g f c fr h x,S.loop g f c fr h=some x->S'.loop g f c fr h=some x)/\∀g h l args x,S.round g h l args=some x->S'.round g h l args=some x
section
variable {C:Eu} {S S':Self}
theorem FO(G:S.le S'){g:Gd}{h:AB}{fr:Fr}{op:Op}{x:AA×AB}(B:Ap C S g h fr op=some x):Ap C S' g h fr op=some x:=by
 unfold Ap at B⊢;split at B
 ·split at B
  ·exact G.1 _ _ _ _ _ B
  ·exact G.2.2 _ _ _ _ _ B
  ·cases B
 ·exact B
theorem FC(G:S.le S'){g:Gd}{ops:Array Oper}:∀{l:List Oper} {fr:Fr} {h:AB} {x:Fr×AB},Ce C S g ops l fr h=some x->Ce C S' g ops l fr h=some x
 |[],fr,h,x,D=>D
 | o::l,fr,h,x,D=>by
  unfold Ce at D⊢;split at D
  ·split at D
   ·rename_i v h' B;simp only[FO G B];exact FC G D
   ·cases D
  ·exact FC G D
  ·cases D
theorem DI(G:S.le S'){g:Gd}{ops:Array Oper}:∀{l:List (Nat×List Nat)} {tch:List (Nat×Nat)} {fr:Fr} {h:AB} {x:Fr×AB},BA C S g ops l tch fr h=some x->BA C S' g ops l tch fr h=some x
 |[],tch,fr,h,x,D=>D
 | (i,U)::l,tch,fr,h,x,D=>by
  unfold BA at D⊢;split at D
  ·cases D
  ·split at D
   ·split at D
    ·rename_i v h' B;simp only[FO G B];cases hre:JG C ops U (put fr _ v) h' with
     |false=>rw[hre]at D;cases D
     |true=>rw[hre]at D;exact DI G D
    ·cases D
   ·exact DI G D
   ·cases D
theorem CC(G:S.le S'){f:FuncId}{g:Gd}:∀{c:Code} {fr:Fr} {h:AB} {x:Br×Fr×AB},Aa C S f g c fr h=some x->Aa C S' f g c fr h=some x:=by
 intro c
 induction c with
 |skip=>intro fr h x D;exact D
 |label l=>intro fr h x D;exact D
 |exit id=>intro fr h x D;exact D
 |ret=>intro fr h x D;exact D
 |goto l=>intro fr h x D;exact D
 |refuse s=>intro fr h x D;exact D
 | rangeFunc y ps a b iha ihb=>
  intro fr h x D;simp only[Aa]at D⊢;split at D
  ·rename_i f' first cap hev
   cases hbd:M9 C.P f' with
   |false=>rw[hbd]at D;cases D
   | true=>
    rw[hbd]at D;simp only[zZ,zR]at D⊢;split at D
    ·rename_i v0 I hc;rw[G.1 _ _ _ _ _ hc];exact D
    ·cases D
  ·cases D
 | region id ops draw=>
  intro fr h x D;simp only[Aa]at D⊢;cases draw with
  |true=>
   simp only[zE]at D⊢;split at D
   ·rename_i fr' h' R;rw[DI G R];exact D
   ·cases D
  |false=>
   simp only[zR]at D⊢;split at D
   ·rename_i fr' h' R;rw[FC G R];exact D
   ·cases D
 | seq a b iha ihb=>
  intro fr h x D;simp only[Aa]at D⊢;split at D
  ·rename_i fr' h' L;rw[iha L];exact ihb D
  ·rename_i K;have:=iha D;rw[this];split
   ·rename_i fr' h' he;exact absurd (D.trans he) (K _ _)
   ·rfl
 |cond c a b iha ihb=>
  intro fr h x D;simp only[Aa]at D⊢;split at D
  ·exact iha D
  ·exact ihb D
  ·cases D
 | block id c ih=>
  intro fr h x D;simp only[Aa]at D⊢;split at D
  ·rename_i i fr' h' L;rw[ih L];exact D
  ·rename_i K;rw[ih D];split
   ·rename_i i fr' h' he;exact absurd (D.trans he) (K _ _ _)
   ·rfl
 | loop c ih=>
  intro fr h x D;simp only[Aa]at D⊢;split at D
  ·rename_i fr' h' L;rw[ih L];exact G.2.1 _ _ _ _ _ _ D
  ·rename_i K;rw[ih D];split
   ·rename_i fr' h' he;exact absurd (D.trans he) (K _ _)
   ·rfl
 |scope c ih=>
  intro fr h x D;simp only[Aa]at D⊢;exact ih D
theorem NM(G:S.le S'){f:FuncId}{g:Gd}:∀{c:Code} {fr:Fr} {h:AB} {x:Br×Fr×AB},GY C S f g c fr h=some x->GY C S' f g c fr h=some x:=by
 have base:∀{c:Code} {fr:Fr} {h:AB} {x:Br×Fr×AB},(bif IC c then Hr C S g c fr h else Aa C S f g c fr h)=some x->(bif IC c then Hr C S' g c fr h else Aa C S' f g c fr h)=some x:=by
  intro c fr h x D;cases B:IC c with
  |false=>rw[B]at D;exact CC G D
  | true=>
   rw[B]at D;simp only[zE]at D⊢;unfold Hr at D⊢;split at D
   ·split at D
    ·split at D
     ·split at D
      ·rename_i fr' h' R;simp only[FC G R];exact D
      ·cases D
     ·cases D
    ·cases D
   ·cases D
 intro c
 induction c with
 | seq a b iha ihb=>
  intro fr h x D;simp only[GY]at D⊢;split at D
  ·rename_i fr' h' L;rw[iha L];exact ihb D
  ·rename_i K;have:=iha D;rw[this];split
   ·rename_i fr' h' he;exact absurd (D.trans he) (K _ _)
   ·rfl
 |_=>intro fr h x D;simp only[GY]at D⊢;exact base D
theorem QL(G:S.le S'){g:Gd}{h:AB}{f:FuncId}{args:List AA}{x:AA×AB}(F:Ki C S g h f args=some x):Ki C S' g h f args=some x:=by
 unfold Ki at F⊢;split at F
 ·cases F
 ·split at F
  ·cases F
  ·split at F
   ·rename_i fr' h' he;rw[NM G he];exact F
   ·rename_i fr' h' he;rw[NM G he];exact F
   ·cases F
theorem Pl(G:S.le S'){g:Gd}{h:AB}{l:Nat}{args:List AA}{x:AA×AB}(F:L3 C S g h l args=some x):L3 C S' g h l args=some x:=by
 unfold L3 at F⊢;split at F
 ·cases hc:(Nat.beq args.length _&&(g.may l&&C.Vf _ _ _))with
  |false=>rw[hc]at F;cases F
  | true=>
   rw[hc]at F;simp only[zE]at F⊢;split at F
   ·rename_i fr1 h1 hx1;rw[CC G hx1];simp only;split at F
    ·split at F
     ·rename_i fr2 O Q;rw[CC G Q];exact F
     ·rename_i fr2 O Q;rw[CC G Q];exact F
     ·rename_i i fr2 O Q;rw[CC G Q];exact F
     ·cases F
    ·cases F
   ·cases F
 ·cases F
theorem FY(G:S.le S'){g:Gd}{h:AB}{f:FuncId}{args:List AA}{x:AA×AB}(F:Dn C S g h f args=some x):Dn C S' g h f args=some x:=by
 unfold Dn at F⊢;split at F
 ·cases F
 ·split at F
  ·cases F
  ·split at F
   ·rename_i fr' h' he;rw[CC G he];exact F
   ·rename_i fr' h' he;rw[CC G he];exact F
   ·cases F
theorem Kq(G:S.le S'){g:Gd}{h:AB}{f:FuncId}{args:List AA}{x:AA×AB}(F:Ej C S g h f args=some x):Ej C S' g h f args=some x:=by
 unfold Ej at F⊢;split at F
 ·exact FY G F
 ·split at F
  ·rename_i v h' he;rw[FY G he];exact F
  ·cases F
 ·exact F
 ·cases L:args.all D2 with
  |false=>rw[L]at F;cases F
  |true=>
   rw[L]at F;simp only[zE]at F⊢;split at F
   ·rename_i v h' he;rw[FY G he];exact F
   ·cases F
 ·split at F
  ·rename_i v h' he;rw[FY G he];exact F
  ·cases F
 ·exact QL G F
 ·split at F
  ·rename_i v h' he;rw[FY G he];exact F
  ·cases F
 ·cases F
theorem Fu(C:Eu):∀n,(Bm C n).le (Bm C (n+1))
 |0=>⟨λ_ _ _ _ _ h=>by simp[Bm]at h,λ_ _ _ _ _ _ h=>by simp[Bm]at h,λ_ _ _ _ _ h=>by simp[Bm]at h⟩
 |n+1=>⟨λ_ _ _ _ _ h=>Kq (Fu C n) h,λ_ _ _ _ _ _ h=>CC (Fu C n) h,λ_ _ _ _ _ h=>Pl (Fu C n) h⟩
theorem Self.le_refl(S:Self):S.le S:=⟨λ_ _ _ _ _ h=>h,λ_ _ _ _ _ _ h=>h,λ_ _ _ _ _ h=>h⟩
theorem Self.le.trans{S T U:Self}(h:S.le T)(k:T.le U):S.le U:=⟨λ_ _ _ _ _ x=>k.1 _ _ _ _ _ (h.1 _ _ _ _ _ x),λ_ _ _ _ _ _ x=>k.2.1 _ _ _ _ _ _ (h.2.1 _ _ _ _ _ _ x),λ_ _ _ _ _ x=>k.2.2 _ _ _ _ _ (h.2.2 _ _ _ _ _ x)⟩
theorem DM(C:Eu){n m:Nat}(h:n<=m):(Bm C n).le (Bm C m):=by
 induction h with
 |refl=>exact Self.le_refl _
 |step h ih=>exact ih.trans (Fu C _)
end
end Go.Av
end
/-
 A part.
-/
section
namespace Go.Av
def Has(fr:Fr)(N:Nat)(l:List (Nat×AA)):Prop:=fr.length=N/\∀p∈l,nth fr p.1=p.2
def Lf(fr:Fr)(k:Nat):List (Nat×AA)->AA
 |[]=>nth fr k
 |(i,v)::r=>bif Nat.beq i k then v else Lf fr k r
def JY(l:List (Nat×AA))(fr:Fr):Nat->Nat->Fr
 |_,0=>[]
 |s,k+1=>Lf fr s l::JY l fr (s+1) k
def Cr(N:Nat)(l:List (Nat×AA))(fr:Fr):Fr:=JY l fr 0 N
theorem KW{fr:Fr}{k:Nat}:∀{l:List (Nat×AA)},(∀p∈l,nth fr p.1=p.2)->Lf fr k l=nth fr k
 |[],_=>rfl
 |(i,v)::r,h=>by
  unfold Lf;rw[F9];by_cases e:i=k
  ·rw[zk e,<-e];exact(h (i,v) (by simp)).symm
  ·rw[zh e];exact KW λp W=>h p (by simp[W])
theorem JA{fr:Fr}{l:List (Nat×AA)}(h:∀p∈l,nth fr p.1=p.2):∀(k s:Nat),s+k=fr.length->JY l fr s k=fr.drop s
 |0,s,e=>by
  have:fr.drop s=[]:=qc (by omega);rw[this];rfl
 |k+1,s,e=>by
  have X:s<fr.length:=by omega
  rw[JY,JA h k (s+1) (by omega),KW h,zS X,F5,zo,List.getElem?_eq_getElem X];rfl
theorem Dh{fr:Fr}{N:Nat}{l:List (Nat×AA)}(H:Has fr N l):Cr N l fr=fr:=by
 unfold Cr;have e:0+N=fr.length:=by have:=H.1;omega
 rw[JA H.2 N 0 e,yv]
theorem Has.of_map{fr:Fr}{N:Nat}{out:List (Nat×AA)}(h1:fr.length=N)(I:out.map (λp=>nth fr p.1)=out.map (·.2)):Has fr N out:=by
 refine⟨h1,?_⟩
 induction out with
 |nil=>intro p W;cases W
 |cons q out ih=>
  simp only[yu,List.cons.injEq]at I;intro p W;cases W with
  |head=>exact I.1
  |tail _ W=>exact ih I.2 p W
theorem Has.less{fr:Fr}{N:Nat}{l:List (Nat×AA)}(H:Has fr N l)(out:List (Nat×AA))(h:∀fr,out.map (λp=>nth (Cr N l fr) p.1)=out.map (·.2)):Has fr N out:=by
 have:=h fr;rw[Dh H]at this;exact Has.of_map H.1 this
theorem AJ{α β:Type}{a:Option α}{k:α->Option β}{x:β}(h:a.bind k=some x):∃y,a=some y/\k y=some x:=by
 cases a with
 |none=>cases h
 |some y=>exact⟨y,rfl,h⟩
def A3{α:Type}(b:Bool)(x y:Option α):Option α:=
 match b with
 |true=>x
 |false=>y
theorem BH{α:Type}{b:Bool}{x y:Option α}{r:α}(h:A3 b x y=some r):(b=true/\x=some r)\/(b=false/\y=some r):=by
 cases b with
 |true=>exact .inl ⟨rfl,h⟩
 |false=>exact .inr ⟨rfl,h⟩
@[simp] theorem BU {α:Type} (x y:Option α):A3 true x y=x:=rfl
@[simp] theorem Aq {α:Type} (x y:Option α):A3 false x y=y:=rfl
def Gv{α:Type}(b:Bool)(x:Option α):Option α:=
 match b with
 |true=>x
 |false=>none
theorem CT{α:Type}{b:Bool}{x:Option α}{r:α}(h:Gv b x=some r):b=true/\x=some r:=by
 cases b with
 |true=>exact⟨rfl,h⟩
 |false=>cases h
@[simp] theorem MK {α:Type} (x:Option α):Gv true x=x:=rfl
def Ee{σ ρ:Type}(step:σ->Option (σ⊕ρ)):Nat->σ->Option ρ
 |0,_=>none
 |n+1,s=>
  match step s with
  |some (.inl s')=>Ee step n s'
  |some (.inr r)=>some r
  |none=>none
theorem GX{σ ρ:Type}{step:σ->Option (σ⊕ρ)}:∀{n m:Nat} {s:σ} {r:ρ},n<=m->Ee step n s=some r->Ee step m s=some r
 |0,_,_,_,_,h=>by cases h
 |n+1,0,_,_,h,_=>by omega
 | n+1,m+1,s,r,hle,h=>by
  unfold Ee at h⊢;cases B:step s with
  |none=>rw[B]at h;cases h
  |some o=>
   rw[B]at h;cases o with
   |inl s'=>exact GX (Nat.le_of_succ_le_succ hle) h
   |inr r'=>exact h
open Classical in
noncomputable def SX{σ ρ:Type}(step:σ->Option (σ⊕ρ))(s:σ):Option ρ:=
 if h:∃r n,Ee step n s=some r then some (Classical.choose h)else none
@[irreducible] noncomputable def loop {σ ρ:Type} (step:σ->Option (σ⊕ρ)) (s:σ):Option ρ:=
 match Ee step 4611686018427387904 s with
 |some r=>some r
 |none=>SX step s
theorem Kb{σ ρ:Type}{step:σ->Option (σ⊕ρ)}{s:σ}{r:ρ}(h:loop step s=some r):∃n,Ee step n s=some r:=by
 unfold loop at h;split at h
 ·rename_i r' h';cases h;exact⟨_,h'⟩
 ·unfold SX at h;split at h
  ·rename_i D;injection h with h;rw[<-h];exact Classical.choose_spec D
  ·cases h
theorem N8{σ ρ:Type}{step:σ->Option (σ⊕ρ)}{s:σ}{r r':ρ}{n m:Nat}(h:Ee step n s=some r)(hm:Ee step m s=some r'):r=r':=by
 have h1:=GX (yL n m) h;have I:=GX (yI n m) hm;rw[h1]at I;exact zK I
theorem Ka{σ ρ:Type}{step:σ->Option (σ⊕ρ)}{s:σ}{r:ρ}{n:Nat}(h:Ee step n s=some r):loop step s=some r:=by
 unfold loop;split
 ·rename_i r' h';rw[N8 h h']
 ·have D:∃r n,Ee step n s=some r:=⟨r,n,h⟩;unfold SX;rw[dif_pos D];obtain⟨m,hm⟩:=Classical.choose_spec D;rw[N8 h hm]
theorem H2{σ ρ:Type}{step:σ->Option (σ⊕ρ)}{s:σ}{r:ρ}(h:step s=some (.inr r)):loop step s=some r:=Ka (n:=1) (by simp[Ee,h])
theorem KY{σ ρ:Type}{step:σ->Option (σ⊕ρ)}{s s':σ}{r:ρ}(h:step s=some (.inl s'))(R:loop step s'=some r):loop step s=some r:=by
 obtain⟨n,V⟩:=Kb R;exact Ka (n:=n+1) (by simp[Ee,h,V])
theorem L1{σ ρ:Type}{step:σ->Option (σ⊕ρ)}(inv:σ->Prop)(μ:σ->Nat)(post:ρ->Prop)
  (B:∀s,inv s->(∃s',step s=some (.inl s')/\inv s'/\μ s'<μ s)\/(∃r,step s=some (.inr r)/\post r)):∀s,inv s->∃r,loop step s=some r/\post r:=by
 have key:∀n s,μ s<n->inv s->∃r,loop step s=some r/\post r:=by
  intro n
  induction n with
  |zero=>intro s h _;omega
  | succ n ih=>
   intro s X J;rcases B s J with⟨s',h1,I,O⟩|⟨r,h1,I⟩
   ·obtain⟨r,h4,h5⟩:=ih s' (by omega) I;exact⟨r,KY h1 h4,h5⟩
   ·exact⟨r,H2 h1,I⟩
 exact λs J=>key _ s (yH _) J
structure Sl where
 r:Option (Nat×Nat)
 n:Nat
section
variable (h:AB) (a:Nat×Nat)
def Jy:Option AA:=
 match BQ (h.get a.1) a.2 1 with
 |some [v]=>some v
 |_=>none
def Gp(n:Nat):Option (List AA):=BQ (h.get a.1) a.2 n
end
def Ys(k:IntKind):AA->Option Int
 | .int k' n=>if k=k' then some n else none
 |_=>none
def YD:AA->Option (List UInt8)
 | .str s=>some s
 |_=>none
def aU:AA->Option (Option (Nat×Nat))
 | .ptr p=>some p
 |_=>none
def XS:AA->Option Sl
 | .slice r n=>some ⟨r,n⟩
 |_=>none
def Qv(a:Nat×Nat)(n z:Nat)(i:Int):Option (Nat×Nat):=if 0<=i/\i<n then some (a.1,a.2+i.toNat*z)else none
def H0(s:Sl)(z:Nat)(i:Int):Option (Nat×Nat):=
 match s.r with
 |some a=>Qv a s.n z i
 |none=>none
def Rc(s:List UInt8)(i:Int):Option Int:=if 0<=i then(s[i.toNat]?).map λb=>(b.toNat:Int)else none
def Ry(n:Nat)(lo J:Option Int):Option (Nat×Nat):=
 match J with
 | some u=>
  if 0<=u/\u<=n then
   match lo with
   |some l=>if 0<=l/\l<=u then some (l.toNat,u.toNat)else none
   |none=>some (0,u.toNat)
  else none
 |none=>
  match lo with
  |some l=>if 0<=l/\l<=n then some (l.toNat,n)else none
  |none=>some (0,n)
def Zt(h:AB)(a:Nat×Nat)(n z:Nat)(lo J:Option Int):Option Sl:=
 match h.get a.1 with
 |some (.cells none _ _)=>(Ry n lo J).map λp=>⟨some (a.1,a.2+p.1*z),p.2 - p.1⟩
 |_=>none
def aV(P:Program)(h:AB)(s:Sl)(z:Nat)(lo J:Option Int):Option Sl:=
 match s.r with
 |none=>if s.n=0 then(Ry 0 lo J).map λ_=>⟨none,0⟩else none
 |some a=>
  match h.get a.1 with
  |some (.cells none _ _)=>(Ry s.n lo J).map λp=>⟨some (a.1,a.2+p.1*z),p.2 - p.1⟩
  |some (.cells (some e) _ _)=>if BK P e=some z then(Ry s.n lo J).map λp=>⟨some (a.1,a.2+p.1*z),p.2 - p.1⟩else none
  |_=>none
def Y9(h:AB)(s:Sl):Option (List UInt8):=
 match s.r with
 |none=>some []
 |some a=>if s.n=0 then(h.get a.1).map (λ_=>[])else(BQ (h.get a.1) a.2 s.n).bind bytesOf
def st(g:Gd)(h:AB)(a:Nat×Nat)(cs:List AA):Option AB:=BN g h a.1 a.2 cs
def SA(n:Nat)(g:Gd)(h:AB)(a:Nat×Nat)(cs:List AA):Option AB:=if cs.length=n then BN g h a.1 a.2 cs else none
def OC(bytes:Nat)(z:List AA)(l c:Int):Option (List AA):=if 0<=l/\l<=c/\c<=1099511627776/\bytes*c<=1099511627776 then some (CK z c.toNat)else none
def app(e:TypeId)(sz bytes:Nat)(g:Gd)(h:AB)(s:Sl)(n:Nat)(x:AA):Option (Sl×AB):=
 if n=0 then some (s,h)
 else if s.n+n<=1099511627776/\(s.n+n)*bytes<=1099511627776 then
  match(Bv h sz n x).map (·.map GU),Bv h sz s.n (.slice s.r s.n)with
  | some new,some old=>
   if (old++new).all AA.one=true then
    match s.r with
    |none=>some (⟨some (h.size,0),s.n+n⟩,h.push (.cells (some e) 2 (old++new)))
    | some a=>
     match h.get a.1 with
     |some (.cells (some e') 2 _)=>
      if g.may a.1=true/\e'=e then some (⟨some (h.size,0),s.n+n⟩,(h.set a.1 (.cells (some e') 0 [])).push (.cells (some e) 2 (old++new)))
      else none
     |_=>none
   else none
  |_,_=>none
 else none
def Ve(sz:Nat)(g:Gd)(h:AB)(d:Sl)(n:Nat)(x:AA):Option (Int×AB):=
 match Bv h sz (min n d.n) x with
 |some new=>
  if min n d.n=0 then some (0,h)else
  match d.r with
  |some a=>(BN g h a.1 a.2 new).map λh'=>(((min n d.n:Nat):Int),h')
  |none=>none
 |none=>none
def Lr(k:IntKind)(a b:Int):Int:=k.wrap (BitVec.ofInt k.bits a &&& BitVec.ofInt k.bits b).toNat
def LQ(k:IntKind)(a b:Int):Int:=a.fdiv (2^(min b.toNat k.bits))
def mx(a b:Int):Int:=if b>a then b else a
def mn(a b:Int):Int:=if b<a then b else a
def LI(ops:Array Oper)(i:Nat):Op:=
 match ops[i]? with
 |some o=>o.op
 |none=>.move (.const (.bool false))
def Fi(ops:Array Oper)(i:Nat):Option Tmp:=
 match ops[i]? with
 |some o=>o.dst
 |none=>none
def runs(ops:Array Oper)(fr:Fr)(i:Nat):Bool:=
 match ops[i]? with
 |some o=>(match A6 ops fr o with|some b=>b|none=>false)
 |none=>false
def MS(ops:Array Oper)(fr:Fr)(i:Nat):Bool:=
 match ops[i]? with
 |some o=>(match A6 ops fr o with|some b=> !b|none=>false)
 |none=>false
section
variable (P:Program) (fr:Fr)
def II:Op->Option ((Nat×Nat)×Option Nat)
 | .load t x=>
  match ev fr x,Er P t with
  | .ptr (some a),some true=>(BK P t).map (a,some ·)
  | .ptr (some a),some false=>some (a,none)
  |_,_=>none
 |_=>none
def GA:Op->Option ((Nat×Nat)×Nat×AA)
 | .store t x y=>
  match ev fr x with
  | .ptr (some a)=>(BK P t).map λn=>(a,n,ev fr y)
  |_=>none
 |_=>none
def TW(op:Op):Option AA:=
 match AX P op with
 |0=>FA P fr op
 |_=>none
def UD(op:Op)(k:Nat):Option (AA×Ay):=
 match AX P op with
 |2=>(Ii P fr op).map λx=>(x.1 k,x.2)
 |_=>none
def Tn:Op->Option ((Nat×Nat)×Nat×Nat×Int)
 | .indexAddr t x i=>
  match P.underlying t,ev fr x,ev fr i with
  |some (.array n e),.ptr (some a),.int _ i=>(BK P e).map λz=>(a,n,z,i)
  |_,_,_=>none
 |_=>none
def PE:Op->Option (Option (Nat×Nat)×Nat×Nat×Int)
 | .indexAddr t x i=>
  match P.underlying t,ev fr x,ev fr i with
  |some (.slice e),.slice r n,.int _ i=>(BK P e).map λz=>(r,n,z,i)
  |_,_,_=>none
 |_=>none
def PD:Op->Option (List UInt8×Int)
 | .index t x i=>
  match P.underlying t,ev fr x,ev fr i with
  |some .string,.str s,.int _ i=>some (s,i)
  |_,_,_=>none
 |_=>none
def Tf:Op->Option (Option (Nat×Nat)×Nat)
 | .convert s d x=>
  match P.underlying s,P.underlying d,ev fr x with
  |some (.slice e),some .string,.slice r n=>
   match P.underlying e with
   |some (.int .u8)=>some (r,n)
   |_=>none
  |_,_,_=>none
 |_=>none
def PT:Op->Option (TypeId×Nat×List AA×Int×Int)
 | .makeSlice t l c=>
  match P.underlying t,ev fr l,ev fr c with
  | some (.slice e),.int _ l,.int _ c=>
   match P.info? e with
   | some i=>
    match i.zero.map NC with
    |some z=>
     match z.cells?.map (·.map GU)with
     |some zc=>if zc.length=i.size/\zc.all AA.one=true then some (e,i.bytes,zc,l,c)else none
     |none=>none
    |none=>none
   |none=>none
  |_,_,_=>none
 |_=>none
def Jg:Op->Option (FuncId×List AA)
 | .call {callee:=.value x,args:=asE9,..}=>
  match ev fr x with
  | .func (.func f) first cap=>some (f,first++(asE9.toList.map (ev fr)++cap))
  |_=>none
 |_=>none
def Sp:Op->Option (TypeId×Nat×Nat×Option (Nat×Nat)×Nat×Nat×AA)
 | .call {callee:=.builtin .append,args:=asE9,argTypes:=ts}=>
  match asE9.toList.map (ev fr),ts[0]?,ts[1]? with
  | [.slice r sl,x],some st,some xt=>
   match P.underlying st,P.underlying xt,Ib x with
   |some (.slice e),some d,some n=>
    match P.info? e with
    |some i=>if En d=true/\i.size≠0/\i.zero.map (·.cells.size)=some i.size then some (e,i.size,i.bytes,r,sl,n,x)else none
    |none=>none
   |_,_,_=>none
  |_,_,_=>none
 |_=>none
def Pd:Op->Option (Bool×Option (Nat×Nat))
 | .binOp op t x y _=>
  match P.underlying t,ev fr x,ev fr y,op with
  |some (.pointer _),.ptr p,.ptr none,.eql=>some (true,p)
  |some (.pointer _),.ptr p,.ptr none,.neq=>some (false,p)
  |_,_,_,_=>none
 |_=>none
def RJ:Op->Option (Bool×IntKind×Int×Int)
 | .binOp op _ x y _=>
  match ev fr x,ev fr y,op with
  | .int k a,.int _ b,.shl=>some (true,k,a,b)
  | .int k a,.int _ b,.shr=>some (false,k,a,b)
  |_,_,_=>none
 |_=>none
end
end Go.Av
end
/-
 A part.
-/
section
namespace Go.Av
section
variable {C:Eu} {S:Self} {g:Gd} {h h1:AB} {fr:Fr} {op:Op}
theorem Fa(hc:AX C.P op≠3):Ap C S g h fr op=Fp C.P C.B6 g h fr op:=Dy hc
theorem ZR{v:AA}(B:TW C.P fr op=some v):Ap C S g h fr op=some (v,h):=by
 unfold TW at B;split at B
 ·rename_i hc;rw[Fa (by rw[hc];simp)];simp[Fp,hc,B]
 ·cases B
theorem ZU{v:AA}{ob:Ay}(B:UD C.P fr op h.size=some (v,ob)):Ap C S g h fr op=some (v,h.push ob):=by
 unfold UD at B;split at B
 ·rename_i hc;rw[Fa (by rw[hc];simp)];simp only[zg,zb]at B;obtain⟨x,h1,rfl,rfl⟩:=B;simp[Fp,hc,h1]
 ·cases B
theorem Og{a:Nat×Nat}{v:AA}(E:Jy h a=some v):BQ (h.get a.1) a.2 1=some [v]/\∃ob,h.get a.1=some ob:=by
 unfold Jy at E;split at E
 ·rename_i u hu;injection E with E;subst E;refine⟨hu,?_⟩;cases M:h.get a.1 with
  |none=>rw[M]at hu;simp[BQ]at hu
  |some ob=>exact⟨ob,rfl⟩
 ·cases E
theorem Cf{a:Nat×Nat}{v:AA}(B:II C.P fr op=some (a,none))(E:Jy h a=some v):Ap C S g h fr op=some (v,h):=by
 unfold II at B;split at B
 ·rename_i t x;obtain⟨h1,ob,I⟩:=Og E;rw[I]at h1;split at B
  ·simp only[zg,zb]at B;obtain⟨_,_,_,hc⟩:=B;cases hc
  ·rename_i he L;simp only[za,zb,qK]at B;subst B;simp[Ap,Fp,AX,B1,he,CM,I,Gh,DT,L,h1]
  ·cases B
 ·cases B
theorem Db{a:Nat×Nat}{n:Nat}{cs:List AA}(B:II C.P fr op=some (a,some n))(E:Gp h a n=some cs):Ap C S g h fr op=some (.agg cs,h):=by
 unfold II at B;split at B
 ·rename_i t x;unfold Gp at E;cases M:h.get a.1 with
  |none=>rw[M]at E;simp[BQ]at E
  | some ob=>
   rw[M]at E;split at B
   ·rename_i he L;simp only[zg,zb,za]at B;obtain⟨m,h1,rfl,rfl⟩:=B;simp[Ap,Fp,AX,B1,he,CM,M,Gh,DT,L,h1,E]
   ·simp at B
   ·cases B
 ·cases B
theorem LH{a:Nat×Nat}{v:AA}(B:GA C.P fr op=some (a,1,v))(hc:v.cells?=some [v])(E:st g h a [v]=some h1):Ap C S g h fr op=some (.tuple [],h1):=by
 unfold GA at B;split at B
 ·split at B
  ·rename_i he;simp only[zg,zb]at B;obtain⟨n,I,rfl,rfl,hv⟩:=B;unfold st at E;simp[Ap,Fp,AX,GF,he,FL,hv,hc,I,E]
  ·cases B
 ·cases B
theorem PS{a:Nat×Nat}{n:Nat}{cs:List AA}(B:GA C.P fr op=some (a,n,.agg cs))(E:SA n g h a cs=some h1):Ap C S g h fr op=some (.tuple [],h1):=by
 unfold GA at B;split at B
 ·split at B
  ·rename_i he;simp only[zg,zb]at B;obtain⟨m,I,rfl,rfl,hv⟩:=B;unfold SA at E;split at E
   ·rename_i V;simp[Ap,Fp,AX,GF,he,FL,hv,AA.cells?,I,V,E]
   ·cases E
  ·cases B
 ·cases B
theorem X1{a b:Nat×Nat}{n z:Nat}{i:Int}(B:Tn C.P fr op=some (a,n,z,i))(E:Qv a n z i=some b):Ap C S g h fr op=some (.ptr (some b),h):=by
 unfold Tn at B;split at B
 ·split at B
  ·rename_i hu D J;simp only[zg,zb]at B;obtain⟨m,I,rfl,rfl,rfl,rfl⟩:=B;unfold Qv at E;split at E
   ·rename_i F;injection E with E;subst E;simp[Ap,Fp,AX,FA,DJ,hu,D,J,F,I]
   ·cases E
  ·cases B
 ·cases B
theorem C9{s:Sl}{b:Nat×Nat}{z:Nat}{i:Int}(B:PE C.P fr op=some (s.r,s.n,z,i))(E:H0 s z i=some b):Ap C S g h fr op=some (.ptr (some b),h):=by
 unfold PE at B;split at B
 ·split at B
  ·rename_i hu D J;simp only[zg,zb]at B;obtain⟨m,I,e1,e2,rfl,rfl⟩:=B;unfold H0 Qv at E;rw[<-e1,<-e2]at E;split at E
   ·split at E
    ·rename_i F;injection E with E;subst E;simp[Ap,Fp,AX,FA,DJ,hu,D,J,F,I]
    ·cases E
   ·cases E
  ·cases B
 ·cases B
theorem Qx{s:List UInt8}{i n:Int}(B:PD C.P fr op=some (s,i))(E:Rc s i=some n):Ap C S g h fr op=some (.int .u8 n,h):=by
 unfold PD at B;split at B
 ·split at B
  ·rename_i hu D J;simp only[za,zb]at B;obtain⟨rfl,rfl⟩:=B;unfold Rc at E;split at E
   ·rename_i F;simp only[zg]at E;obtain⟨b,O,rfl⟩:=E;simp[Ap,Fp,AX,FA,Hl,hu,D,J,F,O]
   ·cases E
  ·cases B
 ·cases B
theorem YH{s:Sl}{t:List UInt8}(B:Tf C.P fr op=some (s.r,s.n))(E:Y9 h s=some t):Ap C S g h fr op=some (.str t,h):=by
 unfold Tf at B;split at B
 ·split at B
  ·rename_i hu Z D;split at B
   ·rename_i he;simp only[za,zb]at B;obtain⟨e1,e2⟩:=B;unfold Y9 at E;rw[<-e1,<-e2]at E;split at E
    ·injection E with E;subst E;simp[Ap,Fp,AX,B1,CM,Gh,KM,hu,Z,D,he]
    ·rename_i a;cases M:h.get a.1 with
     |none=>
      rw[M]at E;split at E
      ·simp at E
      ·simp[BQ]at E
     | some ob=>
      split at E
      ·rename_i V;rw[M]at E;injection E with E;subst E;simp[Ap,Fp,AX,B1,CM,Gh,KM,hu,Z,D,he,M,V]
      ·rename_i V;obtain⟨cs,O,h4⟩:=AJ E;rw[M]at O;simp[Ap,Fp,AX,B1,CM,Gh,KM,hu,Z,D,he,M,V,O,h4]
   ·cases B
  ·cases B
 ·cases B
theorem We{e:TypeId}{bytes:Nat}{z cs:List AA}{l c:Int}(B:PT C.P fr op=some (e,bytes,z,l,c))(E:OC bytes z l c=some cs):Ap C S g h fr op=some (.slice (some (h.size,0)) l.toNat,h.push (.cells (some e) 2 cs)):=by
 unfold PT at B;split at B
 ·split at B
  ·rename_i hu D hy;split at B
   ·rename_i i J;split at B
    ·rename_i z' hz;split at B
     ·rename_i zc hzc;split at B
      ·rename_i F;simp only[za,zb]at B;obtain⟨rfl,rfl,rfl,rfl,rfl⟩:=B;unfold OC at E;split at E
       ·rename_i hq;injection E with E;subst E;obtain⟨q1,q2,q3,q4⟩:=hq;simp only[Ap,Fp,AX,Ii,Et,hu,D,hy,J,hz,hzc];rw[zk ⟨q1,q2,q3,q4,F.1,F.2⟩];rfl
       ·cases E
      ·cases B
     ·cases B
    ·cases B
   ·cases B
  ·cases B
 ·cases B
theorem QT{f:FuncId}{args:List AA}{v:AA}(B:Jg fr op=some (f,args))(E:S.call g h f args=some (v,h1)):Ap C S g h fr op=some (v,h1):=by
 unfold Jg at B;split at B
 ·split at B
  ·rename_i he;simp only[za,zb]at B;obtain⟨rfl,rfl⟩:=B;simp only[Ap,he];exact E
  ·cases B
 ·cases B
theorem KI{e:TypeId}{sz bytes n:Nat}{s t:Sl}{x:AA}(B:Sp C.P fr op=some (e,sz,bytes,s.r,s.n,n,x))(E:app e sz bytes g h s n x=some (t,h1)):Ap C S g h fr op=some (.slice t.r t.n,h1):=by
 unfold Sp at B;split at B
 ·split at B
  ·rename_i D ht0 ht1;split at B
   ·rename_i hu Z V;split at B
    ·rename_i i J;split at B
     ·rename_i F;simp only[za,zb]at B;obtain⟨rfl,rfl,rfl,e1,e2,rfl,rfl⟩:=B;unfold app at E;simp only[Ap,Fp,AX,GF,D,GM,ht0,ht1,hu,Z,V,J,F.1,if_true,appendCore];rw[e1,e2];split at E
      ·rename_i h0;simp only[za,zb]at E;obtain⟨rfl,rfl⟩:=E;rw[zk h0]
      ·rename_i h0;rw[zh h0];split at E
       ·rename_i hq;rw[zk ⟨F.2.1,hq.1,hq.2,F.2.2⟩];split at E
        ·rename_i new old O h4;simp only[zg]at O;obtain⟨new0,O,rfl⟩:=O;simp only[O,h4,ze];split at E
         ·rename_i ho;rw[zk ho];split at E
          ·rename_i R;simp only[za,zb]at E;obtain⟨rfl,rfl⟩:=E;simp[R]
          ·rename_i a R;split at E
           ·rename_i M;split at E
            ·rename_i hm;simp only[za,zb]at E;obtain⟨rfl,rfl⟩:=E;simp[R,M,hm]
            ·cases E
           ·cases E
         ·cases E
        ·cases E
       ·cases E
     ·cases B
    ·cases B
   ·cases B
  ·cases B
 ·cases B
theorem P9{v:AA}{ob:Ay}(B:UD C.P fr op h.size=some (v,ob))(Y:some (h.push ob)=some h1):Ap C S g h fr op=some (v,h1):=by
 injection Y with Y;rw[<-Y];exact ZU B
theorem Lo{e:TypeId}{bytes:Nat}{z cs:List AA}{l c:Int}(B:PT C.P fr op=some (e,bytes,z,l,c))(E:OC bytes z l c=some cs)(Y:some (h.push (.cells (some e) 2 cs))=some h1):Ap C S g h fr op=some (.slice (some (h.size,0)) l.toNat,h1):=by
 injection Y with Y;rw[<-Y];exact We B E
theorem Ye{k:IntKind}{a b:Int}(B:RJ fr op=some (false,k,a,b))(F:decide (0<=b)=true):Ap C S g h fr op=some (.int k (LQ k a b),h):=by
 unfold RJ at B;split at B
 ·split at B
  ·simp at B
  ·rename_i D hy;simp only[za,zb,yZ]at B;obtain⟨rfl,rfl,rfl⟩:=B;have hb':=of_decide_eq_true F;simp[Ap,Fp,AX,FA,Nq,L6,D,hy,Hj,Int.not_lt.2 hb',LQ]
  ·cases B
 ·cases B
end
end Go.Av
end
