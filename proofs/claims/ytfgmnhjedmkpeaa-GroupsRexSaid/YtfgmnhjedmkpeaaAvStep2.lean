/-
  Several texts in one.
-/
import Derived.Test.YtfgmnhjedmkpeaaAvRun
set_option linter.unusedSimpArgs false
/-
 A part.
-/
section
namespace Go.Av
set_option linter.unusedVariables false
set_option linter.unusedSimpArgs false
def Self.le(S S':Self):Prop:=(∀g h f args x,S.call g h f args=some x->S'.call g h f args=some x)/\(∀g f c fr h x,S.loop g f c fr h=some x->S'.loop g f c fr h=some x)/\∀g h l args x,S.round g h l args=some x->S'.round g h l args=some x
section
variable {C:Gf} {S S':Self}
theorem GX(I:S.le S'){g:Gd}{h:AE}{fr:Fr}{op:Op}{x:AD×AE}(B:BI C S g h fr op=some x):BI C S' g h fr op=some x:=by
 unfold BI at B⊢;split at B
 ·split at B
  ·exact I.1 _ _ _ _ _ B
  ·exact I.2.2 _ _ _ _ _ B
  ·cases B
 ·exact B
theorem G7(I:S.le S'){g:Gd}{ops:Array Oper}:∀{l:List Oper} {fr:Fr} {h:AE} {x:Fr×AE},EF C S g ops l fr h=some x->EF C S' g ops l fr h=some x
 |[],fr,h,x,D=>D
 | o::l,fr,h,x,D=>by
  unfold EF at D⊢;split at D
  ·split at D
   ·rename_i v h' B;simp only[GX I B];exact G7 I D
   ·cases D
  ·exact G7 I D
  ·cases D
theorem EG(I:S.le S'){g:Gd}{ops:Array Oper}:∀{l:List (Nat×List Nat)} {tch:List (Nat×Nat)} {fr:Fr} {h:AE} {x:Fr×AE},Bl C S g ops l tch fr h=some x->Bl C S' g ops l tch fr h=some x
 |[],tch,fr,h,x,D=>D
 | (i,U)::l,tch,fr,h,x,D=>by
  unfold Bl at D⊢;split at D
  ·cases D
  ·split at D
   ·split at D
    ·rename_i v h' B;simp only[GX I B];cases Z:Ow C ops U (put fr _ v) h' with
     |false=>rw[Z]at D;cases D
     |true=>rw[Z]at D;exact EG I D
    ·cases D
   ·exact EG I D
   ·cases D
theorem Dl(I:S.le S'){f:FuncId}{g:Gd}:∀{c:Code} {fr:Fr} {h:AE} {x:DF×Fr×AE},BF C S f g c fr h=some x->BF C S' f g c fr h=some x:=by
 intro c
 induction c with
 |skip=>intro fr h x D;exact D
 |label l=>intro fr h x D;exact D
 |exit id=>intro fr h x D;exact D
 |ret=>intro fr h x D;exact D
 |goto l=>intro fr h x D;exact D
 |refuse s=>intro fr h x D;exact D
 |rangeFunc y ps a b iha ihb=>
  intro fr h x D;exact D
 | region id ops draw=>
  intro fr h x D;simp only[BF]at D⊢;cases draw with
  |true=>
   simp only[z0]at D⊢;split at D
   ·rename_i fr' h' O;rw[EG I O];exact D
   ·cases D
  |false=>
   simp only[yh]at D⊢;split at D
   ·rename_i fr' h' O;rw[G7 I O];exact D
   ·cases D
 | seq a b iha ihb=>
  intro fr h x D;simp only[BF]at D⊢;split at D
  ·rename_i fr' h' R;rw[iha R];exact ihb D
  ·rename_i L;have:=iha D;rw[this];split
   ·rename_i fr' h' he;exact absurd (D.trans he) (L _ _)
   ·rfl
 |cond c a b iha ihb=>
  intro fr h x D;simp only[BF]at D⊢;split at D
  ·exact iha D
  ·exact ihb D
  ·cases D
 | block id c ih=>
  intro fr h x D;simp only[BF]at D⊢;split at D
  ·rename_i i fr' h' R;rw[ih R];exact D
  ·rename_i L;rw[ih D];split
   ·rename_i i fr' h' he;exact absurd (D.trans he) (L _ _ _)
   ·rfl
 | loop c ih=>
  intro fr h x D;simp only[BF]at D⊢;split at D
  ·rename_i fr' h' R;rw[ih R];exact I.2.1 _ _ _ _ _ _ D
  ·rename_i L;rw[ih D];split
   ·rename_i fr' h' he;exact absurd (D.trans he) (L _ _)
   ·rfl
 |scope c ih=>
  intro fr h x D;simp only[BF]at D⊢;exact ih D
theorem Hz(I:S.le S'){g:Gd}{h:AE}{f:FuncId}{args:List AD}{x:AD×AE}(F:Gk C S g h f args=some x):Gk C S' g h f args=some x:=by
 unfold Gk at F⊢;split at F
 ·cases F
 ·split at F
  ·cases F
  ·split at F
   ·rename_i fr' h' he;rw[Dl I he];exact F
   ·rename_i fr' h' he;rw[Dl I he];exact F
   ·cases F
theorem NK(I:S.le S'){g:Gd}{h:AE}{f:FuncId}{args:List AD}{x:AD×AE}(F:HT C S g h f args=some x):HT C S' g h f args=some x:=by
 unfold HT at F⊢;split at F
 ·exact Hz I F
 ·exact F
 ·split at F
  ·rename_i v h' he;rw[Hz I he];exact F
  ·cases F
 ·split at F
  ·rename_i v h' he;rw[Hz I he];exact F
  ·cases F
 ·cases F
theorem H2(C:Gf):∀n,(CV C n).le (CV C (n+1))
 |0=>⟨λ_ _ _ _ _ h=>by simp[CV]at h,λ_ _ _ _ _ _ h=>by simp[CV]at h,λ_ _ _ _ _ h=>by simp[CV]at h⟩
 |n+1=>⟨λ_ _ _ _ _ h=>NK (H2 C n) h,λ_ _ _ _ _ _ h=>Dl (H2 C n) h,λ_ _ _ _ x h=>nomatch (show none=some x from h)⟩
theorem Self.le_refl(S:Self):S.le S:=⟨λ_ _ _ _ _ h=>h,λ_ _ _ _ _ _ h=>h,λ_ _ _ _ _ h=>h⟩
theorem Self.le.trans{S T U:Self}(h:S.le T)(k:T.le U):S.le U:=⟨λ_ _ _ _ _ x=>k.1 _ _ _ _ _ (h.1 _ _ _ _ _ x),λ_ _ _ _ _ _ x=>k.2.1 _ _ _ _ _ _ (h.2.1 _ _ _ _ _ _ x),λ_ _ _ _ _ x=>k.2.2 _ _ _ _ _ (h.2.2 _ _ _ _ _ x)⟩
theorem ED(C:Gf){n m:Nat}(h:n<=m):(CV C n).le (CV C m):=by
 induction h with
 |refl=>exact Self.le_refl _
 |step h ih=>exact ih.trans (H2 C _)
end
end Go.Av
end
/-
 A part.
-/
section
namespace Go.Av
def Has(fr:Fr)(N:Nat)(l:List (Nat×AD)):Prop:=fr.length=N/\∀p∈l,nth fr p.1=p.2
def N6(fr:Fr)(k:Nat):List (Nat×AD)->AD
 |[]=>nth fr k
 |(i,v)::r=>bif Nat.beq i k then v else N6 fr k r
def LN(l:List (Nat×AD))(fr:Fr):Nat->Nat->Fr
 |_,0=>[]
 |s,k+1=>N6 fr s l::LN l fr (s+1) k
def Cy(N:Nat)(l:List (Nat×AD))(fr:Fr):Fr:=LN l fr 0 N
theorem MW{fr:Fr}{k:Nat}:∀{l:List (Nat×AD)},(∀p∈l,nth fr p.1=p.2)->N6 fr k l=nth fr k
 |[],_=>rfl
 |(i,v)::r,h=>by
  unfold N6;rw[GS];by_cases e:i=k
  ·rw[zj e,<-e];exact(h (i,v) (by simp)).symm
  ·rw[zk e];exact MW λp W=>h p (by simp[W])
theorem LB{fr:Fr}{l:List (Nat×AD)}(h:∀p∈l,nth fr p.1=p.2):∀(k s:Nat),s+k=fr.length->LN l fr s k=fr.drop s
 |0,s,e=>by
  have:fr.drop s=[]:=qc (by omega);rw[this];rfl
 |k+1,s,e=>by
  have X:s<fr.length:=by omega
  rw[LN,LB h k (s+1) (by omega),MW h,zY X,H0,zl,List.getElem?_eq_getElem X];rfl
theorem EB{fr:Fr}{N:Nat}{l:List (Nat×AD)}(H:Has fr N l):Cy N l fr=fr:=by
 unfold Cy;have e:0+N=fr.length:=by have:=H.1;omega
 rw[LB H.2 N 0 e,yw]
theorem Has.of_map{fr:Fr}{N:Nat}{out:List (Nat×AD)}(h1:fr.length=N)(G:out.map (λp=>nth fr p.1)=out.map (·.2)):Has fr N out:=by
 refine⟨h1,?_⟩
 induction out with
 |nil=>intro p W;cases W
 |cons q out ih=>
  simp only[ql,List.cons.injEq]at G;intro p W;cases W with
  |head=>exact G.1
  |tail _ W=>exact ih G.2 p W
theorem Has.less{fr:Fr}{N:Nat}{l:List (Nat×AD)}(H:Has fr N l)(out:List (Nat×AD))(h:∀fr,out.map (λp=>nth (Cy N l fr) p.1)=out.map (·.2)):Has fr N out:=by
 have:=h fr;rw[EB H]at this;exact Has.of_map H.1 this
theorem AI{α β:Type}{a:Option α}{k:α->Option β}{x:β}(h:a.bind k=some x):∃y,a=some y/\k y=some x:=by
 cases a with
 |none=>cases h
 |some y=>exact⟨y,rfl,h⟩
def Aj{α:Type}(b:Bool)(x y:Option α):Option α:=
 match b with
 |true=>x
 |false=>y
theorem Ay{α:Type}{b:Bool}{x y:Option α}{r:α}(h:Aj b x y=some r):(b=true/\x=some r)\/(b=false/\y=some r):=by
 cases b with
 |true=>exact .inl ⟨rfl,h⟩
 |false=>exact .inr ⟨rfl,h⟩
@[simp] theorem BL {α:Type} (x y:Option α):Aj true x y=x:=rfl
@[simp] theorem Ak {α:Type} (x y:Option α):Aj false x y=y:=rfl
def F6{α:Type}(b:Bool)(x:Option α):Option α:=
 match b with
 |true=>x
 |false=>none
theorem B0{α:Type}{b:Bool}{x:Option α}{r:α}(h:F6 b x=some r):b=true/\x=some r:=by
 cases b with
 |true=>exact⟨rfl,h⟩
 |false=>cases h
@[simp] theorem Ha {α:Type} (x:Option α):F6 true x=x:=rfl
def Fu{σ ρ:Type}(step:σ->Option (σ⊕ρ)):Nat->σ->Option ρ
 |0,_=>none
 |n+1,s=>
  match step s with
  |some (.inl s')=>Fu step n s'
  |some (.inr r)=>some r
  |none=>none
theorem Hx{σ ρ:Type}{step:σ->Option (σ⊕ρ)}:∀{n m:Nat} {s:σ} {r:ρ},n<=m->Fu step n s=some r->Fu step m s=some r
 |0,_,_,_,_,h=>by cases h
 |n+1,0,_,_,h,_=>by omega
 | n+1,m+1,s,r,hle,h=>by
  unfold Fu at h⊢;cases B:step s with
  |none=>rw[B]at h;cases h
  |some o=>
   rw[B]at h;cases o with
   |inl s'=>exact Hx (Nat.le_of_succ_le_succ hle) h
   |inr r'=>exact h
open Classical in
noncomputable def Uy{σ ρ:Type}(step:σ->Option (σ⊕ρ))(s:σ):Option ρ:=
 if h:∃r n,Fu step n s=some r then some (Classical.choose h)else none
@[irreducible] noncomputable def loop {σ ρ:Type} (step:σ->Option (σ⊕ρ)) (s:σ):Option ρ:=
 match Fu step 4611686018427387904 s with
 |some r=>some r
 |none=>Uy step s
theorem Mb{σ ρ:Type}{step:σ->Option (σ⊕ρ)}{s:σ}{r:ρ}(h:loop step s=some r):∃n,Fu step n s=some r:=by
 unfold loop at h;split at h
 ·rename_i r' h';cases h;exact⟨_,h'⟩
 ·unfold Uy at h;split at h
  ·rename_i D;injection h with h;rw[<-h];exact Classical.choose_spec D
  ·cases h
theorem P1{σ ρ:Type}{step:σ->Option (σ⊕ρ)}{s:σ}{r r':ρ}{n m:Nat}(h:Fu step n s=some r)(hm:Fu step m s=some r'):r=r':=by
 have h1:=Hx (yH n m) h;have G:=Hx (yF n m) hm;rw[h1]at G;exact zW G
theorem Mf{σ ρ:Type}{step:σ->Option (σ⊕ρ)}{s:σ}{r:ρ}{n:Nat}(h:Fu step n s=some r):loop step s=some r:=by
 unfold loop;split
 ·rename_i r' h';rw[P1 h h']
 ·have D:∃r n,Fu step n s=some r:=⟨r,n,h⟩;unfold Uy;rw[dif_pos D];obtain⟨m,hm⟩:=Classical.choose_spec D;rw[P1 h hm]
theorem Jq{σ ρ:Type}{step:σ->Option (σ⊕ρ)}{s:σ}{r:ρ}(h:step s=some (.inr r)):loop step s=some r:=Mf (n:=1) (by simp[Fu,h])
theorem Mc{σ ρ:Type}{step:σ->Option (σ⊕ρ)}{s s':σ}{r:ρ}(h:step s=some (.inl s'))(O:loop step s'=some r):loop step s=some r:=by
 obtain⟨n,Q⟩:=Mb O;exact Mf (n:=n+1) (by simp[Fu,h,Q])
theorem OD{σ ρ:Type}{step:σ->Option (σ⊕ρ)}(inv:σ->Prop)(μ:σ->Nat)(post:ρ->Prop)
  (B:∀s,inv s->(∃s',step s=some (.inl s')/\inv s'/\μ s'<μ s)\/(∃r,step s=some (.inr r)/\post r)):∀s,inv s->∃r,loop step s=some r/\post r:=by
 have key:∀n s,μ s<n->inv s->∃r,loop step s=some r/\post r:=by
  intro n
  induction n with
  |zero=>intro s h _;omega
  | succ n ih=>
   intro s X hi;rcases B s hi with⟨s',h1,G,K⟩|⟨r,h1,G⟩
   ·obtain⟨r,h4,h5⟩:=ih s' (by omega) G;exact⟨r,Mc h1 h4,h5⟩
   ·exact⟨r,Jq h1,G⟩
 exact λs hi=>key _ s (Nat.lt_succ_self _) hi
structure Sl where
 r:Option (Nat×Nat)
 n:Nat
section
variable (h:AE) (a:Nat×Nat)
def Ma:Option AD:=
 match B2 (h.get a.1) a.2 1 with
 |some [v]=>some v
 |_=>none
def Eb(n:Nat):Option (List AD):=B2 (h.get a.1) a.2 n
end
def X0(k:IntKind):AD->Option Int
 | .int k' n=>if k=k' then some n else none
 |_=>none
def Xz:AD->Option (List UInt8)
 | .str s=>some s
 |_=>none
def Yg:AD->Option (Option (Nat×Nat))
 | .ptr p=>some p
 |_=>none
def XN:AD->Option Sl
 | .slice r n=>some ⟨r,n⟩
 |_=>none
def SR(a:Nat×Nat)(n z:Nat)(i:Int):Option (Nat×Nat):=if 0<=i/\i<n then some (a.1,a.2+i.toNat*z)else none
def Jp(s:Sl)(z:Nat)(i:Int):Option (Nat×Nat):=
 match s.r with
 |some a=>SR a s.n z i
 |none=>none
def OF(s:List UInt8)(i:Int):Option Int:=if 0<=i then(s[i.toNat]?).map λb=>(b.toNat:Int)else none
def Qn(n:Nat)(lo hi:Option Int):Option (Nat×Nat):=
 match hi with
 | some u=>
  if 0<=u/\u<=n then
   match lo with
   |some l=>if 0<=l/\l<=u then some (l.toNat,u.toNat)else none
   |none=>some (0,u.toNat)
  else none
 |none=>
  match lo with
  |some l=>if 0<=l/\l<=n then some (l.toNat,n)else none
  |none=>some (0,n)
theorem R5(k k':IntKind)(n:Nat)(lo hi:Option Int):Di n (lo.map (.int k ·)) (hi.map (.int k' ·))=Qn n lo hi:=by
 cases lo<;>cases hi<;>rfl
def Kx(s:List UInt8)(lo hi:Option Int):Option (List UInt8):=(Qn s.length lo hi).map λp=>(s.drop p.1).take (p.2 - p.1)
def YM(h:AE)(a:Nat×Nat)(n z:Nat)(lo hi:Option Int):Option Sl:=
 match h.get a.1 with
 |some (.cells none _ _)=>(Qn n lo hi).map λp=>⟨some (a.1,a.2+p.1*z),p.2 - p.1⟩
 |_=>none
def Yi(P:Program)(h:AE)(s:Sl)(z:Nat)(lo hi:Option Int):Option Sl:=
 match s.r with
 |none=>if s.n=0 then(Qn 0 lo hi).map λ_=>⟨none,0⟩else none
 |some a=>
  match h.get a.1 with
  |some (.cells none _ _)=>(Qn s.n lo hi).map λp=>⟨some (a.1,a.2+p.1*z),p.2 - p.1⟩
  |some (.cells (some e) _ _)=>if B9 P e=some z then(Qn s.n lo hi).map λp=>⟨some (a.1,a.2+p.1*z),p.2 - p.1⟩else none
  |_=>none
def YK(h:AE)(s:Sl):Option (List UInt8):=
 match s.r with
 |none=>some []
 |some a=>if s.n=0 then(h.get a.1).map (λ_=>[])else(B2 (h.get a.1) a.2 s.n).bind bytesOf
def st(g:Gd)(h:AE)(a:Nat×Nat)(cs:List AD):Option AE:=By g h a.1 a.2 cs
def TS(n:Nat)(g:Gd)(h:AE)(a:Nat×Nat)(cs:List AD):Option AE:=if cs.length=n then By g h a.1 a.2 cs else none
def NG(bytes:Nat)(z:List AD)(l c:Int):Option (List AD):=if 0<=l/\l<=c/\c<=1099511627776/\bytes*c<=1099511627776 then some (Cs z c.toNat)else none
def app(e:TypeId)(sz bytes:Nat)(g:Gd)(h:AE)(s:Sl)(n:Nat)(x:AD):Option (Sl×AE):=
 if n=0 then some (s,h)
 else if s.n+n<=1099511627776/\(s.n+n)*bytes<=1099511627776 then
  match(Ch h sz n x).map (·.map IG),Ch h sz s.n (.slice s.r s.n)with
  | some new,some old=>
   if (old++new).all AD.one=true then
    match s.r with
    |none=>some (⟨some (h.size,0),s.n+n⟩,h.push (.cells (some e) 2 (old++new)))
    | some a=>
     match h.get a.1 with
     |some (.cells (some e') 2 _)=>
      if g.may a.1=true/\e'=e then some (⟨some (h.size,0),s.n+n⟩,(h.set a.1 (.cells (some e') 0 [])).push (.cells (some e) 2 (old++new)))
      else none
     |_=>none
   else none
  |_,_=>none
 else none
def Vz(sz:Nat)(g:Gd)(h:AE)(d:Sl)(n:Nat)(x:AD):Option (Int×AE):=
 match Ch h sz (min n d.n) x with
 |some new=>
  if min n d.n=0 then some (0,h)else
  match d.r with
  |some a=>(By g h a.1 a.2 new).map λh'=>(((min n d.n:Nat):Int),h')
  |none=>none
 |none=>none
def Fl(k:IntKind)(a b:Int):Int:=k.wrap (BitVec.ofInt k.bits a &&& BitVec.ofInt k.bits b).toNat
def N8(k:IntKind)(a b:Int):Int:=k.wrap (BitVec.ofInt k.bits a ||| BitVec.ofInt k.bits b).toNat
def MD(k:IntKind)(a b:Int):Int:=k.wrap (a*2^(min b.toNat k.bits))
def H3(k:IntKind)(a b:Int):Int:=a.fdiv (2^(min b.toNat k.bits))
def Nw(k:IntKind)(n:Int):Int:=k.wrap (BitVec.ofInt k.bits (if k.signed then -1 else k.max) ^^^ BitVec.ofInt k.bits n).toNat
def mx(a b:Int):Int:=if b>a then b else a
def mn(a b:Int):Int:=if b<a then b else a
def Mi(ops:Array Oper)(i:Nat):Op:=
 match ops[i]? with
 |some o=>o.op
 |none=>.move (.const (.bool false))
def Gw(ops:Array Oper)(i:Nat):Option Tmp:=
 match ops[i]? with
 |some o=>o.dst
 |none=>none
def runs(ops:Array Oper)(fr:Fr)(i:Nat):Bool:=
 match ops[i]? with
 |some o=>(match Bp ops fr o with|some b=>b|none=>false)
 |none=>false
def Ol(ops:Array Oper)(fr:Fr)(i:Nat):Bool:=
 match ops[i]? with
 |some o=>(match Bp ops fr o with|some b=> !b|none=>false)
 |none=>false
section
variable (P:Program) (fr:Fr)
def J6:Op->Option ((Nat×Nat)×Option Nat)
 | .load t x=>
  match ev fr x,Hi P t with
  | .ptr (some a),some true=>(B9 P t).map (a,some ·)
  | .ptr (some a),some false=>some (a,none)
  |_,_=>none
 |_=>none
def HW:Op->Option ((Nat×Nat)×Nat×AD)
 | .store t x y=>
  match ev fr x with
  | .ptr (some a)=>(B9 P t).map λn=>(a,n,ev fr y)
  |_=>none
 |_=>none
def Uc(op:Op):Option AD:=
 match As P op with
 |0=>Gj P fr op
 |_=>none
def VK(op:Op)(k:Nat):Option (AD×Br):=
 match As P op with
 |2=>(L1 P fr op).map λx=>(x.1 k,x.2)
 |_=>none
def UO:Op->Option ((Nat×Nat)×Nat×Nat×Int)
 | .indexAddr t x i=>
  match P.underlying t,ev fr x,ev fr i with
  |some (.array n e),.ptr (some a),.int _ i=>(B9 P e).map λz=>(a,n,z,i)
  |_,_,_=>none
 |_=>none
def RP:Op->Option (Option (Nat×Nat)×Nat×Nat×Int)
 | .indexAddr t x i=>
  match P.underlying t,ev fr x,ev fr i with
  |some (.slice e),.slice r n,.int _ i=>(B9 P e).map λz=>(r,n,z,i)
  |_,_,_=>none
 |_=>none
def Q6:Op->Option (List UInt8×Int)
 | .index t x i=>
  match P.underlying t,ev fr x,ev fr i with
  |some .string,.str s,.int _ i=>some (s,i)
  |_,_,_=>none
 |_=>none
def Us:Op->Option (List UInt8×Option AD×Option AD)
 | .slice t x lo hi none=>
  match P.underlying t,ev fr x with
  |some .string,.str s=>some (s,lo.map (ev fr),hi.map (ev fr))
  |_,_=>none
 |_=>none
def Ts:Op->Option (Option (Nat×Nat)×Nat)
 | .convert s d x=>
  match P.underlying s,P.underlying d,ev fr x with
  |some (.slice e),some .string,.slice r n=>
   match P.underlying e with
   |some (.int .u8)=>some (r,n)
   |_=>none
  |_,_,_=>none
 |_=>none
def RI:Op->Option (TypeId×Nat×List AD×Int×Int)
 | .makeSlice t l c=>
  match P.underlying t,ev fr l,ev fr c with
  | some (.slice e),.int _ l,.int _ c=>
   match P.info? e with
   | some i=>
    match i.zero.map Pf with
    |some z=>
     match z.cells?.map (·.map IG)with
     |some zc=>if zc.length=i.size/\zc.all AD.one=true then some (e,i.bytes,zc,l,c)else none
     |none=>none
    |none=>none
   |none=>none
  |_,_,_=>none
 |_=>none
def J1:Op->Option (FuncId×List AD)
 | .call {callee:=.value x,args:=asE9,..}=>
  match ev fr x with
  | .func (.func f) first cap=>some (f,first++(asE9.toList.map (ev fr)++cap))
  |_=>none
 |_=>none
def UJ:Op->Option (TypeId×Nat×Nat×Option (Nat×Nat)×Nat×Nat×AD)
 | .call {callee:=.builtin .append,args:=asE9,argTypes:=ts}=>
  match asE9.toList.map (ev fr),ts[0]?,ts[1]? with
  | [.slice r sl,x],some st,some xt=>
   match P.underlying st,P.underlying xt,LI x with
   |some (.slice e),some d,some n=>
    match P.info? e with
    |some i=>if JY d=true/\i.size≠0/\i.zero.map (·.cells.size)=some i.size then some (e,i.size,i.bytes,r,sl,n,x)else none
    |none=>none
   |_,_,_=>none
  |_,_,_=>none
 |_=>none
def RF:Op->Option (Bool×Option (Nat×Nat))
 | .binOp op t x y _=>
  match P.underlying t,ev fr x,ev fr y,op with
  |some (.pointer _),.ptr p,.ptr none,.eql=>some (true,p)
  |some (.pointer _),.ptr p,.ptr none,.neq=>some (false,p)
  |_,_,_,_=>none
 |_=>none
def O0:Op->Option (Bool×IntKind×Int×Int)
 | .binOp op _ x y _=>
  match ev fr x,ev fr y,op with
  | .int k a,.int _ b,.shl=>some (true,k,a,b)
  | .int k a,.int _ b,.shr=>some (false,k,a,b)
  |_,_,_=>none
 |_=>none
def V9:Op->Option (List UInt8×List UInt8)
 | .binOp op _ x y _=>
  match ev fr x,ev fr y,op with
  | .str a,.str b,.add=>some (a,b)
  |_,_,_=>none
 |_=>none
end
end Go.Av
end
/-
 A part.
-/
section
namespace Go.Av
section
variable {C:Gf} {S:Self} {g:Gd} {h h1:AE} {fr:Fr} {op:Op}
theorem Gh(hc:As C.P op≠3):BI C S g h fr op=Gn C.P C.C4 g h fr op:=Er hc
theorem YD{v:AD}(B:Uc C.P fr op=some v):BI C S g h fr op=some (v,h):=by
 unfold Uc at B;split at B
 ·rename_i hc;rw[Gh (by rw[hc];simp)];simp[Gn,hc,B]
 ·cases B
theorem YG{v:AD}{ob:Br}(B:VK C.P fr op h.size=some (v,ob)):BI C S g h fr op=some (v,h.push ob):=by
 unfold VK at B;split at B
 ·rename_i hc;rw[Gh (by rw[hc];simp)];simp only[zh,ze]at B;obtain⟨x,h1,rfl,rfl⟩:=B;simp[Gn,hc,h1]
 ·cases B
theorem QZ{a:Nat×Nat}{v:AD}(E:Ma h a=some v):B2 (h.get a.1) a.2 1=some [v]/\∃ob,h.get a.1=some ob:=by
 unfold Ma at E;split at E
 ·rename_i u hu;injection E with E;subst E;refine⟨hu,?_⟩;cases J:h.get a.1 with
  |none=>rw[J]at hu;simp[B2]at hu
  |some ob=>exact⟨ob,rfl⟩
 ·cases E
theorem Cx{a:Nat×Nat}{v:AD}(B:J6 C.P fr op=some (a,none))(E:Ma h a=some v):BI C S g h fr op=some (v,h):=by
 unfold J6 at B;split at B
 ·rename_i t x;obtain⟨h1,ob,G⟩:=QZ E;rw[G]at h1;split at B
  ·simp only[zh,ze]at B;obtain⟨_,_,_,hc⟩:=B;cases hc
  ·rename_i he R;simp only[zd,ze,and_true]at B;subst B;simp[BI,Gn,As,Cm,he,EN,G,Iq,Fi,R,h1]
  ·cases B
 ·cases B
theorem Bb{a:Nat×Nat}{n:Nat}{cs:List AD}(B:J6 C.P fr op=some (a,some n))(E:Eb h a n=some cs):BI C S g h fr op=some (.agg cs,h):=by
 unfold J6 at B;split at B
 ·rename_i t x;unfold Eb at E;cases J:h.get a.1 with
  |none=>rw[J]at E;simp[B2]at E
  | some ob=>
   rw[J]at E;split at B
   ·rename_i he R;simp only[zh,ze,zd]at B;obtain⟨m,h1,rfl,rfl⟩:=B;simp[BI,Gn,As,Cm,he,EN,J,Iq,Fi,R,h1,E]
   ·simp at B
   ·cases B
 ·cases B
theorem NO{a:Nat×Nat}{v:AD}(B:HW C.P fr op=some (a,1,v))(hc:v.cells?=some [v])(E:st g h a [v]=some h1):BI C S g h fr op=some (.tuple [],h1):=by
 unfold HW at B;split at B
 ·split at B
  ·rename_i he;simp only[zh,ze]at B;obtain⟨n,G,rfl,rfl,hv⟩:=B;unfold st at E;simp[BI,Gn,As,Ib,he,HA,hv,hc,G,E]
  ·cases B
 ·cases B
theorem Ko{a:Nat×Nat}{n:Nat}{cs:List AD}(B:HW C.P fr op=some (a,n,.agg cs))(E:TS n g h a cs=some h1):BI C S g h fr op=some (.tuple [],h1):=by
 unfold HW at B;split at B
 ·split at B
  ·rename_i he;simp only[zh,ze]at B;obtain⟨m,G,rfl,rfl,hv⟩:=B;unfold TS at E;split at E
   ·rename_i Q;simp[BI,Gn,As,Ib,he,HA,hv,AD.cells?,G,Q,E]
   ·cases E
  ·cases B
 ·cases B
theorem L7{a b:Nat×Nat}{n z:Nat}{i:Int}(B:UO C.P fr op=some (a,n,z,i))(E:SR a n z i=some b):BI C S g h fr op=some (.ptr (some b),h):=by
 unfold UO at B;split at B
 ·split at B
  ·rename_i hu D hi;simp only[zh,ze]at B;obtain⟨m,G,rfl,rfl,rfl,rfl⟩:=B;unfold SR at E;split at E
   ·rename_i F;injection E with E;subst E;simp[BI,Gn,As,Gj,Fa,hu,D,hi,F,G]
   ·cases E
  ·cases B
 ·cases B
theorem Ct{s:Sl}{b:Nat×Nat}{z:Nat}{i:Int}(B:RP C.P fr op=some (s.r,s.n,z,i))(E:Jp s z i=some b):BI C S g h fr op=some (.ptr (some b),h):=by
 unfold RP at B;split at B
 ·split at B
  ·rename_i hu D hi;simp only[zh,ze]at B;obtain⟨m,G,e1,e2,rfl,rfl⟩:=B;unfold Jp SR at E;rw[<-e1,<-e2]at E;split at E
   ·split at E
    ·rename_i F;injection E with E;subst E;simp[BI,Gn,As,Gj,Fa,hu,D,hi,F,G]
    ·cases E
   ·cases E
  ·cases B
 ·cases B
theorem JD{s:List UInt8}{i n:Int}(B:Q6 C.P fr op=some (s,i))(E:OF s i=some n):BI C S g h fr op=some (.int .u8 n,h):=by
 unfold Q6 at B;split at B
 ·split at B
  ·rename_i hu D hi;simp only[zd,ze]at B;obtain⟨rfl,rfl⟩:=B;unfold OF at E;split at E
   ·rename_i F;simp only[zh]at E;obtain⟨b,K,rfl⟩:=E;simp[BI,Gn,As,Gj,Lh,hu,D,hi,F,K]
   ·cases E
  ·cases B
 ·cases B
theorem J8{s t:List UInt8}{k k':IntKind}{lo hi:Option Int}(B:Us C.P fr op=some (s,lo.map (.int k ·),hi.map (.int k' ·)))(E:Kx s lo hi=some t):BI C S g h fr op=some (.str t,h):=by
 unfold Us at B;split at B
 ·split at B
  ·rename_i hu D;simp only[zd,ze]at B;obtain⟨rfl,h1,G⟩:=B;unfold Kx at E;simp only[zh]at E;obtain⟨p,K,rfl⟩:=E;simp[BI,Gn,As,Gj,PD,hu,D,h1,G,R5,K]
  ·cases B
 ·cases B
theorem XJ{s:Sl}{t:List UInt8}(B:Ts C.P fr op=some (s.r,s.n))(E:YK h s=some t):BI C S g h fr op=some (.str t,h):=by
 unfold Ts at B;split at B
 ·split at B
  ·rename_i hu hd D;split at B
   ·rename_i he;simp only[zd,ze]at B;obtain⟨e1,e2⟩:=B;unfold YK at E;rw[<-e1,<-e2]at E;split at E
    ·injection E with E;subst E;simp[BI,Gn,As,Cm,EN,Iq,PH,hu,hd,D,he]
    ·rename_i a;cases J:h.get a.1 with
     |none=>
      rw[J]at E;split at E
      ·simp at E
      ·simp[B2]at E
     | some ob=>
      split at E
      ·rename_i Q;rw[J]at E;injection E with E;subst E;simp[BI,Gn,As,Cm,EN,Iq,PH,hu,hd,D,he,J,Q]
      ·rename_i Q;obtain⟨cs,K,h4⟩:=AI E;rw[J]at K;simp[BI,Gn,As,Cm,EN,Iq,PH,hu,hd,D,he,J,Q,K,h4]
   ·cases B
  ·cases B
 ·cases B
theorem W5{e:TypeId}{bytes:Nat}{z cs:List AD}{l c:Int}(B:RI C.P fr op=some (e,bytes,z,l,c))(E:NG bytes z l c=some cs):BI C S g h fr op=some (.slice (some (h.size,0)) l.toNat,h.push (.cells (some e) 2 cs)):=by
 unfold RI at B;split at B
 ·split at B
  ·rename_i hu D V;split at B
   ·rename_i i hi;split at B
    ·rename_i z' hz;split at B
     ·rename_i zc hzc;split at B
      ·rename_i F;simp only[zd,ze]at B;obtain⟨rfl,rfl,rfl,rfl,rfl⟩:=B;unfold NG at E;split at E
       ·rename_i hq;injection E with E;subst E;obtain⟨q1,q2,q3,q4⟩:=hq;simp only[BI,Gn,As,L1,GW,hu,D,V,hi,hz,hzc];rw[zj ⟨q1,q2,q3,q4,F.1,F.2⟩];rfl
       ·cases E
      ·cases B
     ·cases B
    ·cases B
   ·cases B
  ·cases B
 ·cases B
theorem R7{f:FuncId}{args:List AD}{v:AD}(B:J1 fr op=some (f,args))(E:S.call g h f args=some (v,h1)):BI C S g h fr op=some (v,h1):=by
 unfold J1 at B;split at B
 ·split at B
  ·rename_i he;simp only[zd,ze]at B;obtain⟨rfl,rfl⟩:=B;simp only[BI,he];exact E
  ·cases B
 ·cases B
theorem JF{e:TypeId}{sz bytes n:Nat}{s t:Sl}{x:AD}(B:UJ C.P fr op=some (e,sz,bytes,s.r,s.n,n,x))(E:app e sz bytes g h s n x=some (t,h1)):BI C S g h fr op=some (.slice t.r t.n,h1):=by
 unfold UJ at B;split at B
 ·split at B
  ·rename_i D ht0 ht1;split at B
   ·rename_i hu hd Q;split at B
    ·rename_i i hi;split at B
     ·rename_i F;simp only[zd,ze]at B;obtain⟨rfl,rfl,rfl,e1,e2,rfl,rfl⟩:=B;unfold app at E;simp only[BI,Gn,As,Ib,D,Nn,ht0,ht1,hu,hd,Q,hi,F.1,if_true,appendCore];rw[e1,e2];split at E
      ·rename_i h0;simp only[zd,ze]at E;obtain⟨rfl,rfl⟩:=E;rw[zj h0]
      ·rename_i h0;rw[zk h0];split at E
       ·rename_i hq;rw[zj ⟨F.2.1,hq.1,hq.2,F.2.2⟩];split at E
        ·rename_i new old K h4;simp only[zh]at K;obtain⟨new0,K,rfl⟩:=K;simp only[K,h4,zf];split at E
         ·rename_i ho;rw[zj ho];split at E
          ·rename_i O;simp only[zd,ze]at E;obtain⟨rfl,rfl⟩:=E;simp[O]
          ·rename_i a O;split at E
           ·rename_i J;split at E
            ·rename_i hm;simp only[zd,ze]at E;obtain⟨rfl,rfl⟩:=E;simp[O,J,hm]
            ·cases E
           ·cases E
         ·cases E
        ·cases E
       ·cases E
     ·cases B
    ·cases B
   ·cases B
  ·cases B
 ·cases B
theorem RB{v:AD}{ob:Br}(B:VK C.P fr op h.size=some (v,ob))(Y:some (h.push ob)=some h1):BI C S g h fr op=some (v,h1):=by
 injection Y with Y;rw[<-Y];exact YG B
theorem NQ{e:TypeId}{bytes:Nat}{z cs:List AD}{l c:Int}(B:RI C.P fr op=some (e,bytes,z,l,c))(E:NG bytes z l c=some cs)(Y:some (h.push (.cells (some e) 2 cs))=some h1):BI C S g h fr op=some (.slice (some (h.size,0)) l.toNat,h1):=by
 injection Y with Y;rw[<-Y];exact W5 B E
theorem XX{k:IntKind}{a b:Int}(B:O0 fr op=some (true,k,a,b))(F:decide (0<=b)=true):BI C S g h fr op=some (.int k (MD k a b),h):=by
 unfold O0 at B;split at B
 ·split at B
  ·rename_i D V;simp only[zd,ze,qu]at B;obtain⟨rfl,rfl,rfl⟩:=B;have M:=of_decide_eq_true F;simp[BI,Gn,As,Gj,RL,Nt,D,V,LQ,Int.not_lt.2 M,MD]
  ·simp at B
  ·cases B
 ·cases B
theorem Xw{k:IntKind}{a b:Int}(B:O0 fr op=some (false,k,a,b))(F:decide (0<=b)=true):BI C S g h fr op=some (.int k (H3 k a b),h):=by
 unfold O0 at B;split at B
 ·split at B
  ·simp at B
  ·rename_i D V;simp only[zd,ze,qu]at B;obtain⟨rfl,rfl,rfl⟩:=B;have M:=of_decide_eq_true F;simp[BI,Gn,As,Gj,RL,Nt,D,V,LQ,Int.not_lt.2 M,H3]
  ·cases B
 ·cases B
theorem Vx{a b:List UInt8}(B:V9 fr op=some (a,b))(F:decide (a.length+b.length<=9223372036854775807)=true):BI C S g h fr op=some (.str (a++b),h):=by
 unfold V9 at B;split at B
 ·split at B
  ·rename_i D V;simp only[zd,ze]at B;obtain⟨rfl,rfl⟩:=B;have M:=of_decide_eq_true F;simp[BI,Gn,As,Gj,RL,Nt,D,V,L6,M]
  ·cases B
 ·cases B
end
end Go.Av
end
