/-
 A part.
-/
import Derived.Test.YtfgmnhjedmkpeaaAbsMono
import Derived.KernelRfl
set_option linter.unusedSimpArgs false
namespace Go.Abs
def Has(fr:Fr)(N:Nat)(l:List (Nat×AA)):Prop:=fr.length=N/\∀p∈l,nth fr p.1=p.2
def Lf(fr:Fr)(k:Nat):List (Nat×AA)->AA
 |[]=>nth fr k
 |(i,v)::r=>bif Nat.beq i k then v else Lf fr k r
def JY(l:List (Nat×AA))(fr:Fr):Nat->Nat->Fr
 |_,0=>[]
 |s,k+1=>Lf fr s l::JY l fr (s+1) k
def Cr(N:Nat)(l:List (Nat×AA))(fr:Fr):Fr:=JY l fr 0 N
theorem KW{fr:Fr}{k:Nat}:∀{l:List (Nat×AA)},(∀p∈l,nth fr p.1=p.2)->Lf fr k l=nth fr k
 |[],_=>rfl
 |(i,v)::r,h=>by
  unfold Lf;rw[F9];by_cases e:i=k
  ·rw[xj e,<-e];exact(h (i,v) (by simp)).symm
  ·rw[xg e];exact KW λp C=>h p (by simp[C])
theorem JA{fr:Fr}{l:List (Nat×AA)}(h:∀p∈l,nth fr p.1=p.2):∀(k s:Nat),s+k=fr.length->JY l fr s k=fr.drop s
 |0,s,e=>by
  have:fr.drop s=[]:=wC (by omega);rw[this];rfl
 |k+1,s,e=>by
  have D:s<fr.length:=by omega
  rw[JY,JA h k (s+1) (by omega),KW h,xR D,F5,xb,List.getElem?_eq_getElem D];rfl
theorem Dh{fr:Fr}{N:Nat}{l:List (Nat×AA)}(H:Has fr N l):Cr N l fr=fr:=by
 unfold Cr;have e:0+N=fr.length:=by have:=H.1;omega
 rw[JA H.2 N 0 e,wz]
theorem Has.of_map{fr:Fr}{N:Nat}{out:List (Nat×AA)}(h1:fr.length=N)(B:out.map (λp=>nth fr p.1)=out.map (·.2)):Has fr N out:=by
 refine⟨h1,?_⟩
 induction out with
 |nil=>intro p C;cases C
 |cons q out ih=>
  simp only[List.map_cons,List.cons.injEq]at B;intro p C;cases C with
  |head=>exact B.1
  |tail _ C=>exact ih B.2 p C
theorem Has.less{fr:Fr}{N:Nat}{l:List (Nat×AA)}(H:Has fr N l)(out:List (Nat×AA))(h:∀fr,out.map (λp=>nth (Cr N l fr) p.1)=out.map (·.2)):Has fr N out:=by
 have:=h fr;rw[Dh H]at this;exact Has.of_map H.1 this
theorem AJ{α β:Type}{a:Option α}{k:α->Option β}{x:β}(h:a.bind k=some x):∃y,a=some y/\k y=some x:=by
 cases a with
 |none=>cases h
 |some y=>exact⟨y,rfl,h⟩
def A3{α:Type}(b:Bool)(x y:Option α):Option α:=
 match b with
 |true=>x
 |false=>y
theorem BH{α:Type}{b:Bool}{x y:Option α}{r:α}(h:A3 b x y=some r):(b=true/\x=some r)\/(b=false/\y=some r):=by
 cases b with
 |true=>exact .inl ⟨rfl,h⟩
 |false=>exact .inr ⟨rfl,h⟩
@[simp] theorem BU {α:Type} (x y:Option α):A3 true x y=x:=rfl
@[simp] theorem Aq {α:Type} (x y:Option α):A3 false x y=y:=rfl
def Gv{α:Type}(b:Bool)(x:Option α):Option α:=
 match b with
 |true=>x
 |false=>none
theorem CT{α:Type}{b:Bool}{x:Option α}{r:α}(h:Gv b x=some r):b=true/\x=some r:=by
 cases b with
 |true=>exact⟨rfl,h⟩
 |false=>cases h
@[simp] theorem MK {α:Type} (x:Option α):Gv true x=x:=rfl
def Ee{σ ρ:Type}(step:σ->Option (σ⊕ρ)):Nat->σ->Option ρ
 |0,_=>none
 |n+1,s=>
  match step s with
  |some (.inl s')=>Ee step n s'
  |some (.inr r)=>some r
  |none=>none
theorem GX{σ ρ:Type}{step:σ->Option (σ⊕ρ)}:∀{n m:Nat} {s:σ} {r:ρ},n<=m->Ee step n s=some r->Ee step m s=some r
 |0,_,_,_,_,h=>by cases h
 |n+1,0,_,_,h,_=>by omega
 | n+1,m+1,s,r,hle,h=>by
  unfold Ee at h⊢;cases I:step s with
  |none=>rw[I]at h;cases h
  |some o=>
   rw[I]at h;cases o with
   |inl s'=>exact GX (Nat.le_of_succ_le_succ hle) h
   |inr r'=>exact h
open Classical in
noncomputable def loop{σ ρ:Type}(step:σ->Option (σ⊕ρ))(s:σ):Option ρ:=
 if h:∃r n,Ee step n s=some r then some (Classical.choose h)else none
theorem Kb{σ ρ:Type}{step:σ->Option (σ⊕ρ)}{s:σ}{r:ρ}(h:loop step s=some r):∃n,Ee step n s=some r:=by
 unfold loop at h;split at h
 ·rename_i G;injection h with h;rw[<-h];exact Classical.choose_spec G
 ·cases h
theorem Ka{σ ρ:Type}{step:σ->Option (σ⊕ρ)}{s:σ}{r:ρ}{n:Nat}(h:Ee step n s=some r):loop step s=some r:=by
 have G:∃r n,Ee step n s=some r:=⟨r,n,h⟩;unfold loop;rw[dif_pos G];obtain⟨m,hm⟩:=Classical.choose_spec G;have h1:=GX (xM n m) h;have B:=GX (xK n m) hm;rw[h1]at B;injection B with B;rw[<-B]
theorem H2{σ ρ:Type}{step:σ->Option (σ⊕ρ)}{s:σ}{r:ρ}(h:step s=some (.inr r)):loop step s=some r:=Ka (n:=1) (by simp[Ee,h])
theorem KY{σ ρ:Type}{step:σ->Option (σ⊕ρ)}{s s':σ}{r:ρ}(h:step s=some (.inl s'))(hr:loop step s'=some r):loop step s=some r:=by
 obtain⟨n,hn⟩:=Kb hr;exact Ka (n:=n+1) (by simp[Ee,h,hn])
theorem L1{σ ρ:Type}{step:σ->Option (σ⊕ρ)}(inv:σ->Prop)(μ:σ->Nat)(post:ρ->Prop)
  (I:∀s,inv s->(∃s',step s=some (.inl s')/\inv s'/\μ s'<μ s)\/(∃r,step s=some (.inr r)/\post r)):∀s,inv s->∃r,loop step s=some r/\post r:=by
 have key:∀n s,μ s<n->inv s->∃r,loop step s=some r/\post r:=by
  intro n
  induction n with
  |zero=>intro s h _;omega
  | succ n ih=>
   intro s D F;rcases I s F with⟨s',h1,B,h3⟩|⟨r,h1,B⟩
   ·obtain⟨r,h4,h5⟩:=ih s' (by omega) B;exact⟨r,KY h1 h4,h5⟩
   ·exact⟨r,H2 h1,B⟩
 exact λs F=>key _ s (Nat.lt_succ_self _) F
structure Sl where
 r:Option (Nat×Nat)
 n:Nat
abbrev Sl.v(s:Sl):AA:=.slice s.r s.n
section
variable (h:AB) (a:Nat×Nat)
def Jy:Option AA:=
 match BQ (h.get a.1) a.2 1 with
 |some [v]=>some v
 |_=>none
def Gp(n:Nat):Option (List AA):=BQ (h.get a.1) a.2 n
end
def Ys(k:IntKind):AA->Option Int
 | .int k' n=>if k=k' then some n else none
 |_=>none
def Y5:AA->Option Bool
 | .bool b=>some b
 |_=>none
def YD:AA->Option (List UInt8)
 | .str s=>some s
 |_=>none
def aU:AA->Option (Option (Nat×Nat))
 | .ptr p=>some p
 |_=>none
def XS:AA->Option Sl
 | .slice r n=>some ⟨r,n⟩
 |_=>none
theorem W1{k:IntKind}{v:AA}{n:Int}(h:Ys k v=some n):v=.int k n:=by
 unfold Ys at h;split at h
 ·split at h
  ·rename_i e;injection h with h;rw[h,e]
  ·cases h
 ·cases h
theorem Wo{v:AA}{b:Bool}(h:Y5 v=some b):v=.bool b:=by unfold Y5 at h;split at h<;>first|(injection h with h;rw[h])|cases h
theorem Wi{v:AA}{s:List UInt8}(h:YD v=some s):v=.str s:=by unfold YD at h;split at h<;>first|(injection h with h;rw[h])|cases h
theorem Wz{v:AA}{s:Sl}(h:XS v=some s):v=.slice s.r s.n:=by unfold XS at h;split at h<;>first|(injection h with h;rw[<-h])|cases h
section
variable (h:AB) (a:Nat×Nat)
def Me(k:IntKind):Option Int:=(Jy h a).bind (Ys k)
def Ri:Option Bool:=(Jy h a).bind Y5
def X2:Option (List UInt8):=(Jy h a).bind YD
def Jw:Option Sl:=(Jy h a).bind XS
variable {h a}
theorem Ho{k:IntKind}{n:Int}(E:Me h a k=some n):Jy h a=some (.int k n):=by obtain⟨v,h1,B⟩:=AJ E;rw[h1,W1 B]
theorem LD{n:Bool}(E:Ri h a=some n):Jy h a=some (.bool n):=by obtain⟨v,h1,B⟩:=AJ E;rw[h1,Wo B]
theorem WR{n:List UInt8}(E:X2 h a=some n):Jy h a=some (.str n):=by obtain⟨v,h1,B⟩:=AJ E;rw[h1,Wi B]
theorem HP{n:Sl}(E:Jw h a=some n):Jy h a=some (.slice n.r n.n):=by obtain⟨v,h1,B⟩:=AJ E;rw[h1,Wz B]
end
def Qv(a:Nat×Nat)(n z:Nat)(i:Int):Option (Nat×Nat):=if 0<=i/\i<n then some (a.1,a.2+i.toNat*z)else none
def H0(s:Sl)(z:Nat)(i:Int):Option (Nat×Nat):=
 match s.r with
 |some a=>Qv a s.n z i
 |none=>none
def Rc(s:List UInt8)(i:Int):Option Int:=if 0<=i then(s[i.toNat]?).map λb=>(b.toNat:Int)else none
def Ry(n:Nat)(lo F:Option Int):Option (Nat×Nat):=
 match F with
 | some u=>
  if 0<=u/\u<=n then
   match lo with
   |some l=>if 0<=l/\l<=u then some (l.toNat,u.toNat)else none
   |none=>some (0,u.toNat)
  else none
 |none=>
  match lo with
  |some l=>if 0<=l/\l<=n then some (l.toNat,n)else none
  |none=>some (0,n)
def Zt(h:AB)(a:Nat×Nat)(n z:Nat)(lo F:Option Int):Option Sl:=
 match h.get a.1 with
 |some (.cells none _ _)=>(Ry n lo F).map λp=>⟨some (a.1,a.2+p.1*z),p.2 - p.1⟩
 |_=>none
def st(g:Gd)(h:AB)(a:Nat×Nat)(cs:List AA):Option AB:=BN g h a.1 a.2 cs
def SA(n:Nat)(g:Gd)(h:AB)(a:Nat×Nat)(cs:List AA):Option AB:=if cs.length=n then BN g h a.1 a.2 cs else none
def OC(bytes:Nat)(z:List AA)(l c:Int):Option (List AA):=if 0<=l/\l<=c/\c<=1099511627776/\bytes*c<=1099511627776 then some (CK z c.toNat)else none
def Ve(sz:Nat)(g:Gd)(h:AB)(d:Sl)(n:Nat)(x:AA):Option (Int×AB):=
 match Bv h sz (min n d.n) x with
 |some new=>
  if min n d.n=0 then some (0,h)else
  match d.r with
  |some a=>(BN g h a.1 a.2 new).map λh'=>(((min n d.n:Nat):Int),h')
  |none=>none
 |none=>none
def mx(a b:Int):Int:=if b>a then b else a
def mn(a b:Int):Int:=if b<a then b else a
def LI(ops:Array Oper)(i:Nat):Op:=
 match ops[i]? with
 |some o=>o.op
 |none=>.move (.const (.bool false))
def Fi(ops:Array Oper)(i:Nat):Option Tmp:=
 match ops[i]? with
 |some o=>o.dst
 |none=>none
def runs(ops:Array Oper)(fr:Fr)(i:Nat):Bool:=
 match ops[i]? with
 |some o=>(match A6 ops fr o with|some b=>b|none=>false)
 |none=>false
def MS(ops:Array Oper)(fr:Fr)(i:Nat):Bool:=
 match ops[i]? with
 |some o=>(match A6 ops fr o with|some b=> !b|none=>false)
 |none=>false
section
variable (P:Program) (fr:Fr)
def II:Op->Option ((Nat×Nat)×Option Nat)
 | .load t x=>
  match ev fr x,Er P t with
  | .ptr (some a),some true=>(BK P t).map (a,some ·)
  | .ptr (some a),some false=>some (a,none)
  |_,_=>none
 |_=>none
def GA:Op->Option ((Nat×Nat)×Nat×AA)
 | .store t x y=>
  match ev fr x with
  | .ptr (some a)=>(BK P t).map λn=>(a,n,ev fr y)
  |_=>none
 |_=>none
def TW(op:Op):Option AA:=
 match AX P op with
 |0=>FA P fr op
 |_=>none
def UD(op:Op)(k:Nat):Option (AA×Ay):=
 match AX P op with
 |2=>(Ii P fr op).map λx=>(x.1 k,x.2)
 |_=>none
def Tn:Op->Option ((Nat×Nat)×Nat×Nat×Int)
 | .indexAddr t x i=>
  match P.underlying t,ev fr x,ev fr i with
  |some (.array n e),.ptr (some a),.int _ i=>(BK P e).map λz=>(a,n,z,i)
  |_,_,_=>none
 |_=>none
def PE:Op->Option (Option (Nat×Nat)×Nat×Nat×Int)
 | .indexAddr t x i=>
  match P.underlying t,ev fr x,ev fr i with
  |some (.slice e),.slice r n,.int _ i=>(BK P e).map λz=>(r,n,z,i)
  |_,_,_=>none
 |_=>none
def PD:Op->Option (List UInt8×Int)
 | .index t x i=>
  match P.underlying t,ev fr x,ev fr i with
  |some .string,.str s,.int _ i=>some (s,i)
  |_,_,_=>none
 |_=>none
def PT:Op->Option (TypeId×Nat×List AA×Int×Int)
 | .makeSlice t l c=>
  match P.underlying t,ev fr l,ev fr c with
  | some (.slice e),.int _ l,.int _ c=>
   match P.info? e with
   | some i=>
    match i.zero.map NC with
    |some z=>
     match z.cells? with
     |some zc=>if zc.length=i.size/\zc.all AA.one=true then some (e,i.bytes,zc,l,c)else none
     |none=>none
    |none=>none
   |none=>none
  |_,_,_=>none
 |_=>none
def Jg:Op->Option (FuncId×List AA)
 | .call {callee:=.value x,args:=asE9,..}=>
  match ev fr x with
  | .func (.func f) first cap=>some (f,first++(asE9.toList.map (ev fr)++cap))
  |_=>none
 |_=>none
def Sp:Op->Option (TypeId×Nat×Nat×Option (Nat×Nat)×Nat×Nat×AA)
 | .call {callee:=.builtin .append,args:=asE9,argTypes:=ts}=>
  match asE9.toList.map (ev fr),ts[0]?,ts[1]? with
  | [.slice r sl,x],some st,some xt=>
   match P.underlying st,P.underlying xt,Ib x with
   |some (.slice e),some d,some n=>
    match P.info? e with
    |some i=>if En d=true/\i.size≠0/\i.zero.map (·.cells.size)=some i.size then some (e,i.size,i.bytes,r,sl,n,x)else none
    |none=>none
   |_,_,_=>none
  |_,_,_=>none
 |_=>none
def VI:Op->Option (Nat×Option (Nat×Nat)×Nat×Nat×AA)
 | .call {callee:=.builtin .copy,args:=asE9,argTypes:=ts}=>
  match asE9.toList.map (ev fr),ts[0]? with
  |[.slice r dl,x],some dt=>
   match P.underlying dt,Ib x with
   |some (.slice e),some n=>(BK P e).map λz=>(z,r,dl,n,x)
   |_,_=>none
  |_,_=>none
 |_=>none
def Pd:Op->Option (Bool×Option (Nat×Nat))
 | .binOp op t x y _=>
  match P.underlying t,ev fr x,ev fr y,op with
  |some (.pointer _),.ptr p,.ptr none,.eql=>some (true,p)
  |some (.pointer _),.ptr p,.ptr none,.neq=>some (false,p)
  |some (.slice _),.slice p _,.slice none _,.eql=>some (true,p)
  |some (.slice _),.slice p _,.slice none _,.neq=>some (false,p)
  |_,_,_,_=>none
 |_=>none
def Y4:Op->Option (List AA×Nat×Option Nat)
 | .field s x f=>
  match P.underlying s,ev fr x with
  | some (.struct fs),.agg cs=>
   match fs[f]? with
   |some fd=>
    match Er P fd.type with
    |some true=>(BK P fd.type).map λn=>(cs,fd.offset,some n)
    |some false=>some (cs,fd.offset,none)
    |none=>none
   |none=>none
  |_,_=>none
 |_=>none
def SU:Op->Option (List AA)
 | .box _ x=>
  match ev fr x with
  | .agg cs=>some cs
  |_=>none
 |_=>none
def X9:Op->Option (Option (Nat×Nat))
 | .nilCheck x=>
  match ev fr x with
  | .ptr p=>some p
  |_=>none
 |_=>none
end
end Go.Abs
