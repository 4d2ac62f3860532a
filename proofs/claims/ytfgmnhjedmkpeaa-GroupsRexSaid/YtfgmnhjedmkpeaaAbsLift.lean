/-
 A part.
-/
import Derived.Test.YtfgmnhjedmkpeaaAbsMono
import Derived.KernelRfl
set_option linter.unusedSimpArgs false
namespace Go.Abs
def Has(fr:Fr)(N:Nat)(l:List (Nat×AD)):Prop:=fr.length=N/\∀p∈l,nth fr p.1=p.2
def N6(fr:Fr)(k:Nat):List (Nat×AD)->AD
 |[]=>nth fr k
 |(i,v)::r=>bif Nat.beq i k then v else N6 fr k r
def LN(l:List (Nat×AD))(fr:Fr):Nat->Nat->Fr
 |_,0=>[]
 |s,k+1=>N6 fr s l::LN l fr (s+1) k
def Cy(N:Nat)(l:List (Nat×AD))(fr:Fr):Fr:=LN l fr 0 N
theorem MW{fr:Fr}{k:Nat}:∀{l:List (Nat×AD)},(∀p∈l,nth fr p.1=p.2)->N6 fr k l=nth fr k
 |[],_=>rfl
 |(i,v)::r,h=>by
  unfold N6;rw[GS];by_cases e:i=k
  ·rw[xf e,<-e];exact(h (i,v) (by simp)).symm
  ·rw[xd e];exact MW λp C=>h p (by simp[C])
theorem LB{fr:Fr}{l:List (Nat×AD)}(h:∀p∈l,nth fr p.1=p.2):∀(k s:Nat),s+k=fr.length->LN l fr s k=fr.drop s
 |0,s,e=>by
  have:fr.drop s=[]:=wi (by omega);rw[this];rfl
 |k+1,s,e=>by
  have D:s<fr.length:=by omega
  rw[LN,LB h k (s+1) (by omega),MW h,xI D,H0,qY,List.getElem?_eq_getElem D];rfl
theorem EB{fr:Fr}{N:Nat}{l:List (Nat×AD)}(H:Has fr N l):Cy N l fr=fr:=by
 unfold Cy;have e:0+N=fr.length:=by have:=H.1;omega
 rw[LB H.2 N 0 e,wf]
theorem Has.of_map{fr:Fr}{N:Nat}{out:List (Nat×AD)}(h1:fr.length=N)(B:out.map (λp=>nth fr p.1)=out.map (·.2)):Has fr N out:=by
 refine⟨h1,?_⟩
 induction out with
 |nil=>intro p C;cases C
 |cons q out ih=>
  simp only[List.map_cons,List.cons.injEq]at B;intro p C;cases C with
  |head=>exact B.1
  |tail _ C=>exact ih B.2 p C
theorem Has.less{fr:Fr}{N:Nat}{l:List (Nat×AD)}(H:Has fr N l)(out:List (Nat×AD))(h:∀fr,out.map (λp=>nth (Cy N l fr) p.1)=out.map (·.2)):Has fr N out:=by
 have:=h fr;rw[EB H]at this;exact Has.of_map H.1 this
theorem AI{α β:Type}{a:Option α}{k:α->Option β}{x:β}(h:a.bind k=some x):∃y,a=some y/\k y=some x:=by
 cases a with
 |none=>cases h
 |some y=>exact⟨y,rfl,h⟩
def Aj{α:Type}(b:Bool)(x y:Option α):Option α:=
 match b with
 |true=>x
 |false=>y
theorem Ay{α:Type}{b:Bool}{x y:Option α}{r:α}(h:Aj b x y=some r):(b=true/\x=some r)\/(b=false/\y=some r):=by
 cases b with
 |true=>exact .inl ⟨rfl,h⟩
 |false=>exact .inr ⟨rfl,h⟩
@[simp] theorem BL {α:Type} (x y:Option α):Aj true x y=x:=rfl
@[simp] theorem Ak {α:Type} (x y:Option α):Aj false x y=y:=rfl
def F6{α:Type}(b:Bool)(x:Option α):Option α:=
 match b with
 |true=>x
 |false=>none
theorem B0{α:Type}{b:Bool}{x:Option α}{r:α}(h:F6 b x=some r):b=true/\x=some r:=by
 cases b with
 |true=>exact⟨rfl,h⟩
 |false=>cases h
@[simp] theorem Ha {α:Type} (x:Option α):F6 true x=x:=rfl
def Fu{σ ρ:Type}(step:σ->Option (σ⊕ρ)):Nat->σ->Option ρ
 |0,_=>none
 |n+1,s=>
  match step s with
  |some (.inl s')=>Fu step n s'
  |some (.inr r)=>some r
  |none=>none
theorem Hx{σ ρ:Type}{step:σ->Option (σ⊕ρ)}:∀{n m:Nat} {s:σ} {r:ρ},n<=m->Fu step n s=some r->Fu step m s=some r
 |0,_,_,_,_,h=>by cases h
 |n+1,0,_,_,h,_=>by omega
 | n+1,m+1,s,r,hle,h=>by
  unfold Fu at h⊢;cases G:step s with
  |none=>rw[G]at h;cases h
  |some o=>
   rw[G]at h;cases o with
   |inl s'=>exact Hx (Nat.le_of_succ_le_succ hle) h
   |inr r'=>exact h
open Classical in
noncomputable def loop{σ ρ:Type}(step:σ->Option (σ⊕ρ))(s:σ):Option ρ:=
 if h:∃r n,Fu step n s=some r then some (Classical.choose h)else none
theorem Mb{σ ρ:Type}{step:σ->Option (σ⊕ρ)}{s:σ}{r:ρ}(h:loop step s=some r):∃n,Fu step n s=some r:=by
 unfold loop at h;split at h
 ·rename_i F;injection h with h;rw[<-h];exact Classical.choose_spec F
 ·cases h
theorem Mf{σ ρ:Type}{step:σ->Option (σ⊕ρ)}{s:σ}{r:ρ}{n:Nat}(h:Fu step n s=some r):loop step s=some r:=by
 have F:∃r n,Fu step n s=some r:=⟨r,n,h⟩;unfold loop;rw[dif_pos F];obtain⟨m,hm⟩:=Classical.choose_spec F;have h1:=Hx (xE n m) h;have B:=Hx (xC n m) hm;rw[h1]at B;injection B with B;rw[<-B]
theorem Jq{σ ρ:Type}{step:σ->Option (σ⊕ρ)}{s:σ}{r:ρ}(h:step s=some (.inr r)):loop step s=some r:=Mf (n:=1) (by simp[Fu,h])
theorem Mc{σ ρ:Type}{step:σ->Option (σ⊕ρ)}{s s':σ}{r:ρ}(h:step s=some (.inl s'))(hr:loop step s'=some r):loop step s=some r:=by
 obtain⟨n,hn⟩:=Mb hr;exact Mf (n:=n+1) (by simp[Fu,h,hn])
theorem OD{σ ρ:Type}{step:σ->Option (σ⊕ρ)}(inv:σ->Prop)(μ:σ->Nat)(post:ρ->Prop)
  (G:∀s,inv s->(∃s',step s=some (.inl s')/\inv s'/\μ s'<μ s)\/(∃r,step s=some (.inr r)/\post r)):∀s,inv s->∃r,loop step s=some r/\post r:=by
 have key:∀n s,μ s<n->inv s->∃r,loop step s=some r/\post r:=by
  intro n
  induction n with
  |zero=>intro s h _;omega
  | succ n ih=>
   intro s D hi;rcases G s hi with⟨s',h1,B,h3⟩|⟨r,h1,B⟩
   ·obtain⟨r,h4,h5⟩:=ih s' (by omega) B;exact⟨r,Mc h1 h4,h5⟩
   ·exact⟨r,Jq h1,B⟩
 exact λs hi=>key _ s (Nat.lt_succ_self _) hi
structure Sl where
 r:Option (Nat×Nat)
 n:Nat
abbrev Sl.v(s:Sl):AD:=.slice s.r s.n
section
variable (h:AE) (a:Nat×Nat)
def Ma:Option AD:=
 match B2 (h.get a.1) a.2 1 with
 |some [v]=>some v
 |_=>none
def Eb(n:Nat):Option (List AD):=B2 (h.get a.1) a.2 n
end
def X0(k:IntKind):AD->Option Int
 | .int k' n=>if k=k' then some n else none
 |_=>none
def X7:AD->Option Bool
 | .bool b=>some b
 |_=>none
def Xz:AD->Option (List UInt8)
 | .str s=>some s
 |_=>none
def Yg:AD->Option (Option (Nat×Nat))
 | .ptr p=>some p
 |_=>none
def XN:AD->Option Sl
 | .slice r n=>some ⟨r,n⟩
 |_=>none
theorem WC{k:IntKind}{v:AD}{n:Int}(h:X0 k v=some n):v=.int k n:=by
 unfold X0 at h;split at h
 ·split at h
  ·rename_i e;injection h with h;rw[h,e]
  ·cases h
 ·cases h
theorem WR{v:AD}{b:Bool}(h:X7 v=some b):v=.bool b:=by unfold X7 at h;split at h<;>first|(injection h with h;rw[h])|cases h
theorem WG{v:AD}{s:List UInt8}(h:Xz v=some s):v=.str s:=by unfold Xz at h;split at h<;>first|(injection h with h;rw[h])|cases h
theorem WZ{v:AD}{s:Sl}(h:XN v=some s):v=.slice s.r s.n:=by unfold XN at h;split at h<;>first|(injection h with h;rw[<-h])|cases h
section
variable (h:AE) (a:Nat×Nat)
def Ot(k:IntKind):Option Int:=(Ma h a).bind (X0 k)
def S3:Option Bool:=(Ma h a).bind X7
def Xd:Option (List UInt8):=(Ma h a).bind Xz
def Lz:Option Sl:=(Ma h a).bind XN
variable {h a}
theorem JT{k:IntKind}{n:Int}(E:Ot h a k=some n):Ma h a=some (.int k n):=by obtain⟨v,h1,B⟩:=AI E;rw[h1,WC B]
theorem NH{n:Bool}(E:S3 h a=some n):Ma h a=some (.bool n):=by obtain⟨v,h1,B⟩:=AI E;rw[h1,WR B]
theorem W6{n:List UInt8}(E:Xd h a=some n):Ma h a=some (.str n):=by obtain⟨v,h1,B⟩:=AI E;rw[h1,WG B]
theorem Im{n:Sl}(E:Lz h a=some n):Ma h a=some (.slice n.r n.n):=by obtain⟨v,h1,B⟩:=AI E;rw[h1,WZ B]
end
def SR(a:Nat×Nat)(n z:Nat)(i:Int):Option (Nat×Nat):=if 0<=i/\i<n then some (a.1,a.2+i.toNat*z)else none
def Jp(s:Sl)(z:Nat)(i:Int):Option (Nat×Nat):=
 match s.r with
 |some a=>SR a s.n z i
 |none=>none
def OF(s:List UInt8)(i:Int):Option Int:=if 0<=i then(s[i.toNat]?).map λb=>(b.toNat:Int)else none
def Qn(n:Nat)(lo hi:Option Int):Option (Nat×Nat):=
 match hi with
 | some u=>
  if 0<=u/\u<=n then
   match lo with
   |some l=>if 0<=l/\l<=u then some (l.toNat,u.toNat)else none
   |none=>some (0,u.toNat)
  else none
 |none=>
  match lo with
  |some l=>if 0<=l/\l<=n then some (l.toNat,n)else none
  |none=>some (0,n)
def YM(h:AE)(a:Nat×Nat)(n z:Nat)(lo hi:Option Int):Option Sl:=
 match h.get a.1 with
 |some (.cells none _ _)=>(Qn n lo hi).map λp=>⟨some (a.1,a.2+p.1*z),p.2 - p.1⟩
 |_=>none
def st(g:Gd)(h:AE)(a:Nat×Nat)(cs:List AD):Option AE:=By g h a.1 a.2 cs
def TS(n:Nat)(g:Gd)(h:AE)(a:Nat×Nat)(cs:List AD):Option AE:=if cs.length=n then By g h a.1 a.2 cs else none
def NG(bytes:Nat)(z:List AD)(l c:Int):Option (List AD):=if 0<=l/\l<=c/\c<=1099511627776/\bytes*c<=1099511627776 then some (Cs z c.toNat)else none
def Vz(sz:Nat)(g:Gd)(h:AE)(d:Sl)(n:Nat)(x:AD):Option (Int×AE):=
 match Ch h sz (min n d.n) x with
 |some new=>
  if min n d.n=0 then some (0,h)else
  match d.r with
  |some a=>(By g h a.1 a.2 new).map λh'=>(((min n d.n:Nat):Int),h')
  |none=>none
 |none=>none
def mx(a b:Int):Int:=if b>a then b else a
def mn(a b:Int):Int:=if b<a then b else a
def Mi(ops:Array Oper)(i:Nat):Op:=
 match ops[i]? with
 |some o=>o.op
 |none=>.move (.const (.bool false))
def Gw(ops:Array Oper)(i:Nat):Option Tmp:=
 match ops[i]? with
 |some o=>o.dst
 |none=>none
def runs(ops:Array Oper)(fr:Fr)(i:Nat):Bool:=
 match ops[i]? with
 |some o=>(match Bp ops fr o with|some b=>b|none=>false)
 |none=>false
def Ol(ops:Array Oper)(fr:Fr)(i:Nat):Bool:=
 match ops[i]? with
 |some o=>(match Bp ops fr o with|some b=> !b|none=>false)
 |none=>false
section
variable (P:Program) (fr:Fr)
def J6:Op->Option ((Nat×Nat)×Option Nat)
 | .load t x=>
  match ev fr x,Hi P t with
  | .ptr (some a),some true=>(B9 P t).map (a,some ·)
  | .ptr (some a),some false=>some (a,none)
  |_,_=>none
 |_=>none
def HW:Op->Option ((Nat×Nat)×Nat×AD)
 | .store t x y=>
  match ev fr x with
  | .ptr (some a)=>(B9 P t).map λn=>(a,n,ev fr y)
  |_=>none
 |_=>none
def Uc(op:Op):Option AD:=
 match As P op with
 |0=>Gj P fr op
 |_=>none
def VK(op:Op)(k:Nat):Option (AD×Br):=
 match As P op with
 |2=>(L1 P fr op).map λx=>(x.1 k,x.2)
 |_=>none
def UO:Op->Option ((Nat×Nat)×Nat×Nat×Int)
 | .indexAddr t x i=>
  match P.underlying t,ev fr x,ev fr i with
  |some (.array n e),.ptr (some a),.int _ i=>(B9 P e).map λz=>(a,n,z,i)
  |_,_,_=>none
 |_=>none
def RP:Op->Option (Option (Nat×Nat)×Nat×Nat×Int)
 | .indexAddr t x i=>
  match P.underlying t,ev fr x,ev fr i with
  |some (.slice e),.slice r n,.int _ i=>(B9 P e).map λz=>(r,n,z,i)
  |_,_,_=>none
 |_=>none
def Q6:Op->Option (List UInt8×Int)
 | .index t x i=>
  match P.underlying t,ev fr x,ev fr i with
  |some .string,.str s,.int _ i=>some (s,i)
  |_,_,_=>none
 |_=>none
def RI:Op->Option (TypeId×Nat×List AD×Int×Int)
 | .makeSlice t l c=>
  match P.underlying t,ev fr l,ev fr c with
  | some (.slice e),.int _ l,.int _ c=>
   match P.info? e with
   | some i=>
    match i.zero.map Pf with
    |some z=>
     match z.cells? with
     |some zc=>if zc.length=i.size/\zc.all AD.one=true then some (e,i.bytes,zc,l,c)else none
     |none=>none
    |none=>none
   |none=>none
  |_,_,_=>none
 |_=>none
def J1:Op->Option (FuncId×List AD)
 | .call {callee:=.value x,args:=asE9,..}=>
  match ev fr x with
  | .func (.func f) first cap=>some (f,first++(asE9.toList.map (ev fr)++cap))
  |_=>none
 |_=>none
def UJ:Op->Option (TypeId×Nat×Nat×Option (Nat×Nat)×Nat×Nat×AD)
 | .call {callee:=.builtin .append,args:=asE9,argTypes:=ts}=>
  match asE9.toList.map (ev fr),ts[0]?,ts[1]? with
  | [.slice r sl,x],some st,some xt=>
   match P.underlying st,P.underlying xt,LI x with
   |some (.slice e),some d,some n=>
    match P.info? e with
    |some i=>if JY d=true/\i.size≠0/\i.zero.map (·.cells.size)=some i.size then some (e,i.size,i.bytes,r,sl,n,x)else none
    |none=>none
   |_,_,_=>none
  |_,_,_=>none
 |_=>none
def WB:Op->Option (Nat×Option (Nat×Nat)×Nat×Nat×AD)
 | .call {callee:=.builtin .copy,args:=asE9,argTypes:=ts}=>
  match asE9.toList.map (ev fr),ts[0]? with
  |[.slice r dl,x],some dt=>
   match P.underlying dt,LI x with
   |some (.slice e),some n=>(B9 P e).map λz=>(z,r,dl,n,x)
   |_,_=>none
  |_,_=>none
 |_=>none
def RF:Op->Option (Bool×Option (Nat×Nat))
 | .binOp op t x y _=>
  match P.underlying t,ev fr x,ev fr y,op with
  |some (.pointer _),.ptr p,.ptr none,.eql=>some (true,p)
  |some (.pointer _),.ptr p,.ptr none,.neq=>some (false,p)
  |some (.slice _),.slice p _,.slice none _,.eql=>some (true,p)
  |some (.slice _),.slice p _,.slice none _,.neq=>some (false,p)
  |_,_,_,_=>none
 |_=>none
def X2:Op->Option (List AD×Nat×Option Nat)
 | .field s x f=>
  match P.underlying s,ev fr x with
  | some (.struct fs),.agg cs=>
   match fs[f]? with
   |some fd=>
    match Hi P fd.type with
    |some true=>(B9 P fd.type).map λn=>(cs,fd.offset,some n)
    |some false=>some (cs,fd.offset,none)
    |none=>none
   |none=>none
  |_,_=>none
 |_=>none
def Un:Op->Option (List AD)
 | .box _ x=>
  match ev fr x with
  | .agg cs=>some cs
  |_=>none
 |_=>none
def XG:Op->Option (Option (Nat×Nat))
 | .nilCheck x=>
  match ev fr x with
  | .ptr p=>some p
  |_=>none
 |_=>none
end
end Go.Abs
