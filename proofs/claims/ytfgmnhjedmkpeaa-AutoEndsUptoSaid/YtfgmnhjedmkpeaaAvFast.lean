/-
 A part.
-/
import Derived.Test.YtfgmnhjedmkpeaaAvWalk
set_option linter.unusedSimpArgs false
namespace Go.Av
set_option linter.unusedVariables false
set_option linter.unusedSimpArgs false
section
variable (P:Program)
def IJ(E:Operand->AA):Op->Option AA
 | .move x| .assign x=>some (E x)
 | .pick c a b=>
  match E c with
  | .bool b'=>some (bif b' then E a else E b)
  |_=>none
 | .build t parts=>JX P t (parts.toList.map λ(i,x)=>(i,E x))
 | .nilCheck x=>
  match E x with
  | .ptr (some r)=>some (.ptr (some r))
  | .EJ g o=>some (.EJ g o)
  | .Bu cs=>some (.Bu cs)
  | .func (.func f) a b=>some (.func (.func f) a b)
  |_=>none
 | .binOp op t x y _=>Nq P op t (PL x||PL y) (E x) (E y)
 | .unOp op _ x=>T6 op (E x)
 | .convert s d x=>LX P s d (E x)
 | .makeFunc fn first cap=>some (.func fn (first.toList.map E) (cap.toList.map E))
 | .slice t x lo V none=>Jo P t (E x) (lo.map E) (V.map E)
 | .fieldAddr s x f=>FK P s (E x) f
 | .field s x f=>Jp P s (E x) f
 | .indexAddr t x i=>DJ P t (E x) (E i)
 | .index t x i=>Hl P t (E x) (E i)
 | .extract x i=>
  match E x with
  | .tuple vs=>vs[i]?
  |_=>none
 | .call {callee:=.builtin b,args:=asE9,argTypes:=ts}=>
  match b,asE9.toList.map E with
  | .len,[x]=>M1 P ts x
  | .min,x::r=>FU false x r
  | .max,x::r=>FU true x r
  |_,_=>none
 |_=>none
def Lu(E:Operand->AA):Op->Option Nat
 | .load _ x=>CM (E x)
 | .slice _ x _ _ _=>CM (E x)
 | .convert _ _ x=>CM (E x)
 | .lookup _ x _ _=>CM (E x)
 | .call {args:=asE9,..}=>
  match asE9.toList with
  |[x]=>CM (E x)
  |_=>none
 |_=>none
def Sq(G:Nat->Option (List AA))(E:Operand->AA)(ob:Option Ay):Op->Option AA
 | .load t a=>
  match E a with
  | .ptr (some (_,o))=>DT P ob t o
  | .EJ g o=>DT P ((G g).map λcs=>.cells none 1 cs) t o
  | .Bu cs=>DT P (some (.cells none 1 cs)) t 0
  |_=>none
 | .slice t x lo V none=>I7 P ob t (E x) (lo.map E) (V.map E)
 | .convert s d x=>KM P ob s d (E x)
 | .lookup t x k ok=>Il P ob t (E x) (E k) ok
 | .call {callee:=.builtin .len,args:=asE9,argTypes:=ts}=>
  match asE9.toList with
  |[x]=>O8 P ob ts (E x)
  |_=>none
 |_=>none
def UE(E:Operand->AA):Op->Option Mc
 | .alloc e=>(Ew P e).bind Ez
 | .box _ x=>Ez (E x)
 | .buildSlice t len parts=>FE P t len (parts.toList.map λ(i,x)=>(i,E x))
 | .convert s d x=>MU P s d (E x)
 | .makeMap _ none=>some (λn=>.map (some n),.map 2 [])
 | .makeSlice t l c=>Et P t (E l) (E c)
 | .makeChan t n=>
  match P.underlying t,E n with
  |some (.chan _ e),.int _ n=>
   match P.info? e with
   |some i=>if 0<=n/\n<=1099511627776/\i.bytes*n<=1099511627776 then some (λk=>.chan (some k),.chan n.toNat [])else none
   |none=>none
  |_,_=>none
 | .range t x=>
  match P.underlying t,E x with
  |some .string,.str s=>some (λn=>.ptr (some (n,0)),.iter s 0)
  |_,_=>none
 |_=>none
def Uc(g:Gd)(h:AB)(E:Operand->AA):Op->Option (AA×AB)
 | .convert s d x=>O5 P g h s d (E x)
 | .store t a x=>
  match E a with
  | .ptr (some (id,o))=>(FL P g h t id o (E x)).map (.tuple [],·)
  |_=>none
 | .mapUpdate t m k v| .insert t m k v=>(HS P g h t (E m) (E k) (E v)).map (.tuple [],·)
 | .next it true=>
  match E it with
  | .ptr (some (id,0))=>
   match h.get id with
   | some (.iter s pos)=>
    if g.may id=true then
     if pos<s.length then
      some (.tuple [.bool true,.int .i64 pos,.int .i32 (Utf8.decode ⟨⟨s⟩⟩ pos).1],h.set id (.iter s (pos+(Utf8.decode ⟨⟨s⟩⟩ pos).2)))
     else some (.tuple [.bool false],h)
    else none
   |_=>none
  |_=>none
 | .call {callee:=.builtin b,args:=asE9,argTypes:=ts}=>
  match b,asE9.toList.map E with
  | .append,[s,x]=>GM P g h ts s x
  | .copy,[d,x]=>J3 P g h ts d x
  | .delete,[m,k]=>(Fj P g h ts m k).map (.tuple [],·)
  |_,_=>none
 |_=>none
def Nk(G:Nat->Option (List AA))(g:Gd)(h:AB)(E:Operand->AA)(op:Op):Option (AA×AB):=
 match AX P op with
 |0=>(IJ P E op).map (·,h)
 | 1=>
  match Lu E op with
  |none=>(Sq P G E none op).map (·,h)
  |some id=>
   match h.get id with
   |some ob=>(Sq P G E (some ob) op).map (·,h)
   |none=>none
 |2=>(UE P E op).map λx=>(x.1 h.size,h.push x.2)
 |_=>Uc P g h E op
end
def SI(P:Program)(g:Gd)(h:AB)(E:Operand->AA):Op->Option (AA×AB)
 | .select cases blocking=>
  match cases.toList,blocking with
  | [c],false=>
   match Ew P c.elem with
   | some z=>
    match E c.chan with
    | .chan (some id)=>
     match h.get id with
     | some (.chan cap buf)=>
      match c.send with
      |some x=>
       bif Nat.ble cap buf.length then some (.tuple [.int .i64 (-1),.bool false],h)
       else bif g.may id then some (.tuple [.int .i64 0,.bool false],h.set id (.chan cap (buf++[E x])))
       else none
      |none=>
       match buf with
       |v::rest=>bif g.may id then some (.tuple [.int .i64 0,.bool true,v],h.set id (.chan cap rest))else none
       |[]=>some (.tuple [.int .i64 (-1),.bool false,z],h)
     |_=>none
    |_=>none
   |none=>none
  |_,_=>none
 |_=>none
section
variable (C:Eu)
def LZ(call:Gd->AB->FuncId->List AA->Option (AA×AB))(g:Gd)(h:AB)(E:Operand->AA)(op:Op):Option (AA×AB):=
 match op with
 | .call {callee:=.value x,args:=asE9,..}=>
  match E x with
  | .func (.func f) first cap=>call g h f (first++(asE9.toList.map E++cap))
  |_=>none
 |op=>Nk C.P C.B6 g h E op
def RH(ops:Array Oper)(E:Operand->AA)(o:Oper):Option Bool:=
 match o.guard with
 |none=>some true
 | some (j,want)=>
  match(ops[j]?).bind (·.dst)with
  |none=>some false
  |some d=>
   match E (.tmp d)with
   | .bool b=>some (b==want)
   | .undef=>none
   |_=>some false
def La(P:Program)(h:AB)(E:Operand->AA)(i:Nat)(op:Op)(tch:List (Nat×Nat)):List (Nat×Nat):=
 match AX P op with
 |1=>match Lu E op with|some id=>(i,id)::tch|none=>tch
 |2=>(i,h.size)::tch
 |_=>tch
def Qa(ops:Array Oper)(N:Nat)(E:Operand->AA)(h:AB)(i:Nat):Bool:=
 match ops[i]? with
 | some o=>
  match RH ops E o with
  |some false=>true
  | some true=>
   match o.dst,Lu E o.op with
   | some d,some id=>
    Nat.blt d N&&(match h.get id with
     |some ob=>(match Sq C.P C.B6 E (some ob) o.op with|some v=>NA v (E (.tmp d))|none=>false)
     |none=>false)
   |_,_=>false
  |none=>false
 |none=>false
def TV(ops:Array Oper)(U:List Nat)(N:Nat)(E:Operand->AA)(h:AB):Bool:=U.all λu=>Nat.blt u 10000||Qa C ops N E h (u - 10000)
end
noncomputable section
abbrev OV:=Option (AA×AB)
def Oz(n:Nat)(k:Nat->OV):OV:=Nat.rec (k 0) (λm _=>k (m+1)) n
theorem G9(n:Nat)(k:Nat->OV):Oz n k=k n:=by cases n<;>rfl
def XL(n:Int)(k:Int->OV):OV:=Int.rec (λm=>Oz m λm=>k (.ofNat m)) (λm=>Oz m λm=>k (.negSucc m)) n
theorem NB(n:Int)(k:Int->OV):XL n k=k n:=by
 cases n
 ·rename_i m;exact G9 m λm=>k (.ofNat m)
 ·rename_i m;exact G9 m λm=>k (.negSucc m)
inductive FV where
 |i (k:IntKind) (n:Int)
 |b (x:Bool)
 |p (id o:Nat)
 |o (v:AA)
def FV.GO:FV->AA
 | .i k n=>.int k n
 | .b x=>.bool x
 | .p id q=>.ptr (some (id,q))
 | .o v=>v
def aa(r:Option (Nat×Nat))(k:FV->OV):OV:=match r with|some (a,b)=>Oz a λa=>Oz b λb=>k (.p a b)|none=>k (.o (.ptr none))
def WI(v:AA)(k:FV->OV):OV:=
 match v with
 | .int kd n=>XL n λn=>k (.i kd n)
 | .bool b=>Bool.rec (k (.b false)) (k (.b true)) b
 | .ptr r=>aa r k
 |v=>k (.o v)
theorem MG{v:AA}{k:FV->OV}{r:AA×AB}(h:WI v k=some r):∃x:FV,x.GO=v/\k x=some r:=by
 cases v with
 |int kd n=>exact⟨.i kd n,rfl,(NB n λn=>k (.i kd n)).symm.trans h⟩
 |bool b=>cases b<;>exact⟨.b _,rfl,h⟩
 | ptr q=>
  rcases q with _|⟨a,b⟩
  ·exact⟨.o (.ptr none),rfl,h⟩
  ·refine⟨.p a b,rfl,?_⟩;rw[<-h];show _=Oz a λa=>Oz b λb=>k (.p a b);rw[G9,G9]
 |_=>exact⟨.o _,rfl,h⟩
def T7(v:FV)(k:FV->OV):OV:=FV.rec (λkd n=>k (.i kd n)) (λb=>k (.b b)) (λid o=>k (.p id o)) (λv=>k (.o v)) v
theorem MB(v:FV)(k:FV->OV):T7 v k=k v:=by cases v<;>rfl
def Xi(t:Tr Ay)(k:Tr Ay->OV):OV:=Tr.rec (k .leaf) (λl v r _ _=>k (.node l v r)) t
theorem SS(t:Tr Ay)(k:Tr Ay->OV):Xi t k=k t:=by cases t<;>rfl
def Z9(h:AB)(k:AB->OV):OV:=AB.rec (λn t=>Oz n λn=>Xi t λt=>k ⟨n,t⟩) h
theorem Ww(h:AB)(k:AB->OV):Z9 h k=k h:=by
 rcases h with⟨n,t⟩;show(Oz n λn=>Xi t λt=>k ⟨n,t⟩)=_;rw[G9,SS]
def YQ(t:Tr Ay)(i:Nat):Option Ay:=Tr.rec (motive:=λ_=>Nat->Option Ay) (λ_=>none) (λ_ v _ l r i=>Bool.rec (Bool.rec (r (i / 2 - 1)) (l (i / 2)) (Nat.beq (i%2) 1)) v (Nat.beq i 0)) t i
theorem QB:∀(t:Tr Ay) (i:Nat),YQ t i=t.get i
 | .leaf,_=>rfl
 | .node l v r,i=>by
  rw[Tr.get];show(Bool.rec (Bool.rec (YQ r (i / 2 - 1)) (YQ l (i / 2)) (Nat.beq (i%2) 1)) v (Nat.beq i 0):Option Ay)=_;rw[QB l,QB r];cases Nat.beq i 0
  ·cases Nat.beq (i%2) 1<;>rfl
  ·rfl
def Ia(h:AB)(i:Nat):Option Ay:=AB.rec (λn t=>Bool.rec none (YQ t i) (Nat.blt i n)) h
theorem OW(h:AB)(i:Nat):Ia h i=h.get i:=by
 rcases h with⟨n,t⟩;show(Bool.rec none (YQ t i) (Nat.blt i n):Option Ay)=bif Nat.blt i n then t.get i else none
 rw[QB];cases Nat.blt i n<;>rfl
def kn:IntKind->Nat
 | .i8=>0| .i16=>1| .i32=>2| .i64=>3| .u8=>4| .u16=>5| .u32=>6| .u64=>7
theorem YA(k k':IntKind):Nat.beq (kn k) (kn k')=decide (k=k'):=by cases k<;>cases k'<;>rfl
structure BW where f:Int->Int
def af(k:IntKind)(lim m:Nat):Int:=Bool.rec (k.wrap (.ofNat m)) (.ofNat m) (Nat.blt m lim)
def Px(k:IntKind):BW:=⟨λn=>Int.rec (λm=>af k (2^(k.bits - 1)) m) (λm=>k.wrap (.negSucc m)) n⟩
theorem K0(k:IntKind)(n:Int):(Px k).f n=k.wrap n:=by
 cases n with
 |negSucc m=>rfl
 | ofNat m=>
  show(Bool.rec (k.wrap (.ofNat m)) (Int.ofNat m) (Nat.blt m (2^(k.bits - 1))):Int)=_;cases O:Nat.blt m (2^(k.bits - 1))with
  |false=>rfl
  | true=>
   rw[yc]at O;have e:((m:Nat):Int)%(2^k.bits:Int)=m:=by
    refine Int.emod_eq_of_lt (yw _) ?_;have:(2:Nat)^(k.bits - 1)<2^k.bits:=Nat.pow_lt_pow_right (by omega) (by cases k<;>decide)
    exact_mod_cast Nat.lt_trans O this
   show Int.ofNat m=k.wrap (Int.ofNat m);unfold IntKind.wrap;simp only[Int.ofNat_eq_natCast,e];have D:¬((m:Int)>=(2^(k.bits - 1):Int)):=by
    have:((m:Nat):Int)<((2^(k.bits - 1):Nat):Int):=by exact_mod_cast O
    rw[Int.natCast_pow]at this;simpa using this
   rw[zX D,Bool.and_false];rfl
def Vx{α:Type}(f:Nat->Nat->α)(s:α)(a b:Int):α:=Int.rec (λx=>Int.rec (λy=>f x y) (λ_=>s) b) (λ_=>s) a
theorem MD{α:Type}{f:Nat->Nat->α}{s:α}{a b:Int}(h:∀x y:Nat,a=x->b=y->f x y=s):Vx f s a b=s:=by
 cases a
 ·cases b
  ·exact h _ _ rfl rfl
  ·rfl
 ·rfl
def YS(a b:Int):Int:=Vx (λx y=>.ofNat (Nat.add x y)) (a+b) a b
theorem UX(a b:Int):YS a b=a+b:=MD λx y e1 e2=>by subst e1 e2;rfl
def Wh(a b:Int):Bool:=Vx (λx y=>Nat.ble x y) (decide (a<=b)) a b
theorem MI(a b:Int):Wh a b=decide (a<=b):=MD λx y e1 e2=>by
 subst e1 e2;rw[yM,zq,Nat.ble_eq];omega
def ZQ(a b:Int):Bool:=Vx (λx y=>Nat.beq x y) (a==b) a b
theorem TT(a b:Int):ZQ a b=(a==b):=MD λx y e1 e2=>by
 subst e1 e2;rw[yM,z3,qL];omega
def Vz(k:IntKind)(a b:Int):Int:=(BitVec.ofInt k.bits a &&& BitVec.ofInt k.bits b).toNat
def Yb(k:IntKind)(a b:Int):Int:=Vx (λx y=>.ofNat (Nat.mod (Nat.land x y) (2^k.bits))) (Vz k a b) a b
theorem UU(k:IntKind)(a b:Int):Yb k a b=Vz k a b:=MD λx y e1 e2=>by
 subst e1 e2;unfold Vz;rw[BitVec.toNat_and];simp only[BitVec.ofInt_natCast,BitVec.toNat_ofNat];show((Nat.land x y%2^k.bits:Nat):Int)=_;rw[show Nat.land x y=x &&& y from rfl,Nat.and_mod_two_pow]
def ZE(k:IntKind)(a b:Int):Int:=(BitVec.ofInt k.bits a ||| BitVec.ofInt k.bits b).toNat
def aJ(k:IntKind)(a b:Int):Int:=Vx (λx y=>.ofNat (Nat.mod (Nat.lor x y) (2^k.bits))) (ZE k a b) a b
theorem Vy(k:IntKind)(a b:Int):aJ k a b=ZE k a b:=MD λx y e1 e2=>by
 subst e1 e2;unfold ZE;rw[BitVec.toNat_or];simp only[BitVec.ofInt_natCast,BitVec.toNat_ofNat];show((Nat.lor x y%2^k.bits:Nat):Int)=_;rw[show Nat.lor x y=x ||| y from rfl,Nat.or_mod_two_pow]
def XP(k:IntKind)(a b:Int):Int:=Vx (λx y=>.ofNat (Nat.div x (2^min y k.bits))) (a.fdiv (2^(min b.toNat k.bits))) a b
theorem UW(k:IntKind)(a b:Int):XP k a b=a.fdiv (2^(min b.toNat k.bits)):=MD λx y e1 e2=>by
 subst e1 e2;show((x / 2^min y k.bits:Nat):Int)=_;rw[zu];have:((2:Int)^min y k.bits)=((2^min y k.bits:Nat):Int):=by rw[Int.natCast_pow];rfl
 rw[this,qM _ (yw _)];rfl
structure BI where f:Int->Int->(FV->AB->OV)->AB->OV
def nI(k:IntKind)(f:Int->Int->Int):BI:=⟨λa b c h=>XL (f a b) λn=>c (.i k n) h⟩
def bI(f:Int->Int->Bool):BI:=⟨λa b c h=>Bool.rec (c (.b false) h) (c (.b true) h) (f a b)⟩
def iB(o:BinOp)(k:IntKind):Option BI:=
 match o with
 | .add=>some (nI k λa b=>(Px k).f (YS a b))
 | .sub=>some (nI k λa b=>(Px k).f (a - b))
 | .mul=>some (nI k λa b=>(Px k).f (a*b))
 | .and=>some (nI k λa b=>(Px k).f (Yb k a b))
 | .or=>some (nI k λa b=>(Px k).f (aJ k a b))
 | .eql=>some (bI λa b=>ZQ a b)
 | .neq=>some (bI λa b=> !(ZQ a b))
 | .lss=>some (bI λa b=> !(Wh b a))
 | .leq=>some (bI λa b=>Wh a b)
 | .gtr=>some (bI λa b=> !(Wh a b))
 | .geq=>some (bI λa b=>Wh b a)
 |_=>none
theorem Yl{o:BinOp}{k:IntKind}{f:BI}(h:iB o k=some f){a b:Int}{c:FV->AB->OV}{hp:AB}{r:AA×AB}(B:f.f a b c hp=some r):
  o≠.shl/\o≠.shr/\∃x:FV,GS o k a b=some x.GO/\c x hp=some r:=by
 have nok:∀{g:Int->Int->Int} {n:Int},(nI k g).f a b c hp=some r->g a b=n->∃x:FV,some (AA.int k n)=some x.GO/\c x hp=some r:=λ{g n} h1 D=>
  ⟨.i k n,rfl,by rw[<-h1,<-D];exact(NB (g a b) λn=>c (.i k n) hp).symm⟩
 have bok:∀{g:Int->Int->Bool} {n:Bool},(bI g).f a b c hp=some r->g a b=n->∃x:FV,some (AA.bool n)=some x.GO/\c x hp=some r:=λ{g n} h1 D=>by
  refine⟨.b n,rfl,?_⟩;have h1:Bool.rec (c (.b false) hp) (c (.b true) hp) (g a b)=some r:=h1;rw[D]at h1;cases n<;>exact h1
 cases o<;>simp only[iB,za,reduceCtorEq]at h<;>subst h<;>refine⟨by simp,by simp,?_⟩<;>simp only[GS]
 ·exact nok B (by rw[K0,UX])
 ·exact nok B (K0 _ _)
 ·exact nok B (K0 _ _)
 ·exact nok B (by rw[K0,UU];rfl)
 ·exact nok B (by rw[K0,Vy];rfl)
 ·exact bok B (TT _ _)
 ·exact bok B (by rw[TT];rfl)
 ·exact bok B (by rw[MI];simp[<-decide_not])
 ·exact bok B (MI _ _)
 ·exact bok B (by rw[MI];simp[<-decide_not])
 ·exact bok B (MI _ _)
inductive Bh where
 |mk (a0 a1 a2 a3 a4 a5 a6 a7 a8 a9 a10 a11 a12 a13 a14 a15:FV)
def Bh.all(x:FV):Bh:=.mk x x x x x x x x x x x x x x x x
def Bh.s0(q:Bh):FV:=Bh.rec (λa0 a1 a2 a3 a4 a5 a6 a7 a8 a9 a10 a11 a12 a13 a14 a15=>a0) q
def Bh.u0(q:Bh)(x:FV):Bh:=Bh.rec (λa0 a1 a2 a3 a4 a5 a6 a7 a8 a9 a10 a11 a12 a13 a14 a15=>.mk x a1 a2 a3 a4 a5 a6 a7 a8 a9 a10 a11 a12 a13 a14 a15) q
def Bh.s1(q:Bh):FV:=Bh.rec (λa0 a1 a2 a3 a4 a5 a6 a7 a8 a9 a10 a11 a12 a13 a14 a15=>a1) q
def Bh.u1(q:Bh)(x:FV):Bh:=Bh.rec (λa0 a1 a2 a3 a4 a5 a6 a7 a8 a9 a10 a11 a12 a13 a14 a15=>.mk a0 x a2 a3 a4 a5 a6 a7 a8 a9 a10 a11 a12 a13 a14 a15) q
def Bh.s2(q:Bh):FV:=Bh.rec (λa0 a1 a2 a3 a4 a5 a6 a7 a8 a9 a10 a11 a12 a13 a14 a15=>a2) q
def Bh.u2(q:Bh)(x:FV):Bh:=Bh.rec (λa0 a1 a2 a3 a4 a5 a6 a7 a8 a9 a10 a11 a12 a13 a14 a15=>.mk a0 a1 x a3 a4 a5 a6 a7 a8 a9 a10 a11 a12 a13 a14 a15) q
def Bh.s3(q:Bh):FV:=Bh.rec (λa0 a1 a2 a3 a4 a5 a6 a7 a8 a9 a10 a11 a12 a13 a14 a15=>a3) q
def Bh.u3(q:Bh)(x:FV):Bh:=Bh.rec (λa0 a1 a2 a3 a4 a5 a6 a7 a8 a9 a10 a11 a12 a13 a14 a15=>.mk a0 a1 a2 x a4 a5 a6 a7 a8 a9 a10 a11 a12 a13 a14 a15) q
def Bh.s4(q:Bh):FV:=Bh.rec (λa0 a1 a2 a3 a4 a5 a6 a7 a8 a9 a10 a11 a12 a13 a14 a15=>a4) q
def Bh.u4(q:Bh)(x:FV):Bh:=Bh.rec (λa0 a1 a2 a3 a4 a5 a6 a7 a8 a9 a10 a11 a12 a13 a14 a15=>.mk a0 a1 a2 a3 x a5 a6 a7 a8 a9 a10 a11 a12 a13 a14 a15) q
def Bh.s5(q:Bh):FV:=Bh.rec (λa0 a1 a2 a3 a4 a5 a6 a7 a8 a9 a10 a11 a12 a13 a14 a15=>a5) q
def Bh.u5(q:Bh)(x:FV):Bh:=Bh.rec (λa0 a1 a2 a3 a4 a5 a6 a7 a8 a9 a10 a11 a12 a13 a14 a15=>.mk a0 a1 a2 a3 a4 x a6 a7 a8 a9 a10 a11 a12 a13 a14 a15) q
def Bh.s6(q:Bh):FV:=Bh.rec (λa0 a1 a2 a3 a4 a5 a6 a7 a8 a9 a10 a11 a12 a13 a14 a15=>a6) q
def Bh.u6(q:Bh)(x:FV):Bh:=Bh.rec (λa0 a1 a2 a3 a4 a5 a6 a7 a8 a9 a10 a11 a12 a13 a14 a15=>.mk a0 a1 a2 a3 a4 a5 x a7 a8 a9 a10 a11 a12 a13 a14 a15) q
def Bh.s7(q:Bh):FV:=Bh.rec (λa0 a1 a2 a3 a4 a5 a6 a7 a8 a9 a10 a11 a12 a13 a14 a15=>a7) q
def Bh.u7(q:Bh)(x:FV):Bh:=Bh.rec (λa0 a1 a2 a3 a4 a5 a6 a7 a8 a9 a10 a11 a12 a13 a14 a15=>.mk a0 a1 a2 a3 a4 a5 a6 x a8 a9 a10 a11 a12 a13 a14 a15) q
def Bh.s8(q:Bh):FV:=Bh.rec (λa0 a1 a2 a3 a4 a5 a6 a7 a8 a9 a10 a11 a12 a13 a14 a15=>a8) q
def Bh.u8(q:Bh)(x:FV):Bh:=Bh.rec (λa0 a1 a2 a3 a4 a5 a6 a7 a8 a9 a10 a11 a12 a13 a14 a15=>.mk a0 a1 a2 a3 a4 a5 a6 a7 x a9 a10 a11 a12 a13 a14 a15) q
def Bh.s9(q:Bh):FV:=Bh.rec (λa0 a1 a2 a3 a4 a5 a6 a7 a8 a9 a10 a11 a12 a13 a14 a15=>a9) q
def Bh.u9(q:Bh)(x:FV):Bh:=Bh.rec (λa0 a1 a2 a3 a4 a5 a6 a7 a8 a9 a10 a11 a12 a13 a14 a15=>.mk a0 a1 a2 a3 a4 a5 a6 a7 a8 x a10 a11 a12 a13 a14 a15) q
def Bh.Zg(q:Bh):FV:=Bh.rec (λa0 a1 a2 a3 a4 a5 a6 a7 a8 a9 a10 a11 a12 a13 a14 a15=>a10) q
def Bh.Zd(q:Bh)(x:FV):Bh:=Bh.rec (λa0 a1 a2 a3 a4 a5 a6 a7 a8 a9 a10 a11 a12 a13 a14 a15=>.mk a0 a1 a2 a3 a4 a5 a6 a7 a8 a9 x a11 a12 a13 a14 a15) q
def Bh.Z0(q:Bh):FV:=Bh.rec (λa0 a1 a2 a3 a4 a5 a6 a7 a8 a9 a10 a11 a12 a13 a14 a15=>a11) q
def Bh.Zf(q:Bh)(x:FV):Bh:=Bh.rec (λa0 a1 a2 a3 a4 a5 a6 a7 a8 a9 a10 a11 a12 a13 a14 a15=>.mk a0 a1 a2 a3 a4 a5 a6 a7 a8 a9 a10 x a12 a13 a14 a15) q
def Bh.Zp(q:Bh):FV:=Bh.rec (λa0 a1 a2 a3 a4 a5 a6 a7 a8 a9 a10 a11 a12 a13 a14 a15=>a12) q
def Bh.Zm(q:Bh)(x:FV):Bh:=Bh.rec (λa0 a1 a2 a3 a4 a5 a6 a7 a8 a9 a10 a11 a12 a13 a14 a15=>.mk a0 a1 a2 a3 a4 a5 a6 a7 a8 a9 a10 a11 x a13 a14 a15) q
def Bh.Zz(q:Bh):FV:=Bh.rec (λa0 a1 a2 a3 a4 a5 a6 a7 a8 a9 a10 a11 a12 a13 a14 a15=>a13) q
def Bh.Zj(q:Bh)(x:FV):Bh:=Bh.rec (λa0 a1 a2 a3 a4 a5 a6 a7 a8 a9 a10 a11 a12 a13 a14 a15=>.mk a0 a1 a2 a3 a4 a5 a6 a7 a8 a9 a10 a11 a12 x a14 a15) q
def Bh.Zs(q:Bh):FV:=Bh.rec (λa0 a1 a2 a3 a4 a5 a6 a7 a8 a9 a10 a11 a12 a13 a14 a15=>a14) q
def Bh.ZD(q:Bh)(x:FV):Bh:=Bh.rec (λa0 a1 a2 a3 a4 a5 a6 a7 a8 a9 a10 a11 a12 a13 a14 a15=>.mk a0 a1 a2 a3 a4 a5 a6 a7 a8 a9 a10 a11 a12 a13 x a15) q
def Bh.Zy(q:Bh):FV:=Bh.rec (λa0 a1 a2 a3 a4 a5 a6 a7 a8 a9 a10 a11 a12 a13 a14 a15=>a15) q
def Bh.Y8(q:Bh)(x:FV):Bh:=Bh.rec (λa0 a1 a2 a3 a4 a5 a6 a7 a8 a9 a10 a11 a12 a13 a14 a15=>.mk a0 a1 a2 a3 a4 a5 a6 a7 a8 a9 a10 a11 a12 a13 a14 x) q
structure YR where
 s:Bh->FV
 u:Bh->FV->Bh
def qb(i:Nat):YR:=
 match i with
 |0=>⟨Bh.s0,Bh.u0⟩
 |1=>⟨Bh.s1,Bh.u1⟩
 |2=>⟨Bh.s2,Bh.u2⟩
 |3=>⟨Bh.s3,Bh.u3⟩
 |4=>⟨Bh.s4,Bh.u4⟩
 |5=>⟨Bh.s5,Bh.u5⟩
 |6=>⟨Bh.s6,Bh.u6⟩
 |7=>⟨Bh.s7,Bh.u7⟩
 |8=>⟨Bh.s8,Bh.u8⟩
 |9=>⟨Bh.s9,Bh.u9⟩
 |10=>⟨Bh.Zg,Bh.Zd⟩
 |11=>⟨Bh.Z0,Bh.Zf⟩
 |12=>⟨Bh.Zp,Bh.Zm⟩
 |13=>⟨Bh.Zz,Bh.Zj⟩
 |14=>⟨Bh.Zs,Bh.ZD⟩
 |_=>⟨Bh.Zy,Bh.Y8⟩
def Bh.Ts(q:Bh):List FV:=Bh.rec (λa0 a1 a2 a3 a4 a5 a6 a7 a8 a9 a10 a11 a12 a13 a14 a15=>[a0,a1,a2,a3,a4,a5,a6,a7,a8,a9,a10,a11,a12,a13,a14,a15]) q
theorem Bh.W3(q:Bh):∀i,i<16->(qb i).s q::[]=(q.Ts.drop i).take 1
 |0,_=>by cases q;rfl
 |1,_=>by cases q;rfl
 |2,_=>by cases q;rfl
 |3,_=>by cases q;rfl
 |4,_=>by cases q;rfl
 |5,_=>by cases q;rfl
 |6,_=>by cases q;rfl
 |7,_=>by cases q;rfl
 |8,_=>by cases q;rfl
 |9,_=>by cases q;rfl
 |10,_=>by cases q;rfl
 |11,_=>by cases q;rfl
 |12,_=>by cases q;rfl
 |13,_=>by cases q;rfl
 |14,_=>by cases q;rfl
 |15,_=>by cases q;rfl
 |k+16,h=>absurd h (by omega)
theorem Bh.Wt(q:Bh)(x:FV):∀i,i<16->((qb i).u q x).Ts=q.Ts.set i x
 |0,_=>by cases q;rfl
 |1,_=>by cases q;rfl
 |2,_=>by cases q;rfl
 |3,_=>by cases q;rfl
 |4,_=>by cases q;rfl
 |5,_=>by cases q;rfl
 |6,_=>by cases q;rfl
 |7,_=>by cases q;rfl
 |8,_=>by cases q;rfl
 |9,_=>by cases q;rfl
 |10,_=>by cases q;rfl
 |11,_=>by cases q;rfl
 |12,_=>by cases q;rfl
 |13,_=>by cases q;rfl
 |14,_=>by cases q;rfl
 |15,_=>by cases q;rfl
 |k+16,h=>absurd h (by omega)
theorem Bh.len(q:Bh):q.Ts.length=16:=by cases q;rfl
theorem Bh.get(q:Bh)(i:Nat)(h:i<16):q.Ts[i]?=some ((qb i).s q):=by
 have e:=congrArg (·[0]?) (Bh.W3 q i h);simp only[List.getElem?_take,List.getElem?_drop,Nat.lt_one_iff,if_true,yO,List.getElem?_cons_zero]at e;exact e.symm
theorem Bh.su(q:Bh)(x:FV)(i j:Nat)(V:i<16)(hj:j<16):(qb j).s ((qb i).u q x)=if i=j then x else(qb j).s q:=by
 have e:=Bh.get ((qb i).u q x) j hj;rw[Bh.Wt q x i V,List.getElem?_set,Bh.len]at e;by_cases h:i=j
 ·subst h;simp only[if_true,V]at e;rw[zk rfl];exact(zK e).symm
 ·rw[zh h]at e;rw[zh h];rw[Bh.get q j hj]at e;exact(zK e).symm
theorem Bh.Vt(x:FV):∀i,(qb i).s (Bh.all x)=x
 |0=>rfl
 |1=>rfl
 |2=>rfl
 |3=>rfl
 |4=>rfl
 |5=>rfl
 |6=>rfl
 |7=>rfl
 |8=>rfl
 |9=>rfl
 |10=>rfl
 |11=>rfl
 |12=>rfl
 |13=>rfl
 |14=>rfl
 |k+15=>rfl
inductive FT where
 |mk (a0 a1 a2 a3 a4 a5 a6 a7 a8 a9 a10 a11 a12 a13 a14 a15:Bh)
def FT.all(x:Bh):FT:=.mk x x x x x x x x x x x x x x x x
def FT.s0(q:FT):Bh:=FT.rec (λa0 a1 a2 a3 a4 a5 a6 a7 a8 a9 a10 a11 a12 a13 a14 a15=>a0) q
def FT.u0(q:FT)(x:Bh):FT:=FT.rec (λa0 a1 a2 a3 a4 a5 a6 a7 a8 a9 a10 a11 a12 a13 a14 a15=>.mk x a1 a2 a3 a4 a5 a6 a7 a8 a9 a10 a11 a12 a13 a14 a15) q
def FT.s1(q:FT):Bh:=FT.rec (λa0 a1 a2 a3 a4 a5 a6 a7 a8 a9 a10 a11 a12 a13 a14 a15=>a1) q
def FT.u1(q:FT)(x:Bh):FT:=FT.rec (λa0 a1 a2 a3 a4 a5 a6 a7 a8 a9 a10 a11 a12 a13 a14 a15=>.mk a0 x a2 a3 a4 a5 a6 a7 a8 a9 a10 a11 a12 a13 a14 a15) q
def FT.s2(q:FT):Bh:=FT.rec (λa0 a1 a2 a3 a4 a5 a6 a7 a8 a9 a10 a11 a12 a13 a14 a15=>a2) q
def FT.u2(q:FT)(x:Bh):FT:=FT.rec (λa0 a1 a2 a3 a4 a5 a6 a7 a8 a9 a10 a11 a12 a13 a14 a15=>.mk a0 a1 x a3 a4 a5 a6 a7 a8 a9 a10 a11 a12 a13 a14 a15) q
def FT.s3(q:FT):Bh:=FT.rec (λa0 a1 a2 a3 a4 a5 a6 a7 a8 a9 a10 a11 a12 a13 a14 a15=>a3) q
def FT.u3(q:FT)(x:Bh):FT:=FT.rec (λa0 a1 a2 a3 a4 a5 a6 a7 a8 a9 a10 a11 a12 a13 a14 a15=>.mk a0 a1 a2 x a4 a5 a6 a7 a8 a9 a10 a11 a12 a13 a14 a15) q
def FT.s4(q:FT):Bh:=FT.rec (λa0 a1 a2 a3 a4 a5 a6 a7 a8 a9 a10 a11 a12 a13 a14 a15=>a4) q
def FT.u4(q:FT)(x:Bh):FT:=FT.rec (λa0 a1 a2 a3 a4 a5 a6 a7 a8 a9 a10 a11 a12 a13 a14 a15=>.mk a0 a1 a2 a3 x a5 a6 a7 a8 a9 a10 a11 a12 a13 a14 a15) q
def FT.s5(q:FT):Bh:=FT.rec (λa0 a1 a2 a3 a4 a5 a6 a7 a8 a9 a10 a11 a12 a13 a14 a15=>a5) q
def FT.u5(q:FT)(x:Bh):FT:=FT.rec (λa0 a1 a2 a3 a4 a5 a6 a7 a8 a9 a10 a11 a12 a13 a14 a15=>.mk a0 a1 a2 a3 a4 x a6 a7 a8 a9 a10 a11 a12 a13 a14 a15) q
def FT.s6(q:FT):Bh:=FT.rec (λa0 a1 a2 a3 a4 a5 a6 a7 a8 a9 a10 a11 a12 a13 a14 a15=>a6) q
def FT.u6(q:FT)(x:Bh):FT:=FT.rec (λa0 a1 a2 a3 a4 a5 a6 a7 a8 a9 a10 a11 a12 a13 a14 a15=>.mk a0 a1 a2 a3 a4 a5 x a7 a8 a9 a10 a11 a12 a13 a14 a15) q
def FT.s7(q:FT):Bh:=FT.rec (λa0 a1 a2 a3 a4 a5 a6 a7 a8 a9 a10 a11 a12 a13 a14 a15=>a7) q
def FT.u7(q:FT)(x:Bh):FT:=FT.rec (λa0 a1 a2 a3 a4 a5 a6 a7 a8 a9 a10 a11 a12 a13 a14 a15=>.mk a0 a1 a2 a3 a4 a5 a6 x a8 a9 a10 a11 a12 a13 a14 a15) q
def FT.s8(q:FT):Bh:=FT.rec (λa0 a1 a2 a3 a4 a5 a6 a7 a8 a9 a10 a11 a12 a13 a14 a15=>a8) q
def FT.u8(q:FT)(x:Bh):FT:=FT.rec (λa0 a1 a2 a3 a4 a5 a6 a7 a8 a9 a10 a11 a12 a13 a14 a15=>.mk a0 a1 a2 a3 a4 a5 a6 a7 x a9 a10 a11 a12 a13 a14 a15) q
def FT.s9(q:FT):Bh:=FT.rec (λa0 a1 a2 a3 a4 a5 a6 a7 a8 a9 a10 a11 a12 a13 a14 a15=>a9) q
def FT.u9(q:FT)(x:Bh):FT:=FT.rec (λa0 a1 a2 a3 a4 a5 a6 a7 a8 a9 a10 a11 a12 a13 a14 a15=>.mk a0 a1 a2 a3 a4 a5 a6 a7 a8 x a10 a11 a12 a13 a14 a15) q
def FT.Zg(q:FT):Bh:=FT.rec (λa0 a1 a2 a3 a4 a5 a6 a7 a8 a9 a10 a11 a12 a13 a14 a15=>a10) q
def FT.Zd(q:FT)(x:Bh):FT:=FT.rec (λa0 a1 a2 a3 a4 a5 a6 a7 a8 a9 a10 a11 a12 a13 a14 a15=>.mk a0 a1 a2 a3 a4 a5 a6 a7 a8 a9 x a11 a12 a13 a14 a15) q
def FT.Z0(q:FT):Bh:=FT.rec (λa0 a1 a2 a3 a4 a5 a6 a7 a8 a9 a10 a11 a12 a13 a14 a15=>a11) q
def FT.Zf(q:FT)(x:Bh):FT:=FT.rec (λa0 a1 a2 a3 a4 a5 a6 a7 a8 a9 a10 a11 a12 a13 a14 a15=>.mk a0 a1 a2 a3 a4 a5 a6 a7 a8 a9 a10 x a12 a13 a14 a15) q
def FT.Zp(q:FT):Bh:=FT.rec (λa0 a1 a2 a3 a4 a5 a6 a7 a8 a9 a10 a11 a12 a13 a14 a15=>a12) q
def FT.Zm(q:FT)(x:Bh):FT:=FT.rec (λa0 a1 a2 a3 a4 a5 a6 a7 a8 a9 a10 a11 a12 a13 a14 a15=>.mk a0 a1 a2 a3 a4 a5 a6 a7 a8 a9 a10 a11 x a13 a14 a15) q
def FT.Zz(q:FT):Bh:=FT.rec (λa0 a1 a2 a3 a4 a5 a6 a7 a8 a9 a10 a11 a12 a13 a14 a15=>a13) q
def FT.Zj(q:FT)(x:Bh):FT:=FT.rec (λa0 a1 a2 a3 a4 a5 a6 a7 a8 a9 a10 a11 a12 a13 a14 a15=>.mk a0 a1 a2 a3 a4 a5 a6 a7 a8 a9 a10 a11 a12 x a14 a15) q
def FT.Zs(q:FT):Bh:=FT.rec (λa0 a1 a2 a3 a4 a5 a6 a7 a8 a9 a10 a11 a12 a13 a14 a15=>a14) q
def FT.ZD(q:FT)(x:Bh):FT:=FT.rec (λa0 a1 a2 a3 a4 a5 a6 a7 a8 a9 a10 a11 a12 a13 a14 a15=>.mk a0 a1 a2 a3 a4 a5 a6 a7 a8 a9 a10 a11 a12 a13 x a15) q
def FT.Zy(q:FT):Bh:=FT.rec (λa0 a1 a2 a3 a4 a5 a6 a7 a8 a9 a10 a11 a12 a13 a14 a15=>a15) q
def FT.Y8(q:FT)(x:Bh):FT:=FT.rec (λa0 a1 a2 a3 a4 a5 a6 a7 a8 a9 a10 a11 a12 a13 a14 a15=>.mk a0 a1 a2 a3 a4 a5 a6 a7 a8 a9 a10 a11 a12 a13 a14 x) q
structure aB where
 s:FT->Bh
 u:FT->Bh->FT
def fb(i:Nat):aB:=
 match i with
 |0=>⟨FT.s0,FT.u0⟩
 |1=>⟨FT.s1,FT.u1⟩
 |2=>⟨FT.s2,FT.u2⟩
 |3=>⟨FT.s3,FT.u3⟩
 |4=>⟨FT.s4,FT.u4⟩
 |5=>⟨FT.s5,FT.u5⟩
 |6=>⟨FT.s6,FT.u6⟩
 |7=>⟨FT.s7,FT.u7⟩
 |8=>⟨FT.s8,FT.u8⟩
 |9=>⟨FT.s9,FT.u9⟩
 |10=>⟨FT.Zg,FT.Zd⟩
 |11=>⟨FT.Z0,FT.Zf⟩
 |12=>⟨FT.Zp,FT.Zm⟩
 |13=>⟨FT.Zz,FT.Zj⟩
 |14=>⟨FT.Zs,FT.ZD⟩
 |_=>⟨FT.Zy,FT.Y8⟩
def FT.Ts(q:FT):List Bh:=FT.rec (λa0 a1 a2 a3 a4 a5 a6 a7 a8 a9 a10 a11 a12 a13 a14 a15=>[a0,a1,a2,a3,a4,a5,a6,a7,a8,a9,a10,a11,a12,a13,a14,a15]) q
theorem FT.W3(q:FT):∀i,i<16->(fb i).s q::[]=(q.Ts.drop i).take 1
 |0,_=>by cases q;rfl
 |1,_=>by cases q;rfl
 |2,_=>by cases q;rfl
 |3,_=>by cases q;rfl
 |4,_=>by cases q;rfl
 |5,_=>by cases q;rfl
 |6,_=>by cases q;rfl
 |7,_=>by cases q;rfl
 |8,_=>by cases q;rfl
 |9,_=>by cases q;rfl
 |10,_=>by cases q;rfl
 |11,_=>by cases q;rfl
 |12,_=>by cases q;rfl
 |13,_=>by cases q;rfl
 |14,_=>by cases q;rfl
 |15,_=>by cases q;rfl
 |k+16,h=>absurd h (by omega)
theorem FT.Wt(q:FT)(x:Bh):∀i,i<16->((fb i).u q x).Ts=q.Ts.set i x
 |0,_=>by cases q;rfl
 |1,_=>by cases q;rfl
 |2,_=>by cases q;rfl
 |3,_=>by cases q;rfl
 |4,_=>by cases q;rfl
 |5,_=>by cases q;rfl
 |6,_=>by cases q;rfl
 |7,_=>by cases q;rfl
 |8,_=>by cases q;rfl
 |9,_=>by cases q;rfl
 |10,_=>by cases q;rfl
 |11,_=>by cases q;rfl
 |12,_=>by cases q;rfl
 |13,_=>by cases q;rfl
 |14,_=>by cases q;rfl
 |15,_=>by cases q;rfl
 |k+16,h=>absurd h (by omega)
theorem FT.len(q:FT):q.Ts.length=16:=by cases q;rfl
theorem FT.get(q:FT)(i:Nat)(h:i<16):q.Ts[i]?=some ((fb i).s q):=by
 have e:=congrArg (·[0]?) (FT.W3 q i h);simp only[List.getElem?_take,List.getElem?_drop,Nat.lt_one_iff,if_true,yO,List.getElem?_cons_zero]at e;exact e.symm
theorem FT.su(q:FT)(x:Bh)(i j:Nat)(V:i<16)(hj:j<16):(fb j).s ((fb i).u q x)=if i=j then x else(fb j).s q:=by
 have e:=FT.get ((fb i).u q x) j hj;rw[FT.Wt q x i V,List.getElem?_set,FT.len]at e;by_cases h:i=j
 ·subst h;simp only[if_true,V]at e;rw[zk rfl];exact(zK e).symm
 ·rw[zh h]at e;rw[zh h];rw[FT.get q j hj]at e;exact(zK e).symm
theorem FT.Vt(x:Bh):∀i,(fb i).s (FT.all x)=x
 |0=>rfl
 |1=>rfl
 |2=>rfl
 |3=>rfl
 |4=>rfl
 |5=>rfl
 |6=>rfl
 |7=>rfl
 |8=>rfl
 |9=>rfl
 |10=>rfl
 |11=>rfl
 |12=>rfl
 |13=>rfl
 |14=>rfl
 |k+15=>rfl
structure Slot where
 s:FT->FV
 u:FT->FV->FT
def Zv(q:Bh)(k:Bh->FT):FT:=Bh.rec (λa0 a1 a2 a3 a4 a5 a6 a7 a8 a9 a10 a11 a12 a13 a14 a15=>k (.mk a0 a1 a2 a3 a4 a5 a6 a7 a8 a9 a10 a11 a12 a13 a14 a15)) q
theorem WB(q:Bh)(k:Bh->FT):Zv q k=k q:=by cases q;rfl
def Wy(a:YR)(b:aB):Slot:=⟨λt=>a.s (b.s t),λt v=>Zv (a.u (b.s t) v) λq=>b.u t q⟩
def slot(i:Nat):Slot:=Wy (qb (i%16)) (fb (i / 16))
def FT.new:FT:=.all (.all (.o (.tuple [])))
theorem U9(t:FT)(v:FV)(i j:Nat)(V:i<256)(hj:j<256):(slot j).s ((slot i).u t v)=if i=j then v else(slot j).s t:=by
 show(qb (j%16)).s ((fb (j / 16)).s (Zv ((qb (i%16)).u ((fb (i / 16)).s t) v) λq=>(fb (i / 16)).u t q))=_;rw[WB,FT.su _ _ _ _ (by omega) (by omega)];by_cases h:i / 16=j / 16
 ·rw[zk h,Bh.su _ _ _ _ (by omega) (by omega)];by_cases D:i%16=j%16
  ·rw[zk D,zk (by omega)]
  ·rw[zh D,zh (by omega),h];rfl
 ·rw[zh h,zh (by omega)];rfl
theorem SV(i:Nat):(slot i).s FT.new=.o (.tuple []):=by
 show(qb (i%16)).s ((fb (i / 16)).s FT.new)=_;unfold FT.new;rw[FT.Vt,Bh.Vt]
def look(t:FT)(i:Nat):FV:=bif Nat.blt i 256 then(slot i).s t else .o (.tuple [])
def YL(v:AA):FV:=
 match v with
 | .int k n=>.i k n
 | .bool b=>.b b
 |v=>.o v
theorem Ti(v:AA):(YL v).GO=v:=by cases v<;>rfl
def H8(t:FT):Operand->AA
 | .tmp i=>(look t i).GO
 | .const v=>NC v
 | .global g=>.EJ g 0
 | .func f=>.func (.func f) [] []
abbrev PO:=Gd->AB->FuncId->List FV->(FV->AB->OV)->OV
structure Im where
 call:PO
 loop:Nat->FuncId->Code->Gd->FT->AB->(FT->AB->OV)->(Nat->FT->AB->OV)->(FT->AB->OV)->OV
abbrev N1:=Gd->AB->FuncId->List AA->Option (AA×AB)
def Ot(F:PO)(S:N1):Prop:=∀g h f asE9 k r,F g h f asE9 k=some r->∃x h',S g h f (asE9.map FV.GO)=some (FV.GO x,h')/\k x h'=some r
structure BV where f:FT->FV
structure BL where f:FT->List FV
structure BO where f:PO->Gd->AB->FT->(FV->AB->OV)->OV
def oV(x:Operand):BV:=
 match x with
 | .tmp i=>bif Nat.blt i 256 then⟨(slot i).s⟩else⟨λ_=>.o (.tuple [])⟩
 | .const v=>⟨λ_=>YL (NC v)⟩
 | .global g=>⟨λ_=>.o (.EJ g 0)⟩
 | .func f=>⟨λ_=>.o (.func (.func f) [] [])⟩
theorem DG(x:Operand)(t:FT):((oV x).f t).GO=H8 t x:=by
 cases x with
 |tmp i=>
  show((bif Nat.blt i 256 then(⟨(slot i).s⟩:BV)else⟨λ_=>.o (.tuple [])⟩).f t).GO=(look t i).GO;unfold look;cases Nat.blt i 256<;>rfl
 |const v=>exact Ti _
 |_=>rfl
theorem S5(i:Nat)(t:FT):(oV (.tmp i)).f t=look t i:=by
 show(bif Nat.blt i 256 then(⟨(slot i).s⟩:BV)else⟨λ_=>.o (.tuple [])⟩).f t=look t i;unfold look;cases Nat.blt i 256<;>rfl
def Yt(a:BV)(l:BL):BL:=⟨λt=>a.f t::l.f t⟩
def oL:List Operand->BL
 |[]=>⟨λ_=>[]⟩
 |x::xs=>Yt (oV x) (oL xs)
theorem Qr(t:FT):∀l:List Operand,((oL l).f t).map FV.GO=l.map (H8 t)
 |[]=>rfl
 |x::xs=>by
  show((oV x).f t).GO::((oL xs).f t).map FV.GO=_;rw[Qr t xs,DG];rfl
section
variable (C:Eu)
def BO.ok(b:BO)(op:Op):Prop:=∀(F:PO) (S:N1),Ot F S->∀g h t k r,b.f F g h t k=some r->∃x h',LZ C S g h (H8 t) op=some (FV.GO x,h')/\k x h'=some r
end
def QF(r:Option (AA×AB))(k:FV->AB->OV):OV:=match r with|some (v,h)=>WI v λx=>k x h|none=>none
theorem KZ{q:Option (AA×AB)}{k:FV->AB->OV}{r:AA×AB}(h:QF q k=some r):∃x h',q=some (FV.GO x,h')/\k x h'=some r:=by
 rcases q with _|⟨v,h'⟩
 ·cases h
 ·obtain⟨x,h1,D⟩:=MG (k:=λx=>k x h') h;exact⟨x,h',by rw[h1],D⟩
def Vp(r:Option AA)(h:AB)(k:FV->AB->OV):OV:=match r with|some v=>WI v λx=>k x h|none=>none
theorem Qi{q:Option AA}{h:AB}{k:FV->AB->OV}{r:AA×AB}(B:Vp q h k=some r):∃x,q=some (FV.GO x)/\k x h=some r:=by
 rcases q with _|v
 ·cases B
 ·obtain⟨x,h1,D⟩:=MG (k:=λx=>k x h) B;exact⟨x,by rw[h1],D⟩
def SE(v:FV)(f:IntKind->Int->OV)(e:OV):OV:=FV.rec f (λ_=>e) (λ_ _=>e) (λ_=>e) v
def Xw(v:FV)(f:Bool->OV)(e:OV):OV:=FV.rec (λ_ _=>e) f (λ_ _=>e) (λ_=>e) v
def V4(v:FV)(f:Nat->Nat->OV)(e:OV):OV:=FV.rec (λ_ _=>e) (λ_=>e) f (λ_=>e) v
def VQ(v:FV)(f:AA->OV)(e:OV):OV:=FV.rec (λ_ _=>e) (λ_=>e) (λ_ _=>e) f v
theorem IM{v:FV}{f:IntKind->Int->OV}{e:OV}{r:AA×AB}(h:SE v f e=some r):(∃k n,v=.i k n/\f k n=some r)\/e=some r:=by
 cases v<;>first|exact .inl ⟨_,_,rfl,h⟩|exact .inr h
theorem QP{v:FV}{f:Bool->OV}{e:OV}{r:AA×AB}(h:Xw v f e=some r):(∃b,v=.b b/\f b=some r)\/e=some r:=by
 cases v<;>first|exact .inl ⟨_,rfl,h⟩|exact .inr h
theorem MH{v:FV}{f:Nat->Nat->OV}{e:OV}{r:AA×AB}(h:V4 v f e=some r):(∃a b,v=.p a b/\f a b=some r)\/e=some r:=by
 cases v<;>first|exact .inl ⟨_,_,rfl,h⟩|exact .inr h
theorem Kt{v:FV}{f:AA->OV}{e:OV}{r:AA×AB}(h:VQ v f e=some r):(∃a,v=.o a/\f a=some r)\/e=some r:=by
 cases v<;>first|exact .inl ⟨_,rfl,h⟩|exact .inr h
def G2(b:Bool)(x y:OV):OV:=Bool.rec y x b
theorem DQ{b:Bool}{x y:OV}{r:AA×AB}(h:G2 b x y=some r):(b=true/\x=some r)\/(b=false/\y=some r):=by
 cases b
 ·exact .inr ⟨rfl,h⟩
 ·exact .inl ⟨rfl,h⟩
def Rg{α:Type}(l:List α)(o:Nat)(k:α->OV):OV:=List.rec (motive:=λ_=>Nat->OV) (λ_=>none) (λa _ ih o=>G2 (Nat.beq o 0) (k a) (ih (o - 1))) l o
theorem LJ{α:Type}{k:α->OV}{r:AA×AB}:∀{l:List α} {o:Nat},Rg l o k=some r->∃a,l[o]?=some a/\k a=some r
 |[],_,h=>by cases h
 | a::l,o,h=>by
  rcases DQ (x:=k a) (y:=Rg l (o - 1) k) h with⟨h1,D⟩|⟨h1,D⟩
  ·rw[qL]at h1;subst h1;exact⟨a,rfl,D⟩
  ·obtain⟨b,H,J⟩:=LJ D;cases o with
   |zero=>cases h1
   |succ o=>exact⟨b,H,J⟩
section
variable (C:Eu)
def gO(op:Op):BO:=⟨λ_ g h t k=>QF (Nk C.P C.B6 g h (H8 t) op) k⟩
def L2:Op->Bool
 | .call c=>(match c.callee with| .value _=>false|_=>true)
 |_=>true
theorem HW{S:N1}{g:Gd}{h:AB}{E:Operand->AA}{op:Op}(hn:L2 op=true):LZ C S g h E op=Nk C.P C.B6 g h E op:=by
 cases op<;>try rfl
 rename_i c;rcases c with⟨cl,_⟩;cases cl<;>first|rfl|(simp[L2]at hn)
theorem Ha{op:Op}(hn:L2 op=true):(gO C op).ok C op:=λF S K g h t k r B=>by
 rw[HW C hn];exact KZ B
theorem Dv{op:Op}{S:N1}{g:Gd}{h:AB}{E:Operand->AA}{v:AA}(hn:L2 op=true)(hc:AX C.P op=0)(ho:IJ C.P E op=some v):LZ C S g h E op=some (v,h):=by
 rw[HW C hn];unfold Nk;rw[hc];simp only[ho,ze]
end
def Z1(x:BV):BO:=⟨λ_ _ h t k=>T7 (x.f t) λv=>k v h⟩
def aE(c a b:BV):BO:=⟨λ_ _ h t k=>Xw (c.f t) (λv=>G2 v (T7 (a.f t) λv=>k v h) (T7 (b.f t) λv=>k v h)) none⟩
def Yr(n0:Nat)(f:BI)(gen:BO)(x y:BV):BO:=⟨λF g h t k=>
 SE (x.f t) (λk1 a=>SE (y.f t) (λk2 b=>G2 (Nat.beq (kn k1) n0&&Nat.beq (kn k2) n0) (f.f a b k h) (gen.f F g h t k)) (gen.f F g h t k)) (gen.f F g h t k)⟩
def Xb(gen:BO)(x y:BV):BO:=⟨λF g h t k=>
 SE (x.f t) (λk1 a=>SE (y.f t) (λ_ b=>G2 (Wh 0 b) (XL (XP k1 a b) λn=>k (.i k1 n) h) (gen.f F g h t k)) (gen.f F g h t k)) (gen.f F g h t k)⟩
def XX(gen:BO)(x y:BV):BO:=⟨λF g h t k=>
 SE (x.f t) (λk1 a=>SE (y.f t) (λ_ b=>G2 (Wh 0 b) (XL ((Px k1).f (a*2^min b.toNat k1.bits)) λn=>k (.i k1 n) h) (gen.f F g h t k)) (gen.f F g h t k)) (gen.f F g h t k)⟩
def Xu(gen:BO)(x:BV):BO:=⟨λF g h t k=>Xw (x.f t) (λv=>G2 v (k (.b false) h) (k (.b true) h)) (gen.f F g h t k)⟩
def YV(v:AA)(i:Nat)(k:AA->OV):OV:=match v with| .tuple vs=>Rg vs i k|_=>none
def Z7(x:BV)(i:Nat):BO:=⟨λ_ _ h t k=>VQ (x.f t) (λv=>YV v i λv=>WI v λv=>k v h) none⟩
def YN(ob:Ay)(o:Nat)(k:AA->OV):OV:=match ob with| .cells _ st cs=>G2 (Nat.beq st 0) none (Rg cs o k)|_=>none
def XD(h:AB)(id o:Nat)(k:AA->OV):OV:=match Ia h id with|some ob=>YN ob o k|none=>none
def aH(gen:BO)(x:BV):BO:=⟨λF g h t k=>V4 (x.f t) (λid o=>XD h id o λv=>WI v λv=>k v h) (gen.f F g h t k)⟩
def VN(ob:Ay)(o n:Nat)(k:List AA->OV):OV:=match ob with| .cells _ st cs=>G2 (Nat.beq st 0) none (G2 (Nat.ble (o+n) cs.length) (k ((cs.drop o).take n)) none)|_=>none
def VG(h:AB)(id o n:Nat)(k:List AA->OV):OV:=match Ia h id with|some ob=>VN ob o n k|none=>none
def Xs(l:List AA)(k:List AA->OV):OV:=List.rec (motive:=λ_=>(List AA->OV)->OV) (λk=>k []) (λa _ ih k=>ih λl=>k (a::l)) l k
theorem Qh:∀(l:List AA) (k:List AA->OV),Xs l k=k l
 |[],_=>rfl
 |a::l,k=>Qh l λl=>k (a::l)
def WW(gen:BO)(n:Option Nat)(x:BV):BO:=
 match n with
 |some n=>⟨λF g h t k=>V4 (x.f t) (λid o=>VG h id o n λl=>Xs l λl=>k (.o (.agg l)) h) (gen.f F g h t k)⟩
 |none=>gen
def Sz(l:List AA)(o:Nat)(v:AA)(k:List AA->OV):OV:=
 List.rec (motive:=λ_=>Nat->(List AA->OV)->OV) (λ_ _=>none) (λa l ih o k=>G2 (Nat.beq o 0) (k (v::l)) (ih (o - 1) λl=>k (a::l))) l o k
theorem O6{v:AA}{r:AA×AB}:∀{l:List AA} {o:Nat} {k:List AA->OV},Sz l o v k=some r->o<l.length/\k (l.set o v)=some r
 |[],_,_,h=>by cases h
 | a::l,o,k,h=>by
  rcases DQ (x:=k (v::l)) (y:=Sz l (o - 1) v λl=>k (a::l)) h with⟨h1,D⟩|⟨h1,D⟩
  ·rw[qL]at h1;subst h1;exact⟨by simp,D⟩
  ·obtain⟨H,J⟩:=O6 D;cases o with
   |zero=>cases h1
   |succ o=>exact⟨by simp at H⊢;omega,J⟩
def Yo(t:Tr Ay)(i:Nat)(x:Ay):Tr Ay:=
 Tr.rec (motive:=λ_=>Nat->Tr Ay) (λi=>Tr.set (i+1) .leaf i x) (λl v r ihl ihr i=>Bool.rec (Bool.rec (.node l v (ihr (i / 2 - 1))) (.node (ihl (i / 2)) v r) (Nat.beq (i%2) 1)) (.node l (some x) r) (Nat.beq i 0)) t i
theorem Tr.JT{α:Type}:∀(f f':Nat) (t:Tr α) (i:Nat) (x:α),i<f->i<f'->Tr.set f t i x=Tr.set f' t i x
 |0,_,_,_,_,h,_=>by omega
 |_,0,_,_,_,_,h=>by omega
 | f+1,f'+1,.leaf,i,x,h,h'=>by
  rw[Tr.set,Tr.set];cases O:Nat.beq i 0 with
  |true=>rfl
  |false=>
   have h0:i≠0:=λe=>by subst e;cases O
   rw[Tr.JT f f' .leaf (i / 2) x (by omega) (by omega),Tr.JT f f' .leaf (i / 2 - 1) x (by omega) (by omega)]
 | f+1,f'+1,.node l v r,i,x,h,h'=>by
  rw[Tr.set,Tr.set];cases O:Nat.beq i 0 with
  |true=>rfl
  |false=>
   have h0:i≠0:=λe=>by subst e;cases O
   rw[Tr.JT f f' l (i / 2) x (by omega) (by omega),Tr.JT f f' r (i / 2 - 1) x (by omega) (by omega)]
theorem QE:∀(t:Tr Ay) (i:Nat) (x:Ay),Yo t i x=Tr.set (i+1) t i x
 | .leaf,_,_=>rfl
 | .node l v r,i,x=>by
  rw[Tr.set];show(Bool.rec (Bool.rec (.node l v (Yo r (i / 2 - 1) x)) (.node (Yo l (i / 2) x) v r) (Nat.beq (i%2) 1)) (.node l (some x) r) (Nat.beq i 0):Tr Ay)=_;rw[QE l,QE r];cases O:Nat.beq i 0 with
  |true=>rfl
  |false=>
   have h0:i≠0:=λe=>by subst e;cases O
   rw[Tr.JT i (i / 2+1) l (i / 2) x (by omega) (by omega),Tr.JT i (i / 2 - 1+1) r (i / 2 - 1) x (by omega) (by omega)];cases Nat.beq (i%2) 1<;>rfl
def UR(h:AB)(i:Nat)(o:Ay)(k:AB->OV):OV:=AB.rec (λn t=>Xi (Yo t i o) λt=>k ⟨n,t⟩) h
theorem UP(h:AB)(i:Nat)(o:Ay)(k:AB->OV):UR h i o k=k (h.set i o):=by
 rcases h with⟨n,t⟩;show(Xi (Yo t i o) λt=>k ⟨n,t⟩)=_;rw[SS,QE];rfl
def Ya(g:Gd)(h:AB)(id o:Nat)(v:AA)(ob:Ay)(k:AB->OV):OV:=
 match ob with
 | .cells gr st cs=>G2 (Nat.beq st 2&&g.may id) (Sz cs o v λcs=>UR h id (.cells gr 2 cs) k) none
 |_=>none
def Yk(g:Gd)(h:AB)(id o:Nat)(v:AA)(k:AB->OV):OV:=match Ia h id with|some ob=>Ya g h id o v ob k|none=>none
def FV.one(v:FV):Bool:=match v with| .o a=>a.one|_=>true
def Yw(gen:BO)(x y:BV):BO:=⟨λF g h t k=>V4 (x.f t) (λid o=>T7 (y.f t) λv=>G2 v.one (Yk g h id o v.GO λh=>k (.o (.tuple [])) h) (gen.f F g h t k)) (gen.f F g h t k)⟩
def ZO(gen:BO)(off:Option Nat)(x:BV):BO:=
 match off with
 |some c=>⟨λF g h t k=>V4 (x.f t) (λid o=>Oz (o+c) λo=>k (.p id o) h) (gen.f F g h t k)⟩
 |none=>gen
def T3(P:Program)(s:TypeId)(f:Nat):Option Nat:=
 match P.underlying s with
 | some (.struct fs)=>(match fs[f]? with
  |some fd=>(match BK P fd.type with
   |some (_+1)=>some fd.offset
   |_=>none)
  |none=>none)
 |_=>none
def Zk(gen:BO)(k0:Option IntKind)(x:BV):BO:=
 match k0 with
 |some k0=>⟨λF g h t k=>SE (x.f t) (λ_ n=>XL ((Px k0).f n) λn=>k (.i k0 n) h) (gen.f F g h t k)⟩
 |none=>gen
def Tk(b:Int)(f:Nat->OV)(e:OV):OV:=Int.rec f (λ_=>e) b
theorem Mo{b:Int}{f:Nat->OV}{e:OV}{r:AA×AB}(h:Tk b f e=some r):(∃n:Nat,b=n/\f n=some r)\/e=some r:=by
 cases b
 ·exact .inl ⟨_,rfl,h⟩
 ·exact .inr h
def Yf(gen:BO)(n z:Nat)(x y:BV):BO:=⟨λF g h t k=>
 V4 (x.f t) (λid o=>SE (y.f t) (λ_ b=>Tk b (λm=>G2 (Nat.blt m n) (Oz (o+m*z) λo=>k (.p id o) h) none) none) none) (gen.f F g h t k)⟩
def aR(v:AA)(f:Nat->Nat->Nat->OV)(e:OV):OV:=match v with| .slice (some (id,o)) n=>f id o n|_=>e
def XU(gen:BO)(z:Nat)(x y:BV):BO:=⟨λF g h t k=>
 VQ (x.f t) (λv=>aR v (λid o n=>SE (y.f t) (λ_ b=>Tk b (λm=>G2 (Nat.blt m n) (Oz (o+m*z) λo=>k (.p id o) h) none) none) none) (gen.f F g h t k)) (gen.f F g h t k)⟩
inductive Z5 where
 |arr (n z:Nat)
 |row (z:Nat)
 |no
def YW(P:Program)(t:TypeId):Z5:=
 match P.underlying t with
 |some (.array n e)=>(match BK P e with|some z=>.arr n z|none=>.no)
 |some (.slice e)=>(match BK P e with|some z=>.row z|none=>.no)
 |_=>.no
def Ow(gen:BO)(i:Z5)(x y:BV):BO:=
 match i with
 | .arr n z=>Yf gen n z x y
 | .row z=>XU gen z x y
 | .no=>gen
def aP(v:AA)(f:List UInt8->OV)(e:OV):OV:=match v with| .str s=>f s|_=>e
def aG(v:AA)(f:List AA->OV)(e:OV):OV:=match v with| .agg s=>f s|_=>e
def YG(gen:BO)(x y:BV):BO:=⟨λF g h t k=>
 VQ (x.f t) (λv=>aP v (λs=>SE (y.f t) (λ_ b=>Tk b (λm=>Rg s m λc=>Oz c.toNat λc=>k (.i .u8 (.ofNat c)) h) none) none) (gen.f F g h t k)) (gen.f F g h t k)⟩
def XT(gen:BO)(n:Nat)(x y:BV):BO:=⟨λF g h t k=>
 VQ (x.f t) (λv=>aG v (λs=>SE (y.f t) (λ_ b=>Tk b (λm=>G2 (Nat.blt m n) (Rg s m λc=>WI c λc=>k c h) none) none) none) (gen.f F g h t k)) (gen.f F g h t k)⟩
def single(P:Program)(ty:TypeId):Bool:=match Er P ty with|some false=>true|_=>false
def Ob(P:Program)(ty:TypeId):Bool:=match BK P ty with|some 1=>true|_=>false
def WK(P:Program)(gen:BO)(ty:TypeId)(x y:BV):BO:=
 match P.underlying ty with
 |some .string=>YG gen x y
 |some (.array n e)=>bif single P e&&Ob P e then XT gen n x y else gen
 |_=>gen
def aI(v:AA)(f:FuncId->List AA->List AA->OV):OV:=match v with| .func fn a b=>(match fn with| .func q=>f q a b|_=>none)|_=>none
def aO(x:BV)(asE9:BL):BO:=⟨λF g h t k=>VQ (x.f t) (λv=>aI v λq a b=>F g h q (a.map YL++(asE9.f t++b.map YL)) k) none⟩
def Sb(x:Operand)(asE9:BL):BO:=
 match x with
 | .func f=>⟨λF g h t k=>F g h f (asE9.f t) k⟩
 |x=>aO (oV x) asE9
def Y6(h:AB)(n:Option Mc)(k:FV->AB->OV):OV:=match n with|some (a,b)=>Z9 (h.push b) λh'=>WI (a h.size) λv=>k v h'|none=>none
def ZX(P:Program)(ty:TypeId):Option Nat:=match Er P ty with|some true=>BK P ty|_=>none
def WG(P:Program)(t:TypeId):Option IntKind:=match P.underlying t with|some (.int k)=>some k|_=>none
def To(P:Program)(s d:TypeId):Option IntKind:=
 match P.underlying s with
 |some _=>WG P d
 |none=>none
def Vm(gen:BO)(o:BinOp)(k:Option IntKind)(x y:BV):BO:=
 match o with
 | .shr=>Xb gen x y
 | .shl=>XX gen x y
 | o=>(match k with
  |some k=>(match iB o k with
   |some f=>Yr (kn k) f gen x y
   |none=>gen)
  |none=>gen)
def pO(f:FT->Option AA):BO:=⟨λ_ _ h t k=>Vp (f t) h k⟩
def hO(f:Gd->AB->FT->Option (AA×AB)):BO:=⟨λ_ g h t k=>QF (f g h t) k⟩
def vA(x:Operand)(t:FT):AA:=((oV x).f t).GO
def Zq:Option Operand->FT->Option AA
 |none=>λ_=>none
 |some x=>λt=>some (vA x t)
def aF(gen:BO)(x:BV):BO:=⟨λF g h t k=>V4 (x.f t) (λid o=>k (.p id o) h) (gen.f F g h t k)⟩
inductive aA where
 |str
 |row
 |no
def ZP(P:Program)(ts:Array TypeId):aA:=
 match ts[0]? with
 |none=>.no
 |some t=>(match P.underlying t with
  |some .string=>.str
  |some (.slice _)=>.row
  |_=>.no)
def Z3(v:AA)(k:Nat->OV)(e:OV):OV:=match v with| .str s=>Oz s.length k|_=>e
def Z4(v:AA)(k:Nat->OV)(e:OV):OV:=match v with| .slice _ n=>Oz n k| .Gi n _=>Oz n k|_=>e
def VP(gen:BO)(l:aA)(x:BV):BO:=
 match l with
 | .str=>⟨λF g h t k=>VQ (x.f t) (λv=>Z3 v (λn=>k (.i .i64 (.ofNat n)) h) (gen.f F g h t k)) (gen.f F g h t k)⟩
 | .row=>⟨λF g h t k=>VQ (x.f t) (λv=>Z4 v (λn=>k (.i .i64 (.ofNat n)) h) (gen.f F g h t k)) (gen.f F g h t k)⟩
 | .no=>gen
def isStr(P:Program)(t:TypeId):Bool:=match P.underlying t with|some .string=>true|_=>false
def blt(P:Program)(gen:BO)(b:Go.Builtin)(asE9:List Operand)(ts:Array TypeId):BO:=
 match b with
 | .len=>(match asE9 with
  |[x]=>VP gen (ZP P ts) (oV x)
  |_=>gen)
 | .append=>(match asE9 with
  |[x,y]=>hO λg h t=>GM P g h ts (vA x t) (vA y t)
  |_=>gen)
 |_=>gen
section
variable (C:Eu)
def WU(op:Op):BO:=
 match op with
 | .move x=>Z1 (oV x)
 | .assign x=>Z1 (oV x)
 | .pick c a b=>aE (oV c) (oV a) (oV b)
 | .binOp o ty x y k=>Vm (gO C (.binOp o ty x y k)) o (WG C.P ty) (oV x) (oV y)
 | .unOp o ty x=>(match o with| .not=>Xu (gO C (.unOp .not ty x)) (oV x)|o=>gO C (.unOp o ty x))
 | .extract x i=>Z7 (oV x) i
 | .load ty x=>bif single C.P ty then aH (gO C (.load ty x)) (oV x)else WW (gO C (.load ty x)) (ZX C.P ty) (oV x)
 | .store ty x y=>bif Ob C.P ty then Yw (gO C (.store ty x y)) (oV x) (oV y)else gO C (.store ty x y)
 | .fieldAddr s x f=>ZO (gO C (.fieldAddr s x f)) (T3 C.P s f) (oV x)
 | .indexAddr ty x i=>Ow (gO C (.indexAddr ty x i)) (YW C.P ty) (oV x) (oV i)
 | .index ty x i=>WK C.P (gO C (.index ty x i)) ty (oV x) (oV i)
 | .convert s d x=>Zk (gO C (.convert s d x)) (To C.P s d) (oV x)
 | .alloc e=>⟨λ_ _ h _ k=>Y6 h ((Ew C.P e).bind Ez) k⟩
 | .call c=>(match c.callee with
  | .value x=>Sb x (oL c.args.toList)
  | .builtin b=>blt C.P (gO C (.call c)) b c.args.toList c.argTypes
  |_=>gO C (.call c))
 | .field s x f=>pO λt=>Jp C.P s (vA x t) f
 | .slice ty x lo V mx=>(match mx with
  |none=>bif isStr C.P ty then pO λt=>Jo C.P ty (vA x t) (Zq lo t) (Zq V t)else gO C (.slice ty x lo V none)
  |some m=>gO C (.slice ty x lo V (some m)))
 | .build ty ps=>pO λt=>JX C.P ty (ps.toList.map λp=>(p.1,vA p.2 t))
 | .makeFunc fn a b=>pO λt=>some (.func fn (((oL a.toList).f t).map FV.GO) (((oL b.toList).f t).map FV.GO))
 | .nilCheck x=>aF (gO C (.nilCheck x)) (oV x)
 | .box e x=>⟨λ_ _ h t k=>Y6 h (Ez (vA x t)) k⟩
 |op=>gO C op
end
structure BG where f:FT->OV->OV->OV
def ZA(v:AA)(kf:OV):OV:=match v with| .undef=>none|_=>kf
def aC(want:Bool)(v:FV)(kt kf:OV):OV:=FV.rec (λ_ _=>kf) (λb=>G2 (b==want) kt kf) (λ_ _=>kf) (λa=>match a with| .bool _=>none|a=>ZA a kf) v
def Wa(ops:Array Oper)(o:Oper):Option BG:=
 match o.guard with
 |none=>none
 |some (j,want)=>
  match(ops[j]?).bind (·.dst)with
  |none=>some ⟨λ_ _ kf=>kf⟩
  |some d=>some ⟨λt kt kf=>aC want ((oV (.tmp d)).f t) kt kf⟩
def Y7(t:FT)(k:FT->OV):OV:=FT.rec (λa0 a1 a2 a3 a4 a5 a6 a7 a8 a9 a10 a11 a12 a13 a14 a15=>k (.mk a0 a1 a2 a3 a4 a5 a6 a7 a8 a9 a10 a11 a12 a13 a14 a15)) t
theorem TS(t:FT)(k:FT->OV):Y7 t k=k t:=by cases t;rfl
structure BP where f:FT->FV->(FT->OV)->OV
def T8(N:Nat)(dst:Option Tmp):BP:=
 match dst with
 |some d=>bif Nat.blt d N&&Nat.blt d 256 then⟨λt v k=>Y7 ((slot d).u t v) k⟩else⟨λ_ _ _=>none⟩
 |none=>⟨λt _ k=>k t⟩
abbrev KN:=FT->AB->OV
structure BR where f:Im->Gd->FT->AB->KN->OV
def TN(op:BO)(pt:BP)(rest:BR):BR:=⟨λS g t h k=>op.f S.call g h t λv h=>pt.f t v λt=>rest.f S g t h k⟩
def aW(pt:BP)(rest:BR):BR:=⟨λS g t h k=>pt.f t (.o (.tuple [])) λt=>rest.f S g t h k⟩
def Tz(gd:Option BG)(op:BO)(pt:BP)(rest:BR):BR:=
 match gd with
 |none=>TN op pt rest
 |some gd=>⟨λS g t h k=>gd.f t ((TN op pt rest).f S g t h k) ((aW pt rest).f S g t h k)⟩
structure SB where f:List (Nat×Nat)->Im->Gd->FT->AB->KN->OV
structure BX where f:Im->Gd->FT->AB->KN->(Nat->KN)->KN->OV
def Xv(r:BR):BX:=⟨λS g t h kn _ _=>r.f S g t h kn⟩
def ai(r:SB):BX:=⟨λS g t h kn _ _=>r.f [] S g t h kn⟩
def Xe(a b:BX):BX:=⟨λS g t h kn kx kr=>a.f S g t h (λt h=>b.f S g t h kn kx kr) kx kr⟩
def YX(c:BV)(a b:BX):BX:=⟨λS g t h kn kx kr=>Xw (c.f t) (λv=>G2 v (a.f S g t h kn kx kr) (b.f S g t h kn kx kr)) none⟩
def V9(id:Nat)(a:BX):BX:=⟨λS g t h kn kx kr=>a.f S g t h kn (λi t h=>G2 (Nat.beq i id) (kn t h) (kx i t h)) kr⟩
def YU(N:Nat)(f:FuncId)(c:Code)(a:BX):BX:=⟨λS g t h kn kx kr=>a.f S g t h (λt h=>S.loop N f c g t h kn kx kr) kx kr⟩
section
variable (C:Eu)
def P0(N:Nat)(ops:Array Oper):List Oper->BR
 |[]=>⟨λ_ _ t h k=>k t h⟩
 |o::rest=>Tz (Wa ops o) (WU C o.op) (T8 N o.dst) (P0 N ops rest)
def Zo(N:Nat)(ops:Array Oper)(i:Nat)(U:List Nat)(o:Op)(op:BO)(pt:BP)(rest:SB):SB:=⟨λtch S g t h k=>
 op.f S.call ⟨g.floor,EA tch U++g.B4⟩ h t λv h'=>pt.f t v λt'=>G2 (TV C ops U N (H8 t') h') (rest.f (La C.P h (H8 t) i o tch) S g t' h' k) none⟩
def YI(i:Nat)(o:Op)(op:BO)(pt:BP)(rest:SB):SB:=⟨λtch S g t h k=>
 op.f S.call g h t λv h'=>pt.f t v λt'=>rest.f (La C.P h (H8 t) i o tch) S g t' h' k⟩
def SY(N:Nat)(ops:Array Oper)(i:Nat)(U:List Nat)(o:Op)(op:BO)(pt:BP)(rest:SB):SB:=
 match U with
 |[]=>YI C i o op pt rest
 |u::U=>Zo C N ops i (u::U) o op pt rest
def ZC(pt:BP)(rest:SB):SB:=⟨λtch S g t h k=>pt.f t (.o (.tuple [])) λt=>rest.f tch S g t h k⟩
def Yu(gd:Option BG)(a b:SB):SB:=
 match gd with
 |none=>a
 |some gd=>⟨λtch S g t h k=>gd.f t (a.f tch S g t h k) (b.f tch S g t h k)⟩
def Nv(N:Nat)(ops:Array Oper):List (Nat×List Nat)->SB
 |[]=>⟨λ_ _ _ t h k=>k t h⟩
 |(i,U)::rest=>
  match ops[i]? with
  |none=>⟨λ_ _ _ _ _ _=>none⟩
  |some o=>Yu (Wa ops o) (SY C N ops i U o.op (WU C o.op) (T8 N o.dst) (Nv N ops rest)) (ZC (T8 N o.dst) (Nv N ops rest))
def Nt(N:Nat)(f:FuncId):Code->BX
 | .skip=>⟨λ_ _ t h kn _ _=>kn t h⟩
 | .label _=>⟨λ_ _ t h kn _ _=>kn t h⟩
 | .region id ops draw=>bif draw then ai (Nv C N ops (C.Iy f id))else Xv (P0 C N ops ops.toList)
 | .seq a b=>Xe (Nt N f a) (Nt N f b)
 | .cond c a b=>YX (oV c) (Nt N f a) (Nt N f b)
 | .block id c=>V9 id (Nt N f c)
 | .loop c=>YU N f c (Nt N f c)
 | .scope c=>Nt N f c
 | .exit id=>⟨λ_ _ t h _ kx _=>kx id t h⟩
 | .ret=>⟨λ_ _ t h _ _ kr=>kr t h⟩
 |_=>⟨λ_ _ _ _ _ _ _=>none⟩
def Xj(op:Op):BO:=⟨λ_ g h t k=>QF (SI C.P g h (H8 t) op) k⟩
def WN(N:Nat):Code->BX
 | .region _ ops _=>(match ops.toList with
  |o::rest=>Xv (TN (Xj C o.op) (T8 N o.dst) (P0 C N ops rest))
  |[]=>⟨λ_ _ _ _ _ _ _=>none⟩)
 |_=>⟨λ_ _ _ _ _ _ _=>none⟩
def Uk(N:Nat)(f:FuncId):Code->BX
 | .seq a b=>Xe (Uk N f a) (Uk N f b)
 |c=>bif IC c then WN C N c else Nt C N f c
structure BE where f:FT->AB->(FV->AB->OV)->OV
def VA(P:Program)(t:FT)(h:AB):ResultVar->Option AA
 | .tmp i=>some (look t i).GO
 | .cell a ty=>
  match(look t a).GO with
  | .ptr (some (id,o))=>DT P (h.get id) ty o
  |_=>none
def Yy(P:Program)(rs:List ResultVar)(t:FT)(h:AB):Option AA:=
 match rs.mapM (VA P t h)with
 |some [v]=>some v
 |some vs=>some (.tuple vs)
 |none=>none
def S9(P:Program)(rs:List ResultVar):BE:=
 match rs with
 |[.tmp i]=>⟨λt h k=>T7 ((oV (.tmp i)).f t) λv=>k v h⟩
 |rs=>⟨λt h k=>Vp (Yy P rs t h) h k⟩
def VC(asE9:List FV)(i:Nat)(t:FT)(k:FT->OV):OV:=
 List.rec (motive:=λ_=>Nat->FT->OV) (λ_ t=>k t) (λv _ ih i t=>T7 v λv=>Y7 ((slot i).u t v) λt=>Oz (i+1) λi=>ih i t) asE9 i t
structure BF where f:Im->Gd->AB->List FV->(FV->AB->OV)->OV
def Xg(N:Nat)(x:BX)(e:BE):BF:=⟨λS g h asE9 k=>G2 (Nat.blt N asE9.length) none (VC asE9 0 FT.new λt=>x.f S g t h (λt h=>e.f t h k) (λ_ _ _=>none) (λt h=>e.f t h k))⟩
def Ko(sel:Bool)(f:FuncId):BF:=
 match C.P.funcs[f]? with
 |none=>⟨λ_ _ _ _ _=>none⟩
 |some fn=>
  match fn.body with
  |none=>⟨λ_ _ _ _ _=>none⟩
  |some c=>bif Nat.blt 256 fn.ntmps then⟨λ_ _ _ _ _=>none⟩else Xg fn.ntmps (bif sel then Uk C fn.ntmps f c else Nt C fn.ntmps f c) (S9 C.P fn.results.toList)
def XA(v:FV):FV:=match v with| .o a=>.o (QH a)|v=>v
def QK:List Bool->List FV->List FV
 |true::bs,v::vs=>XA v::QK bs vs
 |false::bs,v::vs=>v::QK bs vs
 |_,vs=>vs
def K7(l:List Bool)(b:BF):BF:=
 match l with
 |[]=>b
 |l=>⟨λS g h asE9 k=>b.f S g h (QK l asE9) k⟩
def Zb(f:FuncId):BF:=
 match C.kind f with
 |1=>K7 (C.still f) (Ko C false f)
 |2=>⟨λS g h asE9 k=>(Ko C false f).f S ⟨h.size,[]⟩ h asE9 λv _=>G2 (Fo v.GO) (k v h) none⟩
 |3=>⟨λS g h asE9 k=>QF (C.ext f g h (asE9.map FV.GO)) k⟩
 |4=>⟨λS g h asE9 k=>G2 ((asE9.map FV.GO).all D2) ((Ko C false f).f S ⟨0,[]⟩ ⟨0,.leaf⟩ asE9 λv _=>G2 (Fo v.GO) (k v h) none) none⟩
 |7=>⟨λS g h asE9 k=>(K7 (C.still f) (Ko C false f)).f S g h asE9 λv h=>QF (ND g h v.GO) k⟩
 |8=>K7 (C.still f) (Ko C true f)
 |9=>⟨λS g h asE9 k=>(K7 (C.still f) (Ko C false f)).f S g h asE9 λv h=>QF (Ox g h v.GO) k⟩
 |_=>⟨λ_ _ _ _ _=>none⟩
end
def RB(C:Eu):Nat->Im
 |0=>⟨λ_ _ _ _ _=>none,λ_ _ _ _ _ _ _ _ _=>none⟩
 |n+1=>⟨λg h f asE9 k=>(Zb C f).f (RB C n) g h asE9 k,λN f c g t h kn kx kr=>(Nt C N f (.loop c)).f (RB C n) g t h kn kx kr⟩
section
variable {P:Program}
theorem U7(fr:Fr)(op:Op):IJ P (ev fr) op=FA P fr op:=by cases op<;>rfl
theorem Ks(fr:Fr)(op:Op):Lu (ev fr) op=B1 fr op:=by cases op<;>rfl
theorem Q3(G:Nat->Option (List AA))(fr:Fr)(ob:Option Ay)(op:Op):Sq P G (ev fr) ob op=Gh P G fr ob op:=by cases op<;>rfl
theorem Ub(fr:Fr)(op:Op):UE P (ev fr) op=Ii P fr op:=by cases op<;>rfl
theorem U6(g:Gd)(h:AB)(fr:Fr)(op:Op):Uc P g h (ev fr) op=GF P g h fr op:=by cases op<;>rfl
theorem RA(G:Nat->Option (List AA))(g:Gd)(h:AB)(fr:Fr)(op:Op):Nk P G g h (ev fr) op=Fp P G g h fr op:=by
 unfold Nk Fp;rw[U7,Ks,Ub,U6];simp only[Q3];rfl
end
section
variable {C:Eu}
theorem Us{S:Self}{g:Gd}{h:AB}{fr:Fr}{op:Op}{r:AA×AB}(B:LZ C S.call g h (ev fr) op=some r):Ap C S g h fr op=some r:=by
 cases op with
 | call c=>
  rcases c with⟨cl,_⟩;cases cl with
  | value x=>
   unfold LZ at B;unfold Ap;dsimp only at B⊢;split at B
   ·rename_i f first cap Y
    simp only[Y];exact B
   ·cases B
  |_=>rw[HW C rfl,RA]at B;exact B
 |_=>rw[HW C rfl,RA]at B;exact B
theorem VW(x:Operand)(op:Op)(ho:op=.move x\/op=.assign x):(Z1 (oV x)).ok C op:=λF S K g h t k r B=>by
 have B:T7 ((oV x).f t) (λv=>k v h)=some r:=B;rw[MB]at B;refine⟨_,h,?_,B⟩;rw[DG];rcases ho with rfl|rfl<;>exact Dv C rfl rfl rfl
theorem YY(c a b:Operand):(aE (oV c) (oV a) (oV b)).ok C (.pick c a b):=λF S K g h t k r B=>by
 rcases QP B with⟨v,Q,h1⟩|h1
 ·have hc:H8 t c=.bool v:=by rw[<-DG,Q];rfl
  rcases DQ h1 with⟨rfl,D⟩|⟨rfl,D⟩
  ·rw[MB]at D;refine⟨_,h,Dv C rfl rfl ?_,D⟩;rw[DG];simp only[IJ,hc,zE]
  ·rw[MB]at D;refine⟨_,h,Dv C rfl rfl ?_,D⟩;rw[DG];simp only[IJ,hc,zR]
 ·cases h1
theorem Tv{P:Program}{o:BinOp}{t:TypeId}{k:IntKind}{a b:Int}(h:o≠.shl/\o≠.shr):L6 P o t (.int k a) (.int k b)=GS o k a b:=by
 unfold L6;cases o<;>simp_all
theorem WX{o:BinOp}{ty:TypeId}{x y:Operand}{kk:TypeId}{k0:IntKind}{f:BI}(hf:iB o k0=some f){gen:BO}(I:gen.ok C (.binOp o ty x y kk)):(Yr (kn k0) f gen (oV x) (oV y)).ok C (.binOp o ty x y kk):=λF S K g h t k r B=>by
 rcases IM B with⟨k1,a,Y,h1⟩|h1
 ·rcases IM h1 with⟨k2,b,hy,D⟩|D
  ·rcases DQ D with⟨W,H⟩|⟨-,H⟩
   ·simp only[zf,YA,zq]at W;obtain⟨rfl,rfl⟩:=W;obtain⟨n1,n2,v,J,M⟩:=Yl hf H;refine⟨v,h,Dv C rfl rfl ?_,M⟩;show Nq C.P o ty (PL x||PL y) (H8 t x) (H8 t y)=_;rw[<-DG,<-DG,Y,hy,<-J];exact(show Nq C.P o ty (PL x||PL y) (.int k2 a) (.int k2 b)=GS o k2 a b from Tv (P:=C.P) (t:=ty) ⟨n1,n2⟩)
   ·exact I F S K g h t k r H
  ·exact I F S K g h t k r D
 ·exact I F S K g h t k r h1
theorem XE{ty:TypeId}{x y:Operand}{kk:TypeId}{gen:BO}(I:gen.ok C (.binOp .shr ty x y kk)):(Xb gen (oV x) (oV y)).ok C (.binOp .shr ty x y kk):=λF S K g h t k r B=>by
 rcases IM B with⟨k1,a,Y,h1⟩|h1
 ·rcases IM h1 with⟨k2,b,hy,D⟩|D
  ·rcases DQ D with⟨O,H⟩|⟨-,H⟩
   ·rw[MI,zq]at O;rw[NB]at H;refine⟨_,h,Dv C rfl rfl ?_,H⟩;show Nq C.P .shr ty (PL x||PL y) (H8 t x) (H8 t y)=_;rw[<-DG,<-DG,Y,hy,UW];show Hj .shr k1 a b=_;unfold Hj;rw[zh (by omega)];rfl
   ·exact I F S K g h t k r H
  ·exact I F S K g h t k r D
 ·exact I F S K g h t k r h1
theorem Wu{ty:TypeId}{x y:Operand}{kk:TypeId}{gen:BO}(I:gen.ok C (.binOp .shl ty x y kk)):(XX gen (oV x) (oV y)).ok C (.binOp .shl ty x y kk):=λF S K g h t k r B=>by
 rcases IM B with⟨k1,a,Y,h1⟩|h1
 ·rcases IM h1 with⟨k2,b,hy,D⟩|D
  ·rcases DQ D with⟨O,H⟩|⟨-,H⟩
   ·rw[MI,zq]at O;rw[NB]at H;refine⟨_,h,Dv C rfl rfl ?_,H⟩;show Nq C.P .shl ty (PL x||PL y) (H8 t x) (H8 t y)=_;rw[<-DG,<-DG,Y,hy,K0];show Hj .shl k1 a b=_;unfold Hj;rw[zh (by omega)];rfl
   ·exact I F S K g h t k r H
  ·exact I F S K g h t k r D
 ·exact I F S K g h t k r h1
theorem UY{o:BinOp}{ty:TypeId}{x y:Operand}{kk:TypeId}(k0:Option IntKind){gen:BO}(I:gen.ok C (.binOp o ty x y kk)):(Vm gen o k0 (oV x) (oV y)).ok C (.binOp o ty x y kk):=by
 unfold Vm;split
 ·exact XE I
 ·exact Wu I
 ·split
  ·split
   ·rename_i hf;exact WX hf I
   ·exact I
  ·exact I
theorem Vs{ty:TypeId}{x:Operand}{gen:BO}(I:gen.ok C (.unOp .not ty x)):(Xu gen (oV x)).ok C (.unOp .not ty x):=λF S K g h t k r B=>by
 rcases QP B with⟨v,Q,h1⟩|h1
 ·have hc:H8 t x=.bool v:=by rw[<-DG,Q];rfl
  rcases DQ h1 with⟨rfl,D⟩|⟨rfl,D⟩
  ·exact⟨.b false,h,Dv C rfl rfl (by simp only[IJ,hc,T6];rfl),D⟩
  ·exact⟨.b true,h,Dv C rfl rfl (by simp only[IJ,hc,T6];rfl),D⟩
 ·exact I F S K g h t k r h1
theorem Xc(x:Operand)(i:Nat):(Z7 (oV x) i).ok C (.extract x i):=λF S K g h t k r B=>by
 rcases Kt B with⟨v,Q,h1⟩|h1
 ·have hc:H8 t x=v:=by rw[<-DG,Q];rfl
  unfold YV at h1;split at h1
  ·rename_i vs;obtain⟨a,D,H⟩:=LJ h1;obtain⟨y,J,M⟩:=MG H;exact⟨y,h,Dv C rfl rfl (by simp only[IJ,hc,D,J]),M⟩
  ·cases h1
 ·cases h1
theorem XV{h:AB}{id o:Nat}{k:AA->OV}{r:AA×AB}(B:XD h id o k=some r):∃gr st cs v,h.get id=some (.cells gr st cs)/\st≠0/\cs[o]?=some v/\k v=some r:=by
 unfold XD at B;rw[OW]at B;split at B
 ·rename_i ob hob;unfold YN at B;split at B
  ·rename_i gr st cs;rcases DQ B with⟨-,h1⟩|⟨h0,h1⟩
   ·cases h1
   ·obtain⟨v,D,H⟩:=LJ h1;exact⟨gr,st,cs,v,hob,(λe=>by subst e;cases h0),D,H⟩
  ·cases B
 ·cases B
theorem OJ{S:N1}{g:Gd}{h:AB}{E:Operand->AA}{ty:TypeId}{x:Operand}{id o:Nat}{ob:Ay}{v:AA}(Y:E x=.ptr (some (id,o)))(I:h.get id=some ob)(hl:DT C.P (some ob) ty o=some v):LZ C S g h E (.load ty x)=some (v,h):=by
 rw[HW C rfl];unfold Nk;rw[show AX C.P (.load ty x)=1 from rfl];simp only[Lu,Y,CM,I,Sq,hl,ze]
theorem YZ{ty:TypeId}{x:Operand}(hs:single C.P ty=true){gen:BO}(I:gen.ok C (.load ty x)):(aH gen (oV x)).ok C (.load ty x):=λF S K g h t k r B=>by
 rcases MH B with⟨id,o,Q,h1⟩|h1
 ·have hc:H8 t x=.ptr (some (id,o)):=by rw[<-DG,Q];rfl
  obtain⟨gr,st,cs,v,D,H,J,M⟩:=XV h1;obtain⟨y,T,R⟩:=MG M;refine⟨y,h,OJ hc D ?_,R⟩;have ht:Er C.P ty=some false:=by
   unfold single at hs;split at hs
   ·assumption
   ·cases hs
  have hlt:=(List.getElem?_eq_some_iff.1 J).1;unfold DT BQ;simp only[ht];rw[zk ⟨H,by omega⟩,T];have e:(cs.drop o).take 1=[v]:=by
   rw[zS hlt];rw[List.getElem?_eq_getElem hlt]at J;simp[zK J]
  rw[e]
 ·exact I F S K g h t k r h1
theorem XH{ty:TypeId}{x:Operand}{gen:BO}(I:gen.ok C (.load ty x)):(WW gen (ZX C.P ty) (oV x)).ok C (.load ty x):=by
 unfold WW;split
 ·rename_i n hn;intro F S K g h t k r B;rcases MH B with⟨id,o,Q,h1⟩|h1
  ·have hc:H8 t x=.ptr (some (id,o)):=by rw[<-DG,Q];rfl
   unfold ZX at hn;split at hn
   ·rename_i ht;unfold VG at h1;rw[OW]at h1;split at h1
    ·rename_i ob hob;unfold VN at h1;split at h1
     ·rename_i gr st cs;rcases DQ h1 with⟨-,D⟩|⟨h0,D⟩
      ·cases D
      ·rcases DQ D with⟨H,J⟩|⟨-,J⟩
       ·have J:=(Qh _ _).symm.trans J;refine⟨_,h,OJ hc hob ?_,J⟩;unfold DT BQ;simp only[ht,hn,zd];rw[zk ⟨(λe=>by subst e;cases h0),by simpa using H⟩];rfl
       ·cases J
     ·cases h1
    ·cases h1
   ·cases hn
  ·exact I F S K g h t k r h1
 ·exact I
theorem Xp{ty:TypeId}{x y:Operand}(hz:Ob C.P ty=true){gen:BO}(I:gen.ok C (.store ty x y)):(Yw gen (oV x) (oV y)).ok C (.store ty x y):=λF S K g h t k r B=>by
 rcases MH B with⟨id,o,Q,h1⟩|h1
 ·have hc:H8 t x=.ptr (some (id,o)):=by rw[<-DG,Q];rfl
  rw[MB]at h1;rcases DQ h1 with⟨ho,D⟩|⟨-,D⟩
  ·have ho':(H8 t y).one=true:=by
    rw[<-DG];revert ho;cases(oV y).f t<;>simp[FV.one,FV.GO,AA.one]
   unfold Yk at D;rw[OW]at D;split at D
   ·rename_i ob hob;unfold Ya at D;split at D
    ·rename_i gr st cs;rcases DQ D with⟨O,H⟩|⟨-,H⟩
     ·rw[zf,qL]at O;obtain⟨rfl,hm⟩:=O;obtain⟨J,M⟩:=O6 H;rw[UP]at M;refine⟨_,_,?_,M⟩;rw[HW C rfl];unfold Nk;rw[show AX C.P (.store ty x y)=3 from rfl];have hs:BK C.P ty=some 1:=by
       unfold Ob at hz;split at hz
       ·assumption
       ·cases hz
      rw[DG];simp only[Uc,hc];unfold FL;have hcl:(H8 t y).cells?=some [H8 t y]:=by
       revert ho';cases H8 t y<;>simp[AA.one,AA.cells?]
      simp only[hcl,hs];rw[zk (show[H8 t y].length=1 from rfl)];unfold BN;simp only[hob];rw[zk ⟨hm,by simp;omega,by simp[ho']⟩];have e:CN cs o [H8 t y]=cs.set o (H8 t y):=by
       unfold CN;rw[yn,zk J];simp
      rw[e];rfl
     ·cases H
    ·cases D
   ·cases D
  ·exact I F S K g h t k r D
 ·exact I F S K g h t k r h1
theorem XW{s:TypeId}{x:Operand}{f:Nat}{gen:BO}(I:gen.ok C (.fieldAddr s x f)):(ZO gen (T3 C.P s f) (oV x)).ok C (.fieldAddr s x f):=by
 unfold ZO;split
 ·rename_i c Z;intro F S K g h t k r B;rcases MH B with⟨id,o,Q,h1⟩|h1
  ·have hc:H8 t x=.ptr (some (id,o)):=by rw[<-DG,Q];rfl
   rw[G9]at h1;refine⟨_,h,Dv C rfl rfl ?_,h1⟩;simp only[IJ,hc];unfold T3 at Z;unfold FK;split at Z
   ·rename_i fs hu;split at Z
    ·rename_i fd hfd;split at Z
     ·rename_i z hz;injection Z with Z;subst Z;simp only[hu,hfd,hz];rfl
     ·cases Z
    ·cases Z
   ·cases Z
  ·exact I F S K g h t k r h1
 ·exact I
theorem Yp{s d:TypeId}{x:Operand}{gen:BO}(I:gen.ok C (.convert s d x)):(Zk gen (To C.P s d) (oV x)).ok C (.convert s d x):=by
 unfold Zk;split
 ·rename_i k0 W;intro F S K g h t k r B;rcases IM B with⟨k1,a,Y,h1⟩|h1
  ·have hc:H8 t x=.int k1 a:=by rw[<-DG,Y];rfl
   rw[NB]at h1;unfold To WG at W;split at W
   ·rename_i u hu;split at W
    ·rename_i k2 hd;injection W with W;subst W;refine⟨_,h,Dv C rfl ?_ ?_,h1⟩
     ·unfold AX;simp only[hu,hd]
     ·simp only[IJ,hc,LX,hu,hd,K0];rfl
    ·cases W
   ·cases W
  ·exact I F S K g h t k r h1
 ·exact I
theorem Vv{ty:TypeId}{x i:Operand}{n z:Nat}{e:TypeId}(hu:C.P.underlying ty=some (.array n e))(hz:BK C.P e=some z){gen:BO}(I:gen.ok C (.indexAddr ty x i)):(Yf gen n z (oV x) (oV i)).ok C (.indexAddr ty x i):=λF S K g h t k r B=>by
 rcases MH B with⟨id,o,Q,h1⟩|h1
 ·have hc:H8 t x=.ptr (some (id,o)):=by rw[<-DG,Q];rfl
  rcases IM h1 with⟨k1,a,Y,D⟩|D
  ·have V:H8 t i=.int k1 a:=by rw[<-DG,Y];rfl
   rcases Mo D with⟨m,rfl,H⟩|H
   ·rcases DQ H with⟨hm,J⟩|⟨-,J⟩
    ·rw[yc]at hm;rw[G9]at J;refine⟨_,h,Dv C rfl rfl ?_,J⟩;simp only[IJ,hc,V,DJ,hu,hz,ze];rw[zk ⟨yw _,by exact_mod_cast hm⟩];rfl
    ·cases J
   ·cases H
  ·cases D
 ·exact I F S K g h t k r h1
theorem V6{ty:TypeId}{x i:Operand}{z:Nat}{e:TypeId}(hu:C.P.underlying ty=some (.slice e))(hz:BK C.P e=some z){gen:BO}(I:gen.ok C (.indexAddr ty x i)):(XU gen z (oV x) (oV i)).ok C (.indexAddr ty x i):=λF S K g h t k r B=>by
 rcases Kt B with⟨v,Q,h1⟩|h1
 ·unfold aR at h1;split at h1
  ·rename_i id o n;have hc:H8 t x=.slice (some (id,o)) n:=by rw[<-DG,Q];rfl
   rcases IM h1 with⟨k1,a,Y,D⟩|D
   ·have V:H8 t i=.int k1 a:=by rw[<-DG,Y];rfl
    rcases Mo D with⟨m,rfl,H⟩|H
    ·rcases DQ H with⟨hm,J⟩|⟨-,J⟩
     ·rw[yc]at hm;rw[G9]at J;refine⟨_,h,Dv C rfl rfl ?_,J⟩;simp only[IJ,hc,V,DJ,hu,hz,ze];rw[zk ⟨yw _,by exact_mod_cast hm⟩];rfl
     ·cases J
    ·cases H
   ·cases D
  ·exact I F S K g h t k r h1
 ·exact I F S K g h t k r h1
theorem Xh{ty:TypeId}{x i:Operand}{gen:BO}(I:gen.ok C (.indexAddr ty x i)):(Ow gen (YW C.P ty) (oV x) (oV i)).ok C (.indexAddr ty x i):=by
 unfold YW;split
 ·rename_i n e hu;split
  ·rename_i z hz;exact Vv hu hz I
  ·exact I
 ·rename_i e hu;split
  ·rename_i z hz;exact V6 hu hz I
  ·exact I
 ·exact I
theorem WO{ty:TypeId}{x i:Operand}{gen:BO}(I:gen.ok C (.index ty x i)):(WK C.P gen ty (oV x) (oV i)).ok C (.index ty x i):=by
 unfold WK;split
 ·rename_i hu;intro F S K g h t k r B;rcases Kt B with⟨v,Q,h1⟩|h1
  ·unfold aP at h1;split at h1
   ·rename_i s;have hc:H8 t x=.str s:=by rw[<-DG,Q];rfl
    rcases IM h1 with⟨k1,a,Y,D⟩|D
    ·have V:H8 t i=.int k1 a:=by rw[<-DG,Y];rfl
     rcases Mo D with⟨m,rfl,H⟩|H
     ·obtain⟨c,J,M⟩:=LJ H;rw[G9]at M;refine⟨_,h,Dv C rfl rfl ?_,M⟩;simp only[IJ,hc,V,Hl,hu];rw[zk (yw _),zu,J];rfl
     ·cases H
    ·cases D
   ·exact I F S K g h t k r h1
  ·exact I F S K g h t k r h1
 ·rename_i n e hu;cases O:single C.P e&&Ob C.P e with
  |false=>exact I
  | true=>
   rw[zf]at O;have hz:BK C.P e=some 1:=by
    have:=O.2;unfold Ob at this;split at this
    ·assumption
    ·cases this
   have ht:Er C.P e=some false:=by
    have:=O.1;unfold single at this;split at this
    ·assumption
    ·cases this
   intro F S K g h t k r B;rcases Kt B with⟨v,Q,h1⟩|h1
   ·unfold aG at h1;split at h1
    ·rename_i s;have hc:H8 t x=.agg s:=by rw[<-DG,Q];rfl
     rcases IM h1 with⟨k1,a,Y,D⟩|D
     ·have V:H8 t i=.int k1 a:=by rw[<-DG,Y];rfl
      rcases Mo D with⟨m,rfl,H⟩|H
      ·rcases DQ H with⟨hm,H⟩|⟨-,H⟩
       ·rw[yc]at hm;obtain⟨c,J,M⟩:=LJ H;obtain⟨y,T,R⟩:=MG M;refine⟨_,h,Dv C rfl rfl ?_,R⟩;simp only[IJ,hc,V,Hl,hu,hz,zd];rw[zk ⟨yw _,by exact_mod_cast hm⟩,zu,Nat.mul_one];unfold Dw;simp only[ht,J,T]
       ·cases H
      ·cases H
     ·cases D
    ·exact I F S K g h t k r h1
   ·exact I F S K g h t k r h1
 ·exact I
theorem Q7(l:List AA):(l.map YL).map FV.GO=l:=by
 rw[List.map_map]
 conv=>rhs;rw[<-List.map_id l]
 exact qn λx _=>Ti x
theorem OH{c:Call}{x:Operand}(hcl:c.callee=.value x):(aO (oV x) (oL c.args.toList)).ok C (.call c):=λF S K g h t k r B=>by
 rcases c with⟨cl,asE9,ats⟩;obtain rfl:cl=.value x:=hcl;rcases Kt B with⟨v,Q,h1⟩|h1
 ·have hc:H8 t x=v:=by rw[<-DG,Q];rfl
  unfold aI at h1;split at h1
  ·rename_i fn a b;split at h1
   ·rename_i q;obtain⟨y,h',D,H⟩:=K _ _ _ _ _ _ h1;refine⟨y,h',?_,H⟩;unfold LZ;simp only[hc];rw[<-D,yy,yy,Q7,Q7,Qr]
   ·cases h1
  ·cases h1
 ·cases h1
theorem Uz{c:Call}{x:Operand}(hcl:c.callee=.value x):(Sb x (oL c.args.toList)).ok C (.call c):=by
 unfold Sb;split
 ·rename_i f;intro F S K g h t k r B;rcases c with⟨cl,asE9,ats⟩;obtain rfl:cl=.value (.func f):=hcl;obtain⟨y,h',D,H⟩:=K _ _ _ _ _ _ B;refine⟨y,h',?_,H⟩;unfold LZ;simp only[H8];rw[<-D,Qr,yg,z9]
 ·exact OH hcl
theorem RM{op:Op}{f:FT->Option AA}(hn:L2 op=true)(hc:AX C.P op=0)(hf:∀t,IJ C.P (H8 t) op=f t):(pO f).ok C op:=λF S K g h t k r B=>by
 obtain⟨x,h1,D⟩:=Qi B;exact⟨x,h,Dv C hn hc (by rw[hf,h1]),D⟩
theorem Vb{op:Op}{n:AB->FT->Option Mc}(hn:L2 op=true)(hc:AX C.P op=2)(hf:∀h t,UE C.P (H8 t) op=n h t){F:PO}{S:N1}{g:Gd}{h:AB}{t:FT}{k:FV->AB->OV}{r:AA×AB}(B:Y6 h (n h t) k=some r):
  ∃x h',LZ C S g h (H8 t) op=some (FV.GO x,h')/\k x h'=some r:=by
 unfold Y6 at B;split at B
 ·rename_i a b hab;rw[Ww]at B;obtain⟨x,h1,D⟩:=MG B;refine⟨x,_,?_,D⟩;rw[HW C hn];unfold Nk;rw[hc];simp only[hf h,hab,ze,h1]
 ·cases B
theorem X0{x:Operand}{gen:BO}(I:gen.ok C (.nilCheck x)):(aF gen (oV x)).ok C (.nilCheck x):=λF S K g h t k r B=>by
 rcases MH B with⟨id,o,Q,h1⟩|h1
 ·have hc:H8 t x=.ptr (some (id,o)):=by rw[<-DG,Q];rfl
  exact⟨_,h,Dv C rfl rfl (by simp only[IJ,hc];rfl),h1⟩
 ·exact I F S K g h t k r h1
theorem Wj{c:Call}{b:Go.Builtin}(hcl:c.callee=.builtin b){gen:BO}(I:gen.ok C (.call c)):(blt C.P gen b c.args.toList c.argTypes).ok C (.call c):=by
 rcases c with⟨cl,asE9,ts⟩;obtain rfl:cl=.builtin b:=hcl;unfold blt;split
 ·split
  ·rename_i x has;have has:asE9.toList=[x]:=has;show(VP gen (ZP C.P ts) (oV x)).ok C _;unfold ZP;split
   ·exact I
   ·rename_i ty hty;split
    ·rename_i hu;intro F S K g h t k r B;rcases Kt B with⟨v,Q,h1⟩|h1
     ·have hc:H8 t x=v:=by rw[<-DG,Q];rfl
      unfold Z3 at h1;split at h1
      ·rename_i s;rw[G9]at h1;refine⟨_,h,Dv C rfl ?_ ?_,h1⟩
       ·unfold AX;simp only[hty,hu]
       ·simp only[IJ,has,yu,qw,hc,M1,hty,hu];rfl
      ·exact I F S K g h t k r h1
     ·exact I F S K g h t k r h1
    ·rename_i e hu;intro F S K g h t k r B;rcases Kt B with⟨v,Q,h1⟩|h1
     ·have hc:H8 t x=v:=by rw[<-DG,Q];rfl
      unfold Z4 at h1;split at h1
      ·rename_i n;rw[G9]at h1;refine⟨_,h,Dv C rfl ?_ ?_,h1⟩
       ·unfold AX;simp only[hty,hu]
       ·simp only[IJ,has,yu,qw,hc,M1,hty,hu];rfl
      ·rename_i n;rw[G9]at h1;refine⟨_,h,Dv C rfl ?_ ?_,h1⟩
       ·unfold AX;simp only[hty,hu]
       ·simp only[IJ,has,yu,qw,hc,M1,hty,hu];rfl
      ·exact I F S K g h t k r h1
     ·exact I F S K g h t k r h1
    ·exact I
  ·exact I
 ·split
  ·rename_i x y has;have has:asE9.toList=[x,y]:=has;intro F S K g h t k r B;obtain⟨v,h',h1,D⟩:=KZ B;refine⟨v,h',?_,D⟩;rw[HW C rfl];unfold Nk;rw[show AX C.P (.call ⟨.builtin .append,asE9,ts⟩)=3 from rfl];simp only[Uc,has,yu,qw];rw[<-DG,<-DG];exact h1
  ·exact I
 ·exact I
theorem QV(op:Op):(WU C op).ok C op:=by
 unfold WU;split
 ·exact VW _ _ (.inl rfl)
 ·exact VW _ _ (.inr rfl)
 ·exact YY _ _ _
 ·exact UY _ (Ha C rfl)
 ·split
  ·exact Vs (Ha C rfl)
  ·exact Ha C rfl
 ·exact Xc _ _
 ·cases hs:single C.P _ with
  |true=>exact YZ hs (Ha C rfl)
  |false=>exact XH (Ha C rfl)
 ·cases hz:Ob C.P _ with
  |true=>exact Xp hz (Ha C rfl)
  |false=>exact Ha C rfl
 ·exact XW (Ha C rfl)
 ·exact Xh (Ha C rfl)
 ·exact WO (Ha C rfl)
 ·exact Yp (Ha C rfl)
 ·exact λF S K g h t k r B=>Vb (n:=λ_ _=>(Ew C.P _).bind Ez) (F:=F) rfl rfl (λ_ _=>rfl) B
 ·rename_i c;split
  ·rename_i x Y;exact Uz Y
  ·rename_i b O;refine Wj O (Ha C ?_);rcases c with⟨cl,_⟩;obtain rfl:cl=_:=O;rfl
  ·rename_i h1 D;refine Ha C ?_;rcases c with⟨cl,_⟩;cases cl with
   |value x=>exact absurd rfl (h1 x)
   |_=>rfl
 ·exact RM rfl rfl λt=>by simp only[IJ,vA,DG]
 ·split
  ·cases hs:isStr C.P _ with
   | true=>
    refine RM rfl ?_ λt=>?_
    ·unfold isStr at hs;split at hs
     ·rename_i hu;unfold AX;simp only[hu]
     ·cases hs
    ·rename_i lo V _;simp only[IJ,vA,DG];cases lo<;>cases V<;>simp only[Zq,vA,DG,ze,Option.map_none]
   |false=>exact Ha C rfl
  ·exact Ha C rfl
 ·exact RM rfl rfl λt=>by simp only[IJ,vA,DG]
 ·exact RM rfl rfl λt=>by simp only[IJ,Qr]
 ·exact X0 (Ha C rfl)
 ·exact λF S K g h t k r B=>Vb (n:=λ_ t=>Ez (vA _ t)) (F:=F) rfl rfl (λ_ t=>by simp only[UE,vA,DG]) B
 ·refine Ha C ?_;cases op<;>first|rfl|(exfalso;simp_all;done)
def IX(N:Nat)(fr:Fr)(t:FT):Prop:=fr.length=N/\∀i,nth fr i=(look t i).GO
theorem IX.ev{N:Nat}{fr:Fr}{t:FT}(h:IX N fr t):H8 t=Go.Av.ev fr:=by
 funext x;cases x with
 |tmp i=>exact(h.2 i).symm
 |_=>rfl
theorem Tp(t:FT)(v:FV)(d j:Nat)(hd:d<256):look ((slot d).u t v) j=if d=j then v else look t j:=by
 unfold look;by_cases hj:j<256
 ·have e:Nat.blt j 256=true:=by rw[yc];exact hj
  simp only[e,zE];exact U9 _ _ _ _ hd hj
 ·have e:Nat.blt j 256=false:=by
   cases O:Nat.blt j 256 with
   |true=>rw[yc]at O;omega
   |false=>rfl
  simp only[e,zR];rw[zh (by omega)]
theorem OA{N:Nat}{dst:Option Tmp}{t:FT}{v:FV}{k:FT->OV}{r:AA×AB}{fr:Fr}(L:IX N fr t)(h:(T8 N dst).f t v k=some r):∃t',IX N (put fr dst v.GO) t'/\k t'=some r:=by
 unfold T8 at h;split at h
 ·rename_i d;cases O:Nat.blt d N&&Nat.blt d 256 with
  |false=>rw[O]at h;cases h
  |true=>
   rw[O]at h;simp only[zf,yc]at O;refine⟨(slot d).u t v,⟨by simp[put,L.1],λi=>?_⟩,(TS _ _).symm.trans h⟩;show nth (fr.set d v.GO) i=_;rw[Ey,Tp _ _ _ _ O.2,L.1];by_cases hd:d=i
   ·rw[zk ⟨hd,O.1⟩,zk hd]
   ·rw[zh (λh=>hd h.1),zh hd,L.2]
 ·exact⟨t,L,h⟩
theorem QI(ops:Array Oper)(fr:Fr)(o:Oper):RH ops (ev fr) o=A6 ops fr o:=rfl
theorem MO(P:Program)(h:AB)(fr:Fr)(i:Nat)(op:Op)(tch:List (Nat×Nat)):La P h (ev fr) i op tch=C0 P h fr i op tch:=by
 simp only[La,C0,Ks];rfl
theorem Rs(ops:Array Oper)(fr:Fr)(h:AB)(i:Nat):Qa C ops fr.length (ev fr) h i=MP C ops fr h i:=by
 unfold Qa MP;simp only[QI,Ks,Q3];rfl
theorem Sx(ops:Array Oper)(U:List Nat)(fr:Fr)(h:AB):TV C ops U fr.length (ev fr) h=JG C ops U fr h:=by
 unfold TV JG;refine congrArg (U.all ·) (funext λu=>?_);rw[Rs]
theorem Vi{ops:Array Oper}{o:Oper}{gd:BG}(I:Wa ops o=some gd){t:FT}{fr:Fr}{N:Nat}(L:IX N fr t){kt kf:OV}{r:AA×AB}(h:gd.f t kt kf=some r):(A6 ops fr o=some true/\kt=some r)\/(A6 ops fr o=some false/\kf=some r):=by
 unfold Wa at I;unfold A6;split at I
 ·cases I
 ·rename_i j want hgd;simp only[hgd];split at I
  ·rename_i hd;injection I with I;subst I;simp only[hd];exact .inr ⟨trivial,h⟩
  ·rename_i d hd;injection I with I;subst I;simp only[hd];have h:aC want ((oV (.tmp d)).f t) kt kf=some r:=h;rw[S5]at h;rw[L.2 d];revert h;cases look t d with
   |i k n=>intro h;exact .inr ⟨rfl,h⟩
   |p a b=>intro h;exact .inr ⟨rfl,h⟩
   |b b=>
    intro h;rcases DQ (x:=kt) (y:=kf) h with⟨h1,D⟩|⟨h1,D⟩
    ·exact .inl ⟨congrArg some h1,D⟩
    ·exact .inr ⟨congrArg some h1,D⟩
   |o a=>
    intro h;cases a<;>first|exact .inr ⟨rfl,h⟩|cases h
theorem RL{ops:Array Oper}{o:Oper}(I:Wa ops o=none)(fr:Fr):A6 ops fr o=some true:=by
 unfold Wa at I;unfold A6;split at I
 ·rename_i h;rw[h]
 ·split at I<;>cases I
def Y3(e:Br)(t:FT)(h:AB)(kn:KN)(kx:Nat->KN)(kr:KN):OV:=
 match e with
 | .normal=>kn t h
 | .exit i=>kx i t h
 | .ret=>kr t h
structure Ip(F:Im)(S:Self):Prop where
 call:Ot F.call S.call
 loop:∀N f c g t h kn kx kr r fr,IX N fr t->F.loop N f c g t h kn kx kr=some r->∃e fr' t' h',S.loop g f c fr h=some (e,fr',h')/\IX N fr' t'/\Y3 e t' h' kn kx kr=some r
theorem Of{F:Im}{S:Self}(K:Ip F S){op:Op}{b:BO}(O:b.ok C op){g:Gd}{h:AB}{t:FT}{fr:Fr}{N:Nat}(L:IX N fr t){k:FV->AB->OV}{r:AA×AB}(B:b.f F.call g h t k=some r):
  ∃x h',Ap C S g h fr op=some (FV.GO x,h')/\k x h'=some r:=by
 obtain⟨x,h',h1,D⟩:=O F.call S.call K.call g h t k r B;rw[L.ev]at h1;exact⟨x,h',Us h1,D⟩
theorem Ml{F:Im}{S:Self}(K:Ip F S){N:Nat}{ops:Array Oper}{g:Gd}:∀(l:List Oper) {t:FT} {h:AB} {kn:KN} {r:AA×AB} {fr:Fr},IX N fr t->(P0 C N ops l).f F g t h kn=some r->
  ∃fr' t' h',Ce C S g ops l fr h=some (fr',h')/\IX N fr' t'/\kn t' h'=some r
 |[],t,h,kn,r,fr,L,B=>⟨fr,t,h,rfl,L,B⟩
 | o::rest,t,h,kn,r,fr,L,B=>by
  have yes:∀{t:FT} {h:AB},IX N fr t->A6 ops fr o=some true->(TN (WU C o.op) (T8 N o.dst) (P0 C N ops rest)).f F g t h kn=some r->∃fr' t' h',Ce C S g ops (o::rest) fr h=some (fr',h')/\IX N fr' t'/\kn t' h'=some r:=λ{t h} L hw B=>by
   obtain⟨x,h1,D,H⟩:=Of K (QV o.op) L B;obtain⟨t2,J,M⟩:=OA L H;obtain⟨fr',t',h',T,R,X⟩:=Ml K rest J M;exact⟨fr',t',h',by rw[Ce,hw];simp only[D];exact T,R,X⟩
  have B:(Tz (Wa ops o) (WU C o.op) (T8 N o.dst) (P0 C N ops rest)).f F g t h kn=some r:=B;unfold Tz at B;split at B
  ·rename_i I;exact yes L (RL I fr) B
  ·rename_i gd I;rcases Vi I L B with⟨hw,h1⟩|⟨hw,h1⟩
   ·exact yes L hw h1
   ·obtain⟨t2,J,M⟩:=OA L h1;obtain⟨fr',t',h',T,R,X⟩:=Ml K rest J M;exact⟨fr',t',h',by rw[Ce,hw];exact T,R,X⟩
theorem Lk{F:Im}{S:Self}(K:Ip F S){N:Nat}{ops:Array Oper}{g:Gd}:∀(l:List (Nat×List Nat)) {tch:List (Nat×Nat)} {t:FT} {h:AB} {kn:KN} {r:AA×AB} {fr:Fr},IX N fr t->(Nv C N ops l).f tch F g t h kn=some r->
  ∃fr' t' h',BA C S g ops l tch fr h=some (fr',h')/\IX N fr' t'/\kn t' h'=some r
 |[],tch,t,h,kn,r,fr,L,B=>⟨fr,t,h,rfl,L,B⟩
 | (i,U)::rest,tch,t,h,kn,r,fr,L,B=>by
  unfold Nv at B;split at B
  ·cases B
  ·rename_i o ho;have yes:A6 ops fr o=some true->(SY C N ops i U o.op (WU C o.op) (T8 N o.dst) (Nv C N ops rest)).f tch F g t h kn=some r->∃fr' t' h',BA C S g ops ((i,U)::rest) tch fr h=some (fr',h')/\IX N fr' t'/\kn t' h'=some r:=λhw B=>by
    unfold SY at B;split at B
    ·obtain⟨x,h1,D,H⟩:=Of K (QV o.op) L B;obtain⟨t2,J,M⟩:=OA L H;rw[L.ev,MO]at M;obtain⟨fr',t',h',T,R,X⟩:=Lk K rest J M;refine⟨fr',t',h',?_,R,X⟩;rw[BA,ho];simp only[hw,FP,yg];rw[D];simp only[show JG C ops [] (put fr o.dst x.GO) h1=true from rfl,zE];exact T
    ·rename_i u U;obtain⟨x,h1,D,H⟩:=Of K (QV o.op) L B;obtain⟨t2,J,M⟩:=OA L H;rcases DQ M with⟨hre,M⟩|⟨-,M⟩
     ·rw[L.ev,MO]at M;rw[J.ev,<-J.1,Sx]at hre;obtain⟨fr',t',h',T,R,X⟩:=Lk K rest J M;refine⟨fr',t',h',?_,R,X⟩;rw[BA,ho];simp only[hw];rw[D];simp only[hre,zE];exact T
     ·cases M
   unfold Yu at B;split at B
   ·rename_i I;exact yes (RL I fr) B
   ·rename_i gd I;rcases Vi I L B with⟨hw,h1⟩|⟨hw,h1⟩
    ·exact yes hw h1
    ·obtain⟨t2,J,M⟩:=OA L h1;obtain⟨fr',t',h',T,R,X⟩:=Lk K rest J M;exact⟨fr',t',h',by rw[BA,ho];simp only[hw];exact T,R,X⟩
theorem QX{F:Im}{S:Self}(K:Ip F S){N:Nat}{f:FuncId}{g:Gd}:∀(c:Code) {t:FT} {h:AB} {kn:KN} {kx:Nat->KN} {kr:KN} {r:AA×AB} {fr:Fr},IX N fr t->(Nt C N f c).f F g t h kn kx kr=some r->
  ∃e fr' t' h',Aa C S f g c fr h=some (e,fr',h')/\IX N fr' t'/\Y3 e t' h' kn kx kr=some r:=by
 intro c
 induction c with
 |skip=>intro t h kn kx kr r fr L B;exact⟨.normal,fr,t,h,rfl,L,B⟩
 |label l=>intro t h kn kx kr r fr L B;exact⟨.normal,fr,t,h,rfl,L,B⟩
 |exit id=>intro t h kn kx kr r fr L B;exact⟨.exit id,fr,t,h,rfl,L,B⟩
 |ret=>intro t h kn kx kr r fr L B;exact⟨.ret,fr,t,h,rfl,L,B⟩
 | region id ops draw=>
  intro t h kn kx kr r fr L B;unfold Nt at B;cases draw with
  |true=>
   obtain⟨fr',t',h',h1,D,H⟩:=Lk K _ L B;exact⟨.normal,fr',t',h',by simp only[Aa,zE,h1],D,H⟩
  |false=>
   obtain⟨fr',t',h',h1,D,H⟩:=Ml K _ L B;exact⟨.normal,fr',t',h',by simp only[Aa,zR,h1],D,H⟩
 | seq a b iha ihb=>
  intro t h kn kx kr r fr L B;obtain⟨e,fr1,t1,h1,D,H,J⟩:=iha L (show(Nt C N f a).f F g t h (λt h=>(Nt C N f b).f F g t h kn kx kr) kx kr=some r from B);cases e with
  |normal=>
   obtain⟨e,fr2,t2,M,T,R,X⟩:=ihb H J;exact⟨e,fr2,t2,M,by simp only[Aa,D,T],R,X⟩
  |exit i=>exact⟨.exit i,fr1,t1,h1,by simp only[Aa,D],H,J⟩
  |ret=>exact⟨.ret,fr1,t1,h1,by simp only[Aa,D],H,J⟩
 | cond x a b iha ihb=>
  intro t h kn kx kr r fr L B;rcases QP (show Xw ((oV x).f t) (λv=>G2 v ((Nt C N f a).f F g t h kn kx kr) ((Nt C N f b).f F g t h kn kx kr)) none=some r from B)with⟨v,Q,h1⟩|h1
  ·have hc:ev fr x=.bool v:=by rw[<-L.ev,<-DG,Q];rfl
   rcases DQ h1 with⟨rfl,D⟩|⟨rfl,D⟩
   ·obtain⟨e,fr1,t1,h1,H,J,M⟩:=iha L D;exact⟨e,fr1,t1,h1,by simp only[Aa,hc,H],J,M⟩
   ·obtain⟨e,fr1,t1,h1,H,J,M⟩:=ihb L D;exact⟨e,fr1,t1,h1,by simp only[Aa,hc,H],J,M⟩
  ·cases h1
 | block id c ih=>
  intro t h kn kx kr r fr L B;obtain⟨e,fr1,t1,h1,D,H,J⟩:=ih L (show(Nt C N f c).f F g t h kn (λi t h=>G2 (Nat.beq i id) (kn t h) (kx i t h)) kr=some r from B);cases e with
  |normal=>exact⟨.normal,fr1,t1,h1,by simp only[Aa,D],H,J⟩
  |ret=>exact⟨.ret,fr1,t1,h1,by simp only[Aa,D],H,J⟩
  |exit i=>
   rcases DQ (show G2 (Nat.beq i id) (kn t1 h1) (kx i t1 h1)=some r from J)with⟨O,M⟩|⟨O,M⟩
   ·exact⟨.normal,fr1,t1,h1,by simp only[Aa,D,O,zE],H,M⟩
   ·exact⟨.exit i,fr1,t1,h1,by simp only[Aa,D,O,zR],H,M⟩
 | loop c ih=>
  intro t h kn kx kr r fr L B;obtain⟨e,fr1,t1,h1,D,H,J⟩:=ih L (show(Nt C N f c).f F g t h (λt h=>F.loop N f c g t h kn kx kr) kx kr=some r from B);cases e with
  |normal=>
   obtain⟨e,fr2,t2,M,T,R,X⟩:=K.loop N f c g t1 h1 kn kx kr r fr1 H J;exact⟨e,fr2,t2,M,by simp only[Aa,D,T],R,X⟩
  |exit i=>exact⟨.exit i,fr1,t1,h1,by simp only[Aa,D],H,J⟩
  |ret=>exact⟨.ret,fr1,t1,h1,by simp only[Aa,D],H,J⟩
 |scope c ih=>
  intro t h kn kx kr r fr L B;obtain⟨e,fr1,t1,h1,D,H,J⟩:=ih L (show(Nt C N f c).f F g t h kn kx kr=some r from B);exact⟨e,fr1,t1,h1,by simp only[Aa,D],H,J⟩
 |_=>intro t h kn kx kr r fr L B;cases B
theorem W6{F:Im}{S:Self}(K:Ip F S){N:Nat}{f:FuncId}{g:Gd}:∀(c:Code) {t:FT} {h:AB} {kn:KN} {kx:Nat->KN} {kr:KN} {r:AA×AB} {fr:Fr},IX N fr t->(Uk C N f c).f F g t h kn kx kr=some r->
  ∃e fr' t' h',GY C S f g c fr h=some (e,fr',h')/\IX N fr' t'/\Y3 e t' h' kn kx kr=some r:=by
 have base:∀(c:Code),(∀fr h,GY C S f g c fr h=bif IC c then Hr C S g c fr h else Aa C S f g c fr h)->Uk C N f c=(bif IC c then WN C N c else Nt C N f c)->∀{t:FT} {h:AB} {kn:KN} {kx:Nat->KN} {kr:KN} {r:AA×AB} {fr:Fr},IX N fr t->(Uk C N f c).f F g t h kn kx kr=some r->
  ∃e fr' t' h',GY C S f g c fr h=some (e,fr',h')/\IX N fr' t'/\Y3 e t' h' kn kx kr=some r:=by
  intro c h1 D t h kn kx kr r fr L B;rw[D]at B;rw[h1];cases hs:IC c with
  |false=>
   rw[hs]at B;exact QX K c L B
  | true=>
   rw[hs]at B;simp only[zE]at B⊢;unfold WN at B;split at B
   ·rename_i id ops draw;split at B
    ·rename_i o rest hops;have B:(TN (Xj C o.op) (T8 N o.dst) (P0 C N ops rest)).f F g t h kn=some r:=B;obtain⟨x,H,J,M⟩:=KZ (q:=SI C.P g h (H8 t) o.op) B;obtain⟨t2,T,R⟩:=OA L M;obtain⟨fr',t',h',X,h9,h10⟩:=Ml K rest T R;have e:SI C.P g h (ev fr) o.op=Rn C.P g h fr o.op:=by cases o.op<;>rfl
     rw[L.ev,e]at J;exact⟨.normal,fr',t',h',by simp only[Hr,hops,J,X],h9,h10⟩
    ·cases B
   ·cases B
 intro c
 induction c with
 | seq a b iha ihb=>
  intro t h kn kx kr r fr L B;obtain⟨e,fr1,t1,h1,D,H,J⟩:=iha L (show(Uk C N f a).f F g t h (λt h=>(Uk C N f b).f F g t h kn kx kr) kx kr=some r from B);cases e with
  |normal=>
   obtain⟨e,fr2,t2,M,T,R,X⟩:=ihb H J;exact⟨e,fr2,t2,M,by simp only[GY,D,T],R,X⟩
  |exit i=>exact⟨.exit i,fr1,t1,h1,by simp only[GY,D],H,J⟩
  |ret=>exact⟨.ret,fr1,t1,h1,by simp only[GY,D],H,J⟩
 |_=>intro t h kn kx kr r fr L B;exact base _ (λ_ _=>rfl) rfl L B
theorem Oh{N:Nat}{fn:Func}{fr:Fr}{t:FT}(L:IX N fr t){h:AB}{k:FV->AB->OV}{r:AA×AB}(B:(S9 C.P fn.results.toList).f t h k=some r):∃x,Cy C.P fn fr h=some (FV.GO x)/\k x h=some r:=by
 have e1:∀rv,VA C.P t h rv=Dj C.P fr h rv:=λrv=>by
  cases rv with
  |tmp i=>exact congrArg some (L.2 i).symm
  |cell a ty=>simp only[VA,Dj,L.2 a];rfl
 unfold S9 at B;split at B
 ·rename_i i V;have B:T7 ((oV (.tmp i)).f t) (λv=>k v h)=some r:=B;rw[MB,S5]at B;refine⟨_,?_,B⟩;unfold Cy;rw[V];exact congrArg some (L.2 i)
 ·obtain⟨x,h1,D⟩:=Qi B;refine⟨x,?_,D⟩;rw[<-h1];unfold Cy Yy;rw[show VA C.P t h=Dj C.P fr h from funext e1];rfl
theorem Tj{k:FT->OV}{r:AA×AB}:∀{asE9:List FV} {i:Nat} {t:FT},i+asE9.length<=256->VC asE9 i t k=some r->∃t',k t'=some r/\∀j,look t' j=if i<=j then(asE9[j - i]?).getD (look t j)else look t j
 |[],i,t,_,h=>⟨t,h,λj=>by simp⟩
 | v::vs,i,t,hl,h=>by
  have h:T7 v (λv=>Y7 ((slot i).u t v) λt=>Oz (i+1) λi=>VC vs i t k)=some r:=h;rw[MB,TS,G9]at h;simp only[zT]at hl;obtain⟨t',h1,D⟩:=Tj (by omega) h;refine⟨t',h1,λj=>?_⟩;rw[D j,Tp _ _ _ _ (by omega)];by_cases H:i+1<=j
  ·rw[zk H,zh (show ¬i=j by omega),zk (show i<=j by omega)];obtain⟨m,rfl⟩:∃m,j=i+1+m:=⟨j - (i+1),by omega⟩;rw[show i+1+m - i=m+1 by omega,show i+1+m - (i+1)=m by omega,List.getElem?_cons_succ]
  ·rw[zh H];by_cases J:i=j
   ·subst J;rw[zk rfl,zk (zr _),qU];rfl
   ·rw[zh J,zh (by omega)]
theorem Td(j:Nat):look FT.new j=.o (.tuple []):=by
 unfold look;cases Nat.blt j 256
 ·rfl
 ·exact SV j
theorem Mn{F:Im}{S:Self}(K:Ip F S){sel:Bool}{f:FuncId}{g:Gd}{h:AB}{asE9:List FV}{k:FV->AB->OV}{r:AA×AB}(B:(Ko C sel f).f F g h asE9 k=some r):
  ∃x h',(bif sel then Ki C S g h f (asE9.map FV.GO)else Dn C S g h f (asE9.map FV.GO))=some (FV.GO x,h')/\k x h'=some r:=by
 unfold Ko at B;split at B
 ·cases B
 ·rename_i fn hfn;split at B
  ·cases B
  ·rename_i c hc;cases hN:Nat.blt 256 fn.ntmps with
   |true=>rw[hN]at B;cases B
   | false=>
    rw[hN]at B;have hN:fn.ntmps<=256:=by
     have:¬(256<fn.ntmps):=λh=>by rw[<-yc]at h;rw[h]at hN;cases hN
     omega
    have B:G2 (Nat.blt fn.ntmps asE9.length) none (VC asE9 0 FT.new λt=>(bif sel then Uk C fn.ntmps f c else Nt C fn.ntmps f c).f F g t h (λt h=>(S9 C.P fn.results.toList).f t h k) (λ_ _ _=>none) (λt h=>(S9 C.P fn.results.toList).f t h k))=some r:=B;rcases DQ B with⟨-,h1⟩|⟨O,h1⟩
    ·cases h1
    ·have hl:asE9.length<=fn.ntmps:=by
      have:¬(fn.ntmps<asE9.length):=λh=>by rw[<-yc]at h;rw[h]at O;cases O
      omega
     obtain⟨t,D,H⟩:=Tj (by omega) h1;have L:IX fn.ntmps (asE9.map FV.GO++List.replicate (fn.ntmps - (asE9.map FV.GO).length) (.tuple [])) t:=by
      refine⟨by simp;omega,λj=>?_⟩;rw[H j,zk (ye _),y9,Td,F5,zo,List.getElem?_append,yh];by_cases hj:j<asE9.length
      ·rw[zk hj,List.getElem?_map,List.getElem?_eq_getElem hj];rfl
      ·rw[zh hj,List.getElem?_eq_none (by omega:asE9.length<=j),List.getElem?_replicate];split<;>rfl
     cases sel with
     | false=>
      obtain⟨e,fr',t',h',J,M,T⟩:=QX K c L D;cases e with
      |exit i=>cases T
      |normal=>
       obtain⟨x,R,X⟩:=Oh M T;refine⟨x,h',?_,X⟩;simp only[zR,Dn,hfn,hc,J,R,ze]
      |ret=>
       obtain⟨x,R,X⟩:=Oh M T;refine⟨x,h',?_,X⟩;simp only[zR,Dn,hfn,hc,J,R,ze]
     | true=>
      obtain⟨e,fr',t',h',J,M,T⟩:=W6 K c L D;cases e with
      |exit i=>cases T
      |normal=>
       obtain⟨x,R,X⟩:=Oh M T;refine⟨x,h',?_,X⟩;simp only[zE,Ki,hfn,hc,J,R,ze]
      |ret=>
       obtain⟨x,R,X⟩:=Oh M T;refine⟨x,h',?_,X⟩;simp only[zE,Ki,hfn,hc,J,R,ze]
theorem Ut(v:FV):(XA v).GO=QH v.GO:=by cases v<;>rfl
theorem Om:∀(bs:List Bool) (vs:List FV),(QK bs vs).map FV.GO=C1 bs (vs.map FV.GO)
 |true::bs,v::vs=>by
  show(XA v).GO::(QK bs vs).map FV.GO=_;rw[Ut,Om bs vs];rfl
 |false::bs,v::vs=>by
  show v.GO::(QK bs vs).map FV.GO=_;rw[Om bs vs];rfl
 |[],vs=>by cases vs<;>rfl
 |true::_,[]=>rfl
 |false::_,[]=>rfl
theorem Up(l:List Bool)(b:BF)(S:Im)(g:Gd)(h:AB)(asE9:List FV)(k:FV->AB->OV):(K7 l b).f S g h asE9 k=b.f S g h (QK l asE9) k:=by
 unfold K7;split
 ·cases asE9<;>rfl
 ·rfl
theorem Yj{F:Im}{S:Self}(K:Ip F S):Ot (λg h f asE9 k=>(Zb C f).f F g h asE9 k) (Ej C S):=by
 intro g h f asE9 k r B;have plain:∀{sel:Bool} {k:FV->AB->OV},(K7 (C.still f) (Ko C sel f)).f F g h asE9 k=some r->∃x h',(bif sel then Ki C S g h f (C1 (C.still f) (asE9.map FV.GO))else Dn C S g h f (C1 (C.still f) (asE9.map FV.GO)))=some (FV.GO x,h')/\k x h'=some r:=λ{sel k} B=>by
  rw[Up]at B;obtain⟨x,h',h1,D⟩:=Mn K B;rw[Om]at h1;exact⟨x,h',h1,D⟩
 dsimp only at B;unfold Zb at B;unfold Ej;split at B
 ·rename_i W;obtain⟨x,h',h1,D⟩:=plain (sel:=false) B;exact⟨x,h',by simp only[W];exact h1,D⟩
 ·rename_i W;obtain⟨x,h',h1,D⟩:=Mn (sel:=false) K B;rcases DQ D with⟨hf,H⟩|⟨-,H⟩
  ·have h1:Dn C S ⟨h.size,[]⟩ h f (asE9.map FV.GO)=some (FV.GO x,h'):=h1;exact⟨x,h,by simp only[W,h1,hf,zE],H⟩
  ·cases H
 ·rename_i W;obtain⟨x,h',h1,D⟩:=KZ B;exact⟨x,h',by simp only[W,h1],D⟩
 ·rename_i W;rcases DQ B with⟨ha,B⟩|⟨-,B⟩
  ·obtain⟨x,h',h1,D⟩:=Mn (sel:=false) K B;rcases DQ D with⟨hf,H⟩|⟨-,H⟩
   ·have h1:Dn C S ⟨0,[]⟩ ⟨0,.leaf⟩ f (asE9.map FV.GO)=some (FV.GO x,h'):=h1;exact⟨x,h,by simp only[W,ha,h1,hf,zE],H⟩
   ·cases H
  ·cases B
 ·rename_i W;obtain⟨x,h',h1,D⟩:=plain (sel:=false) B;obtain⟨y,h2',H,J⟩:=KZ D;have h1:Dn C S g h f (C1 (C.still f) (asE9.map FV.GO))=some (FV.GO x,h'):=h1;exact⟨y,h2',by simp only[W,h1,H],J⟩
 ·rename_i W;obtain⟨x,h',h1,D⟩:=plain (sel:=true) B;exact⟨x,h',by simp only[W];exact h1,D⟩
 ·rename_i W;obtain⟨x,h',h1,D⟩:=plain (sel:=false) B;obtain⟨y,h2',H,J⟩:=KZ D;have h1:Dn C S g h f (C1 (C.still f) (asE9.map FV.GO))=some (FV.GO x,h'):=h1;exact⟨y,h2',by simp only[W,h1,H],J⟩
 ·cases B
theorem NX:∀n,Ip (RB C n) (Bm C n)
 |0=>⟨λg h f asE9 k r B=>(by cases B),λN f c g t h kn kx kr r fr _ B=>(by cases B)⟩
 |n+1=>⟨Yj (NX n),λN f c g t h kn kx kr r fr L B=>QX (NX n) (.loop c) L B⟩
theorem Ur{f:FuncId}{v:AA}(n:Nat)(B:(Ko C false f).f (RB C n) ⟨0,[]⟩ ⟨0,.leaf⟩ [] (λx _=>some (x.GO,⟨0,.leaf⟩))=some (v,⟨0,.leaf⟩)):∃h',GP C ⟨0,[]⟩ ⟨0,.leaf⟩ f [] v h':=by
 obtain⟨x,h',h1,D⟩:=Mn (NX n) B;have e:x.GO=v:=congrArg Prod.fst (zK D);exact⟨h',n,by rw[<-e];exact h1⟩
end
end
end Go.Av
