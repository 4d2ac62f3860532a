/-
 A part.
-/
import Derived.Test.YtlddjbgohnlihaaGreatDoorAvMap
import Derived.Shelf.SlicesE.Clone
import Derived.Shelf.Spec.SlicesGrow
import Derived.Shelf.SlIter.Nil
import Derived.Shelf.SortM.Plain
import Derived.Shelf.SortM.SortNone
import Derived.Lib.Bytealg
import Derived.Lib.ItoaNum
import Derived.Lib.Itoa
import Derived.Shelf.Strings.Repeat
import Derived.Shelf.Strings.OnBuilder
import Derived.Shelf.Strings.Cut
import Derived.Shelf.Strings.Search3
set_option linter.unusedSimpArgs false
namespace Go.Av
open Go.RowKit Go.Shelf Go.Proofs Go.Lib Go.Maps Go.MapKept Go.ChangeMaps Go.WideShapes
set_option linter.unusedVariables false
section
variable {P:Program} {w0:World} {m:BD} {h:AI} {w:World}
theorem Ei{f:FuncId}{args:Array Value}{Q:Value→World→Prop}(he:∀args w,(callFunc f args).run P w=.ok (.enter f args) w)(hc:Calls P f args w fun e w'=>∃v,e=.returned v∧Q v w'):DX P f args w Q:=by
 unfold DX;rw[he args w];exact hc
def PL:AB→Option Nat
 | .slice _ n=>some n
 | .HU n _=>some n
 |_=>none
theorem aK{x:AB}{x':Value}(B:VR m x x')(E:PL x=some 0):∃a c,x'=.slice a 0 c:=by
 cases B<;>simp[PL]at E
 case Ep=>exact⟨_,_,rfl⟩
 case FH=>exact⟨_,_,rfl⟩
 case slice=>subst E;exact⟨_,_,rfl⟩
 case KQ=>exact⟨_,_,rfl⟩
 case HU=>subst E;exact⟨_,_,rfl⟩
def UX(i:TypeInfo)(n:Nat):Bool:=decide (i.size≠0∧n≤1099511627776∧n*i.bytes≤1099511627776∧i.zero.map (·.cells.size)=some i.size)
def XO(P:Program)(e:TypeId)(h:AI):List AB→Option (AB×AI)
 | [x]=>
  match PL x with
  |some 0=>
   match P.info? e with
   |some _=>some (.slice none 0,h)
   |none=>none
  | some n=>
   match P.info? e with
   |some i=>
    match(EI h i.size n x).map (·.map FM)with
    |some cs=>if cs.all AB.one=true∧UX i n=true then some (.slice (some (h.size,0)) n,h.push (.cells (some e) 2 cs))else none
    |none=>none
   |none=>none
  |none=>none
 |_=>none
theorem TH{m:BD}{x:AB}{cargs:Array Value}(D:CM m [x] cargs.toList):∃a,cargs=#[a]∧VR m x a:=by
 have:=D.1
 match cargs,this with
 |⟨[a]⟩,_=>exact⟨a,rfl,D.2 0 _ _ rfl rfl⟩
theorem LA{m:BD}{x y:AB}{cargs:Array Value}(D:CM m [x,y] cargs.toList):∃a b,cargs=#[a,b]∧VR m x a∧VR m y b:=by
 have:=D.1
 match cargs,this with
 |⟨[a,b]⟩,_=>exact⟨a,b,rfl,D.2 0 _ _ rfl rfl,D.2 1 _ _ rfl rfl⟩
def Fw(P:Program)(G:Nat→Option (List AB))(f:FuncId)(ext:Gd→AI→List AB→Option (AB×AI)):Prop:=SO P G fun g h f' args=>if f'=f then ext g h args else none
theorem Fw.of{G:Nat→Option (List AB)}{f:FuncId}{ext:Gd→AI→List AB→Option (AB×AI)}
  (B:∀g h args v h',ext g h args=some (v,h')→BE g h h'∧∀w0 m w (cargs:Array Value),Rel P w0 m h w→CM m args cargs.toList→DX P f cargs w fun v' w'=>∃m':BD,(m.ext h.size m')∧Rel P w0 m' h' w'∧VR m' v v'):Fw P G f ext:=by
 intro g h f' args v h' hc;dsimp only at hc;split at hc
 ·rename_i e;subst e;obtain⟨k,q⟩:=B g h args v h' hc;exact⟨k,fun w0 m w cargs _ r D=>q w0 m w cargs r D⟩
 ·cases hc
theorem Fw.ew{G:Nat→Option (List AB)}{f:FuncId}{ext:Gd→AI→List AB→Option (AB×AI)}
  (B:∀g h args v h',ext g h args=some (v,h')→BE g h h'∧∀w0 m w (cargs:Array Value),Bh G w→Rel P w0 m h w→CM m args cargs.toList→DX P f cargs w fun v' w'=>∃m':BD,(m.ext h.size m')∧Rel P w0 m' h' w'∧VR m' v v'):Fw P G f ext:=by
 intro g h f' args v h' hc;dsimp only at hc;split at hc
 ·rename_i e;subst e;obtain⟨k,q⟩:=B g h args v h' hc;exact⟨k,fun w0 m w cargs hz r D=>q w0 m w cargs (hz.later r.below) r D⟩
 ·cases hc
def Wa(P:Program)(e:TypeId)(h:AI):List AB→Option (AB×AI)
 | [x]=>
  match PL x with
  |some 0=>
   match P.info? e with
   |some _=>some (.HU 0 [],h)
   |none=>none
  | some n=>
   match P.info? e with
   |some i=>
    match(EI h i.size n x).map (·.map FM)with
    |some cs=>if cs.all AB.one=true∧UX i n=true then some (.HU n cs,h)else none
    |none=>none
   |none=>none
  |none=>none
 |_=>none
def aD(P:Program)(e:TypeId)(h:AI):List AB→Option (AB×AI)
 |[.slice none 0,.int .i64 n]=>
  if n=0 then some (.slice none 0,h)else
  match P.info? e with
  |some i=>if 0<n∧UX i n.toNat=true then some (.slice (some (h.size,0)) 0,h.push (.cells (some e) 2 []))else none
  |none=>none
 |_=>none
def cE(h:AI):List AB→Option (AB×AI)
 |[.str a,.str b]=>some (.int .i64 (compareBytes a b),h)
 |_=>none
def XB(P:Program)(f:FuncId):Bool:=
 match P.funcs[f]? with
 |some fn=> !(fn.name=="runtime.NumGoroutine")&&fn.body.isNone
 |none=>false
theorem Za{f:FuncId}(B:XB P f=true){F:Array Value→Sem Value}(O:∀fn,P.funcs[f]?=some fn→Extern.findNext fn=none∧Extern.find fn=some F){cargs:Array Value}{v:Value}{w':World}(h1:(F cargs).run P w=.ok v w'){Q:Value→World→Prop}(hq:Q v w'):DX P f cargs w Q:=by
 unfold XB at B;split at B
 ·rename_i fn J;simp only[zh,zK,qK]at B;obtain⟨e1,e2⟩:=O fn J;have hrun:(callFunc f cargs).run P w=.ok (.value v) w':=by
   unfold callFunc;simp only[Sem.run_bind,program,Sem.run,Result.andThen_ok,J];rw[zk (by rw[B.1];decide),zm (by rw[B.2];rfl)];simp only[e1,e2,Sem.run_bind];rw[show Sem.run P (Go.mark (Mark.extern f)) w=.ok () w from rfl];simp only[Result.andThen_ok,h1,Sem.run_pure]
  unfold DX;rw[hrun];exact hq
 ·cases B
theorem bZ{f:FuncId}(G:Nat→Option (List AB))(B:XB P f=true)(O:∀fn,P.funcs[f]?=some fn→Extern.findNext fn=none∧Extern.find fn=some Extern.BytealgIndexByte.indexByte):Fw P G f fun g h args=>YK h args:=by
 refine Fw.of fun g h args v h' hc=>?_;unfold YK at hc;split at hc
 ·rename_i s c;split at hc
  ·rename_i H;simp only[zd,zg]at hc;obtain⟨rfl,rfl⟩:=hc;refine⟨BE.refl _ _,fun w0 m w cargs r D=>?_⟩;obtain⟨a,b,rfl,R,M⟩:=LA D;obtain rfl:=R.EZ;obtain rfl:=M.B1;refine Za B O (v:=.int .i64 (idxOf s (UInt8.ofNat c.toNat))) (w':=w) ?_ ⟨m,BD.ext.refl _ _,r,.int _ _⟩
   show Sem.run P (do
    let b←Extern.Bytes.bytesOf (.string ⟨⟨s⟩⟩)
    let c←Extern.Bytes.asByte (.int .u8 c)
    match(List.range b.size).find? fun i=>b[i]! ==c with
    |some i=>pure (goInt i)
    |none=>pure (goInt (-1))) w=_
   simp only[Extern.Bytes.bytesOf,Extern.Bytes.asByte,Sem.run_bind,Sem.run_pure,Result.andThen_ok];rw[idx_eq s c.toNat.toUInt8];unfold idxOf;rw[show UInt8.ofNat c.toNat=c.toNat.toUInt8 from rfl];cases(List.range s.length).find? fun i=>s[i]?==some c.toNat.toUInt8<;>rfl
  ·cases hc
 ·cases hc
def UG:List (AB×AB)→Option (List (List UInt8))
 |[]=>some []
 |(.str s,_)::r=>(UG r).map (s::·)
 |_=>none
def cV(x:List UInt8):List (List UInt8)→List (List UInt8)
 |[]=>[x]
 |y::l=>bif Op.bytesLess y x then y::cV x l else x::y::l
def cW(l:List (List UInt8)):List (List UInt8):=l.foldr cV []
def bV(ks:List (List UInt8)):Bool:=decide (ks.length≤1099511627776)&&ks.all fun s=>decide (s.length≤1099511627776)
def aG(e:TypeId)(h:AI)(ks:List (List UInt8)):AB×AI:=
 match ks with
 |[]=>(.slice none 0,h)
 |_=>(.slice (some (h.size,0)) ks.length,h.push (.cells (some e) 2 ((cW ks).map .str)))
def ZV(h:AI)(b:Nat):Option AB:=
 match h.get b with
 |some (.cells none 2 [v])=>some v
 |_=>none
def WV(it:FuncId)(e:TypeId)(h:AI):List AB→Option (AB×AI)
 | [.func (.func f) [] [.ptr (some (b,0))]]=>
  if f=it then
   match ZV h b with
   |some (.map none)=>some (.slice none 0,h)
   | some (.map (some mid))=>
    match h.get mid with
    | some (.map st es)=>
     if st=2 then
      match UG es with
      |some ks=>if bV ks=true then some (aG e h ks)else none
      |none=>none
     else none
    |_=>none
   |_=>none
  else none
 |_=>none
def Pp(s:List UInt8)(n:Int):Bool:=decide (0≤n∧n≤1099511627776∧s.length*n.toNat≤1099511627776)
def KB(h:AI):List AB→Option (AB×AI)
 |[.str s,.int .i64 n]=>if Pp s n=true then some (.str (Lib.repeatL s n.toNat),h)else none
 |_=>none
theorem Ww{ρ:Ren}(L:Lays.n105 P ρ)(X:Builder.Extra P ρ)(G:Nat→Option (List AB)):Fw P G (ρ.f 105) fun g h args=>KB h args:=by
 refine Fw.of fun g h args v h' hc=>?_;have en:∀args w,(callFunc (ρ.f 105) args).run P w=.ok (.enter (ρ.f 105) args) w:=enters_of L.f105 (by kernel_rfl) rfl;unfold KB at hc;split at hc
 ·rename_i s n;split at hc
  ·rename_i M;obtain⟨h0,h1,h2⟩:=of_decide_eq_true M;simp only[zd,zg]at hc;obtain⟨rfl,rfl⟩:=hc;refine⟨BE.refl _ _,fun w0 m w cargs r D=>?_⟩;obtain⟨a,b,rfl,R,hb'⟩:=LA D;obtain rfl:=R.EZ;obtain rfl:=hb'.B1;obtain⟨c,rfl⟩:∃c:Nat,n=c:=⟨n.toNat,by omega⟩;rw[zN]at h2⊢;refine Ei en ((Any.strings_Repeat L X ⟨⟨s⟩⟩ c w (by omega) (by show s.length*c≤_;omega)).mono ?_);rintro e w' ⟨rfl,hbl⟩;exact⟨_,rfl,m,BD.ext.refl _ _,r.later hbl,VR.str ⟨⟨Lib.repeatL s c⟩⟩⟩
  ·cases hc
 ·cases hc
def YT:List AB→Option (List (List UInt8))
 |[]=>some []
 | .str s::r=>(YT r).map (s::·)
 |_=>none
def cG(ss:List (List UInt8))(t:List UInt8):Bool:=decide (ss.length≤1099511627776∧(Lib.join ss t).length≤1099511627776)
def Zs(h:AI):List AB→Option (AB×AI)
 | [x,.str t]=>
  match PL x with
  |some n=>
   match(bif Nat.beq n 0 then some []else(EI h 1 n x).bind YT)with
   |some ss=>if cG ss t=true then some (.str (Lib.join ss t),h)else none
   |none=>none
  |none=>none
 |_=>none
def br(h:AI):List AB→Option (AB×AI)
 |[.str s,.str t]=>if s.length≤4294967280 then some (.tuple [.str (Lib.cut s t).1,.str (Lib.cut s t).2.1,.bool (Lib.cut s t).2.2],h)else none
 |_=>none
def Xr(h:AI):List AB→Option (AB×AI)
 |[.str s,.str t]=>if s.length≤4294967280 then some (.int .i64 (Lib.index s t),h)else none
 |_=>none
end
def ZQ(h:AI):List AB→Option (AB×AI)
 |[]=>some (.bool true,h)
 |_=>none
def aO(h:AI):List AB→Option (AB×AI)
 |[]=>some (.undef,h)
 |_=>none
def Xu(f:AB→Option AB):List AB→Option (List AB)
 |[]=>some []
 |v::vs=>match f v,Xu f vs with|some v',some vs'=>some (v'::vs')|_,_=>none
def dP(args:List AB)(i o:Nat):Option AB:=
 match args[i]? with
 |some (.ptr (some (id,b)))=>some (.ptr (some (id,b+o)))
 |_=>none
def X3(args:List AB):Nat→AB→Option AB
 |0,_=>none
 |n+1,v=>
  match v with
  | .ptr (some (i,o))=>dP args i o
  | .A0 cs=>(Xu (X3 args n) cs).map .A0
  | .agg cs=>(Xu (X3 args n) cs).map .agg
  | .func fn a b=>match Xu (X3 args n) a,Xu (X3 args n) b with|some a',some b'=>some (.func fn a' b')|_,_=>none
  |v=>bif Ff v then some v else none
def Yw(args:List AB):List (AB×AB)→Option (List (AB×AB))
 |[]=>some []
 |(k,v)::es=>match X3 args 10 v,Yw args es with|some v',some es'=>some ((k,v')::es')|_,_=>none
def RD:AB→Bool
 | .ptr (some _)=>true
 |_=>false
abbrev Zb:=List (List (AB×AB))
def cv(es:List (AB×AB))(n:Nat)(h:AI)(args:List AB):Option (AB×AI):=
 bif Nat.beq args.length n&&args.all RD then(Yw args es).map fun es'=>(.map (some h.size),h.push (.map 2 es'))else none
def RJ(es:List (AB×AB))(n:Nat)(h:AI)(args:List AB):Option (AB×AI):=
 bif Nat.beq args.length n&&args.all RD then(Yw args es).map fun es'=>(.map (some h.size),h.push (.map 3 es'))else none
def XC:AB→AB→Bool
 | .bool a,.bool b=>a==b
 | .int k a,.int k' b=>decide (k=k')&&decide (a=b)
 | .str a,.str b=>decide (a=b)
 |_,_=>false
def SS:List AB→List AB→Bool
 |[],[]=>true
 |a::l,b::r=>XC a b&&SS l r
 |_,_=>false
def ar(tab:List (AB×AB))(h:AI):List AB→Option (AB×AI)
 |[.agg cs]=>(tab.find? fun p=>match p.1 with| .agg ds=>SS ds cs|_=>false).map fun p=>(p.2,h)
 |_=>none
def dV:AB→AB→Bool
 | .HU n cs,.HU n' cs'=>Nat.beq n n'&&SS cs cs'
 |x,y=>XC x y
def Xo:List AB→List AB→Bool
 |[],[]=>true
 |x::xs,y::ys=>dV x y&&Xo xs ys
 |_,_=>false
def bl(tab:List (AB×AB))(h:AI)(args:List AB):Option (AB×AI):=(tab.find? fun p=>match p.1 with| .tuple ks=>Xo ks args|_=>false).map fun p=>(p.2,h)
def NF(h:AI):List AB→Option (AB×AI)
 |[.int .i64 n]=>if -9223372036854775808≤n∧n≤9223372036854775807 then some (.str (Lib.itoa n),h)else none
 |_=>none
def QE(h:AI):List AB→Option (AB×AI)
 |[.int .u64 u]=>if 1≤u∧u<18446744073709551616 then some (.int .i64 (Lib.nDigits u.toNat:Nat),h)else none
 |_=>none
def KI(n u:Nat):List UInt8:=(List.range n).map fun t=>Lib.dg u (n - 1 - t)
def RV(n:Nat)(u:Int):Bool:=decide (n≠0∧n≤24∧0≤u∧u<18446744073709551616∧u.toNat<10^n)
def di:AB→Bool
 | .int .u8 k=>decide (0≤k∧k≤255)
 |_=>false
def QR(g:Gd)(h:AI):List AB→Option (AB×AI)
 | [.slice (some (id,0)) n,.int .u64 u]=>
  if RV n u=true then
   match h.get id with
   |some (.cells gr 2 cs)=>if g.may id=true∧n≤cs.length∧(cs.take n).all di=true then some (.tuple [],h.set id (.cells gr 2 ((KI n u.toNat).map (fun b=>AB.int .u8 (b.toNat:Int))++cs.drop n)))else none
   |_=>none
  else none
 |_=>none
abbrev J8:=List UInt8×List UInt8
def NC:List AB→Option (List J8)
 |[]=>some []
 | .str k::.str v::r=>(NC r).map ((k,v)::·)
 |_=>none
def GP(l:List J8):List AB:=l.flatMap fun p=>[.str p.1,.str p.2]
def VO(x:J8):List J8→List J8
 |[]=>[x]
 |y::l=>if x.1≤y.1 then x::y::l else y::VO x l
def Gi(l:List J8):List J8:=l.foldr VO []
def Nj:List J8→Bool
 |[]=>true
 |x::l=>l.all (fun y=>y.1 !=x.1)&&Nj l
def HI(c:FuncId)(g:Gd)(h:AI):List AB→Option (AB×AI)
 | [.slice r n,.func (.func f) [] []]=>
  if f=c then
   if n=0 then some (.tuple [],h)else
   match r with
   | some (id,0)=>
    match h.get id with
    | some (.cells gr 2 cs)=>
     if cs.length=n*2∧n≤1099511627776∧g.may id=true then
      match NC cs with
      |some l=>if Nj l=true then some (.tuple [],h.set id (.cells gr 2 (GP (Gi l))))else none
      |none=>none
     else none
    |_=>none
   |_=>none
  else none
 |_=>none
def YJ(P:Program)(km:Zb)(c:Nat×Nat×Nat)(g:Gd)(h:AI)(args:List AB):Option (AB×AI):=
 match c.1 with
 |1=>YK h args
 |2=>WV c.2.1 c.2.2 h args
 |3=>cE h args
 |4=>XO P c.2.2 h args
 |5=>aD P c.2.2 h args
 |6=>Wa P c.2.2 h args
 |7=>KB h args
 |8=>br h args
 |9=>Xr h args
 |10=>Zs h args
 |11=>HI c.2.1 g h args
 |12=>NF h args
 |13=>QE h args
 |14=>QR g h args
 |30=>ZQ h args
 |31=>aO h args
 |32=>cv (km.getD c.2.1 []) c.2.2 h args
 |33=>RJ (km.getD c.2.1 []) c.2.2 h args
 |34=>ar (km.getD c.2.1 []) h args
 |35=>bl (km.getD c.2.1 []) h args
 |_=>none
def JF:List (Nat×Nat×Nat×Nat)→Nat→Option (Nat×Nat×Nat)
 |[],_=>none
 |(f',c)::l,f=>bif Nat.beq f f' then some c else JF l f
theorem Qp:∀{l:List (Nat×Nat×Nat×Nat)} {f:Nat} {c:Nat×Nat×Nat},JF l f=some c→(f,c)∈l
 |(f',c')::l,f,c,h=>by
  unfold JF at h;rw[Ik]at h;split at h
  ·rename_i e;subst e;injection h with h;subst h;simp
  ·exact yw _ (Qp h)
def N5(P:Program)(km:Zb)(l:List (Nat×Nat×Nat×Nat))(f:Nat)(g:Gd)(h:AI)(args:List AB):Option (AB×AI):=
 match JF l f with
 |some c=>YJ P km c g h args
 |none=>none
def Rl(ks:List Nat)(l:List (Nat×Nat×Nat×Nat)):Nat→Bool
 |0=>true
 |n+1=>Rl ks l n&&(!(Nat.beq (Q4 ks n) 3)||(JF l n).isSome)
theorem RY{ks:List Nat}{l:List (Nat×Nat×Nat×Nat)}:∀{n:Nat},Rl ks l n=true→∀f,f<n→Q4 ks f=3→(JF l f).isSome=true
 |0,_,f,K,_=>by omega
 | n+1,h,f,K,N=>by
  simp only[Rl,zh]at h;by_cases e:f=n
  ·subst e;have:=h.2;rw[N]at this;simpa using this
  ·exact RY h.1 f (by omega) N
theorem Ws{C:Gp}{km:Zb}{ks:List Nat}{l:List (Nat×Nat×Nat×Nat)}(hk:C.kind=Q4 ks)(hmix:C.P.follows .mixedOrders=true)(hall:Vr C ks.length=true)(hro:C.dm=X5 C.P C.MR)(B:C.ext=N5 C.P km l)(N:Rl ks l ks.length=true)
  (he:∀p∈l,Fw C.P C.Cx p.1 (YJ C.P km p.2)):KM C:=by
 refine⟨hmix,fun f fn c hkf h1 h2=>?_,fun f a b H=>?_,fun f K=>?_⟩
 ·have I:C.kind f≠0:=by omega
  refine TT hall ?_ I (by omega) h1 h2;rcases yg f ks.length with h|h
  ·exact h
  ·rw[hk,P8 h]at I;exact absurd rfl I
 ·rw[hro]at H;simp only[X5,zh]at H;exact⟨(OW (C:=C) (C':=Yc C.P C.MR) rfl rfl f a).trans H.1.1,(OW (C:=C) (C':=Yc C.P C.MR) rfl rfl f b).trans H.1.2,H.2.1,H.2.2⟩
 ·have hlt:f<ks.length:=by
   rcases yg f ks.length with h|h
   ·exact h
   ·rw[hk,P8 h]at K;cases K
  obtain⟨c,E⟩:=xC.1 (RY N f hlt (by rw[←hk];exact K));have:=he _ (Qp E);have e:(fun(g:Gd) (h:AI) (f':FuncId) (args:List AB)=>if f'=f then C.ext f g h args else none)=fun(g:Gd) h f' args=>if f'=f then YJ C.P km c g h args else none:=by
   funext g h f' args;rw[B];simp only[N5,E]
  rw[e];exact this
section
variable {C:Gp} {km:Zb} {l:List (Nat×Nat×Nat×Nat)} {g:Gd} {h:AI} {f:Nat} {L F:List Ck}
theorem NN{c:Nat×Nat×Nat}{args:List AB}{v:AB}{h':AI}(hk:C.kind f=3)(B:C.ext=N5 C.P km l)(E:JF l f=some c)(he:YJ C.P km c g h args=some (v,h')):BI C g h f args v h':=by
 refine⟨1,?_⟩;show Jn C (DL C 0) g h f _=_;unfold Jn;rw[hk];simp only[B,N5,E,he]
theorem aM{s:List UInt8}{c n:Int}(hk:C.kind f=3)(B:C.ext=N5 C.P km l)(E:JF l f=some (1,0,0))(hm:H3 s c=some n):BI C g h f [.str s,.int .u8 c] (.int .i64 n) h:=by
 refine NN hk B E ?_;unfold H3 at hm;show YK h [.str s,.int .u8 c]=some (.int .i64 n,h);unfold YK;split at hm
 ·rename_i H;injection hm with hm;subst hm;dsimp only;rw[zm H]
 ·cases hm
theorem VY{s:List UInt8}{n:Int}(hk:C.kind f=3)(B:C.ext=N5 C.P km l)(E:JF l f=some (7,0,0))(M:Pp s n=true):BI C g h f [.str s,.int .i64 n] (.str (Lib.repeatL s n.toNat)) h:=by
 refine NN hk B E ?_;show KB h [.str s,.int .i64 n]=_;unfold KB;dsimp only;rw[zm M]
end
end Go.Av
