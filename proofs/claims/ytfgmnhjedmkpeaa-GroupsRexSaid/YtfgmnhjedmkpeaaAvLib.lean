/-
 A part.
-/
import Derived.Test.YtfgmnhjedmkpeaaAvMap
import Derived.Shelf.SlicesE.Clone
import Derived.Shelf.Spec.SlicesGrow
import Derived.Shelf.SlIter.Nil
import Derived.Shelf.SortM.Plain
import Derived.Shelf.SortM.SortNone
import Derived.Lib.Bytealg
import Derived.Shelf.Strings.Repeat
import Derived.Shelf.Strings.OnBuilder
import Derived.Shelf.Strings.Cut
import Derived.Shelf.Strings.Search3
set_option linter.unusedSimpArgs false
namespace Go.Av
open Go.RowKit Go.Shelf Go.Proofs Go.Lib Go.Maps Go.MapKept Go.ChangeMaps Go.WideShapes
set_option linter.unusedVariables false
section
variable {P:Program} {w0:World} {m:BU} {h:AE} {w:World}
theorem OE{f:FuncId}{args:Array Value}{Q:Value->World->Prop}(he:∀args w,(callFunc f args).run P w=.ok (.enter f args) w)(hc:Calls P f args w λe w'=>∃v,e=.returned v/\Q v w'):Cl P f args w Q:=by
 unfold Cl;rw[he args w];exact hc
def M9:AD->Option Nat
 | .slice _ n=>some n
 | .JV n _=>some n
 |_=>none
theorem UT(r:Rel P w0 m h w){z n:Nat}{x:AD}{x':Value}{cs:List AD}(D:VR m x x')(J:M9 x=some n)(h0:0<n)(I:Ch h z n x=some cs):
  ∃b off cap ds,x'=.slice (some ⟨b,off,none⟩) n cap/\ds.length=n*z/\B5 m cs ds/\∀(j:Nat) (v:Value),ds[j]?=some v->w.cell? ⟨b,off+j,none⟩=some v:=by
 cases D<;>simp[M9]at J
 case Db=>omega
 case HL=>omega
 case slice id o len cap E a hE hle hc=>
  subst J;obtain⟨rfl,_⟩:=hc (by omega);simp only[Ch,zk (show ¬len=0 by omega)]at I;obtain⟨ds,h1,W,R,_⟩:=r.cells hE I;exact⟨_,_,cap,ds,rfl,h1,W,λj v Z=>by have:=R j v Z;rwa [Addr.add_lit]at this⟩
 case N0=>omega
 case JV len cap g o a c hle hf1 H=>
  subst J;simp only[Ch]at I;split at I
  ·rename_i T;injection I with I;subst I;obtain⟨ds,h1,W,R⟩:=r.OP hf1 H;have e:a.take (len*z)=a:=zM (by omega);rw[e];exact⟨_,_,cap,ds,rfl,by omega,W,λj v Z=>by have:=R j v Z;rwa [Addr.add_lit]at this⟩
  ·cases I
def R0(i:TypeInfo)(n:Nat):Bool:=decide (i.size≠0/\n<=1099511627776/\n*i.bytes<=1099511627776/\i.zero.map (·.cells.size)=some i.size)
def Uh(P:Program)(e:TypeId)(h:AE):List AD->Option (AD×AE)
 | [x]=>
  match M9 x with
  |some 0=>
   match P.info? e with
   |some _=>some (.slice none 0,h)
   |none=>none
  | some n=>
   match P.info? e with
   |some i=>
    match(Ch h i.size n x).map (·.map IG)with
    |some cs=>if cs.all AD.one=true/\R0 i n=true then some (.slice (some (h.size,0)) n,h.push (.cells (some e) 2 cs))else none
    |none=>none
   |none=>none
  |none=>none
 |_=>none
theorem O3{m:BU}{x y:AD}{cargs:Array Value}(H:B5 m [x,y] cargs.toList):∃a b,cargs=#[a,b]/\VR m x a/\VR m y b:=by
 have:=H.1
 match cargs,this with
 |⟨[a,b]⟩,_=>exact⟨a,b,rfl,H.2 0 _ _ rfl rfl,H.2 1 _ _ rfl rfl⟩
def LH(P:Program)(G:Nat->Option (List AD))(f:FuncId)(ext:Gd->AE->List AD->Option (AD×AE)):Prop:=GH P G λg h f' args=>if f'=f then ext g h args else none
theorem LH.of{G:Nat->Option (List AD)}{f:FuncId}{ext:Gd->AE->List AD->Option (AD×AE)}
  (D:∀g h args v h',ext g h args=some (v,h')->BT g h h'/\∀w0 m w (cargs:Array Value),Rel P w0 m h w->B5 m args cargs.toList->Cl P f cargs w λv' w'=>∃m':BU,(m.ext h.size m')/\Rel P w0 m' h' w'/\VR m' v v'):LH P G f ext:=by
 intro g h f' args v h' hc;dsimp only at hc;split at hc
 ·rename_i e;subst e;obtain⟨k,q⟩:=D g h args v h' hc;exact⟨k,λw0 m w cargs _ r H=>q w0 m w cargs r H⟩
 ·cases hc
theorem LH.Yl{G:Nat->Option (List AD)}{f:FuncId}{ext:Gd->AE->List AD->Option (AD×AE)}
  (D:∀g h args v h',ext g h args=some (v,h')->BT g h h'/\∀w0 m w (cargs:Array Value),CL G w->Rel P w0 m h w->B5 m args cargs.toList->Cl P f cargs w λv' w'=>∃m':BU,(m.ext h.size m')/\Rel P w0 m' h' w'/\VR m' v v'):LH P G f ext:=by
 intro g h f' args v h' hc;dsimp only at hc;split at hc
 ·rename_i e;subst e;obtain⟨k,q⟩:=D g h args v h' hc;exact⟨k,λw0 m w cargs Y r H=>q w0 m w cargs (Y.later r.below) r H⟩
 ·cases hc
theorem Rel.T4(r:Rel P w0 m h w){w':World}(T:Below w.heap.size w w'){g:Nat}{cur:Array Value}{e:TypeId}{fz:Nat×Nat}(hg:w.heap.size<=g)(hc:w'.heap[g]?=some (.cells cur e fz)):Rel P w0 (m.still g cur) h w'/\m.ext h.size (m.still g cur):=by
 have hle:=BU.Qt (m:=m) (g:=g) (cur:=cur) (r.RS hg);have k:=r.later T;refine⟨⟨k.below,k.On,λid E o hE X=>(k.obj id E o hE X).mono hle λ_=>rfl,k.own,k.sep,λg' j v H=>?_,λid E o hE X O j=>?_,k.df,k.St⟩,⟨λ_ _=>rfl,hle.fz,λ_ h=>h⟩⟩
 ·by_cases e':g'=g
  ·subst e';simp only[BU.still,if_true]at H;exact⟨cur,e,fz,hc,H⟩
  ·simp only[BU.still,zk e']at H;exact k.fz g' j v H
 ·have:E.g≠g:=by have:=(r.obj id E o hE X).lt (Br.Ft O);omega
  simp only[BU.still,zk this];exact k.Nc id E o hE X O j
def TM(P:Program)(e:TypeId)(h:AE):List AD->Option (AD×AE)
 | [x]=>
  match M9 x with
  |some 0=>
   match P.info? e with
   |some _=>some (.JV 0 [],h)
   |none=>none
  | some n=>
   match P.info? e with
   |some i=>
    match(Ch h i.size n x).map (·.map IG)with
    |some cs=>if cs.all AD.one=true/\R0 i n=true then some (.JV n cs,h)else none
    |none=>none
   |none=>none
  |none=>none
 |_=>none
def VH(P:Program)(e:TypeId)(h:AE):List AD->Option (AD×AE)
 |[.slice none 0,.int .i64 n]=>
  if n=0 then some (.slice none 0,h)else
  match P.info? e with
  |some i=>if 0<n/\R0 i n.toNat=true then some (.slice (some (h.size,0)) 0,h.push (.cells (some e) 2 []))else none
  |none=>none
 |_=>none
def Wj(h:AE):List AD->Option (AD×AE)
 |[.str a,.str b]=>some (.int .i64 (compareBytes a b),h)
 |_=>none
def UR(P:Program)(f:FuncId):Bool:=
 match P.funcs[f]? with
 |some fn=> !(fn.name=="runtime.NumGoroutine")&&fn.body.isNone
 |none=>false
theorem Va{f:FuncId}(D:UR P f=true){F:Array Value->Sem Value}(U:∀fn,P.funcs[f]?=some fn->Extern.findNext fn=none/\Extern.find fn=some F){cargs:Array Value}{v:Value}{w':World}(h1:(F cargs).run P w=.ok v w'){Q:Value->World->Prop}(hq:Q v w'):Cl P f cargs w Q:=by
 unfold UR at D;split at D
 ·rename_i fn V;simp only[zg,zu,Option.isNone_iff_eq_none]at D;obtain⟨e1,e2⟩:=U fn V;have hrun:(callFunc f cargs).run P w=.ok (.value v) w':=by
   unfold callFunc;simp only[Sem.run_bind,program,Sem.run,Result.andThen_ok,V];rw[zk (by rw[D.1];decide),zj (by rw[D.2];rfl)];simp only[e1,e2,Sem.run_bind];rw[show Sem.run P (Go.mark (Mark.extern f)) w=.ok () w from rfl];simp only[Result.andThen_ok,h1,Sem.run_pure]
  unfold Cl;rw[hrun];exact hq
 ·cases D
theorem Wx{f:FuncId}(G:Nat->Option (List AD))(D:UR P f=true)(U:∀fn,P.funcs[f]?=some fn->Extern.findNext fn=none/\Extern.find fn=some Extern.BytealgIndexByte.indexByte):LH P G f λg h args=>Lt h args:=by
 refine LH.of λg h args v h' hc=>?_;unfold Lt at hc;split at hc
 ·rename_i s c;split at hc
  ·rename_i K;simp only[zd,ze]at hc;obtain⟨rfl,rfl⟩:=hc;refine⟨BT.refl _ _,λw0 m w cargs r H=>?_⟩;obtain⟨a,b,rfl,ha,T⟩:=O3 H;obtain rfl:=ha.C3;obtain rfl:=T.CG;refine Va D U (v:=.int .i64 (idxOf s (UInt8.ofNat c.toNat))) (w':=w) ?_ ⟨m,BU.ext.refl _ _,r,.int _ _⟩
   show Sem.run P (do
    let b<-Extern.Bytes.bytesOf (.string ⟨⟨s⟩⟩)
    let c<-Extern.Bytes.asByte (.int .u8 c)
    match(List.range b.size).find? λi=>b[i]! ==c with
    |some i=>pure (goInt i)
    |none=>pure (goInt (-1))) w=_
   simp only[Extern.Bytes.bytesOf,Extern.Bytes.asByte,Sem.run_bind,Sem.run_pure,Result.andThen_ok];rw[idx_eq s c.toNat.toUInt8];unfold idxOf;rw[show UInt8.ofNat c.toNat=c.toNat.toUInt8 from rfl];cases(List.range s.length).find? λi=>s[i]?==some c.toNat.toUInt8<;>rfl
  ·cases hc
 ·cases hc
def Q3:List (AD×AD)->Option (List (List UInt8))
 |[]=>some []
 |(.str s,_)::r=>(Q3 r).map (s::·)
 |_=>none
def XT(x:List UInt8):List (List UInt8)->List (List UInt8)
 |[]=>[x]
 |y::l=>bif Op.bytesLess y x then y::XT x l else x::y::l
def Xv(l:List (List UInt8)):List (List UInt8):=l.foldr XT []
def Wq(ks:List (List UInt8)):Bool:=decide (ks.length<=1099511627776)&&ks.all λs=>decide (s.length<=1099511627776)
def Vh(e:TypeId)(h:AE)(ks:List (List UInt8)):AD×AE:=
 match ks with
 |[]=>(.slice none 0,h)
 |_=>(.slice (some (h.size,0)) ks.length,h.push (.cells (some e) 2 ((Xv ks).map .str)))
def VP(h:AE)(b:Nat):Option AD:=
 match h.get b with
 |some (.cells none 2 [v])=>some v
 |_=>none
def TF(it:FuncId)(e:TypeId)(h:AE):List AD->Option (AD×AE)
 | [.func (.func f) [] [.ptr (some (b,0))]]=>
  if f=it then
   match VP h b with
   |some (.map none)=>some (.slice none 0,h)
   | some (.map (some mid))=>
    match h.get mid with
    | some (.map st es)=>
     if st=2 then
      match Q3 es with
      |some ks=>if Wq ks=true then some (Vh e h ks)else none
      |none=>none
     else none
    |_=>none
   |_=>none
  else none
 |_=>none
def Xo(s:List UInt8)(n:Int):Bool:=decide (0<=n/\n<=1099511627776/\s.length*n.toNat<=1099511627776)
def S6(h:AE):List AD->Option (AD×AE)
 |[.str s,.int .i64 n]=>if Xo s n=true then some (.str (Lib.repeatL s n.toNat),h)else none
 |_=>none
def US:List AD->Option (List (List UInt8))
 |[]=>some []
 | .str s::r=>(US r).map (s::·)
 |_=>none
def Wu(ss:List (List UInt8))(t:List UInt8):Bool:=decide (ss.length<=1099511627776/\(Lib.join ss t).length<=1099511627776)
def Vj(h:AE):List AD->Option (AD×AE)
 | [x,.str t]=>
  match M9 x with
  |some n=>
   match(bif Nat.beq n 0 then some []else(Ch h 1 n x).bind US)with
   |some ss=>if Wu ss t=true then some (.str (Lib.join ss t),h)else none
   |none=>none
  |none=>none
 |_=>none
def PL(h:AE):List AD->Option (AD×AE)
 |[.str s,.str t]=>if s.length<=4294967280 then some (.tuple [.str (Lib.cut s t).1,.str (Lib.cut s t).2.1,.bool (Lib.cut s t).2.2],h)else none
 |_=>none
def UM(h:AE):List AD->Option (AD×AE)
 |[.str s,.str t]=>if s.length<=4294967280 then some (.int .i64 (Lib.index s t),h)else none
 |_=>none
theorem Q4{B:Nat}{a w:World}(h:Below B a w)(n:Nat):Below B a (w.drewN n):=h.trans ⟨rfl,rfl,rfl,zq _,λ_ _=>rfl⟩
theorem QK{ρ:Ren}(L:Lays.n145 P ρ){G:Nat->Option (List AD)}(hg:G (ρ.g 1)=some []):LH P G (ρ.f 145) λg h args=>PL h args:=by
 refine LH.Yl λg h args v h' hc=>?_;have en:∀args w,(callFunc (ρ.f 145) args).run P w=.ok (.enter (ρ.f 145) args) w:=enters_of L.f145 (by kernel_rfl) rfl;unfold PL at hc;split at hc
 ·rename_i s t;split at hc
  ·rename_i T;simp only[zd,ze]at hc;obtain⟨rfl,rfl⟩:=hc;refine⟨BT.refl _ _,λw0 m w cargs Y r H=>?_⟩;obtain⟨a,b,rfl,ha,hb'⟩:=O3 H;obtain rfl:=ha.C3;obtain rfl:=hb'.C3;obtain⟨n,U⟩:=Y.2 _ hg;refine OE en ((Any.strings_Cut L ⟨⟨s⟩⟩ ⟨⟨t⟩⟩ n w (by show s.length<_;omega) U).mono ?_);rintro e w' ⟨rfl,q,rfl⟩;refine⟨_,rfl,m,BU.ext.refl _ _,r.later (Q4 (Below.refl _ _) _),VR.tuple _ _ rfl λi x y D N=>?_⟩
   match i,D,N with
   |0,D,N=>cases D;cases N;exact VR.str ⟨⟨_⟩⟩
   |1,D,N=>cases D;cases N;exact VR.str ⟨⟨_⟩⟩
   |2,D,N=>cases D;cases N;exact VR.bool _
   |i+3,D,N=>simp at D
  ·cases hc
 ·cases hc
end
def VU(h:AE):List AD->Option (AD×AE)
 |[]=>some (.bool true,h)
 |_=>none
def U7(h:AE):List AD->Option (AD×AE)
 |[]=>some (.undef,h)
 |_=>none
def UZ(f:AD->Option AD):List AD->Option (List AD)
 |[]=>some []
 |v::vs=>match f v,UZ f vs with|some v',some vs'=>some (v'::vs')|_,_=>none
def Xy(args:List AD)(i o:Nat):Option AD:=
 match args[i]? with
 |some (.ptr (some (id,b)))=>some (.ptr (some (id,b+o)))
 |_=>none
def Ur(args:List AD):Nat->AD->Option AD
 |0,_=>none
 |n+1,v=>
  match v with
  | .ptr (some (i,o))=>Xy args i o
  | .Ee cs=>(UZ (Ur args n) cs).map .Ee
  | .agg cs=>(UZ (Ur args n) cs).map .agg
  | .func fn a b=>match UZ (Ur args n) a,UZ (Ur args n) b with|some a',some b'=>some (.func fn a' b')|_,_=>none
  |v=>bif Fq v then some v else none
def Wr(args:List AD):List (AD×AD)->Option (List (AD×AD))
 |[]=>some []
 |(k,v)::es=>match Ur args 10 v,Wr args es with|some v',some es'=>some ((k,v')::es')|_,_=>none
def Vq:AD->Bool
 | .ptr (some _)=>true
 |_=>false
abbrev XB:=List (List (AD×AD))
def Xs(es:List (AD×AD))(n:Nat)(h:AE)(args:List AD):Option (AD×AE):=
 bif Nat.beq args.length n&&args.all Vq then(Wr args es).map λes'=>(.map (some h.size),h.push (.map 2 es'))else none
def XV(es:List (AD×AD))(n:Nat)(h:AE)(args:List AD):Option (AD×AE):=
 bif Nat.beq args.length n&&args.all Vq then(Wr args es).map λes'=>(.map (some h.size),h.push (.map 3 es'))else none
def Tx:AD->AD->Bool
 | .bool a,.bool b=>a==b
 | .int k a,.int k' b=>decide (k=k')&&decide (a=b)
 | .str a,.str b=>decide (a=b)
 |_,_=>false
def QE:List AD->List AD->Bool
 |[],[]=>true
 |a::l,b::r=>Tx a b&&QE l r
 |_,_=>false
def WI(tab:List (AD×AD))(h:AE):List AD->Option (AD×AE)
 |[.agg cs]=>(tab.find? λp=>match p.1 with| .agg ds=>QE ds cs|_=>false).map λp=>(p.2,h)
 |_=>none
def Xr:AD->AD->Bool
 | .JV n cs,.JV n' cs'=>Nat.beq n n'&&QE cs cs'
 |x,y=>Tx x y
def Ue:List AD->List AD->Bool
 |[],[]=>true
 |x::xs,y::ys=>Xr x y&&Ue xs ys
 |_,_=>false
def Wh(tab:List (AD×AD))(h:AE)(args:List AD):Option (AD×AE):=(tab.find? λp=>match p.1 with| .tuple ks=>Ue ks args|_=>false).map λp=>(p.2,h)
noncomputable def Uz(P:Program)(km:XB)(c:Nat×Nat×Nat)(g:Gd)(h:AE)(args:List AD):Option (AD×AE):=
 match c.1 with
 |1=>Lt h args
 |2=>TF c.2.1 c.2.2 h args
 |3=>Wj h args
 |4=>Uh P c.2.2 h args
 |5=>VH P c.2.2 h args
 |6=>TM P c.2.2 h args
 |7=>S6 h args
 |8=>PL h args
 |9=>UM h args
 |10=>Vj h args
 |30=>VU h args
 |40=>TP h args
 |31=>U7 h args
 |32=>Xs (km.getD c.2.1 []) c.2.2 h args
 |33=>XV (km.getD c.2.1 []) c.2.2 h args
 |34=>WI (km.getD c.2.1 []) h args
 |35=>Wh (km.getD c.2.1 []) h args
 |_=>none
def Mj:List (Nat×Nat×Nat×Nat)->Nat->Option (Nat×Nat×Nat)
 |[],_=>none
 |(f',c)::l,f=>bif Nat.beq f f' then some c else Mj l f
theorem Pw:∀{l:List (Nat×Nat×Nat×Nat)} {f:Nat} {c:Nat×Nat×Nat},Mj l f=some c->(f,c)∈l
 |(f',c')::l,f,c,h=>by
  unfold Mj at h;rw[GS]at h;split at h
  ·rename_i e;subst e;injection h with h;subst h;simp
  ·exact yc _ (Pw h)
noncomputable def Qg(P:Program)(km:XB)(l:List (Nat×Nat×Nat×Nat))(f:Nat)(g:Gd)(h:AE)(args:List AD):Option (AD×AE):=
 match Mj l f with
 |some c=>Uz P km c g h args
 |none=>none
def QA(ks:List Nat)(l:List (Nat×Nat×Nat×Nat)):Nat->Bool
 |0=>true
 |n+1=>QA ks l n&&(!(Nat.beq (KQ ks n) 3)||(Mj l n).isSome)
theorem Pr{ks:List Nat}{l:List (Nat×Nat×Nat×Nat)}:∀{n:Nat},QA ks l n=true->∀f,f<n->KQ ks f=3->(Mj l f).isSome=true
 |0,_,f,I,_=>by omega
 | n+1,h,f,I,R=>by
  simp only[QA,zg]at h;by_cases e:f=n
  ·subst e;have:=h.2;rw[R]at this;simpa using this
  ·exact Pr h.1 f (by omega) R
theorem TL{C:Gf}{km:XB}{ks:List Nat}{l:List (Nat×Nat×Nat×Nat)}(M:C.kind=KQ ks)(hmix:C.P.follows .mixedOrders=true)(hall:N3 C ks.length=true)(hro:C.X6=Uu C.P C.Ky)(D:C.ext=Qg C.P km l)(R:QA ks l ks.length=true)
  (he:∀p∈l,LH C.P C.C4 p.1 (Uz C.P km p.2)):Ie C:=by
 refine⟨hmix,λf fn c hkf h1 W=>?_,λf a b K=>?_,λf I=>?_⟩
 ·have S:C.kind f≠0:=by omega
  refine MG hall ?_ S (by omega) h1 W;rcases zV f ks.length with h|h
  ·exact h
  ·rw[M,LD h]at S;exact absurd rfl S
 ·rw[hro]at K;simp only[Uu,zg]at K;exact⟨(Oc (C:=C) (C':=Ve C.P C.Ky) rfl rfl f a).trans K.1.1,(Oc (C:=C) (C':=Ve C.P C.Ky) rfl rfl f b).trans K.1.2,K.2.1,K.2.2⟩
 ·have hlt:f<ks.length:=by
   rcases zV f ks.length with h|h
   ·exact h
   ·rw[M,LD h]at I;cases I
  obtain⟨c,J⟩:=Option.isSome_iff_exists.1 (Pr R f hlt (by rw[<-M];exact I));have:=he _ (Pw J);have e:(λ(g:Gd) (h:AE) (f':FuncId) (args:List AD)=>if f'=f then C.ext f g h args else none)=λ(g:Gd) h f' args=>if f'=f then Uz C.P km c g h args else none:=by
   funext g h f' args;rw[D];simp only[Qg,J]
  rw[e];exact this
section
variable {C:Gf} {km:XB} {l:List (Nat×Nat×Nat×Nat)} {g:Gd} {h:AE} {f:Nat} {L F:List Ck}
theorem UB{c:Nat×Nat×Nat}{args:List AD}{v:AD}{h':AE}(M:C.kind f=3)(D:C.ext=Qg C.P km l)(J:Mj l f=some c)(he:Uz C.P km c g h args=some (v,h')):Bw C g h f args v h':=by
 refine⟨1,?_⟩;show HT C (CV C 0) g h f _=_;unfold HT;rw[M];simp only[D,Qg,J,he]
theorem Vd{s:List UInt8}{c n:Int}(M:C.kind f=3)(D:C.ext=Qg C.P km l)(J:Mj l f=some (1,0,0))(hm:KM s c=some n):Bw C g h f [.str s,.int .u8 c] (.int .i64 n) h:=by
 refine UB M D J ?_;unfold KM at hm;show Lt h [.str s,.int .u8 c]=some (.int .i64 n,h);unfold Lt;split at hm
 ·rename_i K;injection hm with hm;subst hm;dsimp only;rw[zj K]
 ·cases hm
theorem U8{s t:List UInt8}{a:Nat}(M:C.kind f=3)(D:C.ext=Qg C.P km l)(J:Mj l f=some (8,a,0))(T:decide (s.length<=4294967280)=true):Bw C g h f [.str s,.str t] (.tuple [.str (Lib.cut s t).1,.str (Lib.cut s t).2.1,.bool (Lib.cut s t).2.2]) h:=by
 refine UB M D J ?_;show PL h [.str s,.str t]=_;unfold PL;dsimp only;rw[zj (of_decide_eq_true T)]
end
end Go.Av
