/-
 A part.
-/
import Derived.Test.YtfgmnhjedmkpeaaAvExt
import Derived.Shelf.SlicesE.Clone
import Derived.Shelf.Spec.SlicesGrow
import Derived.Shelf.SlIter.Nil
import Derived.Shelf.SortM.Plain
import Derived.Shelf.SortM.SortNone
import Derived.Lib.Bytealg
import Derived.Shelf.Strings.Repeat
import Derived.Shelf.Strings.OnBuilder
import Derived.Shelf.Strings.Cut
import Derived.Shelf.Strings.Search3
set_option linter.unusedSimpArgs false
namespace Go.Av
open Go.RowKit Go.Shelf Go.Proofs Go.Lib Go.Maps Go.MapKept Go.ChangeMaps Go.WideShapes
set_option linter.unusedVariables false
section
variable {P:Program} {w0:World} {m:Aj} {h:AB} {w:World}
theorem JO{f:FuncId}{args:Array Value}{Q:Value->World->Prop}(he:∀args w,(callFunc f args).run P w=.ok (.enter f args) w)(hc:Calls P f args w λe w'=>∃v,e=.returned v/\Q v w'):Bz P f args w Q:=by
 unfold Bz;rw[he args w];exact hc
theorem Nn{w w':World}(H:Below w.heap.size w w')(g:Nat):B9 w w' g:=⟨H.os,H.tape,H.output,H.size,λk O _=>H.block k O⟩
theorem Rel.newAt(r:Rel P w0 m h w){w':World}{E:Gg}{o:Ay}(ht:B9 w w' E.g)(hg:w.heap.size<=E.g)
  (hobj:F3 P (m.upd h.size E) w' E o):Rel P w0 (m.upd h.size E) (h.push o) w':=by
 refine(r.ghost o).place ht (zM r.size hg) (λid2 E2 o2 T ho2 hl2=>?_) (r.OZ (by omega)) (λhd=>by have:=r.Le hd;omega) (r.fresh (zr _)) (h.A8 o) hobj;have:=((r.ghost o).obj id2 E2 o2 T ho2).lt hl2;omega
theorem Rel.row(r:Rel P w0 m h w){w':World}(H:Below w.heap.size w w'){e:TypeId}{z n:Nat}{v:Value}{ds:List Value}{cs:List AA}(N:w'.ownsRow w.heap.size e z v n ds)(S:v≠.slice none 0 0)(U:Ga P (some e)=z)
  (B:BT m cs ds) (h1:cs.all AA.one=true):∃m':Aj,m.ext h.size m'/\Rel P w0 m' (h.push (.cells (some e) 2 cs)) w'/\VR m' (.slice (some (h.size,0)) n) v:=by
 obtain⟨I,⟨h0,_⟩|⟨g,cap,cur,rfl,hg,hc,hnc,_,X,htk⟩⟩:=N
 ·exact absurd h0 S
 ·have hle:=Aj.Gl (m:=m) (id:=h.size) ⟨g,0,z,cap*z⟩ (r.fresh (zr _));refine⟨m.upd h.size ⟨g,0,z,cap*z⟩,Aj.Lm m _ (zr _),r.newAt (Nn H _) hg ?_,?_⟩
  ·refine Ff (e:=e) (fz:=(0,0)) hc rfl U.symm X.symm ?_ h1 (.inl rfl);rw[B.1,I,htk];exact B.mono hle
  ·exact .slice _ _ _ _ ⟨g,0,z,cap*z⟩ _ (Aj.CR _ _ _) hnc (λ_=>⟨by simp,λ_=>by simp⟩)
def I9:AA->Option Nat
 | .slice _ n=>some n
 | .Gi n _=>some n
 |_=>none
theorem Pm(r:Rel P w0 m h w){z n:Nat}{x:AA}{x':Value}{cs:List AA}(D:VR m x x')(I:I9 x=some n)(h0:0<n)(J:Bv h z n x=some cs):
  ∃b off cap ds,x'=.slice (some ⟨b,off,none⟩) n cap/\ds.length=n*z/\BT m cs ds/\∀(j:Nat) (v:Value),ds[j]?=some v->w.cell? ⟨b,off+j,none⟩=some v:=by
 cases D<;>simp[I9]at I
 case By=>omega
 case D5=>omega
 case slice id o len cap E a hE hle hc=>
  subst I;obtain⟨rfl,_⟩:=hc (by omega);simp only[Bv,zh (show ¬len=0 by omega)]at J;obtain⟨ds,h1,T,R,_⟩:=r.cells hE J;exact⟨_,_,cap,ds,rfl,h1,T,λj v Z=>by have:=R j v Z;rwa [Addr.add_lit]at this⟩
 case Ic=>omega
 case Gi len cap g o a c hle hf1 B=>
  subst I;simp only[Bv]at J;split at J
  ·rename_i H;injection J with J;subst J;obtain⟨ds,h1,T,R⟩:=r.MJ hf1 B;have e:a.take (len*z)=a:=zV (by omega);rw[e];exact⟨_,_,cap,ds,rfl,by omega,T,λj v Z=>by have:=R j v Z;rwa [Addr.add_lit]at this⟩
  ·cases J
theorem VE{x:AA}{x':Value}(D:VR m x x')(I:I9 x=some 0):∃a c,x'=.slice a 0 c:=by
 cases D<;>simp[I9]at I
 case By=>exact⟨_,_,rfl⟩
 case D5=>exact⟨_,_,rfl⟩
 case slice=>subst I;exact⟨_,_,rfl⟩
 case Ic=>exact⟨_,_,rfl⟩
 case Gi=>subst I;exact⟨_,_,rfl⟩
set_option maxHeartbeats 2000000 in
theorem P4{ρ:Ren}(L:SlLaysE0.n41 P ρ){i0:TypeInfo}(M:P.info? (ρ.t 23)=some i0)(z23:∀w,(Go.sizeOf (ρ.t 23)).run P w=.ok i0.size w)(a:Addr)(c:Nat)(w:World):
  Calls P (ρ.f 41) #[.slice (some a) 0 c] w λe w'=>∃a',e=.returned (.slice (some a') 0 0)/\Below w.heap.size w w':=by
 have mixed:=L.mixed;have t4:=L.t4;have a4:=L.a4;have z4:=L.z4;have v4:=L.v4;have t22:=L.t22;have a22:=L.a22;have z22:=L.z22;have v22:=L.v22;have q22:∀(w:World) (a:Option Addr) (n c n' c':Nat),(binOp .eql (ρ.t 22) (.slice a n c) (.slice none n' c')).run P w=.ok (.bool a.isNone) w:=λw a n c n' c'=>Lib.run_eql_slice_nil w _ _ a n c n' c' L.t22;have u22:∀w,Sem.run P (underlying (ρ.t 22)) w=.ok (TypeDesc.slice (ρ.t 23)) w:=run_underlying t22;have happ:∀ty (base:Option Addr) (w:World),(Builtin.append_ #[ρ.t 22,ρ.t 22] ty #[.slice base 0 0,.slice (some a) 0 c]).run P w=.ok (.slice base 0 0) w:=λty base w=>
  F0 rfl rfl t22 t22 rfl M (zr _) (λw=>by simp[Builtin.lenOf]) (by simp[Builtin.firstCells,loadCells,loadCellsFrom])
 obtain⟨_,_,FG⟩:=L.f41
 go_enter FG,SlBodyN.n41_ntmps ρ
 go_wp2
 go_ret
 exact⟨_,rfl,(Below.refl _ w).alloc (zr _) _⟩
def NW(i:TypeInfo)(n:Nat):Bool:=decide (i.size≠0/\n<=1099511627776/\n*i.bytes<=1099511627776/\i.zero.map (·.cells.size)=some i.size)
def IT(P:Program)(e:TypeId)(h:AB):List AA->Option (AA×AB)
 | [x]=>
  match I9 x with
  |some 0=>
   match P.info? e with
   |some _=>some (.slice none 0,h)
   |none=>none
  | some n=>
   match P.info? e with
   |some i=>
    match(Bv h i.size n x).map (·.map GU)with
    |some cs=>if cs.all AA.one=true/\NW i n=true then some (.slice (some (h.size,0)) n,h.push (.cells (some e) 2 cs))else none
    |none=>none
   |none=>none
  |none=>none
 |_=>none
theorem BT.Ob{cs:List AA}{ds:List Value}(B:BT m cs ds)(h1:cs.all AA.one=true):∀u∈ds,u.oneCell'=true:=by
 intro u hu;obtain⟨j,Z,rfl⟩:=yW hu;have hj':j<cs.length:=by rw[B.1];exact Z
 exact(B.2 j _ _ (List.getElem?_eq_getElem hj') (List.getElem?_eq_getElem Z)).one (zC.1 h1 _ (zY hj'))
theorem Pe{m:Aj}{x:AA}{cargs:Array Value}(B:BT m [x] cargs.toList):∃a,cargs=#[a]/\VR m x a:=by
 have:=B.1
 match cargs,this with
 |⟨[a]⟩,_=>exact⟨a,rfl,B.2 0 _ _ rfl rfl⟩
theorem Ph{m:Aj}{x y:AA}{cargs:Array Value}(B:BT m [x,y] cargs.toList):∃a b,cargs=#[a,b]/\VR m x a/\VR m y b:=by
 have:=B.1
 match cargs,this with
 |⟨[a,b]⟩,_=>exact⟨a,b,rfl,B.2 0 _ _ rfl rfl,B.2 1 _ _ rfl rfl⟩
def J4(P:Program)(G:Nat->Option (List AA))(f:FuncId)(ext:Gd->AB->List AA->Option (AA×AB)):Prop:=E9 P G λg h f' args=>if f'=f then ext g h args else none
theorem J4.of{G:Nat->Option (List AA)}{f:FuncId}{ext:Gd->AB->List AA->Option (AA×AB)}
  (D:∀g h args v h',ext g h args=some (v,h')->Af g h h'/\∀w0 m w (cargs:Array Value),Rel P w0 m h w->BT m args cargs.toList->Bz P f cargs w λv' w'=>∃m':Aj,(m.ext h.size m')/\Rel P w0 m' h' w'/\VR m' v v'):J4 P G f ext:=by
 intro g h f' args v h' hc;dsimp only at hc;split at hc
 ·rename_i e;subst e;obtain⟨k,q⟩:=D g h args v h' hc;exact⟨k,λw0 m w cargs _ r B=>q w0 m w cargs r B⟩
 ·cases hc
theorem Ty{ρ:Ren}(L:SlLaysE0.n41 P ρ)(G:Nat->Option (List AA)):J4 P G (ρ.f 41) λg h args=>IT P (ρ.t 23) h args:=by
 refine J4.of λg h args v h' hc=>?_;have en:=L.f41.enters rfl;unfold IT at hc;split at hc
 ·rename_i x;split at hc
  ·rename_i I;split at hc
   ·rename_i i M;simp only[za,zb]at hc;obtain⟨rfl,rfl⟩:=hc;refine⟨Af.refl _ _,λw0 m w cargs r B=>?_⟩;obtain⟨x',rfl,D⟩:=Pe B;obtain⟨a,c,rfl⟩:=VE D I;refine JO en ?_;cases a with
    |none=>
     refine(AnyE.slices_Clone_nil L 0 c w).mono ?_;rintro e w' ⟨rfl,rfl⟩;exact⟨_,rfl,m,Aj.ext.refl _ _,r,.By⟩
    |some a=>
     refine(P4 L M (λw=>by simp[Go.sizeOf,typeInfo,M]) a c w).mono ?_;rintro e w' ⟨a',rfl,H⟩;exact⟨_,rfl,m,Aj.ext.refl _ _,r.later H,.D5 _⟩
   ·cases hc
  ·rename_i n K I;split at hc
   ·rename_i i M;split at hc
    ·rename_i cs hcs;split at hc
     ·rename_i H;obtain⟨h1,H⟩:=H;simp only[NW,zq]at H;obtain⟨hs0,S,hby,U⟩:=H;simp only[za,zb]at hc;obtain⟨rfl,rfl⟩:=hc;refine⟨Af.push _ _ _,λw0 m w cargs r B=>?_⟩;obtain⟨x',rfl,D⟩:=Pe B;simp only[zg]at hcs U;obtain⟨cs0,J,rfl⟩:=hcs;obtain⟨z,U,hzs⟩:=U;obtain⟨b,off,cap,ds,rfl,d1,d2,d3⟩:=Pm r D I (Nat.pos_of_ne_zero λe=>K e) J;have d2':=d2.GU;refine JO en ?_;refine(AnyE.slices_Clone L i z i.size i.bytes M U rfl rfl hzs (by omega) (λw=>by simp[Go.sizeOf,typeInfo,M]) b off n cap ds w d1 (by unfold maxLen;omega) (by omega) d3 (d2'.Ob h1)).mono ?_;rintro e w' ⟨v',rfl,N,K,H⟩;have X:BK P (ρ.t 23)=some i.size:=by simp[BK,M]
      obtain⟨m',q1,q2,q3⟩:=r.row H N K (by simp[Ga,Eo X]) d2' h1;exact⟨_,rfl,m',q1,q2,q3⟩
     ·cases hc
    ·cases hc
   ·cases hc
  ·cases hc
 ·cases hc
theorem Rel.TY(r:Rel P w0 m h w){w':World}(H:Below w.heap.size w w'){g:Nat}{cur:Array Value}{e:TypeId}{fz:Nat×Nat}(hg:w.heap.size<=g)(hc:w'.heap[g]?=some (.cells cur e fz)):Rel P w0 (m.still g cur) h w'/\m.ext h.size (m.still g cur):=by
 have hle:=Aj.O1 (m:=m) (g:=g) (cur:=cur) (r.OZ hg);have k:=r.later H;refine⟨⟨k.below,k.Kg,λid E o hE N=>(k.obj id E o hE N).mono hle λ_=>rfl,k.own,k.sep,λg' j v B=>?_,λid E o hE N V j=>?_,k.df,k.Py⟩,⟨λ_ _=>rfl,hle.fz,λ_ h=>h⟩⟩
 ·by_cases e':g'=g
  ·subst e';simp only[Aj.still,if_true]at B;exact⟨cur,e,fz,hc,B⟩
  ·simp only[Aj.still,zh e']at B;exact k.fz g' j v B
 ·have:E.g≠g:=by have:=(r.obj id E o hE N).lt (Ay.Eg V);omega
  simp only[Aj.still,zh this];exact k.Ke id E o hE N V j
def Rb(P:Program)(e:TypeId)(h:AB):List AA->Option (AA×AB)
 | [x]=>
  match I9 x with
  |some 0=>
   match P.info? e with
   |some _=>some (.Gi 0 [],h)
   |none=>none
  | some n=>
   match P.info? e with
   |some i=>
    match(Bv h i.size n x).map (·.map GU)with
    |some cs=>if cs.all AA.one=true/\NW i n=true then some (.Gi n cs,h)else none
    |none=>none
   |none=>none
  |none=>none
 |_=>none
def UM(P:Program)(e:TypeId)(h:AB):List AA->Option (AA×AB)
 |[.slice none 0,.int .i64 n]=>
  if n=0 then some (.slice none 0,h)else
  match P.info? e with
  |some i=>if 0<n/\NW i n.toNat=true then some (.slice (some (h.size,0)) 0,h.push (.cells (some e) 2 []))else none
  |none=>none
 |_=>none
def WQ(h:AB):List AA->Option (AA×AB)
 |[.str a,.str b]=>some (.int .i64 (compareBytes a b),h)
 |_=>none
def SG(P:Program)(f:FuncId):Bool:=
 match P.funcs[f]? with
 |some fn=> !(fn.name=="runtime.NumGoroutine")&&fn.body.isNone
 |none=>false
theorem U8{f:FuncId}(D:SG P f=true){F:Array Value->Sem Value}(S:∀fn,P.funcs[f]?=some fn->Extern.findNext fn=none/\Extern.find fn=some F){cargs:Array Value}{v:Value}{w':World}(h1:(F cargs).run P w=.ok v w'){Q:Value->World->Prop}(hq:Q v w'):Bz P f cargs w Q:=by
 unfold SG at D;split at D
 ·rename_i fn hfn;simp only[zf,zx,Option.isNone_iff_eq_none]at D;obtain⟨e1,e2⟩:=S fn hfn;have hrun:(callFunc f cargs).run P w=.ok (.value v) w':=by
   unfold callFunc;simp only[Sem.run_bind,program,Sem.run,Result.andThen_ok,hfn];rw[zh (by rw[D.1];decide),zk (by rw[D.2];rfl)];simp only[e1,e2,Sem.run_bind];rw[show Sem.run P (Go.mark (Mark.extern f)) w=.ok () w from rfl];simp only[Result.andThen_ok,h1,Sem.run_pure]
  unfold Bz;rw[hrun];exact hq
 ·cases D
theorem ZI{f:FuncId}(G:Nat->Option (List AA))(D:SG P f=true)(S:∀fn,P.funcs[f]?=some fn->Extern.findNext fn=none/\Extern.find fn=some Extern.BytealgIndexByte.indexByte):J4 P G f λg h args=>WH h args:=by
 refine J4.of λg h args v h' hc=>?_;unfold WH at hc;split at hc
 ·rename_i s c;split at hc
  ·rename_i Y;simp only[za,zb]at hc;obtain⟨rfl,rfl⟩:=hc;refine⟨Af.refl _ _,λw0 m w cargs r B=>?_⟩;obtain⟨a,b,rfl,ha,H⟩:=Ph B;obtain rfl:=ha.CF;obtain rfl:=H.BS;refine U8 D S (v:=.int .i64 (idxOf s (UInt8.ofNat c.toNat))) (w':=w) ?_ ⟨m,Aj.ext.refl _ _,r,.int _ _⟩
   show Sem.run P (do
    let b<-Extern.Bytes.bytesOf (.string ⟨⟨s⟩⟩)
    let c<-Extern.Bytes.asByte (.int .u8 c)
    match(List.range b.size).find? λi=>b[i]! ==c with
    |some i=>pure (goInt i)
    |none=>pure (goInt (-1))) w=_
   simp only[Extern.Bytes.bytesOf,Extern.Bytes.asByte,Sem.run_bind,Sem.run_pure,Result.andThen_ok];rw[idx_eq s c.toNat.toUInt8];unfold idxOf;rw[show UInt8.ofNat c.toNat=c.toNat.toUInt8 from rfl];cases(List.range s.length).find? λi=>s[i]?==some c.toNat.toUInt8<;>rfl
  ·cases hc
 ·cases hc
def PV:List (AA×AA)->Option (List (List UInt8))
 |[]=>some []
 |(.str s,_)::r=>(PV r).map (s::·)
 |_=>none
def X7(x:List UInt8):List (List UInt8)->List (List UInt8)
 |[]=>[x]
 |y::l=>bif Op.bytesLess y x then y::X7 x l else x::y::l
def X5(l:List (List UInt8)):List (List UInt8):=l.foldr X7 []
def W4(ks:List (List UInt8)):Bool:=decide (ks.length<=1099511627776)&&ks.all λs=>decide (s.length<=1099511627776)
def UJ(e:TypeId)(h:AB)(ks:List (List UInt8)):AA×AB:=
 match ks with
 |[]=>(.slice none 0,h)
 |_=>(.slice (some (h.size,0)) ks.length,h.push (.cells (some e) 2 ((X5 ks).map .str)))
def Uv(h:AB)(b:Nat):Option AA:=
 match h.get b with
 |some (.cells none 2 [v])=>some v
 |_=>none
def Rl(it:FuncId)(e:TypeId)(h:AB):List AA->Option (AA×AB)
 | [.func (.func f) [] [.ptr (some (b,0))]]=>
  if f=it then
   match Uv h b with
   |some (.map none)=>some (.slice none 0,h)
   | some (.map (some mid))=>
    match h.get mid with
    | some (.map st es)=>
     if st=2 then
      match PV es with
      |some ks=>if W4 ks=true then some (UJ e h ks)else none
      |none=>none
     else none
    |_=>none
   |_=>none
  else none
 |_=>none
def YP(s:List UInt8)(n:Int):Bool:=decide (0<=n/\n<=1099511627776/\s.length*n.toNat<=1099511627776)
def RQ(h:AB):List AA->Option (AA×AB)
 |[.str s,.int .i64 n]=>if YP s n=true then some (.str (Lib.repeatL s n.toNat),h)else none
 |_=>none
def TJ:List AA->Option (List (List UInt8))
 |[]=>some []
 | .str s::r=>(TJ r).map (s::·)
 |_=>none
def Wv(ss:List (List UInt8))(t:List UInt8):Bool:=decide (ss.length<=1099511627776/\(Lib.join ss t).length<=1099511627776)
def Ud(h:AB):List AA->Option (AA×AB)
 | [x,.str t]=>
  match I9 x with
  |some n=>
   match(bif Nat.beq n 0 then some []else(Bv h 1 n x).bind TJ)with
   |some ss=>if Wv ss t=true then some (.str (Lib.join ss t),h)else none
   |none=>none
  |none=>none
 |_=>none
def WA(h:AB):List AA->Option (AA×AB)
 |[.str s,.str t]=>if s.length<=4294967280 then some (.tuple [.str (Lib.cut s t).1,.str (Lib.cut s t).2.1,.bool (Lib.cut s t).2.2],h)else none
 |_=>none
def SW(h:AB):List AA->Option (AA×AB)
 |[.str s,.str t]=>if s.length<=4294967280 then some (.int .i64 (Lib.index s t),h)else none
 |_=>none
end
def UO(h:AB):List AA->Option (AA×AB)
 |[]=>some (.bool true,h)
 |_=>none
def Uu(h:AB):List AA->Option (AA×AB)
 |[]=>some (.undef,h)
 |_=>none
def TQ(f:AA->Option AA):List AA->Option (List AA)
 |[]=>some []
 |v::vs=>match f v,TQ f vs with|some v',some vs'=>some (v'::vs')|_,_=>none
def Xn(args:List AA)(i o:Nat):Option AA:=
 match args[i]? with
 |some (.ptr (some (id,b)))=>some (.ptr (some (id,b+o)))
 |_=>none
def SO(args:List AA):Nat->AA->Option AA
 |0,_=>none
 |n+1,v=>
  match v with
  | .ptr (some (i,o))=>Xn args i o
  | .Bu cs=>(TQ (SO args n) cs).map .Bu
  | .agg cs=>(TQ (SO args n) cs).map .agg
  | .func fn a b=>match TQ (SO args n) a,TQ (SO args n) b with|some a',some b'=>some (.func fn a' b')|_,_=>none
  |v=>bif Ev v then some v else none
def XB(args:List AA):List (AA×AA)->Option (List (AA×AA))
 |[]=>some []
 |(k,v)::es=>match SO args 10 v,XB args es with|some v',some es'=>some ((k,v')::es')|_,_=>none
def VJ:AA->Bool
 | .ptr (some _)=>true
 |_=>false
abbrev XJ:=List (List (AA×AA))
def YT(es:List (AA×AA))(n:Nat)(h:AB)(args:List AA):Option (AA×AB):=
 bif Nat.beq args.length n&&args.all VJ then(XB args es).map λes'=>(.map (some h.size),h.push (.map 2 es'))else none
def XZ(es:List (AA×AA))(n:Nat)(h:AB)(args:List AA):Option (AA×AB):=
 bif Nat.beq args.length n&&args.all VJ then(XB args es).map λes'=>(.map (some h.size),h.push (.map 3 es'))else none
def Sv:AA->AA->Bool
 | .bool a,.bool b=>a==b
 | .int k a,.int k' b=>decide (k=k')&&decide (a=b)
 | .str a,.str b=>decide (a=b)
 |_,_=>false
def Oi:List AA->List AA->Bool
 |[],[]=>true
 |a::l,b::r=>Sv a b&&Oi l r
 |_,_=>false
def V7(tab:List (AA×AA))(h:AB):List AA->Option (AA×AB)
 |[.agg cs]=>(tab.find? λp=>match p.1 with| .agg ds=>Oi ds cs|_=>false).map λp=>(p.2,h)
 |_=>none
def Yv:AA->AA->Bool
 | .Gi n cs,.Gi n' cs'=>Nat.beq n n'&&Oi cs cs'
 |x,y=>Sv x y
def SZ:List AA->List AA->Bool
 |[],[]=>true
 |x::xs,y::ys=>Yv x y&&SZ xs ys
 |_,_=>false
def W2(tab:List (AA×AA))(h:AB)(args:List AA):Option (AA×AB):=(tab.find? λp=>match p.1 with| .tuple ks=>SZ ks args|_=>false).map λp=>(p.2,h)
noncomputable def Tb(P:Program)(km:XJ)(c:Nat×Nat×Nat)(g:Gd)(h:AB)(args:List AA):Option (AA×AB):=
 match c.1 with
 |1=>WH h args
 |2=>Rl c.2.1 c.2.2 h args
 |3=>WQ h args
 |4=>IT P c.2.2 h args
 |5=>UM P c.2.2 h args
 |6=>Rb P c.2.2 h args
 |7=>RQ h args
 |8=>WA h args
 |9=>SW h args
 |10=>Ud h args
 |30=>UO h args
 |40=>Rz h args
 |31=>Uu h args
 |32=>YT (km.getD c.2.1 []) c.2.2 h args
 |33=>XZ (km.getD c.2.1 []) c.2.2 h args
 |34=>V7 (km.getD c.2.1 []) h args
 |35=>W2 (km.getD c.2.1 []) h args
 |_=>none
def Lb:List (Nat×Nat×Nat×Nat)->Nat->Option (Nat×Nat×Nat)
 |[],_=>none
 |(f',c)::l,f=>bif Nat.beq f f' then some c else Lb l f
theorem Nu:∀{l:List (Nat×Nat×Nat×Nat)} {f:Nat} {c:Nat×Nat×Nat},Lb l f=some c->(f,c)∈l
 |(f',c')::l,f,c,h=>by
  unfold Lb at h;rw[F9]at h;split at h
  ·rename_i e;subst e;injection h with h;subst h;simp
  ·exact ym _ (Nu h)
noncomputable def QZ(P:Program)(km:XJ)(l:List (Nat×Nat×Nat×Nat))(f:Nat)(g:Gd)(h:AB)(args:List AA):Option (AA×AB):=
 match Lb l f with
 |some c=>Tb P km c g h args
 |none=>none
def OR(ks:List Nat)(l:List (Nat×Nat×Nat×Nat)):Nat->Bool
 |0=>true
 |n+1=>OR ks l n&&(!(Nat.beq (Io ks n) 3)||(Lb l n).isSome)
theorem N4{ks:List Nat}{l:List (Nat×Nat×Nat×Nat)}:∀{n:Nat},OR ks l n=true->∀f,f<n->Io ks f=3->(Lb l f).isSome=true
 |0,_,f,J,_=>by omega
 | n+1,h,f,J,R=>by
  simp only[OR,zf]at h;by_cases e:f=n
  ·subst e;have:=h.2;rw[R]at this;simpa using this
  ·exact N4 h.1 f (by omega) R
theorem RZ{C:Eu}{km:XJ}{ks:List Nat}{l:List (Nat×Nat×Nat×Nat)}(O:C.kind=Io ks)(hmix:C.P.follows .mixedOrders=true)(hall:Lt C ks.length=true)(hro:C.Vf=Sc C.P C.Iy)(D:C.ext=QZ C.P km l)(R:OR ks l ks.length=true)
  (he:∀p∈l,J4 C.P C.B6 p.1 (Tb C.P km p.2)):Fq C:=by
 refine⟨hmix,λf fn c hkf h1 T=>?_,λf a b Y=>?_,λf J=>?_⟩
 ·have K:C.kind f≠0:=by omega
  refine KB hall ?_ K (by omega) h1 T;rcases yo f ks.length with h|h
  ·exact h
  ·rw[O,JB h]at K;exact absurd rfl K
 ·rw[hro]at Y;simp only[Sc,zf]at Y;exact⟨(MT (C:=C) (C':=UH C.P C.Iy) rfl rfl f a).trans Y.1.1,(MT (C:=C) (C':=UH C.P C.Iy) rfl rfl f b).trans Y.1.2,Y.2.1,Y.2.2⟩
 ·have hlt:f<ks.length:=by
   rcases yo f ks.length with h|h
   ·exact h
   ·rw[O,JB h]at J;cases J
  obtain⟨c,I⟩:=qQ.1 (N4 R f hlt (by rw[<-O];exact J));have:=he _ (Nu I);have e:(λ(g:Gd) (h:AB) (f':FuncId) (args:List AA)=>if f'=f then C.ext f g h args else none)=λ(g:Gd) h f' args=>if f'=f then Tb C.P km c g h args else none:=by
   funext g h f' args;rw[D];simp only[QZ,I]
  rw[e];exact this
section
variable {C:Eu} {km:XJ} {l:List (Nat×Nat×Nat×Nat)} {g:Gd} {h:AB} {f:Nat} {L F:List Ck}
theorem Tl{c:Nat×Nat×Nat}{args:List AA}{v:AA}{h':AB}(O:C.kind f=3)(D:C.ext=QZ C.P km l)(I:Lb l f=some c)(he:Tb C.P km c g h args=some (v,h')):CW C g h f args v h':=by
 refine⟨1,?_⟩;show Ej C (Bm C 0) g h f _=_;unfold Ej;rw[O];simp only[D,QZ,I,he]
def VX(P:Program)(t:TypeId)(z b:Nat):Bool:=
 match P.info? t with
 |some i=>decide (i.size=z/\i.bytes=b/\i.zero.map (·.cells.size)=some i.size)
 |none=>false
theorem HH.clone{α:Type}{e:α->List AA}{z bytes t a:Nat}{x:AA}{new:List AA}{xs:List α}(E:Kf e z)(U:z≠0)(A:HH g h L F)(O:C.kind f=3)(D:C.ext=QZ C.P km l)(I:Lb l f=some (4,a,t))(M:VX C.P t z bytes=true)
  (S:I9 x=some xs.length) (J:Bv h z xs.length x=some new) (hc:new.map GU=Ag e xs) (H:O0 bytes xs.length=true):
  ∃r h',CW C g h f [x] (AY r xs.length) h'/\HH g h' (.Ag r t (Ag e xs)::L) F:=by
 unfold VX at M;split at M
 ·rename_i i W;obtain⟨h1,T,R⟩:=of_decide_eq_true M;subst h1;subst T;cases xs with
  |nil=>
   refine⟨none,h,Tl O D I ?_,A.Pr t⟩;show IT C.P t h [x]=_;unfold IT;simp only[S,yK,W];rfl
  |cons y ys=>
   refine⟨some h.size,_,Tl O D I (h':=h.push (.cells (some t) 2 (Ag e (y::ys)))) ?_,A.Vj t _⟩;show IT C.P t h [x]=_;unfold IT;simp only[S,zT,W];rw[show ys.length+1=(y::ys).length from rfl,J];simp only[ze,hc];have N:=of_decide_eq_true H;rw[zk ⟨E.T2 _,by simp only[NW,zq];exact⟨U,N.1,N.2,R⟩⟩];rfl
 ·cases M
end
end Go.Av
