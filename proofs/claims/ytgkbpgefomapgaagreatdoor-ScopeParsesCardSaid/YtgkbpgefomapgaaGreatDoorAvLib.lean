/-
 A part.
-/
import Derived.Test.YtgkbpgefomapgaaGreatDoorAvMap
import Derived.Shelf.SlicesE.Clone
import Derived.Shelf.Spec.SlicesGrow
import Derived.Shelf.SlIter.Nil
import Derived.Shelf.SortM.Plain
import Derived.Shelf.SortM.SortNone
import Derived.Lib.Bytealg
import Derived.Shelf.Strings.Repeat
import Derived.Shelf.Strings.OnBuilder
import Derived.Shelf.Strings.Cut
import Derived.Shelf.Strings.Search3
set_option linter.unusedSimpArgs false
namespace Go.Av
open Go.RowKit Go.Shelf Go.Proofs Go.Lib Go.Maps Go.MapKept Go.ChangeMaps Go.WideShapes
set_option linter.unusedVariables false
section
variable {P:Program} {w0:World} {m:CU} {h:AS} {w:World}
theorem I5{f:FuncId}{args:Array Value}{Q:Value->World->Prop}(he:∀args w,(callFunc f args).run P w=.ok (.enter f args) w)(hc:Calls P f args w λe w'=>∃v,e=.returned v/\Q v w'):GO P f args w Q:=by
 unfold GO;rw[he args w];exact hc
theorem RY{w w':World}(J:Below w.heap.size w w')(g:Nat):GS w w' g:=⟨J.os,J.tape,J.output,J.size,λk N _=>J.block k N⟩
theorem Rel.newAt(r:Rel P w0 m h w){w':World}{E:NQ}{o:Dc}(ht:GS w w' E.g)(hg:w.heap.size<=E.g)
  (hobj:Oe P (m.upd h.size E) w' E o):Rel P w0 (m.upd h.size E) (h.push o) w':=by
 refine(r.ghost o).place ht (zV r.size hg) (λid2 E2 o2 U ho2 hl2=>?_) (r.Uu (by omega)) (λhd=>by have:=r.R6 hd;omega) (r.fresh (zo _)) (h.ES o) hobj;have:=((r.ghost o).obj id2 E2 o2 U ho2).lt hl2;omega
theorem Rel.row(r:Rel P w0 m h w){w':World}(J:Below w.heap.size w w'){e:TypeId}{z n:Nat}{v:Value}{ds:List Value}{cs:List AE}(Y:w'.ownsRow w.heap.size e z v n ds)(R:v≠.slice none 0 0)(O:MP P (some e)=z)
  (H:Dt m cs ds) (h1:cs.all AE.one=true):∃m':CU,m.ext h.size m'/\Rel P w0 m' (h.push (.cells (some e) 2 cs)) w'/\VR m' (.slice (some (h.size,0)) n) v:=by
 obtain⟨I,⟨h0,_⟩|⟨g,cap,cur,rfl,hg,hc,hnc,_,X,htk⟩⟩:=Y
 ·exact absurd h0 R
 ·have hle:=CU.PG (m:=m) (id:=h.size) ⟨g,0,z,cap*z⟩ (r.fresh (zo _));refine⟨m.upd h.size ⟨g,0,z,cap*z⟩,CU.OK m _ (zo _),r.newAt (RY J _) hg ?_,?_⟩
  ·refine K3 (e:=e) (fz:=(0,0)) hc rfl O.symm X.symm ?_ h1 (.inl rfl);rw[H.1,I,htk];exact H.mono hle
  ·exact .slice _ _ _ _ ⟨g,0,z,cap*z⟩ _ (CU.HC _ _ _) hnc (λ_=>⟨by simp,λ_=>by simp⟩)
def Mf:AE->Option Nat
 | .slice _ n=>some n
 | .Jd n _=>some n
 |_=>none
theorem Xu(r:Rel P w0 m h w){z n:Nat}{x:AE}{x':Value}{cs:List AE}(D:VR m x x')(I:Mf x=some n)(h0:0<n)(K:Du h z n x=some cs):
  ∃b off cap ds,x'=.slice (some ⟨b,off,none⟩) n cap/\ds.length=n*z/\Dt m cs ds/\∀(j:Nat) (v:Value),ds[j]?=some v->w.cell? ⟨b,off+j,none⟩=some v:=by
 cases D<;>simp[Mf]at I
 case GI=>omega
 case G8=>omega
 case slice id o len cap E a hE hle hc=>
  subst I;obtain⟨rfl,_⟩:=hc (by omega);simp only[Du,zm (show ¬len=0 by omega)]at K;obtain⟨ds,h1,U,S,_⟩:=r.cells hE K;exact⟨_,_,cap,ds,rfl,h1,U,λj v Z=>by have:=S j v Z;rwa [Addr.add_lit]at this⟩
 case ND=>omega
 case Jd len cap g o a c hle hf1 H=>
  subst I;simp only[Du]at K;split at K
  ·rename_i J;injection K with K;subst K;obtain⟨ds,h1,U,S⟩:=r.PF hf1 H;have e:a.take (len*z)=a:=zU (by omega);rw[e];exact⟨_,_,cap,ds,rfl,by omega,U,λj v Z=>by have:=S j v Z;rwa [Addr.add_lit]at this⟩
  ·cases K
theorem Yg{x:AE}{x':Value}(D:VR m x x')(I:Mf x=some 0):∃a c,x'=.slice a 0 c:=by
 cases D<;>simp[Mf]at I
 case GI=>exact⟨_,_,rfl⟩
 case G8=>exact⟨_,_,rfl⟩
 case slice=>subst I;exact⟨_,_,rfl⟩
 case ND=>exact⟨_,_,rfl⟩
 case Jd=>subst I;exact⟨_,_,rfl⟩
set_option maxHeartbeats 2000000 in
theorem UN{ρ:Ren}(L:SlLaysE0.n41 P ρ){i0:TypeInfo}(hi:P.info? (ρ.t 23)=some i0)(z23:∀w,(Go.sizeOf (ρ.t 23)).run P w=.ok i0.size w)(a:Addr)(c:Nat)(w:World):
  Calls P (ρ.f 41) #[.slice (some a) 0 c] w λe w'=>∃a',e=.returned (.slice (some a') 0 0)/\Below w.heap.size w w':=by
 have mixed:=L.mixed;have t4:=L.t4;have a4:=L.a4;have z4:=L.z4;have v4:=L.v4;have t22:=L.t22;have a22:=L.a22;have z22:=L.z22;have v22:=L.v22;have q22:∀(w:World) (a:Option Addr) (n c n' c':Nat),(binOp .eql (ρ.t 22) (.slice a n c) (.slice none n' c')).run P w=.ok (.bool a.isNone) w:=λw a n c n' c'=>Lib.run_eql_slice_nil w _ _ a n c n' c' L.t22;have u22:∀w,Sem.run P (underlying (ρ.t 22)) w=.ok (TypeDesc.slice (ρ.t 23)) w:=run_underlying t22;have happ:∀ty (base:Option Addr) (w:World),(Builtin.append_ #[ρ.t 22,ρ.t 22] ty #[.slice base 0 0,.slice (some a) 0 c]).run P w=.ok (.slice base 0 0) w:=λty base w=>
  Kn rfl rfl t22 t22 rfl hi (zo _) (λw=>by simp[Builtin.lenOf]) (by simp[Builtin.firstCells,loadCells,loadCellsFrom])
 obtain⟨_,_,FG⟩:=L.f41
 go_enter FG,SlBodyN.n41_ntmps ρ
 go_wp2
 go_ret
 exact⟨_,rfl,(Below.refl _ w).alloc (zo _) _⟩
def Q9(i:TypeInfo)(n:Nat):Bool:=decide (i.size≠0/\n<=1099511627776/\n*i.bytes<=1099511627776/\i.zero.map (·.cells.size)=some i.size)
def KG(P:Program)(e:TypeId)(h:AS):List AE->Option (AE×AS)
 | [x]=>
  match Mf x with
  |some 0=>
   match P.info? e with
   |some _=>some (.slice none 0,h)
   |none=>none
  | some n=>
   match P.info? e with
   |some i=>
    match(Du h i.size n x).map (·.map II)with
    |some cs=>if cs.all AE.one=true/\Q9 i n=true then some (.slice (some (h.size,0)) n,h.push (.cells (some e) 2 cs))else none
    |none=>none
   |none=>none
  |none=>none
 |_=>none
theorem Dt.bS{cs:List AE}{ds:List Value}(H:Dt m cs ds)(h1:cs.all AE.one=true):∀u∈ds,u.oneCell'=true:=by
 intro u hu;obtain⟨j,Z,rfl⟩:=yS hu;have hj':j<cs.length:=by rw[H.1];exact Z
 exact(H.2 j _ _ (List.getElem?_eq_getElem hj') (List.getElem?_eq_getElem Z)).one (zF.1 h1 _ (zX hj'))
theorem Tu{m:CU}{x:AE}{cargs:Array Value}(H:Dt m [x] cargs.toList):∃a,cargs=#[a]/\VR m x a:=by
 have:=H.1
 match cargs,this with
 |⟨[a]⟩,_=>exact⟨a,rfl,H.2 0 _ _ rfl rfl⟩
theorem Tq{m:CU}{x y:AE}{cargs:Array Value}(H:Dt m [x,y] cargs.toList):∃a b,cargs=#[a,b]/\VR m x a/\VR m y b:=by
 have:=H.1
 match cargs,this with
 |⟨[a,b]⟩,_=>exact⟨a,b,rfl,H.2 0 _ _ rfl rfl,H.2 1 _ _ rfl rfl⟩
def MA(P:Program)(G:Nat->Option (List AE))(f:FuncId)(ext:Gd->AS->List AE->Option (AE×AS)):Prop:=Sg P G λg h f' args=>if f'=f then ext g h args else none
theorem MA.of{G:Nat->Option (List AE)}{f:FuncId}{ext:Gd->AS->List AE->Option (AE×AS)}
  (D:∀g h args v h',ext g h args=some (v,h')->CT g h h'/\∀w0 m w (cargs:Array Value),Rel P w0 m h w->Dt m args cargs.toList->GO P f cargs w λv' w'=>∃m':CU,(m.ext h.size m')/\Rel P w0 m' h' w'/\VR m' v v'):MA P G f ext:=by
 intro g h f' args v h' hc;dsimp only at hc;split at hc
 ·rename_i e;subst e;obtain⟨k,q⟩:=D g h args v h' hc;exact⟨k,λw0 m w cargs _ r H=>q w0 m w cargs r H⟩
 ·cases hc
theorem MA.cX{G:Nat->Option (List AE)}{f:FuncId}{ext:Gd->AS->List AE->Option (AE×AS)}
  (D:∀g h args v h',ext g h args=some (v,h')->CT g h h'/\∀w0 m w (cargs:Array Value),EF G w->Rel P w0 m h w->Dt m args cargs.toList->GO P f cargs w λv' w'=>∃m':CU,(m.ext h.size m')/\Rel P w0 m' h' w'/\VR m' v v'):MA P G f ext:=by
 intro g h f' args v h' hc;dsimp only at hc;split at hc
 ·rename_i e;subst e;obtain⟨k,q⟩:=D g h args v h' hc;exact⟨k,λw0 m w cargs O r H=>q w0 m w cargs (O.later r.below) r H⟩
 ·cases hc
theorem Qy{ρ:Ren}(L:SlLaysE0.n41 P ρ)(G:Nat->Option (List AE)):MA P G (ρ.f 41) λg h args=>KG P (ρ.t 23) h args:=by
 refine MA.of λg h args v h' hc=>?_;have en:=L.f41.enters rfl;unfold KG at hc;split at hc
 ·rename_i x;split at hc
  ·rename_i I;split at hc
   ·rename_i i hi;simp only[zd,ze]at hc;obtain⟨rfl,rfl⟩:=hc;refine⟨CT.refl _ _,λw0 m w cargs r H=>?_⟩;obtain⟨x',rfl,D⟩:=Tu H;obtain⟨a,c,rfl⟩:=Yg D I;refine I5 en ?_;cases a with
    |none=>
     refine(AnyE.slices_Clone_nil L 0 c w).mono ?_;rintro e w' ⟨rfl,rfl⟩;exact⟨_,rfl,m,CU.ext.refl _ _,r,.GI⟩
    |some a=>
     refine(UN L hi (λw=>by simp[Go.sizeOf,typeInfo,hi]) a c w).mono ?_;rintro e w' ⟨a',rfl,J⟩;exact⟨_,rfl,m,CU.ext.refl _ _,r.later J,.G8 _⟩
   ·cases hc
  ·rename_i n M I;split at hc
   ·rename_i i hi;split at hc
    ·rename_i cs hcs;split at hc
     ·rename_i J;obtain⟨h1,J⟩:=J;simp only[Q9,zx]at J;obtain⟨hs0,R,hby,O⟩:=J;simp only[zd,ze]at hc;obtain⟨rfl,rfl⟩:=hc;refine⟨CT.push _ _ _,λw0 m w cargs r H=>?_⟩;obtain⟨x',rfl,D⟩:=Tu H;simp only[zg]at hcs O;obtain⟨cs0,K,rfl⟩:=hcs;obtain⟨z,O,hzs⟩:=O;obtain⟨b,off,cap,ds,rfl,d1,d2,d3⟩:=Xu r D I (Nat.pos_of_ne_zero λe=>M e) K;have d2':=d2.II;refine I5 en ?_;refine(AnyE.slices_Clone L i z i.size i.bytes hi O rfl rfl hzs (by omega) (λw=>by simp[Go.sizeOf,typeInfo,hi]) b off n cap ds w d1 (by unfold maxLen;omega) (by omega) d3 (d2'.bS h1)).mono ?_;rintro e w' ⟨v',rfl,Y,M,J⟩;have X:Dn P (ρ.t 23)=some i.size:=by simp[Dn,hi]
      obtain⟨m',q1,q2,q3⟩:=r.row J Y M (by simp[MP,KS X]) d2' h1;exact⟨_,rfl,m',q1,q2,q3⟩
     ·cases hc
    ·cases hc
   ·cases hc
  ·cases hc
 ·cases hc
def WS(P:Program)(e:TypeId)(h:AS):List AE->Option (AE×AS)
 | [x]=>
  match Mf x with
  |some 0=>
   match P.info? e with
   |some _=>some (.Jd 0 [],h)
   |none=>none
  | some n=>
   match P.info? e with
   |some i=>
    match(Du h i.size n x).map (·.map II)with
    |some cs=>if cs.all AE.one=true/\Q9 i n=true then some (.Jd n cs,h)else none
    |none=>none
   |none=>none
  |none=>none
 |_=>none
def Yd(P:Program)(e:TypeId)(h:AS):List AE->Option (AE×AS)
 |[.slice none 0,.int .i64 n]=>
  if n=0 then some (.slice none 0,h)else
  match P.info? e with
  |some i=>if 0<n/\Q9 i n.toNat=true then some (.slice (some (h.size,0)) 0,h.push (.cells (some e) 2 []))else none
  |none=>none
 |_=>none
def Zg(h:AS):List AE->Option (AE×AS)
 |[.str a,.str b]=>some (.int .i64 (compareBytes a b),h)
 |_=>none
def Wv(P:Program)(f:FuncId):Bool:=
 match P.funcs[f]? with
 |some fn=> !(fn.name=="runtime.NumGoroutine")&&fn.body.isNone
 |none=>false
theorem YF{f:FuncId}(D:Wv P f=true){F:Array Value->Sem Value}(R:∀fn,P.funcs[f]?=some fn->Extern.findNext fn=none/\Extern.find fn=some F){cargs:Array Value}{v:Value}{w':World}(h1:(F cargs).run P w=.ok v w'){Q:Value->World->Prop}(hq:Q v w'):GO P f cargs w Q:=by
 unfold Wv at D;split at D
 ·rename_i fn hfn;simp only[zj,zK,Option.isNone_iff_eq_none]at D;obtain⟨e1,e2⟩:=R fn hfn;have hrun:(callFunc f cargs).run P w=.ok (.value v) w':=by
   unfold callFunc;simp only[Sem.run_bind,program,Sem.run,Result.andThen_ok,hfn];rw[zm (by rw[D.1];decide),zk (by rw[D.2];rfl)];simp only[e1,e2,Sem.run_bind];rw[show Sem.run P (Go.mark (Mark.extern f)) w=.ok () w from rfl];simp only[Result.andThen_ok,h1,Sem.run_pure]
  unfold GO;rw[hrun];exact hq
 ·cases D
theorem Us{f:FuncId}(G:Nat->Option (List AE))(D:Wv P f=true)(R:∀fn,P.funcs[f]?=some fn->Extern.findNext fn=none/\Extern.find fn=some Extern.BytealgIndexByte.indexByte):MA P G f λg h args=>ME h args:=by
 refine MA.of λg h args v h' hc=>?_;unfold ME at hc;split at hc
 ·rename_i s c;split at hc
  ·rename_i T;simp only[zd,ze]at hc;obtain⟨rfl,rfl⟩:=hc;refine⟨CT.refl _ _,λw0 m w cargs r H=>?_⟩;obtain⟨a,b,rfl,ha,J⟩:=Tq H;obtain rfl:=ha.Ff;obtain rfl:=J.EN;refine YF D R (v:=.int .i64 (idxOf s (UInt8.ofNat c.toNat))) (w':=w) ?_ ⟨m,CU.ext.refl _ _,r,.int _ _⟩
   show Sem.run P (do
    let b<-Extern.Bytes.bytesOf (.string ⟨⟨s⟩⟩)
    let c<-Extern.Bytes.asByte (.int .u8 c)
    match(List.range b.size).find? λi=>b[i]! ==c with
    |some i=>pure (goInt i)
    |none=>pure (goInt (-1))) w=_
   simp only[Extern.Bytes.bytesOf,Extern.Bytes.asByte,Sem.run_bind,Sem.run_pure,Result.andThen_ok];rw[idx_eq s c.toNat.toUInt8];unfold idxOf;rw[show UInt8.ofNat c.toNat=c.toNat.toUInt8 from rfl];cases(List.range s.length).find? λi=>s[i]?==some c.toNat.toUInt8<;>rfl
  ·cases hc
 ·cases hc
def Tg:List (AE×AE)->Option (List (List UInt8))
 |[]=>some []
 |(.str s,_)::r=>(Tg r).map (s::·)
 |_=>none
def aK(x:List UInt8):List (List UInt8)->List (List UInt8)
 |[]=>[x]
 |y::l=>bif Op.bytesLess y x then y::aK x l else x::y::l
def aW(l:List (List UInt8)):List (List UInt8):=l.foldr aK []
def Zc(ks:List (List UInt8)):Bool:=decide (ks.length<=1099511627776)&&ks.all λs=>decide (s.length<=1099511627776)
def YQ(e:TypeId)(h:AS)(ks:List (List UInt8)):AE×AS:=
 match ks with
 |[]=>(.slice none 0,h)
 |_=>(.slice (some (h.size,0)) ks.length,h.push (.cells (some e) 2 ((aW ks).map .str)))
def YU(h:AS)(b:Nat):Option AE:=
 match h.get b with
 |some (.cells none 2 [v])=>some v
 |_=>none
def WM(it:FuncId)(e:TypeId)(h:AS):List AE->Option (AE×AS)
 | [.func (.func f) [] [.ptr (some (b,0))]]=>
  if f=it then
   match YU h b with
   |some (.map none)=>some (.slice none 0,h)
   | some (.map (some mid))=>
    match h.get mid with
    | some (.map st es)=>
     if st=2 then
      match Tg es with
      |some ks=>if Zc ks=true then some (YQ e h ks)else none
      |none=>none
     else none
    |_=>none
   |_=>none
  else none
 |_=>none
def ag(s:List UInt8)(n:Int):Bool:=decide (0<=n/\n<=1099511627776/\s.length*n.toNat<=1099511627776)
def WQ(h:AS):List AE->Option (AE×AS)
 |[.str s,.int .i64 n]=>if ag s n=true then some (.str (Lib.repeatL s n.toNat),h)else none
 |_=>none
def Xp:List AE->Option (List (List UInt8))
 |[]=>some []
 | .str s::r=>(Xp r).map (s::·)
 |_=>none
def Z5(ss:List (List UInt8))(t:List UInt8):Bool:=decide (ss.length<=1099511627776/\(Lib.join ss t).length<=1099511627776)
def Yp(h:AS):List AE->Option (AE×AS)
 | [x,.str t]=>
  match Mf x with
  |some n=>
   match(bif Nat.beq n 0 then some []else(Du h 1 n x).bind Xp)with
   |some ss=>if Z5 ss t=true then some (.str (Lib.join ss t),h)else none
   |none=>none
  |none=>none
 |_=>none
def QZ(h:AS):List AE->Option (AE×AS)
 |[.str s,.str t]=>if s.length<=4294967280 then some (.tuple [.str (Lib.cut s t).1,.str (Lib.cut s t).2.1,.bool (Lib.cut s t).2.2],h)else none
 |_=>none
def Xm(h:AS):List AE->Option (AE×AS)
 |[.str s,.str t]=>if s.length<=4294967280 then some (.int .i64 (Lib.index s t),h)else none
 |_=>none
theorem Tt{B:Nat}{a w:World}(h:Below B a w)(n:Nat):Below B a (w.drewN n):=h.trans ⟨rfl,rfl,rfl,zo _,λ_ _=>rfl⟩
theorem Sp{ρ:Ren}(L:Lays.n145 P ρ){G:Nat->Option (List AE)}(hg:G (ρ.g 1)=some []):MA P G (ρ.f 145) λg h args=>QZ h args:=by
 refine MA.cX λg h args v h' hc=>?_;have en:∀args w,(callFunc (ρ.f 145) args).run P w=.ok (.enter (ρ.f 145) args) w:=enters_of L.f145 (by kernel_rfl) rfl;unfold QZ at hc;split at hc
 ·rename_i s t;split at hc
  ·rename_i J;simp only[zd,ze]at hc;obtain⟨rfl,rfl⟩:=hc;refine⟨CT.refl _ _,λw0 m w cargs O r H=>?_⟩;obtain⟨a,b,rfl,ha,hb'⟩:=Tq H;obtain rfl:=ha.Ff;obtain rfl:=hb'.Ff;obtain⟨n,R⟩:=O.2 _ hg;refine I5 en ((Any.strings_Cut L ⟨⟨s⟩⟩ ⟨⟨t⟩⟩ n w (by show s.length<_;omega) R).mono ?_);rintro e w' ⟨rfl,q,rfl⟩;refine⟨_,rfl,m,CU.ext.refl _ _,r.later (Tt (Below.refl _ _) _),VR.tuple _ _ rfl λi x y D V=>?_⟩
   match i,D,V with
   |0,D,V=>cases D;cases V;exact VR.str ⟨⟨_⟩⟩
   |1,D,V=>cases D;cases V;exact VR.str ⟨⟨_⟩⟩
   |2,D,V=>cases D;cases V;exact VR.bool _
   |i+3,D,V=>simp at D
  ·cases hc
 ·cases hc
end
def YX(h:AS):List AE->Option (AE×AS)
 |[]=>some (.bool true,h)
 |_=>none
def Yn(h:AS):List AE->Option (AE×AS)
 |[]=>some (.undef,h)
 |_=>none
def XW(f:AE->Option AE):List AE->Option (List AE)
 |[]=>some []
 |v::vs=>match f v,XW f vs with|some v',some vs'=>some (v'::vs')|_,_=>none
def aM(args:List AE)(i o:Nat):Option AE:=
 match args[i]? with
 |some (.ptr (some (id,b)))=>some (.ptr (some (id,b+o)))
 |_=>none
def Xe(args:List AE):Nat->AE->Option AE
 |0,_=>none
 |n+1,v=>
  match v with
  | .ptr (some (i,o))=>aM args i o
  | .BL cs=>(XW (Xe args n) cs).map .BL
  | .agg cs=>(XW (Xe args n) cs).map .agg
  | .func fn a b=>match XW (Xe args n) a,XW (Xe args n) b with|some a',some b'=>some (.func fn a' b')|_,_=>none
  |v=>bif KT v then some v else none
def Zv(args:List AE):List (AE×AE)->Option (List (AE×AE))
 |[]=>some []
 |(k,v)::es=>match Xe args 10 v,Zv args es with|some v',some es'=>some ((k,v')::es')|_,_=>none
def ZF:AE->Bool
 | .ptr (some _)=>true
 |_=>false
abbrev aE:=List (List (AE×AE))
def bD(es:List (AE×AE))(n:Nat)(h:AS)(args:List AE):Option (AE×AS):=
 bif Nat.beq args.length n&&args.all ZF then(Zv args es).map λes'=>(.map (some h.size),h.push (.map 2 es'))else none
def bE(es:List (AE×AE))(n:Nat)(h:AS)(args:List AE):Option (AE×AS):=
 bif Nat.beq args.length n&&args.all ZF then(Zv args es).map λes'=>(.map (some h.size),h.push (.map 3 es'))else none
def W3:AE->AE->Bool
 | .bool a,.bool b=>a==b
 | .int k a,.int k' b=>decide (k=k')&&decide (a=b)
 | .str a,.str b=>decide (a=b)
 |_,_=>false
def Sr:List AE->List AE->Bool
 |[],[]=>true
 |a::l,b::r=>W3 a b&&Sr l r
 |_,_=>false
def Zk(tab:List (AE×AE))(h:AS):List AE->Option (AE×AS)
 |[.agg cs]=>(tab.find? λp=>match p.1 with| .agg ds=>Sr ds cs|_=>false).map λp=>(p.2,h)
 |_=>none
def aN:AE->AE->Bool
 | .Jd n cs,.Jd n' cs'=>Nat.beq n n'&&Sr cs cs'
 |x,y=>W3 x y
def XA:List AE->List AE->Bool
 |[],[]=>true
 |x::xs,y::ys=>aN x y&&XA xs ys
 |_,_=>false
def ZP(tab:List (AE×AE))(h:AS)(args:List AE):Option (AE×AS):=(tab.find? λp=>match p.1 with| .tuple ks=>XA ks args|_=>false).map λp=>(p.2,h)
def Xr(P:Program)(km:aE)(c:Nat×Nat×Nat)(g:Gd)(h:AS)(args:List AE):Option (AE×AS):=
 match c.1 with
 |1=>ME h args
 |2=>WM c.2.1 c.2.2 h args
 |3=>Zg h args
 |4=>KG P c.2.2 h args
 |5=>Yd P c.2.2 h args
 |6=>WS P c.2.2 h args
 |7=>WQ h args
 |8=>QZ h args
 |9=>Xm h args
 |10=>Yp h args
 |30=>YX h args
 |31=>Yn h args
 |32=>bD (km.getD c.2.1 []) c.2.2 h args
 |33=>bE (km.getD c.2.1 []) c.2.2 h args
 |34=>Zk (km.getD c.2.1 []) h args
 |35=>ZP (km.getD c.2.1 []) h args
 |_=>none
def NI:List (Nat×Nat×Nat×Nat)->Nat->Option (Nat×Nat×Nat)
 |[],_=>none
 |(f',c)::l,f=>bif Nat.beq f f' then some c else NI l f
theorem Rj:∀{l:List (Nat×Nat×Nat×Nat)} {f:Nat} {c:Nat×Nat×Nat},NI l f=some c->(f,c)∈l
 |(f',c')::l,f,c,h=>by
  unfold NI at h;rw[Jy]at h;split at h
  ·rename_i e;subst e;injection h with h;subst h;simp
  ·exact zM _ (Rj h)
def Tn(P:Program)(km:aE)(l:List (Nat×Nat×Nat×Nat))(f:Nat)(g:Gd)(h:AS)(args:List AE):Option (AE×AS):=
 match NI l f with
 |some c=>Xr P km c g h args
 |none=>none
def SH(ks:List Nat)(l:List (Nat×Nat×Nat×Nat)):Nat->Bool
 |0=>true
 |n+1=>SH ks l n&&(!(Nat.beq (SD ks n) 3)||(NI l n).isSome)
theorem Rs{ks:List Nat}{l:List (Nat×Nat×Nat×Nat)}:∀{n:Nat},SH ks l n=true->∀f,f<n->SD ks f=3->(NI l f).isSome=true
 |0,_,f,K,_=>by omega
 | n+1,h,f,K,S=>by
  simp only[SH,zj]at h;by_cases e:f=n
  ·subst e;have:=h.2;rw[S]at this;simpa using this
  ·exact Rs h.1 f (by omega) S
theorem V7{C:J8}{km:aE}{ks:List Nat}{l:List (Nat×Nat×Nat×Nat)}(N:C.kind=SD ks)(hmix:C.P.follows .mixedOrders=true)(hall:Vp C ks.length=true)(hro:C.bM=XG C.P C.NC)(D:C.ext=Tn C.P km l)(S:SH ks l ks.length=true)
  (he:∀p∈l,MA C.P C.GZ p.1 (Xr C.P km p.2)):NN C:=by
 refine⟨hmix,λf fn c hkf h1 U=>?_,λf a b T=>?_,λf K=>?_⟩
 ·have M:C.kind f≠0:=by omega
  refine T9 hall ?_ M (by omega) h1 U;rcases yd f ks.length with h|h
  ·exact h
  ·rw[N,Q4 h]at M;exact absurd rfl M
 ·rw[hro]at T;simp only[XG,zj]at T;exact⟨(Pl (C:=C) (C':=Yl C.P C.NC) rfl rfl f a).trans T.1.1,(Pl (C:=C) (C':=Yl C.P C.NC) rfl rfl f b).trans T.1.2,T.2.1,T.2.2⟩
 ·have hlt:f<ks.length:=by
   rcases yd f ks.length with h|h
   ·exact h
   ·rw[N,Q4 h]at K;cases K
  obtain⟨c,I⟩:=Option.isSome_iff_exists.1 (Rs S f hlt (by rw[<-N];exact K));have:=he _ (Rj I);have e:(λ(g:Gd) (h:AS) (f':FuncId) (args:List AE)=>if f'=f then C.ext f g h args else none)=λ(g:Gd) h f' args=>if f'=f then Xr C.P km c g h args else none:=by
   funext g h f' args;rw[D];simp only[Tn,I]
  rw[e];exact this
section
variable {C:J8} {km:aE} {l:List (Nat×Nat×Nat×Nat)} {g:Gd} {h:AS} {f:Nat} {L F:List Ck}
theorem Vn{c:Nat×Nat×Nat}{args:List AE}{v:AE}{h':AS}(N:C.kind f=3)(D:C.ext=Tn C.P km l)(I:NI l f=some c)(he:Xr C.P km c g h args=some (v,h')):Bm C g h f args v h':=by
 refine⟨1,?_⟩;show Ki C (FE C 0) g h f _=_;unfold Ki;rw[N];simp only[D,Tn,I,he]
theorem YY{s:List UInt8}{c n:Int}(N:C.kind f=3)(D:C.ext=Tn C.P km l)(I:NI l f=some (1,0,0))(hm:Km s c=some n):Bm C g h f [.str s,.int .u8 c] (.int .i64 n) h:=by
 refine Vn N D I ?_;unfold Km at hm;show ME h [.str s,.int .u8 c]=some (.int .i64 n,h);unfold ME;split at hm
 ·rename_i T;injection hm with hm;subst hm;dsimp only;rw[zk T]
 ·cases hm
theorem Yh{s t:List UInt8}{a:Nat}(N:C.kind f=3)(D:C.ext=Tn C.P km l)(I:NI l f=some (8,a,0))(J:decide (s.length<=4294967280)=true):Bm C g h f [.str s,.str t] (.tuple [.str (Lib.cut s t).1,.str (Lib.cut s t).2.1,.bool (Lib.cut s t).2.2]) h:=by
 refine Vn N D I ?_;show QZ h [.str s,.str t]=_;unfold QZ;dsimp only;rw[zk (of_decide_eq_true J)]
def Y2(P:Program)(t:TypeId)(z b:Nat):Bool:=
 match P.info? t with
 |some i=>decide (i.size=z/\i.bytes=b/\i.zero.map (·.cells.size)=some i.size)
 |none=>false
theorem HH.clone{α:Type}{e:α->List AE}{z bytes t a:Nat}{x:AE}{new:List AE}{xs:List α}(E:L9 e z)(O:z≠0)(A:HH g h L F)(N:C.kind f=3)(D:C.ext=Tn C.P km l)(I:NI l f=some (4,a,t))(hi:Y2 C.P t z bytes=true)
  (R:Mf x=some xs.length) (K:Du h z xs.length x=some new) (hc:new.map II=AP e xs) (J:J5 bytes xs.length=true):
  ∃r h',Bm C g h f [x] (AH r xs.length) h'/\HH g h' (.AP r t (AP e xs)::L) F:=by
 unfold Y2 at hi;split at hi
 ·rename_i i W;obtain⟨h1,U,S⟩:=of_decide_eq_true hi;subst h1;subst U;cases xs with
  |nil=>
   refine⟨none,h,Vn N D I ?_,A.It t⟩;show KG C.P t h [x]=_;unfold KG;simp only[R,zQ,W];rfl
  |cons y ys=>
   refine⟨some h.size,_,Vn N D I (h':=h.push (.cells (some t) 2 (AP e (y::ys)))) ?_,A.Wz t _⟩;show KG C.P t h [x]=_;unfold KG;simp only[R,zD,W];rw[show ys.length+1=(y::ys).length from rfl,K];simp only[zf,hc];have Y:=of_decide_eq_true J;rw[zk ⟨E.X2 _,by simp only[Q9,zx];exact⟨O,Y.1,Y.2,S⟩⟩];rfl
 ·cases hi
end
end Go.Av
