/-
 A part.
-/
import Derived.Test.YthhonebaoidfgaaGreatDoorAvMap
import Derived.Shelf.SlicesE.Clone
import Derived.Shelf.Spec.SlicesGrow
import Derived.Shelf.SlIter.Nil
import Derived.Shelf.SortM.Plain
import Derived.Shelf.SortM.SortNone
import Derived.Lib.Bytealg
import Derived.Lib.ItoaNum
import Derived.Lib.Itoa
import Derived.Shelf.Strings.Repeat
import Derived.Shelf.Strings.OnBuilder
import Derived.Shelf.Strings.Cut
import Derived.Shelf.Strings.Search3
set_option linter.unusedSimpArgs false
namespace Go.Av
open Go.RowKit Go.Shelf Go.Proofs Go.Lib Go.Maps Go.MapKept Go.ChangeMaps Go.WideShapes
set_option linter.unusedVariables false
section
variable {P:Program} {w0:World} {m:Bk} {h:AF} {w:World}
theorem Ed{f:FuncId}{args:Array Value}{Q:Value->World->Prop}(he:∀args w,(callFunc f args).run P w=.ok (.enter f args) w)(hc:Calls P f args w λe w'=>∃v,e=.returned v/\Q v w'):DP P f args w Q:=by
 unfold DP;rw[he args w];exact hc
theorem TM{w w':World}(O:Below w.heap.size w w')(g:Nat):Fs w w' g:=⟨O.os,O.tape,O.output,O.size,λk hk _=>O.block k hk⟩
theorem Rel.newAt(r:Rel P w0 m h w){w':World}{E:OR}{o:Cs}(ht:Fs w w' E.g)(hg:w.heap.size<=E.g)
  (Z:MW P (m.upd h.size E) w' E o):Rel P w0 (m.upd h.size E) (h.push o) w':=by
 refine(r.ghost o).place ht (z8 r.size hg) (λid2 E2 o2 h2 ho2 hl2=>?_) (r.YC om) (λx hd=>by have:=r.RB hd;omega) (r.fresh (zw _)) (h.C7 o) Z;have:=((r.ghost o).obj id2 E2 o2 h2 ho2).lt hl2;omega
theorem Rel.row(r:Rel P w0 m h w){w':World}(O:Below w.heap.size w w'){e:TypeId}{z n:Nat}{v:Value}{ds:List Value}{cs:List AD}(ho:w'.ownsRow w.heap.size e z v n ds)(hn:v≠.slice none 0 0)(hz:K2 P (some e)=z)
  (I:DD m cs ds) (h1:cs.all AD.one=true):∃m':Bk,m.ext h.size m'/\Rel P w0 m' (h.push (.cells (some e) 2 cs)) w'/\VR m' (.slice (some (h.size,0)) n) v:=by
 obtain⟨J,⟨h0,_⟩|⟨g,cap,cur,rfl,hg,hc,hnc,_,hsz,htk⟩⟩:=ho
 ·exact absurd h0 hn
 ·have hle:=Bk.O2 (m:=m) (id:=h.size) ⟨g,0,z,cap*z⟩ (r.fresh (zw _));refine⟨m.upd h.size ⟨g,0,z,cap*z⟩,Bk.MC m _ (zw _),r.newAt (TM O _) hg ?_,?_⟩
  ·refine Lp (e:=e) (fz:=(0,0)) hc rfl hz.symm hsz.symm ?_ h1 (.inl rfl);rw[I.1,J,htk];exact I.mono hle
  ·exact .slice _ _ _ _ ⟨g,0,z,cap*z⟩ _ (Bk.Gp _ _ _) hnc (λ_=>⟨by simp,λ_=>by simp⟩)
def R6:AD->Option Nat
 | .slice _ n=>some n
 | .Im n _=>some n
 |_=>none
theorem fC{x:AD}{x':Value}(D:VR m x x')(J:R6 x=some 0):∃a c,x'=.slice a 0 c:=by
 cases D<;>simp[R6]at J
 case Eu=>exact⟨_,_,rfl⟩
 case GY=>exact⟨_,_,rfl⟩
 case slice=>subst J;exact⟨_,_,rfl⟩
 case L0=>exact⟨_,_,rfl⟩
 case Im=>subst J;exact⟨_,_,rfl⟩
def Xr(i:TypeInfo)(n:Nat):Bool:=decide (i.size≠0/\n<=1099511627776/\n*i.bytes<=1099511627776/\i.zero.map (·.cells.size)=some i.size)
def aQ(P:Program)(e:TypeId)(h:AF):List AD->Option (AD×AF)
 | [x]=>
  match R6 x with
  |some 0=>
   match P.info? e with
   |some _=>some (.slice none 0,h)
   |none=>none
  | some n=>
   match P.info? e with
   |some i=>
    match(EG h i.size n x).map (·.map GV)with
    |some cs=>if cs.all AD.one=true/\Xr i n=true then some (.slice (some (h.size,0)) n,h.push (.cells (some e) 2 cs))else none
    |none=>none
   |none=>none
  |none=>none
 |_=>none
theorem SJ{m:Bk}{x:AD}{cargs:Array Value}(I:DD m [x] cargs.toList):∃a,cargs=#[a]/\VR m x a:=by
 have:=I.1
 match cargs,this with
 |⟨[a]⟩,_=>exact⟨a,rfl,I.2 0 _ _ rfl rfl⟩
theorem M1{m:Bk}{x y:AD}{cargs:Array Value}(I:DD m [x,y] cargs.toList):∃a b,cargs=#[a,b]/\VR m x a/\VR m y b:=by
 have:=I.1
 match cargs,this with
 |⟨[a,b]⟩,_=>exact⟨a,b,rfl,I.2 0 _ _ rfl rfl,I.2 1 _ _ rfl rfl⟩
def Gs(P:Program)(G:Nat->Option (List AD))(f:FuncId)(ext:Gd->AF->List AD->Option (AD×AF)):Prop:=VC P G λg h f' args=>if f'=f then ext g h args else none
theorem Gs.of{G:Nat->Option (List AD)}{f:FuncId}{ext:Gd->AF->List AD->Option (AD×AF)}
  (D:∀g h args v h',ext g h args=some (v,h')->Bh g h h'/\∀w0 m w (cargs:Array Value),Rel P w0 m h w->DD m args cargs.toList->DP P f cargs w λv' w'=>∃m':Bk,(m.ext h.size m')/\Rel P w0 m' h' w'/\VR m' v v'):Gs P G f ext:=by
 intro g h f' args v h' hc;dsimp only at hc;split at hc
 ·rename_i e;subst e;obtain⟨k,q⟩:=D g h args v h' hc;exact⟨k,λw0 m w cargs _ r I=>q w0 m w cargs r I⟩
 ·cases hc
theorem Gs.lX{G:Nat->Option (List AD)}{f:FuncId}{ext:Gd->AF->List AD->Option (AD×AF)}
  (D:∀g h args v h',ext g h args=some (v,h')->Bh g h h'/\∀w0 m w (cargs:Array Value),CH G w->Rel P w0 m h w->DD m args cargs.toList->DP P f cargs w λv' w'=>∃m':Bk,(m.ext h.size m')/\Rel P w0 m' h' w'/\VR m' v v'):Gs P G f ext:=by
 intro g h f' args v h' hc;dsimp only at hc;split at hc
 ·rename_i e;subst e;obtain⟨k,q⟩:=D g h args v h' hc;exact⟨k,λw0 m w cargs hz r I=>q w0 m w cargs (hz.later r.below) r I⟩
 ·cases hc
def ZY(P:Program)(e:TypeId)(h:AF):List AD->Option (AD×AF)
 | [x]=>
  match R6 x with
  |some 0=>
   match P.info? e with
   |some _=>some (.Im 0 [],h)
   |none=>none
  | some n=>
   match P.info? e with
   |some i=>
    match(EG h i.size n x).map (·.map GV)with
    |some cs=>if cs.all AD.one=true/\Xr i n=true then some (.Im n cs,h)else none
    |none=>none
   |none=>none
  |none=>none
 |_=>none
def eA(P:Program)(e:TypeId)(h:AF):List AD->Option (AD×AF)
 |[.slice none 0,.int .i64 n]=>
  if n=0 then some (.slice none 0,h)else
  match P.info? e with
  |some i=>if 0<n/\Xr i n.toNat=true then some (.slice (some (h.size,0)) 0,h.push (.cells (some e) 2 []))else none
  |none=>none
 |_=>none
def ig(h:AF):List AD->Option (AD×AF)
 |[.str a,.str b]=>some (.int .i64 (compareBytes a b),h)
 |_=>none
def dO(P:Program)(f:FuncId):Bool:=
 match P.funcs[f]? with
 |some fn=> !(fn.name=="runtime.NumGoroutine")&&fn.body.isNone
 |none=>false
theorem ed{f:FuncId}(D:dO P f=true){F:Array Value->Sem Value}(hn:∀fn,P.funcs[f]?=some fn->Extern.findNext fn=none/\Extern.find fn=some F){cargs:Array Value}{v:Value}{w':World}(h1:(F cargs).run P w=.ok v w'){Q:Value->World->Prop}(hq:Q v w'):DP P f cargs w Q:=by
 unfold dO at D;split at D
 ·rename_i fn hfn;simp only[zf,zH,qJ]at D;obtain⟨e1,e2⟩:=hn fn hfn;have hrun:(callFunc f cargs).run P w=.ok (.value v) w':=by
   unfold callFunc;simp only[Sem.run_bind,program,Sem.run,Result.andThen_ok,hfn];rw[zj (by rw[D.1];decide),zl (by rw[D.2];rfl)];simp only[e1,e2,Sem.run_bind];rw[show Sem.run P (Go.mark (Mark.extern f)) w=.ok () w from rfl];simp only[Result.andThen_ok,h1,Sem.run_pure]
  unfold DP;rw[hrun];exact hq
 ·cases D
theorem Xx{f:FuncId}(G:Nat->Option (List AD))(D:dO P f=true)(hn:∀fn,P.funcs[f]?=some fn->Extern.findNext fn=none/\Extern.find fn=some Extern.BytealgIndexByte.indexByte):Gs P G f λg h args=>bj h args:=by
 refine Gs.of λg h args v h' hc=>?_;unfold bj at hc;split at hc
 ·rename_i s c;split at hc
  ·rename_i hr;simp only[zb,ze]at hc;obtain⟨rfl,rfl⟩:=hc;refine⟨Bh.refl _ _,λw0 m w cargs r I=>?_⟩;obtain⟨a,b,rfl,ha,O⟩:=M1 I;obtain rfl:=ha.Em;obtain rfl:=O.C9;refine ed D hn (v:=.int .i64 (idxOf s (UInt8.ofNat c.toNat))) (w':=w) ?_ ⟨m,Bk.ext.refl _ _,r,.int _ _⟩
   show Sem.run P (do
    let b<-Extern.Bytes.bytesOf (.string ⟨⟨s⟩⟩)
    let c<-Extern.Bytes.asByte (.int .u8 c)
    match(List.range b.size).find? λi=>b[i]! ==c with
    |some i=>pure (goInt i)
    |none=>pure (goInt (-1))) w=_
   simp only[Extern.Bytes.bytesOf,Extern.Bytes.asByte,Sem.run_bind,Sem.run_pure,Result.andThen_ok];rw[idx_eq s c.toNat.toUInt8];unfold idxOf;rw[show UInt8.ofNat c.toNat=c.toNat.toUInt8 from rfl];cases(List.range s.length).find? λi=>s[i]?==some c.toNat.toUInt8<;>rfl
  ·cases hc
 ·cases hc
def Jb:List (AD×AD)->Option (List (List UInt8))
 |[]=>some []
 |(.str s,_)::r=>(Jb r).map (s::·)
 |_=>none
def Xo(x:List UInt8):List (List UInt8)->List (List UInt8)
 |[]=>[x]
 |y::l=>bif Op.bytesLess y x then y::Xo x l else x::y::l
def Gn(l:List (List UInt8)):List (List UInt8):=l.foldr Xo []
theorem Qg(x:List UInt8):∀l,(Xo x l).Perm (x::l)
 |[]=>.refl _
 |y::l=>by
  unfold Xo;cases Op.bytesLess y x
  ·exact .refl _
  ·exact((Qg x l).cons y).trans (.swap x y l)
theorem ML:∀l,(Gn l).Perm l
 |[]=>.refl _
 |x::l=>(Qg x (Gn l)).trans ((ML l).cons x)
theorem Q6(x:List UInt8):∀{l},l.Pairwise (λa b:List UInt8=>a<=b)->(Xo x l).Pairwise λa b:List UInt8=>a<=b
 |[],_=>by simp[Xo]
 | y::l,h=>by
  unfold Xo;rw[bytesLess_eq];by_cases M:y<x
  ·rw[zg M];refine ym.2 ⟨λz hz=>?_,Q6 x (ym.1 h).2⟩;rcases zF.1 ((Qg x l).mem_iff.1 hz)with rfl|hz
   ·exact List.le_of_lt M
   ·exact(ym.1 h).1 z hz
  ·rw[zm M];have hxy:x<=y:=List.not_lt.1 M;refine ym.2 ⟨λz hz=>?_,h⟩;rcases zF.1 hz with rfl|hz
   ·exact hxy
   ·exact xg hxy ((ym.1 h).1 z hz)
theorem MB:∀l,(Gn l).Pairwise λa b:List UInt8=>a<=b
 |[]=>.nil
 |x::l=>Q6 x (MB l)
theorem ct(l:List (List UInt8)):l.mergeSort (λx y=>decide (x<=y))=Gn l:=by
 have tr:∀a b c:List UInt8,leB a b=true->leB b c=true->leB a c=true:=λa b c h1 h2=>by simp only[leB,zy]at *;exact xg h1 h2
 have fY:∀a b:List UInt8,(leB a b||leB b a)=true:=λa b=>by simp only[leB,yp,zy];exact List.le_total a b
 refine List.Perm.eq_of_pairwise (le:=λa b:List UInt8=>a<=b) (λa b _ _ h1 h2=>List.le_antisymm h1 h2) ?_ (MB l) ((List.mergeSort_perm l leB).trans (ML l).symm);exact(List.pairwise_mergeSort tr fY l).imp λh=>by simpa using h
def QP(ks:List (List UInt8)):Bool:=decide (ks.length<=1099511627776)&&ks.all λs=>decide (s.length<=1099511627776)
def Rb(e:TypeId)(h:AF)(ks:List (List UInt8)):AD×AF:=
 match ks with
 |[]=>(.slice none 0,h)
 |_=>(.slice (some (h.size,0)) ks.length,h.push (.cells (some e) 2 ((Gn ks).map .str)))
def RV(h:AF)(b:Nat):Option AD:=
 match h.get b with
 |some (.cells none 2 [v])=>some v
 |_=>none
def Lo(it:FuncId)(e:TypeId)(h:AF):List AD->Option (AD×AF)
 | [.func (.func f) [] [.ptr (some (b,0))]]=>
  if f=it then
   match RV h b with
   |some (.map none)=>some (.slice none 0,h)
   | some (.map (some mid))=>
    match h.get mid with
    | some (.map st es)=>
     if st=2 then
      match Jb es with
      |some ks=>if QP ks=true then some (Rb e h ks)else none
      |none=>none
     else none
    |_=>none
   |_=>none
  else none
 |_=>none
theorem U0{es:List (AD×AD)}{en:Array MapEntry}(J:es.length=en.size)(I:∀(i:Nat) (k v:AD) (e:MapEntry),es[i]?=some (k,v)->en[i]?=some e->VR m k e.key/\VR m v e.val){ks:List (List UInt8)}(hk:Jb es=some ks):
  en.toList.map (·.key)=ks.map encStr:=by
 have key:∀(es:List (AD×AD)) (l:List MapEntry) (ks:List (List UInt8)),es.length=l.length->(∀(i:Nat) (k v:AD) (e:MapEntry),es[i]?=some (k,v)->l[i]?=some e->VR m k e.key)->Jb es=some ks->l.map (·.key)=ks.map encStr:=by
  intro es
  induction es with
  |nil=>
   intro l ks J _ hk;have:l=[]:=qQ.1 J.symm;subst this;simp[Jb]at hk;subst hk;rfl
  | cons p es ih=>
   intro l ks J I hk;obtain⟨k,v⟩:=p;cases l with
   |nil=>simp at J
   | cons x l=>
    unfold Jb at hk;split at hk
    ·cases ‹_::_=[]›
    ·rename_i s v' r heq;injection heq with h1 h2;injection h1 with h1 h3;subst h1;subst h2;simp only[zk]at hk;obtain⟨ks',hk',rfl⟩:=hk;have D:=(I 0 _ _ x rfl rfl).Em;rw[zK,zK,ih l ks' (by simpa using J) (λi k v e h1 h2=>I (i+1) k v e (by simpa using h1) (by simpa using h2)) hk',D]
    ·cases hk
 exact key es en.toList ks (by simpa using J) (λi k v e h1 h2=>(I i k v e h1 (by simpa using h2)).1) hk
theorem Uo{l:List (List UInt8)}(h:l.Nodup):(l.map encStr).Nodup:=by
 rw[List.Nodup,qL];exact h.imp λX e=>X (encStr_inj e)
theorem Kp.stamped{en:Array MapEntry}{clock:Nat}(h:Kp en clock){ks:List (List UInt8)}(hk:en.toList.map (·.key)=ks.map encStr):MapKept.Stamped en clock:=by
 refine⟨h.1,h.2.1,?_⟩;have e:en.toList.filterMap Nr=ks.map λs=>(⟨⟨s⟩⟩:ByteArray):=by
  have key:∀(l:List MapEntry) (ks:List (List UInt8)),l.map (·.key)=ks.map encStr->l.filterMap Nr=ks.map λs=>(⟨⟨s⟩⟩:ByteArray):=by
   intro l
   induction l with
   |nil=>intro ks h;cases ks with|nil=>rfl|cons=>simp at h
   | cons x l ih=>
    intro ks h;cases ks with
    |nil=>simp at h
    |cons s ks=>
     simp only[zK,qY]at h;have D:Nr x=some ⟨⟨s⟩⟩:=by unfold Nr;rw[h.1]
     rw[List.filterMap_cons,D,ih ks h.2,zK]
  exact key _ _ hk
 have h3:=h.2.2;rw[e]at h3;rw[hk];refine Uo ?_;rw[List.Nodup,qL]at h3;exact h3.imp λX e=>X (by rw[e])
theorem ZF{ρ σ τ:Ren}(L:SlLaysZ.n6 P ρ)(K:SlLaysZ.n7 P σ)(T:SlLaysM.n6 P τ)(hf9:τ.f 6=ρ.f 9)(ht:σ.t 26=ρ.t 26)(hk:P.underlying (ρ.t 26)=some .string)(G:Nat->Option (List AD)):
  Gs P G (ρ.f 6) λg h args=>Lo (σ.f 10) (ρ.t 26) h args:=by
 refine Gs.of λg h args v h' hc=>?_;have en:=L.f6.enters rfl;have e9:∀args w,(callFunc (ρ.f 9) args).run P w=.ok (.enter (ρ.f 9) args) w:=by rw[<-hf9];exact T.f6.enters rfl
 have sorts:∀k,AnyZ.SortsIn P ρ Fence.wide k:=λk=>
  ⟨λblk off cap ss W hH hblk hsz=>callsIn_wide.2 (by rw[<-hf9];exact AnyM.slices_Sort_string T blk off cap ss W hH hblk hsz),λp cap W=>callsIn_wide.2 (by rw[<-hf9];exact AnyM.slices_Sort_string_none T p cap W)⟩
 have hsz:DK P (ρ.t 26)=some 1:=by
  have:=L.z26 default;unfold Go.sizeOf typeInfo at this;unfold DK;cases hi:P.info? (ρ.t 26)with
  |none=>simp[hi]at this
  |some i=>simp[hi]at this;simp[this]
 unfold Lo at hc;split at hc
 ·rename_i f b;split at hc
  ·rename_i hf;subst hf;have box:∀{x:AD},RV h b=some x->∀{w0:World} {m:Bk} {w:World} {cargs:Array Value},Rel P w0 m h w->DD m [.func (.func (σ.f 10)) [] [.ptr (some (b,0))]] cargs.toList->
     ∃Bm y,cargs=#[.func (.func (σ.f 10)) #[] #[.pointer (some ⟨Bm,0,none⟩)]]/\Bm<w.heap.size/\w.cell? ⟨Bm,0,none⟩=some y/\VR m x y:=by
    intro x D w0 m w cargs r I;obtain⟨a,rfl,ha⟩:=SJ I;cases ha with
    | func _ _ _ c d h1 k1 h2 k2=>
     have hc0:c=#[]:=yA h1.symm;subst hc0
     match d,h2,k2 with
     | ⟨[y]⟩,_,k2=>
      have hy:=k2 0 _ y rfl rfl;cases hy with
      | ptr _ _ E hE=>
       unfold RV at D;split at D
       ·rename_i v hg;injection D with D;subst D;obtain⟨⟨_,hbase⟩,Z⟩:=r.obj b E _ hE hg;obtain⟨cur,e,fz,q1,q2,q3,_⟩:=Z (by decide);obtain⟨_,c,q4,q5⟩:=q3 0 v rfl;have hb0:=hbase rfl rfl;rw[hb0]at q4⊢;exact⟨E.g,c,rfl,(Array.getElem?_eq_some_iff.1 q1).1,by simpa[World.cell?,q1]using q4,q5⟩
       ·cases D
   have fin:∀{w0:World} {m:Bk} {w:World} {Bm:Nat} {S:List (List UInt8)->Prop} {N:Nat} {Q:Value->World->Prop},N<=1099511627776->SeqGives Fence.wide 2 P (σ.f 10) #[.pointer (some ⟨Bm,0,none⟩)] encStr S N w->
     (∀v ss w',S ss->w'.ownsRow w.heap.size (ρ.t 26) 1 v ss.length ((ss.mergeSort (λx y=>decide (x<=y))).map encStr)->(v=.slice none 0 0↔ss=[])->Below w.heap.size w w'->Q v w')->
     DP P (ρ.f 6) #[.func (.func (σ.f 10)) #[] #[.pointer (some ⟨Bm,0,none⟩)]] w Q:=by
    intro w0 m w Bm S N Q hN hseq hQ;refine Ed en ((callsIn_wide (n:=5)).1 ?_);refine(AnyZ.sorted_in L Fence.wide 5 trivial trivial trivial trivial rfl om (sorts _) e9 (σ.f 10) _ trivial (K.f10.enters rfl) S N (by unfold maxLen;omega) om w hseq).mono ?_;rintro e w' ⟨v,ss,rfl,hS,Y,U,O⟩;exact⟨_,rfl,hQ v ss w' hS Y U O⟩
   split at hc
   ·rename_i hbx;simp only[zb,ze]at hc;obtain⟨rfl,rfl⟩:=hc;refine⟨Bh.refl _ _,λw0 m w cargs r I=>?_⟩;obtain⟨Bm,y,rfl,M,hcell,hy⟩:=box hbx r I;cases hy;refine fin (w0:=w0) (m:=m) (yf _) (AnyZ.keys_gives_nil (ρ:=σ) {K with} Fence.wide 2 trivial rfl Bm w M hcell) λv ss w' hS Y U O=>?_;obtain rfl:=U.2 hS;exact⟨m,Bk.ext.refl _ _,r.later O,.Eu⟩
   ·rename_i mid hbx;split at hc
    ·rename_i st es hg;split at hc
     ·rename_i hst;split at hc
      ·rename_i ks hks;split at hc
       ·rename_i hok;injection hc with hc;simp only[QP,zf,zy,zr]at hok;obtain⟨ok1,ok2⟩:=hok;refine⟨?_,λw0 m w cargs r I=>?_⟩
        ·unfold Rb at hc;split at hc
         ·injection hc with e1 e2;subst e2;exact Bh.refl _ _
         ·injection hc with e1 e2;subst e2;exact Bh.push _ _ _
        ·obtain⟨Bm,y,rfl,M,hcell,hy⟩:=box hbx r I;cases hy with
         | map _ E hE=>
          obtain⟨_,Z⟩:=r.obj mid E _ hE hg;obtain⟨ents,clock,c1,c2,c3,c4⟩:=M4.two (Z (by rw[hst];decide)) (by rw[hst];decide);have hkeys:=U0 c2 c3 hks;have hlen:ents.size=ks.length:=by have:=congrArg List.length hkeys;simpa using this
          let R:Value->Option (DataW Unit×List MemPlace):=λ_=>some (.nil,[])
          have hrd:∀(l:List MapEntry) (ks:List (List UInt8)),l.map (·.key)=ks.map encStr->(∀s∈ks,s.length<=1099511627776)->l.map (Go.WideElems.rd P (σ.t 26) R)=ks.map λs=>some (.string s,.nil):=by
           intro l
           induction l with
           |nil=>intro ks h _;cases ks with|nil=>rfl|cons=>simp at h
           | cons x l ih=>
            intro ks h hs;cases ks with
            |nil=>simp at h
            | cons s ks=>
             simp only[zK,qY]at h⊢;refine⟨?_,ih ks h.2 λt ht=>hs t (by simp[ht])⟩;have hs1:=hs s (by simp);have hk1:keyOf P (σ.t 26) (encStr s)=some (.string s):=by
              have:s.length<=maxLen:=by unfold maxLen;omega
              simp[keyOf,mapKey,ht,hk,encStr,ByteArray.size,this]
             unfold Go.WideElems.rd;rw[h.1,hk1];rfl
          have hrd':=hrd _ _ hkeys ok2;have hrg:ents.toList.map (Go.WideElems.rg P (σ.t 26) R)=ks.map λs=>(.string s,.nil):=by
           have:=congrArg (List.map λo:Option (Lit×DataW Unit)=>o.getD (.bool false,.nil)) hrd';rw[qV,qV]at this;exact this
          have hown:w.ownsMap P (σ.t 26) R E.g ents.size (.map ((ents.toList.map (Go.WideElems.rg P (σ.t 26) R)).foldr DataW.insert [])):=by
           refine⟨ents,clock,c1,⟨by rw[hlen];unfold maxLen;omega,c4.stamped hkeys,λx D=>?_⟩,zw _,rfl⟩;have hm:=xf (f:=Go.WideElems.rd P (σ.t 26) R) D;rw[hrd']at hm;obtain⟨s,_,hs⟩:=zZ.1 hm;exact⟨_,hs.symm⟩
          rw[hrg]at hown;have hperm:(strKeys (H:=Unit) (.map ((ks.map λs=>(Lit.string s,(DataW.nil:DataW Unit))).foldr DataW.insert []))).Perm ks:=by
           have:=(sorted_perm (ks.map λs=>(Lit.string s,(DataW.nil:DataW Unit)))).map λp=>strOf p.1;refine(show List.Perm _ _ from this).trans ?_;simp[qV,Function.comp_def,strOf]
          have hsize:Maps.size (H:=Unit) (.map ((ks.map λs=>(Lit.string s,(DataW.nil:DataW Unit))).foldr DataW.insert []))=ks.length:=by
           rw[Maps.size_eq,(sorted_perm _).length_eq,yo]
          refine fin (w0:=w0) (m:=m) (by rw[hsize];exact ok1) (AnyZ.keys_gives (ρ:=σ) {K with} Fence.wide 2 trivial rfl om Bm E.g ents.size _ w M hcell hown) λv ss w' hS Y U O=>?_;have hp:=hS.trans hperm;unfold Rb at hc;split at hc
          ·injection hc with e1 e2;subst e1;subst e2;obtain rfl:=U.2 hp.eq_nil;exact⟨m,Bk.ext.refl _ _,r.later O,.Eu⟩
          ·rename_i X;injection hc with e1 e2;subst e1;subst e2;have hss:ss≠[]:=λe=>X (by subst e;exact hp.symm.eq_nil);rw[show(ss.mergeSort λx y=>decide (x<=y))=Gn ks from(mergeSort_of_perm hp).trans (ct ks),hp.length_eq]at Y;exact r.row O Y (λe=>hss (U.1 e)) (by simp[K2,Kk hsz]) (DD.map _ _ _ λx _=>VR.str ⟨⟨x⟩⟩) (by simp[AD.one])
       ·cases hc
      ·cases hc
     ·cases hc
    ·cases hc
   ·cases hc
  ·cases hc
 ·cases hc
def jt(s:List UInt8)(n:Int):Bool:=decide (0<=n/\n<=1099511627776/\s.length*n.toNat<=1099511627776)
def Zu(h:AF):List AD->Option (AD×AF)
 |[.str s,.int .i64 n]=>if jt s n=true then some (.str (Lib.repeatL s n.toNat),h)else none
 |_=>none
def dI:List AD->Option (List (List UInt8))
 |[]=>some []
 | .str s::r=>(dI r).map (s::·)
 |_=>none
def iq(ss:List (List UInt8))(t:List UInt8):Bool:=decide (ss.length<=1099511627776/\(Lib.join ss t).length<=1099511627776)
def fN(h:AF):List AD->Option (AD×AF)
 | [x,.str t]=>
  match R6 x with
  |some n=>
   match(bif Nat.beq n 0 then some []else(EG h 1 n x).bind dI)with
   |some ss=>if iq ss t=true then some (.str (Lib.join ss t),h)else none
   |none=>none
  |none=>none
 |_=>none
def S2(h:AF):List AD->Option (AD×AF)
 |[.str s,.str t]=>if s.length<=4294967280 then some (.tuple [.str (Lib.cut s t).1,.str (Lib.cut s t).2.1,.bool (Lib.cut s t).2.2],h)else none
 |_=>none
def bY(h:AF):List AD->Option (AD×AF)
 |[.str s,.str t]=>if s.length<=4294967280 then some (.int .i64 (Lib.index s t),h)else none
 |_=>none
theorem WX{B:Nat}{a w:World}(h:Below B a w)(n:Nat):Below B a (w.drewN n):=h.trans ⟨rfl,rfl,rfl,zw _,λ_ _=>rfl⟩
theorem jI{ρ:Ren}(L:Lays.n145 P ρ){G:Nat->Option (List AD)}(hg:G (ρ.g 1)=some []):Gs P G (ρ.f 145) λg h args=>S2 h args:=by
 refine Gs.lX λg h args v h' hc=>?_;have en:∀args w,(callFunc (ρ.f 145) args).run P w=.ok (.enter (ρ.f 145) args) w:=enters_of L.f145 kr rfl;unfold S2 at hc;split at hc
 ·rename_i s t;split at hc
  ·rename_i O;simp only[zb,ze]at hc;obtain⟨rfl,rfl⟩:=hc;refine⟨Bh.refl _ _,λw0 m w cargs hz r I=>?_⟩;obtain⟨a,b,rfl,ha,hb'⟩:=M1 I;obtain rfl:=ha.Em;obtain rfl:=hb'.Em;obtain⟨n,hn⟩:=hz.2 _ hg;refine Ed en ((Any.strings_Cut L ⟨⟨s⟩⟩ ⟨⟨t⟩⟩ n w (by show s.length<_;omega) hn).mono ?_);rintro e w' ⟨rfl,q,rfl⟩;refine⟨_,rfl,m,Bk.ext.refl _ _,r.later (WX (Below.refl _ _) _),VR.tuple _ _ rfl λi x y D hy=>?_⟩
   match i,D,hy with
   |0,D,hy=>cases D;cases hy;exact VR.str ⟨⟨_⟩⟩
   |1,D,hy=>cases D;cases hy;exact VR.str ⟨⟨_⟩⟩
   |2,D,hy=>cases D;cases hy;exact VR.bool _
   |i+3,D,hy=>simp at D
  ·cases hc
 ·cases hc
end
def fJ(h:AF):List AD->Option (AD×AF)
 |[]=>some (.bool true,h)
 |_=>none
def eR(h:AF):List AD->Option (AD×AF)
 |[]=>some (.undef,h)
 |_=>none
def dC(f:AD->Option AD):List AD->Option (List AD)
 |[]=>some []
 |v::vs=>match f v,dC f vs with|some v',some vs'=>some (v'::vs')|_,_=>none
def jm(args:List AD)(i o:Nat):Option AD:=
 match args[i]? with
 |some (.ptr (some (id,b)))=>some (.ptr (some (id,b+o)))
 |_=>none
def dX(args:List AD):Nat->AD->Option AD
 |0,_=>none
 |n+1,v=>
  match v with
  | .ptr (some (i,o))=>jm args i o
  | .Aw cs=>(dC (dX args n) cs).map .Aw
  | .agg cs=>(dC (dX args n) cs).map .agg
  | .func fn a b=>match dC (dX args n) a,dC (dX args n) b with|some a',some b'=>some (.func fn a' b')|_,_=>none
  |v=>bif G9 v then some v else none
def dJ(args:List AD):List (AD×AD)->Option (List (AD×AD))
 |[]=>some []
 |(k,v)::es=>match dX args 10 v,dJ args es with|some v',some es'=>some ((k,v')::es')|_,_=>none
def T4:AD->Bool
 | .ptr (some _)=>true
 |_=>false
abbrev fE:=List (List (AD×AD))
def ja(es:List (AD×AD))(n:Nat)(h:AF)(args:List AD):Option (AD×AF):=
 bif Nat.beq args.length n&&args.all T4 then(dJ args es).map λes'=>(.map (some h.size),h.push (.map 2 es'))else none
def T2(es:List (AD×AD))(n:Nat)(h:AF)(args:List AD):Option (AD×AF):=
 bif Nat.beq args.length n&&args.all T4 then(dJ args es).map λes'=>(.map (some h.size),h.push (.map 3 es'))else none
def b7:AD->AD->Bool
 | .bool a,.bool b=>a==b
 | .int k a,.int k' b=>decide (k=k')&&decide (a=b)
 | .str a,.str b=>decide (a=b)
 |_,_=>false
def U5:List AD->List AD->Bool
 |[],[]=>true
 |a::l,b::r=>b7 a b&&U5 l r
 |_,_=>false
def iC(tab:List (AD×AD))(h:AF):List AD->Option (AD×AF)
 |[.agg cs]=>(tab.find? λp=>match p.1 with| .agg ds=>U5 ds cs|_=>false).map λp=>(p.2,h)
 |_=>none
def kH:AD->AD->Bool
 | .Im n cs,.Im n' cs'=>Nat.beq n n'&&U5 cs cs'
 |x,y=>b7 x y
def cm:List AD->List AD->Bool
 |[],[]=>true
 |x::xs,y::ys=>kH x y&&cm xs ys
 |_,_=>false
def ib(tab:List (AD×AD))(h:AF)(args:List AD):Option (AD×AF):=(tab.find? λp=>match p.1 with| .tuple ks=>cm ks args|_=>false).map λp=>(p.2,h)
def Pp(h:AF):List AD->Option (AD×AF)
 |[.int .i64 n]=>if -9223372036854775808<=n/\n<=9223372036854775807 then some (.str (Lib.itoa n),h)else none
 |_=>none
def SA(h:AF):List AD->Option (AD×AF)
 |[.int .u64 u]=>if 1<=u/\u<18446744073709551616 then some (.int .i64 (Lib.nDigits u.toNat:Nat),h)else none
 |_=>none
def Ln(n u:Nat):List UInt8:=(List.range n).map λt=>Lib.dg u (n - 1 - t)
def UP(n:Nat)(u:Int):Bool:=decide (n≠0/\n<=24/\0<=u/\u<18446744073709551616/\u.toNat<10^n)
def ka:AD->Bool
 | .int .u8 k=>decide (0<=k/\k<=255)
 |_=>false
def Se(g:Gd)(h:AF):List AD->Option (AD×AF)
 | [.slice (some (id,0)) n,.int .u64 u]=>
  if UP n u=true then
   match h.get id with
   |some (.cells gr 2 cs)=>if g.may id=true/\n<=cs.length/\(cs.take n).all ka=true then some (.tuple [],h.set id (.cells gr 2 ((Ln n u.toNat).map (λb=>AD.int .u8 (b.toNat:Int))++cs.drop n)))else none
   |_=>none
  else none
 |_=>none
abbrev K0:=List UInt8×List UInt8
def PY:List AD->Option (List K0)
 |[]=>some []
 | .str k::.str v::r=>(PY r).map ((k,v)::·)
 |_=>none
def Hi(l:List K0):List AD:=l.flatMap λp=>[.str p.1,.str p.2]
def XW(x:K0):List K0->List K0
 |[]=>[x]
 |y::l=>if x.1<=y.1 then x::y::l else y::XW x l
def HO(l:List K0):List K0:=l.foldr XW []
def Pf:List K0->Bool
 |[]=>true
 |x::l=>l.all (λy=>y.1 !=x.1)&&Pf l
def I2(c:FuncId)(g:Gd)(h:AF):List AD->Option (AD×AF)
 | [.slice r n,.func (.func f) [] []]=>
  if f=c then
   if n=0 then some (.tuple [],h)else
   match r with
   | some (id,0)=>
    match h.get id with
    | some (.cells gr 2 cs)=>
     if cs.length=n*2/\n<=1099511627776/\g.may id=true then
      match PY cs with
      |some l=>if Pf l=true then some (.tuple [],h.set id (.cells gr 2 (Hi (HO l))))else none
      |none=>none
     else none
    |_=>none
   |_=>none
  else none
 |_=>none
def bV(P:Program)(km:fE)(c:Nat×Nat×Nat)(g:Gd)(h:AF)(args:List AD):Option (AD×AF):=
 match c.1 with
 |1=>bj h args
 |2=>Lo c.2.1 c.2.2 h args
 |3=>ig h args
 |4=>aQ P c.2.2 h args
 |5=>eA P c.2.2 h args
 |6=>ZY P c.2.2 h args
 |7=>Zu h args
 |8=>S2 h args
 |9=>bY h args
 |10=>fN h args
 |11=>I2 c.2.1 g h args
 |12=>Pp h args
 |13=>SA h args
 |14=>Se g h args
 |30=>fJ h args
 |31=>eR h args
 |32=>ja (km.getD c.2.1 []) c.2.2 h args
 |33=>T2 (km.getD c.2.1 []) c.2.2 h args
 |34=>iC (km.getD c.2.1 []) h args
 |35=>ib (km.getD c.2.1 []) h args
 |_=>none
def J3:List (Nat×Nat×Nat×Nat)->Nat->Option (Nat×Nat×Nat)
 |[],_=>none
 |(f',c)::l,f=>bif Nat.beq f f' then some c else J3 l f
theorem UH:∀{l:List (Nat×Nat×Nat×Nat)} {f:Nat} {c:Nat×Nat×Nat},J3 l f=some c->(f,c)∈l
 |(f',c')::l,f,c,h=>by
  unfold J3 at h;rw[J9]at h;split at h
  ·rename_i e;subst e;injection h with h;subst h;simp
  ·exact yj _ (UH h)
def PN(P:Program)(km:fE)(l:List (Nat×Nat×Nat×Nat))(f:Nat)(g:Gd)(h:AF)(args:List AD):Option (AD×AF):=
 match J3 l f with
 |some c=>bV P km c g h args
 |none=>none
def Uk(ks:List Nat)(l:List (Nat×Nat×Nat×Nat)):Nat->Bool
 |0=>true
 |n+1=>Uk ks l n&&(!(Nat.beq (UC ks n) 3)||(J3 l n).isSome)
theorem Ud{ks:List Nat}{l:List (Nat×Nat×Nat×Nat)}:∀{n:Nat},Uk ks l n=true->∀f,f<n->UC ks f=3->(J3 l f).isSome=true
 |0,_,f,hf,_=>by omega
 | n+1,h,f,hf,h3=>by
  simp only[Uk,zf]at h;by_cases e:f=n
  ·subst e;have:=h.2;rw[h3]at this;simpa using this
  ·exact Ud h.1 f om h3
theorem Z9{C:Hv}{km:fE}{ks:List Nat}{l:List (Nat×Nat×Nat×Nat)}(hk:C.kind=UC ks)(hmix:C.P.follows .mixedOrders=true)(hall:YW C ks.length=true)(hro:C.ki=bW C.P C.OZ)(D:C.ext=PN C.P km l)(h3:Uk ks l ks.length=true)
  (he:∀p∈l,Gs C.P C.DC p.1 (bV C.P km p.2)):IZ C:=by
 refine⟨hmix,λf fn c hkf h1 h2=>?_,λf a b hr=>?_,λf hf=>?_⟩
 ·have X:C.kind f≠0:=by omega
  refine WM hall ?_ X om h1 h2;rcases yh f ks.length with h|h
  ·exact h
  ·rw[hk,Sj h]at X;exact absurd rfl X
 ·rw[hro]at hr;simp only[bW,zf]at hr;exact⟨(Qp (C:=C) (C':=bm C.P C.OZ) rfl rfl f a).trans hr.1.1,(Qp (C:=C) (C':=bm C.P C.OZ) rfl rfl f b).trans hr.1.2,hr.2.1,hr.2.2⟩
 ·have M:f<ks.length:=by
   rcases yh f ks.length with h|h
   ·exact h
   ·rw[hk,Sj h]at hf;cases hf
  obtain⟨c,J⟩:=qN.1 (Ud h3 f M (by rw[<-hk];exact hf));have:=he _ (UH J);have e:(λ(g:Gd) (h:AF) (f':FuncId) (args:List AD)=>if f'=f then C.ext f g h args else none)=λ(g:Gd) h f' args=>if f'=f then bV C.P km c g h args else none:=by
   funext g h f' args;rw[D];simp only[PN,J]
  rw[e];exact this
section
variable {C:Hv} {km:fE} {l:List (Nat×Nat×Nat×Nat)} {g:Gd} {h:AF} {f:Nat} {L F:List Ck}
theorem ND{c:Nat×Nat×Nat}{args:List AD}{v:AD}{h':AF}(hk:C.kind f=3)(D:C.ext=PN C.P km l)(J:J3 l f=some c)(he:bV C.P km c g h args=some (v,h')):Cf C g h f args v h':=by
 refine⟨1,?_⟩;show JE C (DY C 0) g h f _=_;unfold JE;rw[hk];simp only[D,PN,J,he]
theorem eK{s:List UInt8}{c n:Int}(hk:C.kind f=3)(D:C.ext=PN C.P km l)(J:J3 l f=some (1,0,0))(hm:HQ s c=some n):Cf C g h f [.str s,.int .u8 c] (.int .i64 n) h:=by
 refine ND hk D J ?_;unfold HQ at hm;show bj h [.str s,.int .u8 c]=some (.int .i64 n,h);unfold bj;split at hm
 ·rename_i hr;injection hm with hm;subst hm;dsimp only;rw[zl hr]
 ·cases hm
theorem VN{s t:List UInt8}{a:Nat}(hk:C.kind f=3)(D:C.ext=PN C.P km l)(J:J3 l f=some (8,a,0))(O:decide (s.length<=4294967280)=true):Cf C g h f [.str s,.str t] (.tuple [.str (Lib.cut s t).1,.str (Lib.cut s t).2.1,.bool (Lib.cut s t).2.2]) h:=by
 refine ND hk D J ?_;show S2 h [.str s,.str t]=_;unfold S2;dsimp only;rw[zl (of_decide_eq_true O)]
theorem PX{V:Type}(ev:V->AD):∀m:List (List UInt8×V),Jb (Fl (λk=>AD.str k) ev m)=some (m.map Prod.fst)
 |[]=>rfl
 |(k,v)::m=>by
  show(Jb (Fl (λk=>AD.str k) ev m)).map (k::·)=_;rw[PX ev m];rfl
theorem cr:∀l:List (List UInt8),Am eS l=l.map .str
 |[]=>rfl
 |x::l=>by
  have:=cr l;simp only[Am,yD,zK]at *;rw[this];rfl
theorem HH.sorted{V:Type}{ev:V->AD}{m:List (List UInt8×V)}{it t b mid:Nat}(A:HH g h L F)(hk:C.kind f=3)(D:C.ext=PN C.P km l)(J:J3 l f=some (2,it,t))(k1 k2:Nat)(h1:L[k1]?=some (.obj b (.cells none 2 [.map (some mid)])))
  (h2:L[k2]?=some (.obj mid (.map 2 (Fl (λk=>AD.str k) ev m)))) (O:QP (m.map Prod.fst)=true):
  ∃r h',Cf C g h f [.func (.func it) [] [.ptr (some (b,0))]] (Ad r (Gn (m.map Prod.fst)).length) h'/\HH g h' (.Am r t (Am eS (Gn (m.map Prod.fst)))::L) F:=by
 have hlen:(Gn (m.map Prod.fst)).length=(m.map Prod.fst).length:=(ML _).length_eq;have key:Lo it t h [.func (.func it) [] [.ptr (some (b,0))]]=some (Rb t h (m.map Prod.fst)):=by
  unfold Lo;simp only[if_true,RV,A.get k1 h1,A.get k2 h2,PX,O]
 rw[cr];generalize hks:m.map Prod.fst=ks at *;cases ks with
 |nil=>exact⟨none,h,ND hk D J (key.trans rfl),A.Kz t⟩
 |cons x ks=>exact⟨some h.size,_,ND hk D J (h':=h.push (.cells (some t) 2 ((Gn (x::ks)).map .str))) (key.trans (by rw[hlen];rfl)),A.YO t _⟩
end
end Go.Av
