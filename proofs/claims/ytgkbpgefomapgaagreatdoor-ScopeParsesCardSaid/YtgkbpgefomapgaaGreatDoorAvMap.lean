/-
  Several texts in one.
-/
import Derived.Test.YtgkbpgefomapgaaGreatDoorAvTy
import Derived.Carry
import Derived.WideShapes
import Derived.ChangeShapes
import Derived.OpenShut
/-
 A part.
-/
section
namespace Go.Av
open Go.RowKit Go.ChangeShapes Go.WideShapes
set_option linter.unusedVariables false
def XY:List AE->Option AE
 |[a]=>some a
 |_=>none
def toArg(P:Program)(t:TypeId)(cs:List AE):Option AE:=
 match P.underlying t with
 |some (.struct _)|some (.array _ _)=>some (.agg cs)
 |some .bool|some (.int _)|some .string|some (.pointer _)|some (.slice _)|some (.map _ _)|some (.interface _)=>XY cs
 |_=>none
def mW(W:World):CU:=⟨λ_=>none,λg o=>match W.heap[g]? with|some (.cells cur _ _)=>cur[o]?|_=>none,λ_=>False⟩
section
variable {H:Type} {enc:TypeId×Value->H} {P:Program} {W:World}
theorem Zm:Rel P W (mW W) ⟨0,.leaf⟩ W:=by
 refine⟨Below.refl _ _,λid E Y=>by simp[mW]at Y,λid E o Y=>by simp[mW]at Y,λid E o Y=>by simp[mW]at Y,λid id' E E' o o' _ Y=>by simp[mW]at Y,λg o v I=>?_,λid E o Y=>by simp[mW]at Y,λg T=>T.elim,λid E o Y=>by simp[mW]at Y⟩;simp only[mW]at I;split at I
 ·rename_i cur e z hc;exact⟨cur,e,z,hc,I⟩
 ·cases I
theorem Ri{a:Addr}{n:Nat}{cs:List Value}(hc:W.cells? 0 a n=some cs)(hn:0<n):∃cur e fz,W.heap[a.block]?=some (.cells cur e fz)/\a.spot=none/\cs.length=n/\∀j,j<n->cur[a.off+j]?=cs[j]?:=by
  obtain⟨_,hl,J⟩:=World.cells?_some hc;have h0:=J 0 hn;unfold World.cell? at h0;have hadd:∀j,(a.add j).block=a.block:=λj=>by unfold Addr.add;split<;>rfl
  rw[hadd]at h0;cases B:W.heap[a.block]? with
  | none => rw[B]at h0;have:(0:Nat)<cs.length:=by omega
            rw[List.getElem?_eq_getElem this]at h0;cases h0
  | some o=>
    rw[B]at h0;cases o with
    | cells cur e fz=>
      have S:(0:Nat)<cs.length:=by omega
      have hs:a.spot=none:=by
        cases hsp:a.spot with
        |none=>rfl
        | some q=>
          have:(a.add 0).spot.isSome=true:=by simp[Addr.add,hsp]
          simp only[this,if_true]at h0;rw[List.getElem?_eq_getElem S]at h0;cases h0
      refine⟨cur,e,fz,rfl,hs,hl,λj hj=>?_⟩;have h1:=J j hj;unfold World.cell? at h1;rw[hadd,B]at h1;have e1:(a.add j).spot=none:=by unfold Addr.add;split<;>simp[hs]
      have e2:(a.add j).off=a.off+j:=by unfold Addr.add;split<;>simp_all
      simpa[e1,e2]using h1
    | _=>
      have:(0:Nat)<cs.length:=by omega
      simp only at h0;rw[List.getElem?_eq_getElem this]at h0;cases h0
theorem Pb{α:Type}{z:Nat}(N:0<z):∀(css:List (List α)) (q:Nat),(∀c∈css,c.length=z)->css.flatten[q]?=(css[q / z]?).bind (·[q%z]?)
 |[],q,_=>by simp
 | c::css,q,h=>by
  have hc:c.length=z:=h c (by simp);rw[List.flatten_cons];by_cases hq:q<z
  ·rw[List.getElem?_append_left (by omega),Nat.div_eq_of_lt hq,Nat.mod_eq_of_lt hq];rfl
  ·rw[List.getElem?_append_right (by omega),Pb N css (q - c.length) (λc' hc'=>h c' (by simp[hc'])),hc];have e1:q / z=(q - z) / z+1:=by rw[Nat.div_eq q z,zk ⟨N,by omega⟩]
   have e2:q%z=(q - z)%z:=Nat.mod_eq_sub_mod (by omega);rw[e1,e2];rfl
theorem V4(a:Addr)(j:Nat):(a.add j).block=a.block:=by unfold Addr.add;split<;>rfl
theorem YM(a:Addr)(j:Nat):(a.add j).off=a.off+j:=by unfold Addr.add;split<;>simp_all
theorem add_zero(a:Addr):a.add 0=a:=by simp[Addr.add]
end
structure X8(P:Program){α:Type}(t:TypeId)(e:α->List AE)(ok:α->Prop):Prop where
 h:∀{H:Type} {enc:TypeId×Value->H} {W:World} {held:Bool} (fuel:Nat) (cs:List Value) (d:DataW H) (ps:List MemPlace),DataW.trod enc P W 0 (λ_=>true) held fuel t cs=some (d,ps)->∃x,Dt (mW W) (e x) cs/\ok x
section
variable {P:Program}
def bt(x:List UInt8):Prop:=x.length<=9223372036854775807
theorem aJ{t:TypeId}(hu:P.underlying t=some .string):X8 P t eS bt:=.mk λ{H enc W held} fuel cs d ps Q=>by
 cases fuel with
 |zero=>simp[DataW.trod]at Q
 |succ fuel=>
  unfold DataW.trod at Q;rw[hu]at Q;split at Q<;>first|contradiction|cases ‹(some (_:TypeDesc))=some _›
  rename_i s;split at Q<;>try contradiction
  rename_i G;exact⟨s.data.toList,.cons (.str _) (.nil _),G⟩
theorem Yb{α:Type}{e:α->List AE}{z:Nat}(E:L9 e z)(N:0<z)(xs:List α)(q:Nat):(AP e xs)[q]?=(xs[q / z]?).bind λx=>(e x)[q%z]?:=by
 have h:=Pb (z:=z) N (xs.map e) q (λc hc=>by obtain⟨x,_,rfl⟩:=z7.1 hc;exact E.len x);rw[show(xs.map e).flatten=AP e xs from by simp[AP,List.flatMap]]at h;rw[h,List.getElem?_map];cases xs[q / z]?<;>rfl
def b7{α:Type}(ok:α->Prop)(xs:List α):Prop:=xs.length<=9223372036854775807/\∀x∈xs,ok x
theorem bT{α:Type}{t el:TypeId}{e:α->List AE}{z:Nat}{ok:α->Prop}(E:L9 e z)(hu:P.underlying t=some (.slice el))(N:P.cellsOf el=z)(Z:0<z)(a:X8 P el e ok):X8 P t (eL e) (b7 ok):=.mk λ{H enc W held} fuel cs d ps Q=>by
 cases fuel with
 |zero=>simp[DataW.trod]at Q
 | succ fuel=>
  unfold DataW.trod at Q;rw[hu]at Q;split at Q<;>first|contradiction|cases ‹(some (_:TypeDesc))=some _›
  ·exact⟨[],.cons (.ND _ _) (.nil _),by simp,by simp⟩
  ·rename_i ad len cap;simp only at Q;split at Q<;>try contradiction
   rename_i B;obtain⟨elems,he,Q⟩:=AG Q;have hlen:elems.length=len:=by simpa using mapM_some_length he
   have hel:∀i,i<len->∃c x,W.cells? 0 (ad.add (i*z)) z=some c/\Dt (mW W) (e x) c/\ok x:=by
    intro i hi;have:=mapM_some_get he i i (by simp[hi]);rw[List.getElem?_eq_getElem (by omega)]at this;obtain⟨c,hc,M⟩:=AG this;rw[N]at hc;obtain⟨x,D,G⟩:=a.h fuel c _ _ M;exact⟨c,x,hc,D,G⟩
   have hxs:∀n,n<=len->∃xs:List α,xs.length=n/\∀i x,xs[i]?=some x->ok x/\∃c,W.cells? 0 (ad.add (i*z)) z=some c/\Dt (mW W) (e x) c:=by
    intro n
    induction n with
    |zero=>intro _;exact⟨[],rfl,λi x h=>by simp at h⟩
    | succ n ih=>
     intro hn;obtain⟨xs,h1,M⟩:=ih (by omega);obtain⟨c,x,hc,D,G⟩:=hel n (by omega);refine⟨xs++[x],by simp[h1],λi y hy=>?_⟩;by_cases hi:i<xs.length
     ·rw[List.getElem?_append_left hi]at hy;exact M i y hy
     ·have hi2:i=n:=by
       have:=(List.getElem?_eq_some_iff.1 hy).1;simp at this;omega
      subst hi2;rw[List.getElem?_append_right (by omega),h1]at hy;simp at hy;subst hy;exact⟨G,c,hc,D⟩
   obtain⟨xs,hl,J⟩:=hxs len (zo _);have hle:len<=9223372036854775807:=by
    have:len<=maxLen:=by omega
    have e2:maxLen=9223372036854775807:=by decide
    omega
   refine⟨xs,.cons ?_ (.nil _),by omega,λx D=>?_⟩
   ·by_cases h0:len=0
    ·have:xs=[]:=zt (by omega);subst this;subst h0;exact .ND _ _
    ·obtain⟨_,c0,hc0,_⟩:=J 0 _ (List.getElem?_eq_getElem (by omega));simp only[Nat.zero_mul,add_zero]at hc0;obtain⟨cur,et,fz,b1,b2,b3,b4⟩:=Ri hc0 Z;have ea:ad=⟨ad.block,ad.off,none⟩:=by cases ad;simp_all
     have key:∀q v,(AP e xs)[q]?=some v->∃u,cur[ad.off+q]?=some u/\VR (mW W) v u:=by
      intro q v I;rw[Yb E Z]at I;obtain⟨x,D,I⟩:=AG I;obtain⟨_,c,hc,hvr⟩:=J _ x D;obtain⟨cur',et',fz',d1,d2,d3,d4⟩:=Ri hc Z;rw[V4]at d1;rw[b1]at d1;injection d1 with d1;injection d1 with d1;subst d1;obtain⟨u,X,hvu⟩:=hvr.at_ I;refine⟨u,?_,hvu⟩;have hm:=d4 (q%z) (Nat.mod_lt _ Z);rw[YM]at hm;have ej:q / z*z+q%z=q:=by rw[Nat.mul_comm];exact Nat.div_add_mod _ _
      rw[zZ,ej]at hm;rw[hm];exact X
     rw[ea,<-hl];refine .Jd xs.length cap ad.block ad.off (AP e xs) (λi=>(cur[ad.off+i]?).getD undef) (by omega) (λi hi=>?_) (λi x D=>?_)
     ·obtain⟨u,X,_⟩:=key i _ (List.getElem?_eq_getElem hi);simp only[mW,b1,X,yb]
     ·obtain⟨u,X,hvu⟩:=key i x D;rw[X];exact hvu
   ·obtain⟨i,hi,rfl⟩:=yS D;exact(J i _ (List.getElem?_eq_getElem hi)).1
end
section
variable {H:Type} {enc:TypeId×Value->H} {P:Program} {W:World}
theorem TL{t:TypeId}{v:Value}{base:Nat}(I:Value.okWide P W .any base t v){m:CU}{cs:List AE}{a:AE}(hc:Dt m cs v.cells.toList)(O:toArg P t cs=some a):VR m a v:=by
 have one:∀{w:Value},v=w->w.cells.toList=[w]->XY cs=some a->VR m a v:=by
  intro w hw hcells D;subst hw;rw[hcells]at hc;unfold XY at D;split at D
  ·injection D with D;subst D;exact hc.2 0 _ _ rfl rfl
  ·cases D
 unfold toArg at O;split at O
 ·rename_i hu;obtain⟨c,hce,_⟩:=okWide_struct hu I;subst hce;injection O with O;subst O;exact Dt.agg hc
 ·rename_i hu;unfold Value.okWide at I;rw[hu]at I;obtain⟨c,hce,_⟩:=I;subst hce;injection O with O;subst O;exact Dt.agg hc
 ·rename_i hu;obtain⟨b,B⟩:=okWide_bool hu I;exact one B rfl O
 ·rename_i hu;obtain⟨b,B⟩:=okWide_int hu I;exact one B rfl O
 ·rename_i hu;obtain⟨b,B⟩:=okWide_string hu I;exact one B rfl O
 ·rename_i hu;obtain⟨b,B⟩:=okWide_pointer hu I;exact one B rfl O
 ·rename_i hu;obtain⟨b,c,d,B⟩:=okWide_slice hu I;exact one B rfl O
 ·rename_i hu;obtain⟨b,B⟩:=okWide_map hu I;exact one B rfl O
 ·rename_i hu;rcases okWide_iface hu I with B|⟨u,x,B⟩
  ·exact one B rfl O
  ·exact one B rfl O
 ·cases O
theorem NL(hl:laidOutB P=true){W':World}(B:Below W.heap.size W W'):∀(ts:List TypeId) (vs:List Value) (ds:List (DataW H)) (ps:List MemPlace),(∀t∈ts,P.readableRec t=true/\t<P.types.size)->
  DataW.TrodAll enc P W 0 (λ_=>true) true ts vs ds ps->(∀x∈ps,x.block<W.heap.size)->DataW.TrodAll enc P W' 0 (λb=>decide (b<W.heap.size)) true ts vs ds ps
 |[],vs,ds,ps,_,hA,_=>by
  obtain⟨rfl,rfl,rfl⟩:=trodAll_nil hA;rfl
 |t::ts,vs,ds,ps,hr,hA,S=>by
  obtain⟨v,vs',d,ds',p,q,rfl,rfl,rfl,h0,r0⟩:=trodAll_cons hA;have h1:=hr t (by simp);exact trodAll_cons_mk (Below.trod hl h1.1 h1.2 h0 B λx D=>S x (by simp[D])) (NL hl B ts vs' ds' q (λt Q=>hr t (by simp[Q])) r0 λx D=>S x (by simp[D]))
theorem V8 {C:J8} (hC:NN C) (N:EF C.GZ W) (hl:laidOutB C.P=true) {f:FuncId} {fn:Func} {c:Code} (hfn:C.P.funcs[f]?=some fn) (hn:(fn.name=="runtime.NumGoroutine")=false) (B:fn.body=some c)
  (hts:∀t∈fn.params.toList,C.P.readableRec t=true/\t<C.P.types.size) {tb:TypeId} (hrt:fn.resultTypes=#[tb]) (hub:C.P.underlying tb=some .bool)
  {s:ChangeSpec} (U:s.vars=[]) {args:Array Value} {ds gs:List (DataW H)} {before:List MemPlace} (R:s.fn H (ds++[])={results:=[.lit (.bool true)],args:=ds})
  (hW:DataW.Whole enc C.P fn.params.toList s.vars false W args.toList ds gs before)
  {av:List AE} (hvs:Dt (mW W) av args.toList) {h':AS} (hrun:Bm C ⟨0,[]⟩ ⟨0,.leaf⟩ f av (.bool true) h'):
  Calls C.P f args W λe W'=>∃v,e=.returned v/\s.post enc C.P fn false true false false W args v W':=by
 have hW':=hW;obtain⟨p,q,hA0,hV,rfl,hfz,hnd⟩:=hW;rw[U]at hV;have hV':gs=[]/\q=[]:=by cases gs<;>simp[DataW.TrodVars]at hV<;>simp[hV]
 obtain⟨rfl,rfl⟩:=hV';obtain⟨n,hn'⟩:=hrun;refine(VJ hC (n:=n) hn' hfn hn B N Zm hvs).mono λe W' ⟨v',he,m',_,hr',hv'⟩=>?_;subst he;have ev:v'=.bool true:=by cases hv';rfl
 subst ev;have bel:=hr'.below;have S:∀x∈p,x.block<W.heap.size:=λx D=>by simpa using hW'.lt x (by simpa using D)
 refine⟨_,rfl,ds,[],p++[],[],p,[],hW',?_,?_,?_,bel.frame _,λh=>by cases h⟩
 ·rw[R,hrt];exact trodAll_mk1 (shut_bool hub _)
 ·rw[R];exact NL hl bel _ _ _ _ hts hA0 S
 ·rw[R,U];rfl
theorem HH.start:HH ⟨0,[]⟩ ⟨0,.leaf⟩ [] []:=⟨λc hc=>(by cases hc),by simp[Et],λi hi=>(by simp[Et]at hi),λi hi=>(by cases hi),zo _⟩
end
end Go.Av
end
/-
 A part.
-/
section
namespace Go.Av
open Go.RowKit
set_option linter.unusedVariables false
def idxOf(s:List UInt8)(c:UInt8):Int:=match(List.range s.length).find? λi=>s[i]?==some c with|some i=>(i:Int)|none=> -1
def ME(h:AS):List AE->Option (AE×AS)
 |[.str s,.int .u8 c]=>if 0<=c/\c<=255 then some (.int .i64 (idxOf s (UInt8.ofNat c.toNat)),h)else none
 |_=>none
theorem R4{α:Type}{p q:α->Bool}:∀(l:List α),(∀x∈l,p x=q x)->l.find? p=l.find? q
 |[],_=>rfl
 |x::l,h=>by rw[List.find?_cons,List.find?_cons,h x (by simp),R4 l λy hy=>h y (by simp[hy])]
theorem idx_eq(s:List UInt8)(c:UInt8):((List.range (⟨⟨s⟩⟩:ByteArray).size).find? λi=>(⟨⟨s⟩⟩:ByteArray)[i]! ==c)=(List.range s.length).find? λi=>s[i]?==some c:=by
 refine R4 _ λi hi=>?_;have hi:i<s.length:=by have:=yw.1 hi;exact this
 have:(⟨⟨s⟩⟩:ByteArray)[i]! =s[i]:=getElem!_pos (⟨⟨s⟩⟩:ByteArray) i hi;rw[this,List.getElem?_eq_getElem hi];rfl
def Km(s:List UInt8)(c:Int):Option Int:=if 0<=c/\c<=255 then some (idxOf s (UInt8.ofNat c.toNat))else none
end Go.Av
end
/-
 A part.
-/
section
namespace Go.Av
set_option linter.unusedVariables false
set_option linter.unusedSimpArgs false
theorem P8(b c:Bool):Ae b (some c) (some false)=some (b&&c):=by cases b<;>rfl
def aH{α β:Type}(o:Option α)(f:α->Option β)(n:Option β):Option β:=match o with|some x=>f x|none=>n
theorem V5{α β:Type}{o:Option α}{f:α->Option β}{n:Option β}{b:β}(h:aH o f n=some b):(∃x,o=some x/\f x=some b)\/(o=none/\n=some b):=by
 cases o with
 |some x=>exact .inl ⟨x,rfl,h⟩
 |none=>exact .inr ⟨rfl,h⟩
structure S3(P:Program)(t:TypeId){K:Type}[DecidableEq K](ek:K->AE):Prop where
 ok:∀x,HM P 20 t (ek x)=true
 eq:∀x y,Jc P 10000 t (ek x) (ek y)=some (decide (x=y))
 same:∀x,MB (ek x) (ek x)=true
theorem ay{P:Program}{t:TypeId}(hu:P.underlying t=some .string):S3 P t (λs:List UInt8=>AE.str s):=by
 refine⟨λx=>?_,λx y=>?_,λx=>by simp[MB,Oa]⟩
 ·unfold HM;rw[hu]
 ·show Jc P (9999+1) t _ _=_;unfold Jc;rw[hu];simp only[zd];rw[qh];simp
theorem UF{P:Program}{t:TypeId}{k:IntKind}(hu:P.underlying t=some (.int k)):S3 P t (λn:Int=>AE.int k n):=by
 refine⟨λx=>?_,λx y=>?_,λx=>by simp[MB,Oa]⟩
 ·unfold HM;rw[hu]
 ·show Jc P (9999+1) t _ _=_;unfold Jc;rw[hu];simp only[if_true,zd];rw[qh];simp
section
variable {K V:Type} [DecidableEq K]
def Cy:List (K×V)->K->Option V
 |[],_=>none
 |(k',v)::r,k=>if k=k' then some v else Cy r k
def CZ:List (K×V)->K->V->List (K×V)
 |[],k,v=>[(k,v)]
 |(k',v')::r,k,v=>if k=k' then(k,v)::r else(k',v')::CZ r k v
def UR:List (K×V)->K->List (K×V)
 |[],_=>[]
 |(k',v')::r,k=>if k=k' then r else(k',v')::UR r k
def CJ(ek:K->AE)(ev:V->AE)(m:List (K×V)):List (AE×AE):=m.map λp=>(ek p.1,ev p.2)
variable {P:Program} {t kt et:TypeId} {ek:K->AE} {ev:V->AE} {g:Gd} {h:AS} {L F:List Ck}
theorem KL(E:S3 P kt ek)(k:K)(v:V):∀(m:List (K×V)) (i:Nat),
  (Eo P kt (ek k) (CJ ek ev m) i=some none/\Cy m k=none/\CJ ek ev (CZ m k v)=CJ ek ev m++[(ek k,ev v)]/\UR m k=m)\/
  (∃j w,Eo P kt (ek k) (CJ ek ev m) i=some (some (i+j,ev w))/\Cy m k=some w/\(CJ ek ev m)[j]?=some (ek k,ev w)/\CJ ek ev (CZ m k v)=(CJ ek ev m).set j (ek k,ev v)/\CJ ek ev (UR m k)=(CJ ek ev m).eraseIdx j)
 |[],i=>.inl ⟨rfl,rfl,rfl,rfl⟩
 | (k',v')::r,i=>by
  have e1:CJ ek ev ((k',v')::r)=(ek k',ev v')::CJ ek ev r:=rfl;rw[e1,Eo,E.eq];by_cases G:k=k'
  ·subst G;refine .inr ⟨0,v',?_,?_,rfl,?_,?_⟩
   ·simp
   ·simp[Cy]
   ·simp[CZ,CJ]
   ·simp[UR]
  ·rw[zh G];rcases KL E k v r (i+1)with⟨h1,M,h3,h4⟩|⟨j,w,h1,M,h3,h4,h5⟩
   ·refine .inl ⟨h1,?_,?_,?_⟩
    ·rw[Cy,zm G];exact M
    ·rw[CZ,zm G];show(ek k',ev v')::CJ ek ev (CZ r k v)=_;rw[h3];rfl
    ·rw[UR,zm G,h4]
   ·refine .inr ⟨j+1,w,?_,?_,?_,?_,?_⟩
    ·dsimp only;rw[h1];simp;omega
    ·rw[Cy,zm G];exact M
    ·rw[List.getElem?_cons_succ];exact h3
    ·rw[CZ,zm G];show(ek k',ev v')::CJ ek ev (CZ r k v)=_;rw[h4];rfl
    ·rw[UR,zm G];show(ek k',ev v')::CJ ek ev (UR r k)=_;rw[h5];rfl
theorem HH.Xz(E:S3 P kt ek)(a:HH g h L F)(n:Nat){id:Nat}{m:List (K×V)}(G:L[n]?=some (.obj id (.map 2 (CJ ek ev m))))(hu:P.underlying t=some (.map kt et)){z:V}(N:I2 P et=some (ev z))(k:K):
  Ul P h t (some id) (ek k)=some (ev ((Cy m k).getD z),(Cy m k).isSome):=by
 have T:=a.get n G;unfold Ul;rw[hu];simp only[E.ok,if_true,ZE,T];rw[zk (by decide)];dsimp only;rcases KL (ev:=ev) E k z m 0 with⟨h1,M,_,_⟩|⟨j,w,h1,M,_,_,_⟩
 ·rw[h1,M];simp[N]
 ·rw[h1,M];rfl
theorem HH.TE(E:S3 P kt ek)(a:HH g h L F)(n:Nat){id:Nat}{m:List (K×V)}(G:L[n]?=some (.obj id (.map 2 (CJ ek ev m))))(hu:P.underlying t=some (.map kt et))(k:K)(v:V)(N:Gy g h (ev v)=some (ev v,h):=by rfl):
  ∃h',ZM P g h t (some id) (ek k) (ev v)=some h'/\HH g h' (L.set n (.obj id (.map 2 (CJ ek ev (CZ m k v))))) F:=by
 have T:=a.get n G;have hm:g.may id=true:=a.Px G (by simp[Ck.ids]);refine⟨h.set id (.map 2 (CJ ek ev (CZ m k v))),?_,a.set n _ G⟩;unfold ZM Ho;rw[N];show J0 P g h t (.map (some id)) (ek k) (ev v)=_;unfold J0;rw[hu];simp only[E.ok,hm,and_self,if_true,T];rcases KL (ev:=ev) E k v m 0 with⟨h1,M,h3,_⟩|⟨j,w,h1,M,h3,h4,_⟩
 ·rw[h1,h3]
 ·rw[h1];simp only[qx,h3,E.same,if_true,h4]
theorem HH.bC(E:S3 P kt ek){r:Option Nat}{e:TypeId}{cs:List AE}{q z:Nat}(a:HH g h (.AP r e cs::L) F)(n:Nat){id:Nat}{m:List (K×V)}(G:L[n]?=some (.obj id (.map 2 (CJ ek ev m))))(hu:P.underlying t=some (.map kt et))(k:K)(v:V)
  (hn:cs.length=q*z) (N:z≠0) (hq:q≠0) (I:ev v=.Jd q cs):
  ∃h',ZM P g h t (some id) (ek k) (AH r q)=some h'/\HH g h' (L.set n (.obj id (.map 2 (CJ ek ev (CZ m k v))))) F/\Gy g h' (AH r q)=some (ev v,h'):=by
 have h0:(Ck.AP r e cs::L)[0]?=some (.AP r e cs):=rfl;cases r with
 |none=>
  exfalso;have hc:cs=[]:=a.mem h0;subst hc;have h1:q*z=0:=by simpa using hn.symm
  rcases yj.1 h1 with h|h
  ·exact hq h
  ·exact N h
 | some i=>
  have T:h.get i=some (.cells (some e) 2 cs):=a.mem h0;have hid:=h.D6 T;have B:Nat.beq q 0=false:=by cases q;exact absurd rfl hq;rfl
  obtain⟨c,cs',hcs⟩:∃c cs',cs=c::cs':=by
   cases cs with
   |nil=>
    exfalso;have h1:q*z=0:=by simpa using hn.symm
    rcases yj.1 h1 with h|h
    ·exact hq h
    ·exact N h
   |cons c cs'=>exact⟨c,cs',rfl⟩
  have hf:Gy g h (AH (some i) q)=some (.Jd q cs,h.set i (.cells (some e) 0 cs)):=by
   simp only[AH,Gy,zf,B,yf,T,a.Px h0 (i:=i) (by simp[Ck.ids]),zY]
  have b:=a.SV (d:=.obj i (.cells (some e) 0 cs)) (h':=h.set i (.cells (some e) 0 cs)) h0 (by simp) (λj _ hi=>h.EW _ hid (by simpa[Ck.ids]using hi)) (h.Fm _ hid)
   (λj hj=>.inl (by simpa[Ck.ids]using hj)) (λj hj=>a.Px h0 (by simpa[Ck.ids]using hj))
  have b':HH g (h.set i (.cells (some e) 0 cs)) (.obj i (.cells (some e) 0 cs)::L) F:=b;have hz1:Gy g (h.set i (.cells (some e) 0 cs)) (ev v)=some (ev v,h.set i (.cells (some e) 0 cs)):=by rw[I];rfl
  obtain⟨h',D,c1⟩:=HH.TE (P:=P) (t:=t) (kt:=kt) (et:=et) (ev:=ev) E b' (n+1) G hu k v hz1;have g1:h'.get i=some (.cells (some e) 0 cs):=c1.get 0 rfl;refine⟨h',?_,?_,?_⟩
  ·unfold ZM Ho at D⊢;rw[hz1]at D;rw[hf];rw[I]at D;exact D
  ·have:(Ck.obj i (.cells (some e) 0 cs)::L).set (n+1) (.obj id (.map 2 (CJ ek ev (CZ m k v))))=.obj i (.cells (some e) 0 cs)::L.set n (.obj id (.map 2 (CJ ek ev (CZ m k v)))):=rfl;rw[this]at c1;exact c1.tail
  ·rw[I];simp only[AH,Gy,zf,B,yf,g1];rw[hcs];rfl
theorem HH.ZR(E:S3 P kt ek)(a:HH g h L F)(n:Nat){id:Nat}{m:List (K×V)}(G:L[n]?=some (.obj id (.map 2 (CJ ek ev m))))(hu:P.underlying t=some (.map kt et)){zv:AE}(N:I2 P et=some zv){k:K}{v:V}(hf:Cy m k=some v):
  Ul P h t (some id) (ek k)=some (ev v,true):=by
 have T:=a.get n G;unfold Ul;rw[hu];simp only[E.ok,if_true,ZE,T];rw[zk (by decide)];dsimp only;rcases KL (ev:=ev) E k v m 0 with⟨h1,M,_,_⟩|⟨j,w,h1,M,_,_,_⟩
 ·rw[M]at hf;cases hf
 ·rw[M]at hf;cases hf;rw[h1]
theorem HH.ZO(E:S3 P kt ek)(a:HH g h L F)(n:Nat){id:Nat}{m:List (K×V)}(G:L[n]?=some (.obj id (.map 2 (CJ ek ev m))))(hu:P.underlying t=some (.map kt et)){zv:AE}(N:I2 P et=some zv){k:K}(hf:Cy m k=none):
  Ul P h t (some id) (ek k)=some (zv,false):=by
 have T:=a.get n G;unfold Ul;rw[hu];simp only[E.ok,if_true,ZE,T];rw[zk (by decide)];dsimp only;cases hm:m with
 |nil=>simp[CJ,Eo,N]
 |cons p r=>
  rw[<-hm];rcases KL (ev:=ev) E k p.2 m 0 with⟨h1,M,_,_⟩|⟨j,w,h1,M,_,_,_⟩
  ·rw[h1];simp[N]
  ·rw[M]at hf;cases hf
end
end Go.Av
end
