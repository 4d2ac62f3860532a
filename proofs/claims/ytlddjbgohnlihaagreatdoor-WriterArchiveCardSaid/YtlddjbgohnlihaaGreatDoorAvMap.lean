/-
  Several texts in one.
-/
import Derived.Test.YtlddjbgohnlihaaGreatDoorAvTy
import Derived.Carry
import Derived.WideShapes
import Derived.ChangeShapes
import Derived.OpenShut
import Derived.IntWalk
/-
 A part.
-/
section
namespace Go.Av
open Go.RowKit Go.ChangeShapes Go.WideShapes
set_option linter.unusedVariables false
def Sy(P:Program):List Field→Nat→Nat→Bool
 |[],o,n=>Nat.beq o n
 |f::fs,o,n=>Nat.beq f.offset o&&Sy P fs (o+P.cellsOf f.type) n
def YL:List AB→Option AB
 |[a]=>some a
 |_=>none
def toArg(P:Program)(t:TypeId)(cs:List AB):Option AB:=
 match P.underlying t with
 |some (.struct _)|some (.array _ _)=>some (.agg cs)
 |some .bool|some (.int _)|some .string|some (.pointer _)|some (.slice _)|some (.map _ _)|some (.interface _)=>YL cs
 |_=>none
def mW(W:World):BD:=⟨fun _=>none,fun g o=>match W.heap[g]? with|some (.cells cur _ _)=>cur[o]?|_=>none,fun _ _=>False⟩
section
variable {H:Type} {enc:TypeId×Value→H} {P:Program} {W:World}
theorem bk:Rel P W (mW W) ⟨0,.leaf⟩ W:=by
 refine⟨Below.refl _ _,fun id E Y=>by simp[mW]at Y,fun id E o Y=>by simp[mW]at Y,fun id E o Y=>by simp[mW]at Y,fun id id' E E' o o' _ Y=>by simp[mW]at Y,fun g o v I=>?_,fun id E o Y=>by simp[mW]at Y,fun g x hg=>hg.elim,fun id E o Y=>by simp[mW]at Y⟩;simp only[mW]at I;split at I
 ·rename_i cur e z hc;exact⟨cur,e,z,hc,I⟩
 ·cases I
theorem Q6{a:Addr}{n:Nat}{cs:List Value}(hc:W.cells? 0 a n=some cs)(hn:0<n):∃cur e fz,W.heap[a.block]?=some (.cells cur e fz)∧a.spot=none∧cs.length=n∧∀j,j<n→cur[a.off+j]?=cs[j]?:=by
  obtain⟨_,J,M⟩:=World.cells?_some hc;have N:=M 0 hn;unfold World.cell? at N;have hadd:∀j,(a.add j).block=a.block:=fun j=>by unfold Addr.add;split<;>rfl
  rw[hadd]at N;cases G:W.heap[a.block]? with
  | none => rw[G]at N;have:(0:Nat)<cs.length:=by omega
            rw[List.getElem?_eq_getElem this]at N;cases N
  | some o=>
    rw[G]at N;cases o with
    | cells cur e fz=>
      have S:(0:Nat)<cs.length:=by omega
      have T:a.spot=none:=by
        cases hsp:a.spot with
        |none=>rfl
        | some q=>
          have:(a.add 0).spot.isSome=true:=by simp[Addr.add,hsp]
          simp only[this,if_true]at N;rw[List.getElem?_eq_getElem S]at N;cases N
      refine⟨cur,e,fz,rfl,T,J,fun j hj=>?_⟩;have h1:=M j hj;unfold World.cell? at h1;rw[hadd,G]at h1;have e1:(a.add j).spot=none:=by unfold Addr.add;split<;>simp[T]
      have e2:(a.add j).off=a.off+j:=by unfold Addr.add;split<;>simp_all
      simpa[e1,e2]using h1
    | _=>
      have:(0:Nat)<cs.length:=by omega
      simp only at N;rw[List.getElem?_eq_getElem this]at N;cases N
theorem LJ{α:Type}{n:Nat}:∀(fs:List Field) (o:Nat) (l:List α),Sy P fs o n=true→l.length=n→o≤n→(fs.map fun f=>(l.drop f.offset).take (P.cellsOf f.type)).flatten=l.drop o∧o≤n
 |[],o,l,h,J,ho=>by
  simp only[Sy]at h;have:=zu h;exact⟨by simp[←J,this],ho⟩
 | f::fs,o,l,h,J,ho=>by
  simp only[Sy,zh]at h;have e:=zu h.1;by_cases hle:o+P.cellsOf f.type≤n
  ·have ih:=LJ fs (o+P.cellsOf f.type) l h.2 J hle;refine⟨?_,ho⟩;rw[zU,yr,ih.1,e,←qm,zM]
  ·exfalso;have mono:∀(fs:List Field) (o n:Nat),Sy P fs o n=true→o≤n:=by
    intro fs
    induction fs with
    |nil=>intro o n h;simp only[Sy]at h;exact Nat.le_of_eq (zu h)
    |cons f fs ih=>intro o n h;simp only[Sy,zh]at h;have:=ih _ _ h.2;omega
   exact hle (mono fs _ _ h.2)
theorem Oo{α:Type}{z:Nat}(Z:0<z):∀(css:List (List α)) (q:Nat),(∀c∈css,c.length=z)→css.flatten[q]?=(css[q / z]?).bind (·[q%z]?)
 |[],q,_=>by simp
 | c::css,q,h=>by
  have hc:c.length=z:=h c (by simp);rw[yr];by_cases hq:q<z
  ·rw[List.getElem?_append_left (by omega),xl hq,xj hq];rfl
  ·rw[List.getElem?_append_right (by omega),Oo Z css (q - c.length) (fun c' hc'=>h c' (by simp[hc'])),hc];have e1:q / z=(q - z) / z+1:=by rw[Nat.div_eq q z,zm ⟨Z,by omega⟩]
   have e2:q%z=(q - z)%z:=Nat.mod_eq_sub_mod (by omega);rw[e1,e2];rfl
theorem Wm(a:Addr)(j:Nat):(a.add j).block=a.block:=by unfold Addr.add;split<;>rfl
theorem ZX(a:Addr)(j:Nat):(a.add j).off=a.off+j:=by unfold Addr.add;split<;>simp_all
theorem add_zero(a:Addr):a.add 0=a:=by simp[Addr.add]
end
structure TW(P:Program){α:Type}(t:TypeId)(e:α→List AB)(ok:α→Prop):Prop where
 h:∀{H:Type} {enc:TypeId×Value→H} {W:World} {held:Bool} (fuel:Nat) (cs:List Value) (d:DataW H) (ps:List MemPlace),DataW.trod enc P W 0 (fun _=>true) held fuel t cs=some (d,ps)→∃x,CM (mW W) (e x) cs∧ok x
section
variable {P:Program}
def QU(k:IntKind)(x:Int):Prop:=k.min≤x∧x≤k.max
theorem R8{t:TypeId}{k:IntKind}(hu:P.underlying t=some (.int k)):TW P t (eI k) (QU k):=.mk fun{H enc W held} fuel cs d ps B=>by
 cases fuel with
 |zero=>simp[DataW.trod]at B
 | succ fuel=>
  unfold DataW.trod at B;rw[hu]at B;split at B<;>first|contradiction|cases ‹(some (_:TypeDesc))=some _›
  rename_i k2 n;split at B<;>try contradiction
  rename_i hk;refine⟨n,?_,?_⟩
  ·rw[hk.1];exact .cons (.int _ _) (.nil _)
  ·have:=hk.2;simp only[Lit.wf,zh,zD]at this;exact this
def Te(x:List UInt8):Prop:=x.length≤9223372036854775807
theorem VG{t:TypeId}(hu:P.underlying t=some .string):TW P t eS Te:=.mk fun{H enc W held} fuel cs d ps B=>by
 cases fuel with
 |zero=>simp[DataW.trod]at B
 |succ fuel=>
  unfold DataW.trod at B;rw[hu]at B;split at B<;>first|contradiction|cases ‹(some (_:TypeDesc))=some _›
  rename_i s;split at B<;>try contradiction
  rename_i hk;exact⟨s.data.toList,.cons (.str _) (.nil _),hk⟩
theorem Zl{α:Type}{e:α→List AB}{z:Nat}(E:NB e z)(Z:0<z)(xs:List α)(q:Nat):(Af e xs)[q]?=(xs[q / z]?).bind fun x=>(e x)[q%z]?:=by
 have h:=Oo (z:=z) Z (xs.map e) q (fun c hc=>by obtain⟨x,_,rfl⟩:=zZ.1 hc;exact E.len x);rw[show(xs.map e).flatten=Af e xs from by simp[Af,List.flatMap]]at h;rw[h,List.getElem?_map];cases xs[q / z]?<;>rfl
def cL{α:Type}(ok:α→Prop)(xs:List α):Prop:=xs.length≤9223372036854775807∧∀x∈xs,ok x
theorem bU{α:Type}{t el:TypeId}{e:α→List AB}{z:Nat}{ok:α→Prop}(E:NB e z)(hu:P.underlying t=some (.slice el))(Z:P.cellsOf el=z)(hz0:0<z)(a:TW P el e ok):TW P t (eL e) (cL ok):=.mk fun{H enc W held} fuel cs d ps B=>by
 cases fuel with
 |zero=>simp[DataW.trod]at B
 | succ fuel=>
  unfold DataW.trod at B;rw[hu]at B;split at B<;>first|contradiction|cases ‹(some (_:TypeDesc))=some _›
  ·exact⟨[],.cons (.KQ _ _) (.nil _),by simp,by simp⟩
  ·rename_i ad len cap;simp only at B;split at B<;>try contradiction
   rename_i G;obtain⟨elems,he,B⟩:=bind_some B;have hlen:elems.length=len:=by simpa using mapM_some_length he
   have hel:∀i,i<len→∃c x,W.cells? 0 (ad.add (i*z)) z=some c∧CM (mW W) (e x) c∧ok x:=by
    intro i hi;have:=mapM_some_get he i i (by simp[hi]);rw[List.getElem?_eq_getElem (by omega)]at this;obtain⟨c,hc,h2⟩:=bind_some this;rw[Z]at hc;obtain⟨x,D,hk⟩:=a.h fuel c _ _ h2;exact⟨c,x,hc,D,hk⟩
   have hxs:∀n,n≤len→∃xs:List α,xs.length=n∧∀i x,xs[i]?=some x→ok x∧∃c,W.cells? 0 (ad.add (i*z)) z=some c∧CM (mW W) (e x) c:=by
    intro n
    induction n with
    |zero=>intro _;exact⟨[],rfl,fun i x h=>by simp at h⟩
    | succ n ih=>
     intro hn;obtain⟨xs,h1,h2⟩:=ih (by omega);obtain⟨c,x,hc,D,hk⟩:=hel n (by omega);refine⟨xs++[x],by simp[h1],fun i y hy=>?_⟩;by_cases hi:i<xs.length
     ·rw[List.getElem?_append_left hi]at hy;exact h2 i y hy
     ·have hi2:i=n:=by
       have:=(List.getElem?_eq_some_iff.1 hy).1;simp at this;omega
      subst hi2;rw[List.getElem?_append_right (by omega),h1]at hy;simp at hy;subst hy;exact⟨hk,c,hc,D⟩
   obtain⟨xs,J,M⟩:=hxs len (zC _);have hle:len≤9223372036854775807:=by
    have:len≤maxLen:=by omega
    have e2:maxLen=9223372036854775807:=by decide
    omega
   refine⟨xs,.cons ?_ (.nil _),by omega,fun x D=>?_⟩
   ·by_cases N:len=0
    ·have:xs=[]:=zy (by omega);subst this;subst N;exact .KQ _ _
    ·obtain⟨_,c0,hc0,_⟩:=M 0 _ (List.getElem?_eq_getElem (by omega));simp only[xL,add_zero]at hc0;obtain⟨cur,et,fz,b1,b2,b3,b4⟩:=Q6 hc0 hz0;have ea:ad=⟨ad.block,ad.off,none⟩:=by cases ad;simp_all
     have key:∀q v,(Af e xs)[q]?=some v→∃u,cur[ad.off+q]?=some u∧VR (mW W) v u:=by
      intro q v I;rw[Zl E hz0]at I;obtain⟨x,D,I⟩:=bind_some I;obtain⟨_,c,hc,hvr⟩:=M _ x D;obtain⟨cur',et',fz',d1,d2,d3,d4⟩:=Q6 hc hz0;rw[Wm]at d1;rw[b1]at d1;injection d1 with d1;injection d1 with d1;subst d1;obtain⟨u,X,hvu⟩:=hvr.at_ I;refine⟨u,?_,hvu⟩;have hm:=d4 (q%z) (qh _ hz0);rw[ZX]at hm;have ej:q / z*z+q%z=q:=by rw[qp];exact Nat.div_add_mod _ _
      rw[yI,ej]at hm;rw[hm];exact X
     rw[ea,←J];refine .HU xs.length cap ad.block ad.off (Af e xs) (fun i=>(cur[ad.off+i]?).getD undef) (by omega) (fun i hi=>?_) (fun i x D=>?_)
     ·obtain⟨u,X,_⟩:=key i _ (List.getElem?_eq_getElem hi);simp only[mW,b1,X,zV]
     ·obtain⟨u,X,hvu⟩:=key i x D;rw[X];exact hvu
   ·obtain⟨i,hi,rfl⟩:=yA D;exact(M i _ (List.getElem?_eq_getElem hi)).1
structure VV(P:Program){α:Type}(ts:List TypeId)(e:α→List AB)(ok:α→Prop):Prop where
 h:∀{H:Type} {enc:TypeId×Value→H} {W:World} {held:Bool} (fuel:Nat) (css:List (List Value)),css.length=ts.length→(∀(i:Nat) c t,css[i]?=some c→ts[i]?=some t→∃(d:DataW H) (ps:List MemPlace),DataW.trod enc P W 0 (fun _=>true) held fuel t c=some (d,ps))→∃x,CM (mW W) (e x) css.flatten∧ok x
theorem SH:VV P (α:=Unit) [] (fun _=>[]) (fun _=>True):=.mk fun{H enc W held} fuel css J _=>by
 have:css=[]:=xI.1 J;subst this;exact⟨(),.nil _,trivial⟩
theorem D1{α β:Type}{t:TypeId}{ts:List TypeId}{e:α→List AB}{e':β→List AB}{ok:α→Prop}{ok':β→Prop}(a:TW P t e ok)(b:VV P ts e' ok'):VV P (t::ts) (fun x:α×β=>e x.1++e' x.2) (fun x=>ok x.1∧ok' x.2):=.mk fun{H enc W held} fuel css J hd=>by
 cases css with
 |nil=>simp at J
 |cons c css=>
  obtain⟨d,ps,B⟩:=hd 0 c t rfl rfl;obtain⟨x,D,k1⟩:=a.h fuel c d ps B;obtain⟨y,hy,k2⟩:=b.h fuel css (by simpa using J) (fun i c t hd' ht'=>hd (i+1) c t (by simpa using hd') (by simpa using ht'));exact⟨(x,y),by rw[yr];exact D.app hy,k1,k2⟩
def TO(P:Program)(t:TypeId)(ts:List TypeId):Bool:=
 match P.underlying t with
 |some (.struct fs)=>Sy P fs.toList 0 (P.cellsOf t)&&(fs.toList.map (·.type)==ts)
 |_=>false
theorem bc{α β:Type}{t:TypeId}{ts:List TypeId}{e:α→List AB}{ok:α→Prop}{e':β→List AB}{ok':β→Prop}(T:TO P t ts=true)(f:α→β)(he:∀x,e' (f x)=e x)(hk:∀x,ok x→ok' (f x))(a:VV P ts e ok):TW P t e' ok':=.mk fun{H enc W held} fuel cs d ps B=>by
 unfold TO at T;split at T
 ·rename_i fs hu;simp only[zh,yM]at T;cases fuel with
  |zero=>simp[DataW.trod]at B
  | succ fuel=>
   unfold DataW.trod at B;rw[hu]at B;split at B<;>first|contradiction|cases ‹(some (_:TypeDesc))=some _›|exact absurd rfl (‹∀fs_1:Array Field,(some (TypeDesc.struct fs):Option TypeDesc)=some (TypeDesc.struct fs_1)→False› fs)
   split at B<;>try contradiction
   rename_i cs _ _ J;simp only[zl,zg]at B;obtain⟨xs,D,_⟩:=B
   obtain⟨x,h1,h2⟩:=a.h fuel (fs.toList.map fun f=>(cs.drop f.offset).take (P.cellsOf f.type)) (by rw[←T.2];simp) (fun i c t hc B=>by
    rw[←T.2]at B;rw[List.getElem?_map,zl]at hc B;obtain⟨f1,hf1,rfl⟩:=hc;obtain⟨f2,hf2,rfl⟩:=B;have:f1=f2:=zJ (hf1.symm.trans hf2);subst this;have hg:=mapM_some_get D i f1 hf1;have hi:i<xs.length:=by rw[mapM_some_length D];exact(List.getElem?_eq_some_iff.1 hf1).1
    rw[List.getElem?_eq_getElem hi]at hg
    exact⟨_,_,hg⟩)
   rw[(LJ (P:=P) fs.toList 0 cs T.1 J (yB _)).1,yl]at h1;exact⟨f x,by rw[he];exact h1,hk x h2⟩
 ·cases T
end
section
variable {H:Type} {enc:TypeId×Value→H} {P:Program} {W:World}
theorem Se{t:TypeId}{v:Value}{base:Nat}(I:Value.okWide P W .any base t v){m:BD}{cs:List AB}{a:AB}(hc:CM m cs v.cells.toList)(O:toArg P t cs=some a):VR m a v:=by
 have one:∀{w:Value},v=w→w.cells.toList=[w]→YL cs=some a→VR m a v:=by
  intro w hw hcells D;subst hw;rw[hcells]at hc;unfold YL at D;split at D
  ·injection D with D;subst D;exact hc.2 0 _ _ rfl rfl
  ·cases D
 unfold toArg at O;split at O
 ·rename_i hu;obtain⟨c,hce,_⟩:=okWide_struct hu I;subst hce;injection O with O;subst O;exact CM.agg hc
 ·rename_i hu;unfold Value.okWide at I;rw[hu]at I;obtain⟨c,hce,_⟩:=I;subst hce;injection O with O;subst O;exact CM.agg hc
 ·rename_i hu;obtain⟨b,G⟩:=okWide_bool hu I;exact one G rfl O
 ·rename_i hu;obtain⟨b,G⟩:=okWide_int hu I;exact one G rfl O
 ·rename_i hu;obtain⟨b,G⟩:=okWide_string hu I;exact one G rfl O
 ·rename_i hu;obtain⟨b,G⟩:=okWide_pointer hu I;exact one G rfl O
 ·rename_i hu;obtain⟨b,c,d,G⟩:=okWide_slice hu I;exact one G rfl O
 ·rename_i hu;obtain⟨b,G⟩:=okWide_map hu I;exact one G rfl O
 ·rename_i hu;rcases okWide_iface hu I with G|⟨u,x,G⟩
  ·exact one G rfl O
  ·exact one G rfl O
 ·cases O
theorem MW(J:laidOutB P=true){W':World}(G:Below W.heap.size W W'):∀(ts:List TypeId) (vs:List Value) (ds:List (DataW H)) (ps:List MemPlace),(∀t∈ts,P.readableRec t=true∧t<P.types.size)→
  DataW.TrodAll enc P W 0 (fun _=>true) true ts vs ds ps→(∀x∈ps,x.block<W.heap.size)→DataW.TrodAll enc P W' 0 (fun b=>decide (b<W.heap.size)) true ts vs ds ps
 |[],vs,ds,ps,_,hA,_=>by
  obtain⟨rfl,rfl,rfl⟩:=trodAll_nil hA;rfl
 |t::ts,vs,ds,ps,hr,hA,S=>by
  obtain⟨v,vs',d,ds',p,q,rfl,rfl,rfl,N,r0⟩:=trodAll_cons hA;have h1:=hr t (by simp);exact trodAll_cons_mk (Below.trod J h1.1 h1.2 N G fun x D=>S x (by simp[D])) (MW J G ts vs' ds' q (fun t B=>hr t (by simp[B])) r0 fun x D=>S x (by simp[D]))
theorem Wc {C:Gp} (hC:KM C) (Z:Bh C.Cx W) (J:laidOutB C.P=true) {f:FuncId} {fn:Func} {c:Code} (hfn:C.P.funcs[f]?=some fn) (hn:(fn.name=="runtime.NumGoroutine")=false) (G:fn.body=some c)
  (hts:∀t∈fn.params.toList,C.P.readableRec t=true∧t<C.P.types.size) {tb:TypeId} (hrt:fn.resultTypes=#[tb]) (hub:C.P.underlying tb=some .bool)
  {s:ChangeSpec} (U:s.vars=[]) {args:Array Value} {ds gs:List (DataW H)} {before:List MemPlace} (R:s.fn H (ds++[])={results:=[.lit (.bool true)],args:=ds})
  (hW:DataW.Whole enc C.P fn.params.toList s.vars false W args.toList ds gs before)
  {av:List AB} (hvs:CM (mW W) av args.toList) {h':AI} (hrun:BI C ⟨0,[]⟩ ⟨0,.leaf⟩ f av (.bool true) h'):
  Calls C.P f args W fun e W'=>∃v,e=.returned v∧s.post enc C.P fn false true false false W args v W':=by
 have hW':=hW;obtain⟨p,q,hA0,hV,rfl,hfz,hnd⟩:=hW;rw[U]at hV;have hV':gs=[]∧q=[]:=by cases gs<;>simp[DataW.TrodVars]at hV<;>simp[hV]
 obtain⟨rfl,rfl⟩:=hV';obtain⟨n,hn'⟩:=hrun;refine(Ua hC (n:=n) hn' hfn hn G Z bk hvs).mono fun e W' ⟨v',he,m',_,hr',hv'⟩=>?_;subst he;have ev:v'=.bool true:=by cases hv';rfl
 subst ev;have bel:=hr'.below;have S:∀x∈p,x.block<W.heap.size:=fun x D=>by simpa using hW'.lt x (by simpa using D)
 refine⟨_,rfl,ds,[],p++[],[],p,[],hW',?_,?_,?_,bel.frame _,fun h=>by cases h⟩
 ·rw[R,hrt];exact trodAll_mk1 (shut_bool hub _)
 ·rw[R];exact MW J bel _ _ _ _ hts hA0 S
 ·rw[R,U];rfl
theorem HH.start:HH ⟨0,[]⟩ ⟨0,.leaf⟩ [] []:=⟨fun c hc=>(by cases hc),by simp[DU],fun i hi=>(by simp[DU]at hi),fun i hi=>(by cases hi),zC _⟩
end
end Go.Av
end
/-
 A part.
-/
section
namespace Go.Av
open Go.RowKit
set_option linter.unusedVariables false
def idxOf(s:List UInt8)(c:UInt8):Int:=match(List.range s.length).find? fun i=>s[i]?==some c with|some i=>(i:Int)|none=> -1
def YK(h:AI):List AB→Option (AB×AI)
 |[.str s,.int .u8 c]=>if 0≤c∧c≤255 then some (.int .i64 (idxOf s (UInt8.ofNat c.toNat)),h)else none
 |_=>none
theorem Qu{α:Type}{p q:α→Bool}:∀(l:List α),(∀x∈l,p x=q x)→l.find? p=l.find? q
 |[],_=>rfl
 |x::l,h=>by rw[List.find?_cons,List.find?_cons,h x (by simp),Qu l fun y hy=>h y (by simp[hy])]
theorem idx_eq(s:List UInt8)(c:UInt8):((List.range (⟨⟨s⟩⟩:ByteArray).size).find? fun i=>(⟨⟨s⟩⟩:ByteArray)[i]! ==c)=(List.range s.length).find? fun i=>s[i]?==some c:=by
 refine Qu _ fun i hi=>?_;have hi:i<s.length:=by have:=zO.1 hi;exact this
 have:(⟨⟨s⟩⟩:ByteArray)[i]! =s[i]:=getElem!_pos (⟨⟨s⟩⟩:ByteArray) i hi;rw[this,List.getElem?_eq_getElem hi];rfl
def H3(s:List UInt8)(c:Int):Option Int:=if 0≤c∧c≤255 then some (idxOf s (UInt8.ofNat c.toNat))else none
end Go.Av
end
/-
 A part.
-/
section
namespace Go.Av
set_option linter.unusedVariables false
set_option linter.unusedSimpArgs false
theorem DK{x:Int}(h1: -9223372036854775808≤x)(h2:x≤9223372036854775807):IntKind.i64.wrap x=x:=by rw[IntKind.wrap_i64];omega
theorem fB{x:Int}(h1:0≤x)(h2:x≤255):IntKind.u8.wrap x=x:=by rw[IntKind.wrap_u8];omega
theorem Fc{α:Type}(p:Prop)[Decidable p](x y:Option α):AX (decide p) x y=if p then x else y:=by
 by_cases h:p<;>simp[h]
theorem Lm{α β:Type}[DecidableEq β](a b:β)(x y:Option α):AX (a==b) x y=if a=b then x else y:=by
 by_cases h:a=b<;>simp[h];have:(a==b)=false:=by simpa using h
 simp[this]
theorem Xn{α β:Type}[DecidableEq β](a b:β)(x y:Option α):AX (a !=b) x y=if a=b then y else x:=by
 by_cases h:a=b<;>simp[h];have:(a !=b)=true:=by simpa using h
 simp[this]
theorem Va(b c:Bool):AX b (some true) (some c)=some (b||c):=by cases b<;>rfl
theorem FX{s:List UInt8}{i:Nat}{b:UInt8}(h:s[i]?=some b):JQ s (i:Int)=some (b.toNat:Int):=by
 unfold JQ;rw[zm (by omega),zN,h];rfl
theorem B7{σ ρ:Type}{step:σ→Option (σ⊕ρ)}{s s':σ}(h:step s=some (.inl s')):loop step s=loop step s':=by
 by_cases D:∃r,loop step s'=some r
 ·obtain⟨r,hr⟩:=D;rw[hr];exact Q3 h hr
 ·cases J:loop step s with
  |none=>
   cases hl':loop step s' with
   |none=>rfl
   |some r=>exact absurd ⟨r,hl'⟩ D
  | some r=>
   obtain⟨n,hn⟩:=R6 J;cases n with
   |zero=>cases hn
   |succ n=>
    simp only[IN,h]at hn;exact absurd ⟨r,Rv hn⟩ D
theorem Dn{σ ρ:Type}{step:σ→Option (σ⊕ρ)}{s:σ}{r:ρ}(h:step s=some (.inr r)):loop step s=some r:=ME h
def W{α:Type}(m:Option α)(Q:α→Prop):Prop:=∃r,m=some r∧Q r
theorem W.mono{α:Type}{m:Option α}{Q Q':α→Prop}(w:W m Q)(h:∀r,Q r→Q' r):W m Q':=by obtain⟨r,e,q⟩:=w;exact⟨r,e,h r q⟩
theorem W.ret{α:Type}{x:α}{Q:α→Prop}(h:Q x):W (some x) Q:=⟨x,rfl,h⟩
theorem W.bind{α β:Type}{m:Option α}{k:α→Option β}{Q:β→Prop}(w:W m fun x=>W (k x) Q):W (m.bind k) Q:=by obtain⟨r,e,q⟩:=w;rw[e];exact q
theorem W.ite{α:Type}{b:Bool}{x y:Option α}{Q:α→Prop}(h1:b=true→W x Q)(h2:b=false→W y Q):W (AX b x y) Q:=by cases b;exact h2 rfl;exact h1 rfl
theorem W.NH{α:Type}{p:Prop}[Decidable p]{x y:Option α}{Q:α→Prop}(h1:p→W x Q)(h2:¬p→W y Q):W (AX (decide p) x y) Q:=by by_cases h:p<;>simp[h,h1,h2]
theorem W.Bn{α:Type}{b:Bool}{x:Option α}{Q:α→Prop}(h1:b=true)(h2:W x Q):W (Bn b x) Q:=by rw[h1];exact h2
theorem W.loop{σ ρ:Type}{step:σ→Option (σ⊕ρ)}{s:σ}{Q:ρ→Prop}(inv:σ→Prop)(μ:σ→Nat)(hi:inv s)
  (T:∀s,inv s→W (step s) (fun r=>match r with| .inl s'=>inv s'∧μ s'<μ s| .inr r=>Q r)):W (Av.loop step s) Q:=by
 refine Wi inv μ Q (fun s hi=>?_) s hi;obtain⟨r,e,q⟩:=T s hi;cases r with
 |inl s'=>exact .inl ⟨s',e,q⟩
 |inr r=>exact .inr ⟨r,e,q⟩
theorem W.eq{α:Type}{m:Option α}{x:α}(w:W m fun r=>r=x):m=some x:=by obtain⟨r,e,q⟩:=w;rw[e,q]
theorem bS{n:Nat}{u:Int}(h:0≤u∧u≤n):WG n none (some u)=some (0,u.toNat):=by simp only[WG];rw[zm h]
theorem bR{n:Nat}{l:Int}(h:0≤l∧l≤n):WG n (some l) none=some (l.toNat,n):=by simp only[WG];rw[zm h]
theorem Yu{n:Nat}{l u:Int}(h:0≤l∧l≤u∧u≤n):WG n (some l) (some u)=some (l.toNat,u.toNat):=by simp only[WG];rw[zm (by omega),zm (by omega)]
theorem drop_cons{α:Type}{l:List α}{i:Nat}(h:i<l.length):l.drop i=l[i]::l.drop (i+1):=zP h
theorem Da{α:Type}{l:List α}{k:Nat}{x:α}(h:l[k]?=some x):l.take (k+1)=l.take k++[x]:=by
 rw[List.take_add_one,h];rfl
theorem DP{k:Nat}(h:k<4611686018427387904):IntKind.i64.wrap ((k:Int)+1)=((k+1:Nat):Int):=by rw[DK (by omega) (by omega)];omega
theorem Rz{α:Type}{l:List α}{i:Nat}{x:α}(h:l[i]?=some x):G8 l (i:Int)=some x:=by
 unfold G8;rw[zm (by omega),zN,h]
theorem NR{s:List UInt8}{i:Nat}(h:i≤s.length):D6 s (some (i:Int)) none=some (s.drop i):=by
 unfold D6;rw[bR ⟨by omega,by omega⟩];simp only[zj,zN];rw[zI (by simp)]
theorem Ie{s:List UInt8}{i:Nat}(h:i≤s.length):D6 s none (some (i:Int))=some (s.take i):=by
 unfold D6;rw[bS ⟨by omega,by omega⟩];simp
theorem Iq{s:List UInt8}{i j:Nat}(h:i≤j)(h2:j≤s.length):D6 s (some (i:Int)) (some (j:Int))=some ((s.drop i).take (j - i)):=by
 unfold D6;rw[Yu ⟨by omega,by omega,by omega⟩];simp
theorem GZ{b n:Nat}(h:n≤1099511627776)(h2:n*b≤1099511627776):MY b n=true:=zf ⟨h,h2⟩
theorem W.list{α σ τ ρ:Type}{step:τ→Option (τ⊕ρ)}{l:List α}{Q:ρ→Prop}(enc:σ→Nat→τ)(P:σ→Nat→Prop)
  (hend:∀s,P s l.length→W (step (enc s l.length)) fun o=>match o with| .inl _=>False| .inr r=>Q r)
  (hstep:∀s i (hi:i<l.length),P s i→W (step (enc s i)) fun o=>match o with| .inl t=>∃s',t=enc s' (i+1)∧P s' (i+1)| .inr r=>Q r) (s:σ) (N:P s 0):W (Av.loop step (enc s 0)) Q:=by
 have key:∀(k i:Nat) (s:σ),i+k=l.length→P s i→W (Av.loop step (enc s i)) Q:=by
  intro k
  induction k with
  |zero=>
   intro i s hi hp;obtain rfl:i=l.length:=by omega
   obtain⟨o,e,q⟩:=hend s hp;cases o with
   |inl t=>exact q.elim
   |inr r=>exact⟨r,ME e,q⟩
  | succ k ih=>
   intro i s hi hp;obtain⟨o,e,q⟩:=hstep s i (by omega) hp;cases o with
   |inl t=>
    obtain⟨s',rfl,hp'⟩:=q;rw[B7 e];exact ih (i+1) s' (by omega) hp'
   |inr r=>exact⟨r,ME e,q⟩
 exact key l.length 0 s (by omega) N
theorem EH{α:Type}{l:List α}{i:Nat}(h:i<l.length):G8 l (i:Int)=some l[i]:=Rz (List.getElem?_eq_getElem h)
theorem GL{l:List UInt8}{i:Nat}(h:i<l.length):JQ l (i:Int)=some (l[i].toNat:Int):=FX (List.getElem?_eq_getElem h)
theorem Xa{b:UInt8}{t:List UInt8}:JQ (b::t) 0=some (b.toNat:Int):=rfl
theorem Hq{b:UInt8}{n:Nat}(hn:n<256):((b.toNat:Int)==(n:Int))=(b==UInt8.ofNat n):=by
 rw[qj,yM,yM,←UInt8.toNat_inj,UInt8.toNat_ofNat_of_lt' (by exact hn)];omega
theorem idxOf_nil(c:UInt8):idxOf [] c= -1:=rfl
theorem idxOf_cons(b:UInt8)(t:List UInt8)(c:UInt8):idxOf (b::t) c=if b=c then 0 else if idxOf t c<0 then -1 else idxOf t c+1:=by
 unfold idxOf;rw[zt,List.range_succ_eq_map,List.find?_cons];by_cases h:b=c
 ·simp[h]
 ·have h':((b::t)[0]?==some c)=false:=by simpa using h
  rw[h',zk h,List.find?_map];have e:((fun i=>(b::t)[i]?==some c)∘Nat.succ)=fun i=>t[i]?==some c:=by
   funext i;simp
  rw[e];cases hf:List.find? (fun i=>t[i]?==some c) (List.range t.length)with
  |none=>simp
  |some i=>simp;omega
theorem MG(s:List UInt8)(c:UInt8):0≤idxOf s c↔c∈s:=by
 induction s with
 |nil=>rw[idxOf_nil];simp
 | cons b t ih=>
  rw[idxOf_cons,zF];by_cases G:b=c
  ·simp[G]
  ·rw[zk G];have hb':¬c=b:=fun h=>G h.symm;simp only[hb',false_or,←ih];split<;>omega
end Go.Av
end
/-
 A part.
-/
section
namespace Go.Av
set_option linter.unusedVariables false
set_option linter.unusedSimpArgs false
structure az(P:Program)(t:TypeId){K:Type}[DecidableEq K](ek:K→AB):Prop where
 ok:∀x,Fp P 20 t (ek x)=true
 eq:∀x y,HT P 10000 t (ek x) (ek y)=some (decide (x=y))
 same:∀x,Mc (ek x) (ek x)=true
theorem O2{P:Program}{t:TypeId}{k:IntKind}(hu:P.underlying t=some (.int k)):az P t (fun n:Int=>AB.int k n):=by
 refine⟨fun x=>?_,fun x y=>?_,fun x=>by simp[Mc,PY]⟩
 ·unfold Fp;rw[hu]
 ·show HT P (9999+1) t _ _=_;unfold HT;rw[hu];simp only[if_true,zd];rw[qj];simp
section
variable {K V:Type} [DecidableEq K]
def Js:List (K×V)→K→Option V
 |[],_=>none
 |(k',v)::r,k=>if k=k' then some v else Js r k
def CS:List (K×V)→K→V→List (K×V)
 |[],k,v=>[(k,v)]
 |(k',v')::r,k,v=>if k=k' then(k,v)::r else(k',v')::CS r k v
def Uv:List (K×V)→K→List (K×V)
 |[],_=>[]
 |(k',v')::r,k=>if k=k' then r else(k',v')::Uv r k
def GH(ek:K→AB)(ev:V→AB)(m:List (K×V)):List (AB×AB):=m.map fun p=>(ek p.1,ev p.2)
variable {P:Program} {t kt et:TypeId} {ek:K→AB} {ev:V→AB} {g:Gd} {h:AI} {L F:List Ck}
theorem Pd(E:az P kt ek)(k:K)(v:V):∀(m:List (K×V)) (i:Nat),
  (Dd P kt (ek k) (GH ek ev m) i=some none∧Js m k=none∧GH ek ev (CS m k v)=GH ek ev m++[(ek k,ev v)]∧Uv m k=m)∨
  (∃j w,Dd P kt (ek k) (GH ek ev m) i=some (some (i+j,ev w))∧Js m k=some w∧(GH ek ev m)[j]?=some (ek k,ev w)∧GH ek ev (CS m k v)=(GH ek ev m).set j (ek k,ev v)∧GH ek ev (Uv m k)=(GH ek ev m).eraseIdx j)
 |[],i=>.inl ⟨rfl,rfl,rfl,rfl⟩
 | (k',v')::r,i=>by
  have e1:GH ek ev ((k',v')::r)=(ek k',ev v')::GH ek ev r:=rfl;rw[e1,Dd,E.eq];by_cases hk:k=k'
  ·subst hk;refine .inr ⟨0,v',?_,?_,rfl,?_,?_⟩
   ·simp
   ·simp[Js]
   ·simp[CS,GH]
   ·simp[Uv]
  ·rw[zi hk];rcases Pd E k v r (i+1)with⟨h1,h2,h3,h4⟩|⟨j,w,h1,h2,h3,h4,h5⟩
   ·refine .inl ⟨h1,?_,?_,?_⟩
    ·rw[Js,zk hk];exact h2
    ·rw[CS,zk hk];show(ek k',ev v')::GH ek ev (CS r k v)=_;rw[h3];rfl
    ·rw[Uv,zk hk,h4]
   ·refine .inr ⟨j+1,w,?_,?_,?_,?_,?_⟩
    ·dsimp only;rw[h1];simp;omega
    ·rw[Js,zk hk];exact h2
    ·rw[List.getElem?_cons_succ];exact h3
    ·rw[CS,zk hk];show(ek k',ev v')::GH ek ev (CS r k v)=_;rw[h4];rfl
    ·rw[Uv,zk hk];show(ek k',ev v')::GH ek ev (Uv r k)=_;rw[h5];rfl
theorem HH.O0(E:az P kt ek)(a:HH g h L F)(n:Nat){id:Nat}{m:List (K×V)}(hk:L[n]?=some (.obj id (.map 2 (GH ek ev m))))(hu:P.underlying t=some (.map kt et))(k:K)(v:V)(Z:Ig g h (ev v)=some (ev v,h):=by rfl):
  ∃h',dh P g h t (some id) (ek k) (ev v)=some h'∧HH g h' (L.set n (.obj id (.map 2 (GH ek ev (CS m k v))))) F:=by
 have hg:=a.get n hk;have hm:g.may id=true:=a.Mv hk (by simp[Ck.ids]);refine⟨h.set id (.map 2 (GH ek ev (CS m k v))),?_,a.set n _ hk⟩;unfold dh GO;rw[Z];show Ib P g h t (.map (some id)) (ek k) (ev v)=_;unfold Ib;rw[hu];simp only[E.ok,hm,and_self,if_true,hg];rcases Pd (ev:=ev) E k v m 0 with⟨h1,h2,h3,_⟩|⟨j,w,h1,h2,h3,h4,_⟩
 ·rw[h1,h3]
 ·rw[h1];simp only[yq,h3,E.same,if_true,h4]
end
end Go.Av
end
