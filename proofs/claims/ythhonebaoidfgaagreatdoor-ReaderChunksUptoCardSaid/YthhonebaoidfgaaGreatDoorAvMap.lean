/-
  Several texts in one.
-/
import Derived.Test.YthhonebaoidfgaaGreatDoorAvTy
import Derived.Carry
import Derived.WideShapes
import Derived.ChangeShapes
import Derived.OpenShut
import Derived.Test.YthhonebaoidfgaaGreatDoorRows
set_option linter.unusedSimpArgs false
/-
 A part.
-/
section
namespace Go.Av
open Go.RowKit Go.ChangeShapes Go.WideShapes
set_option linter.unusedVariables false
def W3(P:Program):List Field->Nat->Nat->Bool
 |[],o,n=>Nat.beq o n
 |f::fs,o,n=>Nat.beq f.offset o&&W3 P fs (o+P.cellsOf f.type) n
def bt:List AD->Option AD
 |[a]=>some a
 |_=>none
def toArg(P:Program)(t:TypeId)(cs:List AD):Option AD:=
 match P.underlying t with
 |some (.struct _)|some (.array _ _)=>some (.agg cs)
 |some .bool|some (.int _)|some .string|some (.pointer _)|some (.slice _)|some (.map _ _)|some (.interface _)=>bt cs
 |_=>none
def mW(W:World):Bk:=⟨λ_=>none,λg o=>match W.heap[g]? with|some (.cells cur _ _)=>cur[o]?|_=>none,λ_ _=>False⟩
section
variable {H:Type} {enc:TypeId×Value->H} {P:Program} {W:World}
theorem jF:Rel P W (mW W) ⟨0,.leaf⟩ W:=by
 refine⟨Below.refl _ _,λid E X=>by simp[mW]at X,λid E o X=>by simp[mW]at X,λid E o X=>by simp[mW]at X,λid id' E E' o o' _ X=>by simp[mW]at X,λg o v I=>?_,λid E o X=>by simp[mW]at X,λg x hg=>hg.elim,λid E o X=>by simp[mW]at X⟩;simp only[mW]at I;split at I
 ·rename_i cur e z hc;exact⟨cur,e,z,hc,I⟩
 ·cases I
theorem UX{a:Addr}{n:Nat}{cs:List Value}(hc:W.cells? 0 a n=some cs)(hn:0<n):∃cur e fz,W.heap[a.block]?=some (.cells cur e fz)/\a.spot=none/\cs.length=n/\∀j,j<n->cur[a.off+j]?=cs[j]?:=by
  obtain⟨_,M,J⟩:=World.cells?_some hc;have h0:=J 0 hn;unfold World.cell? at h0;have hadd:∀j,(a.add j).block=a.block:=λj=>by unfold Addr.add;split<;>rfl
  rw[hadd]at h0;cases G:W.heap[a.block]? with
  | none => rw[G]at h0;have:(0:Nat)<cs.length:=by omega
            rw[List.getElem?_eq_getElem this]at h0;cases h0
  | some o=>
    rw[G]at h0;cases o with
    | cells cur e fz=>
      have R:(0:Nat)<cs.length:=by omega
      have Z:a.spot=none:=by
        cases hsp:a.spot with
        |none=>rfl
        | some q=>
          have:(a.add 0).spot.isSome=true:=by simp[Addr.add,hsp]
          simp only[this,if_true]at h0;rw[List.getElem?_eq_getElem R]at h0;cases h0
      refine⟨cur,e,fz,rfl,Z,M,λj hj=>?_⟩;have h1:=J j hj;unfold World.cell? at h1;rw[hadd,G]at h1;have e1:(a.add j).spot=none:=by unfold Addr.add;split<;>simp[Z]
      have e2:(a.add j).off=a.off+j:=by unfold Addr.add;split<;>simp_all
      simpa[e1,e2]using h1
    | _=>
      have:(0:Nat)<cs.length:=by omega
      simp only at h0;rw[List.getElem?_eq_getElem this]at h0;cases h0
theorem NY{α:Type}{n:Nat}:∀(fs:List Field) (o:Nat) (l:List α),W3 P fs o n=true->l.length=n->o<=n->(fs.map λf=>(l.drop f.offset).take (P.cellsOf f.type)).flatten=l.drop o/\o<=n
 |[],o,l,h,M,ho=>by
  simp only[W3]at h;have:=zt h;exact⟨by simp[<-M,this],ho⟩
 | f::fs,o,l,h,M,ho=>by
  simp only[W3,zf]at h;have e:=zt h.1;by_cases hle:o+P.cellsOf f.type<=n
  ·have ih:=NY fs (o+P.cellsOf f.type) l h.2 M hle;refine⟨?_,ho⟩;rw[zK,yi,ih.1,e,<-qr,zI]
  ·exfalso;have mono:∀(fs:List Field) (o n:Nat),W3 P fs o n=true->o<=n:=by
    intro fs
    induction fs with
    |nil=>intro o n h;simp only[W3]at h;exact Nat.le_of_eq (zt h)
    |cons f fs ih=>intro o n h;simp only[W3,zf]at h;have:=ih _ _ h.2;omega
   exact hle (mono fs _ _ h.2)
theorem RA{α:Type}{z:Nat}(S:0<z):∀(css:List (List α)) (q:Nat),(∀c∈css,c.length=z)->css.flatten[q]?=(css[q / z]?).bind (·[q%z]?)
 |[],q,_=>by simp
 | c::css,q,h=>by
  have hc:c.length=z:=h c (by simp);rw[yi];by_cases hq:q<z
  ·rw[List.getElem?_append_left om,Nat.div_eq_of_lt hq,Nat.mod_eq_of_lt hq];rfl
  ·rw[List.getElem?_append_right om,RA S css (q - c.length) (λc' hc'=>h c' (by simp[hc'])),hc];have e1:q / z=(q - z) / z+1:=by rw[Nat.div_eq q z,zl ⟨S,by omega⟩]
   have e2:q%z=(q - z)%z:=Nat.mod_eq_sub_mod om;rw[e1,e2];rfl
theorem ZO(a:Addr)(j:Nat):(a.add j).block=a.block:=by unfold Addr.add;split<;>rfl
theorem fT(a:Addr)(j:Nat):(a.add j).off=a.off+j:=by unfold Addr.add;split<;>simp_all
theorem add_zero(a:Addr):a.add 0=a:=by simp[Addr.add]
end
section
variable {P:Program}
def Lv(k:IntKind)(x:Int):Prop:=k.min<=x/\x<=k.max
theorem eh{α:Type}{e:α->List AD}{z:Nat}(E:Me e z)(S:0<z)(xs:List α)(q:Nat):(Am e xs)[q]?=(xs[q / z]?).bind λx=>(e x)[q%z]?:=by
 have h:=RA (z:=z) S (xs.map e) q (λc hc=>by obtain⟨x,_,rfl⟩:=zZ.1 hc;exact E.len x);rw[show(xs.map e).flatten=Am e xs from by simp[Am,List.flatMap]]at h;rw[h,List.getElem?_map];cases xs[q / z]?<;>rfl
def Wa(P:Program)(t:TypeId)(ts:List TypeId):Bool:=
 match P.underlying t with
 |some (.struct fs)=>W3 P fs.toList 0 (P.cellsOf t)&&(fs.toList.map (·.type)==ts)
 |_=>false
end
section
variable {H:Type} {enc:TypeId×Value->H} {P:Program} {W:World}
theorem R9{t:TypeId}{v:Value}{base:Nat}(I:Value.okWide P W .any base t v){m:Bk}{cs:List AD}{a:AD}(hc:DD m cs v.cells.toList)(N:toArg P t cs=some a):VR m a v:=by
 have one:∀{w:Value},v=w->w.cells.toList=[w]->bt cs=some a->VR m a v:=by
  intro w hw hcells D;subst hw;rw[hcells]at hc;unfold bt at D;split at D
  ·injection D with D;subst D;exact hc.2 0 _ _ rfl rfl
  ·cases D
 unfold toArg at N;split at N
 ·rename_i hu;obtain⟨c,hce,_⟩:=okWide_struct hu I;subst hce;injection N with N;subst N;exact DD.agg hc
 ·rename_i hu;unfold Value.okWide at I;rw[hu]at I;obtain⟨c,hce,_⟩:=I;subst hce;injection N with N;subst N;exact DD.agg hc
 ·rename_i hu;obtain⟨b,G⟩:=okWide_bool hu I;exact one G rfl N
 ·rename_i hu;obtain⟨b,G⟩:=okWide_int hu I;exact one G rfl N
 ·rename_i hu;obtain⟨b,G⟩:=okWide_string hu I;exact one G rfl N
 ·rename_i hu;obtain⟨b,G⟩:=okWide_pointer hu I;exact one G rfl N
 ·rename_i hu;obtain⟨b,c,d,G⟩:=okWide_slice hu I;exact one G rfl N
 ·rename_i hu;obtain⟨b,G⟩:=okWide_map hu I;exact one G rfl N
 ·rename_i hu;rcases okWide_iface hu I with G|⟨u,x,G⟩
  ·exact one G rfl N
  ·exact one G rfl N
 ·cases N
theorem Ol(M:laidOutB P=true){W':World}(G:Below W.heap.size W W'):∀(ts:List TypeId) (vs:List Value) (ds:List (DataW H)) (ps:List MemPlace),(∀t∈ts,P.readableRec t=true/\t<P.types.size)->
  DataW.TrodAll enc P W 0 (λ_=>true) true ts vs ds ps->(∀x∈ps,x.block<W.heap.size)->DataW.TrodAll enc P W' 0 (λb=>decide (b<W.heap.size)) true ts vs ds ps
 |[],vs,ds,ps,_,hA,_=>by
  obtain⟨rfl,rfl,rfl⟩:=trodAll_nil hA;rfl
 |t::ts,vs,ds,ps,hr,hA,R=>by
  obtain⟨v,vs',d,ds',p,q,rfl,rfl,rfl,h0,r0⟩:=trodAll_cons hA;have h1:=hr t (by simp);exact trodAll_cons_mk (Below.trod M h1.1 h1.2 h0 G λx D=>R x (by simp[D])) (Ol M G ts vs' ds' q (λt B=>hr t (by simp[B])) r0 λx D=>R x (by simp[D]))
theorem Ze {C:Hv} (hC:IZ C) (S:CH C.DC W) (M:laidOutB C.P=true) {f:FuncId} {fn:Func} {c:Code} (hfn:C.P.funcs[f]?=some fn) (hn:(fn.name=="runtime.NumGoroutine")=false) (G:fn.body=some c)
  (hts:∀t∈fn.params.toList,C.P.readableRec t=true/\t<C.P.types.size) {tb:TypeId} (hrt:fn.resultTypes=#[tb]) (hub:C.P.underlying tb=some .bool)
  {s:ChangeSpec} (T:s.vars=[]) {args:Array Value} {ds gs:List (DataW H)} {before:List MemPlace} (Q:s.fn H (ds++[])={results:=[.lit (.bool true)],args:=ds})
  (hW:DataW.Whole enc C.P fn.params.toList s.vars false W args.toList ds gs before)
  {av:List AD} (hvs:DD (mW W) av args.toList) {h':AF} (hrun:Cf C ⟨0,[]⟩ ⟨0,.leaf⟩ f av (.bool true) h'):
  Calls C.P f args W λe W'=>∃v,e=.returned v/\s.post enc C.P fn false true false false W args v W':=by
 have hW':=hW;obtain⟨p,q,hA0,hV,rfl,hfz,hnd⟩:=hW;rw[T]at hV;have hV':gs=[]/\q=[]:=by cases gs<;>simp[DataW.TrodVars]at hV<;>simp[hV]
 obtain⟨rfl,rfl⟩:=hV';obtain⟨n,hn'⟩:=hrun;refine(XE hC (n:=n) hn' hfn hn G S jF hvs).mono λe W' ⟨v',he,m',_,hr',hv'⟩=>?_;subst he;have ev:v'=.bool true:=by cases hv';rfl
 subst ev;have bel:=hr'.below;have R:∀x∈p,x.block<W.heap.size:=λx D=>by simpa using hW'.lt x (by simpa using D)
 refine⟨_,rfl,ds,[],p++[],[],p,[],hW',?_,?_,?_,bel.frame _,λh=>by cases h⟩
 ·rw[Q,hrt];exact trodAll_mk1 (shut_bool hub _)
 ·rw[Q];exact Ol M bel _ _ _ _ hts hA0 R
 ·rw[Q,T];rfl
theorem HH.start:HH ⟨0,[]⟩ ⟨0,.leaf⟩ [] []:=⟨λc hc=>(by cases hc),by simp[EO],λi hi=>(by simp[EO]at hi),λi hi=>(by cases hi),zw _⟩
end
end Go.Av
end
/-
 A part.
-/
section
namespace Go.Av
open Go.Proofs.YthhonebaoidfgaaGreatDoor Go.RowKit Go.ChangeShapes Go.WideShapes
set_option linter.unusedVariables false
set_option linter.unusedSimpArgs false
namespace Bulk
theorem one_le{H:Type}(d:DataW H):1<=Rows.uptoBulk d:=by
 cases d with
 |lit l=>cases l<;>simp[Rows.uptoBulk]
 |_=>simp[Rows.uptoBulk]
theorem Rf{H:Type}{d:DataW H}:∀{l:List (DataW H)},d∈l->Rows.uptoBulk d<=Rows.uptoBulkAll l
 |[],h=>by cases h
 |x::r,h=>by
  simp only[Rows.uptoBulkAll];rcases zF.1 h with rfl|h
  ·omega
  ·have:=Rf h;omega
theorem length_le{H:Type}:∀l:List (DataW H),l.length<=Rows.uptoBulkAll l
 |[]=>by simp[Rows.uptoBulkAll]
 |x::r=>by have:=one_le x;have:=length_le r;simp only[Rows.uptoBulkAll,zG];omega
theorem bX{H:Type}(elems spare:List (DataW H)):elems.length+spare.length+1<=Rows.uptoBulk (.slice elems spare):=by
 have h1:=length_le elems;have h2:=length_le spare;simp only[Rows.uptoBulk];omega
theorem W0{H:Type}(elems spare:List (DataW H)):Rows.uptoBulkAll elems+1<=Rows.uptoBulk (.slice elems spare):=by simp only[Rows.uptoBulk];omega
theorem Sr{H:Type}{d:DataW H}{l:List (DataW H)}(h:Rows.uptoSmall H l=true)(hd:d∈l):Rows.uptoBulk d<=1048576:=z8 (Rf hd) (of_decide_eq_true h)
end Bulk
structure Uv(P:Program){α:Type}(t:TypeId)(e:α->List AD)(ok:α->Prop):Prop where
 h:∀{H:Type} {enc:TypeId×Value->H} {W:World} {held:Bool} (fuel:Nat) (cs:List Value) (d:DataW H) (ps:List MemPlace),DataW.trod enc P W 0 (λ_=>true) held fuel t cs=some (d,ps)->Rows.uptoBulk d<=1048576->∃x,DD (mW W) (e x) cs/\ok x
section
variable {P:Program}
theorem uI{t:TypeId}{k:IntKind}(hu:P.underlying t=some (.int k)):Uv P t (eI k) (Lv k):=.mk λ{H enc W held} fuel cs d ps B O=>by
 cases fuel with
 |zero=>simp[DataW.trod]at B
 | succ fuel=>
  unfold DataW.trod at B;rw[hu]at B;split at B<;>first|contradiction|cases ‹(some (_:TypeDesc))=some _›
  rename_i k2 n;split at B<;>try contradiction
  rename_i hk;refine⟨n,?_,?_⟩
  ·rw[hk.1];exact .cons (.int _ _) (.nil _)
  ·have:=hk.2;simp only[Lit.wf,zf,zy]at this;exact this
def IU(x:List UInt8):Prop:=x.length<=1048576
theorem uS{t:TypeId}(hu:P.underlying t=some .string):Uv P t eS IU:=.mk λ{H enc W held} fuel cs d ps B O=>by
 cases fuel with
 |zero=>simp[DataW.trod]at B
 |succ fuel=>
  unfold DataW.trod at B;rw[hu]at B;split at B<;>first|contradiction|cases ‹(some (_:TypeDesc))=some _›
  rename_i s;split at B<;>try contradiction
  rename_i hk;simp only[zb,ze]at B;obtain⟨rfl,_⟩:=B;simp only[Rows.uptoBulk]at O;exact⟨s.data.toList,.cons (.str _) (.nil _),by unfold IU;omega⟩
def Tb{α:Type}(ok:α->Prop)(xs:List α):Prop:=xs.length<=1048576/\∀x∈xs,ok x
theorem uL{α:Type}{t el:TypeId}{e:α->List AD}{z:Nat}{ok:α->Prop}(E:Me e z)(hu:P.underlying t=some (.slice el))(S:P.cellsOf el=z)(hz0:0<z)(a:Uv P el e ok):Uv P t (eL e) (Tb ok):=.mk λ{H enc W held} fuel cs d ps B O=>by
 cases fuel with
 |zero=>simp[DataW.trod]at B
 | succ fuel=>
  unfold DataW.trod at B;rw[hu]at B;split at B<;>first|contradiction|cases ‹(some (_:TypeDesc))=some _›
  ·exact⟨[],.cons (.L0 _ _) (.nil _),by simp,by simp⟩
  ·rename_i ad len cap;simp only at B;split at B<;>try contradiction
   rename_i G;obtain⟨elems,he,B⟩:=AJ B;have hlen:elems.length=len:=by simpa using mapM_some_length he
   rw[zk]at B;obtain⟨rest,_,B⟩:=B;simp only[ze]at B;obtain⟨rfl,_⟩:=B;have hbk:=Bulk.bX (elems.map (·.1)) (rest.map (·.1));have hbe:=Bulk.W0 (elems.map (·.1)) (rest.map (·.1));rw[yo]at hbk;have hel:∀i,i<len->∃c x,W.cells? 0 (ad.add (i*z)) z=some c/\DD (mW W) (e x) c/\ok x:=by
    intro i hi;have:=mapM_some_get he i i (by simp[hi]);rw[List.getElem?_eq_getElem om]at this;obtain⟨c,hc,h2⟩:=AJ this;rw[S]at hc;obtain⟨x,D,hk⟩:=a.h fuel c _ _ h2 (z8 (Bulk.Rf (l:=elems.map (·.1)) (zZ.2 ⟨_,zP om,rfl⟩)) om);exact⟨c,x,hc,D,hk⟩
   have hxs:∀n,n<=len->∃xs:List α,xs.length=n/\∀i x,xs[i]?=some x->ok x/\∃c,W.cells? 0 (ad.add (i*z)) z=some c/\DD (mW W) (e x) c:=by
    intro n
    induction n with
    |zero=>intro _;exact⟨[],rfl,λi x h=>by simp at h⟩
    | succ n ih=>
     intro hn;obtain⟨xs,h1,h2⟩:=ih om;obtain⟨c,x,hc,D,hk⟩:=hel n om;refine⟨xs++[x],by simp[h1],λi y Y=>?_⟩;by_cases hi:i<xs.length
     ·rw[List.getElem?_append_left hi]at Y;exact h2 i y Y
     ·have hi2:i=n:=by
       have:=(List.getElem?_eq_some_iff.1 Y).1;simp at this;omega
      subst hi2;rw[List.getElem?_append_right om,h1]at Y;simp at Y;subst Y;exact⟨hk,c,hc,D⟩
   obtain⟨xs,M,J⟩:=hxs len (zw _);refine⟨xs,.cons ?_ (.nil _),by omega,λx D=>?_⟩
   ·by_cases h0:len=0
    ·have:xs=[]:=zx om;subst this;subst h0;exact .L0 _ _
    ·obtain⟨_,c0,hc0,_⟩:=J 0 _ (List.getElem?_eq_getElem om);simp only[xL,add_zero]at hc0;obtain⟨cur,et,fz,b1,b2,b3,b4⟩:=UX hc0 hz0;have ea:ad=⟨ad.block,ad.off,none⟩:=by cases ad;simp_all
     have key:∀q v,(Am e xs)[q]?=some v->∃u,cur[ad.off+q]?=some u/\VR (mW W) v u:=by
      intro q v I;rw[eh E hz0]at I;obtain⟨x,D,I⟩:=AJ I;obtain⟨_,c,hc,hvr⟩:=J _ x D;obtain⟨cur',et',fz',d1,d2,d3,d4⟩:=UX hc hz0;rw[ZO]at d1;rw[b1]at d1;injection d1 with d1;injection d1 with d1;subst d1;obtain⟨u,U,hvu⟩:=hvr.at_ I;refine⟨u,?_,hvu⟩;have hm:=d4 (q%z) (xx _ hz0);rw[fT]at hm;have ej:q / z*z+q%z=q:=by rw[qU];exact Nat.div_add_mod _ _
      rw[yG,ej]at hm;rw[hm];exact U
     rw[ea,<-M];refine .Im xs.length cap ad.block ad.off (Am e xs) (λi=>(cur[ad.off+i]?).getD undef) om (λi hi=>?_) (λi x D=>?_)
     ·obtain⟨u,U,_⟩:=key i _ (List.getElem?_eq_getElem hi);simp only[mW,b1,U,zV]
     ·obtain⟨u,U,hvu⟩:=key i x D;rw[U];exact hvu
   ·obtain⟨i,hi,rfl⟩:=yS D;exact(J i _ (List.getElem?_eq_getElem hi)).1
structure YL(P:Program){α:Type}(ts:List TypeId)(e:α->List AD)(ok:α->Prop):Prop where
 h:∀{H:Type} {enc:TypeId×Value->H} {W:World} {held:Bool} (fuel:Nat) (css:List (List Value)),css.length=ts.length->(∀(i:Nat) c t,css[i]?=some c->ts[i]?=some t->∃(d:DataW H) (ps:List MemPlace),DataW.trod enc P W 0 (λ_=>true) held fuel t c=some (d,ps)/\Rows.uptoBulk d<=1048576)->∃x,DD (mW W) (e x) css.flatten/\ok x
theorem cu:YL P (α:=Unit) [] (λ_=>[]) (λ_=>True):=.mk λ{H enc W held} fuel css M _=>by
 have:css=[]:=qQ.1 M;subst this;exact⟨(),.nil _,trivial⟩
theorem HG{α β:Type}{t:TypeId}{ts:List TypeId}{e:α->List AD}{e':β->List AD}{ok:α->Prop}{ok':β->Prop}(a:Uv P t e ok)(b:YL P ts e' ok'):YL P (t::ts) (λx:α×β=>e x.1++e' x.2) (λx=>ok x.1/\ok' x.2):=.mk λ{H enc W held} fuel css M hd=>by
 cases css with
 |nil=>simp at M
 |cons c css=>
  obtain⟨d,ps,B,O⟩:=hd 0 c t rfl rfl;obtain⟨x,D,k1⟩:=a.h fuel c d ps B O;obtain⟨y,Y,k2⟩:=b.h fuel css (by simpa using M) (λi c t hd' ht'=>hd (i+1) c t (by simpa using hd') (by simpa using ht'));exact⟨(x,y),by rw[yi];exact D.app Y,k1,k2⟩
theorem uR{α β:Type}{t:TypeId}{ts:List TypeId}{e:α->List AD}{ok:α->Prop}{e':β->List AD}{ok':β->Prop}(Z:Wa P t ts=true)(f:α->β)(he:∀x,e' (f x)=e x)(hk:∀x,ok x->ok' (f x))(a:YL P ts e ok):Uv P t e' ok':=.mk λ{H enc W held} fuel cs d ps B O=>by
 unfold Wa at Z;split at Z
 ·rename_i fs hu;simp only[zf,yN]at Z;cases fuel with
  |zero=>simp[DataW.trod]at B
  | succ fuel=>
   unfold DataW.trod at B;rw[hu]at B;split at B<;>first|contradiction|cases ‹(some (_:TypeDesc))=some _›|exact absurd rfl (‹∀fs_1:Array Field,(some (TypeDesc.struct fs):Option TypeDesc)=some (TypeDesc.struct fs_1)->False› fs)
   split at B<;>try contradiction
   rename_i cs _ _ M;simp only[zk,ze]at B;obtain⟨xs,D,rfl,_⟩:=B;have hbp:Rows.uptoBulkAll (xs.map (·.1))+1<=1048576:=by simpa only[Rows.uptoBulk]using O
   obtain⟨x,h1,h2⟩:=a.h fuel (fs.toList.map λf=>(cs.drop f.offset).take (P.cellsOf f.type)) (by rw[<-Z.2];simp) (λi c t hc B=>by
    rw[<-Z.2]at B;rw[List.getElem?_map,zk]at hc B;obtain⟨f1,hf1,rfl⟩:=hc;obtain⟨f2,hf2,rfl⟩:=B;have:f1=f2:=zJ (hf1.symm.trans hf2);subst this;have hg:=mapM_some_get D i f1 hf1;have hi:i<xs.length:=by rw[mapM_some_length D];exact(List.getElem?_eq_some_iff.1 hf1).1
    rw[List.getElem?_eq_getElem hi]at hg
    exact⟨_,_,hg,z8 (Bulk.Rf (l:=xs.map (·.1)) (zZ.2 ⟨_,zP om,rfl⟩)) om⟩)
   rw[(NY (P:=P) fs.toList 0 cs Z.1 M (yf _)).1,yn]at h1;exact⟨f x,by rw[he];exact h1,hk x h2⟩
 ·cases Z
end
end Go.Av
end
/-
 A part.
-/
section
namespace Go.Av
open Go.RowKit
set_option linter.unusedVariables false
def idxOf(s:List UInt8)(c:UInt8):Int:=match(List.range s.length).find? λi=>s[i]?==some c with|some i=>(i:Int)|none=> -1
def bj(h:AF):List AD->Option (AD×AF)
 |[.str s,.int .u8 c]=>if 0<=c/\c<=255 then some (.int .i64 (idxOf s (UInt8.ofNat c.toNat)),h)else none
 |_=>none
theorem UU{α:Type}{p q:α->Bool}:∀(l:List α),(∀x∈l,p x=q x)->l.find? p=l.find? q
 |[],_=>rfl
 |x::l,h=>by rw[List.find?_cons,List.find?_cons,h x (by simp),UU l λy Y=>h y (by simp[Y])]
theorem idx_eq(s:List UInt8)(c:UInt8):((List.range (⟨⟨s⟩⟩:ByteArray).size).find? λi=>(⟨⟨s⟩⟩:ByteArray)[i]! ==c)=(List.range s.length).find? λi=>s[i]?==some c:=by
 refine UU _ λi hi=>?_;have hi:i<s.length:=by have:=zO.1 hi;exact this
 have:(⟨⟨s⟩⟩:ByteArray)[i]! =s[i]:=getElem!_pos (⟨⟨s⟩⟩:ByteArray) i hi;rw[this,List.getElem?_eq_getElem hi];rfl
def HQ(s:List UInt8)(c:Int):Option Int:=if 0<=c/\c<=255 then some (idxOf s (UInt8.ofNat c.toNat))else none
end Go.Av
end
/-
 A part.
-/
section
namespace Go.Av
set_option linter.unusedVariables false
set_option linter.unusedSimpArgs false
structure cd(P:Program)(t:TypeId){K:Type}[DecidableEq K](ek:K->AD):Prop where
 ok:∀x,Gy P 20 t (ek x)=true
 eq:∀x y,Il P 10000 t (ek x) (ek y)=some (decide (x=y))
 same:∀x,Nn (ek x) (ek x)=true
theorem jG{P:Program}{t:TypeId}(hu:P.underlying t=some .string):cd P t (λs:List UInt8=>AD.str s):=by
 refine⟨λx=>?_,λx y=>?_,λx=>by simp[Nn,Qr]⟩
 ·unfold Gy;rw[hu]
 ·show Il P (9999+1) t _ _=_;unfold Il;rw[hu];simp only[zb];rw[qZ];simp
theorem RL{P:Program}{t:TypeId}{k:IntKind}(hu:P.underlying t=some (.int k)):cd P t (λn:Int=>AD.int k n):=by
 refine⟨λx=>?_,λx y=>?_,λx=>by simp[Nn,Qr]⟩
 ·unfold Gy;rw[hu]
 ·show Il P (9999+1) t _ _=_;unfold Il;rw[hu];simp only[if_true,zb];rw[qZ];simp
section
variable {K V:Type} [DecidableEq K]
def Eh:List (K×V)->K->Option V
 |[],_=>none
 |(k',v)::r,k=>if k=k' then some v else Eh r k
def Cz:List (K×V)->K->V->List (K×V)
 |[],k,v=>[(k,v)]
 |(k',v')::r,k,v=>if k=k' then(k,v)::r else(k',v')::Cz r k v
def Xj:List (K×V)->K->List (K×V)
 |[],_=>[]
 |(k',v')::r,k=>if k=k' then r else(k',v')::Xj r k
def Fl(ek:K->AD)(ev:V->AD)(m:List (K×V)):List (AD×AD):=m.map λp=>(ek p.1,ev p.2)
variable {P:Program} {t kt et:TypeId} {ek:K->AD} {ev:V->AD} {g:Gd} {h:AF} {L F:List Ck}
theorem PC(E:cd P kt ek)(k:K)(v:V):∀(m:List (K×V)) (i:Nat),
  (EL P kt (ek k) (Fl ek ev m) i=some none/\Eh m k=none/\Fl ek ev (Cz m k v)=Fl ek ev m++[(ek k,ev v)]/\Xj m k=m)\/
  (∃j w,EL P kt (ek k) (Fl ek ev m) i=some (some (i+j,ev w))/\Eh m k=some w/\(Fl ek ev m)[j]?=some (ek k,ev w)/\Fl ek ev (Cz m k v)=(Fl ek ev m).set j (ek k,ev v)/\Fl ek ev (Xj m k)=(Fl ek ev m).eraseIdx j)
 |[],i=>.inl ⟨rfl,rfl,rfl,rfl⟩
 | (k',v')::r,i=>by
  have e1:Fl ek ev ((k',v')::r)=(ek k',ev v')::Fl ek ev r:=rfl;rw[e1,EL,E.eq];by_cases hk:k=k'
  ·subst hk;refine .inr ⟨0,v',?_,?_,rfl,?_,?_⟩
   ·simp
   ·simp[Eh]
   ·simp[Cz,Fl]
   ·simp[Xj]
  ·rw[zm hk];rcases PC E k v r (i+1)with⟨h1,h2,h3,h4⟩|⟨j,w,h1,h2,h3,h4,h5⟩
   ·refine .inl ⟨h1,?_,?_,?_⟩
    ·rw[Eh,zj hk];exact h2
    ·rw[Cz,zj hk];show(ek k',ev v')::Fl ek ev (Cz r k v)=_;rw[h3];rfl
    ·rw[Xj,zj hk,h4]
   ·refine .inr ⟨j+1,w,?_,?_,?_,?_,?_⟩
    ·dsimp only;rw[h1];simp;omega
    ·rw[Eh,zj hk];exact h2
    ·rw[List.getElem?_cons_succ];exact h3
    ·rw[Cz,zj hk];show(ek k',ev v')::Fl ek ev (Cz r k v)=_;rw[h4];rfl
    ·rw[Xj,zj hk];show(ek k',ev v')::Fl ek ev (Xj r k)=_;rw[h5];rfl
theorem HH.gQ(E:cd P kt ek)(a:HH g h L F)(n:Nat){id:Nat}{m:List (K×V)}(hk:L[n]?=some (.obj id (.map 2 (Fl ek ev m))))(hu:P.underlying t=some (.map kt et)){z:V}(S:Is P et=some (ev z))(k:K):
  dM P h t (some id) (ek k)=some (ev ((Eh m k).getD z),(Eh m k).isSome):=by
 have hg:=a.get n hk;unfold dM;rw[hu];simp only[E.ok,if_true,jP,hg];rw[zl (by decide)];dsimp only;rcases PC (ev:=ev) E k z m 0 with⟨h1,h2,_,_⟩|⟨j,w,h1,h2,_,_,_⟩
 ·rw[h1,h2];simp[S]
 ·rw[h1,h2];rfl
theorem HH.Qj(E:cd P kt ek)(a:HH g h L F)(n:Nat){id:Nat}{m:List (K×V)}(hk:L[n]?=some (.obj id (.map 2 (Fl ek ev m))))(hu:P.underlying t=some (.map kt et))(k:K)(v:V)(S:KG g h (ev v)=some (ev v,h):=by rfl):
  ∃h',kg P g h t (some id) (ek k) (ev v)=some h'/\HH g h' (L.set n (.obj id (.map 2 (Fl ek ev (Cz m k v))))) F:=by
 have hg:=a.get n hk;have hm:g.may id=true:=a.OP hk (by simp[Ck.ids]);refine⟨h.set id (.map 2 (Fl ek ev (Cz m k v))),?_,a.set n _ hk⟩;unfold kg Ho;rw[S];show J8 P g h t (.map (some id)) (ek k) (ev v)=_;unfold J8;rw[hu];simp only[E.ok,hm,and_self,if_true,hg];rcases PC (ev:=ev) E k v m 0 with⟨h1,h2,h3,_⟩|⟨j,w,h1,h2,h3,h4,_⟩
 ·rw[h1,h3]
 ·rw[h1];simp only[yz,h3,E.same,if_true,h4]
end
end Go.Av
end
