/-
  Several texts in one.
-/
import Derived.Test.YtgkbpgefomapgaaGreatDoorDfaB
/-
 A part.
-/
section
namespace Go.Av.L
open Go.Av Go.Lib
set_option linter.unusedVariables false
set_option linter.unusedSimpArgs false
def Ke(l:List AX)(fr bk:Bool)(i:Int):List Int:=
 match l[i.toNat]? with
 |some x=>if x.C7=2 then[x.a_,x.b_]else if(x.C7=3/\fr=true)\/(x.C7=4/\bk=true)then[x.a_]else[]
 |none=>[]
inductive Rh(l:List AX)(fr bk:Bool)(from_:List Int):Int->Prop
 |base {i:Int}:i∈from_->Rh l fr bk from_ i
 |step {i j:Int}:Rh l fr bk from_ i->j∈Ke l fr bk i->Rh l fr bk from_ j
def T8(n:Nat)(i:Int):Prop:=0<=i/\i<n
theorem Tl{t:AO}{l:List AX}(h:PT t l){fr bk:Bool}{i j:Int}(B:j∈Ke l fr bk i):T8 l.length j:=by
 unfold Ke at B;split at B
 ·rename_i x F;have G:=h.st x (zI F);split at B
  ·rcases zT.1 B with rfl|B
   ·exact G.a
   ·obtain rfl:=zH.1 B;exact G.b
  ·split at B
   ·obtain rfl:=zH.1 B;exact G.a
   ·cases B
 ·cases B
theorem Rh.in{t:AO}{l:List AX}(h:PT t l){fr bk:Bool}{f:List Int}(I:∀i∈f,T8 l.length i){j:Int}(B:Rh l fr bk f j):T8 l.length j:=by
 cases B with
 |base h=>exact I _ h
 |step _ E=>exact Tl h E
theorem Rw(l:List AX)(fr bk:Bool)(i:Int):(Ke l fr bk i).length<=2:=by
 unfold Ke;split
 ·split
  ·simp
  ·split<;>simp
 ·simp
theorem VB{l:List AX}{fr bk fr' bk':Bool}(h1:fr=true->fr'=true)(E:bk=true->bk'=true){i j:Int}(h:j∈Ke l fr bk i):j∈Ke l fr' bk' i:=by
 unfold Ke at h⊢;split at h
 ·split at h
  ·rename_i K;rw[zk K];exact h
  ·rename_i K;split at h
   ·rename_i hc;rw[zm K,zk (hc.imp (λh=>⟨h.1,h1 h.2⟩) λh=>⟨h.1,E h.2⟩)];exact h
   ·cases h
 ·cases h
theorem Rh.mono{l:List AX}{fr bk fr' bk':Bool}(h1:fr=true->fr'=true)(E:bk=true->bk'=true){f:List Int}{j:Int}(h:Rh l fr bk f j):Rh l fr' bk' f j:=by
 induction h with
 |base h=>exact .base h
 |step _ J ih=>exact .step ih (VB h1 E J)
open Classical in
noncomputable def cl(l:List AX)(fr bk:Bool)(f:List Int):List Int:=((List.range l.length).filter λi:Nat=>decide (Rh l fr bk f (i:Int))).map λi:Nat=>(i:Int)
theorem Ui{t:AO}{l:List AX}(h:PT t l){fr bk:Bool}{f:List Int}(I:∀i∈f,T8 l.length i){j:Int}:j∈cl l fr bk f↔Rh l fr bk f j:=by
 unfold cl;simp only[z7,yH,yw,zx];constructor
 ·rintro⟨i,⟨_,E⟩,rfl⟩;exact E
 ·intro B;obtain⟨h1,E⟩:=B.in h I;obtain⟨k,rfl⟩:=zn h1;exact⟨k,⟨by omega,B⟩,rfl⟩
theorem aF{l:List AX}{fr bk:Bool}{f:List Int}:∀j∈cl l fr bk f,T8 l.length j:=by
 intro j B;unfold cl at B;simp only[z7,yH,yw]at B;obtain⟨i,⟨h1,_⟩,rfl⟩:=B;exact⟨by omega,by omega⟩
theorem ZS{l:List AX}{fr bk:Bool}{f:List Int}:(cl l fr bk f).length<=l.length:=by
 unfold cl;rw[yq];exact zV (yM _ _) (by simp)
open Classical in
theorem Xs{l:List AX}{fr bk fr' bk':Bool}{f f':List Int}(h:∀j,Rh l fr bk f j↔Rh l fr' bk' f' j):cl l fr bk f=cl l fr' bk' f':=by
 unfold cl;congr 1;refine List.filter_congr λi _=>?_;by_cases D:Rh l fr bk f (i:Int)
 ·rw[zi D,zi ((h _).1 D)]
 ·rw[zh D,zh (λe=>D ((h _).2 e))]
theorem UY{l:List AX}{fr bk:Bool}:cl l fr bk []=[]:=by
 have:∀j,¬Rh l fr bk [] j:=by
  intro j B
  induction B with
  |base h=>cases h
  |step _ _ ih=>exact ih
 unfold cl;rw[List.map_eq_nil_iff,qN];intro i _;simp[this]
def QL(l:List Bool):Nat:=(l.filter λb=> !b).length
theorem Qj:∀(l:List Bool) (i:Nat),l[i]?=some false->QL (l.set i true)+1=QL l
 |[],i,h=>by simp at h
 |b::l,0,h=>by
  simp at h;subst h;simp[QL]
 |b::l,i+1,h=>by
  have ih:=Qj l i (by simpa using h);unfold QL at ih⊢;rw[List.set_cons_succ];cases b
  ·simp only[qz,qk,if_true,zD];omega
  ·simpa using ih
structure CI(l:List AX)(fr bk:Bool)(f todo:List Int)(inn:List Bool):Prop where
 len:inn.length=l.length
 bw:∀i:Nat,inn[i]?=some true->Rh l fr bk f i
 bH:∀i∈todo,Rh l fr bk f i
 bN:∀i∈f,i∈todo\/inn[i.toNat]?=some true
 step:∀i:Nat,inn[i]?=some true->∀j∈Ke l fr bk i,j∈todo\/inn[j.toNat]?=some true
 room:todo.length+2*QL inn<=f.length+2*l.length
theorem CI.mark{t:AO}{l:List AX}(h:PT t l){fr bk:Bool}{f todo:List Int}(I:∀i∈f,T8 l.length i){inn:List Bool}{k:Nat}(c:CI l fr bk f (todo++[(k:Int)]) inn)(K:inn[k]?=some false):
  CI l fr bk f (todo++Ke l fr bk k) (inn.set k true):=by
 have H:k<inn.length:=(List.getElem?_eq_some_iff.1 K).1;have keep:∀{j:Nat},inn[j]?=some true->(inn.set k true)[j]?=some true:=by
  intro j B;by_cases e:k=j
  ·subst e;rw[List.getElem?_set_self H]
  ·rw[List.getElem?_set_ne e];exact B
 have lift:∀{j:Int},T8 l.length j->j∈todo++[(k:Int)]\/inn[j.toNat]?=some true->j∈todo++Ke l fr bk k\/(inn.set k true)[j.toNat]?=some true:=by
  intro j D B;rcases B with B|B
  ·rcases zp.1 B with B|B
   ·exact .inl (List.mem_append_left _ B)
   ·obtain rfl:=zH.1 B;right;rw[zl,List.getElem?_set_self H]
  ·exact .inr (keep B)
 have rk:Rh l fr bk f k:=c.bH _ (by simp);refine⟨by rw[zr];exact c.len,?_,?_,λi hi=>lift (I i hi) (c.bN i hi),?_,?_⟩
 ·intro i hi;by_cases e:k=i
  ·subst e;exact rk
  ·rw[List.getElem?_set_ne e]at hi;exact c.bw i hi
 ·intro i hi;rcases zp.1 hi with hi|hi
  ·exact c.bH i (by simp[hi])
  ·exact .step rk hi
 ·intro i hi j B;by_cases e:k=i
  ·subst e;exact .inl (qQ _ B)
  ·rw[List.getElem?_set_ne e]at hi;exact lift (Tl h B) (c.step i hi j B)
 ·have:=c.room;have h1:=Qj inn k K;have E:=Rw l fr bk k;simp only[zq,zy]at this⊢;omega
theorem CI.skip{l:List AX}{fr bk:Bool}{f todo:List Int}{inn:List Bool}{k:Nat}(c:CI l fr bk f (todo++[(k:Int)]) inn)(K:inn[k]?=some true):CI l fr bk f todo inn:=by
 have lift:∀{j:Int},j∈todo++[(k:Int)]\/inn[j.toNat]?=some true->j∈todo\/inn[j.toNat]?=some true:=by
  intro j B;rcases B with B|B
  ·rcases zp.1 B with B|B
   ·exact .inl B
   ·obtain rfl:=zH.1 B;exact .inr (by rw[zl];exact K)
  ·exact .inr B
 refine⟨c.len,c.bw,λi hi=>c.bH i (by simp[hi]),λi hi=>lift (c.bN i hi),λi hi j B=>lift (c.step i hi j B),?_⟩;have:=c.room;simp only[zq,zy]at this;omega
theorem CI.fin{t:AO}{l:List AX}(h:PT t l){fr bk:Bool}{f:List Int}{inn:List Bool}(I:∀i∈f,T8 l.length i)(c:CI l fr bk f [] inn)(i:Nat):inn[i]?=some true↔Rh l fr bk f i:=by
 refine⟨c.bw i,λD=>?_⟩;have:∀j:Int,Rh l fr bk f j->inn[j.toNat]?=some true:=by
  intro j B
  induction B with
  |base h=>exact(c.bN _ h).resolve_left (by simp)
  |@step i j hi J ih=>
   obtain⟨k,rfl⟩:=zn (hi.in h I).1;rw[zl]at ih;exact(c.step k ih j J).resolve_left (by simp)
 have:=this i D;rwa [zl]at this
theorem YW{α:Type}:∀{l:List α},0<l.length->∃m x,l=m++[x]
 |[],h=>by simp at h
 |a::l,_=>⟨(a::l).dropLast,(a::l).getLast (by simp),(yR (by simp)).symm⟩
open Classical in
theorem QD{t:AO}{a:Ay}(h:PT t a.l_){f:List Int}(I:∀i∈f,T8 a.l_.length i)(T:f.length<=4096)(fr bk:Bool):Cv a f fr bk=some (cl a.l_ fr bk f):=by
 refine W.eq ?_;unfold Cv;have hle:=h.le;refine Ce (by unfold YD;exact zi ⟨by omega,by omega,by omega⟩) (Ce (DL (by omega) (by omega)) ?_);refine AJ (W.mono (Q:=λinn=>CI a.l_ fr bk f [] inn) (W.loop (λs=>CI a.l_ fr bk f s.1 s.2) (λs=>s.1.length+3*QL s.2) ?_ ?_) λinn c=>?_)
 ·have er:∀i:Nat,(List.replicate a.l_.length false)[i]?≠some true:=by
   intro i hi;rw[List.getElem?_replicate]at hi;split at hi<;>simp at hi
  have e:((a.l_.length:Nat):Int).toNat=a.l_.length:=zl _;simp only[e];refine⟨by simp,λi hi=>absurd hi (er i),λi hi=>.base hi,λi hi=>.inl hi,λi hi=>absurd hi (er i),?_⟩;have:QL (List.replicate a.l_.length false)=a.l_.length:=by simp[QL]
  omega
 ·rintro⟨todo,inn⟩ c;unfold Fi;refine Be (λO=>?_) λO=>AB ?_
  ·obtain⟨td,x,rfl⟩:=YW (l:=todo) (by omega);have F:=(c.bH x (by simp)).in h I;obtain⟨k,rfl⟩:=zn F.1;have K:k<inn.length:=by rw[c.len];have:=F.2;omega
   have H:k<a.l_.length:=by have:=F.2;omega
   have c1:CI a.l_ fr bk f (td++[(k:Int)]) inn:=c;have hroom:=c1.room;have hcf:QL inn<=inn.length:=yM _ _;rw[zq,zy]at hroom;have el:IntKind.i64.wrap (((td++[(k:Int)]).length:Int) - 1)=(td.length:Int):=by rw[zq,zy,Ht (by omega) (by omega)];omega
   simp only[Int.ofNat_eq_natCast]at *;rw[el];have e1:FT (td++[(k:Int)]) (td.length:Int)=some (k:Int):=G4 (by rw[List.getElem?_append_right (zo _),yy];rfl);have e2:RN (td++[(k:Int)]) none (some (td.length:Int))=some td:=by rw[VS (by simp)];simp
   rw[e1,za,e2,za,CR K,za];refine Am (λC=>AB ⟨c1.skip (by rw[List.getElem?_eq_getElem K,C]),by simp only[zq,zy];omega⟩) λC=>?_;have U:inn[k]?=some false:=by rw[List.getElem?_eq_getElem K,C]
   have cm:=c1.mark h I U;have hct:=Qj inn k U;have hsn:=Rw a.l_ fr bk k;have en:Ke a.l_ fr bk k=if a.l_[k].C7=2 then[a.l_[k].a_,a.l_[k].b_]else if(a.l_[k].C7=3/\fr=true)\/(a.l_[k].C7=4/\bk=true)then[a.l_[k].a_]else[]:=by
    unfold Ke;rw[zl,List.getElem?_eq_getElem H]
   have fin:∀ns,Ke a.l_ fr bk k=ns->CI a.l_ fr bk f (td++ns) (inn.set (k:Int).toNat true)/\(td++ns).length+3*QL (inn.set (k:Int).toNat true)<(td++[(k:Int)]).length+3*QL inn:=by
    rintro ns rfl;rw[zl];refine⟨cm,?_⟩;simp only[zq,zy];omega
   rw[za,CR H,za,CO];generalize a.l_[k]=x8 at en⊢;split
   ·rename_i R;rw[zk R]at en;exact Ce (DL (by simp;omega) (by simp;omega)) (AB (fin _ en))
   ·rename_i R;rw[zm R]at en;refine AJ (W.mono (Q:=λb=>b=decide ((x8.C7=3/\fr=true)\/(x8.C7=4/\bk=true))) (Am (λC=>AB ?_) λC=>AB ?_) λb C=>?_)
    ·simp only[zj,yu]at C;simp[C]
    ·by_cases X:x8.C7=4
     ·have:x8.C7≠3:=by omega
      simp[X]
     ·by_cases V:x8.C7=3
      ·simp[V]at C⊢;exact C
      ·simp[V,X]
    ·subst C;refine Be (λhc=>?_) λhc=>?_
     ·rw[zk hc]at en;exact Ce (DL (by simp;omega) (by simp;omega)) (AB (fin _ en))
     ·rw[zm hc]at en;have:=fin _ en;rw[yr]at this;exact AB this
  ·have:todo=[]:=zt (by omega);subst this;exact c
 ·refine AJ (W.mono (W.loop (λs=>∃i:Nat,s.2=(i:Int)/\i<=inn.length/\s.1=((List.range i).filter λj:Nat=>(inn[j]?).getD false).map λj:Nat=>(j:Int)) (λs=>(inn.length - s.2).toNat) ⟨0,rfl,zS _,rfl⟩ ?_ (Q:=λr=>r=((List.range inn.length).filter λj:Nat=>(inn[j]?).getD false).map λj:Nat=>(j:Int))) λr D=>AB ?_)
  ·rintro⟨out,x⟩ ⟨i,hi,h1,E⟩;simp only at hi E;subst hi;have hlen:=c.len;unfold Fh;refine Be (λC=>?_) λC=>AB ?_
   ·have hi:i<inn.length:=by omega
    rw[CR hi,show IntKind.i64.wrap ((i:Int)+1)=((i+1:Nat):Int) from Ee (by omega)];have hol:out.length<=i:=by rw[E,yq];exact zV (yM _ _) (by simp)
    have next:∀o,o=((List.range (i+1)).filter λj:Nat=>(inn[j]?).getD false).map (λj:Nat=>(j:Int))->(∃i':Nat,((i+1:Nat):Int)=(i':Int)/\i'<=inn.length/\o=((List.range i').filter λj:Nat=>(inn[j]?).getD false).map λj:Nat=>(j:Int))/\((inn.length:Int) - ((i+1:Nat):Int)).toNat<((inn.length:Int) - (i:Int)).toNat:=λo M=>⟨⟨i+1,rfl,hi,M⟩,by omega⟩
    refine AJ (AJ (AB (Am (λC=>Ce (DL (by simp;omega) (by simp;omega)) (AB (AB (next _ ?_)))) λC=>AB (AB (next _ ?_)))))
    ·rw[qJ,qu,yp,<-E];simp[List.getElem?_eq_getElem hi,C]
    ·rw[qJ,qu,yp,<-E];simp[List.getElem?_eq_getElem hi,C]
   ·obtain rfl:i=inn.length:=by omega
    exact E
  ·rw[D,c.len];unfold cl;congr 1;refine List.filter_congr λi hi=>?_;have hi:i<inn.length:=by rw[c.len];exact yw.1 hi
   have:=c.fin h I i;rw[List.getElem?_eq_getElem hi]at this⊢;simp only[yb];by_cases D:Rh a.l_ fr bk f (i:Int)
   ·have:=this.2 D;simp only[zd]at this;rw[this,zi D]
   ·have E:inn[i]≠true:=λe=>D (this.1 (by rw[e]));rw[zh D];simpa using E
theorem WK{t:AO}{a:Ay}(h:PT t a.l_){f:List Int}(I:∀i∈f,T8 a.l_.length i)(T:f.length<=4096)(fr bk:Bool):GH a f fr bk=some (cl a.l_ fr bk f):=by
 have e:GH a f fr bk=Cv a f fr bk:=rfl;rw[e];exact QD h I T fr bk
end Go.Av.L
end
/-
 A part.
-/
section
namespace Go.Av.L
open Go.Av Go.Lib
set_option linter.unusedVariables false
set_option linter.unusedSimpArgs false
structure Zt(l:List AX)(s:List Int):Prop where
 i:∀j∈s,T8 l.length j
 n:s.length<=4096
theorem TV{t:AO}{l:List AX}(h:PT t l){fr bk:Bool}{f:List Int}:Zt l (cl l fr bk f):=⟨aF,zV ZS h.le⟩
theorem QO{t:AO}{a:Ay}(h:bo t a)(fr:Bool):EV a fr=some (cl a.l_ fr false [a.AY]):=by
 unfold EV;rw[QD h.l (by intro i hi;obtain rfl:=zH.1 hi;exact h.first) (by simp)];rfl
noncomputable def N1(l:List AX)(b:Int)(i:Int):List Int:=
 match l[i.toNat]? with
 |some x=>if x.C7=1/\PN x.Cq b=true then[x.a_]else[]
 |none=>[]
noncomputable def Xv(l:List AX)(s:List Int)(b:Int):List Int:=cl l false false (s.flatMap (N1 l b))
theorem Xq(l:List AX)(b i:Int):(N1 l b i).length<=1:=by
 unfold N1;split
 ·split<;>simp
 ·simp
theorem Qp(l:List AX)(b:Int):∀s:List Int,(s.flatMap (N1 l b)).length<=s.length
 |[]=>by simp
 |i::s=>by
  rw[ya,zq,zD];have:=Qp l b s;have:=Xq l b i;omega
theorem step_ok{t:AO}{a:Ay}(h:PT t a.l_){s:List Int}(G:Zt a.l_ s){b:Int}(C:0<=b/\b<=255):Fv a s b=some (Xv a.l_ s b):=by
 refine W.eq ?_;unfold Fv;have J:=G.n;refine AJ (W.mono (W.list (l:=s) (λ(o:List Int) (i:Nat)=>(o,(i:Int))) (λo i=>o=(s.take i).flatMap (N1 a.l_ b)) ?_ ?_ [] (by simp) (Q:=λr=>r=s.flatMap (N1 a.l_ b))) λr D=>?_)
 ·intro o M;unfold Gg;refine Be (λh=>by omega) λ_=>AB ?_;simpa using M
 ·intro o i hi M;unfold Gg;refine Be (λ_=>?_) λh=>by omega
  rw[CR hi];obtain⟨k,K⟩:=zn (G.i _ (zX hi)).1;have H:k<a.l_.length:=by have:=(G.i _ (zX hi)).2;omega
  have ol:o.length<=i:=by rw[M];exact zV (Qp _ _ _) (by rw[zP];omega)
  have en:∀u,o++u=o++N1 a.l_ b s[i]->∃s',(o++u,IntKind.i64.wrap ((i:Int)+1))=(s',((i+1:Nat):Int))/\s'=(s.take (i+1)).flatMap (N1 a.l_ b):=by
   intro u hu;refine⟨_,by rw[Ee (by omega)],?_⟩;rw[HG (List.getElem?_eq_getElem hi),List.flatMap_append,<-M,hu];simp
  have e1:N1 a.l_ b s[i]=if a.l_[k].C7=1/\PN a.l_[k].Cq b=true then[a.l_[k].a_]else[]:=by
   unfold N1;rw[K,zl,List.getElem?_eq_getElem H]
  rw[K]at *;rw[za,CR H,za];generalize a.l_[k]=x at e1⊢;rw[CO];refine AJ (AJ (W.mono (Q:=λc=>c=decide (x.C7=1/\PN x.Cq b=true)) ?_ λc hc=>?_))
  ·split
   ·rename_i h1;rw[has_eq _ C.1 C.2];exact AJ (AB (AB (by simp[h1])))
   ·rename_i h1;exact AB (by simp[h1])
  ·subst hc;refine Be (λhc=>Ce (DL (by simp;omega) (by simp;omega)) (AB (AB (en _ ?_)))) λhc=>AB (AB ?_)
   ·rw[e1,zk hc]
   ·have:=en [] (by rw[e1,zm hc]);rwa [yr]at this
 ·subst D;rw[QD h ?_ (zV (Qp _ _ _) J)]
  ·exact AJ (AB (AB rfl))
  ·intro i hi;obtain⟨j,B,hi⟩:=ym.1 hi;unfold N1 at hi;split at hi
   ·rename_i x F;split at hi
    ·obtain rfl:=zH.1 hi;exact(h.st x (zI F)).a
    ·cases hi
   ·cases hi
theorem Yw{l:List AX}{b:Int}:Xv l [] b=[]:=UY
theorem Xt(l:List Int)(T:l.length<=1099511627776)(x:Int):W (EP l x) λr=>(0<=r)↔x∈l:=by
 unfold EP;refine AJ (W.mono (W.list (l:=l) (λ(_:Unit) (i:Nat)=>(i:Int)) (λ_ i=>x∉l.take i) ?_ ?_ () (by simp) (Q:=λo=>match o with| .inl _=>x∉l| .inr r=>0<=r/\x∈l)) λo M=>?_)
 ·intro _ h;unfold Eh;refine Be (λh=>by omega) λ_=>AB ?_;simpa using h
 ·intro _ i hi h;unfold Eh;refine Be (λ_=>?_) λh=>by omega
  rw[CR hi,za,CO];split
  ·rename_i e;exact AB ⟨by omega,by rw[e];exact zX hi⟩
  ·rename_i e;refine AB ⟨(),Ee (by omega),?_⟩;rw[HG (List.getElem?_eq_getElem hi)];simp only[zp,zH,not_or];exact⟨h,e⟩
 ·cases o with
  |inl _=>exact AB ⟨λh=>absurd h (by decide),λh=>absurd h M⟩
  |inr r=>exact AB ⟨λ_=>M.2,λ_=>M.1⟩
theorem TR(l:List Int)(T:l.length<=1099511627776)(x:Int):Dq l x=some (decide (x∈l)):=by
 refine W.eq ?_;unfold Dq;refine AJ ((Xt l T x).mono λr D=>AB ?_);by_cases h:x∈l
 ·rw[zi h,zi (D.2 h)]
 ·rw[zh h,zh (λe=>h (D.1 e))]
theorem TJ{t:AO}{a:Ay}(h:PT t a.l_){s:List Int}(G:Zt a.l_ s)(fr bk:Bool):FH a s fr bk=some (decide (0∈cl a.l_ fr bk s)):=by
 unfold FH;rw[WK h G.i G.n,za,TR _ (by have:=(TV h (fr:=fr) (bk:=bk) (f:=s)).n;omega)];rfl
theorem SE{t:AO}{a:Ay}(h:PT t a.l_){s:List Int}(G:Zt a.l_ s)(bk:Bool):FK a s bk=some (decide (0∈cl a.l_ false bk s)):=by
 unfold FK;rw[TJ h G];rfl
noncomputable def PH(l:List AX):List Int->List UInt8->Nat->List Int
 |set,[],i=>if(0:Int)∈cl l false true set then[(i:Int)]else[]
 |set,b::t,i=>(if(0:Int)∈cl l false false set then[(i:Int)]else[])++PH l (Xv l set b.toNat) t (i+1)
theorem RA(l:List AX):∀(s:List UInt8) (i:Nat),PH l [] s i=[]
 |[],i=>by simp[PH,UY]
 |b::t,i=>by simp[PH,UY,Yw,RA l t (i+1)]
theorem Wy{t:AO}{a:Ay}(h:bo t a):Gm a [] 0=some (if(0:Int)∈cl a.l_ true true [a.AY]then[0]else[]):=by
 refine W.eq ?_;have I:∀j∈[a.AY],T8 a.l_.length j:=by intro j B;obtain rfl:=zH.1 B;exact h.first
 have e2:cl a.l_ true true (cl a.l_ true false [a.AY])=cl a.l_ true true [a.AY]:=by
  refine Xs λj=>⟨λB=>?_,λB=>?_⟩
  ·induction B with
   |base h'=>exact((Ui h.l I).1 h').mono (λe=>e) (λe=>by cases e)
   |step _ J ih=>exact .step ih J
  ·induction B with
   |base h'=>exact .base ((Ui h.l I).2 (.base h'))
   |step _ J ih=>exact .step ih J
 unfold Gm;refine Am (λC=>by simp at C) λ_=>?_;rw[show((0:Int)==(0:Int))=true from rfl,QO h,za];refine AJ (W.mono (W.U5 ?_) λr D=>AB D);unfold Hx;refine Be (λO=>?_) λO=>AB ?_
 ·simp only[zQ,Int.natCast_zero,show((0:Int)==(0:Int))=true from rfl];rw[TJ h.l (TV h.l),e2];simp only[za,Bd];refine AJ (Be (λh0=>Ce (DL (by simp) (by simp)) (AB (AB ?_))) λh0=>AB (AB ?_))
  ·simp only[OG];rw[zk h0];rfl
  ·simp only[OG];rw[zm h0]
 ·exfalso;have:a.AY∈cl a.l_ true false [a.AY]:=(Ui h.l I).2 (.base (by simp));have:=List.length_pos_of_mem this;omega
end Go.Av.L
end
/-
 A part.
-/
section
namespace Go.Av.L
open Go.Av Go.Lib
set_option linter.unusedVariables false
set_option linter.unusedSimpArgs false
def YA(N:Nat)(s:List Int):Prop:=∃p:Nat->Bool,s=((List.range N).filter p).map λi:Nat=>(i:Int)
def code(s:List Int):Nat:=(s.map λi=>2^i.toNat).sum
theorem Mo(s t:List Int):code (s++t)=code s+code t:=by simp[code]
theorem YA.succ{N:Nat}{s:List Int}(h:YA (N+1) s):∃t,YA N t/\(s=t\/s=t++[(N:Int)]):=by
 obtain⟨p,rfl⟩:=h;refine⟨_,⟨p,rfl⟩,?_⟩;rw[qJ,qu,yp];by_cases O:p N=true
 ·exact .inr (by rw[List.filter_cons_of_pos O];rfl)
 ·exact .inl (by rw[List.filter_cons_of_neg O];simp)
theorem P9(N:Nat):code [(N:Int)]=2^N:=by simp[code]
theorem P5:∀(N:Nat) (s:List Int),YA N s->code s<2^N
 |0,s,h=>by
  obtain⟨p,rfl⟩:=h;simp[code]
 |N+1,s,h=>by
  obtain⟨t,S,e⟩:=h.succ;have:=P5 N t S;rw[Nat.pow_succ];rcases e with rfl|rfl
  ·omega
  ·rw[Mo,P9];omega
theorem Qo:∀(N:Nat) (s s':List Int),YA N s->YA N s'->code s=code s'->s=s'
 |0,s,s',h,h',_=>by
  obtain⟨p,rfl⟩:=h;obtain⟨q,rfl⟩:=h';simp
 | N+1,s,s',h,h',e=>by
  obtain⟨t,S,et⟩:=h.succ;obtain⟨t',P,et'⟩:=h'.succ;have l1:=P5 N t S;have l2:=P5 N t' P;rcases et with rfl|rfl<;>rcases et' with rfl|rfl
  ·exact Qo N _ _ S P e
  ·rw[Mo,P9]at e;omega
  ·rw[Mo,P9]at e;omega
  ·rw[Mo,Mo]at e;rw[Qo N _ _ S P (by omega)]
theorem W1{s:List Int}(h:s≠[]):0<code s:=by
 cases s with
 |nil=>exact absurd rfl h
 |cons a l=>
  have:0<2^a.toNat:=Nat.pow_pos (by omega);simp only[code,yE,List.sum_cons];omega
theorem Ut:∀(n:Nat) (l:List Nat),l.Nodup->(∀x∈l,x<n)->l.length<=n
 |0,l,_,h=>by
  cases l with
  |nil=>simp
  |cons a l=>exact absurd (h a (by simp)) (by omega)
 | n+1,l,J,h=>by
  by_cases hm:n∈l
  ·have h1:=Ut n (l.erase n) (J.erase n) λx F=>by
    have E:=h x (List.mem_of_mem_erase F);have V:x≠n:=λe=>by subst e;exact(J.not_mem_erase) F
    omega
   rw[List.length_erase_of_mem hm]at h1;omega
  ·have:=Ut n l J λx F=>by
    have E:=h x F;have V:x≠n:=λe=>hm (e ▸ F);omega
   omega
theorem YN{N:Nat}{todo:List (List Int)}(J:todo.Nodup)(G:∀s∈todo,s≠[]/\YA N s):todo.length<2^N:=by
 have O:0<2^N:=Nat.pow_pos (by omega)
 have h:=Ut (2^N) (0::todo.map code) (by
  refine yG.2 ⟨λh=>?_,?_⟩
  ·obtain⟨s,h1,E⟩:=z7.1 h;have:=W1 (G s h1).1;omega
  ·unfold List.Nodup at J⊢;rw[List.pairwise_map];exact J.imp_of_mem λ{a b} ha C hab e=>hab (Qo N a b (G a ha).2 (G b C).2 e)) (λx F=>by
  rcases zT.1 F with rfl|F
  ·exact O
  ·obtain⟨s,h1,rfl⟩:=z7.1 F
   exact P5 N s (G s h1).2)
 simp only[zD,yq]at h;omega
theorem UZ(l:List AX)(fr bk:Bool)(f:List Int):YA l.length (cl l fr bk f):=⟨_,rfl⟩
end Go.Av.L
end
