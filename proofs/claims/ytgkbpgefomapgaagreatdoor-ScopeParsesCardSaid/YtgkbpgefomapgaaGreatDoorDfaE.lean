/-
 A part.
-/
import Derived.Test.YtgkbpgefomapgaaGreatDoorDfaN
namespace Go.Av.L
open IntKind (i64 u8 i32)
open Go.Av Go.Lib
set_option linter.unusedVariables false
set_option linter.unusedSimpArgs false
def O1(l:List AX)(b c:Int):Prop:=∃x∈l,x.C7=1/\PN x.Cq b≠PN x.Cq c
theorem Yf(u v:Bool):(!(u==v))=decide (u≠v):=by cases u<;>cases v<;>rfl
theorem Xc{t:AO}{a:Ay}(h:PT t a.l_){b c:Int}(J:0<=b/\b<=255)(hc:0<=c/\c<=255):W (GN a b c) λr=>r=true↔O1 a.l_ b c:=by
 have hle:=h.le;unfold GN;refine AJ (W.mono (W.list (l:=a.l_) (λ(_:Unit) (i:Nat)=>(i:Int)) (λ_ i=>¬O1 (a.l_.take i) b c) ?_ ?_ () (by rintro⟨x,C,_⟩;simp at C) (Q:=λo=>match o with| .inl _=>¬O1 a.l_ b c| .inr r=>r=true/\O1 a.l_ b c)) λo F=>?_)
 ·intro _ h;unfold GJ;refine Be (λh=>by omega) λ_=>AB ?_;simpa using h
 ·intro _ i hi h;unfold GJ;refine Be (λ_=>?_) λh=>by omega
  rw[CR hi,za,CO];refine AJ (W.mono (Q:=λv=>v=decide (a.l_[i].C7=1/\PN a.l_[i].Cq b≠PN a.l_[i].Cq c)) ?_ λv U=>?_)
  ·split
   ·rename_i h1;rw[has_eq _ J.1 J.2,has_eq _ hc.1 hc.2];exact AJ (AB (AJ (AB (AB (by rw[Yf];simp[h1])))))
   ·rename_i h1;exact AB (by simp[h1])
  ·subst U;refine Be (λhc=>AB ⟨rfl,a.l_[i],zX hi,hc⟩) λhc=>AB ⟨(),Ee (by omega),?_⟩;rw[HG (List.getElem?_eq_getElem hi)];rintro⟨x,C,D⟩;rcases zp.1 C with C|C
   ·exact h ⟨x,C,D⟩
   ·obtain rfl:=zH.1 C;exact hc D
 ·cases o with
  |inl _=>exact AB ⟨λh=>by simp at h,λh=>absurd h F⟩
  |inr r=>exact AB ⟨λ_=>F.2,λ_=>F.1⟩
theorem XT{l:List AX}{b c:Int}(h:¬O1 l b c)(s:List Int):Xv l s b=Xv l s c:=by
 have:N1 l b=N1 l c:=by
  funext i;unfold N1;split
  ·rename_i x C;by_cases B:x.C7=1
   ·have:PN x.Cq b=PN x.Cq c:=Classical.byContradiction λS=>h ⟨x,zI C,B,S⟩;rw[this]
   ·simp[B]
  ·rfl
 unfold Xv;rw[this]
def Qb(l:List AX)(bs:List UInt8)(b:Nat)(c:Int):Prop:=∃(k:Nat) (y:UInt8),c=(k:Int)/\bs[k]?=some y/\¬O1 l b y.toNat
theorem Qb.up{l:List AX}{bs:List UInt8}{b:Nat}{c:Int}(h:Qb l bs b c)(x:List UInt8):Qb l (bs++x) b c:=by
 obtain⟨k,y,e,B,Y⟩:=h;exact⟨k,y,e,by rw[List.getElem?_append_left (List.getElem?_eq_some_iff.1 B).1];exact B,Y⟩
theorem Us{t:AO}{m:Dg}(h:PT t m.a_.l_)(bs:List UInt8)(I:bs.length<=256)(b:Nat)(J:b<256):
  W (B9 bs m b) λr=>r= -1\/(0<=r/\r<bs.length/\Qb m.a_.l_ bs b r):=by
 unfold B9;refine AJ (W.mono (W.list (l:=bs) (λ(_:Unit) (i:Nat)=>(i:Int)) (λ_ _=>True) ?_ ?_ () trivial (Q:=λo=>match o with| .inl _=>True| .inr r=>0<=r/\r<bs.length/\Qb m.a_.l_ bs b r)) λo F=>?_)
 ·intro _ _;unfold CQ;exact Be (λh=>by omega) λ_=>AB trivial
 ·intro _ i hi _;unfold CQ;refine Be (λ_=>?_) λh=>by omega
  rw[CR hi];unfold DY;rw[show u8.wrap (b:Int)=(b:Int) from aQ (by omega) (by omega)];refine AJ (AB (AJ (AJ ((Xc h ⟨by omega,by omega⟩ (Kh bs[i])).mono λv U=>AB ?_))));refine Am (λM=>AB ⟨by omega,by omega,i,bs[i],rfl,List.getElem?_eq_getElem hi,λY=>?_⟩) λ_=>AB ⟨(),Ee (by omega),trivial⟩;rw[U.2 Y]at M;cases M
 ·cases o with
  |inl _=>exact AB (.inl rfl)
  |inr r=>exact AB (.inr F)
theorem X9{t:AO}{m:Dg}(h:PT t m.a_.l_)(h0:m.LN=[]):W (Dd m) λr=>(∀b:Nat,b<256->Qb m.a_.l_ r.2 b (r.1.BX b))/\r.2.length<=256/\r.1.BF=r.2.length/\r.1.AY=m.d_.AY/\r.1.Bw=m.d_.Bw/\r.1.BZ=m.d_.BZ:=by
 unfold Dd;refine AJ (W.mono (W.loop (λs=>∃i:Nat,s.2.2=(i:Int)/\i<=256/\s.2.1.length<=i/\∀b:Nat,b<i->Qb m.a_.l_ s.2.1 b (s.1 b)) (λs=>(256 - s.2.2).toNat) ⟨0,rfl,by omega,by simp[h0],λb J=>by omega⟩ ?_ (Q:=λr=>(∀b:Nat,b<256->Qb m.a_.l_ r.2 b (r.1 b))/\r.2.length<=256)) ?_)
 ·rintro⟨x1,x2,x3⟩ ⟨i,hi,h1,D,Z⟩;simp only at hi D Z;subst hi;unfold E8;refine Be (λJ=>?_) λJ=>?_
  ·have hi:i<256:=by omega
   refine AJ ((Us (m:=⟨m.a_,⟨x1,m.d_.BF,m.d_.CA,m.d_.B1,m.d_.B3,m.d_.AY,m.d_.Bw,m.d_.BZ⟩,m.Cm,x2,m.FJ,m.CF⟩) h x2 (by omega) i hi).mono λr R=>?_);simp only at R;have ex:WY 256 x1 (i:Int)=some (x1 i):=by unfold WY;rw[zk ⟨by omega,by omega⟩,zl]
   have fin:∀(x7:List UInt8) (k:Nat),k<=255->x7.length<=i+1->(∃z,x7=x2++z)->Qb m.a_.l_ x7 i k->(∃i':Nat,i64.wrap ((i:Int)+1)=(i':Int)/\i'<=256/\x7.length<=i'/\∀b:Nat,b<i'->Qb m.a_.l_ x7 b ((SL x1 (i:Int).toNat (u8.wrap (k:Int))) b))/\(256 - i64.wrap ((i:Int)+1)).toNat<(256 - (i:Int)).toNat:=by
    rintro x7 k B I ⟨z,rfl⟩ hc;rw[Ee (by omega),aQ (by omega) (by omega),zl];refine⟨⟨i+1,rfl,by omega,I,λb J=>?_⟩,by omega⟩;by_cases e:b=i
    ·subst e;rw[Ry];exact hc
    ·rw[Vh _ _ e];exact(Z b (by omega)).up z
   rcases R with rfl|⟨h4,h5,h6⟩
   ·have et:Oj (i:Int)=some (UInt8.ofNat i):=by unfold Oj;rw[zk (by omega),zl]
    rw[show decide ((-1:Int)<0)=true from rfl,Bd,aQ (by omega) (by omega),et,za,DL (by simp;omega) (by simp;omega),Gr,za,ex];refine AJ (AB (AB (fin _ x2.length (by omega) (by simp;omega) ⟨_,rfl⟩ ⟨x2.length,UInt8.ofNat i,rfl,by rw[List.getElem?_append_right (zo _),yy];rfl,?_⟩)));rw[show(UInt8.ofNat i).toNat=i from UInt8.toNat_ofNat_of_lt' (by exact hi)];rintro⟨x,_,_,S⟩;exact S rfl
   ·obtain⟨k,rfl⟩:=zn h4;rw[zh (by omega),Az,za,ex];exact AJ (AB (AB (fin x2 k (by omega) (by omega) ⟨[],by simp⟩ h6)))
  ·obtain rfl:i=256:=by omega
   exact AB ⟨Z,D⟩
 ·rintro⟨x4,x5⟩ ⟨h1,D⟩;exact AB ⟨h1,D,rfl,rfl,rfl,rfl⟩
def TX(s:List Int):List UInt8:=s.flatMap λi=>[UInt8.ofNat (i.toNat%256),UInt8.ofNat (i.toNat / 256%256)]
theorem Vi:∀{s s':List Int},(∀i∈s,T8 4096 i)->(∀i∈s',T8 4096 i)->TX s=TX s'->s=s'
 |[],[],_,_,_=>rfl
 |[],j::s',_,_,h=>by simp[TX]at h
 |i::s,[],_,_,h=>by simp[TX]at h
 |i::s,j::s',h1,D,h=>by
  have ih:=Vi (s:=s) (s':=s') (λk B=>h1 k (zM _ B)) (λk B=>D k (zM _ B));simp only[TX,ya,yl,ye,qI]at h ih;obtain⟨a1,a2,a3⟩:=h;have hi:=h1 i (yo ..);have X:=D j (yo ..);unfold T8 at hi X;have e1:=congrArg UInt8.toNat a1;have e2:=congrArg UInt8.toNat a2;simp only[UInt8.toNat_ofNat']at e1 e2;rw[ih a3];have:i=j:=by omega
  rw[this]
theorem YI(s:List Int):(TX s).length=2*s.length:=by
 induction s with
 |nil=>rfl
 |cons i s ih=>simp only[TX,ya,zq,zD,zQ]at ih⊢;omega
theorem Tv{i:Int}(h:0<=i):Oj (u8.wrap i)=some (UInt8.ofNat (i.toNat%256)):=by
 have e:u8.wrap i=((i.toNat%256:Nat):Int):=by rw[IntKind.wrap_u8];omega
 rw[e];unfold Oj;rw[zk (by omega),zl]
theorem Yu{s:List Int}(h:∀i∈s,T8 4096 i)(I:s.length<=4096):KB s=some (TX s):=by
 refine W.eq ?_;unfold KB;refine AJ (W.mono (W.list (l:=s) (λ(o:List UInt8) (i:Nat)=>(o,(i:Int))) (λo i=>o=TX (s.take i)) ?_ ?_ [] (by simp[TX]) (Q:=λr=>r=TX s)) λr R=>AB R)
 ·intro o F;unfold JE;refine Be (λh=>by omega) λ_=>AB ?_;simpa using F
 ·intro o i hi F;unfold JE;refine Be (λ_=>?_) λh=>by omega
  obtain⟨h0,h1⟩:=h _ (zX hi);have e8:HW .i64 s[i] 8=s[i] / 256:=by
   show s[i].fdiv 256=_;rw[Int.fdiv_eq_ediv_of_nonneg _ (by decide)]
  have ol:o.length<=2*i:=by rw[F,YI,zP];omega
  rw[CR hi,za,Tv h0,za,e8,Tv (by omega),za];refine Ce (DL (by simp;omega) (by simp;omega)) (AB ⟨_,by rw[Ee (by omega)],?_⟩);rw[HG (List.getElem?_eq_getElem hi),F];unfold TX;rw[List.flatMap_append];simp only[ya,List.flatMap_nil,yr];have:(s[i] / 256).toNat=s[i].toNat / 256:=by omega
  rw[this]
section
variable {K V:Type} [DecidableEq K]
theorem RB(m:List (K×V))(k:K)(v:V)(n:K):Cy (CZ m k v) n=if n=k then some v else Cy m n:=by
 induction m with
 |nil=>simp[CZ,Cy]
 | cons p m ih=>
  obtain⟨k',v'⟩:=p;unfold CZ;by_cases h:k=k'
  ·subst h;simp only[if_true,Cy];by_cases D:n=k<;>simp[D]
  ·rw[zm h];simp only[Cy,ih];by_cases D:n=k'
   ·subst D;simp[Ne.symm h]
   ·simp[D]
end
structure Yx(a:Ay)(todo:List (List Int))(seen:List (List UInt8×Int))(ends last:List Bool):Prop where
 set:∀(k:Nat) (s:List Int),todo[k]?=some s->Zt a.l_ s/\Cy seen (TX s)=some (k:Int)
 key:∀x v,Cy seen x=some v->∃(k:Nat) (s:List Int),todo[k]?=some s/\v=(k:Int)/\x=TX s
 ends:ends=todo.map λs=>decide ((0:Int)∈cl a.l_ false false s)
 last:last=todo.map λs=>decide ((0:Int)∈cl a.l_ false true s)
 sh:∀s∈todo,s≠[]/\YA a.l_.length s
theorem Yx.nodup{a:Ay}{todo:List (List Int)}{seen:List (List UInt8×Int)}{ends last:List Bool}(T:Yx a todo seen ends last):todo.Nodup:=by
 unfold List.Nodup;rw[List.pairwise_iff_getElem];intro i j hi X hij e;have h1:=(T.set i _ (List.getElem?_eq_getElem hi)).2;have D:=(T.set j _ (List.getElem?_eq_getElem X)).2;rw[e,D]at h1;have:=zw h1;omega
def Pv(todo:List (List Int))(s:List Int)(v:Int):Prop:=(s=[]/\v= -1)\/∃k:Nat,v=(k:Int)/\todo[k]?=some s
theorem Pv.up{todo:List (List Int)}{s:List Int}{v:Int}(h:Pv todo s v)(z:List (List Int)):Pv (todo++z) s v:=by
 rcases h with h|⟨k,e,B⟩
 ·exact .inl h
 ·exact .inr ⟨k,e,by rw[List.getElem?_append_left (List.getElem?_eq_some_iff.1 B).1];exact B⟩
theorem Zu{t:AO}{l:List AX}(h:PT t l){s:List Int}(G:Zt l s):∀i∈s,T8 4096 i:=λi hi=>⟨(G.i i hi).1,by have:=(G.i i hi).2;have:=h.le;omega⟩
theorem Qm{t:AO}{m:Dg}(h:PT t m.a_.l_)(T:Yx m.a_ m.CF m.FJ m.d_.B1 m.d_.B3){n:Nat}(hm:m.Cm=(n:Int))(S:n<=4096)(I:m.CF.length<=n){s:List Int}(G:Zt m.a_.l_ s)(O:YA m.a_.l_.length s):
  W (Cd m s) λr=>Yx m.a_ r.2.2.2.2.2 r.2.2.2.2.1 r.2.2.1 r.2.2.2.1/\(∃z,r.2.2.2.2.2=m.CF++z)/\r.2.2.2.2.2.length<=n/\(r.2.1=true->Pv r.2.2.2.2.2 s r.1)/\(r.2.1=false->n<2^m.a_.l_.length):=by
 unfold Cd;rw[show((s.length:Int)==0)=decide (s.length=0) from Fw s.length 0];refine Be (λh0=>AB ⟨T,⟨[],by simp⟩,I,λ_=>.inl ⟨zt h0,rfl⟩,λe=>by cases e⟩) λh0=>?_;have H:s≠[]:=λe=>h0 (by rw[e];rfl);rw[Yu (Zu h G) G.n,za];cases M:Cy m.FJ (TX s)with
 |some v=>
  obtain⟨k,s',B,rfl,e⟩:=T.key _ _ M;have:s=s':=Vi (Zu h G) (Zu h (T.set k s' B).1) e;subst this;exact AB ⟨T,⟨[],by simp⟩,I,λ_=>.inr ⟨k,rfl,B⟩,λe=>by cases e⟩
 | none=>
  rw[Option.isSome_none,Az,hm,Fw];have hnot:s∉m.CF:=λhm=>by
   obtain⟨k,B⟩:=List.getElem?_of_mem hm;have:=(T.set k s B).2;rw[M]at this;cases this
  refine Be (λhfull=>AB ⟨T,⟨[],by simp⟩,I,λe=>(by cases e),λ_=>?_⟩) λhne=>?_
  ·have:=YN (N:=m.a_.l_.length) (todo:=s::m.CF) (yG.2 ⟨hnot,T.nodup⟩) λx C=>by
    rcases zT.1 C with rfl|C
    ·exact⟨H,O⟩
    ·exact T.sh x C
   simp only[zD]at this;omega
  have el:m.d_.B1.length=m.CF.length:=by rw[T.ends,yq]
  have ll:m.d_.B3.length=m.CF.length:=by rw[T.last,yq]
  refine Ce (DL (by simp;omega) (by simp;omega)) ?_;rw[SE h G,za];refine Ce (DL (by simp;omega) (by simp;omega)) ?_;rw[SE h G,za];refine Ce (DL (by simp;omega) (by simp;omega)) (AB ?_);rw[show i32.wrap (m.CF.length:Int)=(m.CF.length:Int) by rw[IntKind.wrap_i32];omega];have here:(m.CF++[s])[m.CF.length]?=some s:=by rw[List.getElem?_append_right (zo _),yy];rfl
  refine⟨⟨λk s' B=>?_,λx v C=>?_,?_,?_,λx C=>?_⟩,⟨[s],rfl⟩,by simp;omega,λ_=>.inr ⟨_,rfl,here⟩,λe=>by cases e⟩
  ·rw[RB];by_cases hk2:k<m.CF.length
   ·have hk3:m.CF[k]?=some s':=by
     have:=B;rwa [List.getElem?_append_left hk2]at this
    obtain⟨a1,a2⟩:=T.set k s' hk3;refine⟨a1,?_⟩;rw[zm (λe=>by rw[e,M]at a2;cases a2)];exact a2
   ·have hk4:=(List.getElem?_eq_some_iff.1 B).1;simp only[zq,zy]at hk4;obtain rfl:k=m.CF.length:=by omega
    have P:(m.CF++[s])[m.CF.length]?=some s':=B;rw[here]at P;cases P;exact⟨G,by rw[zk rfl]⟩
  ·have E:Cy (CZ m.FJ (TX s) (m.CF.length:Int)) x=some v:=C;rw[RB]at E;by_cases e:x=TX s
   ·rw[zk e]at E;cases E;exact⟨_,s,here,rfl,e⟩
   ·rw[zm e]at E;obtain⟨k,s',B,a1,a2⟩:=T.key _ _ E;exact⟨k,s',by show(m.CF++[s])[k]?=_;rw[List.getElem?_append_left (List.getElem?_eq_some_iff.1 B).1];exact B,a1,a2⟩
  ·show m.d_.B1++[_]=(m.CF++[s]).map _;rw[yp,<-T.ends];rfl
  ·show m.d_.B3++[_]=(m.CF++[s]).map _;rw[yp,<-T.last];rfl
  ·have C:x∈m.CF++[s]:=C;rcases zp.1 C with C|C
   ·exact T.sh x C
   ·obtain rfl:=zH.1 C;exact⟨H,O⟩
end Go.Av.L
