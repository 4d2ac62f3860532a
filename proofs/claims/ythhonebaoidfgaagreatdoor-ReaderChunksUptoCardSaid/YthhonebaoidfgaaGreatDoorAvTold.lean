/-
  Several texts in one.
-/
import Derived.IntWalk
import Derived.Test.YthhonebaoidfgaaGreatDoorAvLib
import Derived.Shelf.Strconv.Itoa3
import Derived.Lib.LaidTab
import Derived.Shelf.Strconv.Itoa1
import Derived.Shelf.Strconv.Itoa2
import Derived.Shelf.SlSortCmp.NoneTotal
import Derived.Shelf.Small.Strs
set_option linter.unusedSimpArgs false
/-
 A part.
-/
section
namespace Go.Av
set_option linter.unusedVariables false
set_option linter.unusedSimpArgs false
section
variable {C:Hv} {f:FuncId} {g:Gd} {h:AF} {L F:List Ck} {P:Program}
theorem MT(xs:List UInt8):Am eY xs=xs.map λb=>AD.int .u8 b.toNat:=by
 induction xs with
 |nil=>rfl
 |cons x r ih=>
  have:Am eY (x::r)=(.int .u8 x.toNat)::Am eY r:=rfl;rw[this,ih];rfl
end
end Go.Av
end
/-
 A part.
-/
section
namespace Go.Av
set_option linter.unusedVariables false
set_option linter.unusedSimpArgs false
theorem Ek{x:Int}(h1: -9223372036854775808<=x)(h2:x<=9223372036854775807):IntKind.i64.wrap x=x:=by rw[IntKind.wrap_i64];omega
theorem kX{x:Int}(h1:0<=x)(h2:x<=255):IntKind.u8.wrap x=x:=by rw[IntKind.wrap_u8];omega
theorem IB{α:Type}(p:Prop)[Decidable p](x y:Option α):Ag (decide p) x y=if p then x else y:=by
 by_cases h:p<;>simp[h]
theorem Wh{α β:Type}[DecidableEq β](a b:β)(x y:Option α):Ag (a==b) x y=if a=b then x else y:=by
 by_cases h:a=b<;>simp[h];have:(a==b)=false:=by simpa using h
 simp[this]
theorem dZ{α β:Type}[DecidableEq β](a b:β)(x y:Option α):Ag (a !=b) x y=if a=b then y else x:=by
 by_cases h:a=b<;>simp[h];have:(a !=b)=true:=by simpa using h
 simp[this]
theorem Y1(b c:Bool):Ag b (some true) (some c)=some (b||c):=by cases b<;>rfl
theorem VW{s:List UInt8}{i:Nat}{b:UInt8}(h:s[i]?=some b):KE s (i:Int)=some (b.toNat:Int):=by
 unfold KE;rw[zl om,zS,h];rfl
theorem Cm{σ ρ:Type}{step:σ->Option (σ⊕ρ)}{s s':σ}(h:step s=some (.inl s')):loop step s=loop step s':=by
 by_cases B:∃r,loop step s'=some r
 ·obtain⟨r,hr⟩:=B;rw[hr];exact T9 h hr
 ·cases M:loop step s with
  |none=>
   cases hl':loop step s' with
   |none=>rfl
   |some r=>exact absurd ⟨r,hl'⟩ B
  | some r=>
   obtain⟨n,N⟩:=Ug M;cases n with
   |zero=>cases N
   |succ n=>
    simp only[Jx,h]at N;exact absurd ⟨r,VM N⟩ B
theorem Cl{σ ρ:Type}{step:σ->Option (σ⊕ρ)}{s:σ}{r:ρ}(h:step s=some (.inr r)):loop step s=some r:=OI h
def W{α:Type}(m:Option α)(Q:α->Prop):Prop:=∃r,m=some r/\Q r
theorem W.mono{α:Type}{m:Option α}{Q Q':α->Prop}(w:W m Q)(h:∀r,Q r->Q' r):W m Q':=by obtain⟨r,e,q⟩:=w;exact⟨r,e,h r q⟩
theorem Ae{α:Type}{x:α}{Q:α->Prop}(h:Q x):W (some x) Q:=⟨x,rfl,h⟩
theorem Aq{α β:Type}{m:Option α}{k:α->Option β}{Q:β->Prop}(w:W m λx=>W (k x) Q):W (m.bind k) Q:=by obtain⟨r,e,q⟩:=w;rw[e];exact q
theorem Bc{α:Type}{b:Bool}{x y:Option α}{Q:α->Prop}(h1:b=true->W x Q)(h2:b=false->W y Q):W (Ag b x y) Q:=by cases b;exact h2 rfl;exact h1 rfl
theorem Ce{α:Type}{p:Prop}[Decidable p]{x y:Option α}{Q:α->Prop}(h1:p->W x Q)(h2:¬p->W y Q):W (Ag (decide p) x y) Q:=by by_cases h:p<;>simp[h,h1,h2]
theorem E5{α:Type}{b:Bool}{x:Option α}{Q:α->Prop}(h1:b=true)(h2:W x Q):W (B4 b x) Q:=by rw[h1];exact h2
theorem CJ{α:Type}{m:Option α}{x:α}{Q:α->Prop}(e:m=some x)(h:Q x):W m Q:=⟨x,e,h⟩
theorem W.loop{σ ρ:Type}{step:σ->Option (σ⊕ρ)}{s:σ}{Q:ρ->Prop}(inv:σ->Prop)(μ:σ->Nat)(hi:inv s)
  (hs:∀s,inv s->W (step s) (λr=>match r with| .inl s'=>inv s'/\μ s'<μ s| .inr r=>Q r)):W (Av.loop step s) Q:=by
 refine aG inv μ Q (λs hi=>?_) s hi;obtain⟨r,e,q⟩:=hs s hi;cases r with
 |inl s'=>exact .inl ⟨s',e,q⟩
 |inr r=>exact .inr ⟨r,e,q⟩
theorem W.eq{α:Type}{m:Option α}{x:α}(w:W m λr=>r=x):m=some x:=by obtain⟨r,e,q⟩:=w;rw[e,q]
theorem bz{n:Nat}{u:Int}(h:0<=u/\u<=n):XB n none (some u)=some (0,u.toNat):=by simp only[XB];rw[zl h]
theorem aq{n:Nat}{l:Int}(h:0<=l/\l<=n):XB n (some l) none=some (l.toNat,n):=by simp only[XB];rw[zl h]
theorem bJ{n:Nat}{l u:Int}(h:0<=l/\l<=u/\u<=n):XB n (some l) (some u)=some (l.toNat,u.toNat):=by simp only[XB];rw[zl om,zl om]
theorem KI{α:Type}{l:List α}{k:Nat}{x:α}(h:l[k]?=some x):l.take (k+1)=l.take k++[x]:=by
 rw[List.take_add_one,h];rfl
theorem IK{k:Nat}(h:k<4611686018427387904):IntKind.i64.wrap ((k:Int)+1)=((k+1:Nat):Int):=by rw[Ek om om];omega
theorem Ym{α:Type}{l:List α}{i:Nat}{x:α}(h:l[i]?=some x):Kx l (i:Int)=some x:=by
 unfold Kx;rw[zl om,zS,h]
theorem LH{s:List UInt8}{i:Nat}(h:i<=s.length):E4 s (some (i:Int)) none=some (s.drop i):=by
 unfold E4;rw[aq ⟨by omega,by omega⟩];simp only[zh,zS];rw[zB (by simp)]
theorem Hp{s:List UInt8}{i:Nat}(h:i<=s.length):E4 s none (some (i:Int))=some (s.take i):=by
 unfold E4;rw[bz ⟨by omega,by omega⟩];simp
theorem Lw{s:List UInt8}{i j:Nat}(h:i<=j)(h2:j<=s.length):E4 s (some (i:Int)) (some (j:Int))=some ((s.drop i).take (j - i)):=by
 unfold E4;rw[bJ ⟨by omega,by omega,by omega⟩];simp
theorem eJ{α:Type}{s:List α}{i:Nat}(h:i<=s.length):Wl s (some (i:Int)) none=some (s.drop i):=by
 unfold Wl;rw[aq ⟨by omega,by omega⟩];simp only[zh,zS];rw[zB (by simp)]
theorem fh{α:Type}{s:List α}{i:Nat}(h:i<=s.length):Wl s none (some (i:Int))=some (s.take i):=by
 unfold Wl;rw[bz ⟨by omega,by omega⟩];simp
theorem JH{b n:Nat}(h:n<=1099511627776)(h2:n*b<=1099511627776):L1 b n=true:=zg ⟨h,h2⟩
theorem W.list{α σ τ ρ:Type}{step:τ->Option (τ⊕ρ)}{l:List α}{Q:ρ->Prop}(enc:σ->Nat->τ)(P:σ->Nat->Prop)
  (hend:∀s,P s l.length->W (step (enc s l.length)) λo=>match o with| .inl _=>False| .inr r=>Q r)
  (hstep:∀s i (hi:i<l.length),P s i->W (step (enc s i)) λo=>match o with| .inl t=>∃s',t=enc s' (i+1)/\P s' (i+1)| .inr r=>Q r) (s:σ) (h0:P s 0):W (Av.loop step (enc s 0)) Q:=by
 have key:∀(k i:Nat) (s:σ),i+k=l.length->P s i->W (Av.loop step (enc s i)) Q:=by
  intro k
  induction k with
  |zero=>
   intro i s hi hp;obtain rfl:i=l.length:=by omega
   obtain⟨o,e,q⟩:=hend s hp;cases o with
   |inl t=>exact q.elim
   |inr r=>exact⟨r,OI e,q⟩
  | succ k ih=>
   intro i s hi hp;obtain⟨o,e,q⟩:=hstep s i om hp;cases o with
   |inl t=>
    obtain⟨s',rfl,hp'⟩:=q;rw[Cm e];exact ih (i+1) s' om hp'
   |inr r=>exact⟨r,OI e,q⟩
 exact key l.length 0 s om h0
theorem Fe{α:Type}{l:List α}{i:Nat}(h:i<l.length):Kx l (i:Int)=some l[i]:=Ym (List.getElem?_eq_getElem h)
theorem MX{l:List UInt8}{i:Nat}(h:i<l.length):KE l (i:Int)=some (l[i].toNat:Int):=VW (List.getElem?_eq_getElem h)
theorem Ri{b:UInt8}{n:Nat}(N:n<256):((b.toNat:Int)==(n:Int))=(b==UInt8.ofNat n):=by
 rw[qZ,yN,yN,<-UInt8.toNat_inj,UInt8.toNat_ofNat_of_lt' (by exact N)];omega
theorem idxOf_nil(c:UInt8):idxOf [] c= -1:=rfl
theorem idxOf_cons(b:UInt8)(t:List UInt8)(c:UInt8):idxOf (b::t) c=if b=c then 0 else if idxOf t c<0 then -1 else idxOf t c+1:=by
 unfold idxOf;rw[zG,List.range_succ_eq_map,List.find?_cons];by_cases h:b=c
 ·simp[h]
 ·have h':((b::t)[0]?==some c)=false:=by simpa using h
  rw[h',zj h,List.find?_map];have e:((λi=>(b::t)[i]?==some c)∘Nat.succ)=λi=>t[i]?==some c:=by
   funext i;simp
  rw[e];cases Z:List.find? (λi=>t[i]?==some c) (List.range t.length)with
  |none=>simp
  |some i=>simp;omega
theorem QS(s:List UInt8)(c:UInt8):0<=idxOf s c↔c∈s:=by
 induction s with
 |nil=>rw[idxOf_nil];simp
 | cons b t ih=>
  rw[idxOf_cons,zF];by_cases I:b=c
  ·simp[I]
  ·rw[zj I];have hb':¬c=b:=λh=>I h.symm;simp only[hb',false_or,<-ih];split<;>omega
end Go.Av
end
/-
 A part.
-/
section
namespace Go.Av
open Go.RowKit Go.Shelf Go.Proofs Go.Lib
set_option linter.unusedVariables false
set_option linter.unusedSimpArgs false
theorem aX{P:Program}{G:Nat->Option (List AD)}{w:World}(T:CH G w){name:String}{g:Nat}{k:IntKind}{zs:List Int}(H:P.globalNamed name=some g)(hG:G g=some (zs.map λz=>AD.int k z))(h0:zs≠[]):Lib.TabIs P w name k zs:=by
 obtain⟨K,cur,e,fz,hc,N,S⟩:=T.1 g _ hG;have hs:cur.size=zs.length:=by rw[N (by simpa using h0)];simp
 unfold Lib.TabIs World.var?;rw[H,za,hc];dsimp only;congr 1;refine Array.ext (by simpa using hs) λj h1 h2=>?_;have D:j<zs.length:=by omega
 obtain⟨_,_,c,hcj,hr⟩:=S j (.int k zs[j]) (by simp[D]);rw[hr.C9,Array.getElem?_eq_getElem h1]at hcj;have:=zJ hcj;simp[this]
theorem eC {P:Program} {ρ:Ren} (L:LaysM.n171 P ρ) {G:Nat->Option (List AD)} {gn:Nat} (H:P.globalNamed "internal/strconv.uint64pow10"=some gn) (hG:G gn=some (Lib.pow10Tab.map λz=>AD.int .u64 z)):Gs P G (ρ.f 171) λg h args=>Pp h args:=by
 refine Gs.lX λg h args v h' hc=>?_;have en:∀args w,(callFunc (ρ.f 171) args).run P w=.ok (.enter (ρ.f 171) args) w:=enters_of L.f171 kr rfl;unfold Pp at hc;split at hc
 ·rename_i n;split at hc
  ·rename_i I;simp only[zb,ze]at hc;obtain⟨rfl,rfl⟩:=hc;refine⟨Bh.refl _ _,λw0 m w cargs T r S=>?_⟩;obtain⟨a,rfl,J⟩:=SJ S;obtain rfl:=J.C9;refine Ed en ((Any.strconv_Itoa L n I.1 I.2 w (aX T H hG (by intro e;have:=congrArg List.length e;rw[Lib.pow10Tab_length]at this;simp at this))).mono ?_);rintro e w' ⟨rfl,k,os,rfl⟩;refine⟨_,rfl,m,Bk.ext.refl _ _,r.later ⟨rfl,rfl,rfl,?_,λj D=>?_⟩,VR.str ⟨(Lib.itoa n).toArray⟩⟩
   ·show w.heap.size<=(w.heap++os).size;simp
   ·show(w.heap++os)[j]?=_;rw[Array.getElem?_append_left D]
  ·cases hc
 ·cases hc
section
variable {C:Hv} {km:fE} {l:List (Nat×Nat×Nat×Nat)} {g:Gd} {h:AF} {f:Nat}
theorem Ks{n:Int}(hk:C.kind f=3)(B:C.ext=PN C.P km l)(M:J3 l f=some (12,0,0))(I:decide (-9223372036854775808<=n/\n<=9223372036854775807)=true):Cf C g h f [.int .i64 n] (.str (Lib.itoa n)) h:=by
 refine ND hk B M ?_;show Pp h [.int .i64 n]=_;unfold Pp;dsimp only;rw[zl (of_decide_eq_true I)]
end
end Go.Av
end
/-
 A part.
-/
section
namespace Go.Av
open Go.RowKit Go.Shelf Go.Proofs Go.Lib Go.Sort
set_option linter.unusedVariables false
set_option linter.unusedSimpArgs false
theorem iz {P:Program} {ρ:Ren} (L:LaysM.n284 P ρ) {G:Nat->Option (List AD)} {gn:Nat} (H:P.globalNamed "internal/strconv.uint64pow10"=some gn) (hG:G gn=some (Lib.pow10Tab.map λz=>AD.int .u64 z)):Gs P G (ρ.f 284) λg h args=>SA h args:=by
 refine Gs.lX λg h args v h' hc=>?_;have en:∀args w,(callFunc (ρ.f 284) args).run P w=.ok (.enter (ρ.f 284) args) w:=enters_of L.f284 kr rfl;unfold SA at hc;split at hc
 ·rename_i u;split at hc
  ·rename_i I;simp only[zb,ze]at hc;obtain⟨rfl,rfl⟩:=hc;refine⟨Bh.refl _ _,λw0 m w cargs T r S=>?_⟩;obtain⟨a,rfl,J⟩:=SJ S;obtain rfl:=J.C9;have hu:((u.toNat:Nat):Int)=u:=yJ om;refine Ed en ?_;have hk:=Any.internal_strconv_numDigits L u.toNat om om w (aX T H hG (by intro e;have:=congrArg List.length e;rw[Lib.pow10Tab_length]at this;simp at this));rw[hu]at hk;refine hk.mono ?_;rintro e w' ⟨rfl,rfl⟩;exact⟨_,rfl,m,Bk.ext.refl _ _,r,VR.int _ _⟩
  ·cases hc
 ·cases hc
theorem jE{a:AD}(h:ka a=true):∃b:UInt8,a=.int .u8 (b.toNat:Int):=by
 unfold ka at h;split at h
 ·rename_i k;have h:=of_decide_eq_true h;refine⟨UInt8.ofNat k.toNat,?_⟩;rw[UInt8.toNat_ofNat_of_lt' (by show k.toNat<256;omega),yJ h.1]
 ·cases h
theorem ic{P:Program}{ρ:Ren}(L:Lays.n285 P ρ)(G:Nat->Option (List AD)):Gs P G (ρ.f 285) λg h args=>Se g h args:=by
 refine Gs.of λg h args v h' hc=>?_;have en:∀args w,(callFunc (ρ.f 285) args).run P w=.ok (.enter (ρ.f 285) args) w:=enters_of L.f285 kr rfl;unfold Se at hc;split at hc
 ·rename_i id n u;split at hc
  ·rename_i Z;unfold UP at Z;obtain⟨hn0,hn24,hu0,hu64,hun⟩:=of_decide_eq_true Z;split at hc
   ·rename_i gr cs ho;split at hc
    ·rename_i H;obtain⟨X,hlen,hy⟩:=H;simp only[zb,ze]at hc;obtain⟨rfl,rfl⟩:=hc;have hu64':u.toNat<18446744073709551616:=by omega
     refine⟨Bh.set ho X,λw0 m w cargs rr S=>?_⟩;obtain⟨x',y',rfl,B,hy'⟩:=M1 S;obtain rfl:=hy'.C9;refine Ed en ?_;cases B with
     | slice _ _ _ cap E a hE hle hcp=>
      obtain⟨rfl,_⟩:=hcp om;obtain⟨hb1,hb2⟩:=rr.obj id E _ hE ho;obtain⟨cur,e,fz,g1,g2,g3,g4⟩:=hb2 om;have Y:=g4 rfl;have hat:∀j,j<n->∃b:UInt8,cur[E.base+j]?=some (.int .u8 (b.toNat:Int)):=λj D=>by
       have hj':j<cs.length:=by omega
       rw[zr]at hy;obtain⟨b,I⟩:=jE (hy cs[j] (by rw[qz];exact⟨j,by rw[zA];omega,by rw[List.getElem_take]⟩));obtain⟨_,c,c1,c2⟩:=g3 j _ (List.getElem?_eq_getElem hj');rw[I]at c2;rw[c1,c2.C9];exact⟨b,rfl⟩
      obtain⟨d,hd,hdat⟩:∃d:Array UInt8,d.size=n/\∀j,j<n->cur[E.base+j]?=some (.int .u8 ((d[j]!).toNat:Int)):=by
       refine⟨Array.ofFn λj:Fin n=>(hat j.1 j.2).choose,by simp,λj D=>?_⟩;rw[getElem!_pos _ j (by simpa using D),Array.getElem_ofFn];exact(hat j D).choose_spec
      have hH:Holds (λ(b:UInt8)=>Value.int .u8 (b.toNat:Int)) w E.g (E.base+0) d:=by
       intro j D;rw[hd]at D;have hc:=hdat j D;have K:=(Array.getElem?_eq_some_iff.1 hc).1;refine⟨?_,?_⟩
       ·simp only[World.cell?,g1,Option.isSome_none,yM,if_false,yQ];exact hc
       ·simp only[World.frozen?,g1,yQ];have:=Y.no (E.base+j) om;simp only[yv,zD];omega
      have hk:=Any.internal_strconv_formatBase10 L E.g (E.base+0) cap u.toNat d w hH (by rw[hd];exact hun) hu64' (by rw[hd];exact Nat.lt_of_le_of_lt hn24 (by decide));rw[hd,yJ hu0]at hk;refine hk.mono ?_;rintro e' w' ⟨rfl,n',v',dk,rfl,inv⟩;have hsz:=inv.size;have hdg:∀j,j<n->dk[j]! =Lib.dg u.toNat (n - 1 - j):=λj D=>inv.done j (yf _) D;refine⟨_,rfl,m,Bk.ext.refl _ _,?_,.tuple [] #[] rfl (λi x y B=>by simp at B)⟩;have R:((putRow (λ(b:UInt8)=>Value.int .u8 (b.toNat:Int)) w E.g (E.base+0) dk).drewN n').heap[E.g]?=some (.cells (putCells (λ(b:UInt8)=>Value.int .u8 (b.toNat:Int)) (E.base+0) dk cur) e fz):=by
       show(w.heap.modify E.g _)[E.g]?=_;rw[Array.getElem?_modify,zl rfl,g1];rfl
      refine rr.write hE ho rfl rfl ⟨rfl,rfl,rfl,?_,λk hk V=>?_⟩ ⟨⟨⟨hb1.1.1,λh=>by omega⟩,hb1.2⟩,λ_=>⟨_,e,fz,R,?_,λj a J=>?_,λ_=>Y⟩⟩
      ·show w.heap.size<=(w.heap.modify E.g _).size;simp
      ·show(w.heap.modify E.g _)[k]?=_;rw[Array.getElem?_modify,zj (λe=>V e.symm)]
      ·simp[putCells,g2]
      ·by_cases D:j<n
       ·rw[List.getElem?_append_left (by simp[Ln];exact D)]at J;rw[List.getElem?_map]at J;have H:(Ln n u.toNat)[j]?=some (Lib.dg u.toNat (n - 1 - j)):=by
         unfold Ln;rw[List.getElem?_map,List.getElem?_range D];rfl
        rw[H,zh]at J;injection J with J;subst J;refine⟨rfl,.int .u8 ((Lib.dg u.toNat (n - 1 - j)).toNat:Int),?_,.int _ _⟩;have K:=(Array.getElem?_eq_some_iff.1 (hdat j D)).1;unfold putCells;rw[Array.getElem?_mapIdx,Array.getElem?_eq_getElem K,zh,zl ⟨by omega,by omega⟩];rw[show E.base+j - (E.base+0)=j by omega,hdg j D]
       ·have hlen2:((Ln n u.toNat).map (λb=>AD.int .u8 (b.toNat:Int))).length=n:=by simp[Ln]
        rw[List.getElem?_append_right om,hlen2,List.getElem?_drop,show n+(j - n)=j by omega]at J;obtain⟨a1,c,c1,c2⟩:=g3 j a J;refine⟨a1,c,?_,c2⟩;unfold putCells;rw[Array.getElem?_mapIdx,c1,zh,zj om]
    ·cases hc
   ·cases hc
  ·cases hc
 ·cases hc
def Z0(n:Nat)(i:Int):Option Nat:=if 0<=i/\i<=n then some i.toNat else none
section
variable {C:Hv} {km:fE} {l:List (Nat×Nat×Nat×Nat)} {g:Gd} {h:AF} {f:Nat} {L F:List Ck}
theorem eg{u:Int}(hk:C.kind f=3)(B:C.ext=PN C.P km l)(M:J3 l f=some (13,0,0))(I:decide (1<=u/\u<18446744073709551616)=true):Cf C g h f [.int .u64 u] (.int .i64 (Lib.nDigits u.toNat:Nat)) h:=by
 refine ND hk B M ?_;show SA h [.int .u64 u]=_;unfold SA;dsimp only;rw[zl (of_decide_eq_true I)]
theorem HH.jq(A:HH g h L F)(k:Nat){id n:Nat}{cs:List AD}(hk:L[k]?=some (.obj id (.cells none 2 cs))){i:Int}{x:Nat}(B:Z0 n i=some x):fP h (id,0) n 1 none (some i)=some ⟨some (id,0),x⟩:=by
 unfold Z0 at B;split at B
 ·rename_i hi;cases B;unfold fP XB;rw[A.get k hk];simp[hi]
 ·cases B
theorem fG(xs:List UInt8):(Am eY xs).all ka=true:=by
 rw[MT,zr];intro a J;obtain⟨b,_,rfl⟩:=zZ.1 J;have:=b.toNat_lt;exact zg ⟨by omega,by omega⟩
theorem UG(xs:List UInt8)(n:Nat):(Am eY xs).take n=Am eY (xs.take n):=by rw[MT,MT,List.map_take]
theorem aB(xs:List UInt8)(n:Nat):(Am eY xs).drop n=Am eY (xs.drop n):=by rw[MT,MT,List.map_drop]
theorem HH.fmt{id x:Nat}{u:Int}{xs:List UInt8}(A:HH g h (.obj id (.cells none 2 (Am eY xs))::L) F)(hk:C.kind f=3)(B:C.ext=PN C.P km l)(M:J3 l f=some (14,0,0))(Z:(UP x u&&decide (x<=xs.length))=true):
  ∃h',Cf C g h f [.slice (some (id,0)) x,.int .u64 u] (.tuple []) h'/\HH g h' (.obj id (.cells none 2 (Am eY (Ln x u.toNat++xs.drop x)))::L) F:=by
 rw[zf]at Z;have H:h.get id=some (.cells none 2 (Am eY xs)):=A.get 0 rfl;have hm:g.may id=true:=A.OP (k:=0) rfl (by simp[Ck.ids]);have hl2:(Am eY xs).length=xs.length:=by rw[MT,yo]
 have e:(Ln x u.toNat).map (λb=>AD.int .u8 (b.toNat:Int))++(Am eY xs).drop x=Am eY (Ln x u.toNat++xs.drop x):=by
  rw[aB,MT,MT,qc]
 refine⟨_,ND hk B M (h':=h.set id (.cells none 2 (Am eY (Ln x u.toNat++xs.drop x)))) ?_,A.set 0 _ rfl⟩;show Se g h [.slice (some (id,0)) x,.int .u64 u]=_;unfold Se;simp only[Z.1,H,if_true];rw[zl ⟨hm,by rw[hl2];exact of_decide_eq_true Z.2,by rw[UG];exact fG _⟩,e]
theorem HH.iA(A:HH g h L F)(k:Nat){id x:Nat}{xs:List UInt8}(hk:L[k]?=some (.obj id (.cells none 2 (Am eY xs))))(B:x<=xs.length):EG h 1 (xs.take x).length (.slice (some (id,0)) (xs.take x).length)=some (Am eY (xs.take x)):=by
 have N:(xs.take x).length=x:=by rw[zA];omega
 have H:=A.get k hk;unfold EG;rw[N];by_cases h0:x=0
 ·subst h0;simp[H,Am]
 ·simp only[zj h0,H];unfold DG;simp only[qB];rw[zl ⟨by omega,by rw[MT,yo];omega⟩,yn,UG]
end
end Go.Av
end
/-
 A part.
-/
section
namespace Go.Av
open Go.RowKit Go.Shelf Go.Proofs Go.Lib Go.Sort
set_option linter.unusedVariables false
set_option linter.unusedSimpArgs false
theorem Z6 {P:Program} {f:FuncId} {fn:Func} {c:Code} (Z:P.funcs[f]?=some fn) (hname:(fn.name=="runtime.NumGoroutine")=false) (I:fn.body=some c):∀args w,(callFunc f args).run P w=.ok (.enter f args) w:=enters_of Z hname I
theorem dR:∀a b:List UInt8,compareBytes a b<0↔a<b
 |[],[]=>by simp[compareBytes]
 |[],_::_=>by simp[compareBytes]
 |_::_,[]=>by simp[compareBytes]
 | a::x,b::y=>by
  unfold compareBytes;rw[List.cons_lt_cons_iff];by_cases h1:a<b
  ·simp[h1]
  ·rw[zj h1];by_cases h2:b<a
   ·rw[zl h2];have h3:¬a=b:=by rintro rfl;exact h1 h2
    simp[h1,h3]
   ·rw[zj h2,dR x y];have h3:a=b:=UInt8.le_antisymm (UInt8.not_lt.1 h2) (UInt8.not_lt.1 h1);simp[h1,h3]
abbrev kp:K0->K0->Int:=λx y=>compareBytes x.1 y.1
theorem kY(x y:K0):ltOf kp x y=decide (x.1<y.1):=by
 unfold ltOf kp;rw[decide_eq_decide];exact dR _ _
theorem kz:SWO (ltOf kp) where
 irrefl x:=by rw[kY];simp
 trans x y z h1 h2:=by rw[kY]at *;simp only[zy]at *;exact List.lt_trans h1 h2
 ntrans x y z h1 h2:=by rw[kY]at *;simp only[zD,List.not_lt]at *;exact xg h2 h1
theorem QN(x:K0):∀l,(XW x l).Perm (x::l)
 |[]=>.refl _
 |y::l=>by
  unfold XW;split
  ·exact .refl _
  ·exact((QN x l).cons y).trans (.swap x y l)
theorem JI:∀l,(HO l).Perm l
 |[]=>.refl _
 |x::l=>(QN x _).trans ((JI l).cons x)
theorem V9(x:K0):∀{l},l.Pairwise (λa b:K0=>a.1<=b.1)->(XW x l).Pairwise λa b:K0=>a.1<=b.1
 |[],_=>by simp[XW]
 | y::l,h=>by
  obtain⟨h1,h2⟩:=ym.1 h;unfold XW;split
  ·rename_i B;refine ym.2 ⟨λz T=>?_,h⟩;rcases zF.1 T with rfl|T
   ·exact B
   ·exact xg B (h1 z T)
  ·rename_i B;refine ym.2 ⟨λz T=>?_,V9 x h2⟩;rcases zF.1 ((QN x l).mem_iff.1 T)with rfl|T
   ·exact(List.le_total _ _).resolve_left B
   ·exact h1 z T
theorem UJ:∀l,(HO l).Pairwise λa b:K0=>a.1<=b.1
 |[]=>.nil
 |x::l=>V9 x (UJ l)
theorem WI:∀{l:List K0},Pf l=true->∀x∈l,∀y∈l,x.1=y.1->x=y
 |[],_,x,B,_,_,_=>by cases B
 | z::l,h,x,B,y,hy,e=>by
  unfold Pf at h;rw[zf,zr]at h;have no:∀u∈l,u.1≠z.1:=λu hu e=>by have:=h.1 u hu;rw[e]at this;simp at this
  rcases zF.1 B with U|U
  ·rcases zF.1 hy with O|O
   ·rw[U,O]
   ·exact absurd (e.symm.trans (by rw[U])) (no y O)
  ·rcases zF.1 hy with O|O
   ·exact absurd (e.trans (by rw[O])) (no x U)
   ·exact WI h.2 x U y O e
theorem cS{l d:List K0}(hp:d.Perm l)(hs:d.Pairwise λa b:K0=>¬b.1<a.1)(hd:Pf l=true):d=HO l:=by
 refine List.Perm.eq_of_pairwise (le:=λa b:K0=>a.1<=b.1) (λa b J I h1 h2=>?_) (hs.imp λh=>List.not_lt.1 h) (UJ l) (hp.trans (JI l).symm);exact WI hd a (hp.mem_iff.1 J) b ((JI l).mem_iff.1 I) (List.le_antisymm h1 h2)
theorem T7{α:Type}(fw:α->K0)(bw:K0->α)(xs:List α):((HO (xs.map fw)).map bw).length=xs.length:=by rw[yo,(JI _).length_eq,yo]
def SK(x:K0):List Value:=[.string ⟨⟨x.1⟩⟩,.string ⟨⟨x.2⟩⟩]
theorem Vy:∀{cs:List AD} {l:List K0},PY cs=some l->cs=Hi l
 |[],l,h=>by unfold PY at h;injection h with h;subst h;rfl
 |[_],l,h=>by unfold PY at h;split at h<;>simp_all
 | a::b::r,l,h=>by
  unfold PY at h;split at h
  ·rename_i he;cases he
  ·rename_i k v r' he;cases he;cases hr:PY r with
   |none=>rw[hr]at h;cases h
   |some l'=>
    rw[hr]at h;injection h with h;subst h;rw[Vy hr];rfl
  ·cases h
theorem HY:∀l:List K0,(Hi l).length=l.length*2
 |[]=>rfl
 |x::l=>by
  have:=HY l;simp only[Hi,yD,zi,zG,zY]at this⊢;omega
theorem O1:∀(l:List K0) (j:Nat),j<l.length*2->∃s,(Hi l)[j]?=some (.str s)/\(SK (l.toArray[j / 2]!))[j%2]! =.string ⟨⟨s⟩⟩
 |[],j,h=>by simp at h
 |x::l,0,h=>⟨x.1,rfl,rfl⟩
 |x::l,1,h=>⟨x.2,rfl,rfl⟩
 |x::l,j+2,h=>by
  obtain⟨s,h1,h2⟩:=O1 l j (by simp at h;omega);refine⟨s,h1,?_⟩;rw[show(j+2) / 2=j / 2+1 by omega,show(j+2)%2=j%2 by omega];have:(x::l).toArray[j / 2+1]! =l.toArray[j / 2]! :=by simp
  rw[this,h2]
section
variable {P:Program} {w0:World} {m:Bk} {h:AF} {w:World}
theorem c9{ρ:Ren}(L:SlLaysF0.n6 P ρ){c:FuncId}(aE:∀w,(isAgg (ρ.t 24)).run P w=.ok true w)(zE:∀w,(Go.sizeOf (ρ.t 24)).run P w=.ok 2 w)(ec:∀args w,(callFunc c args).run P w=.ok (.enter c args) w)
  (hcl:∀(a b:K0) (W:World),Calls P c #[.agg #[.string ⟨⟨a.1⟩⟩,.string ⟨⟨a.2⟩⟩],.agg #[.string ⟨⟨b.1⟩⟩,.string ⟨⟨b.2⟩⟩]] W λe w'=>e=.returned (.int .i64 (compareBytes a.1 b.1))/\∃q os',w'=grow (W.drewN q) os')
  (G:Nat->Option (List AD)):Gs P G (ρ.f 6) λg h args=>I2 c g h args:=by
 refine Gs.of λg h args v h' hc=>?_;have en:=L.f6.enters rfl;unfold I2 at hc;split at hc
 ·rename_i r n f;split at hc
  ·rename_i Z;subst Z;split at hc
   ·rename_i N;subst N;simp only[zb,ze]at hc;obtain⟨rfl,rfl⟩:=hc;refine⟨Bh.refl _ _,λw0 m w cargs rr S=>?_⟩;obtain⟨x',y',rfl,B,hy⟩:=M1 S;obtain⟨a,cap,rfl⟩:=fC B rfl;refine Ed en ?_;refine(AnyF.slices_SortFunc_none L a cap y' w).mono ?_;rintro e w' ⟨rfl,rfl⟩;exact⟨_,rfl,m,Bk.ext.refl _ _,rr,.tuple [] #[] rfl (λi x y B=>by simp at B)⟩
   ·rename_i N;split at hc
    ·rename_i id;split at hc
     ·rename_i gr cs ho;split at hc
      ·rename_i H;obtain⟨hlen,hbig,X⟩:=H;split at hc
       ·rename_i l M;split at hc
        ·rename_i hd;simp only[zb,ze]at hc;obtain⟨rfl,rfl⟩:=hc;have hcs:=Vy M;subst hcs;rw[HY]at hlen;have hln:l.length=n:=by omega
         subst hln;refine⟨Bh.set ho X,λw0 m w cargs rr S=>?_⟩;obtain⟨x',y',rfl,B,hy⟩:=M1 S;refine Ed en ?_;cases B with
         | slice _ _ _ cap E a hE hle hcp=>
          obtain⟨rfl,_⟩:=hcp om;have hob:=rr.obj id E _ hE ho;obtain⟨hb1,hb2⟩:=hob;obtain⟨cur,e,fz,g1,g2,g3,g4⟩:=hb2 om;have hnf:y'=.func (.func f) #[] #[]:=by
           cases hy with
           |func _ _ _ c' d' h1 _ h2 _=>
            have e1:c'=#[]:=yA (by simpa using h1.symm);have e2:d'=#[]:=yA (by simpa using h2.symm);rw[e1,e2]
          subst hnf;have Y:=g4 rfl;have at_:∀j,j<l.length*2->cur[E.base+j]?=some ((SK (l.toArray[j / 2]!))[j%2]!):=λj D=>by
           obtain⟨s,s1,s2⟩:=O1 l j D;obtain⟨_,u,u1,u2⟩:=g3 j _ s1;rw[u1,s2,u2.Em]
          have hH:HoldsK SK 2 w E.g (E.base+0) l.toArray:=by
           intro j D;rw[size_flatK]at D;have hj':j<l.length*2:=by simpa using D
           have hc:=at_ j hj';have K:=(Array.getElem?_eq_some_iff.1 hc).1;refine⟨?_,?_⟩
           ·simp only[World.cell?,g1,Option.isSome_none,yM,if_false,yQ];rw[hc,get_flatK _ _ _ _ D];rfl
           ·simp only[World.frozen?,g1,yQ];have:=Y.no (E.base+j) om;simp only[yv,zD];omega
          refine(AnyQ.slices_SortFunc L 2 aE zE SK (λ_=>rfl) (λx v S=>by simp[SK]at S;rcases S with rfl|rfl<;>rfl) kp kz f #[] E.g (E.base+0) cap l.toArray w ec (λ_ _ _ _ x y=>hcl x y _) hH (Array.getElem?_eq_some_iff.1 g1).1 ?_).mono ?_
          ·simp;omega
          ·rintro e' w' ⟨rfl,d',n',os,hp,hs,rfl⟩;have hsz:d'.size=l.length:=by simpa using hp.1
           have hd':d'.toList=HO l:=by
            refine cS ?_ ?_ hd
            ·have:=hp.2.2;have e1:d'.extract 0 l.toArray.size=d':=by rw[<-hp.1];exact Array.extract_size
             rw[e1,Array.extract_size]at this;simpa using this
            ·rw[xD];intro i j hi D hij;have:=hs i j (yf _) hij (by simp at D⊢;omega);rw[kY,zD]at this;rw[getElem!_pos d' j (by simpa using D),getElem!_pos d' i (by simpa using hi)]at this;simpa using this
           obtain⟨d2,rfl⟩:∃d2,d'=List.toArray d2:=⟨d'.toList,by simp⟩;simp only at hd';subst hd';have hsl:(HO l).length=l.length:=(JI l).length_eq;refine⟨_,rfl,m,Bk.ext.refl _ _,?_,.tuple [] #[] rfl (λi x y B=>by simp at B)⟩;have R:(sortWorldK SK 2 w E.g (E.base+0) n' (HO l).toArray os).heap[E.g]?=some (.cells (putCells _root_.id (E.base+0) (flatK SK 2 (HO l).toArray) cur) e fz):=by
            have K:=(Array.getElem?_eq_some_iff.1 g1).1;show((w.heap.modify E.g _)++os)[E.g]?=_;rw[Array.getElem?_append_left (by simpa using K),Array.getElem?_modify,zl rfl,g1];rfl
           refine rr.write hE ho rfl rfl ⟨rfl,rfl,rfl,?_,λk hk V=>?_⟩ ⟨⟨⟨hb1.1.1,λh=>by omega⟩,hb1.2⟩,λ_=>⟨_,e,fz,R,?_,λj a J=>?_,λ_=>Y⟩⟩
           ·show w.heap.size<=((w.heap.modify E.g _)++os).size;simp
           ·show((w.heap.modify E.g _)++os)[k]?=_;rw[Array.getElem?_append_left (by simpa using hk),Array.getElem?_modify,zj (λe=>V e.symm)]
           ·simp[putCells,g2]
           ·have D:=(List.getElem?_eq_some_iff.1 J).1;rw[HY,hsl]at D;obtain⟨s,s1,s2⟩:=O1 (HO l) j om;rw[J]at s1;injection s1 with s1;subst s1;refine⟨rfl,.string ⟨⟨s⟩⟩,?_,.str ⟨⟨s⟩⟩⟩;have K:=(Array.getElem?_eq_some_iff.1 (at_ j D)).1;unfold putCells;rw[Array.getElem?_mapIdx,Array.getElem?_eq_getElem K,zh,size_flatK];rw[zl ⟨by omega,by simp;omega⟩];have e0:E.base+j - (E.base+0)=j:=by omega
            rw[e0,get_flatK _ _ _ _ (by simp;omega),s2];rfl
        ·cases hc
       ·cases hc
      ·cases hc
     ·cases hc
    ·cases hc
  ·cases hc
 ·cases hc
end
section
variable {C:Hv} {km:fE} {l:List (Nat×Nat×Nat×Nat)} {g:Gd} {h:AF} {f c:Nat} {L F:List Ck}
theorem aM(hk:C.kind f=3)(B:C.ext=PN C.P km l)(M:J3 l f=some (11,c,0)):Cf C g h f [.slice none 0,.func (.func c) [] []] (.tuple []) h:=by
 refine ND hk B M ?_;show I2 c g h [.slice none 0,.func (.func c) [] []]=_;unfold I2;dsimp only;rw[zl rfl,zl rfl]
theorem Qs:∀l:List K0,PY (Hi l)=some l
 |[]=>rfl
 |(k,v)::l=>by
  show(PY (Hi l)).map ((k,v)::·)=_;rw[Qs l];rfl
theorem Uy{α:Type}{e:α->List AD}(fw:α->K0)(he:∀x,e x=[.str (fw x).1,.str (fw x).2]):∀xs:List α,Am e xs=Hi (xs.map fw)
 |[]=>rfl
 |x::xs=>by
  have:=Uy fw he xs;simp only[Am,Hi,yD,zK]at *;rw[this,he]
theorem HH.kV{α:Type}{e:α->List AD}{fw:α->K0}{bw:K0->α}{t:TypeId}{r:Option Nat}{xs:List α}(he:∀x,e x=[.str (fw x).1,.str (fw x).2])(hr:∀p,fw (bw p)=p)(A:HH g h (.Am r t (Am e xs)::L) F)
  (hk:C.kind f=3) (B:C.ext=PN C.P km l) (M:J3 l f=some (11,c,0)) (hd:Pf (xs.map fw)=true) (I:decide (xs.length<=1099511627776)=true):
  ∃h',Cf C g h f [Ad r xs.length,.func (.func c) [] []] (.tuple []) h'/\HH g h' (.Am r t (Am e ((HO (xs.map fw)).map bw))::L) F:=by
 have N:Am e ((HO (xs.map fw)).map bw)=Hi (HO (xs.map fw)):=by
  rw[Uy fw he,qV];congr 1;rw[show fw∘bw=id from funext hr,List.map_id]
 rw[N];rw[Uy fw he]at A;cases r with
 | none=>
  have h0:Hi (xs.map fw)=[]:=A.mem (k:=0) rfl;have hx0:xs=[]:=by
   have:=congrArg List.length h0;rw[HY,yo,zY]at this;exact zx om
  subst hx0;exact⟨h,aM hk B M,A⟩
 | some id=>
  have H:h.get id=some (.cells (some t) 2 (Hi (xs.map fw))):=A.mem (k:=0) rfl;have hm:g.may id=true:=A.OP (k:=0) rfl (by simp[Ck.ids]);cases hq:Nat.beq xs.length 0 with
  |true=>
   have hx0:=qQ.1 (zt hq);subst hx0;refine⟨h,ND hk B M ?_,A⟩;show I2 c g h [.slice (some (id,0)) 0,.func (.func c) [] []]=_;unfold I2;dsimp only;rw[zl rfl,zl rfl]
  | false=>
   have V:xs.length≠0:=λe=>by rw[e]at hq;exact absurd hq (by decide)
   refine⟨_,ND hk B M (h':=h.set id (.cells (some t) 2 (Hi (HO (xs.map fw))))) ?_,A.VQ (k:=0) rfl (by simp) (λi hi hni=>?_) (h.get_set_same _ (h.CA H)) ?_ ?_⟩
   ·show I2 c g h [.slice (some (id,0)) xs.length,.func (.func c) [] []]=_;unfold I2;dsimp only;rw[zl rfl,zj V];simp only[H];rw[zl ⟨by rw[HY,yo],of_decide_eq_true I,hm⟩,Qs];dsimp only;rw[zl hd]
   ·exact h.CN _ (h.CA H) (by simpa[Ck.ids]using hni)
   ·intro i hi;exact .inl hi
   ·intro i hi;exact A.OP (k:=0) rfl hi
end
end Go.Av
end
/-
 A part.
-/
section
namespace Go.Av
open Go.RowKit
set_option linter.unusedVariables false
set_option linter.unusedSimpArgs false
section
variable {C:Hv} {km:fE} {l:List (Nat×Nat×Nat×Nat)} {g:Gd} {h:AF} {f:Nat}
theorem ak{j n:Nat}{args:List AD}{es:List (AD×AD)}(hk:C.kind f=3)(B:C.ext=PN C.P km l)(M:J3 l f=some (33,j,n))(N:(Nat.beq args.length n&&args.all T4)=true)(he:dJ args (km.getD j [])=some es):Cf C g h f args (.map (some h.size)) (h.push (.map 3 es)):=by
 refine ND hk B M ?_;show T2 (km.getD j []) n h args=_;unfold T2;rw[N,he];rfl
end
end Go.Av
end
