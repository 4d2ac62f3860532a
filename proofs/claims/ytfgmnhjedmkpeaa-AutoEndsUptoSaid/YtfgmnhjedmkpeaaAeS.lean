/-
  Several texts in one.
-/
import Derived.Test.YtfgmnhjedmkpeaaAutoC
set_option linter.unusedSimpArgs false
/-
 A part.
-/
section
namespace Go.Av.L
open Go.Av Go.Lib
set_option linter.unusedVariables false
set_option linter.unusedSimpArgs false
def LK{σ ρ:Type}(step:σ->Option (σ⊕ρ))(Q:ρ->Prop):σ⊕ρ->Prop
 | .inl s'=>W (Av.loop step s') Q
 | .inr r=>Q r
theorem W.WM{σ ρ:Type}{step:σ->Option (σ⊕ρ)}{s:σ}{Q:ρ->Prop}(w:W (step s) (LK step Q)):W (Av.loop step s) Q:=by
 obtain⟨o,e,q⟩:=w;cases o with
 |inl s'=>rw[N7 e];exact q
 |inr r=>exact⟨r,H2 e,q⟩
theorem Uo(l:List Int)(T:l.length<=1099511627776):CU l l=some true:=by
 refine W.eq ?_;unfold CU;rw[Nc,zk rfl];refine AP (W.mono (W.list (l:=l) (λ(_:Unit) (i:Nat)=>(i:Int)) (λ_ i=>True) ?_ ?_ () trivial (Q:=λo=>o=.inl ())) λo H=>by subst H;exact AH rfl)
 ·intro _ h;unfold DL;exact Bq (λh=>by omega) λ_=>AH rfl
 ·intro _ i B h;unfold DL;refine Bq (λ_=>?_) λh=>by omega
  rw[FM B,zd,zd,Nc,zk rfl];exact AH ⟨(),G4 (by omega),trivial⟩
structure Y1(l:List AE)(s:List Int):Prop where
 i:∀j∈s,Oy l.length j
 n:s.length<=4096
theorem OH{t:AL}{l:List AE}(h:Mj t l){fr bk:Bool}{f:List Int}:Y1 l (cl l fr bk f):=⟨S1,zM Vq h.le⟩
theorem Pn{t:AL}{a:Ah}(h:XI t a)(fr:Bool):Ec a fr=some (cl a.l_ fr false [a.AZ]):=by
 unfold Ec;rw[NQ h.l (by intro i B;obtain rfl:=zw.1 B;exact h.first) (by simp)];rfl
noncomputable def IB(l:List AE)(b:Int)(i:Int):List Int:=
 match l[i.toNat]? with
 |some x=>if x.C2=1/\Kp x.Jz b=true then[x.a_]else[]
 |none=>[]
noncomputable def Sf(l:List AE)(s:List Int)(b:Int):List Int:=cl l false false (s.flatMap (IB l b))
theorem T0(l:List AE)(b i:Int):(IB l b i).length<=1:=by
 unfold IB;split
 ·split<;>simp
 ·simp
theorem M7(l:List AE)(b:Int):∀s:List Int,(s.flatMap (IB l b)).length<=s.length
 |[]=>by simp
 |i::s=>by
  rw[yp,zA,zT];have:=M7 l b s;have:=T0 l b i;omega
theorem step_ok{t:AL}{a:Ah}(h:Mj t a.l_){s:List Int}(E:Y1 a.l_ s){b:Int}(M:0<=b/\b<=255):Cd a s b=some (Sf a.l_ s b):=by
 refine W.eq ?_;unfold Cd;have I:=E.n;refine AP (W.mono (W.list (l:=s) (λ(o:List Int) (i:Nat)=>(o,(i:Int))) (λo i=>o=(s.take i).flatMap (IB a.l_ b)) ?_ ?_ [] (by simp) (Q:=λr=>r=s.flatMap (IB a.l_ b))) λr G=>?_)
 ·intro o H;unfold DX;refine Bq (λh=>by omega) λ_=>AH ?_;simpa using H
 ·intro o i B H;unfold DX;refine Bq (λ_=>?_) λh=>by omega
  rw[FM B];obtain⟨k,V⟩:=zB (E.i _ (zY B)).1;have R:k<a.l_.length:=by have:=(E.i _ (zY B)).2;omega
  have ol:o.length<=i:=by rw[H];exact zM (M7 _ _ _) (by rw[yG];omega)
  have en:∀u,o++u=o++IB a.l_ b s[i]->∃s',(o++u,IntKind.i64.wrap ((i:Int)+1))=(s',((i+1:Nat):Int))/\s'=(s.take (i+1)).flatMap (IB a.l_ b):=by
   intro u hu;refine⟨_,by rw[G4 (by omega)],?_⟩;rw[OK (List.getElem?_eq_getElem B),List.flatMap_append,<-H,hu];simp
  have e1:IB a.l_ b s[i]=if a.l_[k].C2=1/\Kp a.l_[k].Jz b=true then[a.l_[k].a_]else[]:=by
   unfold IB;rw[V,zu,List.getElem?_eq_getElem R]
  rw[V]at *;rw[zd,FM R,zd];generalize a.l_[k]=x at e1⊢;rw[Gw];refine AP (AP (W.mono (Q:=λc=>c=decide (x.C2=1/\Kp x.Jz b=true)) ?_ λc hc=>?_))
  ·split
   ·rename_i h1;rw[has_eq _ M.1 M.2];exact AP (AH (AH (by simp[h1])))
   ·rename_i h1;exact AH (by simp[h1])
  ·subst hc;refine Bq (λhc=>Dc (GR (by simp;omega) (by simp;omega)) (AH (AH (en _ ?_)))) λhc=>AH (AH ?_)
   ·rw[e1,zk hc]
   ·have:=en [] (by rw[e1,zh hc]);rwa [z9]at this
 ·subst G;rw[NQ h ?_ (zM (M7 _ _ _) I)]
  ·exact AP (AH (AH rfl))
  ·intro i B;obtain⟨j,K,B⟩:=yb.1 B;unfold IB at B;split at B
   ·rename_i x D;split at B
    ·obtain rfl:=zw.1 B;exact(h.st x (zI D)).a
    ·cases B
   ·cases B
theorem U5{l:List AE}{b:Int}:Sf l [] b=[]:=QN
theorem Sy(i n:Nat):((i:Int)==(n:Int))=decide (i=n):=by
 by_cases h:i=n
 ·subst h;simp
 ·rw[zX h];simp;omega
theorem LW{Q:Bool->Prop}(h:Q true):W ((CH).bind λx=>some x) Q:=AP (Tq (x:=true) rfl (AH h))
end Go.Av.L
end
/-
 A part.
-/
section
namespace Go.Av.L
open Go.Av Go.Lib
set_option linter.unusedVariables false
set_option linter.unusedSimpArgs false
theorem St(l:List Int)(T:l.length<=1099511627776)(x:Int):W (CY l x) λr=>(0<=r)↔x∈l:=by
 unfold CY;refine AP (W.mono (W.list (l:=l) (λ(_:Unit) (i:Nat)=>(i:Int)) (λ_ i=>x∉l.take i) ?_ ?_ () (by simp) (Q:=λo=>match o with| .inl _=>x∉l| .inr r=>0<=r/\x∈l)) λo H=>?_)
 ·intro _ h;unfold Cj;refine Bq (λh=>by omega) λ_=>AH ?_;simpa using h
 ·intro _ i B h;unfold Cj;refine Bq (λ_=>?_) λh=>by omega
  rw[FM B,zd,Gw];split
  ·rename_i e;exact AH ⟨by omega,by rw[e];exact zY B⟩
  ·rename_i e;refine AH ⟨(),G4 (by omega),?_⟩;rw[OK (List.getElem?_eq_getElem B)];simp only[zm,zw,not_or];exact⟨h,e⟩
 ·cases o with
  |inl _=>exact AH ⟨λh=>absurd h (by decide),λh=>absurd h H⟩
  |inr r=>exact AH ⟨λ_=>H.2,λ_=>H.1⟩
theorem Pg(l:List Int)(T:l.length<=1099511627776)(x:Int):CJ l x=some (decide (x∈l)):=by
 refine W.eq ?_;unfold CJ;refine AP ((St l T x).mono λr G=>AH ?_);by_cases h:x∈l
 ·rw[zW h,zW (G.2 h)]
 ·rw[zX h,zX (λe=>h (G.1 e))]
theorem NV{t:AL}{a:Ah}(h:Mj t a.l_){s:List Int}(E:Y1 a.l_ s)(fr bk:Bool):Cx a s fr bk=some (decide (0∈cl a.l_ fr bk s)):=by
 unfold Cx;rw[NQ h E.i E.n,zd,Pg _ (by have:=(OH h (fr:=fr) (bk:=bk) (f:=s)).n;omega)];rfl
noncomputable def IY(l:List AE):List Int->List UInt8->Nat->List Int
 |set,[],i=>if(0:Int)∈cl l false true set then[(i:Int)]else[]
 |set,b::t,i=>(if(0:Int)∈cl l false false set then[(i:Int)]else[])++IY l (Sf l set b.toNat) t (i+1)
theorem NI(l:List AE):∀(s:List UInt8) (i:Nat),IY l [] s i=[]
 |[],i=>by simp[IY,QN]
 |b::t,i=>by simp[IY,QN,U5,NI l t (i+1)]
theorem SH(l:List AE):∀(s:List UInt8) (set:List Int) (i:Nat),(IY l set s i).length<=s.length+1
 |[],set,i=>by simp only[IY];split<;>simp
 |b::t,set,i=>by
  simp only[IY,zA,zT];have:=SH l t (Sf l set b.toNat) (i+1);split<;>simp<;>omega
theorem TG{t:AL}{a:Ah}(h:Mj t a.l_)(s:List UInt8)(I:s.length<=1073741824):∀(k i:Nat) (set got:List Int),i+k=s.length->Y1 a.l_ set->got.length<=i->(∀bk,(i=0->(decide ((0:Int)∈cl a.l_ true bk set))=decide ((0:Int)∈cl a.l_ false bk set))\/(i=0/\bk≠decide (i=s.length)))->
  W (loop (Cg a s) (got,set,(i:Int))) λr=>r=got++IY a.l_ set (s.drop i) i:=by
 intro k
 induction k with
 | zero=>
  intro i set got B E hg F;obtain rfl:i=s.length:=by omega
  refine W.WM ?_;unfold Cg;refine Bq (λP=>?_) λP=>AH ?_
  ·have e0:((s.length:Int)==(0:Int))=decide (s.length=0):=Sy _ 0;simp only[Sy,decide_true];rw[e0,NV h E];have es:decide ((0:Int)∈cl a.l_ (decide (s.length=0)) true set)=decide ((0:Int)∈cl a.l_ false true set):=by
    by_cases C:s.length=0
    ·rw[zW C];rcases F true with F|F
     ·exact F C
     ·exact absurd F.2 (by simp)
    ·rw[zX C]
   rw[es,List.drop_length];simp only[IY,zd,BU];refine AP (Bq (λC=>Dc (GR (by simp;omega) (by simp;omega)) (AH (AH ?_))) λC=>AH (AH ?_))
   ·simp only[LK];rw[zk C]
   ·simp only[LK];rw[zh C,z9]
  ·have:set=[]:=zi (by omega);subst this;simp only[LK];rw[NI,z9]
 | succ k ih=>
  intro i set got B E hg F;have S:i<s.length:=by omega
  refine W.WM ?_;rw[Cg];refine Bq (λP=>?_) λP=>AH ?_
  ·have e0:((i:Int)==(0:Int))=decide (i=0):=Sy _ 0;have N:i≠s.length:=by omega
   simp only[Sy,N,decide_false];rw[e0,NV h E];have es:decide ((0:Int)∈cl a.l_ (decide (i=0)) false set)=decide ((0:Int)∈cl a.l_ false false set):=by
    by_cases C:i=0
    ·rw[zW C];rcases F false with F|F
     ·exact F C
     ·exact absurd F.2 (by simp[N])
    ·rw[zX C]
   rw[es];simp only[zd,Aq];rw[UI S];have M:=UT s[i];have key:∀g:List Int,g.length<=i+1->g=got++(if(0:Int)∈cl a.l_ false false set then[(i:Int)]else[])->
     W ((some (s[i].toNat:Int)).bind λx19=>(Cd a set x19).bind λx20=>some (Sum.inl (g,x20,IntKind.i64.wrap ((i:Int)+(1:Int))):((List Int)×(List Int)×Int)⊕(List Int))) (LK (Cg a s) λr=>r=got++IY a.l_ set (s.drop i) i):=by
    intro g hg1 hg2;rw[zd,step_ok h E M,zd];refine AH ?_;simp only[LK];rw[G4 (by omega)];refine(ih (i+1) (Sf a.l_ set s[i].toNat) g (by omega) (OH h) hg1 (λbk=>.inl λh=>by omega)).mono λr G=>?_;rw[G,drop_cons S,IY,hg2,zU]
   refine AP (Bq (λC=>Dc (GR (by simp;omega) (by simp;omega)) (AH (key (got++[(i:Int)]) (by simp;omega) ?_))) λC=>AH (key got (by omega) ?_))
   ·rw[zk C]
   ·rw[zh C,z9]
  ·have:set=[]:=zi (by omega);subst this;simp only[LK];rw[NI,z9]
theorem Uq{t:AL}{a:Ah}(h:XI t a)(s:List UInt8)(I:s.length<=1073741824)(i:Nat)(B:i<=s.length)(E:¬(i=0/\s=[])):B5 a s (i:Int)=some (IY a.l_ (cl a.l_ (decide (i=0)) false [a.AZ]) (s.drop i) i):=by
 refine W.eq ?_;unfold B5;refine Bd (λM=>?_) λ_=>?_
 ·simp only[zL,zq]at M;omega
 rw[show((i:Int)==(0:Int))=decide (i=0) from Sy i 0,Pn h,zd];have O:∀j∈[a.AZ],Oy a.l_.length j:=by intro j K;obtain rfl:=zw.1 K;exact h.first
 refine AP ((TG h.l s I (s.length - i) i _ [] (by omega) (OH h.l) (ye _) (λbk=>?_)).mono λr G=>AH (by rw[G,yg]));by_cases J:i=0
 ·have N:s.length≠0:=λe=>E ⟨J,zi e⟩;cases bk
  ·left;intro _;rw[zW J,VY h.l (λe=>e) (λe=>e) O,VY h.l (λe=>by cases e) (λe=>e) O]
  ·right;refine⟨J,?_⟩;rw[zX (by omega)];decide
 ·exact .inl λe=>absurd e J
theorem S7{t:AL}{a:Ah}(h:XI t a):B5 a [] 0=some (if(0:Int)∈cl a.l_ true true [a.AZ]then[0]else[]):=by
 refine W.eq ?_;have O:∀j∈[a.AZ],Oy a.l_.length j:=by intro j K;obtain rfl:=zw.1 K;exact h.first
 have e2:cl a.l_ true true (cl a.l_ true false [a.AZ])=cl a.l_ true true [a.AZ]:=by
  refine PU λj=>⟨λK=>?_,λK=>?_⟩
  ·induction K with
   |base h'=>exact((GG h.l O).1 h').mono (λe=>e) (λe=>by cases e)
   |step _ I ih=>exact .step ih I
  ·induction K with
   |base h'=>exact .base ((GG h.l O).2 (.base h'))
   |step _ I ih=>exact .step ih I
 unfold B5;refine Bd (λM=>by simp at M) λ_=>?_;rw[show((0:Int)==(0:Int))=true from rfl,Pn h,zd];refine AP (W.mono (W.WM ?_) λr G=>AH G);unfold Cg;refine Bq (λP=>?_) λP=>AH ?_
 ·simp only[yK,Int.natCast_zero,show((0:Int)==(0:Int))=true from rfl];rw[NV h.l (OH h.l),e2];simp only[zd,BU];refine AP (Bq (λC=>Dc (GR (by simp) (by simp)) (AH (AH ?_))) λC=>AH (AH ?_))
  ·simp only[LK];rw[zk C];rfl
  ·simp only[LK];rw[zh C]
 ·exfalso;have:a.AZ∈cl a.l_ true false [a.AZ]:=(GG h.l O).2 (.base (by simp));have:=List.length_pos_of_mem this;omega
theorem Na(l:List AE):∀(s:List UInt8) (set:List Int) (i:Nat),∀x∈IY l set s i,(i:Int)<=x/\x<=((i+s.length:Nat):Int)
 |[],set,i=>by
  intro x D;simp only[IY]at D;split at D
  ·simp only[zw]at D;simp only[yK];omega
  ·simp at D
 | b::t,set,i=>by
  intro x D;simp only[IY,zm]at D;simp only[zT];rcases D with D|D
  ·split at D
   ·simp only[zw]at D;omega
   ·simp at D
  ·have:=Na l t _ (i+1) x D;omega
noncomputable def Kk(a:Ah)(s:List UInt8)(i:Nat):List Int:=if i=0/\s=[]then(if(0:Int)∈cl a.l_ true true [a.AZ]then[0]else[])else IY a.l_ (cl a.l_ (decide (i=0)) false [a.AZ]) (s.drop i) i
theorem S6{t:AL}{a:Ah}(h:XI t a)(s:List UInt8)(I:s.length<=1073741824)(i:Nat)(B:i<=s.length):B5 a s (i:Int)=some (Kk a s i):=by
 unfold Kk;split
 ·rename_i C;obtain⟨rfl,rfl⟩:=C;exact S7 h
 ·rename_i C;exact Uq h s I i B C
theorem RX(a:Ah)(s:List UInt8){i:Nat}(B:i<=s.length):∀x∈Kk a s i,(i:Int)<=x/\x<=(s.length:Int):=by
 intro x D;unfold Kk at D;split at D
 ·rename_i C;split at D
  ·simp only[zw]at D;omega
  ·simp at D
 ·have:=Na _ _ _ _ x D;rw[yT]at this;omega
theorem O2(l:List AE):∀(s:List UInt8) (set:List Int) (i:Nat),(IY l set s i).Pairwise (·<·)
 |[],set,i=>by
  simp only[IY];split<;>simp
 |b::t,set,i=>by
  simp only[IY];refine List.pairwise_append.2 ⟨by split<;>simp,O2 l t _ (i+1),λa U c hc=>?_⟩;have:=Na l t _ (i+1) c hc;split at U
  ·simp only[zw]at U;omega
  ·simp at U
theorem R3(a:Ah)(s:List UInt8)(i:Nat):(Kk a s i).Pairwise (·<·):=by
 unfold Kk;split
 ·split<;>simp
 ·exact O2 _ _ _ _
end Go.Av.L
end
