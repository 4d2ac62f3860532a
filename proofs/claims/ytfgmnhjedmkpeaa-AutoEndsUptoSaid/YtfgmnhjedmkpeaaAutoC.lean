/-
  Several texts in one.
-/
import Derived.Test.YtfgmnhjedmkpeaaAvUp
set_option linter.unusedSimpArgs false
/-
 A part.
-/
section
namespace Go.Av.L
open Go.Av Go.Lib
set_option linter.unusedVariables false
set_option linter.unusedSimpArgs false
theorem Ss:∀n:Fin 256,0<=LQ .u8 (n.1:Int) 6/\LQ .u8 (n.1:Int) 6<4/\0<=Lr .u8 (n.1:Int) 63:=by decide+kernel
noncomputable def Kp(s:BB)(b:Int):Bool:=(Cc s b).getD false
theorem has_eq(s:BB){b:Int}(h0:0<=b)(h1:b<=255):Cc s b=some (Kp s b):=by
 have hw:∃v,Cc s b=some v:=by
  obtain⟨n,rfl⟩:=zB h0;obtain⟨e1,e2,e3⟩:=Ss ⟨n,by omega⟩;simp only at e1 e2 e3;unfold Cc;obtain⟨k,G⟩:=zB e1;rw[G]at e2⊢;have hk4:k<([s.w0,s.w1,s.w2,s.w3]:List Int).length:=by simp;omega
  rw[FM hk4,zd,zW e3,MK];exact⟨_,rfl⟩
 obtain⟨v,J⟩:=hw;unfold Kp;rw[J];rfl
theorem TO(p:Bt):W (Dm p) λ_=>True:=by
 unfold Dm;refine Bq (λ_=>AH trivial) λT=>?_;refine AP (W.mono (W.loop (λs=>∃i:Nat,s.2.2=(i:Int)/\i<=p.L.length/\s.1.length=i) (λs=>(p.L.length - s.2.2).toNat) ⟨0,rfl,by omega,rfl⟩ ?_ (Q:=λ_=>True)) λr _=>by cases r<;>exact AH trivial);rintro⟨x1,x2,x3⟩ ⟨i,D,h1,F⟩;simp only at D F;subst D;unfold E0;refine Bq (λE=>?_) λ_=>AH trivial;have D:i<p.L.length:=by omega
 rw[FM D];have e2:IntKind.i64.wrap ((i:Int)+1)=((i+1:Nat):Int):=G4 (by omega);rw[e2];have get:∀{a:Int} {b:Bool},b=(decide (a>=0)&&decide (a<(i:Int)))->b=true->∃v,Iz x1 a=some v:=by
  intro a b E h;rw[E]at h;simp only[zf,zq]at h;obtain⟨k,rfl⟩:=zB h.1;exact⟨_,FM (show k<x1.length by have:=h.2;omega)⟩
 refine AP (AH (AP (W.mono (Q:=λ_=>True) (Bd (λ_=>AH trivial) λ_=>AH trivial) λx6 _=>?_)));refine Bq (λ_=>AH trivial) λ_=>Bd (λ_=>AH trivial) λ_=>?_;refine AP (W.mono (Q:=λ_=>True) (Bd (λh=>?_) λ_=>AH trivial) λx7 _=>?_)
 ·obtain⟨v,J⟩:=get rfl h;rw[J];exact AP (AH (AH trivial))
 refine AP (W.mono (Q:=λ_=>True) (Bd (λh=>?_) λ_=>AH trivial) λx9 _=>?_)
 ·obtain⟨v,J⟩:=get rfl h;rw[J];exact AP (AH (AH trivial))
 refine Bq (λ_=>AH trivial) λ_=>Dc (GR (by simp;omega) (by simp;omega)) (AH ?_);exact⟨⟨i+1,rfl,by omega,by simp;omega⟩,by simp only;omega⟩
def Ql(n:AN)(i:Int):Prop:=
 ((n.Kind=2\/n.Kind=3)->0<=n.A/\n.A<i/\0<=n.B/\n.B<i)/\
 (n.Kind=4->0<=n.A/\n.A<i/\0<=n.Min/\n.Min<=255/\(n.Max= -1\/n.Min<=n.Max/\n.Max<=255))/\
 (n.Kind=5->0<=n.A/\n.A<i)
def MQ(P:Program):Nat->TypeId->AA->AA->Bool
 |0,_,_,_=>false
 |d+1,t,x,y=>
  match P.underlying t,x,y with
  |some .bool,.bool _,.bool _=>true
  |some (.int _),.int k _,.int k' _=>decide (k=k')
  |some .string,.str _,.str _=>true
  |some (.struct fs),.agg xs,.agg ys=> !P.stoodInHeld t&&fs.toList.all λf=>decide (f.name="_")||(match Dw P f.type xs f.offset,Dw P f.type ys f.offset with|some a,some b=>MQ P d f.type a b|_,_=>false)
  |some (.array n e),.agg xs,.agg ys=>match BK P e with|some z=>(List.range n).all λi=>(match Dw P e xs (i*z),Dw P e ys (i*z)with|some a,some b=>MQ P d e a b|_,_=>false)|none=>false
  |_,_,_=>false
theorem Mb {P:Program} {eq:TypeId->AA->AA->Option Bool} {sm:TypeId->AA->AA->Bool} (h:∀t a b,sm t a b=true->∃v,eq t a b=some v) {xs ys:List AA}:∀fs:List Field,(fs.all λf=>decide (f.name="_")||(match Dw P f.type xs f.offset,Dw P f.type ys f.offset with|some a,some b=>sm f.type a b|_,_=>false))=true->∃v,eqFields P eq xs ys fs=some v
 |[],_=>⟨true,rfl⟩
 | f::fs,K=>by
  simp only[yJ,zf]at K;obtain⟨v,J⟩:=Mb h fs K.2;unfold eqFields;by_cases H:f.name="_"
  ·rw[zk H];exact⟨v,J⟩
  ·rw[zh H];have h1:=K.1;simp only[H,decide_false,qp]at h1;split at h1
   ·rename_i a b R E;rw[R,E];obtain⟨u,hu⟩:=h _ _ _ h1;simp only[hu];cases u
    ·exact⟨false,rfl⟩
    ·exact⟨v,J⟩
   ·cases h1
theorem NU{P:Program}{eq:TypeId->AA->AA->Option Bool}{sm:TypeId->AA->AA->Bool}(h:∀t a b,sm t a b=true->∃v,eq t a b=some v){e:TypeId}{z:Nat}{xs ys:List AA}:∀n i:Nat,(∀j,i<=j->j<i+n->(match Dw P e xs (j*z),Dw P e ys (j*z)with|some a,some b=>sm e a b|_,_=>false)=true)->∃v,GB P eq e z xs ys n i=some v
 |0,i,_=>⟨true,rfl⟩
 | n+1,i,K=>by
  obtain⟨v,J⟩:=NU h (e:=e) (z:=z) (xs:=xs) (ys:=ys) n (i+1) (λj h1 F=>K j (by omega) (by omega));have h1:=K i (zr _) (by omega);unfold GB;split at h1
  ·rename_i a b R E;rw[R,E];obtain⟨u,hu⟩:=h _ _ _ h1;simp only[hu];cases u
   ·exact⟨false,rfl⟩
   ·exact⟨v,J⟩
  ·cases h1
theorem TX{P:Program}:∀(d:Nat) (t:TypeId) (x y:AA),MQ P d t x y=true->∃v,GZ P d t x y=some v
 |0,_,_,_,h=>by cases h
 | d+1,t,x,y,h=>by
  have ih:=TX (P:=P) d;unfold MQ at h;split at h
  ·rename_i hu;unfold GZ;rw[hu];exact⟨_,rfl⟩
  ·rename_i hu;unfold GZ;rw[hu];simp only[zq]at h;exact⟨_,zk h⟩
  ·rename_i hu;unfold GZ;rw[hu];exact⟨_,rfl⟩
  ·rename_i hu;simp only[zf,zx]at h;unfold GZ;rw[hu];simp only[h.1];exact Mb (sm:=MQ P d) ih _ h.2
  ·rename_i hu;split at h
   ·rename_i z hz;unfold GZ;rw[hu];simp only[hz,zd];refine NU (sm:=MQ P d) ih _ 0 λj _ C=>?_;exact zC.1 h j (yf.2 (by omega))
   ·cases h
  ·cases h
theorem V3{P:Program}{t:TypeId}{xs ys:List AA}(h:P.eqGuardType P.depth t=false)(F:MQ P 5 t (.agg xs) (.agg ys)=true->True)(U:MQ P 10000 t (.agg xs) (.agg ys)=true):∃v,Va P t xs ys=some v:=by
 obtain⟨v,J⟩:=TX _ _ _ _ U;unfold Va;rw[zh (by rw[h];decide)];exact⟨v,J⟩
theorem Wd(a b:AN):∃v,Va cfg.P 68 [.int .i64 a.Kind,.int .i64 a.A,.int .i64 a.B,.int .i64 a.Min,.int .i64 a.Max,.int .i64 a.Bl,.int .u64 a.Set.w0,.int .u64 a.Set.w1,.int .u64 a.Set.w2,.int .u64 a.Set.w3] [.int .i64 b.Kind,.int .i64 b.A,.int .i64 b.B,.int .i64 b.Min,.int .i64 b.Max,.int .i64 b.Bl,.int .u64 b.Set.w0,.int .u64 b.Set.w1,.int .u64 b.Set.w2,.int .u64 b.Set.w3]=some v:=by
 refine V3 (by kernel_rfl) (λ_=>trivial) (by kernel_rfl)
theorem WV(n:AN)(i:Int):W (C3 n i) λb=>b=true->Ql n i:=by
 have m1:∀a,C7 a i=some (decide (0<=a)&&decide (a<i)):=λa=>rfl;unfold C3;refine AP (W.mono (Q:=λ_=>True) ?_ λx _=>?_)
 ·unfold C8;refine AP (W.mono (Q:=λ_=>True) (Bd (λ_=>AH trivial) λ_=>Bd (λ_=>AH trivial) λ_=>AH trivial) λ_ _=>Bd (λ_=>AH trivial) λ_=>Bd (λ_=>AH trivial) λ_=>?_);refine AP (W.mono (Q:=λ_=>True) (Bd (λ_=>AH trivial) λ_=>AH trivial) λ_ _=>Bd (λ_=>AH trivial) λ_=>Bd (λ_=>AH trivial) λ_=>Bd (λ_=>AH trivial) λ_=>AH trivial)
 obtain⟨x1,x2⟩:=x;refine AP (W.mono (Q:=λ_=>True) (Bd (λ_=>AH trivial) λ_=>?_) λx3 _=>?_)
 ·obtain⟨v,J⟩:=Wd x1 n;exact AP (Tq J (AH trivial))
 refine Bd (λ_=>AH λh=>by cases h) λ_=>?_;rw[Gw];refine AP (W.mono (Q:=λb=>b=decide (n.Kind=2\/n.Kind=3)) ?_ λx5 Z=>?_)
 ·split<;>rename_i G
  ·exact AH (by simp[G])
  ·exact AH (by by_cases U:n.Kind=3<;>simp[G,U])
 subst Z;refine Bq (λh=>?_) λh=>?_
 ·rw[m1];refine AP (AH (AP (W.mono (Q:=λb=>b=true->Ql n i) ?_ λb E=>AH E)));refine Bd (λR=>?_) λ_=>AH λh=>by cases h
  rw[m1];refine AP (AH (AH λE=>?_));simp only[zf,zq]at R E;exact⟨λ_=>⟨R.1,R.2,E.1,E.2⟩,λY=>by omega,λZ=>by omega⟩
 ·rw[Gw,Gw];split
  ·rename_i Y;rw[m1];refine AP (AH (AH λE=>?_));simp only[zf,zL,zq,z3]at E;exact⟨λh=>by omega,λ_=>by omega,λh=>by omega⟩
  ·split
   ·rename_i Z;rw[m1];refine AP (AH (AH λE=>?_));simp only[zf,zq]at E;exact⟨λh=>by omega,λ_=>by omega,λh=>by omega⟩
   ·exact AH λ_=>⟨λh=>by omega,λh=>by omega,λh=>by omega⟩
structure JU(t:AL):Prop where
 len:t.Ad.length<=1024
 root:0<=t.A2/\t.A2<t.Ad.length
 nodes:∀(i:Nat) n,t.Ad[i]?=some n->Ql n i
theorem Sd(t:AL):W (Cm t) λb=>b=true->JU t:=by
 unfold Cm;refine Bd (λ_=>AH λh=>by cases h) λE=>?_;simp only[zH,zl]at E;refine AP (W.mono (W.loop (λs=>∃i:Nat,s=(i:Int)/\i<=t.Ad.length/\∀(j:Nat) n,j<i->t.Ad[j]?=some n->Ql n j) (λs=>(t.Ad.length - s).toNat) ⟨0,rfl,by omega,λj n C=>by omega⟩ ?_ (Q:=λo=>match o with| .inl _=>JU t| .inr b=>b=false)) λo X=>?_)
 ·rintro _ ⟨i,rfl,h1,F⟩;unfold EZ;refine Bq (λT=>?_) λT=>AH ?_
  ·have D:i<t.Ad.length:=by omega
   rw[FM D];refine AP (AH (AP ((WV _ _).mono λb hbn=>Bd (λ_=>AH rfl) λhb2=>AH ?_)));rw[show IntKind.i64.wrap ((i:Int)+1)=((i+1:Nat):Int) from G4 (by omega)];refine⟨⟨i+1,rfl,by omega,λj n C H=>?_⟩,by omega⟩;by_cases hj2:j<i
   ·exact F j n hj2 H
   ·obtain rfl:j=i:=by omega
    rw[List.getElem?_eq_getElem D]at H;cases H;exact hbn (by simpa using hb2)
  ·exact⟨by omega,by omega,λj n H=>F j n (by have:=(List.getElem?_eq_some_iff.1 H).1;omega) H⟩
 ·cases o with
  |inl u=>exact AH λ_=>X
  |inr b=>exact AH λh=>by rw[X]at h;cases h
end Go.Av.L
end
/-
 A part.
-/
section
namespace Go.Av.L
open Go.Av Go.Lib
set_option linter.unusedVariables false
set_option linter.unusedSimpArgs false
structure Pu(t:AL)(n:Nat)(s:AE):Prop where
 a:0<=s.a_/\s.a_<n
 b:0<=s.b_/\s.b_<n
 Ug:s.C2=1->∃k∈t.Ad,k.Kind=1/\k.Set=s.Jz
theorem Pu.up{t:AL}{n m:Nat}{s:AE}(h:Pu t n s)(hm:n<=m):Pu t m s:=⟨⟨h.a.1,by have:=h.a.2;omega⟩,⟨h.b.1,by have:=h.b.2;omega⟩,h.Ug⟩
structure Mj(t:AL)(l:List AE):Prop where
 pos:0<l.length
 le:l.length<=4096
 st:∀s∈l,Pu t l.length s
structure RN(t:AL)(m:AM):Prop where
 tt:m.t_=t
 J1:m.DP=4096
 l:Mj t m.a_.l_
structure Laid(t:AL)(n:Nat)(r:Int×AM×List AE):Prop where
 tt:r.2.1.t_=t
 J1:r.2.1.DP=4096
 l:Mj t r.2.2
 ge:n<=r.2.2.length
 i:0<=r.1/\r.1<r.2.2.length
theorem Mj.snoc{t:AL}{l:List AE}{s:AE}(h:Mj t l)(K:Pu t (l.length+1) s)(T:l.length<4096):Mj t (l++[s]):=by
 refine⟨by simp,by simp;omega,λx N=>?_⟩;rw[zA,zJ];rcases zm.1 N with N|N
 ·exact(h.st x N).up (by omega)
 ·obtain rfl:=zw.1 N;exact K
theorem Wp{t:AL}{m:AM}{s:AE}(h:RN t m)(K:Pu t m.a_.l_.length s):W (Az m s) (Laid t m.a_.l_.length):=by
 unfold Az;refine Bd (λ_=>AH ⟨h.tt,h.J1,h.l,zr _,by simp only;have:=h.l.pos;omega⟩) λI=>?_;simp only[zH,zl,h.J1]at I;have T:m.a_.l_.length<4096:=by have:=I.2;omega
 refine Dc (GR (by simp;omega) (by simp;omega)) (AH ⟨h.tt,h.J1,h.l.snoc (K.up (m:=m.a_.l_.length+1) (by omega)) T,by simp,?_⟩);simp only[zA,zJ];rw[Qs (by omega) (by omega)];omega
theorem Lj{t:AL}{n:Nat}{k a b:Int}(G:k≠1)(R:0<=a/\a<n)(E:0<=b/\b<n){z:BB}:Pu t n ⟨k,a,b,z⟩:=⟨R,E,λh=>absurd h G⟩
theorem Laid.m{t:AL}{n:Nat}{x1:Int}{x2:AM}{x3:List AE}{f:Int}(h:Laid t n (x1,x2,x3)):RN t ⟨x2.t_,⟨x3,f⟩,x2.DP,x2.A0⟩:=⟨h.tt,h.J1,h.l⟩
theorem Laid.up{t:AL}{n n':Nat}{r:Int×AM×List AE}(h:Laid t n r)(H:n'<=n):Laid t n' r:=⟨h.tt,h.J1,h.l,zM H h.ge,h.i⟩
structure XI(t:AL)(a:Ah):Prop where
 l:Mj t a.l_
 first:0<=a.AZ/\a.AZ<a.l_.length
end Go.Av.L
end
/-
 A part.
-/
section
namespace Go.Av.L
open Go.Av Go.Lib
set_option linter.unusedVariables false
set_option linter.unusedSimpArgs false
def Fm(l:List AE)(fr bk:Bool)(i:Int):List Int:=
 match l[i.toNat]? with
 |some x=>if x.C2=2 then[x.a_,x.b_]else if(x.C2=3/\fr=true)\/(x.C2=4/\bk=true)then[x.a_]else[]
 |none=>[]
inductive L0(l:List AE)(fr bk:Bool)(from_:List Int):Int->Prop
 |base {i:Int}:i∈from_->L0 l fr bk from_ i
 |step {i j:Int}:L0 l fr bk from_ i->j∈Fm l fr bk i->L0 l fr bk from_ j
def Oy(n:Nat)(i:Int):Prop:=0<=i/\i<n
theorem PG{t:AL}{l:List AE}(h:Mj t l){fr bk:Bool}{i j:Int}(C:j∈Fm l fr bk i):Oy l.length j:=by
 unfold Fm at C;split at C
 ·rename_i x N;have K:=h.st x (zI N);split at C
  ·rcases zP.1 C with rfl|C
   ·exact K.a
   ·obtain rfl:=zw.1 C;exact K.b
  ·split at C
   ·obtain rfl:=zw.1 C;exact K.a
   ·cases C
 ·cases C
theorem L0.in{t:AL}{l:List AE}(h:Mj t l){fr bk:Bool}{f:List Int}(I:∀i∈f,Oy l.length i){j:Int}(C:L0 l fr bk f j):Oy l.length j:=by
 cases C with
 |base h=>exact I _ h
 |step _ F=>exact PG h F
theorem N6(l:List AE)(fr bk:Bool)(i:Int):(Fm l fr bk i).length<=2:=by
 unfold Fm;split
 ·split
  ·simp
  ·split<;>simp
 ·simp
theorem IW{l:List AE}{fr bk fr' bk':Bool}(h1:fr=true->fr'=true)(F:bk=true->bk'=true){i j:Int}(h:j∈Fm l fr bk i):j∈Fm l fr' bk' i:=by
 unfold Fm at h⊢;split at h
 ·split at h
  ·rename_i G;rw[zk G];exact h
  ·rename_i G;split at h
   ·rename_i hc;rw[zh G,zk (hc.imp (λh=>⟨h.1,h1 h.2⟩) λh=>⟨h.1,F h.2⟩)];exact h
   ·cases h
 ·cases h
theorem L0.mono{l:List AE}{fr bk fr' bk':Bool}(h1:fr=true->fr'=true)(F:bk=true->bk'=true){f:List Int}{j:Int}(h:L0 l fr bk f j):L0 l fr' bk' f j:=by
 induction h with
 |base h=>exact .base h
 |step _ H ih=>exact .step ih (IW h1 F H)
open Classical in
noncomputable def cl(l:List AE)(fr bk:Bool)(f:List Int):List Int:=((List.range l.length).filter λi:Nat=>decide (L0 l fr bk f (i:Int))).map λi:Nat=>(i:Int)
theorem GG{t:AL}{l:List AE}(h:Mj t l){fr bk:Bool}{f:List Int}(I:∀i∈f,Oy l.length i){j:Int}:j∈cl l fr bk f↔L0 l fr bk f j:=by
 unfold cl;simp only[zN,yi,yf,zq];constructor
 ·rintro⟨i,⟨_,F⟩,rfl⟩;exact F
 ·intro C;obtain⟨h1,F⟩:=C.in h I;obtain⟨k,rfl⟩:=zB h1;exact⟨k,⟨by omega,C⟩,rfl⟩
theorem S1{l:List AE}{fr bk:Bool}{f:List Int}:∀j∈cl l fr bk f,Oy l.length j:=by
 intro j C;unfold cl at C;simp only[zN,yi,yf]at C;obtain⟨i,⟨h1,_⟩,rfl⟩:=C;exact⟨by omega,by omega⟩
theorem Vq{l:List AE}{fr bk:Bool}{f:List Int}:(cl l fr bk f).length<=l.length:=by
 unfold cl;rw[yh];exact zM (yx _ _) (by simp)
open Classical in
theorem PU{l:List AE}{fr bk fr' bk':Bool}{f f':List Int}(h:∀j,L0 l fr bk f j↔L0 l fr' bk' f' j):cl l fr bk f=cl l fr' bk' f':=by
 unfold cl;congr 1;refine List.filter_congr λi _=>?_;by_cases M:L0 l fr bk f (i:Int)
 ·rw[zW M,zW ((h _).1 M)]
 ·rw[zX M,zX (λe=>M ((h _).2 e))]
theorem VY{t:AL}{l:List AE}(h:Mj t l){fr bk fr' bk':Bool}(h1:fr'=true->fr=true)(F:bk'=true->bk=true){f:List Int}(I:∀i∈f,Oy l.length i):cl l fr' bk' (cl l fr bk f)=cl l fr bk f:=by
 refine PU λj=>⟨λC=>?_,λC=>.base ((GG h I).2 C)⟩
 induction C with
 |base h'=>exact(GG h I).1 h'
 |step _ H ih=>exact .step ih (IW h1 F H)
theorem QN{l:List AE}{fr bk:Bool}:cl l fr bk []=[]:=by
 have:∀j,¬L0 l fr bk [] j:=by
  intro j C
  induction C with
  |base h=>cases h
  |step _ _ ih=>exact ih
 unfold cl;rw[qo,yP];intro i _;simp[this]
def NR(l:List Bool):Nat:=(l.filter λb=> !b).length
theorem M5:∀(l:List Bool) (i:Nat),l[i]?=some false->NR (l.set i true)+1=NR l
 |[],i,h=>by simp at h
 |b::l,0,h=>by
  simp at h;subst h;simp[NR]
 |b::l,i+1,h=>by
  have ih:=M5 l i (by simpa using h);unfold NR at ih⊢;rw[List.set_cons_succ];cases b
  ·simp only[y8,yF,if_true,zT];omega
  ·simpa using ih
structure CI(l:List AE)(fr bk:Bool)(f todo:List Int)(inn:List Bool):Prop where
 len:inn.length=l.length
 ZM:∀i:Nat,inn[i]?=some true->L0 l fr bk f i
 Y2:∀i∈todo,L0 l fr bk f i
 Z2:∀i∈f,i∈todo\/inn[i.toNat]?=some true
 step:∀i:Nat,inn[i]?=some true->∀j∈Fm l fr bk i,j∈todo\/inn[j.toNat]?=some true
 room:todo.length+2*NR inn<=f.length+2*l.length
theorem CI.mark{t:AL}{l:List AE}(h:Mj t l){fr bk:Bool}{f todo:List Int}(I:∀i∈f,Oy l.length i){inn:List Bool}{k:Nat}(c:CI l fr bk f (todo++[(k:Int)]) inn)(G:inn[k]?=some false):
  CI l fr bk f (todo++Fm l fr bk k) (inn.set k true):=by
 have O:k<inn.length:=(List.getElem?_eq_some_iff.1 G).1;have De:∀{j:Nat},inn[j]?=some true->(inn.set k true)[j]?=some true:=by
  intro j C;by_cases e:k=j
  ·subst e;rw[List.getElem?_set_self O]
  ·rw[List.getElem?_set_ne e];exact C
 have lift:∀{j:Int},Oy l.length j->j∈todo++[(k:Int)]\/inn[j.toNat]?=some true->j∈todo++Fm l fr bk k\/(inn.set k true)[j.toNat]?=some true:=by
  intro j M C;rcases C with C|C
  ·rcases zm.1 C with C|C
   ·exact .inl (List.mem_append_left _ C)
   ·obtain rfl:=zw.1 C;right;rw[zu,List.getElem?_set_self O]
  ·exact .inr (De C)
 have rk:L0 l fr bk f k:=c.Y2 _ (by simp);refine⟨by rw[yj];exact c.len,?_,?_,λi D=>lift (I i D) (c.Z2 i D),?_,?_⟩
 ·intro i D;by_cases e:k=i
  ·subst e;exact rk
  ·rw[List.getElem?_set_ne e]at D;exact c.ZM i D
 ·intro i D;rcases zm.1 D with D|D
  ·exact c.Y2 i (by simp[D])
  ·exact .step rk D
 ·intro i D j C;by_cases e:k=i
  ·subst e;exact .inl (List.mem_append_right _ C)
  ·rw[List.getElem?_set_ne e]at D;exact lift (PG h C) (c.step i D j C)
 ·have:=c.room;have h1:=M5 inn k G;have F:=N6 l fr bk k;simp only[zA,zJ]at this⊢;omega
theorem CI.skip{l:List AE}{fr bk:Bool}{f todo:List Int}{inn:List Bool}{k:Nat}(c:CI l fr bk f (todo++[(k:Int)]) inn)(G:inn[k]?=some true):CI l fr bk f todo inn:=by
 have lift:∀{j:Int},j∈todo++[(k:Int)]\/inn[j.toNat]?=some true->j∈todo\/inn[j.toNat]?=some true:=by
  intro j C;rcases C with C|C
  ·rcases zm.1 C with C|C
   ·exact .inl C
   ·obtain rfl:=zw.1 C;exact .inr (by rw[zu];exact G)
  ·exact .inr C
 refine⟨c.len,c.ZM,λi D=>c.Y2 i (by simp[D]),λi D=>lift (c.Z2 i D),λi D j C=>lift (c.step i D j C),?_⟩;have:=c.room;simp only[zA,zJ]at this;omega
theorem CI.fin{t:AL}{l:List AE}(h:Mj t l){fr bk:Bool}{f:List Int}{inn:List Bool}(I:∀i∈f,Oy l.length i)(c:CI l fr bk f [] inn)(i:Nat):inn[i]?=some true↔L0 l fr bk f i:=by
 refine⟨c.ZM i,λM=>?_⟩;have:∀j:Int,L0 l fr bk f j->inn[j.toNat]?=some true:=by
  intro j C
  induction C with
  |base h=>exact(c.Z2 _ h).resolve_left (by simp)
  |@step i j D H ih=>
   obtain⟨k,rfl⟩:=zB (D.in h I).1;rw[zu]at ih;exact(c.step k ih j H).resolve_left (by simp)
 have:=this i M;rwa [zu]at this
theorem US{α:Type}:∀{l:List α},0<l.length->∃m x,l=m++[x]
 |[],h=>by simp at h
 |a::l,_=>⟨(a::l).dropLast,(a::l).getLast (by simp),(List.dropLast_concat_getLast (by simp)).symm⟩
open Classical in
theorem NQ{t:AL}{a:Ah}(h:Mj t a.l_){f:List Int}(I:∀i∈f,Oy a.l_.length i)(T:f.length<=4096)(fr bk:Bool):B3 a f fr bk=some (cl a.l_ fr bk f):=by
 refine W.eq ?_;unfold B3;have hle:=h.le;refine Dc (by unfold ZB;exact zW ⟨by omega,by omega,by omega⟩) (Dc (GR (by omega) (by omega)) ?_);refine AP (W.mono (Q:=λinn=>CI a.l_ fr bk f [] inn) (W.loop (λs=>CI a.l_ fr bk f s.1 s.2) (λs=>s.1.length+3*NR s.2) ?_ ?_) λinn c=>?_)
 ·have er:∀i:Nat,(List.replicate a.l_.length false)[i]?≠some true:=by
   intro i D;rw[List.getElem?_replicate]at D;split at D<;>simp at D
  have e:((a.l_.length:Nat):Int).toNat=a.l_.length:=zu _;simp only[e];refine⟨by simp,λi D=>absurd D (er i),λi D=>.base D,λi D=>.inl D,λi D=>absurd D (er i),?_⟩;have:NR (List.replicate a.l_.length false)=a.l_.length:=by simp[NR]
  omega
 ·rintro⟨todo,inn⟩ c;unfold D8;refine Bq (λhp=>?_) λhp=>AH ?_
  ·obtain⟨td,x,rfl⟩:=US (l:=todo) (by omega);have N:=(c.Y2 x (by simp)).in h I;obtain⟨k,rfl⟩:=zB N.1;have G:k<inn.length:=by rw[c.len];have:=N.2;omega
   have O:k<a.l_.length:=by have:=N.2;omega
   have c1:CI a.l_ fr bk f (td++[(k:Int)]) inn:=c;have hroom:=c1.room;have hcf:NR inn<=inn.length:=yx _ _;rw[zA,zJ]at hroom;have el:IntKind.i64.wrap (((td++[(k:Int)]).length:Int) - 1)=(td.length:Int):=by rw[zA,zJ,Qs (by omega) (by omega)];omega
   simp only[Int.ofNat_eq_natCast]at *;rw[el];have e1:Iz (td++[(k:Int)]) (td.length:Int)=some (k:Int):=Ij (by rw[List.getElem?_append_right (zr _),qU];rfl);have e2:Nr (td++[(k:Int)]) none (some (td.length:Int))=some td:=by rw[UL (by simp)];simp
   rw[e1,zd,e2,zd,FM G,zd];refine Bd (λE=>AH ⟨c1.skip (by rw[List.getElem?_eq_getElem G,E]),by simp only[zA,zJ];omega⟩) λE=>?_;have V:inn[k]?=some false:=by rw[List.getElem?_eq_getElem G,E]
   have cm:=c1.mark h I V;have hct:=M5 inn k V;have hsn:=N6 a.l_ fr bk k;have en:Fm a.l_ fr bk k=if a.l_[k].C2=2 then[a.l_[k].a_,a.l_[k].b_]else if(a.l_[k].C2=3/\fr=true)\/(a.l_[k].C2=4/\bk=true)then[a.l_[k].a_]else[]:=by
    unfold Fm;rw[zu,List.getElem?_eq_getElem O]
   have fin:∀ns,Fm a.l_ fr bk k=ns->CI a.l_ fr bk f (td++ns) (inn.set (k:Int).toNat true)/\(td++ns).length+3*NR (inn.set (k:Int).toNat true)<(td++[(k:Int)]).length+3*NR inn:=by
    rintro ns rfl;rw[zu];refine⟨cm,?_⟩;simp only[zA,zJ];omega
   rw[zd,FM O,zd,Gw];generalize a.l_[k]=x8 at en⊢;split
   ·rename_i S;rw[zk S]at en;exact Dc (GR (by simp;omega) (by simp;omega)) (AH (fin _ en))
   ·rename_i S;rw[zh S]at en;refine AP (W.mono (Q:=λb=>b=decide ((x8.C2=3/\fr=true)\/(x8.C2=4/\bk=true))) (Bd (λE=>AH ?_) λE=>AH ?_) λb E=>?_)
    ·simp only[zf,z3]at E;simp[E]
    ·by_cases Y:x8.C2=4
     ·have:x8.C2≠3:=by omega
      simp[Y]
     ·by_cases U:x8.C2=3
      ·simp[U]at E⊢;exact E
      ·simp[U,Y]
    ·subst E;refine Bq (λhc=>?_) λhc=>?_
     ·rw[zk hc]at en;exact Dc (GR (by simp;omega) (by simp;omega)) (AH (fin _ en))
     ·rw[zh hc]at en;have:=fin _ en;rw[z9]at this;exact AH this
  ·have:todo=[]:=zi (by omega);subst this;exact c
 ·refine AP (W.mono (W.loop (λs=>∃i:Nat,s.2=(i:Int)/\i<=inn.length/\s.1=((List.range i).filter λj:Nat=>(inn[j]?).getD false).map λj:Nat=>(j:Int)) (λs=>(inn.length - s.2).toNat) ⟨0,rfl,ye _,rfl⟩ ?_ (Q:=λr=>r=((List.range inn.length).filter λj:Nat=>(inn[j]?).getD false).map λj:Nat=>(j:Int))) λr M=>AH ?_)
  ·rintro⟨out,x⟩ ⟨i,D,h1,F⟩;simp only at D F;subst D;have hlen:=c.len;unfold EC;refine Bq (λE=>?_) λE=>AH ?_
   ·have D:i<inn.length:=by omega
    rw[FM D,show IntKind.i64.wrap ((i:Int)+1)=((i+1:Nat):Int) from G4 (by omega)];have hol:out.length<=i:=by rw[F,yh];exact zM (yx _ _) (by simp)
    have next:∀o,o=((List.range (i+1)).filter λj:Nat=>(inn[j]?).getD false).map (λj:Nat=>(j:Int))->(∃i':Nat,((i+1:Nat):Int)=(i':Int)/\i'<=inn.length/\o=((List.range i').filter λj:Nat=>(inn[j]?).getD false).map λj:Nat=>(j:Int))/\((inn.length:Int) - ((i+1:Nat):Int)).toNat<((inn.length:Int) - (i:Int)).toNat:=λo X=>⟨⟨i+1,rfl,D,X⟩,by omega⟩
    refine AP (AP (AH (Bd (λE=>Dc (GR (by simp;omega) (by simp;omega)) (AH (AH (next _ ?_)))) λE=>AH (AH (next _ ?_)))))
    ·rw[qe,y2,yy,<-F];simp[List.getElem?_eq_getElem D,E]
    ·rw[qe,y2,yy,<-F];simp[List.getElem?_eq_getElem D,E]
   ·obtain rfl:i=inn.length:=by omega
    exact F
  ·rw[M,c.len];unfold cl;congr 1;refine List.filter_congr λi D=>?_;have D:i<inn.length:=by rw[c.len];exact yf.1 D
   have:=c.fin h I i;rw[List.getElem?_eq_getElem D]at this⊢;simp only[ya];by_cases M:L0 a.l_ fr bk f (i:Int)
   ·have:=this.2 M;simp only[za]at this;rw[this,zW M]
   ·have F:inn[i]≠true:=λe=>M (this.1 (by rw[e]));rw[zX M];simpa using F
end Go.Av.L
end
