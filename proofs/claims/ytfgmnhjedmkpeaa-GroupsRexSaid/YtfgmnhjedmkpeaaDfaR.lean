/-
  Several texts in one.
-/
import Derived.Test.YtfgmnhjedmkpeaaK7
set_option linter.unusedSimpArgs false
/-
 A part.
-/
section
namespace Go.Av
open IntKind (i64 u8)
set_option linter.unusedVariables false
set_option linter.unusedSimpArgs false
theorem Jr{x:Int}(h1: -9223372036854775808<=x)(C:x<=9223372036854775807):i64.wrap x=x:=by rw[IntKind.wrap_i64];omega
theorem Yc{x:Int}(h1:0<=x)(C:x<=255):u8.wrap x=x:=by rw[IntKind.wrap_u8];omega
theorem UH{α:Type}(p:Prop)[Decidable p](x y:Option α):Aj (decide p) x y=if p then x else y:=by
 by_cases h:p<;>simp[h]
theorem B3{α β:Type}[DecidableEq β](a b:β)(x y:Option α):Aj (a==b) x y=if a=b then x else y:=by
 by_cases h:a=b<;>simp[h];have:(a==b)=false:=by simpa using h
 simp[this]
theorem PW{α β:Type}[DecidableEq β](a b:β)(x y:Option α):Aj (a !=b) x y=if a=b then y else x:=by
 by_cases h:a=b<;>simp[h];have:(a !=b)=true:=by simpa using h
 simp[this]
theorem O1{s:List UInt8}{i:Nat}{b:UInt8}(h:s[i]?=some b):OF s (i:Int)=some (b.toNat:Int):=by
 unfold OF;rw[zj (by omega),zA,h];rfl
theorem H8{σ ρ:Type}{step:σ->Option (σ⊕ρ)}{s s':σ}(h:step s=some (.inl s')):loop step s=loop step s':=by
 by_cases K:∃r,loop step s'=some r
 ·obtain⟨r,H⟩:=K;rw[H];exact Mc h H
 ·cases D:loop step s with
  |none=>
   cases hl':loop step s' with
   |none=>rfl
   |some r=>exact absurd ⟨r,hl'⟩ K
  | some r=>
   obtain⟨n,J⟩:=Mb D;cases n with
   |zero=>cases J
   |succ n=>
    simp only[Fu,h]at J;exact absurd ⟨r,Mf J⟩ K
theorem Up{σ ρ:Type}{step:σ->Option (σ⊕ρ)}{s:σ}{r:ρ}(h:step s=some (.inr r)):loop step s=some r:=Jq h
def W{α:Type}(m:Option α)(Q:α->Prop):Prop:=∃r,m=some r/\Q r
theorem W.mono{α:Type}{m:Option α}{Q Q':α->Prop}(w:W m Q)(h:∀r,Q r->Q' r):W m Q':=by obtain⟨r,e,q⟩:=w;exact⟨r,e,h r q⟩
theorem AG{α:Type}{x:α}{Q:α->Prop}(h:Q x):W (some x) Q:=⟨x,rfl,h⟩
theorem AP{α β:Type}{m:Option α}{k:α->Option β}{Q:β->Prop}(w:W m λx=>W (k x) Q):W (m.bind k) Q:=by obtain⟨r,e,q⟩:=w;rw[e];exact q
theorem Ap{α:Type}{b:Bool}{x y:Option α}{Q:α->Prop}(h1:b=true->W x Q)(C:b=false->W y Q):W (Aj b x y) Q:=by cases b;exact C rfl;exact h1 rfl
theorem Bi{α:Type}{p:Prop}[Decidable p]{x y:Option α}{Q:α->Prop}(h1:p->W x Q)(C:¬p->W y Q):W (Aj (decide p) x y) Q:=by by_cases h:p<;>simp[h,h1,C]
theorem ES{α:Type}{b:Bool}{x:Option α}{Q:α->Prop}(h1:b=true)(C:W x Q):W (F6 b x) Q:=by rw[h1];exact C
theorem Tw{α:Type}{m:Option α}{x:α}{Q:α->Prop}(e:m=some x)(h:Q x):W m Q:=⟨x,e,h⟩
theorem W.loop{σ ρ:Type}{step:σ->Option (σ⊕ρ)}{s:σ}{Q:ρ->Prop}(inv:σ->Prop)(μ:σ->Nat)(hi:inv s)
  (O:∀s,inv s->W (step s) (λr=>match r with| .inl s'=>inv s'/\μ s'<μ s| .inr r=>Q r)):W (Av.loop step s) Q:=by
 refine OD inv μ Q (λs hi=>?_) s hi;obtain⟨r,e,q⟩:=O s hi;cases r with
 |inl s'=>exact .inl ⟨s',e,q⟩
 |inr r=>exact .inr ⟨r,e,q⟩
theorem W.eq{α:Type}{m:Option α}{x:α}(w:W m λr=>r=x):m=some x:=by obtain⟨r,e,q⟩:=w;rw[e,q]
theorem Tz{n:Nat}{u:Int}(h:0<=u/\u<=n):Qn n none (some u)=some (0,u.toNat):=by simp only[Qn];rw[zj h]
theorem TZ{n:Nat}{l:Int}(h:0<=l/\l<=n):Qn n (some l) none=some (l.toNat,n):=by simp only[Qn];rw[zj h]
theorem Ti{n:Nat}{l u:Int}(h:0<=l/\l<=u/\u<=n):Qn n (some l) (some u)=some (l.toNat,u.toNat):=by simp only[Qn];rw[zj (by omega),zj (by omega)]
theorem QS(b:UInt8):(0:Int)<=(b.toNat:Int)/\(b.toNat:Int)<=255:=by have:=b.toNat_lt;omega
theorem F3{k:Nat}(h:k<4611686018427387904):i64.wrap ((k:Int)+1)=((k+1:Nat):Int):=by rw[Jr (by omega) (by omega)];omega
theorem Dh{α:Type}{l:List α}{i:Nat}{x:α}(h:l[i]?=some x):Fy l (i:Int)=some x:=by
 unfold Fy;rw[zj (by omega),zA,h]
theorem VW{s:List UInt8}{i:Nat}(h:i<=s.length):Kx s (some (i:Int)) none=some (s.drop i):=by
 unfold Kx;rw[TZ ⟨by omega,by omega⟩];simp only[zf,zA];rw[zM (by simp)]
theorem Vb{s:List UInt8}{i:Nat}(h:i<=s.length):Kx s none (some (i:Int))=some (s.take i):=by
 unfold Kx;rw[Tz ⟨by omega,by omega⟩];simp
theorem OW{s:List UInt8}{i j:Nat}(h:i<=j)(C:j<=s.length):Kx s (some (i:Int)) (some (j:Int))=some ((s.drop i).take (j - i)):=by
 unfold Kx;rw[Ti ⟨by omega,by omega,by omega⟩];simp
theorem X4{α:Type}{s:List α}{i:Nat}(h:i<=s.length):Pe s (some (i:Int)) none=some (s.drop i):=by
 unfold Pe;rw[TZ ⟨by omega,by omega⟩];simp only[zf,zA];rw[zM (by simp)]
theorem Vk{α:Type}{s:List α}{i:Nat}(h:i<=s.length):Pe s none (some (i:Int))=some (s.take i):=by
 unfold Pe;rw[Tz ⟨by omega,by omega⟩];simp
theorem Hh{b n:Nat}(h:n<=1099511627776)(C:n*b<=1099511627776):Pb b n=true:=zK ⟨h,C⟩
theorem W.list{α σ τ ρ:Type}{step:τ->Option (τ⊕ρ)}{l:List α}{Q:ρ->Prop}(enc:σ->Nat->τ)(P:σ->Nat->Prop)
  (hend:∀s,P s l.length->W (step (enc s l.length)) λo=>match o with| .inl _=>False| .inr r=>Q r)
  (hstep:∀s i (hi:i<l.length),P s i->W (step (enc s i)) λo=>match o with| .inl t=>∃s',t=enc s' (i+1)/\P s' (i+1)| .inr r=>Q r) (s:σ) (T:P s 0):W (Av.loop step (enc s 0)) Q:=by
 have key:∀(k i:Nat) (s:σ),i+k=l.length->P s i->W (Av.loop step (enc s i)) Q:=by
  intro k
  induction k with
  |zero=>
   intro i s hi S;obtain rfl:i=l.length:=by omega
   obtain⟨o,e,q⟩:=hend s S;cases o with
   |inl t=>exact q.elim
   |inr r=>exact⟨r,Jq e,q⟩
  | succ k ih=>
   intro i s hi S;obtain⟨o,e,q⟩:=hstep s i (by omega) S;cases o with
   |inl t=>
    obtain⟨s',rfl,hp'⟩:=q;rw[H8 e];exact ih (i+1) s' (by omega) hp'
   |inr r=>exact⟨r,Jq e,q⟩
 exact key l.length 0 s (by omega) T
theorem E8{α:Type}{l:List α}{i:Nat}(h:i<l.length):Fy l (i:Int)=some l[i]:=Dh (List.getElem?_eq_getElem h)
theorem P9{l:List UInt8}{i:Nat}(h:i<l.length):OF l (i:Int)=some (l[i].toNat:Int):=O1 (List.getElem?_eq_getElem h)
end Go.Av
end
/-
 A part.
-/
section
namespace Go.Av.L
open IntKind (i64 u8)
open Go.Av
set_option linter.unusedVariables false
set_option linter.unusedSimpArgs false
def Lp(P:Program):Nat->TypeId->AD->AD->Bool
 |0,_,_,_=>false
 |d+1,t,x,y=>
  match P.underlying t,x,y with
  |some .bool,.bool _,.bool _=>true
  |some (.int _),.int k _,.int k' _=>decide (k=k')
  |some .string,.str _,.str _=>true
  |some (.struct fs),.agg xs,.agg ys=> !P.stoodInHeld t&&fs.toList.all λf=>decide (f.name="_")||(match EV P f.type xs f.offset,EV P f.type ys f.offset with|some a,some b=>Lp P d f.type a b|_,_=>false)
  |some (.array n e),.agg xs,.agg ys=>match B9 P e with|some z=>(List.range n).all λi=>(match EV P e xs (i*z),EV P e ys (i*z)with|some a,some b=>Lp P d e a b|_,_=>false)|none=>false
  |_,_,_=>false
theorem Ob {P:Program} {eq:TypeId->AD->AD->Option Bool} {sm:TypeId->AD->AD->Bool} (h:∀t a b,sm t a b=true->∃v,eq t a b=some v) {xs ys:List AD}:∀fs:List Field,(fs.all λf=>decide (f.name="_")||(match EV P f.type xs f.offset,EV P f.type ys f.offset with|some a,some b=>sm f.type a b|_,_=>false))=true->∃v,eqFields P eq xs ys fs=some v
 |[],_=>⟨true,rfl⟩
 | f::fs,O=>by
  simp only[yG,zg]at O;obtain⟨v,F⟩:=Ob h fs O.2;unfold eqFields;by_cases J:f.name="_"
  ·rw[zj J];exact⟨v,F⟩
  ·rw[zk J];have h1:=O.1;simp only[J,decide_false,yA]at h1;split at h1
   ·rename_i a b E G;rw[E,G];obtain⟨u,hu⟩:=h _ _ _ h1;simp only[hu];cases u
    ·exact⟨false,rfl⟩
    ·exact⟨v,F⟩
   ·cases h1
theorem PQ{P:Program}{eq:TypeId->AD->AD->Option Bool}{sm:TypeId->AD->AD->Bool}(h:∀t a b,sm t a b=true->∃v,eq t a b=some v){e:TypeId}{z:Nat}{xs ys:List AD}:∀n i:Nat,(∀j,i<=j->j<i+n->(match EV P e xs (j*z),EV P e ys (j*z)with|some a,some b=>sm e a b|_,_=>false)=true)->∃v,GQ P eq e z xs ys n i=some v
 |0,i,_=>⟨true,rfl⟩
 | n+1,i,O=>by
  obtain⟨v,F⟩:=PQ h (e:=e) (z:=z) (xs:=xs) (ys:=ys) n (i+1) (λj h1 C=>O j (by omega) (by omega));have h1:=O i (zq _) (by omega);unfold GQ;split at h1
  ·rename_i a b E G;rw[E,G];obtain⟨u,hu⟩:=h _ _ _ h1;simp only[hu];cases u
   ·exact⟨false,rfl⟩
   ·exact⟨v,F⟩
  ·cases h1
theorem UU{P:Program}:∀(d:Nat) (t:TypeId) (x y:AD),Lp P d t x y=true->∃v,Hb P d t x y=some v
 |0,_,_,_,h=>by cases h
 | d+1,t,x,y,h=>by
  have ih:=UU (P:=P) d;unfold Lp at h;split at h
  ·rename_i hu;unfold Hb;rw[hu];exact⟨_,rfl⟩
  ·rename_i hu;unfold Hb;rw[hu];simp only[zx]at h;exact⟨_,zj h⟩
  ·rename_i hu;unfold Hb;rw[hu];exact⟨_,rfl⟩
  ·rename_i hu;simp only[zg,zu]at h;unfold Hb;rw[hu];simp only[h.1];exact Ob (sm:=Lp P d) ih _ h.2
  ·rename_i hu;split at h
   ·rename_i z V;unfold Hb;rw[hu];simp only[V,za];refine PQ (sm:=Lp P d) ih _ 0 λj _ X=>?_;exact zC.1 h j (yq.2 (by omega))
   ·cases h
  ·cases h
theorem Mp {P:Program} {eq:TypeId->AD->AD->Option Bool} {sm:TypeId->AD->AD->Bool} (h:∀t a,sm t a a=true->eq t a a=some true) {xs:List AD}:∀fs:List Field,(fs.all λf=>decide (f.name="_")||(match EV P f.type xs f.offset,EV P f.type xs f.offset with|some a,some b=>sm f.type a b|_,_=>false))=true->eqFields P eq xs xs fs=some true
 |[],_=>rfl
 | f::fs,O=>by
  simp only[yG,zg]at O;have F:=Mp h fs O.2;unfold eqFields;by_cases J:f.name="_"
  ·rw[zj J];exact F
  ·rw[zk J];have h1:=O.1;simp only[J,decide_false,yA]at h1;cases E:EV P f.type xs f.offset with
   |none=>rw[E]at h1;cases h1
   |some a=>
    rw[E]at h1;simp only at h1⊢;rw[h _ _ h1];exact F
theorem Ni{P:Program}{eq:TypeId->AD->AD->Option Bool}{sm:TypeId->AD->AD->Bool}(h:∀t a,sm t a a=true->eq t a a=some true){e:TypeId}{z:Nat}{xs:List AD}:∀n i:Nat,(∀j,i<=j->j<i+n->(match EV P e xs (j*z),EV P e xs (j*z)with|some a,some b=>sm e a b|_,_=>false)=true)->GQ P eq e z xs xs n i=some true
 |0,i,_=>rfl
 | n+1,i,O=>by
  have F:=Ni h (e:=e) (z:=z) (xs:=xs) n (i+1) (λj h1 C=>O j (by omega) (by omega));have h1:=O i (zq _) (by omega);unfold GQ;cases E:EV P e xs (i*z)with
  |none=>rw[E]at h1;cases h1
  |some a=>
   rw[E]at h1;simp only at h1⊢;rw[h _ _ h1];exact F
theorem Ql{P:Program}:∀(d:Nat) (t:TypeId) (x:AD),Lp P d t x x=true->Hb P d t x x=some true
 |0,_,_,h=>by cases h
 | d+1,t,x,h=>by
  have ih:=Ql (P:=P) d;unfold Lp at h;split at h
  ·rename_i hu K;rename_i b c;unfold Hb;rw[hu];cases K;simp
  ·rename_i hu K;unfold Hb;rw[hu];cases K;simp
  ·rename_i hu K;unfold Hb;rw[hu];cases K;simp
  ·rename_i hu K;cases K;simp only[zg,zu]at h;unfold Hb;rw[hu];simp only[h.1];exact Mp (sm:=Lp P d) ih _ h.2
  ·rename_i hu K;cases K;split at h
   ·rename_i z V;unfold Hb;rw[hu];simp only[V,za];refine Ni (sm:=Lp P d) ih _ 0 λj _ X=>?_;exact zC.1 h j (yq.2 (by omega))
   ·cases h
  ·cases h
theorem Wi{P:Program}{t:TypeId}{xs ys:List AD}(h:P.eqGuardType P.depth t=false)(N:Lp P 10000 t (.agg xs) (.agg ys)=true):W (RQ P t xs ys) λ_=>True:=by
 obtain⟨v,F⟩:=UU _ _ _ _ N;unfold RQ;rw[zk (by rw[h];decide)];exact⟨v,F,trivial⟩
theorem Tu{P:Program}{t:TypeId}{xs:List AD}(h:P.eqGuardType P.depth t=false)(N:Lp P 10000 t (.agg xs) (.agg xs)=true):RQ P t xs xs=some true:=by
 unfold RQ;rw[zk (by rw[h];decide)];exact Ql _ _ _ N
theorem YU(i n:Nat):((i:Int)==(n:Int))=decide (i=n):=by
 by_cases h:i=n
 ·subst h;simp
 ·rw[zN h];simp;omega
end Go.Av.L
end
/-
 A part.
-/
section
namespace Go.Av.L
open IntKind (i64 u8)
open Go.Av Go.Lib
set_option linter.unusedVariables false
set_option linter.unusedSimpArgs false
theorem Qe:∀n:Fin 256,0<=H3 .u8 (n.1:Int) 6/\H3 .u8 (n.1:Int) 6<4/\0<=Fl .u8 (n.1:Int) 63:=by decide+kernel
noncomputable def Ou(s:Ar)(b:Int):Bool:=(DJ s b).getD false
theorem has_eq(s:Ar){b:Int}(T:0<=b)(h1:b<=255):DJ s b=some (Ou s b):=by
 have hw:∃v,DJ s b=some v:=by
  obtain⟨n,rfl⟩:=zi T;obtain⟨e1,e2,e3⟩:=Qe ⟨n,by omega⟩;simp only at e1 e2 e3;unfold DJ;obtain⟨k,M⟩:=zi e1;rw[M]at e2⊢;have hk4:k<([s.w0,s.w1,s.w2,s.w3]:List Int).length:=by simp;omega
  rw[E8 hk4,za,zK e3,Ha];exact⟨_,rfl⟩
 obtain⟨v,F⟩:=hw;unfold Ou;rw[F];rfl
def Nu(n:AF)(i:Int):Prop:=
 ((n.Kind=2\/n.Kind=3)->0<=n.A/\n.A<i/\0<=n.B/\n.B<i)/\
 (n.Kind=4->0<=n.A/\n.A<i/\0<=n.Min/\n.Min<=255/\(n.Max= -1\/n.Min<=n.Max/\n.Max<=255))/\
 (n.Kind=5->0<=n.A/\n.A<i)
theorem Wg(a b:AF):W (RQ cfg.P 68 [.int .i64 a.Kind,.int .i64 a.A,.int .i64 a.B,.int .i64 a.Min,.int .i64 a.Max,.int .i64 a.BO,.int .u64 a.Set.w0,.int .u64 a.Set.w1,.int .u64 a.Set.w2,.int .u64 a.Set.w3] [.int .i64 b.Kind,.int .i64 b.A,.int .i64 b.B,.int .i64 b.Min,.int .i64 b.Max,.int .i64 b.BO,.int .u64 b.Set.w0,.int .u64 b.Set.w1,.int .u64 b.Set.w2,.int .u64 b.Set.w3]) λ_=>True:=by
 exact Wi (by kernel_rfl) (by kernel_rfl)
theorem UG(n:AF)(i:Int):W (DC n i) λb=>b=true->Nu n i:=by
 have m1:∀a,Dy a i=some (decide (0<=a)&&decide (a<i)):=λa=>rfl;unfold DC;refine AP (W.mono (Q:=λ_=>True) ?_ λx _=>?_)
 ·unfold Dr;refine AP (W.mono (Q:=λ_=>True) (Ap (λ_=>AG trivial) λ_=>Ap (λ_=>AG trivial) λ_=>AG trivial) λ_ _=>Ap (λ_=>AG trivial) λ_=>Ap (λ_=>AG trivial) λ_=>?_);refine AP (W.mono (Q:=λ_=>True) (Ap (λ_=>AG trivial) λ_=>AG trivial) λ_ _=>Ap (λ_=>AG trivial) λ_=>Ap (λ_=>AG trivial) λ_=>Ap (λ_=>AG trivial) λ_=>AG trivial)
 obtain⟨x1,x2⟩:=x;refine AP (W.mono (Q:=λ_=>True) (Ap (λ_=>AG trivial) λ_=>?_) λx3 _=>?_)
 ·exact AP ((Wg x1 n).mono λ_ _=>AG trivial)
 refine Ap (λ_=>AG λh=>by cases h) λ_=>?_;rw[B3];refine AP (W.mono (Q:=λb=>b=decide (n.Kind=2\/n.Kind=3)) ?_ λx5 Z=>?_)
 ·split<;>rename_i M
  ·exact AG (by simp[M])
  ·exact AG (by by_cases N:n.Kind=3<;>simp[M,N])
 subst Z;refine Bi (λh=>?_) λh=>?_
 ·rw[m1];refine AP (AG (AP (W.mono (Q:=λb=>b=true->Nu n i) ?_ λb G=>AG G)));refine Ap (λE=>?_) λ_=>AG λh=>by cases h
  rw[m1];refine AP (AG (AG λG=>?_));simp only[zg,zx]at E G;exact⟨λ_=>⟨E.1,E.2,G.1,G.2⟩,λU=>by omega,λZ=>by omega⟩
 ·rw[B3,B3];split
  ·rename_i U;rw[m1];refine AP (AG (AG λG=>?_));simp only[zg,zG,zx,zT]at G;exact⟨λh=>by omega,λ_=>by omega,λh=>by omega⟩
  ·split
   ·rename_i Z;rw[m1];refine AP (AG (AG λG=>?_));simp only[zg,zx]at G;exact⟨λh=>by omega,λ_=>by omega,λh=>by omega⟩
   ·exact AG λ_=>⟨λh=>by omega,λh=>by omega,λh=>by omega⟩
structure UC(t:AS):Prop where
 len:t.AK.length<=1024
 root:0<=t.Ac/\t.Ac<t.AK.length
 nodes:∀(i:Nat) n,t.AK[i]?=some n->Nu n i
theorem Tg(t:AS):W (CI t) λb=>b=true->UC t:=by
 unfold CI;refine Ap (λ_=>AG λh=>by cases h) λG=>?_;simp only[zJ,zr]at G;refine AP (W.mono (W.loop (λs=>∃i:Nat,s=(i:Int)/\i<=t.AK.length/\∀(j:Nat) n,j<i->t.AK[j]?=some n->Nu n j) (λs=>(t.AK.length - s).toNat) ⟨0,rfl,by omega,λj n X=>by omega⟩ ?_ (Q:=λo=>match o with| .inl _=>UC t| .inr b=>b=false)) λo R=>?_)
 ·rintro _ ⟨i,rfl,h1,C⟩;unfold Dp;refine Bi (λD=>?_) λD=>AG ?_
  ·have hi:i<t.AK.length:=by omega
   rw[E8 hi];refine AP (AG (AP ((UG _ _).mono λb hbn=>Ap (λ_=>AG rfl) λhb2=>AG ?_)));rw[show i64.wrap ((i:Int)+1)=((i+1:Nat):Int) from F3 (by omega)];refine⟨⟨i+1,rfl,by omega,λj n X J=>?_⟩,by omega⟩;by_cases hj2:j<i
   ·exact C j n hj2 J
   ·obtain rfl:j=i:=by omega
    rw[List.getElem?_eq_getElem hi]at J;cases J;exact hbn (by simpa using hb2)
  ·exact⟨by omega,by omega,λj n J=>C j n (by have:=(List.getElem?_eq_some_iff.1 J).1;omega) J⟩
 ·cases o with
  |inl u=>exact AG λ_=>R
  |inr b=>exact AG λh=>by rw[R]at h;cases h
end Go.Av.L
end
/-
 A part.
-/
section
namespace Go.Av.L
open IntKind (i64 u8)
open Go.Av Go.Lib
set_option linter.unusedVariables false
set_option linter.unusedSimpArgs false
theorem W.top{α:Type}{m:Option α}{Q:α->Prop}(w:W m Q):W m λ_=>True:=w.mono λ_ _=>trivial
theorem W.any{α β:Type}{m:Option α}{k:α->Option β}{Q:β->Prop}(w:W m λ_=>True)(h:∀x,W (k x) Q):W (m.bind k) Q:=AP (w.mono λx _=>h x)
theorem XC(a b c d:Int){k:Nat}(h:k<4):∃v,Fy ([a,b,c,d]:List Int) (k:Int)=some v:=⟨_,E8 (by simpa using h)⟩
theorem Ps(s:Ar){b:Int}(T:0<=b)(h1:b<=255):W (Fm s b) λ_=>True:=by
 obtain⟨n,rfl⟩:=zi T;obtain⟨e1,e2,e3⟩:=Qe ⟨n,by omega⟩;simp only at e1 e2 e3;unfold Fm;obtain⟨k,M⟩:=zi e1;rw[M]at e2⊢;obtain⟨v,F⟩:=XC s.w0 s.w1 s.w2 s.w3 (k:=k) (by omega);rw[F,za,zK e3,Ha];exact AG trivial
theorem No{a b:Int}(E:0<=a/\a<=255)(G:0<=b/\b<=255):W (CJ a b) λ_=>True:=by
 unfold CJ;rw[Jr (x:=a) (by omega) (by omega)];refine AP (W.mono (W.loop (λs=>0<=s.2.2.2.2/\s.2.2.2.2<=256) (λs=>(256 - s.2.2.2.2).toNat) ⟨by simp only;omega,by simp only;omega⟩ ?_ (Q:=λ_=>True)) λr _=>AG trivial);rintro⟨x1,x2,x3,x4,x5⟩ ⟨h1,C⟩;simp only at h1 C;unfold Iy;rw[Jr (x:=b) (by omega) (by omega)];refine Bi (λD=>?_) λ_=>AG trivial;rw[Yc (x:=x5) (by omega) (by omega)];refine W.any (Ps _ (by omega) (by omega)) λx=>AG ?_;simp only;rw[Jr (by omega) (by omega)];omega
theorem Mr(a b:Ar):W (Ca a b) λ_=>True:=by
 unfold Ca;refine AP (W.mono (W.loop (λs=>∃k:Nat,s.2.2.2.2=(k:Int)/\k<=4) (λs=>(4 - s.2.2.2.2).toNat) ⟨0,rfl,by omega⟩ ?_ (Q:=λ_=>True)) λr _=>AG trivial);rintro⟨x1,x2,x3,x4,x5⟩ ⟨k,M,C⟩;simp only at M;subst M;unfold IN;refine Bi (λD=>?_) λ_=>AG trivial;obtain⟨v,F⟩:=XC x1 x2 x3 x4 (k:=k) (by omega);obtain⟨u,hu⟩:=XC b.w0 b.w1 b.w2 b.w3 (k:=k) (by omega);rw[F,za,hu,za];exact AG ⟨⟨k+1,F3 (by omega),by omega⟩,by simp only;rw[F3 (by omega)];omega⟩
theorem WK(a b:Ar):W (Gq a b) λ_=>True:=by
 unfold Gq;refine AP (W.mono (W.loop (λs=>∃k:Nat,s.2.2.2.2=(k:Int)/\k<=4) (λs=>(4 - s.2.2.2.2).toNat) ⟨0,rfl,by omega⟩ ?_ (Q:=λ_=>True)) λr _=>AG trivial);rintro⟨x1,x2,x3,x4,x5⟩ ⟨k,M,C⟩;simp only at M;subst M;unfold Hv;refine Bi (λD=>?_) λ_=>AG trivial;obtain⟨v,F⟩:=XC x1 x2 x3 x4 (k:=k) (by omega);obtain⟨u,hu⟩:=XC b.w0 b.w1 b.w2 b.w3 (k:=k) (by omega);rw[F,za,hu,za];exact AG ⟨⟨k+1,F3 (by omega),by omega⟩,by simp only;rw[F3 (by omega)];omega⟩
theorem Rb(a:Ar):W (Ex a) λ_=>True:=by
 unfold Ex;refine AP (W.mono (W.loop (λs=>∃k:Nat,s.2.2.2.2=(k:Int)/\k<=4) (λs=>(4 - s.2.2.2.2).toNat) ⟨0,rfl,by omega⟩ ?_ (Q:=λ_=>True)) λr _=>AG trivial);rintro⟨x1,x2,x3,x4,x5⟩ ⟨k,M,C⟩;simp only at M;subst M;unfold Hy;refine Bi (λD=>?_) λ_=>AG trivial;obtain⟨v,F⟩:=XC x1 x2 x3 x4 (k:=k) (by omega);rw[F,za];exact AG ⟨⟨k+1,F3 (by omega),by omega⟩,by simp only;rw[F3 (by omega)];omega⟩
theorem W8:W JM λ_=>True:=by
 unfold JM;exact W.any (Rb _) λ_=>AG trivial
theorem Tk(s:List UInt8)(J:s.length<=1073741824):W (Hw s) λ_=>True:=by
 unfold Hw;refine AP (W.mono (W.list (l:=s) (λ(x:Int×Int×Int×Int) (i:Nat)=>(x.1,x.2.1,x.2.2.1,x.2.2.2,(i:Int))) (λ_ _=>True) ?_ ?_ (0,0,0,0) trivial (Q:=λ_=>True)) λr _=>AG trivial)
 ·rintro⟨x1,x2,x3,x4⟩ _;unfold I8;exact Bi (λh=>by omega) λ_=>AG trivial
 ·rintro⟨x1,x2,x3,x4⟩ i hi _;unfold I8;refine Bi (λ_=>?_) λh=>by omega
  rw[P9 hi,za];have:=QS s[i];refine W.any (Ps _ (by omega) (by omega)) λx=>AG ⟨(x.w0,x.w1,x.w2,x.w3),by rw[F3 (by omega)],trivial⟩
theorem TV(s:List UInt8):W (Hr s) λ_=>True:=by
 have r:∀a b:Int,(0<=a/\a<=255)/\(0<=b/\b<=255)->W (CJ a b) λ_=>True:=λa b h=>No h.1 h.2;unfold Hr;refine W.any (r _ _ (by decide)) λ_=>W.any (r _ _ (by decide)) λ_=>W.any (r _ _ (by decide)) λ_=>W.any (Mr _ _) λ_=>W.any (Mr _ _) λ_=>?_;refine Ap (λ_=>W.any (Mr _ _) λ_=>AG trivial) λ_=>Ap (λ_=>AG trivial) λ_=>Ap (λ_=>AG trivial) λ_=>Ap (λ_=>AG trivial) λ_=>Ap (λ_=>AG trivial) λ_=>?_;refine Ap (λ_=>W.any (r _ _ (by decide)) λ_=>W.any (Mr _ _) λ_=>W.any (r _ _ (by decide)) λ_=>W.any (Mr _ _) λ_=>AG trivial) λ_=>?_;refine Ap (λ_=>W.any (Tk _ (by simp)) λ_=>AG trivial) λ_=>?_;refine Ap (λ_=>W.any (r _ _ (by decide)) λ_=>W.any (Tk _ (by simp)) λ_=>W.any (Mr _ _) λ_=>AG trivial) λ_=>?_;refine Ap (λ_=>W.any (r _ _ (by decide)) λ_=>W.any (Tk _ (by simp)) λ_=>W.any (Mr _ _) λ_=>AG trivial) λ_=>?_;refine Ap (λ_=>W.any (r _ _ (by decide)) λ_=>AG trivial) λ_=>Ap (λ_=>W.any (r _ _ (by decide)) λ_=>AG trivial) λ_=>?_;exact Ap (λ_=>W.any (r _ _ (by decide)) λ_=>W.any (Rb _) λ_=>W.any (WK _ _) λ_=>AG trivial) λ_=>AG trivial
theorem L2(a b:List UInt8):W (B7 a b) λr=>r=true->b.length<=a.length:=by
 unfold B7 Es;refine AP (AP (W.mono (Q:=λr=>r=true->b.length<=a.length) (Bi (λh=>?_) λh=>AG λe=>by cases e) λr H=>AG (AG H)));rw[Vb (by omega),za];exact AG λ_=>by omega
theorem LW{s:List UInt8}{i:Int}(h:0<=i/\i<=s.length):Kx s (some i) none=some (s.drop i.toNat):=by
 obtain⟨k,rfl⟩:=zi h.1;rw[VW (by omega),zA]
theorem Jt{s:List UInt8}{i:Int}(h:0<=i/\i<s.length):∃v:Int,OF s i=some v/\0<=v/\v<=255:=by
 obtain⟨k,rfl⟩:=zi h.1;exact⟨_,P9 (by omega),QS _⟩
structure Sc(s:List UInt8)(a:Int)(x:BE):Prop where
 s_:x.s_=s
 lo:a<=x.at_
 hi:x.at_<=s.length
theorem TG{s:List UInt8}(D:s.length<=8192){a:Int}(E:0<=a){x:BE}(h:Sc s a x)(p:List UInt8):W (CM x p) λr=>(r.1=true->Sc s (a+p.length) r.2)/\(r.1=false->r.2=x):=by
 have h1:=h.lo;have C:=h.hi;unfold CM;rw[h.s_,LW ⟨by omega,C⟩,za];refine AP ((L2 _ _).mono λb G=>Ap (λe=>AG ⟨λh=>Bool.noConfusion h,λ_=>rfl⟩) λe=>AG ⟨λ_=>?_,λh=>by cases h⟩);have:=G (by simpa using e);rw[ya]at this;exact⟨rfl,by simp only;rw[Jr (by omega) (by omega)];omega,by simp only;rw[Jr (by omega) (by omega)];omega⟩
theorem Io{s:List UInt8}(D:s.length<=8192){a:Int}(E:0<=a){x:BE}(h:Sc s a x)(p:List UInt8):W (CM x p) λr=>Sc s a r.2/\(r.1=true->Sc s (a+p.length) r.2):=by
 refine(TG D E h p).mono λr H=>?_;obtain⟨b,y⟩:=r;cases b
 ·have:y=x:=H.2 rfl;subst this;exact⟨h,λe=>by cases e⟩
 ·have:=H.1 rfl;exact⟨⟨this.s_,by have:=this.lo;simp only at this⊢;omega,this.hi⟩,λ_=>this⟩
theorem Oj{s:List UInt8}(D:s.length<=8192){a:Int}(E:0<=a){x:BE}(h:Sc s a x)(p:List UInt8):W (DY x p) λr=>(0<=r.1/\r.1<=255)/\Sc s a r.2.2:=by
 have h1:=h.lo;have C:=h.hi;unfold DY;rw[h.s_,Jr (x:=x.at_+3) (by omega) (by omega),Jr (x:=x.at_+1) (by omega) (by omega)];refine AP (W.mono (Q:=λb=>b=true\/x.at_+3<=s.length) (Bi (λ_=>AG (.inl rfl)) λI=>?_) λb G=>?_)
 ·obtain⟨k,M⟩:=zi (show 0<=x.at_ by omega);rw[M]at I⊢;rw[show(k:Int)+1=((k+1:Nat):Int) by omega,show(k:Int)+3=((k+3:Nat):Int) by omega,OW (by omega) (by omega),za];exact AG (.inr (by omega))
 ·refine Ap (λ_=>AG ⟨⟨by simp,by simp⟩,h⟩) λe=>?_;have G:=G.resolve_left (by rw[e];decide);obtain⟨v,F,H⟩:=Jt (s:=s) (i:=x.at_) ⟨by omega,by omega⟩;rw[F,za];exact AG ⟨H,rfl,by simp only;omega,by simp only;omega⟩
theorem Pv{s:List UInt8}(D:s.length<=8192){a:Int}(E:0<=a){x:BE}(h:Sc s a x):W (EI x) λr=>(0<=r.1/\r.1<=255)/\Sc s a r.2.2/\(r.2.1=true->Sc s (a+1) r.2.2):=by
 unfold EI;refine AP ((Io D E h _).mono ?_);rintro⟨x1,x2⟩ ⟨g1,g2⟩;refine Ap (λe=>AP ((Oj D (by simp only[zP,yf];omega) (g2 e) _).mono ?_)) λe=>?_
 ·rintro⟨x3,x4,x5⟩ ⟨f1,f2⟩;have:=f2.lo;simp only[zP,yf]at this f1;exact AG ⟨f1,⟨f2.s_,by simp only;omega,f2.hi⟩,λ_=>⟨f2.s_,by simp only;omega,f2.hi⟩⟩
 ·refine AP (W.mono (Q:=λy=>Sc s a ⟨y.1,y.2.1,y.2.2.1,⟨y.2.2.2.1,y.2.2.2.2.1,y.2.2.2.2.2.1,y.2.2.2.2.2.2⟩⟩) (Ap (λ_=>AP ((Io D E g1 _).mono ?_)) λ_=>AG g1) ?_)
  ·rintro⟨x13,x14⟩ ⟨f1,_⟩;exact AG f1
  ·rintro⟨x6,x7,x8,x9,x10,x11,x12⟩ g;have h1:=g.lo;have C:=g.hi;have N:=g.s_;simp only at h1 C N;subst N;refine Bi (λ_=>AG ⟨⟨by simp,by simp⟩,g,λe=>by cases e⟩) λI=>?_;rw[Jr (x:=x7+1) (by omega) (by omega),Jr (by omega) (by omega),show x7+1 - 1=x7 by omega];obtain⟨v,F,H⟩:=Jt (s:=x6) (i:=x7) ⟨by omega,by omega⟩;rw[F,za];exact AG ⟨H,⟨rfl,by simp only;omega,by simp only;omega⟩,λ_=>⟨rfl,by simp only;omega,by simp only;omega⟩⟩
theorem S5(s p:List UInt8)(h:(Lib.cut s p).2.2=true):(Lib.cut s p).1.length+p.length<=s.length:=by
 unfold Lib.cut at h⊢;split at h
 ·rename_i hi;rw[zj hi];have:=Lib.index_room s p hi;rw[yp];omega
 ·cases h
theorem RV{s:List UInt8}(D:s.length<=8192){a:Int}(E:0<=a){x:BE}(h:Sc s a x):W (El x) λr=>Sc s a r.2:=by
 have h1:=h.lo;have C:=h.hi;unfold El;rw[h.s_,LW ⟨by omega,C⟩,za];refine ES (zK (by rw[ya];omega)) (Ap (λ_=>AG h) λY=>W.any (TV _) ?_);rintro⟨x2,x3⟩;refine W.any (Mr _ _) λx4=>AG ?_;have hc:=S5 _ _ (by simpa using Y);rw[ya,show([58,93]:List UInt8).length=2 from rfl]at hc;refine⟨rfl,?_,?_⟩<;>simp only
 ·rw[Jr (x:=(((Lib.cut _ _).1).length:Int)+2) (by omega) (by omega),Jr (by omega) (by omega)];omega
 ·rw[Jr (x:=(((Lib.cut _ _).1).length:Int)+2) (by omega) (by omega),Jr (by omega) (by omega)];omega
theorem S0{s:List UInt8}(D:s.length<=8192){a:Int}(E:0<=a){x:BE}(h:Sc s a x):W (Ez x) λr=>Sc s a r.2/\(r.1=true->Sc s (a+1) r.2):=by
 have both:∀{b:Bool} {y:BE},Sc s (a+1) y->Sc s a (b,y).2/\((b,y).1=true->Sc s (a+1) (b,y).2):=λg=>⟨⟨g.s_,by have:=g.lo;simp only;omega,g.hi⟩,λ_=>g⟩;have up:∀{y:BE},Sc s (a+2) y->Sc s (a+1) y:=λg=>⟨g.s_,by have:=g.lo;omega,g.hi⟩;unfold Ez;refine AP ((Io D E h _).mono ?_);rintro⟨x1,x2⟩ ⟨g1,g2⟩;refine Ap (λe=>AP ((RV D (by omega) (up (g2 e))).mono ?_)) λe=>?_
 ·rintro⟨x3,x4⟩ f;exact AG (both f)
 refine AP ((Io D E g1 _).mono ?_);rintro⟨x5,x6⟩ ⟨g3,g4⟩;refine Ap (λe=>AP ((Oj D (by omega) (up (g4 e)) _).mono ?_)) λe=>?_
 ·rintro⟨x7,x8,x9⟩ ⟨f1,f2⟩;exact W.any (No f1 f1) λx10=>W.any (Mr _ _) λx11=>AG (both ⟨f2.s_,f2.lo,f2.hi⟩)
 refine AP ((Pv D E g3).mono ?_);rintro⟨x12,x13,x14⟩ ⟨r12,g5,g6⟩;refine Ap (λe=>AG ⟨g5,λe=>by cases e⟩) λe=>?_;have g7:=g6 (by simpa using e);have h1:=g7.lo;have C:=g7.hi;have N:=g7.s_;simp only at h1 C N
 refine AP (W.mono (Q:=λo=>match o with
  | .inl (x15,x16,x17,x18,x19,x20,x21,x22)=>(0<=x22/\x22<=255)/\Sc s (a+1) ⟨x15,x16,x17,⟨x18,x19,x20,x21⟩⟩
  | .inr (x23,x24,x25,x26,x27,x28,x29,x30)=>Sc s (a+1) ⟨x23,x24,x25,⟨x26,x27,x28,x29⟩⟩) ?_ ?_)
 ·rw[N,LW ⟨by omega,C⟩,za];refine AP ((L2 _ _).mono λx32 h32=>AP (W.mono (Q:=λb=>b=true->x32=true) (Ap (λe=>W.any (W.top (L2 _ _)) λx34=>AG λ_=>e) λ_=>AG λe=>by cases e) λx33 h33=>?_));refine Ap (λe=>?_) λ_=>AG ⟨r12,rfl,h1,C⟩;have hlen:=h32 (h33 e);rw[ya,show([45]:List UInt8).length=1 from rfl]at hlen;have hw:i64.wrap (x14.at_+1)=x14.at_+1:=Jr (by omega) (by omega);have gn:∀z,Sc s (a+1) ⟨s,x14.at_+1,x14.H6,z⟩:=λz=>⟨rfl,by simp only;omega,by simp only;omega⟩;rw[LW ⟨by omega,by rw[ya];omega⟩,za,hw];refine W.any (W.top (L2 _ _)) λx36=>W.any (Ap (λ_=>AG trivial) λ_=>W.any (W.top (L2 _ _)) λ_=>AG trivial) λx37=>?_;refine Ap (λ_=>AG (gn _)) λ_=>AP ((Pv D (by omega) (gn x14.D2)).mono ?_);rintro⟨x39,x40,x41⟩ ⟨f1,f2,_⟩;exact Ap (λ_=>AG f2) λ_=>AG ⟨f1,f2⟩
 ·rintro o R;cases o with
  |inl o=>
   obtain⟨x15,x16,x17,x18,x19,x20,x21,x22⟩:=o;obtain⟨f1,f2⟩:=R;exact W.any (No r12 f1) λx42=>W.any (Mr _ _) λx43=>AG (both ⟨f2.s_,f2.lo,f2.hi⟩)
  |inr o=>
   obtain⟨x23,x24,x25,x26,x27,x28,x29,x30⟩:=o;exact AG (both R)
theorem Rn{s:List UInt8}(D:s.length<=8192){i:Int}(hi:0<=i/\i<s.length)(gl:Bool):W (Gr s i gl) λr=>r.2.2=0->i<r.2.1/\r.2.1<=s.length:=by
 unfold Gr;obtain⟨v,F,H⟩:=Jt hi;refine W.any (Ap (λ_=>AG trivial) λ_=>by rw[F,za];exact AG trivial) λx1=>?_;refine Ap (λ_=>AG λe=>absurd e (by decide)) λ_=>?_;have g0:Sc s (i+1) ⟨s,i64.wrap (i+1),gl,⟨0,0,0,0⟩⟩:=by
  rw[Jr (by omega) (by omega)];exact⟨rfl,zF _,by simp only;omega⟩
 refine AP ((Io D (by omega) g0 _).mono ?_);rintro⟨x3,x4⟩ ⟨g1,_⟩;refine AP (W.mono (Q:=λy=>Sc s (i+1) ⟨y.1,y.2.1,y.2.2.1,⟨y.2.2.2.1,y.2.2.2.2.1,y.2.2.2.2.2.1,y.2.2.2.2.2.2.1⟩⟩) (Ap (λ_=>AG g1) λ_=>AP (W.mono (Q:=λy=>Sc s (i+1) ⟨y.1,y.2.1,y.2.2.1,⟨y.2.2.2.1,y.2.2.2.2.1,y.2.2.2.2.2.1,y.2.2.2.2.2.2.1⟩⟩) (Ap (λ_=>AP ((Io D (by omega) g1 _).mono ?_)) λ_=>AG g1) ?_)) ?_)
 ·rintro⟨x21,x22⟩ ⟨f,_⟩;exact AG f
 ·rintro⟨x13,x14,x15,x16,x17,x18,x19,x20⟩ f;exact AG f
 rintro⟨x5,x6,x7,x8,x9,x10,x11,x12⟩ g2
 refine AP (W.mono (W.loop (λy=>Sc s (i+1) ⟨y.1,y.2.1,y.2.2.1,⟨y.2.2.2.1,y.2.2.2.2.1,y.2.2.2.2.2.1,y.2.2.2.2.2.2.1⟩⟩) (λy=>(s.length - y.2.1).toNat) g2 ?_ (Q:=λo=>match o with
  | .inl y=>i<y.2.1/\y.2.1<s.length
  | .inr y=>y.2.2.2.2.2.2.2.2=11)) ?_)
 ·rintro⟨x23,x24,x25,x26,x27,x28,x29,x30⟩ f;have h1:=f.lo;have C:=f.hi;simp only at h1 C;unfold H4;refine Bi (λ_=>AG rfl) λI=>?_;obtain⟨v,F,H⟩:=Jt (s:=s) (i:=x24) ⟨by omega,by omega⟩;rw[F,za];refine Ap (λ_=>AG ⟨by simp only;omega,by simp only;omega⟩) λ_=>?_;have f':Sc s x24 ⟨x23,x24,x25,⟨x26,x27,x28,x29⟩⟩:=⟨f.s_,zF _,f.hi⟩;refine AP ((S0 D (by omega) f').mono ?_);rintro⟨x48,x49⟩ ⟨f1,f2⟩;refine Ap (λ_=>AG rfl) λe=>AG ?_;have f3:=f2 (by simpa using e);have N:=f3.lo;have U:=f3.hi;simp only at N U;exact⟨⟨f3.s_,by simp only;omega,U⟩,by simp only;omega⟩
 ·rintro o R;cases o with
  |inl o=>
   obtain⟨x31,x32,x33,x34,x35,x36,x37⟩:=o;simp only at R;refine W.any (Ap (λ_=>W.any (Rb _) λ_=>AG trivial) λ_=>AG trivial) ?_;rintro⟨x50,x51,x52,x53⟩;refine AG λ_=>?_;simp only;rw[Jr (by omega) (by omega)];omega
  |inr o=>
   obtain⟨x38,x39,x40,x41,x42,x43,x44,x45,x46⟩:=o;simp only at R;subst R;exact AG λe=>absurd e (by simp)
end Go.Av.L
end
/-
 A part.
-/
section
namespace Go.Av.L
open IntKind (i64 u8)
open Go.Av Go.Lib
set_option linter.unusedVariables false
set_option linter.unusedSimpArgs false
structure QW(l:List AF)(root:Int):Prop where
 ok:∀(i:Nat) n,l[i]?=some n->DC n i=some true
 len:l.length<=1024
 root:0<=root/\(0<l.length->root<l.length)
def Qa(full:Bool)(l:List AF):Prop:=full=true\/0<l.length
structure Wk(s:List UInt8)(a:Int)(w:AL):Prop where
 s_:w.s_=s
 lo:a<=w.at_
 hi:w.at_<=s.length
 nd:QW w.t_.AK w.t_.Ac
structure R3(s:List UInt8)(a:Int)(g:Prop)(r:Int×AL×List AF):Prop where
 s_:r.2.1.s_=s
 lo:a<=r.2.1.at_
 hi:r.2.1.at_<=s.length
 nd:QW r.2.2 r.2.1.t_.Ac
 got:g->Qa r.2.1.BW r.2.2
def Lt(w:AL):Int:=if w.AX then 0 else 1
theorem U4(w:AL):0<=Lt w/\Lt w<=1:=by unfold Lt;split<;>decide
theorem N5{s:List UInt8}(D:s.length<=8192){a:Int}(E:0<=a){w:AL}(h:Wk s a w)(p:List UInt8)(S:p.length<=100):W (Cp w p) λr=>r=true->w.at_+p.length+Lt w<=s.length:=by
 have h1:=h.lo;have C:=h.hi;unfold Cp;refine AP (W.mono (Q:=λx=>(x.length:Int)=p.length+Lt w) (Ap (λe=>ES (zK (by simp;omega)) (AG ?_)) λe=>AG ?_) λx1 K=>?_)
 ·simp only[zu]at e;unfold Lt;rw[e];simp
 ·simp only[yy]at e;unfold Lt;rw[e];simp
 rw[h.s_,LW ⟨by omega,C⟩,za];refine AP ((L2 _ _).mono λb G=>AG λe=>?_);have:=G e;rw[ya]at this;omega
abbrev AL.go(w:AL)(i:Int):AL:=⟨w.s_,i,w.AX,w.t_,w.Ao,w.BH,w.BG,w.BW⟩
theorem KF{s:List UInt8}(D:s.length<=8192){a:Int}(E:0<=a){w:AL}(h:Wk s a w)(p:List UInt8)(S:p.length<=100):W (CF w p) λr=>(r.1=false/\r.2=w)\/(r.1=true/\∃i,r.2=w.go i/\w.at_+p.length<=i/\i<=s.length):=by
 have h1:=h.lo;have C:=h.hi;have N:=U4 w;unfold CF;refine AP ((N5 D E h p S).mono λx1 K=>Ap (λ_=>AG (.inl ⟨rfl,rfl⟩)) λe=>?_);have K:=K (by simpa using e);rw[Jr (x:=w.at_+p.length) (by omega) (by omega)];refine AP (W.mono (Q:=λi=>i=w.at_+p.length+Lt w) (Ap (λe=>AG ?_) λe=>AG ?_) λi hi=>AG (.inr ⟨rfl,i,rfl,by omega,by omega⟩))
 ·simp only[zu]at e;have:Lt w=1:=by unfold Lt;rw[e];rfl
  rw[Jr (by omega) (by omega),this]
 ·simp only[yy]at e;have:Lt w=0:=by unfold Lt;rw[e];rfl
  rw[this,Int.add_zero]
theorem PU{s:List UInt8}(D:s.length<=8192){a:Int}(E:0<=a){w:AL}(h:Wk s a w):W (DZ w) λb=>b=false->w.at_<s.length:=by
 have C:=h.hi;unfold DZ;rw[h.s_];refine AP (W.mono (Q:=λb=>b=false->w.at_<s.length) ?_ λx1 h1=>AP (W.mono (Q:=λb=>b=false->x1=false) (Ap (λ_=>AG λe=>by cases e) λe=>W.any (W.top (N5 D E h _ (by simp))) λx4=>AG λ_=>e) λx3 N=>AG λe=>h1 (N e)));rw[B3];split
 ·exact AG λe=>by cases e
 ·exact W.any (W.top (N5 D E h _ (by simp))) λx2=>AG λ_=>by omega
theorem UW{s:List UInt8}(D:s.length<=8192){a:Int}(E:0<=a){w:AL}(h:Wk s a w)(I:w.at_<s.length):W (E6 w) λ_=>True:=by
 have h1:=h.lo;unfold E6;rw[Jr (x:=w.at_+1) (by omega) (by omega)];exact W.any (W.top (PU D E (w:=w.go (w.at_+1)) ⟨h.s_,by simp only;omega,by simp only;omega,h.nd⟩)) λ_=>AG trivial
theorem KI{s:List UInt8}{a:Int}{w:AL}(h:Wk s a w)(n:AF):W (Bj w n) (R3 s w.at_ True):=by
 unfold Bj;refine Ap (λe=>AG ⟨h.s_,zF _,h.hi,h.nd,λ_=>.inl e⟩) λ_=>?_;unfold Ff;refine AP (W.mono (Q:=λr=>(r.2.1=0->0<r.2.2.2.length)/\R3 s w.at_ False (0,r.2.2.1,r.2.2.2)) (Bi (λ_=>AG ⟨λe=>absurd e (by simp),h.s_,zF _,h.hi,h.nd,λe=>False.elim e⟩) λI=>?_) ?_)
 ·obtain⟨b,e,_⟩:=UG n w.t_.AK.length;rw[e,za];refine Ap (λ_=>AG ⟨λe=>absurd e (by simp),h.s_,zF _,h.hi,h.nd,λe=>False.elim e⟩) λG=>?_;have G:b=true:=by simpa using G
  subst G;refine ES (Hh (by simp;omega) (by simp;omega)) (AG ⟨λ_=>by simp,h.s_,zF _,h.hi,⟨λi m hm=>?_,by simp;omega,?_⟩,λe=>False.elim e⟩)
  ·simp only at hm;by_cases hi:i<w.t_.AK.length
   ·rw[List.getElem?_append_left hi]at hm;exact h.nd.ok i m hm
   ·have D:=(List.getElem?_eq_some_iff.1 hm).1;rw[zH,yg]at D;obtain rfl:i=w.t_.AK.length:=by omega
    rw[List.getElem?_append_right (zq _),Nat.sub_self]at hm;cases hm;exact e
  ·simp only[zH,yg];rw[Jr (by omega) (by omega)];omega
 ·rintro⟨x1,x2,x3,x4⟩ ⟨h1,C⟩;simp only[PW];refine AP (W.mono (Q:=λf=>Qa f x4) ?_ λf Y=>AG ⟨C.s_,C.lo,C.hi,C.nd,λ_=>Y⟩);split
  ·rename_i e;exact AG (.inr (h1 e))
  ·exact AG (.inl rfl)
theorem R3.wk{s:List UInt8}{a:Int}{g:Prop}{x1:Int}{x2:AL}{x3:List AF}(h:R3 s a g (x1,x2,x3)):Wk s a ⟨x2.s_,x2.at_,x2.AX,⟨x3,x2.t_.Ac⟩,x2.Ao,x2.BH,x2.BG,x2.BW⟩:=⟨h.s_,h.lo,h.hi,h.nd⟩
theorem Wk.go{s:List UInt8}{a:Int}{w:AL}(h:Wk s a w){i:Int}(h1:a<=i)(C:i<=s.length):Wk s a (w.go i):=⟨h.s_,h1,C,h.nd⟩
theorem P8{s:List UInt8}{a:Int}{w:AL}(h:Wk s a w){b:Int}(G:0<=b/\b<=255):W (DQ w b) (R3 s w.at_ True):=by
 unfold DQ;refine W.any (No G G) λx1=>AP ((KI h _).mono ?_);rintro⟨x2,x3,x4⟩ H;exact AG ⟨H.s_,H.lo,H.hi,H.nd,H.got⟩
theorem PT{s:List UInt8}(D:s.length<=8192){a:Int}(E:0<=a){w:AL}(h:Wk s a w):W (DV w) λr=>∃i,r.2.2=w.go i/\w.at_<=i/\i<=s.length:=by
 have h1:=h.lo;have C:=h.hi;unfold DV;refine AP (W.mono (W.loop (λ(x:Int×Int×Int)=>w.at_<=x.1/\x.1<=s.length) (λx=>(s.length - x.1).toNat) ⟨zF _,C⟩ ?_ (Q:=λ(x:Int×Int×Int)=>w.at_<=x.1/\x.1<=s.length)) ?_)
 ·rintro⟨x1,x2,x3⟩ ⟨g1,g2⟩;simp only at g1 g2;unfold F2;rw[h.s_];refine AP (W.mono (Q:=λb=>b=true->x1<s.length) (Bi (λI=>?_) λ_=>AG λe=>by cases e) λx7 h7=>AP (W.mono (Q:=λb=>b=true->x1<s.length) (Ap (λe=>?_) λ_=>AG λe=>by cases e) λx9 h9=>Ap (λe=>?_) λ_=>AG ⟨g1,g2⟩))
  ·obtain⟨v,F,_⟩:=Jt (s:=s) (i:=x1) ⟨by omega,I⟩;rw[F];exact AP (AG (AG λ_=>I))
  ·obtain⟨v,F,_⟩:=Jt (s:=s) (i:=x1) ⟨by omega,h7 e⟩;rw[F];exact AP (AG (AG λ_=>h7 e))
  ·have I:=h9 (Bool.and_eq_true_iff.1 e).1;obtain⟨v,F,_⟩:=Jt (s:=s) (i:=x1) ⟨by omega,I⟩;rw[F];refine AP (AG (AG ?_));rw[Jr (x:=x1+1) (by omega) (by omega)];exact⟨⟨by simp only;omega,by simp only;omega⟩,by simp only;omega⟩
 ·rintro⟨x4,x5,x6⟩ H;exact AG ⟨x4,rfl,H⟩
theorem RR{s:List UInt8}(D:s.length<=8192){a:Int}(E:0<=a){w:AL}(h:Wk s a w):W (ET w) λr=>∃i,r.2.2.2=w.go i/\w.at_<=i/\i<=s.length:=by
 have h1:=h.lo;unfold ET;refine AP ((PT D E h).mono ?_);rintro⟨x1,x2,x3⟩ ⟨i,rfl,g1,g2⟩;refine Ap (λ_=>AG ⟨i,rfl,g1,g2⟩) λ_=>?_;simp only[]
 refine AP (W.mono (Q:=λo=>match o with
  | .inl (x4,x5,x6,x7,x8,x9,x10,x11,x12,x13)=>∃j,(⟨x4,x5,x6,⟨w.t_.AK,x7⟩,x8,x9,x10,x11⟩:AL)=w.go j/\w.at_<=j/\j<=s.length
  | .inr (x14,x15,x16,x17,x18,x19,x20,x21,x22,x23,x24)=>∃j,(⟨x14,x15,x16,⟨w.t_.AK,x17⟩,x18,x19,x20,x21⟩:AL)=w.go j/\w.at_<=j/\j<=s.length) ?_ ?_)
 ·rw[h.s_,LW ⟨by omega,g2⟩,za];refine AP ((L2 _ _).mono λx26 h26=>Ap (λe=>?_) λ_=>AG ⟨i,by rw[<-h.s_],g1,g2⟩);have hlen:=h26 e;rw[ya,show([44]:List UInt8).length=1 from rfl]at hlen;rw[Jr (x:=i+1) (by omega) (by omega)];have hg:Wk s a (w.go (i+1)):=h.go (by omega) (by omega);have es:(⟨s,i+1,w.AX,⟨w.t_.AK,w.t_.Ac⟩,w.Ao,w.BH,w.BG,w.BW⟩:AL)=w.go (i+1):=by rw[<-h.s_]
  rw[es];refine W.any (W.top (N5 D E hg _ (by simp))) λx27=>Ap (λ_=>AP ((PT D E hg).mono ?_)) λ_=>AG ⟨i+1,es,by omega,by omega⟩;rintro⟨x28,x29,x30⟩ ⟨j,rfl,k1,k2⟩;simp only at k1;exact Ap (λ_=>AG ⟨j,rfl,by omega,k2⟩) λ_=>AG ⟨j,rfl,by omega,k2⟩
 ·rintro o R;cases o with
  | inl o=>
   obtain⟨x4,x5,x6,x7,x8,x9,x10,x11,x12,x13⟩:=o;obtain⟨j,e,k1,k2⟩:=R;simp only[];rw[e];refine AP ((KF D E (h.go (by omega) k2) _ (by simp)).mono ?_);rintro⟨x31,x32⟩ H;rcases H with⟨_,e2⟩|⟨_,q,e2,k3,k4⟩
   ·simp only at e2;subst e2;exact AG ⟨j,rfl,k1,k2⟩
   ·simp only at e2 k3;subst e2;exact AG ⟨q,rfl,by omega,k4⟩
  |inr o=>
   obtain⟨x14,x15,x16,x17,x18,x19,x20,x21,x22,x23,x24⟩:=o;exact AG R
theorem Kj(w:AL)(i:Int):W (CO w i) λr=>∃q,r=⟨w.s_,w.at_,w.AX,w.t_,w.Ao,w.BH,q,w.BW⟩:=by
 unfold CO;exact Bi (λ_=>AG ⟨i,rfl⟩) λ_=>AG ⟨w.BG,rfl⟩
end Go.Av.L
end
