/-
  Several texts in one.
-/
import Derived.IntWalk
import Derived.Test.YtgkbpgefomapgaaGreatDoorK13
/-
 A part.
-/
section
namespace Go.Av
set_option linter.unusedVariables false
set_option linter.unusedSimpArgs false
theorem Ht{x:Int}(h1: -9223372036854775808<=x)(E:x<=9223372036854775807):IntKind.i64.wrap x=x:=by rw[IntKind.wrap_i64];omega
theorem aQ{x:Int}(h1:0<=x)(E:x<=255):IntKind.u8.wrap x=x:=by rw[IntKind.wrap_u8];omega
theorem Cw{α:Type}(p:Prop)[Decidable p](x y:Option α):Ae (decide p) x y=if p then x else y:=by
 by_cases h:p<;>simp[h]
theorem CO{α β:Type}[DecidableEq β](a b:β)(x y:Option α):Ae (a==b) x y=if a=b then x else y:=by
 by_cases h:a=b<;>simp[h];have:(a==b)=false:=by simpa using h
 simp[this]
theorem Gi{α β:Type}[DecidableEq β](a b:β)(x y:Option α):Ae (a !=b) x y=if a=b then y else x:=by
 by_cases h:a=b<;>simp[h];have:(a !=b)=true:=by simpa using h
 simp[this]
theorem OE(b c:Bool):Ae b (some true) (some c)=some (b||c):=by cases b<;>rfl
theorem DZ{s:List UInt8}{i:Nat}{b:UInt8}(h:s[i]?=some b):IA s (i:Int)=some (b.toNat:Int):=by
 unfold IA;rw[zk (by omega),zl,h];rfl
theorem DT{σ ρ:Type}{step:σ->Option (σ⊕ρ)}{s s':σ}(h:step s=some (.inl s')):loop step s=loop step s':=by
 by_cases J:∃r,loop step s'=some r
 ·obtain⟨r,R⟩:=J;rw[R];exact R8 h R
 ·cases M:loop step s with
  |none=>
   cases hl':loop step s' with
   |none=>rfl
   |some r=>exact absurd ⟨r,hl'⟩ J
  | some r=>
   obtain⟨n,D⟩:=SQ M;cases n with
   |zero=>cases D
   |succ n=>
    simp only[Jm,h]at D;exact absurd ⟨r,SR D⟩ J
theorem DM{σ ρ:Type}{step:σ->Option (σ⊕ρ)}{s:σ}{r:ρ}(h:step s=some (.inr r)):loop step s=some r:=K8 h
def W{α:Type}(m:Option α)(Q:α->Prop):Prop:=∃r,m=some r/\Q r
theorem W.mono{α:Type}{m:Option α}{Q Q':α->Prop}(w:W m Q)(h:∀r,Q r->Q' r):W m Q':=by obtain⟨r,e,q⟩:=w;exact⟨r,e,h r q⟩
theorem AB{α:Type}{x:α}{Q:α->Prop}(h:Q x):W (some x) Q:=⟨x,rfl,h⟩
theorem AJ{α β:Type}{m:Option α}{k:α->Option β}{Q:β->Prop}(w:W m λx=>W (k x) Q):W (m.bind k) Q:=by obtain⟨r,e,q⟩:=w;rw[e];exact q
theorem Am{α:Type}{b:Bool}{x y:Option α}{Q:α->Prop}(h1:b=true->W x Q)(E:b=false->W y Q):W (Ae b x y) Q:=by cases b;exact E rfl;exact h1 rfl
theorem Be{α:Type}{p:Prop}[Decidable p]{x y:Option α}{Q:α->Prop}(h1:p->W x Q)(E:¬p->W y Q):W (Ae (decide p) x y) Q:=by by_cases h:p<;>simp[h,h1,E]
theorem Ce{α:Type}{b:Bool}{x:Option α}{Q:α->Prop}(h1:b=true)(E:W x Q):W (Ds b x) Q:=by rw[h1];exact E
theorem VM{α:Type}{m:Option α}{x:α}{Q:α->Prop}(e:m=some x)(h:Q x):W m Q:=⟨x,e,h⟩
theorem W.loop{σ ρ:Type}{step:σ->Option (σ⊕ρ)}{s:σ}{Q:ρ->Prop}(inv:σ->Prop)(μ:σ->Nat)(hi:inv s)
  (G:∀s,inv s->W (step s) (λr=>match r with| .inl s'=>inv s'/\μ s'<μ s| .inr r=>Q r)):W (Av.loop step s) Q:=by
 refine WC inv μ Q (λs hi=>?_) s hi;obtain⟨r,e,q⟩:=G s hi;cases r with
 |inl s'=>exact .inl ⟨s',e,q⟩
 |inr r=>exact .inr ⟨r,e,q⟩
theorem W.eq{α:Type}{m:Option α}{x:α}(w:W m λr=>r=x):m=some x:=by obtain⟨r,e,q⟩:=w;rw[e,q]
theorem XJ{n:Nat}{u:Int}(h:0<=u/\u<=n):VI n none (some u)=some (0,u.toNat):=by simp only[VI];rw[zk h]
theorem Zl{n:Nat}{l:Int}(h:0<=l/\l<=n):VI n (some l) none=some (l.toNat,n):=by simp only[VI];rw[zk h]
theorem W2{n:Nat}{l u:Int}(h:0<=l/\l<=u/\u<=n):VI n (some l) (some u)=some (l.toNat,u.toNat):=by simp only[VI];rw[zk (by omega),zk (by omega)]
theorem drop_cons{α:Type}{l:List α}{i:Nat}(h:i<l.length):l.drop i=l[i]::l.drop (i+1):=zE h
theorem Kh(b:UInt8):(0:Int)<=(b.toNat:Int)/\(b.toNat:Int)<=255:=by have:=b.toNat_lt;omega
theorem HG{α:Type}{l:List α}{k:Nat}{x:α}(h:l[k]?=some x):l.take (k+1)=l.take k++[x]:=by
 rw[List.take_add_one,h];rfl
theorem Ee{k:Nat}(h:k<4611686018427387904):IntKind.i64.wrap ((k:Int)+1)=((k+1:Nat):Int):=by rw[Ht (by omega) (by omega)];omega
theorem G4{α:Type}{l:List α}{i:Nat}{x:α}(h:l[i]?=some x):FT l (i:Int)=some x:=by
 unfold FT;rw[zk (by omega),zl,h]
theorem Lm{s:List UInt8}{i:Nat}(h:i<=s.length):I0 s (some (i:Int)) none=some (s.drop i):=by
 unfold I0;rw[Zl ⟨by omega,by omega⟩];simp only[zf,zl];rw[zU (by simp)]
theorem YT{s:List UInt8}{i:Nat}(h:i<=s.length):I0 s none (some (i:Int))=some (s.take i):=by
 unfold I0;rw[XJ ⟨by omega,by omega⟩];simp
theorem HF{s:List UInt8}{i j:Nat}(h:i<=j)(E:j<=s.length):I0 s (some (i:Int)) (some (j:Int))=some ((s.drop i).take (j - i)):=by
 unfold I0;rw[W2 ⟨by omega,by omega,by omega⟩];simp
theorem VS{α:Type}{s:List α}{i:Nat}(h:i<=s.length):RN s none (some (i:Int))=some (s.take i):=by
 unfold RN;rw[XJ ⟨by omega,by omega⟩];simp
theorem DL{b n:Nat}(h:n<=1099511627776)(E:n*b<=1099511627776):J5 b n=true:=zi ⟨h,E⟩
theorem W.list{α σ τ ρ:Type}{step:τ->Option (τ⊕ρ)}{l:List α}{Q:ρ->Prop}(enc:σ->Nat->τ)(P:σ->Nat->Prop)
  (hend:∀s,P s l.length->W (step (enc s l.length)) λo=>match o with| .inl _=>False| .inr r=>Q r)
  (hstep:∀s i (hi:i<l.length),P s i->W (step (enc s i)) λo=>match o with| .inl t=>∃s',t=enc s' (i+1)/\P s' (i+1)| .inr r=>Q r) (s:σ) (h0:P s 0):W (Av.loop step (enc s 0)) Q:=by
 have key:∀(k i:Nat) (s:σ),i+k=l.length->P s i->W (Av.loop step (enc s i)) Q:=by
  intro k
  induction k with
  |zero=>
   intro i s hi K;obtain rfl:i=l.length:=by omega
   obtain⟨o,e,q⟩:=hend s K;cases o with
   |inl t=>exact q.elim
   |inr r=>exact⟨r,K8 e,q⟩
  | succ k ih=>
   intro i s hi K;obtain⟨o,e,q⟩:=hstep s i (by omega) K;cases o with
   |inl t=>
    obtain⟨s',rfl,hp'⟩:=q;rw[DT e];exact ih (i+1) s' (by omega) hp'
   |inr r=>exact⟨r,K8 e,q⟩
 exact key l.length 0 s (by omega) h0
theorem CR{α:Type}{l:List α}{i:Nat}(h:i<l.length):FT l (i:Int)=some l[i]:=G4 (List.getElem?_eq_getElem h)
theorem Kj{l:List UInt8}{i:Nat}(h:i<l.length):IA l (i:Int)=some (l[i].toNat:Int):=DZ (List.getElem?_eq_getElem h)
theorem Ti{b:UInt8}{t:List UInt8}:IA (b::t) 0=some (b.toNat:Int):=rfl
theorem idxOf_cons(b:UInt8)(t:List UInt8)(c:UInt8):idxOf (b::t) c=if b=c then 0 else if idxOf t c<0 then -1 else idxOf t c+1:=by
 unfold idxOf;rw[zD,List.range_succ_eq_map,List.find?_cons];by_cases h:b=c
 ·simp[h]
 ·have h':((b::t)[0]?==some c)=false:=by simpa using h
  rw[h',zm h,List.find?_map];have e:((λi=>(b::t)[i]?==some c)∘Nat.succ)=λi=>t[i]?==some c:=by
   funext i;simp
  rw[e];cases hf:List.find? (λi=>t[i]?==some c) (List.range t.length)with
  |none=>simp
  |some i=>simp;omega
end Go.Av
end
/-
 A part.
-/
section
namespace Go.Av.L
open Go.Av
set_option linter.unusedVariables false
set_option linter.unusedSimpArgs false
def QH(P:Program):Nat->TypeId->AE->AE->Bool
 |0,_,_,_=>false
 |d+1,t,x,y=>
  match P.underlying t,x,y with
  |some .bool,.bool _,.bool _=>true
  |some (.int _),.int k _,.int k' _=>decide (k=k')
  |some .string,.str _,.str _=>true
  |some (.struct fs),.agg xs,.agg ys=> !P.stoodInHeld t&&fs.toList.all λf=>decide (f.name="_")||(match IN P f.type xs f.offset,IN P f.type ys f.offset with|some a,some b=>QH P d f.type a b|_,_=>false)
  |some (.array n e),.agg xs,.agg ys=>match Dn P e with|some z=>(List.range n).all λi=>(match IN P e xs (i*z),IN P e ys (i*z)with|some a,some b=>QH P d e a b|_,_=>false)|none=>false
  |_,_,_=>false
theorem Pg {P:Program} {eq:TypeId->AE->AE->Option Bool} {sm:TypeId->AE->AE->Bool} (h:∀t a b,sm t a b=true->∃v,eq t a b=some v) {xs ys:List AE}:∀fs:List Field,(fs.all λf=>decide (f.name="_")||(match IN P f.type xs f.offset,IN P f.type ys f.offset with|some a,some b=>sm f.type a b|_,_=>false))=true->∃v,eqFields P eq xs ys fs=some v
 |[],_=>⟨true,rfl⟩
 | f::fs,G=>by
  simp only[yF,zj]at G;obtain⟨v,F⟩:=Pg h fs G.2;unfold eqFields;by_cases D:f.name="_"
  ·rw[zk D];exact⟨v,F⟩
  ·rw[zm D];have h1:=G.1;simp only[D,decide_false,qp]at h1;split at h1
   ·rename_i a b H C;rw[H,C];obtain⟨u,hu⟩:=h _ _ _ h1;simp only[hu];cases u
    ·exact⟨false,rfl⟩
    ·exact⟨v,F⟩
   ·cases h1
theorem Qs{P:Program}{eq:TypeId->AE->AE->Option Bool}{sm:TypeId->AE->AE->Bool}(h:∀t a b,sm t a b=true->∃v,eq t a b=some v){e:TypeId}{z:Nat}{xs ys:List AE}:∀n i:Nat,(∀j,i<=j->j<i+n->(match IN P e xs (j*z),IN P e ys (j*z)with|some a,some b=>sm e a b|_,_=>false)=true)->∃v,L0 P eq e z xs ys n i=some v
 |0,i,_=>⟨true,rfl⟩
 | n+1,i,G=>by
  obtain⟨v,F⟩:=Qs h (e:=e) (z:=z) (xs:=xs) (ys:=ys) n (i+1) (λj h1 E=>G j (by omega) (by omega));have h1:=G i (zo _) (by omega);unfold L0;split at h1
  ·rename_i a b H C;rw[H,C];obtain⟨u,hu⟩:=h _ _ _ h1;simp only[hu];cases u
   ·exact⟨false,rfl⟩
   ·exact⟨v,F⟩
  ·cases h1
theorem X0{P:Program}:∀(d:Nat) (t:TypeId) (x y:AE),QH P d t x y=true->∃v,Jc P d t x y=some v
 |0,_,_,_,h=>by cases h
 | d+1,t,x,y,h=>by
  have ih:=X0 (P:=P) d;unfold QH at h;split at h
  ·rename_i hu;unfold Jc;rw[hu];exact⟨_,rfl⟩
  ·rename_i hu;unfold Jc;rw[hu];simp only[zx]at h;exact⟨_,zk h⟩
  ·rename_i hu;unfold Jc;rw[hu];exact⟨_,rfl⟩
  ·rename_i hu;simp only[zj,zK]at h;unfold Jc;rw[hu];simp only[h.1];exact Pg (sm:=QH P d) ih _ h.2
  ·rename_i hu;split at h
   ·rename_i z hz;unfold Jc;rw[hu];simp only[hz,za];refine Qs (sm:=QH P d) ih _ 0 λj _ T=>?_;exact zF.1 h j (yw.2 (by omega))
   ·cases h
  ·cases h
theorem ZU{P:Program}{t:TypeId}{xs ys:List AE}(h:P.eqGuardType P.depth t=false)(O:QH P 10000 t (.agg xs) (.agg ys)=true):W (ZJ P t xs ys) λ_=>True:=by
 obtain⟨v,F⟩:=X0 _ _ _ _ O;unfold ZJ;rw[zm (by rw[h];decide)];exact⟨v,F,trivial⟩
def OG{σ ρ:Type}(step:σ->Option (σ⊕ρ))(Q:ρ->Prop):σ⊕ρ->Prop
 | .inl s'=>W (Av.loop step s') Q
 | .inr r=>Q r
theorem W.U5{σ ρ:Type}{step:σ->Option (σ⊕ρ)}{s:σ}{Q:ρ->Prop}(w:W (step s) (OG step Q)):W (Av.loop step s) Q:=by
 obtain⟨o,e,q⟩:=w;cases o with
 |inl s'=>rw[DT e];exact q
 |inr r=>exact⟨r,K8 e,q⟩
theorem Fw(i n:Nat):((i:Int)==(n:Int))=decide (i=n):=by
 by_cases h:i=n
 ·subst h;simp
 ·rw[zh h];simp;omega
end Go.Av.L
end
/-
 A part.
-/
section
namespace Go.Av.L
open Go.Av Go.Lib
set_option linter.unusedVariables false
set_option linter.unusedSimpArgs false
theorem TS:∀n:Fin 256,0<=HW .u8 (n.1:Int) 6/\HW .u8 (n.1:Int) 6<4/\0<=Ey .u8 (n.1:Int) 63:=by decide+kernel
noncomputable def PN(s:BE)(b:Int):Bool:=(Di s b).getD false
theorem has_eq(s:BE){b:Int}(h0:0<=b)(h1:b<=255):Di s b=some (PN s b):=by
 have hw:∃v,Di s b=some v:=by
  obtain⟨n,rfl⟩:=zn h0;obtain⟨e1,e2,e3⟩:=TS ⟨n,by omega⟩;simp only at e1 e2 e3;unfold Di;obtain⟨k,I⟩:=zn e1;rw[I]at e2⊢;have hk4:k<([s.w0,s.w1,s.w2,s.w3]:List Int).length:=by simp;omega
  rw[CR hk4,za,zi e3,Gr];exact⟨_,rfl⟩
 obtain⟨v,F⟩:=hw;unfold PN;rw[F];rfl
def Vb(n:AM)(i:Int):Prop:=
 ((n.Kind=2\/n.Kind=3)->0<=n.A/\n.A<i/\0<=n.B/\n.B<i)/\
 (n.Kind=4->0<=n.A/\n.A<i/\0<=n.Min/\n.Min<=255/\(n.Max= -1\/n.Min<=n.Max/\n.Max<=255))/\
 (n.Kind=5->0<=n.A/\n.A<i)
theorem X7(a b:AM):W (ZJ cfg.P 113 [.int .i64 a.Kind,.int .i64 a.A,.int .i64 a.B,.int .i64 a.Min,.int .i64 a.Max,.int .i64 a.By,.int .u64 a.Set.w0,.int .u64 a.Set.w1,.int .u64 a.Set.w2,.int .u64 a.Set.w3] [.int .i64 b.Kind,.int .i64 b.A,.int .i64 b.B,.int .i64 b.Min,.int .i64 b.Max,.int .i64 b.By,.int .u64 b.Set.w0,.int .u64 b.Set.w1,.int .u64 b.Set.w2,.int .u64 b.Set.w3]) λ_=>True:=by
 exact ZU (by kernel_rfl) (by kernel_rfl)
theorem X4(n:AM)(i:Int):W (G5 n i) λb=>b=true->Vb n i:=by
 have m1:∀a,DH a i=some (decide (0<=a)&&decide (a<i)):=λa=>rfl;unfold G5;refine AJ (W.mono (Q:=λ_=>True) ?_ λx _=>?_)
 ·unfold JQ;refine AJ (W.mono (Q:=λ_=>True) (Am (λ_=>AB trivial) λ_=>Am (λ_=>AB trivial) λ_=>AB trivial) λ_ _=>Am (λ_=>AB trivial) λ_=>Am (λ_=>AB trivial) λ_=>?_);refine AJ (W.mono (Q:=λ_=>True) (Am (λ_=>AB trivial) λ_=>AB trivial) λ_ _=>Am (λ_=>AB trivial) λ_=>Am (λ_=>AB trivial) λ_=>Am (λ_=>AB trivial) λ_=>AB trivial)
 obtain⟨x1,x2⟩:=x;refine AJ (W.mono (Q:=λ_=>True) (Am (λ_=>AB trivial) λ_=>?_) λx3 _=>?_)
 ·exact AJ ((X7 x1 n).mono λ_ _=>AB trivial)
 refine Am (λ_=>AB λh=>by cases h) λ_=>?_;rw[CO];refine AJ (W.mono (Q:=λb=>b=decide (n.Kind=2\/n.Kind=3)) ?_ λx5 N=>?_)
 ·split<;>rename_i I
  ·exact AB (by simp[I])
  ·exact AB (by by_cases O:n.Kind=3<;>simp[I,O])
 subst N;refine Be (λh=>?_) λh=>?_
 ·rw[m1];refine AJ (AB (AJ (W.mono (Q:=λb=>b=true->Vb n i) ?_ λb C=>AB C)));refine Am (λH=>?_) λ_=>AB λh=>by cases h
  rw[m1];refine AJ (AB (AB λC=>?_));simp only[zj,zx]at H C;exact⟨λ_=>⟨H.1,H.2,C.1,C.2⟩,λh4=>by omega,λN=>by omega⟩
 ·rw[CO,CO];split
  ·rename_i h4;rw[m1];refine AJ (AB (AB λC=>?_));simp only[zj,zW,zx,yu]at C;exact⟨λh=>by omega,λ_=>by omega,λh=>by omega⟩
  ·split
   ·rename_i N;rw[m1];refine AJ (AB (AB λC=>?_));simp only[zj,zx]at C;exact⟨λh=>by omega,λ_=>by omega,λh=>by omega⟩
   ·exact AB λ_=>⟨λh=>by omega,λh=>by omega,λh=>by omega⟩
structure Iu(t:AO):Prop where
 len:t.AN.length<=1024
 root:0<=t.BI/\t.BI<t.AN.length
 nodes:∀(i:Nat) n,t.AN[i]?=some n->Vb n i
theorem MQ(t:AO):W (B7 t) λb=>b=true->Iu t:=by
 unfold B7;refine Am (λ_=>AB λh=>by cases h) λC=>?_;simp only[zG,zB]at C;refine AJ (W.mono (W.loop (λs=>∃i:Nat,s=(i:Int)/\i<=t.AN.length/\∀(j:Nat) n,j<i->t.AN[j]?=some n->Vb n j) (λs=>(t.AN.length - s).toNat) ⟨0,rfl,by omega,λj n T=>by omega⟩ ?_ (Q:=λo=>match o with| .inl _=>Iu t| .inr b=>b=false)) λo S=>?_)
 ·rintro _ ⟨i,rfl,h1,E⟩;unfold EL;refine Be (λM=>?_) λM=>AB ?_
  ·have hi:i<t.AN.length:=by omega
   rw[CR hi];refine AJ (AB (AJ ((X4 _ _).mono λb hbn=>Am (λ_=>AB rfl) λhb2=>AB ?_)));rw[show IntKind.i64.wrap ((i:Int)+1)=((i+1:Nat):Int) from Ee (by omega)];refine⟨⟨i+1,rfl,by omega,λj n T D=>?_⟩,by omega⟩;by_cases hj2:j<i
   ·exact E j n hj2 D
   ·obtain rfl:j=i:=by omega
    rw[List.getElem?_eq_getElem hi]at D;cases D;exact hbn (by simpa using hb2)
  ·exact⟨by omega,by omega,λj n D=>E j n (by have:=(List.getElem?_eq_some_iff.1 D).1;omega) D⟩
 ·cases o with
  |inl u=>exact AB λ_=>S
  |inr b=>exact AB λh=>by rw[S]at h;cases h
end Go.Av.L
end
