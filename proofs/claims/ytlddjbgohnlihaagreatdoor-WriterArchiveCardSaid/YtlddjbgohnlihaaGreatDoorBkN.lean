/-
  Several texts in one.
-/
import Derived.Test.YtlddjbgohnlihaaGreatDoorHdC
import Derived.Lib.ItoaMem
/-
 A part.
-/
section
namespace Go.Av.L
open Go.Av Go.Lib
set_option linter.unusedVariables false
set_option linter.unusedSimpArgs false
set_option maxRecDepth 10000
theorem PG(s:List UInt8):EW s=false↔(0:UInt8)∉s:=by unfold EW;rw[zx,MG]
theorem PJ{s:List UInt8}(h:EW s=false):(0:UInt8)∉s:=(PG s).1 h
theorem T8:∀(k v i:Nat),i<k→(Hz v k)[i]?=some (UInt8.ofNat (48+v / 8^(k - 1 - i)%8))
 |0,v,i,h=>by omega
 | k+1,v,i,h=>by
  unfold Hz;by_cases hi:i<k
  ·rw[List.getElem?_append_left (by rw[G2];exact hi),T8 k (v / 8) i hi,qU,show k+1 - 1 - i=(k - 1 - i)+1 by omega,y4,qp 8]
  ·obtain rfl:i=k:=by omega
   rw[List.getElem?_append_right (by rw[G2];exact zC _),G2];simp
theorem d8(n:Nat):((UInt8.ofNat (48+n%8)).toNat:Int)=48+((n%8:Nat):Int):=by
 rw[UInt8.toNat_ofNat_of_lt' (by show 48+n%8<256;omega)];omega
theorem Zv{L:List (List UInt8)}(R:Shape L){i:Nat}(hi:i<16):
  ((D6 L.flatten (some ((M1 i:Nat):Int)) (some (IntKind.i64.wrap (((M1 i:Nat):Int)+((Eb.getD i 0:Nat):Int))))).bind fun x3=>some x3)=some (L.getD i []):=by
 obtain⟨x,e,D,hlen⟩:=R.at_ hi;have U:=R.take i;have hf:=R.flat;rw[D];have O:M1 i+Eb.getD i 0≤512:=by
  rw[←hf,e,yP,yr,ze,ze,U,hlen];omega
 rw[show((M1 i:Nat):Int)+((Eb.getD i 0:Nat):Int)=((M1 i+Eb.getD i 0:Nat):Int) by omega,DK (by omega) (by omega),Iq (by omega) (by omega),za,ya];rw[e,yP,yr,←U,xx,←hlen,yW]
theorem byte_at{L:List (List UInt8)}(R:Shape L){i:Nat}(hi:i<16){b:UInt8}{r:List UInt8}(D:L.getD i []=b::r):L.flatten[M1 i]?=some b:=by
 obtain⟨x,e,hx',hlen⟩:=R.at_ hi;have U:=R.take i;rw[e,yP,yr,List.getElem?_append_right (by omega),U,yV,←hx',D];rfl
def AH(h:AN)(q:List UInt8):List UInt8:=[pd q 100,CE h.Mode.toNat 8,CE h.BO.toNat 8,CE h.BW.toNat 8,CE h.B2.toNat 12,CE h.Time.toNat 12].flatten
def ZH(h:AN)(p:List UInt8):List UInt8:=[[Kw h.Kind],pd h.Ah 100,To,pd h.AZ 32,pd h.Ad 32,CE h.Aj.toNat 8,CE h.Ao.toNat 8,pd p 155,List.replicate 12 0].flatten
theorem Mx(h:AN)(p q m:List UInt8):(MX h p q m).flatten=AH h q++(m++ZH h p):=by
 unfold MX AH ZH;simp only[yr,List.flatten_nil,zw,yj]
def Qa(h:AN)(p q:List UInt8):Nat:=LL (AH h q) (ZH h p)
def DV(h:AN)(p q:List UInt8):List (List UInt8):=MX h p q (CE (Qa h p q) 7++[32])
structure Fit(h:AN)(p q:List UInt8):Prop where
 pt:D5 h.Name=some (p,q,true)
 pq:JS h.Name (p,q,true)
 ey:Tt h=false
 t:h.Ah.length≤100∧h.AZ.length≤32∧h.Ad.length≤32
 n:(Sn h).all NZ=true
 k:0≤h.Kind∧h.Kind≤255
theorem Fit.fits{h:AN}{p q:List UInt8}(F:Fit h p q):NW h true=0:=by
 unfold NW;rw[F.ey,zk (by simp),zm,zm F.n];unfold Rq;simp only[yL,zh,zD];exact F.t
theorem Fit.lens{h:AN}{p q:List UInt8}(F:Fit h p q):(AH h q).length=148∧(ZH h p).length=356:=by
 obtain⟨l1,l2⟩:=F.pq.len;unfold AH ZH;simp only[yr,List.flatten_nil,ze,zG,Dc (show 1≤8 by omega),Dc (show 1≤12 by omega)];rw[EG l2,EG F.t.1,EG F.t.2.1,EG F.t.2.2,EG l1];exact⟨rfl,rfl⟩
theorem Fit.sum{h:AN}{p q:List UInt8}(F:Fit h p q):Qa h p q<262144:=Tp F.lens.1 F.lens.2
theorem Fit.shape{h:AN}{p q:List UInt8}(F:Fit h p q):Shape (DV h p q):=
 Ol F.pq.len.1 F.pq.len.2 (by rw[ze,Dc (by omega)];rfl) F.t
theorem TP{h:AN}{p q:List UInt8}(F:Fit h p q):En h=some ((DV h p q).flatten,0):=by
 rw[(WS F.pt F.pq F.fits F.k).1,Mx,ZS F.lens.1 (by simp) F.lens.2];unfold DV;rw[Mx];rfl
theorem Xk{s:List UInt8}(h:EW s=false)(i:Nat):EW (s.take i)=false:=(PG _).2 fun hm=>PJ h (yE hm)
theorem YW{s:List UInt8}(h:EW s=false)(i:Nat):EW (s.drop i)=false:=(PG _).2 fun hm=>PJ h (qB hm)
theorem Yn{s p q:List UInt8}(h:JS s (p,q,true))(C:EW s=false):EW p=false∧EW q=false:=by
 rcases h with⟨h1,e⟩|⟨h1,⟨e,_⟩|⟨i,c,_,e⟩⟩
 ·cases e;exact⟨rfl,C⟩
 ·cases e
 ·cases e;exact⟨Xk C i,YW C (i+1)⟩
end Go.Av.L
end
/-
 A part.
-/
section
namespace Go.Av.L
open Go.Av Go.Lib
set_option linter.unusedVariables false
set_option linter.unusedSimpArgs false
set_option maxRecDepth 10000
def Qt(s:List UInt8)(r:List UInt8):Prop:=∃n,n≤s.length∧r=s.take n∧(∀j,j<n→s[j]?≠some 0)∧(n=s.length∨s[n]?=some 0)
theorem TN(s:List UInt8)(B:s.length≤1000000):W (A6 s) (Qt s):=by
 unfold A6;refine W.bind (W.loop (fun x:Int=>∃n:Nat,x=(n:Int)∧n≤s.length∧∀j,j<n→s[j]?≠some 0) (fun x=>s.length - x.toNat) ⟨0,rfl,by omega,fun j J=>by omega⟩ fun x D=>?_);obtain⟨n,rfl,C,I⟩:=D;unfold FV;dsimp only;rw[Fc];have fin:(n=s.length∨s[n]?=some 0)→W (some (.inr (n:Int)):Option (Int⊕Int)) fun r=>match r with
   | .inl s'=>(∃n:Nat,s'=(n:Int)∧n≤s.length∧∀j,j<n→s[j]?≠some 0)∧s.length - s'.toNat<s.length - (n:Int).toNat
   | .inr r=>W ((D6 s none (some r)).bind fun x5=>some x5) (Qt s):=fun h=>by
  refine W.ret ?_;dsimp only;rw[Ie C,za];exact W.ret ⟨n,C,rfl,I,h⟩
 by_cases E:n<s.length
 ·rw[zm (by omega),GL E,za,za,show(0:Int)=((0:Nat):Int) from rfl,show(((s[n].toNat:Nat):Int) !=((0:Nat):Int))= !(((s[n].toNat:Nat):Int)==((0:Nat):Int)) from rfl,Hq (by omega)];by_cases G:s[n]=0
  ·rw[show(s[n]==UInt8.ofNat 0)=true from by rw[G];rfl,zY,AK];exact(fin (.inr (by rw[List.getElem?_eq_getElem E,G]))).mono fun r h=>by cases r<;>exact h
  ·rw[show(s[n]==UInt8.ofNat 0)=false from beq_eq_false_iff_ne.2 G,yD,AQ,DP (by omega)];refine W.ret ⟨⟨n+1,rfl,by omega,fun j J=>?_⟩,by simp only[zN];omega⟩;by_cases e:j=n
   ·subst e;rw[List.getElem?_eq_getElem E];exact fun h=>G (zJ h)
   ·exact I j (by omega)
 ·rw[zk (by omega),za,AK];exact(fin (.inl (by omega))).mono fun r h=>by cases r<;>exact h
theorem Qt.uniq{s r r':List UInt8}(h:Qt s r)(h':Qt s r'):r=r':=by
 obtain⟨n,n1,rfl,n2,n3⟩:=h;obtain⟨k,k1,rfl,k2,k3⟩:=h';rcases ql n k with h|h|h
 ·rcases n3 with e|e
  ·omega
  ·exact absurd e (k2 n h)
 ·rw[h]
 ·rcases k3 with e|e
  ·omega
  ·exact absurd e (n2 k h)
theorem YB{s:List UInt8}(h:(0:UInt8)∉s)(j:Nat):s[j]?≠some 0:=fun e=>h (zQ e)
theorem Xw{s:List UInt8}{n:Nat}(B:s.length≤n)(I:EW s=false):Qt (pd s n) s:=by
 have V:=EG B;refine⟨s.length,by omega,?_,fun j J=>?_,?_⟩
 ·unfold pd;rw[yW]
 ·unfold pd;rw[List.getElem?_append_left J];exact YB (PJ I) j
 ·by_cases h:s.length=n
  ·left;omega
  ·right;unfold pd;rw[List.getElem?_append_right (zC _),yV,List.drop_replicate,List.getElem?_replicate,zm (by omega)]
theorem LW{s:List UInt8}{n:Nat}(B:s.length≤n)(C:n≤1000)(I:EW s=false):A6 (pd s n)=some s:=by
 obtain⟨r,e,h⟩:=TN (pd s n) (by rw[EG B];omega);rw[e,h.uniq (Xw B I)]
theorem Lq(s:List UInt8)(B:s.length≤1000000):∃r,A6 s=some r∧(r==s)= !EW s:=by
 obtain⟨r,e,n,h1,h2,M,T⟩:=TN s B;refine⟨r,e,?_⟩;cases I:EW s with
 | false=>
  have:n=s.length:=by
   rcases T with h|h
   ·exact h
   ·exact absurd h (YB (PJ I) n)
  rw[h2,this,z8];simp
 | true=>
  rw[zY,zL];intro e;have C:n=s.length:=by
   have:=congrArg List.length (h2.symm.trans e);rw[zA]at this;omega
  have:EW s=false:=(PG s).2 fun hm=>by
   obtain⟨j,J,hj2⟩:=yA hm;exact M j (by omega) (by rw[List.getElem?_eq_getElem J,hj2])
  rw[I]at this;cases this
theorem Y9(s:List UInt8)(B:s.length≤1000000):W (ER s) (JS s):=by
 unfold ER;refine W.NH (fun h=>W.ret (.inl ⟨by omega,rfl⟩)) fun h=>?_;refine W.bind (W.loop (fun x:Int×Int=>∃k:Nat,x.2=(k:Int)∧1≤k∧k≤s.length∧((x.1= -1∧∀j,j<k→¬Cut s j)∨∃i:Nat,x.1=(i:Int)∧Cut s i∧∀j,j<k→Cut s j→j≤i)) (fun x=>s.length - x.2.toNat) ⟨1,rfl,by omega,by omega,.inl ⟨rfl,fun j J c=>by have:=c.1;omega⟩⟩ fun x D=>?_);obtain⟨a,b⟩:=x;obtain⟨k,hk,k1,k2,hc⟩:=D;dsimp only at hk hc;subst hk;unfold Fb;dsimp only;rw[Fc];by_cases E:k<s.length
 ·rw [zm (by omega),GL E,za,DK (x:=(s.length:Int) - (k:Int)) (by omega) (by omega),DK (by omega) (by omega),show(47:Int)=((47:Nat):Int) from rfl,Hq (by omega)];by_cases H:Cut s k
  ·obtain⟨c1,c2,c3,c4,c5⟩:=H;have e47:s[k]=47:=by rw[List.getElem?_eq_getElem E]at c3;exact zJ c3
   rw[show((s[k]==UInt8.ofNat 47&&decide ((k:Int)≤155))&&decide ((s.length:Int) - (k:Int) - 1≥1)&&decide ((s.length:Int) - (k:Int) - 1≤100))=true from by
    rw[zf (by omega),zf (by omega),zf (by omega),e47];rfl,AQ,za,DP (by omega)]
   exact W.ret ⟨⟨k+1,rfl,by omega,by omega,.inr ⟨k,rfl,⟨c1,c2,c3,c4,c5⟩,fun j J _=>by omega⟩⟩,by simp only[zN];omega⟩
  ·rw[show((s[k]==UInt8.ofNat 47&&decide ((k:Int)≤155))&&decide ((s.length:Int) - (k:Int) - 1≥1)&&decide ((s.length:Int) - (k:Int) - 1≤100))=false from by
    rw[qL];intro X;simp only[zh,yM,zD]at X
    exact H ⟨k1,by omega,by rw[List.getElem?_eq_getElem E,X.1.1.1];rfl,by omega,by omega⟩,AK,za,DP (by omega)]
   refine W.ret ⟨⟨k+1,rfl,by omega,by omega,?_⟩,by simp only[zN];omega⟩;rcases hc with⟨h1,h2⟩|⟨i,h1,h2,M⟩
   ·exact .inl ⟨h1,fun j J c=>by
     by_cases e:j=k
     ·exact H (e ▸ c)
     ·exact h2 j (by omega) c⟩
   ·exact .inr ⟨i,h1,h2,fun j J c=>by
     by_cases e:j=k
     ·exact absurd (e ▸ c) H
     ·exact M j (by omega) c⟩
 ·rw[zk (by omega)];have hks:k=s.length:=by omega
  refine W.ret ?_;dsimp only;rcases hc with⟨rfl,h2⟩|⟨i,rfl,c,M⟩
  ·rw[show decide ((-1:Int)<0)=true from rfl,AQ];exact W.ret (.inr ⟨by omega,.inl ⟨rfl,fun j c=>h2 j (by have:=c.2.2.2.1;omega) c⟩⟩)
  ·have c4:=c.2.2.2.1;rw[zi (by omega),AK,Ie (by omega),za,DP (by omega),NR (by omega)];exact W.ret (.inr ⟨by omega,.inr ⟨i,c,fun j d=>M j (by have:=d.2.2.2.1;omega) d,rfl⟩⟩)
theorem Po:∀(i v:Nat),Hz v (i+1)=UInt8.ofNat (48+v / 8^i%8)::Hz v i
 |0,v=>by simp[Hz]
 |i+1,v=>by
  have ih:=Po i (v / 8);rw[Hz,ih,qU,←Nat.pow_succ'];rfl
theorem aF{A m Z:List UInt8}(hA:A.length=148)(hm:m.length=8)(hZ:Z.length=356):Cw (A++(m++Z)) false=some (LL A Z:Int):=by
 unfold Cw;have V:(A++(m++Z)).length=512:=by simp only[ze];omega
 refine W.eq (W.bind (W.list (l:=A++(m++Z)) (fun(s:Int) (i:Nat)=>(s,(i:Int))) (fun s i=>s=(JX A Z i:Int)) ?_ ?_ (0:Int) (by simp[JX,KS])))
 ·intro s B;rw[V]at B⊢;unfold Es;dsimp only;rw[Fc,zk (by omega)];refine W.ret (W.ret ?_);rw[B];unfold JX LL;rw[zk (by omega),zk (by omega),zI (by omega)]
 ·intro s i hi B;rw[V]at hi;have hi2:i<(A++(m++Z)).length:=by omega
  unfold Es;dsimp only;rw[Fc,zm (by omega)];have hbd:=HF A;have hbz:=HF Z;have hbyte:=((A++(m++Z))[i]).toNat_lt;have hps:JX A Z i≤200000:=by
   unfold JX;split
   ·have:=HF (A.take i);rw[zA]at this;omega
   ·split
    ·omega
    ·have:=HF (Z.take (i - 156));rw[zA]at this;omega
  by_cases hr:148≤i∧i<156
  ·rw[show(decide ((i:Int)≥148)&&decide ((i:Int)≤155))=true from by rw[zh,zD,zD];omega,AQ,za];refine W.ret ⟨IntKind.i64.wrap (s+32),by rw[DP (by omega)],?_⟩;rw[B,DK (by omega) (by omega)];have e:JX A Z (i+1)=JX A Z i+32:=by
    unfold JX;by_cases G:i=148
    ·subst G;rw[zk (by omega),zm (by omega),zm (by omega),zI (by omega)]
    ·rw[zk (by omega),zm (by omega),zk (by omega),zm (by omega)];omega
   rw[e];omega
  ·rw [show(decide ((i:Int)≥148)&&decide ((i:Int)≤155))=false from by rw[yb,zx,zx];omega,AK,AK,za,AK,GL hi2,za,za];refine W.ret ⟨IntKind.i64.wrap (s+IntKind.i64.wrap ((A++(m++Z))[i].toNat:Int)),by rw[DP (by omega)],?_⟩;rw[B,DK (x:=(((A++(m++Z))[i].toNat:Nat):Int)) (by omega) (by omega),DK (by omega) (by omega)];have e:JX A Z (i+1)=JX A Z i+(A++(m++Z))[i].toNat:=by
    unfold JX;by_cases G:i<148
    ·rw[zm (by omega),zm (by omega),L9 (by omega),xG (by omega)]
    ·have M:i≥156:=by omega
     have e2:(A++(m++Z))[i]=Z[i - 156]'(by omega):=by
      rw[qq (by omega),qq (by omega)];congr 1;omega
     rw[e2,zk (by omega),zk (by omega),zk (by omega),show i+1 - 156=(i - 156)+1 by omega,L9 (by omega)];by_cases T:i=156
     ·subst T;rw[zm (by omega)];simp[KS]
     ·rw[zk (by omega)];omega
   rw[e];omega
end Go.Av.L
end
/-
 A part.
-/
section
namespace Go.Av.L
open Go.Av
set_option linter.unusedVariables false
set_option linter.unusedSimpArgs false
def Lv(P:Program):Nat→TypeId→AB→AB→Bool
 |0,_,_,_=>false
 |d+1,t,x,y=>
  match P.underlying t,x,y with
  |some .bool,.bool _,.bool _=>true
  |some (.int _),.int k _,.int k' _=>decide (k=k')
  |some .string,.str _,.str _=>true
  |some (.struct fs),.agg xs,.agg ys=> !P.stoodInHeld t&&fs.toList.all fun f=>decide (f.name="_")||(match E9 P f.type xs f.offset,E9 P f.type ys f.offset with|some a,some b=>Lv P d f.type a b|_,_=>false)
  |some (.array n e),.agg xs,.agg ys=>match CP P e with|some z=>(List.range n).all fun i=>(match E9 P e xs (i*z),E9 P e ys (i*z)with|some a,some b=>Lv P d e a b|_,_=>false)|none=>false
  |_,_,_=>false
theorem Oh {P:Program} {eq:TypeId→AB→AB→Option Bool} {sm:TypeId→AB→AB→Bool} (h:∀t a b,sm t a b=true→∃v,eq t a b=some v) {xs ys:List AB}:∀fs:List Field,(fs.all fun f=>decide (f.name="_")||(match E9 P f.type xs f.offset,E9 P f.type ys f.offset with|some a,some b=>sm f.type a b|_,_=>false))=true→∃v,eqFields P eq xs ys fs=some v
 |[],_=>⟨true,rfl⟩
 | f::fs,B=>by
  simp only[zR,zh]at B;obtain⟨v,N⟩:=Oh h fs B.2;unfold eqFields;by_cases C:f.name="_"
  ·rw[zm C];exact⟨v,N⟩
  ·rw[zk C];have h1:=B.1;simp only[C,decide_false,yJ]at h1;split at h1
   ·rename_i a b K O;rw[K,O];obtain⟨u,hu⟩:=h _ _ _ h1;simp only[hu];cases u
    ·exact⟨false,rfl⟩
    ·exact⟨v,N⟩
   ·cases h1
theorem QI{P:Program}{eq:TypeId→AB→AB→Option Bool}{sm:TypeId→AB→AB→Bool}(h:∀t a b,sm t a b=true→∃v,eq t a b=some v){e:TypeId}{z:Nat}{xs ys:List AB}:∀n i:Nat,(∀j,i≤j→j<i+n→(match E9 P e xs (j*z),E9 P e ys (j*z)with|some a,some b=>sm e a b|_,_=>false)=true)→∃v,IX P eq e z xs ys n i=some v
 |0,i,_=>⟨true,rfl⟩
 | n+1,i,B=>by
  obtain⟨v,N⟩:=QI h (e:=e) (z:=z) (xs:=xs) (ys:=ys) n (i+1) (fun j h1 h2=>B j (by omega) (by omega));have h1:=B i (zC _) (by omega);unfold IX;split at h1
  ·rename_i a b K O;rw[K,O];obtain⟨u,hu⟩:=h _ _ _ h1;simp only[hu];cases u
   ·exact⟨false,rfl⟩
   ·exact⟨v,N⟩
  ·cases h1
theorem cI{P:Program}:∀(d:Nat) (t:TypeId) (x y:AB),Lv P d t x y=true→∃v,HT P d t x y=some v
 |0,_,_,_,h=>by cases h
 | d+1,t,x,y,h=>by
  have ih:=cI (P:=P) d;unfold Lv at h;split at h
  ·rename_i hu;unfold HT;rw[hu];exact⟨_,rfl⟩
  ·rename_i hu;unfold HT;rw[hu];simp only[zD]at h;exact⟨_,zm h⟩
  ·rename_i hu;unfold HT;rw[hu];exact⟨_,rfl⟩
  ·rename_i hu;simp only[zh,zK]at h;unfold HT;rw[hu];simp only[h.1];exact Oh (sm:=Lv P d) ih _ h.2
  ·rename_i hu;split at h
   ·rename_i z I;unfold HT;rw[hu];simp only[I,za];refine QI (sm:=Lv P d) ih _ 0 fun j _ J=>?_;exact zn.1 h j (zO.2 (by omega))
   ·cases h
  ·cases h
theorem Md {P:Program} {eq:TypeId→AB→AB→Option Bool} {sm:TypeId→AB→AB→Bool} (h:∀t a,sm t a a=true→eq t a a=some true) {xs:List AB}:∀fs:List Field,(fs.all fun f=>decide (f.name="_")||(match E9 P f.type xs f.offset,E9 P f.type xs f.offset with|some a,some b=>sm f.type a b|_,_=>false))=true→eqFields P eq xs xs fs=some true
 |[],_=>rfl
 | f::fs,B=>by
  simp only[zR,zh]at B;have N:=Md h fs B.2;unfold eqFields;by_cases C:f.name="_"
  ·rw[zm C];exact N
  ·rw[zk C];have h1:=B.1;simp only[C,decide_false,yJ]at h1;cases K:E9 P f.type xs f.offset with
   |none=>rw[K]at h1;cases h1
   |some a=>
    rw[K]at h1;simp only at h1⊢;rw[h _ _ h1];exact N
theorem Ng{P:Program}{eq:TypeId→AB→AB→Option Bool}{sm:TypeId→AB→AB→Bool}(h:∀t a,sm t a a=true→eq t a a=some true){e:TypeId}{z:Nat}{xs:List AB}:∀n i:Nat,(∀j,i≤j→j<i+n→(match E9 P e xs (j*z),E9 P e xs (j*z)with|some a,some b=>sm e a b|_,_=>false)=true)→IX P eq e z xs xs n i=some true
 |0,i,_=>rfl
 | n+1,i,B=>by
  have N:=Ng h (e:=e) (z:=z) (xs:=xs) n (i+1) (fun j h1 h2=>B j (by omega) (by omega));have h1:=B i (zC _) (by omega);unfold IX;cases K:E9 P e xs (i*z)with
  |none=>rw[K]at h1;cases h1
  |some a=>
   rw[K]at h1;simp only at h1⊢;rw[h _ _ h1];exact N
theorem UK{P:Program}:∀(d:Nat) (t:TypeId) (x:AB),Lv P d t x x=true→HT P d t x x=some true
 |0,_,_,h=>by cases h
 | d+1,t,x,h=>by
  have ih:=UK (P:=P) d;unfold Lv at h;split at h
  ·rename_i hu D;rename_i b c;unfold HT;rw[hu];cases D;simp
  ·rename_i hu D;unfold HT;rw[hu];cases D;simp
  ·rename_i hu D;unfold HT;rw[hu];cases D;simp
  ·rename_i hu D;cases D;simp only[zh,zK]at h;unfold HT;rw[hu];simp only[h.1];exact Md (sm:=Lv P d) ih _ h.2
  ·rename_i hu D;cases D;split at h
   ·rename_i z I;unfold HT;rw[hu];simp only[I,za];refine Ng (sm:=Lv P d) ih _ 0 fun j _ J=>?_;exact zn.1 h j (zO.2 (by omega))
   ·cases h
  ·cases h
theorem UE{P:Program}{t:TypeId}{xs:List AB}(h:P.eqGuardType P.depth t=false)(M:Lv P 10000 t (.agg xs) (.agg xs)=true):ZK P t xs xs=some true:=by
 unfold ZK;rw[zk (by rw[h];decide)];exact UK _ _ _ M
end Go.Av.L
end
/-
 A part.
-/
section
namespace Go.Av.L
open Go.Av Go.Lib
set_option linter.unusedVariables false
set_option linter.unusedSimpArgs false
set_option maxRecDepth 10000
abbrev Pr:=AA
abbrev IH:=List UInt8
def QM(l:List Pr):Prop:=l.Pairwise fun a b=>a.Key<b.Key
theorem PB:∀{l l':List Pr},QM l→QM l'→(∀q,q∈l↔q∈l')→l=l'
 |[],l',_,_,h=>by
  cases l' with
  |nil=>rfl
  |cons a l'=>exact absurd ((h a).2 (by simp)) (by simp)
 |a::l,[],_,_,h=>absurd ((h a).1 (by simp)) (by simp)
 | a::l,b::l',s,s',h=>by
  obtain⟨s1,s2⟩:=yx.1 s;obtain⟨s3,s4⟩:=yx.1 s';have hab:a=b:=by
   rcases zF.1 ((h a).1 (by simp))with h1|h1
   ·exact h1
   ·rcases zF.1 ((h b).2 (by simp))with h2|h2
    ·exact h2.symm
    ·exact absurd (xE (s3 a h1) (s1 b h2)) (qo _)
  subst hab;refine congrArg (a::·) (PB s2 s4 fun q=>?_);constructor
  ·intro S;rcases zF.1 ((h q).1 (by simp[S]))with h1|h1
   ·subst h1;exact absurd (s1 q S) (qo _)
   ·exact h1
  ·intro S;rcases zF.1 ((h q).2 (by simp[S]))with h1|h1
   ·subst h1;exact absurd (s3 q S) (qo _)
   ·exact h1
def J2(c:UInt8):Bool:=decide (48≤c.toNat)&&decide (c.toNat≤57)
def WI(v:Nat)(c:UInt8):Nat:=10*v+(c.toNat - 48)
def Dr(s:List UInt8):Nat:=s.foldl WI 0
theorem Ir(s:List UInt8)(c:UInt8):Dr (s++[c])=10*Dr s+(c.toNat - 48):=by unfold Dr;rw[xi];rfl
theorem Vy:∀(s:List UInt8) (v:Nat),s.all J2=true→s.foldl WI v<(v+1)*10^s.length
 |[],v,_=>by simp
 |c::s,v,h=>by
  simp only[zR,zh]at h;have ih:=Vy s (WI v c) h.2;have hc:=h.1;unfold J2 at hc;simp only[zh,zD]at hc;rw[yR,zt,y4];refine zX ih ?_;have e:(v+1)*(10^s.length*10)=((v+1)*10)*10^s.length:=by rw[qp (10^s.length) 10,xb]
  rw[e];refine qn _ ?_;unfold WI;omega
theorem Kl{s:List UInt8}(h:s.all J2=true){n:Nat}(C:s.length≤n):Dr s<10^n:=by
 have:=Vy s 0 h;rw[yq,qC]at this;exact zX this (qE (by decide) C)
theorem Ul{s:List UInt8}(h:s.all J2=true)(C:s.length≤16):Dr s<10000000000000000:=Kl h C
theorem dn(c:UInt8):(decide ((c.toNat:Int)<48)||decide ((c.toNat:Int)>57))= !J2 c:=by
 unfold J2;by_cases h1:48≤c.toNat<;>by_cases h2:c.toNat≤57
 ·rw[zf h1,zf h2,zi (by omega),zi (by omega)];rfl
 ·rw[zf h1,zi h2,zi (by omega),zf (by omega)];rfl
 ·rw[zi h1,zf h2,zf (by omega),zi (by omega)];rfl
 ·rw[zi h1,zi h2,zf (by omega),zf (by omega)];rfl
theorem Pu{c:UInt8}(h:J2 c=true):48≤c.toNat∧c.toNat≤57:=by
 unfold J2 at h;simpa using h
theorem UP{s:List UInt8}{i:Nat}(hi:i<s.length)(K:(s.take i).all J2=true)(hd:J2 s[i]=true):(s.take (i+1)).all J2=true:=by
 rw[Da (List.getElem?_eq_getElem hi),qi,K];simp[hd]
theorem ZP{s:List UInt8}{i:Nat}(hi:i<s.length)(hd:J2 s[i]=false):s.all J2=false:=by
 rw[List.all_eq_false];exact⟨s[i],zS hi,by rw[hd];decide⟩
theorem Mz(x:List UInt8):∀k,Dr (x++List.replicate k 48)=Dr x*10^k
 |0=>by simp
 |k+1=>by
  rw[qZ,←zw,Ir,Mz x k,y4];show 10*(Dr x*10^k)+0=Dr x*(10^k*10);rw[yU,qp 10,xb]
theorem QO:∀(s:List UInt8) (v:Nat),s.foldl WI v=v*10^s.length+Dr s
 |[],v=>by simp[Dr]
 |c::s,v=>by
  have h1:=QO s (WI v c);have h2:=QO s (WI 0 c);unfold Dr at *;rw[yR,yR,h1,h2,zt,y4];unfold WI;rw[yC,yC,Nat.mul_zero,xL,yq,←yI];congr 2;rw[qp 10 v,xb,qp 10]
theorem N0(c:UInt8)(s:List UInt8):Dr (c::s)=(c.toNat - 48)*10^s.length+Dr s:=by
 have:=QO s (WI 0 c);unfold Dr at *;rw[yR,this];unfold WI;rw[Nat.mul_zero,yq]
theorem N4{k:Nat}(h:k<10):(UInt8.ofNat (48+k)).toNat=48+k:=UInt8.toNat_ofNat_of_lt' (by show 48+k<256;omega)
theorem Xi{k:Nat}(h:k<10):J2 (UInt8.ofNat (48+k))=true:=by
 unfold J2;rw[N4 h,zf (by omega),zf (by omega)];rfl
theorem G3(u:Nat):(decDigits u).all J2=true∧Dr (decDigits u)=u∧1≤(decDigits u).length:=by
 induction u using Nat.strongRecOn with
 | ind u ih=>
  rw[decDigits];by_cases h:u<10
  ·rw[dif_pos h];refine⟨by rw[zR,qv,Xi h];rfl,?_,by rw[zt];omega⟩;show WI 0 (UInt8.ofNat (48+u))=u;unfold WI;rw[N4 h];omega
  ·rw[dif_neg h];obtain⟨h1,h2,M⟩:=ih (u / 10) (by omega);refine⟨?_,?_,by simp⟩
   ·rw[qi,h1,zR,qv,Xi (show u%10<10 by omega)];rfl
   ·rw[Ir,h2,N4 (by omega)];omega
theorem FB:∀(k u:Nat),1≤k→u<10^k→(decDigits u).length≤k
 |0,u,h,_=>by omega
 | k+1,u,_,h=>by
  rw[decDigits];by_cases G:u<10
  ·rw[dif_pos G];simp
  ·rw[dif_neg G,ze];cases k with
   |zero=>rw[yq,Nat.pow_one]at h;omega
   |succ k=>
    have:=FB (k+1) (u / 10) (by omega) (by rw[y4]at h;omega);simp;omega
theorem Ge{n:Int}(h:0≤n):Lib.itoa n=decDigits n.toNat:=by unfold Lib.itoa;rw[zk (by omega)]
theorem NO{n:Int}(h:0≤n)(h2:n≤9007199254740991):1≤(Lib.itoa n).length∧(Lib.itoa n).length≤16:=by
 rw[Ge h];exact⟨(G3 n.toNat).2.2,FB 16 n.toNat (by omega) (by rw[show 10^16=10000000000000000 from rfl];omega)⟩
theorem Zc(s:List UInt8)(B:s.length≤1000):W (Bq s) fun r=>∃k,s=r++List.replicate k 48:=by
 unfold Bq;refine W.ite (fun _=>W.ret ⟨0,by simp⟩) fun _=>?_;unfold C6;refine W.bind (W.bind (W.loop (fun x:List UInt8=>∃k,s=x++List.replicate k 48) (fun x=>x.length) ⟨0,by simp⟩ fun x D=>?_));obtain⟨k,hk⟩:=D;have hxl:x.length≤1000:=by have:=congrArg List.length hk;rw[ze]at this;omega
 unfold DW;dsimp only;rw[Fc];by_cases G:(x.length:Int)>0
 ·rw[zm G,DK (by omega) (by omega),show(x.length:Int) - 1=((x.length - 1:Nat):Int) by omega,GL (by omega),za,za,show(48:Int)=((48:Nat):Int) from rfl,Hq (by omega)];by_cases O:x[x.length - 1]'(by omega)=48
  ·rw[show(x[x.length - 1]'(by omega)==UInt8.ofNat 48)=true from by rw[O];rfl,AQ,Ie (by omega),za];refine W.ret ⟨⟨k+1,?_⟩,by rw[zA];omega⟩;have hne:x≠[]:=by intro e;rw[e]at G;simp at G
   have e1:x=x.take (x.length - 1)++[48]:=by
    conv=>lhs;rw[←zM (x.length - 1) x,zP (show x.length - 1<x.length by omega),O]
    rw[yc (by omega)]
   rw[hk]
   conv=>lhs;rw[e1]
   rw[zw,qr];rfl
  ·rw[show(x[x.length - 1]'(by omega)==UInt8.ofNat 48)=false from beq_eq_false_iff_ne.2 O,AK];exact W.ret (W.ret (W.ret ⟨k,hk⟩))
 ·rw[zk G,za,AK];exact W.ret (W.ret (W.ret ⟨k,hk⟩))
theorem O8{ns:Nat}(h:ns<1000000000):∃r,decDigits (1000000000+ns)=49::r∧r.length=9∧r.all J2=true∧Dr r=ns:=by
 obtain⟨f1,f2,f3⟩:=G3 (1000000000+ns);have h1:=FB 10 (1000000000+ns) (by omega) (by rw[show 10^10=10000000000 from rfl];omega);cases hd:decDigits (1000000000+ns)with
 |nil=>rw[hd]at f3;simp at f3
 | cons c r=>
  rw[hd]at f1 f2 h1;rw[zR,zh]at f1;obtain⟨c1,c2⟩:=Pu f1.1;have E:=Kl f1.2 (zC r.length);have Q:r.length=9:=by
   rw[zt]at h1;rcases yg r.length 9 with h9|h9
   ·have O:Dr (c::r)<10^(r.length+1):=Kl (by rw[zR,f1.1,f1.2];rfl) (by simp);have:10^(r.length+1)≤10^9:=qE (by decide) (by omega);rw[show 10^9=1000000000 from rfl]at this;omega
   ·omega
  rw[N0,Q,show 10^9=1000000000 from rfl]at f2;rw[Q,show 10^9=1000000000 from rfl]at E;have hc:c.toNat=49:=by omega
  refine⟨r,?_,Q,f1.2,by omega⟩;rw[←UInt8.toNat_inj.1 (show c.toNat=(49:UInt8).toNat from hc)]
def Nu(t:Ap):Prop:= -9007199254740991≤t.Bu∧t.Bu≤9007199254740991∧0≤t.BG∧t.BG<1000000000
theorem Vh{t:Ap}(h:Nu t):Dw t=some true:=by
 obtain⟨h1,h2,M,T⟩:=h;unfold Dw;rw[zf (by omega),zf h2,zf M,zf T];rfl
end Go.Av.L
end
