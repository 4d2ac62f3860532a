/-
  Several texts in one.
-/
import Derived.Test.YtlddjbgohnlihaaGreatDoorWaM
/-
 A part.
-/
section
namespace Go.Av.L
open Go.Av Go.Lib
set_option linter.unusedVariables false
set_option linter.unusedSimpArgs false
set_option maxRecDepth 10000
theorem WX(k i:Nat)(h:i<k):8^(k - i)=8^(k - 1 - i)*8:=by
 rw[show k - i=(k - 1 - i)+1 by omega,y4]
theorem OG{v k:Nat}{T:List UInt8}(h1:1≤k)(E:v<8^k)(C:v≤9007199254740991)(X:T=[0]∨T=[0,32])(M:k+T.length≤12):Bf (Hz v k++T)=some ((v:Int),0):=by
 have hk:(Hz v k).length=k:=G2 k v;have hTl:1≤T.length∧T.length≤2:=by rcases X with rfl|rfl<;>simp
 have hlen:(Hz v k++T).length=k+T.length:=by rw[ze,hk]
 have hT0:T[0]?=some 0:=by rcases X with rfl|rfl<;>rfl
 have H:∀i,i<k→(Hz v k++T)[i]?=some (UInt8.ofNat (48+v / 8^(k - 1 - i)%8)):=fun i hi=>by
  rw[List.getElem?_append_left (by omega),T8 k v i hi]
 have G:(Hz v k++T)[k]?=some 0:=by rw[List.getElem?_append_right (by omega),hk,yV,hT0]
 have hfirst:∃b:UInt8,(Hz v k++T)[0]?=some b∧48≤(b.toNat:Int)∧(b.toNat:Int)≤55:=by
  refine⟨_,H 0 (by omega),?_⟩;rw[d8];have:=qh (v / 8^(k - 1 - 0)) (show 0<8 by decide);omega
 obtain⟨b,hb0,b1,b2⟩:=hfirst;have e0:JQ (Hz v k++T) (0:Int)=some (b.toNat:Int):=FX (i:=0) hb0;have L2:loop (EY (Hz v k++T)) (0:Int)=some (0:Int):=by
  refine Dn ?_;unfold EY;dsimp only;rw[zf (by omega),AQ,e0,za,za,show((b.toNat:Int)==32)=false from by rw[zL];omega,AK]
 have L3:loop (CV (Hz v k++T)) ((0:Int),(0:Int))=some ((k:Int),(v:Int)):=by
  have key:∀(j i:Nat),i+j=k→loop (CV (Hz v k++T)) ((i:Int),((v / 8^(k - i):Nat):Int))=some ((k:Int),(v:Int)):=by
   intro j
   induction j with
   |zero=>
    intro i hi;obtain rfl:i=k:=by omega
    refine Dn ?_;unfold CV;dsimp only;rw[zf (by omega),AQ,FX G,za,za,show decide ((((0:UInt8).toNat:Nat):Int)≥48)=false from rfl,AK,za,AK,yV,xN,xo]
   | succ j ih=>
    intro i hi;refine(B7 ?_).trans (ih (i+1) (by omega));have hd:=H i (by omega);have hpw:=WX k i (by omega);have U:v / 8^(k - i)=v / 8^(k - 1 - i) / 8:=by rw[hpw,qU]
    have hle:v / 8^(k - 1 - i)≤v:=Nat.div_le_self _ _;rw[U,show k - (i+1)=k - 1 - i by omega];have hm:=qh (v / 8^(k - 1 - i)) (show 0<8 by decide);generalize v / 8^(k - 1 - i)=q at *;unfold CV Ds;dsimp only
    rw[zf (by omega),AQ,FX hd,za,za,d8,zf (by omega),AQ,za,za,zf (by omega),AQ,za,zi (by omega),AK,za,DP (by omega),
     DK (x:=48+((q%8:Nat):Int)) (by omega) (by omega),DK (x:=48+((q%8:Nat):Int) - 48) (by omega) (by omega),DK (x:=((q / 8:Nat):Int)*8) (by omega) (by omega),DK (by omega) (by omega)]
    congr 3;omega
  have:=key k 0 (by omega);rw[xJ,xl E]at this;exact this
 have L4:loop (Ba (Hz v k++T)) (k:Int)=some (.inl ()):=by
  have s0:Ba (Hz v k++T) (k:Int)=some (.inl ((k+1:Nat):Int)):=by
   unfold Ba;dsimp only;rw[zf (by omega),AQ,FX G,za,DP (by omega)];rfl
  rcases X with rfl|rfl
  ·refine(B7 s0).trans (Dn ?_);unfold Ba;dsimp only;rw[zi (by rw[hlen];simp),AK]
  ·have hs1:(Hz v k++([0,32]:List UInt8))[k+1]?=some 32:=by rw[List.getElem?_append_right (by omega),hk,ya];rfl
   have s1:Ba (Hz v k++([0,32]:List UInt8)) ((k+1:Nat):Int)=some (.inl ((k+1+1:Nat):Int)):=by
    unfold Ba;dsimp only;rw[zf (by rw[hlen];simp only[zt,zG];omega),AQ,FX hs1,za,DP (by omega)];rfl
   refine(B7 s0).trans ((B7 s1).trans (Dn ?_));unfold Ba;dsimp only;rw[zi (by rw[hlen];simp only[zt,zG];omega),AK]
 unfold Bf;rw[hlen,zi (by omega),zi (by omega),yK,AK,e0,za,show((b.toNat:Int)==128)=false from by rw[zL];omega,AK,za,show((b.toNat:Int)==255)=false from by rw[zL];omega,AK,L2,za,L3,za];dsimp only;rw[L4,za];dsimp only;rw[zi (by omega),AK]
theorem Pz{v:Int}(h:0≤v∧v<2097152):Bf (CE v.toNat 8)=some (v,0):=by
 have:=OG (v:=v.toNat) (k:=7) (T:=[0]) (by omega) (by rw[show 8^7=2097152 from rfl];omega) (by omega) (.inl rfl) (by simp);rw[y3 h.1]at this;exact this
theorem Vd{v:Int}(h:0≤v∧v<8589934592):Bf (CE v.toNat 12)=some (v,0):=by
 have:=OG (v:=v.toNat) (k:=11) (T:=[0]) (by omega) (by rw[show 8^11=8589934592 from rfl];omega) (by omega) (.inl rfl) (by simp);rw[y3 h.1]at this;exact this
theorem PM{L:List (List UInt8)}(Y:Shape L){i:Nat}(hi:i<16){a b:Int}(P:a=((M1 i:Nat):Int))(C:b=((M1 i+Eb.getD i 0:Nat):Int))(I:b≤512):D6 L.flatten (some a) (some b)=some (L.getD i []):=by
 have h:=Zv Y hi;rw[show((M1 i:Nat):Int)+((Eb.getD i 0:Nat):Int)=b by omega,DK (by omega) (by omega),←P]at h;cases B:D6 L.flatten (some a) (some b)with
 |none=>rw[B]at h;cases h
 |some x=>rw[B]at h;exact h
theorem VN{L:List (List UInt8)}(Y:Shape L){i:Nat}(hi:i<16){a b v:Int}(fl:Bool)(P:a=((M1 i:Nat):Int))(C:b=((Eb.getD i 0:Nat):Int))(I:a+b≤512)(D:Bf (L.getD i [])=some (v,0))(E:0≤v):BR L.flatten a b fl=some (v,0):=by
 unfold BR;rw[DK (by omega) (by omega),PM Y hi P (by omega) I,za,D,za];dsimp only;rw[zi (by omega),qI,yX,AK]
theorem VF{h:AN}{p q:List UInt8}(F:Fit h p q):EA (DV h p q).flatten=some true:=by
 have S:=F.shape;have hsum:=F.sum;have V:=S.flat;have h6:(DV h p q).getD 6 []=CE (Qa h p q) 7++[32]:=rfl;have h60:∃r,(DV h p q).getD 6 []=UInt8.ofNat (48+Qa h p q / 8^5%8)::r:=by
  rw[h6];unfold CE;rw[show 7 - 1=5+1 from rfl,Po];exact⟨_,rfl⟩
 obtain⟨r,D⟩:=h60;have C:=FX (byte_at S (i:=6) (by omega) D);have hd:=qh (Qa h p q / 8^5) (show 0<8 by decide);have hread:Bf (CE (Qa h p q) 7++[32])=some ((Qa h p q:Int),0):=by
  have:=OG (v:=Qa h p q) (k:=6) (T:=[0,32]) (by omega) (by rw[show 8^6=262144 from rfl];omega) (by omega) (.inr rfl) (by simp);unfold CE;rw[zw];exact this
 have hS:Cw (DV h p q).flatten false=some ((Qa h p q:Int)):=by
  unfold DV;rw[Mx];exact aF F.lens.1 (by rw[ze,Dc (by omega)];rfl) F.lens.2
 unfold EA;rw[V,show((((512:Nat)):Int) !=512)=false from rfl,AK,show(148:Int)=((M1 6:Nat):Int) from rfl,C,za,d8,za,zi (by generalize Qa h p q / 8^5=z at *;omega),AK,PM S (i:=6) (by omega) (a:=((M1 6:Nat):Int)) (b:=156) rfl rfl (by decide),h6,za,hread,za];dsimp only;rw[show((0:Int)==0)=true from rfl,AQ,hS,za,xn,AQ,za,za]
end Go.Av.L
end
/-
 A part.
-/
section
namespace Go.Av.L
open Go.Av Go.Lib
set_option linter.unusedVariables false
set_option linter.unusedSimpArgs false
set_option maxRecDepth 10000
theorem decl(u:Nat)(h:u<10000):(decDigits u).length=if u<10 then 1 else if u<100 then 2 else if u<1000 then 3 else 4:=by
 have h1:∀v,v<10→(decDigits v).length=1:=fun v E=>by rw[R7 E];rfl
 have B:∀v,¬v<10→(decDigits v).length=(decDigits (v / 10)).length+1:=fun v E=>by rw[decDigits,dif_neg E,ze];rfl
 split
 ·exact h1 u (by omega)
 ·rw[B u (by omega)];split
  ·rw[h1 _ (by omega)]
  ·rw[B _ (by omega)];split
   ·rw[h1 _ (by omega)]
   ·rw[B _ (by omega),h1 _ (by omega)]
def bare(p:Pr):Nat:=p.Key.length+p.Value.length+3
def FO(p:Pr):Nat:=bare p+(decDigits (bare p+(decDigits (bare p)).length)).length
theorem Ux(p:Pr)(h:bare p≤5000):bare p+(decDigits (FO p)).length=FO p∧bare p<FO p∧FO p≤bare p+4∧∀x,bare p<x→x<FO p→bare p+(decDigits x).length≠x:=by
 have N:3≤bare p:=by unfold bare;omega
 have e1:=decl (bare p) (by omega);have e2:=decl (bare p+(decDigits (bare p)).length) (by split at e1<;>first|omega|(split at e1<;>first|omega|(split at e1<;>omega)));have D:FO p=bare p+(decDigits (bare p+(decDigits (bare p)).length)).length:=rfl;generalize (decDigits (bare p)).length=a at *;generalize (decDigits (bare p+a)).length=b at *;generalize bare p=n at *;generalize FO p=r at *;have C:b≤4∧1≤b:=by split at e2<;>first|omega|(split at e2<;>first|omega|(split at e2<;>omega))
 have key:∀x,x≤r→(decDigits x).length=if x<10 then 1 else if x<100 then 2 else if x<1000 then 3 else 4:=fun x R=>decl x (by omega)
 have er:=key r (zC _);refine⟨?_,by omega,by omega,fun x h1 h2=>?_⟩
 ·rw[er]
  repeat' split
  all_goals (repeat' split at e1)
  all_goals (repeat' split at e2)
  all_goals omega
 ·rw[key x (by omega)]
  repeat' split
  all_goals (repeat' split at e1)
  all_goals (repeat' split at e2)
  all_goals omega
theorem Sv(p:Pr)(h:bare p≤5000):Fo p=some (FO p:Int):=by
 have N:(p.Key.length:Int)+(p.Value.length:Int)=((p.Key.length+p.Value.length:Nat):Int):=by omega
 have C:((p.Key.length+p.Value.length:Nat):Int)+3=(bare p:Int):=by unfold bare;omega
 have M:p.Key.length+p.Value.length≤5000:=by unfold bare at h;omega
 have hd:∀v,v≤5010→(decDigits v).length≤4:=fun v E=>FB 4 v (by omega) (by rw[show 10^4=10000 from rfl];omega);have hi:∀v:Nat,Lib.itoa (v:Int)=decDigits v:=fun v=>by rw[Ge (by omega),zN]
 have d1:=hd (bare p) (by omega);have d2:=hd (bare p+(decDigits (bare p)).length) (by omega);unfold Fo;rw[N,DK (x:=((p.Key.length+p.Value.length:Nat):Int)) (by omega) (by omega),C,DK (x:=(bare p:Int)) (by omega) (by omega),zf (by omega),Ak,hi];rw[DK (x:=(bare p:Int)+((decDigits (bare p)).length:Int)) (by omega) (by omega),zf (by omega),Ak,show(bare p:Int)+((decDigits (bare p)).length:Int)=((bare p+(decDigits (bare p)).length:Nat):Int) by omega,hi,DK (by omega) (by omega)];congr 1
theorem Wo(p:Pr)(h:bare p≤5000):EO p=some (FO p:Int):=by
 obtain⟨f1,f2,f3,f4⟩:=Ux p h;have N:(p.Key.length:Int)+(p.Value.length:Int)=((p.Key.length+p.Value.length:Nat):Int):=by omega
 have C:((p.Key.length+p.Value.length:Nat):Int)+3=(bare p:Int):=by unfold bare;omega
 have M:p.Key.length+p.Value.length≤5000:=by unfold bare at h;omega
 have key:∀(k x:Nat),x+k=FO p→bare p<x→loop (DR p) (x:Int)=some (.inr (FO p:Int)):=by
  intro k;have hd:∀x,x≤FO p→(decDigits x).length≤4:=fun v E=>FB 4 v (by omega) (by rw[show 10^4=10000 from rfl];omega)
  induction k with
  | zero=>
   intro x R J;obtain rfl:x=FO p:=by omega
   have:=hd (FO p) (zC _);refine Dn ?_;unfold DR;dsimp only
   rw[N,DK (x:=((p.Key.length+p.Value.length:Nat):Int)) (by omega) (by omega),C,DK (x:=(bare p:Int)) (by omega) (by omega),DK (x:=(bare p:Int)+20) (by omega) (by omega),zf (by omega),AQ,Qr _ (by omega),za,DK (by omega) (by omega),
    show((bare p:Int)+((decDigits (FO p)).length:Int)==(FO p:Int))=true from by rw[yM];omega,AQ]
  | succ k ih=>
   intro x R J;have:=hd x (by omega);have hne:=f4 x J (by omega);refine(B7 ?_).trans (ih (x+1) (by omega) (by omega));unfold DR;dsimp only
   rw[N,DK (x:=((p.Key.length+p.Value.length:Nat):Int)) (by omega) (by omega),C,DK (x:=(bare p:Int)) (by omega) (by omega),DK (x:=(bare p:Int)+20) (by omega) (by omega),zf (by omega),AQ,Qr _ (by omega),za,DK (x:=(bare p:Int)+((decDigits x).length:Int)) (by omega) (by omega),
    show((bare p:Int)+((decDigits x).length:Int)==(x:Int))=false from by rw[zL];omega,AK,DP (by omega)]
 unfold EO;rw[N,DK (x:=((p.Key.length+p.Value.length:Nat):Int)) (by omega) (by omega),C,DK (x:=(bare p:Int)) (by omega) (by omega),DP (by omega),key (FO p - (bare p+1)) (bare p+1) (by omega) (by omega)];rfl
theorem au:∀k:Fin 100,Fh ((k.val:Nat):Int)=some (if k.val<10 then[UInt8.ofNat (48+k.val)]else[UInt8.ofNat (48+k.val / 10),UInt8.ofNat (48+k.val%10)]):=by decide+kernel
theorem Xl{u:Nat}(h:u<100):Fh (u:Int)=some (decDigits u):=by
 rw[au ⟨u,h⟩];dsimp only;split
 ·rename_i h1;rw[R7 h1]
 ·rename_i h1;rw[Lib.decDigits_two h1 h]
theorem Zj(u:Nat):KI (Lib.nDigits u) u=decDigits u:=(Lib.decDigits_eq u).symm
theorem aC(x:List UInt8){u:Nat}(hu:u<10000)(R:x.length≤100000):Cm x (u:Int) 10=some (x++decDigits u):=by
 have hd:=FB 4 u (by omega) (by rw[show 10^4=10000 from rfl];omega);have hw:IntKind.u64.wrap (u:Int)=(u:Int):=by rw[IntKind.wrap_u64];omega
 unfold Cm DS;rw[zi (by omega),AK,hw,za];dsimp only;unfold Di;rw[show((10:Int)==10)=true from rfl,AQ];by_cases h:u<100
 ·rw[zf (by omega),AQ,DK (by omega) (by omega),Xl h,za,GZ (by omega) (by omega),Ak];rfl
 ·have M:(decDigits u).length=Lib.nDigits u:=Lib.decDigits_length u;have hn:WY 24 ((Lib.nDigits u:Nat):Int)=some (Lib.nDigits u):=by unfold WY;rw[zm (by omega),zN]
  have K:=Lib.nDigits_pos u;have V:RV (Lib.nDigits u) (u:Int)=true:=by
   unfold RV;refine zf ⟨by omega,by omega,by omega,by omega,?_⟩;rw[zN];exact Lib.lt_pow_nDigits u
  rw[zi (by omega),AK,zf (by omega),Ak,zN,hn,za,V,yL,zf (by rw[zT];omega),Ak,za,Zj,zf (by rw[ze];omega),Ak,←M,yW,GZ (by omega) (by omega),Ak];rfl
def Fq(p:Pr):List UInt8:=decDigits (FO p)++([32]++(p.Key++([61]++(p.Value++[10]))))
def B4(l:List Pr):List UInt8:=(l.map Fq).flatten
theorem Kc(l:List Pr)(p:Pr):B4 (l++[p])=B4 l++Fq p:=by unfold B4;rw[yn,yP];simp
structure Ky(p:Pr):Prop where
 ne:p.Key≠[]
 eq:(61:UInt8)∉p.Key
 b:bare p≤1500
theorem Ix{p:Pr}(h:Ky p):(Fq p).length=FO p∧FO p≤1504:=by
 obtain⟨f1,f2,f3,f4⟩:=Ux p (by have:=h.b;omega);have:=h.b;refine⟨?_,by omega⟩;rw[←f1];unfold Fq bare;simp only[ze,zt,zG];omega
theorem GN:∀{l:List Pr},(∀p∈l,Ky p)→(B4 l).length≤1504*l.length
 |[],_=>by simp[B4]
 |p::l,h=>by
  have h1:=Ix (h p (by simp));have h2:=GN fun q U=>h q (yw _ U);show(Fq p++B4 l).length≤_;rw[ze,zt];omega
theorem Vt{p:Pr}(h:(61:UInt8)∉p.Key):idxOf p.Key 61<0:=by
 have:=mt (MG p.Key 61).1 h;omega
theorem Wp{p:Pr}(h:Ky p):F9 p=some true:=by
 unfold F9;rw[show(p.Key==([]:List UInt8))=false from beq_eq_false_iff_ne.2 h.ne,yD,AQ,show(61:Int)=((61:UInt8).toNat:Int) from rfl,VU,za,zf (Vt h.eq)];rfl
theorem Tw{p:Pr}(h:Ky p):CG p=some true:=by
 have:=h.b;rw[PT p (by unfold bare at this;omega),show(p.Key==([]:List UInt8))=false from beq_eq_false_iff_ne.2 h.ne,zi (by have:=Vt h.eq;omega)];rfl
theorem YI{l:List Pr}(M:l.length≤20)(h:∀p∈l,Ky p):E0 l=some (B4 l,0):=by
 have Z:loop (D9 l) ((0:Int),(0:Int))=some (.inl ((B4 l).length:Int)):=by
  refine W.eq (W.list (l:=l) (fun(s:Int) (i:Nat)=>(s,(i:Int))) (fun s i=>s=((B4 (l.take i)).length:Int)) ?_ ?_ (0:Int) (by simp[B4]))
  ·intro s B;unfold D9;dsimp only;rw[zi (by omega),AK];refine W.ret ?_;rw[B,z8]
  ·intro s i hi B;have D:=h l[i] (zS hi);have Q:=Ix D;have C:=D.b;have O:=GN (l:=l.take i) fun p K=>h p (yE K);rw[zA]at O;unfold D9;dsimp only;rw[zf (by omega),AQ,EH hi,za,Wp D,za,zY,AK,Sv _ (by omega),za,DP (by omega)];refine W.ret ⟨_,rfl,?_⟩;rw[B,Da (List.getElem?_eq_getElem hi),Kc,ze,Q.1,DK (by omega) (by omega)];unfold mn;split<;>omega
 have h1:loop (D8 l) (([]:List UInt8),(0:Int))=some (B4 l):=by
  refine W.eq (W.list (l:=l) (fun(s:List UInt8) (i:Nat)=>(s,(i:Int))) (fun s i=>s=B4 (l.take i)) ?_ ?_ ([]:List UInt8) (by simp[B4]))
  ·intro s B;unfold D8;dsimp only;rw[zi (by omega),AK];refine W.ret ?_;rw[B,z8]
  ·intro s i hi B;have D:=h l[i] (zS hi);have Q:=Ix D;have C:=D.b;have O:=GN (l:=l.take i) fun p K=>h p (yE K);rw[zA,←B]at O;have hkl:l[i].Key.length+l[i].Value.length≤1500:=by unfold bare at C;omega
   have hdl:=FB 4 (FO l[i]) (by omega) (by rw[show 10^4=10000 from rfl];omega);unfold D8;dsimp only;rw[zf (by omega),AQ,EH hi,za,Sv _ (by omega),za,aC s (by omega) (by omega),za,zf (by simp only[ze,zt,zG];omega),Ak,zf (by simp only[ze,zt,zG];omega),Ak,zf (by simp only[ze,zt,zG];omega),Ak,zf (by simp only[ze,zt,zG];omega),Ak,GZ (by simp only[ze,zt,zG];omega) (by simp only[ze,zt,zG];omega),Ak,DP (by omega)];refine W.ret ⟨_,rfl,?_⟩;rw[B,Da (List.getElem?_eq_getElem hi),Kc];unfold Fq;simp only[zw]
 have hlen:=GN h;unfold E0;rw[zi (by omega),AK,Z,za];dsimp only;rw[zi (by omega),AK,h1,za]
theorem We{l:List Pr}(M:l.length≤20)(h:∀p∈l,Ky p):DJ l=some (B4 l,0):=by
 have Z:loop (CK l) (0:Int)=some (.inl ()):=by
  refine W.eq (W.list (l:=l) (fun(_:Unit) (i:Nat)=>(i:Int)) (fun _ _=>True) ?_ ?_ () trivial)
  ·intro s B;unfold CK;dsimp only;rw[zi (by omega),AK];exact W.ret rfl
  ·intro s i hi B;unfold CK;dsimp only;rw[zf (by omega),AQ,EH hi,za,Tw (h l[i] (zS hi)),za,zY,AK,DP (by omega)];exact W.ret ⟨(),rfl,trivial⟩
 have h1:loop (CH l) (([]:List UInt8),(0:Int))=some (.inl (B4 l)):=by
  refine W.eq (W.list (l:=l) (fun(s:List UInt8) (i:Nat)=>(s,(i:Int))) (fun s i=>s=B4 (l.take i)) ?_ ?_ ([]:List UInt8) (by simp[B4]))
  ·intro s B;unfold CH;dsimp only;rw[zi (by omega),AK];refine W.ret ?_;rw[B,z8]
  ·intro s i hi B;have D:=h l[i] (zS hi);have Q:=Ix D;have C:=D.b;have O:=GN (l:=l.take i) fun p K=>h p (yE K);rw[zA,←B]at O;have hkl:l[i].Key.length+l[i].Value.length≤1500:=by unfold bare at C;omega
   have hdl:=FB 4 (FO l[i]) (by omega) (by rw[show 10^4=10000 from rfl];omega);unfold CH;dsimp only;rw[zf (by omega),AQ,EH hi,za,za,za,Wo _ (by omega),za,Qr _ (by omega),za,zf (by simp only[ze,zt,zG];omega),Ak,zf (by simp only[ze,zt,zG];omega),Ak,zf (by simp only[ze,zt,zG];omega),Ak,zf (by simp only[ze,zt,zG];omega),Ak,zf (by simp only[ze,zt,zG];omega),Ak,zf (by simp only[ze,zt,zG];omega),Ak,zi (by simp only[ze,zt,zG];omega),AK,DP (by omega)];refine W.ret ⟨_,rfl,?_⟩;rw[B,Da (List.getElem?_eq_getElem hi),Kc];unfold Fq;simp only[zw]
 unfold DJ;rw[zi (by omega),AK,Z,za];dsimp only;rw[h1,za]
def E6(s:List UInt8):List UInt8:=s++List.replicate ((512 - s.length%512)%512) 0
theorem VT(k:Nat):Lib.repeatL ([0]:List UInt8) k=List.replicate k 0:=by
 induction k with
 |zero=>rfl
 |succ k ih=>rw[qr,←ih];rfl
theorem bF{s:List UInt8}(h:s.length≤100000):I9 s=some (E6 s):=by
 have e:Int.tmod (IntKind.i64.wrap ((512:Int) - (Int.tmod (s.length:Int) (512:Int)))) (512:Int)=(((512 - s.length%512)%512:Nat):Int):=by
  rw[show(512:Int)=((512:Nat):Int) from rfl,Tl];have:=qh s.length (show 0<512 by decide);generalize s.length%512=r at *;rw[DK (by omega) (by omega),show((512:Nat):Int) - (r:Int)=((512 - r:Nat):Int) by omega,Tl]
 have J:=qh (512 - s.length%512) (show 0<512 by decide);unfold I9 G6;rw[za,e,zN,VT];unfold E6;generalize (512 - s.length%512)%512=k at *;rw[show Pp ([0]:List UInt8) (k:Int)=true from zf ⟨by omega,by omega,by simp;omega⟩,Ak,zf (by rw[zT];omega),Ak]
theorem G9(s:List UInt8):(E6 s).length%512=0∧s.length≤(E6 s).length∧(E6 s).length<s.length+512:=by
 unfold E6;rw[ze,zT];omega
theorem join_eq{a b:List UInt8}(P:a.length≤1000000)(C:b.length≤1000000):Eg ([a,b]:List (List UInt8))=some (a++b):=by
 unfold Eg;have s0:Ce [a,b] (([]:List UInt8),(0:Int))=some (.inl (a,(1:Int))):=by
  unfold Ce;dsimp only;rw[show decide ((0:Int)<(([a,b]:List (List UInt8)).length:Int))=true from rfl,AQ,show G8 [a,b] (0:Int)=some a from rfl,za,GZ (by simp;omega) (by simp;omega),Ak];rfl
 have s1:Ce [a,b] (a,(1:Int))=some (.inl (a++b,(2:Int))):=by
  unfold Ce;dsimp only;rw[show decide ((1:Int)<(([a,b]:List (List UInt8)).length:Int))=true from rfl,AQ,show G8 [a,b] (1:Int)=some b from rfl,za,GZ (by omega) (by omega),Ak];rfl
 have s2:Ce [a,b] (a++b,(2:Int))=some (.inr (a++b)):=rfl;rw[B7 s0,B7 s1,Dn s2];rfl
end Go.Av.L
end
