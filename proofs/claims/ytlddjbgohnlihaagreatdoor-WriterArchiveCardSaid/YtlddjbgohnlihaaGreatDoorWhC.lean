/-
  Several texts in one.
-/
import Derived.Test.YtlddjbgohnlihaaGreatDoorBkC
/-
 A part.
-/
section
namespace Go.Av.L
open IntKind (i64)
open Go.Av Go.Lib
set_option linter.unusedVariables false
set_option linter.unusedSimpArgs false
set_option maxRecDepth 10000
theorem PT(p:Pr)(G:p.Key.length≤1000000):CG p=some (!((p.Key==[])||decide (idxOf p.Key 61≥0))):=by
 have M:∀i:Nat,i<p.Key.length→B9 p (i:Int)=some (if(!(p.Key.getD i 0==61))=true then .inl ((i+1:Nat):Int)else .inr (.inr false)):=fun i hi=>by
  unfold B9;dsimp only;rw[zf (by omega),AQ,GL hi,za,show(61:Int)=((61:Nat):Int) from rfl,Hq (by omega),show p.Key.getD i 0=p.Key[i] from by rw[zo,List.getElem?_eq_getElem hi];rfl,DP (by omega)];show AX (p.Key[i]==61) _ _=_;cases p.Key[i]==61<;>rfl
 have hend:B9 p (p.Key.length:Int)=some (.inr (.inl ())):=by
  unfold B9;dsimp only;rw[zi (by omega),AK]
 unfold CG;rw[MH hend M,za];have hm:=MG p.Key 61;by_cases h:(61:UInt8)∈p.Key
 ·rw[zk,zf (hm.2 h),xh]
  ·rfl
  ·intro ha;rw[zn]at ha;obtain⟨i,hi,e⟩:=yA h;have:=ha i (zO.2 hi);rw[zo,List.getElem?_eq_getElem hi,e]at this;exact absurd this (by decide)
 ·rw[zm,zi (show ¬idxOf p.Key 61≥0 from fun h'=>h (hm.1 h')),yK];rw[zn];intro i hi;have X:=zO.1 hi;rw[zo,List.getElem?_eq_getElem X,zV,zK,zL];exact fun e=>h (e ▸ zS X)
theorem RL(k:IH):DD k=some (C0 k):=by
 unfold DD C0;congr 1
 ac_rfl
theorem Tx{m:AJ}{i:Nat}(hi:i<m.Extra.length)(G:m.Extra.length≤1000000)(hk:∀p∈m.Extra,p.Key.length≤1000000):B6 m (i:Int)=some (if cX m.Extra i=true then .inl ((i+1:Nat):Int)else .inr (.inr 2)):=by
 unfold B6;dsimp only;rw[zf (by omega),AQ,EH hi,za,PT _ (hk _ (zS hi)),za,RL,za,DP (by omega)];have hp:(AX (decide ((i:Int)>0)) ((G8 m.Extra (i64.wrap ((i:Int) - 1))).bind fun x14=>some (!(Op.bytesLess x14.Key m.Extra[i].Key))) (some false):Option Bool)=some (decide (0<i)&& !(Op.bytesLess (m.Extra.getD (i - 1) US).Key m.Extra[i].Key)):=by
  by_cases E:0<i
  ·rw[zf (show(i:Int)>0 by omega),AQ,DK (by omega) (by omega),show(i:Int) - 1=((i - 1:Nat):Int) by omega,EH (by omega),za,getD_at (show i - 1<m.Extra.length by omega),zf E,yL]
  ·rw[zi (show ¬(i:Int)>0 by omega),AK,zi E,yX]
 rw[hp,za];have hk:cX m.Extra i= !(C0 m.Extra[i].Key||((m.Extra[i].Key==[]||m.Extra[i].Value==[])||(decide (idxOf m.Extra[i].Key 61≥0)||(decide (0<i)&& !(Op.bytesLess (m.Extra.getD (i - 1) US).Key m.Extra[i].Key))))):=by unfold cX;rw[getD_at hi]
 rw[hk];generalize C0 m.Extra[i].Key=b1;generalize (m.Extra[i].Key==[])=b2;generalize (m.Extra[i].Value==[])=b3;generalize decide (idxOf m.Extra[i].Key 61≥0)=b4;generalize (decide (0<i)&& !(Op.bytesLess (m.Extra.getD (i - 1) US).Key m.Extra[i].Key))=b5;cases b1<;>cases b2<;>cases b3<;>cases b4<;>cases b5<;>rfl
theorem Wh(m:AJ)(G:m.Extra.length≤1000000)(hk:∀p∈m.Extra,p.Key.length≤1000000)(J:m.Name.length≤1000000∧m.Ah.length≤1000000∧m.AZ.length≤1000000∧m.Ad.length≤1000000):CD m=some (Gu m):=by
 obtain⟨h1,h2,h3,h4⟩:=J;obtain⟨r1,e1,b1⟩:=Lq m.Name h1;obtain⟨r2,e2,b2⟩:=Lq m.Ah h2;obtain⟨r3,e3,b3⟩:=Lq m.AZ h3;obtain⟨r4,e4,b4⟩:=Lq m.Ad h4;have O:loop (B6 m) 0=some (if Tg m.Extra=true then .inl ()else .inr 2):=by
  refine MH (n:=m.Extra.length) ?_ fun i hi=>Tx hi G hk;unfold B6;dsimp only;rw[zi (by omega),AK]
 have hnum:((((((((((decide (m.BO<0))||(decide (m.BO>9007199254740991)))||(decide (m.BW<0)))||(decide (m.BW>9007199254740991)))||(decide (m.Mode<0)))||(decide (m.Mode≥2097152)))||(decide (m.Aj<0)))||(decide (m.Aj≥2097152)))||(decide (m.Ao<0)))||(decide (m.Ao≥2097152))|| !((((decide (m.Time.Bu≥(-9007199254740991)))&&(decide (m.Time.Bu≤9007199254740991)))&&(decide (m.Time.BG≥0)))&&(decide (m.Time.BG≤999999999))))= !Q5 m:=by
  unfold Q5 ON;rw[qj];simp only[yo,zK,yb,zD,zx];omega
 unfold CD;rw[e1,za,b1,e2,za,b2,e3,za,b3,e4,za,b4,O,za];unfold Bj;rw[za];unfold Gu XQ;simp only[Bool.not_not];generalize EW m.Name=c1;generalize EW m.Ah=c2;generalize EW m.AZ=c3;generalize EW m.Ad=c4;generalize (m.Name==[])=c5;generalize Tg m.Extra=c6;have hlast:∀(a b:Bool),(AX a (some true) (some b):Option Bool)=some (a||b):=fun a b=>by cases a<;>rfl
 cases c6 with
 |false=>cases c1<;>cases c2<;>cases c3<;>cases c4<;>cases c5<;>rfl
 |true=>
  rw[zm rfl];dsimp only;have hc:=(hlast _ _).trans (congrArg some hnum);rw[hc,za];generalize Q5 m=c7;cases c1<;>cases c2<;>cases c3<;>cases c4<;>cases c5<;>cases c7<;>rfl
end Go.Av.L
end
/-
 A part.
-/
section
namespace Go.Av.L
open IntKind (i64)
open Go.Av Go.Lib
set_option linter.unusedVariables false
set_option linter.unusedSimpArgs false
set_option maxRecDepth 10000
theorem X1{k:Nat}(h:k<10):D6 ([48,49,50,51,52,53,54,55,56,57]:List UInt8) (some ((k:Nat):Int)) (some (((k+1:Nat)):Int))=some [UInt8.ofNat (48+k)]:=by
 have:k=0∨k=1∨k=2∨k=3∨k=4∨k=5∨k=6∨k=7∨k=8∨k=9:=by omega
 rcases this with rfl|rfl|rfl|rfl|rfl|rfl|rfl|rfl|rfl|rfl<;>rfl
theorem ZA(v:Nat):Int.tdiv (v:Int) 10=((v / 10:Nat):Int):=by rw[xz (by omega)];omega
theorem bJ(v:Nat):Int.tmod (v:Int) 10=((v%10:Nat):Int):=by rw[xA (by omega)];omega
theorem Td:∀(n F u:Nat),u<10^(n+1)→n<F→n≤30→u≤900719925474099100→(C9 F).A3 (u:Int)=some (decDigits u)
 |n,0,u,_,h,_,_=>by omega
 | n,F+1,u,hu,hF,h30,H=>by
  show Dj (C9 F) (u:Int)=_;unfold Dj;rw[decDigits];by_cases h:u<10
  ·rw[zf (by omega),AQ,DP (by omega),X1 h,za,dif_pos h]
  ·rw[zi (by omega),AK,ZA,bJ,DK (by omega) (by omega),dif_neg h];cases n with
   |zero=>rw[yq,Nat.pow_one]at hu;omega
   |succ n=>
    rw[Td n F (u / 10) (by rw[y4]at hu;omega) (by omega) (by omega) (by omega),za,DP (by omega),X1 (by omega),za];have:=FB (n+1) (u / 10) (by omega) (by rw[y4]at hu;omega);rw[zf (by simp;omega),Ak]
theorem PI{n:Int}(h:0≤n)(h2:n≤900719925474099100):A3 n=some (decDigits n.toNat):=by
 have:=Td 17 YY n.toNat (by rw[show 10^(17+1)=1000000000000000000 from rfl];omega) (by rw[Zk];omega) (by omega) (by omega);rw[y3 h]at this;exact this
theorem Qr(u:Nat)(h2:u≤900719925474099100):A3 (u:Int)=some (decDigits u):=by
 have:=PI (n:=(u:Int)) (by omega) (by omega);rwa [zN]at this
def aY(s:List UInt8):Prop:=s.getLast?≠some 48
theorem ZG{a b:List UInt8}{j k:Nat}(ha:aY a)(H:aY b)(h:a++List.replicate j 48=b++List.replicate k 48):a=b:=by
 have G:=congrArg List.length h;simp only[ze,zT]at G;have key:∀{a b:List UInt8} {j k:Nat},aY b→a++List.replicate j 48=b++List.replicate k 48→a.length<b.length→False:=fun{a b j k} H h K=>by
  have h1:(b++List.replicate k (48:UInt8))[b.length - 1]?=b.getLast?:=by
   rw[List.getElem?_append_left (by omega),List.getLast?_eq_getElem?]
  have G:=congrArg List.length h;simp only[ze,zT]at G;rw[←h,List.getElem?_append_right (by omega),List.getElem?_replicate,zm (by omega)]at h1;exact H h1.symm
 rcases ql a.length b.length with h1|h1|h1
 ·exact(key H h h1).elim
 ·exact(List.append_inj h h1).1
 ·exact(key ha h.symm h1).elim
theorem ZD(s:List UInt8)(M:s.length≤1000):W (Bq s) fun r=>(∃k,s=r++List.replicate k 48)∧aY r:=by
 unfold Bq;refine W.ite (fun h=>W.ret ⟨⟨0,by simp⟩,?_⟩) fun _=>?_
 ·rw[show(([48]:List UInt8)==([]:List UInt8))=false from rfl,yK]at h;rw[eq_of_beq h];intro e;cases e
 unfold C6;refine W.bind (W.bind (W.loop (fun x:List UInt8=>∃k,s=x++List.replicate k 48) (fun x=>x.length) ⟨0,by simp⟩ fun x O=>?_));obtain⟨k,hk⟩:=O;have hxl:x.length≤1000:=by have:=congrArg List.length hk;rw[ze]at this;omega
 unfold DW;dsimp only;rw[Fc];by_cases E:(x.length:Int)>0
 ·rw[zm E,DK (by omega) (by omega),show(x.length:Int) - 1=((x.length - 1:Nat):Int) by omega,GL (by omega),za,za,show(48:Int)=((48:Nat):Int) from rfl,Hq (by omega)];by_cases H:x[x.length - 1]'(by omega)=48
  ·rw[show(x[x.length - 1]'(by omega)==UInt8.ofNat 48)=true from by rw[H];rfl,AQ,Ie (by omega),za];refine W.ret ⟨⟨k+1,?_⟩,by rw[zA];omega⟩;have e1:x=x.take (x.length - 1)++[48]:=by
    conv=>lhs;rw[←zM (x.length - 1) x,zP (show x.length - 1<x.length by omega),H]
    rw[yc (by omega)]
   rw[hk]
   conv=>lhs;rw[e1]
   rw[zw,qr];rfl
  ·rw[show(x[x.length - 1]'(by omega)==UInt8.ofNat 48)=false from beq_eq_false_iff_ne.2 H,AK];exact W.ret (W.ret (W.ret ⟨⟨k,hk⟩,fun e=>by rw[List.getLast?_eq_getElem?,List.getElem?_eq_getElem (by omega)]at e;exact H (zJ e)⟩))
 ·rw[zk E,za,AK];exact W.ret (W.ret (W.ret ⟨⟨k,hk⟩,fun e=>by rw[zy (show x.length=0 by omega)]at e;cases e⟩))
theorem RM:∀{s:List UInt8},s.all J2=true→Dr s=0→s=List.replicate s.length 48
 |[],_,_=>rfl
 | c::s,h,E=>by
  rw[zR,zh]at h;rw[N0]at E;have hp:0<10^s.length:=Nat.pow_pos (by decide);have h1:c.toNat - 48=0:=by
   rcases yv (c.toNat - 48)with e|e
   ·exact e
   ·have:=Nat.mul_pos e hp;omega
  obtain⟨b1,b2⟩:=Pu h.1;have hc:c=48:=UInt8.toNat_inj.1 (show c.toNat=(48:UInt8).toNat by show c.toNat=48;omega);have ih:=RM h.2 (by omega);rw[zt,qr,←ih,hc]
theorem dM(a b:Nat):Int.tdiv (a:Int) (b:Int)=((a / b:Nat):Int):=by rw[xz (by omega),Int.natCast_ediv]
theorem Tl(a b:Nat):Int.tmod (a:Int) (b:Int)=((a%b:Nat):Int):=by rw[xA (by omega),Int.natCast_emod]
theorem R7{k:Nat}(h:k<10):decDigits k=[UInt8.ofNat (48+k)]:=by rw[decDigits,dif_pos h]
theorem dK{pre N:List UInt8}(hN:N.length=9)(hd:N.all J2=true)(E:0<Dr N)(hp:pre.length≤100):∃R k,loop Bx ((Dr N:Int),pre,(100000000:Int))=some (pre++R)∧N=R++List.replicate k 48∧aY R:=by
 have key:∀(k i:Nat),i+k=9→(aY (N.take i)∨0<Dr (N.drop i))→∃R j,loop Bx ((Dr (N.drop i):Int),pre++N.take i,((10^(8 - i) / (if i=9 then 10 else 1):Nat):Int))=some (pre++R)∧N=R++List.replicate j 48∧aY R:=by
  intro k
  induction k with
  | zero=>
   intro i hi Y;obtain rfl:i=9:=by omega
   have e:N.drop 9=[]:=yc (by omega);rw[e]at Y⊢;refine⟨N.take 9,0,Dn ?_,?_,?_⟩
   ·unfold Bx;dsimp only;rw[zi (by simp[Dr]),AK]
   ·rw[List.replicate_zero,yj,zI (by omega)]
   ·rcases Y with h|h
    ·exact h
    ·simp[Dr]at h
  | succ k ih=>
   intro i hi Y;have V:i<N.length:=by omega
   rw[zk (show i≠9 by omega),xo];have C:(N.drop i).all J2=true:=by
    rw[zn]at hd⊢;exact fun x O=>hd x (qB O)
   by_cases hpos:0<Dr (N.drop i)
   ·have e1:N.drop i=N[i]::N.drop (i+1):=zP V;have hdi:J2 N[i]=true:=by
     rw[e1,zR,zh]at C;exact C.1
    obtain⟨b1,b2⟩:=Pu hdi;have hdr:(N.drop (i+1)).all J2=true:=by
     rw[e1,zR,zh]at C;exact C.2
    have K:Dr (N.drop (i+1))<10^(8 - i):=Kl hdr (by rw[yd];omega);have Z:Dr (N.drop i)=(N[i].toNat - 48)*10^(8 - i)+Dr (N.drop (i+1)):=by
     rw[e1,N0,yd,show N.length - (i+1)=8 - i by omega]
    have hq:Dr (N.drop i) / 10^(8 - i)=N[i].toNat - 48:=by
     rw[Z,qT,Nat.add_mul_div_right _ _ (Nat.pow_pos (by decide)),xl K,yq]
    have hr:Dr (N.drop i)%10^(8 - i)=Dr (N.drop (i+1)):=by
     rw[Z,qT,Nat.add_mul_mod_self_right,xj K]
    have Q:N.take (i+1)=N.take i++[N[i]]:=Da (List.getElem?_eq_getElem V);have hz':aY (N.take (i+1))∨0<Dr (N.drop (i+1)):=by
     rcases yv (Dr (N.drop (i+1)))with e|e
     ·left;intro I;rw[Q,List.getLast?_concat]at I;replace I:=zJ I;rw[e,I]at Z;simp at Z;omega
     ·exact .inr e
    obtain⟨R,j,G,hR⟩:=ih (i+1) (by omega) hz';refine⟨R,j,(B7 ?_).trans G,hR⟩;have hpow:10^(8 - i)≤100000000:=by
     have:=qE (show 0<10 by decide) (show 8 - i≤8 by omega);rwa [show 10^8=100000000 from rfl]at this
    have hpp:0<10^(8 - i):=Nat.pow_pos (by decide);have hnext:10^(8 - i) / 10=10^(8 - (i+1)) / (if i+1=9 then 10 else 1):=by
     by_cases h8:i=8
     ·subst h8;rfl
     ·rw[zk (by omega),xo,show 8 - i=(8 - (i+1))+1 by omega,y4,Nat.mul_div_cancel _ (by decide)]
    rw[←hnext,←hr,Q];have hdig:N[i].toNat - 48<10:=by omega
    have hbyte:UInt8.ofNat (48+(N[i].toNat - 48))=N[i]:=by rw[show 48+(N[i].toNat - 48)=N[i].toNat by omega,UInt8.ofNat_toNat]
    generalize 10^(8 - i)=P at *;generalize hD:Dr (N.drop i)=D at *;unfold Bx;dsimp only;rw[zf (by omega),AQ,show((P:Int) !=0)=true from by rw[qR];omega,Ak,dM,ZA,Tl,hq,DK (x:=((N[i].toNat - 48:Nat):Int)) (by omega) (by omega),Qr _ (by omega),R7 hdig,hbyte,za,Ak,DK (x:=((P / 10:Nat):Int)) (by omega) (by omega),zf (by simp only[ze,zA,zt,zG];omega),Ak,zw]
   ·have e0:Dr (N.drop i)=0:=by omega
    refine⟨N.take i,N.length - i,Dn ?_,?_,?_⟩
    ·unfold Bx;dsimp only;rw[zi (by omega),AK]
    ·have:=RM C e0;rw[yd]at this;rw[←this,zM]
    ·rcases Y with h|h
     ·exact h
     ·exact absurd h hpos
 have:=key 9 0 (by omega) (.inr (by rw[yl];exact E));rw[yl,y7,yj]at this;exact this
theorem Xh{t:Ap}(h:Nu t):∃ts,DO t=some (ts,0)∧Bp t.Bu t.BG=some ts∧1≤ts.length∧ts.length≤60:=by
 have hr:=Vh h;obtain⟨h1,h2,h3,h4⟩:=h;obtain⟨sec,ns,sg,hsec,hns,U,T,hsg⟩:∃(sec ns:Nat) (sg:List UInt8),sec≤9007199254740991∧ns<1000000000∧
   (AX (decide (t.Bu<0)) ((E3 t).bind fun x5=>some (x5.Bu,x5.BG,([45]:List UInt8))) (some (t.Bu,t.BG,([]:List UInt8))):Option ((Int×Int×(List UInt8))))=some ((sec:Int),(ns:Int),sg)∧
   (AX (decide (t.Bu<0)) (AX (t.BG==0) (some (i64.wrap (0 - t.Bu),t.BG,([45]:List UInt8))) (some (i64.wrap ((i64.wrap (0 - t.Bu)) - 1),i64.wrap ((1000000000:Int) - t.BG),([45]:List UInt8)))) (some (t.Bu,t.BG,([]:List UInt8))):Option ((Int×Int×(List UInt8))))=some ((sec:Int),(ns:Int),sg)∧sg.length≤1:=by
  by_cases M:t.Bu<0
  ·rw[zf M,AQ,AQ];unfold E3;by_cases J:t.BG=0
   ·refine⟨(-t.Bu).toNat,0,[45],by omega,by omega,?_,?_,by simp⟩
    ·rw[show(t.BG==0)=true from by rw[J];rfl,AQ,za,DK (by omega) (by omega)];rw[show(0:Int) - t.Bu=(((-t.Bu).toNat:Nat):Int) by omega];rfl
    ·rw[show(t.BG==0)=true from by rw[J];rfl,AQ,DK (by omega) (by omega),J];rw[show(0:Int) - t.Bu=(((-t.Bu).toNat:Nat):Int) by omega];rfl
   ·have e1:(0:Int) - t.Bu - 1=(((-t.Bu - 1).toNat:Nat):Int):=by omega
    have e2:(1000000000:Int) - t.BG=(((1000000000 - t.BG).toNat:Nat):Int):=by omega
    refine⟨(-t.Bu - 1).toNat,(1000000000 - t.BG).toNat,[45],by omega,by omega,?_,?_,by simp⟩
    ·rw[show(t.BG==0)=false from beq_eq_false_iff_ne.2 J,AK,za,DK (x:=0 - t.Bu) (by omega) (by omega),DK (by omega) (by omega),DK (by omega) (by omega),←e1,←e2]
    ·rw[show(t.BG==0)=false from beq_eq_false_iff_ne.2 J,AK,DK (x:=0 - t.Bu) (by omega) (by omega),DK (by omega) (by omega),DK (by omega) (by omega),←e1,←e2]
  ·refine⟨t.Bu.toNat,t.BG.toNat,[],by omega,by omega,?_,?_,by simp⟩
   ·rw[zi M,AK,show((t.Bu.toNat:Nat):Int)=t.Bu by omega,show((t.BG.toNat:Nat):Int)=t.BG by omega]
   ·rw[zi M,AK,show((t.Bu.toNat:Nat):Int)=t.Bu by omega,show((t.BG.toNat:Nat):Int)=t.BG by omega]
 have G:=FB 16 sec (by omega) (by rw[show 10^16=10000000000000000 from rfl];omega);have hit:Lib.itoa (sec:Int)=decDigits sec:=by rw[Ge (by omega),zN]
 have f3:=(G3 sec).2.2;by_cases E:ns=0
 ·subst E;refine⟨sg++decDigits sec,?_,?_,by rw[ze];omega,by rw[ze];omega⟩
  ·unfold DO;rw[hr,za,zY,AK,U,za];dsimp only;rw[zf (by omega),Ak,hit,zf (by omega),Ak,show((((0:Nat):Int))==0)=true from rfl,AQ]
  ·unfold Bp;rw[T,za];dsimp only;rw[Qr _ (by omega),za,zf (by omega),Ak,show((((0:Nat):Int))==0)=true from rfl,AQ]
 ·have hw:i64.wrap ((1000000000:Int)+(ns:Int))=((1000000000+ns:Nat):Int):=by rw[DK (by omega) (by omega)];omega
  obtain⟨r,hr9,r1,r2,r3⟩:=O8 hns;have hit2:Lib.itoa ((1000000000+ns:Nat):Int)=decDigits (1000000000+ns):=by rw[Ge (by omega),zN]
  obtain⟨R0,eR0,⟨k0,hk0⟩,z0⟩:=ZD r (by omega);obtain⟨R,k,B,hk,z⟩:=dK (pre:=(sg++decDigits sec)++[46]) r1 r2 (by omega) (by simp only[ze,zt,zG];omega);obtain rfl:=ZG z0 z (hk0.symm.trans hk);have hRl:R0.length≤9:=by have:=congrArg List.length hk;rw[ze]at this;omega
  have S:((ns:Int)==0)=false:=by rw[zL];omega
  rw[r3]at B;refine⟨((sg++decDigits sec)++[46])++R0,?_,?_,by simp only[ze,zt,zG];omega,by simp only[ze,zt,zG];omega⟩
  ·unfold DO;rw[hr,za,zY,AK,U,za];dsimp only
   rw[zf (by omega),Ak,hit,zf (by omega),Ak,S,AK,hw,zf (by omega),Ak,hit2,hr9,show(1:Int)=((1:Nat):Int) from rfl,NR (by simp),za,yZ,yl,
    zf (by simp only[ze,zt,zG];omega),Ak,eR0,za,zf (by simp only[ze,zt,zG];omega),Ak]
  ·unfold Bp;rw[T,za];dsimp only;rw[Qr _ (by omega),za,zf (by omega),Ak,S,AK,zf (by simp only[ze,zt,zG];omega),Ak,B,za]
end Go.Av.L
end
