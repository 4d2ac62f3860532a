/-
 A part.
-/
import Derived.Test.YthhonebaoidfgaaGreatDoorK5
set_option linter.unusedSimpArgs false
namespace Go.Av.L
open IntKind (i64 u8)
open Go.Av Go.Lib
set_option maxRecDepth 10000
set_option linter.unusedVariables false
set_option linter.unusedSimpArgs false
variable {g:Gd} {h:AF} {F:List Ck} {av:List AD}
noncomputable section
def Gi(s:(List UInt8)×Int×Int):Option (((List UInt8)×Int×Int)⊕(((List UInt8)))):=
 match s with
 |(x3,x4,x5)=>Ag (decide (x5>=0)) ((Kx x3 x5).bind λx7=>(fV (u8.wrap (i64.wrap ((48:Int)+(eO .i64 x4 (7:Int)))))).bind λx8=>some (.inl ((x3.set x5.toNat x8),cf .i64 x4 (3:Int),i64.wrap (x5 - 1)))) (some (.inr x3))
def GM(p0:Int)(p1:Int):Option ((List UInt8)×Bool):=
 (IY p1).bind λx1=>(Ag ((!x1)||(decide (p0<0))) (some true) (B4 (decide (0<=(i64.wrap ((3:Int)*(i64.wrap (p1 - 1))))))<|some (decide (p0>=(My .i64 (1:Int) (i64.wrap ((3:Int)*(i64.wrap (p1 - 1)))))))):Option (Bool)).bind λx2=>Ag x2 (some (([]:UV),false)) (B4 (kF 1 p1)<|(loop (Gi) ((List.replicate p1.toNat (0:UInt8)),p0,i64.wrap (p1 - 2))).bind λx6=>some (x6,true))
theorem Sz{p0 p1 q0 q1}(M:GM p0 p1=some (q0,q1)):tl 130 [Ai p0,Ai p1] (.tuple [.str q0,.bool q1]):=by
 intro g h F av A hc;refine Dp 42 [.tmp 4,.tmp 5] hc ?_;unfold GM at M;refine bg 42 [(0,Ai p0),(1,Ai p1)] λD H=>?_;refine AE 2 (AK 2 [] H λD H=>AU (AE 15 ?_));obtain⟨x1,X,M⟩:=AJ M;obtain⟨v1,h1,R,rfl,E⟩:=Pj X (A.cut 0);replace A:=A.DF E;refine BM 1 [] 9 R H λD t H=>?_;refine AL 2 [(11,.bool (!x1))] H λD H=>Ch 3 11 (λbb=>[(14,.bool (bb||(decide (p0<0))))]) H λD H=>?_;refine AL 1 [(15,.bool ((!x1)||(decide (p0<0))))] H λD H=>?_;obtain⟨x2,O,M⟩:=AJ M;refine Bp 7 (λN Q=>Has N 42 [(0,Ai p0),(1,Ai p1),(22,.bool x2)]/\HH g Q [] F) ?_ ?_
 ·rcases BB O with⟨B,M⟩|⟨B,M⟩
  ·replace H:=H.kn 15 B;refine AL 7 [(22,.bool true)] H λD H=>?_;exact wg
  replace H:=H.kn 15 B;refine AL 4 [(16,Ai p0),(19,Ai (i64.wrap ((3:Int)*(i64.wrap (p1 - 1)))))] H λD H=>?_;obtain⟨B,M⟩:=Ap M;refine Az 20 (Ai (My .i64 (1:Int) (i64.wrap ((3:Int)*(i64.wrap (p1 - 1)))))) h1 H (λD=>.of (j6 kr B)) λD t H=>?_;refine AL 2 [(22,.bool (decide (p0>=(My .i64 (1:Int) (i64.wrap ((3:Int)*(i64.wrap (p1 - 1))))))))] H λD H=>?_;exact wg
 intro t D h2 hK;obtain⟨H,A⟩:=hK;refine BN id (Ac 22 H M (λB M H=>?_) λB M H=>?_)
 ·exact u7
 refine CC 3 id ?_;obtain⟨B,M⟩:=Ap M;obtain⟨J,e1,A⟩:=A.pL 5 (Am eY (List.replicate p1.toNat (0:UInt8)));refine BQ 1 [] 24 (Ad (some h2.size) (List.replicate p1.toNat (0:UInt8)).length) J H (λD=>.of (bM (e:=eY) Jk (x:=(0:UInt8)) kr B (congrArg some e1.symm))) λD t H=>?_;refine AK 1 [(6,Ad (some h2.size) ((List.replicate p1.toNat (0:UInt8)).length))] H λD H=>AU (AE 3 (AK 3 [(7,Ai (i64.wrap (p1 - 2)))] H λD H=>Aa (id:=0) kr ?_));obtain⟨o1,O,M⟩:=AJ M;refine BJ (Q':=λe N Q=>(∃x6,e=.exit 0/\x6=o1/\∃(hl2:x6.length=(List.replicate p1.toNat (0:UInt8)).length),Has N 42 [(6,Ad (some h2.size) x6.length)]/\HH g Q [.Am (some h2.size) 5 (Am eY x6)] F)\/False) ?_ ?_
 ·refine B7 kr (λ(s:(List UInt8)×Int×Int) N Q=>∃x3 x4 x5,(x3,x4,x5)=s/\∃(hl1:x3.length=(List.replicate p1.toNat (0:UInt8)).length),Has N 42 [(0,Ai x4),(6,Ad (some h2.size) x3.length),(7,Ai x5)]/\HH g Q [.Am (some h2.size) 5 (Am eY x3)] F) O ⟨_,_,_,rfl,rfl,H.ls,A⟩ ?_;intro s q D G hI M;obtain⟨x3,x4,x5,rfl,hl1,H,A⟩:=hI;unfold Gi at M;refine AU (AE 2 (AK 2 [(28,.bool (decide (x5>=0)))] H λD H=>Ac 28 H M (λB M H=>?_) λB M H=>?_))
  ·refine By id (AU (Aa (id:=1) kr ?_));refine AE 8 ?_;obtain⟨x7,X,M⟩:=AJ M;obtain⟨i1,er1,_,X,hq1⟩:=HH.ir Jk (by decide) A 0 (xs:=x3) rfl X;refine BQ 6 [(36,Ab (u8.wrap (i64.wrap ((48:Int)+(eO .i64 x4 (7:Int))))))] 37 (.ptr (some (i1,x5.toNat*1))) G H (λD=>.of (Sc (s:=GA (some h2.size) x3.length) kr X)) λD t H=>?_;obtain⟨x8,X,M⟩:=AJ M;have X:=bF X;rw[X]at H;obtain⟨I,X,E⟩:=HH.mw Jk A 0 rfl er1 hq1 (y:=x8) (o:=0) (new:=[Ab (x8.toNat:Int)]) rfl rfl (zd rfl);have hl3:(x3.set x5.toNat x8).length=(List.replicate p1.toNat (0:UInt8)).length:=yW.trans hl1;have el:Ad (some h2.size) x3.length=Ad (some h2.size) (x3.set x5.toNat x8).length:=congrArg _ yW.symm
   try rw[el]at H
   try rw[el]at E
   replace A:HH g I [.Am (some h2.size) 5 (Am eY (x3.set x5.toNat x8))] F:=E;refine Of X H λD t H=>?_;refine Dy 3 id (BU 3 [(0,Ai (cf .i64 x4 (3:Int))),(6,Ad (some h2.size) ((x3.set x5.toNat x8).length)),(7,Ai x5)] H λD H=>Dy 3 id (BU 3 [(0,Ai (cf .i64 x4 (3:Int))),(6,Ad (some h2.size) ((x3.set x5.toNat x8).length)),(7,Ai (i64.wrap (x5 - 1)))] H λD H=>An ?_));exact nx M ⟨_,_,_,rfl,hl3,H.ls,A⟩
  refine Be (i:=0) kr ?_;exact nr M λe=>.inl ⟨_,rfl,e,hl1,H.ls,A⟩
 intro e D Z hQ;rcases hQ with⟨x6,rfl,rfl,hl2,H,A⟩|hF
 ·refine AE 4 (AL 1 [(40,Ad (some h2.size) x6.length)] H λD H=>Az 41 (.str x6) Z H (λD=>.of (T6 (xs:=x6) A 0 rfl kr)) λD t H=>?_);refine AK 2 [(4,.str x6),(5,.bool true)] H λD H=>AY ?_;exact vr
 exact hF.elim
def Dv(p0:AO)(s:Int):Option ((Int)⊕((Unit)⊕(Int))):=
 match s with
 |x1=>Ag (decide (x1<(([p0.Name,p0.BG,p0.A6,p0.A7]:List (List UInt8)).length:Int))) ((Kx ([p0.Name,p0.BG,p0.A6,p0.A7]:List (List UInt8)) x1).bind λx3=>(BX x3 (0:Int)).bind λx4=>Ag (decide (x4>=0)) (some (.inr (.inr (2:Int)))) (some (.inl (i64.wrap (x1+1))))) (some (.inr (.inl ())))
def Ee(pp:Int×(List UInt8))(s:Bool):Option ((Bool)⊕(Unit)):=
 match s with
 |z1=>(Ag z1 ((GC).bind λx8=>(Kx ([x8.w0,x8.w1,x8.w2,x8.w3,x8.w4,x8.w5,x8.w6,x8.w7,x8.w8,x8.w9,x8.Vb,x8.U2]:List BS) pp.1).bind λx9=>some (decide ((pp.2.length:Int)<=x9.EM))) (some false):Option (Bool)).bind λx7=>some (.inl x7)
def Ea(pp:Int×Int)(s:Unit):Option ((Unit)⊕(Int)):=
 match s with
 |_=>(GC).bind λx11=>(Kx ([x11.w0,x11.w1,x11.w2,x11.w3,x11.w4,x11.w5,x11.w6,x11.w7,x11.w8,x11.w9,x11.Vb,x11.U2]:List BS) pp.1).bind λx12=>(GM pp.2 x12.EM).bind λ(x13,x14)=>Ag (!x14) (some (.inr (6:Int))) (some (.inl ()))
def dn(k:Int):Int:=if k=0\/k=6 then 100 else if k=11 then 155 else 32
theorem gy{k:Nat}(hk:k<=11):My .i64 (1:Int) ((3*k:Nat):Int)=8^k:=by
 have:k=0\/k=1\/k=2\/k=3\/k=4\/k=5\/k=6\/k=7\/k=8\/k=9\/k=10\/k=11:=by omega
 rcases this with rfl|rfl|rfl|rfl|rfl|rfl|rfl|rfl|rfl|rfl|rfl|rfl<;>rfl
def MA:Nat->Nat->List UInt8
 |_,0=>[]
 |v,k+1=>MA (v / 8) k++[UInt8.ofNat (48+v%8)]
theorem Jg:∀(k v:Nat),(MA v k).length=k
 |0,v=>rfl
 |k+1,v=>by simp[MA,Jg k (v / 8)]
theorem iQ(v:Nat)(U:v<9223372036854775808):eO .i64 (v:Int) 7=((v%8:Nat):Int):=by
 unfold eO;have e1:(BitVec.ofInt 64 (v:Int)).toNat=v:=by rw[BitVec.toNat_ofInt];omega
 show i64.wrap ((BitVec.ofInt 64 (v:Int) &&& BitVec.ofInt 64 7).toNat:Int)=_;rw[BitVec.toNat_and,e1,show(BitVec.ofInt 64 7).toNat=2^3 - 1 from rfl,Nat.and_two_pow_sub_one_eq_mod,Ek om om]
theorem iY(v:Nat):cf .i64 (v:Int) 3=((v / 8:Nat):Int):=by
 unfold cf;rw[show(2:Int)^(min (3:Int).toNat i64.bits)=8 from rfl,Int.fdiv_eq_ediv_of_nonneg _ om];omega
theorem YN:∀(k v:Nat) (t:List UInt8),v<9223372036854775808->k<=1000->loop Gi (List.replicate k 0++t,(v:Int),(k:Int) - 1)=some (MA v k++t)
 |0,v,t,U,hk=>by
  refine Cl ?_;rw[Gi];rfl
 | k+1,v,t,U,hk=>by
  have e:((k+1:Nat):Int) - 1=(k:Int):=by omega
  rw[e];refine(Cm (s':=(List.replicate k 0++(UInt8.ofNat (48+v%8)::t),((v / 8:Nat):Int),(k:Int) - 1)) ?_).trans ?_
  ·rw[Gi,zg om,Ah,Fe (by simp;omega),za,iQ v U,Ek (x:=48+((v%8:Nat):Int)) om om,kX om om];have et:fV (48+((v%8:Nat):Int))=some (UInt8.ofNat (48+v%8)):=by
    unfold fV;rw[zl om];congr 2
   rw[et,za,iY,Ek om om,zS];congr 3;rw[qk,zC,List.set_append_right _ _ (by simp)];simp
  ·rw[YN k (v / 8) _ om om,MA,zC];rfl
def Hq(v:Nat)(n:Nat):List UInt8:=MA v (n - 1)++[0]
theorem HZ{v n:Nat}(h:1<=n):(Hq v n).length=n:=by simp[Hq,Jg];omega
theorem fF{k:Nat}(hk:k<=11):(8:Int)^k<=8589934592:=by
 have:k=0\/k=1\/k=2\/k=3\/k=4\/k=5\/k=6\/k=7\/k=8\/k=9\/k=10\/k=11:=by omega
 rcases this with rfl|rfl|rfl|rfl|rfl|rfl|rfl|rfl|rfl|rfl|rfl|rfl<;>decide
theorem Vk(v:Int){k:Nat}(hk:1<=k)(hk2:k<=11):
  GM v ((k+1:Nat):Int)=some (if 0<=v/\v<8^k then(Hq v.toNat (k+1),true)else([],false)):=by
 unfold GM IY;rw[za,zg (p:=((k+1:Nat):Int)>=2) om,zg (p:=((k+1:Nat):Int)<=12) om,yZ,yg,yX,IB];by_cases h0:v<0
 ·rw[zl h0,za,Ah,zj om]
 ·have e1:((k+1:Nat):Int) - 1=(k:Int):=by omega
  rw[zj h0,e1,Ek (x:=(k:Int)) om om,show(3:Int)*(k:Int)=((3*k:Nat):Int) by omega,Ek (x:=((3*k:Nat):Int)) om om,gy hk2,zg (p:=(0:Int)<=((3*k:Nat):Int)) om,BR,za,IB];by_cases J:v>=8^k
  ·rw[zl J,zj om]
  ·have hp:=fF hk2;obtain⟨m,rfl⟩:=xI (show 0<=v by omega);have hk3:((k+1:Nat):Int) - 2=(k:Int) - 1:=by omega
   rw[zj J,zl om,show kF 1 ((k+1:Nat):Int)=true from zg om,BR,hk3,Ek om om,zS,qk,YN k m [0] om om,za];rfl
theorem Kf{a:Int×List UInt8}(h:a.1=0\/a.1=11\/a.1=6\/a.1=7\/a.1=8)(z:Bool):
  Ee a z=some (.inl (z&&decide ((a.2.length:Int)<=dn a.1))):=by
 obtain⟨k,s⟩:=a;dsimp only at h;rcases h with rfl|rfl|rfl|rfl|rfl<;>cases z<;>rfl
theorem dj{p0:AO}{l:List (Int×List UInt8)}{b:Bool}(X:EB p0=some (l,b)):∃p q,Fh p0.Name=some (p,q,b)/\l=[(0,q),(11,p),(6,p0.BG),(7,p0.A6),(8,p0.A7)]:=by
 unfold EB at X;obtain⟨⟨p,q,r⟩,h1,h2⟩:=AJ X;dsimp only at h2;have:=zJ h2;obtain⟨e1,e2⟩:=Prod.mk.inj this;subst e2;exact⟨p,q,h1,e1.symm⟩
theorem Sy{p0:AO}{l:List (Int×List UInt8)}{b:Bool}(X:EB p0=some (l,b)):∀a∈l,a.1=0\/a.1=11\/a.1=6\/a.1=7\/a.1=8:=by
 obtain⟨p,q,_,rfl⟩:=dj X;intro a W;simp only[zF,yb,or_false]at W;rcases W with rfl|rfl|rfl|rfl|rfl<;>simp
theorem Z7{p0:AO}{l:List (Int×Int)}(X:FJ p0=some l):l=[(1,p0.Mode),(2,p0.Cq),(3,p0.Cy),(4,p0.B9),(5,p0.Time),(9,p0.BY),(10,p0.Bi)]:=(zJ X).symm
theorem Q4{p0:AO}{l:List (Int×Int)}(X:FJ p0=some l):∀a∈l,a.1=1\/a.1=2\/a.1=3\/a.1=4\/a.1=5\/a.1=9\/a.1=10:=by
 rw[Z7 X];intro a W;simp only[zF,yb,or_false]at W;rcases W with rfl|rfl|rfl|rfl|rfl|rfl|rfl<;>simp
theorem J2{p0:AO}{l:List (Int×List UInt8)}{b:Bool}(X:EB p0=some (l,b)):∀l',l'.Perm l->FU Ee l' b=FU Ee l b:=by
 have hk:=Sy X;refine λl' hl'=>Rx (λ_=>True) (λ_ _ _ _ _ _=>trivial) (λa W c hc s _=>?_) l' hl' b trivial;unfold Zl;rw[Kf (hk a W),Kf (hk c hc)];dsimp only;rw[Kf (hk c hc),Kf (hk a W),Bool.and_right_comm]
theorem UD:∀(l:List (Int×List UInt8)) (z:Bool),(∀a∈l,a.1=0\/a.1=11\/a.1=6\/a.1=7\/a.1=8)->FU Ee l z=some (.inl (z&&l.all λa=>decide ((a.2.length:Int)<=dn a.1)))
 |[],z,_=>by simp[FU]
 |a::l,z,h=>by
  rw[FU,Kf (h a (by simp))];dsimp only;rw[UD l _ λc hc=>h c (by simp[hc]),ya,Bool.and_assoc]
def SC(a:Int×Int):Bool:=decide (0<=a.2/\a.2<(if a.1=4\/a.1=5 then 8589934592 else 2097152))
theorem KT{a:Int×Int}(h:a.1=1\/a.1=2\/a.1=3\/a.1=4\/a.1=5\/a.1=9\/a.1=10):Ea a ()=some (if SC a then .inl ()else .inr 6):=by
 obtain⟨k,v⟩:=a;dsimp only at h;have e8:=Vk v (k:=7) om om;have e12:=Vk v (k:=11) om om;have p8:(8:Int)^7=2097152:=rfl;have p12:(8:Int)^11=8589934592:=rfl;rw[p8]at e8;rw[p12]at e12;have g8:(GM v 8).bind (λ(x:List UInt8×Bool)=>match x with|(x13,x14)=>Ag (!x14) (some (.inr (6:Int))) (some (.inl ())))=some (if decide (0<=v/\v<2097152)then(.inl ():Unit⊕Int)else .inr 6):=by
  rw[show(8:Int)=((7+1:Nat):Int) from rfl,e8,za];by_cases U:0<=v/\v<2097152
  ·simp[U]
  ·simp only[zj U,zm U];rfl
 have g12:(GM v 12).bind (λ(x:List UInt8×Bool)=>match x with|(x13,x14)=>Ag (!x14) (some (.inr (6:Int))) (some (.inl ())))=some (if decide (0<=v/\v<8589934592)then(.inl ():Unit⊕Int)else .inr 6):=by
  rw[show(12:Int)=((11+1:Nat):Int) from rfl,e12,za];by_cases U:0<=v/\v<8589934592
  ·simp[U]
  ·simp only[zj U,zm U];rfl
 rcases h with rfl|rfl|rfl|rfl|rfl|rfl|rfl
 ·exact g8
 ·exact g8
 ·exact g8
 ·exact g12
 ·exact g12
 ·exact g8
 ·exact g8
theorem J0{p0:AO}{l:List (Int×Int)}(X:FJ p0=some l):∀l',l'.Perm l->FU Ea l' ()=FU Ea l ():=by
 have hk:=Q4 X;refine λl' hl'=>Rx (λ_=>True) (λ_ _ _ _ _ _=>trivial) (λa W c hc s _=>?_) l' hl' () trivial;unfold Zl;rw[KT (hk a W),KT (hk c hc)];cases h1:SC a<;>cases h2:SC c<;>simp[KT (hk a W),KT (hk c hc),h1,h2]
def Cr(p0:AO):Option (Int):=
 (loop (Dv p0) (0:Int)).bind λo1=>(match o1 with| .inl _=>(EB p0).bind λ(x5,x6)=>(FU (Ee) x5 x6).bind λo=>(match o with| .inl z2=>Ag (!z2) (some (12:Int)) ((FJ p0).bind λx10=>(FU (Ea) x10 ()).bind λo=>(match o with| .inl _=>some (0:Int)| .inr y1=>some y1))| .inr _=>none)| .inr x2=>some x2)
theorem E3{p0 q0}(M:Cr p0=some q0):tl 126 [.agg (AP p0)] (Ai q0):=by
 intro g h F av A hc;refine eE (n:=74) (rs:=[.tmp 2]) kr hc kr ?_;unfold Cr at M;refine iN (n:=74) [(0,.agg (AP p0))] kr kr ?_;intro D H;refine N6 ?_;refine SR ?_;refine CF 2 ?_;obtain⟨h1,e1,A⟩:=A.pu (.cells none 2 (AP p0));refine Bj 1 (pz h.size) e1 H λD t H=>?_;refine AL 1 [] H λD H=>An ?_;show Y0 cfg 126 g (right (H6 cfg.P 126)) D h1 _;refine N6 ?_;refine SR ?_;refine AE 11 (AX 1 [] 14 0 0 A H λD t H=>?_);refine AX 1 [] 16 0 1 A H λD t H=>?_;refine AX 1 [] 18 0 8 A H λD t H=>?_;refine AX 1 [] 20 0 9 A H λD t H=>?_;obtain⟨h2,e2,A⟩:=A.pL 9 [.str p0.Name,.str p0.BG,.str p0.A6,.str p0.A7];refine Bj 21 (Ad (some h1.size) (([p0.Name,p0.BG,p0.A6,p0.A7]:List (List UInt8)).length)) e2 H λD t H=>?_;refine AK 2 [(22,Ai (([p0.Name,p0.BG,p0.A6,p0.A7]:List (List UInt8)).length:Int)),(23,Ai 0)] H λD H=>Aa (id:=0) kr ?_;replace A:HH g h2 [.Am (some h1.size) 9 (Am eS ([p0.Name,p0.BG,p0.A6,p0.A7]:List (List UInt8))),oB h.size (AP p0)] F:=A;obtain⟨o1,O,M⟩:=AJ M;refine BJ (Q':=λe N Q=>(e=.exit 0/\.inl ()=o1/\Has N 74 [(1,pz h.size)]/\HH g Q [oB h.size (AP p0)] F)\/(∃x2,e=.ret/\.inr x2=o1/\Has N 74 [(2,Ai x2)]/\HH g Q [] F)\/False) ?_ ?_
 ·refine B7 kr (λ(s:Int) N Q=>∃x1,x1=s/\Has N 74 [(1,pz h.size),(21,Ad (some h1.size) (([p0.Name,p0.BG,p0.A6,p0.A7]:List (List UInt8)).length)),(22,Ai (([p0.Name,p0.BG,p0.A6,p0.A7]:List (List UInt8)).length:Int)),(23,Ai x1)]/\HH g Q [.Am (some h1.size) 9 (Am eS ([p0.Name,p0.BG,p0.A6,p0.A7]:List (List UInt8))),oB h.size (AP p0)] F) O ⟨_,rfl,H.ls,A⟩ ?_;intro s q D J hI M;obtain⟨x1,rfl,H,A⟩:=hI;unfold Dv at M;refine AE 1 (AK 1 [(24,.bool (decide (x1<(([p0.Name,p0.BG,p0.A6,p0.A7]:List (List UInt8)).length:Int))))] H λD H=>AU (Ac 24 H M (λB M H=>?_) λB M H=>?_))
  ·refine By id (AU (Aa (id:=1) kr ?_));refine AE 3 ?_;obtain⟨x3,X,M⟩:=AJ M;obtain⟨i1,er1,_,X,hq1⟩:=HH.ir encS (by decide) A 0 (xs:=([p0.Name,p0.BG,p0.A6,p0.A7]:List (List UInt8))) rfl X;refine Az 25 (.ptr (some (i1,x1.toNat*1))) J H (λD=>.of (Sc (s:=GA (some h1.size) (([p0.Name,p0.BG,p0.A6,p0.A7]:List (List UInt8)).length)) kr X)) λD t H=>?_;refine Az 26 _ _ H (λD=>.of (Fb kr (Pc encS (HH.row A 0 rfl er1) hq1 (o:=0) rfl))) λD t H=>?_;refine Bx 1 [(4,.str x3)] 3 H λD H=>?_;obtain⟨x4,X,M⟩:=AJ M;obtain⟨v1,G,R,rfl,E⟩:=Ct X (A.cut 0);replace A:=A.DF E;refine BM 1 [] 28 R H λD t H=>?_;refine AK 1 [(29,.bool (decide (x4>=0)))] H λD H=>Ac 29 H M (λB M H=>?_) λB M H=>?_
   ·refine AE 1 (AK 1 [(2,Ai 2)] H λD H=>AY ?_);replace A:=A.d0;exact wy
   refine Di 2 id (BU 2 [(1,pz h.size),(21,Ad (some h1.size) (([p0.Name,p0.BG,p0.A6,p0.A7]:List (List UInt8)).length)),(22,Ai (([p0.Name,p0.BG,p0.A6,p0.A7]:List (List UInt8)).length:Int)),(23,Ai (i64.wrap (x1+1)))] H λD H=>An ?_);exact vo
  refine Be (i:=0) kr ?_;replace A:=A.k1 1;exact nr M λe=>.inl ⟨rfl,e,H.ls,A⟩
 intro e D I hQ;rcases hQ with⟨rfl,rfl,H,A⟩|⟨x2,rfl,rfl,H,A⟩|hF
 ·show Y0 cfg 126 g (right (right (H6 cfg.P 126))) D I _;refine N6 ?_;refine SR ?_;refine CF 7 (Az 32 _ _ H (λD=>.of (Bt kr (A.GL 0 rfl (o:=0) (n:=13) ⟨zd rfl,rfl⟩))) λD t H=>?_);obtain⟨⟨x5,x6⟩,X,M⟩:=AJ M;obtain⟨v1,Z,R,bqw2,rfl,E⟩:=RH (av:=[.agg (AP p0)]) X (A.cut 0);replace A:=A.lA E;refine BO 33 R H λD t H=>?_;refine AL 5 [(5,.map (some bqw2)),(6,.bool x6)] H λD H=>An ?_;show Y0 cfg 126 g (right (right (right (H6 cfg.P 126)))) D Z _;refine N6 ?_;refine YX 1 [37,1,6] [] none ?_;refine AL 1 [(36,.map (some bqw2))] H λD H=>An ?_;obtain⟨o2,O,M⟩:=AJ M;refine W2 (step:=Ee) (l:=x5) (s0:=x6) (x0:=o2) (enc:=λp=>((λk:Int=>Ai k) p.1,(λv:List UInt8=>.str v) p.2)) (V:=(λ(z1:Bool)=>[(1,pz h.size),(6,.bool z1)])) (Y:=(λ(s:Unit)=>[])) 0 37 38 40 4 170 3 9 (.tmp 36) A H O (by first|exact J2|(apply J2<;>assumption)) rfl (λD=>kr) (λD=>kr) (λ_=>rfl) (λ_=>rfl) (λs=>by exact(Pv.cons (A.kv 1 rfl _) (Pv.cons rfl Pv.nil))) (λs=>by exact Pv.nil) ?_ ?_ ?_
  ·intro pp hpp s x M D S it g F A H;obtain⟨z1,T⟩:∃z,z=s:=⟨_,rfl⟩;subst T;unfold Ee at M;replace H:=H.less [(1,pz h.size),(6,.bool z1),(37,it),(40,.tuple [Ai pp.1,.str pp.2])] (λD=>kr);refine lM 4 [(7,Ai pp.1),(8,.str pp.2)] 11 H λD H=>AL 2 [(44,.bool z1)] H λD H=>?_;obtain⟨x7,O,M⟩:=AJ M;refine Bp 8 (λN Q=>Has N 74 [(1,pz h.size),(37,it),(52,.bool x7)]/\HH g Q [] F) ?_ ?_
   ·rcases BB O with⟨B,M⟩|⟨B,M⟩
    ·replace H:=H.kn 44 B;obtain⟨x8,X,M⟩:=AJ M;obtain⟨v1,h9,R,rfl,E⟩:=JO X (A.cut 0);replace A:=A.DF E;refine BM 2 [(46,Ai (pp.2.length:Int))] 47 R H λD t H=>?_;obtain⟨x9,hq2,M⟩:=AJ M;refine BQ 1 [] 49 (.agg [Ai x9.from_,Ai x9.EM]) h9 H (λD=>.of (Uf (e:=Hr) (x:=x9) IJ [x8.w0,x8.w1,x8.w2,x8.w3,x8.w4,x8.w5,x8.w6,x8.w7,x8.w8,x8.w9,x8.Vb,x8.U2] kr rfl rfl hq2)) λD t H=>?_;refine AL 3 [(52,.bool (decide ((pp.2.length:Int)<=x9.EM)))] H λD H=>?_;exact wg
    replace H:=H.kn 44 B;refine AL 8 [(52,.bool false)] H λD H=>?_;exact wg
   intro t D K hK;obtain⟨H,A⟩:=hK;refine AL 1 [(6,.bool x7)] H λD H=>An ?_;exact .inl ⟨.inl rfl,_,(zJ M).symm,H.ls⟩
  ·intro s hs D h10 A H;subst hs;obtain⟨z2,T⟩:∃z,z=s:=⟨_,rfl⟩;subst T;replace H:=H.less [(1,pz h.size),(6,.bool z2)] (λD=>kr);show Y0 cfg 126 g (right (right (right (right (H6 cfg.P 126))))) D h10 _;refine N6 ?_;refine SR ?_;refine AE 2 (AK 2 [(54,.bool (!z2))] H λD H=>Ac 54 H M (λB M H=>?_) λB M H=>?_)
   ·refine AE 1 (AK 1 [(2,Ai 12)] H λD H=>AY ?_);exact wi
   refine C2 ?_;show Y0 cfg 126 g (right (right (right (right (right (H6 cfg.P 126)))))) D h10 _;refine N6 ?_;refine YX 2 [57] [2] none ?_;refine Az 55 _ _ H (λD=>.of (Bt kr (A.GL 0 rfl (o:=0) (n:=13) ⟨zd rfl,rfl⟩))) λD t H=>?_;obtain⟨x10,X,M⟩:=AJ M;obtain⟨v1,h11,R,bqw5,rfl,E⟩:=Qi (av:=[.agg (AP p0)]) X (A.cut 0);replace A:=A.lA E;refine BO 56 R H λD t H=>?_;refine An ?_;obtain⟨o3,O,M⟩:=AJ M;refine W2 (step:=Ea) (l:=x10) (s0:=()) (x0:=o3) (enc:=λp=>((λk:Int=>Ai k) p.1,(λv:Int=>Ai v) p.2)) (V:=(λ(s:Unit)=>[])) (Y:=(λ(y1:Int)=>[(2,Ai y1)])) 0 57 58 60 4 177 3 3 (.tmp 56) A H O (by first|exact J0|(apply J0<;>assumption)) rfl (λD=>kr) (λD=>kr) (λ_=>rfl) (λ_=>rfl) (λs=>by exact Pv.nil) (λs=>by exact(Pv.cons rfl Pv.nil)) ?_ ?_ ?_
   ·intro pp hpp s x M D h12 it g F A H;unfold Ea at M;replace H:=H.less [(57,it),(60,.tuple [Ai pp.1,Ai pp.2])] (λD=>kr);refine Bx 4 [(9,Ai pp.1),(10,Ai pp.2)] 11 H λD H=>?_;obtain⟨x11,X,M⟩:=AJ M;obtain⟨v1,h13,R,rfl,E⟩:=JO X (A.cut 0);replace A:=A.DF E;refine BM 1 [(64,Ai pp.2)] 65 R H λD t H=>?_;obtain⟨x12,hq3,M⟩:=AJ M;refine BQ 1 [] 67 (.agg [Ai x12.from_,Ai x12.EM]) h13 H (λD=>.of (Uf (e:=Hr) (x:=x12) IJ [x11.w0,x11.w1,x11.w2,x11.w3,x11.w4,x11.w5,x11.w6,x11.w7,x11.w8,x11.w9,x11.Vb,x11.U2] kr rfl rfl hq3)) λD t H=>?_;obtain⟨⟨x13,x14⟩,X,M⟩:=AJ M;obtain⟨v1,h14,R,rfl,E⟩:=Sz X (A.cut 0);replace A:=A.DF E;refine BM 1 [] 69 R H λD t H=>?_;refine Bx 5 [(12,.bool x14)] 2 H λD H=>AK 2 [(73,.bool (!x14))] H λD H=>Ac 73 H M (λB M H=>?_) λB M H=>?_
    ·refine AE 1 (AK 1 [(2,Ai 6)] H λD H=>AY ?_);exact .inr ⟨rfl,_,(zJ M).symm,H.ls⟩
    exact C2 (.inl ⟨.inl rfl,_,(zJ M).symm,H.ls⟩)
   ·intro s hs D h15 A H;subst hs;replace H:=H.less [] (λD=>kr);show Y0 cfg 126 g (right (right (right (right (right (right (H6 cfg.P 126))))))) D h15 _;refine SR ?_;refine AE 1 (AK 1 [(2,Ai 0)] H λD H=>AY ?_);exact wi
   intro s hs D h16 A H;subst hs;obtain⟨y1,T⟩:∃z,z=s:=⟨_,rfl⟩;subst T;replace H:=H.less [(2,Ai y1)] (λD=>kr);exact wi
  intro s hs D R A H;subst hs;cases M
 ·exact wd
 exact hF.elim
def D4(p0:List UInt8)(p1:List UInt8)(p2_10:AM)(p3:AO)(p4:List AB):Option (AO×(List AB)):=
 (II p3 p2_10).bind λx1=>(Cr x1).bind λx2=>Ag (x2==0) (some (x1,p4)) (B4 (L1 32 (p4.length+([(⟨p0,p1⟩:AB)]:List AB).length))<|some (p3,(p4++([(⟨p0,p1⟩:AB)]:List AB))))
theorem Le{p0 p1 p2_10 p3 p4 bp2_10 bp3 bp4 rp4_0 u1 u3}(M:D4 p0 p1 p2_10 p3 p4=some (u1,u3))(A:HH g h [.obj bp2_10 (.cells none 2 (AN p2_10)),.obj bp3 (.cells none 2 (AP p3)),.obj bp4 (.cells none 2 [Ad rp4_0 p4.length]),.Am rp4_0 100 (Am AA p4)] F)(hc:CQ (cfg.still 154) av=[.str p0,.str p1,.func (.func 155) [] [.ptr (some (bp2_10,0))],.ptr (some (bp3,0)),.ptr (some (bp4,0))]:=by kernel_rfl):∃v Q,Cf cfg g h 154 av v Q/\∃(r'3:Option Nat),v=.tuple []/\HH g Q [.obj bp2_10 (.cells none 2 (AN p2_10)),.obj bp3 (.cells none 2 (AP u1)),.obj bp4 (.cells none 2 [Ad r'3 u3.length]),.Am r'3 100 (Am AA u3)] F:=by
 refine Dp 22 [] hc ?_;unfold D4 at M;refine bg 22 [(0,.str p0),(1,.str p1),(2,.func (.func 155) [] [pz bp2_10]),(3,pz bp3),(4,pz bp4)] λD H=>?_;refine AE 3 (Az 9 _ _ H (λD=>.of (Bt kr (A.GL 1 rfl (o:=0) (n:=13) ⟨zd rfl,rfl⟩))) λD t H=>?_);obtain⟨h1,e1,A⟩:=A.pu (.cells none 2 RW);refine Bj 8 (pz h.size) e1 H λD t H=>?_;obtain⟨h2,X,A⟩:=A.s0 0 (AP p3);refine Cx X H λD t H=>?_;refine BN id (AU (AE 2 ?_));obtain⟨x1,X,M⟩:=AJ M;obtain⟨v1,J,R,rfl,E⟩:=OV (av:=[pz h.size,pz bp2_10]) X (A.cut 2);replace A:=A.g22 E;refine Gl 1 [] R H λD t H=>?_;refine CI 3 id (Az 12 _ _ H (λD=>.of (Bt kr (A.GL 0 rfl (o:=0) (n:=13) ⟨zd rfl,rfl⟩))) λD t H=>?_);obtain⟨x2,X,M⟩:=AJ M;obtain⟨v1,G,R,rfl,E⟩:=E3 X (A.cut 0);replace A:=A.DF E;refine BO 13 R H λD t H=>?_;refine AK 1 [(14,.bool (x2==0))] H λD H=>Ac 14 H M (λB M H=>?_) λB M H=>?_
 ·exact we
 exact wa
def IN(p0:AO)(p1:AM):Option (AO):=
 some ({p0 with A7:=p1.A7}:AO)
theorem OS{p0 p1 bp0 bp1 u0}(M:IN p0 p1=some u0)(A:HH g h [.obj bp0 (.cells none 2 (AP p0)),.obj bp1 (.cells none 2 (AN p1))] F)(hc:CQ (cfg.still 156) av=[.ptr (some (bp0,0)),.ptr (some (bp1,0))]:=by kernel_rfl):∃v Q,Cf cfg g h 156 av v Q/\v=.tuple []/\HH g Q [.obj bp0 (.cells none 2 (AP u0)),.obj bp1 (.cells none 2 (AN p1))] F:=by
 refine Dp 8 [] hc ?_;unfold IN at M;refine bg 8 [(0,pz bp0),(1,pz bp1)] λD H=>?_;refine CF 6 (AX 2 [(3,pz bp0)] 5 1 7 A H λD t H=>?_);obtain⟨h1,X,A⟩:=A.s0 9 [.str p1.A7];exact wt
def DT(p0:List UInt8)(p1:List UInt8)(p2_10:AM)(p3:AO)(p4:List AB):Option (AO×(List AB)):=
 (IN p3 p2_10).bind λx1=>(Cr x1).bind λx2=>Ag (x2==0) (some (x1,p4)) (B4 (L1 32 (p4.length+([(⟨p0,p1⟩:AB)]:List AB).length))<|some (p3,(p4++([(⟨p0,p1⟩:AB)]:List AB))))
theorem Ke{p0 p1 p2_10 p3 p4 bp2_10 bp3 bp4 rp4_0 u1 u3}(M:DT p0 p1 p2_10 p3 p4=some (u1,u3))(A:HH g h [.obj bp2_10 (.cells none 2 (AN p2_10)),.obj bp3 (.cells none 2 (AP p3)),.obj bp4 (.cells none 2 [Ad rp4_0 p4.length]),.Am rp4_0 100 (Am AA p4)] F)(hc:CQ (cfg.still 154) av=[.str p0,.str p1,.func (.func 156) [] [.ptr (some (bp2_10,0))],.ptr (some (bp3,0)),.ptr (some (bp4,0))]:=by kernel_rfl):∃v Q,Cf cfg g h 154 av v Q/\∃(r'3:Option Nat),v=.tuple []/\HH g Q [.obj bp2_10 (.cells none 2 (AN p2_10)),.obj bp3 (.cells none 2 (AP u1)),.obj bp4 (.cells none 2 [Ad r'3 u3.length]),.Am r'3 100 (Am AA u3)] F:=by
 refine Dp 22 [] hc ?_;unfold DT at M;refine bg 22 [(0,.str p0),(1,.str p1),(2,.func (.func 156) [] [pz bp2_10]),(3,pz bp3),(4,pz bp4)] λD H=>?_;refine AE 3 (Az 9 _ _ H (λD=>.of (Bt kr (A.GL 1 rfl (o:=0) (n:=13) ⟨zd rfl,rfl⟩))) λD t H=>?_);obtain⟨h1,e1,A⟩:=A.pu (.cells none 2 RW);refine Bj 8 (pz h.size) e1 H λD t H=>?_;obtain⟨h2,X,A⟩:=A.s0 0 (AP p3);refine Cx X H λD t H=>?_;refine BN id (AU (AE 2 ?_));obtain⟨x1,X,M⟩:=AJ M;obtain⟨v1,J,R,rfl,E⟩:=OS (av:=[pz h.size,pz bp2_10]) X (A.cut 2);replace A:=A.g22 E;refine Gl 1 [] R H λD t H=>?_;refine CI 3 id (Az 12 _ _ H (λD=>.of (Bt kr (A.GL 0 rfl (o:=0) (n:=13) ⟨zd rfl,rfl⟩))) λD t H=>?_);obtain⟨x2,X,M⟩:=AJ M;obtain⟨v1,G,R,rfl,E⟩:=E3 X (A.cut 0);replace A:=A.DF E;refine BO 13 R H λD t H=>?_;refine AK 1 [(14,.bool (x2==0))] H λD H=>Ac 14 H M (λB M H=>?_) λB M H=>?_
 ·exact we
 exact wa
def IQ(p0:AO)(p1:AM):Option (AO):=
 some ({p0 with BG:=p1.BG}:AO)
theorem OK{p0 p1 bp0 bp1 u0}(M:IQ p0 p1=some u0)(A:HH g h [.obj bp0 (.cells none 2 (AP p0)),.obj bp1 (.cells none 2 (AN p1))] F)(hc:CQ (cfg.still 157) av=[.ptr (some (bp0,0)),.ptr (some (bp1,0))]:=by kernel_rfl):∃v Q,Cf cfg g h 157 av v Q/\v=.tuple []/\HH g Q [.obj bp0 (.cells none 2 (AP u0)),.obj bp1 (.cells none 2 (AN p1))] F:=by
 refine Dp 8 [] hc ?_;unfold IQ at M;refine bg 8 [(0,pz bp0),(1,pz bp1)] λD H=>?_;refine CF 6 (AX 2 [(3,pz bp0)] 5 1 1 A H λD t H=>?_);obtain⟨h1,X,A⟩:=A.s0 1 [.str p1.BG];exact wt
def DV(p0:List UInt8)(p1:List UInt8)(p2_10:AM)(p3:AO)(p4:List AB):Option (AO×(List AB)):=
 (IQ p3 p2_10).bind λx1=>(Cr x1).bind λx2=>Ag (x2==0) (some (x1,p4)) (B4 (L1 32 (p4.length+([(⟨p0,p1⟩:AB)]:List AB).length))<|some (p3,(p4++([(⟨p0,p1⟩:AB)]:List AB))))
theorem Kh{p0 p1 p2_10 p3 p4 bp2_10 bp3 bp4 rp4_0 u1 u3}(M:DV p0 p1 p2_10 p3 p4=some (u1,u3))(A:HH g h [.obj bp2_10 (.cells none 2 (AN p2_10)),.obj bp3 (.cells none 2 (AP p3)),.obj bp4 (.cells none 2 [Ad rp4_0 p4.length]),.Am rp4_0 100 (Am AA p4)] F)(hc:CQ (cfg.still 154) av=[.str p0,.str p1,.func (.func 157) [] [.ptr (some (bp2_10,0))],.ptr (some (bp3,0)),.ptr (some (bp4,0))]:=by kernel_rfl):∃v Q,Cf cfg g h 154 av v Q/\∃(r'3:Option Nat),v=.tuple []/\HH g Q [.obj bp2_10 (.cells none 2 (AN p2_10)),.obj bp3 (.cells none 2 (AP u1)),.obj bp4 (.cells none 2 [Ad r'3 u3.length]),.Am r'3 100 (Am AA u3)] F:=by
 refine Dp 22 [] hc ?_;unfold DV at M;refine bg 22 [(0,.str p0),(1,.str p1),(2,.func (.func 157) [] [pz bp2_10]),(3,pz bp3),(4,pz bp4)] λD H=>?_;refine AE 3 (Az 9 _ _ H (λD=>.of (Bt kr (A.GL 1 rfl (o:=0) (n:=13) ⟨zd rfl,rfl⟩))) λD t H=>?_);obtain⟨h1,e1,A⟩:=A.pu (.cells none 2 RW);refine Bj 8 (pz h.size) e1 H λD t H=>?_;obtain⟨h2,X,A⟩:=A.s0 0 (AP p3);refine Cx X H λD t H=>?_;refine BN id (AU (AE 2 ?_));obtain⟨x1,X,M⟩:=AJ M;obtain⟨v1,J,R,rfl,E⟩:=OK (av:=[pz h.size,pz bp2_10]) X (A.cut 2);replace A:=A.g22 E;refine Gl 1 [] R H λD t H=>?_;refine CI 3 id (Az 12 _ _ H (λD=>.of (Bt kr (A.GL 0 rfl (o:=0) (n:=13) ⟨zd rfl,rfl⟩))) λD t H=>?_);obtain⟨x2,X,M⟩:=AJ M;obtain⟨v1,G,R,rfl,E⟩:=E3 X (A.cut 0);replace A:=A.DF E;refine BO 13 R H λD t H=>?_;refine AK 1 [(14,.bool (x2==0))] H λD H=>Ac 14 H M (λB M H=>?_) λB M H=>?_
 ·exact we
 exact wa
def Fq(p1:Int)(s:(List UInt8)):Option (((List UInt8))⊕(((List UInt8)))):=
 match s with
 |x1=>(Ag (decide ((x1.length:Int)>0)) ((KE x1 (i64.wrap ((x1.length:Int) - 1))).bind λx4=>some (x4==p1)) (some false):Option (Bool)).bind λx3=>Ag x3 ((E4 x1 none (some (i64.wrap ((x1.length:Int) - 1)))).bind λx5=>some (.inl x5)) (some (.inr x1))
def FC(p0:List UInt8)(p1:Int):Option ((List UInt8)):=
 (loop (Fq p1) p0).bind λx2=>some x2
theorem LY{p0 p1 q0}(M:FC p0 p1=some q0):tl 221 [.str p0,Ab p1] (.str q0):=by
 intro g h F av A hc;refine Dp 23 [.tmp 4] hc ?_;unfold FC at M;refine bg 23 [(0,.str p0),(1,Ab p1)] λD H=>?_;refine AE 1 (AK 1 [] H λD H=>AU (Aa (id:=0) kr ?_));obtain⟨o1,O,M⟩:=AJ M;refine BJ (Q':=λe N Q=>(∃x2,e=.exit 0/\x2=o1/\Has N 23 [(0,.str x2)]/\HH g Q [] F)\/False) ?_ ?_
 ·refine B7 kr (λ(s:(List UInt8)) N Q=>∃x1,x1=s/\Has N 23 [(0,.str x1),(1,Ab p1)]/\HH g Q [] F) O ⟨_,rfl,H.ls,A⟩ ?_;intro s q D h1 hI M;obtain⟨x1,rfl,H,A⟩:=hI;unfold Fq at M;refine AU (AE 12 (AL 4 [(8,.bool (decide ((x1.length:Int)>0)))] H λD H=>?_));obtain⟨x3,O,M⟩:=AJ M;refine Bp 8 (λN Q=>Has N 23 [(0,.str x1),(1,Ab p1),(16,.bool x3)]/\HH g Q [] F) ?_ ?_
  ·rcases BB O with⟨B,M⟩|⟨B,M⟩
   ·replace H:=H.kn 8 B;obtain⟨x4,X,M⟩:=AJ M;refine BQ 4 [] 13 (Ab x4) h1 H (λD=>.of (Eg kr X)) λD t H=>?_;refine AL 3 [(16,.bool (x4==p1))] H λD H=>?_;exact wg
   replace H:=H.kn 8 B;refine AL 8 [(16,.bool false)] H λD H=>?_;exact wg
  intro t D h2 hK;obtain⟨H,A⟩:=hK;refine BN id (Ac 16 H M (λB M H=>?_) λB M H=>?_)
  ·refine By id (Aa (id:=1) kr ?_);refine CF 6 ?_;obtain⟨x5,X,M⟩:=AJ M;refine BQ 4 [] 21 (.str x5) h2 H (λD=>.of (Df (k:=.i64) (k':=.i64) (lo:=none) (hi:=(some (i64.wrap ((x1.length:Int) - 1)))) kr X)) λD t H=>?_;refine BU 1 [(0,.str x5),(1,Ab p1)] H λD H=>An ?_;exact vo
  exact wm
 intro e D J hQ;rcases hQ with⟨x2,rfl,rfl,H,A⟩|hF
 ·refine AE 2 (AK 2 [(4,.str x2)] H λD H=>AY ?_);exact wd
 exact hF.elim
def Dw(p0:List UInt8):Option ((List UInt8)):=
 Ag ((p0==([]:UV))||(([48]:UV)==([]:UV))) (some p0) ((FC p0 (48:Int)).bind λx1=>some x1)
theorem Ld{p0 q0}(M:Dw p0=some q0):tl 189 [.str p0,.str ([48]:UV)] (.str q0):=by
 intro g h F av A hc;refine Dp 37 [.tmp 4] hc ?_;unfold Dw at M;refine bg 37 [(0,.str p0),(1,.str ([48]:UV))] λD H=>?_;refine AE 1 (AK 1 [] H λD H=>AU (AE 6 (AL 3 [(9,.bool (p0==eZ))] H λD H=>Ch 3 9 (λbb=>[(12,.bool (bb||(([48]:UV)==eZ)))]) H λD H=>?_)));refine BN id (Ac 12 H M (λB M H=>?_) λB M H=>?_)
 ·refine AE 2 (AK 2 [(4,.str p0)] H λD H=>AY ?_);exact wd
 refine By id (AU (AE 8 (AK 8 [(21,.bool true)] H λD H=>DM (x:=.tmp 21) kr H (λD=>kr) ?_)));refine AE 5 ?_;obtain⟨x1,X,M⟩:=AJ M;obtain⟨v1,h1,R,rfl,E⟩:=LY X (A.cut 0);replace A:=A.DF E;refine BM 3 [] 25 R H λD t H=>?_;refine AK 1 [(4,.str x1)] H λD H=>AY ?_;exact wd
def Gw(p0:Ax):Option ((List UInt8)×Int):=
 (D6 p0).bind λx1=>Ag (!x1) (some (([]:UV),(1:Int))) ((Ag (decide (p0.DR<0)) ((Dm p0).bind λx5=>some (x5.DR,x5.CE,([45]:UV))) (some (p0.DR,p0.CE,([]:UV))):Option ((Int×Int×(List UInt8)))).bind λ(x2,x3,x4)=>B4 (decide (-9223372036854775808<=x2/\x2<=9223372036854775807))<|B4 (decide (x4.length+(Lib.itoa x2).length<=9223372036854775807))<|Ag (x3==0) (some (x4++(Lib.itoa x2),(0:Int))) (B4 (decide (-9223372036854775808<=i64.wrap ((1000000000:Int)+x3)/\i64.wrap ((1000000000:Int)+x3)<=9223372036854775807))<|(E4 (Lib.itoa (i64.wrap ((1000000000:Int)+x3))) (some (1:Int)) none).bind λx6=>B4 (decide ((x4++(Lib.itoa x2)).length+([46]:UV).length<=9223372036854775807))<|(Dw x6).bind λx7=>B4 (decide (((x4++(Lib.itoa x2))++([46]:UV)).length+x7.length<=9223372036854775807))<|some (((x4++(Lib.itoa x2))++([46]:UV))++x7,(0:Int))))
theorem Tf{p0 q0 q1}(M:Gw p0=some (q0,q1)):tl 158 [.agg [Ai p0.DR,Ai p0.CE]] (.tuple [.str q0,Ai q1]):=by
 intro g h F av A hc;refine Dp 34 [.tmp 2,.tmp 3] hc ?_;unfold Gw at M;refine bg 34 [(0,.agg [Ai p0.DR,Ai p0.CE])] λD H=>?_;refine AE 3 ?_;obtain⟨h1,e1,A⟩:=A.pu (.cells none 2 [Ai p0.DR,Ai p0.CE]);refine Bj 1 (pz h.size) e1 H λD t H=>?_;refine AK 2 [] H λD H=>AU (AE 3 (Az 7 _ _ H (λD=>.of (Bt kr (A.GL 0 rfl (o:=0) (n:=2) ⟨zd rfl,rfl⟩))) λD t H=>?_));obtain⟨x1,X,M⟩:=AJ M;obtain⟨v1,h2,R,rfl,E⟩:=Kn (av:=[.agg [Ai p0.DR,Ai p0.CE]]) X (A.cut 0);replace A:HH g h2 [oB h.size [Ai p0.DR,Ai p0.CE]] F:=A.Gr (n:=0) E;refine BO 8 R H λD t H=>?_;refine AK 1 [(9,.bool (!x1))] H λD H=>Ac 9 H M (λB M H=>?_) λB M H=>?_
 ·refine AE 2 (AK 2 [(2,.str eZ),(3,Ai 1)] H λD H=>AY ?_);exact vr
 refine CC 1 id (AK 1 [(4,.str eZ)] H λD H=>AU ?_);obtain⟨o1,O,M⟩:=AJ M;refine BJ (Q':=λe N Q=>(∃x2 x3 x4,e=.normal/\(x2,x3,x4)=o1/\Has N 34 [(1,pz h.size),(4,.str x4)]/\HH g Q [oB h.size [Ai x2,Ai x3]] F)\/False) ?_ ?_
 ·replace M:=O;refine AE 3 (AX 1 [] 11 0 0 A H λD t H=>?_);refine AK 1 [(12,.bool (decide (p0.DR<0)))] H λD H=>Ac 12 H M (λB M H=>?_) λB M H=>?_
  ·refine CF 4 (Az 13 _ _ H (λD=>.of (Bt kr (A.GL 0 rfl (o:=0) (n:=2) ⟨zd rfl,rfl⟩))) λD t H=>?_);obtain⟨x5,X,M⟩:=AJ M;obtain⟨v1,J,R,rfl,E⟩:=Oa (av:=[.agg [Ai p0.DR,Ai p0.CE]]) X (A.cut 0);replace A:=A.DF E;refine BO 14 R H λD t H=>?_;refine BU 1 [(1,pz h.size),(4,.str ([45]:UV)),(14,.agg [Ai x5.DR,Ai x5.CE])] H λD H=>?_;obtain⟨G,X,A⟩:=A.s0 0 [Ai x5.DR,Ai x5.CE];refine Cx X H λD t H=>?_;refine An ?_;exact ud
  exact C2 (.inl ⟨_,_,_,rfl,Ar M,H.ls,A⟩)
 intro e D I hQ;rcases hQ with⟨x2,x3,x4,rfl,rfl,H,A⟩|hF
 ·refine AE 6 (AX 2 [(15,.str x4)] 17 0 0 A H λD t H=>?_);obtain⟨B,M⟩:=Ap M;refine Az 18 (.str (Lib.itoa x2)) I H (λD=>Steps.call kr (Ks (C:=cfg) (f:=114) kr (l:=exts) rfl kr B)) λD t H=>?_;obtain⟨B,M⟩:=Ap M;refine Az 19 (.str (x4++(Lib.itoa x2))) I H (λD=>.of (Dh kr B)) λD t H=>?_;refine AK 1 [(5,.str (x4++(Lib.itoa x2)))] H λD H=>AU (AE 3 (AX 1 [] 21 0 1 A H λD t H=>?_));refine AK 1 [(22,.bool (x3==0))] H λD H=>Ac 22 H M (λB M H=>?_) λB M H=>?_
  ·refine AE 3 (AK 3 [(2,.str (x4++(Lib.itoa x2))),(3,Ai 0)] H λD H=>AY ?_);exact vr
  refine CC 6 id (AX 1 [] 25 0 1 A H λD t H=>?_);obtain⟨B,M⟩:=Ap M;refine BQ 1 [] 27 (.str (Lib.itoa (i64.wrap ((1000000000:Int)+x3)))) I H (λD=>Steps.call kr (Ks (C:=cfg) (f:=114) kr (l:=exts) rfl kr B)) λD t H=>?_;obtain⟨x6,X,M⟩:=AJ M;refine Az 28 (.str x6) I H (λD=>.of (Df (k:=.i64) (k':=.i64) (lo:=(some (1:Int))) (hi:=none) kr X)) λD t H=>?_;refine Bx 1 [(6,.str x6)] 7 H λD H=>AL 1 [(29,.str (x4++(Lib.itoa x2)))] H λD H=>?_;obtain⟨B,M⟩:=Ap M;refine Az 30 (.str ((x4++(Lib.itoa x2))++([46]:UV))) I H (λD=>.of (Dh kr B)) λD t H=>?_;obtain⟨x7,X,M⟩:=AJ M;obtain⟨v1,Z,R,rfl,E⟩:=Ld X (A.cut 0);replace A:=A.DF E;refine BM 1 [] 32 R H λD t H=>?_;obtain⟨B,M⟩:=Ap M;refine Az 33 (.str (((x4++(Lib.itoa x2))++([46]:UV))++x7)) Z H (λD=>.of (Dh kr B)) λD t H=>?_;refine AK 2 [(2,.str (((x4++(Lib.itoa x2))++([46]:UV))++x7)),(3,Ai 0)] H λD H=>AY ?_;exact vr
 exact hF.elim
def Fu(p0:AO)(p1:AM):Option (AO):=
 Ag (p1.Time.CE !=0) (some ({p0 with Time:=(-1:Int)}:AO)) (some ({p0 with Time:=p1.Time.DR}:AO))
theorem OM{p0 p1 bp0 bp1 u0}(M:Fu p0 p1=some u0)(A:HH g h [.obj bp0 (.cells none 2 (AP p0)),.obj bp1 (.cells none 2 (AN p1))] F)(hc:CQ (cfg.still 159) av=[.ptr (some (bp0,0)),.ptr (some (bp1,0))]:=by kernel_rfl):∃v Q,Cf cfg g h 159 av v Q/\v=.tuple []/\HH g Q [.obj bp0 (.cells none 2 (AP u0)),.obj bp1 (.cells none 2 (AN p1))] F:=by
 refine Dp 16 [] hc ?_;unfold Fu at M;refine bg 16 [(0,pz bp0),(1,pz bp1)] λD H=>?_;refine AE 7 (AX 3 [(3,pz bp0)] 6 1 10 A H λD t H=>?_);obtain⟨h1,X,A⟩:=A.s0 7 [Ai p1.Time.DR];refine Bz 2 [] X H λD t H=>?_;refine CI 4 id (AX 2 [] 11 1 11 A H λD t H=>?_);refine AK 1 [(12,.bool (p1.Time.CE !=0))] H λD H=>Ac 12 H M (λB M H=>?_) λB M H=>?_
 ·refine CF 4 ?_;obtain⟨h2,X,A⟩:=A.s0 7 [Ai (-1)];refine Bz 3 [] X H λD t H=>?_;refine An ?_;obtain rfl:=Ar M;refine⟨.inr rfl,.tuple [],rH H,?_⟩;exact⟨rfl,A⟩
 refine C2 ?_;obtain rfl:=Ar M;refine⟨.inr rfl,.tuple [],rH H,?_⟩;exact⟨rfl,A⟩
def Cv(p0:List UInt8)(p1:List UInt8)(p2_10:AM)(p3:AO)(p4:List AB):Option (AO×(List AB)):=
 (Fu p3 p2_10).bind λx1=>(Cr x1).bind λx2=>Ag (x2==0) (some (x1,p4)) (B4 (L1 32 (p4.length+([(⟨p0,p1⟩:AB)]:List AB).length))<|some (p3,(p4++([(⟨p0,p1⟩:AB)]:List AB))))
theorem KJ{p0 p1 p2_10 p3 p4 bp2_10 bp3 bp4 rp4_0 u1 u3}(M:Cv p0 p1 p2_10 p3 p4=some (u1,u3))(A:HH g h [.obj bp2_10 (.cells none 2 (AN p2_10)),.obj bp3 (.cells none 2 (AP p3)),.obj bp4 (.cells none 2 [Ad rp4_0 p4.length]),.Am rp4_0 100 (Am AA p4)] F)(hc:CQ (cfg.still 154) av=[.str p0,.str p1,.func (.func 159) [] [.ptr (some (bp2_10,0))],.ptr (some (bp3,0)),.ptr (some (bp4,0))]:=by kernel_rfl):∃v Q,Cf cfg g h 154 av v Q/\∃(r'3:Option Nat),v=.tuple []/\HH g Q [.obj bp2_10 (.cells none 2 (AN p2_10)),.obj bp3 (.cells none 2 (AP u1)),.obj bp4 (.cells none 2 [Ad r'3 u3.length]),.Am r'3 100 (Am AA u3)] F:=by
 refine Dp 22 [] hc ?_;unfold Cv at M;refine bg 22 [(0,.str p0),(1,.str p1),(2,.func (.func 159) [] [pz bp2_10]),(3,pz bp3),(4,pz bp4)] λD H=>?_;refine AE 3 (Az 9 _ _ H (λD=>.of (Bt kr (A.GL 1 rfl (o:=0) (n:=13) ⟨zd rfl,rfl⟩))) λD t H=>?_);obtain⟨h1,e1,A⟩:=A.pu (.cells none 2 RW);refine Bj 8 (pz h.size) e1 H λD t H=>?_;obtain⟨h2,X,A⟩:=A.s0 0 (AP p3);refine Cx X H λD t H=>?_;refine BN id (AU (AE 2 ?_));obtain⟨x1,X,M⟩:=AJ M;obtain⟨v1,J,R,rfl,E⟩:=OM (av:=[pz h.size,pz bp2_10]) X (A.cut 2);replace A:=A.g22 E;refine Gl 1 [] R H λD t H=>?_;refine CI 3 id (Az 12 _ _ H (λD=>.of (Bt kr (A.GL 0 rfl (o:=0) (n:=13) ⟨zd rfl,rfl⟩))) λD t H=>?_);obtain⟨x2,X,M⟩:=AJ M;obtain⟨v1,G,R,rfl,E⟩:=E3 X (A.cut 0);replace A:=A.DF E;refine BO 13 R H λD t H=>?_;refine AK 1 [(14,.bool (x2==0))] H λD H=>Ac 14 H M (λB M H=>?_) λB M H=>?_
 ·exact we
 exact wa
def IG(p0:AO)(p1:AM):Option (AO):=
 some ({p0 with Name:=p1.Name}:AO)
theorem OO{p0 p1 bp0 bp1 u0}(M:IG p0 p1=some u0)(A:HH g h [.obj bp0 (.cells none 2 (AP p0)),.obj bp1 (.cells none 2 (AN p1))] F)(hc:CQ (cfg.still 160) av=[.ptr (some (bp0,0)),.ptr (some (bp1,0))]:=by kernel_rfl):∃v Q,Cf cfg g h 160 av v Q/\v=.tuple []/\HH g Q [.obj bp0 (.cells none 2 (AP u0)),.obj bp1 (.cells none 2 (AN p1))] F:=by
 refine Dp 8 [] hc ?_;unfold IG at M;refine bg 8 [(0,pz bp0),(1,pz bp1)] λD H=>?_;refine CF 6 (AX 2 [(3,pz bp0)] 5 1 0 A H λD t H=>?_);obtain⟨h1,X,A⟩:=A.s0 0 [.str p1.Name];exact wt
def DU(p0:List UInt8)(p1:List UInt8)(p2_10:AM)(p3:AO)(p4:List AB):Option (AO×(List AB)):=
 (IG p3 p2_10).bind λx1=>(Cr x1).bind λx2=>Ag (x2==0) (some (x1,p4)) (B4 (L1 32 (p4.length+([(⟨p0,p1⟩:AB)]:List AB).length))<|some (p3,(p4++([(⟨p0,p1⟩:AB)]:List AB))))
theorem KV{p0 p1 p2_10 p3 p4 bp2_10 bp3 bp4 rp4_0 u1 u3}(M:DU p0 p1 p2_10 p3 p4=some (u1,u3))(A:HH g h [.obj bp2_10 (.cells none 2 (AN p2_10)),.obj bp3 (.cells none 2 (AP p3)),.obj bp4 (.cells none 2 [Ad rp4_0 p4.length]),.Am rp4_0 100 (Am AA p4)] F)(hc:CQ (cfg.still 154) av=[.str p0,.str p1,.func (.func 160) [] [.ptr (some (bp2_10,0))],.ptr (some (bp3,0)),.ptr (some (bp4,0))]:=by kernel_rfl):∃v Q,Cf cfg g h 154 av v Q/\∃(r'3:Option Nat),v=.tuple []/\HH g Q [.obj bp2_10 (.cells none 2 (AN p2_10)),.obj bp3 (.cells none 2 (AP u1)),.obj bp4 (.cells none 2 [Ad r'3 u3.length]),.Am r'3 100 (Am AA u3)] F:=by
 refine Dp 22 [] hc ?_;unfold DU at M;refine bg 22 [(0,.str p0),(1,.str p1),(2,.func (.func 160) [] [pz bp2_10]),(3,pz bp3),(4,pz bp4)] λD H=>?_;refine AE 3 (Az 9 _ _ H (λD=>.of (Bt kr (A.GL 1 rfl (o:=0) (n:=13) ⟨zd rfl,rfl⟩))) λD t H=>?_);obtain⟨h1,e1,A⟩:=A.pu (.cells none 2 RW);refine Bj 8 (pz h.size) e1 H λD t H=>?_;obtain⟨h2,X,A⟩:=A.s0 0 (AP p3);refine Cx X H λD t H=>?_;refine BN id (AU (AE 2 ?_));obtain⟨x1,X,M⟩:=AJ M;obtain⟨v1,J,R,rfl,E⟩:=OO (av:=[pz h.size,pz bp2_10]) X (A.cut 2);replace A:=A.g22 E;refine Gl 1 [] R H λD t H=>?_;refine CI 3 id (Az 12 _ _ H (λD=>.of (Bt kr (A.GL 0 rfl (o:=0) (n:=13) ⟨zd rfl,rfl⟩))) λD t H=>?_);obtain⟨x2,X,M⟩:=AJ M;obtain⟨v1,G,R,rfl,E⟩:=E3 X (A.cut 0);replace A:=A.DF E;refine BO 13 R H λD t H=>?_;refine AK 1 [(14,.bool (x2==0))] H λD H=>Ac 14 H M (λB M H=>?_) λB M H=>?_
 ·exact we
 exact wa
def IT(p0:AO)(p1:Int):Option (AO):=
 some ({p0 with B9:=p1}:AO)
theorem OX{p0 p1 bp0 bp1 u0}(M:IT p0 p1=some u0)(A:HH g h [.obj bp0 (.cells none 2 (AP p0)),.obj bp1 (.cells none 2 [Ai p1])] F)(hc:CQ (cfg.still 161) av=[.ptr (some (bp0,0)),.ptr (some (bp1,0))]:=by kernel_rfl):∃v Q,Cf cfg g h 161 av v Q/\v=.tuple []/\HH g Q [.obj bp0 (.cells none 2 (AP u0)),.obj bp1 (.cells none 2 [Ai p1])] F:=by
 refine Dp 7 [] hc ?_;unfold IT at M;refine bg 7 [(0,pz bp0),(1,pz bp1)] λD H=>?_;refine CF 5 (AX 1 [(3,pz bp0)] 4 1 0 A H λD t H=>?_);obtain⟨h1,X,A⟩:=A.s0 6 [Ai p1];exact wt
def DW(p0:List UInt8)(p1:List UInt8)(p2_10:Int)(p3:AO)(p4:List AB):Option (AO×(List AB)):=
 (IT p3 p2_10).bind λx1=>(Cr x1).bind λx2=>Ag (x2==0) (some (x1,p4)) (B4 (L1 32 (p4.length+([(⟨p0,p1⟩:AB)]:List AB).length))<|some (p3,(p4++([(⟨p0,p1⟩:AB)]:List AB))))
theorem Kj{p0 p1 p2_10 p3 p4 bp2_10 bp3 bp4 rp4_0 u1 u3}(M:DW p0 p1 p2_10 p3 p4=some (u1,u3))(A:HH g h [.obj bp2_10 (.cells none 2 [Ai p2_10]),.obj bp3 (.cells none 2 (AP p3)),.obj bp4 (.cells none 2 [Ad rp4_0 p4.length]),.Am rp4_0 100 (Am AA p4)] F)(hc:CQ (cfg.still 154) av=[.str p0,.str p1,.func (.func 161) [] [.ptr (some (bp2_10,0))],.ptr (some (bp3,0)),.ptr (some (bp4,0))]:=by kernel_rfl):∃v Q,Cf cfg g h 154 av v Q/\∃(r'3:Option Nat),v=.tuple []/\HH g Q [.obj bp2_10 (.cells none 2 [Ai p2_10]),.obj bp3 (.cells none 2 (AP u1)),.obj bp4 (.cells none 2 [Ad r'3 u3.length]),.Am r'3 100 (Am AA u3)] F:=by
 refine Dp 22 [] hc ?_;unfold DW at M;refine bg 22 [(0,.str p0),(1,.str p1),(2,.func (.func 161) [] [pz bp2_10]),(3,pz bp3),(4,pz bp4)] λD H=>?_;refine AE 3 (Az 9 _ _ H (λD=>.of (Bt kr (A.GL 1 rfl (o:=0) (n:=13) ⟨zd rfl,rfl⟩))) λD t H=>?_);obtain⟨h1,e1,A⟩:=A.pu (.cells none 2 RW);refine Bj 8 (pz h.size) e1 H λD t H=>?_;obtain⟨h2,X,A⟩:=A.s0 0 (AP p3);refine Cx X H λD t H=>?_;refine BN id (AU (AE 2 ?_));obtain⟨x1,X,M⟩:=AJ M;obtain⟨v1,J,R,rfl,E⟩:=OX (av:=[pz h.size,pz bp2_10]) X (A.cut 2);replace A:=A.g22 E;refine Gl 1 [] R H λD t H=>?_;refine CI 3 id (Az 12 _ _ H (λD=>.of (Bt kr (A.GL 0 rfl (o:=0) (n:=13) ⟨zd rfl,rfl⟩))) λD t H=>?_);obtain⟨x2,X,M⟩:=AJ M;obtain⟨v1,G,R,rfl,E⟩:=E3 X (A.cut 0);replace A:=A.DF E;refine BO 13 R H λD t H=>?_;refine AK 1 [(14,.bool (x2==0))] H λD H=>Ac 14 H M (λB M H=>?_) λB M H=>?_
 ·exact we
 exact wa
def IH(p0:AO)(p1:AM):Option (AO):=
 some ({p0 with Cq:=p1.Cq}:AO)
theorem OL{p0 p1 bp0 bp1 u0}(M:IH p0 p1=some u0)(A:HH g h [.obj bp0 (.cells none 2 (AP p0)),.obj bp1 (.cells none 2 (AN p1))] F)(hc:CQ (cfg.still 162) av=[.ptr (some (bp0,0)),.ptr (some (bp1,0))]:=by kernel_rfl):∃v Q,Cf cfg g h 162 av v Q/\v=.tuple []/\HH g Q [.obj bp0 (.cells none 2 (AP u0)),.obj bp1 (.cells none 2 (AN p1))] F:=by
 refine Dp 8 [] hc ?_;unfold IH at M;refine bg 8 [(0,pz bp0),(1,pz bp1)] λD H=>?_;refine CF 6 (AX 2 [(3,pz bp0)] 5 1 4 A H λD t H=>?_);obtain⟨h1,X,A⟩:=A.s0 4 [Ai p1.Cq];exact wt
def IM(p0:AO)(p1:AM):Option (AO):=
 some ({p0 with A6:=p1.A6}:AO)
theorem OQ{p0 p1 bp0 bp1 u0}(M:IM p0 p1=some u0)(A:HH g h [.obj bp0 (.cells none 2 (AP p0)),.obj bp1 (.cells none 2 (AN p1))] F)(hc:CQ (cfg.still 163) av=[.ptr (some (bp0,0)),.ptr (some (bp1,0))]:=by kernel_rfl):∃v Q,Cf cfg g h 163 av v Q/\v=.tuple []/\HH g Q [.obj bp0 (.cells none 2 (AP u0)),.obj bp1 (.cells none 2 (AN p1))] F:=by
 refine Dp 8 [] hc ?_;unfold IM at M;refine bg 8 [(0,pz bp0),(1,pz bp1)] λD H=>?_;refine CF 6 (AX 2 [(3,pz bp0)] 5 1 6 A H λD t H=>?_);obtain⟨h1,X,A⟩:=A.s0 8 [.str p1.A6];exact wt
end
end Go.Av.L
