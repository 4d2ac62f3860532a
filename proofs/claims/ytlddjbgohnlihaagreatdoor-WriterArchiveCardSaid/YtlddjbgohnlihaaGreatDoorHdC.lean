/-
  Several texts in one.
-/
import Derived.Test.YtlddjbgohnlihaaGreatDoorK10
/-
 A part.
-/
section
namespace Go.Av.L
open IntKind (i64 i8)
open Go.Av Go.Lib
set_option linter.unusedVariables false
set_option linter.unusedSimpArgs false
set_option maxRecDepth 10000
def XD(s:List UInt8)(r:Int):Prop:=(r= -1∧∀j:Nat,s[j]?≠some 47)∨∃i:Nat,r=(i:Int)∧s[i]?=some 47∧∀j,i<j→s[j]?≠some 47
theorem Vx(s:List UInt8)(I:s.length≤1000000):W (B8 s 47) (XD s):=by
 unfold B8 Ch;refine W.bind (W.bind (W.loop (fun x:Int=> -1≤x∧x<s.length∧∀j:Nat,x<(j:Int)→s[j]?≠some 47) (fun x=>(x+1).toNat) ?_ fun x N=>?_))
 ·rw[DK (by omega) (by omega)];refine⟨by omega,by omega,fun j hj e=>?_⟩;have:=(List.getElem?_eq_some_iff.1 e).1;omega
 ·obtain⟨h1,h2,F⟩:=N;rw[DM,Fc];by_cases H:x≥0
  ·obtain⟨n,rfl⟩:=qu H;have E:n<s.length:=by omega
   rw[zm H,GL E,za,show(47:Int)=((47:Nat):Int) from rfl,Hq (by omega)];by_cases S:s[n]=47
   ·rw[show(s[n]==UInt8.ofNat 47)=true from by rw[S];rfl,AQ];refine W.ret (W.ret (W.ret (.inr ⟨n,rfl,by rw[List.getElem?_eq_getElem E,S],fun j hj=>F j (by omega)⟩)))
   ·rw[show(s[n]==UInt8.ofNat 47)=false from beq_eq_false_iff_ne.2 S,AK,DK (by omega) (by omega)];refine W.ret ⟨⟨by omega,by omega,fun j hj e=>?_⟩,by omega⟩;by_cases hj2:j=n
    ·subst hj2;rw[List.getElem?_eq_getElem E]at e;exact S (zJ e)
    ·exact F j (by omega) e
  ·rw[zk H];refine W.ret (W.ret (W.ret (.inl ⟨rfl,fun j e=>F j (by omega) e⟩)))
def Cut(s:List UInt8)(i:Nat):Prop:=1≤i∧i≤155∧s[i]?=some 47∧i+2≤s.length∧s.length≤i+101
def JS(s:List UInt8)(r:List UInt8×List UInt8×Bool):Prop:=
 (s.length≤100∧r=([],s,true))∨(100<s.length∧((r=([],[],false)∧∀i,¬Cut s i)∨∃i,Cut s i∧(∀j,Cut s j→j≤i)∧r=(s.take i,s.drop (i+1),true)))
theorem JS.uniq{s:List UInt8}{r r':List UInt8×List UInt8×Bool}(h:JS s r)(h':JS s r'):r=r':=by
 rcases h with⟨h1,rfl⟩|⟨h1,h2⟩
 ·rcases h' with⟨_,rfl⟩|⟨F,_⟩
  ·rfl
  ·omega
 ·rcases h' with⟨F,_⟩|⟨_,h4⟩
  ·omega
  ·rcases h2 with⟨rfl,n⟩|⟨i,c,m,rfl⟩
   ·rcases h4 with⟨rfl,_⟩|⟨j,d,_,_⟩
    ·rfl
    ·exact absurd d (n j)
   ·rcases h4 with⟨_,n⟩|⟨j,d,k,rfl⟩
    ·exact absurd c (n i)
    ·have:=m j d;have:=k i c;obtain rfl:i=j:=by omega
     rfl
theorem JS.len{s p q:List UInt8}(h:JS s (p,q,true)):p.length≤155∧q.length≤100:=by
 rcases h with⟨h1,e⟩|⟨h1,⟨e,_⟩|⟨i,c,_,e⟩⟩
 ·cases e;exact⟨by simp,h1⟩
 ·cases e
 ·obtain⟨c1,c2,c3,c4,c5⟩:=c;cases e;exact⟨by rw[zA];omega,by rw[yd];omega⟩
theorem Rm{s:List UInt8}{m j:Nat}(h:j<m):(s.take m)[j]?=s[j]?:=List.getElem?_take_of_lt h
theorem O6(s:List UInt8)(I:s.length≤1000000):W (D5 s) (JS s):=by
 unfold D5;refine W.NH (fun h=>W.ret (.inl ⟨by omega,rfl⟩)) fun h=>?_;have hmn:mn (s.length:Int) 156=((min s.length 156:Nat):Int):=by unfold mn;split<;>omega
 rw[hmn,Ie (by omega),za];refine W.bind ((Vx (s.take (min s.length 156)) (by rw[zA];omega)).mono fun x N=>?_);refine W.bind (W.loop (fun x:Int=>∃m,m≤s.length∧m≤156∧XD (s.take m) x∧∀j,Cut s j→j<m) (fun x=>(x+1).toNat) ⟨_,by omega,by omega,N,fun j c=>by obtain⟨c1,c2,c3,c4,c5⟩:=c;omega⟩ fun x N=>?_);obtain⟨m,hm1,hm2,J,hc⟩:=N;unfold JB;dsimp only;rw[DK (x:=(s.length:Int) - 1) (by omega) (by omega)];have fin:(∃i,Cut s i∧(∀j,Cut s j→j≤i)∧x=(i:Int))∨((∀i,¬Cut s i)∧(x<1∨(s.length:Int) - x - 1>100))→W (some (.inr x):Option (Int⊕Int)) fun r=>match r with
   | .inl s'=>(∃m,m≤s.length∧m≤156∧XD (s.take m) s'∧∀j,Cut s j→j<m)∧(s'+1).toNat<(x+1).toNat
   | .inr x4=>W (AX ((decide (x4<1))||(decide ((i64.wrap ((i64.wrap ((s.length:Int) - x4)) - 1))>100))) (some (([]:List UInt8),([]:List UInt8),false)) ((D6 s none (some x4)).bind fun x7=>(D6 s (some (i64.wrap (x4+1))) none).bind fun x8=>some (x7,x8,true))) (JS s):=by
  intro hh;have hxb: -1≤x∧x<s.length:=by
   rcases J with⟨rfl,_⟩|⟨i,rfl,hi,_⟩
   ·omega
   ·have:=(List.getElem?_eq_some_iff.1 hi).1;rw[zA]at this;omega
  refine W.ret ?_;dsimp only;rw[DK (x:=(s.length:Int) - x) (by omega) (by omega),DK (by omega) (by omega)];rcases hh with⟨i,c,C,rfl⟩|⟨n,S⟩
  ·obtain⟨c1,c2,c3,c4,c5⟩:=c;rw[show(decide ((i:Int)<1)||decide ((s.length:Int) - (i:Int) - 1>100))=false from by rw[zH];exact⟨zi (by omega),zi (by omega)⟩,AK,Ie (by omega),za,DP (by omega),NR (by omega)];exact W.ret (.inr ⟨by omega,.inr ⟨i,⟨c1,c2,c3,c4,c5⟩,C,rfl⟩⟩)
  ·rw[show(decide (x<1)||decide ((s.length:Int) - x - 1>100))=true from by rw[yo,zD,zD];exact S,AQ];exact W.ret (.inr ⟨by omega,.inl ⟨rfl,n⟩⟩)
 rcases J with⟨rfl,E⟩|⟨i,rfl,hi,P⟩
 ·rw[show(decide ((-1:Int)>0)&&((-1:Int)==(s.length:Int) - 1))=false from rfl,AK];refine(fin (.inr ⟨fun j c=>?_,.inl (by omega)⟩)).mono fun r h=>by cases r<;>exact h
  have F:=E j;rw[Rm (hc j c)]at F;exact F c.2.2.1
 ·have hlt:=(List.getElem?_eq_some_iff.1 hi).1;rw[zA]at hlt;have hsi:s[i]?=some 47:=by rw[←Rm (show i<m by omega)];exact hi
  have C:∀j,Cut s j→j≤i:=fun j c=>by
   rcases yg i j with h5|h5
   ·have F:=P j h5;rw[Rm (hc j c)]at F;exact absurd c.2.2.1 F
   ·exact h5
  by_cases hlast:0<i∧i+1=s.length
  ·rw[show(decide ((i:Int)>0)&&((i:Int)==(s.length:Int) - 1))=true from by rw[zh,zD,yM];omega,AQ,Ie (by omega),za];refine W.bind ((Vx (s.take i) (by rw[zA];omega)).mono fun y Y=>W.ret ⟨⟨i,by omega,by omega,Y,fun j c=>?_⟩,?_⟩)
   ·have:=C j c;have:=c.2.2.2.1;omega
   ·rcases Y with⟨rfl,_⟩|⟨k,rfl,hk,_⟩
    ·omega
    ·have:=(List.getElem?_eq_some_iff.1 hk).1;rw[zA]at this;omega
  ·rw[show(decide ((i:Int)>0)&&((i:Int)==(s.length:Int) - 1))=false from by rw[yb,zx,zL];omega,AK];refine(fin ?_).mono fun r h=>by cases r<;>exact h
   by_cases U:1≤i∧s.length≤i+101
   ·exact .inl ⟨i,⟨U.1,by omega,hsi,by omega,U.2⟩,C,rfl⟩
   ·refine .inr ⟨fun j c=>?_,by omega⟩;have:=C j c;obtain⟨c1,c2,c3,c4,c5⟩:=c;omega
def Rq(h:AN)(b:Bool):Bool:=b&&(decide (h.Ah.length≤100)&&(decide (h.AZ.length≤32)&&decide (h.Ad.length≤32)))
def Sn(h:AN):List (Int×Int):=[(1,h.Mode),(2,h.BO),(3,h.BW),(4,h.B2),(5,h.Time),(9,h.Aj),(10,h.Ao)]
def Tt(h:AN):Bool:=EW h.Name||(EW h.Ah||(EW h.AZ||EW h.Ad))
def NW(h:AN)(b:Bool):Int:=if Tt h=true then 2 else if Rq h b=true then(if(Sn h).all NZ=true then 0 else 6)else 12
theorem Qy:∀(l:List (Int×Int)),(∀a∈l,a.1=1∨a.1=2∨a.1=3∨a.1=4∨a.1=5∨a.1=9∨a.1=10)→Bv Dt l ()=some (if l.all NZ=true then .inl ()else .inr 6)
 |[],_=>rfl
 | a::l,h=>by
  rw[Bv,I6 (h a (by simp))];cases D:NZ a with
  |true=>
   rw[zm rfl];dsimp only;rw[Qy l fun c hc=>h c (by simp[hc]),zR,D,yL]
  |false=>
   rw[zk (by simp),zR,D,yX];rfl
theorem Pb{h:AN}{p q:List UInt8}{b:Bool}(K:D5 h.Name=some (p,q,b)):Br h=some ([(0,q),(11,p),(6,h.Ah),(7,h.AZ),(8,h.Ad)],b):=by
 unfold Br;rw[K];rfl
theorem V2{h:AN}{p q:List UInt8}{b:Bool}(K:D5 h.Name=some (p,q,b))(J:JS h.Name (p,q,b)):BT h=some (NW h b):=by
 unfold BT NW;rw[PW,za];show(match(if Tt h=true then(.inr 2:Unit⊕Int)else .inl ())with| .inl _=>_| .inr x2=>some x2)=_;by_cases E:Tt h=true
 ·rw[zm E,zm E]
 ·rw[zk E,zk E];dsimp only;rw[Pb K,za];dsimp only;rw[N7 _ b (Hl (Pb K)),za];dsimp only;have e:(b&&List.all [((0:Int),q),(11,p),(6,h.Ah),(7,h.AZ),(8,h.Ad)] fun a=>decide ((a.2.length:Int)≤U0 a.1))=Rq h b:=by
   unfold Rq;cases b with
   |false=>rfl
   |true=>
    obtain⟨l1,l2⟩:=J.len;simp only[zR,qv,yL,qN];rw[zf (show(q.length:Int)≤U0 0 by simp[U0];omega),zf (show(p.length:Int)≤U0 11 by simp[U0];omega),yL,yL];rw[show U0 6=100 from rfl,show U0 7=32 from rfl,show U0 8=32 from rfl];congr 1
    ·exact decide_eq_decide.2 (by omega)
    ·congr 1<;>exact decide_eq_decide.2 (by omega)
  rw[e];by_cases R:Rq h b=true
  ·rw[R,zY,AK,zm rfl];have ev:CN h=some (Sn h):=rfl;rw[ev,za,Qy _ (LG ev),za];by_cases D:(Sn h).all NZ=true
   ·rw[zm D,zm D]
   ·rw[zk D,zk D]
  ·have ht':Rq h b=false:=by simpa using R
   rw[ht',yD,AQ,zk (by simp)]
end Go.Av.L
end
/-
 A part.
-/
section
namespace Go.Av.L
open IntKind (i64 i8)
open Go.Av Go.Lib
set_option linter.unusedVariables false
set_option linter.unusedSimpArgs false
set_option maxRecDepth 10000
def Eb:List Nat:=[100,8,8,8,12,12,8,1,100,8,32,32,8,8,155,12]
def Shape(L:List (List UInt8)):Prop:=L.map List.length=Eb
def O9:List (List UInt8):=Eb.map fun n=>List.replicate n 0
theorem Tv:Shape O9:=by unfold Shape;kernel_rfl
theorem U8:List.replicate (512:Int).toNat (0:UInt8)=O9.flatten:=by kernel_rfl
def M1(i:Nat):Nat:=(Eb.take i).sum
theorem Shape.len{L:List (List UInt8)}(h:Shape L):L.length=16:=by
 have:=congrArg List.length h;rwa [yy]at this
theorem Shape.flat{L:List (List UInt8)}(h:Shape L):L.flatten.length=512:=by
 rw[List.length_flatten,show L.map List.length=Eb from h];rfl
theorem Shape.take{L:List (List UInt8)}(h:Shape L)(i:Nat):(L.take i).flatten.length=M1 i:=by
 rw[List.length_flatten,xD,show L.map List.length=Eb from h];rfl
theorem Shape.at_{L:List (List UInt8)}(h:Shape L){i:Nat}(hi:i<16):∃x,L=L.take i++x::L.drop (i+1)∧L.getD i []=x∧x.length=Eb.getD i 0:=by
 have P:=h.len;have Q:i<L.length:=by omega
 refine⟨L[i],?_,?_,?_⟩
 ·rw[←zP Q,zM]
 ·rw[zo,List.getElem?_eq_getElem Q];rfl
 ·rw[←show L.map List.length=Eb from h,zo,List.getElem?_map,List.getElem?_eq_getElem Q];rfl
def Lt(L:List (List UInt8))(i:Nat)(s:List UInt8):List (List UInt8):=L.set i (s++(L.getD i []).drop s.length)
theorem Shape.put{L:List (List UInt8)}(h:Shape L){i:Nat}(hi:i<16){s:List UInt8}(I:s.length≤Eb.getD i 0):putAt L.flatten (M1 i) s=(Lt L i s).flatten∧Shape (Lt L i s):=by
 obtain⟨x,e,N,hlen⟩:=h.at_ hi;have T:=h.take i;have D:=h.flat;have E:(L.take i).length=i:=by rw[zA,h.len];omega
 unfold Lt;rw[N];constructor
 ·generalize L.take i=A at *;generalize L.drop (i+1)=B at *;subst e;rw[←E,xO _ _ (zC _),yV,List.set_cons_zero,yP,yP,yr,yr];unfold putAt;rw[E,←T,yW,zI (by simp only[ze];omega),xm,yc (by omega),ye,ya,xq (by omega),zw]
 ·unfold Shape;rw[List.map_set,show L.map List.length=Eb from h,ze,yd,hlen,show s.length+(Eb.getD i 0 - s.length)=Eb.getD i 0 by omega];have M:i<Eb.length:=hi;rw[zo,List.getElem?_eq_getElem M];exact List.set_getElem_self M
def pd(s:List UInt8)(n:Nat):List UInt8:=s++(List.replicate n 0).drop s.length
theorem VQ{s:List UInt8}{n:Nat}(h:s.length=n):pd s n=s:=by
 unfold pd;rw[yc (by simp[h]),yj]
theorem EG{s:List UInt8}{n:Nat}(h:s.length≤n):(pd s n).length=n:=by
 unfold pd;rw[ze,yd,zT];omega
def Kw(k:Int):UInt8:=if k=0 then 48 else UInt8.ofNat k.toNat
def To:List UInt8:=[117,115,116,97,114,0,48,48]
def MX(h:AN)(p q:List UInt8)(m:List UInt8):List (List UInt8):=
 [pd q 100,CE h.Mode.toNat 8,CE h.BO.toNat 8,CE h.BW.toNat 8,CE h.B2.toNat 12,CE h.Time.toNat 12,m,[Kw h.Kind],pd h.Ah 100,To,pd h.AZ 32,pd h.Ad 32,CE h.Aj.toNat 8,CE h.Ao.toNat 8,pd p 155,List.replicate 12 0]
theorem Ol{h:AN}{p q m:List UInt8}(K:p.length≤155)(J:q.length≤100)(hm:m.length=8)(R:h.Ah.length≤100∧h.AZ.length≤32∧h.Ad.length≤32):Shape (MX h p q m):=by
 unfold Shape MX;simp only[zU,xg];rw[EG J,EG K,EG R.1,EG R.2.1,EG R.2.2,hm];simp only[Dc (show 1≤8 by omega),Dc (show 1≤12 by omega)];rfl
theorem Ew{κ σ ρ:Type}{step:κ→σ→Option (σ⊕ρ)}{a:κ}{l:List κ}{s s':σ}(h:step a s=some (.inl s')):Bv step (a::l) s=Bv step l s':=by rw[Bv,h]
theorem Zg{n:Nat}(h:n<256):Z2 (n:Int)=some (UInt8.ofNat n):=by
 unfold Z2;rw[zm (by omega)];congr 2
theorem Vv{z:List UInt8}{i:Nat}(h:i<z.length)(b:UInt8):z.set i b=putAt z i [b]:=by
 unfold putAt;rw[yH,zm h,zI (l:=[b]) (by rw[qy];omega)];rfl
theorem Kb{k v:Int}(h:NZ (k,v)=true):Qm (k,v)=CE v.toNat (if k=4∨k=5 then 12 else 8):=by
 unfold Qm;rw[zm h]
theorem WS{h:AN}{p q:List UInt8}{b:Bool}(K:D5 h.Name=some (p,q,b))(J:JS h.Name (p,q,b))(D:NW h b=0)(hk:0≤h.Kind∧h.Kind≤255):
  En h=GI (MX h p q (List.replicate 8 0)).flatten∧Shape (MX h p q (List.replicate 8 0)):=by
 have hff:=D;unfold NW at D;split at D
 ·cases D
 split at D
 rotate_left
 ·cases D
 split at D
 rotate_left
 ·cases D
 rename_i hnu O G;unfold Rq at O;simp only[zh,zD]at O;obtain⟨rfl,t1,t2,t3⟩:=O;obtain⟨l1,l2⟩:=J.len;have hsh:Shape (MX h p q (List.replicate 8 0)):=Ol l1 l2 (by simp) ⟨t1,t2,t3⟩;refine⟨?_,hsh⟩;unfold En;rw[V2 K J,hff,za,show((0:Int) !=0)=false from rfl,AK,show aX 1 (512:Int)=true from rfl,Ak,Pb K,za];dsimp only;rw[U8];have S0:=Tv;obtain⟨e1,S1⟩:=S0.put (i:=0) (by omega) (s:=q) l2;obtain⟨e2,S2⟩:=S1.put (i:=14) (by omega) (s:=p) l1;obtain⟨e3,S3⟩:=S2.put (i:=8) (by omega) (s:=h.Ah) t1;obtain⟨e4,S4⟩:=S3.put (i:=10) (by omega) (s:=h.AZ) t2;obtain⟨e5,S5⟩:=S4.put (i:=11) (by omega) (s:=h.Ad) t3
 rw[Ew (GB (a:=(0,q)) (.inl rfl) S0.flat),show putAt O9.flatten (W5 0) q=_ from e1,
  Ew (GB (a:=(11,p)) (.inr (.inl rfl)) S1.flat),show putAt _ (W5 11) p=_ from e2,
  Ew (GB (a:=(6,h.Ah)) (.inr (.inr (.inl rfl))) S2.flat),show putAt _ (W5 6) h.Ah=_ from e3,
  Ew (GB (a:=(7,h.AZ)) (.inr (.inr (.inr (.inl rfl)))) S3.flat),show putAt _ (W5 7) h.AZ=_ from e4,
  Ew (GB (a:=(8,h.Ad)) (.inr (.inr (.inr (.inr rfl)))) S4.flat),show putAt _ (W5 8) h.Ad=_ from e5]
 rw[Bv,za];dsimp only;rw[show CN h=some (Sn h) from rfl,za];unfold Sn at G⊢;simp only[zR,qv,qN,zh]at G;obtain⟨n1,n2,n3,n4,n5,n6,n7⟩:=G;have ol8:∀v:Nat,(CE v 8).length≤8:=fun v=>by rw[Dc (by omega)];exact zC _
 have ol12:∀v:Nat,(CE v 12).length≤12:=fun v=>by rw[Dc (by omega)];exact zC _
 obtain⟨f1,T1⟩:=S5.put (i:=1) (by omega) (s:=CE h.Mode.toNat 8) (ol8 _);obtain⟨f2,T2⟩:=T1.put (i:=2) (by omega) (s:=CE h.BO.toNat 8) (ol8 _);obtain⟨f3,T3⟩:=T2.put (i:=3) (by omega) (s:=CE h.BW.toNat 8) (ol8 _);obtain⟨f4,T4⟩:=T3.put (i:=4) (by omega) (s:=CE h.B2.toNat 12) (ol12 _);obtain⟨f5,T5⟩:=T4.put (i:=5) (by omega) (s:=CE h.Time.toNat 12) (ol12 _);obtain⟨f6,T6⟩:=T5.put (i:=12) (by omega) (s:=CE h.Aj.toNat 8) (ol8 _);obtain⟨f7,T7⟩:=T6.put (i:=13) (by omega) (s:=CE h.Ao.toNat 8) (ol8 _)
 rw[Ew (FN (a:=(1,h.Mode)) (.inl rfl) S5.flat),Kb n1,show putAt _ (X7 1) (CE h.Mode.toNat (if(1:Int)=4∨(1:Int)=5 then 12 else 8))=_ from f1,
  Ew (FN (a:=(2,h.BO)) (.inr (.inl rfl)) T1.flat),Kb n2,show putAt _ (X7 2) (CE h.BO.toNat (if(2:Int)=4∨(2:Int)=5 then 12 else 8))=_ from f2,
  Ew (FN (a:=(3,h.BW)) (.inr (.inr (.inl rfl))) T2.flat),Kb n3,show putAt _ (X7 3) (CE h.BW.toNat (if(3:Int)=4∨(3:Int)=5 then 12 else 8))=_ from f3,
  Ew (FN (a:=(4,h.B2)) (.inr (.inr (.inr (.inl rfl)))) T3.flat),Kb n4,show putAt _ (X7 4) (CE h.B2.toNat (if(4:Int)=4∨(4:Int)=5 then 12 else 8))=_ from f4,
  Ew (FN (a:=(5,h.Time)) (.inr (.inr (.inr (.inr (.inl rfl))))) T4.flat),Kb n5,show putAt _ (X7 5) (CE h.Time.toNat (if(5:Int)=4∨(5:Int)=5 then 12 else 8))=_ from f5,
  Ew (FN (a:=(9,h.Aj)) (.inr (.inr (.inr (.inr (.inr (.inl rfl)))))) T5.flat),Kb n6,show putAt _ (X7 9) (CE h.Aj.toNat (if(9:Int)=4∨(9:Int)=5 then 12 else 8))=_ from f6,
  Ew (FN (a:=(10,h.Ao)) (.inr (.inr (.inr (.inr (.inr (.inr rfl)))))) T6.flat),Kb n7,show putAt _ (X7 10) (CE h.Ao.toNat (if(10:Int)=4∨(10:Int)=5 then 12 else 8))=_ from f7]
 rw[Bv,za];dsimp only;have fl:=T7.flat;obtain⟨kn,hkn⟩:=qu hk.1;obtain⟨g1,U1⟩:=T7.put (i:=7) (by omega) (s:=[Kw h.Kind]) (zC 1);obtain⟨g2,U2⟩:=U1.put (i:=9) (by omega) (s:=To) (zC 8);have V:∀z:List UInt8,z.length=512→∃y,G8 z (156:Int)=some y:=fun z hz=>⟨z[156]'(by omega),Rz (i:=156) (List.getElem?_eq_getElem (by omega))⟩;have key:∀z:List UInt8,z.length=512→((G8 z (156:Int)).bind fun x14=>(Z2 h.Kind).bind fun x15=>AX (h.Kind==0) ((G8 (z.set (156:Int).toNat x15) (156:Int)).bind fun x16=>some ((z.set (156:Int).toNat x15).set (156:Int).toNat (48:UInt8))) (some (z.set (156:Int).toNat x15)):Option (List UInt8))=some (putAt z 156 [Kw h.Kind]):=by
  intro z hz;obtain⟨y,Y⟩:=V z hz;rw[Y,za,hkn,Zg (by omega),za,Lm];by_cases H:(kn:Int)=0
  ·obtain⟨y2,hy2⟩:=V (z.set (156:Int).toNat (UInt8.ofNat kn)) (by rw[yp];exact hz);rw[zm H,hy2,za,List.set_set,show(156:Int).toNat=156 from rfl,Vv (by omega)];unfold Kw;rw[zm H]
  ·rw[zk H,show(156:Int).toNat=156 from rfl,Vv (by omega)];unfold Kw;rw[zk H,zN]
 rw[key _ fl,za,show putAt _ 156 [Kw h.Kind]=_ from g1,show(257:Int)=((257:Nat):Int) from rfl,Rc U1.flat (by omega),za];rw[show putAt _ 257 ([117,115,116,97,114,0,48,48]:List UInt8)=_ from g2];have hL:Lt (Lt (Lt (Lt (Lt (Lt (Lt (Lt (Lt (Lt (Lt (Lt (Lt (Lt O9 0 q) 14 p) 8 h.Ah) 10 h.AZ) 11 h.Ad) 1 (CE h.Mode.toNat 8)) 2 (CE h.BO.toNat 8)) 3 (CE h.BW.toNat 8)) 4 (CE h.B2.toNat 12)) 5 (CE h.Time.toNat 12)) 12 (CE h.Aj.toNat 8)) 13 (CE h.Ao.toNat 8)) 7 [Kw h.Kind]) 9 To=MX h p q (List.replicate 8 0):=by
  have p8:∀v:Nat,CE v 8++(List.replicate 8 (0:UInt8)).drop (CE v 8).length=CE v 8:=fun v=>VQ (Dc (by omega));have p12:∀v:Nat,CE v 12++(List.replicate 12 (0:UInt8)).drop (CE v 12).length=CE v 12:=fun v=>VQ (Dc (by omega))
  show[q++(List.replicate 100 0).drop q.length,CE h.Mode.toNat 8++(List.replicate 8 (0:UInt8)).drop (CE h.Mode.toNat 8).length,CE h.BO.toNat 8++(List.replicate 8 (0:UInt8)).drop (CE h.BO.toNat 8).length,CE h.BW.toNat 8++(List.replicate 8 (0:UInt8)).drop (CE h.BW.toNat 8).length,
   CE h.B2.toNat 12++(List.replicate 12 (0:UInt8)).drop (CE h.B2.toNat 12).length,CE h.Time.toNat 12++(List.replicate 12 (0:UInt8)).drop (CE h.Time.toNat 12).length,List.replicate 8 0,[Kw h.Kind]++[],h.Ah++(List.replicate 100 0).drop h.Ah.length,To++[],h.AZ++(List.replicate 32 0).drop h.AZ.length,h.Ad++(List.replicate 32 0).drop h.Ad.length,
   CE h.Aj.toNat 8++(List.replicate 8 (0:UInt8)).drop (CE h.Aj.toNat 8).length,CE h.Ao.toNat 8++(List.replicate 8 (0:UInt8)).drop (CE h.Ao.toNat 8).length,p++(List.replicate 155 0).drop p.length,List.replicate 12 0]=_
  rw[p8,p8,p8,p8,p8,p12,p12];rfl
 rw[hL];cases GI (MX h p q (List.replicate 8 0)).flatten<;>rfl
def KS(s:List UInt8):Nat:=(s.map UInt8.toNat).sum
theorem HF:∀s:List UInt8,KS s≤255*s.length
 |[]=>by simp[KS]
 |b::s=>by
  have:=HF s;have:=b.toNat_lt;simp only[KS,zU,List.sum_cons,zt]at *;omega
theorem W9(a b:List UInt8):KS (a++b)=KS a+KS b:=by simp[KS]
theorem L9{s:List UInt8}{i:Nat}(h:i<s.length):KS (s.take (i+1))=KS (s.take i)+s[i].toNat:=by
 rw[Da (List.getElem?_eq_getElem h),W9];simp[KS]
def LL(A Z:List UInt8):Nat:=KS A+256+KS Z
def JX(A Z:List UInt8)(i:Nat):Nat:=if i≤148 then KS (A.take i)else if i≤156 then KS A+32*(i - 148)else KS A+256+KS (Z.take (i - 156))
theorem Zr{A m Z:List UInt8}(X:A.length=148)(hm:m.length=8)(hZ:Z.length=356):W (ID (A++(m++Z))) fun r=>r.w0=(LL A Z:Int):=by
 unfold ID;have P:(A++(m++Z)).length=512:=by simp only[ze];omega
 refine W.bind (W.list (l:=A++(m++Z)) (fun(s:Int×Int) (i:Nat)=>(s.1,s.2,(i:Int))) (fun s i=>s.1=(JX A Z i:Int)) ?_ ?_ ((0:Int),(0:Int)) (by simp[JX,KS]))
 ·intro s I;rw[P]at I⊢;unfold HM;dsimp only;rw[Fc,zk (by omega)];refine W.ret (W.ret ?_);rw[I];unfold JX LL;rw[zk (by omega),zk (by omega),zI (by omega)]
 ·intro s i hi I;rw[P]at hi;have M:i<(A++(m++Z)).length:=by omega
  unfold HM;dsimp only;rw[Fc,zm (by omega),GL M,za];have hbd:=HF A;have hbz:=HF Z;have hbyte:=((A++(m++Z))[i]).toNat_lt;have hps:JX A Z i≤200000:=by
   unfold JX;split
   ·have:=HF (A.take i);rw[zA]at this;omega
   ·split
    ·omega
    ·have:=HF (Z.take (i - 156));rw[zA]at this;omega
  by_cases hr:148≤i∧i<156
  ·rw[show(decide ((i:Int)≥148)&&decide ((i:Int)<156))=true from by rw[zh,zD,zD];omega,AQ,za];refine W.ret ⟨(i64.wrap (s.1+i64.wrap 32),i64.wrap (s.2+(i64.wrap (i8.wrap 32)))),by rw[DP (by omega)],?_⟩;dsimp only;rw[I,DK (x:=32) (by omega) (by omega),DK (by omega) (by omega)];have e:JX A Z (i+1)=JX A Z i+32:=by
    unfold JX;by_cases H:i=148
    ·subst H;rw[zk (by omega),zm (by omega),zm (by omega),zI (by omega)]
    ·rw[zk (by omega),zm (by omega),zk (by omega),zm (by omega)];omega
   rw[e];omega
  ·rw [show(decide ((i:Int)≥148)&&decide ((i:Int)<156))=false from by rw[yb,zx,zx];omega,AK,za];refine W.ret ⟨(i64.wrap (s.1+i64.wrap ((A++(m++Z))[i].toNat:Int)),_),by rw[DP (by omega)],?_⟩;dsimp only;rw[I,DK (x:=(((A++(m++Z))[i].toNat:Nat):Int)) (by omega) (by omega),DK (by omega) (by omega)];have e:JX A Z (i+1)=JX A Z i+(A++(m++Z))[i].toNat:=by
    unfold JX;by_cases H:i<148
    ·rw[zm (by omega),zm (by omega),L9 (by omega),xG (by omega)]
    ·have F:i≥156:=by omega
     have e2:(A++(m++Z))[i]=Z[i - 156]'(by omega):=by
      rw[qq (by omega),qq (by omega)];congr 1;omega
     rw[e2,zk (by omega),zk (by omega),zk (by omega),show i+1 - 156=(i - 156)+1 by omega,L9 (by omega)];by_cases h4:i=156
     ·subst h4;rw[zm (by omega)];simp[KS]
     ·rw[zk (by omega)];omega
   rw[e];omega
theorem Tp{A Z:List UInt8}(X:A.length=148)(hZ:Z.length=356):LL A Z<262144:=by
 have:=HF A;have:=HF Z;unfold LL;omega
theorem ZS{A m Z:List UInt8}(X:A.length=148)(hm:m.length=8)(hZ:Z.length=356):GI (A++(m++Z))=some (A++((CE (LL A Z) 7++[32])++Z),0):=by
 have P:(A++(m++Z)).length=512:=by simp only[ze];omega
 have I:=Tp X hZ;obtain⟨⟨r0,r1⟩,er,hr⟩:=Zr X hm hZ;dsimp only at hr;subst hr;have T:(CE (LL A Z) 7).length=7:=Dc (by omega);unfold GI;rw[P,show(((512:Nat):Int) !=512)=false from rfl,AK,er,za];dsimp only;rw[show G8 ([(LL A Z:Int),r1]:List Int) (0:Int)=some (LL A Z:Int) from rfl,za,show(7:Int)=((6+1:Nat):Int) from rfl,LB _ (by omega) (by omega)];rw[zm ⟨by omega,by rw[show(8:Int)^6=262144 from rfl];omega⟩,za];dsimp only;rw[show(148:Int)=((148:Nat):Int) from rfl,Ie (by omega),za,show(156:Int)=((156:Nat):Int) from rfl,NR (by omega),List.take_left' X,za];have hd:(A++(m++Z)).drop 156=Z:=by rw[←zw];exact List.drop_left' (by rw[ze];omega)
 rw[hd,zN,show(6+1:Nat)=7 from rfl];rw[zf (by rw[T];omega),Ak,zf (by rw[ze,T];simp;omega),Ak,zf (by simp only[ze,T];simp;omega),Ak];simp only[zw]
end Go.Av.L
end
