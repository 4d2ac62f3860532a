/-
  Several texts in one.
-/
import Derived.Test.YtlddjbgohnlihaaGreatDoorWaH
/-
 A part.
-/
section
namespace Go.Av.L
open IntKind (i64)
open Go.Av Go.Lib
set_option linter.unusedVariables false
set_option linter.unusedSimpArgs false
set_option maxRecDepth 10000
theorem Ub(s:List UInt8)(B:s.length≤100000):loop (C2 s) (0:Int)=some (if s.all (·==0)=true then .inl ()else .inr false):=by
 refine W.eq (W.mono (W.list (l:=s) (fun(_:Unit) (i:Nat)=>(i:Int)) (fun _ i=>(s.take i).all (·==0)=true) ?_ ?_ () (by simp)) fun r V=>V)
 ·intro _ h;rw[z8]at h;unfold C2;dsimp only;rw[zi (by omega),AK,zm h];exact W.ret rfl
 ·intro _ i hi h;unfold C2;dsimp only;have E:((s[i].toNat:Int) !=0)= !(s[i]==0):=by
   show(!((s[i].toNat:Int)==((0:Nat):Int)))=_;rw[Hq (by omega)];rfl
  rw[zf (by omega),AQ,GL hi,za,E,DP (by omega)];cases hz:s[i]==0 with
  |true=>
   rw[zY,AK];refine W.ret ⟨(),rfl,?_⟩;rw[Da (List.getElem?_eq_getElem hi),qi,h,zR,hz];rfl
  |false=>
   rw[yD,AQ];refine W.ret ?_;dsimp only;rw[zk];intro Z;rw[zn]at Z;have:=Z _ (zS hi);rw[hz]at this;cases this
theorem Vw(s:List UInt8)(B:s.length≤100000):CL s=some (s.all (·==0)):=by
 unfold CL Ez;rw[Ub s B];cases s.all (·==0)<;>rfl
theorem RA{h:AN}{p q:List UInt8}(F:Fit h p q):CL (DV h p q).flatten=some false:=by
 have S:=F.shape;rw[Vw _ (by rw[S.flat];omega)];congr 1;have E:=byte_at S (i:=9) (by omega) (b:=117) (r:=[115,116,97,114,0,48,48]) rfl;rw[←qf,zn];intro Z;have:=Z 117 (zQ E);exact absurd this (by decide)
theorem Ud(k:Nat)(hk:k≤2000):CL (List.replicate k 0)=some true:=by
 rw[Vw _ (by rw[zT];omega)];congr 1;rw[zn];intro c hc;rw[List.eq_of_mem_replicate hc];rfl
theorem Ru{s A b T:List UInt8}(B:s=A++(b++T)):D6 s (some (A.length:Int)) (some ((A.length+b.length:Nat):Int))=some b:=by
 have G:s.length=A.length+(b.length+T.length):=by rw[B,ze,ze]
 rw[Iq (by omega) (by omega),B,xx,ya,yW]
theorem RR{n:Nat}(h:n≤1099511627776):Bo (n:Int)=some (((n+511) / 512:Nat):Int):=by
 unfold Bo;have e1:Int.tmod (n:Int) 512=((n%512:Nat):Int):=rfl;have e2:Int.tdiv (n:Int) 512=((n / 512:Nat):Int):=rfl;rw[e1,e2];by_cases h0:n%512=0
 ·rw[zi (by omega),AK,DK (by omega) (by omega),za];congr 2;omega
 ·rw[zf (by omega),AQ,DK (x:=((n / 512:Nat):Int)) (by omega) (by omega),DK (by omega) (by omega),za];congr 1;omega
theorem RF(s:List UInt8):(E6 s).length=512*((s.length+511) / 512):=by
 unfold E6;rw[ze,zT];omega
section
variable {s A T:List UInt8} {a:Nat} {L:List Mem}
theorem bu{rs pp pq:List UInt8}{l:List Pr}(F:Fit (HQ rs.length) pp pq)(G:C7 rs=some (l,0))(V:rs.length≤60000)
  (B:s=A++((DV (HQ rs.length) pp pq).flatten++(E6 rs++T))) (I:A.length=512*a) (E:s.length≤1000000000000000):
  BF s 65536 4096 (L,[],[],[],false,false,false,[],false,(a:Int))=some (.inl (L,l,[],[],true,false,false,[],false,((a+1+(E6 rs).length / 512:Nat):Int))):=by
 have S5:=F.shape.flat;have P1:=G9 rs;have P2:=RF rs;have hlen:s.length=A.length+(512+((E6 rs).length+T.length)):=by rw[B,ze,ze,ze,S5]
 have g1:D6 s (some (A.length:Int)) (some ((A.length+512:Nat):Int))=some (DV (HQ rs.length) pp pq).flatten:=by
  have:=Ru B;rwa [S5]at this
 have g2:D6 s (some ((A.length+512:Nat):Int)) (some ((A.length+512+rs.length:Nat):Int))=some rs:=by
  have:s=(A++(DV (HQ rs.length) pp pq).flatten)++(rs++(List.replicate ((512 - rs.length%512)%512) 0++T)):=by
   rw[B,zw];congr 2;unfold E6;rw[zw]
  have:=Ru this;rwa [ze,S5]at this
 have o1:i64.wrap ((512:Int)*(a:Int))=(A.length:Int):=by rw[DK (by omega) (by omega)];omega
 have o2:i64.wrap ((A.length:Int)+512)=((A.length+512:Nat):Int):=by rw[DK (by omega) (by omega)];omega
 have o3:i64.wrap ((s.length:Int) - (A.length:Int))=((512+((E6 rs).length+T.length):Nat):Int):=by rw[DK (by omega) (by omega)];omega
 have o4:i64.wrap ((s.length:Int) - ((A.length+512:Nat):Int))=(((E6 rs).length+T.length:Nat):Int):=by rw[DK (by omega) (by omega)];omega
 have o5:i64.wrap (((A.length+512:Nat):Int)+((rs.length:Nat):Int))=((A.length+512+rs.length:Nat):Int):=by rw[DK (by omega) (by omega)];omega
 have N:=QH F (by simp[HQ]);rw[show ae (HQ rs.length)=⟨([80,97,120,72,101,97,100,101,114,115]:List UInt8),([]:List UInt8),(120:Int),(420:Int),(0:Int),(0:Int),(rs.length:Int),(0:Int),([]:List UInt8),([]:List UInt8),(0:Int),(0:Int),(2:Int)⟩ from rfl]at N;unfold BF;dsimp only;rw[o1,o2,o3,o4,zi (by omega),AK,g1,za,RA F,za,AK,AK,N,za];dsimp only;rw[show((0:Int) !=0)=false from rfl,AK,show((((120:Int)==120||(120:Int)==103)||(120:Int)==76)||(120:Int)==75)=true from rfl,zY,yX,AK,show((120:Int)==103)=false from rfl,AK,za,show((((false||((120:Int)==120&&false))||((120:Int)==76&&false))||((120:Int)==75&&false)))=false from rfl,AK];rw[zi (show ¬((rs.length:Nat):Int)>65536 by omega),qI,yJ,show((120:Int)==76||(120:Int)==75)=false from rfl,yX,AK,AK,za];dsimp only;rw[zi (show ¬(((E6 rs).length+T.length:Nat):Int)<((rs.length:Nat):Int) by omega),AK,o5,g2,za,AQ];unfold EV;dsimp only;rw[show((120:Int)==76)=false from rfl,AK,show((120:Int)==75)=false from rfl,AK,G,za];dsimp only;rw[show((0:Int) !=0)=false from rfl,AK,show((120:Int)==120)=true from rfl,AQ,za];dsimp only;rw[show((0:Int) !=0)=false from rfl,AK,za];dsimp only;rw[RR (by omega),za,DK (x:=(512:Int)*_) (by omega) (by omega),zi (by omega),AK,za,DK (x:=(1:Int)+_) (by omega) (by omega),DK (by omega) (by omega),show(E6 rs).length / 512=(rs.length+511) / 512 by omega,show(a:Int)+((1:Int)+(((rs.length+511) / 512:Nat):Int))=((a+1+(rs.length+511) / 512:Nat):Int) by omega]
theorem Yk{m m':Mem}{h:AN}{p q data:List UInt8}{loc:List Pr}{G:Bool}{n:Nat}(F:Fit h p q)(O:h.Name.length≤1000000)(hk:48≤h.Kind∧h.Kind≤55)
  (hm:Cj (ae h) ⟨loc,[],[],G,false,false⟩ [] 4096=some (m,(n:Int),0)) (hd:data.length=n) (Y:L.length≤100) (hn2:n≤1099511627776)
  (M:m'=⟨m.Name,m.Ah,m.Kind,m.Mode,m.BO,m.BW,m.AZ,m.Ad,m.Aj,m.Ao,m.Time,m.Extra,data⟩)
  (B:s=A++((DV h p q).flatten++(E6 data++T))) (I:A.length=512*a) (E:s.length≤1000000000000000):
  BF s 65536 4096 (L,loc,[],[],G,false,false,[],false,(a:Int))=some (.inl (L++[m'],[],[],[],false,false,false,[],false,((a+1+(E6 data).length / 512:Nat):Int))):=by
 have S5:=F.shape.flat;have P1:=G9 data;have P2:=RF data;have hlen:s.length=A.length+(512+((E6 data).length+T.length)):=by rw[B,ze,ze,ze,S5]
 have g1:D6 s (some (A.length:Int)) (some ((A.length+512:Nat):Int))=some (DV h p q).flatten:=by
  have:=Ru B;rwa [S5]at this
 have g2:D6 s (some ((A.length+512:Nat):Int)) (some ((A.length+512+n:Nat):Int))=some data:=by
  have:s=(A++(DV h p q).flatten)++(data++(List.replicate ((512 - data.length%512)%512) 0++T)):=by
   rw[B,zw];congr 2;unfold E6;rw[zw]
  have:=Ru this;rwa [ze,S5,hd]at this
 have o1:i64.wrap ((512:Int)*(a:Int))=(A.length:Int):=by rw[DK (by omega) (by omega)];omega
 have o2:i64.wrap ((A.length:Int)+512)=((A.length+512:Nat):Int):=by rw[DK (by omega) (by omega)];omega
 have o3:i64.wrap ((s.length:Int) - (A.length:Int))=((512+((E6 data).length+T.length):Nat):Int):=by rw[DK (by omega) (by omega)];omega
 have o4:i64.wrap ((s.length:Int) - ((A.length+512:Nat):Int))=(((E6 data).length+T.length:Nat):Int):=by rw[DK (by omega) (by omega)];omega
 have o5:i64.wrap (((A.length+512:Nat):Int)+(n:Int))=((A.length+512+n:Nat):Int):=by rw[DK (by omega) (by omega)];omega
 have N:=QH F O;have hK:(ae h).Kind=h.Kind:=by show(if h.Kind=0 then 48 else h.Kind)=h.Kind;rw[zk (by omega)]
 have e120:(h.Kind==120)=false:=by rw[zL];omega
 have e103:(h.Kind==103)=false:=by rw[zL];omega
 have e76:(h.Kind==76)=false:=by rw[zL];omega
 have e75:(h.Kind==75)=false:=by rw[zL];omega
 unfold BF;dsimp only;rw[o1,o2,o3,o4,zi (by omega),AK,g1,za,RA F,za,AK,AK,N,za];dsimp only;rw[hK,e120,e103,e76,e75,show((0:Int) !=0)=false from rfl,AK,zi (show ¬h.Kind<48 by omega),zi (show ¬h.Kind>55 by omega)];simp only[yK,yJ,yD,qI,yX,AK,AQ,za];rw[hm];simp only[za];rw[show((0:Int) !=0)=false from rfl,AK];simp only[za];rw[zi (show ¬(((E6 data).length+T.length:Nat):Int)<(n:Int) by omega),AK,o5,g2,za];rw[show MY 168 (L.length+([(⟨m.Name,m.Ah,m.Kind,m.Mode,m.BO,m.BW,m.AZ,m.Ad,m.Aj,m.Ao,(⟨m.Time.Bu,m.Time.BG⟩:Ap),m.Extra,data⟩:AJ)]:List AJ).length)=true from GZ (by simp;omega) (by simp;omega),Ak,za];simp only[];rw[RR hn2,za,DK (x:=(512:Int)*_) (by omega) (by omega),zi (by omega),AK,za,DK (x:=(1:Int)+_) (by omega) (by omega),DK (by omega) (by omega),M,show(E6 data).length / 512=(n+511) / 512 by omega,show(a:Int)+((1:Int)+(((n+511) / 512:Nat):Int))=((a+1+(n+511) / 512:Nat):Int) by omega]
theorem bP(B:s=A++List.replicate 1024 0)(I:A.length=512*a)(E:s.length≤1000000000000000):
  loop (BF s 65536 4096) (L,[],[],[],false,false,false,[],false,(a:Int))=some (L,true):=by
 have hlen:s.length=A.length+1024:=by rw[B,ze,zT]
 have st:∀(b:Nat) (w:Bool),b=a∨b=a+1→BF s 65536 4096 (L,[],[],[],false,false,false,[],w,(b:Int))=AX w (some (.inr (L,true))) (some (.inl (L,[],[],[],false,false,false,[],true,((b+1:Nat):Int)))):=by
  intro b w hb2;have o1:i64.wrap ((512:Int)*(b:Int))=((512*b:Nat):Int):=by rw[DK (by omega) (by omega)];omega
  have o2:i64.wrap (((512*b:Nat):Int)+512)=((512*b+512:Nat):Int):=by rw[DK (by omega) (by omega)];omega
  have o3:i64.wrap ((s.length:Int) - ((512*b:Nat):Int))=((s.length - 512*b:Nat):Int):=by rw[DK (by omega) (by omega)];omega
  have g1:D6 s (some ((512*b:Nat):Int)) (some ((512*b+512:Nat):Int))=some (List.replicate 512 0):=by
   rw[Iq (by omega) (by omega),B];congr 1;rcases hb2 with rfl|rfl
   ·rw[←I,xx,ya];rfl
   ·rw[show 512*(a+1)=A.length+512 by omega,yi,ya];rfl
  unfold BF;dsimp only;rw[o1,o2,o3,zi (by omega),AK,g1,za,Ud _ (by omega),za,AQ,show ES (⟨[],[],[],false,false,false⟩:BM)=some false from rfl,za,AK,DP (by omega)]
 rw[B7 (st a false (.inl rfl)),Dn (st (a+1) true (.inr rfl))]
end
end Go.Av.L
end
/-
 A part.
-/
section
namespace Go.Av.L
open IntKind (i64)
open Go.Av Go.Lib
set_option linter.unusedVariables false
set_option linter.unusedSimpArgs false
set_option maxRecDepth 10000
def md(m:Mem):Mem:=⟨m.Name,m.Ah,m.Kind,m.Mode,m.BO,m.BW,m.AZ,m.Ad,m.Aj,m.Ao,m.Time,m.Extra,[]⟩
theorem VP{m:Mem}{n:Int}{ts:IH}(sh:PV m)(V:Gu m=0)(hk:48≤m.Kind∧m.Kind≤55)(sz:n=0∨m.Kind=48∨m.Kind=55)(O:0≤n∧n≤1099511627776)
  (t1:Bp m.Time.Bu m.Time.BG=some ts) (t2:BJ ts=some (m.Time.Bu,m.Time.BG,0)) (t3:1≤ts.length∧ts.length≤60) (G:Bool):
  Cj (ae (hB m n)) ⟨lW m n ts,[],[],G,false,false⟩ [] 4096=some (md m,n,0):=by
 have R:=KK V;have b1:=sh.x;have b3:=sh.n;have b4:=sh.l;have b5:=sh.u;have b6:=sh.g;have hlw:=ax m n ts;obtain⟨c1,c2⟩:=Nn (n:=n) (ts:=ts) R sh O t3.2;have hmer:=UQ (l:=lW m n ts) (by omega) (SJ R n ts) (bK R ⟨O.1,by omega⟩ t3.1);have hok:=dX (n:=n) R ⟨O.1,by omega⟩ t2 fun p N=>by
  have:=(c2 p N).b;unfold bare at this;omega
 have Q:=Wr (h:=ae (hB m n)) (l:=lW m n ts) (by omega) hok;have hk':(ae (hB m n)).Kind=m.Kind:=by
  show(if m.Kind=0 then(48:Int)else m.Kind)=m.Kind;rw[zk (by omega)]
 have hback:=ZY (kd:=m.Kind) R ⟨O.1,by omega⟩ t2;have hh:ae (hB m n)=⟨(hB m n).Name,(hB m n).Ah,m.Kind,(hB m n).Mode,(hB m n).BO,(hB m n).BW,(hB m n).B2,(hB m n).Time,(hB m n).AZ,(hB m n).Ad,(hB m n).Aj,(hB m n).Ao,2⟩:=by
  rw[←hk'];rfl
 rw[hh]at Q⊢;rw[hback]at Q;have sh':PV (md m):=⟨sh.x,sh.e,sh.n,sh.l,sh.u,sh.g⟩;have U:Gu (md m)=0:=V;have C:=Wh (md m) (show m.Extra.length≤1000000 by omega) (fun p N=>by have:=sh.e p N;omega) ⟨show m.Name.length≤1000000 by omega,show m.Ah.length≤1000000 by omega,show m.AZ.length≤1000000 by omega,show m.Ad.length≤1000000 by omega⟩;rw[U]at C;have R':=KK U;have D:=X9 (m:=md m) (n:=n) (ts:=ts) R' (show m.Name.length≤1000000 by omega) (show m.Extra.length≤12 by omega) ⟨O.1,by omega⟩ t1;obtain⟨d1,d2⟩:=Nn (n:=n) (ts:=ts) R' sh' O t3.2;have hprint:=We d1 d2;unfold Cj;dsimp only;rw[AK,za,AK,za,hmer,za,Q,za];dsimp only;rw[show((0:Int) !=0)=false from rfl,AK,show((2:Int)==1)=false from rfl,yX,yX,AK,za,AK,za];replace C:CD (⟨m.Name,m.Ah,m.Kind,m.Mode,m.BO,m.BW,m.AZ,m.Ad,m.Aj,m.Ao,m.Time,m.Extra,[]⟩:Mem)=some 0:=C;replace D:Db (⟨m.Name,m.Ah,m.Kind,m.Mode,m.BO,m.BW,m.AZ,m.Ad,m.Aj,m.Ao,m.Time,m.Extra,[]⟩:Mem) n=some (hB (md m) n,lW (md m) n ts):=D;rw[C,za,show((0:Int) !=0)=false from rfl,AK];have hc:(decide (n>1099511627776)||(((n !=0)&&(m.Kind !=48))&&(m.Kind !=55)))=false:=by
  rw[zH,zx];refine⟨by omega,?_⟩;rcases sz with h|h|h
  ·rw[show(n !=0)=false from by rw[h];rfl];rfl
  ·rw[show(m.Kind !=48)=false from by rw[h];rfl,qI];rfl
  ·rw[show(m.Kind !=55)=false from by rw[h];rfl,qI]
 rw[hc,AK,zi (show ¬((m.Name.length:Nat):Int)>4096 by omega),zi (show ¬((m.Ah.length:Nat):Int)>4096 by omega),yK,AK,D,za];dsimp only;rw[hprint,za];dsimp only;rw[show((0:Int) !=0)=false from rfl,AK];rfl
theorem XR{l:List Pr}(h:B4 l=[]):l=[]:=by
 cases l with
 |nil=>rfl
 |cons p l=>
  exfalso;have:=congrArg List.length h;unfold B4 at this;rw[zU,yr,ze]at this;unfold Fq at this;simp only[ze,zt,zG]at this;omega
def Fu(es:List (Mem×List UInt8)):List UInt8:=(es.map fun e=>e.2++E6 e.1.Data).flatten
structure Z3(e:Mem×List UInt8):Prop where
 hd:Hd e.1 (e.1.Data.length:Int) e.2
theorem Z3.len{e:Mem×List UInt8}(h:Z3 e):e.2.length≤100000∧e.1.Data.length≤1099511627776∧e.2.length%512=0:=by
 have n:=h.hd.nn;refine⟨h.hd.len,by omega,?_⟩;obtain⟨ts,p,q,t1,t2,t3,F,h2⟩:=h.hd.ex;have hpl:=G9 (B4 (lW e.1 (e.1.Data.length:Int) ts));rcases h2 with⟨_,e1⟩|⟨pp,pq,_,PF,e1⟩
 ·rw[e1,F.shape.flat]
 ·rw[e1,ze,ze,F.shape.flat,PF.shape.flat];omega
theorem Kr:∀{es:List (Mem×List UInt8)},(∀e∈es,Z3 e)→(Fu es).length≤1099511828288*es.length
 |[],_=>by simp[Fu]
 |e::es,h=>by
  have h1:=(h e (by simp)).len;have h2:=Kr (es:=es) fun x hx=>h x (by simp[hx]);have h3:=G9 e.1.Data;have:Fu (e::es)=(e.2++E6 e.1.Data)++Fu es:=rfl;rw[this,ze,ze,zt];omega
theorem Y1{s A T:List UInt8}{a:Nat}{L:List Mem}{e:Mem×List UInt8}(h:Z3 e)(B:s=A++((e.2++E6 e.1.Data)++T))(I:A.length=512*a)(E:s.length≤1000000000000000)(Y:L.length≤100):
  loop (BF s 65536 4096) (L,[],[],[],false,false,false,[],false,(a:Int))=loop (BF s 65536 4096) (L++[e.1],[],[],[],false,false,false,[],false,((a+(e.2++E6 e.1.Data).length / 512:Nat):Int)):=by
 obtain⟨m,hd⟩:=e;have H:=h.hd;have G:=h.len;dsimp only at H G B⊢;have R:=KK H.r;have P1:=G9 m.Data;obtain⟨ts,p,q,t1,t2,t3,F,h2⟩:=H.ex;obtain⟨c1,c2⟩:=Nn (n:=(m.Data.length:Int)) (ts:=ts) R H.sh H.nn t3.2;have hrl:=GN c2;have b3:=H.sh.n;have X:(hB m (m.Data.length:Int)).Name.length≤1000000:=by
  show(if c5 m then m.Name else[]).length≤_;split
  ·omega
  ·simp
 have M:m=⟨(md m).Name,(md m).Ah,(md m).Kind,(md m).Mode,(md m).BO,(md m).BW,(md m).AZ,(md m).Ad,(md m).Aj,(md m).Ao,(md m).Time,(md m).Extra,m.Data⟩:=rfl;have K:=fun G=>VP H.sh H.r H.k H.sz H.nn t1 t2 t3 G;rcases h2 with⟨h0,e⟩|⟨pp,pq,h0,PF,e⟩
 ·rw[e,zw]at B;rw[XR h0]at K;rw[B7 (Yk F X H.k (K false) rfl Y (by omega) M B I E)];congr 9;rw[e,ze,F.shape.flat];congr 1;omega
 ·have J:s=A++((DV (HQ (B4 (lW m (m.Data.length:Int) ts)).length) pp pq).flatten++(E6 (B4 (lW m (m.Data.length:Int) ts))++((DV (hB m (m.Data.length:Int)) p q).flatten++(E6 m.Data++T)))):=by
   rw[B,e];simp only[zw]
  have PS:=PF.shape.flat;have P2:=G9 (B4 (lW m (m.Data.length:Int) ts));rw[B7 (bu PF (W8 c1 c2) (by omega) J I E)];have P:s=(A++((DV (HQ (B4 (lW m (m.Data.length:Int) ts)).length) pp pq).flatten++E6 (B4 (lW m (m.Data.length:Int) ts))))++((DV (hB m (m.Data.length:Int)) p q).flatten++(E6 m.Data++T)):=by
   rw[J];simp only[zw]
  rw[B7 (Yk (a:=a+1+(E6 (B4 (lW m (m.Data.length:Int) ts))).length / 512) F X H.k (K true) rfl Y (by omega) M P (by rw[ze,ze,PS,I];omega) E)];congr 9;rw[e,ze,ze,ze,F.shape.flat,PS];congr 1;omega
theorem X0{s:List UInt8}(E:s.length≤1000000000000000):∀(es:List (Mem×List UInt8)) (L:List Mem) (A:List UInt8) (a:Nat),(∀e∈es,Z3 e)→s=A++(Fu es++List.replicate 1024 0)→A.length=512*a→L.length+es.length≤100→
  loop (BF s 65536 4096) (L,[],[],[],false,false,false,[],false,(a:Int))=some (L++es.map Prod.fst,true)
 |[],L,A,a,_,B,I,_=>by
  rw[bP B I E,xg,yj]
 | e::es,L,A,a,h,B,I,Y=>by
  rw[zt]at Y;have he:=h e (by simp);have P1:=G9 e.1.Data;have G:=he.len;have J:s=A++((e.2++E6 e.1.Data)++(Fu es++List.replicate 1024 0)):=by
   rw[B];show A++(((e.2++E6 e.1.Data)++Fu es)++_)=_;rw[zw (e.2++E6 e.1.Data)]
  have P:s=(A++(e.2++E6 e.1.Data))++(Fu es++List.replicate 1024 0):=by rw[J,zw A]
  rw[Y1 he J I E (by omega),X0 E es (L++[e.1]) _ _ (fun x hx=>h x (by simp[hx])) P (by rw[ze,I,ze];omega) (by rw[ze,qy];omega),zU,zw];rfl
theorem Y2{es:List (Mem×List UInt8)}(h:∀e∈es,Z3 e)(G:es.length≤10):
  EN (Fu es++List.replicate 1024 0) 65536 4096=some ⟨es.map Prod.fst,false,0,0,true,⟨[],[],0,0,0,0,[],[],0,0,⟨0,0⟩,[],[]⟩⟩:=by
 have E:=Kr h;unfold EN;have:=X0 (s:=Fu es++List.replicate 1024 0) (by rw[ze,zT];omega) es [] [] 0 h rfl rfl (by simp;omega);rw[show((0:Nat):Int)=0 from rfl]at this;rw[this,za];rfl
end Go.Av.L
end
