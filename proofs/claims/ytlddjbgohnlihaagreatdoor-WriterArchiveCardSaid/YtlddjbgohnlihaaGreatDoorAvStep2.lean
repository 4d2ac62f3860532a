/-
 A part.
-/
import Derived.Test.YtlddjbgohnlihaaGreatDoorAvLift
set_option linter.unusedSimpArgs false
namespace Go.Av
section
variable {C:Gp} {S:Self} {g:Gd} {h h1:AI} {fr:Fr} {op:Op}
theorem IV(hc:A4 C.P op≠3):BC C S g h fr op=IJ C.P C.Cx g h fr op:=Hg hc
theorem fE{v:AB}(B:cc C.P fr op=some v):BC C S g h fr op=some (v,h):=by
 unfold cc at B;split at B
 ·rename_i hc;rw[IV (by rw[hc];simp)];simp[IJ,hc,B]
 ·cases B
theorem fF{v:AB}{ob:B0}(B:cz C.P fr op h.size=some (v,ob)):BC C S g h fr op=some (v,h.push ob):=by
 unfold cz at B;split at B
 ·rename_i hc;rw[IV (by rw[hc];simp)];simp only[zl,zg]at B;obtain⟨x,h1,rfl,rfl⟩:=B;simp[IJ,hc,h1]
 ·cases B
theorem Zm{a:Nat×Nat}{v:AB}(D:ld1 h a=some v):Cf (h.get a.1) a.2 1=some [v]∧∃ob,h.get a.1=some ob:=by
 unfold ld1 at D;split at D
 ·rename_i u hu;injection D with D;subst D;refine⟨hu,?_⟩;cases G:h.get a.1 with
  |none=>rw[G]at hu;simp[Cf]at hu
  |some ob=>exact⟨ob,rfl⟩
 ·cases D
theorem I7{a:Nat×Nat}{v:AB}(B:Ns C.P fr op=some (a,none))(D:ld1 h a=some v):BC C S g h fr op=some (v,h):=by
 unfold Ns at B;split at B
 ·rename_i t x;obtain⟨h1,ob,h2⟩:=Zm D;rw[h2]at h1;split at B
  ·simp only[zl,zg]at B;obtain⟨_,_,_,hc⟩:=B;cases hc
  ·rename_i he V;simp only[zd,zg,and_true]at B;subst B;simp[BC,IJ,A4,Dg,he,E4,h2,Kx,Ha,V,h1]
  ·cases B
 ·cases B
theorem Ay{a:Nat×Nat}{n:Nat}{cs:List AB}(B:Ns C.P fr op=some (a,some n))(D:DY h a n=some cs):BC C S g h fr op=some (.agg cs,h):=by
 unfold Ns at B;split at B
 ·rename_i t x;unfold DY at D;cases G:h.get a.1 with
  |none=>rw[G]at D;simp[Cf]at D
  | some ob=>
   rw[G]at D;split at B
   ·rename_i he V;simp only[zl,zg,zd]at B;obtain⟨m,h1,rfl,rfl⟩:=B;simp[BC,IJ,A4,Dg,he,E4,G,Kx,Ha,V,h1,D]
   ·simp at B
   ·cases B
 ·cases B
theorem dA{a:Nat×Nat}{v:AB}(B:Jj C.P fr op=some (a,1,v))(hc:v.cells?=some [v])(D:st g h a [v]=some h1):BC C S g h fr op=some (.tuple [],h1):=by
 unfold Jj at B;split at B
 ·split at B
  ·rename_i he;simp only[zl,zg]at B;obtain⟨n,h2,rfl,rfl,U⟩:=B;unfold st at D;simp[BC,IJ,A4,K0,he,Le,U,hc,h2,D]
  ·cases B
 ·cases B
theorem Ts{a:Nat×Nat}{n:Nat}{cs:List AB}(B:Jj C.P fr op=some (a,n,.agg cs))(D:dj n g h a cs=some h1):BC C S g h fr op=some (.tuple [],h1):=by
 unfold Jj at B;split at B
 ·split at B
  ·rename_i he;simp only[zl,zg]at B;obtain⟨m,h2,rfl,rfl,U⟩:=B;unfold dj at D;split at D
   ·rename_i J;simp[BC,IJ,A4,K0,he,Le,U,AB.cells?,h2,J,D]
   ·cases D
  ·cases B
 ·cases B
theorem GV{s:Sl}{b:Nat×Nat}{z:Nat}{i:Int}(B:ai C.P fr op=some (s.r,s.n,z,i))(D:de s z i=some b):BC C S g h fr op=some (.ptr (some b),h):=by
 unfold ai at B;split at B
 ·split at B
  ·rename_i hu E hi;simp only[zl,zg]at B;obtain⟨m,h2,e1,e2,rfl,rfl⟩:=B;unfold de eH at D;rw[←e1,←e2]at D;split at D
   ·split at D
    ·rename_i H;injection D with D;subst D;simp[BC,IJ,A4,It,I1,hu,E,hi,H,h2]
    ·cases D
   ·cases D
  ·cases B
 ·cases B
theorem DN{s:List UInt8}{i n:Int}(B:aq C.P fr op=some (s,i))(D:JQ s i=some n):BC C S g h fr op=some (.int .u8 n,h):=by
 unfold aq at B;split at B
 ·split at B
  ·rename_i hu E hi;simp only[zd,zg]at B;obtain⟨rfl,rfl⟩:=B;unfold JQ at D;split at D
   ·rename_i H;simp only[zl]at D;obtain⟨b,F,rfl⟩:=D;simp[BC,IJ,A4,It,Nv,hu,E,hi,H,F]
   ·cases D
  ·cases B
 ·cases B
theorem Cy{s t:List UInt8}{k k':IntKind}{lo hi:Option Int}(B:XI C.P fr op=some (s,lo.map (.int k ·),hi.map (.int k' ·)))(D:D6 s lo hi=some t):BC C S g h fr op=some (.str t,h):=by
 unfold XI at B;split at B
 ·split at B
  ·rename_i hu E;simp only[zd,zg]at B;obtain⟨rfl,h1,h2⟩:=B;unfold D6 at D;simp only[zl]at D;obtain⟨p,F,rfl⟩:=D;simp[BC,IJ,A4,It,SD,hu,E,h1,h2,JP,F]
  ·cases B
 ·cases B
theorem ZB{a:Nat×Nat}{n z:Nat}{t:Sl}{k k':IntKind}{lo hi:Option Int}(B:Xp C.P fr op=some (a,n,z,lo.map (.int k ·),hi.map (.int k' ·)))(D:ZN h a n z lo hi=some t):BC C S g h fr op=some (.slice t.r t.n,h):=by
 unfold Xp at B;split at B
 ·split at B
  ·rename_i hu E;simp only[zl,zg]at B;obtain⟨m,hm,rfl,rfl,rfl,h1,h2⟩:=B;unfold ZN at D;split at D
   ·rename_i G;simp only[zl]at D;obtain⟨p,F,rfl⟩:=D;simp[BC,IJ,A4,Dg,E4,Kx,Mq,hu,E,h1,h2,JP,F,G,hm]
   ·cases D
  ·cases B
 ·cases B
theorem U7{s t:Sl}{z:Nat}{k k':IntKind}{lo hi:Option Int}(B:XL C.P fr op=some (s.r,s.n,z,lo.map (.int k ·),hi.map (.int k' ·)))(D:Zz C.P h s z lo hi=some t):BC C S g h fr op=some (.slice t.r t.n,h):=by
 unfold XL at B;split at B
 ·split at B
  ·rename_i hu E;simp only[zl,zg]at B;obtain⟨m,hm,e1,e2,rfl,h1,h2⟩:=B;unfold Zz at D;rw[←e1,←e2]at D;split at D
   ·split at D
    ·rename_i J;simp only[zl]at D;obtain⟨p,F,rfl⟩:=D;subst J;simp[BC,IJ,A4,Dg,E4,Kx,Mq,hu,E,h1,h2,JP,F,hm]
    ·cases D
   ·split at D
    ·rename_i G;simp only[zl]at D;obtain⟨p,F,rfl⟩:=D;simp[BC,IJ,A4,Dg,E4,Kx,Mq,hu,E,h1,h2,JP,F,G,hm]
    ·rename_i G;split at D
     ·rename_i O;simp only[zl]at D;obtain⟨p,F,rfl⟩:=D;simp[BC,IJ,A4,Dg,E4,Kx,Mq,hu,E,h1,h2,JP,F,G,hm,O]
     ·cases D
    ·cases D
  ·cases B
 ·cases B
theorem dI{s:Sl}{t:List UInt8}(B:Yd C.P fr op=some (s.r,s.n))(D:eA h s=some t):BC C S g h fr op=some (.str t,h):=by
 unfold Yd at B;split at B
 ·split at B
  ·rename_i hu hd E;split at B
   ·rename_i he;simp only[zd,zg]at B;obtain⟨e1,e2⟩:=B;unfold eA at D;rw[←e1,←e2]at D;split at D
    ·injection D with D;subst D;simp[BC,IJ,A4,Dg,E4,Kx,RU,hu,hd,E,he]
    ·rename_i a;cases G:h.get a.1 with
     |none=>
      rw[G]at D;split at D
      ·simp at D
      ·simp[Cf]at D
     | some ob=>
      split at D
      ·rename_i J;rw[G]at D;injection D with D;subst D;simp[BC,IJ,A4,Dg,E4,Kx,RU,hu,hd,E,he,G,J]
      ·rename_i J;obtain⟨cs,F,T⟩:=bind_some D;rw[G]at F;simp[BC,IJ,A4,Dg,E4,Kx,RU,hu,hd,E,he,G,J,F,T]
   ·cases B
  ·cases B
 ·cases B
theorem eX{e:TypeId}{bytes:Nat}{z cs:List AB}{l c:Int}(B:Z4 C.P fr op=some (e,bytes,z,l,c))(D:da bytes z l c=some cs):BC C S g h fr op=some (.slice (some (h.size,0)) l.toNat,h.push (.cells (some e) 2 cs)):=by
 unfold Z4 at B;split at B
 ·split at B
  ·rename_i hu E K;split at B
   ·rename_i i hi;split at B
    ·rename_i z' O;split at B
     ·rename_i zc hzc;split at B
      ·rename_i H;simp only[zd,zg]at B;obtain⟨rfl,rfl,rfl,rfl,rfl⟩:=B;unfold da at D;split at D
       ·rename_i R;injection D with D;subst D;obtain⟨q1,q2,q3,q4⟩:=R;simp only[BC,IJ,A4,Qg,Kp,hu,E,K,hi,O,hzc];rw[zm ⟨q1,q2,q3,q4,H.1,H.2⟩];rfl
       ·cases D
      ·cases B
     ·cases B
    ·cases B
   ·cases B
  ·cases B
 ·cases B
theorem bx{f:FuncId}{args:List AB}{v:AB}(B:Nz fr op=some (f,args))(D:S.call g h f args=some (v,h1)):BC C S g h fr op=some (v,h1):=by
 unfold Nz at B;split at B
 ·split at B
  ·rename_i he;simp only[zd,zg]at B;obtain⟨rfl,rfl⟩:=B;simp only[BC,he];exact D
  ·cases B
 ·cases B
theorem Fx{e:TypeId}{sz bytes n:Nat}{s t:Sl}{x:AB}(B:al C.P fr op=some (e,sz,bytes,s.r,s.n,n,x))(D:app e sz bytes g h s n x=some (t,h1)):BC C S g h fr op=some (.slice t.r t.n,h1):=by
 unfold al at B;split at B
 ·split at B
  ·rename_i E M ht1;split at B
   ·rename_i hu hd J;split at B
    ·rename_i i hi;split at B
     ·rename_i H;simp only[zd,zg]at B;obtain⟨rfl,rfl,rfl,e1,e2,rfl,rfl⟩:=B;unfold app at D;simp only[BC,IJ,A4,K0,E,Nk,M,ht1,hu,hd,J,hi,H.1,if_true,appendCore];rw[e1,e2];split at D
      ·rename_i L;simp only[zd,zg]at D;obtain⟨rfl,rfl⟩:=D;rw[zm L]
      ·rename_i L;rw[zk L];split at D
       ·rename_i R;rw[zm ⟨H.2.1,R.1,R.2,H.2.2⟩];split at D
        ·rename_i new Hr F T;simp only[zl]at F;obtain⟨new0,F,rfl⟩:=F;simp only[F,T,zj];split at D
         ·rename_i ho;rw[zm ho];split at D
          ·rename_i Q;simp only[zd,zg]at D;obtain⟨rfl,rfl⟩:=D;simp[Q]
          ·rename_i a Q;split at D
           ·rename_i G;split at D
            ·rename_i hm;simp only[zd,zg]at D;obtain⟨rfl,rfl⟩:=D;simp[Q,G,hm]
            ·cases D
           ·cases D
         ·cases D
        ·cases D
       ·cases D
     ·cases B
    ·cases B
   ·cases B
  ·cases B
 ·cases B
theorem Y6{z n:Nat}{d:Sl}{x:AB}{k:Int}(B:aj C.P fr op=some (z,d.r,d.n,n,x))(D:dZ z g h d n x=some (k,h1)):BC C S g h fr op=some (.int .i64 k,h1):=by
 unfold aj at B;split at B
 ·split at B
  ·rename_i E M;split at B
   ·rename_i hu J;simp only[zl,zg]at B;obtain⟨z',O,rfl,e1,e2,rfl,rfl⟩:=B;unfold dZ at D;simp only[BC,IJ,A4,K0,E,Sq,M,hu,J,O];rw[e1,e2];split at D
    ·rename_i new F;simp only[F];split at D
     ·rename_i L;simp only[zd,zg]at D;obtain⟨rfl,rfl⟩:=D;cases d.r with
      |none=>simp[L]
      |some a=>simp[L]
     ·rename_i L;split at D
      ·rename_i a Q;simp only[zl,zg]at D;obtain⟨T,h5,rfl,rfl⟩:=D;simp[Q,L,h5]
      ·cases D
    ·cases D
   ·cases B
  ·cases B
 ·cases B
theorem cJ{v:AB}{ob:B0}(B:cz C.P fr op h.size=some (v,ob))(N:some (h.push ob)=some h1):BC C S g h fr op=some (v,h1):=by
 injection N with N;rw[←N];exact fF B
theorem dN{e:TypeId}{bytes:Nat}{z cs:List AB}{l c:Int}(B:Z4 C.P fr op=some (e,bytes,z,l,c))(D:da bytes z l c=some cs)(N:some (h.push (.cells (some e) 2 cs))=some h1):BC C S g h fr op=some (.slice (some (h.size,0)) l.toNat,h1):=by
 injection N with N;rw[←N];exact eX B D
theorem dJ{k:IntKind}{a b:Int}(B:V5 fr op=some (true,k,a,b))(H:(b !=0)=true):BC C S g h fr op=some (.int k (k.wrap (a.tdiv b)),h):=by
 unfold V5 at B;split at B
 ·split at B
  ·rename_i E K;split at B
   ·rename_i hk;simp only[zd,zg,qP]at B;obtain⟨rfl,rfl,rfl⟩:=B;subst hk;have I:=bne_iff_ne.1 H;simp[BC,IJ,A4,It,Rp,SG,E,K,NA,I]
   ·cases B
  ·split at B
   ·simp at B
   ·cases B
  ·cases B
 ·cases B
theorem ag{k:IntKind}{a b:Int}(B:V5 fr op=some (false,k,a,b))(H:(b !=0)=true):BC C S g h fr op=some (.int k (a.tmod b),h):=by
 unfold V5 at B;split at B
 ·split at B
  ·split at B
   ·simp at B
   ·cases B
  ·rename_i E K;split at B
   ·rename_i hk;simp only[zd,zg,qP]at B;obtain⟨rfl,rfl,rfl⟩:=B;subst hk;have I:=bne_iff_ne.1 H;simp[BC,IJ,A4,It,Rp,SG,E,K,NA,I]
   ·cases B
  ·cases B
 ·cases B
theorem cQ{k:IntKind}{a b:Int}(B:Vi fr op=some (true,k,a,b))(H:decide (0≤b)=true):BC C S g h fr op=some (.int k (WK k a b),h):=by
 unfold Vi at B;split at B
 ·split at B
  ·rename_i E K;simp only[zd,zg,qP]at B;obtain⟨rfl,rfl,rfl⟩:=B;have I:=of_decide_eq_true H;simp[BC,IJ,A4,It,Rp,SG,E,K,SE,Int.not_lt.2 I,WK]
  ·simp at B
  ·cases B
 ·cases B
theorem FF{a b:List UInt8}(B:aT fr op=some (a,b))(H:decide (a.length+b.length≤9223372036854775807)=true):BC C S g h fr op=some (.str (a++b),h):=by
 unfold aT at B;split at B
 ·split at B
  ·rename_i E K;simp only[zd,zg]at B;obtain⟨rfl,rfl⟩:=B;have I:=of_decide_eq_true H;simp[BC,IJ,A4,It,Rp,SG,E,K,SL,I]
  ·cases B
 ·cases B
end
end Go.Av
