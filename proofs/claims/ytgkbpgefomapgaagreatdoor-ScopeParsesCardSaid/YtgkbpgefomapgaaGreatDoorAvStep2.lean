/-
 A part.
-/
import Derived.Test.YtgkbpgefomapgaaGreatDoorAvLift
set_option linter.unusedSimpArgs false
namespace Go.Av
section
variable {C:J8} {S:Self} {g:Gd} {h h1:AS} {fr:Fr} {op:Op}
theorem J3(hc:Br C.P op≠3):CC C S g h fr op=J7 C.P C.GZ g h fr op:=I9 hc
theorem cP{v:AE}(B:af C.P fr op=some v):CC C S g h fr op=some (v,h):=by
 unfold af at B;split at B
 ·rename_i hc;rw[J3 (by rw[hc];simp)];simp[J7,hc,B]
 ·cases B
theorem cT{v:AE}{ob:Dc}(B:aP C.P fr op h.size=some (v,ob)):CC C S g h fr op=some (v,h.push ob):=by
 unfold aP at B;split at B
 ·rename_i hc;rw[J3 (by rw[hc];simp)];simp only[zg,ze]at B;obtain⟨x,h1,rfl,rfl⟩:=B;simp[J7,hc,h1]
 ·cases B
theorem Ya{a:Nat×Nat}{v:AE}(D:SW h a=some v):Dy (h.get a.1) a.2 1=some [v]/\∃ob,h.get a.1=some ob:=by
 unfold SW at D;split at D
 ·rename_i u hu;injection D with D;subst D;refine⟨hu,?_⟩;cases H:h.get a.1 with
  |none=>rw[H]at hu;simp[Dy]at hu
  |some ob=>exact⟨ob,rfl⟩
 ·cases D
theorem Dj{a:Nat×Nat}{v:AE}(B:Ow C.P fr op=some (a,none))(D:SW h a=some v):CC C S g h fr op=some (v,h):=by
 unfold Ow at B;split at B
 ·rename_i t x;obtain⟨h1,ob,I⟩:=Ya D;rw[I]at h1;split at B
  ·simp only[zg,ze]at B;obtain⟨_,_,_,hc⟩:=B;cases hc
  ·rename_i he T;simp only[zd,ze,and_true]at B;subst B;simp[CC,J7,Br,Es,he,Gb,I,MJ,Im,T,h1]
  ·cases B
 ·cases B
theorem B0{a:Nat×Nat}{n:Nat}{cs:List AE}(B:Ow C.P fr op=some (a,some n))(D:G7 h a n=some cs):CC C S g h fr op=some (.agg cs,h):=by
 unfold Ow at B;split at B
 ·rename_i t x;unfold G7 at D;cases H:h.get a.1 with
  |none=>rw[H]at D;simp[Dy]at D
  | some ob=>
   rw[H]at D;split at B
   ·rename_i he T;simp only[zg,ze,zd]at B;obtain⟨m,h1,rfl,rfl⟩:=B;simp[CC,J7,Br,Es,he,Gb,H,MJ,Im,T,h1,D]
   ·simp at B
   ·cases B
 ·cases B
theorem O9{a:Nat×Nat}{v:AE}(B:Ks C.P fr op=some (a,1,v))(hc:v.cells?=some [v])(D:st g h a [v]=some h1):CC C S g h fr op=some (.tuple [],h1):=by
 unfold Ks at B;split at B
 ·split at B
  ·rename_i he;simp only[zg,ze]at B;obtain⟨n,I,rfl,rfl,Q⟩:=B;unfold st at D;simp[CC,J7,Br,ML,he,MY,Q,hc,I,D]
  ·cases B
 ·cases B
theorem L4{a:Nat×Nat}{n:Nat}{cs:List AE}(B:Ks C.P fr op=some (a,n,.agg cs))(D:bI n g h a cs=some h1):CC C S g h fr op=some (.tuple [],h1):=by
 unfold Ks at B;split at B
 ·split at B
  ·rename_i he;simp only[zg,ze]at B;obtain⟨m,I,rfl,rfl,Q⟩:=B;unfold bI at D;split at D
   ·rename_i M;simp[CC,J7,Br,ML,he,MY,Q,AE.cells?,I,M,D]
   ·cases D
  ·cases B
 ·cases B
theorem L5{a b:Nat×Nat}{n z:Nat}{i:Int}(B:ZD C.P fr op=some (a,n,z,i))(D:YB a n z i=some b):CC C S g h fr op=some (.ptr (some b),h):=by
 unfold ZD at B;split at B
 ·split at B
  ·rename_i hu E hi;simp only[zg,ze]at B;obtain⟨m,I,rfl,rfl,rfl,rfl⟩:=B;unfold YB at D;split at D
   ·rename_i F;injection D with D;subst D;simp[CC,J7,Br,KZ,IC,hu,E,hi,F,I]
   ·cases D
  ·cases B
 ·cases B
theorem ED{s:Sl}{b:Nat×Nat}{z:Nat}{i:Int}(B:ZL C.P fr op=some (s.r,s.n,z,i))(D:aB s z i=some b):CC C S g h fr op=some (.ptr (some b),h):=by
 unfold ZL at B;split at B
 ·split at B
  ·rename_i hu E hi;simp only[zg,ze]at B;obtain⟨m,I,e1,e2,rfl,rfl⟩:=B;unfold aB YB at D;rw[<-e1,<-e2]at D;split at D
   ·split at D
    ·rename_i F;injection D with D;subst D;simp[CC,J7,Br,KZ,IC,hu,E,hi,F,I]
    ·cases D
   ·cases D
  ·cases B
 ·cases B
theorem DN{s:List UInt8}{i n:Int}(B:Y9 C.P fr op=some (s,i))(D:IA s i=some n):CC C S g h fr op=some (.int .u8 n,h):=by
 unfold Y9 at B;split at B
 ·split at B
  ·rename_i hu E hi;simp only[zd,ze]at B;obtain⟨rfl,rfl⟩:=B;unfold IA at D;split at D
   ·rename_i F;simp only[zg]at D;obtain⟨b,K,rfl⟩:=D;simp[CC,J7,Br,KZ,Sa,hu,E,hi,F,K]
   ·cases D
  ·cases B
 ·cases B
theorem Gu{s t:List UInt8}{k k':IntKind}{lo hi:Option Int}(B:XO C.P fr op=some (s,lo.map (.int k ·),hi.map (.int k' ·)))(D:I0 s lo hi=some t):CC C S g h fr op=some (.str t,h):=by
 unfold XO at B;split at B
 ·split at B
  ·rename_i hu E;simp only[zd,ze]at B;obtain⟨rfl,h1,I⟩:=B;unfold I0 at D;simp only[zg]at D;obtain⟨p,K,rfl⟩:=D;simp[CC,J7,Br,KZ,SS,hu,E,h1,I,U8,K]
  ·cases B
 ·cases B
theorem au{s:Sl}{t:List UInt8}(B:XN C.P fr op=some (s.r,s.n))(D:bh h s=some t):CC C S g h fr op=some (.str t,h):=by
 unfold XN at B;split at B
 ·split at B
  ·rename_i hu hd E;split at B
   ·rename_i he;simp only[zd,ze]at B;obtain⟨e1,e2⟩:=B;unfold bh at D;rw[<-e1,<-e2]at D;split at D
    ·injection D with D;subst D;simp[CC,J7,Br,Es,Gb,MJ,R7,hu,hd,E,he]
    ·rename_i a;cases H:h.get a.1 with
     |none=>
      rw[H]at D;split at D
      ·simp at D
      ·simp[Dy]at D
     | some ob=>
      split at D
      ·rename_i M;rw[H]at D;injection D with D;subst D;simp[CC,J7,Br,Es,Gb,MJ,R7,hu,hd,E,he,H,M]
      ·rename_i M;obtain⟨cs,K,U⟩:=AG D;rw[H]at K;simp[CC,J7,Br,Es,Gb,MJ,R7,hu,hd,E,he,H,M,K,U]
   ·cases B
  ·cases B
 ·cases B
theorem bu{e:TypeId}{bytes:Nat}{z cs:List AE}{l c:Int}(B:YJ C.P fr op=some (e,bytes,z,l,c))(D:bL bytes z l c=some cs):CC C S g h fr op=some (.slice (some (h.size,0)) l.toNat,h.push (.cells (some e) 2 cs)):=by
 unfold YJ at B;split at B
 ·split at B
  ·rename_i hu E L;split at B
   ·rename_i i hi;split at B
    ·rename_i z' O;split at B
     ·rename_i zc hzc;split at B
      ·rename_i F;simp only[zd,ze]at B;obtain⟨rfl,rfl,rfl,rfl,rfl⟩:=B;unfold bL at D;split at D
       ·rename_i N;injection D with D;subst D;obtain⟨q1,q2,q3,q4⟩:=N;simp only[CC,J7,Br,RC,Lx,hu,E,L,hi,O,hzc];rw[zk ⟨q1,q2,q3,q4,F.1,F.2⟩];rfl
       ·cases D
      ·cases B
     ·cases B
    ·cases B
   ·cases B
  ·cases B
 ·cases B
theorem Zp{f:FuncId}{args:List AE}{v:AE}(B:Ni fr op=some (f,args))(D:S.call g h f args=some (v,h1)):CC C S g h fr op=some (v,h1):=by
 unfold Ni at B;split at B
 ·split at B
  ·rename_i he;simp only[zd,ze]at B;obtain⟨rfl,rfl⟩:=B;simp only[CC,he];exact D
  ·cases B
 ·cases B
theorem El{e:TypeId}{sz bytes n:Nat}{s t:Sl}{x:AE}(B:ZI C.P fr op=some (e,sz,bytes,s.r,s.n,n,x))(D:app e sz bytes g h s n x=some (t,h1)):CC C S g h fr op=some (.slice t.r t.n,h1):=by
 unfold ZI at B;split at B
 ·split at B
  ·rename_i E ht0 ht1;split at B
   ·rename_i hu hd M;split at B
    ·rename_i i hi;split at B
     ·rename_i F;simp only[zd,ze]at B;obtain⟨rfl,rfl,rfl,e1,e2,rfl,rfl⟩:=B;unfold app at D;simp only[CC,J7,Br,ML,E,N7,ht0,ht1,hu,hd,M,hi,F.1,if_true,appendCore];rw[e1,e2];split at D
      ·rename_i h0;simp only[zd,ze]at D;obtain⟨rfl,rfl⟩:=D;rw[zk h0]
      ·rename_i h0;rw[zm h0];split at D
       ·rename_i N;rw[zk ⟨F.2.1,N.1,N.2,F.2.2⟩];split at D
        ·rename_i new old K U;simp only[zg]at K;obtain⟨new0,K,rfl⟩:=K;simp only[K,U,zf];split at D
         ·rename_i ho;rw[zk ho];split at D
          ·rename_i R;simp only[zd,ze]at D;obtain⟨rfl,rfl⟩:=D;simp[R]
          ·rename_i a R;split at D
           ·rename_i H;split at D
            ·rename_i hm;simp only[zd,ze]at D;obtain⟨rfl,rfl⟩:=D;simp[R,H,hm]
            ·cases D
           ·cases D
         ·cases D
        ·cases D
       ·cases D
     ·cases B
    ·cases B
   ·cases B
  ·cases B
 ·cases B
theorem Qr{v:AE}{ob:Dc}(B:aP C.P fr op h.size=some (v,ob))(J:some (h.push ob)=some h1):CC C S g h fr op=some (v,h1):=by
 injection J with J;rw[<-J];exact cT B
theorem az{e:TypeId}{bytes:Nat}{z cs:List AE}{l c:Int}(B:YJ C.P fr op=some (e,bytes,z,l,c))(D:bL bytes z l c=some cs)(J:some (h.push (.cells (some e) 2 cs))=some h1):CC C S g h fr op=some (.slice (some (h.size,0)) l.toNat,h1):=by
 injection J with J;rw[<-J];exact bu B D
theorem aO{k:IntKind}{a b:Int}(B:Pz fr op=some (true,k,a,b))(F:decide (0<=b)=true):CC C S g h fr op=some (.int k (Js k a b),h):=by
 unfold Pz at B;split at B
 ·split at B
  ·rename_i E L;simp only[zd,ze,qM]at B;obtain⟨rfl,rfl,rfl⟩:=B;have G:=of_decide_eq_true F;simp[CC,J7,Br,KZ,VF,Ug,E,L,Qz,Int.not_lt.2 G,Js]
  ·simp at B
  ·cases B
 ·cases B
theorem aj{k:IntKind}{a b:Int}(B:Pz fr op=some (false,k,a,b))(F:decide (0<=b)=true):CC C S g h fr op=some (.int k (HW k a b),h):=by
 unfold Pz at B;split at B
 ·split at B
  ·simp at B
  ·rename_i E L;simp only[zd,ze,qM]at B;obtain⟨rfl,rfl,rfl⟩:=B;have G:=of_decide_eq_true F;simp[CC,J7,Br,KZ,VF,Ug,E,L,Qz,Int.not_lt.2 G,HW]
  ·cases B
 ·cases B
theorem OU{a b:List UInt8}(B:Y8 fr op=some (a,b))(F:decide (a.length+b.length<=9223372036854775807)=true):CC C S g h fr op=some (.str (a++b),h):=by
 unfold Y8 at B;split at B
 ·split at B
  ·rename_i E L;simp only[zd,ze]at B;obtain⟨rfl,rfl⟩:=B;have G:=of_decide_eq_true F;simp[CC,J7,Br,KZ,VF,Ug,E,L,S0,G]
  ·cases B
 ·cases B
theorem aZ{e:TypeId}{t:List UInt8}(B:ZH C.P fr op=some (e,t))(F:decide (t.length<=1099511627776)=true)(J:some (h.push (.cells (some e) 2 (t.map λb=>.int .u8 b.toNat)))=some h1):CC C S g h fr op=some (.slice (some (h.size,0)) t.length,h1):=by
 unfold ZH at B;split at B
 ·split at B
  ·rename_i hu hd E;split at B
   ·rename_i he O;simp only[zd,ze]at B;obtain⟨rfl,rfl⟩:=B;have G:=of_decide_eq_true F;injection J with J;rw[<-J];simp[CC,J7,Br,RC,Vx,hu,hd,E,he,O,G]
   ·cases B
  ·cases B
 ·cases B
end
end Go.Av
