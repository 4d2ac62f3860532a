/-
 A part.
-/
import Derived.Test.YtfgmnhjedmkpeaaAbsLift
set_option linter.unusedSimpArgs false
namespace Go.Abs
section
variable {C:Gf} {S:Self} {g:Gd} {h h1:AE} {fr:Fr} {op:Op}
theorem Gh(hc:As C.P op≠3):BI C S g h fr op=Gn C.P C.C4 g h fr op:=Er hc
theorem YD{v:AD}(B:Uc C.P fr op=some v):BI C S g h fr op=some (v,h):=by
 unfold Uc at B;split at B
 ·rename_i hc;rw[Gh (by rw[hc];simp)];simp[Gn,hc,B]
 ·cases B
theorem YG{v:AD}{ob:Br}(B:VK C.P fr op h.size=some (v,ob)):BI C S g h fr op=some (v,h.push ob):=by
 unfold VK at B;split at B
 ·rename_i hc;rw[Gh (by rw[hc];simp)];simp only[qX,qW]at B;obtain⟨x,h1,rfl,rfl⟩:=B;simp[Gn,hc,h1]
 ·cases B
theorem QZ{a:Nat×Nat}{v:AD}(D:Ma h a=some v):B2 (h.get a.1) a.2 1=some [v]/\∃ob,h.get a.1=some ob:=by
 unfold Ma at D;split at D
 ·rename_i u hu;injection D with D;subst D;refine⟨hu,?_⟩;cases J:h.get a.1 with
  |none=>rw[J]at hu;simp[B2]at hu
  |some ob=>exact⟨ob,rfl⟩
 ·cases D
theorem Cx{a:Nat×Nat}{v:AD}(B:J6 C.P fr op=some (a,none))(D:Ma h a=some v):BI C S g h fr op=some (v,h):=by
 unfold J6 at B;split at B
 ·rename_i t x;obtain⟨h1,ob,H⟩:=QZ D;rw[H]at h1;split at B
  ·simp only[qX,qW]at B;obtain⟨_,_,_,hc⟩:=B;cases hc
  ·rename_i he O;simp only[qU,qW,and_true]at B;subst B;simp[BI,Gn,As,Cm,he,EN,H,Iq,Fi,O,h1]
  ·cases B
 ·cases B
theorem Bb{a:Nat×Nat}{n:Nat}{cs:List AD}(B:J6 C.P fr op=some (a,some n))(D:Eb h a n=some cs):BI C S g h fr op=some (.agg cs,h):=by
 unfold J6 at B;split at B
 ·rename_i t x;unfold Eb at D;cases J:h.get a.1 with
  |none=>rw[J]at D;simp[B2]at D
  | some ob=>
   rw[J]at D;split at B
   ·rename_i he O;simp only[qX,qW,qU]at B;obtain⟨m,h1,rfl,rfl⟩:=B;simp[BI,Gn,As,Cm,he,EN,J,Iq,Fi,O,h1,D]
   ·simp at B
   ·cases B
 ·cases B
theorem NO{a:Nat×Nat}{v:AD}(B:HW C.P fr op=some (a,1,v))(hc:v.cells?=some [v])(D:st g h a [v]=some h1):BI C S g h fr op=some (.tuple [],h1):=by
 unfold HW at B;split at B
 ·split at B
  ·rename_i he;simp only[qX,qW]at B;obtain⟨n,H,rfl,rfl,M⟩:=B;unfold st at D;simp[BI,Gn,As,Ib,he,HA,M,hc,H,D]
  ·cases B
 ·cases B
theorem Ko{a:Nat×Nat}{n:Nat}{cs:List AD}(B:HW C.P fr op=some (a,n,.agg cs))(D:TS n g h a cs=some h1):BI C S g h fr op=some (.tuple [],h1):=by
 unfold HW at B;split at B
 ·split at B
  ·rename_i he;simp only[qX,qW]at B;obtain⟨m,H,rfl,rfl,M⟩:=B;unfold TS at D;split at D
   ·rename_i N;simp[BI,Gn,As,Ib,he,HA,M,AD.cells?,H,N,D]
   ·cases D
  ·cases B
 ·cases B
theorem Ct{s:Sl}{b:Nat×Nat}{z:Nat}{i:Int}(B:RP C.P fr op=some (s.r,s.n,z,i))(D:Jp s z i=some b):BI C S g h fr op=some (.ptr (some b),h):=by
 unfold RP at B;split at B
 ·split at B
  ·rename_i hu E hi;simp only[qX,qW]at B;obtain⟨m,H,e1,e2,rfl,rfl⟩:=B;unfold Jp SR at D;rw[<-e1,<-e2]at D;split at D
   ·split at D
    ·rename_i G;injection D with D;subst D;simp[BI,Gn,As,Gj,Fa,hu,E,hi,G,H]
    ·cases D
   ·cases D
  ·cases B
 ·cases B
theorem JD{s:List UInt8}{i n:Int}(B:Q6 C.P fr op=some (s,i))(D:OF s i=some n):BI C S g h fr op=some (.int .u8 n,h):=by
 unfold Q6 at B;split at B
 ·split at B
  ·rename_i hu E hi;simp only[qU,qW]at B;obtain⟨rfl,rfl⟩:=B;unfold OF at D;split at D
   ·rename_i G;simp only[qX]at D;obtain⟨b,Q,rfl⟩:=D;simp[BI,Gn,As,Gj,Lh,hu,E,hi,G,Q]
   ·cases D
  ·cases B
 ·cases B
theorem W5{e:TypeId}{bytes:Nat}{z cs:List AD}{l c:Int}(B:RI C.P fr op=some (e,bytes,z,l,c))(D:NG bytes z l c=some cs):BI C S g h fr op=some (.slice (some (h.size,0)) l.toNat,h.push (.cells (some e) 2 cs)):=by
 unfold RI at B;split at B
 ·split at B
  ·rename_i hu E I;split at B
   ·rename_i i hi;split at B
    ·rename_i z' L;split at B
     ·rename_i zc hzc;split at B
      ·rename_i G;simp only[qU,qW]at B;obtain⟨rfl,rfl,rfl,rfl,rfl⟩:=B;unfold NG at D;split at D
       ·rename_i hq;injection D with D;subst D;obtain⟨q1,q2,q3,q4⟩:=hq;simp only[BI,Gn,As,L1,GW,hu,E,I,hi,L,hzc];rw[xf ⟨q1,q2,q3,q4,G.1,G.2⟩];rfl
       ·cases D
      ·cases B
     ·cases B
    ·cases B
   ·cases B
  ·cases B
 ·cases B
theorem R7{f:FuncId}{args:List AD}{v:AD}(B:J1 fr op=some (f,args))(D:S.call g h f args=some (v,h1)):BI C S g h fr op=some (v,h1):=by
 unfold J1 at B;split at B
 ·split at B
  ·rename_i he;simp only[qU,qW]at B;obtain⟨rfl,rfl⟩:=B;simp only[BI,he];exact D
  ·cases B
 ·cases B
theorem Xa{z n:Nat}{d:Sl}{x:AD}{k:Int}(B:WB C.P fr op=some (z,d.r,d.n,n,x))(D:Vz z g h d n x=some (k,h1)):BI C S g h fr op=some (.int .i64 k,h1):=by
 unfold WB at B;split at B
 ·split at B
  ·rename_i E ht0;split at B
   ·rename_i hu N;simp only[qX,qW]at B;obtain⟨z',L,rfl,e1,e2,rfl,rfl⟩:=B;unfold Vz at D;simp only[BI,Gn,As,Ib,E,Mo,ht0,hu,N,L];rw[e1,e2];split at D
    ·rename_i new Q;simp only[Q];split at D
     ·rename_i K;simp only[qU,qW]at D;obtain⟨rfl,rfl⟩:=D;cases d.r with
      |none=>simp[K]
      |some a=>simp[K]
     ·rename_i K;split at D
      ·rename_i a hr;simp only[qX,qW]at D;obtain⟨h4,h5,rfl,rfl⟩:=D;simp[hr,K,h5]
      ·cases D
    ·cases D
   ·cases B
  ·cases B
 ·cases B
theorem VF{P:Program}{t e:TypeId}(hu:P.underlying t=some (.pointer e))(p:Option (Nat×Nat)):Hb P 10000 t (.ptr p) (.ptr none)=some p.isNone:=by
 rw[show(10000:Nat)=9999+1 from rfl];unfold Hb;rw[hu];cases p<;>rfl
theorem Sy{P:Program}{t e:TypeId}(hu:P.underlying t=some (.slice e))(p:Option (Nat×Nat))(n m:Nat):Hb P 10000 t (.slice p n) (.slice none m)=some p.isNone:=by
 rw[show(10000:Nat)=9999+1 from rfl];unfold Hb;rw[hu];cases p<;>rfl
theorem WA{b:Bool}{p:Option (Nat×Nat)}(B:RF C.P fr op=some (b,p)):BI C S g h fr op=some (.bool (if b then p.isNone else p.isSome),h):=by
  unfold RF at B;split at B
  · split at B
    all_goals first
      |cases B;done
      | (rename_i hu E I;simp only[qU,qW]at B;obtain⟨rfl,rfl⟩:=B
         simp only[BI,Gn,As,Gj,Nt,E,I,M7,VF hu,if_true,q8,xw,if_false,Option.not_isNone])
      | (rename_i hu E I;simp only[qU,qW]at B;obtain⟨rfl,rfl⟩:=B
         simp only[BI,Gn,As,Gj,Nt,E,I,M7,Sy hu,if_true,q8,xw,if_false,Option.not_isNone])
  · cases B
theorem Wp{p:Option (Nat×Nat)}(B:RF C.P fr op=some (true,p)):BI C S g h fr op=some (.bool p.isNone,h):=WA B
theorem W3{p:Option (Nat×Nat)}(B:RF C.P fr op=some (false,p)):BI C S g h fr op=some (.bool p.isSome,h):=WA B
theorem RB{v:AD}{ob:Br}(B:VK C.P fr op h.size=some (v,ob))(F:some (h.push ob)=some h1):BI C S g h fr op=some (v,h1):=by
 injection F with F;rw[<-F];exact YG B
theorem NQ{e:TypeId}{bytes:Nat}{z cs:List AD}{l c:Int}(B:RI C.P fr op=some (e,bytes,z,l,c))(D:NG bytes z l c=some cs)(F:some (h.push (.cells (some e) 2 cs))=some h1):BI C S g h fr op=some (.slice (some (h.size,0)) l.toNat,h1):=by
 injection F with F;rw[<-F];exact W5 B D
theorem O7{cs:List AD}(B:Un fr op=some cs)(G:cs.all AD.one=true)(F:some (h.push (.cells none 2 cs))=some h1):BI C S g h fr op=some (.ptr (some (h.size,0)),h1):=by
 unfold Un at B;split at B
 ·split at B
  ·rename_i E;simp only[qU]at B;subst B;injection F with F;rw[<-F];simp only[BI,Gn,As,L1,E,I7,AD.cells?];rw[xf G];rfl
  ·cases B
 ·cases B
theorem UX{p:Option (Nat×Nat)}{a:Nat×Nat}(B:XG fr op=some p)(D:p=some a):BI C S g h fr op=some (.ptr (some a),h):=by
 unfold XG at B;split at B
 ·split at B
  ·rename_i E;simp only[qU]at B;subst B;subst D;simp[BI,Gn,As,Gj,E]
  ·cases B
 ·cases B
end
end Go.Abs
