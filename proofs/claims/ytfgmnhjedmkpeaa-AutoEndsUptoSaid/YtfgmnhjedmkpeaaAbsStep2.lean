/-
 A part.
-/
import Derived.Test.YtfgmnhjedmkpeaaAbsLift
set_option linter.unusedSimpArgs false
namespace Go.Abs
section
variable {C:Eu} {S:Self} {g:Gd} {h h1:AB} {fr:Fr} {op:Op}
theorem Fa(hc:AX C.P op≠3):Ap C S g h fr op=Fp C.P C.B6 g h fr op:=Dy hc
theorem ZR{v:AA}(B:TW C.P fr op=some v):Ap C S g h fr op=some (v,h):=by
 unfold TW at B;split at B
 ·rename_i hc;rw[Fa (by rw[hc];simp)];simp[Fp,hc,B]
 ·cases B
theorem ZU{v:AA}{ob:Ay}(B:UD C.P fr op h.size=some (v,ob)):Ap C S g h fr op=some (v,h.push ob):=by
 unfold UD at B;split at B
 ·rename_i hc;rw[Fa (by rw[hc];simp)];simp only[xa,qY]at B;obtain⟨x,h1,rfl,rfl⟩:=B;simp[Fp,hc,h1]
 ·cases B
theorem Og{a:Nat×Nat}{v:AA}(D:Jy h a=some v):BQ (h.get a.1) a.2 1=some [v]/\∃ob,h.get a.1=some ob:=by
 unfold Jy at D;split at D
 ·rename_i u hu;injection D with D;subst D;refine⟨hu,?_⟩;cases K:h.get a.1 with
  |none=>rw[K]at hu;simp[BQ]at hu
  |some ob=>exact⟨ob,rfl⟩
 ·cases D
theorem Cf{a:Nat×Nat}{v:AA}(B:II C.P fr op=some (a,none))(D:Jy h a=some v):Ap C S g h fr op=some (v,h):=by
 unfold II at B;split at B
 ·rename_i t x;obtain⟨h1,ob,H⟩:=Og D;rw[H]at h1;split at B
  ·simp only[xa,qY]at B;obtain⟨_,_,_,hc⟩:=B;cases hc
  ·rename_i he Q;simp only[qV,qY,and_true]at B;subst B;simp[Ap,Fp,AX,B1,he,CM,H,Gh,DT,Q,h1]
  ·cases B
 ·cases B
theorem Db{a:Nat×Nat}{n:Nat}{cs:List AA}(B:II C.P fr op=some (a,some n))(D:Gp h a n=some cs):Ap C S g h fr op=some (.agg cs,h):=by
 unfold II at B;split at B
 ·rename_i t x;unfold Gp at D;cases K:h.get a.1 with
  |none=>rw[K]at D;simp[BQ]at D
  | some ob=>
   rw[K]at D;split at B
   ·rename_i he Q;simp only[xa,qY,qV]at B;obtain⟨m,h1,rfl,rfl⟩:=B;simp[Ap,Fp,AX,B1,he,CM,K,Gh,DT,Q,h1,D]
   ·simp at B
   ·cases B
 ·cases B
theorem LH{a:Nat×Nat}{v:AA}(B:GA C.P fr op=some (a,1,v))(hc:v.cells?=some [v])(D:st g h a [v]=some h1):Ap C S g h fr op=some (.tuple [],h1):=by
 unfold GA at B;split at B
 ·split at B
  ·rename_i he;simp only[xa,qY]at B;obtain⟨n,H,rfl,rfl,N⟩:=B;unfold st at D;simp[Ap,Fp,AX,GF,he,FL,N,hc,H,D]
  ·cases B
 ·cases B
theorem PS{a:Nat×Nat}{n:Nat}{cs:List AA}(B:GA C.P fr op=some (a,n,.agg cs))(D:SA n g h a cs=some h1):Ap C S g h fr op=some (.tuple [],h1):=by
 unfold GA at B;split at B
 ·split at B
  ·rename_i he;simp only[xa,qY]at B;obtain⟨m,H,rfl,rfl,N⟩:=B;unfold SA at D;split at D
   ·rename_i O;simp[Ap,Fp,AX,GF,he,FL,N,AA.cells?,H,O,D]
   ·cases D
  ·cases B
 ·cases B
theorem C9{s:Sl}{b:Nat×Nat}{z:Nat}{i:Int}(B:PE C.P fr op=some (s.r,s.n,z,i))(D:H0 s z i=some b):Ap C S g h fr op=some (.ptr (some b),h):=by
 unfold PE at B;split at B
 ·split at B
  ·rename_i hu E J;simp only[xa,qY]at B;obtain⟨m,H,e1,e2,rfl,rfl⟩:=B;unfold H0 Qv at D;rw[<-e1,<-e2]at D;split at D
   ·split at D
    ·rename_i G;injection D with D;subst D;simp[Ap,Fp,AX,FA,DJ,hu,E,J,G,H]
    ·cases D
   ·cases D
  ·cases B
 ·cases B
theorem Qx{s:List UInt8}{i n:Int}(B:PD C.P fr op=some (s,i))(D:Rc s i=some n):Ap C S g h fr op=some (.int .u8 n,h):=by
 unfold PD at B;split at B
 ·split at B
  ·rename_i hu E J;simp only[qV,qY]at B;obtain⟨rfl,rfl⟩:=B;unfold Rc at D;split at D
   ·rename_i G;simp only[xa]at D;obtain⟨b,R,rfl⟩:=D;simp[Ap,Fp,AX,FA,Hl,hu,E,J,G,R]
   ·cases D
  ·cases B
 ·cases B
theorem We{e:TypeId}{bytes:Nat}{z cs:List AA}{l c:Int}(B:PT C.P fr op=some (e,bytes,z,l,c))(D:OC bytes z l c=some cs):Ap C S g h fr op=some (.slice (some (h.size,0)) l.toNat,h.push (.cells (some e) 2 cs)):=by
 unfold PT at B;split at B
 ·split at B
  ·rename_i hu E I;split at B
   ·rename_i i J;split at B
    ·rename_i z' M;split at B
     ·rename_i zc hzc;split at B
      ·rename_i G;simp only[qV,qY]at B;obtain⟨rfl,rfl,rfl,rfl,rfl⟩:=B;unfold OC at D;split at D
       ·rename_i hq;injection D with D;subst D;obtain⟨q1,q2,q3,q4⟩:=hq;simp only[Ap,Fp,AX,Ii,Et,hu,E,I,J,M,hzc];rw[xj ⟨q1,q2,q3,q4,G.1,G.2⟩];rfl
       ·cases D
      ·cases B
     ·cases B
    ·cases B
   ·cases B
  ·cases B
 ·cases B
theorem QT{f:FuncId}{args:List AA}{v:AA}(B:Jg fr op=some (f,args))(D:S.call g h f args=some (v,h1)):Ap C S g h fr op=some (v,h1):=by
 unfold Jg at B;split at B
 ·split at B
  ·rename_i he;simp only[qV,qY]at B;obtain⟨rfl,rfl⟩:=B;simp only[Ap,he];exact D
  ·cases B
 ·cases B
theorem YJ{z n:Nat}{d:Sl}{x:AA}{k:Int}(B:VI C.P fr op=some (z,d.r,d.n,n,x))(D:Ve z g h d n x=some (k,h1)):Ap C S g h fr op=some (.int .i64 k,h1):=by
 unfold VI at B;split at B
 ·split at B
  ·rename_i E ht0;split at B
   ·rename_i hu O;simp only[xa,qY]at B;obtain⟨z',M,rfl,e1,e2,rfl,rfl⟩:=B;unfold Ve at D;simp only[Ap,Fp,AX,GF,E,J3,ht0,hu,O,M];rw[e1,e2];split at D
    ·rename_i new R;simp only[R];split at D
     ·rename_i L;simp only[qV,qY]at D;obtain⟨rfl,rfl⟩:=D;cases d.r with
      |none=>simp[L]
      |some a=>simp[L]
     ·rename_i L;split at D
      ·rename_i a hr;simp only[xa,qY]at D;obtain⟨h4,h5,rfl,rfl⟩:=D;simp[hr,L,h5]
      ·cases D
    ·cases D
   ·cases B
  ·cases B
 ·cases B
theorem UB{P:Program}{t e:TypeId}(hu:P.underlying t=some (.pointer e))(p:Option (Nat×Nat)):GZ P 10000 t (.ptr p) (.ptr none)=some p.isNone:=by
 rw[show(10000:Nat)=9999+1 from rfl];unfold GZ;rw[hu];cases p<;>rfl
theorem Ra{P:Program}{t e:TypeId}(hu:P.underlying t=some (.slice e))(p:Option (Nat×Nat))(n m:Nat):GZ P 10000 t (.slice p n) (.slice none m)=some p.isNone:=by
 rw[show(10000:Nat)=9999+1 from rfl];unfold GZ;rw[hu];cases p<;>rfl
theorem Vk{b:Bool}{p:Option (Nat×Nat)}(B:Pd C.P fr op=some (b,p)):Ap C S g h fr op=some (.bool (if b then p.isNone else p.isSome),h):=by
  unfold Pd at B;split at B
  · split at B
    all_goals first
      |cases B;done
      | (rename_i hu E I;simp only[qV,qY]at B;obtain⟨rfl,rfl⟩:=B
         simp only[Ap,Fp,AX,FA,L6,E,I,Kw,UB hu,if_true,qZ,xo,if_false,Option.not_isNone])
      | (rename_i hu E I;simp only[qV,qY]at B;obtain⟨rfl,rfl⟩:=B
         simp only[Ap,Fp,AX,FA,L6,E,I,Kw,Ra hu,if_true,qZ,xo,if_false,Option.not_isNone])
  · cases B
theorem Wf{p:Option (Nat×Nat)}(B:Pd C.P fr op=some (true,p)):Ap C S g h fr op=some (.bool p.isNone,h):=Vk B
theorem Wc{p:Option (Nat×Nat)}(B:Pd C.P fr op=some (false,p)):Ap C S g h fr op=some (.bool p.isSome,h):=Vk B
theorem P9{v:AA}{ob:Ay}(B:UD C.P fr op h.size=some (v,ob))(F:some (h.push ob)=some h1):Ap C S g h fr op=some (v,h1):=by
 injection F with F;rw[<-F];exact ZU B
theorem Lo{e:TypeId}{bytes:Nat}{z cs:List AA}{l c:Int}(B:PT C.P fr op=some (e,bytes,z,l,c))(D:OC bytes z l c=some cs)(F:some (h.push (.cells (some e) 2 cs))=some h1):Ap C S g h fr op=some (.slice (some (h.size,0)) l.toNat,h1):=by
 injection F with F;rw[<-F];exact We B D
theorem NO{cs:List AA}(B:SU fr op=some cs)(G:cs.all AA.one=true)(F:some (h.push (.cells none 2 cs))=some h1):Ap C S g h fr op=some (.ptr (some (h.size,0)),h1):=by
 unfold SU at B;split at B
 ·split at B
  ·rename_i E;simp only[qV]at B;subst B;injection F with F;rw[<-F];simp only[Ap,Fp,AX,Ii,E,Ez,AA.cells?];rw[xj G];rfl
  ·cases B
 ·cases B
theorem Sr{p:Option (Nat×Nat)}{a:Nat×Nat}(B:X9 fr op=some p)(D:p=some a):Ap C S g h fr op=some (.ptr (some a),h):=by
 unfold X9 at B;split at B
 ·split at B
  ·rename_i E;simp only[qV]at B;subst B;subst D;simp[Ap,Fp,AX,FA,E]
  ·cases B
 ·cases B
end
end Go.Abs
