/-
 A part.
-/
import Derived.Test.YtfgmnhjedmkpeaaAbsOpP
set_option linter.unusedSimpArgs false
namespace Go.Abs
open Go.RowKit
section
variable {P:Program} {w0:World} {m:BU} {h:AE} {w:World}
theorem Rel.cells(r:Rel P w0 m h w){id o n:Nat}{E:Ii}{cs:List AD}(hE:m id=some E)(hc:B2 (h.get id) o n=some cs):
  ∃ds:List Value,ds.length=n/\B5 m cs ds/\(∀(j:Nat) (v:Value),ds[j]?=some v->w.cell? ((⟨E.g,E.base+o,none⟩:Addr).add j)=some v)/\(∀a∈cs,a.one=true):=by
 unfold B2 at hc;split at hc
 ·rename_i gr st l R;split at hc
  ·rename_i hb;injection hc with hc;subst hc;obtain⟨_,J⟩:=r.obj id E _ hE R;obtain⟨cur,e,fz,h1,H,M,_⟩:=J hb.1;have hlen:∀j,j<l.length->E.base+j<cur.size:=λj I=>by
    obtain⟨_,c,hc,_⟩:=M j _ (List.getElem?_eq_getElem I);exact(Array.getElem?_eq_some_iff.1 hc).1
   have key:∀j,j<n->(cur.toList.drop (E.base+o))[j]?=cur[E.base+(o+j)]?:=λj I=>by
    rw[List.getElem?_drop,xK];simp
   refine⟨(cur.toList.drop (E.base+o)).take n,?_,⟨?_,?_⟩,?_,?_⟩
   ·rcases xx n with Q|Q
    ·simp[Q]
    ·have:=hlen (o+n - 1) (by omega);simp;omega
   ·have:n<=cur.size - (E.base+o):=by
     rcases xx n with Q|Q
     ·omega
     ·have:=hlen (o+n - 1) (by omega);omega
    simp;omega
   ·intro j x y F K;rw[List.getElem?_take]at F K;split at F
    ·rename_i I;rw[xf I,key j I]at K;rw[List.getElem?_drop]at F;obtain⟨_,c,hc,D⟩:=M (o+j) x F;rw[hc]at K;injection K with K;subst K;exact D
    ·cases F
   ·intro j v D;rw[List.getElem?_take]at D;split at D
    ·rename_i I;rw[key j I]at D;rw[Addr.add_lit,cell_of_row w E.g _ cur e fz h1,<-D,xK]
    ·cases D
   ·intro a L;obtain⟨j,I⟩:=wm.1 L;rw[List.getElem?_take]at I;split at I
    ·rw[List.getElem?_drop]at I;exact(M _ a I).1
    ·cases I
  ·cases hc
 ·cases hc
theorem HC(r:Rel P w0 m h w){id o:Nat}{t:TypeId}{E:Ii}{v:AD}(hE:m id=some E)(B:Fi P (h.get id) t o=some v):
  ∃v',(loadVar t ⟨E.g,E.base+o,none⟩).run P w=.ok v' w/\VR m v v':=by
 unfold Fi at B;split at B
 ·rename_i L;cases N:B9 P t with
  |none=>simp[N]at B
  | some n=>
   simp only[N,qQ]at B;cases hc:B2 (h.get id) o n with
   |none=>simp[hc]at B
   |some cs=>
    simp only[hc,q8,qU]at B;subst B;obtain⟨ds,h1,H,M,_⟩:=r.cells hE hc;subst h1;refine⟨.agg ds.toArray,?_,B5.agg (by simpa using H)⟩;simp[loadVar,HZ w L,run_sizeOf w N,run_loadCells_list w ⟨E.g,E.base+o,none⟩ ds M]
 ·rename_i L;split at B
  ·rename_i x hc;injection B with B;subst B;obtain⟨ds,h1,H,M,_⟩:=r.cells hE hc
   match ds,h1 with
   |[d],_=>
    refine⟨d,?_,H.2 0 x d rfl rfl⟩;have:=M 0 d rfl;simp only[Addr.add_zero']at this;simp[loadVar,HZ w L,this]
  ·cases B
 ·cases B
theorem NC(r:Rel P w0 m h w){ts:Array TypeId}{ty:TypeId}{x:AD}{x':Value}{v:AD}(F:VR m x x')
  (B:Rh P ((EN x).bind h.get) ts x=some v):∃v',(Builtin.len_ ts ty #[x']).run P w=.ok v' w/\VR m v v':=by
 unfold Rh at B;split at B
 ·cases B
 ·rename_i t T;split at B
  ·rename_i k e hu;injection B with B;subst B;cases F;exact⟨_,by simp[Builtin.len_,T,Ah w hu,goInt],.int _ _⟩
  ·rename_i k e id hu;simp only[EN,qQ]at B;cases F with
   | map _ E hE=>
    split at B
    ·rename_i st es R;split at B
     ·rename_i hst;injection B with B;subst B;obtain⟨_,J⟩:=r.obj id E _ hE R;obtain⟨ents,clock,h1,H,_⟩:=J hst;exact⟨.int .i64 es.length,by simp[Builtin.len_,T,Ah w hu,goInt,getObj,Sem.run,h1,H],.int _ _⟩
     ·cases B
    ·cases B
  ·cases B
theorem M8{t:TypeId}{o:Nat}:Fi P none t o=none:=by
 unfold Fi;split
 ·cases B9 P t<;>rfl
 ·rfl
 ·rfl
theorem M6{t:TypeId}{o:Nat}{cs:List AD}{v:AD}(O:∀a∈cs,Abs.Fq a=true)(B:Fi P (some (.cells none 1 cs)) t o=some v):Abs.HS v=true:=by
 unfold Fi at B;split at B
 ·cases N:B9 P t with
  |none=>simp[N]at B
  | some n=>
   simp only[N,qQ,B2]at B;split at B
   ·simp only[q8,qU]at B;subst B;unfold Abs.HS;rw[xg];intro a L;exact O a (List.mem_of_mem_drop (List.mem_of_mem_take L))
   ·simp at B
 ·split at B
  ·rename_i x hc;injection B with B;subst B;simp only[B2]at hc;split at hc
   ·injection hc with hc;have F:Abs.Fq x=true:=O x (List.mem_of_mem_drop (List.mem_of_mem_take (by rw[hc];simp)));cases x<;>simp_all[Abs.HS,Abs.Fq]
   ·cases hc
  ·cases B
 ·cases B
theorem K5{G:Nat->Option (List AD)}(hz:CL G w0)(r:Rel P w0 m h w){fr:Fr}{a:Act}(O:FR m fr a){o:Oper}{v:AD}(C:Iq P G fr ((Cm fr o.op).bind h.get) o.op=some v):
  ∃v',(execOp a.eval o).run P w=.ok (.value v') w/\VR m v v':=by
 obtain⟨dst,op,ty,pos,aft,gd⟩:=o;simp only at C;have lift:∀{s:Sem Value} {u:AD},(∃v',s.run P w=.ok v' w/\VR m u v')->∃v',(do pure (.value (<-s)):Sem Next).run P w=.ok (.value v') w/\VR m u v':=by
  rintro s u ⟨v',h1,H⟩;exact⟨v',by simp[h1],H⟩
 cases op with
 | load t x=>
  simp only[Iq,Cm]at C;split at C
  ·rename_i id o F;rw[F]at C;simp only[EN,qQ]at C;have D:=O.ev x;rw[F]at D;generalize K:a.eval x=y at D;cases D with
   |ptr _ _ E hE=>
    obtain⟨v',h1,H⟩:=HC r hE C;exact lift ⟨v',by simp[Instr.loadAt,Instr.sureAddr,K,h1],H⟩
  ·rename_i gl o F;have D:=O.ev x;rw[F]at D;generalize K:a.eval x=y at D;cases D with
   | GM _ _=>
    cases S:G gl with
    |none=>rw[S]at C;simp only[Option.map_none]at C;rw[M8]at C;cases C
    |some cs=>
     rw[S]at C;simp only[q8]at C;obtain⟨tot,r',hfl⟩:=hz.rel (P:=P) r.below S;obtain⟨v',h1,H⟩:=HC (id:=0) (o:=o) (E:=⟨gl,0,0,tot⟩) r' (by simp) (by rw[AE.Bh];exact C);refine lift ⟨v',by simp only[xN]at h1;simp[Instr.loadAt,Instr.sureAddr,K,h1],?_⟩;exact H.HS (M6 hfl C)
  ·cases C
 | call c=>
  obtain⟨callee,asE9,ts⟩:=c;cases callee with
  |value f=>simp[Iq]at C
  |invoke r mth=>simp[Iq]at C
  | builtin b=>
   cases b<;>simp only[Iq]at C<;>try (cases C;done)
   simp only[Cm]at C;split at C
   ·rename_i x heq;have has:asE9=#[x]:=Array.ext' (by simpa using heq);subst has;obtain⟨v',h1,H⟩:=NC (P:=P) r (ty:=ty) (O.ev x) C;have res:∀(w:World),(resolve a.eval {callee:=.builtin .len,args:=#[x],argTypes:=ts} ty).run P w=.ok {target:=.builtin .len ts ty (#[x].map fun| .const _=>true|_=>false),args:=#[x].map a.eval} w:=λw=>rfl;exact⟨v',by simp[execOp,res,invoke,builtin,h1],H⟩
   ·cases C
 |_=>simp[Iq]at C
end
end Go.Abs
