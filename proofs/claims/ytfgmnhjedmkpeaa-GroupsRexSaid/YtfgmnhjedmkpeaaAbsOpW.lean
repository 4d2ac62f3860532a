/-
 A part.
-/
import Derived.Test.YtfgmnhjedmkpeaaAbsOpN
set_option linter.unusedSimpArgs false
namespace Go.Abs
open Go.RowKit
section
variable {P:Program} {w0:World} {m:BU} {h:AE} {w:World}
def O5(n:Next)(v:Value):Prop:=n=.value v\/(n=.skip/\v=undef)
theorem GI(g off:Nat)(e:TypeId)(fz:Nat×Nat):∀(vs:List Value) (i:Nat) (cur:Array Value) (w:World),w.heap[g]?=some (.cells cur e fz)->off+i+vs.length<=cur.size->
  (∀v∈vs,v.oneCell'=true)->(∀j,j<cur.size->¬(fz.1<=j/\j<fz.2))->
  ∃w',(storeCells ⟨g,off,none⟩ vs i).run P w=.ok () w'/\w'.heap[g]?=some (.cells ⟨cur.toList.take (off+i)++(vs++cur.toList.drop (off+i+vs.length))⟩ e fz)/\Dn w w' g/\w'.heap.size=w.heap.size
 |[],i,cur,w,G,_,_,_=>by
  refine⟨w,by simp[storeCells],?_,Dn.refl w g,rfl⟩;rw[G];congr 2;apply Array.ext';simp
 | v::vs,i,cur,w,G,N,h1,D=>by
  simp only[xo]at N;have hcell:w.cell? ⟨g,off+i,none⟩=some cur[off+i]:=by
   rw[cell_of_row w g (off+i) cur e fz G];exact Array.getElem?_eq_getElem (by omega)
  have hfr:w.frozen? ⟨g,off+i,none⟩=false:=by
   have:=D (off+i) (by omega);simp only[World.frozen?,G];simp only[xA,xp];omega
  have B:(store ((⟨g,off,none⟩:Addr).add i) v).run P w=.ok () (w.setCell ⟨g,off+i,none⟩ v):=by
   rw[Addr.add_lit,run_store P w _ v _ (h1 v (by simp)),hcell];simp[hfr]
  have hg1:(w.setCell ⟨g,off+i,none⟩ v).heap[g]?=some (.cells (cur.setIfInBounds (off+i) v) e fz):=by
   simp[World.setCell,Array.getElem?_modify,G]
  obtain⟨w',r1,r2,r3,r4⟩:=GI g off e fz vs (i+1) (cur.setIfInBounds (off+i) v) _ hg1 (by simp;omega) (λu hu=>h1 u (by simp[hu])) (by simpa using D);refine⟨w',by simp[storeCells,B,r1],?_,?_,?_⟩
  ·rw[r2];congr 2;have hlen:cur.toList.length=cur.size:=by simp
   apply Array.ext';show(cur.setIfInBounds (off+i) v).toList.take (off+(i+1))++(vs++(cur.setIfInBounds (off+i) v).toList.drop (off+(i+1)+vs.length))=cur.toList.take (off+i)++(v::vs++cur.toList.drop (off+i+(v::vs).length));rw[wd];generalize cur.toList=L at hlen;have e1:L.set (off+i) v=L.take (off+i)++v::L.drop (off+i+1):=by
    rw[xy,xf (by omega)]
   have hl2:(L.take (off+i)).length=off+i:=by simp;omega
   rw[e1,show off+(i+1)+vs.length=(L.take (off+i)).length+(1+vs.length) by omega,xZ,
    show off+(i+1)=(L.take (off+i)).length+1 by omega,wa,xU,show 1+vs.length=vs.length+1 by omega,List.drop_succ_cons,we]
   simp only[List.take_succ_cons,List.take_zero,xL,xP,xo];rw[show off+i+1+vs.length=off+i+(vs.length+1) by omega]
  ·have t1:Dn w (w.setCell ⟨g,off+i,none⟩ v) g:=⟨rfl,rfl,rfl,by simp[World.setCell],λk hk hne=>Below.heap_setCell w ⟨g,off+i,none⟩ v k hne⟩;exact t1.trans r3
  ·rw[r4];simp[World.setCell]
theorem Fw(r:Rel P w0 m h w){g:Gd}{id o:Nat}{E:Ii}{new:List AD}{ds:List Value}{h':AE}(hE:m id=some E)(F:B5 m new ds)(B:By g h id o new=some h'):
  ∃w',(storeCells ⟨E.g,E.base+o,none⟩ ds).run P w=.ok () w'/\Rel P w0 m h' w':=by
 unfold By at B;split at B
 ·rename_i gr cs G;split at B
  ·rename_i hb;obtain⟨_,hb2,M⟩:=hb;injection B with B;subst B;obtain⟨hesz,hobj⟩:=r.obj id E _ hE G;obtain⟨cur,e,fz,c1,c2,c3,c4⟩:=hobj (by omega);have D:=c4 rfl;have hin:∀j,j<cs.length->E.base+j<cur.size:=λj H=>by
    obtain⟨_,c,hc,_⟩:=c3 j _ (List.getElem?_eq_getElem H);exact(Array.getElem?_eq_some_iff.1 hc).1
   have hlen:E.base+o+0+ds.length<=cur.size\/ds=[]:=by
    rcases xx ds.length with R|R
    ·right;exact xi R
    ·left;have:=hin (o+new.length - 1) (by have:=F.1;omega);have:=F.1;omega
   rcases hlen with hlen|hnil
   ·obtain⟨w',r1,r2,r3,r4⟩:=GI (P:=P) E.g (E.base+o) e fz ds 0 cur w c1 hlen (λv hv'=>by
     obtain⟨j,H⟩:=wm.1 hv';have K:j<new.length:=by rw[F.1];exact(List.getElem?_eq_some_iff.1 H).1
     exact(F.2 j _ v (List.getElem?_eq_getElem K) H).one (xg.1 M _ (List.getElem_mem K))) (by rw[c2];exact D)
    refine⟨w',r1,r.write hE G rfl rfl r3 ⟨hesz,λ_=>⟨_,e,fz,r2,?_,λj a C=>?_,λ_=>D⟩⟩⟩
    ·rw[<-c2];simp;omega
    ·unfold Cu at C;rw[List.getElem?_append]at C;split at C
     ·rename_i H;rw[List.getElem?_take]at C;split at C
      ·rename_i hjo;obtain⟨a1,c,hc,J⟩:=c3 j a C;refine⟨a1,c,?_,J⟩;have:(cur.toList.take (E.base+o+0))[E.base+j]?=some c:=by
        rw[List.getElem?_take,xf (by omega)];simpa using hc
       simp only[List.getElem?_toArray];rw[List.getElem?_append_left (List.getElem?_eq_some_iff.1 this).1];exact this
      ·cases C
     ·rename_i H;have htl:(cs.take o).length=o:=by simp at H⊢;omega
      rw[htl]at C H;have I:(cur.toList.take (E.base+o+0)).length=E.base+o:=by simp;omega
      rw[List.getElem?_append]at C;split at C
      ·rename_i hjn;obtain⟨y,Q,hvy⟩:=F.at_ C;refine⟨xg.1 M _ (q9 C),y,?_,hvy⟩;simp only[List.getElem?_toArray];rw[List.getElem?_append_right (by omega),I,show E.base+j - (E.base+o)=j - o by omega,List.getElem?_append_left (List.getElem?_eq_some_iff.1 Q).1];exact Q
      ·rename_i hjn;rw[List.getElem?_drop]at C;obtain⟨a1,c,hc,J⟩:=c3 _ a C;refine⟨a1,c,?_,J⟩;have N:=F.1;simp only[List.getElem?_toArray];rw[List.getElem?_append_right (by omega),I,List.getElem?_append_right (by omega),List.getElem?_drop];rw[show E.base+o+0+ds.length+(E.base+j - (E.base+o) - ds.length)=E.base+(o+new.length+(j - o - new.length)) by omega];simpa using hc
   ·subst hnil;have O:new=[]:=xi (by simpa using F.1);subst O;refine⟨w,by simp[storeCells],?_⟩;refine r.write hE G rfl rfl (Dn.refl w _) ?_;have:Cu cs o []=cs:=by simp[Cu]
    rw[this];exact r.obj id E _ hE G
  ·cases B
 ·cases B
theorem Lj(r:Rel P w0 m h w){g:Gd}{t:TypeId}{id o:Nat}{E:Ii}{x:AD}{x':Value}{h':AE}(hE:m id=some E)(hx:VR m x x')(B:HA P g h t id o x=some h'):
  ∃w',(storeVar t ⟨E.g,E.base+o,none⟩ x').run P w=.ok () w'/\Rel P w0 m h' w':=by
 unfold HA at B;split at B
 ·rename_i new n hnew O;split at B
  ·rename_i N;have F:=hx.cells hnew;obtain⟨w',r1,r2⟩:=Fw r hE F B;refine⟨w',?_,r2⟩;have:x'.cells.size=n:=by rw[<-N,F.1];simp
   simp[storeVar,run_sizeOf w O,this,r1]
  ·cases B
 ·cases B
end
end Go.Abs
