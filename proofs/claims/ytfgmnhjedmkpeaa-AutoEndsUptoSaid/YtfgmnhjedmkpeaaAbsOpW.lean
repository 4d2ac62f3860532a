/-
 A part.
-/
import Derived.Test.YtfgmnhjedmkpeaaAbsOpN
set_option linter.unusedSimpArgs false
namespace Go.Abs
open Go.RowKit
section
variable {P:Program} {w0:World} {m:Aj} {h:AB} {w:World}
def Nh(n:Next)(v:Value):Prop:=n=.value v\/(n=.skip/\v=undef)
theorem EL(g off:Nat)(e:TypeId)(fz:Nat×Nat):∀(vs:List Value) (i:Nat) (cur:Array Value) (w:World),w.heap[g]?=some (.cells cur e fz)->off+i+vs.length<=cur.size->
  (∀v∈vs,v.oneCell'=true)->(∀j,j<cur.size->¬(fz.1<=j/\j<fz.2))->
  ∃w',(storeCells ⟨g,off,none⟩ vs i).run P w=.ok () w'/\w'.heap[g]?=some (.cells ⟨cur.toList.take (off+i)++(vs++cur.toList.drop (off+i+vs.length))⟩ e fz)/\B9 w w' g/\w'.heap.size=w.heap.size
 |[],i,cur,w,H,_,_,_=>by
  refine⟨w,by simp[storeCells],?_,B9.refl w g,rfl⟩;rw[H];congr 2;apply Array.ext';simp
 | v::vs,i,cur,w,H,T,h1,Q=>by
  simp only[xx]at T;have hcell:w.cell? ⟨g,off+i,none⟩=some cur[off+i]:=by
   rw[cell_of_row w g (off+i) cur e fz H];exact Array.getElem?_eq_getElem (by omega)
  have hfr:w.frozen? ⟨g,off+i,none⟩=false:=by
   have:=Q (off+i) (by omega);simp only[World.frozen?,H];simp only[xI,xy];omega
  have B:(store ((⟨g,off,none⟩:Addr).add i) v).run P w=.ok () (w.setCell ⟨g,off+i,none⟩ v):=by
   rw[Addr.add_lit,run_store P w _ v _ (h1 v (by simp)),hcell];simp[hfr]
  have hg1:(w.setCell ⟨g,off+i,none⟩ v).heap[g]?=some (.cells (cur.setIfInBounds (off+i) v) e fz):=by
   simp[World.setCell,Array.getElem?_modify,H]
  obtain⟨w',r1,r2,r3,r4⟩:=EL g off e fz vs (i+1) (cur.setIfInBounds (off+i) v) _ hg1 (by simp;omega) (λu hu=>h1 u (by simp[hu])) (by simpa using Q);refine⟨w',by simp[storeCells,B,r1],?_,?_,?_⟩
  ·rw[r2];congr 2;have hlen:cur.toList.length=cur.size:=by simp
   apply Array.ext';show(cur.setIfInBounds (off+i) v).toList.take (off+(i+1))++(vs++(cur.setIfInBounds (off+i) v).toList.drop (off+(i+1)+vs.length))=cur.toList.take (off+i)++(v::vs++cur.toList.drop (off+i+(v::vs).length));rw[ww];generalize cur.toList=L at hlen;have e1:L.set (off+i) v=L.take (off+i)++v::L.drop (off+i+1):=by
    rw[xF,xj (by omega)]
   have hl2:(L.take (off+i)).length=off+i:=by simp;omega
   rw[e1,show off+(i+1)+vs.length=(L.take (off+i)).length+(1+vs.length) by omega,wt,
    show off+(i+1)=(L.take (off+i)).length+1 by omega,wu,wh,show 1+vs.length=vs.length+1 by omega,List.drop_succ_cons,wx]
   simp only[List.take_succ_cons,List.take_zero,xS,xW,xx];rw[show off+i+1+vs.length=off+i+(vs.length+1) by omega]
  ·have t1:B9 w (w.setCell ⟨g,off+i,none⟩ v) g:=⟨rfl,rfl,rfl,by simp[World.setCell],λk O N=>Below.heap_setCell w ⟨g,off+i,none⟩ v k N⟩;exact t1.trans r3
  ·rw[r4];simp[World.setCell]
theorem Eh(r:Rel P w0 m h w){g:Gd}{id o:Nat}{E:Gg}{new:List AA}{ds:List Value}{h':AB}(hE:m id=some E)(M:BT m new ds)(B:BN g h id o new=some h'):
  ∃w',(storeCells ⟨E.g,E.base+o,none⟩ ds).run P w=.ok () w'/\Rel P w0 m h' w':=by
 unfold BN at B;split at B
 ·rename_i gr cs H;split at B
  ·rename_i V;obtain⟨_,hb2,hb3⟩:=V;injection B with B;subst B;obtain⟨hesz,J⟩:=r.obj id E _ hE H;obtain⟨cur,e,fz,c1,c2,c3,c4⟩:=J (by omega);have Q:=c4 rfl;have hin:∀j,j<cs.length->E.base+j<cur.size:=λj I=>by
    obtain⟨_,c,hc,_⟩:=c3 j _ (List.getElem?_eq_getElem I);exact(Array.getElem?_eq_some_iff.1 hc).1
   have hlen:E.base+o+0+ds.length<=cur.size\/ds=[]:=by
    rcases xE ds.length with h0|h0
    ·right;exact xl h0
    ·left;have:=hin (o+new.length - 1) (by have:=M.1;omega);have:=M.1;omega
   rcases hlen with hlen|hnil
   ·obtain⟨w',r1,r2,r3,r4⟩:=EL (P:=P) E.g (E.base+o) e fz ds 0 cur w c1 hlen (λv hv'=>by
     obtain⟨j,I⟩:=xZ.1 hv';have hj':j<new.length:=by rw[M.1];exact(List.getElem?_eq_some_iff.1 I).1
     exact(M.2 j _ v (List.getElem?_eq_getElem hj') I).one (xk.1 hb3 _ (List.getElem_mem hj'))) (by rw[c2];exact Q)
    refine⟨w',r1,r.write hE H rfl rfl r3 ⟨hesz,λ_=>⟨_,e,fz,r2,?_,λj a C=>?_,λ_=>Q⟩⟩⟩
    ·rw[<-c2];simp;omega
    ·unfold CN at C;rw[List.getElem?_append]at C;split at C
     ·rename_i I;rw[List.getElem?_take]at C;split at C
      ·rename_i hjo;obtain⟨a1,c,hc,W⟩:=c3 j a C;refine⟨a1,c,?_,W⟩;have:(cur.toList.take (E.base+o+0))[E.base+j]?=some c:=by
        rw[List.getElem?_take,xj (by omega)];simpa using hc
       simp only[List.getElem?_toArray];rw[List.getElem?_append_left (List.getElem?_eq_some_iff.1 this).1];exact this
      ·cases C
     ·rename_i I;have htl:(cs.take o).length=o:=by simp at I⊢;omega
      rw[htl]at C I;have U:(cur.toList.take (E.base+o+0)).length=E.base+o:=by simp;omega
      rw[List.getElem?_append]at C;split at C
      ·rename_i hjn;obtain⟨y,hy,hvy⟩:=M.at_ C;refine⟨xk.1 hb3 _ (xd C),y,?_,hvy⟩;simp only[List.getElem?_toArray];rw[List.getElem?_append_right (by omega),U,show E.base+j - (E.base+o)=j - o by omega,List.getElem?_append_left (List.getElem?_eq_some_iff.1 hy).1];exact hy
      ·rename_i hjn;rw[List.getElem?_drop]at C;obtain⟨a1,c,hc,W⟩:=c3 _ a C;refine⟨a1,c,?_,W⟩;have T:=M.1;simp only[List.getElem?_toArray];rw[List.getElem?_append_right (by omega),U,List.getElem?_append_right (by omega),List.getElem?_drop];rw[show E.base+o+0+ds.length+(E.base+j - (E.base+o) - ds.length)=E.base+(o+new.length+(j - o - new.length)) by omega];simpa using hc
   ·subst hnil;have hn:new=[]:=xl (by simpa using M.1);subst hn;refine⟨w,by simp[storeCells],?_⟩;refine r.write hE H rfl rfl (B9.refl w _) ?_;have:CN cs o []=cs:=by simp[CN]
    rw[this];exact r.obj id E _ hE H
  ·cases B
 ·cases B
theorem JZ(r:Rel P w0 m h w){g:Gd}{t:TypeId}{id o:Nat}{E:Gg}{x:AA}{x':Value}{h':AB}(hE:m id=some E)(Z:VR m x x')(B:FL P g h t id o x=some h'):
  ∃w',(storeVar t ⟨E.g,E.base+o,none⟩ x').run P w=.ok () w'/\Rel P w0 m h' w':=by
 unfold FL at B;split at B
 ·rename_i new n hnew hn;split at B
  ·rename_i T;have M:=Z.cells hnew;obtain⟨w',r1,r2⟩:=Eh r hE M B;refine⟨w',?_,r2⟩;have:x'.cells.size=n:=by rw[<-T,M.1];simp
   simp[storeVar,run_sizeOf w hn,this,r1]
  ·cases B
 ·cases B
theorem J9{x y:AA}(B:Ju x y=true):x=y:=by
 unfold Ju at B;split at B
 ·simp only[xf,decide_eq_true_eq,xO]at B;obtain⟨rfl,rfl⟩:=B;rfl
 ·simp only[xO]at B;rw[B]
 ·simp only[xO]at B;rw[B]
 ·cases B
theorem ID:∀(a b:List AA),a.length=b.length->((a.zip b).all λp=>Ju p.1 p.2)=true->a=b
 |[],[],_,_=>rfl
 |[],_::_,T,_=>by simp at T
 |_::_,[],T,_=>by simp at T
 |x::a,y::b,T,B=>by
  simp only[List.zip_cons_cons,wa,xf]at B;rw[J9 B.1,ID a b (by simpa using T) B.2]
theorem Mv{x y:AA}(B:Js x y=true):x=y:=by
 unfold Js at B;split at B
 ·rename_i a b;simp only[xf,xO]at B;rw[ID a b B.1 B.2]
 ·exact J9 B
theorem HA(old new:Value)(w:World):∃v w',(Instr.keyThatStays old new).run P w=.ok v w'/\(v=old\/v=new)/\(w'=w\/w'=w.drew):=by
 unfold Instr.keyThatStays;by_cases V:Instr.sameBits 10000 old new=true
 ·exact⟨new,w,by simp[V],.inr rfl,.inl rfl⟩
 ·have hch:(choose (.extern "map.whichKeyStays" 2)).run P w=.ok ((Question.extern "map.whichKeyStays" 2).cut (w.tape w.drawn (.extern "map.whichKeyStays" 2))) w.drew:=rfl;simp only[V,xo,if_false,Sem.run_bind,hch,Result.andThen_ok,Sem.run_pure];by_cases h0:(Question.extern "map.whichKeyStays" 2).cut (w.tape w.drawn (.extern "map.whichKeyStays" 2))=0
  ·exact⟨new,w.drew,by simp[h0],.inr rfl,.inr rfl⟩
  ·exact⟨old,w.drew,by simp[h0],.inl rfl,.inr rfl⟩
theorem EO{w:World}{g:Nat}{o o':Obj}(Y:w.heap[g]?=some o)(hc:∀a b c,o≠.cells a b c):
  ∃w',(setObj g o').run P w=.ok () w'/\w'.heap[g]?=some o'/\B9 w w' g/\w'.heap.size=w.heap.size:=by
 have hlt:g<w.heap.size:=(Array.getElem?_eq_some_iff.1 Y).1;refine⟨{w with heap:=w.heap.setIfInBounds g o'},?_,?_,⟨rfl,rfl,rfl,by simp,λk O N=>?_⟩,by simp⟩
 ·cases o with
  |cells a b c=>exact absurd rfl (hc a b c)
  |_=>simp[setObj,Sem.run,Y]
 ·simp[hlt]
 ·simp[Ne.symm N]
theorem HT(r:Rel P w0 m h w){g:Gd}{t:TypeId}{x k v:AA}{x' k' v':Value}{h':AB}(Z:VR m x x')(O:VR m k k')(M:VR m v v')(B:FJ P g h t x k v=some h'):
  ∃w',(Instr.mapUpdate t x' k' v').run P w=.ok () w'/\Rel P w0 m h' w':=by
 unfold FJ at B;split at B
 ·rename_i kt et id hu;split at B
  ·rename_i V;obtain⟨K,_⟩:=V;obtain⟨d,hd⟩:=FH K;cases Z with
   | map _ E hE=>
    split at B
    ·rename_i es H;obtain⟨D,J⟩:=r.obj id E _ hE H;obtain⟨en,clock,c1,c2,c3⟩:=J (by omega);have S:∀e (w:World),(Instr.checkKey e 10000 kt k').run P w=.ok () w:=λe w=>Eb 20 10000 kt k k' e (by omega) O K;split at B
     ·rename_i i v0 X;obtain⟨res',f1,f2⟩:=CO (w:=w) O hd (by rw[c2,xw]) (λj a b e C he=>c3 j a b e C (by simpa using he)) X;cases res' with
      |none=>exact f2.elim
      | some p=>
       obtain⟨i',u'⟩:=p;obtain⟨hi,_,hil,_⟩:=f2;subst hi;split at B
       ·rename_i k0 v1 hki;split at B
        ·rename_i hsame;injection B with B;subst B;have hke:=Mv hsame;subst hke;have G:i<en.size:=by omega
         have hold:VR m k0 en[i].key:=(c3 i k0 v1 en[i] hki (Array.getElem?_eq_getElem G)).1;obtain⟨kk,w1,s1,s2,s3⟩:=HA (P:=P) (en[i].key) k' w;have hkk:VR m k0 kk:=by rcases s2 with rfl|rfl;exact hold;exact O
         have hw1:w1.heap=w.heap:=by rcases s3 with e|e<;>rw[e]<;>rfl
         have t1:B9 w w1 E.g:=by rcases s3 with e|e<;>rw[e];exact B9.refl w _;exact(B9.refl w _).drew
         obtain⟨w2,q1,q2,q3,_⟩:=EO (P:=P) (w:=w1) (o:=.map en clock) (o':=.map (en.modify i λe=>{e with key:=kk,val:=v'}) clock) (by rw[hw1];exact c1) (by simp);refine⟨w2,?_,?_⟩
         ·have e1:((en[i]?).map (·.key)).getD k'=en[i].key:=by simp[G]
          simp only[Instr.mapUpdate,Sem.run_bind,AI w hu,Result.andThen_ok,getObj,Sem.run,c1,S,f1,e1,s1];exact q1
         ·refine r.write hE H rfl rfl (t1.trans q3) ⟨D,λ_=>⟨_,clock,q2,by simpa using c2,λj a b e C he=>?_⟩⟩;rw[List.getElem?_set]at C;simp only[Array.getElem?_modify]at he;by_cases I:i=j
          ·subst I;have hil2:i<es.length:=hil;simp only[hil2,if_true,qV,qY]at C;obtain⟨rfl,rfl⟩:=C;simp only[Array.getElem?_eq_getElem G,if_true,qZ,qV]at he;subst he;exact⟨hkk,M⟩
          ·rw[xg I]at C he;exact c3 j a b e C he
        ·cases B
       ·cases B
     ·rename_i X;injection B with B;subst B;obtain⟨res',f1,f2⟩:=CO (w:=w) O hd (by rw[c2,xw]) (λj a b e C he=>c3 j a b e C (by simpa using he)) X;cases res' with
      |some p=>exact f2.elim
      | none=>
       obtain⟨w2,q1,q2,q3,_⟩:=EO (P:=P) (w:=w) (o:=.map en clock) (o':=.map (en.push {key:=k',val:=v',born:=clock}) (clock+1)) c1 (by simp);refine⟨w2,?_,?_⟩
       ·simp only[Instr.mapUpdate,Sem.run_bind,AI w hu,Result.andThen_ok,getObj,Sem.run,c1,S,f1];exact q1
       ·refine r.write hE H rfl rfl q3 ⟨D,λ_=>⟨_,_,q2,by simp[c2],λj a b e C he=>?_⟩⟩;rw[Array.getElem?_push]at he;by_cases I:j=en.size
        ·subst I;rw[xj rfl]at he;injection he with he;subst he;rw[List.getElem?_append_right (by omega),c2,Nat.sub_self]at C;simp at C;obtain⟨rfl,rfl⟩:=C;exact⟨O,M⟩
        ·rw[xg I]at he;have hjl:j<es.length:=by rw[c2];exact(Array.getElem?_eq_some_iff.1 he).1
         rw[List.getElem?_append_left hjl]at C;exact c3 j a b e C he
     ·cases B
    ·cases B
  ·cases B
 ·cases B
theorem I8(r:Rel P w0 m h w){g:Gd}{ts:Array TypeId}{ty:TypeId}{x k:AA}{x' k':Value}{h':AB}(Z:VR m x x')(O:VR m k k')(B:Fj P g h ts x k=some h'):
  ∃w',(Builtin.delete_ ts ty #[x',k']).run P w=.ok (.tuple #[]) w'/\Rel P w0 m h' w':=by
 unfold Fj at B;split at B
 ·cases B
 ·rename_i t ht;split at B
  ·rename_i kt et id hu;split at B
   ·rename_i V;obtain⟨K,_⟩:=V;obtain⟨d,hd⟩:=FH K;cases Z with
    | map _ E hE=>
     split at B
     ·rename_i es H;obtain⟨D,J⟩:=r.obj id E _ hE H;obtain⟨en,clock,c1,c2,c3⟩:=J (by omega);have S:∀e (w:World),(Instr.checkKey e 10000 kt k').run P w=.ok () w:=λe w=>Eb 20 10000 kt k k' e (by omega) O K;split at B
      ·rename_i i v0 X;injection B with B;subst B;obtain⟨res',f1,f2⟩:=CO (w:=w) O hd (by rw[c2,xw]) (λj a b e C he=>c3 j a b e C (by simpa using he)) X;cases res' with
       |none=>exact f2.elim
       | some p=>
        obtain⟨i',u'⟩:=p;obtain⟨hi,_,hil,_⟩:=f2;subst hi;have G:i<en.size:=by omega
        obtain⟨w2,q1,q2,q3,_⟩:=EO (P:=P) (w:=w) (o:=.map en clock) (o':=.map (en.eraseIdxIfInBounds i) clock) c1 (by simp);refine⟨w2,?_,?_⟩
        ·simp[Builtin.delete_,ht,AI w hu,getObj,Sem.run,c1,S,f1,q1]
        ·refine r.write hE H rfl rfl q3 ⟨D,λ_=>⟨_,_,q2,?_,λj a b e C he=>?_⟩⟩
         ·simp[Array.eraseIdxIfInBounds,G,List.length_eraseIdx,c2]
         ·have R:(en.toList.eraseIdx i)[j]?=some e:=by
           rw[<-he];simp[Array.eraseIdxIfInBounds,G,<-Array.getElem?_toList]
          rw[List.getElem?_eraseIdx]at C R;split at C
          ·rename_i I;rw[xj I]at R;exact c3 j a b e C (by simpa using R)
          ·rename_i I;rw[xg I]at R;exact c3 (j+1) a b e C (by simpa using R)
      ·rename_i X;injection B with B;subst B;obtain⟨res',f1,f2⟩:=CO (w:=w) O hd (by rw[c2,xw]) (λj a b e C he=>c3 j a b e C (by simpa using he)) X;cases res' with
       |some p=>exact f2.elim
       | none=>
        obtain⟨w2,q1,q2,q3,_⟩:=EO (P:=P) (w:=w) (o:=.map en clock) (o':=.map en clock) c1 (by simp);refine⟨w2,?_,?_⟩
        ·simp[Builtin.delete_,ht,AI w hu,getObj,Sem.run,c1,S,f1,q1]
        ·have rr:=r.write (o':=.map 2 es) hE H rfl rfl q3 ⟨D,λ_=>⟨en,clock,q2,c2,c3⟩⟩;have same:∀i,(h.set id (.map 2 es)).get i=h.get i:=λi=>by
          rw[h.FN _ _ _ (h.Ar H)];split
          ·rename_i e;rw[e,H]
          ·rfl
         exact⟨rr.below,rr.Kg,λi F o hF Y=>rr.obj i F o hF (by rw[same];exact Y),λi F o hF Y=>rr.own i F o hF (by rw[same];exact Y),λi j F F' o o' N h1 h2 g1 g2=>rr.sep i j F F' o o' N h1 h2 (by rw[same];exact g1) (by rw[same];exact g2)⟩
      ·cases B
     ·cases B
   ·cases B
  ·cases B
end
end Go.Abs
